/-
  PLAIN LAW of ChannelWrong; no program in sight.
-/
import Derived.Test.YthjjipcbpmdfnaaChLM
namespace Go.Proofs.Ythjjipcbpmdfnaa

def goodB (m : List UInt8) : List UInt8 := [0, 0, 0, UInt8.ofNat m.length] ++ m
def badB (κ : Nat) : List UInt8 :=
  if κ = 0 then [0] else if κ = 1 then [0, 1, 0] else if κ = 2 then [0, 0, 0, 1] else if κ = 3 then [0, 64, 0, 0] else if κ = 4 then [255, 255, 0, 0]
  else if κ = 5 then [0, 1, 4, 1] ++ List.replicate 1025 0 else if κ = 6 then [0, 1, 255, 255, 1] else [100, 0, 0, 0]
def pktB (n : Nat) (xs : List UInt8) : List UInt8 := [1, UInt8.ofNat (n / 256), UInt8.ofNat n] ++ xs
theorem pktB_enc (n : Nat) (h : n < 256) (xs : List UInt8) : pktB n xs = bytesOf 1 1 ++ bytesOf n 2 ++ xs := by
  unfold pktB
  rw [bytesOf_one]
  simp [bytesOf, List.range_succ, byteAt]
  rw [show n / 256 = 0 by omega, Nat.mod_eq_of_lt h]
  exact ⟨rfl, rfl⟩
theorem goodB_hdr {m : List UInt8} (h : m.length ≤ 100) : goodB m = hdrB 0 m.length ++ m := by
  unfold goodB hdrB
  have e : m.length / 256 = 0 := by omega
  rw [e]; rfl
/-- The states. -/
def wrS (ow : Bool) : ChS := { chNew 0 0 with e := ⟨0, 0, 0, 3, 0, []⟩, owes := ow }
def wrE : ChS := { chNew 0 0 with e := ⟨0, 0, 0, 4, 1, []⟩, owes := true, next := 1 }

theorem parse_bad2 {κ : Nat} : parseP' 0 (badB κ) = none := by
  unfold badB
  by_cases h0 : κ = 0
  · rw [if_pos h0]; exact parse_short (by decide) (by decide)
  rw [if_neg h0]
  by_cases h1 : κ = 1
  · rw [if_pos h1]; exact parse_short (by decide) (by decide)
  rw [if_neg h1]
  by_cases h2 : κ = 2
  · rw [if_pos h2]; exact parse_bad (by decide) (by unfold badHead; decide)
  rw [if_neg h2]
  by_cases h3 : κ = 3
  · rw [if_pos h3]; exact parse_bad (by decide) (by unfold badHead; decide)
  rw [if_neg h3]
  by_cases h4 : κ = 4
  · rw [if_pos h4]; exact parse_bad (by decide) (by unfold badHead; decide)
  rw [if_neg h4]
  by_cases h5 : κ = 5
  · rw [if_pos h5]
    generalize List.replicate 1025 (0 : UInt8) = Z
    refine parse_bad (by simp) ?_
    unfold badHead
    exact .inl (by simp [beNum])
  rw [if_neg h5]
  by_cases h6 : κ = 6
  · rw [if_pos h6]; exact parse_bad (by decide) (by unfold badHead; decide)
  rw [if_neg h6]
  exact parse_bad (by decide) (by unfold badHead; decide)
theorem parse_gb {m : List UInt8} (hm : m.length ≤ 100) {xs : List UInt8} : parseP' 0 (goodB m ++ xs) = (parseP' 0 xs).map fun l => (0, m) :: l := by
  rw [goodB_hdr hm]
  have e1 : beNum ((hdrB 0 m.length ++ m ++ xs).take 2) = 0 % 65536 := beNum_hdr 0 _ _ _
  have e2 : beNum (((hdrB 0 m.length ++ m ++ xs).drop 2).take 2) = m.length := beNum_hdr2 _ _ _ _ (by omega)
  have e4 : near ((0 : Nat) : Int) ((0 % 65536 : Nat) : Int) = 0 := by decide
  have e3 : (hdrB 0 m.length ++ m ++ xs).length = 4 + m.length + xs.length := by simp [hdrB]; omega
  rw [parse_good (by omega) (by rw [e1, e2, e3, e4]; unfold badHead; omega), e1, e2, e4]
  have e5 : (hdrB 0 m.length ++ m ++ xs).drop (4 + m.length) = xs := by
    rw [show 4 + m.length = (hdrB 0 m.length ++ m).length by simp [hdrB]; omega]
    exact List.drop_left
  have e6 : ((hdrB 0 m.length ++ m ++ xs).drop 4).take m.length = m := by
    rw [show (hdrB 0 m.length ++ m ++ xs).drop 4 = m ++ xs from rfl]
    exact List.take_left
  rw [e5, e6]
  rfl
theorem good_len (m : List UInt8) : (goodB m).length = 4 + m.length := by simp [goodB]; omega
theorem bad_len (κ : Nat) : 1 ≤ (badB κ).length ∧ (badB κ).length ≤ 1029 := by
  unfold badB
  by_cases h0 : κ = 0
  · rw [if_pos h0]; decide
  rw [if_neg h0]
  by_cases h1 : κ = 1
  · rw [if_pos h1]; decide
  rw [if_neg h1]
  by_cases h2 : κ = 2
  · rw [if_pos h2]; decide
  rw [if_neg h2]
  by_cases h3 : κ = 3
  · rw [if_pos h3]; decide
  rw [if_neg h3]
  by_cases h4 : κ = 4
  · rw [if_pos h4]; decide
  rw [if_neg h4]
  by_cases h5 : κ = 5
  · rw [if_pos h5, List.length_append, List.length_replicate]; decide
  rw [if_neg h5]
  by_cases h6 : κ = 6
  · rw [if_pos h6]; decide
  rw [if_neg h6]
  decide
theorem dec0 (e : EndS) : decS { chNew 0 0 with e := e } [] = { chNew 0 0 with e := e } := rfl
theorem dec1s (e : EndS) (ow : Bool) : decS { chNew 0 0 with e := e, owes := ow } [] = { chNew 0 0 with e := e, owes := ow } := rfl

/-- A good message and then a bad one. -/
theorem wr1 {m : List UInt8} (hm : m.length ≤ 100) (κ : Nat) : recvS (chNew 0 0) (pktB 3 (goodB m ++ badB κ)) = (wrS true, [], 200) := by
  have hl := good_len m; have hb := bad_len κ
  have hp := parse_one 3 (goodB m ++ badB κ) (by decide) (by rw [List.length_append]; omega) (by rw [List.length_append]; omega)
  have hr : recvP (chNew 0 0).e (pktB 3 (goodB m ++ badB κ)) = (⟨0, 0, 0, 3, 0, []⟩, goodB m ++ badB κ, [], 0) := by
    rw [pktB_enc 3 (by decide)]
    unfold recvP
    rw [hp]
    rfl
  unfold recvS
  simp only [hr]
  rw [if_neg (by decide), if_neg (by simp [goodB]), if_neg (by decide)]
  have hps : parseC 0 (goodB m ++ badB κ).length (goodB m ++ badB κ) = none := by
    have := parse_gb hm (xs := badB κ)
    rw [parse_bad2] at this
    exact this
  show (match parseC 0 (goodB m ++ badB κ).length (goodB m ++ badB κ) with | none => _ | some l => _) = _
  rw [hps]
  rfl
/-- It does not come again. -/
theorem wr2 {m : List UInt8} (hm : m.length ≤ 100) : recvS (wrS false) (pktB 3 (goodB m)) = (wrS true, [], 192) := by
  have hl := good_len m
  have hp := parse_one 3 (goodB m) (by decide) (by omega) (by omega)
  have hr : recvP (wrS false).e (pktB 3 (goodB m)) = (⟨0, 0, 0, 3, 0, []⟩, [], [], 192) := by
    rw [pktB_enc 3 (by decide)]
    unfold recvP
    rw [hp]
    rfl
  unfold recvS
  simp only [hr]
  rfl
/-- Bytes that are no packet. -/
theorem wr3 {x : UInt8} (hx : x.toNat % 4 = 0) (xs : List UInt8) : recvS (wrS false) (x :: xs) = (wrS false, [], 190) := by
  have hp : parseP (x :: xs) = none := by
    have h : x.toNat < 1 ∨ 3 < x.toNat := by omega
    unfold parseP
    simp only
    rw [if_pos (by
      rcases h with h | h
      · exact .inr (.inl h)
      · exact .inr (.inr (.inl h)))]
  unfold recvS
  have hr : recvP (wrS false).e (x :: xs) = ((wrS false).e, [], [], 190) := by unfold recvP; rw [hp]
  simp only [hr]
  rfl
theorem wr4 {m : List UInt8} (hm : m.length ≤ 100) : recvS (wrS false) (pktB 4 (goodB m)) = (wrE, [m], 0) := by
  have hl := good_len m
  have hp := parse_one 4 (goodB m) (by decide) (by omega) (by omega)
  have hr : recvP (wrS false).e (pktB 4 (goodB m)) = (⟨0, 0, 0, 4, 1, []⟩, goodB m, [], 0) := by
    rw [pktB_enc 4 (by decide)]
    unfold recvP
    rw [hp]
    rfl
  unfold recvS
  simp only [hr]
  rw [if_neg (by decide), if_neg (by simp [goodB]), if_neg (by decide)]
  have hps : parseC 0 (goodB m).length (goodB m) = some [(0, m)] := by
    have := parse_gb hm (xs := [])
    rw [List.append_nil, show parseP' 0 [] = some [] from rfl] at this
    exact this
  show (match parseC 0 (goodB m).length (goodB m) with | none => _ | some l => _) = _
  rw [hps]
  simp only
  have hd : dlv (keepS 0 (wrS false).early [(0, m)]) 64 0 = [m] := by
    rw [dlv, show keepS 0 (wrS false).early [(0, m)] 0 = some m from rfl]
    simp only
    rw [dlv, show keepS 0 (wrS false).early [(0, m)] 1 = none from rfl]
  rw [show (wrS false).next = 0 from rfl, hd]
  refine Prod.ext ?_ rfl
  have he : dropN (keepS 0 (wrS false).early [(0, m)]) 0 1 = fun _ => none := by
    funext j
    unfold dropN
    split
    · rfl
    · rename_i hj
      show updN (fun _ => none) 0 (some m) j = none
      unfold updN
      rw [if_neg (by omega)]
  show ({ wrS false with e := ⟨0, 0, 0, 4, 1, []⟩, owes := true, early := dropN (keepS 0 (wrS false).early [(0, m)]) 0 1, next := 1 } : ChS) = wrE
  rw [he]
  rfl
def wrP : List UInt8 := [2, 0, 3, 0, 0, 0, 0]
theorem wrF1 : flushS (wrS true) 0 = (wrS false, wrP, 0) := by
  rw [flushS_none (s1 := wrS true) (show ¬ (0 : Int) < 0 by decide) rfl (show (bodyS (wrS true)).2.length = 0 from rfl)]
  rfl
theorem wrF2 : flushS (wrS false) 0 = (wrS false, [], 0) := by
  rw [flushS_none (s1 := wrS false) (show ¬ (0 : Int) < 0 by decide) rfl (show (bodyS (wrS false)).2.length = 0 from rfl)]
  rfl
theorem wrS_fit (ow : Bool) : (wrS ow).Fit := by
  have h := (recvS_keep (chNew_fit (own := 0) (other := 0) (by decide) (by decide) (by decide) (by decide)) (pktB 3 (goodB [] ++ badB 0)) (by decide) (by decide)).1
  rw [wr1 (by decide) 0] at h
  have h2 := (flushS_keep h (t := 0) (by decide) (by decide)).1
  rw [wrF1] at h2
  cases ow
  · exact h2
  · exact h
end Go.Proofs.Ythjjipcbpmdfnaa
