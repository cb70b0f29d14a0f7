/-
  WALK of ChannelTwice.
-/
import Derived.Test.YthjjipcbpmdfnaaChTA
import Derived.Test.YthjjipcbpmdfnaaChWM
namespace Go.Proofs.Ythjjipcbpmdfnaa
open Go.RowKit

/-- Slices of bytes as they came in. -/
def ArgBs (w : World) (o : Own) (τ : Nat) (A : Option Addr) (n c : Nat) (ls : List (List UInt8)) : Prop :=
  ∃ vs, Sl w o τ 1 A n c vs ∧ ls.length = n ∧ ∀ (i : Nat) p, ls[i]? = some p → ∃ A' c', vs[i]? = some (.slice A' p.length c') ∧ Sl w o τ 1 A' p.length c' (byts p)
theorem ArgBs.step {w w' : World} {o o' : Own} {τ : Nat} {A : Option Addr} {n c : Nat} {ls : List (List UInt8)} {ts : List Nat} (h : ArgBs w o τ A n c ls) (hs : Step ts w o w' o') (ht : τ ∉ ts) : ArgBs w' o' τ A n c ls := by
  obtain ⟨vs, h1, h2, h3⟩ := h
  refine ⟨vs, h1.step hs ht, h2, fun i p hp => ?_⟩
  obtain ⟨A', c', q1, q2⟩ := h3 i p hp
  exact ⟨A', c', q1, q2.step hs ht⟩

/-- The messages of ChannelTwice. -/
def twM (ls : List (List UInt8)) : List (List UInt8) := (ls.take 20).map fun l => l.take 100
theorem twM_len (ls : List (List UInt8)) (k : Nat) : (mg (twM ls) k).length ≤ 1024 := by
  unfold mg twM
  rw [List.getD_eq_getElem?_getD, List.getElem?_map]
  cases (ls.take 20)[k]? with
  | none => exact Nat.zero_le _
  | some x => simp [List.length_take]; omega
theorem twM_at {ls : List (List UInt8)} {k : Nat} {p : List UInt8} (hk : k < 20) (h : ls[k]? = some p) : mg (twM ls) k = p.take 100 := by
  unfold mg twM
  rw [List.getD_eq_getElem?_getD, List.getElem?_map, List.getElem?_take, if_pos hk, h]
  rfl

theorem sA_zero (M : List (List UInt8)) : sA M 0 0 = cnew 7 9 := by
  unfold sA cnew; rw [tA_zero]; rfl
theorem sB_zero (M : List (List UInt8)) (n : Nat) : sB M n 0 false = cnew 9 7 := by
  rcases Nat.eq_zero_or_pos n with h0 | h0
  · subst h0
    unfold sB cnew tB chNew eB
    simp only [if_true, AEnd.conc, List.range_zero, List.map_nil]
    congr 2
  · unfold sB cnew; rw [tB_new M h0, if_neg (by omega)]
/-- A side's Channel flushes, outside of 'flushes'. -/
theorem tw_fl {w : World} {o : Own} {l s s' : Nat} {T U : ChT} {a b : CSide} {t : Int} {v u : CV} {cells : Array Value} (h : LinkC w o l s s' T U a b t v u cells) (hP : Pair T U) (hs : s < 2) (hs' : s' = 1 - s) (hf : a.c.Fit) (hn : a.c.e.next ≤ 1999999999998) (ρ : Nat) (hρ : 41 ≤ ρ) {c' : ChS} {P : List UInt8} (he : flushS a.c 0 = (c', P, 0)) :
    Calls Try.prog 20 #[.pointer (some ⟨v.b, 0, none⟩), .int .i64 0] w fun e w' => ∃ (A : Option Addr) (c : Nat) (o' : Own), e = .returned (.tuple #[.slice A P.length c, .int .i64 0]) ∧ Step [T.τ, T.τe] w o w' o' ∧ LinkC w' o' l s s' T U { a with c := c' } b t v u cells ∧ Sl w' o' ρ 1 A P.length c (byts P) := by
  have l1 := hP.ok.2.t; have l2 := hP.ok.2.e
  refine (Flush_any h.ax.c hf hP.ok.1 ρ (by omega) (by omega) 0 (by decide) hn).mono ?_
  intro e w' hfl
  obtain ⟨o', A, c, he', hst, hA, hR⟩ := hfl.out
  rw [he] at he' hA hR
  exact ⟨A, c, o', he', hst, h.onC hP hs hs' hst (by simp) hA, hR.sl⟩
/-- A side's Channel receives, outside of 'takes'. -/
theorem tw_rc {w : World} {o : Own} {l s s' : Nat} {T U : ChT} {a b : CSide} {t : Int} {v u : CV} {cells : Array Value} (h : LinkC w o l s s' T U a b t v u cells) (hP : Pair T U) (hs : s < 2) (hs' : s' = 1 - s) (hf : a.c.Fit) (hn : a.c.e.newest ≤ 1999999900000) {τ : Nat} (hτ : 30 ≤ τ) {A : Option Addr} {n c : Nat} {xs : List UInt8} (hS : Sl w o τ 1 A n c (byts xs)) (hnb : n ≤ 140737488355328) {c' : ChS} {code : Int} (he : recvS a.c xs = (c', [], code)) :
    Calls Try.prog 24 #[.pointer (some ⟨v.b, 0, none⟩), .slice A n c] w fun e w' => ∃ (A' : Option Addr) (c2 : Nat) (o' : Own), e = .returned (.tuple #[.slice A' 0 c2, .int .i64 code]) ∧ Step [T.τ, T.τe, 40] w o w' o' ∧ LinkC w' o' l s s' T U { a with c := c' } b t v u cells := by
  have l1 := hP.ok.2.t; have l2 := hP.ok.2.e; have l3 := hP.ok.2.s
  refine (Receive_ch h.ax.c hf hP.ok.1 40 (by omega) (by omega) (by omega) (fun n => by have := hP.ok.2.m n; omega) hP.eps τ (by omega) A n c xs hS hnb hn).mono ?_
  intro e w' hrc
  obtain ⟨o', A', m, c2, vs, he', hst, hA, hM⟩ := hrc.out
  rw [he] at he' hA hM
  obtain rfl : 0 = m := hM.len
  exact ⟨A', c2, o', he', hst, h.onC hP hs hs' hst (by simp) hA⟩
/-- The flush of phase one. -/
theorem tw_flush {w : World} {o : Own} {l : Nat} {M : List (List UInt8)} {k : Nat} {b : CSide} {v u : CV} {cells : Array Value} (h : LinkC w o l 0 1 T1 T2 (sAm M k) b 0 v u cells) (hk : k < 20) (hM : ∀ k, (mg M k).length ≤ 1024) :
    Calls Try.prog 33 #[.pointer (some ⟨l, 0, none⟩), .int .i64 0] w fun e w' => ∃ (A : Option Addr) (bl c : Nat) (o' : Own) (v' : CV) (cells' : Array Value), e = .returned (.tuple #[.slice A bl c, .bool true]) ∧ 0 < bl ∧ Step linkTags w o w' o' ∧ LinkC w' o' l 0 1 T1 T2 (sA M (k + 1) (k + 1)) b 0 v' u cells' := by
  have hl := bytA_len M (hM k)
  have e : flushS (sAm M k).c 0 = (tA M (k + 1) (k + 1), bytA M k, 0) := flush_tS (by omega) (hM k)
  refine (flushes_any h (.inl ⟨rfl, rfl⟩) (by decide) rfl (tS_fit hM (by omega)) (by show ((List.range k).map (bytA M)).length ≤ 100000; simp; omega) (by decide) (by show (7 : Int) + (k : Int) ≤ _; omega) (by rw [e]) (by rw [e]; exact hl.2)).mono ?_
  rintro e' w' ⟨A, c, o', v', cells', rfl, hst, hL, -⟩
  rw [sAm_fl hk (hM k)] at hL
  exact ⟨A, _, c, o', v', cells', rfl, by rw [e]; exact hl.1, hst.mono (by simp [T1]), hL⟩

set_option maxRecDepth 100000 in
set_option maxHeartbeats 4000000 in
theorem twice_walk (w : World) (A : Option Addr) (n0 c : Nat) (ls : List (List UInt8)) (hA : ArgBs w (fun _ => 0) 0 A n0 c ls) :
    Calls Try.prog 8 #[.slice A n0 c] w fun e w' => e = .returned (.bool true) ∧ Below w.heap.size w w' := by
  have hln := linked_any w (fun _ => 0) 7 9 7 9 (by decide) (by decide) (by decide) (by decide) (by decide) (by decide)
  have hlen : ls.length = n0 := by obtain ⟨_, _, q, _⟩ := hA; exact q
  have hcap : n0 ≤ c := by obtain ⟨_, q, _⟩ := hA; exact q.2.1
  have hcm : n0 ≤ 9223372036854775807 := by obtain ⟨_, q, _⟩ := hA; have h1 := q.2.1; have h2 := q.2.2.1; unfold maxLen at h2; omega
  obtain ⟨n, hn⟩ : ∃ n, n = min n0 20 := ⟨_, rfl⟩
  have hn20 : n ≤ 20 := by omega
  have hnn : n ≤ n0 := by omega
  have hmn : ∀ (V : World) (ts : Array TypeId) (tt : TypeId), (Builtin.min_ ts tt #[.int .i64 n0, .int .i64 20]).run Try.prog V = .ok (.int .i64 n) V := fun V ts tt => run_minI V ts tt n0 20 n (by omega)
  have hsl := run_headC Try.prog 29 41 (.slice none 0 0) 1 24 Try.underlying29 (by kernel_rfl) A n0 c n (by omega)
  obtain ⟨M, hM⟩ : ∃ M, M = twM ls := ⟨_, rfl⟩
  have hML : ∀ k, (mg M k).length ≤ 1024 := fun k => by rw [hM]; exact twM_len ls k
  have hMA : ∀ k p, k < 20 → ls[k]? = some p → mg M k = p.take 100 := fun k p h1 h2 => by rw [hM]; exact twM_at h1 h2
  have HLN := Lib.hid hln; have HA := Lib.hid hA; have HLE := Lib.hid hlen; have HML := Lib.hid hML; have HMA := Lib.hid hMA
  clear hln hA hlen hn hM hML hMA
  go_enter Try.func8, Try.ntmps8
  go_wp2_with fail
  refine HLN.out.mono ?_
  rintro e w1 ⟨l, o1, rfl, hst1, hL1⟩
  have HST1 := Lib.hid hst1; have HL1 := Lib.hid hL1
  clear hst1 hL1 HLN
  go_wp2_with fail
  have hJ0 : ∃ or v u cells, Step linkTags w (fun _ => 0) w1 or ∧ LinkC w1 or l 0 1 T1 T2 (sA M 0 0) (cnew 9 7) 0 v u cells := by
    obtain ⟨v, u, cells, h⟩ := HL1.out
    exact ⟨o1, v, u, cells, HST1.out.nil, by rw [sA_zero]; exact h⟩
  have HJ0 := Lib.hid hJ0
  clear hJ0 HST1 HL1
  go_loopw [34, 2] (fun i r wr => ∃ (k : Nat), k ≤ n ∧ i = .int .i64 k ∧ r = .bool false ∧ Hid (∃ or v u cells, Step linkTags w (fun _ => 0) wr or ∧ LinkC wr or l 0 1 T1 T2 (sA M k k) (cnew 9 7) 0 v u cells)) (fun i _ _ => n - (intOf i).toNat)
  case atStart => exact ⟨0, Nat.zero_le _, rfl, rfl, HJ0⟩
  case round => as_aux_lemma =>
    clear HJ0
    obtain ⟨k, hk, rfl, rfl, HJ⟩ := hrel
    by_cases hlt : k < n
    · have hd : decide ((k : Int) < (n : Int)) = true := decide_eq_true (by omega)
      have hd1 : (k : Int) < (n : Int) := by omega
      obtain ⟨or, v, u, cells, hst, hL⟩ := HJ.out
      obtain ⟨p, hp⟩ : ∃ p, ls[k]? = some p := ⟨_, List.getElem?_eq_getElem (by rw [HLE.out]; omega)⟩
      have hpm := HMA.out k p (by omega) hp
      obtain ⟨vs, hS, -, hel⟩ := HA.out.step hst (by simp)
      obtain ⟨A', c', hv, hsp⟩ := hel k p hp
      obtain ⟨ga, off, hAe, -, hga, hce⟩ := hS.2.2.2 (by omega)
      subst hAe
      have c0 := hce k _ hv
      obtain ⟨pl, hpl⟩ : ∃ k, k = p.length := ⟨_, rfl⟩
      have hplc : pl ≤ c' := by rw [hpl]; exact hsp.2.1
      have hplm : pl ≤ 9223372036854775807 := by have h1 := hsp.2.1; have h2 := hsp.2.2.1; unfold maxLen at h2; omega
      obtain ⟨m, hm⟩ : ∃ m, m = min pl 100 := ⟨_, rfl⟩
      have hmp : m ≤ pl := by omega
      have hmn2 : ∀ (V : World) (ts : Array TypeId) (tt : TypeId), (Builtin.min_ ts tt #[.int .i64 pl, .int .i64 100]).run Try.prog V = .ok (.int .i64 m) V := fun V ts tt => run_minI V ts tt pl 100 m (by omega)
      have hsl2 := run_headC Try.prog 41 5 (.int .u8 0) 1 1 Try.underlying41 (by kernel_rfl) A' pl c' m (by omega)
      have hb := (hsp.headB m (by omega))
      have htk : p.take m = mg M k := by
        rw [hpm]
        rcases Nat.le_total pl 100 with q | q
        · rw [show m = pl by omega, hpl, List.take_length, List.take_of_length_le (by omega)]
        · rw [show m = 100 by omega]
      rw [htk] at hb
      have stD := (Step.refl [] wr or).drew
      have hL2 := hL.high T1_low T2_low stD (by simp) (by decide) (by decide)
      have hsd := sends_any hL2 (.inl ⟨rfl, rfl⟩) (by decide) rfl (tA_fit HML.out (by omega)) (by show ((List.range k).map (mg M)).length ≤ 100000; simp; omega) 0 A' m c' (mg M k) (hb.step stD (by simp)) (.inl rfl)
      rw [sA_sd (by omega) (HML.out k)] at hsd
      rw [← hpl] at c0
      have C0 : wr.drew.cell? ⟨ga, off + k, none⟩ = some (.slice A' pl c') := c0
      have hcell : ∀ w' o', Step [1, 2, 30, 31, 33, 35, 39] wr.drew or w' o' → w'.cell? ⟨ga, off + k, none⟩ = some (.slice A' pl c') := fun w' o' hs' => (hS.step (stD.nil.trans hs') (by simp)).2.2.2 (by omega) |> fun ⟨g', off', e', _, _, hc'⟩ => by
        simp only [Option.some.injEq, Addr.mk.injEq, and_true] at e'
        obtain ⟨rfl, rfl⟩ := e'
        have := hc' k _ hv
        rw [← hpl] at this
        exact this
      have HSD := Lib.hid hsd; have HCE := Lib.hid hcell; have HST := Lib.hid (hst.trans stD.nil)
      clear hsd hcell hL2 hL hst hb hsp hS hel hce hv hp hpm htk hpl hm stD HJ
      go_wp2_with fail
      go_region_held3 (fun w' => w'.cell? ⟨ga, off + k, none⟩ = some (.slice A' pl c')) (first | with_reducible exact C0 | with_reducible exact C1)
        (first | (go_at_call 37; refine HSD.out.mono ?_; rintro e w2 ⟨rfl, o2, v2, cells2, hst2, hL2⟩; have C1 := HCE.out w2 o2 (hst2.mono (by simp [T1])); have HST2 := Lib.hid (HST.out.trans (hst2.mono (by simp [T1]))); have HL2 := Lib.hid hL2; clear hst2 hL2))
      have hfl := tw_flush HL2.out (by omega) HML.out
      have HFL := Lib.hid hfl
      clear hfl C0 C1
      go_wp2_with fail
      refine HFL.out.mono ?_
      rintro e w3 ⟨A3, bl, c3, o3, v3, cells3, rfl, hbl, hst3, hL3⟩
      have hdb : ((bl : Int) == 0) = false := by simp; omega
      have HJ3 : Hid (∃ or v u cells, Step linkTags w (fun _ => 0) w3 or ∧ LinkC w3 or l 0 1 T1 T2 (sA M (k + 1) (k + 1)) (cnew 9 7) 0 v u cells) := Lib.hid ⟨o3, v3, u, cells3, HST2.out.trans hst3, hL3⟩
      clear hst3 hL3 HFL HST HST2 HL2 HSD HCE
      go_wp2_with fail
      go_roundw
      case rel => exact ⟨k + 1, by omega, by go_num, rfl, HJ3⟩
      case measure => simp [intOf]; omega
    · obtain rfl : k = n := by omega
      obtain ⟨or, v, u, cells, hst, hL⟩ := HJ.out
      have hJ1 : ∃ or v u cells, Step linkTags w (fun _ => 0) wr or ∧ LinkC wr or l 0 1 T1 T2 (sA M k (k - 0)) (sB M k 0 false) 0 v u cells := ⟨or, v, u, cells, hst, by rw [sB_zero]; exact hL⟩
      have hlt0 := hL.blk.lt
      have HJ1 := Lib.hid hJ1
      clear hJ1 hst hL HJ hlt
      go_wp2_with fail
      go_loopw [70, 2] (fun i r wr => ∃ (j : Nat), j ≤ k ∧ i = .int .i64 j ∧ r = .bool false ∧ Hid (∃ or v u cells, Step linkTags w (fun _ => 0) wr or ∧ LinkC wr or l 0 1 T1 T2 (sA M k (k - j)) (sB M k j false) 0 v u cells)) (fun i _ _ => k - (intOf i).toNat)
      case atStart => exact ⟨0, Nat.zero_le _, rfl, rfl, HJ1⟩
      case round => as_aux_lemma =>
        clear HJ1
        obtain ⟨i, hi, rfl, rfl, HJ⟩ := hrel
        obtain ⟨or, v, u, cells, hst, hL⟩ := HJ.out
        by_cases hlt : i < k
        · have hd : decide ((i : Int) < (k : Int)) = true := decide_eq_true (by omega)
          obtain ⟨j, hj⟩ : ∃ j, j = k - 1 - i := ⟨_, rfl⟩
          have hjI : (k : Int) - 1 - (i : Int) = (j : Int) := by omega
          obtain ⟨vs, hvr, hvl, hvs⟩ := hL.ax.made
          have hmade : (sA M k (k - i)).made[j]? = some (bytA M j) := by
            show ((List.range k).map (bytA M))[j]? = _
            rw [List.getElem?_map, List.getElem?_range (by omega)]; rfl
          obtain ⟨A', c', hv, hsp⟩ := hvs j _ hmade
          have hmn : v.mn = k := by
            have := hvr.len
            have h2 : (sA M k (k - i)).made.length = k := by show ((List.range k).map (bytA M)).length = k; simp
            omega
          obtain ⟨ga, hmA, -, hca, -⟩ := hvr.at_ (k := j) (by omega)
          rw [hv] at hca
          have c3 : wr.cell? ⟨l, 3, none⟩ = some (.slice (some ⟨ga, 0, none⟩) k v.mc) := by rw [← hmA, ← hmn]; exact (hL.blk.cell 3).trans hL.x.c3
          have hbl := bytA_len M (HML.out j)
          obtain ⟨pl, hpl⟩ : ∃ q, q = (bytA M j).length := ⟨_, rfl⟩
          rw [← hpl] at hca hsp hbl
          have hr1 : recvS (sB M k i false).c (bytA M j) = (tB M k (i + 1) true, dB M k i, 0) := by rw [hj]; exact recv1 hlt hn20 HML.out
          have htkE : (sB M k i false).tk (bytA M j) = sB M k (i + 1) true := by rw [hj]; exact sB_tk hlt hn20 HML.out
          have hfb := (tB_fit HML.out hn20 (i := i) (by omega) (by omega)).1
          have hdl : (dB M k i).length ≤ k := by unfold dB; split <;> simp
          have htk := takes_any hL.swap (.inr ⟨rfl, rfl⟩) (by decide) rfl hfb (by show ((List.range k).map (mg M)).length ≤ 100000; simp; omega) (by
              have := eB_heard k i (by omega) hn20
              show (7 : Int) + ((eB k i).heard : Int) - 1 ≤ _; omega) 37 A' pl c' (bytA M j) hsp (.inl rfl) (by omega) (by rw [hr1]; exact .inl rfl)
            (by
              rw [hr1]
              have hg : (sB M k i false).got = [] := by show (if i = k then _ else []) = _; rw [if_neg (by omega)]
              rw [hg]
              show dB M k i = ((List.range k).map (mg M)).take (dB M k i).length
              unfold dB; split
              · rw [List.take_of_length_le (by simp)]
              · simp)
            (by
              rw [hr1]
              have hg : (sB M k i false).got = [] := by show (if i = k then _ else []) = _; rw [if_neg (by omega)]
              rw [hg]
              show (if i + 1 = k then k else 0) = 0 + (dB M k i).length
              unfold dB; split <;> simp)
            (.inl (by show 0 < waitS (tA M k (k - i)); rw [waitA M (by omega)]; omega))
          rw [htkE] at htk
          have HTK := Lib.hid htk; have HST := Lib.hid hst; have HHJ := Lib.hid hj; have HBL := Lib.hid hpl
          have hgalt : ga < wr.heap.size := hvr.lt hmA
          have hjk : (j : Int) < (k : Int) := by omega
          have hl0 := hL.blk.lt
          have hsp0 := Lib.hid hsp
          clear htk hst hj hL hvr hvl hvs hmade hv hsp hmn hmA hr1 htkE hfb hdl HJ hpl
          go_wp2_with fail
          refine HTK.out.mono ?_
          rintro e w2 ⟨rfl, o2, u2, cells2, hst2, hL2⟩
          have c4 := (hL2.blk.cell 4).trans hL2.x.c0
          have hfb2 := tB_fit HML.out hn20 (i := i + 1) (by omega) (by omega)
          have hnx : (sB M k (i + 1) false).c.e.next ≤ 1999999999998 := by
            have := eB_heard k (i + 1) (by omega) hn20
            show (9 : Int) + ((eB k (i + 1)).n : Int) ≤ _
            rw [this.2.1]; decide
          have hnw : (sB M k (i + 1) false).c.e.newest ≤ 1999999900000 := by
            have := eB_heard k (i + 1) (by omega) hn20
            show (7 : Int) + ((eB k (i + 1)).heard : Int) - 1 ≤ _; omega
          have hfl1 := tw_fl hL2 (.inr ⟨rfl, rfl⟩) (by decide) rfl (hfb2.2 (Nat.succ_pos i)) hnx 41 (by decide) (flush1 (M := M) hlt)
          have hrc2 : recvS (sB M k (i + 1) false).c (bytA M j) = (tB M k (i + 1) true, [], 192) := by rw [HHJ.out]; exact recv2 hlt hn20 HML.out
          have hrc6 : recvS (sA M k (k - i)).c (ackB k i) = (tA M k (k - (i + 1)), [], 0) := recv6 hlt hn20
          have hgn : u2.gn = if i + 1 = k then k else 0 := by
            have := hL2.ax.got.len
            rw [strs_len, Nat.mul_one] at this
            have h2 : (sB M k (i + 1) true).got.length = if i + 1 = k then k else 0 := by show (if i + 1 = k then (List.range k).map (mg M) else []).length = _; split <;> simp
            omega
          have c6 := (hL2.blk.cell 6).trans hL2.x.c2
          have FL1 := Lib.hid hfl1; have FB := Lib.hid hfb2; have NX := Lib.hid hnx; have NX2 : Hid ((sB M k (i + 1) true).c.e.next ≤ 1999999999998) := Lib.hid hnx; have NW := Lib.hid hnw; have RC2 := Lib.hid hrc2; have RC6 := Lib.hid hrc6
          have FA := Lib.hid (tA2_fit HML.out hn20 (i := i) (by omega)); have NWA : Hid ((sA M k (k - i)).c.e.newest ≤ 1999999900000) := Lib.hid (show (9 : Int) + ((0 : Nat) : Int) - 1 ≤ 1999999900000 by decide)
          have HSP2 := Lib.hid (hsp0.out.step hst2 (by simp [T2]))
          have ST2 := Lib.hid (HST.out.trans (hst2.mono (ts' := linkTags) (by simp [T2])))
          clear hfl1 hfb2 hnx hnw hrc2 hrc6 hst2 hL2 hsp0 HTK c3 hca
          rcases Nat.lt_or_ge (i + 1) k with hc | hc
          · have hd2 : decide ((i : Int) < (k : Int) - 1) = true := decide_eq_true (by omega)
            have hg0 : u2.gn = 0 := by rw [hgn, if_neg (by omega)]
            rw [hg0] at c6
            clear hgn hg0
            go_wp2_with fail
            refine (FL1.out).mono ?_
            rintro e w3 ⟨A3, q3, o3, rfl, hst3, hL3, hS3⟩
            have c4 := (hL3.blk.cell 4).trans hL3.x.c0
            have hfl2 := tw_fl hL3 (.inr ⟨rfl, rfl⟩) (by decide) rfl FB.out.1 NX.out 42 (by decide) (flush2 (M := M) (n := k) (i := i + 1))
            have ST3 := Lib.hid (hst3.mono (ts' := linkTags) (by simp [T2])); have HL3 := Lib.hid hL3; have HS3 := Lib.hid hS3; have FL2 := Lib.hid hfl2
            clear hst3 hL3 hS3 hfl2 FL1
            rw [show (ackB k i).length = 7 from enc_len2 _ _ _ _] at HS3 ⊢
            go_wp2_with fail
            refine (FL2.out).mono ?_
            rintro e w4 ⟨A4, q4, o4, rfl, hst4, hL4, -⟩
            have c4 := (hL4.blk.cell 4).trans hL4.x.c0
            have ST4 := Lib.hid ((ST2.out.trans ST3.out).trans (hst4.mono (ts' := linkTags) (by simp [T2])))
            have HS4 := Lib.hid (HS3.out.step hst4 (by simp [T2]))
            have hrc := tw_rc hL4 (.inr ⟨rfl, rfl⟩) (by decide) rfl FB.out.1 NW.out (by decide) ((HSP2.out.step ST3.out (by simp)).step hst4 (by simp [T2])) (by omega) RC2.out
            have HL4 := Lib.hid hL4; have RC := Lib.hid hrc
            clear hst4 hL4 hrc FL2 HL3 ST3 HS3
            go_wp2_with fail
            refine (RC.out).mono ?_
            rintro e w5 ⟨A5, q5, o5, rfl, hst5, hL5⟩
            have c4 := (hL5.blk.cell 4).trans hL5.x.c0
            have ST5 := Lib.hid (ST4.out.trans (hst5.mono (ts' := linkTags) (by simp [T2])))
            have HS5 := Lib.hid (HS4.out.step hst5 (by simp [T2]))
            have hfl3 := tw_fl hL5 (.inr ⟨rfl, rfl⟩) (by decide) rfl (FB.out.2 (Nat.succ_pos i)) NX2.out 43 (by decide) (flush1 (M := M) hlt)
            have FL3 := Lib.hid hfl3
            clear hst5 hL5 hfl3 RC HL4 ST4 HS4
            go_wp2_with fail
            refine (FL3.out).mono ?_
            rintro e w6 ⟨A6, q6, o6, rfl, hst6, hL6, hS6⟩
            rw [show (ackB k i).length = 7 from enc_len2 _ _ _ _] at hS6 ⊢
            have ST6 := Lib.hid (ST5.out.trans (hst6.mono (ts' := linkTags) (by simp [T2])))
            have HS6 := Lib.hid (HS5.out.step hst6 (by simp [T2]))
            have cv1 : (convert 41 9 (.slice A3 7 q3)).run Try.prog w6 = .ok (.string ⟨(ackB k i).toArray⟩) w6 := conv_bytes w6 o6 _ A3 7 q3 (ackB k i) HS6.out
            have cv2 : (convert 41 9 (.slice A6 7 q6)).run Try.prog w6 = .ok (.string ⟨(ackB k i).toArray⟩) w6 := conv_bytes w6 o6 _ A6 7 q6 (ackB k i) hS6
            have c0 := (hL6.blk.cell 0).trans hL6.y.c0
            have hr6 := tw_rc hL6.swap (.inl ⟨rfl, rfl⟩) (by decide) rfl FA.out NWA.out (by decide) hS6 (by decide) RC6.out
            have R6 := Lib.hid hr6; have HL6 := Lib.hid hL6
            clear hst6 hL6 hS6 hr6 FL3 ST5 HS5 HS6
            go_wp2_with fail
            refine (R6.out).mono ?_
            rintro e w7 ⟨A7, q7, o7, rfl, hst7, hL7⟩
            have ST7 := Lib.hid (ST6.out.trans (hst7.mono (ts' := linkTags) (by simp [T1])))
            have c0 := (hL7.blk.cell 0).trans hL7.x.c0
            have hw7 := Waiting_ok hL7.ax.c
            rw [show waitS ({ sA M k (k - i) with c := tA M k (k - (i + 1)) } : CSide).c = j by show waitS (tA M k (k - (i + 1))) = j; rw [waitA M (by omega), HHJ.out]; omega] at hw7
            have W7 := Lib.hid hw7
            have HJ7 : Hid (∃ or v u cells, Step linkTags w (fun _ => 0) w7 or ∧ LinkC w7 or l 0 1 T1 T2 (sA M k (k - (i + 1))) (sB M k (i + 1) false) 0 v u cells) := Lib.hid ⟨o7, _, _, _, ST7.out, hL7⟩
            clear hst7 hL7 hw7 R6 HL6 cv1 cv2 ST6
            go_wp2_with fail
            refine (W7.out).mono ?_
            rintro e w8 ⟨rfl, rfl⟩
            go_wp2_with fail
            go_roundw
            case rel => exact ⟨i + 1, by omega, by go_num, rfl, HJ7⟩
            case measure => simp [intOf]; omega
          · have hd2 : decide ((i : Int) < (k : Int) - 1) = false := decide_eq_false (by omega)
            clear hgn
            go_wp2_with fail
            refine (FL1.out).mono ?_
            rintro e w3 ⟨A3, q3, o3, rfl, hst3, hL3, hS3⟩
            have c4 := (hL3.blk.cell 4).trans hL3.x.c0
            have hfl2 := tw_fl hL3 (.inr ⟨rfl, rfl⟩) (by decide) rfl FB.out.1 NX.out 42 (by decide) (flush2 (M := M) (n := k) (i := i + 1))
            have ST3 := Lib.hid (hst3.mono (ts' := linkTags) (by simp [T2])); have HL3 := Lib.hid hL3; have HS3 := Lib.hid hS3; have FL2 := Lib.hid hfl2
            clear hst3 hL3 hS3 hfl2 FL1
            rw [show (ackB k i).length = 7 from enc_len2 _ _ _ _] at HS3 ⊢
            go_wp2_with fail
            refine (FL2.out).mono ?_
            rintro e w4 ⟨A4, q4, o4, rfl, hst4, hL4, -⟩
            have c4 := (hL4.blk.cell 4).trans hL4.x.c0
            have ST4 := Lib.hid ((ST2.out.trans ST3.out).trans (hst4.mono (ts' := linkTags) (by simp [T2])))
            have HS4 := Lib.hid (HS3.out.step hst4 (by simp [T2]))
            have hrc := tw_rc hL4 (.inr ⟨rfl, rfl⟩) (by decide) rfl FB.out.1 NW.out (by decide) ((HSP2.out.step ST3.out (by simp)).step hst4 (by simp [T2])) (by omega) RC2.out
            have HL4 := Lib.hid hL4; have RC := Lib.hid hrc
            clear hst4 hL4 hrc FL2 HL3 ST3 HS3
            go_wp2_with fail
            refine (RC.out).mono ?_
            rintro e w5 ⟨A5, q5, o5, rfl, hst5, hL5⟩
            have c4 := (hL5.blk.cell 4).trans hL5.x.c0
            have ST5 := Lib.hid (ST4.out.trans (hst5.mono (ts' := linkTags) (by simp [T2])))
            have HS5 := Lib.hid (HS4.out.step hst5 (by simp [T2]))
            have hfl3 := tw_fl hL5 (.inr ⟨rfl, rfl⟩) (by decide) rfl (FB.out.2 (Nat.succ_pos i)) NX2.out 43 (by decide) (flush1 (M := M) hlt)
            have FL3 := Lib.hid hfl3
            clear hst5 hL5 hfl3 RC HL4 ST4 HS4
            go_wp2_with fail
            refine (FL3.out).mono ?_
            rintro e w6 ⟨A6, q6, o6, rfl, hst6, hL6, hS6⟩
            rw [show (ackB k i).length = 7 from enc_len2 _ _ _ _] at hS6 ⊢
            have ST6 := Lib.hid (ST5.out.trans (hst6.mono (ts' := linkTags) (by simp [T2])))
            have HS6 := Lib.hid (HS5.out.step hst6 (by simp [T2]))
            have cv1 : (convert 41 9 (.slice A3 7 q3)).run Try.prog w6 = .ok (.string ⟨(ackB k i).toArray⟩) w6 := conv_bytes w6 o6 _ A3 7 q3 (ackB k i) HS6.out
            have cv2 : (convert 41 9 (.slice A6 7 q6)).run Try.prog w6 = .ok (.string ⟨(ackB k i).toArray⟩) w6 := conv_bytes w6 o6 _ A6 7 q6 (ackB k i) hS6
            have c0 := (hL6.blk.cell 0).trans hL6.y.c0
            have hr6 := tw_rc hL6.swap (.inl ⟨rfl, rfl⟩) (by decide) rfl FA.out NWA.out (by decide) hS6 (by decide) RC6.out
            have R6 := Lib.hid hr6; have HL6 := Lib.hid hL6
            clear hst6 hL6 hS6 hr6 FL3 ST5 HS5 HS6
            go_wp2_with fail
            refine (R6.out).mono ?_
            rintro e w7 ⟨A7, q7, o7, rfl, hst7, hL7⟩
            have ST7 := Lib.hid (ST6.out.trans (hst7.mono (ts' := linkTags) (by simp [T1])))
            have c0 := (hL7.blk.cell 0).trans hL7.x.c0
            have hw7 := Waiting_ok hL7.ax.c
            rw [show waitS ({ sA M k (k - i) with c := tA M k (k - (i + 1)) } : CSide).c = j by show waitS (tA M k (k - (i + 1))) = j; rw [waitA M (by omega), HHJ.out]; omega] at hw7
            have W7 := Lib.hid hw7
            have HJ7 : Hid (∃ or v u cells, Step linkTags w (fun _ => 0) w7 or ∧ LinkC w7 or l 0 1 T1 T2 (sA M k (k - (i + 1))) (sB M k (i + 1) false) 0 v u cells) := Lib.hid ⟨o7, _, _, _, ST7.out, hL7⟩
            clear hst7 hL7 hw7 R6 HL6 cv1 cv2 ST6
            go_wp2_with fail
            refine (W7.out).mono ?_
            rintro e w8 ⟨rfl, rfl⟩
            go_wp2_with fail
            go_roundw
            case rel => exact ⟨i + 1, by omega, by go_num, rfl, HJ7⟩
            case measure => simp [intOf]; omega
        · obtain rfl : i = k := by omega
          have hgn : u.gn = i := by
            have := hL.by_.got.len
            rw [strs_len, Nat.mul_one] at this
            have h2 : (sB M i i false).got.length = i := by show (if i = i then (List.range i).map (mg M) else []).length = _; rw [if_pos rfl]; simp
            omega
          have c6 := (hL.blk.cell 6).trans hL.y.c2
          rw [hgn] at c6
          have hd : decide ((i : Int) < (i : Int)) = false := decide_eq_false (by omega)
          have HST := Lib.hid hst
          clear hgn hL hst HJ
          go_wp2_with fail
          refine (awake_any _).mono ?_
          rintro e w9 ⟨rfl, hb⟩
          have ST9 := Lib.hid (HST.out.below hb 20)
          go_wp2_with fail
          go_ret
          exact ⟨rfl, ST9.out.old (by decide)⟩
end Go.Proofs.Ythjjipcbpmdfnaa
