/-
  WALKS of Compare, the search for a player, Clone of players.
-/
import Derived.Test.YtkceefheeicmbaaRatJ
import Derived.Test.YtkceefheeicmbaaRatBC
namespace Go.Proofs.Ytkceefheeicmbaa
open Go.RowKit

theorem el_pl : Elem Try.prog 51 61 2 16 (.agg #[.int .i64 0, .int .i64 0]) := ⟨Try.underlying51, by kernel_rfl, rfl, by decide⟩
theorem len_pls (l : List Pl) : (pls l).length = l.length * 2 := by
  induction l with
  | nil => rfl
  | cons x l ih => rw [pls, List.flatMap_cons, List.length_append, ih]; simp; omega
theorem one_pls (l : List Pl) : ∀ u ∈ pls l, u.oneCell' = true := by
  intro u hu
  obtain ⟨x, -, h⟩ := List.mem_flatMap.1 hu
  simp only [List.mem_cons, List.not_mem_nil, or_false] at h
  rcases h with rfl | rfl <;> rfl
theorem pls_get (l : List Pl) : ∀ (k : Nat) (x : Pl), l[k]? = some x → (pls l)[k * 2]? = some (.int .i64 x.id) ∧ (pls l)[k * 2 + 1]? = some (.int .i64 x.rt) := by
  induction l with
  | nil => intro k x h; simp at h
  | cons y l ih =>
    intro k x h
    rw [pls, List.flatMap_cons]
    cases k with
    | zero => simp at h; subst h; exact ⟨rfl, rfl⟩
    | succ k =>
      obtain ⟨h0, h1⟩ := ih k x (by simpa using h)
      refine ⟨?_, ?_⟩
      · rw [List.getElem?_append_right (by simp; omega)]; simp only [List.length_cons, List.length_nil]; rw [show (k + 1) * 2 - (0 + 1 + 1) = k * 2 by omega]; exact h0
      · rw [List.getElem?_append_right (by simp; omega)]; simp only [List.length_cons, List.length_nil]; rw [show (k + 1) * 2 + 1 - (0 + 1 + 1) = k * 2 + 1 by omega]; exact h1
/-- One player of a slice of players. -/
theorem Sl.pl {w : World} {o : Own} {τ n c : Nat} {A : Option Addr} {l : List Pl} (h : Sl w o τ 2 A n c (pls l)) {k : Nat} {x : Pl} (hx : l[k]? = some x) :
    ∃ g off, A = some ⟨g, off, none⟩ ∧ o g = τ ∧ g < w.heap.size ∧ w.cell? ⟨g, off + k * 2, none⟩ = some (.int .i64 x.id) ∧ w.cell? ⟨g, off + k * 2 + 1, none⟩ = some (.int .i64 x.rt) := by
  have hk := (List.getElem?_eq_some_iff.1 hx).1
  have h1 := h.1
  rw [len_pls] at h1
  obtain ⟨g, off, hA, ho, hg, hc⟩ := h.2.2.2 (by omega)
  obtain ⟨i0, i1⟩ := pls_get l k x hx
  exact ⟨g, off, hA, ho, hg, hc _ _ i0, hc _ _ i1⟩

def cmpI (a b : Int) : Int := if a < b then -1 else if b < a then 1 else 0
set_option maxHeartbeats 800000 in
theorem cmpInt_any (w : World) (a b R : Int) (hR : R = cmpI a b) : Calls Try.prog 62 #[.int .i64 a, .int .i64 b] w (Just w (.int .i64 R)) := by
  have hn : ∀ (W : World) (x : Int), Calls Try.prog 78 #[.int .i64 x] W (Just W (.bool false)) := fun W x => by
    have hx : (x != x) = false := by simp
    go_enter Try.func78, Try.ntmps78
    go_wp2_with fail
    go_ret
    exact ⟨rfl, rfl⟩
  have HN := Lib.hid hn
  clear hn
  unfold cmpI at hR
  by_cases h1 : a < b
  · have d1 : decide (a < b) = true := by simpa using h1
    rw [if_pos h1] at hR
    subst hR
    go_enter Try.func62, Try.ntmps62
    go_wp2_with (go_at_call 78; refine (HN.out _ _).mono ?_; rintro e w1 ⟨rfl, h2⟩; subst w1)
    go_ret
    exact ⟨rfl, rfl⟩
  · have d1 : decide (a < b) = false := by simpa using h1
    rw [if_neg h1] at hR
    by_cases h2 : b < a
    · have d2 : decide (b < a) = true := by simpa using h2
      rw [if_pos h2] at hR
      subst hR
      go_enter Try.func62, Try.ntmps62
      go_wp2_with (go_at_call 78; refine (HN.out _ _).mono ?_; rintro e w1 ⟨rfl, h2⟩; subst w1)
      go_ret
      exact ⟨rfl, rfl⟩
    · have d2 : decide (b < a) = false := by simpa using h2
      rw [if_neg h2] at hR
      subst hR
      go_enter Try.func62, Try.ntmps62
      go_wp2_with (go_at_call 78; refine (HN.out _ _).mono ?_; rintro e w1 ⟨rfl, h2⟩; subst w1)
      go_ret
      exact ⟨rfl, rfl⟩

set_option maxHeartbeats 800000 in
theorem play11_any (w : World) (x : Pl) (id R : Int) (hR : R = cmpI x.id id) : Calls Try.prog 61 #[.agg #[.int .i64 x.id, .int .i64 x.rt], .int .i64 id] w fun e w' => e = .returned (.int .i64 R) ∧ Below w.heap.size w w' := by
  have hc := fun W => cmpInt_any W x.id id R hR
  have HC := Lib.hid hc
  have hb := fun a => (Below.refl w.heap.size w).alloc (Nat.le_refl _) (.cells a 61)
  have HB := Lib.hid hb
  clear hb hc hR
  go_enter Try.func61, Try.ntmps61
  go_wp2_with fail
  refine (HC.out _).mono ?_
  rintro e w1 ⟨rfl, h1⟩
  subst w1
  go_wp2_with fail
  go_ret
  exact ⟨rfl, HB.out _⟩

def BinTo (w : World) (l : List Pl) (id : Int) (e : Ending) (w' : World) : Prop := Below w.heap.size w w' ∧ ∃ (i : Nat) (b : Bool), e = .returned (.tuple #[.int .i64 i, .bool b]) ∧ i ≤ l.length ∧ (findP l id = if b = true then some i else none)
set_option maxRecDepth 100000 in
set_option maxHeartbeats 2000000 in
theorem bin_any (w : World) (A : Option Addr) (n c : Nat) (l : List Pl) (hS : Sl w (fun _ => 0) 0 2 A n c (pls l)) (hs : l.Pairwise fun x y => x.id < y.id) (hn : n ≤ 200) (id : Int) :
    Calls Try.prog 60 #[.slice A n c, .int .i64 id, .func (Fn.func 61) #[] #[]] w (BinTo w l id) := by
  have hl : l.length = n := by have := hS.1; rw [len_pls] at this; omega
  have HS := Lib.hid hS; have HL := Lib.hid hl; have HSO := Lib.hid hs
  clear hS hl hs
  go_enter Try.func60, Try.ntmps60
  go_wp2_with fail
  go_loopw [9, 10, 11] (fun s t _ wr => ∃ i j : Nat, i ≤ j ∧ j ≤ n ∧ s = .int .i64 i ∧ t = .int .i64 j ∧ Hid (∀ (m : Nat) x, m < i → l[m]? = some x → x.id < id) ∧ Hid (∀ (m : Nat) x, j ≤ m → l[m]? = some x → id ≤ x.id) ∧ Hid (Below w.heap.size w wr)) (fun s t _ _ => ((intOf t) - (intOf s)).toNat)
  case atStart => exact ⟨0, n, Nat.zero_le _, Nat.le_refl _, rfl, rfl, Lib.hid (fun m x h => absurd h (Nat.not_lt_zero _)), Lib.hid (fun m x h1 h2 => by have := (List.getElem?_eq_some_iff.1 h2).1; have := HL.out; omega), Lib.hid (Below.refl _ _)⟩
  case round => as_aux_lemma =>
    obtain ⟨i, j, hij, hj, rfl, rfl, HLO, HHI, HB⟩ := hrel
    by_cases hlt : i < j
    · obtain ⟨h, hh⟩ : ∃ h, h = (i + j) / 2 := ⟨_, rfl⟩
      have hh1 : i ≤ h := by omega
      have hh2 : h < j := by omega
      have hq : ((i : Int) + (j : Int)) / 2 = (h : Int) := by omega
      clear hh
      obtain ⟨x, hx⟩ : ∃ x, l[h]? = some x := ⟨_, List.getElem?_eq_getElem (by rw [HL.out]; omega)⟩
      obtain ⟨g, off, rfl, -, hg, ca, cb⟩ := (HS.out.up HB.out).pl hx
      obtain ⟨R, hR⟩ : ∃ R, R = cmpI x.id id := ⟨_, rfl⟩
      have hc := fun W => play11_any W x id R hR
      have hmono : ∀ (m m' : Nat) (y z : Pl), m < m' → l[m]? = some y → l[m']? = some z → y.id < z.id := fun m m' y z hmm h1 h2 => by
        obtain ⟨l1, e1⟩ := List.getElem?_eq_some_iff.1 h1
        obtain ⟨l2, e2⟩ := List.getElem?_eq_some_iff.1 h2
        have := List.pairwise_iff_getElem.1 HSO.out m m' l1 l2 hmm
        rwa [e1, e2] at this
      have HC := Lib.hid hc; have HX := Lib.hid hx; have HM := Lib.hid hmono
      clear hc hx hmono
      by_cases hlt2 : x.id < id
      · have hR1 : R = -1 := by rw [hR, cmpI, if_pos hlt2]
        have HN1 : Hid (∀ (m : Nat) y, m < h + 1 → l[m]? = some y → y.id < id) := Lib.hid (fun m y hm hy => by
          by_cases hmh : m = h
          · subst hmh; have := HX.out.symm.trans hy; injection this with this; subst this; exact hlt2
          · have := HM.out m h y x (by omega) hy HX.out; omega)
        subst hR1
        clear hR hlt2
        have d1 : decide ((-1 : Int) < 0) = true := rfl
        go_wp2_with fail
        refine (HC.out _).mono ?_
        rintro e w2 ⟨rfl, hb2⟩
        have HB2 := Lib.hid (below_then HB.out hb2)
        clear hb2
        go_wp2_with fail
        go_roundw
        case rel => exact ⟨h + 1, j, by omega, hj, by go_num, rfl, HN1, HHI, HB2⟩
        case measure => simp [intOf]; omega
      · have hR1 : 0 ≤ R := by rw [hR, cmpI, if_neg hlt2]; split <;> omega
        have d1 : decide (R < 0) = false := by simp; omega
        have HN1 : Hid (∀ (m : Nat) y, h ≤ m → l[m]? = some y → id ≤ y.id) := Lib.hid (fun m y hm hy => by
          by_cases hmh : m = h
          · subst hmh; have := HX.out.symm.trans hy; injection this with this; subst this; omega
          · have := HM.out h m x y (by omega) HX.out hy; omega)
        clear hR hlt2 hR1
        go_wp2_with fail
        refine (HC.out _).mono ?_
        rintro e w2 ⟨rfl, hb2⟩
        have HB2 := Lib.hid (below_then HB.out hb2)
        clear hb2
        go_wp2_with fail
        go_roundw
        case rel => exact ⟨i, h, by omega, by omega, rfl, rfl, HLO, HN1, HB2⟩
        case measure => simp [intOf]; omega
    · obtain rfl : i = j := by omega
      have hf := find_bin HSO.out HLO.out HHI.out
      by_cases hin : i < n
      · obtain ⟨x, hx⟩ : ∃ x, l[i]? = some x := ⟨_, List.getElem?_eq_getElem (by rw [HL.out]; omega)⟩
        obtain ⟨g, off, rfl, -, hg, ca, cb⟩ := (HS.out.up HB.out).pl hx
        obtain ⟨R, hR⟩ : ∃ R, R = cmpI x.id id := ⟨_, rfl⟩
        have hc := fun W => play11_any W x id R hR
        obtain ⟨b, hb⟩ : ∃ b : Bool, b = (R == 0) := ⟨_, rfl⟩
        have hfin : findP l id = if b = true then some i else none := by
          rw [hf, hx]
          simp only
          have : x.id = id ↔ b = true := by
            rw [hb, beq_iff_eq, hR]; unfold cmpI; split
            · constructor <;> intro <;> omega
            · split <;> constructor <;> intro <;> omega
          by_cases e : x.id = id
          · rw [if_pos e, if_pos (this.1 e)]
          · rw [if_neg e, if_neg (fun h => e (this.2 h))]
        have HF := Lib.hid hfin; have HC := Lib.hid hc
        have hb' := hb.symm
        clear hf hfin hc hx hR hb
        go_wp2_with fail
        refine (HC.out _).mono ?_
        rintro e w2 ⟨rfl, hb2⟩
        have HB2 := Lib.hid (below_then HB.out hb2)
        clear hb2
        go_wp2_with fail
        go_ret2
        exact ⟨HB2.out, i, b, by rfl, by rw [HL.out]; omega, HF.out⟩
      · obtain rfl : i = n := by omega
        have hx : l[i]? = none := by rw [List.getElem?_eq_none_iff, HL.out]; exact Nat.le_refl _
        rw [hx] at hf
        have HF := Lib.hid hf
        clear hf hx
        go_wp2_with fail
        go_ret2
        exact ⟨HB.out, i, false, rfl, by rw [HL.out]; exact Nat.le_refl _, by rw [HF.out]; rfl⟩

set_option maxHeartbeats 800000 in
theorem find_any (w : World) (gb : Nat) (A : Option Addr) (n c : Nat) (l : List Pl) (hc : w.cell? ⟨gb, 0, none⟩ = some (.slice A n c)) (hS : Sl w (fun _ => 0) 0 2 A n c (pls l)) (hs : l.Pairwise fun x y => x.id < y.id) (hn : n ≤ 200) (id : Int) :
    Calls Try.prog 59 #[.int .i64 id, .pointer (some ⟨gb, 0, none⟩)] w (BinTo w l id) := by
  have h := bin_any w A n c l hS hs hn id
  have H := Lib.hid h
  clear h hS hs hn
  go_enter Try.func59, Try.ntmps59
  go_wp2_with fail
  refine H.out.mono ?_
  rintro e w2 ⟨hb, i, b, rfl, h1, h2⟩
  have HB := Lib.hid hb; have HF := Lib.hid h2
  clear hb h2
  go_wp2_with fail
  go_ret2
  exact ⟨HB.out, i, b, rfl, h1, HF.out⟩

set_option maxHeartbeats 400000 in
theorem clonePl (w : World) (o : Own) (τ ρ : Nat) (A : Option Addr) (n c : Nat) (xs : List Value) (hS : Sl w o τ 2 A n c xs) (h1 : ∀ u ∈ xs, u.oneCell' = true) (hn : n ≤ 200) :
    Calls Try.prog 58 #[.slice A n c] w fun e w' => ∃ A' c', e = .returned (.slice A' n c') ∧ Row w' (ext o w.heap.size ρ) ρ 61 2 A' n c' xs ∧ Below w.heap.size w w' := by
  cases A with
  | none =>
    have hn0 : n = 0 := by
      rcases Nat.eq_zero_or_pos n with h | h
      · exact h
      · obtain ⟨_, _, h, _⟩ := hS.2.2.2 h; cases h
    subst hn0
    have hx : xs = [] := List.eq_nil_of_length_eq_zero (by simpa using hS.1)
    subst hx
    clear hS
    have hnil := Lib.run_eql_slice_nil (P := Try.prog) w 51 61 none 0 c 0 0 Try.underlying51
    go_enter Try.func58, Try.ntmps58
    go_wp2_with fail
    go_ret
    exact ⟨none, 0, rfl, Row.nil_ _ _ _ _ _, Below.refl _ _⟩
  | some ad =>
    have hnil := Lib.run_eql_slice_nil (P := Try.prog) w 51 61 (some ad) n c 0 0 Try.underlying51
    have H := Lib.hid hS; clear hS
    go_enter Try.func58, Try.ntmps58
    go_wp2_with (at_builtin; refine wpList_append_row _ rfl (.tmp 5) (.tmp 6) _ rfl el_pl (ext o w.heap.size ρ) ρ _ 0 0 [] rfl (Row.made (w := w) o ρ 61 2 #[] 0 rfl (Nat.zero_le _) 0 (Nat.le_refl _)) (ext o w.heap.size 0) τ _ n c xs rfl (H.out.step ((Step.refl [] _ _).alloc _ _) (by simp)) h1 (by omega) (by simp only [maxLen]; omega) ?_; intro A' c' w' hR hg hat)
    go_ret
    rw [World.size_alloc, ext_ext (by omega), Nat.zero_add] at hR
    refine ⟨A', c', rfl, by simpa using hR, ?_⟩
    exact ((Below.refl _ _).alloc (Nat.le_refl _) _).grown hg (by simp) (fun k hk => by simp [Value.ownBlock] at hk; omega)
end Go.Proofs.Ytkceefheeicmbaa
