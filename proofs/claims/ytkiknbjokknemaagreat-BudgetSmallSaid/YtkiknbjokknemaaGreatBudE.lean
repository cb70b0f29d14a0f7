/-
  WALKS of ContainsFunc, Right, Valid.
-/
import Derived.Test.YtkiknbjokknemaaGreatBudD
namespace Go.Proofs.YtkiknbjokknemaaGreat
open Go.RowKit

set_option maxHeartbeats 400000 in
theorem valid2_any (w : World) (a b c : Int) : Calls Tryz.prog 38 #[.agg #[.int .i64 a, .int .i64 b, .int .i64 c]] w (SaysTo w (!(decide (0 ≤ c) && decide (c ≤ topScore)))) := by
  obtain ⟨R, hR⟩ : ∃ R : Bool, R = !(decide (0 ≤ c) && decide (c ≤ topScore)) := ⟨_, rfl⟩
  rw [← hR]
  have HR := Lib.hid hR; clear hR
  by_cases h1 : c < 0
  · have hv := Lib.hid (show R = true by rw [HR.out, show decide (0 ≤ c) = false by simp; omega]; rfl)
    go_enter Tryz.func38, Tryz.ntmps38
    go_wp2
    go_ret
    exact ⟨by rw [hv.out]; rfl, (Below.refl _ _).alloc (Nat.le_refl _) _⟩
  · by_cases h2 : 1073741824 < c
    · have hv := Lib.hid (show R = true by rw [HR.out, show decide (c ≤ topScore) = false by unfold topScore; simp; omega]; simp)
      have hd := decide_eq_true h2
      go_enter Tryz.func38, Tryz.ntmps38
      go_wp2
      go_ret
      exact ⟨by rw [hv.out]; rfl, (Below.refl _ _).alloc (Nat.le_refl _) _⟩
    · have hv := Lib.hid (show R = false by rw [HR.out, show decide (c ≤ topScore) = true by unfold topScore; simp; omega, show decide (0 ≤ c) = true by simp; omega]; rfl)
      have hd : decide (1073741824 < c) = false := by simp; omega
      go_enter Tryz.func38, Tryz.ntmps38
      go_wp2
      go_ret
      exact ⟨by rw [hv.out]; rfl, (Below.refl _ _).alloc (Nat.le_refl _) _⟩

set_option maxHeartbeats 400000 in
theorem Right_any (w : World) (o : Own) (τ : Nat) (A : Option Addr) (n c : Nat) (xs : List (Int × Int)) (hS : Sl w o τ 2 A n c (wnts xs)) :
    Calls Tryz.prog 15 #[.slice A n c] w (SaysTo w (rightB xs)) := by
  obtain ⟨R, hR⟩ : ∃ R : Bool, R = rightB xs := ⟨_, rfl⟩
  have hs := soundW_any w o τ A n c xs hS
  rw [← hR] at hs ⊢
  have HS := Lib.hid hs; clear hs hS hR
  go_enter Tryz.func15, Tryz.ntmps15
  go_wp2_with fail
  refine HS.out.mono ?_
  rintro e w1 ⟨rfl, hb⟩
  go_wp2
  go_ret
  exact ⟨rfl, hb⟩

def IdxTo (w : World) (P : Int → Prop) (e : Ending) (w' : World) : Prop := ∃ i : Int, P i ∧ e = .returned (.int .i64 i) ∧ Below w.heap.size w w'

theorem scores_take {xs : List It} {k : Nat} {x : It} (h : xs[k]? = some x) : scoresB (xs.take (k + 1)) = (scoresB (xs.take k) && (decide (0 ≤ x.sc) && decide (x.sc ≤ topScore))) := by
  rw [List.take_add_one, h]; simp [scoresB]

set_option maxRecDepth 100000 in
set_option maxHeartbeats 1000000 in
theorem index_any (w : World) (o : Own) (τ : Nat) (A : Option Addr) (n c : Nat) (xs : List It) (hS : Sl w o τ 3 A n c (itms xs)) :
    Calls Tryz.prog 46 #[.slice A n c, .func (Fn.func 38) #[] #[]] w (IdxTo w fun i => decide (0 ≤ i) = !scoresB xs) := by
  have hl : xs.length = n := by have := hS.1; rw [len_itms] at this; omega
  have hnm : n ≤ 9223372036854775807 := by have h1 := hS.2.1; have h2 := hS.2.2.1; unfold maxLen at h2; omega
  obtain ⟨P, hP⟩ : ∃ P : Int → Prop, P = fun i => (decide (0 ≤ i)) = (!scoresB xs) := ⟨_, rfl⟩
  rw [← hP]
  have HP := Lib.hid hP; have HL := Lib.hid hl; have HS := Lib.hid hS; clear hP hl hS
  go_enter Tryz.func46, Tryz.ntmps46
  go_wp2_with fail
  go_loopw [8] (fun i wr => ∃ (k : Nat), k ≤ n ∧ i = .int .i64 k ∧ Below w.heap.size w wr ∧ Hid (scoresB (xs.take k) = true)) (fun i _ => n - (intOf i).toNat)
  case atStart => exact ⟨0, Nat.zero_le _, rfl, Below.refl _ _, Lib.hid (by simp [scoresB])⟩
  case round =>
    obtain ⟨k, hk, rfl, hB, hT⟩ := hrel
    by_cases hlt : k < n
    · obtain ⟨x, hx⟩ : ∃ x, xs[k]? = some x := ⟨_, List.getElem?_eq_getElem (by rw [HL.out]; exact hlt)⟩
      obtain ⟨g, off, hA, -, hg, hc⟩ := HS.out.2.2.2 (by omega)
      have hget := itms_get xs k x hx
      have hst := scores_take hx
      rw [hT.out, Bool.true_and] at hst
      subst hA
      have c0 := (hB.cell (p := ⟨g, off + k * 3, none⟩) hg).trans (hc _ _ hget.1)
      have c1 := (hB.cell (p := ⟨g, off + (k * 3 + 1), none⟩) hg).trans (hc _ _ hget.2.1)
      have c2 := (hB.cell (p := ⟨g, off + (k * 3 + 2), none⟩) hg).trans (hc _ _ hget.2.2)
      rw [← Nat.add_assoc] at c1 c2
      obtain ⟨a, b, sc⟩ := x
      simp only at c0 c1 c2 hst
      have HB := Lib.hid hB; have HST := Lib.hid hst
      have hxs : scoresB xs = true → scoresB (xs.take (k + 1)) = true := by
        intro h
        unfold scoresB at h ⊢
        rw [List.all_eq_true] at h ⊢
        exact fun y hy => h y (List.mem_of_mem_take hy)
      have HXS := Lib.hid hxs
      clear hB hc hget hx hst hxs
      cases hv : (decide (0 ≤ sc) && decide (sc ≤ topScore)) with
      | false =>
        have hcon : Calls Tryz.prog 38 #[.agg #[.int .i64 a, .int .i64 b, .int .i64 sc]] wr (SaysTo wr true) := by have := valid2_any wr a b sc; rw [hv] at this; exact this
        have HC := Lib.hid hcon; have HV := Lib.hid hv; clear hcon hv
        go_wp2_with (go_at_call 38; refine HC.out.mono ?_; rintro e w1 ⟨rfl, hb1⟩; have HB1 := Lib.hid hb1; clear hb1)
        go_ret
        refine ⟨k, ?_, rfl, HB.out.trans (HB1.out.mono HB.out.size)⟩
        rw [HP.out]
        have : scoresB xs = false := by
          cases h : scoresB xs with
          | false => rfl
          | true => have := HXS.out h; rw [HST.out, HV.out] at this; cases this
        rw [this]; simp
      | true =>
        have hcon : Calls Tryz.prog 38 #[.agg #[.int .i64 a, .int .i64 b, .int .i64 sc]] wr (SaysTo wr false) := by have := valid2_any wr a b sc; rw [hv] at this; exact this
        have HC := Lib.hid hcon; have HV := Lib.hid hv; clear hcon hv
        go_wp2_with (go_at_call 38; refine HC.out.mono ?_; rintro e w1 ⟨rfl, hb1⟩; have HB1 := Lib.hid hb1; clear hb1)
        go_roundw
        case rel => exact ⟨k + 1, by omega, by go_num, HB.out.trans (HB1.out.mono HB.out.size), Lib.hid (by rw [HST.out, HV.out])⟩
        case measure => simp [intOf]; omega
    · obtain rfl : n = k := by omega
      have hT2 : scoresB xs = true := by
        have := hT.out
        rw [List.take_of_length_le (by rw [HL.out]; exact Nat.le_refl _)] at this
        exact this
      have HT2 := Lib.hid hT2; clear hT2
      go_wp2_with fail
      go_ret
      refine ⟨-1, ?_, rfl, hB⟩
      rw [HP.out, HT2.out]; rfl

set_option maxHeartbeats 400000 in
theorem contains_any (w : World) (o : Own) (τ : Nat) (A : Option Addr) (n c : Nat) (xs : List It) (hS : Sl w o τ 3 A n c (itms xs)) :
    Calls Tryz.prog 37 #[.slice A n c, .func (Fn.func 38) #[] #[]] w (SaysTo w (!scoresB xs)) := by
  obtain ⟨R, hR⟩ : ∃ R : Bool, R = !scoresB xs := ⟨_, rfl⟩
  have hs := index_any w o τ A n c xs hS
  rw [← hR] at hs ⊢
  have HS := Lib.hid hs; clear hs hS hR
  go_enter Tryz.func37, Tryz.ntmps37
  go_wp2_with fail
  refine HS.out.mono ?_
  rintro e w1 ⟨i, hi, rfl, hb⟩
  go_wp2
  go_ret
  exact ⟨rfl, hb⟩

set_option maxHeartbeats 400000 in
theorem Valid_any (w : World) (o : Own) (τ : Nat) (A : Option Addr) (n c : Nat) (xs : List It) (hS : Sl w o τ 3 A n c (itms xs)) :
    Calls Tryz.prog 17 #[.slice A n c] w (SaysTo w (validB xs)) := by
  have hs := soundI_any w o τ A n c xs hS
  have hk : ∀ w1, Below w.heap.size w w1 → Calls Tryz.prog 37 #[.slice A n c, .func (Fn.func 38) #[] #[]] w1 (SaysTo w1 (!scoresB xs)) :=
    fun w1 hb => contains_any w1 _ τ A n c xs (hS.step ((Step.refl [] w o).below hb τ) (by simp))
  cases h1 : rightB (wantsOf xs) with
  | false =>
    have hv := Lib.hid (show validB xs = false by rw [validB, h1]; rfl)
    rw [h1] at hs
    have HS := Lib.hid hs; clear hs hk hS h1
    go_enter Tryz.func17, Tryz.ntmps17
    go_wp2_with fail
    refine HS.out.mono ?_
    rintro e w1 ⟨rfl, hb⟩
    go_wp2
    go_ret
    exact ⟨by rw [hv.out]; rfl, hb⟩
  | true =>
    cases h2 : scoresB xs with
    | false =>
      have hv := Lib.hid (show validB xs = false by rw [validB, h1, h2]; rfl)
      rw [h1] at hs; rw [h2] at hk
      have HS := Lib.hid hs; have HK := Lib.hid hk; clear hs hk hS h1 h2
      go_enter Tryz.func17, Tryz.ntmps17
      go_wp2_with fail
      refine HS.out.mono ?_
      rintro e w1 ⟨rfl, hb⟩
      go_wp2_with fail
      refine (HK.out w1 hb).mono ?_
      rintro e w2 ⟨rfl, hb2⟩
      go_wp2
      go_ret
      exact ⟨by rw [hv.out]; rfl, hb.trans (hb2.mono hb.size)⟩
    | true =>
      have hv := Lib.hid (show validB xs = true by rw [validB, h1, h2]; rfl)
      rw [h1] at hs; rw [h2] at hk
      have HS := Lib.hid hs; have HK := Lib.hid hk; clear hs hk hS h1 h2
      go_enter Tryz.func17, Tryz.ntmps17
      go_wp2_with fail
      refine HS.out.mono ?_
      rintro e w1 ⟨rfl, hb⟩
      go_wp2_with fail
      refine (HK.out w1 hb).mono ?_
      rintro e w2 ⟨rfl, hb2⟩
      go_wp2
      go_ret
      exact ⟨by rw [hv.out]; rfl, hb.trans (hb2.mono hb.size)⟩
end Go.Proofs.YtkiknbjokknemaaGreat
