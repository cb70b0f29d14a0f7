/-
  WALKS of sound at items, ContainsFunc, Right, Valid.
-/
import Derived.Test.YtkiknbjokknemaaGreatBudC
namespace Go.Proofs.YtkiknbjokknemaaGreat
open Go.RowKit

set_option maxRecDepth 100000 in
set_option maxHeartbeats 2000000 in
theorem soundI_any (w : World) (o : Own) (τ : Nat) (A : Option Addr) (n c : Nat) (xs : List It) (hS : Sl w o τ 3 A n c (itms xs)) :
    Calls Tryz.prog 35 #[.slice A n c, .func (Fn.func 36) #[] #[]] w (SaysTo w (rightB (wantsOf xs))) := by
  have hl : xs.length = n := by have := hS.1; rw [len_itms] at this; omega
  have hnm : n ≤ 9223372036854775807 := by have h1 := hS.2.1; have h2 := hS.2.2.1; unfold maxLen at h2; omega
  obtain ⟨R, hR⟩ : ∃ R : Bool, R = rightB (wantsOf xs) := ⟨_, rfl⟩
  rw [← hR]
  have HR := Lib.hid hR; have HL := Lib.hid hl; have HS := Lib.hid hS; clear hR hl hS
  go_enter Tryz.func35, Tryz.ntmps35
  go_wp2_with fail
  go_loopw [5, 11] (fun l i wr => ∃ (k : Nat) (last : Int), k ≤ n ∧ i = .int .i64 k ∧ l = .int .i64 last ∧ Below w.heap.size w wr ∧ Hid (soundB (-1) (wantsOf xs) = soundB last ((wantsOf xs).drop k)) ∧ -1 ≤ last ∧ last ≤ 65536) (fun _ i _ => n - (intOf i).toNat)
  case atStart => exact ⟨0, -1, Nat.zero_le _, rfl, rfl, Below.refl _ _, Lib.hid (by simp), by omega, by omega⟩
  case round =>
    obtain ⟨k, last, hk, rfl, rfl, hB, hT, hl0, hl1⟩ := hrel
    by_cases hlt : k < n
    · obtain ⟨x, hx⟩ : ∃ x, xs[k]? = some x := ⟨_, List.getElem?_eq_getElem (by rw [HL.out]; exact hlt)⟩
      obtain ⟨g, off, hA, -, hg, hc⟩ := HS.out.2.2.2 (by omega)
      have hget := itms_get xs k x hx
      have hdrop : (wantsOf xs).drop k = (x.id, x.wt) :: (wantsOf xs).drop (k + 1) := by
        rw [List.drop_eq_getElem_cons (by simp only [wantsOf, List.length_map]; rw [HL.out]; exact hlt)]
        congr 1
        have h2 := (List.getElem?_eq_some_iff.1 hx).2
        simp only [wantsOf, List.getElem_map, h2]
      rw [hdrop] at hT
      subst hA
      have c0 := (hB.cell (p := ⟨g, off + k * 3, none⟩) hg).trans (hc _ _ hget.1)
      have c1 := (hB.cell (p := ⟨g, off + (k * 3 + 1), none⟩) hg).trans (hc _ _ hget.2.1)
      have c2 := (hB.cell (p := ⟨g, off + (k * 3 + 2), none⟩) hg).trans (hc _ _ hget.2.2)
      rw [← Nat.add_assoc] at c1 c2
      obtain ⟨a, b, sc⟩ := x
      simp only at c0 c1 c2
      have HB := Lib.hid hB; have HD := Lib.hid hdrop; have HX := Lib.hid hx
      clear hB hc hget hdrop hx
      simp only [soundB] at hT
      have hcase : a ≤ last ∨ 65536 < a ∨ b < 1 ∨ 16 < b ∨ (last < a ∧ a ≤ 65536 ∧ 1 ≤ b ∧ b ≤ 16) := by omega
      have bad : (a ≤ last ∨ 65536 < a ∨ b < 1 ∨ 16 < b) → R = false := by
        intro h
        rw [HR.out, rightB, hT.out]
        have : (decide (last < a) && decide (a ≤ 65536) && decide (1 ≤ b) && decide (b ≤ 16)) = false := by
          rcases h with h | h | h | h
          · rw [show decide (last < a) = false by simp; omega]; rfl
          · rw [show decide (a ≤ 65536) = false by simp; omega]; simp
          · rw [show decide (1 ≤ b) = false by simp; omega]; simp
          · rw [show decide (b ≤ 16) = false by simp; omega]; simp
        rw [this]; rfl
      have BAD := Lib.hid bad; clear bad
      by_cases c01 : a ≤ last
      · go_wp2_with (go_at_call 36; refine (valid1_any _ _ _ _).mono ?_; rintro e w1 ⟨rfl, hb1⟩; have HB1 := Lib.hid hb1; clear hb1)
        go_ret
        exact ⟨by rw [BAD.out (by omega)]; rfl, below3 HB.out HB1.out⟩
      by_cases c02 : 65536 < a
      · go_wp2_with (go_at_call 36; refine (valid1_any _ _ _ _).mono ?_; rintro e w1 ⟨rfl, hb1⟩; have HB1 := Lib.hid hb1; clear hb1)
        go_ret
        exact ⟨by rw [BAD.out (by omega)]; rfl, below3 HB.out HB1.out⟩
      by_cases c03 : b < 1
      · go_wp2_with (go_at_call 36; refine (valid1_any _ _ _ _).mono ?_; rintro e w1 ⟨rfl, hb1⟩; have HB1 := Lib.hid hb1; clear hb1)
        go_ret
        exact ⟨by rw [BAD.out (by omega)]; rfl, below3 HB.out HB1.out⟩
      by_cases c04 : 16 < b
      · go_wp2_with (go_at_call 36; refine (valid1_any _ _ _ _).mono ?_; rintro e w1 ⟨rfl, hb1⟩; have HB1 := Lib.hid hb1; clear hb1)
        go_ret
        exact ⟨by rw [BAD.out (by omega)]; rfl, below3 HB.out HB1.out⟩
      go_wp2_with (go_at_call 36; refine (valid1_any _ _ _ _).mono ?_; rintro e w1 ⟨rfl, hb1⟩; have HB1 := Lib.hid hb1; clear hb1)
      go_roundw
      case rel =>
        refine ⟨k + 1, a, by omega, by go_num, rfl, below3 HB.out HB1.out, Lib.hid ?_, by omega, by omega⟩
        rw [hT.out]
        rw [show decide (last < a) = true by simp; omega, show decide (a ≤ 65536) = true by simp; omega, show decide (1 ≤ b) = true by simp; omega, show decide (b ≤ 16) = true by simp; omega]
        rfl
      case measure => simp [intOf]; omega
    · obtain rfl : n = k := by omega
      have hT2 : soundB (-1) (wantsOf xs) = true := by
        have := hT.out
        rw [List.drop_of_length_le (by simp only [wantsOf, List.length_map]; rw [HL.out]; exact Nat.le_refl _)] at this
        exact this
      have HT2 := Lib.hid hT2; clear hT2
      go_wp2_with fail
      go_ret
      refine ⟨?_, hB⟩
      rw [HR.out, rightB, HT2.out]
      show Ending.returned (.bool (decide ((n : Int) ≤ 64))) = Ending.returned (.bool (true && decide ((wantsOf xs).length ≤ 64)))
      have hl2 : (wantsOf xs).length = n := by simp only [wantsOf, List.length_map]; exact HL.out
      rw [hl2, Bool.true_and]
      congr 2; simp only [decide_eq_decide]; omega


end Go.Proofs.YtkiknbjokknemaaGreat
