/-
  WALKS of Step and Run where they reject their arguments.
-/
import Derived.Test.YtkiknbjokknemaaGreatBudT
namespace Go.Proofs.YtkiknbjokknemaaGreat
open Go.RowKit

/-- Rejected. -/
def NoTo (w : World) (e : Ending) (w' : World) : Prop := e = .returned (.tuple #[.slice none 0 0, .slice none 0 0, .int .i64 2]) ∧ Below w.heap.size w w'

set_option maxRecDepth 100000 in
set_option maxHeartbeats 1000000 in
theorem Step_bad (w : World) (o : Own) (τ τ2 : Nat) (A : Option Addr) (n c : Nat) (l : List It) (hA : Sl w o τ 3 A n c (itms l)) (B : Option Addr) (m d : Nat) (ws : List (Int × Int)) (hB : Sl w o τ2 2 B m d (wnts ws)) (k : Int) (hbad : k < 0 ∨ validB l = false ∨ rightB ws = false) :
    Calls Tryz.prog 10 #[.slice A n c, .slice B m d, .int .i64 k] w (NoTo w) := by
  have hval : ∀ w1, Below w.heap.size w w1 → Calls Tryz.prog 17 #[.slice A n c] w1 (SaysTo w1 (validB l)) := fun w1 hb => Valid_any w1 _ τ A n c l (hA.step ((Step.refl [] w o).below hb 5) (by simp))
  have hrgt : ∀ w1, Below w.heap.size w w1 → Calls Tryz.prog 15 #[.slice B m d] w1 (SaysTo w1 (rightB ws)) := fun w1 hb => Right_any w1 _ τ2 B m d ws (hB.step ((Step.refl [] w o).below hb 5) (by simp))
  by_cases hk : k < 0
  · have hk0 := decide_eq_true hk
    clear hval hrgt hA hB hbad
    go_enter Tryz.func10, Tryz.ntmps10
    go_wp2_with fail
    go_ret3
    exact ⟨rfl, Below.refl _ _⟩
  · have hk0 := decide_eq_false hk
    cases hv : validB l with
    | false =>
      rw [hv] at hval
      have HVAL := Lib.hid hval
      clear hval hrgt hA hB hbad hv
      go_enter Tryz.func10, Tryz.ntmps10
      go_wp2_with (go_at_call 17; refine (HVAL.out w (Below.refl _ w)).mono ?_; rintro e w1 ⟨rfl, hb1⟩; have HB1 := Lib.hid hb1; clear hb1)
      go_ret3
      exact ⟨rfl, HB1.out⟩
    | true =>
      have hr : rightB ws = false := by rcases hbad with h | h | h; exact absurd h hk; rw [hv] at h; cases h; exact h
      rw [hv] at hval
      rw [hr] at hrgt
      have HVAL := Lib.hid hval; have HRGT := Lib.hid hrgt
      clear hval hrgt hA hB hbad hv hr
      go_enter Tryz.func10, Tryz.ntmps10
      go_wp2_with (first
        | (go_at_call 17; refine (HVAL.out w (Below.refl _ w)).mono ?_; rintro e w1 ⟨rfl, hb1⟩; have HB1 := Lib.hid hb1; clear hb1)
        | (go_at_call 15; refine (HRGT.out w1 HB1.out).mono ?_; rintro e w2 ⟨rfl, hb2⟩; have HB2 := Lib.hid (HB1.out.trans (hb2.mono HB1.out.size)); clear hb2))
      go_ret3
      exact ⟨rfl, HB2.out⟩

set_option maxRecDepth 100000 in
set_option maxHeartbeats 1000000 in
theorem Run_bad (w : World) (o : Own) (τ τ2 : Nat) (A : Option Addr) (n c : Nat) (l : List It) (hA : Sl w o τ 3 A n c (itms l)) (B : Option Addr) (m d : Nat) (ws : List (Int × Int)) (hB : Sl w o τ2 2 B m d (wnts ws)) (k s : Int) (hbad : s < 0 ∨ 10000 < s ∨ k < 0 ∨ validB l = false ∨ rightB ws = false) :
    Calls Tryz.prog 8 #[.slice A n c, .slice B m d, .int .i64 k, .int .i64 s] w (NoTo w) := by
  have hval : ∀ w1, Below w.heap.size w w1 → Calls Tryz.prog 17 #[.slice A n c] w1 (SaysTo w1 (validB l)) := fun w1 hb => Valid_any w1 _ τ A n c l (hA.step ((Step.refl [] w o).below hb 5) (by simp))
  have hrgt : ∀ w1, Below w.heap.size w w1 → Calls Tryz.prog 15 #[.slice B m d] w1 (SaysTo w1 (rightB ws)) := fun w1 hb => Right_any w1 _ τ2 B m d ws (hB.step ((Step.refl [] w o).below hb 5) (by simp))
  by_cases hk : s < 0 ∨ 10000 < s ∨ k < 0
  · have hk0 : (decide (s < 0) || decide (10000 < s) || decide (k < 0)) = true := by
      simp only [Bool.or_eq_true, decide_eq_true_eq]; omega
    clear hval hrgt hA hB hbad hk
    go_enter Tryz.func8, Tryz.ntmps8
    go_wp2_with fail
    all_goals (go_ret3; exact ⟨rfl, Below.refl _ _⟩)
  · have hs0 : decide (s < 0) = false := by simp; omega
    have hs1 : decide (10000 < s) = false := by simp; omega
    have hk0 : decide (k < 0) = false := by simp; omega
    cases hv : validB l with
    | false =>
      rw [hv] at hval
      have HVAL := Lib.hid hval
      clear hval hrgt hA hB hbad hv hk
      go_enter Tryz.func8, Tryz.ntmps8
      go_wp2_with (go_at_call 17; refine (HVAL.out w (Below.refl _ w)).mono ?_; rintro e w1 ⟨rfl, hb1⟩; have HB1 := Lib.hid hb1; clear hb1)
      go_ret3
      exact ⟨rfl, HB1.out⟩
    | true =>
      have hr : rightB ws = false := by rcases hbad with h | h | h | h | h; omega; omega; omega; rw [hv] at h; cases h; exact h
      rw [hv] at hval
      rw [hr] at hrgt
      have HVAL := Lib.hid hval; have HRGT := Lib.hid hrgt
      clear hval hrgt hA hB hbad hv hr hk
      go_enter Tryz.func8, Tryz.ntmps8
      go_wp2_with (first
        | (go_at_call 17; refine (HVAL.out w (Below.refl _ w)).mono ?_; rintro e w1 ⟨rfl, hb1⟩; have HB1 := Lib.hid hb1; clear hb1)
        | (go_at_call 15; refine (HRGT.out w1 HB1.out).mono ?_; rintro e w2 ⟨rfl, hb2⟩; have HB2 := Lib.hid (HB1.out.trans (hb2.mono HB1.out.size)); clear hb2))
      go_ret3
      exact ⟨rfl, HB2.out⟩
end Go.Proofs.YtkiknbjokknemaaGreat
