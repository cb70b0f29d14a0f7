/-
  WALK of the reference's before.
-/
import Derived.Test.YtkiknbjokknemaaGreatBudTB
import Derived.Test.YtkiknbjokknemaaGreatBudE
namespace Go.Proofs.YtkiknbjokknemaaGreat
open Go.RowKit

set_option maxRecDepth 100000 in
set_option maxHeartbeats 2000000 in
theorem RBefore_any (w : World) (a1 a2 a3 b1 b2 b3 : Int) : Calls Tryz.prog 32 #[.agg #[.int .i64 a1, .int .i64 a2, .int .i64 a3], .agg #[.int .i64 b1, .int .i64 b2, .int .i64 b3]] w (SaysTo w (refBefore ⟨a1, a2, a3⟩ ⟨b1, b2, b3⟩)) := by
  obtain ⟨R, hR⟩ : ∃ R : Bool, R = refBefore ⟨a1, a2, a3⟩ ⟨b1, b2, b3⟩ := ⟨_, rfl⟩
  rw [← hR]
  have hR' : R = (decide (b3 < a3) || (decide (a3 = b3) && decide (a1 < b1))) := hR
  have HR := Lib.hid hR'; clear hR hR'
  have fin : Below w.heap.size w ((w.alloc (.cells #[.int .i64 a1, .int .i64 a2, .int .i64 a3] 72)).alloc (.cells #[.int .i64 b1, .int .i64 b2, .int .i64 b3] 72)) :=
    ((Below.refl _ _).alloc (Nat.le_refl _) _).alloc (by rw [World.size_alloc]; omega) _
  have FIN := Lib.hid fin; clear fin
  by_cases c1 : b3 < a3
  · have hv := Lib.hid (show R = true by rw [HR.out, decide_eq_true c1]; rfl)
    go_enter Tryz.func32, Tryz.ntmps32
    go_wp2
    go_ret
    exact ⟨by rw [hv.out]; rfl, FIN.out⟩
  by_cases c2 : a3 = b3
  · subst c2
    by_cases c3 : a1 < b1
    · have hv := Lib.hid (show R = true by rw [HR.out, decide_eq_true c3, decide_eq_true (rfl : a3 = a3), decide_eq_false c1]; rfl)
      go_enter Tryz.func32, Tryz.ntmps32
      go_wp2
      go_ret
      exact ⟨by rw [hv.out]; rfl, FIN.out⟩
    · have hv := Lib.hid (show R = false by rw [HR.out, decide_eq_false c3, decide_eq_true (rfl : a3 = a3), decide_eq_false c1]; rfl)
      go_enter Tryz.func32, Tryz.ntmps32
      go_wp2
      go_ret
      exact ⟨by rw [hv.out]; rfl, FIN.out⟩
  · have hv := Lib.hid (show R = false by rw [HR.out, decide_eq_false c1, decide_eq_false c2]; rfl)
    go_enter Tryz.func32, Tryz.ntmps32
    go_wp2
    go_ret
    exact ⟨by rw [hv.out]; rfl, FIN.out⟩
end Go.Proofs.YtkiknbjokknemaaGreat
