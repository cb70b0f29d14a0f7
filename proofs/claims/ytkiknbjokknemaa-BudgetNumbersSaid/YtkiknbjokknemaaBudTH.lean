/-
  math/big.NewInt, Sat of the reference.
-/
import Derived.Test.YtkiknbjokknemaaBudTG
namespace Go.Proofs.Ytkiknbjokknemaa
open Go.RowKit

/-- The reference's Sat of a number that is not negative. -/
theorem Sat_pos (w : World) (b : Nat) (z : Int) (hz : 0 ≤ z) (h : BigIs w b z) :
    Calls Try.prog 40 #[.pointer (some ⟨b, 0, none⟩)] w fun e w' => e = .returned (.int .i64 (min z 9223372036854775807)) ∧ w' = w := by
  have hI := Lib.hid (IsInt64_pos w b z hz h)
  by_cases hle : z ≤ 9223372036854775807
  · have hv := Lib.hid (show min z 9223372036854775807 = z by omega)
    rw [decide_eq_true hle] at hI
    have hJ := Lib.hid (Int64_pos w b z hz hle h)
    clear h
    go_enter Try.func40, Try.ntmps40
    go_wp2_with fail
    refine hI.out.mono ?_
    rintro e w1 ⟨rfl, rfl⟩
    go_wp2_with fail
    refine hJ.out.mono ?_
    rintro e w1 ⟨rfl, rfl⟩
    go_wp2_with fail
    go_ret
    exact ⟨by rw [hv.out]; rfl, rfl⟩
  · have hv := Lib.hid (show min z 9223372036854775807 = 9223372036854775807 by omega)
    rw [decide_eq_false hle] at hI
    have hS := Sign_any w b z h
    rw [show signI z = 1 by unfold signI; rw [if_neg (by omega), if_neg (by omega)]] at hS
    have hJ := Lib.hid hS
    clear h hS
    go_enter Try.func40, Try.ntmps40
    go_wp2_with fail
    refine hI.out.mono ?_
    rintro e w1 ⟨rfl, rfl⟩
    go_wp2_with fail
    refine hJ.out.mono ?_
    rintro e w1 ⟨rfl, rfl⟩
    go_wp2_with fail
    go_ret
    exact ⟨by rw [hv.out]; rfl, rfl⟩
end Go.Proofs.Ytkiknbjokknemaa
