/-
  WALK of the reference's Weight, over a contract of its Dist.
-/
import Derived.Test.YtkiknbjokknemaaGreatBudQ
import Derived.Test.YtkiknbjokknemaaGreatBudR
namespace Go.Proofs.YtkiknbjokknemaaGreat
open Go.RowKit

theorem run_min2R {P : Program} (W : World) (ts : Array TypeId) (t : TypeId) (a b m : Int) (hm : m = min a b) : (Builtin.min_ ts t #[.int .i64 a, .int .i64 b]).run P W = .ok (.int .i64 m) W := by
  have e : ∀ x y : Int, (if y < x then y else x) = min x y := by
    intro x y; rw [Int.min_def]; split <;> split <;> omega
  subst hm
  simp [Builtin.min_, Builtin.min2, e]
theorem weight_end {D M F : Int} {k : Nat} (h0 : 0 ≤ D) (hM : M = min D 9223372036854775807) (hF : F = min M 16384) (h1 : ¬ (k : Int) * 16384 < 15 * F) (h2 : k = 0 ∨ ((k : Int) - 1) * 16384 < 15 * F) : 16 - (k : Int) = weightI D := by
  unfold weightI
  omega

set_option maxRecDepth 100000 in
set_option maxHeartbeats 800000 in
theorem RWeight_of (w : World) (ax ay bx by_ D : Int) (h0 : 0 ≤ D) (hd : ∀ W, Calls Tryz.prog 42 #[.agg #[.int .i64 ax, .int .i64 ay], .agg #[.int .i64 bx, .int .i64 by_]] W fun e w' => e = .returned (.int .i64 (min D 9223372036854775807)) ∧ Below W.heap.size W w') :
    Calls Tryz.prog 26 #[.agg #[.int .i64 ax, .int .i64 ay], .agg #[.int .i64 bx, .int .i64 by_]] w fun e w' => e = .returned (.int .i64 (weightI D)) ∧ Below w.heap.size w w' := by
  obtain ⟨M, hM⟩ : ∃ M, M = min D 9223372036854775807 := ⟨_, rfl⟩
  rw [← hM] at hd
  obtain ⟨F, hF⟩ : ∃ F, F = min M 16384 := ⟨_, rfl⟩
  have hF0 : 0 ≤ F := by omega
  have hF1 : F ≤ 16384 := by omega
  have hend := fun (k : Nat) => weight_end (k := k) h0 hM hF
  have hmin := fun W => run_min2R (P := Tryz.prog) W #[3, 3] 3 M 16384 F hF
  have HD := Lib.hid hd; have HE := Lib.hid hend
  clear hd hend hM hF h0
  go_enter Tryz.func26, Tryz.ntmps26
  go_wp2_with fail
  refine (HD.out _).mono ?_
  rintro e w1 ⟨rfl, hb1⟩
  have hb2 := (((Below.refl _ w).alloc (Nat.le_refl _) (.cells #[.int .i64 ax, .int .i64 ay] 34)).alloc (by simp) (.cells #[.int .i64 bx, .int .i64 by_] 34) |>.trans (hb1.mono (by simp; omega)))
  have HB1 := Lib.hid hb2
  clear hb1 hb2
  go_wp2_with fail
  go_loopw [6] (fun u wr => ∃ k : Nat, k ≤ 15 ∧ u = .int .i64 (16 - (k : Int)) ∧ Below w.heap.size w wr ∧ Hid (k = 0 ∨ ((k : Int) - 1) * 16384 < 15 * F)) (fun u _ => (intOf u).toNat)
  case atStart => exact ⟨0, by omega, rfl, HB1.out, Lib.hid (.inl rfl)⟩
  case round =>
    obtain ⟨k, hk, rfl, hB, hI⟩ := hrel
    have e1 : 16 - (16 - (k : Int)) = k := by omega
    by_cases hlt : (k : Int) * 16384 < 15 * F
    · have hk2 : k + 1 ≤ 15 := by omega
      go_wp2_with fail
      go_roundw
      case rel => exact ⟨k + 1, hk2, by go_num, hB, Lib.hid (.inr (by push_cast; omega))⟩
      case measure => simp [intOf]; omega
    · have hv := HE.out k (by omega) hI.out
      have HV := Lib.hid hv; clear hv
      go_wp2_with fail
      go_ret
      exact ⟨by rw [← HV.out]; rfl, hB⟩
end Go.Proofs.YtkiknbjokknemaaGreat
