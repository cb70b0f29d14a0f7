/-
  WALKS of rating's numbers.
-/
import Derived.Test.YtkceefheeicmbaaBase
import Derived.Test.YtkceefheeicmbaaRatA
import Derived.IntWalk
namespace Go.Proofs.Ytkceefheeicmbaa
open Go.RowKit

/-- Returns a value, and leaves the world alone. -/
def Just (w : World) (v : Value) (e : Ending) (w' : World) : Prop := e = .returned v ∧ w' = w

set_option maxHeartbeats 400000 in
theorem isRating_any (w : World) (a : Int) (R : Bool) (hR : R = inR a) : Calls Try.prog 42 #[.int .i64 a] w (Just w (.bool R)) := by
  have HR := Lib.hid hR; clear hR
  by_cases h1 : a < 0
  · have hv := Lib.hid (show R = false by rw [HR.out]; unfold inR; simp; omega)
    have hd : decide (0 ≤ a) = false := by simp; omega
    go_enter Try.func42, Try.ntmps42
    go_wp2
    go_ret
    exact ⟨by rw [hv.out]; rfl, rfl⟩
  · by_cases h2 : 4000 < a
    · have hv := Lib.hid (show R = false by rw [HR.out]; unfold inR; simp; omega)
      have hd : decide (a ≤ 4000) = false := by simp; omega
      go_enter Try.func42, Try.ntmps42
      go_wp2
      go_ret
      exact ⟨by rw [hv.out]; rfl, rfl⟩
    · have hv := Lib.hid (show R = true by rw [HR.out]; unfold inR; simp; omega)
      go_enter Try.func42, Try.ntmps42
      go_wp2
      go_ret
      exact ⟨by rw [hv.out]; rfl, rfl⟩

set_option maxHeartbeats 400000 in
theorem isWeight_any (w : World) (a : Int) (R : Bool) (hR : R = isWt a) : Calls Try.prog 44 #[.int .i64 a] w (Just w (.bool R)) := by
  have HR := Lib.hid hR; clear hR
  by_cases h1 : a < 1
  · have hv := Lib.hid (show R = false by rw [HR.out]; unfold isWt; simp; omega)
    have hd : decide (1 ≤ a) = false := by simp; omega
    go_enter Try.func44, Try.ntmps44
    go_wp2
    go_ret
    exact ⟨by rw [hv.out]; rfl, rfl⟩
  · by_cases h2 : 64 < a
    · have hv := Lib.hid (show R = false by rw [HR.out]; unfold isWt; simp; omega)
      have hd : decide (a ≤ 64) = false := by simp; omega
      go_enter Try.func44, Try.ntmps44
      go_wp2
      go_ret
      exact ⟨by rw [hv.out]; rfl, rfl⟩
    · have hv := Lib.hid (show R = true by rw [HR.out]; unfold isWt; simp; omega)
      go_enter Try.func44, Try.ntmps44
      go_wp2
      go_ret
      exact ⟨by rw [hv.out]; rfl, rfl⟩

set_option maxHeartbeats 400000 in
theorem isScore_any (w : World) (a : Int) (R : Bool) (hR : R = isSc a) : Calls Try.prog 43 #[.int .i64 a] w (Just w (.bool R)) := by
  have HR := Lib.hid hR; clear hR
  obtain ⟨b0, h0⟩ : ∃ b : Bool, (a == 0) = b := ⟨_, rfl⟩
  obtain ⟨b1, h1⟩ : ∃ b : Bool, (a == 512) = b := ⟨_, rfl⟩
  obtain ⟨b2, h2⟩ : ∃ b : Bool, (a == 1024) = b := ⟨_, rfl⟩
  have hv := Lib.hid (show R = (b0 || b1 || b2) by rw [HR.out]; unfold isSc; rw [h0, h1, h2])
  cases b0
  · cases b1
    · go_enter Try.func43, Try.ntmps43
      go_wp2
      go_ret
      exact ⟨by rw [hv.out]; rfl, rfl⟩
    · go_enter Try.func43, Try.ntmps43
      go_wp2
      go_ret
      exact ⟨by rw [hv.out]; rfl, rfl⟩
  · go_enter Try.func43, Try.ntmps43
    go_wp2
    go_ret
    exact ⟨by rw [hv.out]; rfl, rfl⟩

def tabV : Array Value := #[.int .i64 512, .int .i64 585, .int .i64 655, .int .i64 720, .int .i64 778, .int .i64 828, .int .i64 869, .int .i64 903, .int .i64 931, .int .i64 953, .int .i64 969, .int .i64 983, .int .i64 993, .int .i64 1000, .int .i64 1006, .int .i64 1011, .int .i64 1014]
theorem tabV_get : ∀ i, i < 17 → tabV[i]? = some (.int .i64 (tb i))
  | 0, _ => rfl | 1, _ => rfl | 2, _ => rfl | 3, _ => rfl | 4, _ => rfl | 5, _ => rfl | 6, _ => rfl | 7, _ => rfl | 8, _ => rfl
  | 9, _ => rfl | 10, _ => rfl | 11, _ => rfl | 12, _ => rfl | 13, _ => rfl | 14, _ => rfl | 15, _ => rfl | 16, _ => rfl
  | n + 17, h => absurd h (by omega)

set_option maxRecDepth 100000 in
set_option maxHeartbeats 800000 in
theorem table_any (w : World) : Calls Try.prog 34 #[] w fun e w' => e = .returned (.agg #[.int .i64 512, .int .i64 585, .int .i64 655, .int .i64 720, .int .i64 778, .int .i64 828, .int .i64 869, .int .i64 903, .int .i64 931, .int .i64 953, .int .i64 969, .int .i64 983, .int .i64 993, .int .i64 1000, .int .i64 1006, .int .i64 1011, .int .i64 1014]) ∧ Below w.heap.size w w' := by
  go_enter Try.func34, Try.ntmps34
  go_wp2
  refine bodyPost_ret (v := .agg #[.int .i64 512, .int .i64 585, .int .i64 655, .int .i64 720, .int .i64 778, .int .i64 828, .int .i64 869, .int .i64 903, .int .i64 931, .int .i64 953, .int .i64 969, .int .i64 983, .int .i64 993, .int .i64 1000, .int .i64 1006, .int .i64 1011, .int .i64 1014]) (by simp [results, Try.results34, go_sem]) rfl ⟨rfl, ?_⟩
  exact (Below.refl _ _).alloc (Nat.le_refl _) _

end Go.Proofs.Ytkceefheeicmbaa
