/-
  WALK of Bound.
-/
import Derived.Test.YtkiknbjokknemaaGreatBudC
namespace Go.Proofs.YtkiknbjokknemaaGreat
open Go.RowKit

def boundI (n k w m : Int) : Int := 2 * (n - 1) * (w + 2 * m) / (k * w)

theorem run_min4 {P : Program} (W : World) (ts : Array TypeId) (t : TypeId) (a b c d m : Int) (hm : m = min (min (min a b) c) d) : (Builtin.min_ ts t #[.int .i64 a, .int .i64 b, .int .i64 c, .int .i64 d]).run P W = .ok (.int .i64 m) W := by
  have e : ∀ x y : Int, (if y < x then y else x) = min x y := by
    intro x y; rw [Int.min_def]; split <;> split <;> omega
  subst hm
  simp [Builtin.min_, Builtin.min2, e]
theorem run_max4 {P : Program} (W : World) (ts : Array TypeId) (t : TypeId) (a b c d m : Int) (hm : m = max (max (max a b) c) d) : (Builtin.max_ ts t #[.int .i64 a, .int .i64 b, .int .i64 c, .int .i64 d]).run P W = .ok (.int .i64 m) W := by
  have e : ∀ x y : Int, (if y > x then y else x) = max x y := by
    intro x y; rw [Int.max_def]; split <;> split <;> omega
  subst hm
  simp [Builtin.max_, Builtin.max2, e]

set_option maxRecDepth 100000 in
set_option maxHeartbeats 800000 in
theorem Bound_ok (W : World) (n k w m : Int) (h1 : 1 ≤ n) (h2 : n ≤ 64) (h3 : 1 ≤ k) (h4 : k ≤ 64) (h5 : 1 ≤ w) (h6 : w ≤ m) (h7 : m ≤ 16) :
    Calls Tryz.prog 23 #[.int .i64 n, .int .i64 k, .int .i64 w, .int .i64 m] W fun e w' => e = .returned (.tuple #[.int .i64 (boundI n k w m), .int .i64 0]) ∧ w' = W := by
  obtain ⟨μ, hμ⟩ : ∃ μ, μ = min (min (min n k) w) m := ⟨_, rfl⟩
  have hμ1 : 1 ≤ μ := by omega
  have hmin := fun W => run_min4 (P := Tryz.prog) W #[3, 3, 3, 3] 3 n k w m μ hμ
  have b1 : 0 ≤ (n - 1) * (w + 2 * m) ∧ (n - 1) * (w + 2 * m) ≤ 63 * 48 := ⟨Int.mul_nonneg (by omega) (by omega), Int.mul_le_mul (by omega) (by omega) (by omega) (by omega)⟩
  have b2 : 1 * 1 ≤ k * w ∧ k * w ≤ 64 * 16 := ⟨Int.mul_le_mul (by omega) (by omega) (by omega) (by omega), Int.mul_le_mul (by omega) (by omega) (by omega) (by omega)⟩
  have e0 : 2 * (n - 1) * (w + 2 * m) = 2 * ((n - 1) * (w + 2 * m)) := Int.mul_assoc _ _ _
  have b0 : 0 ≤ 2 * (n - 1) * (w + 2 * m) ∧ 2 * (n - 1) * (w + 2 * m) ≤ 6048 := by omega
  have hq : (2 * (n - 1) * (w + 2 * m)).tdiv (k * w) = boundI n k w m := Int.tdiv_eq_ediv_of_nonneg b0.1
  obtain ⟨b01, b02⟩ := b0
  obtain ⟨b21, b22⟩ := b2
  have hR0 : 0 ≤ boundI n k w m := Int.ediv_nonneg b01 (by omega)
  have hR1 : boundI n k w m ≤ 6048 := Int.le_trans (Int.ediv_le_self _ b01) b02
  obtain ⟨R, hR⟩ : ∃ R, R = boundI n k w m := ⟨_, rfl⟩
  rw [← hR] at hq hR0 hR1 ⊢
  have hkw : ¬ k * w = 0 := by omega
  clear hR hμ b1 e0
  go_enter Tryz.func23, Tryz.ntmps23
  go_wp2_with fail
  all_goals (go_ret2; exact ⟨rfl, rfl⟩)

set_option maxRecDepth 100000 in
set_option maxHeartbeats 800000 in
theorem Bound_bad (W : World) (n k w m : Int) (h : n < 1 ∨ k < 1 ∨ w < 1 ∨ m < 1 ∨ 64 < n ∨ 64 < k ∨ 16 < m ∨ m < w) :
    Calls Tryz.prog 23 #[.int .i64 n, .int .i64 k, .int .i64 w, .int .i64 m] W fun e w' => e = .returned (.tuple #[.int .i64 0, .int .i64 2]) ∧ w' = W := by
  obtain ⟨μ, hμ⟩ : ∃ μ, μ = min (min (min n k) w) m := ⟨_, rfl⟩
  have hmin := fun W => run_min4 (P := Tryz.prog) W #[3, 3, 3, 3] 3 n k w m μ hμ
  by_cases hnk : n < k
  · have hb : (decide (μ < 1) || decide (64 < k) || decide (16 < m) || decide (m < w)) = true := by
      simp only [Bool.or_eq_true, decide_eq_true_eq]; omega
    clear hμ h
    go_enter Tryz.func23, Tryz.ntmps23
    go_wp2_with fail
    all_goals (go_ret2; exact ⟨rfl, rfl⟩)
  · have hb : (decide (μ < 1) || decide (64 < n) || decide (16 < m) || decide (m < w)) = true := by
      simp only [Bool.or_eq_true, decide_eq_true_eq]; omega
    clear hμ h
    go_enter Tryz.func23, Tryz.ntmps23
    go_wp2_with fail
    all_goals (go_ret2; exact ⟨rfl, rfl⟩)
end Go.Proofs.YtkiknbjokknemaaGreat
