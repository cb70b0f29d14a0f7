/-
  WALK of BudgetNumbers.
-/
import Derived.Test.YtkiknbjokknemaaGreatBudNum
import Derived.Test.YtkiknbjokknemaaGreatBudTF
import Derived.Test.YtkiknbjokknemaaGreatBudTE
import Derived.Test.YtkiknbjokknemaaGreatBudT
import Derived.Lib.QuietBelow
namespace Go.Proofs.YtkiknbjokknemaaGreat
open Go.RowKit

theorem far_dist (ax ay bx by_ : Int) : farI ax ay bx by_ = distI ax ay bx by_ := by
  unfold farI distI
  split <;> split <;> omega

theorem bounds_any (n k wt most : Int) : ∃ v e0 : Int, (∀ W, Calls Tryz.prog 23 #[.int .i64 n, .int .i64 k, .int .i64 wt, .int .i64 most] W fun e w' => e = .returned (.tuple #[.int .i64 v, .int .i64 e0]) ∧ w' = W) ∧
    (∀ W, Calls Tryz.prog 24 #[.int .i64 n, .int .i64 k, .int .i64 wt, .int .i64 most] W fun e w' => e = .returned (.tuple #[.int .i64 v, .int .i64 e0]) ∧ w' = W) := by
  by_cases h : n < 1 ∨ k < 1 ∨ wt < 1 ∨ most < 1 ∨ 64 < n ∨ 64 < k ∨ 16 < most ∨ most < wt
  · exact ⟨0, 2, fun W => Bound_bad W n k wt most h, fun W => RBound_bad W n k wt most h⟩
  · exact ⟨boundI n k wt most, 0, fun W => Bound_ok W n k wt most (by omega) (by omega) (by omega) (by omega) (by omega) (by omega) (by omega), fun W => RBound_ok W n k wt most (by omega) (by omega) (by omega) (by omega) (by omega) (by omega) (by omega)⟩

set_option maxRecDepth 100000 in
set_option maxHeartbeats 4000000 in
theorem BudgetNumbers_walk (w : World) (ax ay bx by_ n k wt most : Int) (h1 : -9223372036854775808 ≤ ax ∧ ax ≤ 9223372036854775807) (h2 : -9223372036854775808 ≤ ay ∧ ay ≤ 9223372036854775807) (h3 : -9223372036854775808 ≤ bx ∧ bx ≤ 9223372036854775807) (h4 : -9223372036854775808 ≤ by_ ∧ by_ ≤ 9223372036854775807) :
    Calls Tryz.prog 7 #[.agg #[.int .i64 ax, .int .i64 ay], .agg #[.int .i64 bx, .int .i64 by_], .int .i64 n, .int .i64 k, .int .i64 wt, .int .i64 most] w (SaysTo w true) := by
  obtain ⟨v, e0, hB, hRB⟩ := bounds_any n k wt most
  have hd0 : 0 ≤ farI ax ay bx by_ := by unfold farI; omega
  have hRW := fun W => RWeight_of W ax ay bx by_ (farI ax ay bx by_) hd0 (fun W => RDist_any W ax ay bx by_ h1 h2 h3 h4)
  have hW := fun W => Weight_any W ax ay bx by_ h1 h2 h3 h4
  rw [← far_dist] at hW
  obtain ⟨V, hV⟩ : ∃ V, V = weightI (farI ax ay bx by_) := ⟨_, rfl⟩
  rw [← hV] at hW hRW
  have hb0 := Lib.hid (show Below w.heap.size w ((w.alloc (.cells #[.int .i64 ax, .int .i64 ay] 34)).alloc (.cells #[.int .i64 bx, .int .i64 by_] 34)) from ((Below.refl _ _).alloc (Nat.le_refl _) _).alloc (by rw [World.size_alloc]; omega) _)
  have k1 := (Blk.new w 34 #[.int .i64 ax, .int .i64 ay]).alloc (.cells #[.int .i64 bx, .int .i64 by_] 34)
  have k2 := Blk.new (w.alloc (.cells #[.int .i64 ax, .int .i64 ay] 34)) 34 #[.int .i64 bx, .int .i64 by_]
  rw [World.size_alloc] at k2
  obtain ⟨W0, hW0⟩ : ∃ W0, W0 = (w.alloc (.cells #[.int .i64 ax, .int .i64 ay] 34)).alloc (.cells #[.int .i64 bx, .int .i64 by_] 34) := ⟨_, rfl⟩
  rw [← hW0] at hb0 k1 k2
  have hwt := fun d os => Calls.regrown_of (d := d) (os := os) (w := W0) (hW _)
  have hrwt := fun d os => Calls.regrown_of (d := d) (os := os) (w := W0) (hRW _)
  have haw : ∀ d os, Calls Tryz.prog 9 #[] (Go.Sort.grow (redrawn W0 d) os) fun e w'' => e = .returned (.bool true) ∧ ∃ p : Regrown, w'' = Go.Sort.grow (redrawn W0 p.d) p.os := fun d os => Calls.regrown_of (awake_any _)
  have c0 := k1.cell 0; have c1 := k1.cell 1; have c2 := k2.cell 0; have c3 := k2.cell 1
  simp only [List.getElem?_toArray, List.getElem?_cons_zero, List.getElem?_cons_succ] at c0 c1 c2 c3
  have v0 := cell_regrown c0; have v1 := cell_regrown c1; have v2 := cell_regrown c2; have v3 := cell_regrown c3
  have CB := Lib.hid hB; have CRB := Lib.hid hRB; have CW := Lib.hid hwt; have CRW := Lib.hid hrwt; have CA := Lib.hid haw; have HW0 := Lib.hid hW0
  clear hB hRB hW hRW hwt hrwt haw k1 k2 c0 c1 c2 c3 hV hd0 hW0 h1 h2 h3 h4
  go_enter Tryz.func7, Tryz.ntmps7
  go_wp2_with fail
  rw [← HW0.out]
  refine (CB.out _).mono ?_
  rintro e _ ⟨rfl, rfl⟩
  go_wp2_with fail
  refine (CRB.out _).mono ?_
  rintro e _ ⟨rfl, rfl⟩
  go_wp2_with fail
  refine wp_region_quiet_below (by kernel_rfl) (by kernel_rfl) ?_
  repeat (go_big_quiet_step (first | with_reducible exact CW.out _ _ | with_reducible exact CRW.out _ _ | with_reducible exact CA.out _ _))
  refine wpQuiet_nil ?_
  intro _ hw'
  obtain ⟨⟨dq, osq⟩, hw''⟩ := hw'
  have HF := Lib.hid (hb0.out.trans ((below_regrown _ dq osq).mono hb0.out.size))
  subst hw''
  clear v0 v1 v2 v3
  go_wp2_with fail
  go_ret
  exact ⟨rfl, HF.out⟩
end Go.Proofs.YtkiknbjokknemaaGreat
