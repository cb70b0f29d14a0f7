/-
  WALKS of gains and RatingTells.
-/
import Derived.Test.YtkceefheeicmbaaRatG
import Derived.Lib.QuietBelow
namespace Go.Proofs.Ytkceefheeicmbaa
open Go.RowKit Go.Sort

set_option maxHeartbeats 400000 in
theorem gains_any (w : World) (a b s k : Int) : Calls Try.prog 16 #[.int .i64 a, .int .i64 b, .int .i64 s, .int .i64 k] w (SaysTo w true) := by
  obtain ⟨R, hR⟩ : ∃ R, R = gainM a b s k := ⟨_, rfl⟩
  obtain ⟨E, hE⟩ : ∃ E, E = gainE a b s k := ⟨_, rfl⟩
  have h1 := fun W => Gain_any W a b s k R E hR hE
  have h2 := fun W => refGain_any W a b s k R E hR hE
  have hEb : E = 0 ∨ E = 2 := by rw [hE]; unfold gainE; split <;> simp
  have H1 := Lib.hid h1; have H2 := Lib.hid h2
  clear h1 h2 hR hE
  have hRR : (R == R) = true := by simp
  rcases hEb with rfl | rfl
  all_goals
    go_enter Try.func16, Try.ntmps16
    go_wp2_with fail
    refine (H1.out _).mono ?_
    rintro e w1 ⟨rfl, hb1⟩
    have HB1 := Lib.hid hb1; clear hb1
    go_wp2_with fail
    refine (H2.out _).mono ?_
    rintro e w2 ⟨rfl, hb2⟩
    have HB2 := Lib.hid (below_then HB1.out hb2); clear hb2
    go_wp2_with fail
    go_ret
    exact ⟨rfl, HB2.out⟩

set_option maxRecDepth 100000 in
set_option maxHeartbeats 4000000 in
theorem RatingTells_walk (w : World) (a b s k0 k1 : Int) (ha : -9223372036854775808 ≤ a ∧ a ≤ 9223372036854775807) :
    Calls Try.prog 3 #[.int .i64 a, .int .i64 b, .int .i64 s, .agg #[.int .i64 k0, .int .i64 k1]] w (SaysTo w true) := by
  obtain ⟨ha0, ha1⟩ := ha
  obtain ⟨E, hE⟩ : ∃ E, E = expM a := ⟨_, rfl⟩
  obtain ⟨X, hX⟩ : ∃ E, E = winM a b := ⟨_, rfl⟩
  obtain ⟨Y, hY⟩ : ∃ E, E = winM a k1 := ⟨_, rfl⟩
  obtain ⟨W, hW⟩ : ∃ W, W = (w.alloc (.cells #[.int .i64 k0, .int .i64 k1] 22)).alloc (.cells #[.int .i64 s, .int .i64 k0, .int .i64 a] 24) := ⟨_, rfl⟩
  have b1 := (Blk.new w 22 #[.int .i64 k0, .int .i64 k1]).alloc (.cells #[.int .i64 s, .int .i64 k0, .int .i64 a] 24)
  have b2 := Blk.new (w.alloc (.cells #[.int .i64 k0, .int .i64 k1] 22)) 24 #[.int .i64 s, .int .i64 k0, .int .i64 a]
  rw [World.size_alloc] at b2
  rw [← hW] at b1 b2
  have hbw := ((Below.refl w.heap.size w).alloc (Nat.le_refl _) (.cells #[.int .i64 k0, .int .i64 k1] 22)).alloc (by simp) (.cells #[.int .i64 s, .int .i64 k0, .int .i64 a] 24)
  rw [← hW] at hbw
  have x0 := b1.cell 0; have x1 := b1.cell 1; have y0 := b2.cell 0; have y1 := b2.cell 1; have y2 := b2.cell 2
  simp only [List.getElem?_toArray, List.getElem?_cons_zero, List.getElem?_cons_succ] at x0 x1 y0 y1 y2
  have p0 := cell_regrown x0; have p1 := cell_regrown x1; have q0 := cell_regrown y0; have q1 := cell_regrown y1; have q2 := cell_regrown y2
  have c1 : ∀ d os, Calls Try.prog 14 #[.int .i64 a] (grow (redrawn W d) os) fun e w'' => e = .returned (.int .i64 E) ∧ ∃ p : Regrown, w'' = grow (redrawn W p.d) p.os := fun d os => Calls.regrown_of (Expected_any _ a E hE ha0 ha1)
  have c2 : ∀ d os, Calls Try.prog 15 #[.int .i64 a] (grow (redrawn W d) os) fun e w'' => e = .returned (.int .i64 E) ∧ ∃ p : Regrown, w'' = grow (redrawn W p.d) p.os := fun d os => Calls.regrown_of (refExpected_any _ a E hE ha0 ha1)
  have c3 : ∀ d os, Calls Try.prog 16 #[.int .i64 a, .int .i64 b, .int .i64 s, .int .i64 k0] (grow (redrawn W d) os) fun e w'' => e = .returned (.bool true) ∧ ∃ p : Regrown, w'' = grow (redrawn W p.d) p.os := fun d os => Calls.regrown_of (gains_any _ a b s k0)
  have c4 : ∀ d os, Calls Try.prog 17 #[.agg #[.int .i64 s, .int .i64 k0, .int .i64 a], .int .i64 b] (grow (redrawn W d) os) fun e w'' => e = .returned (.int .i64 X) ∧ ∃ p : Regrown, w'' = grow (redrawn W p.d) p.os := fun d os => Calls.regrown_of (Window_any _ s k0 a b X hX)
  have c5 : ∀ d os, Calls Try.prog 18 #[.agg #[.int .i64 s, .int .i64 k0, .int .i64 a], .int .i64 b] (grow (redrawn W d) os) fun e w'' => e = .returned (.int .i64 X) ∧ ∃ p : Regrown, w'' = grow (redrawn W p.d) p.os := fun d os => Calls.regrown_of (refWindow_any _ s k0 a b X hX)
  have c6 : ∀ d os, Calls Try.prog 17 #[.agg #[.int .i64 s, .int .i64 k0, .int .i64 a], .int .i64 k1] (grow (redrawn W d) os) fun e w'' => e = .returned (.int .i64 Y) ∧ ∃ p : Regrown, w'' = grow (redrawn W p.d) p.os := fun d os => Calls.regrown_of (Window_any _ s k0 a k1 Y hY)
  have c7 : ∀ d os, Calls Try.prog 18 #[.agg #[.int .i64 0, .int .i64 0, .int .i64 a], .int .i64 k1] (grow (redrawn W d) os) fun e w'' => e = .returned (.int .i64 Y) ∧ ∃ p : Regrown, w'' = grow (redrawn W p.d) p.os := fun d os => Calls.regrown_of (refWindow_any _ 0 0 a k1 Y hY)
  have c8 : ∀ d os, Calls Try.prog 19 #[] (grow (redrawn W d) os) fun e w'' => e = .returned (.bool true) ∧ ∃ p : Regrown, w'' = grow (redrawn W p.d) p.os := fun d os => Calls.regrown_of (awake_any _)
  have s1 : (E == E) = true := by simp
  have s2 : (X == X) = true := by simp
  have s3 : (Y == Y) = true := by simp
  have C1 := Lib.hid c1; have C2 := Lib.hid c2; have C3 := Lib.hid c3; have C4 := Lib.hid c4; have C5 := Lib.hid c5; have C6 := Lib.hid c6; have C7 := Lib.hid c7; have C8 := Lib.hid c8
  have HW := Lib.hid hW; have HBW := Lib.hid hbw
  have P0 := Lib.hid p0; have P1 := Lib.hid p1; have Q0 := Lib.hid q0; have Q1 := Lib.hid q1; have Q2 := Lib.hid q2
  clear c1 c2 c3 c4 c5 c6 c7 c8 hW hbw hE hX hY b1 b2 p0 p1 q0 q1 q2 x0 x1 y0 y1 y2
  go_enter Try.func3, Try.ntmps3
  go_wp2_with fail
  rw [← HW.out]
  have p0 := P0.out; have p1 := P1.out; have q0 := Q0.out; have q1 := Q1.out; have q2 := Q2.out
  refine wp_region_quiet_below (by kernel_rfl) (by kernel_rfl) ?_
  repeat (quiet_step (first | with_reducible exact C1.out _ _ | with_reducible exact C2.out _ _ | with_reducible exact C3.out _ _ | with_reducible exact C4.out _ _ | with_reducible exact C5.out _ _ | with_reducible exact C6.out _ _ | with_reducible exact C7.out _ _ | with_reducible exact C8.out _ _))
  refine wpQuiet_nil ?_
  intro _ hw'
  obtain ⟨⟨dq, osq⟩, hw''⟩ := hw'
  have hfin := below_then HBW.out (below_regrown W dq osq)
  have HF := Lib.hid hfin
  subst hw''
  clear hfin
  go_wp2
  go_ret
  exact ⟨rfl, HF.out⟩
end Go.Proofs.Ytkceefheeicmbaa
