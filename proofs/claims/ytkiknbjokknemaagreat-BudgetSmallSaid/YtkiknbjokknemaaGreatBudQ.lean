/-
  WALKS of Weight and what it calls (vec.Dist, wide.Diff ..), of Bound.
-/
import Derived.Test.YtkiknbjokknemaaGreatBudP
namespace Go.Proofs.YtkiknbjokknemaaGreat
open Go.RowKit

theorem neq_size (W : World) (a b : Int) : (binOp .neq 129 (.agg #[.int .u64 0, .int .u64 a]) (.agg #[.int .u64 0, .int .u64 b])).run Tryz.prog W = .ok (.bool (!(a == b))) W := by
  rw [run_neq_struct, run_equalIn_struct W 9999 129 _ _ (by kernel_rfl) (by kernel_rfl)]
  simp [go_sem, Tryz.underlying129]
  by_cases h1 : a = b <;> simp [h1]

set_option maxRecDepth 100000 in
set_option maxHeartbeats 400000 in
theorem wmade_any (w : World) (lo : Int) (neg : Bool) : Calls Tryz.prog 126 #[.agg #[.int .u64 0, .int .u64 lo], .bool neg] w fun e w' => e = .returned (.agg #[.int .u64 0, .int .u64 lo, .bool (neg && !(lo == 0))]) ∧ Below w.heap.size w w' := by
  have hq := fun W => neq_size W lo 0
  cases neg with
  | true =>
    go_enter Tryz.func126, Tryz.ntmps126
    go_wp2_with fail
    go_region
    all_goals
      go_wp2_with fail
      refine bodyPost_ret (v := .agg #[.int .u64 0, .int .u64 lo, .bool (!(lo == 0))]) (by simp [results, Tryz.results126, go_sem]) rfl ⟨rfl, ?_⟩
      exact (((Below.refl _ _).alloc (Nat.le_refl _) _).alloc (by simp) _).drew
  | false =>
    go_enter Tryz.func126, Tryz.ntmps126
    go_wp2_with fail
    go_region
    all_goals
      go_wp2_with fail
      refine bodyPost_ret (v := .agg #[.int .u64 0, .int .u64 lo, .bool false]) (by simp [results, Tryz.results126, go_sem]) rfl ⟨rfl, ?_⟩
      exact (((Below.refl _ _).alloc (Nat.le_refl _) _).alloc (by simp) _).drew

set_option maxRecDepth 100000 in
set_option maxHeartbeats 400000 in
theorem Diff_any (w : World) (a b : Int) (ha : -9223372036854775808 ≤ a ∧ a ≤ 9223372036854775807) (hb : -9223372036854775808 ≤ b ∧ b ≤ 9223372036854775807) : Calls Tryz.prog 106 #[.int .i64 a, .int .i64 b] w fun e w' => e = .returned (.agg #[.int .u64 0, .int .u64 (if a < b then b - a else a - b), .bool (decide (a < b))]) ∧ Below w.heap.size w w' := by
  have hA : ∀ (lo : Int) (ng : Bool) (w1 : World), Below (w.alloc (.cells #[.int .u64 0, .int .u64 0, .bool false] 131)).heap.size (w.alloc (.cells #[.int .u64 0, .int .u64 0, .bool false] 131)) w1 →
      Blk w1 w.heap.size 131 #[.int .u64 0, .int .u64 0, .bool false] ∧ Below w.heap.size w (((w1.setCell ⟨w.heap.size, 0, none⟩ (.int .u64 0)).setCell ⟨w.heap.size, 1, none⟩ (.int .u64 lo)).setCell ⟨w.heap.size, 2, none⟩ (.bool ng)) := by
    intro lo ng w1 hb1
    refine ⟨(Blk.new w _ _).below hb1 (by simp), ?_⟩
    exact (((((Below.refl _ w).alloc (Nat.le_refl _) _).trans (hb1.mono (by simp))).setCell (Nat.le_refl _) _).setCell (Nat.le_refl _) _).setCell (Nat.le_refl _) _
  have HA := Lib.hid hA; clear hA
  by_cases h : a < b
  · have e1 : IntKind.u64.wrap (IntKind.u64.wrap b - IntKind.u64.wrap a) = b - a := by simp only [IntKind.wrap_u64]; omega
    have e2 : (b - a == 0) = false := by simp; omega
    obtain ⟨d, hd⟩ : ∃ d, d = b - a := ⟨_, rfl⟩
    rw [← hd] at e1 e2
    have hv : (if a < b then b - a else a - b) = d := by rw [if_pos h]; exact hd.symm
    rw [hv, decide_eq_true h]
    have HE := Lib.hid e2
    clear hd hv e2
    go_enter Tryz.func106, Tryz.ntmps106
    go_wp2_with fail
    refine (wmade_any _ _ true).mono ?_
    rintro e w1 ⟨rfl, hb1⟩
    rw [HE.out]
    obtain ⟨hB, hW⟩ := HA.out d true w1 hb1
    have c0 := hB.cell 0; have c1 := hB.cell 1; have c2 := hB.cell 2; have f0 := hB.frozen 0; have f1 := hB.frozen 1; have f2 := hB.frozen 2
    simp only [List.getElem?_toArray, List.getElem?_cons_zero, List.getElem?_cons_succ] at c0 c1 c2
    have HW := Lib.hid hW
    clear hB hb1 hW
    go_wp2_with fail
    refine bodyPost_ret (v := .agg #[.int .u64 0, .int .u64 d, .bool true]) (by simp [results, Tryz.results106, go_sem, c0, c1, c2]) rfl ⟨rfl, ?_⟩
    exact HW.out
  · have e1 : IntKind.u64.wrap (IntKind.u64.wrap a - IntKind.u64.wrap b) = a - b := by simp only [IntKind.wrap_u64]; omega
    obtain ⟨d, hd⟩ : ∃ d, d = a - b := ⟨_, rfl⟩
    rw [← hd] at e1
    have hv : (if a < b then b - a else a - b) = d := by rw [if_neg h]; exact hd.symm
    rw [hv, decide_eq_false h]
    clear hd hv
    go_enter Tryz.func106, Tryz.ntmps106
    go_wp2_with fail
    refine (wmade_any _ _ false).mono ?_
    rintro e w1 ⟨rfl, hb1⟩
    rw [Bool.false_and]
    obtain ⟨hB, hW⟩ := HA.out d false w1 hb1
    have c0 := hB.cell 0; have c1 := hB.cell 1; have c2 := hB.cell 2; have f0 := hB.frozen 0; have f1 := hB.frozen 1; have f2 := hB.frozen 2
    simp only [List.getElem?_toArray, List.getElem?_cons_zero, List.getElem?_cons_succ] at c0 c1 c2
    have HW := Lib.hid hW
    clear hB hb1 hW
    go_wp2_with fail
    refine bodyPost_ret (v := .agg #[.int .u64 0, .int .u64 d, .bool false]) (by simp [results, Tryz.results106, go_sem, c0, c1, c2]) rfl ⟨rfl, ?_⟩
    exact HW.out

set_option maxRecDepth 100000 in
set_option maxHeartbeats 400000 in
theorem Less_any (w : World) (a b : Int) : Calls Tryz.prog 107 #[.agg #[.int .u64 0, .int .u64 a], .agg #[.int .u64 0, .int .u64 b]] w (SaysTo w (decide (a < b))) := by
  go_enter Tryz.func107, Tryz.ntmps107
  go_wp2_with fail
  go_ret
  exact ⟨rfl, ((Below.refl _ _).alloc (Nat.le_refl _) _).alloc (by simp) _⟩

set_option maxRecDepth 100000 in
set_option maxHeartbeats 400000 in
theorem Sat_any (w : World) (a : Int) (ha : 0 ≤ a) : Calls Tryz.prog 68 #[.agg #[.int .u64 0, .int .u64 a, .bool false]] w fun e w' => e = .returned (.int .i64 (min a 9223372036854775807)) ∧ Below w.heap.size w w' := by
  by_cases h : 9223372036854775808 ≤ a
  · have hm : min a 9223372036854775807 = 9223372036854775807 := by omega
    rw [hm]
    clear hm
    have h1 := decide_eq_true h
    go_enter Tryz.func68, Tryz.ntmps68
    go_wp2_with fail
    go_ret
    exact ⟨rfl, (Below.refl _ _).alloc (Nat.le_refl _) _⟩
  · have hm : min a 9223372036854775807 = a := by omega
    rw [hm]
    clear hm
    have h1 := decide_eq_false h
    go_enter Tryz.func68, Tryz.ntmps68
    go_wp2_with fail
    go_ret
    exact ⟨rfl, (Below.refl _ _).alloc (Nat.le_refl _) _⟩

def distI (ax ay bx by_ : Int) : Int := max (if bx < ax then ax - bx else bx - ax) (if by_ < ay then ay - by_ else by_ - ay)

theorem below_undrew {X w1 : World} (h : Below X.drew.heap.size X.drew w1) : Below X.heap.size X w1 := ⟨h.os, h.tape, h.output, h.size, h.block⟩

set_option maxRecDepth 100000 in
set_option maxHeartbeats 800000 in
theorem way_any (w : World) (ax ay bx by_ : Int) (h1 : -9223372036854775808 ≤ ax ∧ ax ≤ 9223372036854775807) (h2 : -9223372036854775808 ≤ ay ∧ ay ≤ 9223372036854775807) (h3 : -9223372036854775808 ≤ bx ∧ bx ≤ 9223372036854775807) (h4 : -9223372036854775808 ≤ by_ ∧ by_ ≤ 9223372036854775807) :
    Calls Tryz.prog 67 #[.agg #[.int .i64 ax, .int .i64 ay], .agg #[.int .i64 bx, .int .i64 by_]] w fun e w' => ∃ p N1 q N2, e = .returned (.tuple #[.agg #[.int .u64 0, .int .u64 p, .bool N1], .agg #[.int .u64 0, .int .u64 q, .bool N2], .agg #[.int .u64 0, .int .u64 (distI ax ay bx by_), .bool false]]) ∧ Below w.heap.size w w' := by
  obtain ⟨X, hX⟩ : ∃ X, X = (((((w.alloc (.cells #[.int .i64 ax, .int .i64 ay] 34)).alloc (.cells #[.int .i64 bx, .int .i64 by_] 34)).alloc (.cells #[.int .u64 0, .int .u64 0, .bool false] 131)).alloc (.cells #[.int .u64 0, .int .u64 0, .bool false] 131)).alloc (.cells #[.int .u64 0, .int .u64 0, .bool false] 131)) := ⟨_, rfl⟩
  have b0 := (((((Blk.new w 34 #[.int .i64 ax, .int .i64 ay]).alloc (.cells #[.int .i64 bx, .int .i64 by_] 34)).alloc (.cells #[.int .u64 0, .int .u64 0, .bool false] 131)).alloc (.cells #[.int .u64 0, .int .u64 0, .bool false] 131)).alloc (.cells #[.int .u64 0, .int .u64 0, .bool false] 131))
  have b1 := ((((Blk.new (w.alloc (.cells #[.int .i64 ax, .int .i64 ay] 34)) 34 #[.int .i64 bx, .int .i64 by_]).alloc (.cells #[.int .u64 0, .int .u64 0, .bool false] 131)).alloc (.cells #[.int .u64 0, .int .u64 0, .bool false] 131)).alloc (.cells #[.int .u64 0, .int .u64 0, .bool false] 131))
  have b2 := (((Blk.new ((w.alloc (.cells #[.int .i64 ax, .int .i64 ay] 34)).alloc (.cells #[.int .i64 bx, .int .i64 by_] 34)) 131 #[.int .u64 0, .int .u64 0, .bool false]).alloc (.cells #[.int .u64 0, .int .u64 0, .bool false] 131)).alloc (.cells #[.int .u64 0, .int .u64 0, .bool false] 131))
  have b3 := ((Blk.new (((w.alloc (.cells #[.int .i64 ax, .int .i64 ay] 34)).alloc (.cells #[.int .i64 bx, .int .i64 by_] 34)).alloc (.cells #[.int .u64 0, .int .u64 0, .bool false] 131)) 131 #[.int .u64 0, .int .u64 0, .bool false]).alloc (.cells #[.int .u64 0, .int .u64 0, .bool false] 131))
  have b4 := (Blk.new ((((w.alloc (.cells #[.int .i64 ax, .int .i64 ay] 34)).alloc (.cells #[.int .i64 bx, .int .i64 by_] 34)).alloc (.cells #[.int .u64 0, .int .u64 0, .bool false] 131)).alloc (.cells #[.int .u64 0, .int .u64 0, .bool false] 131)) 131 #[.int .u64 0, .int .u64 0, .bool false])
  have hb : Below w.heap.size w X := by
    rw [hX]
    exact (((((Below.refl _ w).alloc (Nat.le_refl _) _).alloc (by simp) _).alloc (by simp; omega) _).alloc (by simp; omega) _).alloc (by simp; omega) _
  rw [← hX] at b0 b1 b2 b3 b4
  simp only [World.size_alloc] at b0 b1 b2 b3 b4
  obtain ⟨n, hn⟩ : ∃ n, n = w.heap.size := ⟨_, rfl⟩
  rw [← hn] at b0 b1 b2 b3 b4
  have hsz : X.heap.size = n + 1 + 1 + 1 + 1 + 1 := by rw [hX, hn]; simp
  have HB := Lib.hid hb; have HX := Lib.hid hX; have HN := Lib.hid hn; have HSZ := Lib.hid hsz
  have keep : ∀ W', Below X.heap.size X W' → Hid (Blk W' n 34 #[.int .i64 ax, .int .i64 ay] ∧ Blk W' (n + 1) 34 #[.int .i64 bx, .int .i64 by_] ∧ Blk W' (n + 1 + 1) 131 #[.int .u64 0, .int .u64 0, .bool false] ∧ Blk W' (n + 1 + 1 + 1) 131 #[.int .u64 0, .int .u64 0, .bool false] ∧ Blk W' (n + 1 + 1 + 1 + 1) 131 #[.int .u64 0, .int .u64 0, .bool false]) :=
    fun W' h => Lib.hid ⟨b0.below h (by omega), b1.below h (by omega), b2.below h (by omega), b3.below h (by omega), b4.below h (by omega)⟩
  have KP := Lib.hid keep
  have four : ∀ W', Below X.heap.size X W' → (W'.cell? ⟨n + 1, 0, none⟩ = some (.int .i64 bx) ∧ W'.cell? ⟨n, 0, none⟩ = some (.int .i64 ax) ∧ W'.cell? ⟨n + 1, 1, none⟩ = some (.int .i64 by_) ∧ W'.cell? ⟨n, 1, none⟩ = some (.int .i64 ay)) := fun W' h => by
    obtain ⟨k0, k1, -, -, -⟩ := (keep W' h).out
    exact ⟨k1.cell 0, k0.cell 0, k1.cell 1, k0.cell 1⟩
  have two : ∀ W', (Blk W' n 34 #[.int .i64 ax, .int .i64 ay] ∧ Blk W' (n + 1) 34 #[.int .i64 bx, .int .i64 by_]) → (W'.cell? ⟨n + 1, 0, none⟩ = some (.int .i64 bx) ∧ W'.cell? ⟨n, 0, none⟩ = some (.int .i64 ax) ∧ W'.cell? ⟨n + 1, 1, none⟩ = some (.int .i64 by_) ∧ W'.cell? ⟨n, 1, none⟩ = some (.int .i64 ay)) := fun W' h =>
    ⟨h.2.cell 0, h.1.cell 0, h.2.cell 1, h.1.cell 1⟩
  have f3 : ∀ W' (k : Nat) (a b c : Value), n + 1 < k → (Blk W' n 34 #[.int .i64 ax, .int .i64 ay] ∧ Blk W' (n + 1) 34 #[.int .i64 bx, .int .i64 by_]) →
      (Blk (((W'.setCell ⟨k, 0, none⟩ a).setCell ⟨k, 1, none⟩ b).setCell ⟨k, 2, none⟩ c) n 34 #[.int .i64 ax, .int .i64 ay] ∧ Blk (((W'.setCell ⟨k, 0, none⟩ a).setCell ⟨k, 1, none⟩ b).setCell ⟨k, 2, none⟩ c) (n + 1) 34 #[.int .i64 bx, .int .i64 by_]) := fun W' k a b c hk h =>
    ⟨((h.1.far (p := ⟨k, 0, none⟩) (by simp only; omega) a).far (p := ⟨k, 1, none⟩) (by simp only; omega) b).far (p := ⟨k, 2, none⟩) (by simp only; omega) c, ((h.2.far (p := ⟨k, 0, none⟩) (by simp only; omega) a).far (p := ⟨k, 1, none⟩) (by simp only; omega) b).far (p := ⟨k, 2, none⟩) (by simp only; omega) c⟩
  have TWO := Lib.hid two; have F3 := Lib.hid f3; clear two f3
  have C4 := Lib.hid (four X.drew (Below.refl X.heap.size X).drew); have FOUR := Lib.hid four
  have hd1 := fun W => Diff_any W bx ax h3 h1
  have hd2 := fun W => Diff_any W by_ ay h4 h2
  obtain ⟨p, hp⟩ : ∃ p, p = if bx < ax then ax - bx else bx - ax := ⟨_, rfl⟩
  obtain ⟨q, hq⟩ : ∃ q, q = if by_ < ay then ay - by_ else by_ - ay := ⟨_, rfl⟩
  have hpq : distI ax ay bx by_ = max p q := by rw [hp, hq]; rfl
  rw [← hp] at hd1; rw [← hq] at hd2
  obtain ⟨N1, hN1⟩ : ∃ N1, N1 = decide (bx < ax) := ⟨_, rfl⟩
  obtain ⟨N2, hN2⟩ : ∃ N2, N2 = decide (by_ < ay) := ⟨_, rfl⟩
  rw [← hN1] at hd1; rw [← hN2] at hd2
  have HD1 := Lib.hid hd1; have HD2 := Lib.hid hd2; have HPQ := Lib.hid hpq
  clear hd1 hd2 hpq hp hq hN1 hN2 b0 b1 b2 b3 b4 keep four hb hX hsz
  go_enter Tryz.func67, Tryz.ntmps67
  go_wp2_with fail
  rw [← HX.out, ← HN.out]
  clear hn
  go_region_held3 (fun w' => w'.cell? ⟨n + 1, 0, none⟩ = some (.int .i64 bx) ∧ w'.cell? ⟨n, 0, none⟩ = some (.int .i64 ax) ∧ w'.cell? ⟨n + 1, 1, none⟩ = some (.int .i64 by_) ∧ w'.cell? ⟨n, 1, none⟩ = some (.int .i64 ay))
    (first | (with_reducible exact C4.out) | (with_reducible exact D4.out) | (with_reducible exact E4.out) | (refine TWO.out _ (F3.out _ _ _ _ _ ?_ ?_); (omega); (with_reducible exact KK.out)) | (refine TWO.out _ (F3.out _ _ _ _ _ ?_ (F3.out _ _ _ _ _ ?_ ?_)); (omega); (omega); (with_reducible exact KK.out)))
    (first
      | (go_at_call 106; ((with_reducible refine (HD1.out _).mono ?_)); rintro e w1 ⟨rfl, hb1⟩; have hb1 := below_undrew hb1; have D4 := Lib.hid (FOUR.out w1 hb1); have HB1 := Lib.hid hb1; clear hb1)
      | (go_at_call 106; ((with_reducible refine (HD2.out _).mono ?_)); rintro e w2 ⟨rfl, hb2⟩; have hb3 := HB1.out.trans (hb2.mono HB1.out.size); have E4 := Lib.hid (FOUR.out w2 hb3); obtain ⟨k0, k1, k2, k3, k4⟩ := (KP.out w2 hb3).out; have KK := Lib.hid (And.intro k0 k1); have u0 := k2.cell 0; have u1 := k2.cell 1; have u2 := k2.cell 2; have v0 := k3.cell 0; have v1 := k3.cell 1; have v2 := k3.cell 2; have f0 := k2.frozen 0; have f1 := k2.frozen 1; have f2 := k2.frozen 2; have g0 := k3.frozen 0; have g1 := k3.frozen 1; have g2 := k3.frozen 2; simp only [List.getElem?_toArray, List.getElem?_cons_zero, List.getElem?_cons_succ] at u0 u1 u2 v0 v1 v2; have K2 := Lib.hid k2; have K3 := Lib.hid k3; have K4 := Lib.hid k4; clear k0 k1 k2 k3 k4; have HB2 := Lib.hid hb3; clear hb2 hb3))
  have HBW := Lib.hid (HB.out.trans (HB2.out.mono HB.out.size))
  have hn := HN.out
  have K2_ : Blk ((((((w2.setCell ⟨n + 1 + 1, 0, none⟩ (.int .u64 0)).setCell ⟨n + 1 + 1, 1, none⟩ (.int .u64 p)).setCell ⟨n + 1 + 1, 2, none⟩ (.bool N1)).setCell ⟨n + 1 + 1 + 1, 0, none⟩ (.int .u64 0)).setCell ⟨n + 1 + 1 + 1, 1, none⟩ (.int .u64 q)).setCell ⟨n + 1 + 1 + 1, 2, none⟩ (.bool N2)) (n + 1 + 1) 131 #[.int .u64 0, .int .u64 p, .bool N1] := ((((((K2.out.set_ 0 (.int .u64 0)).set_ 1 (.int .u64 p)).set_ 2 (.bool N1)).far (p := ⟨n + 1 + 1 + 1, 0, none⟩) (by simp only; omega) (.int .u64 0)).far (p := ⟨n + 1 + 1 + 1, 1, none⟩) (by simp only; omega) (.int .u64 q)).far (p := ⟨n + 1 + 1 + 1, 2, none⟩) (by simp only; omega) (.bool N2))
  have K3_ : Blk ((((((w2.setCell ⟨n + 1 + 1, 0, none⟩ (.int .u64 0)).setCell ⟨n + 1 + 1, 1, none⟩ (.int .u64 p)).setCell ⟨n + 1 + 1, 2, none⟩ (.bool N1)).setCell ⟨n + 1 + 1 + 1, 0, none⟩ (.int .u64 0)).setCell ⟨n + 1 + 1 + 1, 1, none⟩ (.int .u64 q)).setCell ⟨n + 1 + 1 + 1, 2, none⟩ (.bool N2)) (n + 1 + 1 + 1) 131 #[.int .u64 0, .int .u64 q, .bool N2] := ((((((K3.out.far (p := ⟨n + 1 + 1, 0, none⟩) (by simp only; omega) (.int .u64 0)).far (p := ⟨n + 1 + 1, 1, none⟩) (by simp only; omega) (.int .u64 p)).far (p := ⟨n + 1 + 1, 2, none⟩) (by simp only; omega) (.bool N1)).set_ 0 (.int .u64 0)).set_ 1 (.int .u64 q)).set_ 2 (.bool N2))
  have K4_ : Blk ((((((w2.setCell ⟨n + 1 + 1, 0, none⟩ (.int .u64 0)).setCell ⟨n + 1 + 1, 1, none⟩ (.int .u64 p)).setCell ⟨n + 1 + 1, 2, none⟩ (.bool N1)).setCell ⟨n + 1 + 1 + 1, 0, none⟩ (.int .u64 0)).setCell ⟨n + 1 + 1 + 1, 1, none⟩ (.int .u64 q)).setCell ⟨n + 1 + 1 + 1, 2, none⟩ (.bool N2)) (n + 1 + 1 + 1 + 1) 131 #[.int .u64 0, .int .u64 0, .bool false] := ((((((K4.out.far (p := ⟨n + 1 + 1, 0, none⟩) (by simp only; omega) (.int .u64 0)).far (p := ⟨n + 1 + 1, 1, none⟩) (by simp only; omega) (.int .u64 p)).far (p := ⟨n + 1 + 1, 2, none⟩) (by simp only; omega) (.bool N1)).far (p := ⟨n + 1 + 1 + 1, 0, none⟩) (by simp only; omega) (.int .u64 0)).far (p := ⟨n + 1 + 1 + 1, 1, none⟩) (by simp only; omega) (.int .u64 q)).far (p := ⟨n + 1 + 1 + 1, 2, none⟩) (by simp only; omega) (.bool N2))
  have HBW_ := ((((((HBW.out.setCell (p := ⟨n + 1 + 1, 0, none⟩) (by simp only; omega) (.int .u64 0)).setCell (p := ⟨n + 1 + 1, 1, none⟩) (by simp only; omega) (.int .u64 p)).setCell (p := ⟨n + 1 + 1, 2, none⟩) (by simp only; omega) (.bool N1)).setCell (p := ⟨n + 1 + 1 + 1, 0, none⟩) (by simp only; omega) (.int .u64 0)).setCell (p := ⟨n + 1 + 1 + 1, 1, none⟩) (by simp only; omega) (.int .u64 q)).setCell (p := ⟨n + 1 + 1 + 1, 2, none⟩) (by simp only; omega) (.bool N2))
  obtain ⟨W5, hW5⟩ : ∃ W5, W5 = ((((((w2.setCell ⟨n + 1 + 1, 0, none⟩ (.int .u64 0)).setCell ⟨n + 1 + 1, 1, none⟩ (.int .u64 p)).setCell ⟨n + 1 + 1, 2, none⟩ (.bool N1)).setCell ⟨n + 1 + 1 + 1, 0, none⟩ (.int .u64 0)).setCell ⟨n + 1 + 1 + 1, 1, none⟩ (.int .u64 q)).setCell ⟨n + 1 + 1 + 1, 2, none⟩ (.bool N2)) := ⟨_, rfl⟩
  rw [← hW5] at K2_ K3_ K4_ HBW_ ⊢
  have K20 := K2_.cell 0; have K2f0 := K2_.frozen 0
  have K21 := K2_.cell 1; have K2f1 := K2_.frozen 1
  have K22 := K2_.cell 2; have K2f2 := K2_.frozen 2
  have K30 := K3_.cell 0; have K3f0 := K3_.frozen 0
  have K31 := K3_.cell 1; have K3f1 := K3_.frozen 1
  have K32 := K3_.cell 2; have K3f2 := K3_.frozen 2
  have K40 := K4_.cell 0; have K4f0 := K4_.frozen 0
  have K41 := K4_.cell 1; have K4f1 := K4_.frozen 1
  have K42 := K4_.cell 2; have K4f2 := K4_.frozen 2
  simp only [List.getElem?_toArray, List.getElem?_cons_zero, List.getElem?_cons_succ] at K20 K21 K22 K30 K31 K32 K40 K41 K42
  have K2 := Lib.hid K2_; clear K2_
  have K3 := Lib.hid K3_; clear K3_
  have K4 := Lib.hid K4_; clear K4_
  have HBW := Lib.hid HBW_; clear HBW_
  clear hW5
  clear hn
  clear KP FOUR TWO F3 C4 D4 E4 KK HB1 HB2 HD1 HD2 HX HB HSZ
  go_wp2_with fail
  have hn := HN.out
  have K2_ : Blk (((W5.setCell ⟨n + 1 + 1 + 1 + 1, 0, none⟩ (.int .u64 0)).setCell ⟨n + 1 + 1 + 1 + 1, 1, none⟩ (.int .u64 p)).setCell ⟨n + 1 + 1 + 1 + 1, 2, none⟩ (.bool false)) (n + 1 + 1) 131 #[.int .u64 0, .int .u64 p, .bool N1] := (((K2.out.far (p := ⟨n + 1 + 1 + 1 + 1, 0, none⟩) (by simp only; omega) (.int .u64 0)).far (p := ⟨n + 1 + 1 + 1 + 1, 1, none⟩) (by simp only; omega) (.int .u64 p)).far (p := ⟨n + 1 + 1 + 1 + 1, 2, none⟩) (by simp only; omega) (.bool false))
  have K3_ : Blk (((W5.setCell ⟨n + 1 + 1 + 1 + 1, 0, none⟩ (.int .u64 0)).setCell ⟨n + 1 + 1 + 1 + 1, 1, none⟩ (.int .u64 p)).setCell ⟨n + 1 + 1 + 1 + 1, 2, none⟩ (.bool false)) (n + 1 + 1 + 1) 131 #[.int .u64 0, .int .u64 q, .bool N2] := (((K3.out.far (p := ⟨n + 1 + 1 + 1 + 1, 0, none⟩) (by simp only; omega) (.int .u64 0)).far (p := ⟨n + 1 + 1 + 1 + 1, 1, none⟩) (by simp only; omega) (.int .u64 p)).far (p := ⟨n + 1 + 1 + 1 + 1, 2, none⟩) (by simp only; omega) (.bool false))
  have K4_ : Blk (((W5.setCell ⟨n + 1 + 1 + 1 + 1, 0, none⟩ (.int .u64 0)).setCell ⟨n + 1 + 1 + 1 + 1, 1, none⟩ (.int .u64 p)).setCell ⟨n + 1 + 1 + 1 + 1, 2, none⟩ (.bool false)) (n + 1 + 1 + 1 + 1) 131 #[.int .u64 0, .int .u64 p, .bool false] := (((K4.out.set_ 0 (.int .u64 0)).set_ 1 (.int .u64 p)).set_ 2 (.bool false))
  have HBW_ := (((HBW.out.setCell (p := ⟨n + 1 + 1 + 1 + 1, 0, none⟩) (by simp only; omega) (.int .u64 0)).setCell (p := ⟨n + 1 + 1 + 1 + 1, 1, none⟩) (by simp only; omega) (.int .u64 p)).setCell (p := ⟨n + 1 + 1 + 1 + 1, 2, none⟩) (by simp only; omega) (.bool false))
  obtain ⟨W6, hW6⟩ : ∃ W6, W6 = (((W5.setCell ⟨n + 1 + 1 + 1 + 1, 0, none⟩ (.int .u64 0)).setCell ⟨n + 1 + 1 + 1 + 1, 1, none⟩ (.int .u64 p)).setCell ⟨n + 1 + 1 + 1 + 1, 2, none⟩ (.bool false)) := ⟨_, rfl⟩
  rw [← hW6] at K2_ K3_ K4_ HBW_ ⊢
  have K20 := K2_.cell 0; have K2f0 := K2_.frozen 0
  have K21 := K2_.cell 1; have K2f1 := K2_.frozen 1
  have K22 := K2_.cell 2; have K2f2 := K2_.frozen 2
  have K30 := K3_.cell 0; have K3f0 := K3_.frozen 0
  have K31 := K3_.cell 1; have K3f1 := K3_.frozen 1
  have K32 := K3_.cell 2; have K3f2 := K3_.frozen 2
  have K40 := K4_.cell 0; have K4f0 := K4_.frozen 0
  have K41 := K4_.cell 1; have K4f1 := K4_.frozen 1
  have K42 := K4_.cell 2; have K4f2 := K4_.frozen 2
  simp only [List.getElem?_toArray, List.getElem?_cons_zero, List.getElem?_cons_succ] at K20 K21 K22 K30 K31 K32 K40 K41 K42
  have K2 := Lib.hid K2_; clear K2_
  have K3 := Lib.hid K3_; clear K3_
  have K4 := Lib.hid K4_; clear K4_
  have HBW := Lib.hid HBW_; clear HBW_
  clear hW6
  clear hn
  refine (Less_any _ p q).mono ?_
  rintro e w7 ⟨rfl, hb7⟩
  have K2 := Lib.hid (K2.out.below hb7 K2.out.lt); have K3 := Lib.hid (K3.out.below hb7 K3.out.lt); have K4 := Lib.hid (K4.out.below hb7 K4.out.lt); have HBW := Lib.hid (HBW.out.trans (hb7.mono HBW.out.size))
  clear hb7
  have k2 := K2.out; have k3 := K3.out; have k4 := K4.out
  have K20 := k2.cell 0; have K21 := k2.cell 1; have K22 := k2.cell 2; have K30 := k3.cell 0; have K31 := k3.cell 1; have K32 := k3.cell 2; have K40 := k4.cell 0; have K41 := k4.cell 1; have K42 := k4.cell 2
  have K2f0 := k2.frozen 0; have K2f1 := k2.frozen 1; have K2f2 := k2.frozen 2; have K3f0 := k3.frozen 0; have K3f1 := k3.frozen 1; have K3f2 := k3.frozen 2; have K4f0 := k4.frozen 0; have K4f1 := k4.frozen 1; have K4f2 := k4.frozen 2
  simp only [List.getElem?_toArray, List.getElem?_cons_zero, List.getElem?_cons_succ] at K20 K21 K22 K30 K31 K32 K40 K41 K42
  clear k2 k3 k4
  by_cases hpq : p < q
  · have hd := decide_eq_true hpq
    have hm : max p q = q := by omega
    have HM := Lib.hid hm
    rw [hd]
    clear hd hm
    go_wp2_with fail
    have hn := HN.out
    have K2_ : Blk ((w7.setCell ⟨n + 1 + 1 + 1 + 1, 0, none⟩ (.int .u64 0)).setCell ⟨n + 1 + 1 + 1 + 1, 1, none⟩ (.int .u64 q)) (n + 1 + 1) 131 #[.int .u64 0, .int .u64 p, .bool N1] := ((K2.out.far (p := ⟨n + 1 + 1 + 1 + 1, 0, none⟩) (by simp only; omega) (.int .u64 0)).far (p := ⟨n + 1 + 1 + 1 + 1, 1, none⟩) (by simp only; omega) (.int .u64 q))
    have K3_ : Blk ((w7.setCell ⟨n + 1 + 1 + 1 + 1, 0, none⟩ (.int .u64 0)).setCell ⟨n + 1 + 1 + 1 + 1, 1, none⟩ (.int .u64 q)) (n + 1 + 1 + 1) 131 #[.int .u64 0, .int .u64 q, .bool N2] := ((K3.out.far (p := ⟨n + 1 + 1 + 1 + 1, 0, none⟩) (by simp only; omega) (.int .u64 0)).far (p := ⟨n + 1 + 1 + 1 + 1, 1, none⟩) (by simp only; omega) (.int .u64 q))
    have K4_ : Blk ((w7.setCell ⟨n + 1 + 1 + 1 + 1, 0, none⟩ (.int .u64 0)).setCell ⟨n + 1 + 1 + 1 + 1, 1, none⟩ (.int .u64 q)) (n + 1 + 1 + 1 + 1) 131 #[.int .u64 0, .int .u64 q, .bool false] := ((K4.out.set_ 0 (.int .u64 0)).set_ 1 (.int .u64 q))
    have HBW_ := ((HBW.out.setCell (p := ⟨n + 1 + 1 + 1 + 1, 0, none⟩) (by simp only; omega) (.int .u64 0)).setCell (p := ⟨n + 1 + 1 + 1 + 1, 1, none⟩) (by simp only; omega) (.int .u64 q))
    obtain ⟨W8, hW8⟩ : ∃ W8, W8 = ((w7.setCell ⟨n + 1 + 1 + 1 + 1, 0, none⟩ (.int .u64 0)).setCell ⟨n + 1 + 1 + 1 + 1, 1, none⟩ (.int .u64 q)) := ⟨_, rfl⟩
    rw [← hW8] at K2_ K3_ K4_ HBW_ ⊢
    have K20 := K2_.cell 0; have K2f0 := K2_.frozen 0
    have K21 := K2_.cell 1; have K2f1 := K2_.frozen 1
    have K22 := K2_.cell 2; have K2f2 := K2_.frozen 2
    have K30 := K3_.cell 0; have K3f0 := K3_.frozen 0
    have K31 := K3_.cell 1; have K3f1 := K3_.frozen 1
    have K32 := K3_.cell 2; have K3f2 := K3_.frozen 2
    have K40 := K4_.cell 0; have K4f0 := K4_.frozen 0
    have K41 := K4_.cell 1; have K4f1 := K4_.frozen 1
    have K42 := K4_.cell 2; have K4f2 := K4_.frozen 2
    simp only [List.getElem?_toArray, List.getElem?_cons_zero, List.getElem?_cons_succ] at K20 K21 K22 K30 K31 K32 K40 K41 K42
    have K2 := Lib.hid K2_; clear K2_
    have K3 := Lib.hid K3_; clear K3_
    have K4 := Lib.hid K4_; clear K4_
    have HBW := Lib.hid HBW_; clear HBW_
    clear hW8
    clear hn
    have hm := HM.out
    go_region
    all_goals
      go_wp2_with fail
      refine bodyPost_ret (v := .tuple #[.agg #[.int .u64 0, .int .u64 p, .bool N1], .agg #[.int .u64 0, .int .u64 q, .bool N2], .agg #[.int .u64 0, .int .u64 q, .bool false]]) (by simp [results, Tryz.results67, go_sem, K20, K21, K22, K30, K31, K32, K40, K41, K42]) rfl ⟨p, N1, q, N2, by rw [HPQ.out, hm], ?_⟩
      have hn := HN.out
      refine Below.drew ?_
      iterate 9 (refine Below.setCell ?_ ?_ _)
      exact HBW.out
      all_goals (simp only; omega)
  · have hd := decide_eq_false hpq
    have hm : max p q = p := by omega
    have HM := Lib.hid hm
    rw [hd]
    clear hd hm
    go_wp2_with fail
    have hm := HM.out
    go_region
    all_goals
      go_wp2_with fail
      refine bodyPost_ret (v := .tuple #[.agg #[.int .u64 0, .int .u64 p, .bool N1], .agg #[.int .u64 0, .int .u64 q, .bool N2], .agg #[.int .u64 0, .int .u64 p, .bool false]]) (by simp [results, Tryz.results67, go_sem, K20, K21, K22, K30, K31, K32, K40, K41, K42]) rfl ⟨p, N1, q, N2, by rw [HPQ.out, hm], ?_⟩
      have hn := HN.out
      refine Below.drew ?_
      iterate 9 (refine Below.setCell ?_ ?_ _)
      exact HBW.out
      all_goals (simp only; omega)

set_option maxRecDepth 100000 in
set_option maxHeartbeats 800000 in
theorem Dist_any (w : World) (ax ay bx by_ : Int) (h1 : -9223372036854775808 ≤ ax ∧ ax ≤ 9223372036854775807) (h2 : -9223372036854775808 ≤ ay ∧ ay ≤ 9223372036854775807) (h3 : -9223372036854775808 ≤ bx ∧ bx ≤ 9223372036854775807) (h4 : -9223372036854775808 ≤ by_ ∧ by_ ≤ 9223372036854775807) :
    Calls Tryz.prog 41 #[.agg #[.int .i64 ax, .int .i64 ay], .agg #[.int .i64 bx, .int .i64 by_]] w fun e w' => e = .returned (.int .i64 (min (distI ax ay bx by_) 9223372036854775807)) ∧ Below w.heap.size w w' := by
  have hw := fun W => way_any W ax ay bx by_ h1 h2 h3 h4
  have hd0 : 0 ≤ distI ax ay bx by_ := by unfold distI; omega
  obtain ⟨D, hD⟩ : ∃ D, D = distI ax ay bx by_ := ⟨_, rfl⟩
  rw [← hD] at hw hd0 ⊢
  have hs := fun W => Sat_any W D hd0
  have HW := Lib.hid hw; have HS := Lib.hid hs
  clear hw hs hD hd0
  go_enter Tryz.func41, Tryz.ntmps41
  go_wp2_with fail
  refine (HW.out _).mono ?_
  rintro e w1 ⟨p, N1, q, N2, rfl, hb1⟩
  have HB1 := Lib.hid (((Below.refl _ w).alloc (Nat.le_refl _) (.cells #[.int .i64 ax, .int .i64 ay] 34)).alloc (by simp) (.cells #[.int .i64 bx, .int .i64 by_] 34) |>.trans (hb1.mono (by simp; omega)))
  clear hb1
  go_wp2_with fail
  refine (HS.out _).mono ?_
  rintro e w2 ⟨rfl, hb2⟩
  have hs2 := HB1.out.size
  have HB2 := Lib.hid ((((HB1.out.alloc hs2 (.cells #[.int .u64 0, .int .u64 p, .bool N1] 131)).alloc (by simp; omega) (.cells #[.int .u64 0, .int .u64 q, .bool N2] 131)).alloc (by simp; omega) (.cells #[.int .u64 0, .int .u64 D, .bool false] 131)).trans (hb2.mono (by simp; omega)))
  clear hb2 hs2
  go_wp2_with fail
  go_ret
  exact ⟨rfl, HB2.out⟩

def weightI (d : Int) : Int := 16 - (15 * min d 16384 + 16383) / 16384

set_option maxRecDepth 100000 in
set_option maxHeartbeats 800000 in
theorem Weight_any (w : World) (ax ay bx by_ : Int) (h1 : -9223372036854775808 ≤ ax ∧ ax ≤ 9223372036854775807) (h2 : -9223372036854775808 ≤ ay ∧ ay ≤ 9223372036854775807) (h3 : -9223372036854775808 ≤ bx ∧ bx ≤ 9223372036854775807) (h4 : -9223372036854775808 ≤ by_ ∧ by_ ≤ 9223372036854775807) :
    Calls Tryz.prog 25 #[.agg #[.int .i64 ax, .int .i64 ay], .agg #[.int .i64 bx, .int .i64 by_]] w fun e w' => e = .returned (.int .i64 (weightI (distI ax ay bx by_))) ∧ Below w.heap.size w w' := by
  have hd := fun W => Dist_any W ax ay bx by_ h1 h2 h3 h4
  have hd0 : 0 ≤ distI ax ay bx by_ := by unfold distI; omega
  obtain ⟨D, hD⟩ : ∃ D, D = distI ax ay bx by_ := ⟨_, rfl⟩
  rw [← hD] at hd hd0 ⊢
  obtain ⟨M, hM⟩ : ∃ M, M = min D 9223372036854775807 := ⟨_, rfl⟩
  rw [← hM] at hd
  have hM0 : 0 ≤ M := by omega
  have hwt : weightI D = 16 - (15 * min M 16384 + 16384 - 1).tdiv 16384 := by
    unfold weightI
    rw [Int.tdiv_eq_ediv_of_nonneg (by omega), show min M 16384 = min D 16384 by omega]
    omega
  have HD := Lib.hid hd; have HWT := Lib.hid hwt
  clear hd hD hd0 hM hwt h1 h2 h3 h4
  by_cases hle : M ≤ 16384
  · have hm : min M 16384 = M := by omega
    have hq : (15 * M + 16384 - 1).tdiv 16384 = (15 * M + 16384 - 1) / 16384 := Int.tdiv_eq_ediv_of_nonneg (by omega)
    have hq0 : 0 ≤ (15 * M + 16384 - 1).tdiv 16384 ∧ (15 * M + 16384 - 1).tdiv 16384 ≤ 16 := by rw [hq]; omega
    obtain ⟨hq1, hq2⟩ := hq0
    rw [hm] at HWT
    clear hm hq
    go_enter Tryz.func25, Tryz.ntmps25
    go_wp2_with fail
    refine (HD.out _).mono ?_
    rintro e w1 ⟨rfl, hb1⟩
    have HB1 := Lib.hid (((Below.refl _ w).alloc (Nat.le_refl _) (.cells #[.int .i64 ax, .int .i64 ay] 34)).alloc (by simp) (.cells #[.int .i64 bx, .int .i64 by_] 34) |>.trans (hb1.mono (by simp; omega)))
    clear hb1
    go_wp2_with fail
    go_ret
    exact ⟨by rw [HWT.out]; rfl, HB1.out⟩
  · have hm : min M 16384 = 16384 := by omega
    rw [hm, show (15 * (16384 : Int) + 16384 - 1).tdiv 16384 = 15 by decide] at HWT
    clear hm
    go_enter Tryz.func25, Tryz.ntmps25
    go_wp2_with fail
    refine (HD.out _).mono ?_
    rintro e w1 ⟨rfl, hb1⟩
    have HB1 := Lib.hid (((Below.refl _ w).alloc (Nat.le_refl _) (.cells #[.int .i64 ax, .int .i64 ay] 34)).alloc (by simp) (.cells #[.int .i64 bx, .int .i64 by_] 34) |>.trans (hb1.mono (by simp; omega)))
    clear hb1
    go_wp2_with fail
    go_ret
    exact ⟨by rw [HWT.out]; rfl, HB1.out⟩
end Go.Proofs.YtkiknbjokknemaaGreat
