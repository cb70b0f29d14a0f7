/-
  WALKS of the reference's difference, order, first.
-/
import Derived.Test.YtkceefheeicmbaaRatBC
import Derived.Lib.QuietBelow
import Derived.BigQuiet
namespace Go.Proofs.Ytkceefheeicmbaa
open Go.RowKit Go.Sort

set_option maxHeartbeats 1000000 in
theorem refdiff_any (w : World) (x y : Tk) (R : Int) (hR : R = diffT x y) (hx : 0 ≤ x.rt ∧ x.rt ≤ 4000) (hy : 0 ≤ y.rt ∧ y.rt ≤ 4000) :
    Calls Try.prog 66 #[tV x, tV y] w fun e w' => e = .returned (.int .i64 R) ∧ Below w.heap.size w w' := by
  obtain ⟨x0, x1⟩ := hx
  obtain ⟨y0, y1⟩ := hy
  have hb := fun a b => ((Below.refl w.heap.size w).alloc (Nat.le_refl _) (.cells a 29)).alloc (by simp) (.cells b 29)
  have HB := Lib.hid hb
  have HR := Lib.hid hR
  clear hR hb
  by_cases h : y.rt < x.rt
  · have d : decide (y.rt < x.rt) = true := by simpa using h
    have HV : Hid (R = x.rt - y.rt) := Lib.hid (by rw [HR.out]; unfold diffT; omega)
    go_enter Try.func66, Try.ntmps66
    go_wp2
    go_ret
    exact ⟨by rw [HV.out]; rfl, HB.out _ _⟩
  · have d : decide (y.rt < x.rt) = false := by simpa using h
    have HV : Hid (R = y.rt - x.rt) := Lib.hid (by rw [HR.out]; unfold diffT; omega)
    go_enter Try.func66, Try.ntmps66
    go_wp2
    go_ret
    exact ⟨by rw [HV.out]; rfl, HB.out _ _⟩

def loT (x y : Tk) : Tk := if y.id < x.id then y else x
def hiT (x y : Tk) : Tk := if y.id < x.id then x else y
set_option maxHeartbeats 2000000 in
theorem order_any (w : World) (x y lo hi : Tk) (hlo : lo = loT x y) (hhi : hi = hiT x y) :
    Calls Try.prog 68 #[tV x, tV y] w fun e w' => e = .returned (.tuple #[tV lo, tV hi]) ∧ Below w.heap.size w w' := by
  have hb := fun a b c d => ((((Below.refl w.heap.size w).alloc (Nat.le_refl _) (.cells a 29)).alloc (by simp) (.cells b 29)).alloc (by simp; omega) (.cells c 29)).alloc (by simp; omega) (.cells d 29)
  have HB := Lib.hid hb
  clear hb
  by_cases h : y.id < x.id
  · have d : decide (y.id < x.id) = true := by simpa using h
    obtain rfl : lo = y := by rw [hlo, loT, if_pos h]
    obtain rfl : hi = x := by rw [hhi, hiT, if_pos h]
    clear hlo hhi h
    go_enter Try.func68, Try.ntmps68
    go_wp2
    go_region
    go_wp2
    exact bodyPost_ret (v := .tuple #[tV lo, tV hi]) (by simp [results, Try.results68, go_sem]) rfl ⟨rfl, Below.drewK (HB.out _ _ _ _) 1⟩
  · have d : decide (y.id < x.id) = false := by simpa using h
    obtain rfl : lo = x := by rw [hlo, loT, if_neg h]
    obtain rfl : hi = y := by rw [hhi, hiT, if_neg h]
    clear hlo hhi h
    go_enter Try.func68, Try.ntmps68
    go_wp2
    go_region
    go_wp2
    exact bodyPost_ret (v := .tuple #[tV lo, tV hi]) (by simp [results, Try.results68, go_sem]) rfl ⟨rfl, Below.drewK (HB.out _ _ _ _) 1⟩

theorem ltK_key (a b c d : Tk) : ltK (keyT a b) (keyT c d) = if diffT a b = diffT c d then (if a.si + b.si = c.si + d.si then (if (loT a b).id = (loT c d).id then decide ((hiT a b).id < (hiT c d).id) else decide ((loT a b).id < (loT c d).id)) else decide (a.si + b.si < c.si + d.si)) else decide (diffT a b < diffT c d) := by
  have e1 : (loT a b).id = min a.id b.id := by unfold loT; split <;> omega
  have e2 : (loT c d).id = min c.id d.id := by unfold loT; split <;> omega
  have e3 : (hiT a b).id = max a.id b.id := by unfold hiT; split <;> omega
  have e4 : (hiT c d).id = max c.id d.id := by unfold hiT; split <;> omega
  rw [Bool.eq_iff_iff, ltK_iff, e1, e2, e3, e4]
  unfold keyT
  simp only
  split
  · split
    · split
      · rw [decide_eq_true_eq]; omega
      · rw [decide_eq_true_eq]; omega
    · rw [decide_eq_true_eq]; omega
  · rw [decide_eq_true_eq]; omega

/-- Two tickets stored into two blocks. -/
def put2 (w : World) (g h : Nat) (x y : Tk) : World :=
  ((((((w.setCell ⟨g, 0, none⟩ (.int .i64 x.id)).setCell ⟨g, 1, none⟩ (.int .i64 x.rt)).setCell ⟨g, 2, none⟩ (.int .i64 x.si)).setCell ⟨h, 0, none⟩ (.int .i64 y.id)).setCell ⟨h, 1, none⟩ (.int .i64 y.rt)).setCell ⟨h, 2, none⟩ (.int .i64 y.si))
theorem put2_fst {w : World} {g h : Nat} {x y z : Tk} {t : TypeId} (hb : Blk w g t (tC z)) (hne : g ≠ h) : Blk (put2 w g h x y) g t (tC x) := by
  have h1 := ((hb.set_ 0 (.int .i64 x.id)).set_ 1 (.int .i64 x.rt)).set_ 2 (.int .i64 x.si)
  exact ((h1.far (p := ⟨h, 0, none⟩) hne _).far (p := ⟨h, 1, none⟩) hne _).far (p := ⟨h, 2, none⟩) hne _
theorem put2_snd {w : World} {g h : Nat} {x y z : Tk} {t : TypeId} (hb : Blk w h t (tC z)) (hne : g ≠ h) : Blk (put2 w g h x y) h t (tC y) := by
  have h1 := ((hb.far (p := ⟨g, 0, none⟩) (Ne.symm hne) (.int .i64 x.id)).far (p := ⟨g, 1, none⟩) (Ne.symm hne) (.int .i64 x.rt)).far (p := ⟨g, 2, none⟩) (Ne.symm hne) (.int .i64 x.si)
  exact ((h1.set_ 0 (.int .i64 y.id)).set_ 1 (.int .i64 y.rt)).set_ 2 (.int .i64 y.si)
theorem put2_far {w : World} {g h k : Nat} {x y : Tk} {t : TypeId} {cs : Array Value} (hb : Blk w k t cs) (h1 : k ≠ g) (h2 : k ≠ h) : Blk (put2 w g h x y) k t cs :=
  (((((hb.far (p := ⟨g, 0, none⟩) h1 _).far (p := ⟨g, 1, none⟩) h1 _).far (p := ⟨g, 2, none⟩) h1 _).far (p := ⟨h, 0, none⟩) h2 _).far (p := ⟨h, 1, none⟩) h2 _).far (p := ⟨h, 2, none⟩) h2 _
theorem put2_below {n0 g h : Nat} {w0 w : World} (hb : Below n0 w0 w) (h1 : n0 ≤ g) (h2 : n0 ≤ h) (x y : Tk) : Below n0 w0 (put2 w g h x y) :=
  (((((hb.setCell (p := ⟨g, 0, none⟩) h1 _).setCell (p := ⟨g, 1, none⟩) h1 _).setCell (p := ⟨g, 2, none⟩) h1 _).setCell (p := ⟨h, 0, none⟩) h2 _).setCell (p := ⟨h, 1, none⟩) h2 _).setCell (p := ⟨h, 2, none⟩) h2 _

set_option maxRecDepth 100000 in
set_option maxHeartbeats 4000000 in
theorem first_any (w : World) (a b c d : Tk) (ha : 0 ≤ a.rt ∧ a.rt ≤ 4000) (hb : 0 ≤ b.rt ∧ b.rt ≤ 4000) (hc : 0 ≤ c.rt ∧ c.rt ≤ 4000) (hd : 0 ≤ d.rt ∧ d.rt ≤ 4000)
    (sa : 0 ≤ a.si ∧ a.si ≤ 1073741824) (sb : 0 ≤ b.si ∧ b.si ≤ 1073741824) (sc : 0 ≤ c.si ∧ c.si ≤ 1073741824) (sd : 0 ≤ d.si ∧ d.si ≤ 1073741824) (R : Bool) (hR : R = ltK (keyT a b) (keyT c d)) :
    Calls Try.prog 67 #[tV a, tV b, tV c, tV d] w fun e w' => e = .returned (.bool R) ∧ Below w.heap.size w w' := by
  rw [ltK_key a b c d] at hR
  obtain ⟨D1, hD1⟩ : ∃ D, D = diffT a b := ⟨_, rfl⟩
  obtain ⟨D2, hD2⟩ : ∃ D, D = diffT c d := ⟨_, rfl⟩
  rw [← hD1, ← hD2] at hR
  obtain ⟨sa0, sa1⟩ := sa
  obtain ⟨sb0, sb1⟩ := sb
  obtain ⟨sc0, sc1⟩ := sc
  obtain ⟨sd0, sd1⟩ := sd
  obtain ⟨W, hW⟩ : ∃ W, W = (((w.alloc (.cells (tC a) 29)).alloc (.cells (tC b) 29)).alloc (.cells (tC c) 29)).alloc (.cells (tC d) 29) := ⟨_, rfl⟩
  have B1 : Blk W w.heap.size 29 (tC a) := by rw [hW]; exact (((Blk.new w _ _).alloc _).alloc _).alloc _
  have B2 : Blk W (w.heap.size + 1) 29 (tC b) := by
    rw [hW]; have := (Blk.new (w.alloc (.cells (tC a) 29)) 29 (tC b)); rw [World.size_alloc] at this; exact (this.alloc _).alloc _
  have B3 : Blk W (w.heap.size + 1 + 1) 29 (tC c) := by
    rw [hW]; have := (Blk.new ((w.alloc (.cells (tC a) 29)).alloc (.cells (tC b) 29)) 29 (tC c)); rw [World.size_alloc, World.size_alloc] at this; exact this.alloc _
  have B4 : Blk W (w.heap.size + 1 + 1 + 1) 29 (tC d) := by
    rw [hW]; have := (Blk.new (((w.alloc (.cells (tC a) 29)).alloc (.cells (tC b) 29)).alloc (.cells (tC c) 29)) 29 (tC d)); rw [World.size_alloc, World.size_alloc, World.size_alloc] at this; exact this
  have hbw : Below w.heap.size w W := by
    rw [hW]; exact ((((Below.refl w.heap.size w).alloc (Nat.le_refl _) _).alloc (by simp) _).alloc (by simp; omega) _).alloc (by simp; omega) _
  obtain ⟨N, hN⟩ : ∃ N, N = w.heap.size := ⟨_, rfl⟩
  have hcd1 : ∀ W dd os, Calls Try.prog 66 #[tV a, tV b] (grow (redrawn W dd) os) fun e w'' => e = .returned (.int .i64 D1) ∧ ∃ p : Regrown, w'' = grow (redrawn W p.d) p.os := fun W dd os => Calls.regrown_of (refdiff_any _ a b D1 hD1 ha hb)
  have hcd2 : ∀ W dd os, Calls Try.prog 66 #[tV c, tV d] (grow (redrawn W dd) os) fun e w'' => e = .returned (.int .i64 D2) ∧ ∃ p : Regrown, w'' = grow (redrawn W p.d) p.os := fun W dd os => Calls.regrown_of (refdiff_any _ c d D2 hD2 hc hd)
  have HB1 := Lib.hid B1; have HB2 := Lib.hid B2; have HB3 := Lib.hid B3; have HB4 := Lib.hid B4; have HBW := Lib.hid hbw; have HW := Lib.hid hW; have HN := Lib.hid hN; have HC1 := Lib.hid hcd1; have HC2 := Lib.hid hcd2; have HR := Lib.hid hR
  clear B1 B2 B3 B4 hbw hW hN hcd1 hcd2 hR hD1 hD2 ha hb hc hd
  rw [← HN.out] at HB1 HB2 HB3 HB4
  go_enter Try.func67, Try.ntmps67
  go_wp2_with fail
  rw [← HW.out, ← HN.out]
  have a0 := HB1.out.cell 0
  have a1 := HB1.out.cell 1
  have a2 := HB1.out.cell 2
  have b0 := HB2.out.cell 0
  have b1 := HB2.out.cell 1
  have b2 := HB2.out.cell 2
  have c0 := HB3.out.cell 0
  have c1 := HB3.out.cell 1
  have c2 := HB3.out.cell 2
  have d0 := HB4.out.cell 0
  have d1 := HB4.out.cell 1
  have d2 := HB4.out.cell 2
  simp only [List.getElem?_toArray, List.getElem?_cons_zero, List.getElem?_cons_succ] at a0 a1 a2 b0 b1 b2 c0 c1 c2 d0 d1 d2
  refine wp_region_quiet_below (by kernel_rfl) (by kernel_rfl) ?_
  have va0 := cell_regrown a0
  have va1 := cell_regrown a1
  have va2 := cell_regrown a2
  have vb0 := cell_regrown b0
  have vb1 := cell_regrown b1
  have vb2 := cell_regrown b2
  have vc0 := cell_regrown c0
  have vc1 := cell_regrown c1
  have vc2 := cell_regrown c2
  have vd0 := cell_regrown d0
  have vd1 := cell_regrown d1
  have vd2 := cell_regrown d2
  repeat (go_big_quiet_step (first | with_reducible exact HC1.out _ _ _ | with_reducible exact HC2.out _ _ _))
  refine wpQuiet_nil ?_
  intro wz hw'
  obtain ⟨⟨dq, osq⟩, hw''⟩ := hw'
  have hbq := below_regrown W dq osq
  obtain ⟨w9, hw9⟩ : ∃ w9, w9 = grow (redrawn W dq) osq := ⟨_, rfl⟩
  rw [← hw9] at hbq
  have hw10 := hw''.trans hw9.symm
  subst hw10
  have HB1z := Lib.hid (HB1.out.below hbq HB1.out.lt); have HB2z := Lib.hid (HB2.out.below hbq HB2.out.lt); have HB3z := Lib.hid (HB3.out.below hbq HB3.out.lt); have HB4z := Lib.hid (HB4.out.below hbq HB4.out.lt); have HBZ := Lib.hid (below_then HBW.out hbq)
  clear va0 va1 va2 vb0 vb1 vb2 vc0 vc1 vc2 vd0 vd1 vd2 a0 a1 a2 b0 b1 b2 c0 c1 c2 d0 d1 d2 hw'' hw9
  clear hbq HB1 HB2 HB3 HB4 HW HBW
  have a0 := HB1z.out.cell 0
  have a1 := HB1z.out.cell 1
  have a2 := HB1z.out.cell 2
  have b0 := HB2z.out.cell 0
  have b1 := HB2z.out.cell 1
  have b2 := HB2z.out.cell 2
  have c0 := HB3z.out.cell 0
  have c1 := HB3z.out.cell 1
  have c2 := HB3z.out.cell 2
  have d0 := HB4z.out.cell 0
  have d1 := HB4z.out.cell 1
  have d2 := HB4z.out.cell 2
  simp only [List.getElem?_toArray, List.getElem?_cons_zero, List.getElem?_cons_succ] at a0 a1 a2 b0 b1 b2 c0 c1 c2 d0 d1 d2
  by_cases e1 : D1 = D2
  rotate_left
  · have n1 : (D1 != D2) = true := by simpa using e1
    have HV : Hid (R = decide (D1 < D2)) := Lib.hid (by rw [HR.out, if_neg e1])
    clear e1
    go_wp2_with fail
    refine wp_region_quiet_below (by kernel_rfl) (by kernel_rfl) ?_
    have va0 := cell_regrown a0
    have va1 := cell_regrown a1
    have va2 := cell_regrown a2
    have vb0 := cell_regrown b0
    have vb1 := cell_regrown b1
    have vb2 := cell_regrown b2
    have vc0 := cell_regrown c0
    have vc1 := cell_regrown c1
    have vc2 := cell_regrown c2
    have vd0 := cell_regrown d0
    have vd1 := cell_regrown d1
    have vd2 := cell_regrown d2
    repeat (go_big_quiet_step (first | with_reducible exact HC1.out _ _ _ | with_reducible exact HC2.out _ _ _))
    refine wpQuiet_nil ?_
    intro wy hw'
    obtain ⟨⟨dq, osq⟩, hw''⟩ := hw'
    have hbq := below_regrown wz dq osq
    obtain ⟨w9, hw9⟩ : ∃ w9, w9 = grow (redrawn wz dq) osq := ⟨_, rfl⟩
    rw [← hw9] at hbq
    have hw10 := hw''.trans hw9.symm
    subst hw10
    have HF := Lib.hid (below_then HBZ.out hbq)
    clear va0 va1 va2 vb0 vb1 vb2 vc0 vc1 vc2 vd0 vd1 vd2 a0 a1 a2 b0 b1 b2 c0 c1 c2 d0 d1 d2 hw'' hw9
    clear hbq
    go_wp2_with fail
    go_ret
    exact ⟨by rw [HV.out]; rfl, HF.out⟩
  have n1 : (D1 != D2) = false := by simpa using e1
  have HR2 := Lib.hid HR.out
  rw [if_pos e1] at HR2
  clear e1 HR
  obtain ⟨S1, hS1⟩ : ∃ S, S = a.si + b.si := ⟨_, rfl⟩
  obtain ⟨S2, hS2⟩ : ∃ S, S = c.si + d.si := ⟨_, rfl⟩
  rw [← hS1, ← hS2] at HR2
  have q1 : IntKind.i64.wrap (a.si + b.si) = S1 := by rw [hS1]; exact IntWalk.i64_in _ (by omega)
  have q2 : IntKind.i64.wrap (c.si + d.si) = S2 := by rw [hS2]; exact IntWalk.i64_in _ (by omega)
  have hS1' := hS1.symm; have hS2' := hS2.symm
  clear hS1 hS2 HC1 HC2
  by_cases e2 : S1 = S2
  rotate_left
  · have n2 : (S1 != S2) = true := by simpa using e2
    have HV : Hid (R = decide (S1 < S2)) := Lib.hid (by rw [HR2.out, if_neg e2])
    clear e2
    go_wp2_with fail
    go_ret
    exact ⟨by rw [HV.out]; rfl, HBZ.out⟩
  have n2 : (S1 != S2) = false := by simpa using e2
  have HR3 := Lib.hid HR2.out
  rw [if_pos e2] at HR3
  clear e2 HR2
  obtain ⟨p, hp⟩ : ∃ p, p = loT a b := ⟨_, rfl⟩
  obtain ⟨q, hq⟩ : ∃ p, p = hiT a b := ⟨_, rfl⟩
  obtain ⟨r, hr⟩ : ∃ p, p = loT c d := ⟨_, rfl⟩
  obtain ⟨s, hs⟩ : ∃ p, p = hiT c d := ⟨_, rfl⟩
  rw [← hp, ← hq, ← hr, ← hs] at HR3
  have HO1 := Lib.hid (fun W => order_any W a b p q hp hq); have HO2 := Lib.hid (fun W => order_any W c d r s hr hs)
  clear hp hq hr hs
  go_upto_region 6 with (go_at_call 68; refine (HO1.out _).mono ?_; rintro e wy ⟨rfl, hby⟩; have HBY := Lib.hid (below_then HBZ.out hby); have HB1y := Lib.hid (HB1z.out.below hby HB1z.out.lt); have HB2y := Lib.hid (HB2z.out.below hby HB2z.out.lt); have HB3y := Lib.hid (HB3z.out.below hby HB3z.out.lt); have HB4y := Lib.hid (HB4z.out.below hby HB4z.out.lt); clear hby HB1z HB2z HB3z HB4z HBZ a0 a1 a2 b0 b1 b2 c0 c1 c2 d0 d1 d2; have f0 := HB1y.out.frozen 0; have f1 := HB1y.out.frozen 1; have f2 := HB1y.out.frozen 2; have g0 := HB2y.out.frozen 0; have g1 := HB2y.out.frozen 1; have g2 := HB2y.out.frozen 2; have a0 := HB1y.out.cell 0; have a1 := HB1y.out.cell 1; have a2 := HB1y.out.cell 2; have b0 := HB2y.out.cell 0; have b1 := HB2y.out.cell 1; have b2 := HB2y.out.cell 2; simp only [List.getElem?_toArray, List.getElem?_cons_zero, List.getElem?_cons_succ] at a0 a1 a2 b0 b1 b2)
  obtain ⟨V, hV⟩ : ∃ V, V = put2 wy N (N + 1) p q := ⟨_, rfl⟩
  have k1 : Blk V N 29 (tC p) := by rw [hV]; exact put2_fst HB1y.out (by omega)
  have k2 : Blk V (N + 1) 29 (tC q) := by rw [hV]; exact put2_snd HB2y.out (by omega)
  have k3 : Blk V (N + 1 + 1) 29 (tC c) := by rw [hV]; exact put2_far HB3y.out (by omega) (by omega)
  have k4 : Blk V (N + 1 + 1 + 1) 29 (tC d) := by rw [hV]; exact put2_far HB4y.out (by omega) (by omega)
  have hbv : Below w.heap.size w V := by rw [hV]; exact put2_below HBY.out (by rw [HN.out]; exact Nat.le_refl _) (by rw [HN.out]; omega) p q
  have HK1 := Lib.hid k1; have HK2 := Lib.hid k2; have HK3 := Lib.hid k3; have HK4 := Lib.hid k4; have HBV := Lib.hid hbv
  have hV' : ((((((wy.setCell ⟨N, 0, none⟩ (.int .i64 p.id)).setCell ⟨N, 1, none⟩ (.int .i64 p.rt)).setCell ⟨N, 2, none⟩ (.int .i64 p.si)).setCell ⟨N + 1, 0, none⟩ (.int .i64 q.id)).setCell ⟨N + 1, 1, none⟩ (.int .i64 q.rt)).setCell ⟨N + 1, 2, none⟩ (.int .i64 q.si)) = V := hV.symm
  rw [hV']
  clear k1 k2 k3 k4 hbv hV hV' HB1y HB2y HB3y HB4y HBY a0 a1 a2 b0 b1 b2 f0 f1 f2 g0 g1 g2 HO1
  have c0 := HK3.out.cell 0
  have c1 := HK3.out.cell 1
  have c2 := HK3.out.cell 2
  have d0 := HK4.out.cell 0
  have d1 := HK4.out.cell 1
  have d2 := HK4.out.cell 2
  simp only [List.getElem?_toArray, List.getElem?_cons_zero, List.getElem?_cons_succ] at c0 c1 c2 d0 d1 d2
  go_upto_region 7 with (go_at_call 68; refine (HO2.out _).mono ?_; rintro e wx ⟨rfl, hbx⟩; have HBX := Lib.hid (below_then HBV.out hbx); have HL1 := Lib.hid (HK1.out.below hbx HK1.out.lt); have HL2 := Lib.hid (HK2.out.below hbx HK2.out.lt); have HL3 := Lib.hid (HK3.out.below hbx HK3.out.lt); have HL4 := Lib.hid (HK4.out.below hbx HK4.out.lt); clear hbx HK1 HK2 HK3 HK4 HBV c0 c1 c2 d0 d1 d2; have f0 := HL3.out.frozen 0; have f1 := HL3.out.frozen 1; have f2 := HL3.out.frozen 2; have g0 := HL4.out.frozen 0; have g1 := HL4.out.frozen 1; have g2 := HL4.out.frozen 2; have c0 := HL3.out.cell 0; have c1 := HL3.out.cell 1; have c2 := HL3.out.cell 2; have d0 := HL4.out.cell 0; have d1 := HL4.out.cell 1; have d2 := HL4.out.cell 2; simp only [List.getElem?_toArray, List.getElem?_cons_zero, List.getElem?_cons_succ] at c0 c1 c2 d0 d1 d2)
  obtain ⟨U, hU⟩ : ∃ V, V = put2 wx (N + 1 + 1) (N + 1 + 1 + 1) r s := ⟨_, rfl⟩
  have k1 : Blk U N 29 (tC p) := by rw [hU]; exact put2_far HL1.out (by omega) (by omega)
  have k2 : Blk U (N + 1) 29 (tC q) := by rw [hU]; exact put2_far HL2.out (by omega) (by omega)
  have k3 : Blk U (N + 1 + 1) 29 (tC r) := by rw [hU]; exact put2_fst HL3.out (by omega)
  have k4 : Blk U (N + 1 + 1 + 1) 29 (tC s) := by rw [hU]; exact put2_snd HL4.out (by omega)
  have hbu : Below w.heap.size w U := by rw [hU]; exact put2_below HBX.out (by rw [HN.out]; omega) (by rw [HN.out]; omega) r s
  have HK1 := Lib.hid k1; have HK2 := Lib.hid k2; have HK3 := Lib.hid k3; have HK4 := Lib.hid k4; have HBU := Lib.hid hbu
  have hU' : ((((((wx.setCell ⟨N + 1 + 1, 0, none⟩ (.int .i64 r.id)).setCell ⟨N + 1 + 1, 1, none⟩ (.int .i64 r.rt)).setCell ⟨N + 1 + 1, 2, none⟩ (.int .i64 r.si)).setCell ⟨N + 1 + 1 + 1, 0, none⟩ (.int .i64 s.id)).setCell ⟨N + 1 + 1 + 1, 1, none⟩ (.int .i64 s.rt)).setCell ⟨N + 1 + 1 + 1, 2, none⟩ (.int .i64 s.si)) = U := hU.symm
  rw [hU']
  clear k1 k2 k3 k4 hbu hU hU' HL1 HL2 HL3 HL4 HBX c0 c1 c2 d0 d1 d2 f0 f1 f2 g0 g1 g2 HO2
  have a0 := HK1.out.cell 0
  have a1 := HK1.out.cell 1
  have a2 := HK1.out.cell 2
  have b0 := HK2.out.cell 0
  have b1 := HK2.out.cell 1
  have b2 := HK2.out.cell 2
  have c0 := HK3.out.cell 0
  have c1 := HK3.out.cell 1
  have c2 := HK3.out.cell 2
  have d0 := HK4.out.cell 0
  have d1 := HK4.out.cell 1
  have d2 := HK4.out.cell 2
  simp only [List.getElem?_toArray, List.getElem?_cons_zero, List.getElem?_cons_succ] at a0 a1 a2 b0 b1 b2 c0 c1 c2 d0 d1 d2
  by_cases e3 : p.id = r.id
  · have n3 : (p.id != r.id) = false := by simpa using e3
    have HV : Hid (R = decide (q.id < s.id)) := Lib.hid (by rw [HR3.out, if_pos e3])
    clear e3
    go_wp2_with fail
    go_ret
    exact ⟨by rw [HV.out]; rfl, HBU.out⟩
  · have n3 : (p.id != r.id) = true := by simpa using e3
    have HV : Hid (R = decide (p.id < r.id)) := Lib.hid (by rw [HR3.out, if_neg e3])
    clear e3
    go_wp2_with fail
    go_ret
    exact ⟨by rw [HV.out]; rfl, HBU.out⟩
end Go.Proofs.Ytkceefheeicmbaa
