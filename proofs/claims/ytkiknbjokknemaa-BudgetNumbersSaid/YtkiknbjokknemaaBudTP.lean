/-
  The reference's distance: diff, Abs, Cmp, Far, Dist.
-/
import Derived.Test.YtkiknbjokknemaaBudTOD
import Derived.LaidEqlPtr
namespace Go.Proofs.Ytkiknbjokknemaa
open Go.RowKit

set_option maxRecDepth 100000 in
set_option maxHeartbeats 1000000 in
theorem Big_any (w : World) (z : Int) (h1 : -9223372036854775808 ≤ z) (h2 : z ≤ 9223372036854775807) :
    Calls Try.prog 75 #[.int .i64 z] w (NewTo w z) := by
  have hl := Lib.hid (NewInt_any w z h1 h2)
  go_enter Try.func75, Try.ntmps75
  go_wp2_with fail
  refine hl.out.mono ?_
  rintro e w' ⟨b, rfl, r1, r2, r3⟩
  have HR := Lib.hid (And.intro r2 r3)
  clear r2 r3
  go_wp2_with fail
  go_ret
  exact ⟨b, rfl, r1, HR.out.1, HR.out.2⟩

/-- A number in a new block. -/
def DiffTo (w : World) (z : Int) (e : Ending) (w' : World) : Prop := ∃ b, e = .returned (.pointer (some ⟨b, 0, none⟩)) ∧ w.heap.size ≤ b ∧ Below w.heap.size w w' ∧ BigIs w' b z ∧ ∃ cs, Blk w' b 119 cs

set_option maxRecDepth 100000 in
set_option maxHeartbeats 1000000 in
theorem diff_any (w : World) (a b : Int) (ha : -9223372036854775808 ≤ a ∧ a ≤ 9223372036854775807) (hb : -9223372036854775808 ≤ b ∧ b ≤ 9223372036854775807) :
    Calls Try.prog 53 #[.int .i64 a, .int .i64 b] w (DiffTo w (b - a)) := by
  have hz := Blk.new w 119 #[.bool false, .slice none 0 0]
  have hb0 : Below w.heap.size w (w.alloc (.cells #[.bool false, .slice none 0 0] 119)) := (Below.refl _ _).alloc (Nat.le_refl _) _
  have h1 := Lib.hid (fun W => Big_any W b hb.1 hb.2)
  have h2 := Lib.hid (fun W => Big_any W a ha.1 ha.2)
  have H0 := Lib.hid (And.intro hz hb0)
  clear hz hb0
  go_enter Try.func53, Try.ntmps53
  go_wp2_with fail
  refine (h1.out _).mono ?_
  rintro e w1 ⟨bb, rfl, r1, r2, r3⟩
  have H1 := Lib.hid (And.intro r2 r3)
  clear r1 r2 r3
  go_wp2_with fail
  refine (h2.out _).mono ?_
  rintro e w2 ⟨ba, rfl, r1, r2, r3⟩
  have hs := IntSub_any w2 w.heap.size bb ba b a ((H0.out.1.below H1.out.1 H0.out.1.lt).below r2 (H0.out.1.below H1.out.1 H0.out.1.lt).lt) (H1.out.2.below r2) r3 (by omega)
  have HS := Lib.hid hs
  have hbel : Below w.heap.size w w2 := (H0.out.2.trans (H1.out.1.mono H0.out.2.size)).trans (r2.mono (Nat.le_trans H0.out.2.size H1.out.1.size))
  have HB := Lib.hid hbel
  clear hs hbel r1 r2 r3
  go_wp2_with fail
  refine HS.out.mono ?_
  rintro e w3 ⟨rfl, r1, r2⟩
  have HR := Lib.hid (And.intro r1 r2)
  clear r1 r2
  go_wp2_with fail
  go_ret
  exact ⟨w.heap.size, rfl, Nat.le_refl _, HB.out.trans (HR.out.1), HR.out.2⟩

theorem BigIs.abs {w : World} {b : Nat} {z : Int} (h : BigIs w b z) : BigIs (w.setCell ⟨b, 0, none⟩ (.bool false)) b (z.natAbs : Int) := by
  obtain ⟨A, n, c, h1, h2, h3, h4, h5⟩ := h
  refine ⟨A, n, c, ?_, ?_, ?_, h4, by omega⟩
  · rw [World.cell?_setCell_same _ _ _ h1, show decide ((z.natAbs : Int) < 0) = false by simp]
  · rw [World.cell?_setCell_other _ _ _ _ (by simp), h2]
  · rcases h3 with ⟨h, h'⟩ | ⟨h, h', g, off, ha, hc⟩
    · exact .inl ⟨by omega, h'⟩
    · refine .inr ⟨by omega, h', g, off, ha, ?_⟩
      rw [World.cell?_setCell_other _ _ _ _ ?_, hc]
      · rfl
      · intro e
        rw [← e, h1] at hc
        cases hc
theorem BigIs.far {w : World} {b b' : Nat} {z : Int} (h : BigIs w b z) (hne : b ≠ b') {u v : Bool} (hu : w.cell? ⟨b', 0, none⟩ = some (.bool u)) : BigIs (w.setCell ⟨b', 0, none⟩ (.bool v)) b z := by
  obtain ⟨A, n, c, h1, h2, h3, h4, h5⟩ := h
  refine ⟨A, n, c, ?_, ?_, ?_, h4, h5⟩
  · rw [World.cell?_setCell_far _ _ _ _ (by exact hne.symm), h1]
  · rw [World.cell?_setCell_far _ _ _ _ (by exact hne.symm), h2]
  · rcases h3 with ⟨h, h'⟩ | ⟨h, h', g, off, ha, hc⟩
    · exact .inl ⟨h, h'⟩
    · refine .inr ⟨h, h', g, off, ha, ?_⟩
      rw [World.cell?_setCell_other _ _ _ _ ?_, hc]
      intro e
      rw [← e, hu] at hc
      cases hc

theorem run_neq_same {P : Program} (w : World) {tp te : TypeId} {j : TypeInfo} (a : Addr) (hp : P.underlying tp = some (.pointer te)) (hte : P.info? te = some j) :
    (binOp .neq tp (.pointer (some a)) (.pointer (some a))).run P w = .ok (.bool false) w := by
  have h : ∀ d : Nat, (Op.equalIn (d + 1) tp (.pointer (some a)) (.pointer (some a))).run P w = .ok true w := fun d => by
    simp [Op.equalIn, run_underlying hp, sizeOf, typeInfo, hte, run_sameAddr_same]
  simp only [binOp]
  simp [Op.equal, Op.maxDepth, h 9999]

set_option maxRecDepth 100000 in
set_option maxHeartbeats 1000000 in
theorem Abs_any (w : World) (b : Nat) (z : Int) (h : BigIs w b z) (cs : Array Value) (hbl : Blk w b 119 cs) :
    Calls Try.prog 54 #[.pointer (some ⟨b, 0, none⟩), .pointer (some ⟨b, 0, none⟩)] w fun e w' => e = .returned (.pointer (some ⟨b, 0, none⟩)) ∧ w' = w.setCell ⟨b, 0, none⟩ (.bool false) := by
  obtain ⟨A, n, c, h1, -⟩ := h
  have hf := hbl.frozen 0
  have hpe := fun W => run_neq_same (P := Try.prog) W (tp := 90) (te := 119) (j := (Try.prog.info? 119).get (by decide +kernel)) ⟨b, 0, none⟩ Try.underlying90 (by simp)
  go_enter Try.func54, Try.ntmps54
  go_wp2
  go_ret
  exact ⟨rfl, rfl⟩

set_option maxRecDepth 100000 in
set_option maxHeartbeats 1000000 in
theorem Cmp_any (w : World) (b b' : Nat) (x y : Int) (hne : b ≠ b') (cs cs' : Array Value) (hbl : Blk w b 119 cs) (hbl' : Blk w b' 119 cs') (hx : BigIs w b x) (hy : BigIs w b' y) (hx0 : 0 ≤ x) (hy0 : 0 ≤ y) :
    Calls Try.prog 55 #[.pointer (some ⟨b, 0, none⟩), .pointer (some ⟨b', 0, none⟩)] w fun e w' => e = .returned (.int .i64 (ordI x y)) ∧ ∃ k, w' = w.drewN k := by
  obtain ⟨A, n, c, x1, x2, x3⟩ := hx.limbs
  obtain ⟨B, n', c', y1, y2, y3⟩ := hy.limbs
  rw [decide_eq_false (by omega)] at x1 y1
  have hc := fun W (hW : ∃ q, W = w.drewN q) => natCmp_any W A B n c n' c' x.natAbs y.natAbs (by obtain ⟨q, rfl⟩ := hW; exact x3) (by obtain ⟨q, rfl⟩ := hW; exact y3)
  rw [show ordI (x.natAbs : Int) (y.natAbs : Int) = ordI x y by rw [show (x.natAbs : Int) = x by omega, show (y.natAbs : Int) = y by omega]] at hc
  have hpe := run_eql_ptr_other (P := Try.prog) w (tp := 90) (te := 119) (a := ⟨b, 0, none⟩) (b := ⟨b', 0, none⟩) (j := (Try.prog.info? 119).get (by decide +kernel)) Try.underlying90 (by simp) (by decide +kernel) (by intro e; injection e with e1; exact hne e1) hbl hbl'
  obtain ⟨O, hO⟩ : ∃ O, O = ordI x y := ⟨_, rfl⟩
  rw [← hO] at hc ⊢
  have HC := Lib.hid hc
  clear hc hO
  go_enter Try.func55, Try.ntmps55
  go_wp2_with fail
  go_quiet (fail)
  go_wp2_with fail
  generalize hw1 : World.drewN w _ = w1
  have p1 : w1.cell? ⟨b, 1, none⟩ = some (.slice A n c) := by rw [← hw1]; exact x2
  have p2 : w1.cell? ⟨b', 1, none⟩ = some (.slice B n' c') := by rw [← hw1]; exact y2
  have p3 : w1.cell? ⟨b, 0, none⟩ = some (.bool false) := by rw [← hw1]; exact x1
  have hc2 := fun q => HC.out (w1.drewN q) (by rw [← hw1, World.drewN_drewN]; exact ⟨_, rfl⟩)
  have HC2 := Lib.hid hc2; have HW1 := Lib.hid hw1
  clear hc2 hw1 HC
  go_quiet ((go_at_call 77; with_reducible exact Calls.quiet_of (HC2.out _)))
  go_wp2_with fail
  go_ret
  exact ⟨rfl, _, by rw [← HW1.out, World.drewN_drewN]⟩

/-- The distance. -/
def farI (ax ay bx by_ : Int) : Int := max ((bx - ax).natAbs : Int) ((by_ - ay).natAbs : Int)

theorem BigIs.draws {w : World} {b : Nat} {z : Int} (h : BigIs w b z) (k : Nat) : BigIs (w.drewN k) b z := h
/-- Two numbers that lie apart, in new blocks. -/
def PairAt (w w' : World) (g1 g2 : Nat) (x y : Int) : Prop := (Below w.heap.size w w' ∧ w.heap.size ≤ g1 ∧ w.heap.size ≤ g2) ∧ g1 ≠ g2 ∧ BigIs w' g1 x ∧ BigIs w' g2 y ∧ (∃ cs, Blk w' g1 119 cs) ∧ ∃ cs, Blk w' g2 119 cs
theorem PairAt.swap {w w' : World} {g1 g2 : Nat} {x y : Int} (h : PairAt w w' g1 g2 x y) : PairAt w w' g2 g1 y x := ⟨⟨h.1.1, h.1.2.2, h.1.2.1⟩, h.2.1.symm, h.2.2.2.1, h.2.2.1, h.2.2.2.2.2, h.2.2.2.2.1⟩
theorem PairAt.of {w w0 w1 w2 : World} {g1 g2 : Nat} {x y : Int} (h0 : Below w.heap.size w w0) (a0 : w0.heap.size ≤ g1) (a1 : Below w0.heap.size w0 w1) (a2 : BigIs w1 g1 x) (a3 : ∃ cs, Blk w1 g1 119 cs) (b0 : w1.heap.size ≤ g2) (b1 : Below w1.heap.size w1 w2) (b2 : BigIs w2 g2 y) (b3 : ∃ cs, Blk w2 g2 119 cs) : PairAt w w2 g1 g2 x y := by
  obtain ⟨cs, hk⟩ := a3
  have hlt := hk.lt
  have hs0 := h0.size; have hs1 := a1.size
  exact ⟨⟨(h0.trans (a1.mono hs0)).trans (b1.mono (by omega)), by omega, by omega⟩, by omega, a2.below b1, b2, ⟨cs, hk.below b1 hlt⟩, b3⟩

/-- The two points in their boxes. -/
def S4 (W : World) (b : Nat) (ax ay bx by_ : Int) : Prop := W.cell? ⟨b, 0, none⟩ = some (.int .i64 ax) ∧ W.cell? ⟨b, 1, none⟩ = some (.int .i64 ay) ∧ W.cell? ⟨b + 1, 0, none⟩ = some (.int .i64 bx) ∧ W.cell? ⟨b + 1, 1, none⟩ = some (.int .i64 by_)
theorem S4.up {W W' : World} {b : Nat} {ax ay bx by_ : Int} (h : S4 W b ax ay bx by_) (hb : Below W.heap.size W W') : S4 W' b ax ay bx by_ := by
  have up : ∀ (a : Addr) (v : Value), W.cell? a = some v → W'.cell? a = some v := fun a v h => (hb.cell (World.block_lt_of_cell? W a h)).trans h
  exact ⟨up _ _ h.1, up _ _ h.2.1, up _ _ h.2.2.1, up _ _ h.2.2.2⟩

def FarTo (w : World) (z : Int) (e : Ending) (w' : World) : Prop := ∃ b, e = .returned (.pointer (some ⟨b, 0, none⟩)) ∧ Below w.heap.size w w' ∧ BigIs w' b z

set_option maxRecDepth 100000 in
set_option maxHeartbeats 4000000 in
theorem Far_any (w : World) (ax ay bx by_ : Int) (h1 : -9223372036854775808 ≤ ax ∧ ax ≤ 9223372036854775807) (h2 : -9223372036854775808 ≤ ay ∧ ay ≤ 9223372036854775807) (h3 : -9223372036854775808 ≤ bx ∧ bx ≤ 9223372036854775807) (h4 : -9223372036854775808 ≤ by_ ∧ by_ ≤ 9223372036854775807) :
    Calls Try.prog 41 #[.agg #[.int .i64 ax, .int .i64 ay], .agg #[.int .i64 bx, .int .i64 by_]] w (FarTo w (farI ax ay bx by_)) := by
  have d1 := Lib.hid (fun W => diff_any W ax bx h1 h3)
  have d2 := Lib.hid (fun W => diff_any W ay by_ h2 h4)
  clear h1 h2 h3 h4
  have k1 := (Blk.new w 23 #[.int .i64 ax, .int .i64 ay]).alloc (.cells #[.int .i64 bx, .int .i64 by_] 23)
  have k2 := Blk.new (w.alloc (.cells #[.int .i64 ax, .int .i64 ay] 23)) 23 #[.int .i64 bx, .int .i64 by_]
  rw [World.size_alloc] at k2
  have hb0 : Below w.heap.size w ((w.alloc (.cells #[.int .i64 ax, .int .i64 ay] 23)).alloc (.cells #[.int .i64 bx, .int .i64 by_] 23)) := ((Below.refl _ _).alloc (Nat.le_refl _) _).alloc (by rw [World.size_alloc]; omega) _
  have C0 : S4 (World.drew ((w.alloc (.cells #[.int .i64 ax, .int .i64 ay] 23)).alloc (.cells #[.int .i64 bx, .int .i64 by_] 23))) w.heap.size ax ay bx by_ := ⟨by rw [k1.drew.cell]; rfl, by rw [k1.drew.cell]; rfl, by rw [k2.drew.cell]; rfl, by rw [k2.drew.cell]; rfl⟩
  have UP := Lib.hid (fun W W' (h : S4 W w.heap.size ax ay bx by_) (hb : Below W.heap.size W W') => h.up hb)
  have HB0 := Lib.hid hb0.drew
  clear k1 k2 hb0
  unfold S4 at C0 UP
  go_enter Try.func41, Try.ntmps41
  go_wp2_with fail
  go_region_held3 (fun W => W.cell? ⟨w.heap.size, 0, none⟩ = some (.int .i64 ax) ∧ W.cell? ⟨w.heap.size, 1, none⟩ = some (.int .i64 ay) ∧ W.cell? ⟨w.heap.size + 1, 0, none⟩ = some (.int .i64 bx) ∧ W.cell? ⟨w.heap.size + 1, 1, none⟩ = some (.int .i64 by_))
    (first | with_reducible exact C0 | with_reducible exact CX | with_reducible exact CY)
    (first
      | (go_at_call_of 53 (Value.int .i64 ax); refine (d1.out _).mono ?_; rintro e wx ⟨gx, rfl, rx1, rx2, rx3⟩; have CX := UP.out _ _ (by first | exact C0 | exact CY) rx2; have HX := Lib.hid (And.intro rx1 (And.intro rx2 rx3)); clear rx1 rx2 rx3)
      | (go_at_call_of 53 (Value.int .i64 ay); refine (d2.out _).mono ?_; rintro e wy ⟨gy, rfl, ry1, ry2, ry3⟩; have CY := UP.out _ _ (by first | exact C0 | exact CX) ry2; have HY := Lib.hid (And.intro ry1 (And.intro ry2 ry3)); clear ry1 ry2 ry3))
  have hp := PairAt.of HB0.out HX.out.1 HX.out.2.1 HX.out.2.2.1 HX.out.2.2.2 HY.out.1 HY.out.2.1 HY.out.2.2.1 HY.out.2.2.2
  obtain ⟨hb, hne, hbx, hby, ⟨cs, hkx⟩, ⟨cs', hky⟩⟩ := hp
  clear HX HY CX CY C0
  generalize wy = W at hb hbx hby hkx hky ⊢
  clear UP d1 d2 HB0
  obtain ⟨dx, hdx⟩ : ∃ d, d = bx - ax := ⟨_, rfl⟩
  obtain ⟨dy, hdy⟩ : ∃ d, d = by_ - ay := ⟨_, rfl⟩
  rw [← hdx] at hbx
  rw [← hdy] at hby
  have hfar : farI ax ay bx by_ = max (dx.natAbs : Int) (dy.natAbs : Int) := by rw [hdx, hdy]; rfl
  clear hdx hdy
  obtain ⟨M, O, hM, hO, hcase⟩ : ∃ M O : Int, max (dx.natAbs : Int) (dy.natAbs : Int) = M ∧ ordI (dx.natAbs : Int) (dy.natAbs : Int) = O ∧ ((O = 1 ∧ M = dx.natAbs) ∨ (decide (0 < O) = false ∧ M = dy.natAbs)) := by
    refine ⟨_, _, rfl, rfl, ?_⟩
    by_cases hgt : (dy.natAbs : Int) < (dx.natAbs : Int)
    · left
      exact ⟨by unfold ordI; rw [if_neg (by omega), if_pos (by omega)], by omega⟩
    · right
      refine ⟨?_, by omega⟩
      unfold ordI
      split
      · decide
      · decide
  rw [hM] at hfar
  have HFAR := Lib.hid hfar
  clear hfar
  have a1 := Abs_any W gx dx hbx cs hkx
  have hbx1 := hbx.abs
  obtain ⟨u1, hu1⟩ : ∃ u, W.cell? ⟨gx, 0, none⟩ = some (.bool u) := by obtain ⟨_, _, _, h, -⟩ := hbx; exact ⟨_, h⟩
  have hby1 := hby.far hne.symm (v := false) hu1
  have hkx1 := hkx.set_ 0 (.bool false)
  have hky1 := hky.far (p := ⟨gx, 0, none⟩) hne.symm (.bool false)
  have hW1 : Below w.heap.size w (W.setCell ⟨gx, 0, none⟩ (.bool false)) := hb.1.setCell (p := ⟨gx, 0, none⟩) hb.2.1 _
  obtain ⟨W1, hw1⟩ : ∃ W1, W1 = W.setCell ⟨gx, 0, none⟩ (.bool false) := ⟨_, rfl⟩
  rw [← hw1] at a1 hbx1 hby1 hkx1 hky1 hW1
  have a2 := Abs_any W1 gy dy hby1 _ hky1
  have hby2 := hby1.abs
  obtain ⟨u2, hu2⟩ : ∃ u, W1.cell? ⟨gy, 0, none⟩ = some (.bool u) := by obtain ⟨_, _, _, h, -⟩ := hby1; exact ⟨_, h⟩
  have hbx2 := hbx1.far hne (v := false) hu2
  have hky2 := hky1.set_ 0 (.bool false)
  have hkx2 := hkx1.far (p := ⟨gy, 0, none⟩) hne (.bool false)
  have hW2 : Below w.heap.size w (W1.setCell ⟨gy, 0, none⟩ (.bool false)) := hW1.setCell (p := ⟨gy, 0, none⟩) hb.2.2 _
  obtain ⟨W2, hw2⟩ : ∃ W2, W2 = W1.setCell ⟨gy, 0, none⟩ (.bool false) := ⟨_, rfl⟩
  rw [← hw2] at a2 hby2 hbx2 hky2 hkx2 hW2
  have a3 := Cmp_any W2 gx gy (dx.natAbs : Int) (dy.natAbs : Int) hne _ _ hkx2 hky2 hbx2 hby2 (by omega) (by omega)
  rw [hO] at a3
  have A1 := Lib.hid a1; have A2 := Lib.hid a2; have A3 := Lib.hid a3; have HE := Lib.hid (And.intro hW2 (And.intro hbx2 hby2))
  clear a1 a2 a3 hM hO hbx hby hkx hky hbx1 hby1 hkx1 hky1 hbx2 hby2 hkx2 hky2 hu1 hu2 hW1 hW2 hw1 hw2 hb
  go_wp2_with fail
  refine A1.out.mono ?_
  rintro e _ ⟨rfl, rfl⟩
  go_wp2_with fail
  refine A2.out.mono ?_
  rintro e _ ⟨rfl, rfl⟩
  go_wp2_with fail
  refine A3.out.mono ?_
  rintro e _ ⟨rfl, kk, rfl⟩
  rcases hcase with ⟨rfl, rfl⟩ | ⟨hd, rfl⟩
  · go_wp2_with fail
    go_ret
    exact ⟨gx, rfl, drewK_ HE.out.1 kk, by rw [HFAR.out]; exact HE.out.2.1.draws kk⟩
  · go_wp2_with fail
    go_ret
    exact ⟨gy, rfl, drewK_ HE.out.1 kk, by rw [HFAR.out]; exact HE.out.2.2.draws kk⟩

set_option maxRecDepth 100000 in
set_option maxHeartbeats 1000000 in
theorem RDist_any (w : World) (ax ay bx by_ : Int) (h1 : -9223372036854775808 ≤ ax ∧ ax ≤ 9223372036854775807) (h2 : -9223372036854775808 ≤ ay ∧ ay ≤ 9223372036854775807) (h3 : -9223372036854775808 ≤ bx ∧ bx ≤ 9223372036854775807) (h4 : -9223372036854775808 ≤ by_ ∧ by_ ≤ 9223372036854775807) :
    Calls Try.prog 26 #[.agg #[.int .i64 ax, .int .i64 ay], .agg #[.int .i64 bx, .int .i64 by_]] w fun e w' => e = .returned (.int .i64 (min (farI ax ay bx by_) 9223372036854775807)) ∧ Below w.heap.size w w' := by
  have hf := Lib.hid (fun W => Far_any W ax ay bx by_ h1 h2 h3 h4)
  have h0 : 0 ≤ farI ax ay bx by_ := by unfold farI; omega
  have hs := Lib.hid (fun W b (h : BigIs W b (farI ax ay bx by_)) => Sat_pos W b _ h0 h)
  have hb0 := Lib.hid (show Below w.heap.size w ((w.alloc (.cells #[.int .i64 ax, .int .i64 ay] 23)).alloc (.cells #[.int .i64 bx, .int .i64 by_] 23)) from ((Below.refl _ _).alloc (Nat.le_refl _) _).alloc (by rw [World.size_alloc]; omega) _)
  clear h1 h2 h3 h4 h0
  go_enter Try.func26, Try.ntmps26
  go_wp2_with fail
  refine (hf.out _).mono ?_
  rintro e w1 ⟨b, rfl, r1, r2⟩
  have HR := Lib.hid (And.intro (hb0.out.trans (r1.mono hb0.out.size)) (hs.out _ _ r2))
  clear r1 r2
  go_wp2_with fail
  refine HR.out.2.mono ?_
  rintro e w2 ⟨rfl, rfl⟩
  go_wp2_with fail
  go_ret
  exact ⟨rfl, HR.out.1⟩
end Go.Proofs.Ytkiknbjokknemaa
