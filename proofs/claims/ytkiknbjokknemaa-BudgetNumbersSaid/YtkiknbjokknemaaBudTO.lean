/-
  math/big: Int.Sub of numbers of one limb.
-/
import Derived.Test.YtkiknbjokknemaaBudTN
namespace Go.Proofs.Ytkiknbjokknemaa
open Go.RowKit

/-- A number keeps where its blocks lie as they lay. -/
theorem BigIs.below {w w' : World} {b : Nat} {z : Int} (h : BigIs w b z) (hb : Below w.heap.size w w') : BigIs w' b z := by
  obtain ⟨A, n, c, h1, h2, h3, h4, h5⟩ := h
  have up : ∀ (a : Addr) (v : Value), w.cell? a = some v → w'.cell? a = some v := fun a v h => (hb.cell (World.block_lt_of_cell? w a h)).trans h
  refine ⟨A, n, c, up _ _ h1, up _ _ h2, ?_, h4, h5⟩
  rcases h3 with h | ⟨h, h', g, off, ha, hc⟩
  · exact .inl h
  · exact .inr ⟨h, h', g, off, ha, up _ _ hc⟩
theorem BigIs.limbs {w : World} {b : Nat} {z : Int} (h : BigIs w b z) : ∃ (A : Option Addr) (n c : Nat), w.cell? ⟨b, 0, none⟩ = some (.bool (decide (z < 0))) ∧ w.cell? ⟨b, 1, none⟩ = some (.slice A n c) ∧ LimbAt w A n c z.natAbs := by
  obtain ⟨A, n, c, h1, h2, h3, h4, h5⟩ := h
  refine ⟨A, n, c, h1, h2, ?_, h4⟩
  rcases h3 with ⟨h, h'⟩ | ⟨h, h', g, off, ha, hc⟩
  · exact .inl ⟨by omega, h'⟩
  · exact .inr ⟨by omega, h', g, off, ha, hc⟩
/-- What Sub comes to: the number at bz. -/
def SubTo (w : World) (bz : Nat) (z : Int) (e : Ending) (w' : World) : Prop := e = .returned (.pointer (some ⟨bz, 0, none⟩)) ∧ Below bz w w' ∧ BigIs w' bz z ∧ ∃ cs, Blk w' bz 119 cs
/-- The end of Sub: the limb is laid down, then the sign. -/
theorem sub_end {w w3 : World} {bz : Nat} {z : Int} {A : Option Addr} {n c : Nat} {m : Nat} (hz : Blk w bz 119 #[.bool false, .slice none 0 0]) (hb : Below w.heap.size w w3) (hl : LimbAt w3 A n c m) (hm : m = z.natAbs) (hm2 : m ≤ 18446744073709551615) (neg : Bool) (hneg : neg = decide (z < 0)) :
    SubTo w bz z (.returned (.pointer (some ⟨bz, 0, none⟩))) ((w3.setCell ⟨bz, 1, none⟩ (.slice A n c)).setCell ⟨bz, 0, none⟩ (.bool neg)) := by
  have b3 : Blk w3 bz 119 #[.bool false, .slice none 0 0] := hz.below hb hz.lt
  have b5 := (b3.set_ 1 (.slice A n c)).set_ 0 (.bool neg)
  simp only [List.setIfInBounds_toArray, List.set_cons_zero, List.set_cons_succ] at b5
  refine ⟨rfl, ((hb.mono (Nat.le_of_lt hz.lt)).setCell (p := ⟨bz, 1, none⟩) (Nat.le_refl _) _).setCell (p := ⟨bz, 0, none⟩) (Nat.le_refl _) _, ⟨A, n, c, ?_, ?_, ?_, hl.2, by omega⟩, _, b5⟩
  · rw [b5.cell, hneg]; rfl
  · rw [b5.cell]; rfl
  · rcases hl.1 with ⟨h1, h2⟩ | ⟨h1, h2, g, off, h3, h4⟩
    · exact .inl ⟨by omega, h2⟩
    · refine .inr ⟨by omega, h2, g, off, h3, ?_⟩
      have hne : g ≠ bz := by
        rintro rfl
        rw [b3.cell] at h4
        rcases off with _ | _ | off
        · simp at h4
        · simp at h4
        · simp at h4
      rw [World.cell?_setCell_far _ _ _ _ (by exact hne.symm), World.cell?_setCell_far _ _ _ _ (by exact hne.symm), h4, hm]

set_option maxRecDepth 100000 in
set_option maxHeartbeats 4000000 in
theorem IntSub_np (w : World) (bz bx by_ : Nat) (x y : Int) (hz : Blk w bz 119 #[.bool false, .slice none 0 0]) (hX : BigIs w bx x) (hY : BigIs w by_ y) (hx : x < 0) (hy : 0 ≤ y) (hm : y - x ≤ 18446744073709551615) :
    Calls Try.prog 74 #[.pointer (some ⟨bz, 0, none⟩), .pointer (some ⟨bx, 0, none⟩), .pointer (some ⟨by_, 0, none⟩)] w (SubTo w bz (x - y)) := by
  have hxm : x.natAbs ≤ 18446744073709551615 := by obtain ⟨_, _, _, -, -, -, -, h⟩ := hX; exact h
  have hym : y.natAbs ≤ 18446744073709551615 := by obtain ⟨_, _, _, -, -, -, -, h⟩ := hY; exact h
  obtain ⟨A, n, c, x1, x2, x3⟩ := hX.limbs
  obtain ⟨B, n', c', y1, y2, y3⟩ := hY.limbs
  rw [show decide (x < 0) = true by simp; omega] at x1
  rw [show decide (y < 0) = false by simp; omega] at y1
  have z0 := hz.cell 0; have z1 := hz.cell 1; have f0 := hz.frozen 0; have f1 := hz.frozen 1
  simp only [List.getElem?_toArray, List.getElem?_cons_zero, List.getElem?_cons_succ] at z0 z1
  have HXM := Lib.hid hxm; have HYM := Lib.hid hym
  clear hxm hym
  go_enter Try.func74, Try.ntmps74
  go_wp2_with fail
  go_quiet (fail)
  go_wp2_with fail
  generalize hwq : World.drewN w _ = wq
  have q0 : wq.cell? ⟨bz, 1, none⟩ = some (.slice none 0 0) := by rw [← hwq]; exact z1
  have q1 : wq.cell? ⟨bx, 1, none⟩ = some (.slice A n c) := by rw [← hwq]; exact x2
  have q2 : wq.cell? ⟨by_, 1, none⟩ = some (.slice B n' c') := by rw [← hwq]; exact y2
  have hzq : Blk wq bz 119 #[.bool false, .slice none 0 0] := by rw [← hwq]; exact hz
  have HA := Lib.hid (natAdd_any wq.drew A B n c n' c' x.natAbs y.natAbs (by rw [← hwq]; exact x3) (by rw [← hwq]; exact y3) (by omega))
  have hF := fun (w3 : World) (hb : Below wq.drew.heap.size wq.drew w3) => show w3.cell? ⟨bz, 1, none⟩ = some (.slice none 0 0) ∧ w3.frozen? ⟨bz, 1, none⟩ = false from
    ⟨by rw [((hzq.drew).below hb hzq.lt).cell]; rfl, ((hzq.drew).below hb hzq.lt).frozen 1⟩
  have F := Lib.hid hF; have HQ := Lib.hid hwq
  clear hF hzq hwq
  go_region_with (go_at_call 83; refine HA.out.mono ?_; rintro e w3 ⟨A3, n3, c3, rfl, r1, r2, r3, r4⟩; obtain ⟨F1, F2⟩ := F.out w3 r3)
  all_goals
    have r3' : Below w.heap.size w w3 := (show Below w.heap.size w wq.drew from by rw [← HQ.out]; exact drewK_ (Below.refl _ _) _ |>.drew).trans (r3.mono (by rw [← HQ.out]; exact Nat.le_refl _))
    have hn3 : n3 = 1 := by
      rcases r4.1 with ⟨h, -⟩ | ⟨-, h, -⟩
      · omega
      · exact h
    subst hn3
    have e0 := ((hz.below r3' hz.lt).set_ 1 (.slice A3 1 c3)).cell 0
    have e1 := ((hz.below r3' hz.lt).set_ 1 (.slice A3 1 c3)).cell 1
    have e2 := ((hz.below r3' hz.lt).set_ 1 (.slice A3 1 c3)).frozen 0
    simp only [List.setIfInBounds_toArray, List.set_cons_zero, List.set_cons_succ, List.getElem?_toArray, List.getElem?_cons_zero, List.getElem?_cons_succ] at e0 e1
    have HE := Lib.hid (sub_end (z := x - y) hz r3' r4 (by omega) (by have := HXM.out; have := HYM.out; omega) true (by simp; omega))
    generalize w3.setCell ⟨bz, 1, none⟩ (.slice A3 1 c3) = w4 at e0 e1 e2 HE ⊢
    clear r3' r3 r4 F1 F2 HA F
    go_wp2_with fail
    go_ret
    exact HE.out

set_option maxRecDepth 100000 in
set_option maxHeartbeats 4000000 in
theorem IntSub_pn (w : World) (bz bx by_ : Nat) (x y : Int) (hz : Blk w bz 119 #[.bool false, .slice none 0 0]) (hX : BigIs w bx x) (hY : BigIs w by_ y) (hx : 0 ≤ x) (hy : y < 0) (hm : x - y ≤ 18446744073709551615) :
    Calls Try.prog 74 #[.pointer (some ⟨bz, 0, none⟩), .pointer (some ⟨bx, 0, none⟩), .pointer (some ⟨by_, 0, none⟩)] w (SubTo w bz (x - y)) := by
  have hxm : x.natAbs ≤ 18446744073709551615 := by obtain ⟨_, _, _, -, -, -, -, h⟩ := hX; exact h
  have hym : y.natAbs ≤ 18446744073709551615 := by obtain ⟨_, _, _, -, -, -, -, h⟩ := hY; exact h
  obtain ⟨A, n, c, x1, x2, x3⟩ := hX.limbs
  obtain ⟨B, n', c', y1, y2, y3⟩ := hY.limbs
  rw [show decide (x < 0) = false by simp; omega] at x1
  rw [show decide (y < 0) = true by simp; omega] at y1
  have z0 := hz.cell 0; have z1 := hz.cell 1; have f0 := hz.frozen 0; have f1 := hz.frozen 1
  simp only [List.getElem?_toArray, List.getElem?_cons_zero, List.getElem?_cons_succ] at z0 z1
  have HXM := Lib.hid hxm; have HYM := Lib.hid hym
  clear hxm hym
  go_enter Try.func74, Try.ntmps74
  go_wp2_with fail
  go_quiet (fail)
  go_wp2_with fail
  generalize hwq : World.drewN w _ = wq
  have q0 : wq.cell? ⟨bz, 1, none⟩ = some (.slice none 0 0) := by rw [← hwq]; exact z1
  have q1 : wq.cell? ⟨bx, 1, none⟩ = some (.slice A n c) := by rw [← hwq]; exact x2
  have q2 : wq.cell? ⟨by_, 1, none⟩ = some (.slice B n' c') := by rw [← hwq]; exact y2
  have hzq : Blk wq bz 119 #[.bool false, .slice none 0 0] := by rw [← hwq]; exact hz
  have HA := Lib.hid (natAdd_any wq.drew A B n c n' c' x.natAbs y.natAbs (by rw [← hwq]; exact x3) (by rw [← hwq]; exact y3) (by omega))
  have hF := fun (w3 : World) (hb : Below wq.drew.heap.size wq.drew w3) => show w3.cell? ⟨bz, 1, none⟩ = some (.slice none 0 0) ∧ w3.frozen? ⟨bz, 1, none⟩ = false from
    ⟨by rw [((hzq.drew).below hb hzq.lt).cell]; rfl, ((hzq.drew).below hb hzq.lt).frozen 1⟩
  have F := Lib.hid hF; have HQ := Lib.hid hwq
  clear hF hzq hwq
  go_region_with (go_at_call 83; refine HA.out.mono ?_; rintro e w3 ⟨A3, n3, c3, rfl, r1, r2, r3, r4⟩; obtain ⟨F1, F2⟩ := F.out w3 r3)
  all_goals
    have r3' : Below w.heap.size w w3 := (show Below w.heap.size w wq.drew from by rw [← HQ.out]; exact drewK_ (Below.refl _ _) _ |>.drew).trans (r3.mono (by rw [← HQ.out]; exact Nat.le_refl _))
    have hn3 : n3 = 1 := by
      rcases r4.1 with ⟨h, -⟩ | ⟨-, h, -⟩
      · omega
      · exact h
    subst hn3
    have e0 := ((hz.below r3' hz.lt).set_ 1 (.slice A3 1 c3)).cell 0
    have e1 := ((hz.below r3' hz.lt).set_ 1 (.slice A3 1 c3)).cell 1
    have e2 := ((hz.below r3' hz.lt).set_ 1 (.slice A3 1 c3)).frozen 0
    simp only [List.setIfInBounds_toArray, List.set_cons_zero, List.set_cons_succ, List.getElem?_toArray, List.getElem?_cons_zero, List.getElem?_cons_succ] at e0 e1
    have HE := Lib.hid (sub_end (z := x - y) hz r3' r4 (by omega) (by have := HXM.out; have := HYM.out; omega) false (by simp; omega))
    generalize w3.setCell ⟨bz, 1, none⟩ (.slice A3 1 c3) = w4 at e0 e1 e2 HE ⊢
    clear r3' r3 r4 F1 F2 HA F
    go_wp2_with fail
    go_ret
    exact HE.out

end Go.Proofs.Ytkiknbjokknemaa
