/-
  math/big: Int.Sub of numbers of one limb, neither negative.
-/
import Derived.Test.YtkiknbjokknemaaBudTO
namespace Go.Proofs.Ytkiknbjokknemaa
open Go.RowKit

set_option maxRecDepth 100000 in
set_option maxHeartbeats 4000000 in
theorem IntSub_pp_ge (w : World) (bz bx by_ : Nat) (x y : Int) (hz : Blk w bz 119 #[.bool false, .slice none 0 0]) (hX : BigIs w bx x) (hY : BigIs w by_ y) (hx : 0 ≤ x) (hy : 0 ≤ y) (hge : y.natAbs ≤ x.natAbs) :
    Calls Try.prog 74 #[.pointer (some ⟨bz, 0, none⟩), .pointer (some ⟨bx, 0, none⟩), .pointer (some ⟨by_, 0, none⟩)] w (SubTo w bz (x - y)) := by
  have hxm : x.natAbs ≤ 18446744073709551615 := by obtain ⟨_, _, _, -, -, -, -, h⟩ := hX; exact h
  have hym : y.natAbs ≤ 18446744073709551615 := by obtain ⟨_, _, _, -, -, -, -, h⟩ := hY; exact h
  obtain ⟨A, n, c, x1, x2, x3⟩ := hX.limbs
  obtain ⟨B, n', c', y1, y2, y3⟩ := hY.limbs
  rw [show decide (x < 0) = false by simp; omega] at x1
  rw [show decide (y < 0) = false by simp; omega] at y1
  have z0 := hz.cell 0; have z1 := hz.cell 1; have f0 := hz.frozen 0; have f1 := hz.frozen 1
  simp only [List.getElem?_toArray, List.getElem?_cons_zero, List.getElem?_cons_succ] at z0 z1
  have HXM := Lib.hid hxm; have HYM := Lib.hid hym
  clear hxm hym
  go_enter Try.func74, Try.ntmps74
  go_wp2_with fail
  go_quiet (fail)
  go_wp2_with fail
  generalize hw1 : World.drewN w _ = w1
  have p0 : w1.cell? ⟨bz, 1, none⟩ = some (.slice none 0 0) := by rw [← hw1]; exact z1
  have p1 : w1.cell? ⟨bx, 1, none⟩ = some (.slice A n c) := by rw [← hw1]; exact x2
  have p2 : w1.cell? ⟨by_, 1, none⟩ = some (.slice B n' c') := by rw [← hw1]; exact y2
  have hc := fun q => natCmp_any (w1.drewN q) A B n c n' c' x.natAbs y.natAbs (by rw [← hw1]; exact x3) (by rw [← hw1]; exact y3)
  obtain ⟨O, hO, hO0⟩ : ∃ O : Int, ordI (x.natAbs : Int) (y.natAbs : Int) = O ∧ 0 ≤ O := ⟨_, rfl, by unfold ordI; rw [if_neg (by omega)]; split <;> decide⟩
  rw [hO] at hc
  clear hO
  have HC := Lib.hid hc
  clear hc
  have HW1 := Lib.hid hw1
  clear hw1
  go_quiet ((go_at_call 77; with_reducible exact Calls.quiet_of (HC.out _)))
  go_wp2_with fail
  generalize hwq' : World.drewN w1 _ = wq
  obtain ⟨kq, hwq⟩ : ∃ k, World.drewN w k = wq := ⟨_, by rw [← hwq', ← HW1.out, World.drewN_drewN]⟩
  clear hwq' HW1 p0 p1 p2 HC
  have q0 : wq.cell? ⟨bz, 1, none⟩ = some (.slice none 0 0) := by rw [← hwq]; exact z1
  have q1 : wq.cell? ⟨bx, 1, none⟩ = some (.slice A n c) := by rw [← hwq]; exact x2
  have q2 : wq.cell? ⟨by_, 1, none⟩ = some (.slice B n' c') := by rw [← hwq]; exact y2
  have hzq : Blk wq bz 119 #[.bool false, .slice none 0 0] := by rw [← hwq]; exact hz
  have HA := Lib.hid (natSub_any wq.drew A B n c n' c' x.natAbs y.natAbs (by rw [← hwq]; exact x3) (by rw [← hwq]; exact y3) (by omega) (by have := HXM.out; have := HYM.out; omega))
  have hF := fun (w3 : World) (hb : Below wq.drew.heap.size wq.drew w3) => show w3.cell? ⟨bz, 1, none⟩ = some (.slice none 0 0) ∧ w3.frozen? ⟨bz, 1, none⟩ = false from
    ⟨by rw [((hzq.drew).below hb hzq.lt).cell]; rfl, ((hzq.drew).below hb hzq.lt).frozen 1⟩
  have F := Lib.hid hF; have HQ := Lib.hid hwq
  clear hF hzq hwq
  go_region_with (go_at_call 84; refine HA.out.mono ?_; rintro e w3 ⟨A3, n3, c3, rfl, r1, r2, r3, r4⟩; obtain ⟨F1, F2⟩ := F.out w3 r3)
  all_goals
    have r3' : Below w.heap.size w w3 := (show Below w.heap.size w wq.drew from by rw [← HQ.out]; exact drewK_ (Below.refl _ _) _ |>.drew).trans (r3.mono (by rw [← HQ.out]; exact Nat.le_refl _))
    rcases Nat.eq_zero_or_pos n3 with hn3 | hn3
    · subst hn3
      have hm0 : x.natAbs - y.natAbs = 0 := by
        rcases r4.1 with ⟨h, -⟩ | ⟨-, h, -⟩
        · exact h
        · omega
      have e0 := ((hz.below r3' hz.lt).set_ 1 (.slice A3 0 c3)).cell 0
      have e1 := ((hz.below r3' hz.lt).set_ 1 (.slice A3 0 c3)).cell 1
      have e2 := ((hz.below r3' hz.lt).set_ 1 (.slice A3 0 c3)).frozen 0
      simp only [List.setIfInBounds_toArray, List.set_cons_zero, List.set_cons_succ, List.getElem?_toArray, List.getElem?_cons_zero, List.getElem?_cons_succ] at e0 e1
      have HE := Lib.hid (sub_end (z := x - y) hz r3' r4 (by omega) (by have := HXM.out; have := HYM.out; omega) false (by simp; omega))
      generalize w3.setCell ⟨bz, 1, none⟩ (.slice A3 0 c3) = w4 at e0 e1 e2 HE ⊢
      clear r3' r3 r4 F1 F2 HA F
      go_wp2_with fail
      go_ret
      exact HE.out
    · obtain rfl : n3 = 1 := by omega
      have hm0 : x.natAbs - y.natAbs ≠ 0 := by
        rcases r4.1 with ⟨-, h⟩ | ⟨h, -⟩
        · omega
        · exact h
      have e0 := ((hz.below r3' hz.lt).set_ 1 (.slice A3 1 c3)).cell 0
      have e1 := ((hz.below r3' hz.lt).set_ 1 (.slice A3 1 c3)).cell 1
      have e2 := ((hz.below r3' hz.lt).set_ 1 (.slice A3 1 c3)).frozen 0
      simp only [List.setIfInBounds_toArray, List.set_cons_zero, List.set_cons_succ, List.getElem?_toArray, List.getElem?_cons_zero, List.getElem?_cons_succ] at e0 e1
      have HE := Lib.hid (sub_end (z := x - y) hz r3' r4 (by omega) (by have := HXM.out; have := HYM.out; omega) false (by simp; omega))
      generalize w3.setCell ⟨bz, 1, none⟩ (.slice A3 1 c3) = w4 at e0 e1 e2 HE ⊢
      clear r3' r3 r4 F1 F2 HA F
      go_wp2_with fail
      go_ret
      exact HE.out

set_option maxRecDepth 100000 in
set_option maxHeartbeats 4000000 in
theorem IntSub_pp_lt (w : World) (bz bx by_ : Nat) (x y : Int) (hz : Blk w bz 119 #[.bool false, .slice none 0 0]) (hX : BigIs w bx x) (hY : BigIs w by_ y) (hx : 0 ≤ x) (hy : 0 ≤ y) (hge : x.natAbs < y.natAbs) :
    Calls Try.prog 74 #[.pointer (some ⟨bz, 0, none⟩), .pointer (some ⟨bx, 0, none⟩), .pointer (some ⟨by_, 0, none⟩)] w (SubTo w bz (x - y)) := by
  have hxm : x.natAbs ≤ 18446744073709551615 := by obtain ⟨_, _, _, -, -, -, -, h⟩ := hX; exact h
  have hym : y.natAbs ≤ 18446744073709551615 := by obtain ⟨_, _, _, -, -, -, -, h⟩ := hY; exact h
  obtain ⟨A, n, c, x1, x2, x3⟩ := hX.limbs
  obtain ⟨B, n', c', y1, y2, y3⟩ := hY.limbs
  rw [show decide (x < 0) = false by simp; omega] at x1
  rw [show decide (y < 0) = false by simp; omega] at y1
  have z0 := hz.cell 0; have z1 := hz.cell 1; have f0 := hz.frozen 0; have f1 := hz.frozen 1
  simp only [List.getElem?_toArray, List.getElem?_cons_zero, List.getElem?_cons_succ] at z0 z1
  have HXM := Lib.hid hxm; have HYM := Lib.hid hym
  clear hxm hym
  go_enter Try.func74, Try.ntmps74
  go_wp2_with fail
  go_quiet (fail)
  go_wp2_with fail
  generalize hw1 : World.drewN w _ = w1
  have p0 : w1.cell? ⟨bz, 1, none⟩ = some (.slice none 0 0) := by rw [← hw1]; exact z1
  have p1 : w1.cell? ⟨bx, 1, none⟩ = some (.slice A n c) := by rw [← hw1]; exact x2
  have p2 : w1.cell? ⟨by_, 1, none⟩ = some (.slice B n' c') := by rw [← hw1]; exact y2
  have hc := fun q => natCmp_any (w1.drewN q) A B n c n' c' x.natAbs y.natAbs (by rw [← hw1]; exact x3) (by rw [← hw1]; exact y3)
  rw [show ordI (x.natAbs : Int) (y.natAbs : Int) = -1 by unfold ordI; rw [if_pos (by omega)]] at hc
  have HC := Lib.hid hc
  clear hc
  have HW1 := Lib.hid hw1
  clear hw1
  go_quiet ((go_at_call 77; with_reducible exact Calls.quiet_of (HC.out _)))
  go_wp2_with fail
  generalize hwq' : World.drewN w1 _ = wq
  obtain ⟨kq, hwq⟩ : ∃ k, World.drewN w k = wq := ⟨_, by rw [← hwq', ← HW1.out, World.drewN_drewN]⟩
  clear hwq' HW1 p0 p1 p2 HC
  have q0 : wq.cell? ⟨bz, 1, none⟩ = some (.slice none 0 0) := by rw [← hwq]; exact z1
  have q1 : wq.cell? ⟨bx, 1, none⟩ = some (.slice A n c) := by rw [← hwq]; exact x2
  have q2 : wq.cell? ⟨by_, 1, none⟩ = some (.slice B n' c') := by rw [← hwq]; exact y2
  have hzq : Blk wq bz 119 #[.bool false, .slice none 0 0] := by rw [← hwq]; exact hz
  have HA := Lib.hid (natSub_any wq.drew B A n' c' n c y.natAbs x.natAbs (by rw [← hwq]; exact y3) (by rw [← hwq]; exact x3) (by omega) (by have := HXM.out; have := HYM.out; omega))
  have hF := fun (w3 : World) (hb : Below wq.drew.heap.size wq.drew w3) => show w3.cell? ⟨bz, 1, none⟩ = some (.slice none 0 0) ∧ w3.frozen? ⟨bz, 1, none⟩ = false from
    ⟨by rw [((hzq.drew).below hb hzq.lt).cell]; rfl, ((hzq.drew).below hb hzq.lt).frozen 1⟩
  have F := Lib.hid hF; have HQ := Lib.hid hwq
  clear hF hzq hwq
  go_region_with (go_at_call 84; refine HA.out.mono ?_; rintro e w3 ⟨A3, n3, c3, rfl, r1, r2, r3, r4⟩; obtain ⟨F1, F2⟩ := F.out w3 r3)
  all_goals
    have r3' : Below w.heap.size w w3 := (show Below w.heap.size w wq.drew from by rw [← HQ.out]; exact drewK_ (Below.refl _ _) _ |>.drew).trans (r3.mono (by rw [← HQ.out]; exact Nat.le_refl _))
    have hn3 : n3 = 1 := by
      rcases r4.1 with ⟨h, -⟩ | ⟨-, h, -⟩
      · omega
      · exact h
    subst hn3
    have e0 := ((hz.below r3' hz.lt).set_ 1 (.slice A3 1 c3)).cell 0
    have e1 := ((hz.below r3' hz.lt).set_ 1 (.slice A3 1 c3)).cell 1
    have e2 := ((hz.below r3' hz.lt).set_ 1 (.slice A3 1 c3)).frozen 0
    simp only [List.setIfInBounds_toArray, List.set_cons_zero, List.set_cons_succ, List.getElem?_toArray, List.getElem?_cons_zero, List.getElem?_cons_succ] at e0 e1
    have HE := Lib.hid (sub_end (z := x - y) hz r3' r4 (by omega) (by have := HXM.out; have := HYM.out; omega) true (by simp; omega))
    generalize w3.setCell ⟨bz, 1, none⟩ (.slice A3 1 c3) = w4 at e0 e1 e2 HE ⊢
    clear r3' r3 r4 F1 F2 HA F
    go_wp2_with fail
    go_ret
    exact HE.out

end Go.Proofs.Ytkiknbjokknemaa
