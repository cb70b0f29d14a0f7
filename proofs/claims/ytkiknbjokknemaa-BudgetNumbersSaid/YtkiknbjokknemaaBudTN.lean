/-
  math/big: nat.add, nat.sub of numbers of one limb.
-/
import Derived.Test.YtkiknbjokknemaaBudTM
namespace Go.Proofs.Ytkiknbjokknemaa
open Go.RowKit

theorem drewK_ {n : Nat} {w w' : World} (h : Below n w w') (k : Nat) : Below n w (w'.drewN k) := ⟨h.os, h.tape, h.output, h.size, h.block⟩
theorem run_headN (A : Option Addr) (n c k : Nat) (hk : k ≤ c) (W : World) : (Instr.slice 117 (.slice A n c) none (some (.int .i64 (k : Int))) none).run Try.prog W = .ok (.slice A k c) W := by
  obtain ⟨i, h1, h2, h3, h4⟩ := info_parts (P := Try.prog) (e := 130) (z := .int .u64 0) (size := 1) (bytes := 8) (by kernel_rfl)
  have ha : A.map (fun a : Addr => a.add 0) = A := by cases A <;> rfl
  simp [Instr.slice, Instr.sliceBounds, Instr.sliceBound, asIntOf, run_underlying Try.underlying117, sizeOf, typeInfo, h1, hk]
  intro _; exact ha
theorem run_head1 (A : Option Addr) (n c : Nat) (hk : 1 ≤ c) (W : World) : (Instr.slice 117 (.slice A n c) none (some (.int .i64 1)) none).run Try.prog W = .ok (.slice A 1 c) W := run_headN A n c 1 hk W

set_option maxRecDepth 100000 in
set_option maxHeartbeats 4000000 in
theorem norm_zero (w : World) (g off c : Nat) (hc : 1 ≤ c) (hc2 : c ≤ 1000) (h : w.cell? ⟨g, off, none⟩ = some (.int .u64 ((0 : Nat) : Int))) :
    Calls Try.prog 91 #[.slice (some ⟨g, off, none⟩) 1 c] w fun e w' => e = .returned (.slice (some ⟨g, off, none⟩) 0 c) ∧ ∃ k, w' = w.drewN k := by
  go_enter Try.func91, Try.ntmps91
  go_wp2_with fail
  refine wp_loop_rounds 2 ?_
  rw [rounds_succ]
  go_wp2_with fail
  rw [rounds_succ]
  go_wp2_with fail
  go_ret
  exact ⟨rfl, 0, rfl⟩

set_option maxRecDepth 100000 in
set_option maxHeartbeats 4000000 in
theorem natAdd_two (w : World) (g off c1 g' off' c2 x y : Nat) (h0 : x ≠ 0) (hc1 : 1 ≤ c1) (hc2 : 1 ≤ c2) (h : x + y ≤ 18446744073709551615) (hx : w.cell? ⟨g, off, none⟩ = some (.int .u64 (x : Int))) (hy : w.cell? ⟨g', off', none⟩ = some (.int .u64 (y : Int))) :
    Calls Try.prog 83 #[.slice none 0 0, .slice (some ⟨g, off, none⟩) 1 c1, .slice (some ⟨g', off', none⟩) 1 c2] w (NewLimb w (x + y)) := by
  have hl := Lib.hid (natMake_two w)
  have hg := World.block_lt_of_cell? w _ hx
  have hg' := World.block_lt_of_cell? w _ hy
  obtain ⟨W1, hW1⟩ : ∃ W1, W1 = (w.alloc (.cells #[.int .u64 0, .int .u64 0, .int .u64 0, .int .u64 0, .int .u64 0, .int .u64 0] 130)) := ⟨_, rfl⟩
  have b1 : Blk W1 w.heap.size 130 #[.int .u64 0, .int .u64 0, .int .u64 0, .int .u64 0, .int .u64 0, .int .u64 0] := by rw [hW1]; exact Blk.new w _ _
  have hb1 : Below w.heap.size w W1 := by rw [hW1]; exact (Below.refl _ _).alloc (Nat.le_refl _) _
  have hx1 : W1.drew.cell? ⟨g, off, none⟩ = some (.int .u64 (x : Int)) := (hb1.drew.cell hg).trans hx
  have hy1 : W1.drew.cell? ⟨g', off', none⟩ = some (.int .u64 (y : Int)) := (hb1.drew.cell hg').trans hy
  have ha := fun (cz : Nat) => addVV_one W1.drew w.heap.size cz g off c1 g' off' c2 x y 0 h (b1.drew.cell 0) (b1.drew.frozen 0) hx1 hy1
  rw [← hW1] at hl
  have HA := Lib.hid ha; have HB1 := Lib.hid hb1; have BL1 := Lib.hid b1
  have hen := addVV_enters
  have hh1 := run_head1 (some ⟨g, off, none⟩) 1 c1 hc1
  have hh2 := run_head1 (some ⟨g', off', none⟩) 1 c2 hc2
  clear ha hb1 b1 hx1 hy1 hx hy hW1
  go_enter Try.func83, Try.ntmps83
  go_wp2_with fail
  refine hl.out.mono ?_
  rintro e w1 ⟨rfl, rfl⟩
  go_wp2_with fail
  go_still_tail 9, (by kernel_rfl)
  change wpList _ _ _ _ _ (World.drew _)
  go_wp2_with fail
  refine (HA.out _).mono ?_
  rintro e w2 ⟨rfl, k2, rfl⟩
  have hB2 : Blk _ w.heap.size 130 _ := (((BL1.out.drew).set_ 0 (.int .u64 ((x : Int) + y))).drewN k2)
  have hbel := drewK_ ((HB1.out.drew).setCell (p := ⟨w.heap.size, 0, none⟩) (Nat.le_refl _) (.int .u64 ((x : Int) + y))) k2
  simp only [List.setIfInBounds_toArray, List.set_cons_zero] at hB2
  generalize ((World.drew w1).setCell ⟨w.heap.size, 0, none⟩ (.int .u64 ((x : Int) + y))).drewN k2 = W2 at hB2 hbel ⊢
  have c1 := hB2.cell 1; have f1 := hB2.frozen 1
  simp only [List.getElem?_toArray, List.getElem?_cons_zero, List.getElem?_cons_succ] at c1
  have hB3 := hB2.set_ 1 (.int .u64 0)
  have hbel3 := hbel.setCell (p := ⟨w.heap.size, 1, none⟩) (Nat.le_refl _) (.int .u64 0)
  obtain ⟨W3, hW3⟩ : ∃ W3, W3 = W2.setCell ⟨w.heap.size, 1, none⟩ (.int .u64 0) := ⟨_, rfl⟩
  rw [← hW3] at hB3 hbel3
  have d0 := hB3.cell 0; have d1 := hB3.cell 1
  simp only [List.setIfInBounds_toArray, List.set_cons_succ, List.set_cons_zero, List.getElem?_toArray, List.getElem?_cons_zero, List.getElem?_cons_succ] at d0 d1
  have hno := norm_two W3 w.heap.size 0 6 (x + y) (by omega) (by decide) (by decide) (by rw [d0]; push_cast; rfl) d1
  have HNO := Lib.hid hno; have HD0 := Lib.hid d0; have HBE := Lib.hid hbel3
  clear hno d0 d1 hbel3 hB3 hB2 hbel HA HB1 BL1
  go_wp2_with fail
  rw [← hW3]
  clear hW3
  refine HNO.out.mono ?_
  rintro e w4 ⟨rfl, k4, rfl⟩
  go_wp2_with fail
  go_ret
  exact ⟨_, _, _, rfl, by decide, by decide, drewK_ HBE.out k4, .inr ⟨by omega, rfl, _, _, rfl, by rw [World.cell?_drewN, HD0.out]; push_cast; rfl⟩, by decide⟩

set_option maxRecDepth 100000 in
set_option maxHeartbeats 4000000 in
theorem natSub_two (w : World) (g off c1 g' off' c2 x y : Nat) (hc1 : 1 ≤ c1) (hc2 : 1 ≤ c2) (h : y ≤ x) (hx0 : x ≤ 18446744073709551615) (hx : w.cell? ⟨g, off, none⟩ = some (.int .u64 (x : Int))) (hy : w.cell? ⟨g', off', none⟩ = some (.int .u64 (y : Int))) :
    Calls Try.prog 84 #[.slice none 0 0, .slice (some ⟨g, off, none⟩) 1 c1, .slice (some ⟨g', off', none⟩) 1 c2] w (NewLimb w (x - y)) := by
  have hl := Lib.hid (natMake_one w)
  have hg := World.block_lt_of_cell? w _ hx
  have hg' := World.block_lt_of_cell? w _ hy
  obtain ⟨W1, hW1⟩ : ∃ W1, W1 = (w.alloc (.cells #[.int .u64 0] 130)) := ⟨_, rfl⟩
  have b1 : Blk W1 w.heap.size 130 #[.int .u64 0] := by rw [hW1]; exact Blk.new w _ _
  have hb1 : Below w.heap.size w W1 := by rw [hW1]; exact (Below.refl _ _).alloc (Nat.le_refl _) _
  have hx1 : W1.drew.cell? ⟨g, off, none⟩ = some (.int .u64 (x : Int)) := (hb1.drew.cell hg).trans hx
  have hy1 : W1.drew.cell? ⟨g', off', none⟩ = some (.int .u64 (y : Int)) := (hb1.drew.cell hg').trans hy
  have ha := fun (cz : Nat) => subVV_one W1.drew w.heap.size cz g off c1 g' off' c2 x y 0 h hx0 (b1.drew.cell 0) (b1.drew.frozen 0) hx1 hy1
  rw [← hW1] at hl
  have HA := Lib.hid ha; have HB1 := Lib.hid hb1; have BL1 := Lib.hid b1
  have hen := subVV_enters
  have hh1 := run_head1 (some ⟨g, off, none⟩) 1 c1 hc1
  have hh2 := run_head1 (some ⟨g', off', none⟩) 1 c2 hc2
  clear ha hb1 b1 hx1 hy1 hx hy hW1
  go_enter Try.func84, Try.ntmps84
  go_wp2_with fail
  refine hl.out.mono ?_
  rintro e w1 ⟨rfl, rfl⟩
  go_wp2_with fail
  go_still_tail 9, (by kernel_rfl)
  change wpList _ _ _ _ _ (World.drew _)
  go_wp2_with fail
  refine (HA.out _).mono ?_
  rintro e w2 ⟨rfl, k2, rfl⟩
  have hB2 : Blk _ w.heap.size 130 _ := (((BL1.out.drew).set_ 0 (.int .u64 ((x : Int) - y))).drewN k2)
  have hbel := drewK_ ((HB1.out.drew).setCell (p := ⟨w.heap.size, 0, none⟩) (Nat.le_refl _) (.int .u64 ((x : Int) - y))) k2
  simp only [List.setIfInBounds_toArray, List.set_cons_zero] at hB2
  generalize ((World.drew w1).setCell ⟨w.heap.size, 0, none⟩ (.int .u64 ((x : Int) - y))).drewN k2 = W2 at hB2 hbel ⊢
  have d0 := hB2.cell 0
  simp only [List.getElem?_toArray, List.getElem?_cons_zero, ← Int.ofNat_sub h] at d0
  have hno : Calls Try.prog 91 #[.slice (some ⟨w.heap.size, 0, none⟩) 1 1] W2 (NewLimb w (x - y)) := by
    by_cases hz : x - y = 0
    · rw [hz] at d0
      refine (norm_zero W2 w.heap.size 0 1 (by decide) (by decide) d0).mono ?_
      rintro e w' ⟨rfl, k, rfl⟩
      exact ⟨_, _, _, rfl, by decide, by decide, drewK_ hbel k, .inl ⟨hz, rfl⟩, by decide⟩
    · refine (norm_one W2 w.heap.size 0 1 (x - y) hz (by decide) (by decide) d0).mono ?_
      rintro e w' ⟨rfl, k, rfl⟩
      exact ⟨_, _, _, rfl, by decide, by decide, drewK_ hbel k, .inr ⟨hz, rfl, _, _, rfl, d0⟩, by decide⟩
  have HNO := Lib.hid hno
  clear hno d0 hB2 hbel HA HB1 BL1
  go_wp2_with fail
  refine HNO.out.mono ?_
  rintro e w' ⟨A, n, c, rfl, r1, r2, r3, r4⟩
  have HR := Lib.hid (And.intro r3 r4)
  clear r3 r4 HNO
  go_wp2_with fail
  go_ret
  exact ⟨A, n, c, rfl, r1, r2, HR.out.1, HR.out.2⟩

theorem NewLimb.zero (w : World) : NewLimb w 0 (.returned (.slice none 0 0)) w := ⟨none, 0, 0, rfl, by decide, by decide, Below.refl _ _, .inl ⟨rfl, rfl⟩, Nat.le_refl _⟩

set_option maxRecDepth 100000 in
set_option maxHeartbeats 4000000 in
theorem natSub_any (w : World) (A B : Option Addr) (n c n' c' x y : Nat) (hA : LimbAt w A n c x) (hB : LimbAt w B n' c' y) (h : y ≤ x) (hx0 : x ≤ 18446744073709551615) :
    Calls Try.prog 84 #[.slice none 0 0, .slice A n c, .slice B n' c'] w (NewLimb w (x - y)) := by
  obtain ⟨⟨rfl, rfl⟩ | ⟨hm, rfl, g, off, rfl, h1⟩, h2⟩ := hA
  · obtain ⟨⟨rfl, rfl⟩ | ⟨hm', -⟩, h2'⟩ := hB
    · have HZ := Lib.hid (NewLimb.zero w)
      go_enter Try.func84, Try.ntmps84
      go_wp2_with fail
      go_ret
      exact HZ.out
    · omega
  · obtain ⟨⟨rfl, rfl⟩ | ⟨hm', rfl, g', off', rfl, h1'⟩, h2'⟩ := hB
    · have hl := Lib.hid (natSet_one w g off c x hm h1)
      rw [Nat.sub_zero]
      go_enter Try.func84, Try.ntmps84
      go_wp2_with fail
      refine hl.out.mono ?_
      rintro e w' ⟨A, n, c, rfl, r1, r2, r3, r4⟩
      have HR := Lib.hid (And.intro r3 r4)
      clear r3 r4
      go_wp2_with fail
      go_ret
      exact ⟨A, n, c, rfl, r1, r2, HR.out.1, HR.out.2⟩
    · exact natSub_two w g off c g' off' c' x y h2 h2' h hx0 h1 h1'

set_option maxRecDepth 100000 in
set_option maxHeartbeats 4000000 in
theorem natAdd_zero (w : World) (A : Option Addr) (n c x : Nat) (hA : LimbAt w A n c x) (hx : x ≠ 0) (B : Option Addr) (c' : Nat) :
    Calls Try.prog 83 #[.slice none 0 0, .slice A n c, .slice B 0 c'] w (NewLimb w x) := by
  obtain ⟨⟨rfl, rfl⟩ | ⟨hm, rfl, g, off, rfl, h1⟩, h2⟩ := hA
  · exact absurd rfl hx
  · have hl := Lib.hid (natSet_one w g off c x hm h1)
    go_enter Try.func83, Try.ntmps83
    go_wp2_with fail
    refine hl.out.mono ?_
    rintro e w' ⟨A, n, c, rfl, r1, r2, r3, r4⟩
    have HR := Lib.hid (And.intro r3 r4)
    clear r3 r4
    go_wp2_with fail
    go_ret
    exact ⟨A, n, c, rfl, r1, r2, HR.out.1, HR.out.2⟩

set_option maxRecDepth 100000 in
set_option maxHeartbeats 4000000 in
theorem natAdd_any (w : World) (A B : Option Addr) (n c n' c' x y : Nat) (hA : LimbAt w A n c x) (hB : LimbAt w B n' c' y) (h : x + y ≤ 18446744073709551615) :
    Calls Try.prog 83 #[.slice none 0 0, .slice A n c, .slice B n' c'] w (NewLimb w (x + y)) := by
  have hA' := hA
  have hB' := hB
  obtain ⟨⟨rfl, rfl⟩ | ⟨hm, rfl, g, off, rfl, h1⟩, h2⟩ := hA
  · obtain ⟨⟨rfl, rfl⟩ | ⟨hm', rfl, g', off', rfl, h1'⟩, h2'⟩ := hB
    · have HZ := Lib.hid (NewLimb.zero w)
      clear hA' hB'
      go_enter Try.func83, Try.ntmps83
      go_wp2_with fail
      go_ret
      exact HZ.out
    · have hl := Lib.hid (natAdd_zero w _ _ _ _ hB' hm' A c)
      clear hA' hB'
      rw [Nat.zero_add]
      go_enter Try.func83, Try.ntmps83
      go_wp2_with fail
      refine hl.out.mono ?_
      rintro e w' ⟨A, n, c, rfl, r1, r2, r3, r4⟩
      have HR := Lib.hid (And.intro r3 r4)
      clear r3 r4
      go_wp2_with fail
      go_ret
      exact ⟨A, n, c, rfl, r1, r2, HR.out.1, HR.out.2⟩
  · obtain ⟨⟨rfl, rfl⟩ | ⟨hm', rfl, g', off', rfl, h1'⟩, h2'⟩ := hB
    · exact natAdd_zero w _ _ _ _ hA' hm B c'
    · exact natAdd_two w g off c g' off' c' x y hm h2 h2' h h1 h1'
end Go.Proofs.Ytkiknbjokknemaa
