/-
  WALK of the closure that Step hands to the sort.
-/
import Derived.Test.YtkiknbjokknemaaGreatBudF
import Derived.Sort.Grow
namespace Go.Proofs.YtkiknbjokknemaaGreat
open Go.RowKit

/-- An entry: a pointer to an item, and the place. -/
abbrev entryV (ob : Nat) (p : Nat) : Value := .agg #[.pointer (some ⟨ob, p * 3, none⟩), .int .i64 p]
/-- How the closure compares two entries. -/
def cmpE (sx sy : Int) (i j : Nat) : Int := if ordI sy sx = 0 then ordI i j else ordI sy sx

set_option maxRecDepth 100000 in
set_option maxHeartbeats 1000000 in
theorem step1_any (W : World) (ob i j : Nat) (sx sy : Int) (h1 : W.cell? ⟨ob, i * 3 + 2, none⟩ = some (.int .i64 sx)) (h2 : W.cell? ⟨ob, j * 3 + 2, none⟩ = some (.int .i64 sy)) :
    Calls Tryz.prog 29 #[entryV ob i, entryV ob j] W fun e w' => e = .returned (.int .i64 (cmpE sx sy i j)) ∧ ∃ q os, w' = Go.Sort.grow (W.drewN q) os := by
  have hg := World.block_lt_of_cell? W ⟨ob, i * 3 + 2, none⟩ h1
  simp only at hg
  have hst := ((Step.refl [] W (fun _ => 0)).alloc (.cells #[.pointer (some ⟨ob, i * 3, none⟩), .int .i64 i] 66) 0).alloc (.cells #[.pointer (some ⟨ob, j * 3, none⟩), .int .i64 j] 66) 0
  have c1 := (World.cell?_of_block (a := ⟨ob, i * 3 + 2, none⟩) (hst.block ob hg (by simp))).trans h1
  have c2 := (World.cell?_of_block (a := ⟨ob, j * 3 + 2, none⟩) (hst.block ob hg (by simp))).trans h2
  have b1 := ((Blk.new W 66 #[.pointer (some ⟨ob, i * 3, none⟩), .int .i64 i]).alloc (.cells #[.pointer (some ⟨ob, j * 3, none⟩), .int .i64 j] 66))
  have b2 := Blk.new (W.alloc (.cells #[.pointer (some ⟨ob, i * 3, none⟩), .int .i64 i] 66)) 66 #[.pointer (some ⟨ob, j * 3, none⟩), .int .i64 j]
  rw [World.size_alloc] at b2
  have d0 := b1.cell 0; have d1 := b1.cell 1; have f0 := b2.cell 0; have f1 := b2.cell 1
  simp only [List.getElem?_toArray, List.getElem?_cons_zero, List.getElem?_cons_succ] at d0 d1 f0 f1
  obtain ⟨R, hR⟩ : ∃ R : Int, R = cmpE sx sy i j := ⟨_, rfl⟩
  rw [← hR]
  obtain ⟨r1, hr1⟩ : ∃ r : Int, r = ordI sy sx := ⟨_, rfl⟩
  obtain ⟨r2, hr2⟩ : ∃ r : Int, r = ordI (i : Int) (j : Int) := ⟨_, rfl⟩
  have hc1 : ∀ w, Calls Tryz.prog 31 #[.int .i64 sy, .int .i64 sx] w fun e w' => e = .returned (.int .i64 r1) ∧ w' = w := fun w => by rw [hr1]; exact Compare_any w sy sx
  have hc2 : ∀ w, Calls Tryz.prog 31 #[.int .i64 (i : Int), .int .i64 (j : Int)] w fun e w' => e = .returned (.int .i64 r2) ∧ w' = w := fun w => by rw [hr2]; exact Compare_any w i j
  have hv : R = if r1 = 0 then r2 else r1 := by rw [hR, hr1, hr2]; rfl
  have HV := Lib.hid hv; have HC1 := Lib.hid hc1; have HC2 := Lib.hid hc2; have HG := Lib.hid hg
  obtain ⟨X, hX⟩ : ∃ X, X = ((W.alloc (.cells #[.pointer (some ⟨ob, i * 3, none⟩), .int .i64 i] 66)).alloc (.cells #[.pointer (some ⟨ob, j * 3, none⟩), .int .i64 j] 66)) := ⟨_, rfl⟩
  rw [← hX] at c1 c2 d0 d1 f0 f1
  have hor : ∀ (w : World) (g : Nat), w.cell? ⟨g, 0, none⟩ = some (.int .i64 r1) → w.cell? ⟨g, 1, none⟩ = some (.int .i64 r2) → Calls Tryz.prog 30 #[.slice (some ⟨g, 0, none⟩) 2 2] w fun e w' => e = .returned (.int .i64 R) ∧ w' = w :=
    fun w g q1 q2 => by rw [hv]; exact Or_any w g r1 r2 q1 q2
  have up : ∀ (a : Addr) (v : Value) (o' : Obj), X.cell? a = some v → (X.alloc o').cell? a = some v := fun a v o' h => (World.cell?_of_block (Below.heap_alloc X o' a.block (World.block_lt_of_cell? X a h))).trans h
  have n0 := (Blk.new X 3 #[.int .i64 r1, .int .i64 r2]).cell 0
  have n1 := (Blk.new X 3 #[.int .i64 r1, .int .i64 r2]).cell 1
  simp only [List.getElem?_toArray, List.getElem?_cons_zero, List.getElem?_cons_succ] at n0 n1
  have HX := Lib.hid hX; have HOR := Lib.hid hor; have UP := Lib.hid up; have N0 := Lib.hid n0; have N1 := Lib.hid n1
  clear hv hor up n0 n1 hc1 hc2 hR hr1 hr2 hst h1 h2 b1 b2 hX hg
  go_enter Tryz.func29, Tryz.ntmps29
  go_wp2_with fail
  rw [← HX.out]
  go_region_held3 (fun w' => w'.cell? ⟨ob, i * 3 + 2, none⟩ = some (.int .i64 sx) ∧ w'.cell? ⟨ob, j * 3 + 2, none⟩ = some (.int .i64 sy) ∧ w'.cell? ⟨W.heap.size, 0, none⟩ = some (.pointer (some ⟨ob, i * 3, none⟩)) ∧ w'.cell? ⟨W.heap.size, 1, none⟩ = some (.int .i64 i) ∧ w'.cell? ⟨W.heap.size + 1, 0, none⟩ = some (.pointer (some ⟨ob, j * 3, none⟩)) ∧ w'.cell? ⟨W.heap.size + 1, 1, none⟩ = some (.int .i64 j))
    (first | exact ⟨c1, c2, d0, d1, f0, f1⟩ | exact ⟨UP.out _ _ _ c1, UP.out _ _ _ c2, UP.out _ _ _ d0, UP.out _ _ _ d1, UP.out _ _ _ f0, UP.out _ _ _ f1⟩)
    (first
      | (go_at_call 31; ((with_reducible refine (HC1.out _).mono ?_); rintro e w' ⟨rfl, rfl⟩))
      | (go_at_call 31; ((with_reducible refine (HC2.out _).mono ?_); rintro e w' ⟨rfl, rfl⟩))
      | (go_at_call 30; refine (HOR.out (World.drew (X.alloc (.cells #[.int .i64 r1, .int .i64 r2] 3))) X.heap.size N0.out N1.out).mono ?_; rintro e w' ⟨rfl, rfl⟩))
  go_wp2
  go_ret
  refine ⟨rfl, 1, #[.cells #[.pointer (some ⟨ob, i * 3, none⟩), .int .i64 i] 66, .cells #[.pointer (some ⟨ob, j * 3, none⟩), .int .i64 j] 66, .cells #[.int .i64 r1, .int .i64 r2] 3], ?_⟩
  rw [HX.out, Go.Sort.alloc_eq_grow, Go.Sort.alloc_eq_grow, Go.Sort.alloc_eq_grow, Go.Sort.grow_grow, Go.Sort.grow_grow]
  rfl
end Go.Proofs.YtkiknbjokknemaaGreat
