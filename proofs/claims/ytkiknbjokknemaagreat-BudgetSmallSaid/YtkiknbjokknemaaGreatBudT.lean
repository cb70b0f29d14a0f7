/-
  WALK of awake.
-/
import Derived.Test.YtkiknbjokknemaaGreatBudS
import Derived.Test.YtkiknbjokknemaaGreatBudQ
import Derived.Test.YtkiknbjokknemaaGreatBudR
import Derived.Test.YtkiknbjokknemaaGreatBudW
namespace Go.Proofs.YtkiknbjokknemaaGreat
open Go.RowKit

theorem Below.drewK {n : Nat} {w w' : World} (h : Below n w w') (k : Nat) : Below n w (w'.drewN k) := ⟨h.os, h.tape, h.output, h.size, h.block⟩

def ws3 : List (Int × Int) := [(1, 4), (2, 1), (3, 2)]
theorem order_eq {out : List It} {p : List Nat} (h1 : p.Perm (List.range out.length)) (h2 : p.Pairwise fun i j => before out i j = true) : order out = p := by
  have h3 := order_before out
  refine List.Perm.eq_of_pairwise (le := fun i j => before out i j = true) ?_ h3 h2 ((order_perm out).trans h1.symm)
  intro a b _ _ ha hb
  rw [before_iff] at ha hb
  omega
theorem stepM_eq {l : List It} {ws : List (Int × Int)} {k : Nat} {p : List Nat} (h : order (outs l ws) = p) : stepM l ws k = (zeroAt (outs l ws) (p.take k), (p.take k).map fun i => ((outs l ws).getD i default).id) := by
  rw [stepM, places, h]
theorem run3_1 : runM [] ws3 1 1 = ([⟨1, 4, 0⟩, ⟨2, 1, 1⟩, ⟨3, 2, 2⟩], [[1]]) := by
  rw [runM_succ, show runM [] ws3 1 0 = ([], []) from rfl, stepM_eq (order_eq (p := [0, 2, 1]) (by decide) (by decide))]; decide
theorem run3_2 : runM [] ws3 1 2 = ([⟨1, 4, 0⟩, ⟨2, 1, 2⟩, ⟨3, 2, 4⟩], [[1], [1]]) := by
  rw [runM_succ, run3_1, stepM_eq (order_eq (p := [0, 2, 1]) (by decide) (by decide))]; decide
theorem run3_3 : runM [] ws3 1 3 = ([⟨1, 4, 4⟩, ⟨2, 1, 3⟩, ⟨3, 2, 0⟩], [[1], [1], [3]]) := by
  rw [runM_succ, run3_2, stepM_eq (order_eq (p := [2, 0, 1]) (by decide) (by decide))]; decide
theorem run3_4 : runM [] ws3 1 4 = ([⟨1, 4, 0⟩, ⟨2, 1, 4⟩, ⟨3, 2, 2⟩], [[1], [1], [3], [1]]) := by
  rw [runM_succ, run3_3, stepM_eq (order_eq (p := [0, 1, 2]) (by decide) (by decide))]; decide
theorem run3 : runM [] ws3 1 5 = ([⟨1, 4, 4⟩, ⟨2, 1, 0⟩, ⟨3, 2, 4⟩], [[1], [1], [3], [1], [2]]) := by
  rw [runM_succ, run3_4, stepM_eq (order_eq (p := [1, 0, 2]) (by decide) (by decide))]; decide

/-- A literal of literals. -/
theorem lists5 (w : World) (a b c d e : Int) (W : World) (hW : W = (((((w.alloc (.cells #[.int .i64 a] 3)).alloc (.cells #[.int .i64 b] 3)).alloc (.cells #[.int .i64 c] 3)).alloc (.cells #[.int .i64 d] 3)).alloc (.cells #[.int .i64 e] 3)).alloc
      (.cells #[.slice (some ⟨w.heap.size, 0, none⟩) 1 1, .slice (some ⟨w.heap.size + 1, 0, none⟩) 1 1, .slice (some ⟨w.heap.size + 1 + 1, 0, none⟩) 1 1, .slice (some ⟨w.heap.size + 1 + 1 + 1, 0, none⟩) 1 1, .slice (some ⟨w.heap.size + 1 + 1 + 1 + 1, 0, none⟩) 1 1] 30)) :
    ListsAt W (fun _ => 9) 9 9 (some ⟨w.heap.size + 1 + 1 + 1 + 1 + 1, 0, none⟩) 5 5 [[a], [b], [c], [d], [e]] := by
  have k0 := ((((((Blk.new w 3 #[.int .i64 a]).alloc (.cells #[.int .i64 b] 3)).alloc (.cells #[.int .i64 c] 3)).alloc (.cells #[.int .i64 d] 3)).alloc (.cells #[.int .i64 e] 3)).alloc (.cells #[.slice (some ⟨w.heap.size, 0, none⟩) 1 1, .slice (some ⟨w.heap.size + 1, 0, none⟩) 1 1, .slice (some ⟨w.heap.size + 1 + 1, 0, none⟩) 1 1, .slice (some ⟨w.heap.size + 1 + 1 + 1, 0, none⟩) 1 1, .slice (some ⟨w.heap.size + 1 + 1 + 1 + 1, 0, none⟩) 1 1] 30))
  have k1 := (((((Blk.new (w.alloc (.cells #[.int .i64 a] 3)) 3 #[.int .i64 b]).alloc (.cells #[.int .i64 c] 3)).alloc (.cells #[.int .i64 d] 3)).alloc (.cells #[.int .i64 e] 3)).alloc (.cells #[.slice (some ⟨w.heap.size, 0, none⟩) 1 1, .slice (some ⟨w.heap.size + 1, 0, none⟩) 1 1, .slice (some ⟨w.heap.size + 1 + 1, 0, none⟩) 1 1, .slice (some ⟨w.heap.size + 1 + 1 + 1, 0, none⟩) 1 1, .slice (some ⟨w.heap.size + 1 + 1 + 1 + 1, 0, none⟩) 1 1] 30))
  have k2 := ((((Blk.new ((w.alloc (.cells #[.int .i64 a] 3)).alloc (.cells #[.int .i64 b] 3)) 3 #[.int .i64 c]).alloc (.cells #[.int .i64 d] 3)).alloc (.cells #[.int .i64 e] 3)).alloc (.cells #[.slice (some ⟨w.heap.size, 0, none⟩) 1 1, .slice (some ⟨w.heap.size + 1, 0, none⟩) 1 1, .slice (some ⟨w.heap.size + 1 + 1, 0, none⟩) 1 1, .slice (some ⟨w.heap.size + 1 + 1 + 1, 0, none⟩) 1 1, .slice (some ⟨w.heap.size + 1 + 1 + 1 + 1, 0, none⟩) 1 1] 30))
  have k3 := (((Blk.new (((w.alloc (.cells #[.int .i64 a] 3)).alloc (.cells #[.int .i64 b] 3)).alloc (.cells #[.int .i64 c] 3)) 3 #[.int .i64 d]).alloc (.cells #[.int .i64 e] 3)).alloc (.cells #[.slice (some ⟨w.heap.size, 0, none⟩) 1 1, .slice (some ⟨w.heap.size + 1, 0, none⟩) 1 1, .slice (some ⟨w.heap.size + 1 + 1, 0, none⟩) 1 1, .slice (some ⟨w.heap.size + 1 + 1 + 1, 0, none⟩) 1 1, .slice (some ⟨w.heap.size + 1 + 1 + 1 + 1, 0, none⟩) 1 1] 30))
  have k4 := ((Blk.new ((((w.alloc (.cells #[.int .i64 a] 3)).alloc (.cells #[.int .i64 b] 3)).alloc (.cells #[.int .i64 c] 3)).alloc (.cells #[.int .i64 d] 3)) 3 #[.int .i64 e]).alloc (.cells #[.slice (some ⟨w.heap.size, 0, none⟩) 1 1, .slice (some ⟨w.heap.size + 1, 0, none⟩) 1 1, .slice (some ⟨w.heap.size + 1 + 1, 0, none⟩) 1 1, .slice (some ⟨w.heap.size + 1 + 1 + 1, 0, none⟩) 1 1, .slice (some ⟨w.heap.size + 1 + 1 + 1 + 1, 0, none⟩) 1 1] 30))
  have k5 := Blk.new (((((w.alloc (.cells #[.int .i64 a] 3)).alloc (.cells #[.int .i64 b] 3)).alloc (.cells #[.int .i64 c] 3)).alloc (.cells #[.int .i64 d] 3)).alloc (.cells #[.int .i64 e] 3)) 30 #[.slice (some ⟨w.heap.size, 0, none⟩) 1 1, .slice (some ⟨w.heap.size + 1, 0, none⟩) 1 1, .slice (some ⟨w.heap.size + 1 + 1, 0, none⟩) 1 1, .slice (some ⟨w.heap.size + 1 + 1 + 1, 0, none⟩) 1 1, .slice (some ⟨w.heap.size + 1 + 1 + 1 + 1, 0, none⟩) 1 1]
  rw [← hW] at k0 k1 k2 k3 k4 k5
  simp only [World.size_alloc] at k1 k2 k3 k4 k5
  have one : ∀ (g : Nat) (x : Int), Blk W g 3 #[.int .i64 x] → Sl W (fun _ => 9) 9 1 (some ⟨g, 0, none⟩) 1 1 (ints [x]) := fun g x h =>
    ⟨rfl, Nat.le_refl _, by decide, fun _ => ⟨g, 0, rfl, rfl, h.lt, fun j u hu => by rw [Nat.zero_add, h.cell]; simpa using hu⟩⟩
  refine ⟨[.slice (some ⟨w.heap.size, 0, none⟩) 1 1, .slice (some ⟨w.heap.size + 1, 0, none⟩) 1 1, .slice (some ⟨w.heap.size + 1 + 1, 0, none⟩) 1 1, .slice (some ⟨w.heap.size + 1 + 1 + 1, 0, none⟩) 1 1, .slice (some ⟨w.heap.size + 1 + 1 + 1 + 1, 0, none⟩) 1 1], ⟨⟨rfl, .inr ⟨_, 5, _, rfl, Nat.zero_le _, k5, Nat.le_refl _, by decide, rfl, rfl⟩⟩, fun ad h => rfl⟩, rfl, fun i v hi => ?_⟩
  have hi5 : i < 5 := by have := (List.getElem?_eq_some_iff.1 hi).1; simpa using this
  have hcs : i = 0 ∨ i = 1 ∨ i = 2 ∨ i = 3 ∨ i = 4 := by omega
  rcases hcs with rfl | rfl | rfl | rfl | rfl
  · exact ⟨_, 1, 1, [a], (Option.some.inj hi).symm, rfl, rfl, one _ _ k0⟩
  · exact ⟨_, 1, 1, [b], (Option.some.inj hi).symm, rfl, rfl, one _ _ k1⟩
  · exact ⟨_, 1, 1, [c], (Option.some.inj hi).symm, rfl, rfl, one _ _ k2⟩
  · exact ⟨_, 1, 1, [d], (Option.some.inj hi).symm, rfl, rfl, one _ _ k3⟩
  · exact ⟨_, 1, 1, [e], (Option.some.inj hi).symm, rfl, rfl, one _ _ k4⟩

set_option maxHeartbeats 400000 in
theorem three_any (w : World) : Calls Tryz.prog 6 #[] w fun e w' => e = .returned (.slice (some ⟨w.heap.size, 0, none⟩) 3 3) ∧ w' = w.alloc (.cells #[.int .i64 1, .int .i64 4, .int .i64 2, .int .i64 1, .int .i64 3, .int .i64 2] 26) := by
  go_enter Tryz.func6, Tryz.ntmps6
  go_wp2_with fail
  go_ret
  exact ⟨rfl, rfl⟩

set_option maxRecDepth 100000 in
set_option maxHeartbeats 1000000 in
theorem awake_any (w : World) : Calls Tryz.prog 9 #[] w (SaysTo w true) := by
  go_enter Tryz.func9, Tryz.ntmps9
  go_wp2_with fail
  refine (three_any w).mono ?_
  rintro e w1 ⟨rfl, hw1⟩
  have hS1 : Step [] w (fun _ => 0) w1 (ext (fun _ => 0) w.heap.size 5) := by rw [hw1]; exact (Step.refl [] w _).alloc _ 5
  have hL1 : Sl w1 (ext (fun _ => 0) w.heap.size 5) 5 2 (some ⟨w.heap.size, 0, none⟩) 3 3 (wnts ws3) := by
    rw [hw1]
    have := (Row.made (w := w) (fun _ => 0) 5 26 2 #[.int .i64 1, .int .i64 4, .int .i64 2, .int .i64 1, .int .i64 3, .int .i64 2] 3 rfl (by decide) 3 (Nat.le_refl _)).sl
    exact this
  have HS1 := Lib.hid hS1; have HL1 := Lib.hid hL1
  clear hS1 hL1 hw1
  go_wp2_with fail
  refine (Run_any w1 (ext (fun _ => 0) w.heap.size 5) 5 5 none 0 0 [] (Sl.nil_ _ _ _ _ _ _ (by decide)) _ 3 3 ws3 HL1.out ((validB_iff _).1 rfl) ((rightB_iff _).1 (by decide)) 1 (by decide) 5 (by decide)).mono ?_
  rintro e w2 ⟨A, n, c, LA, lc, o2, rfl, hs2, hn, hA, hLA⟩
  have hb2 : Below w1.heap.size w1 w2 := hs2.to_below (by simp)
  rw [run3] at hn hA hLA
  simp only [List.length_cons, List.length_nil] at hn
  subst hn
  obtain ⟨g, off, rfl, -, hg, hc⟩ := hA.2.2.2 (by omega)
  have c0 := hc 2 (.int .i64 4) rfl; have c1 := hc 5 (.int .i64 0) rfl; have c2 := hc 8 (.int .i64 4) rfl
  have HB2 := Lib.hid hb2; have HLA := Lib.hid hLA
  clear hA hLA hc hb2 hs2
  go_wp2_with fail
  refine (Bound_ok w2 3 1 1 4 (by omega) (by omega) (by omega) (by omega) (by omega) (by omega) (by omega)).mono ?_
  rintro e w3 ⟨rfl, rfl⟩
  go_wp2_with fail
  obtain ⟨W, hW⟩ : ∃ W, W = (((((w3.alloc (.cells #[.int .i64 1] 3)).alloc (.cells #[.int .i64 1] 3)).alloc (.cells #[.int .i64 3] 3)).alloc (.cells #[.int .i64 1] 3)).alloc (.cells #[.int .i64 2] 3)).alloc
      (.cells #[.slice (some ⟨w3.heap.size, 0, none⟩) 1 1, .slice (some ⟨w3.heap.size + 1, 0, none⟩) 1 1, .slice (some ⟨w3.heap.size + 1 + 1, 0, none⟩) 1 1, .slice (some ⟨w3.heap.size + 1 + 1 + 1, 0, none⟩) 1 1, .slice (some ⟨w3.heap.size + 1 + 1 + 1 + 1, 0, none⟩) 1 1] 30) := ⟨_, rfl⟩
  have hlit := lists5 w3 1 1 3 1 2 W hW
  obtain ⟨oW, hst⟩ : ∃ oW, Step [] w3 o2 W oW := by
    rw [hW]; exact ⟨_, ((((((Step.refl [] w3 o2).alloc _ 9).alloc _ 9).alloc _ 9).alloc _ 9).alloc _ 9).alloc _ 9⟩
  have hbw : Below w3.heap.size w3 W := by
    rw [hW]
    refine ((((((Below.refl _ w3).alloc ?_ _).alloc ?_ _).alloc ?_ _).alloc ?_ _).alloc ?_ _).alloc ?_ _
    all_goals (try simp only [World.size_alloc])
    all_goals omega
  rw [← hW]
  have d0 := (hbw.cell (p := ⟨g, off + 2, none⟩) hg).trans c0; have d1 := (hbw.cell (p := ⟨g, off + 5, none⟩) hg).trans c1; have d2 := (hbw.cell (p := ⟨g, off + 8, none⟩) hg).trans c2
  have hgW := Nat.lt_of_lt_of_le hg hbw.size
  have HBW := Lib.hid hbw; have HLIT := Lib.hid hlit; have HLB := Lib.hid (HLA.out.step hst (by simp) (by simp))
  clear c0 c1 c2 hbw hlit hst hW
  refine (sameLists_any W oW (fun _ => 9) 7 6 9 9 LA _ 5 lc 5 5 _ _ HLB.out HLIT.out).mono ?_
  rintro e w4 ⟨rfl, k4, rfl⟩
  go_wp2_with fail
  have HALL := Lib.hid (Below.drewK (HB2.out.trans (HBW.out.mono HB2.out.size)) k4)
  have HW1 := Lib.hid (HS1.out.to_below (by simp))
  have r1 : weightI (distI 3 0 4 0) = 15 := by decide
  have r2 : weightI (distI 0 0 0 0) = 16 := by decide
  have r3 : weightI (distI 0 0 0 (-16384)) = 1 := by decide
  have ha := Weight_any (W.drewN k4) 3 0 4 0 (by omega) (by omega) (by omega) (by omega)
  have hb := fun X => Weight_any X 0 0 0 0 (by omega) (by omega) (by omega) (by omega)
  have hc := fun X => Weight_any X 0 0 0 (-16384) (by omega) (by omega) (by omega) (by omega)
  rw [r1] at ha
  rw [r2] at hb
  rw [r3] at hc
  have HB := Lib.hid hb; have HC := Lib.hid hc
  refine ha.mono ?_
  rintro e w5 ⟨rfl, hb5⟩
  have HALL := Lib.hid (HALL.out.trans (hb5.mono HALL.out.size))
  clear ha hb hc hb5 r1 r2 r3
  go_wp2_with fail
  refine (HB.out w5).mono ?_
  rintro e w6 ⟨rfl, hb6⟩
  have HALL := Lib.hid (HALL.out.trans (hb6.mono HALL.out.size))
  clear hb6
  go_wp2_with fail
  refine (HC.out w6).mono ?_
  rintro e w7 ⟨rfl, hb7⟩
  have HALL := Lib.hid (HALL.out.trans (hb7.mono HALL.out.size))
  clear hb7
  go_wp2_with fail
  go_ret
  exact ⟨rfl, HW1.out.trans (HALL.out.mono HW1.out.size)⟩
end Go.Proofs.YtkiknbjokknemaaGreat
