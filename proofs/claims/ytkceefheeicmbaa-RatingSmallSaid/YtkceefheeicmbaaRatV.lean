/-
  Contracts in plainest words (ownership fun _ => 0); WALK of awake.
-/
import Derived.Test.YtkceefheeicmbaaRatU
import Derived.Test.YtkceefheeicmbaaRatN
import Derived.Test.YtkceefheeicmbaaKitC
namespace Go.Proofs.Ytkceefheeicmbaa
open Go.RowKit

theorem ext00 (n : Nat) : ext (fun _ => 0) n 0 = fun _ => 0 := by funext k; unfold ext; split <;> rfl
theorem Sl.old0 {w : World} {o : Own} {τ sz n c : Nat} {A : Option Addr} {xs : List Value} (h : Sl w o τ sz A n c xs) : Sl w (fun _ => 0) 0 sz A n c xs := by
  refine ⟨h.1, h.2.1, h.2.2.1, fun hn => ?_⟩
  obtain ⟨g, off, h1, -, h3, h4⟩ := h.2.2.2 hn
  exact ⟨g, off, h1, rfl, h3, h4⟩
theorem Sl.up {w w' : World} {sz n c : Nat} {A : Option Addr} {xs : List Value} (h : Sl w (fun _ => 0) 0 sz A n c xs) (hb : Below w.heap.size w w') : Sl w' (fun _ => 0) 0 sz A n c xs := by
  have := h.step ((Step.refl [] w (fun _ => 0)).below hb 0) (by simp)
  rwa [ext00] at this
theorem Sl.made (w : World) {sz n : Nat} {xs : List Value} (t : TypeId) (h : xs.length = n * sz) (hm : n ≤ maxLen) : Sl (w.alloc (.cells xs.toArray t)) (fun _ => 0) 0 sz (some ⟨w.heap.size, 0, none⟩) n n xs := by
  have b := Blk.new w t xs.toArray
  refine ⟨h, Nat.le_refl _, hm, fun hn => ⟨w.heap.size, 0, rfl, rfl, b.lt, fun j u hj => ?_⟩⟩
  rw [Nat.zero_add, b.cell, List.getElem?_toArray, hj]
theorem Sl.two (w : World) (a b : Int) : Sl (w.alloc (.cells #[.int .i64 a, .int .i64 b] 3)) (fun _ => 0) 0 1 (some ⟨w.heap.size, 0, none⟩) 2 2 (ints [a, b]) := Sl.made w (xs := ints [a, b]) (n := 2) (sz := 1) 3 rfl (by decide)
theorem Sl.tk2 (w : World) (x y : Tk) : Sl (w.alloc (.cells #[.int .i64 x.id, .int .i64 x.rt, .int .i64 x.si, .int .i64 y.id, .int .i64 y.rt, .int .i64 y.si] 24)) (fun _ => 0) 0 3 (some ⟨w.heap.size, 0, none⟩) 2 2 (tks [x, y]) := Sl.made w (xs := tks [x, y]) (n := 2) (sz := 3) 24 rfl (by decide)
theorem Sl.tk3 (w : World) (x y z : Tk) : Sl (w.alloc (.cells #[.int .i64 x.id, .int .i64 x.rt, .int .i64 x.si, .int .i64 y.id, .int .i64 y.rt, .int .i64 y.si, .int .i64 z.id, .int .i64 z.rt, .int .i64 z.si] 24)) (fun _ => 0) 0 3 (some ⟨w.heap.size, 0, none⟩) 3 3 (tks [x, y, z]) := Sl.made w (xs := tks [x, y, z]) (n := 3) (sz := 3) 24 rfl (by decide)
theorem below_then {w w1 w2 : World} (h : Below w.heap.size w w1) (h2 : Below w1.heap.size w1 w2) : Below w.heap.size w w2 := h.trans (h2.mono h.size)

theorem match0 (w : World) (A B : Option Addr) (n c d : Nat) (xs ys : List Int) (hS : Sl w (fun _ => 0) 0 1 A n c (ints xs)) (hT : Sl w (fun _ => 0) 0 1 B n d (ints ys)) (s k : Int) (hok : teamOk xs ys s k = true) (X Y : List Int) (hX : X = matchX xs ys s k) (hY : Y = matchY xs ys s k) :
    Calls Try.prog 24 #[.slice A n c, .slice B n d, .int .i64 s, .int .i64 k] w fun e w' => ∃ gx cx gy cy, e = .returned (.tuple #[.slice (some ⟨gx, 0, none⟩) n cx, .slice (some ⟨gy, 0, none⟩) n cy, .int .i64 0]) ∧ Below w.heap.size w w' ∧
      Sl w' (fun _ => 0) 0 1 (some ⟨gx, 0, none⟩) n cx (ints X) ∧ Sl w' (fun _ => 0) 0 1 (some ⟨gy, 0, none⟩) n cy (ints Y) := by
  have hl : xs.length = n := by have := hS.1; rw [len_ints] at this; omega
  refine (Match_ok w A B n c d xs ys hS hT s k hok).mono ?_
  rintro e w' ⟨gx, cx, gy, cy, o', he, hst, hx, hy⟩
  rw [hl] at he hx hy
  exact ⟨gx, cx, gy, cy, he, hst.to_below (by simp), by rw [hX]; exact hx.sl.old0, by rw [hY]; exact hy.sl.old0⟩
theorem pairs0 (w : World) (A : Option Addr) (n c : Nat) (l : List Tk) (t : Int) (hS : Sl w (fun _ => 0) 0 3 A n c (tks l)) (hok : pairsOk l t = true) (P : List (Int × Int)) (hP : P = pairsM l t) :
    Calls Try.prog 26 #[.slice A n c, .int .i64 t] w fun e w' => ∃ A' c', e = .returned (.tuple #[.slice A' P.length c', .int .i64 0]) ∧ Below w.heap.size w w' ∧ Sl w' (fun _ => 0) 0 2 A' P.length c' (prs P) := by
  refine (Pairs_ok w A n c l t hS hok).mono ?_
  rintro e w' ⟨A', c', o', he, hst, hr⟩
  rw [← hP] at he hr
  exact ⟨A', c', he, hst.to_below (by simp), hr.sl.old0⟩

theorem Gain_ok0 (W : World) (a b s k n : Int) (ha : 0 ≤ a ∧ a ≤ 4000) (hb : 0 ≤ b ∧ b ≤ 4000) (hs : s = 0 ∨ s = 512 ∨ s = 1024) (hk : 1 ≤ k ∧ k ≤ 64) (hn : n = exchM a b s (expM (a - b)) k) :
    Calls Try.prog 23 #[.int .i64 a, .int .i64 b, .int .i64 s, .int .i64 k] W fun e w' => e = .returned (.tuple #[.int .i64 n, .int .i64 0]) ∧ Below W.heap.size W w' := by
  have hok : gainOk a b s k = true := by unfold gainOk; rw [inR_iff.2 ha, inR_iff.2 hb, isSc_iff.2 hs, isWt_iff.2 hk]; rfl
  exact Gain_any W a b s k n 0 (by unfold gainM; rw [if_pos hok, hn]) (by unfold gainE; rw [if_pos hok])

theorem ex_pairs1 : [(2, 3)] = pairsM [⟨1, 1000, 0⟩, ⟨2, 1040, 0⟩, ⟨3, 1045, 0⟩] 0 := by unfold pairsM; rw [sortK_eq]; decide
theorem ex_pairs2 : [] = pairsM [⟨1, 1000, 0⟩, ⟨2, 1200, 50⟩] 124 := by unfold pairsM; rw [sortK_eq]; decide
theorem ex_pairs3 : [(1, 2)] = pairsM [⟨1, 1000, 0⟩, ⟨2, 1200, 50⟩] 125 := by unfold pairsM; rw [sortK_eq]; decide
theorem ex_match : [1516, 1716] = matchX [1500, 1700] [1600, 1600] 1024 32 ∧ [1584, 1584] = matchY [1500, 1700] [1600, 1600] 1024 32 := by decide
theorem ex_gain : 12 = exchM 1600 1500 1024 (expM (1600 - 1500)) 32 ∧ -20 = exchM 1600 1500 0 (expM (1600 - 1500)) 32 ∧ 5 = exchM 3995 4000 1024 (expM (3995 - 4000)) 32 := by decide
theorem prs_cell {w : World} {A : Option Addr} {n c : Nat} {a b : Int} {l : List (Int × Int)} (h : Sl w (fun _ => 0) 0 2 A n c (prs ((a, b) :: l))) : ∃ g off, A = some ⟨g, off, none⟩ ∧ g < w.heap.size ∧ w.cell? ⟨g, off, none⟩ = some (.int .i64 a) ∧ w.cell? ⟨g, off + 1, none⟩ = some (.int .i64 b) := by
  have h1 := h.1
  rw [prs, List.flatMap_cons, List.length_append] at h1
  simp only [List.length_cons] at h1
  obtain ⟨g, off, hA, -, hg, hc⟩ := h.2.2.2 (by omega)
  exact ⟨g, off, hA, hg, hc 0 _ rfl, hc 1 _ rfl⟩
theorem below_drewN' (w : World) (k : Nat) : Below w.heap.size w (w.drewN k) := Below.drewK (Below.refl _ _) k
theorem ex_exp : 548 = expM 25 ∧ 476 = expM (-25) ∧ 1014 = expM 1000 ∧ 200 = winM 50 125 := by decide

set_option maxRecDepth 100000 in
set_option maxHeartbeats 4000000 in
theorem awake_any (W : World) : Calls Try.prog 19 #[] W (SaysTo W true) := by
  go_enter Try.func19, Try.ntmps19
  go_wp2_with fail
  refine (Gain_ok0 _ 1600 1500 1024 32 12 (by omega) (by omega) (by omega) (by omega) ex_gain.1).mono ?_
  rintro e w1 ⟨rfl, hb1⟩
  have HB1 := Lib.hid hb1; clear hb1
  go_wp2_with fail
  refine (Gain_ok0 _ 1600 1500 0 32 (-20) (by omega) (by omega) (by omega) (by omega) ex_gain.2.1).mono ?_
  rintro e w2 ⟨rfl, hb2⟩
  have HB2 := Lib.hid (below_then HB1.out hb2); clear hb2 HB1
  go_wp2_with fail
  refine (Gain_ok0 _ 3995 4000 1024 32 5 (by omega) (by omega) (by omega) (by omega) ex_gain.2.2).mono ?_
  rintro e w3 ⟨rfl, hb3⟩
  have HB3 := Lib.hid (below_then HB2.out hb3); clear hb3 HB2
  go_wp2_with fail
  have s1 := (Sl.two w3 1500 1700).up ((Below.refl _ _).alloc (Nat.le_refl _) (.cells #[.int .i64 1600, .int .i64 1600] 3))
  have s2 := Sl.two (w3.alloc (.cells #[.int .i64 1500, .int .i64 1700] 3)) 1600 1600
  rw [World.size_alloc] at s2
  have hm := match0 _ _ _ 2 _ _ [1500, 1700] [1600, 1600] s1 s2 1024 32 (by decide) _ _ ex_match.1 ex_match.2
  clear s1 s2
  refine hm.mono ?_
  clear hm
  rintro e w4 ⟨gx, cx, gy, cy, rfl, hb4, hx, hy⟩
  have HB4 := Lib.hid (below_then HB3.out (below_then (((Below.refl _ w3).alloc (Nat.le_refl _) _).alloc (by simp) _) hb4)); clear hb4 HB3
  have HX := Lib.hid hx; have HY := Lib.hid hy
  clear hx hy
  go_wp2_with fail
  have hm := pairs0 _ _ 3 _ [⟨1, 1000, 0⟩, ⟨2, 1040, 0⟩, ⟨3, 1045, 0⟩] 0 (Sl.tk3 w4 ⟨1, 1000, 0⟩ ⟨2, 1040, 0⟩ ⟨3, 1045, 0⟩) (by decide) _ ex_pairs1
  refine hm.mono ?_
  clear hm
  rintro e w5 ⟨P1, c1, rfl, hb5, hp1⟩
  have hbb5 := below_then ((Below.refl _ w4).alloc (Nat.le_refl _) _) hb5
  have HB5 := Lib.hid (below_then HB4.out hbb5)
  have HX5 := Lib.hid (HX.out.up hbb5); have HY5 := Lib.hid (HY.out.up hbb5); have HP1 := Lib.hid hp1
  clear hb5 hbb5 HX HY HB4 hp1
  go_wp2_with fail
  have hm := pairs0 _ _ 2 _ [⟨1, 1000, 0⟩, ⟨2, 1200, 50⟩] 124 (Sl.tk2 w5 ⟨1, 1000, 0⟩ ⟨2, 1200, 50⟩) (by decide) _ ex_pairs2
  refine hm.mono ?_
  clear hm
  rintro e w6 ⟨P2, c2, rfl, hb6, -⟩
  have hbb6 := below_then ((Below.refl _ w5).alloc (Nat.le_refl _) _) hb6
  have HB6 := Lib.hid (below_then HB5.out hbb6)
  have HX6 := Lib.hid (HX5.out.up hbb6); have HY6 := Lib.hid (HY5.out.up hbb6); have HP6 := Lib.hid (HP1.out.up hbb6)
  clear hb6 hbb6 HX5 HY5 HB5 HP1
  go_wp2_with fail
  have hm := pairs0 _ _ 2 _ [⟨1, 1000, 0⟩, ⟨2, 1200, 50⟩] 125 (Sl.tk2 w6 ⟨1, 1000, 0⟩ ⟨2, 1200, 50⟩) (by decide) _ ex_pairs3
  refine hm.mono ?_
  clear hm
  rintro e w7 ⟨P3, c3, rfl, hb7, -⟩
  have hbb7 := below_then ((Below.refl _ w6).alloc (Nat.le_refl _) _) hb7
  have HB7 := Lib.hid (below_then HB6.out hbb7)
  have HX7 := Lib.hid (HX6.out.up hbb7); have HY7 := Lib.hid (HY6.out.up hbb7); have HP7 := Lib.hid (HP6.out.up hbb7)
  clear hb7 hbb7 HX6 HY6 HB6 HP6
  go_wp2_with fail
  refine (Expected_any _ 25 548 ex_exp.1 (by omega) (by omega)).mono ?_
  rintro e w8 ⟨rfl, hb8⟩
  have HB8 := Lib.hid (below_then HB7.out hb8)
  have HX8 := Lib.hid (HX7.out.up hb8); have HY8 := Lib.hid (HY7.out.up hb8); have HP8 := Lib.hid (HP7.out.up hb8)
  clear hb8 HX7 HY7 HB7 HP7
  go_wp2_with fail
  refine (Expected_any _ (-25) 476 ex_exp.2.1 (by omega) (by omega)).mono ?_
  rintro e w9 ⟨rfl, hb9⟩
  have HB9 := Lib.hid (below_then HB8.out hb9)
  have HX9 := Lib.hid (HX8.out.up hb9); have HY9 := Lib.hid (HY8.out.up hb9); have HP9 := Lib.hid (HP8.out.up hb9)
  clear hb9 HX8 HY8 HB8 HP8
  go_wp2_with fail
  refine (Expected_any _ 1000 1014 ex_exp.2.2.1 (by omega) (by omega)).mono ?_
  rintro e w10 ⟨rfl, hb10⟩
  have HB10 := Lib.hid (below_then HB9.out hb10)
  have HX10 := Lib.hid (HX9.out.up hb10); have HY10 := Lib.hid (HY9.out.up hb10); have HP10 := Lib.hid (HP9.out.up hb10)
  clear hb10 HX9 HY9 HB9 HP9
  go_wp2_with fail
  have hm := SameInts_any _ _ _ _ _ _ _ _ _ _ _ [1516, 1716] [1516, 1716] (HX10.out.up ((Below.refl _ w10).alloc (Nat.le_refl _) (.cells #[.int .i64 1516, .int .i64 1716] 3))) (Sl.two w10 1516 1716)
  rw [show decide (([1516, 1716] : List Int) = [1516, 1716]) = true from rfl] at hm
  refine hm.mono ?_
  clear hm
  rintro e w11 ⟨rfl, k11, hw11⟩
  have hb11 : Below w10.heap.size w10 w11 := by rw [hw11]; exact below_then ((Below.refl _ w10).alloc (Nat.le_refl _) _) (below_drewN' _ _)
  have HB11 := Lib.hid (below_then HB10.out hb11)
  have HY11 := Lib.hid (HY10.out.up hb11); have HP11 := Lib.hid (HP10.out.up hb11)
  clear hb11 HX10 HY10 HB10 HP10 hw11
  go_wp2_with fail
  have hm := SameInts_any _ _ _ _ _ _ _ _ _ _ _ [1584, 1584] [1584, 1584] (HY11.out.up ((Below.refl _ w11).alloc (Nat.le_refl _) (.cells #[.int .i64 1584, .int .i64 1584] 3))) (Sl.two w11 1584 1584)
  rw [show decide (([1584, 1584] : List Int) = [1584, 1584]) = true from rfl] at hm
  refine hm.mono ?_
  clear hm
  rintro e w12 ⟨rfl, k12, hw12⟩
  have hb12 : Below w11.heap.size w11 w12 := by rw [hw12]; exact below_then ((Below.refl _ w11).alloc (Nat.le_refl _) _) (below_drewN' _ _)
  have HB12 := Lib.hid (below_then HB11.out hb12)
  obtain ⟨g, off, rfl, hg, q0, q1⟩ := prs_cell (HP11.out.up hb12)
  clear hb12 HY11 HB11 HP11 hw12
  go_wp2_with fail
  refine (Window_any _ 0 0 50 125 200 ex_exp.2.2.2).mono ?_
  rintro e w13 ⟨rfl, hb13⟩
  have HB13 := Lib.hid (below_then HB12.out hb13)
  clear hb13 HB12
  go_wp2_with fail
  go_ret
  exact ⟨rfl, HB13.out⟩
end Go.Proofs.Ytkceefheeicmbaa
