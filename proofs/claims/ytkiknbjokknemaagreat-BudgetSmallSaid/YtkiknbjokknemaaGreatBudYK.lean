/-
  WALK of BudgetSmall: all lists of three IDs.
-/
import Derived.Test.YtkiknbjokknemaaGreatBudYJ
import Derived.Test.YtkiknbjokknemaaGreatBudTQ
import Derived.Deep.CutBlock
import Derived.Deep.DeepCutAuto
import Derived.Great.BuildSlice
namespace Go.Proofs.YtkiknbjokknemaaGreat
open Go.RowKit Go.Maps

theorem tmodN (a b : Nat) : ((a : Int)).tmod (b : Int) = ((a % b : Nat) : Int) := by rw [Int.tmod_eq_emod_of_nonneg (by omega)]; omega
theorem tdivN (a b : Nat) : ((a : Int)).tdiv (b : Int) = ((a / b : Nat) : Int) := by rw [Int.tdiv_eq_ediv_of_nonneg (by omega)]; rfl

/-- A contract of tells for rows that lie in any later world. -/
theorem tells_row {w W : World} {LA WA : Option Addr} {ln lc wn wc : Nat} {ls : List It} {ws : List (Int × Int)} (hl : Sl w (fun _ => 0) 0 3 LA ln lc (itms ls)) (hw : Sl w (fun _ => 0) 0 2 WA wn wc (wnts ws)) (hb : Below w.heap.size w W) (hln : ln ≤ 80) (hwn : wn ≤ 80) (k s : Int) (hk : -9223372036854775808 ≤ k ∧ k ≤ 9223372036854775807) (hs : -1 ≤ s ∧ s ≤ 60) :
    Calls Tryz.prog 5 #[.slice LA ln lc, .slice WA wn wc, .int .i64 k, .int .i64 s] W (SaysTo W true) :=
  tells_any W LA ln lc ls (hl.up0 hb) hln WA wn wc ws (hw.up0 hb) hwn k s hk.1 hk.2 (by omega) (by omega) (.inl hs.2)

def nums17 : Array Value := #[.int .i64 (-9223372036854775808), .int .i64 (-1), .int .i64 0, .int .i64 1, .int .i64 2, .int .i64 15, .int .i64 16, .int .i64 17, .int .i64 63, .int .i64 64, .int .i64 65, .int .i64 65536, .int .i64 65537, .int .i64 1073741823, .int .i64 1073741824, .int .i64 1073741825, .int .i64 9223372036854775807]
/-- The literal of the seventeen numbers. -/
theorem wpList_nums {ops : Array Oper} {rest : List Oper} {o : Oper} {a : Act} {w : World} {Q : Exit → Act → World → Prop} (hg : o.guard = none) (ho : o.op = .buildSlice 30 17 #[(0, .const (.int .i64 (-9223372036854775808))), (1, .const (.int .i64 (-1))), (2, .const (.int .i64 (0))), (3, .const (.int .i64 (1))), (4, .const (.int .i64 (2))), (5, .const (.int .i64 (15))), (6, .const (.int .i64 (16))), (7, .const (.int .i64 (17))), (8, .const (.int .i64 (63))), (9, .const (.int .i64 (64))), (10, .const (.int .i64 (65))), (11, .const (.int .i64 (65536))), (12, .const (.int .i64 (65537))), (13, .const (.int .i64 (1073741823))), (14, .const (.int .i64 (1073741824))), (15, .const (.int .i64 (1073741825))), (16, .const (.int .i64 (9223372036854775807)))])
    (h : wpList Tryz.prog ops Q rest (a.put o.dst (.slice (some ⟨w.heap.size, 0, none⟩) 17 17)) (w.alloc (.cells nums17 3))) : wpList Tryz.prog ops Q (o :: rest) a w := by
  have hi : ∃ i, Tryz.prog.info? 3 = some i ∧ i.zero = some (.int .i64 0) ∧ i.size = 1 := by
    have hs : (Tryz.prog.info? 3).map (fun i => (i.zero, i.size)) = some (some (.int .i64 0), 1) := by kernel_rfl
    cases hq : Tryz.prog.info? 3 with
    | none => rw [hq] at hs; cases hs
    | some i =>
      rw [hq] at hs
      simp only [Option.map_some, Option.some.injEq, Prod.mk.injEq] at hs
      exact ⟨i, rfl, hs.1, hs.2⟩
  obtain ⟨i, hi, hz, hsz⟩ := hi
  refine wpList_buildSlice hg _ 3 17 _ ho nums17 i _ Tryz.underlying30 hi hz (by rw [hsz]; decide) (by rw [hsz]; decide) ?_ h
  rw [hsz]
  kernel_rfl
/-- The literal of the three items. -/
theorem wpList_items3 {ops : Array Oper} {rest : List Oper} {o : Oper} {a : Act} {w : World} {Q : Exit → Act → World → Prop} (hg : o.guard = none) (ho : o.op = .buildSlice 24 3 #[(0, .tmp 93), (1, .tmp 94), (2, .tmp 95)])
    (h : wpList Tryz.prog ops Q rest (a.put o.dst (.slice (some ⟨w.heap.size, 0, none⟩) 3 3)) (w.alloc (.cells #[.int .i64 1, .int .i64 1, .int .i64 5, .int .i64 2, .int .i64 2, .int .i64 1073741823, .int .i64 3, .int .i64 16, .int .i64 0] 28)))
    (hv : a.eval (.tmp 93) = .agg #[.int .i64 1, .int .i64 1, .int .i64 5] ∧ a.eval (.tmp 94) = .agg #[.int .i64 2, .int .i64 2, .int .i64 1073741823] ∧ a.eval (.tmp 95) = .agg #[.int .i64 3, .int .i64 16, .int .i64 0]) : wpList Tryz.prog ops Q (o :: rest) a w := by
  have hi : ∃ i, Tryz.prog.info? 28 = some i ∧ i.zero = some (.agg #[.int .i64 0, .int .i64 0, .int .i64 0]) ∧ i.size = 3 := by
    have hs : (Tryz.prog.info? 28).map (fun i => (i.zero, i.size)) = some (some (.agg #[.int .i64 0, .int .i64 0, .int .i64 0]), 3) := by kernel_rfl
    cases hq : Tryz.prog.info? 28 with
    | none => rw [hq] at hs; cases hs
    | some i =>
      rw [hq] at hs
      simp only [Option.map_some, Option.some.injEq, Prod.mk.injEq] at hs
      exact ⟨i, rfl, hs.1, hs.2⟩
  obtain ⟨i, hi, hz, hsz⟩ := hi
  refine wpList_buildSlice hg _ 28 3 _ ho _ i _ Tryz.underlying24 hi hz (by rw [hsz]; decide) (by rw [hsz]; decide) ?_ h
  rw [hsz]
  rw [Array.toList_map]
  show Instr.fill _ _ [(0, a.eval (.tmp 93)), (1, a.eval (.tmp 94)), (2, a.eval (.tmp 95))] = _
  rw [hv.1, hv.2.1, hv.2.2]
  kernel_rfl
theorem nums_at (i : Nat) (h : i < 17) : ∃ v : Int, nums17[i]? = some (.int .i64 v) ∧ -9223372036854775808 ≤ v ∧ v ≤ 9223372036854775807 := by
  rcases (show i = 0 ∨ i = 1 ∨ i = 2 ∨ i = 3 ∨ i = 4 ∨ i = 5 ∨ i = 6 ∨ i = 7 ∨ i = 8 ∨ i = 9 ∨ i = 10 ∨ i = 11 ∨ i = 12 ∨ i = 13 ∨ i = 14 ∨ i = 15 ∨ i = 16 by omega) with rfl | rfl | rfl | rfl | rfl | rfl | rfl | rfl | rfl | rfl | rfl | rfl | rfl | rfl | rfl | rfl | rfl <;> exact ⟨_, rfl, by decide, by decide⟩
theorem wnts_put : ∀ (l : List (Int × Int)) (j : Nat) (v : Int), j < l.length * 2 → ∃ l' : List (Int × Int), (wnts l).set j (.int .i64 v) = wnts l'
  | [], j, v, h => by simp at h
  | x :: l, 0, v, _ => ⟨(v, x.2) :: l, rfl⟩
  | x :: l, 1, v, _ => ⟨(x.1, v) :: l, rfl⟩
  | x :: l, j + 2, v, h => by
    obtain ⟨l', hl⟩ := wnts_put l j v (by simp at h; omega)
    refine ⟨x :: l', ?_⟩
    show ([Value.int .i64 x.1, .int .i64 x.2] ++ wnts l).set (j + 2) (.int .i64 v) = [Value.int .i64 x.1, .int .i64 x.2] ++ wnts l'
    rw [List.set_append_right _ _ (by simp), ← hl]
    rfl
theorem itms_put : ∀ (l : List It) (j : Nat) (v : Int), j < l.length * 3 → ∃ l' : List It, (itms l).set j (.int .i64 v) = itms l'
  | [], j, v, h => by simp at h
  | x :: l, 0, v, _ => ⟨⟨v, x.wt, x.sc⟩ :: l, rfl⟩
  | x :: l, 1, v, _ => ⟨⟨x.id, v, x.sc⟩ :: l, rfl⟩
  | x :: l, 2, v, _ => ⟨⟨x.id, x.wt, v⟩ :: l, rfl⟩
  | x :: l, j + 3, v, h => by
    obtain ⟨l', hl⟩ := itms_put l j v (by simp at h; omega)
    refine ⟨x :: l', ?_⟩
    show ([Value.int .i64 x.id, .int .i64 x.wt, .int .i64 x.sc] ++ itms l).set (j + 3) (.int .i64 v) = [Value.int .i64 x.id, .int .i64 x.wt, .int .i64 x.sc] ++ itms l'
    rw [List.set_append_right _ _ (by simp), ← hl]
    rfl
theorem sl_blk {w : World} {g n sz : Nat} {t : TypeId} {cs : Array Value} (h : Blk w g t cs) (hs : cs.size = n * sz) (hn : n ≤ maxLen) : Sl w (fun _ => 0) 0 sz (some ⟨g, 0, none⟩) n n cs.toList :=
  ⟨by simpa using hs, Nat.le_refl _, hn, fun _ => ⟨g, 0, rfl, rfl, h.lt, fun j u hu => by rw [Nat.zero_add, h.cell]; simpa using hu⟩⟩
theorem nil_its (w : World) : Sl w (fun _ => 0) 0 3 none 0 0 (itms []) := ⟨rfl, Nat.le_refl _, Nat.zero_le _, fun h => absurd h (Nat.lt_irrefl _)⟩
theorem nil_wts (w : World) : Sl w (fun _ => 0) 0 2 none 0 0 (wnts []) := ⟨rfl, Nat.le_refl _, Nat.zero_le _, fun h => absurd h (Nat.lt_irrefl _)⟩
theorem run_full0 {W : World} {B : Option Addr} {m d : Nat} (hB : Sl W (fun _ => 0) 0 2 B m d (wnts [(1, 4), (2, 1), (3, 2)])) (s : Nat) (hs : s ≤ 10000) :
    Calls Tryz.prog 8 #[.slice none 0 0, .slice B m d, .int .i64 (1 : Nat), .int .i64 s] W fun e w' => ∃ (OA : Option Addr) (on oc : Nat) (LA : Option Addr) (lc : Nat), e = .returned (.tuple #[.slice OA on oc, .slice LA s lc, .int .i64 0]) ∧ Below W.heap.size W w' := by
  refine (RunA_any W _ 0 0 none 0 0 [] (nil_its W) B m d _ hB ((validB_iff []).1 (by decide)) ((rightB_iff _).1 (by decide)) 1 (by decide) s hs).mono ?_
  rintro e' w' ⟨OA, on, oc, LA, lc, o', rfl, r1, r2, r3, r4⟩
  exact ⟨OA, on, oc, LA, lc, rfl, r1.to_below (fun _ _ => by simp)⟩
theorem run_full {W : World} {B : Option Addr} {m d : Nat} (hB : Sl W (fun _ => 0) 0 2 B m d (wnts [(1, 4), (2, 1), (3, 2)])) :
    Calls Tryz.prog 8 #[.slice none 0 0, .slice B m d, .int .i64 1, .int .i64 10000] W fun e w' => ∃ (OA : Option Addr) (on oc : Nat) (LA : Option Addr) (lc : Nat), e = .returned (.tuple #[.slice OA on oc, .slice LA 10000 lc, .int .i64 0]) ∧ Below W.heap.size W w' :=
  run_full0 hB 10000 (Nat.le_refl _)
theorem run_over {W : World} {B : Option Addr} {m d : Nat} (hB : Sl W (fun _ => 0) 0 2 B m d (wnts [(1, 4), (2, 1), (3, 2)])) :
    Calls Tryz.prog 8 #[.slice none 0 0, .slice B m d, .int .i64 1, .int .i64 10001] W (NoTo W) :=
  Run_bad W _ 0 0 none 0 0 [] (nil_its W) B m d _ hB 1 10001 (.inr (.inl (by decide)))
/-- Three wants and three items, one number of them set. -/
structure Five (wo : World) (g1 g2 gn i : Nat) (v : Int) (wx : World) : Prop where
  ex : ∃ (ls : List It) (ws : List (Int × Int)), Sl wx (fun _ => 0) 0 2 (some ⟨g1, 0, none⟩) 3 3 (wnts ws) ∧ Sl wx (fun _ => 0) 0 3 (some ⟨g2, 0, none⟩) 3 3 (itms ls) ∧ Below wo.heap.size wo wx ∧ wx.cell? ⟨gn, i, none⟩ = some (.int .i64 v)

/-- Three wants and three items are laid down. -/
theorem five_of {wo wr : World} {gn i : Nat} {v : Int} (hb : Below wo.heap.size wo wr) (hn : wo.cell? ⟨gn, i, none⟩ = some (.int .i64 v)) (W : World := (wr.alloc (.cells #[.int .i64 1, .int .i64 4, .int .i64 2, .int .i64 1, .int .i64 3, .int .i64 2] 26)).alloc (.cells #[.int .i64 1, .int .i64 1, .int .i64 5, .int .i64 2, .int .i64 2, .int .i64 1073741823, .int .i64 3, .int .i64 16, .int .i64 0] 28)) (hW : W = (wr.alloc (.cells #[.int .i64 1, .int .i64 4, .int .i64 2, .int .i64 1, .int .i64 3, .int .i64 2] 26)).alloc (.cells #[.int .i64 1, .int .i64 1, .int .i64 5, .int .i64 2, .int .i64 2, .int .i64 1073741823, .int .i64 3, .int .i64 16, .int .i64 0] 28) := by rfl) :
    Blk W wr.heap.size 26 #[.int .i64 1, .int .i64 4, .int .i64 2, .int .i64 1, .int .i64 3, .int .i64 2] ∧ Blk W (wr.heap.size + 1) 28 #[.int .i64 1, .int .i64 1, .int .i64 5, .int .i64 2, .int .i64 2, .int .i64 1073741823, .int .i64 3, .int .i64 16, .int .i64 0] ∧
      wr.heap.size ≠ wr.heap.size + 1 ∧ Below wo.heap.size wo W ∧ wo.heap.size ≤ wr.heap.size ∧ wo.heap.size ≤ wr.heap.size + 1 ∧ wr.heap.size ≠ gn ∧ wr.heap.size + 1 ≠ gn ∧ W.cell? ⟨gn, i, none⟩ = some (.int .i64 v) := by
  subst hW
  have hs := hb.size
  have hg := World.block_lt_of_cell? wo _ hn
  simp only at hg
  have k1 := (Blk.new wr 26 #[.int .i64 1, .int .i64 4, .int .i64 2, .int .i64 1, .int .i64 3, .int .i64 2]).alloc (.cells #[.int .i64 1, .int .i64 1, .int .i64 5, .int .i64 2, .int .i64 2, .int .i64 1073741823, .int .i64 3, .int .i64 16, .int .i64 0] 28)
  have k2 := Blk.new (wr.alloc (.cells #[.int .i64 1, .int .i64 4, .int .i64 2, .int .i64 1, .int .i64 3, .int .i64 2] 26)) 28 #[.int .i64 1, .int .i64 1, .int .i64 5, .int .i64 2, .int .i64 2, .int .i64 1073741823, .int .i64 3, .int .i64 16, .int .i64 0]
  rw [World.size_alloc] at k2
  have hbb : Below wo.heap.size wo ((wr.alloc (.cells #[.int .i64 1, .int .i64 4, .int .i64 2, .int .i64 1, .int .i64 3, .int .i64 2] 26)).alloc (.cells #[.int .i64 1, .int .i64 1, .int .i64 5, .int .i64 2, .int .i64 2, .int .i64 1073741823, .int .i64 3, .int .i64 16, .int .i64 0] 28)) := (hb.alloc hs _).alloc (by rw [World.size_alloc]; omega) _
  exact ⟨k1, k2, by omega, hbb, hs, by omega, by omega, by omega, (hbb.cell (p := ⟨gn, i, none⟩) hg).trans hn⟩

set_option maxRecDepth 100000 in
set_option maxHeartbeats 8000000 in
theorem BudgetSmall_walk (w : World) : Calls Tryz.prog 3 #[] w (SaysTo w true) := by
  obtain ⟨P, hP⟩ : ∃ P, P = SaysTo w true := ⟨_, rfl⟩
  rw [← hP]
  have HP := Lib.hid hP
  clear hP
  have b1 := Blk.new w 22 #[.int .i64 1, .int .i64 2, .int .i64 5, .int .i64 0]
  have hb1 : Below w.heap.size w (w.alloc (.cells #[.int .i64 1, .int .i64 2, .int .i64 5, .int .i64 0] 22)) := (Below.refl _ _).alloc (Nat.le_refl _) _
  go_enter Tryz.func3, Tryz.ntmps3
  go_upto_region 2 with fail
  generalize w.alloc (.cells #[.int .i64 1, .int .i64 2, .int .i64 5, .int .i64 0] 22) = w1 at b1 hb1 ⊢
  generalize w.heap.size = gw at b1 ⊢
  have B1 := Lib.hid b1; have HB1 := Lib.hid hb1
  clear b1 hb1
  go_upto_block 0 with fail
  go_cut [] (fun wx => Hid (Below w1.heap.size w1 wx))
  case first => as_aux_lemma =>
   go_wp2_with fail
   go_loopw [2] (fun nv wr => ∃ q : Nat, q ≤ 256 ∧ nv = .int .i64 (q : Int) ∧ Hid (Below w1.heap.size w1 wr)) (fun nv _ => 256 - (intOf nv).toNat)
   case atStart => exact ⟨0, Nat.zero_le _, rfl, Lib.hid (Below.refl _ _)⟩
   case round => as_aux_lemma =>
     obtain ⟨q, hq, rfl, HQ⟩ := hrel
     by_cases hlt : q < 256
     · have HBW := Lib.hid (B1.out.below HQ.out B1.out.lt)
       have hqi : (q : Int) < 256 := by omega
       generalize wr = wo at HQ HBW ⊢
       clear wr
       go_wp2_with fail
       go_loopw [5, 6, 3, 4] (fun iv xv wv lv wx => ∃ (i y : Nat) (WA : Option Addr) (wn wc : Nat) (LA : Option Addr) (ln lc : Nat) (ws : List (Int × Int)) (ls : List It) (oo : Own), i ≤ 4 ∧ y ≤ 255 ∧ iv = .int .i64 (i : Int) ∧ xv = .int .i64 (y : Int) ∧ wv = .slice WA wn wc ∧ lv = .slice LA ln lc ∧ wn ≤ i ∧ ln ≤ i ∧
         Hid (Step [] wo (fun _ => 0) wx oo ∧ Row wx oo 40 26 2 WA wn wc (wnts ws) ∧ Row wx oo 41 28 3 LA ln lc (itms ls))) (fun iv _ _ _ _ => 4 - (intOf iv).toNat)
       case atStart => exact ⟨0, q, none, 0, 0, none, 0, 0, [], [], fun _ => 0, by omega, by omega, rfl, rfl, rfl, rfl, Nat.le_refl _, Nat.le_refl _, Lib.hid ⟨Step.refl _ _ _, Row.nil_ _ _ _ _ _, Row.nil_ _ _ _ _ _⟩⟩
       case round => as_aux_lemma =>
         obtain ⟨i, y, WA, wn, wc, LA, ln, lc, ws, ls, oo, hi, hy, rfl, rfl, rfl, rfl, hwn, hln, HI⟩ := hrel
         by_cases hlt2 : i < 4
         · have hii : (i : Int) < 4 := by omega
           obtain ⟨r, hr⟩ : ∃ r, r = y % 4 := ⟨_, rfl⟩
           have hr4 : r < 4 := by omega
           have h4 : ((y : Int)).tmod 4 = (r : Int) := by rw [hr]; exact tmodN y 4
           have hy4 : ((y : Int)).tdiv 4 = ((y / 4 : Nat) : Int) := tdivN y 4
           have hbw := HBW.out.step HI.out.1 (by simp)
           obtain ⟨wt, hwt⟩ : ∃ wt : Int, wr.cell? ⟨gw, r, none⟩ = some (.int .i64 wt) := by
             have h := hbw.cell r
             rcases (show r = 0 ∨ r = 1 ∨ r = 2 ∨ r = 3 by omega) with rfl | rfl | rfl | rfl
             · exact ⟨1, h⟩
             · exact ⟨2, h⟩
             · exact ⟨5, h⟩
             · exact ⟨0, h⟩
           have h3 : ((y : Int) + (q : Int) + (i : Int)).tmod 3 = (((y + q + i) % 3 : Nat) : Int) := by have := tmodN (y + q + i) 3; rwa [Int.natCast_add, Int.natCast_add] at this
           have h5 : ((q : Int)).tmod 5 = ((q % 5 : Nat) : Int) := tmodN q 5
           have h7 : ((q : Int) + (i : Int)).tmod 7 = (((q + i) % 7 : Nat) : Int) := by have := tmodN (q + i) 7; rwa [Int.natCast_add] at this
           obtain ⟨y4, hy4'⟩ : ∃ a, a = y / 4 := ⟨_, rfl⟩
           rw [← hy4'] at hy4
           obtain ⟨c3, hc3⟩ : ∃ a, a = (y + q + i) % 3 := ⟨_, rfl⟩
           rw [← hc3] at h3
           obtain ⟨q5, hq5⟩ : ∃ a, a = q % 5 := ⟨_, rfl⟩
           rw [← hq5] at h5
           obtain ⟨q7, hq7⟩ : ∃ a, a = (q + i) % 7 := ⟨_, rfl⟩
           rw [← hq7] at h7
           have h54 : ((q5 : Int)).tdiv 4 = ((q5 / 4 : Nat) : Int) := tdivN q5 4
           obtain ⟨q54, hq54⟩ : ∃ a, a = q5 / 4 := ⟨_, rfl⟩
           rw [← hq54] at h54
           obtain ⟨t3, ht3⟩ : ∃ t3 : Int, 3 * (i : Int) = t3 := ⟨_, rfl⟩
           have bt0 : 0 ≤ t3 := by omega
           have bt1 : t3 ≤ 12 := by omega
           have b3 : c3 < 3 := by omega
           have b5 : q5 < 5 := by omega
           have b7 : q7 < 7 := by omega
           have b54 : q54 ≤ 1 := by omega
           have by4 : y4 ≤ 255 := by omega
           clear hr hy4' hc3 hq5 hq7 hq54 hbw
           rcases Bool.eq_false_or_eq_true (decide (0 < wt)) with dw | dw
           · obtain ⟨oW, stW, rwW, slW, hup⟩ := laidI HI.out.2.1 #[.int .i64 (t3), .int .i64 wt] 2 rfl (by omega) 26
             have hlW := hup HI.out.2.2
             have RW := Lib.hid rwW; have SW := Lib.hid slW; have LW := Lib.hid hlW; have ST := Lib.hid (HI.out.1.trans stW)
             clear rwW slW hlW hup stW
             go_upto_region 12 with (at_builtin; refine wpList_append_row _ rfl (.tmp 39) (.tmp 47) _ rfl el_want oW 40 WA wn wc _ rfl RW.out oW 5 _ 1 1 [.int .i64 (t3), .int .i64 wt] rfl SW.out (by simp [Value.oneCell']) (by omega) (by simp only [maxLen]; omega) ?_; intro A' c' w6 hR6 hg6 hat6; have HR6 := Lib.hid hR6; have HG6 := Lib.hid hg6; clear hR6 hg6 hat6)
             have st6 := Step.append RW.out HG6.out 40
             have hw6 := HR6.out
             rw [show wnts ws ++ [Value.int .i64 (t3), .int .i64 wt] = wnts (ws ++ [(t3, wt)]) by rw [wnts_app]; rfl] at hw6
             have hl6 := LW.out.step st6 (by simp)
             have hs6 := ((ST.out.nil (ts := [40])).trans st6).forget (ts' := []) (fun t ht _ k hk => by simp at ht; subst ht; simp)
             have HI2 := Lib.hid (And.intro hs6 (And.intro hw6 hl6))
             clear st6 hw6 hl6 hs6 HI HR6 HG6 RW SW LW ST
             rcases Bool.eq_false_or_eq_true (decide (0 < c3)) with dc | dc
             · obtain ⟨oV, stV, rwV, slV, hup⟩ := laidI HI2.out.2.2 #[.int .i64 (t3 + (q54 : Int)), .int .i64 (1 + (r : Int)), .int .i64 (q7 : Int)] 3 rfl (by omega) 28
               have hlV := hup HI2.out.2.1
               have RV := Lib.hid rwV; have SV := Lib.hid slV; have LV := Lib.hid hlV; have SU := Lib.hid (HI2.out.1.trans stV)
               clear rwV slV hlV hup stV
               go_wp2_with (at_builtin; refine wpList_append_row _ rfl (.tmp 56) (.tmp 71) _ rfl el_item oV 41 LA ln lc _ rfl RV.out oV 5 _ 1 1 [.int .i64 (t3 + (q54 : Int)), .int .i64 (1 + (r : Int)), .int .i64 (q7 : Int)] rfl SV.out (by simp [Value.oneCell']) (by omega) (by simp only [maxLen]; omega) ?_; intro B' d' w7 hR7 hg7 hat7; have HR7 := Lib.hid hR7; have HG7 := Lib.hid hg7; clear hR7 hg7 hat7)
               go_roundw
               case rel =>
                 have st7 := Step.append RV.out HG7.out 41
                 refine ⟨i + 1, y4, A', wn + 1, c', B', ln + 1, d', ws ++ [(t3, wt)], ls ++ [⟨t3 + (q54 : Int), 1 + (r : Int), (q7 : Int)⟩], _, by omega, by omega, by go_num, rfl, rfl, rfl, by omega, by omega, Lib.hid ⟨((SU.out.nil (ts := [41])).trans st7).forget (ts' := []) (fun t ht _ k hk => by simp at ht; subst ht; simp), LV.out.step st7 (by simp), ?_⟩⟩
                 rw [itms_app]
                 exact HR7.out
               case measure => simp [intOf]; omega
             · go_wp2_with fail
               go_roundw
               case rel => exact ⟨i + 1, y4, A', wn + 1, c', LA, ln, lc, ws ++ [(t3, wt)], ls, _, by omega, by omega, by go_num, rfl, rfl, rfl, by omega, by omega, HI2⟩
               case measure => simp [intOf]; omega
           · go_upto_region 12 with fail
             rcases Bool.eq_false_or_eq_true (decide (0 < c3)) with dc | dc
             · obtain ⟨oV, stV, rwV, slV, hup⟩ := laidI HI.out.2.2 #[.int .i64 (t3 + (q54 : Int)), .int .i64 (1 + (r : Int)), .int .i64 (q7 : Int)] 3 rfl (by omega) 28
               have hlV := hup HI.out.2.1
               have RV := Lib.hid rwV; have SV := Lib.hid slV; have LV := Lib.hid hlV; have SU := Lib.hid (HI.out.1.trans stV)
               clear rwV slV hlV hup stV
               go_wp2_with (at_builtin; refine wpList_append_row _ rfl (.tmp 56) (.tmp 71) _ rfl el_item oV 41 LA ln lc _ rfl RV.out oV 5 _ 1 1 [.int .i64 (t3 + (q54 : Int)), .int .i64 (1 + (r : Int)), .int .i64 (q7 : Int)] rfl SV.out (by simp [Value.oneCell']) (by omega) (by simp only [maxLen]; omega) ?_; intro B' d' w7 hR7 hg7 hat7; have HR7 := Lib.hid hR7; have HG7 := Lib.hid hg7; clear hR7 hg7 hat7)
               go_roundw
               case rel =>
                 have st7 := Step.append RV.out HG7.out 41
                 refine ⟨i + 1, y4, WA, wn, wc, B', ln + 1, d', ws, ls ++ [⟨t3 + (q54 : Int), 1 + (r : Int), (q7 : Int)⟩], _, by omega, by omega, by go_num, rfl, rfl, rfl, by omega, by omega, Lib.hid ⟨((SU.out.nil (ts := [41])).trans st7).forget (ts' := []) (fun t ht _ k hk => by simp at ht; subst ht; simp), LV.out.step st7 (by simp), ?_⟩⟩
                 rw [itms_app]
                 exact HR7.out
               case measure => simp [intOf]; omega
             · go_wp2_with fail
               go_roundw
               case rel => exact ⟨i + 1, y4, WA, wn, wc, LA, ln, lc, ws, ls, _, by omega, by omega, by go_num, rfl, rfl, rfl, by omega, by omega, HI⟩
               case measure => simp [intOf]; omega
         · have hni : decide ((i : Int) < 4) = false := by simp; omega
           have hni2 : decide (i < 4) = false := by simp; omega
           have sw := HI.out.2.1.sl.old0
           have sl := HI.out.2.2.sl.old0
           have hb := HI.out.1.to_below (fun _ _ => by simp)
           have SWL := Lib.hid (And.intro sw (And.intro sl hb))
           clear sw sl hb HI
           generalize wr = wz at SWL ⊢
           clear wr
           go_wp2_with fail
           go_loopw [7] (fun kv wx => ∃ k : Nat, k ≤ 5 ∧ kv = .int .i64 (k : Int) ∧ Hid (Below wz.heap.size wz wx)) (fun kv _ => 5 - (intOf kv).toNat)
           case atStart => exact ⟨0, Nat.zero_le _, rfl, Lib.hid (Below.refl _ _)⟩
           case round => as_aux_lemma =>
             obtain ⟨k, hk, rfl, HK⟩ := hrel
             by_cases hk5 : k < 5
             · have hk4i : (k : Int) ≤ 4 := by omega
               have CT := Lib.hid (tells_row SWL.out.2.1 SWL.out.1 HK.out (by omega) (by omega) (k : Int) 10 (by omega) (by omega))
               go_wp2_with (go_at_call 5; refine CT.out.mono ?_; rintro e w' ⟨rfl, hb⟩; have HF := Lib.hid (HK.out.trans (hb.mono HK.out.size)); clear hb)
               go_roundw
               case rel => exact ⟨k + 1, by omega, by go_num, HF⟩
               case measure => simp [intOf]; omega
             · obtain rfl : k = 5 := by omega
               have HF := Lib.hid (HQ.out.trans ((SWL.out.2.2.trans (HK.out.mono SWL.out.2.2.size)).mono HQ.out.size))
               go_wp2_with fail
               go_roundw
               case rel => exact ⟨q + 1, by omega, by go_num, HF⟩
               case measure => simp [intOf]; omega
     · have hq1 : decide ((q : Int) < 256) = false := by simp; omega
       go_wp2_with fail
       go_meet
       exact HQ
  have HB2 := Lib.hid (HB1.out.trans (hcut.out.mono HB1.out.size))
  clear hcut HB1 B1
  generalize wc = wr at HB2 ⊢
  have b3 := Blk.new wr 3 nums17
  have hb3 : Below wr.heap.size wr (wr.alloc (.cells nums17 3)) := (Below.refl _ _).alloc (Nat.le_refl _) _
  have H3 := Lib.hid (And.intro b3 hb3)
  clear b3 hb3
  go_upto_block 6 with (refine wpList_nums rfl rfl ?_)
  have h3 := H3.out
  clear H3
  generalize wr.alloc (.cells nums17 3) = w3 at h3 ⊢
  generalize hgn : wr.heap.size = gn at h3 ⊢
  have H3 : Hid (Blk w3 gn 3 nums17) := Lib.hid h3.1
  have HB3 := Lib.hid (HB2.out.trans (hgn ▸ h3.2 |>.mono HB2.out.size))
  clear h3 hgn HB2
  go_cut [] (fun wx => Hid (Below w3.heap.size w3 wx))
  case first => as_aux_lemma =>
   go_wp2_with fail
   go_loopw [85] (fun iv wx => ∃ i : Nat, i ≤ 17 ∧ iv = .int .i64 (i : Int) ∧ Hid (Below w3.heap.size w3 wx)) (fun iv _ => 17 - (intOf iv).toNat)
   case atStart => exact ⟨0, Nat.zero_le _, rfl, Lib.hid (Below.refl _ _)⟩
   case round => as_aux_lemma =>
     obtain ⟨i, hi, rfl, HI⟩ := hrel
     by_cases hlt : i < 17
     · have hii : (i : Int) < 17 := by omega
       obtain ⟨v, hv, hv0, hv1⟩ := nums_at i hlt
       have hn0 : wr.cell? ⟨gn, i, none⟩ = some (.int .i64 v) := by rw [(H3.out.below HI.out H3.out.lt).cell]; exact hv
       obtain ⟨r3, hr3⟩ : ∃ r, r = i % 3 := ⟨_, rfl⟩
       have h3 : ((i : Int)).tmod 3 = (r3 : Int) := by rw [hr3]; exact tmodN i 3
       have hr3l : r3 < 3 := by omega
       have HN0 := Lib.hid hn0
       clear hr3 hn0 hv
       generalize wr = wo at HI HN0 ⊢
       clear wr
       go_wp2_with fail
       go_loopw [10] (fun kv wx => ∃ k : Nat, k ≤ 5 ∧ kv = .int .i64 (k : Int) ∧ Hid (Below wo.heap.size wo wx)) (fun kv _ => 5 - (intOf kv).toNat)
       case atStart => exact ⟨0, Nat.zero_le _, rfl, Lib.hid (Below.refl _ _)⟩
       case round => as_aux_lemma =>
         obtain ⟨k, hk, rfl, HK⟩ := hrel
         by_cases hk5 : k < 5
         · have hk5i : (k : Int) < 5 := by omega
           have h5 := five_of HK.out HN0.out
           have CTH := Lib.hid (three_any wr)
           have H5 := Lib.hid h5
           clear h5
           go_upto_region 27 with (go_at_call 6; refine CTH.out.mono ?_; rintro e _ ⟨rfl, rfl⟩)
           go_upto_block 10 with (refine wpList_items3 rfl rfl ?_ ?_; rotate_left; (exact ⟨rfl, rfl, rfl⟩))
           have h5 := H5.out
           clear H5 CTH
           generalize (wr.alloc (.cells _ 26)).alloc (.cells _ 28) = w5 at h5 ⊢
           generalize wr.heap.size + 1 = g2 at h5 ⊢
           generalize wr.heap.size = g1 at h5 ⊢
           obtain ⟨e1, e2, e3, e4, e5, e6, e7, e8, hn5⟩ := h5
           have HC := Lib.hid (And.intro e1 (And.intro e2 (And.intro e3 (And.intro e4 (And.intro e5 (And.intro e6 (And.intro e7 e8)))))))
           clear e1 e2 e3 e4 e5 e6 e7 e8 HK
           have hr0 : (0 : Int) ≤ (r3 : Int) := by omega
           have hr1 : (r3 : Int) < 3 := by omega
           go_cut [] (fun wx => Hid (Five wo g1 g2 gn i v wx))
           case first => as_aux_lemma =>
             by_cases hk0 : k = 0
             · have e0 : ((k : Int) == 0) = true := by simp; omega
               obtain ⟨l2, hl2⟩ := wnts_put [(1, 4), (2, 1), (3, 2)] (r3 * 2) v (by simp; omega)
               have b6 := (HC.out.1).set_ (r3 * 2) (.int .i64 v)
               have f0 := HC.out.1.frozen (r3 * 2)
               obtain ⟨u, hu⟩ : ∃ u, w5.cell? ⟨g1, r3 * 2, none⟩ = some u := ⟨_, (HC.out.1.cell _).trans (Array.getElem?_eq_getElem (by simp; omega))⟩
               have s1 := sl_blk (n := 3) (sz := 2) b6 (by simp) (by decide)
               have s2 := sl_blk (n := 3) (sz := 3) ((HC.out.2.1).far (p := ⟨g1, r3 * 2, none⟩) (fun e => HC.out.2.2.1 e.symm) (.int .i64 v)) rfl (by decide)
               have hbz := HC.out.2.2.2.1.setCell (p := ⟨g1, r3 * 2, none⟩) HC.out.2.2.2.2.1 (.int .i64 v)
               have hn6 : (w5.setCell ⟨g1, r3 * 2, none⟩ (.int .i64 v)).cell? ⟨gn, i, none⟩ = some (.int .i64 v) := by rw [World.cell?_setCell_far _ _ _ _ (by exact HC.out.2.2.2.2.2.2.1)]; exact hn5
               have hs : ((#[.int .i64 1, .int .i64 4, .int .i64 2, .int .i64 1, .int .i64 3, .int .i64 2] : Array Value).setIfInBounds (r3 * 2) (.int .i64 v)).toList = wnts l2 := by rw [Array.toList_setIfInBounds]; exact hl2
               rw [hs] at s1
               have HR : Hid (Five wo g1 g2 gn i v (w5.setCell ⟨g1, r3 * 2, none⟩ (.int .i64 v))) := Lib.hid ⟨[⟨1, 1, 5⟩, ⟨2, 2, 1073741823⟩, ⟨3, 16, 0⟩], l2, s1, s2, hbz, hn6⟩
               clear s1 s2 hbz hn6 b6 hl2 HC
               go_wp2_with fail
               go_meet
               exact HR
             · by_cases hk1 : k = 1
               · have e0 : ((k : Int) == 0) = false := by simp; omega
                 have e1 : ((k : Int) == 1) = true := by simp; omega
                 obtain ⟨l2, hl2⟩ := wnts_put [(1, 4), (2, 1), (3, 2)] (r3 * 2 + 1) v (by simp; omega)
                 have b6 := (HC.out.1).set_ (r3 * 2 + 1) (.int .i64 v)
                 have f0 := HC.out.1.frozen (r3 * 2 + 1)
                 obtain ⟨u, hu⟩ : ∃ u, w5.cell? ⟨g1, r3 * 2 + 1, none⟩ = some u := ⟨_, (HC.out.1.cell _).trans (Array.getElem?_eq_getElem (by simp; omega))⟩
                 have s1 := sl_blk (n := 3) (sz := 2) b6 (by simp) (by decide)
                 have s2 := sl_blk (n := 3) (sz := 3) ((HC.out.2.1).far (p := ⟨g1, r3 * 2 + 1, none⟩) (fun e => HC.out.2.2.1 e.symm) (.int .i64 v)) rfl (by decide)
                 have hbz := HC.out.2.2.2.1.setCell (p := ⟨g1, r3 * 2 + 1, none⟩) HC.out.2.2.2.2.1 (.int .i64 v)
                 have hn6 : (w5.setCell ⟨g1, r3 * 2 + 1, none⟩ (.int .i64 v)).cell? ⟨gn, i, none⟩ = some (.int .i64 v) := by rw [World.cell?_setCell_far _ _ _ _ (by exact HC.out.2.2.2.2.2.2.1)]; exact hn5
                 have hs : ((#[.int .i64 1, .int .i64 4, .int .i64 2, .int .i64 1, .int .i64 3, .int .i64 2] : Array Value).setIfInBounds (r3 * 2 + 1) (.int .i64 v)).toList = wnts l2 := by rw [Array.toList_setIfInBounds]; exact hl2
                 rw [hs] at s1
                 have HR : Hid (Five wo g1 g2 gn i v (w5.setCell ⟨g1, r3 * 2 + 1, none⟩ (.int .i64 v))) := Lib.hid ⟨[⟨1, 1, 5⟩, ⟨2, 2, 1073741823⟩, ⟨3, 16, 0⟩], l2, s1, s2, hbz, hn6⟩
                 clear s1 s2 hbz hn6 b6 hl2 HC
                 go_wp2_with fail
                 go_meet
                 exact HR
               · by_cases hk2 : k = 2
                 · have e0 : ((k : Int) == 0) = false := by simp; omega
                   have e1 : ((k : Int) == 1) = false := by simp; omega
                   have e2 : ((k : Int) == 2) = true := by simp; omega
                   obtain ⟨l2, hl2⟩ := itms_put [⟨1, 1, 5⟩, ⟨2, 2, 1073741823⟩, ⟨3, 16, 0⟩] (r3 * 3) v (by simp; omega)
                   have b6 := (HC.out.2.1).set_ (r3 * 3) (.int .i64 v)
                   have f0 := HC.out.2.1.frozen (r3 * 3)
                   obtain ⟨u, hu⟩ : ∃ u, w5.cell? ⟨g2, r3 * 3, none⟩ = some u := ⟨_, (HC.out.2.1.cell _).trans (Array.getElem?_eq_getElem (by simp; omega))⟩
                   have s1 := sl_blk (n := 3) (sz := 3) b6 (by simp) (by decide)
                   have s2 := sl_blk (n := 3) (sz := 2) ((HC.out.1).far (p := ⟨g2, r3 * 3, none⟩) HC.out.2.2.1 (.int .i64 v)) rfl (by decide)
                   have hbz := HC.out.2.2.2.1.setCell (p := ⟨g2, r3 * 3, none⟩) HC.out.2.2.2.2.2.1 (.int .i64 v)
                   have hn6 : (w5.setCell ⟨g2, r3 * 3, none⟩ (.int .i64 v)).cell? ⟨gn, i, none⟩ = some (.int .i64 v) := by rw [World.cell?_setCell_far _ _ _ _ (by exact HC.out.2.2.2.2.2.2.2)]; exact hn5
                   have hs : ((#[.int .i64 1, .int .i64 1, .int .i64 5, .int .i64 2, .int .i64 2, .int .i64 1073741823, .int .i64 3, .int .i64 16, .int .i64 0] : Array Value).setIfInBounds (r3 * 3) (.int .i64 v)).toList = itms l2 := by rw [Array.toList_setIfInBounds]; exact hl2
                   rw [hs] at s1
                   have HR : Hid (Five wo g1 g2 gn i v (w5.setCell ⟨g2, r3 * 3, none⟩ (.int .i64 v))) := Lib.hid ⟨l2, [(1, 4), (2, 1), (3, 2)], s2, s1, hbz, hn6⟩
                   clear s1 s2 hbz hn6 b6 hl2 HC
                   go_wp2_with fail
                   go_meet
                   exact HR
                 · by_cases hk3 : k = 3
                   · have e0 : ((k : Int) == 0) = false := by simp; omega
                     have e1 : ((k : Int) == 1) = false := by simp; omega
                     have e2 : ((k : Int) == 2) = false := by simp; omega
                     have e3 : ((k : Int) == 3) = true := by simp; omega
                     obtain ⟨l2, hl2⟩ := itms_put [⟨1, 1, 5⟩, ⟨2, 2, 1073741823⟩, ⟨3, 16, 0⟩] (r3 * 3 + 1) v (by simp; omega)
                     have b6 := (HC.out.2.1).set_ (r3 * 3 + 1) (.int .i64 v)
                     have f0 := HC.out.2.1.frozen (r3 * 3 + 1)
                     obtain ⟨u, hu⟩ : ∃ u, w5.cell? ⟨g2, r3 * 3 + 1, none⟩ = some u := ⟨_, (HC.out.2.1.cell _).trans (Array.getElem?_eq_getElem (by simp; omega))⟩
                     have s1 := sl_blk (n := 3) (sz := 3) b6 (by simp) (by decide)
                     have s2 := sl_blk (n := 3) (sz := 2) ((HC.out.1).far (p := ⟨g2, r3 * 3 + 1, none⟩) HC.out.2.2.1 (.int .i64 v)) rfl (by decide)
                     have hbz := HC.out.2.2.2.1.setCell (p := ⟨g2, r3 * 3 + 1, none⟩) HC.out.2.2.2.2.2.1 (.int .i64 v)
                     have hn6 : (w5.setCell ⟨g2, r3 * 3 + 1, none⟩ (.int .i64 v)).cell? ⟨gn, i, none⟩ = some (.int .i64 v) := by rw [World.cell?_setCell_far _ _ _ _ (by exact HC.out.2.2.2.2.2.2.2)]; exact hn5
                     have hs : ((#[.int .i64 1, .int .i64 1, .int .i64 5, .int .i64 2, .int .i64 2, .int .i64 1073741823, .int .i64 3, .int .i64 16, .int .i64 0] : Array Value).setIfInBounds (r3 * 3 + 1) (.int .i64 v)).toList = itms l2 := by rw [Array.toList_setIfInBounds]; exact hl2
                     rw [hs] at s1
                     have HR : Hid (Five wo g1 g2 gn i v (w5.setCell ⟨g2, r3 * 3 + 1, none⟩ (.int .i64 v))) := Lib.hid ⟨l2, [(1, 4), (2, 1), (3, 2)], s2, s1, hbz, hn6⟩
                     clear s1 s2 hbz hn6 b6 hl2 HC
                     go_wp2_with fail
                     go_meet
                     exact HR
                   · obtain hk4 : k = 4 := by omega
                     have e0 : ((k : Int) == 0) = false := by simp; omega
                     have e1 : ((k : Int) == 1) = false := by simp; omega
                     have e2 : ((k : Int) == 2) = false := by simp; omega
                     have e3 : ((k : Int) == 3) = false := by simp; omega
                     have e4 : ((k : Int) == 4) = true := by simp; omega
                     obtain ⟨l2, hl2⟩ := itms_put [⟨1, 1, 5⟩, ⟨2, 2, 1073741823⟩, ⟨3, 16, 0⟩] (r3 * 3 + 2) v (by simp; omega)
                     have b6 := (HC.out.2.1).set_ (r3 * 3 + 2) (.int .i64 v)
                     have f0 := HC.out.2.1.frozen (r3 * 3 + 2)
                     obtain ⟨u, hu⟩ : ∃ u, w5.cell? ⟨g2, r3 * 3 + 2, none⟩ = some u := ⟨_, (HC.out.2.1.cell _).trans (Array.getElem?_eq_getElem (by simp; omega))⟩
                     have s1 := sl_blk (n := 3) (sz := 3) b6 (by simp) (by decide)
                     have s2 := sl_blk (n := 3) (sz := 2) ((HC.out.1).far (p := ⟨g2, r3 * 3 + 2, none⟩) HC.out.2.2.1 (.int .i64 v)) rfl (by decide)
                     have hbz := HC.out.2.2.2.1.setCell (p := ⟨g2, r3 * 3 + 2, none⟩) HC.out.2.2.2.2.2.1 (.int .i64 v)
                     have hn6 : (w5.setCell ⟨g2, r3 * 3 + 2, none⟩ (.int .i64 v)).cell? ⟨gn, i, none⟩ = some (.int .i64 v) := by rw [World.cell?_setCell_far _ _ _ _ (by exact HC.out.2.2.2.2.2.2.2)]; exact hn5
                     have hs : ((#[.int .i64 1, .int .i64 1, .int .i64 5, .int .i64 2, .int .i64 2, .int .i64 1073741823, .int .i64 3, .int .i64 16, .int .i64 0] : Array Value).setIfInBounds (r3 * 3 + 2) (.int .i64 v)).toList = itms l2 := by rw [Array.toList_setIfInBounds]; exact hl2
                     rw [hs] at s1
                     have HR : Hid (Five wo g1 g2 gn i v (w5.setCell ⟨g2, r3 * 3 + 2, none⟩ (.int .i64 v))) := Lib.hid ⟨l2, [(1, 4), (2, 1), (3, 2)], s2, s1, hbz, hn6⟩
                     clear s1 s2 hbz hn6 b6 hl2 HC
                     go_wp2_with fail
                     go_meet
                     exact HR
           obtain ⟨ls', ws', SW, SLL, HBZ, hn6⟩ := hcut.out.ex
           have SW := Lib.hid SW; have SLL := Lib.hid SLL; have HBZ := Lib.hid HBZ
           generalize wc = w6 at SW SLL HBZ hn6 ⊢
           clear hcut HC hn5
           have hgn6 := World.block_lt_of_cell? w6 _ hn6
           have T1 := Lib.hid (tells_row SLL.out SW.out (Below.refl _ _) (by decide) (by decide) 1 3 (by decide) (by decide))
           go_wp2_with fail
           refine T1.out.mono ?_
           rintro e w7 ⟨rfl, hb⟩
           have hn7 := (hb.cell (p := ⟨gn, i, none⟩) hgn6).trans hn6
           have HB7 := Lib.hid hb
           have T2 := Lib.hid (tells_row SLL.out SW.out HB7.out (by decide) (by decide) v 0 ⟨hv0, hv1⟩ (by decide))
           clear hb T1
           go_wp2_with fail
           refine T2.out.mono ?_
           rintro e w8 ⟨rfl, hb⟩
           have HF := Lib.hid (HBZ.out.trans ((HB7.out.trans (hb.mono HB7.out.size)).mono HBZ.out.size))
           clear hb hn6 hn7 T2
           go_wp2_with fail
           go_roundw
           case rel => exact ⟨k + 1, by omega, by go_num, HF⟩
           case measure => simp [intOf]; omega
         · obtain rfl : k = 5 := by omega
           clear hk5
           have HK5 := Lib.hid HK.out
           have hgn7 := World.block_lt_of_cell? wo _ HN0.out
           have hn9 := (HK.out.cell (p := ⟨gn, i, none⟩) hgn7).trans HN0.out
           generalize wr = wq at HK5 hn9 ⊢
           clear HK
           go_wp2_with fail
           have H3q := Lib.hid (H3.out.below (HI.out.trans (HK5.out.mono HI.out.size)) H3.out.lt)
           go_loopw [169] (fun kv wx => ∃ k : Nat, k ≤ 17 ∧ kv = .int .i64 (k : Int) ∧ Hid (Below wq.heap.size wq wx)) (fun kv _ => 17 - (intOf kv).toNat)
           case atStart => exact ⟨0, Nat.zero_le _, rfl, Lib.hid (Below.refl _ _)⟩
           case round => as_aux_lemma =>
             obtain ⟨k, hk, rfl, HK⟩ := hrel
             by_cases hk17 : k < 17
             · have hk17i : (k : Int) < 17 := by omega
               obtain ⟨v2, hv2, hv20, hv21⟩ := nums_at k hk17
               have hq := H3q.out.below HK.out H3q.out.lt
               have hi0 : (0 : Int) ≤ (i : Int) := by omega
               have hk0 : (0 : Int) ≤ (k : Int) := by omega
               have c1 : wr.cell? ⟨gn, k, none⟩ = some (.int .i64 v2) := by rw [hq.cell]; exact hv2
               have c2 : wr.cell? ⟨gn, i, none⟩ = some (.int .i64 v) := (HK.out.cell (p := ⟨gn, i, none⟩) (World.block_lt_of_cell? wq _ hn9)).trans hn9
               clear hv2 hq
               obtain ⟨y, hy⟩ : ∃ y : Int, (i : Int) * 1024 = y := ⟨_, rfl⟩
               have hy1 : 0 ≤ y ∧ y ≤ 17408 := by omega
               have hwy : IntKind.i64.wrap y = y := IntWalk.i64_in _ (by omega)
               obtain ⟨x, hx⟩ : ∃ x : Int, y + (k : Int) = x := ⟨_, rfl⟩
               have hx1 : 0 ≤ x ∧ x ≤ 17500 := by omega
               have hwx : IntKind.i64.wrap x = x := IntWalk.i64_in _ (by omega)
               have rbA : ∀ W, (Instr.build 34 #[(0, .int .i64 v)]).run Tryz.prog W = .ok (.agg #[.int .i64 v, .int .i64 0]) W := fun W => run_build W _ _ _ (by kernel_rfl)
               have rbB : ∀ W, (Instr.build 34 #[(1, .int .i64 v2)]).run Tryz.prog W = .ok (.agg #[.int .i64 0, .int .i64 v2]) W := fun W => run_build W _ _ _ (by kernel_rfl)
               have rbC : ∀ W, (Instr.build 34 #[]).run Tryz.prog W = .ok (.agg #[.int .i64 0, .int .i64 0]) W := fun W => run_build W _ _ _ (by kernel_rfl)
               have rbD : ∀ W, (Instr.build 34 #[(0, .int .i64 x)]).run Tryz.prog W = .ok (.agg #[.int .i64 x, .int .i64 0]) W := fun W => run_build W _ _ _ (by kernel_rfl)
               obtain ⟨wy, hwy0⟩ : ∃ W, W = wr := ⟨_, rfl⟩
               have HT1 := Lib.hid (fun d os => Calls.regrown_of (d := d) (os := os) (w := wr) (BudgetNumbers_walk _ v 0 0 v2 v v2 3 5 ⟨hv0, hv1⟩ (by decide) (by decide) ⟨hv20, hv21⟩))
               have HT2 := Lib.hid (fun d os => Calls.regrown_of (d := d) (os := os) (w := wr) (BudgetNumbers_walk _ 0 0 x 0 9 2 v v2 (by decide) (by decide) (by omega) (by decide)))
               have HK9 := Lib.hid HK.out
               clear HK hwy0
               go_upto_region 44 with fail
               refine wp_region_quiet_below (by kernel_rfl) (by kernel_rfl) ?_
               have v0 := cell_regrown c1; have v1 := cell_regrown c2
               clear c1 c2
               repeat (go_big_quiet_step (first | (with_reducible exact HT1.out _ _) | (with_reducible exact HT2.out _ _)))
               refine wpQuiet_nil ?_
               intro wz hw'
               obtain ⟨⟨dq, osq⟩, hw''⟩ := hw'
               have hbq := below_regrown wr dq osq
               rw [← hw''] at hbq
               have HF := Lib.hid (HK9.out.trans (hbq.mono HK9.out.size))
               clear hw'' hbq v0 v1 HT1 HT2 rbA rbB rbC rbD
               go_wp2_with fail
               go_roundw
               case rel => exact ⟨k + 1, by omega, by go_num, HF⟩
               case measure => simp [intOf]; omega
             · obtain rfl : k = 17 := by omega
               have HF := Lib.hid (HI.out.trans ((HK5.out.trans (HK.out.mono HK5.out.size)).mono HI.out.size))
               go_wp2_with fail
               go_roundw
               case rel => exact ⟨i + 1, by omega, by go_num, HF⟩
               case measure => simp [intOf]; omega
     · have hni : decide ((i : Int) < 17) = false := by simp; omega
       go_wp2_with fail
       go_meet
       exact HI
  have HB4 := Lib.hid (HB3.out.trans (hcut.out.mono HB3.out.size))
  clear hcut HB3 H3
  generalize wc = w4 at HB4 ⊢
  clear wc
  go_upto_block 13 with fail
  go_cut [14] (fun s wx => ∃ (WA : Option Addr) (wc : Nat) (ws : List (Int × Int)), s = .slice WA 65 wc ∧ Hid (Below w4.heap.size w4 wx ∧ Sl wx (fun _ => 0) 0 2 WA 65 wc (wnts ws)))
  case first => as_aux_lemma =>
   go_wp2_with fail
   go_loopw [15, 14] (fun iv s wx => ∃ (i : Nat) (WA : Option Addr) (wc : Nat) (ws : List (Int × Int)) (oo : Own), i ≤ 65 ∧ iv = .int .i64 (i : Int) ∧ s = .slice WA i wc ∧ Hid (Step [] w4 (fun _ => 0) wx oo ∧ Row wx oo 40 26 2 WA i wc (wnts ws))) (fun iv _ _ => 65 - (intOf iv).toNat)
   case atStart => exact ⟨0, none, 0, [], fun _ => 0, by omega, rfl, rfl, Lib.hid ⟨Step.refl _ _ _, Row.nil_ _ _ _ _ _⟩⟩
   case round => as_aux_lemma =>
     obtain ⟨i, WA, wc, ws, oo, hi, rfl, rfl, HI⟩ := hrel
     by_cases hlt : i < 65
     · have hii : (i : Int) ≤ 64 := by omega
       have d64 : decide ((i : Int) ≤ 64) = true := decide_eq_true hii
       obtain ⟨h, hh⟩ : ∃ a, a = i / 2 := ⟨_, rfl⟩
       have h2 : ((i : Int)).tdiv 2 = (h : Int) := by rw [hh]; exact tdivN i 2
       obtain ⟨r, hr⟩ : ∃ a, a = i % 16 := ⟨_, rfl⟩
       have h16 : ((i : Int)).tmod 16 = (r : Int) := by rw [hr]; exact tmodN i 16
       have hr16 : r < 16 := by omega
       have hh32 : h ≤ 32 := by omega
       have T1 := Lib.hid (tells_row (w := wr) (W := wr) (ls := []) (nil_its wr) (HI.out.2.sl.old0) (Below.refl _ _) (by decide) (by omega) (h : Int) 3 (by omega) (by decide))
       clear hh hr
       go_upto_region 54 with (go_at_call 5; refine T1.out.mono ?_; rintro e w5 ⟨rfl, hb⟩; have HB5 := Lib.hid hb; clear hb)
       have st5 := (Step.refl [] wr oo).below HB5.out 50
       have rw5 := HI.out.2.step st5 (by simp)
       have ST5 := Lib.hid (HI.out.1.trans st5)
       obtain ⟨oW, stW, rwW, slW, -⟩ := laidI rw5 #[.int .i64 (i : Int), .int .i64 (1 + (r : Int))] 2 rfl (by omega) 26
       have RW := Lib.hid rwW; have SW := Lib.hid slW; have ST := Lib.hid (ST5.out.trans stW)
       clear rwW slW stW st5 rw5 T1 HI ST5 HB5
       go_wp2_with (at_builtin; refine wpList_append_row _ rfl (.tmp 221) (.tmp 227) _ rfl el_want oW 40 WA i wc _ rfl RW.out oW 5 _ 1 1 [.int .i64 (i : Int), .int .i64 (1 + (r : Int))] rfl SW.out (by simp [Value.oneCell']) (by omega) (by simp only [maxLen]; omega) ?_; intro A' c' w6 hR6 hg6 hat6; have HR6 := Lib.hid hR6; have HG6 := Lib.hid hg6; clear hR6 hg6 hat6)
       go_roundw
       case rel =>
         have st6 := Step.append RW.out HG6.out 40
         refine ⟨i + 1, A', c', ws ++ [((i : Int), 1 + (r : Int))], _, by omega, by go_num, rfl, Lib.hid ⟨((ST.out.nil (ts := [40])).trans st6).forget (ts' := []) (fun t ht _ k hk => by simp at ht; subst ht; simp), ?_⟩⟩
         rw [wnts_app]
         exact HR6.out
       case measure => simp [intOf]; omega
     · obtain rfl : i = 65 := by omega
       have HF : Hid (Below w4.heap.size w4 wr ∧ Sl wr (fun _ => 0) 0 2 WA 65 wc (wnts ws)) := Lib.hid ⟨HI.out.1.to_below (fun _ _ => by simp), HI.out.2.sl.old0⟩
       clear HI
       go_wp2_with fail
       go_meet
       exact ⟨WA, wc, ws, rfl, HF⟩
  obtain ⟨WA, wn, ws, rfl, HS⟩ := hcut
  have HSW := Lib.hid HS.out.2
  have HB5 := Lib.hid (HB4.out.trans (HS.out.1.mono HB4.out.size))
  clear HS HB4
  generalize wc = w5 at HSW HB5 ⊢
  clear wc
  have hth : ∀ W : World, Sl (W.alloc (.cells #[.int .i64 1, .int .i64 4, .int .i64 2, .int .i64 1, .int .i64 3, .int .i64 2] 26)) (fun _ => 0) 0 2 (some ⟨W.heap.size, 0, none⟩) 3 3 (wnts [(1, 4), (2, 1), (3, 2)]) := fun W => sl_blk (n := 3) (sz := 2) (Blk.new W _ _) rfl (by decide)
  have HTH := Lib.hid hth
  clear hth
  have hba : ∀ W : World, Below W.heap.size W (W.alloc (.cells #[.int .i64 1, .int .i64 4, .int .i64 2, .int .i64 1, .int .i64 3, .int .i64 2] 26)) := fun W => (Below.refl _ _).alloc (Nat.le_refl _) _
  have HBA := Lib.hid hba
  clear hba
  have CT1 := Lib.hid (three_any w5)
  have R1 := Lib.hid (run_full (HTH.out w5))
  go_upto_region 56 with (first
    | (go_at_call 6; refine CT1.out.mono ?_; rintro e _ ⟨rfl, rfl⟩)
    | (go_at_call 8; refine R1.out.mono ?_; rintro e w6 ⟨OA, on, oc, LA, lc, rfl, hb⟩; have HB6 := Lib.hid ((HBA.out w5).trans (hb.mono (HBA.out w5).size)); clear hb))
  clear CT1 R1
  have CT2 := Lib.hid (three_any w6)
  have R2 := Lib.hid (run_over (HTH.out w6))
  go_upto_region 57 with (first
    | (go_at_call 6; refine CT2.out.mono ?_; rintro e _ ⟨rfl, rfl⟩)
    | (go_at_call 8; refine R2.out.mono ?_; rintro e w7 ⟨rfl, hb⟩; have HB7 := Lib.hid ((HBA.out w6).trans (hb.mono (HBA.out w6).size)); clear hb))
  clear CT2 R2
  have HB67 := Lib.hid (HB6.out.trans (HB7.out.mono HB6.out.size))
  have T1 := Lib.hid (tells_row (w := w7) (W := w7) (ls := []) (nil_its w7) (HSW.out.up0 HB67.out) (Below.refl _ _) (by decide) (by decide) 1 1 (by decide) (by decide))
  go_wp2_with (go_at_call 5; first
    | (refine T1.out.mono ?_; rintro e w8 ⟨rfl, hb⟩; have HB8 := Lib.hid hb; clear hb T1; have T2 := Lib.hid (tells_row (w := w8) (W := w8) (ls := []) (ws := []) (nil_its w8) (nil_wts w8) (Below.refl _ _) (by decide) (by decide) 0 (-1) (by decide) (by decide)))
    | (refine T2.out.mono ?_; rintro e w9 ⟨rfl, hb⟩; have HB9 := Lib.hid hb; clear hb T2))
  refine (awake_any _).mono ?_
  rintro e w10 ⟨rfl, hb⟩
  have HF := Lib.hid (HB5.out.trans ((HB67.out.trans ((HB8.out.trans ((HB9.out.trans (hb.mono HB9.out.size)).mono HB8.out.size)).mono HB67.out.size)).mono HB5.out.size))
  clear hb
  go_wp2_with fail
  rw [HP.out]
  exact ⟨rfl, HF.out⟩
end Go.Proofs.YtkiknbjokknemaaGreat
