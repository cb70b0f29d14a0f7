/-
  WALK of RatingWrong.
-/
import Derived.Test.YtkceefheeicmbaaRatKE
namespace Go.Proofs.Ytkceefheeicmbaa
open Go.RowKit Go.Sort

theorem Row.cellN {w : World} {o : Own} {τ : Nat} {e : TypeId} {sz h n c j : Nat} {xs : List Value} {u : Value} (hR : Row w o τ e sz (some ⟨h, 0, none⟩) n c xs) (hn : 0 < n) (hj : xs[j]? = some u) : w.cell? ⟨h, j, none⟩ = some u ∧ w.frozen? ⟨h, j, none⟩ = false := by
  obtain ⟨g, cur, hA, -, hb, -⟩ := hR.form hn
  injection hA with hA; injection hA with hA; subst hA
  obtain ⟨g', off, hA, -, -, hc⟩ := hR.sl.2.2.2 hn
  injection hA with hA; injection hA with h1 h2; subst h1 h2
  have := hc j u hj
  rw [Nat.zero_add] at this
  exact ⟨this, hb.frozen j⟩
/-- One store into one of three rows. -/
theorem stored {w W : World} {o : Own} {g j τ : Nat} (u : Value) (h : Step [] w (fun _ => 0) W o) (hg : o g = τ) (ht : τ ≠ 0) : Step [τ] W o (W.setCell ⟨g, j, none⟩ u) o ∧ Below w.heap.size w (W.setCell ⟨g, j, none⟩ u) := by
  have st := (Step.refl [τ] W o).setCell (p := ⟨g, j, none⟩) (.inr (by rw [hg]; simp)) u
  exact ⟨st, ((h.nil.trans st).forget (ts' := []) (fun t ht' _ k _ => by simp at ht'; subst ht'; simpa using ht.symm)).to_below (by simp)⟩
theorem okWrong {w0 W : World} {o : Own} {τ sz n c : Nat} {e : TypeId} {A : Option Addr} {xs : List Value} (_ : Step [] w0 (fun _ => 0) W o) (h : Row W o τ e sz A n c xs) : Sl W (fun _ => 0) 0 sz A n c xs := h.sl.old0

set_option maxRecDepth 100000 in
set_option maxHeartbeats 8000000 in
theorem RatingWrong_walk (w : World) (A : Option Addr) (n c : Nat) (l : List Pl) (hS : Sl w (fun _ => 0) 0 2 A n c (pls l)) (G : Option Addr) (m d : Nat) (gs : List Gm) (hT : Sl w (fun _ => 0) 0 3 G m d (gms gs)) (T : Option Addr) (q b : Nat) (ts : List Tk) (hU : Sl w (fun _ => 0) 0 3 T q b (tks ts)) (ft : Int) (hft : 0 ≤ ft ∧ ft ≤ 255) :
    Calls Try.prog 13 #[.slice A n c, .slice G m d, .slice T q b, .int .u8 ft] w (SaysTo w true) := by
  have hl : l.length = n := by have := hS.1; rw [len_pls] at this; omega
  have hm : gs.length = m := by have := hT.1; rw [len_gms] at this; omega
  have hq : ts.length = q := by have := hU.1; rw [len_tks] at this; omega
  have hb : n ≤ 9223372036854775807 ∧ m ≤ 9223372036854775807 ∧ q ≤ 9223372036854775807 := by have h1 := hS.2.1; have h2 := hS.2.2.1; have h3 := hT.2.1; have h4 := hT.2.2.1; have h5 := hU.2.1; have h6 := hU.2.2.1; unfold maxLen at h2 h4 h6; omega
  obtain ⟨hb1, hb2, hb3⟩ := hb
  obtain ⟨hf0, hf1⟩ := hft
  have HS := Lib.hid hS; have HT := Lib.hid hT; have HU := Lib.hid hU; have HL := Lib.hid hl; have HM := Lib.hid hm; have HQ := Lib.hid hq
  clear hS hT hU hl hm hq
  go_enter Try.func13, Try.ntmps13
  go_wp2_with fail
  refine (awake_any _).mono ?_
  rintro e w1 ⟨rfl, hb1'⟩
  have HB := Lib.hid hb1'; have HS1 := Lib.hid (HS.out.up hb1'); have HT1 := Lib.hid (HT.out.up hb1'); have HU1 := Lib.hid (HU.out.up hb1')
  clear hb1' HS HT HU
  go_wp2_with fail
  refine (play_e w1 A n c l HS1.out G m d gs HT1.out 32).mono ?_
  rintro e w2 ⟨A2, n2, c2, E, rfl, hb2, hE⟩
  have HB2 := Lib.hid (below_then HB.out hb2); have HS2 := Lib.hid (HS1.out.up hb2); have HT2 := Lib.hid (HT1.out.up hb2); have HU2 := Lib.hid (HU1.out.up hb2); have HE := Lib.hid hE
  clear hb2 HB HS1 HT1 HU1 hE
  go_wp2_with fail
  refine (pairs_e w2 T q b ts 2000 HU2.out).mono ?_
  rintro e w3 ⟨A3, n3, c3, E2, rfl, hb3', hE2⟩
  have HB3 := Lib.hid (below_then HB2.out hb3'); have HS3 := Lib.hid (HS2.out.up hb3'); have HT3 := Lib.hid (HT2.out.up hb3'); have HU3 := Lib.hid (HU2.out.up hb3'); have HE2 := Lib.hid hE2
  clear hb3' HB2 HS2 HT2 HU2 hE2
  by_cases g1 : E = 0
  rotate_left
  · have d1 : (E != 0) = true := by simpa using g1
    go_wp2_with fail
    go_ret
    exact ⟨rfl, HB3.out⟩
  by_cases g2 : E2 = 0
  rotate_left
  · have d1 : (E != 0) = false := by simpa using g1
    have d2 : (E2 != 0) = true := by simpa using g2
    go_wp2_with fail
    go_ret
    exact ⟨rfl, HB3.out⟩
  subst g1 g2
  by_cases g3 : n < 2
  · have d3 : decide ((n : Int) < 2) = true := by simp; omega
    go_wp2_with fail
    go_ret
    exact ⟨rfl, HB3.out⟩
  have d3 : decide ((n : Int) < 2) = false := by simp; omega
  by_cases g4 : m = 0
  · have d4 : ((m : Int) == 0) = true := by simp; omega
    go_wp2_with fail
    go_ret
    exact ⟨rfl, HB3.out⟩
  have d4 : ((m : Int) == 0) = false := by simp; omega
  by_cases g5 : q = 0
  · have d5 : ((q : Int) == 0) = true := by simp; omega
    go_wp2_with fail
    go_ret
    exact ⟨rfl, HB3.out⟩
  have d5 : ((q : Int) == 0) = false := by simp; omega
  obtain ⟨hpok, l', hrun⟩ := HE.out rfl
  have htok := HE2.out rfl
  obtain ⟨hle, hml, hwt, hri⟩ := playOk_iff.1 hpok
  have hql := (pairsOk_iff.1 htok).1
  have hn200 : n ≤ 200 := by rw [← HL.out]; exact hle
  have hm1000 : m ≤ 1000 := by rw [← HM.out]; exact hml
  have hq64 : q ≤ 64 := by rw [← HQ.out]; exact hql
  have hst3 : Step [] w (fun _ => 0) w3 (fun _ => 0) := by have := (Step.refl [] w (fun _ => 0)).below HB3.out 0; rwa [ext00] at this
  -- the copies
  have sE := (Step.refl [] w3 (fun _ => 0)).alloc (.cells #[] 61) 70
  have hr0 := Row.made (w := w3) (fun _ => 0) 70 61 2 #[] 0 rfl (Nat.zero_le _) 0 (Nat.le_refl _)
  have HSE := Lib.hid (hst3.trans sE); have HR0 := Lib.hid hr0; have HS4 := Lib.hid (HS3.out.step sE (by simp)); have HT4 := Lib.hid (HT3.out.step sE (by simp)); have HU4 := Lib.hid (HU3.out.step sE (by simp))
  have HRUN := Lib.hid hrun; have HTOK := Lib.hid htok; have HRI := Lib.hid hri; have HPOK := Lib.hid hpok
  have hn2 : 2 ≤ n := by omega
  have hm1 : 1 ≤ m := by omega
  have hq1 : 1 ≤ q := by omega
  clear sE hr0 hst3 hle hml hwt hri hql hpok hrun htok g3 g4 g5 HE HE2 HS3 HT3 HU3 HB3
  go_upto_region 8 with (at_builtin; refine wpList_append_row _ rfl (.tmp 55) (.tmp 56) _ rfl el_pl _ 70 _ 0 0 [] rfl HR0.out _ 0 A n c (pls l) rfl HS4.out (one_pls l) (by omega) (by simp only [maxLen]; omega) ?_; intro A5 c5 w5 hr5 hg5 hat5; have sA := Step.append HR0.out hg5 70; have HST5 := Lib.hid ((HSE.out.nil.trans sA).forget (ts' := []) (fun t ht _ k _ => by simp at ht; subst ht; simp)); have HT5 := Lib.hid (HT4.out.step sA (by decide)); have HU5 := Lib.hid (HU4.out.step sA (by decide)); simp only [Nat.zero_add, List.nil_append] at hr5; have HP5 := Lib.hid hr5; clear hr5 hg5 hat5 sA HSE HR0 HS4 HT4 HU4)
  obtain ⟨o5, ho5⟩ : ∃ o, o = ext (ext (fun _ => 0) w3.heap.size 70) (w3.alloc (.cells #[] 61)).heap.size 70 := ⟨_, rfl⟩
  rw [← ho5] at HST5 HP5 HT5 HU5
  clear ho5
  have sE := (Step.refl [] w5 o5).alloc (.cells #[] 59) 71
  have hr0 := Row.made (w := w5) o5 71 59 3 #[] 0 rfl (Nat.zero_le _) 0 (Nat.le_refl _)
  have HSE := Lib.hid (HST5.out.trans sE); have HR0 := Lib.hid hr0; have HP6 := Lib.hid (HP5.out.step sE (by simp)); have HT6 := Lib.hid (HT5.out.step sE (by simp)); have HU6 := Lib.hid (HU5.out.step sE (by simp))
  clear sE hr0 HST5 HP5 HT5 HU5
  go_upto_region 9 with (at_builtin; refine wpList_append_row _ rfl (.tmp 58) (.tmp 59) _ rfl el_gm _ 71 _ 0 0 [] rfl HR0.out _ 0 G m d (gms gs) rfl HT6.out (one_gms gs) (by omega) (by simp only [maxLen]; omega) ?_; intro A7 c7 w7 hr7 hg7 hat7; have sA := Step.append HR0.out hg7 71; have HST7 := Lib.hid ((HSE.out.nil.trans sA).forget (ts' := []) (fun t ht _ k _ => by simp at ht; subst ht; simp)); have HP7 := Lib.hid (HP6.out.step sA (by decide)); have HU7 := Lib.hid (HU6.out.step sA (by decide)); simp only [Nat.zero_add, List.nil_append] at hr7; have HG7 := Lib.hid hr7; clear hr7 hg7 hat7 sA HSE HR0 HP6 HT6 HU6)
  obtain ⟨o7, ho7⟩ : ∃ o, o = ext (ext o5 w5.heap.size 71) (w5.alloc (.cells #[] 59)).heap.size 71 := ⟨_, rfl⟩
  rw [← ho7] at HST7 HP7 HG7 HU7
  clear ho7
  have sE := (Step.refl [] w7 o7).alloc (.cells #[] 24) 72
  have hr0 := Row.made (w := w7) o7 72 24 3 #[] 0 rfl (Nat.zero_le _) 0 (Nat.le_refl _)
  have HSE := Lib.hid (HST7.out.trans sE); have HR0 := Lib.hid hr0; have HP8 := Lib.hid (HP7.out.step sE (by simp)); have HG8 := Lib.hid (HG7.out.step sE (by simp)); have HU8 := Lib.hid (HU7.out.step sE (by simp))
  clear sE hr0 HST7 HP7 HG7 HU7
  go_upto_region 10 with (at_builtin; refine wpList_append_row _ rfl (.tmp 61) (.tmp 62) _ rfl el_tk _ 72 _ 0 0 [] rfl HR0.out _ 0 T q b (tks ts) rfl HU8.out (one_tks ts) (by omega) (by simp only [maxLen]; omega) ?_; intro A9 c9 w9 hr9 hg9 hat9; have sA := Step.append HR0.out hg9 72; have HST9 := Lib.hid ((HSE.out.nil.trans sA).forget (ts' := []) (fun t ht _ k _ => by simp at ht; subst ht; simp)); have HP9 := Lib.hid (HP8.out.step sA (by decide)); have HG9 := Lib.hid (HG8.out.step sA (by decide)); simp only [Nat.zero_add, List.nil_append] at hr9; have HT9 := Lib.hid hr9; clear hr9 hg9 hat9 sA HSE HR0 HP8 HG8 HU8)
  obtain ⟨o9, ho9⟩ : ∃ o, o = ext (ext o7 w7.heap.size 72) (w7.alloc (.cells #[] 24)).heap.size 72 := ⟨_, rfl⟩
  rw [← ho9] at HST9 HP9 HG9 HT9
  clear ho9
  -- what lies in the three rows
  obtain ⟨x0, x1, pr, rfl⟩ := list_two (l := l) (by rw [HL.out]; omega)
  obtain ⟨y0, gr, hgs⟩ := list_one (l := gs) (by rw [HM.out]; omega)
  obtain ⟨z0, tr, rfl⟩ := list_one (l := ts) (by rw [HQ.out]; omega)
  obtain ⟨gp, curp, rfl, hop, hbp, -⟩ := HP9.out.form (by omega)
  obtain ⟨gg, curg, rfl, hog, hbg, -⟩ := HG9.out.form (by omega)
  obtain ⟨gt, curt, rfl, hot, hbt, -⟩ := HT9.out.form (by omega)
  have HOP := Lib.hid hop; have HOG := Lib.hid hog; have HOT := Lib.hid hot; have HBP := Lib.hid hbp; have HBG := Lib.hid hbg; have HBT := Lib.hid hbt
  have hne1 : ¬ gp = gg := hbp.ne_ hbg (by decide)
  clear hop hog hot hbp hbg hbt
  have hn1 : (1 : Int) < (n : Int) := by omega
  have hn0 : (0 : Int) < (n : Int) := by omega
  have hm0 : (0 : Int) < (m : Int) := by omega
  have hq0 : (0 : Int) < (q : Int) := by omega
  rcases (show ft % 8 = 0 ∨ ft % 8 = 1 ∨ ft % 8 = 2 ∨ ft % 8 = 3 ∨ ft % 8 = 4 ∨ ft % 8 = 5 ∨ ft % 8 = 6 ∨ ft % 8 = 7 by omega) with hf | hf | hf | hf | hf | hf | hf | hf
  · -- two players the other way round
    clear hgs
    obtain ⟨ca, fa⟩ := HP9.out.cellN (j := 0) (u := .int .i64 x0.id) (by omega) rfl
    obtain ⟨cb, fb⟩ := HP9.out.cellN (j := 1) (u := .int .i64 x0.rt) (by omega) rfl
    obtain ⟨cc, fc⟩ := HP9.out.cellN (j := 2) (u := .int .i64 x1.id) (by omega) rfl
    obtain ⟨cd, fd⟩ := HP9.out.cellN (j := 3) (u := .int .i64 x1.rt) (by omega) rfl
    obtain ⟨W4, hW4⟩ : ∃ W, W = ((((w9.setCell ⟨gp, 0, none⟩ (.int .i64 x1.id)).setCell ⟨gp, 1, none⟩ (.int .i64 x1.rt)).setCell ⟨gp, 2, none⟩ (.int .i64 x0.id)).setCell ⟨gp, 3, none⟩ (.int .i64 x0.rt)).drew := ⟨_, rfl⟩
    have st : Step [70] w9 o9 W4 o9 := by
      rw [hW4]
      have ho : o9 gp ∈ [70] := by rw [HOP.out]; simp
      exact (((((Step.refl [70] w9 o9).setCell (p := ⟨gp, 0, none⟩) (.inr ho) _).setCell (p := ⟨gp, 1, none⟩) (.inr ho) _).setCell (p := ⟨gp, 2, none⟩) (.inr ho) _).setCell (p := ⟨gp, 3, none⟩) (.inr ho) _).drew
    have hrow : Row W4 o9 70 61 2 (some ⟨gp, 0, none⟩) n c5 (pls (x1 :: x0 :: pr)) := by
      rw [hW4]
      exact ((((HP9.out.setc (k := 0) (by omega) (.int .i64 x1.id)).setc (k := 1) (by omega) (.int .i64 x1.rt)).setc (k := 2) (by omega) (.int .i64 x0.id)).setc (k := 3) (by omega) (.int .i64 x0.rt)).drewN 1
    have hbS : Below w.heap.size w W4 := ((HST9.out.nil.trans st).forget (ts' := []) (fun t ht' _ k _ => by simp at ht'; subst ht'; simp)).to_below (by simp)
    have hbd := wrong0 HRI.out gs.length 32
    have hcall := play_bad0 W4 _ n c5 _ hrow.sl.old0 _ m c7 gs (HG9.out.step st (by decide)).sl.old0 32 (.inl hbd) 2 (by rw [hbd]; rfl)
    have HC := Lib.hid hcall; have HBS := Lib.hid hbS; have HW4 := Lib.hid hW4
    clear hcall hbS hrow st hbd hW4
    go_wp2_with fail
    go_region
    rw [← HW4.out]
    clear ca cb cc cd fa fb fc fd HW4
    go_wp2_with fail
    refine HC.out.mono ?_
    rintro e wf ⟨rfl, hbf⟩
    have HF := Lib.hid (below_then HBS.out hbf)
    clear hbf
    go_wp2_with fail
    go_ret
    exact ⟨rfl, HF.out⟩
  · -- a rating too great
    have hx1 := okP_iff.1 (HRI.out.1 x1 (by simp))
    obtain ⟨r0, r1, -, -⟩ := hx1
    obtain ⟨ca, fa⟩ := HP9.out.cellN (j := 3) (u := .int .i64 x1.rt) (by omega) rfl
    obtain ⟨st, hbS⟩ := stored (g := gp) (j := 3) (.int .i64 (4001 + x1.rt)) HST9.out HOP.out (by decide)
    have hrow := HP9.out.setc (k := 3) (by omega) (.int .i64 (4001 + x1.rt))
    rw [show (pls (x0 :: x1 :: pr)).set 3 (.int .i64 (4001 + x1.rt)) = pls (x0 :: ⟨x1.id, 4001 + x1.rt⟩ :: pr) from rfl] at hrow
    have hbd := wrong1 HRI.out gs.length 32
    have hcall := play_bad0 _ _ n c5 _ hrow.sl.old0 _ m c7 gs (HG9.out.step st (by decide)).sl.old0 32 (.inl hbd) 2 (by rw [hbd]; rfl)
    have HC := Lib.hid hcall; have HBS := Lib.hid hbS
    clear hcall hbS hrow st hbd
    go_wp2_with fail
    refine HC.out.mono ?_
    rintro e wf ⟨rfl, hbf⟩
    have HF := Lib.hid (below_then HBS.out hbf)
    clear hbf
    go_wp2_with fail
    go_ret
    exact ⟨rfl, HF.out⟩
  · -- a game against oneself
    subst hgs
    obtain ⟨ca, fa⟩ := HG9.out.cellN (j := 0) (u := .int .i64 y0.a) (by omega) rfl
    obtain ⟨cb, fb⟩ := HG9.out.cellN (j := 1) (u := .int .i64 y0.b) (by omega) rfl
    obtain ⟨st, hbS⟩ := stored (g := gg) (j := 1) (.int .i64 y0.a) HST9.out HOG.out (by decide)
    have hrow := HG9.out.setc (k := 1) (by omega) (.int .i64 y0.a)
    rw [show (gms (y0 :: gr)).set 1 (.int .i64 y0.a) = gms (⟨y0.a, y0.a, y0.s⟩ :: gr) from rfl] at hrow
    have hcall := play_bad0 _ _ n c5 _ (HP9.out.step st (by decide)).sl.old0 _ m c7 _ hrow.sl.old0 32 (.inr (wrong2 32 _ y0.a y0.s gr)) 350 (by rw [if_pos]; exact HPOK.out)
    have HC := Lib.hid hcall; have HBS := Lib.hid hbS
    clear hcall hbS hrow st
    go_wp2_with fail
    refine HC.out.mono ?_
    rintro e wf ⟨rfl, hbf⟩
    have HF := Lib.hid (below_then HBS.out hbf)
    clear hbf
    go_wp2_with fail
    go_ret
    exact ⟨rfl, HF.out⟩
  · -- a score that is none, in the last game
    obtain ⟨i, hi⟩ : ∃ i, m = i + 1 := ⟨m - 1, by omega⟩
    subst hi
    obtain ⟨g, hg⟩ : ∃ g, gs[i]? = some g := ⟨_, List.getElem?_eq_getElem (by rw [HM.out]; omega)⟩
    obtain ⟨-, -, ga2⟩ := gms_get gs i g hg
    obtain ⟨ca, fa⟩ := HG9.out.cellN (j := i * 3 + 2) (by omega) ga2
    obtain ⟨st, hbS⟩ := stored (g := gg) (j := i * 3 + 2) (.int .i64 100) HST9.out HOG.out (by decide)
    have hrow := HG9.out.setc (k := i * 3 + 2) (by omega) (.int .i64 100)
    rw [gms_set gs i g 100 hg] at hrow
    have hcall := play_bad0 _ _ n c5 _ (HP9.out.step st (by decide)).sl.old0 _ (i + 1) c7 _ hrow.sl.old0 32 (.inr (wrong3 HRUN.out HM.out)) 350 (by rw [if_pos]; rw [List.length_set]; exact HPOK.out)
    have hw : IntKind.i64.wrap (((i + 1 : Nat) : Int) - 1) = (i : Int) := (IntWalk.i64_in _ (by omega)).trans (by omega)
    have hi1 : (i : Int) < ((i + 1 : Nat) : Int) := by omega
    have hi2 : (i : Int) < (i : Int) + 1 := by omega
    have HC := Lib.hid hcall; have HBS := Lib.hid hbS
    clear hcall hbS hrow st hg ga2 hgs
    go_wp2_with fail
    refine HC.out.mono ?_
    rintro e wf ⟨rfl, hbf⟩
    have HF := Lib.hid (below_then HBS.out hbf)
    clear hbf
    go_wp2_with fail
    go_ret
    exact ⟨rfl, HF.out⟩
  · -- nobody
    subst hgs
    obtain ⟨ca, fa⟩ := HG9.out.cellN (j := 0) (u := .int .i64 y0.a) (by omega) rfl
    obtain ⟨st, hbS⟩ := stored (g := gg) (j := 0) (.int .i64 0) HST9.out HOG.out (by decide)
    have hrow := HG9.out.setc (k := 0) (by omega) (.int .i64 0)
    rw [show (gms (y0 :: gr)).set 0 (.int .i64 0) = gms (⟨0, y0.b, y0.s⟩ :: gr) from rfl] at hrow
    have hcall := play_bad0 _ _ n c5 _ (HP9.out.step st (by decide)).sl.old0 _ m c7 _ hrow.sl.old0 32 (.inr (wrong4 HRI.out 32 y0.b y0.s gr)) 350 (by rw [if_pos]; exact HPOK.out)
    have HC := Lib.hid hcall; have HBS := Lib.hid hbS
    clear hcall hbS hrow st
    go_wp2_with fail
    refine HC.out.mono ?_
    rintro e wf ⟨rfl, hbf⟩
    have HF := Lib.hid (below_then HBS.out hbf)
    clear hbf
    go_wp2_with fail
    go_ret
    exact ⟨rfl, HF.out⟩
  · -- a ticket twice
    clear hgs
    obtain ⟨ca, fa⟩ := HT9.out.cellN (j := 0) (u := .int .i64 z0.id) (by omega) rfl
    obtain ⟨cb, fb⟩ := HT9.out.cellN (j := 1) (u := .int .i64 z0.rt) (by omega) rfl
    obtain ⟨cc, fc⟩ := HT9.out.cellN (j := 2) (u := .int .i64 z0.si) (by omega) rfl
    have sN := (Step.refl [] w9 o9).alloc (.cells (tC z0) 24) 5
    have hnew := (Row.made (w := w9) o9 5 24 3 (tC z0) 1 rfl (by decide) 1 (Nat.le_refl _)).sl
    rw [show (tC z0).toList.take (1 * 3) = tks [z0] from rfl] at hnew
    have HN := Lib.hid hnew; have HSN := Lib.hid (HST9.out.trans sN); have HTN := Lib.hid (HT9.out.step sN (by simp))
    clear hnew sN fa fb fc
    go_wp2_with (at_builtin; refine wpList_append_row _ rfl (.tmp 115) (.tmp 119) _ rfl el_tk _ 72 _ q c9 (tks (z0 :: tr)) rfl HTN.out _ 5 _ 1 1 (tks [z0]) rfl HN.out (one_tks _) (by omega) (by simp only [maxLen]; omega) ?_; intro AA cA wA hrA hgA hatA; have sA := Step.append HTN.out hgA 72; have HBA := Lib.hid ((((HSN.out.nil.trans sA).forget (ts' := []) (fun t ht _ k _ => by simp at ht; subst ht; simp))).to_below (by simp)); rw [show tks (z0 :: tr) ++ tks [z0] = tks (z0 :: tr ++ [z0]) by simp [tks]] at hrA; have HRA := Lib.hid hrA.sl.old0; clear hrA hgA hatA sA)
    refine (Pairs_bad wA _ (q + 1) cA _ 2000 HRA.out (wrong5 z0 tr 2000)).mono ?_
    rintro e wf ⟨rfl, hbf⟩
    have HF := Lib.hid (below_then HBA.out hbf)
    clear hbf
    go_wp2_with fail
    go_ret
    exact ⟨rfl, HF.out⟩
  · -- a rating below 0
    clear hgs
    obtain ⟨ca, fa⟩ := HT9.out.cellN (j := 1) (u := .int .i64 z0.rt) (by omega) rfl
    obtain ⟨st, hbS⟩ := stored (g := gt) (j := 1) (.int .i64 (-1)) HST9.out HOT.out (by decide)
    have hrow := HT9.out.setc (k := 1) (by omega) (.int .i64 (-1))
    rw [show (tks (z0 :: tr)).set 1 (.int .i64 (-1)) = tks (⟨z0.id, -1, z0.si⟩ :: tr) from rfl] at hrow
    have hcall := Pairs_bad _ _ q c9 _ 2000 hrow.sl.old0 (wrong6 z0 tr 2000)
    have HC := Lib.hid hcall; have HBS := Lib.hid hbS
    clear hcall hbS hrow st
    go_wp2_with fail
    refine HC.out.mono ?_
    rintro e wf ⟨rfl, hbf⟩
    have HF := Lib.hid (below_then HBS.out hbf)
    clear hbf
    go_wp2_with fail
    go_ret
    exact ⟨rfl, HF.out⟩
  · -- an ID that is none
    clear hgs
    obtain ⟨ca, fa⟩ := HT9.out.cellN (j := 0) (u := .int .i64 z0.id) (by omega) rfl
    obtain ⟨st, hbS⟩ := stored (g := gt) (j := 0) (.int .i64 0) HST9.out HOT.out (by decide)
    have hrow := HT9.out.setc (k := 0) (by omega) (.int .i64 0)
    rw [show (tks (z0 :: tr)).set 0 (.int .i64 0) = tks (⟨0, z0.rt, z0.si⟩ :: tr) from rfl] at hrow
    have hcall := Pairs_bad _ _ q c9 _ 2000 hrow.sl.old0 (wrong7 z0 tr 2000)
    have HC := Lib.hid hcall; have HBS := Lib.hid hbS
    clear hcall hbS hrow st
    go_wp2_with fail
    refine HC.out.mono ?_
    rintro e wf ⟨rfl, hbf⟩
    have HF := Lib.hid (below_then HBS.out hbf)
    clear hbf
    go_wp2_with fail
    go_ret
    exact ⟨rfl, HF.out⟩
end Go.Proofs.Ytkceefheeicmbaa
