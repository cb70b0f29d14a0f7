/-
  WALK of RatingPairing.
-/
import Derived.Test.YtkceefheeicmbaaRatNB
import Derived.Test.YtkceefheeicmbaaRatBC
import Derived.Test.YtkceefheeicmbaaOrders
import Derived.Lib.QuietBelow
import Derived.BigQuiet
namespace Go.Proofs.Ytkceefheeicmbaa
open Go.RowKit Go.Sort

--HEADEND
/-- Two maps made by the call, apart from what lay below. -/
def PInv (w2 W : World) (m1 m2 c1 c2 : Nat) (f g : Int → Int) : Prop := Below w2.heap.size w2 W ∧ MapIs W m1 c1 f ∧ MapIs W m2 c2 g ∧ w2.heap.size ≤ m1 ∧ w2.heap.size ≤ m2 ∧ m1 ≠ m2
theorem PInv.made (w2 : World) : PInv w2 ((w2.alloc (.map #[] 0)).alloc (.map #[] 0)) w2.heap.size (w2.heap.size + 1) 0 0 (fun _ => 0) (fun _ => 0) := by
  have h := MapIs.made (w2.alloc (.map #[] 0))
  rw [World.size_alloc] at h
  exact ⟨((Below.refl w2.heap.size w2).alloc (Nat.le_refl _) _).alloc (by simp) _, (MapIs.made w2).alloc _, h, Nat.le_refl _, by omega, by omega⟩
theorem PInv.below {w2 W W' : World} {m1 m2 c1 c2 : Nat} {f g : Int → Int} (h : PInv w2 W m1 m2 c1 c2 f g) (hb : Below W.heap.size W W') : PInv w2 W' m1 m2 c1 c2 f g := by
  obtain ⟨h1, h2, h3, h4⟩ := h
  exact ⟨below_then h1 hb, h2.below hb, h3.below hb, h4⟩
theorem PInv.put2 {w2 W W' : World} {m1 m2 c1 c2 d2 : Nat} {f g g' : Int → Int} (h : PInv w2 W m1 m2 c1 c2 f g) (hg : W.grownBy W' (some m2)) (hm : MapIs W' m2 d2 g') : PInv w2 W' m1 m2 c1 d2 f g' := by
  obtain ⟨h1, h2, h3, h4, h5, h6⟩ := h
  exact ⟨h1.grown hg h1.size (fun k hk => by injection hk with hk; subst hk; exact h5), h2.kept hg (fun e => h6 (by injection e)), hm, h4, h5, h6⟩
theorem PInv.put1 {w2 W W' : World} {m1 m2 c1 c2 d1 : Nat} {f f' g : Int → Int} (h : PInv w2 W m1 m2 c1 c2 f g) (hg : W.grownBy W' (some m1)) (hm : MapIs W' m1 d1 f') : PInv w2 W' m1 m2 d1 c2 f' g := by
  obtain ⟨h1, h2, h3, h4, h5, h6⟩ := h
  exact ⟨h1.grown hg h1.size (fun k hk => by injection hk with hk; subst hk; exact h4), hm, h3.kept hg (fun e => h6 (by injection e; omega)), h4, h5, h6⟩
theorem MapIs.lookN {W : World} {b cnt : Nat} {f : Int → Int} (h : MapIs W b cnt f) {id c : Int} (hid : -9223372036854775808 ≤ id ∧ id ≤ 9223372036854775807) (hc : f id = c) :
    ∀ k, (Instr.lookup 46 (.map (some b)) (.int .i64 id) false).run Try.prog (W.drewN k) = .ok (.int .i64 c) (W.drewN k) := fun k => (h.drewN k).look hid hc

set_option maxRecDepth 100000 in
set_option maxHeartbeats 4000000 in
theorem RatingPairing_walk (w : World) (A : Option Addr) (n c : Nat) (l : List Tk) (hS : Sl w (fun _ => 0) 0 3 A n c (tks l)) (t : Int) :
    Calls Try.prog 8 #[.slice A n c, .int .i64 t] w (SaysTo w true) := by
  have hl : l.length = n := by have := hS.1; rw [len_tks] at this; omega
  have HL := Lib.hid hl; have HS := Lib.hid hS
  clear hl hS
  go_enter Try.func8, Try.ntmps8
  go_wp2_with fail
  refine (awake_any _).mono ?_
  rintro e w1 ⟨rfl, hb1⟩
  have HB := Lib.hid hb1; have HS1 := Lib.hid (HS.out.up hb1)
  clear hb1 HS
  obtain ⟨ok, hok⟩ : ∃ ok, ok = pairsOk l t := ⟨_, rfl⟩
  cases ok
  · have hbad := Pairs_bad w1 A n c l t HS1.out hok.symm
    have HBAD := Lib.hid hbad
    clear hbad hok
    go_wp2_with fail
    refine HBAD.out.mono ?_
    rintro e w2 ⟨rfl, hb2⟩
    have HB2 := Lib.hid (below_then HB.out hb2)
    clear hb2 HBAD HB HS1
    go_wp2_with fail
    go_ret
    exact ⟨rfl, HB2.out⟩
  have hok' := hok.symm
  obtain ⟨P, hP⟩ : ∃ P, P = pairsM l t := ⟨_, rfl⟩
  have hp := pairs0 w1 A n c l t HS1.out hok' P hP
  have hn64 : n ≤ 64 := by have := (pairsOk_iff.1 hok').1; have := HL.out; omega
  obtain ⟨q, hq⟩ : ∃ q, q = P.length := ⟨_, rfl⟩
  have hq4 : q ≤ 4096 := by
    have h1 := gfold_len (sortK (mtgs t l))
    rw [gfold_all, sortK_len] at h1
    have h2 := mtgs_len t l
    have h3 : l.length * l.length ≤ 64 * 64 := Nat.mul_le_mul (by rw [HL.out]; exact hn64) (by rw [HL.out]; exact hn64)
    rw [hq, hP]
    unfold pairsM
    omega
  have hCh : P = (chosen l t).map fun m => (m.a, m.b) := hP.trans (chosen_pairs l t)
  have hqc : (chosen l t).length = q := by rw [hq, hCh, List.length_map]
  obtain ⟨ht0, ht1⟩ : 0 ≤ t ∧ t ≤ 1073741824 := ⟨(pairsOk_iff.1 hok').2.1, (pairsOk_iff.1 hok').2.2.1⟩
  rw [← hq] at hp
  have HP := Lib.hid hp; have HCH := Lib.hid hCh; have HQC := Lib.hid hqc; have HOK := Lib.hid hok'
  clear hp hP hok hok' hq hCh hqc
  have hmm := @run_makeMap Try.prog
  go_wp2_with fail
  refine HP.out.mono ?_
  rintro e w2 ⟨A2, c2, rfl, hb2, hp2⟩
  have HB2 := Lib.hid (below_then HB.out hb2); have HS2 := Lib.hid (HS1.out.up hb2); have HP2 := Lib.hid hp2
  clear hb2 hp2 HP HB HS1
  go_wp2_with fail
  have hI0 := PInv.made w2
  obtain ⟨m1, hm1⟩ : ∃ m, m = w2.heap.size := ⟨_, rfl⟩
  obtain ⟨m2, hm2⟩ : ∃ m, m = m1 + 1 := ⟨_, rfl⟩
  obtain ⟨W0, hW0⟩ : ∃ W, W = (w2.alloc (.map #[] 0)).alloc (.map #[] 0) := ⟨_, rfl⟩
  have HI0 := Lib.hid hI0
  clear hI0
  rw [← hm1, ← hm2, ← hW0]
  rw [← hm1, ← hm2, ← hW0] at HI0
  clear hm1 hm2 hW0 hmm
  go_wp2_with fail
  go_loopw [9] (fun s wr => ∃ i : Nat, i ≤ n ∧ s = .int .i64 i ∧ Hid (PInv w2 wr m1 m2 0 i (fun _ => 0) (atF l i))) (fun s _ => n - (intOf s).toNat)
  case atStart => exact ⟨0, Nat.zero_le _, rfl, HI0⟩
  case round => as_aux_lemma =>
    obtain ⟨i, hi, rfl, HI⟩ := hrel
    by_cases hlt : i < n
    · obtain ⟨x, hx⟩ : ∃ x, l[i]? = some x := ⟨_, List.getElem?_eq_getElem (by rw [HL.out]; exact hlt)⟩
      obtain ⟨ox1, ox2, ox3, ox4, ox5, ox6⟩ := okT_iff.1 ((pairsOk_iff.1 HOK.out).2.2.2.1 x (List.mem_of_getElem? hx))
      obtain ⟨g, off, rfl, -, -, ca, cb, cc⟩ := (HS2.out.up HI.out.1).tk hx
      have HX := Lib.hid hx
      clear hx cb cc
      go_wp2_with (at_mapUpdate; refine wpList_put_is rfl _ rfl (.tmp 46) (.tmp 51) (.tmp 53) rfl m2 i (atF l i) rfl HI.out.2.2.1 (by unfold maxLen; omega) x.id ((i : Int) + 1) rfl rfl (by omega) (by omega) ?_; intro w7 h7 g7; have HI7 := Lib.hid (HI.out.put2 g7 h7); clear h7 g7)
      go_roundw
      case rel => exact ⟨i + 1, by omega, by go_num, Lib.hid (by have := HI7.out; rwa [atF_snoc HX.out] at this)⟩
      case measure => simp [intOf]; omega
    · obtain rfl : n = i := by omega
      clear HI0
      go_wp2_with fail
      go_loopw [11, 10, 12, 13, 14, 4] (fun s11 s10 _ _ _ _ wt => ∃ (i : Nat) (last : Int), i ≤ q ∧ s11 = .int .i64 i ∧ s10 = .int .i64 last ∧ 0 ≤ last ∧ last ≤ 4000 ∧ Hid (∀ m, (chosen l t)[i]? = some m → last ≤ m.d) ∧ Hid (PInv w2 wt m1 m2 (2 * i) n (wth ((chosen l t).take i)) (atF l n))) (fun s11 _ _ _ _ _ _ => q - (intOf s11).toNat)
      case atStart => exact ⟨0, 0, Nat.zero_le _, rfl, rfl, by omega, by omega, Lib.hid (fun m hm => by obtain ⟨_, _, _, _, _, _, _, _, _, _, _, _, hd⟩ := chosen_who HOK.out (List.mem_of_getElem? hm); exact hd), Lib.hid (by have := HI.out; exact this)⟩
      case round => as_aux_lemma =>
        clear HI
        obtain ⟨i, last, hi, rfl, rfl, hl0, hl1, HLA, HI⟩ := hrel
        by_cases hlt : i < q
        ·
          obtain ⟨⟨md, ms, ma, mb⟩, hm⟩ : ∃ m, (chosen l t)[i]? = some m := ⟨_, List.getElem?_eq_getElem (by rw [HQC.out]; exact hlt)⟩
          obtain ⟨ia, ib, x, y, hxa, hyb, hxid, hyid, hab, hd, hdx, hdy, hd0⟩ := chosen_who HOK.out (List.mem_of_getElem? hm)
          simp only at hxid hyid hab hd hdx hdy hd0
          obtain ⟨ox1, ox2, ox3, ox4, ox5, ox6⟩ := okT_iff.1 ((pairsOk_iff.1 HOK.out).2.2.2.1 x (List.mem_of_getElem? hxa))
          obtain ⟨oy1, oy2, oy3, oy4, oy5, oy6⟩ := okT_iff.1 ((pairsOk_iff.1 HOK.out).2.2.2.1 y (List.mem_of_getElem? hyb))
          have hia : ia < n := by have := (List.getElem?_eq_some_iff.1 hxa).1; have := HL.out; omega
          have hib : ib < n := by have := (List.getElem?_eq_some_iff.1 hyb).1; have := HL.out; omega
          have hPi : P[i]? = some (ma, mb) := by rw [HCH.out, List.getElem?_map, hm]; rfl
          obtain ⟨g2, off2, rfl, hg2, e0, e1⟩ := HP2.out.pr hPi
          have e2 := cell_up HI.out.1 e0; have e3 := cell_up HI.out.1 e1
          obtain ⟨g, off, rfl, -, -, ca, cb, cc⟩ := (HS2.out.up HI.out.1).tk hxa
          obtain ⟨g', off', hgg, -, -, cd, ce, cf⟩ := (HS2.out.up HI.out.1).tk hyb
          injection hgg with hgg; injection hgg with hg1 hg2'; subst hg1 hg2'
          have la := HI.out.2.2.1.lookN (id := ma) (c := (ia : Int) + 1) (by omega) (by rw [← hxid]; exact atF_get (pairsOk_iff.1 HOK.out).2.2.2.2 hxa n hia (by rw [HL.out]; exact Nat.le_refl _))
          have lb := HI.out.2.2.1.lookN (id := mb) (c := (ib : Int) + 1) (by omega) (by rw [← hyid]; exact atF_get (pairsOk_iff.1 HOK.out).2.2.2.2 hyb n hib (by rw [HL.out]; exact Nat.le_refl _))
          have hwf := wth_fresh hm
          have lc := HI.out.2.1.lookN (id := ma) (c := 0) (by omega) hwf.1
          have ld := HI.out.2.1.lookN (id := mb) (c := 0) (by omega) hwf.2
          have hll : last ≤ md := HLA.out _ hm
          obtain ⟨hma0, hma1⟩ : 1 ≤ ma ∧ ma ≤ 65536 := by omega
          obtain ⟨hmb0, hmb1⟩ : 1 ≤ mb ∧ mb ≤ 65536 := by omega
          have hmd4 : md ≤ 4000 := by rw [hd]; unfold diffT; omega
          have za : (((ia : Int) + 1) == 0) = false := by simp; omega
          have zb : (((ib : Int) + 1) == 0) = false := by simp; omega
          have zc : decide (mb ≤ ma) = false := by simp; omega
          have hqi : (i : Int) < (q : Int) := by omega
          have HM := Lib.hid hm; have HXA := Lib.hid hxa; have HYB := Lib.hid hyb; have HXI := Lib.hid hxid; have HYI := Lib.hid hyid; have HD := Lib.hid hd; have HE2 := Lib.hid e0; have HE3 := Lib.hid e1
          clear hm hxa hyb hxid hyid hd e0 e1 hPi hwf HLA
          have HDX := Lib.hid hdx; have HDY := Lib.hid hdy
          clear hdx hdy
          go_wp2_with fail
          go_quiet (fail)
          obtain ⟨q1, hq1⟩ : ∃ k, k = nq := ⟨_, rfl⟩
          rw [← hq1]
          go_wp2_with fail
          go_quiet (fail)
          obtain ⟨wq, hwq⟩ : ∃ W, W = (wr.drewN q1).drewN nq := ⟨_, rfl⟩
          have hbq : Below wr.heap.size wr wq := by rw [hwq]; exact Below.drewK (Below.drewK (Below.refl _ _) _) _
          rw [← hwq]
          have HI1 := Lib.hid (HI.out.below hbq)
          have u1 := cell_up hbq ca; have u2 := cell_up hbq cb; have u3 := cell_up hbq cc; have u4 := cell_up hbq cd; have u5 := cell_up hbq ce; have u6 := cell_up hbq cf
          have cdiff : ∀ dd os, Calls Try.prog 27 #[.agg #[.int .i64 x.id, .int .i64 x.rt, .int .i64 x.si], .agg #[.int .i64 y.id, .int .i64 y.rt, .int .i64 y.si]] (grow (redrawn wq dd) os) fun e w'' => e = .returned (.int .i64 md) ∧ ∃ p : Regrown, w'' = grow (redrawn wq p.d) p.os :=
            fun dd os => Calls.regrown_of (difference_any _ x y md HD.out ⟨ox3, ox4⟩ ⟨oy3, oy4⟩)
          have HCD := Lib.hid cdiff
          clear hwq hq1 hbq la lb lc ld e2 e3 ca cb cc cd ce cf HI cdiff za zb zc
          go_wp2_with fail
          refine wp_region_quiet_below (by kernel_rfl) (by kernel_rfl) ?_
          have v1 := cell_regrown u1; have v2 := cell_regrown u2; have v3 := cell_regrown u3; have v4 := cell_regrown u4; have v5 := cell_regrown u5; have v6 := cell_regrown u6
          repeat (go_big_quiet_step (with_reducible exact HCD.out _ _))
          refine wpQuiet_nil ?_
          intro wz hw'
          obtain ⟨⟨dq, osq⟩, hw''⟩ := hw'
          have hbq := below_regrown wq dq osq
          obtain ⟨w9, hw9⟩ : ∃ w9, w9 = grow (redrawn wq dq) osq := ⟨_, rfl⟩
          rw [← hw9] at hbq
          have hw10 := hw''.trans hw9.symm
          subst hw10
          clear v1 v2 v3 v4 v5 v6 hw'' hw9
          have HI2 := Lib.hid (HI1.out.below hbq)
          have y1 := cell_up hbq u1; have y2 := cell_up hbq u2; have y3 := cell_up hbq u3; have y4 := cell_up hbq u4; have y5 := cell_up hbq u5; have y6 := cell_up hbq u6
          clear hbq u1 u2 u3 u4 u5 u6 HCD HI1
          obtain ⟨WX, hWX⟩ : ∃ W, W = winM x.si t := ⟨_, rfl⟩
          obtain ⟨WY, hWY⟩ : ∃ W, W = winM y.si t := ⟨_, rfl⟩
          have hdx := HDX.out; have hdy := HDY.out
          rw [← hWX] at hdx
          rw [← hWY] at hdy
          have HCX := Lib.hid (fun W => Window_any W x.id x.rt x.si t WX hWX); have HCY := Lib.hid (fun W => Window_any W y.id y.rt y.si t WY hWY)
          clear hWX hWY
          go_wp2_with fail
          refine (HCX.out _).mono ?_
          rintro e wa ⟨rfl, hba⟩
          have z4 := cell_up hba y4; have z5 := cell_up hba y5; have z6 := cell_up hba y6
          have HI3 := Lib.hid (HI2.out.below hba)
          clear hba y1 y2 y3 y4 y5 y6 HI2 HCX
          go_wp2_with fail
          refine (HCY.out _).mono ?_
          rintro e wb ⟨rfl, hbb⟩
          have HI4 := Lib.hid (HI3.out.below hbb)
          clear hbb z4 z5 z6 HI3 HCY
          go_wp2_with fail
          obtain ⟨WW, hWW⟩ : ∃ W, W = wb.drew := ⟨_, rfl⟩
          have hiw := HI4.out.below (W' := WW) (by rw [hWW]; exact (Below.refl _ _).drew)
          have e2 := cell_up hiw.1 HE2.out; have e3 := cell_up hiw.1 HE3.out
          obtain ⟨v1, s1, WA, WB, r1, gA, r2, hM1, gB⟩ := hiw.2.1.entry (by unfold maxLen; omega) ma (md + 1) (by omega) (by omega)
          obtain ⟨v2, s2, WC, WD, r3, gC, r4, hM2, gD⟩ := hM1.entry (by unfold maxLen; omega) mb (md + 1) (by omega) (by omega)
          have hiD := (hiw.put1 gB hM1).put1 gD hM2
          rw [wth_map HM.out] at hiD
          have hwd : IntKind.i64.wrap (md + 1) = md + 1 := IntWalk.i64_in _ (by omega)
          rw [← hwd] at r2 r4
          clear hwd
          have HID := Lib.hid hiD
          clear hiD gA hM1 gB gC hM2 gD hiw HI4
          refine wp_region_till (S0 := fun w' => w' = WW) (st := 16) (by kernel_rfl) ?_
          change wpAnyG _ _ _ _ _ _ _ _ _ (World.drew _)
          rw [← hWW]
          clear hWW
          refine wpAnyG_take (i := 0) (v := ?_) rfl (by kernel_rfl) (by kernel_rfl) (by kernel_rfl) (by kernel_rfl) (fun _ _ _ h => h) (Or.inl ⟨by rfl, ?_⟩) ((.inr rfl)) ?_
          rotate_left
          · intro w' _; go_simp; try with_reducible rfl
          try simp only [Act.put, List.getElem_toArray, List.getElem_cons_zero, List.setIfInBounds_toArray, List.set_cons_zero, List.set_cons_succ]
          refine wpAnyG_take (i := 1) (v := ?_) rfl (by kernel_rfl) (by kernel_rfl) (by kernel_rfl) (by kernel_rfl) (fun _ _ _ h => h) (Or.inl ⟨by rfl, ?_⟩) ((.inr rfl)) ?_
          rotate_left
          · intro w' _; go_simp; try with_reducible rfl
          try simp only [Act.put, List.getElem_toArray, List.getElem_cons_zero, List.getElem_cons_succ, List.setIfInBounds_toArray, List.set_cons_zero, List.set_cons_succ]
          refine wpAnyG_take (i := 2) (v := ?_) rfl (by kernel_rfl) (by kernel_rfl) (by kernel_rfl) (by kernel_rfl) (fun _ _ _ h => h) (Or.inl ⟨by rfl, ?_⟩) ((.inr rfl)) ?_
          rotate_left
          · intro w' _; go_simp; try with_reducible rfl
          try simp only [Act.put, List.getElem_toArray, List.getElem_cons_zero, List.getElem_cons_succ, List.setIfInBounds_toArray, List.set_cons_zero, List.set_cons_succ]
          refine wpAnyG_take (i := 3) (v := ?_) rfl (by kernel_rfl) (by kernel_rfl) (by kernel_rfl) (by kernel_rfl) (fun _ _ _ h => h) (Or.inl ⟨by rfl, ?_⟩) ((.inr rfl)) ?_
          rotate_left
          · intro w' _; go_simp; try with_reducible rfl
          try simp only [Act.put, List.getElem_toArray, List.getElem_cons_zero, List.getElem_cons_succ, List.setIfInBounds_toArray, List.set_cons_zero, List.set_cons_succ]
          refine wpAnyG_take (i := 4) (v := ?_) rfl (by kernel_rfl) (by kernel_rfl) (by kernel_rfl) (by kernel_rfl) (fun _ _ _ h => h) (Or.inl ⟨by rfl, ?_⟩) ((.inr rfl)) ?_
          rotate_left
          · intro w' _; go_simp; try with_reducible rfl
          try simp only [Act.put, List.getElem_toArray, List.getElem_cons_zero, List.getElem_cons_succ, List.setIfInBounds_toArray, List.set_cons_zero, List.set_cons_succ]
          refine wpAnyG_load (i := 5) (v := ?_) rfl rfl (by kernel_rfl) (by kernel_rfl) (by kernel_rfl) (by kernel_rfl) (by kernel_rfl) (by kernel_rfl) (fun _ _ _ h => h) (Or.inl ⟨by rfl, ?_⟩) (rfl) ?_
          rotate_left
          · intro w' hSw; subst hSw; go_simp; try with_reducible rfl
          try simp only [Act.put, List.getElem_toArray, List.getElem_cons_zero, List.getElem_cons_succ, List.setIfInBounds_toArray, List.set_cons_zero, List.set_cons_succ]
          refine wpAnyG_take (i := 6) (v := ?_) rfl (by kernel_rfl) (by kernel_rfl) (by kernel_rfl) (by kernel_rfl) (fun _ _ _ h => h) (Or.inl ⟨by rfl, ?_⟩) ((.inr rfl)) ?_
          rotate_left
          · intro w' _; go_simp; try with_reducible rfl
          try simp only [Act.put, List.getElem_toArray, List.getElem_cons_zero, List.getElem_cons_succ, List.setIfInBounds_toArray, List.set_cons_zero, List.set_cons_succ]
          refine wpAnyG_take (i := 7) (v := ?_) rfl (by kernel_rfl) (by kernel_rfl) (by kernel_rfl) (by kernel_rfl) (fun _ _ _ h => h) (Or.inl ⟨by rfl, ?_⟩) ((.inr rfl)) ?_
          rotate_left
          · intro w' _; go_simp; try with_reducible rfl
          try simp only [Act.put, List.getElem_toArray, List.getElem_cons_zero, List.getElem_cons_succ, List.setIfInBounds_toArray, List.set_cons_zero, List.set_cons_succ]
          refine wpAnyG_take (i := 8) (v := ?_) rfl (by kernel_rfl) (by kernel_rfl) (by kernel_rfl) (by kernel_rfl) (fun _ _ _ h => h) (Or.inl ⟨by rfl, ?_⟩) ((.inr rfl)) ?_
          rotate_left
          · intro w' _; go_simp; try with_reducible rfl
          try simp only [Act.put, List.getElem_toArray, List.getElem_cons_zero, List.getElem_cons_succ, List.setIfInBounds_toArray, List.set_cons_zero, List.set_cons_succ]
          refine wpAnyG_take (i := 9) (v := ?_) rfl (by kernel_rfl) (by kernel_rfl) (by kernel_rfl) (by kernel_rfl) (fun _ _ _ h => h) (Or.inl ⟨by rfl, ?_⟩) ((.inr rfl)) ?_
          rotate_left
          · intro w' _; go_simp; try with_reducible rfl
          try simp only [Act.put, List.getElem_toArray, List.getElem_cons_zero, List.getElem_cons_succ, List.setIfInBounds_toArray, List.set_cons_zero, List.set_cons_succ]
          refine wpAnyG_take (i := 10) (v := ?_) rfl (by kernel_rfl) (by kernel_rfl) (by kernel_rfl) (by kernel_rfl) (fun _ _ _ h => h) (Or.inl ⟨by rfl, ?_⟩) ((.inr rfl)) ?_
          rotate_left
          · intro w' _; go_simp; try with_reducible rfl
          try simp only [Act.put, List.getElem_toArray, List.getElem_cons_zero, List.getElem_cons_succ, List.setIfInBounds_toArray, List.set_cons_zero, List.set_cons_succ]
          refine wpAnyG_load (i := 11) (v := ?_) rfl rfl (by kernel_rfl) (by kernel_rfl) (by kernel_rfl) (by kernel_rfl) (by kernel_rfl) (by kernel_rfl) (fun _ _ _ h => h) (Or.inl ⟨by rfl, ?_⟩) (rfl) ?_
          rotate_left
          · intro w' hSw; subst hSw; go_simp; try with_reducible rfl
          try simp only [Act.put, List.getElem_toArray, List.getElem_cons_zero, List.getElem_cons_succ, List.setIfInBounds_toArray, List.set_cons_zero, List.set_cons_succ]
          refine wpAnyG_take (i := 12) (v := ?_) rfl (by kernel_rfl) (by kernel_rfl) (by kernel_rfl) (by kernel_rfl) (fun _ _ _ h => h) (Or.inl ⟨by rfl, ?_⟩) ((.inr rfl)) ?_
          rotate_left
          · intro w' _; go_simp; try with_reducible rfl
          try simp only [Act.put, List.getElem_toArray, List.getElem_cons_zero, List.getElem_cons_succ, List.setIfInBounds_toArray, List.set_cons_zero, List.set_cons_succ]
          refine wpAnyG_take (i := 13) (v := ?_) rfl (by kernel_rfl) (by kernel_rfl) (by kernel_rfl) (by kernel_rfl) (fun _ _ _ h => h) (Or.inl ⟨by rfl, ?_⟩) ((.inr rfl)) ?_
          rotate_left
          · intro w' _; go_simp; try with_reducible rfl
          try simp only [Act.put, List.getElem_toArray, List.getElem_cons_zero, List.getElem_cons_succ, List.setIfInBounds_toArray, List.set_cons_zero, List.set_cons_succ]
          refine wpAnyG_take (i := 14) (v := ?_) rfl (by kernel_rfl) (by kernel_rfl) (by kernel_rfl) (by kernel_rfl) (fun _ _ _ h => h) (Or.inl ⟨by rfl, ?_⟩) ((.inr rfl)) ?_
          rotate_left
          · intro w' _; go_simp; try with_reducible rfl
          try simp only [Act.put, List.getElem_toArray, List.getElem_cons_zero, List.getElem_cons_succ, List.setIfInBounds_toArray, List.set_cons_zero, List.set_cons_succ]
          refine wpAnyG_take (i := 15) (v := ?_) rfl (by kernel_rfl) (by kernel_rfl) (by kernel_rfl) (by kernel_rfl) (fun _ _ _ h => h) (Or.inl ⟨by rfl, ?_⟩) ((.inr rfl)) ?_
          rotate_left
          · intro w' _; go_simp; try with_reducible rfl
          try simp only [Act.put, List.getElem_toArray, List.getElem_cons_zero, List.getElem_cons_succ, List.setIfInBounds_toArray, List.set_cons_zero, List.set_cons_succ]
          refine wpAnyG_ready (rs := [16]) (by kernel_rfl) (by simp) ?_
          refine AllReadyG.cons rfl (fun K hK => ?_) AllReadyG.nil
          go_simp
          refine hK.out _ _ (.inl rfl) ?_
          clear hK K
          refine wpAnyG_ready (rs := [17]) (by kernel_rfl) (by simp) ?_
          refine AllReadyG.cons rfl (fun K hK => ?_) AllReadyG.nil
          go_simp
          refine hK.out _ _ (.inl rfl) ?_
          clear hK K
          refine wpAnyG_ready (rs := [18]) (by kernel_rfl) (by simp) ?_
          refine AllReadyG.cons rfl (fun K hK => ?_) AllReadyG.nil
          go_simp
          refine hK.out _ _ (.inl rfl) ?_
          clear hK K
          refine wpAnyG_ready (rs := [19]) (by kernel_rfl) (by simp) ?_
          refine AllReadyG.cons rfl (fun K hK => ?_) AllReadyG.nil
          go_simp
          refine hK.out _ _ (.inl rfl) ?_
          clear hK K
          refine wpAnyG_ready (rs := [20]) (by kernel_rfl) (by simp) ?_
          refine AllReadyG.cons rfl (fun K hK => ?_) AllReadyG.nil
          go_simp
          refine hK.out _ _ (.inl rfl) ?_
          clear hK K
          refine wpAnyG_ready (rs := [21]) (by kernel_rfl) (by simp) ?_
          refine AllReadyG.cons rfl (fun K hK => ?_) AllReadyG.nil
          go_simp
          refine hK.out _ _ (.inl rfl) ?_
          clear hK K
          refine wpAnyG_done (by kernel_rfl) ?_ _
          have HLN := Lib.hid (fun m' (hm' : (chosen l t)[i + 1]? = some m') => chosen_le (Nat.lt_succ_self i) HM.out hm')
          clear r1 r2 r3 r4
          go_wp2_with fail
          go_roundw
          case rel => exact ⟨i + 1, md, by omega, by go_num, rfl, by omega, by omega, HLN, HID⟩
          case measure => simp [intOf]; omega
        · obtain rfl : q = i := by omega
          have HIW : Hid (PInv w2 wr m1 m2 (2 * q) n (wth (chosen l t)) (atF l n)) := Lib.hid (by have := HI.out; rwa [List.take_of_length_le (by rw [HQC.out]; exact Nat.le_refl _)] at this)
          clear HI HLA HP2 HCH
          go_wp2_with fail
          go_loopw [16, 15, 17, 18, 19, 20, 4] (fun s16 s15 _ _ _ _ _ wt => ∃ i : Nat, i ≤ n ∧ s16 = .int .i64 i ∧ s15 = .int .i64 (longM l t i : Nat) ∧ Hid (PInv w2 wt m1 m2 (2 * q) n (wth (chosen l t)) (atF l n))) (fun s16 _ _ _ _ _ _ _ => n - (intOf s16).toNat)
          case atStart => exact ⟨0, Nat.zero_le _, rfl, rfl, HIW⟩
          case round => as_aux_lemma =>
            clear HIW
            obtain ⟨i, hi, rfl, rfl, HI⟩ := hrel
            by_cases hlt : i < n
            · obtain ⟨x, hx⟩ : ∃ x, l[i]? = some x := ⟨_, List.getElem?_eq_getElem (by rw [HL.out]; exact hlt)⟩
              obtain ⟨ox1, ox2, ox3, ox4, ox5, ox6⟩ := okT_iff.1 ((pairsOk_iff.1 HOK.out).2.2.2.1 x (List.mem_of_getElem? hx))
              obtain ⟨g, off, rfl, -, -, ca, cb, cc⟩ := (HS2.out.up HI.out.1).tk hx
              obtain ⟨a, ha⟩ : ∃ a, a = wth (chosen l t) x.id := ⟨_, rfl⟩
              have har : 0 ≤ a ∧ a ≤ 4001 := by
                have := wth_range HOK.out q x.id
                rw [List.take_of_length_le (by rw [HQC.out]; exact Nat.le_refl _)] at this
                rw [ha]; exact this
              obtain ⟨ha0, ha1⟩ := har
              have la := HI.out.2.1.look (id := x.id) (c := a) (by omega) ha.symm
              obtain ⟨bU, hbU⟩ : ∃ b, b = decide (a = 0 ∧ 1975 ≤ t - x.si) := ⟨_, rfl⟩
              obtain ⟨L, hL⟩ : ∃ L, L = longM l t i := ⟨_, rfl⟩
              obtain ⟨L1, hL1⟩ : ∃ L1, L1 = longM l t (i + 1) := ⟨_, rfl⟩
              have hLs : L1 = if bU = true then L + 1 else L := by
                rw [hL1, longM_step hx, ← hL, ← ha, hbU]
                by_cases h : a = 0 ∧ 1975 ≤ t - x.si
                · rw [if_pos h, if_pos (by simpa using h)]
                · rw [if_neg h, if_neg (by simpa using h)]
                  rfl
              have hLle : L ≤ 1 := by rw [hL]; exact longM_le HOK.out i
              rw [← hL]
              have HX := Lib.hid hx; have HA := Lib.hid ha; have HBU := Lib.hid hbU; have HL1 := Lib.hid hL1; have HLS := Lib.hid hLs
              clear hx ha hbU hL hL1 hLs cb
              go_upto_region 28 with fail
              go_cut [191] (fun s191 wx => s191 = .bool bU ∧ wx = wr)
              case first =>
                by_cases h0 : a = 0
                · by_cases h1 : 1975 ≤ t - x.si
                  · have d0 : (a == 0) = true := by simp [h0]
                    have d1 : decide (1975 ≤ t - x.si) = true := by simpa using h1
                    have hu : bU = true := by rw [HBU.out]; simp [h0, h1]
                    clear h0 h1
                    go_wp2_with fail
                    go_meet
                    exact ⟨by rw [hu], rfl⟩
                  · have d0 : (a == 0) = true := by simp [h0]
                    have d1 : decide (1975 ≤ t - x.si) = false := by simpa using h1
                    have hu : bU = false := by rw [HBU.out]; simp [h1]
                    clear h0 h1
                    go_wp2_with fail
                    go_meet
                    exact ⟨by rw [hu], rfl⟩
                · have d0 : (a == 0) = false := by simp [h0]
                  have hu : bU = false := by rw [HBU.out]; simp [h0]
                  clear h0
                  go_wp2_with fail
                  go_meet
                  exact ⟨by rw [hu], rfl⟩
              case rest => as_aux_lemma =>
                obtain ⟨rfl, hwc⟩ := hcut
                subst wc
                clear la ca cc
                go_upto_if 191 with fail
                go_cut [15] (fun s15 wx => s15 = .int .i64 (L1 : Nat) ∧ wx = wr)
                case first =>
                  have h1 := HLS.out
                  cases bU with
                  | true =>
                    rw [if_pos rfl] at h1
                    have H1 := Lib.hid h1
                    clear h1
                    go_wp2_with fail
                    go_meet
                    exact ⟨by rw [H1.out]; go_num, rfl⟩
                  | false =>
                    rw [if_neg (by simp)] at h1
                    have H1 := Lib.hid h1
                    clear h1
                    go_wp2_with fail
                    go_meet
                    exact ⟨by rw [H1.out], rfl⟩
                case rest => as_aux_lemma =>
                  obtain ⟨rfl, hwc⟩ := hcut
                  subst wc
                  clear HLS HBU
                  go_wp2_with fail
                  go_loopw [17, 18, 19, 20, 4] (fun s17 _ _ _ _ wt => ∃ k : Nat, k ≤ i ∧ s17 = .int .i64 k ∧ Hid (PInv w2 wt m1 m2 (2 * q) n (wth (chosen l t)) (atF l n))) (fun s17 _ _ _ _ _ => i - (intOf s17).toNat)
                  case atStart => exact ⟨0, Nat.zero_le _, rfl, HI⟩
                  case round => as_aux_lemma =>
                    clear HI
                    obtain ⟨k, hk, rfl, HI⟩ := hrel
                    by_cases hlk : k < i
                    · obtain ⟨y, hy⟩ : ∃ y, l[k]? = some y := ⟨_, List.getElem?_eq_getElem (by rw [HL.out]; omega)⟩
                      obtain ⟨oy1, oy2, oy3, oy4, oy5, oy6⟩ := okT_iff.1 ((pairsOk_iff.1 HOK.out).2.2.2.1 y (List.mem_of_getElem? hy))
                      obtain ⟨g', off', hgg, -, -, ca, cb, cc⟩ := (HS2.out.up HI.out.1).tk HX.out
                      injection hgg with hgg; injection hgg with hg1 hg2; subst hg1 hg2
                      obtain ⟨g', off', hgg, -, -, cd, ce, cf⟩ := (HS2.out.up HI.out.1).tk hy
                      injection hgg with hgg; injection hgg with hg1 hg2; subst hg1 hg2
                      obtain ⟨D, hD⟩ : ∃ D, D = diffT x y := ⟨_, rfl⟩
                      have hDb : 0 ≤ D ∧ D ≤ 4000 := by rw [hD]; unfold diffT; omega
                      obtain ⟨hD0, hD1⟩ := hDb
                      have hlaw := pair_law HOK.out hlk hy HX.out
                      rw [← diffT_symm x y, ← hD, ← HA.out] at hlaw
                      obtain ⟨WX, hWX⟩ : ∃ W, W = winM x.si t := ⟨_, rfl⟩
                      obtain ⟨WY, hWY⟩ : ∃ W, W = winM y.si t := ⟨_, rfl⟩
                      rw [← hWX, ← hWY] at hlaw
                      obtain ⟨b, hb⟩ : ∃ b, b = wth (chosen l t) y.id := ⟨_, rfl⟩
                      have hbr : 0 ≤ b ∧ b ≤ 4001 := by
                        have := wth_range HOK.out q y.id
                        rw [List.take_of_length_le (by rw [HQC.out]; exact Nat.le_refl _)] at this
                        rw [hb]; exact this
                      obtain ⟨hb0, hb1⟩ := hbr
                      rw [← hb] at hlaw
                      have HLAW := Lib.hid hlaw
                      have cdiff : ∀ dd os, Calls Try.prog 27 #[.agg #[.int .i64 x.id, .int .i64 x.rt, .int .i64 x.si], .agg #[.int .i64 y.id, .int .i64 y.rt, .int .i64 y.si]] (grow (redrawn wr dd) os) fun e w'' => e = .returned (.int .i64 D) ∧ ∃ p : Regrown, w'' = grow (redrawn wr p.d) p.os :=
                        fun dd os => Calls.regrown_of (difference_any _ x y D hD ⟨ox3, ox4⟩ ⟨oy3, oy4⟩)
                      have HCD := Lib.hid cdiff
                      have HCX := Lib.hid (fun W => Window_any W x.id x.rt x.si t WX hWX); have HCY := Lib.hid (fun W => Window_any W y.id y.rt y.si t WY hWY)
                      have HBE := Lib.hid hb
                      have hin : (i : Int) < (n : Int) := by omega
                      have hkn : (k : Int) < (n : Int) := by omega
                      clear hlaw hWX hWY hD hy hb cdiff
                      go_wp2_with fail
                      refine wp_region_quiet_below (by kernel_rfl) (by kernel_rfl) ?_
                      have v1 := cell_regrown ca; have v2 := cell_regrown cb; have v3 := cell_regrown cc; have v4 := cell_regrown cd; have v5 := cell_regrown ce; have v6 := cell_regrown cf
                      repeat (go_big_quiet_step (with_reducible exact HCD.out _ _))
                      refine wpQuiet_nil ?_
                      intro wz hw'
                      obtain ⟨⟨dq, osq⟩, hw''⟩ := hw'
                      have hbq := below_regrown wr dq osq
                      obtain ⟨w9, hw9⟩ : ∃ w9, w9 = grow (redrawn wr dq) osq := ⟨_, rfl⟩
                      rw [← hw9] at hbq
                      have hw10 := hw''.trans hw9.symm
                      subst hw10
                      clear v1 v2 v3 v4 v5 v6 hw'' hw9
                      have HI2 := Lib.hid (HI.out.below hbq)
                      have y1 := cell_up hbq ca; have y2 := cell_up hbq cb; have y3 := cell_up hbq cc; have y4 := cell_up hbq cd; have y5 := cell_up hbq ce; have y6 := cell_up hbq cf
                      clear hbq ca cb cc cd ce cf HCD HI
                      by_cases h1 : D ≤ WX
                      · by_cases h2 : D ≤ WY
                        · have hno := HLAW.out h2 h1
                          have HNO := Lib.hid hno
                          clear hno
                          go_wp2_with fail
                          refine (HCX.out _).mono ?_
                          rintro e wa ⟨rfl, hba⟩
                          have z1 := cell_up hba y1; have z4 := cell_up hba y4; have z5 := cell_up hba y5; have z6 := cell_up hba y6
                          have HI3 := Lib.hid (HI2.out.below hba)
                          clear hba y1 y2 y3 y4 y5 y6 HI2 HCX
                          go_wp2_with fail
                          refine (HCY.out _).mono ?_
                          rintro e wb ⟨rfl, hbb⟩
                          have c1 := cell_up hbb z1; have c4 := cell_up hbb z4
                          have HI4 := Lib.hid (HI3.out.below hbb)
                          clear hbb z1 z4 z5 z6 HI3 HCY
                          have la := HI4.out.2.1.lookN (id := x.id) (c := a) (by omega) HA.out.symm
                          have lb := HI4.out.2.1.lookN (id := y.id) (c := b) (by omega) HBE.out.symm
                          go_wp2_with fail
                          go_quiet (fail)
                          have HI5 := Lib.hid (HI4.out.below (Below.drewK (Below.refl _ _) nq))
                          clear la lb c1 c4 HI4
                          by_cases ea : a = 0
                          · have d1 : (a == 0) = true := by simp [ea]
                            have d2 : (b == 0) = false := by simp; exact fun e => HNO.out ⟨.inl ea, .inl e⟩
                            have d3 : decide (D + 1 < b) = false := by simp only [decide_eq_false_iff_not]; exact fun e => HNO.out ⟨.inl ea, .inr e⟩
                            clear ea
                            go_wp2_with fail
                            go_roundw
                            case rel => exact ⟨k + 1, by omega, by go_num, HI5⟩
                            case measure => simp [intOf]; omega
                          · have d1 : (a == 0) = false := by simp [ea]
                            by_cases eb : D + 1 < a
                            · have d4 : decide (D + 1 < a) = true := by simpa using eb
                              have d2 : (b == 0) = false := by simp; exact fun e => HNO.out ⟨.inr eb, .inl e⟩
                              have d3 : decide (D + 1 < b) = false := by simp only [decide_eq_false_iff_not]; exact fun e => HNO.out ⟨.inr eb, .inr e⟩
                              clear ea eb
                              go_wp2_with fail
                              go_roundw
                              case rel => exact ⟨k + 1, by omega, by go_num, HI5⟩
                              case measure => simp [intOf]; omega
                            · have d4 : decide (D + 1 < a) = false := by simpa using eb
                              clear ea eb
                              go_wp2_with fail
                              go_roundw
                              case rel => exact ⟨k + 1, by omega, by go_num, HI5⟩
                              case measure => simp [intOf]; omega
                        · have d3 : decide (WY < D) = true := by simp; omega
                          clear h2
                          go_wp2_with fail
                          refine (HCX.out _).mono ?_
                          rintro e wa ⟨rfl, hba⟩
                          have z4 := cell_up hba y4; have z5 := cell_up hba y5; have z6 := cell_up hba y6
                          have HI3 := Lib.hid (HI2.out.below hba)
                          clear hba y1 y2 y3 y4 y5 y6 HI2 HCX
                          go_wp2_with fail
                          refine (HCY.out _).mono ?_
                          rintro e wb ⟨rfl, hbb⟩
                          have HI4 := Lib.hid (HI3.out.below hbb)
                          clear hbb z4 z5 z6 HI3 HCY
                          go_wp2_with fail
                          go_roundw
                          case rel => exact ⟨k + 1, by omega, by go_num, HI4⟩
                          case measure => simp [intOf]; omega
                      · have d3 : decide (WX < D) = true := by simp; omega
                        clear h1
                        go_wp2_with fail
                        refine (HCX.out _).mono ?_
                        rintro e wa ⟨rfl, hba⟩
                        have HI3 := Lib.hid (HI2.out.below hba)
                        clear hba y1 y2 y3 y4 y5 y6 HI2 HCX
                        go_wp2_with fail
                        go_roundw
                        case rel => exact ⟨k + 1, by omega, by go_num, HI3⟩
                        case measure => simp [intOf]; omega
                    · obtain rfl : i = k := by omega
                      go_wp2_with fail
                      go_roundw
                      case rel => exact ⟨i + 1, by omega, by go_num, by rw [HL1.out], HI⟩
                      case measure => simp [intOf]; omega
            · obtain rfl : n = i := by omega
              have hLle : longM l t n ≤ 1 := longM_le HOK.out n
              obtain ⟨L, hL⟩ : ∃ L, L = longM l t n := ⟨_, rfl⟩
              rw [← hL] at hLle ⊢
              clear hL
              have d0 : decide ((L : Int) ≤ 1) = true := by simp; omega
              go_wp2_with fail
              go_ret
              exact ⟨rfl, below_then HB2.out HI.out.1⟩
end Go.Proofs.Ytkceefheeicmbaa
