/-
  WALK of BudgetRuns.
-/
import Derived.Test.YtkiknbjokknemaaBudAC
namespace Go.Proofs.Ytkiknbjokknemaa
open Go.RowKit

/-- An append whose guard holds. -/
theorem wpList_append_rowW {P : Program} (w : World) {ops : Array Oper} {rest : List Oper} {o : Oper} {a : Act} {Q : Exit → Act → World → Prop} (s x : Operand) (t : TypeId)
    (ho : o.op = .call { callee := .builtin .append, args := #[s, x], argTypes := #[t, t] })
    {e : TypeId} {sz bytes : Nat} {z : Value} (he : Elem P t e sz bytes z) (ow : Own) (τ : Nat)
    (A : Option Addr) (n c : Nat) (xs : List Value) (hs : a.eval s = .slice A n c) (hR : Row w ow τ e sz A n c xs) (o2 : Own) (τ2 : Nat) (B : Option Addr) (m d : Nat) (news : List Value) (hx : a.eval x = .slice B m d) (hS : Sl w o2 τ2 sz B m d news)
    (h1 : ∀ u ∈ news, u.oneCell' = true) (hbytes : (n + m) * bytes ≤ 140737488355328) (h63 : n + m ≤ maxLen) (hw : Region.wanted o (yielded ops a.tmps) = true)
    (h : ∀ A' c' w', Row w' (ext ow w.heap.size τ) τ e sz A' (n + m) c' (xs ++ news) → w.grownBy w' (Value.slice A n c).ownBlock → (∀ ad, A' = some ad → (∃ ad0, A = some ad0 ∧ ad.block = ad0.block) ∨ ad.block = w.heap.size) →
      wpList P ops Q rest (a.put o.dst (.slice A' (n + m) c')) w') : wpList P ops Q (o :: rest) a w := by
  refine wpList_step fun K hK => ?_
  rw [if_pos hw]
  obtain ⟨A', c', w', hrun, h2, h3, h4⟩ := run_append_row (P := P) w o.type he ow τ hR hS h1 hbytes h63
  unfold Oper.wp execOp
  simp only [ho, resolve, invoke, builtin, Sem.run_bind, Sem.run_pure, Result.andThen_ok, List.map_toArray, List.map_cons, List.map_nil, hs, hx, hrun]
  exact hK _ _ (h A' c' w' h2 h3 h4)

theorem Sl.item {w : World} {o : Own} {τ : Nat} {A : Option Addr} {n c : Nat} {l : List It} (h : Sl w o τ 3 A n c (itms l)) {i : Nat} {x : It} (hx : l[i]? = some x) :
    ∃ g off, A = some ⟨g, off, none⟩ ∧ g < w.heap.size ∧ w.cell? ⟨g, off + i * 3, none⟩ = some (.int .i64 x.id) ∧ w.cell? ⟨g, off + i * 3 + 1, none⟩ = some (.int .i64 x.wt) ∧ w.cell? ⟨g, off + i * 3 + 2, none⟩ = some (.int .i64 x.sc) := by
  have hi := (List.getElem?_eq_some_iff.1 hx).1
  have hn : n = l.length := by have := h.1; rw [len_itms] at this; omega
  obtain ⟨g, off, hA, -, hg, hc⟩ := h.2.2.2 (by omega)
  obtain ⟨i0, i1, i2⟩ := itms_get l i x hx
  exact ⟨g, off, hA, hg, hc _ _ i0, by rw [Nat.add_assoc]; exact hc _ _ i1, by rw [Nat.add_assoc]; exact hc _ _ i2⟩

set_option maxRecDepth 100000 in
set_option maxHeartbeats 4000000 in
theorem BudgetRuns_walk (w : World) (fb fw fk tb tw tk a b : Int) (hfb0 : 0 ≤ fb) (hfb1 : fb ≤ 65535) (hfw0 : 0 ≤ fw) (hfw1 : fw ≤ 18446744073709551615) (hfk0 : 0 ≤ fk) (hfk1 : fk ≤ 255) (htb0 : 0 ≤ tb) (htb1 : tb ≤ 65535) (htw0 : 0 ≤ tw) (htw1 : tw ≤ 18446744073709551615) (htk0 : 0 ≤ tk) (htk1 : tk ≤ 255)
    (ha0 : 0 ≤ a) (ha1 : a ≤ 255) (hb0 : 0 ≤ b) (hb1 : b ≤ 255) :
    Calls Try.prog 6 #[.agg #[.int .u16 fb, .int .u64 fw, .int .u8 fk], .agg #[.int .u16 tb, .int .u64 tw, .int .u8 tk], .int .u8 a, .int .u8 b] w (SaysTo w true) := by
  obtain ⟨n, hn⟩ : ∃ n : Nat, a % 20 = (n : Int) := ⟨(a % 20).toNat, by omega⟩
  obtain ⟨m, hm⟩ : ∃ m : Nat, b % 20 = (m : Int) := ⟨(b % 20).toNat, by omega⟩
  have hn20 : n < 20 := by omega
  have hm20 : m < 20 := by omega
  obtain ⟨nm, hnm⟩ : ∃ nm : Nat, nm = n + m := ⟨_, rfl⟩
  have hnmI : (n : Int) + (m : Int) = (nm : Int) := by omega
  have hm1 := fun W => made0 W tb tw tk htb0 htb1 htw0 htw1 htk0 htk1
  have hm2 := fun W => made0 W fb fw fk hfb0 hfb1 hfw0 hfw1 hfk0 hfk1
  obtain ⟨κ, hκ⟩ : ∃ κ : Nat, 1 + tk % 4 = (κ : Int) := ⟨(1 + tk % 4).toNat, by omega⟩
  obtain ⟨κ2, hκ2⟩ : ∃ κ : Nat, 1 + fk % 4 = (κ : Int) := ⟨(1 + fk % 4).toNat, by omega⟩
  have hκ4 : κ ≤ 4 := by omega
  have hκ24 : κ2 ≤ 4 := by omega
  rw [hκ] at hm1
  rw [hκ2] at hm2
  obtain ⟨ws, hws⟩ : ∃ ws, ws = madeTo tb.toNat tw.toNat 16 := ⟨_, rfl⟩
  obtain ⟨vs, hvs⟩ : ∃ vs, vs = madeTo fb.toNat fw.toNat 16 := ⟨_, rfl⟩
  rw [← hws] at hm1
  rw [← hvs] at hm2
  have hr : RightP ws := by rw [hws]; exact madeTo_right _ _ _ (by omega)
  have hr2 : RightP vs := by rw [hvs]; exact madeTo_right _ _ _ (by omega)
  have hn16 : ws.length ≤ 16 := by rw [hws]; exact madeTo_len _ _ _
  have hv16 : vs.length ≤ 16 := by rw [hvs]; exact madeTo_len _ _ _
  obtain ⟨N, hN⟩ : ∃ N, N = ws.length := ⟨_, rfl⟩
  obtain ⟨M, hM⟩ : ∃ M, M = vs.length := ⟨_, rfl⟩
  rw [← hN] at hm1 hn16
  rw [← hM] at hm2 hv16
  have HMD := Lib.hid hm1; have HMD2 := Lib.hid hm2; have HR := Lib.hid hr; have HR2 := Lib.hid hr2; have HNM := Lib.hid hnm; have HN := Lib.hid hN; have HM := Lib.hid hM
  clear hm1 hm2 hr hr2 hws hvs hκ hκ2 hnm hN hM
  go_enter Try.func6, Try.ntmps6
  go_wp2_with fail
  refine (awake_any _).mono ?_
  rintro e w1 ⟨rfl, hb1'⟩
  obtain ⟨W0, hW0⟩ : ∃ W0, W0 = ((w.alloc (.cells #[.int .u16 fb, .int .u64 fw, .int .u8 fk] 41)).alloc (.cells #[.int .u16 tb, .int .u64 tw, .int .u8 tk] 41)) := ⟨_, rfl⟩
  have k1 := (Blk.new w 41 #[.int .u16 fb, .int .u64 fw, .int .u8 fk]).alloc (.cells #[.int .u16 tb, .int .u64 tw, .int .u8 tk] 41)
  have k2 := Blk.new (w.alloc (.cells #[.int .u16 fb, .int .u64 fw, .int .u8 fk] 41)) 41 #[.int .u16 tb, .int .u64 tw, .int .u8 tk]
  have hst0 := ((Below.refl _ w).alloc (Nat.le_refl _) (.cells #[.int .u16 fb, .int .u64 fw, .int .u8 fk] 41)).alloc (by simp) (.cells #[.int .u16 tb, .int .u64 tw, .int .u8 tk] 41)
  rw [World.size_alloc] at k2
  rw [← hW0] at k1 k2 hst0 hb1'
  have t1 := k1.up hb1'
  have t2 := k2.up hb1'
  have HB := Lib.hid (below_then hst0 hb1'); have T1 := Lib.hid t1
  have c0 := t2.cell 0; have c1 := t2.cell 1; have c2 := t2.cell 2
  simp only [List.getElem?_toArray, List.getElem?_cons_zero, List.getElem?_cons_succ] at c0 c1 c2
  clear hst0 t1 t2 k1 k2 hW0 hb1'
  go_wp2_with fail
  refine (HMD.out w1).mono ?_
  rintro e w2 ⟨A, c, rfl, hb2, hsw⟩
  have SW := Lib.hid hsw
  have d := T1.out.up hb2
  have HB := Lib.hid (below_then HB.out hb2)
  clear hb2
  clear c0 c1 c2 hsw
  have c0 := d.cell 0; have c1 := d.cell 1; have c2 := d.cell 2
  simp only [List.getElem?_toArray, List.getElem?_cons_zero, List.getElem?_cons_succ] at c0 c1 c2
  clear d
  go_wp2_with fail
  refine (HMD2.out w2).mono ?_
  rintro e w3 ⟨A2, cc2, rfl, hb3, hsv⟩
  have SV := Lib.hid hsv
  have SW := Lib.hid (SW.out.up hb3); have HB := Lib.hid (below_then HB.out hb3)
  clear hb3
  clear c0 c1 c2 hsv HMD HMD2 T1
  go_wp2_with fail
  refine (step0 w3 none 0 0 [] (Sl.nil_ _ _ _ _ _ _ (by decide)) _ _ _ vs SV.out validNil HR2.out κ2 (by omega)).mono ?_
  rintro e w4 ⟨AS, SA, sc, rfl, hb4, hss, -⟩
  obtain ⟨S0, hS0⟩ : ∃ S0, S0 = (stepM [] vs κ2).1 := ⟨_, rfl⟩
  rw [← hS0] at hss
  have hv0 : ValidP S0 := by rw [hS0]; exact stepM_valid validNil HR2.out κ2
  have hl0 : S0.length = M := by rw [hS0, HM.out]; exact stepM_len _ _ _
  rw [← HM.out] at hss ⊢
  have SS := Lib.hid hss; have HV0 := Lib.hid hv0; have HL0 := Lib.hid hl0
  have SW := Lib.hid (SW.out.up hb4); have HB := Lib.hid (below_then HB.out hb4)
  clear hb4
  clear hss hv0 hl0 hS0 SV HR2
  have hnm40 : nm ≤ 40 := by have := HNM.out; omega
  go_wp2_with fail
  refine (run0 w4 _ _ _ S0 SS.out _ _ _ ws SW.out HV0.out HR.out κ (by omega) nm (by omega)).mono ?_
  rintro e w5 ⟨AW, cW, LA, lc, rfl, hb5, hwh, hall⟩
  have hqb : (runM S0 ws κ nm).1.length ≤ 64 := by have := (runM_valid HV0.out HR.out κ nm).1.1; simpa using this
  obtain ⟨q, hq⟩ : ∃ q, q = (runM S0 ws κ nm).1.length := ⟨_, rfl⟩
  rw [← hq] at hwh hqb ⊢
  obtain ⟨X, hX⟩ : ∃ X, X = (runM S0 ws κ nm).1 := ⟨_, rfl⟩
  rw [← hX] at hwh
  have WH := Lib.hid hwh; have ALL := Lib.hid hall; have HQ := Lib.hid hq; have HX := Lib.hid hX
  clear hq hX
  have SW := Lib.hid (SW.out.up hb5); have SS := Lib.hid (SS.out.up hb5); have HB := Lib.hid (below_then HB.out hb5)
  clear hb5
  clear hwh hall
  go_wp2_with fail
  refine (run0 w5 _ _ _ S0 SS.out _ _ _ ws SW.out HV0.out HR.out κ (by omega) n (by omega)).mono ?_
  rintro e w6 ⟨AO, cO, LS, ls, rfl, hb6, hon, hso⟩
  have ONE := Lib.hid hon; have SOM := Lib.hid hso
  have SW := Lib.hid (SW.out.up hb6); have SS := Lib.hid (SS.out.up hb6); have WH := Lib.hid (WH.out.up hb6); have ALL := Lib.hid (ALL.out.up hb6); have HB := Lib.hid (below_then HB.out hb6)
  clear hb6
  clear hon hso
  go_wp2_with fail
  refine (run0 w6 _ _ _ _ ONE.out _ _ _ ws SW.out (runM_valid HV0.out HR.out κ n) HR.out κ (by omega) m (by omega)).mono ?_
  rintro e w7 ⟨AT, cT, LR, lr, rfl, hb7, htw, hre⟩
  have hadd := runM_add S0 ws κ n m
  rw [← HNM.out] at hadd
  have h1 := congrArg Prod.fst hadd
  simp only at h1
  rw [← h1, ← HQ.out, ← HX.out] at htw
  rw [← h1, ← HQ.out]
  have TWO := Lib.hid htw; have RES := Lib.hid hre; have HADD := Lib.hid hadd
  have SW := Lib.hid (SW.out.up hb7); have SS := Lib.hid (SS.out.up hb7); have WH := Lib.hid (WH.out.up hb7); have ALL := Lib.hid (ALL.out.up hb7); have SOM := Lib.hid (SOM.out.up hb7); have HB := Lib.hid (below_then HB.out hb7)
  clear hb7
  clear htw hre hadd ONE h1
  go_wp2_with fail
  refine (items0 w7 _ _ _ X TWO.out (by omega)).mono ?_
  rintro e w8 ⟨BT, dT, rfl, hb8, hit⟩
  have IT := Lib.hid hit
  have SW := Lib.hid (SW.out.up hb8); have SS := Lib.hid (SS.out.up hb8); have WH := Lib.hid (WH.out.up hb8); have ALL := Lib.hid (ALL.out.up hb8); have SOM := Lib.hid (SOM.out.up hb8); have RES := Lib.hid (RES.out.up hb8); have HB := Lib.hid (below_then HB.out hb8)
  clear hb8
  clear hit TWO
  go_wp2_with fail
  refine (same0 w8 AW BT q cW q dT X WH.out IT.out).mono ?_
  rintro e w9 ⟨rfl, hb9⟩
  have SW := Lib.hid (SW.out.up hb9); have SS := Lib.hid (SS.out.up hb9); have WH := Lib.hid (WH.out.up hb9); have ALL := Lib.hid (ALL.out.up hb9); have SOM := Lib.hid (SOM.out.up hb9); have RES := Lib.hid (RES.out.up hb9); have HB := Lib.hid (below_then HB.out hb9)
  clear hb9
  clear IT
  obtain ⟨v1, r1, l1, e1⟩ := SOM.out
  obtain ⟨v2, r2, l2, e2⟩ := RES.out
  have stE := (Step.refl [] w9 (fun _ => 0)).alloc (.cells #[] 42) 50
  have rE := Row.made (w := w9) (fun _ => 0) 50 42 1 #[] 0 rfl (by decide) 0 (Nat.le_refl _)
  have hv1l : v1.length = n := by rw [l1, runM_len]
  have hv2l : v2.length = m := by rw [l2, runM_len]
  have one1 : ∀ u ∈ v1, u.oneCell' = true := fun u hu => by
    obtain ⟨i, hi⟩ := List.mem_iff_getElem?.1 hu
    obtain ⟨S, len, cap, x, rfl, -⟩ := e1 i u hi
    rfl
  have one2 : ∀ u ∈ v2, u.oneCell' = true := fun u hu => by
    obtain ⟨i, hi⟩ := List.mem_iff_getElem?.1 hu
    obtain ⟨S, len, cap, x, rfl, -⟩ := e2 i u hi
    rfl
  have s1 := r1.sl.step stE (by simp)
  have s2 := r2.sl.step stE (by simp)
  have R1E := Lib.hid rE; have S1 := Lib.hid s1; have S2 := Lib.hid s2; have ON1 := Lib.hid one1; have ON2 := Lib.hid one2; have STE := Lib.hid stE; have E1 := Lib.hid e1; have E2 := Lib.hid e2; have L1 := Lib.hid l1; have L2 := Lib.hid l2; have V1 := Lib.hid hv1l; have V2 := Lib.hid hv2l
  clear r1 l1 e1 r2 l2 e2 stE rE one1 one2 s1 s2 SOM RES hv1l hv2l
  go_wp2_with (first
    | (at_builtin; refine wpList_append_rowW _ (.tmp 111) (.tmp 112) _ rfl el_ints _ 50 _ 0 0 [] rfl R1E.out _ 0 LS n ls v1 rfl S1.out ON1.out (by omega) (by simp only [maxLen]; omega) rfl ?_; intro A1 d1 wa hRa hga hata; rw [Nat.zero_add] at hRa; have sta := Step.append R1E.out hga 50; have RA := Lib.hid hRa; have STA := Lib.hid (STE.out.nil (ts := [50]) |>.trans sta); have S2A := Lib.hid (S2.out.step sta (by simp)); clear hRa hga hata sta)
    | (at_builtin; refine wpList_append_rowW _ (.tmp 113) (.tmp 114) _ rfl el_ints _ 50 A1 n d1 _ rfl RA.out _ 0 LR m lr v2 rfl S2A.out ON2.out (by omega) (by simp only [maxLen]; omega) rfl ?_; intro A2' d2 wb hRb hgb hatb; have stb := Step.append RA.out hgb 50; have RB := Lib.hid hRb; have STB := Lib.hid (STA.out.trans stb); clear hRb hgb hatb stb))
  have hbb := (STB.out.forget (ts' := []) (fun t ht _ k hk => by simp at ht; subst ht; simp)).to_below (by simp)
  have hjoin := ListsAt.join (vs := [] ++ v1) (us := v2) RB.out (by simpa using L1.out) L2.out (by simpa using E1.out) E2.out STB.out (by simp)
  have h2 := congrArg Prod.snd HADD.out
  simp only at h2
  have HJ := Lib.hid hjoin; have H2 := Lib.hid h2
  have SW := Lib.hid (SW.out.up hbb); have SS := Lib.hid (SS.out.up hbb); have WH := Lib.hid (WH.out.up hbb); have ALL := Lib.hid (ALL.out.up hbb); have HB := Lib.hid (below_then HB.out hbb)
  clear hbb
  clear hjoin h2 STB STA RA RB S1 S2 S2A ON1 ON2 STE E1 E2 L1 L2 V1 V2 R1E
  refine (lists0 wb LA A2' nm lc (n + m) d2 _ _ H2.out ALL.out HJ.out).mono ?_
  rintro e wc ⟨rfl, hbc⟩
  have SW := Lib.hid (SW.out.up hbc); have SS := Lib.hid (SS.out.up hbc); have WH := Lib.hid (WH.out.up hbc); have ALL := Lib.hid (ALL.out.up hbc); have HB := Lib.hid (below_then HB.out hbc)
  clear hbc
  clear HJ H2 HADD
  go_wp2_with fail
  go_loopw [122, 27, 29] (fun i s _ wt => ∃ (t : Nat) (An : Option Addr) (ln cn : Nat), t ≤ nm ∧ i = .int .i64 t ∧ s = .slice An ln cn ∧ Hid (Below wc.heap.size wc wt ∧ ln = (runM S0 ws κ t).1.length ∧ Sl wt (fun _ => 0) 0 3 An ln cn (itms (runM S0 ws κ t).1))) (fun i _ _ _ => nm - (intOf i).toNat)
  case atStart => exact ⟨0, _, _, _, Nat.zero_le _, rfl, rfl, Lib.hid ⟨Below.refl _ _, HL0.out.symm, SS.out⟩⟩
  case round => as_aux_lemma =>
    obtain ⟨t, An, ln, cn, ht, rfl, rfl, HT⟩ := hrel
    by_cases hlt : t < nm
    · have hx := runM_get S0 ws κ nm t hlt
      obtain ⟨g, S, cap, hLe, hcl, hS⟩ := (ALL.out.up HT.out.1).get hx
      subst hLe
      obtain ⟨y, hy⟩ : ∃ y, y = (stepM (runM S0 ws κ t).1 ws κ).2 := ⟨_, rfl⟩
      have hstp := step0 wr An ln cn _ HT.out.2.2 _ _ _ ws (SW.out.up HT.out.1) (runM_valid HV0.out HR.out κ t) HR.out κ (by omega)
      rw [← hy] at hcl hS hstp
      obtain ⟨yl, hyl⟩ : ∃ yl, yl = y.length := ⟨_, rfl⟩
      rw [← hyl] at hcl hS hstp
      have HSS := Lib.hid hS; have HSTP := Lib.hid hstp
      clear hx hS hstp hy hyl
      go_wp2_with fail
      refine HSTP.out.mono ?_
      rintro e wd ⟨A', SA', sc', rfl, hbd, hi', hsent⟩
      have HI := Lib.hid hi'; have HSE := Lib.hid hsent; have HW2 := Lib.hid (HSS.out.up hbd); have HBD := Lib.hid (below_then HT.out.1 hbd)
      clear hi' hsent hbd
      go_wp2_with fail
      refine (ints0 wd _ _ _ _ _ _ y HSE.out HW2.out).mono ?_
      rintro e we ⟨rfl, hbe⟩
      have HI := Lib.hid (HI.out.up hbe); have HBE := Lib.hid (below_then HBD.out hbe)
      clear hbe
      go_wp2_with fail
      go_roundw
      case rel => exact ⟨t + 1, A', _, _, by omega, by go_num, rfl, Lib.hid ⟨HBE.out, (run_items_len _ _ _ _).symm, HI.out⟩⟩
      case measure => simp [intOf]; omega
    · obtain rfl : nm = t := by omega
      have HBX := Lib.hid (below_then HB.out HT.out.1)
      have SW2 := Lib.hid (SW.out.up HT.out.1); have SS2 := Lib.hid (SS.out.up HT.out.1); have WH2 := Lib.hid (WH.out.up HT.out.1)
      have hnow := HT.out.2.2
      have hlnq : ln = q := by rw [HT.out.2.1, ← HQ.out]
      rw [hlnq, ← HX.out] at hnow
      rw [hlnq]
      have NOW := Lib.hid hnow
      clear hnow hlnq
      have hNI : ((N : Nat) : Int) = (N : Int) := rfl
      go_wp2_with fail
      refine (run0 wr _ _ _ S0 SS2.out _ _ _ ws SW2.out HV0.out HR.out N (by omega) n (by omega)).mono ?_
      rintro e wd ⟨AF, cF, LE, le, rfl, hbd, hfu, hea⟩
      have FU := Lib.hid hfu; have EA := Lib.hid hea
      have SW3 := Lib.hid (SW2.out.up hbd); have SS3 := Lib.hid (SS2.out.up hbd); have WH3 := Lib.hid (WH2.out.up hbd); have NOW3 := Lib.hid (NOW.out.up hbd); have HB3 := Lib.hid (below_then HBX.out hbd)
      clear hfu hea hbd
      go_wp2_with fail
      refine (run0 wd _ _ _ S0 SS3.out _ _ _ ws SW3.out HV0.out HR.out 0 (by omega) n (by omega)).mono ?_
      rintro e we ⟨AZ, cZ, LZ, lz, rfl, hbe, hno, hnb⟩
      have NO := Lib.hid hno; have NB := Lib.hid hnb
      have WH4 := Lib.hid (WH3.out.up hbe); have NOW4 := Lib.hid (NOW3.out.up hbe); have FU4 := Lib.hid (FU.out.up hbe); have EA4 := Lib.hid (EA.out.up hbe); have HB4 := Lib.hid (below_then HB3.out hbe)
      clear hno hnb hbe
      obtain ⟨fl, hfl⟩ : ∃ fl, fl = (runM S0 ws N n).1.length := ⟨_, rfl⟩
      obtain ⟨zl, hzl⟩ : ∃ zl, zl = (runM S0 ws 0 n).1.length := ⟨_, rfl⟩
      have hfl64 : fl ≤ 64 := by rw [hfl]; have := (runM_valid HV0.out HR.out N n).1.1; simpa using this
      have hzl64 : zl ≤ 64 := by rw [hzl]; have := (runM_valid HV0.out HR.out 0 n).1.1; simpa using this
      rw [← hfl] at FU4
      rw [← hzl] at NO
      rw [← hfl, ← hzl]
      have HFL := Lib.hid hfl; have HZL := Lib.hid hzl
      clear hfl hzl
      go_wp2_with fail
      refine (items0 we _ _ _ X NOW4.out (by omega)).mono ?_
      rintro e wf ⟨BT2, dT2, rfl, hbf, hit⟩
      have WH5 := Lib.hid (WH4.out.up hbf); have FU5 := Lib.hid (FU4.out.up hbf); have EA5 := Lib.hid (EA4.out.up hbf); have NO5 := Lib.hid (NO.out.up hbf); have NB5 := Lib.hid (NB.out.up hbf); have HB5 := Lib.hid (below_then HB4.out hbf); have IT := Lib.hid hit
      clear hbf hit
      go_wp2_with fail
      refine (same0 wf _ _ _ _ _ _ X WH5.out IT.out).mono ?_
      rintro e wg ⟨rfl, hbg⟩
      have FU6 := Lib.hid (FU5.out.up hbg); have EA6 := Lib.hid (EA5.out.up hbg); have NO6 := Lib.hid (NO5.out.up hbg); have NB6 := Lib.hid (NB5.out.up hbg); have HB6 := Lib.hid (below_then HB5.out hbg)
      clear hbg IT WH5 WH4 WH3 WH2 FU4 FU5 EA4 EA5 NO NO5 NB NB5 NOW NOW3 NOW4 HB3 HB4 HB5
      go_wp2_with fail
      go_loopw [175, 37] (fun i _ wt => ∃ t : Nat, t ≤ n ∧ i = .int .i64 t ∧ Hid (Below wg.heap.size wg wt)) (fun i _ _ => n - (intOf i).toNat)
      case atStart => exact ⟨0, Nat.zero_le _, rfl, Lib.hid (Below.refl _ _)⟩
      case round => as_aux_lemma =>
        obtain ⟨t, ht, rfl, HWT⟩ := hrel
        by_cases hlt2 : t < n
        · obtain ⟨x, hx⟩ : ∃ x, (runM S0 ws N n).2[t]? = some x := ⟨_, List.getElem?_eq_getElem (by rw [runM_len]; exact hlt2)⟩
          obtain ⟨y, hy⟩ : ∃ x, (runM S0 ws 0 n).2[t]? = some x := ⟨_, List.getElem?_eq_getElem (by rw [runM_len]; exact hlt2)⟩
          have hxl := sent_lens2 hx
          have hyl := sent_lens2 hy
          rw [← HN.out, Nat.min_self] at hxl
          rw [Nat.zero_min] at hyl
          obtain ⟨g1, S1, c1, e1, k1, -⟩ := (EA6.out.up HWT.out).get hx
          obtain ⟨g2, S2, c2, e2, k2, -⟩ := (NB6.out.up HWT.out).get hy
          subst e1; subst e2
          rw [hxl] at k1
          rw [hyl] at k2
          clear hx hy hxl hyl
          go_wp2_with fail
          go_roundw
          case rel => exact ⟨t + 1, by omega, by go_num, HWT⟩
          case measure => simp [intOf]; omega
        · obtain rfl : n = t := by omega
          have HB7 := Lib.hid (below_then HB6.out HWT.out)
          have FU7 := Lib.hid (FU6.out.up HWT.out); have NO7 := Lib.hid (NO6.out.up HWT.out)
          go_wp2_with fail
          go_loopw [197, 38] (fun i _ wt => ∃ t : Nat, t ≤ fl ∧ i = .int .i64 t ∧ Hid (Below wr.heap.size wr wt)) (fun i _ _ => fl - (intOf i).toNat)
          case atStart => exact ⟨0, Nat.zero_le _, rfl, Lib.hid (Below.refl _ _)⟩
          case round => as_aux_lemma =>
            obtain ⟨t, ht, rfl, HBT⟩ := hrel
            by_cases hlt3 : t < fl
            · rcases Nat.eq_zero_or_pos n with h0 | h0
              · obtain ⟨x, hx⟩ : ∃ x, (runM S0 ws N n).1[t]? = some x := ⟨_, List.getElem?_eq_getElem (by rw [← HFL.out]; exact hlt3)⟩
                obtain ⟨g1, off1, e1, hg1, k0, k1, k2⟩ := (FU7.out.up HBT.out).item hx
                subst e1
                have hd0 : decide ((0 : Int) < (n : Int)) = false := by simp; omega
                have hd0' : decide (0 < n) = false := by simp; omega
                clear hx h0
                go_wp2_with fail
                go_quiet (fail)
                go_wp2_with fail
                go_roundw
                case rel => exact ⟨t + 1, by omega, by go_num, Lib.hid (Below.drewK (HBT.out.alloc HBT.out.size _) _)⟩
                case measure => simp [intOf]; omega
              · obtain ⟨n', hn'⟩ : ∃ n', n = n' + 1 := ⟨n - 1, by omega⟩
                have hflN : fl = N := by rw [HFL.out, hn', run_items_len]; exact HN.out.symm
                obtain ⟨⟨a', b'⟩, hy⟩ : ∃ y, ws[t]? = some y := ⟨_, List.getElem?_eq_getElem (by rw [← HN.out]; omega)⟩
                have hfx : (runM S0 ws N n).1[t]? = some ⟨a', b', 0⟩ := by
                  rw [hn', runM_succ, HN.out]
                  exact full_zero hy
                obtain ⟨sc2, hz1, hz2⟩ := run_items_get (l := S0) 0 n' t hy
                rw [← hn'] at hz1 hz2
                have hz2 := hz2 HV0.out HR.out
                have hns := none_score HV0.out HR.out hy n (by omega)
                rw [hz2] at hns
                have hbb' := HR.out.2.1 _ (List.mem_of_getElem? hy)
                simp only at hns hbb' hz1
                obtain ⟨P, hP⟩ : ∃ P, (n : Int) * b' = P := ⟨_, rfl⟩
                have hlN : t < N := by omega
                have hP0 : 0 ≤ P := by rw [← hP]; exact Int.mul_nonneg (by omega) (by omega)
                have hP1 : P ≤ 20 * 16 := by rw [← hP]; exact Int.mul_le_mul (by omega) (by omega) (by omega) (by omega)
                rw [hP] at hns
                obtain ⟨g1, off1, e1, hg1, k0, k1, k2⟩ := (FU7.out.up HBT.out).item hfx
                obtain ⟨g2, off2, e2, hg2, j0, j1, j2⟩ := (NO7.out.up HBT.out).item hz1
                have hzlN : t < zl := by rw [HZL.out]; exact (List.getElem?_eq_some_iff.1 hz1).1
                subst e1; subst e2
                simp only at k0 k1 k2 j0 j1 j2
                have hd0 : decide ((0 : Int) < (n : Int)) = true := by simp; omega
                have hd1 : decide (sc2 < P) = false := by simp; omega
                clear hfx hz1 hz2 hy hbb' hn' hflN
                go_wp2_with fail
                go_quiet (fail)
                go_wp2_with fail
                go_roundw
                case rel => exact ⟨t + 1, by omega, by go_num, Lib.hid (Below.drewK (HBT.out.alloc HBT.out.size _) _)⟩
                case measure => simp [intOf]; omega
            · obtain rfl : fl = t := by omega
              go_wp2_with fail
              go_ret
              exact ⟨rfl, below_then HB7.out HBT.out⟩
end Go.Proofs.Ytkiknbjokknemaa
