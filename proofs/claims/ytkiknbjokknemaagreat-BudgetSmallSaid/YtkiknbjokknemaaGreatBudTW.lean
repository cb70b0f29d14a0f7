/-
  WALK of the reference's Step, over contracts of its Right and Valid.
-/
import Derived.Test.YtkiknbjokknemaaGreatBudTU
namespace Go.Proofs.YtkiknbjokknemaaGreat
open Go.RowKit Go.Maps

def lenV (v : Value) : Nat := match v with
  | .slice _ n _ => n
  | _ => 0

theorem run_min2R {P : Program} (W : World) (ts : Array TypeId) (t : TypeId) (a b m : Int) (hm : m = min a b) : (Builtin.min_ ts t #[.int .i64 a, .int .i64 b]).run P W = .ok (.int .i64 m) W := by
  have e : ∀ x y : Int, (if y < x then y else x) = min x y := by
    intro x y; rw [Int.min_def]; split <;> split <;> omega
  subst hm
  simp [Builtin.min_, Builtin.min2, e]
theorem valid_pair {l : List It} (h : ValidP l) : l.Pairwise fun a b => a.id < b.id := by
  have := h.1.2.2
  rw [List.pairwise_map] at this
  exact this
theorem gitm_at {l : List It} {ws : List (Int × Int)} {j : Nat} {a b : Int} (h : ws[j]? = some (a, b)) : (outs l ws)[j]? = some ⟨a, b, min (scoreOf l a + b) topScore⟩ := by
  unfold outs
  rw [List.getElem?_map, h]
  rfl

theorem zeroAt_nil (O : List It) : zeroAt O [] = O := by
  apply List.ext_getElem?
  intro i
  rw [zeroAt_get]
  cases O[i]? <;> simp
theorem itA_get {Z : List It} {i : Nat} (h : i < Z.length) : Z[i]? = some (itA Z i) := by
  unfold itA
  rw [List.getD_eq_getElem?_getD, List.getElem?_eq_getElem h]; rfl
theorem row_cells {w : World} {o : Own} {τ : Nat} {e : TypeId} {h n c : Nat} {Z : List It} (hR : Row w o τ e 3 (some ⟨h, 0, none⟩) n c (itms Z)) {i : Nat} {x : It} (hx : Z[i]? = some x) (hn : 0 < n) :
    w.cell? ⟨h, i * 3, none⟩ = some (.int .i64 x.id) ∧ w.cell? ⟨h, i * 3 + 1, none⟩ = some (.int .i64 x.wt) ∧ w.cell? ⟨h, i * 3 + 2, none⟩ = some (.int .i64 x.sc) := by
  obtain ⟨k0, k1, k2⟩ := itms_get Z i x hx
  refine ⟨?_, ?_, ?_⟩
  · obtain ⟨h', e, -, -, q, -⟩ := Row.cellG hR k0 hn; injection e with e; injection e with e; subst e; exact q
  · obtain ⟨h', e, -, -, q, -⟩ := Row.cellG hR k1 hn; injection e with e; injection e with e; subst e; exact q
  · obtain ⟨h', e, -, -, q, -⟩ := Row.cellG hR k2 hn; injection e with e; injection e with e; subst e; exact q
theorem best_succ {Z : List It} (p : Nat) : bestG Z (p + 1) = if 0 < (itA Z p).sc ∧ (bestG Z p < 0 ∨ refBefore (itA Z p) (itA Z (bestG Z p).toNat) = true) then (p : Int) else bestG Z p := rfl
theorem best_range {Z : List It} : ∀ p, bestG Z p = -1 ∨ (0 ≤ bestG Z p ∧ bestG Z p < p)
  | 0 => .inl rfl
  | p + 1 => by
    rw [best_succ]
    split
    · right; omega
    · rcases best_range (Z := Z) p with h | h
      · exact .inl h
      · right; omega

theorem ints_app (l m : List Int) : ints (l ++ m) = ints l ++ ints m := by simp [ints]
theorem itms_setsc : ∀ (Z : List It) (b : Nat), b < Z.length → (itms Z).set (b * 3 + 2) (.int .i64 0) = itms (Z.set b { itA Z b with sc := 0 })
  | [], b, h => by simp at h
  | z :: Z, 0, _ => rfl
  | z :: Z, b + 1, h => by
    have ih := itms_setsc Z b (by simpa using h)
    show ([Value.int .i64 z.id, .int .i64 z.wt, .int .i64 z.sc] ++ itms Z).set ((b + 1) * 3 + 2) (.int .i64 0) = _
    rw [List.set_append_right _ _ (by simp; omega), show (b + 1) * 3 + 2 - [Value.int .i64 z.id, .int .i64 z.wt, .int .i64 z.sc].length = b * 3 + 2 by simp; omega, ih]
    rfl

/-- What the reference's Step comes to. -/
def RStepTo (w : World) (l : List It) (ws : List (Int × Int)) (k : Nat) (e : Ending) (w' : World) : Prop := ∃ OA oc SA sc o',
  e = .returned (.tuple #[.slice OA ws.length oc, .slice SA (min k ws.length) sc, .int .i64 0]) ∧ Step [] w (fun _ => 0) w' o' ∧
    Row w' o' 40 72 3 OA ws.length oc (itms (stepM l ws k).1) ∧ Row w' o' 41 3 1 SA (min k ws.length) sc (ints (stepM l ws k).2)

set_option maxRecDepth 100000 in
set_option maxHeartbeats 4000000 in
theorem RStep_of (w : World) (A : Option Addr) (n c : Nat) (l : List It) (hA : Sl w (fun _ => 0) 0 3 A n c (itms l)) (B : Option Addr) (m d : Nat) (ws : List (Int × Int)) (hB : Sl w (fun _ => 0) 0 2 B m d (wnts ws)) (hv : ValidP l) (hr : RightP ws) (k : Nat) (hk : k ≤ 9223372036854775807)
    (hval : ∀ W, Below w.heap.size w W → Calls Tryz.prog 18 #[.slice A n c] W (SaysTo W true)) (hrgt : ∀ W, Below w.heap.size w W → Calls Tryz.prog 16 #[.slice B m d] W (SaysTo W true)) :
    Calls Tryz.prog 11 #[.slice A n c, .slice B m d, .int .i64 k] w (RStepTo w l ws k) := by
  have hn : l.length = n := by have := hA.1; rw [len_itms] at this; omega
  have hm : ws.length = m := by have := hB.1; rw [len_wnts] at this; omega
  have hn64 : n ≤ 64 := by have := hv.1.1; simp at this; omega
  have hm64 : m ≤ 64 := by have := hr.1; omega
  have HA := Lib.hid hA; have HB := Lib.hid hB; have HN := Lib.hid hn; have HM := Lib.hid hm; have HV := Lib.hid hv; have HR := Lib.hid hr; have HVAL := Lib.hid hval; have HRGT := Lib.hid hrgt
  clear hA hB hn hm hv hr hval hrgt
  have hk0 : decide ((k : Int) < 0) = false := by simp
  go_enter Tryz.func11, Tryz.ntmps11
  go_upto_region 4 with (first
    | (go_at_call 18; refine (HVAL.out w (Below.refl _ w)).mono ?_; rintro e w1 ⟨rfl, hb1⟩; have HB1 := Lib.hid hb1; clear hb1)
    | (go_at_call 16; refine (HRGT.out w1 HB1.out).mono ?_; rintro e w2 ⟨rfl, hb2⟩; have HB2 := Lib.hid (HB1.out.trans (hb2.mono HB1.out.size)); clear hb2))
  go_wp2_with fail
  have hst0 : Step [] w (fun _ => 0) w2 (ext (fun _ => 0) w.heap.size 6) := (Step.refl [] w (fun _ => 0)).below HB2.out 6
  have HST0 := Lib.hid hst0
  clear hst0 HVAL HRGT HB1 HB2
  go_loopw [10, 9] (fun i s wr => ∃ (j : Nat) (OA : Option Addr) (oc : Nat) (o' : Own), j ≤ m ∧ i = .int .i64 j ∧ s = .slice OA j oc ∧ Hid (Step [] w (fun _ => 0) wr o' ∧ Row wr o' 40 72 3 OA j oc (itms ((outs l ws).take j)))) (fun i _ _ => m - (intOf i).toNat)
  case atStart => exact ⟨0, none, 0, _, Nat.zero_le _, rfl, rfl, Lib.hid ⟨HST0.out, by simpa [itms] using Row.nil_ w2 _ 40 72 3⟩⟩
  case round =>
    obtain ⟨j, OA, oc, o', hj, rfl, rfl, HJ⟩ := hrel
    by_cases hlt : j < m
    · obtain ⟨x, hx⟩ : ∃ x, ws[j]? = some x := ⟨_, List.getElem?_eq_getElem (by rw [HM.out]; exact hlt)⟩
      obtain ⟨g, off, hAe, -, hg, hc⟩ := (HB.out.step HJ.out.1 (by simp)).2.2.2 (by omega)
      subst hAe
      obtain ⟨i0, i1⟩ := wnts_get ws j x hx
      have c0 := hc _ _ i0; have c1 := hc _ _ i1
      rw [← Nat.add_assoc] at c1
      clear hc i0 i1
      obtain ⟨a, b⟩ := x
      simp only at c0 c1
      have HX := Lib.hid hx; clear hx
      go_upto_region 7 with fail
      go_region
      have st7 : Step [] wr o' (wr.alloc (.cells #[.int .i64 a, .int .i64 b, .int .i64 0] 72)).drew (ext o' wr.heap.size 5) := ((Step.refl [] wr o').alloc _ 5).drew
      have b7 : Blk (wr.alloc (.cells #[.int .i64 a, .int .i64 b, .int .i64 0] 72)).drew wr.heap.size 72 #[.int .i64 a, .int .i64 b, .int .i64 0] := Blk.new wr _ _
      have r7 := HJ.out.2.step st7 (by simp)
      have t7 : ext o' wr.heap.size 5 wr.heap.size = 5 := ext_ge (Nat.le_refl _)
      have s7 := HJ.out.1.trans st7
      clear c0 c1
      generalize (wr.alloc (.cells #[.int .i64 a, .int .i64 b, .int .i64 0] 72)).drew = w7 at st7 b7 r7 s7 ⊢
      generalize ext o' wr.heap.size 5 = o7 at st7 r7 t7 s7
      generalize wr.heap.size = bx at b7 t7 ⊢
      have H7 := Lib.hid (And.intro s7 (And.intro r7 (And.intro t7 b7)))
      clear st7 b7 r7 t7 s7 HJ hg
      go_wp2_with fail
      go_loopw [12] (fun i wq => ∃ (q : Nat), q ≤ n ∧ i = .int .i64 q ∧ Hid (Step [5] w7 o7 wq o7 ∧ Blk wq bx 72 #[.int .i64 a, .int .i64 b, .int .i64 (refScore (l.take q) a)])) (fun i _ => n - (intOf i).toNat)
      case atStart => exact ⟨0, Nat.zero_le _, rfl, Lib.hid ⟨Step.refl _ _ _, H7.out.2.2.2⟩⟩
      case round =>
        obtain ⟨q, hq, rfl, HQ⟩ := hrel
        by_cases hlq : q < n
        · obtain ⟨y, hy⟩ : ∃ y, l[q]? = some y := ⟨_, List.getElem?_eq_getElem (by rw [HN.out]; exact hlq)⟩
          obtain ⟨ga, offa, hAe, -, hga, hca⟩ := ((HA.out.step H7.out.1 (by simp)).step HQ.out.1 (by simp)).2.2.2 (by omega)
          subst hAe
          obtain ⟨k0, k1, k2⟩ := itms_get l q y hy
          have d0 := hca _ _ k0; have d2 := hca _ _ k2
          rw [← Nat.add_assoc] at d2
          have hrs := refScore_snoc hy a
          obtain ⟨yi, yw, ys⟩ := y
          simp only at d0 d2 hrs
          have e0 := HQ.out.2.cell 0; have e2 := HQ.out.2.cell 2; have f2 := HQ.out.2.frozen 2
          simp only [List.getElem?_toArray, List.getElem?_cons_zero, List.getElem?_cons_succ] at e0 e2
          clear hca k0 k1 k2 hy
          by_cases hya : yi = a
          · subst hya
            rw [if_pos rfl] at hrs
            have HRS := Lib.hid hrs; clear hrs
            go_wp2_with fail
            go_quiet (fail)
            go_wp2_with fail
            go_roundw
            case rel =>
              refine ⟨q + 1, by omega, by go_num, Lib.hid ⟨((HQ.out.1.drewN _).setCell (p := ⟨bx, 2, none⟩) (.inr (by simp [H7.out.2.2.1])) _), ?_⟩⟩
              rw [HRS.out]
              exact (HQ.out.2.drewN _).set_ 2 _
            case measure => simp [intOf]; omega
          · rw [if_neg hya] at hrs
            have HRS := Lib.hid hrs; clear hrs
            go_wp2_with fail
            go_quiet (fail)
            go_wp2_with fail
            go_roundw
            case rel =>
              refine ⟨q + 1, by omega, by go_num, Lib.hid ⟨(HQ.out.1.drewN _), ?_⟩⟩
              rw [HRS.out]
              exact HQ.out.2.drewN _
            case measure => simp [intOf]; omega
        · obtain rfl : n = q := by omega
          have hb8 := HQ.out.2
          have hs8 := HQ.out.1
          rw [List.take_of_length_le (by rw [HN.out]; exact Nat.le_refl _), refScore_eq (valid_pair HV.out)] at hb8
          have hbd := scoreOf_bd HV.out.2 a
          have hwb := HR.out.2.1 (a, b) (List.mem_of_getElem? HX.out)
          unfold topScore at hbd
          simp only at hwb
          have hgi := gitm_at (l := l) HX.out
          obtain ⟨sc, hsc⟩ : ∃ sc, sc = scoreOf l a := ⟨_, rfl⟩
          rw [← hsc] at hb8 hbd hgi
          obtain ⟨fs, hfs⟩ : ∃ fs, fs = min (sc + b) 1073741824 := ⟨_, rfl⟩
          have hmin := fun W => run_min2R (P := Tryz.prog) W #[3, 3] 3 (sc + b) 1073741824 fs hfs
          have hgi' : (outs l ws)[j]? = some ⟨a, b, fs⟩ := by rw [hgi, hfs]; rfl
          obtain ⟨hbd0, hbd1⟩ := hbd
          obtain ⟨-, -, hw0, hw1⟩ := hwb
          have HGI := Lib.hid hgi'
          have e1 := hb8.cell 1; have e2 := hb8.cell 2; have f2 := hb8.frozen 2
          simp only [List.getElem?_toArray, List.getElem?_cons_zero, List.getElem?_cons_succ] at e1 e2
          have hb9 := hb8.set_ 2 (.int .i64 fs)
          have hs9 := hs8.setCell (p := ⟨bx, 2, none⟩) (.inr (by simp [H7.out.2.2.1])) (.int .i64 fs)
          simp only [List.setIfInBounds_toArray, List.set_cons_zero, List.set_cons_succ] at hb9
          have g0 := hb9.cell 0; have g1 := hb9.cell 1; have g2 := hb9.cell 2
          simp only [List.getElem?_toArray, List.getElem?_cons_zero, List.getElem?_cons_succ] at g0 g1 g2
          obtain ⟨w9, hw9⟩ : ∃ w9, w9 = wr.setCell ⟨bx, 2, none⟩ (.int .i64 fs) := ⟨_, rfl⟩
          rw [← hw9] at g0 g1 g2 hb9 hs9
          have hr9 := H7.out.2.1.step hs9 (by simp)
          have hst9 := (H7.out.1.nil (ts := [5])).trans hs9
          obtain ⟨oW, stW, rwW, slW, -⟩ := laidI hr9 #[.int .i64 a, .int .i64 b, .int .i64 fs] 3 rfl (by omega) 72
          have RW := Lib.hid rwW; have SW := Lib.hid slW
          have ST := Lib.hid ((hst9.trans (stW.nil (ts := [5]))).forget (ts' := []) (fun t ht _ k hk => by simp at ht; subst ht; simp))
          clear hb8 hs8 hgi hgi' hfs hsc hs9 hb9 hr9 hst9 rwW slW stW HQ
          go_upto_region 14 with fail
          rw [← hw9]
          clear hw9 e1 e2 f2
          go_wp2_with (at_builtin; refine wpList_append_row _ rfl (.tmp 72) (.tmp 74) _ rfl el_ritem oW 40 OA j oc _ rfl RW.out oW 5 _ 1 1 [.int .i64 a, .int .i64 b, .int .i64 fs] rfl SW.out (by simp [Value.oneCell']) (by omega) (by simp only [maxLen]; omega) ?_; intro A' c' w6 hR6 hg6 hat6; have HR6 := Lib.hid hR6; have HG6 := Lib.hid hg6; clear hR6 hg6 hat6)
          go_roundw
          case rel =>
            have st6 := Step.append RW.out HG6.out 40
            refine ⟨j + 1, A', c', _, by omega, by go_num, rfl, Lib.hid ⟨((ST.out.nil (ts := [40])).trans st6).forget (ts' := []) (fun t ht _ k hk => by simp at ht; subst ht; simp), ?_⟩⟩
            rw [List.take_add_one, HGI.out, itms_app]
            exact HR6.out
          case measure => simp [intOf]; omega
    · obtain rfl : m = j := by omega
      have hr0 := HJ.out.2
      rw [List.take_of_length_le (by rw [outs_len, HM.out]; exact Nat.le_refl _)] at hr0
      have hid := outs_id (l := l) HR.out
      have hpos := outs_pos HV.out HR.out
      have hOl : (outs l ws).length = m := by rw [outs_len, HM.out]
      have hend := fun q => step_end l ws k q
      obtain ⟨O, hO⟩ : ∃ O, O = outs l ws := ⟨_, rfl⟩
      rw [← hO] at hr0 hid hpos hOl
      simp only [← hO] at hend
      have H0 := Lib.hid (And.intro HJ.out.1 hr0); have HID := Lib.hid hid; have HPOS := Lib.hid hpos; have HOL := Lib.hid hOl; have HEND := Lib.hid hend
      clear hr0 hid hpos hOl hend hO HJ
      go_wp2_with fail
      go_loopw [13] (fun s wr => ∃ (q : Nat) (SA : Option Addr) (sc : Nat) (o' : Own), q ≤ k ∧ q ≤ m ∧ s = .slice SA q sc ∧ Hid (Step [] w (fun _ => 0) wr o' ∧ Row wr o' 40 72 3 OA m oc (itms (zeroAt O ((order O).take q))) ∧ Row wr o' 41 3 1 SA q sc (ints (((order O).take q).map fun i => (itA O i).id)))) (fun s _ => m - lenV s)
      case atStart =>
        refine ⟨0, none, 0, _, Nat.zero_le _, Nat.zero_le _, rfl, Lib.hid ⟨H0.out.1, ?_, by simpa [ints] using Row.nil_ _ _ 41 3 1⟩⟩
        rw [List.take_zero, zeroAt_nil]
        exact H0.out.2
      case round =>
        obtain ⟨q, SA, sc, oq, hqk, hqm, rfl, HQ⟩ := hrel
        by_cases hlk : q < k
        · by_cases hlm : q < m
          · have hlki : (q : Int) < (k : Int) := by omega
            obtain ⟨b, hb1, hb2⟩ := best_next HID.out HPOS.out (j := q) (by rw [HOL.out]; exact hlm)
            rw [HOL.out] at hb2
            have hbm : b < m := by rw [← HOL.out]; exact mem_order.1 (List.mem_of_getElem? hb1)
            have hzn := zero_next hb1
            have hsn := sent_next hb1
            have hzi := zero_id (out := O) ((order O).take q) (b := b) (by rw [HOL.out]; exact hbm)
            obtain ⟨Z, hZ⟩ : ∃ Z, Z = zeroAt O ((order O).take q) := ⟨_, rfl⟩
            have hZl : Z.length = m := by rw [hZ, zeroAt_len, HOL.out]
            rw [← hZ] at hb2 hzn hzi
            have hrz := HQ.out.2.1
            rw [← hZ] at hrz
            obtain ⟨h, hOA, ho40, hhlt, -, -⟩ := Row.cellG hrz (itms_get Z 0 (itA Z 0) (itA_get (by omega))).1 (by omega)
            subst hOA
            have hcell := fun (i : Nat) (hi : i < m) => row_cells hrz (itA_get (Z := Z) (i := i) (by omega)) (by omega)
            have HC := Lib.hid hcell; have HRZ := Lib.hid hrz; have HZN := Lib.hid hzn; have HSN := Lib.hid hsn; have HZI := Lib.hid hzi; have HB2 := Lib.hid hb2; have HZL := Lib.hid hZl
            clear hcell hrz hzn hsn hzi hb2 hZl hZ hb1
            generalize wr = wo at HQ HC HRZ hhlt ⊢
            clear wr
            have hlt4 : h < wo.heap.size := hhlt
            go_wp2_with fail
            go_loopw [14, 15] (fun bv iv wx => ∃ (p : Nat), p ≤ m ∧ iv = .int .i64 p ∧ bv = .int .i64 (bestG Z p) ∧ Hid (Below wo.heap.size wo wx)) (fun _ iv _ => m - (intOf iv).toNat)
            case atStart => exact ⟨0, Nat.zero_le _, rfl, rfl, Lib.hid (Below.refl _ _)⟩
            case round =>
              obtain ⟨p, hp, rfl, rfl, HBW⟩ := hrel
              by_cases hlp : p < m
              · obtain ⟨c0, c1, c2⟩ := HC.out p hlp
                have c0' := (HBW.out.cell (p := ⟨h, p * 3, none⟩) hlt4).trans c0
                have c1' := (HBW.out.cell (p := ⟨h, p * 3 + 1, none⟩) hlt4).trans c1
                have c2' := (HBW.out.cell (p := ⟨h, p * 3 + 2, none⟩) hlt4).trans c2
                have hbs := best_succ (Z := Z) p
                have hbr := best_range (Z := Z) p
                obtain ⟨zz, hzz⟩ : ∃ z, z = itA Z p := ⟨_, rfl⟩
                rw [← hzz] at c0' c1' c2' hbs
                obtain ⟨za, zb, zs⟩ := zz
                simp only at c0' c1' c2' hbs
                obtain ⟨G, hG⟩ : ∃ G, G = bestG Z p := ⟨_, rfl⟩
                rw [← hG] at hbs hbr ⊢
                clear c0 c1 c2 hzz hG
                by_cases hs0 : 0 < zs
                · by_cases hG0 : G < 0
                  · have hb2 := Lib.hid (show bestG Z (p + 1) = p by rw [hbs, if_pos ⟨hs0, .inl hG0⟩])
                    obtain rfl : G = -1 := by omega
                    go_wp2_with fail
                    refine wp_region_quiet_below (by kernel_rfl) (by kernel_rfl) ?_
                    have v2 := cell_regrown c2'
                    clear hbs hbr
                    repeat (go_big_quiet_step (fail))
                    refine wpQuiet_nil ?_
                    intro _ hw'
                    obtain ⟨⟨dq, osq⟩, hw''⟩ := hw'
                    have HF := Lib.hid (HBW.out.trans ((below_regrown wr dq osq).mono HBW.out.size))
                    subst hw''
                    clear v2
                    go_wp2_with fail
                    go_roundw
                    case rel => exact ⟨p + 1, by omega, by go_num, by rw [hb2.out], HF⟩
                    case measure => simp [intOf]; omega
                  · obtain ⟨g, rfl⟩ : ∃ g : Nat, G = (g : Int) := ⟨G.toNat, by omega⟩
                    have hgm : g < m := by omega
                    obtain ⟨e0, e1, e2⟩ := HC.out g hgm
                    have e0' := (HBW.out.cell (p := ⟨h, g * 3, none⟩) hlt4).trans e0
                    have e1' := (HBW.out.cell (p := ⟨h, g * 3 + 1, none⟩) hlt4).trans e1
                    have e2' := (HBW.out.cell (p := ⟨h, g * 3 + 2, none⟩) hlt4).trans e2
                    rw [show ((g : Int)).toNat = g by omega] at hbs
                    obtain ⟨yy, hyy⟩ : ∃ z, z = itA Z g := ⟨_, rfl⟩
                    rw [← hyy] at e0' e1' e2' hbs
                    obtain ⟨ya, yb, ys⟩ := yy
                    simp only at e0' e1' e2'
                    obtain ⟨R, hR⟩ : ∃ R, R = refBefore ⟨za, zb, zs⟩ ⟨ya, yb, ys⟩ := ⟨_, rfl⟩
                    rw [← hR] at hbs
                    have hbf := fun d os => show Calls Tryz.prog 32 #[.agg #[.int .i64 za, .int .i64 zb, .int .i64 zs], .agg #[.int .i64 ya, .int .i64 yb, .int .i64 ys]] (Go.Sort.grow (redrawn wr d) os) (fun e w'' => e = .returned (.bool R) ∧ ∃ p : Regrown, w'' = Go.Sort.grow (redrawn wr p.d) p.os) from Calls.regrown_of (hR ▸ RBefore_any _ za zb zs ya yb ys)
                    have HBF := Lib.hid hbf; have HBS := Lib.hid hbs
                    have hd1 : decide ((g : Int) < 0) = false := by simp
                    clear hbf hbs hbr e0 e1 e2 hR hyy
                    go_wp2_with fail
                    refine wp_region_quiet_below (by kernel_rfl) (by kernel_rfl) ?_
                    have v0 := cell_regrown c0'; have v1 := cell_regrown c1'; have v2 := cell_regrown c2'
                    have u0 := cell_regrown e0'; have u1 := cell_regrown e1'; have u2 := cell_regrown e2'
                    cases R
                    · repeat (go_big_quiet_step (with_reducible exact HBF.out _ _))
                      refine wpQuiet_nil ?_
                      intro _ hw'
                      obtain ⟨⟨dq, osq⟩, hw''⟩ := hw'
                      have HF := Lib.hid (HBW.out.trans ((below_regrown wr dq osq).mono HBW.out.size))
                      subst hw''
                      clear v0 v1 v2 u0 u1 u2
                      go_wp2_with fail
                      go_roundw
                      case rel => exact ⟨p + 1, by omega, by go_num, by rw [HBS.out, if_neg (by simp)], HF⟩
                      case measure => simp [intOf]; omega
                    · repeat (go_big_quiet_step (with_reducible exact HBF.out _ _))
                      refine wpQuiet_nil ?_
                      intro _ hw'
                      obtain ⟨⟨dq, osq⟩, hw''⟩ := hw'
                      have HF := Lib.hid (HBW.out.trans ((below_regrown wr dq osq).mono HBW.out.size))
                      subst hw''
                      clear v0 v1 v2 u0 u1 u2
                      go_wp2_with fail
                      go_roundw
                      case rel => exact ⟨p + 1, by omega, by go_num, by rw [HBS.out, if_pos ⟨hs0, .inr rfl⟩], HF⟩
                      case measure => simp [intOf]; omega
                · have hb2 := Lib.hid (show bestG Z (p + 1) = G by rw [hbs, if_neg (fun hc => hs0 hc.1)])
                  go_wp2_with fail
                  refine wp_region_quiet_below (by kernel_rfl) (by kernel_rfl) ?_
                  have v2 := cell_regrown c2'
                  have hd1 := decide_eq_false (show ¬ 0 < zs by omega)
                  clear hbs hbr
                  repeat (go_big_quiet_step (fail))
                  refine wpQuiet_nil ?_
                  intro _ hw'
                  obtain ⟨⟨dq, osq⟩, hw''⟩ := hw'
                  have HF := Lib.hid (HBW.out.trans ((below_regrown wr dq osq).mono HBW.out.size))
                  subst hw''
                  clear v2
                  go_wp2_with fail
                  go_roundw
                  case rel => exact ⟨p + 1, by omega, by go_num, by rw [hb2.out], HF⟩
                  case measure => simp [intOf]; omega
              · obtain rfl : m = p := by omega
                rw [HB2.out]
                have stB := (Step.refl [] wo oq).below HBW.out 5
                have hrz8 := HRZ.out.step stB (by simp)
                have hrs8 := HQ.out.2.2.step stB (by simp)
                have hst8 := HQ.out.1.trans stB
                generalize ext oq wo.heap.size 5 = o8 at stB hrz8 hrs8 hst8
                obtain ⟨c0, -, -⟩ := row_cells hrz8 (itA_get (Z := Z) (i := b) (by rw [HZL.out]; exact hbm)) (by omega)
                rw [HZI.out] at c0
                obtain ⟨zi, hzi⟩ : ∃ zi, zi = (itA O b).id := ⟨_, rfl⟩
                rw [← hzi] at c0
                obtain ⟨oW, stW, rwW, slW, hup⟩ := laidI hrs8 #[.int .i64 zi] 1 rfl (by omega) 3
                have hrzW := hup hrz8
                have RW := Lib.hid rwW; have SW := Lib.hid slW; have RZ := Lib.hid hrzW
                have ST := Lib.hid (hst8.trans stW); have HZI2 := Lib.hid hzi
                clear rwW slW hrzW hup stW hst8 hrs8 hrz8 stB hzi HC HRZ HQ
                go_upto_region 24 with (at_builtin; refine wpList_append_row _ rfl (.tmp 115) (.tmp 121) _ rfl el_int oW 41 SA q sc _ rfl RW.out oW 5 _ 1 1 [.int .i64 zi] rfl SW.out (by simp [Value.oneCell']) (by omega) (by simp only [maxLen]; omega) ?_; intro A' c' w6 hR6 hg6 hat6; have HR6 := Lib.hid hR6; have HG6 := Lib.hid hg6; clear hR6 hg6 hat6)
                have st6 := Step.append RW.out HG6.out 41
                have hrz6 := RZ.out.step st6 (by simp)
                obtain ⟨-, -, i2⟩ := itms_get Z b _ (itA_get (Z := Z) (i := b) (by rw [HZL.out]; exact hbm))
                obtain ⟨h', e, ho6, -, d2, f2⟩ := Row.cellG hrz6 i2 (by omega)
                injection e with e; injection e with e; subst e
                have hrz7 := Row.setG (k := b * 3 + 2) hrz6 (by omega) (.int .i64 0)
                have hrs7 := Row.setCell_far (p := ⟨h, b * 3 + 2, none⟩) HR6.out (fun ad had => by intro e; have := HR6.out.2 ad had; rw [e] at this; simp only at this; rw [ho6] at this; exact absurd this (by decide)) (.int .i64 0)
                rw [itms_setsc _ _ (by rw [HZL.out]; exact hbm), HZN.out] at hrz7
                have hst7 := ((((ST.out.nil (ts := [41])).trans st6).mono (ts' := [40, 41]) (by simp)).setCell (p := ⟨h, b * 3 + 2, none⟩) (.inr (by rw [ho6]; simp)) (.int .i64 0)).forget (ts' := []) (fun t ht _ k hk => by simp at ht; rcases ht with rfl | rfl <;> simp)
                have HF := Lib.hid (And.intro hst7 (And.intro hrz7 hrs7))
                clear hst7 hrz7 hrs7 hrz6 st6 i2 c0
                go_wp2_with fail
                go_roundw
                case rel =>
                  refine ⟨q + 1, A', c', _, by omega, by omega, rfl, Lib.hid ⟨HF.out.1, HF.out.2.1, ?_⟩⟩
                  rw [HSN.out, ints_app, ← HZI2.out]
                  exact HF.out.2.2
                case measure => simp [lenV]; omega
          · have hq : q = min k m := by omega
            have he := HEND.out q (by rw [HM.out]; exact hq)
            have HE := Lib.hid he; clear he
            have hlki : (q : Int) < (k : Int) := by omega
            go_wp2_with fail
            go_ret3
            refine ⟨OA, oc, SA, sc, oq, ?_, HQ.out.1, ?_, ?_⟩
            · rw [HM.out, ← hq]; rfl
            · rw [HM.out, HE.out]; exact HQ.out.2.1
            · rw [HM.out, HE.out, ← hq]; exact HQ.out.2.2
        · have hq : q = min k m := by omega
          have he := HEND.out q (by rw [HM.out]; exact hq)
          have HE := Lib.hid he; clear he
          have hlki : ¬ (q : Int) < (k : Int) := by omega
          go_wp2_with fail
          go_ret3
          refine ⟨OA, oc, SA, sc, oq, ?_, HQ.out.1, ?_, ?_⟩
          · rw [HM.out, ← hq]; rfl
          · rw [HM.out, HE.out]; exact HQ.out.2.1
          · rw [HM.out, HE.out, ← hq]; exact HQ.out.2.2
end Go.Proofs.YtkiknbjokknemaaGreat
