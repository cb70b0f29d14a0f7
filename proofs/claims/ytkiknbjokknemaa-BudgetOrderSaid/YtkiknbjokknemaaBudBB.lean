/-
  WALK of BudgetOrder.
-/
import Derived.Test.YtkiknbjokknemaaBudY
import Derived.Test.YtkiknbjokknemaaBudAC
import Derived.Test.YtkiknbjokknemaaBudAD
import Derived.Test.YtkiknbjokknemaaBudBA
import Derived.Test.YtkiknbjokknemaaTurnArg
import Derived.Lib.MinMax
import Derived.Deep.DeepCutAuto
namespace Go.Proofs.Ytkiknbjokknemaa
open Go.RowKit

/-- A list of Turns, later. -/
theorem TurnsAt.up {w w' : World} {A : Option Addr} {n c : Nat} {ts : List TurnV} (h : TurnsAt w A n c ts) (hb : Below w.heap.size w w') : TurnsAt w' A n c ts := by
  refine ⟨h.1, h.2.1, h.2.2.1, h.2.2.2.1, fun hn => ?_⟩
  obtain ⟨g, off, hA, hg, hc⟩ := h.2.2.2.2 hn
  refine ⟨g, off, hA, Nat.lt_of_lt_of_le hg hb.size, fun i t hi => ?_⟩
  obtain ⟨c0, c1, c2⟩ := hc i t hi
  exact ⟨(hb.cell (p := ⟨g, off + i * 3, none⟩) hg).trans c0, (hb.cell (p := ⟨g, off + i * 3 + 1, none⟩) hg).trans c1, (hb.cell (p := ⟨g, off + i * 3 + 2, none⟩) hg).trans c2⟩

/-- The scores of the wants. -/
def scs (l : List It) (ws : List (Int × Int)) : List Int := ws.map fun x => x.2 + sumOf l x.1
/-- The places of the wants. -/
def pls (p : List Nat) (n : Nat) : List Int := (List.range n).map fun i => (plc p i : Int)
theorem scs_get {l : List It} {ws : List (Int × Int)} {i : Nat} {x : Int × Int} (h : ws[i]? = some x) : (scs l ws)[i]? = some (x.2 + sumOf l x.1) := by simp [scs, h]
theorem pls_get {p : List Nat} {n i : Nat} (h : i < n) : (pls p n)[i]? = some (plc p i : Int) := by simp [pls, h]

theorem drew3 (w : World) (a b c : Nat) : ((w.drewN a).drewN b).drewN c = w.drewN (a + b + c) := by rw [World.drewN_drewN, World.drewN_drewN, Nat.add_assoc]

theorem midC_len {A B : List Int} (h : A.length = B.length) (p : Nat) : (midC A B p).length = A.length := by
  unfold midC; simp; omega

set_option maxRecDepth 100000 in
set_option maxHeartbeats 4000000 in
theorem BudgetOrder_walk (w : World) (A : Option Addr) (n c : Nat) (ts : List TurnV) (hT : TurnsAt w A n c ts) :
    Calls Try.prog 5 #[.slice A n c] w (SaysTo w true) := by
  have hc1 := hT.2.1; have hc2 := hT.2.2.1
  unfold maxLen at hc2
  have hlen : ts.length = n := hT.1
  have HT0 := Lib.hid hT; have HLN := Lib.hid hlen
  clear hT hlen
  go_enter Try.func5, Try.ntmps5
  go_wp2_with fail
  refine (awake_any _).mono ?_
  rintro e w1 ⟨rfl, hb1⟩
  have HB1 := Lib.hid hb1; clear hb1
  go_wp2_with fail
  go_loopw [3, 4, 5, 6, 7, 8, 9, 10, 11, 12, 14, 15, 16, 17, 18, 19, 20, 21, 22, 23, 24, 25] (fun s3 s4 _ _ _ _ _ _ _ _ _ _ _ _ _ _ _ _ _ _ _ _ wr => ∃ (k : Nat) (A3 : Option Addr) (n3 c3 : Nat) (its : List It), k ≤ 30 ∧ k ≤ n ∧ s4 = .int .i64 k ∧ s3 = .slice A3 n3 c3 ∧ Hid (Below w.heap.size w wr ∧ Sl wr (fun _ => 0) 0 3 A3 n3 c3 (itms its) ∧ n3 = its.length ∧ ValidP its ∧ ∀ x ∈ its, 0 ≤ x.sc ∧ x.sc ≤ 16 * (k : Int))) (fun _ s4 _ _ _ _ _ _ _ _ _ _ _ _ _ _ _ _ _ _ _ _ _ => 30 - (intOf s4).toNat)
  case atStart => exact ⟨0, none, 0, 0, [], by omega, by omega, rfl, rfl, Lib.hid ⟨HB1.out, Sl.nil_ _ _ _ _ _ _ (by decide), rfl, validNil, fun x hx => absurd hx (by simp)⟩⟩
  case round => as_aux_lemma =>
    obtain ⟨k, A3, n3, c3, its, hk30, hkn, rfl, rfl, HK⟩ := hrel
    by_cases hlt : k < n
    · by_cases hlt2 : k < 30
      · have hd2 : decide ((k : Int) < 30) = true := by simp; omega
        have hT := HT0.out.up HK.out.1
        obtain ⟨tv, htv⟩ : ∃ tv, ts[k]? = some tv := ⟨_, List.getElem?_eq_getElem (by rw [HLN.out]; exact hlt)⟩
        obtain ⟨g, off, hA, hg, hcs⟩ := hT.2.2.2.2 (by omega)
        obtain ⟨c0, c1, c2⟩ := hcs k tv htv
        obtain ⟨u1, u2, u3, u4, u5, u6⟩ := hT.2.2.2.1 tv (List.mem_of_getElem? htv)
        obtain ⟨bits, weights, kk⟩ := tv
        simp only at c0 c1 c2 u1 u2 u3 u4 u5 u6
        subst hA
        have hmd := fun W => made0 W bits weights kk u1 u2 u3 u4 u5 u6
        obtain ⟨κ, hκ⟩ : ∃ κ : Nat, 1 + kk % 4 = (κ : Int) := ⟨(1 + kk % 4).toNat, by omega⟩
        have hκ1 : 1 ≤ κ := by omega
        have hκ4 : κ ≤ 4 := by omega
        rw [hκ] at hmd
        obtain ⟨ws, hws⟩ : ∃ ws, ws = madeTo bits.toNat weights.toNat 16 := ⟨_, rfl⟩
        rw [← hws] at hmd
        have hr : RightP ws := by rw [hws]; exact madeTo_right _ _ _ (by omega)
        have hn16 : ws.length ≤ 16 := by rw [hws]; exact madeTo_len _ _ _
        obtain ⟨N, hN⟩ : ∃ N, N = ws.length := ⟨_, rfl⟩
        rw [← hN] at hmd hn16
        have HMD := Lib.hid hmd; have HR := Lib.hid hr; have HN := Lib.hid hN
        clear hmd hr hws hN hκ hT htv hcs
        go_wp2_with fail
        refine (HMD.out _).mono ?_
        rintro e w2 ⟨B, d, rfl, hb2, hsl2⟩
        have HB2 := Lib.hid hb2; have HW2 := Lib.hid hsl2
        clear hb2 hsl2
        go_wp2_with fail
        have hst := step0 w2 A3 n3 c3 its (HK.out.2.1.up HB2.out) B N d ws HW2.out HK.out.2.2.2.1 HR.out κ (by omega)
        rw [← HN.out] at hst
        refine hst.mono ?_
        clear hst
        rintro e w3 ⟨A', SA, sc, rfl, hb3, hnx, hse⟩
        obtain ⟨σ, hσ⟩ : ∃ σ, σ = (stepM its ws κ).2.length := ⟨_, rfl⟩
        rw [← hσ] at hse ⊢
        have hσ2 : σ = min κ N := by rw [hσ, HN.out]; exact sent_len _ _ _
        have hval : Calls Try.prog 18 #[.slice A' N N] w3 (SaysTo w3 true) := by
          have := Valid_any w3 _ 0 A' N N _ hnx
          rwa [(validB_iff _).2 (stepM_valid HK.out.2.2.2.1 HR.out κ)] at this
        obtain ⟨T0, hT0, hmk⟩ := make_ints N (by omega)
        have HB23 := Lib.hid hb3; have HB3 := Lib.hid (below_then HB2.out hb3); have HNX := Lib.hid hnx; have HSE := Lib.hid hse; have HSI := Lib.hid hσ; have HSI2 := Lib.hid hσ2; have HVAL := Lib.hid hval; have HT0' := Lib.hid hT0
        clear hb3 hnx hse hσ hval hT0
        have hσN : σ ≤ N := by omega
        clear hσ2
        go_wp2_with (go_at_call 18; refine HVAL.out.mono ?_; rintro e w4 ⟨rfl, hb4⟩; have HB4 := Lib.hid hb4; clear hb4)
        clear hmk
        have hrt := Row.fromList (w := w4) (fun _ => 0) 30 3 T0 _ HT0'.out N (by simp) (by unfold maxLen; omega)
        have hst5 := (Step.refl [30] w4 (fun _ => 0)).alloc (.cells T0 3) 30
        obtain ⟨sb, hsb⟩ : ∃ sb, sb = w4.heap.size := ⟨_, rfl⟩
        rw [← hsb] at hrt hst5 ⊢
        obtain ⟨w5, hw5⟩ : ∃ w5, w5 = w4.alloc (.cells T0 3) := ⟨_, rfl⟩
        rw [← hw5] at hrt hst5 ⊢
        obtain ⟨o5, ho5⟩ : ∃ o5, o5 = ext (fun _ => 0) sb 30 := ⟨_, rfl⟩
        rw [← ho5] at hrt hst5
        have HI5 := Lib.hid ((((HK.out.2.1.up HB3.out).up HB4.out)).step hst5 (by decide)); have HW5 := Lib.hid (((HW2.out.up HB23.out).up HB4.out).step hst5 (by decide))
        have HN5 := Lib.hid ((HNX.out.up HB4.out).step hst5 (by decide)); have HS5 := Lib.hid ((HSE.out.up HB4.out).step hst5 (by decide))
        have HB := Lib.hid (below_then HB3.out HB4.out); have ST5 := Lib.hid hst5; have HR5 := Lib.hid hrt
        have HSC := Lib.hid HK.out.2.2.2.2
        have HSRT := Lib.hid (ids_sorted HK.out.2.2.2.1)
        have HN3 := Lib.hid HK.out.2.2.1
        have hn364 : n3 ≤ 64 := by rw [HN3.out]; have := HK.out.2.2.2.1.1.1; simpa using this
        clear hsb hw5 ho5 hst5 hrt HB2 HB3 HB4 HB23 HW2 HNX HSE HVAL HMD
        have hZl : (List.replicate N (0 : Int)).length = (scs its ws).length := by simp [scs, HN.out]
        have HZL := Lib.hid hZl; clear hZl
        go_loopw [73, 11, 12, 14] (fun s _ _ _ wt => ∃ (i : Nat) (oi : Own), i ≤ N ∧ s = .int .i64 i ∧ Hid (Step [30] w5 o5 wt oi ∧ Row wt oi 30 3 1 (some ⟨sb, 0, none⟩) N N (ints (midC (List.replicate N 0) (scs its ws) i)))) (fun s _ _ _ _ => N - (intOf s).toNat)
        case atStart => exact ⟨0, o5, Nat.zero_le _, rfl, Lib.hid ⟨Step.refl _ _ _, by rw [midC_zero]; exact HR5.out⟩⟩
        case round => as_aux_lemma =>
          obtain ⟨i, oi, hi, rfl, HP⟩ := hrel
          by_cases hlt3 : i < N
          ·
            obtain ⟨⟨a, b⟩, hy⟩ : ∃ y, ws[i]? = some y := ⟨_, List.getElem?_eq_getElem (by rw [← HN.out]; exact hlt3)⟩
            obtain ⟨gw, offw, hBe, -, hgw, cw0, cw1⟩ := (HW5.out.step HP.out.1 (by decide)).want hy
            subst hBe
            simp only at cw0 cw1
            have hyb := HR.out.2.1 (a, b) (List.mem_of_getElem? hy)
            obtain ⟨-, -, hb1, hb2⟩ := hyb
            simp only at hb1 hb2
            obtain ⟨hc0, hf0⟩ := HP.out.2.cellAt (k := i) (u := .int .i64 0) (by unfold ints; rw [List.getElem?_map, midC_get HZL.out (a := 0) (by rw [List.getElem?_replicate, if_pos hlt3])]; rfl)
            have htl := HP.out.2.lt rfl
            simp only at htl
            have HY := Lib.hid hy; clear hy
            go_wp2_with fail
            have hrow := (HP.out.2.set_ (k := i) hlt3 (.int .i64 b)).step ((Step.refl [] (wr.setCell ⟨sb, i, none⟩ (.int .i64 b)) oi).alloc (.cells #[.int .i64 a, .int .i64 b] 46) 5) (by simp)
            have hst6 := ((HP.out.1.setCell (p := ⟨sb, i, none⟩) (.inr (by rw [HP.out.2.2 _ rfl]; simp)) (.int .i64 b)).alloc (.cells #[.int .i64 a, .int .i64 b] 46) 5)
            obtain ⟨xb, hxb⟩ : ∃ xb, xb = wr.heap.size := ⟨_, rfl⟩
            have hbw := Blk.new (wr.setCell ⟨sb, i, none⟩ (.int .i64 b)) 46 #[.int .i64 a, .int .i64 b]
            rw [show (wr.setCell ⟨sb, i, none⟩ (.int .i64 b)).heap.size = xb by rw [hxb]; simp] at hbw
            obtain ⟨w6, hw6⟩ : ∃ w6, w6 = (wr.setCell ⟨sb, i, none⟩ (.int .i64 b)).alloc (.cells #[.int .i64 a, .int .i64 b] 46) := ⟨_, rfl⟩
            obtain ⟨o6, ho6⟩ : ∃ o6, o6 = ext oi (wr.setCell ⟨sb, i, none⟩ (.int .i64 b)).heap.size 5 := ⟨_, rfl⟩
            rw [← hw6, ← ho6] at hrow hst6
            rw [← hw6] at hbw
            rw [← hw6, ← hxb]
            have ho5x : o6 xb ∉ [30] := by rw [ho6, ext_ge (by rw [hxb]; simp)]; decide
            rw [ints_set] at hrow
            have HROW := Lib.hid hrow; have HST6 := Lib.hid hst6; have HBW := Lib.hid hbw; have HOX := Lib.hid ho5x
            clear hrow hst6 hbw ho5x hw6 ho6 hxb hc0 hf0
            go_loopw [85, 14] (fun s _ wt => ∃ (p : Nat) (op : Own), p ≤ n3 ∧ s = .int .i64 p ∧ Hid (Step [30] w6 o6 wt op ∧ Row wt op 30 3 1 (some ⟨sb, 0, none⟩) N N (ints ((midC (List.replicate N 0) (scs its ws) i).set i (b + sumOf (its.take p) a))))) (fun s _ _ => n3 - (intOf s).toNat)
            case atStart => exact ⟨0, o6, Nat.zero_le _, rfl, Lib.hid ⟨Step.refl _ _ _, by simpa [sumOf] using HROW.out⟩⟩
            case round => as_aux_lemma =>
              obtain ⟨p, op, hp, rfl, HQ⟩ := hrel
              by_cases hlt4 : p < n3
              · obtain ⟨⟨id, wt, sco⟩, hx⟩ : ∃ y, its[p]? = some y := ⟨_, List.getElem?_eq_getElem (by rw [← HN3.out]; exact hlt4)⟩
                obtain ⟨gi, offi, hAe, hgi, k0, k1, k2⟩ := (HI5.out.step (HST6.out.trans HQ.out.1) (by decide)).item hx
                subst hAe
                simp only at k0 k1 k2
                have hbw := HBW.out.step HQ.out.1 HOX.out
                have j0 := hbw.cell 0; have j1 := hbw.cell 1
                simp only [List.getElem?_toArray, List.getElem?_cons_zero, List.getElem?_cons_succ] at j0 j1
                have hxl := hbw.lt
                have htk : its.take (p + 1) = its.take p ++ [⟨id, wt, sco⟩] := by rw [List.take_add_one, hx]; rfl
                have hsum : sumOf (its.take (p + 1)) a = sumOf (its.take p) a + if id = a then sco else 0 := by rw [htk, sumOf_snoc]
                have hsb := sumOf_bd (l := its.take p) (B := 480) (by omega) (HSRT.out.sublist (List.take_sublist _ _)) (fun x hx => by have := HSC.out x (List.mem_of_mem_take hx); omega) a
                have hscb := HSC.out _ (List.mem_of_getElem? hx)
                simp only at hscb
                obtain ⟨v, hv⟩ : ∃ v, v = b + sumOf (its.take p) a := ⟨_, rfl⟩
                have hv0 : 0 ≤ v := by omega
                have hv1 : v ≤ 1000 := by omega
                obtain ⟨hs0, hs1⟩ := hscb
                have hrow := HQ.out.2
                rw [← hv] at hrow
                have hcell := hrow.cellAt (k := i) (u := .int .i64 v) (by unfold ints; rw [List.getElem?_map, List.getElem?_set_self (by rw [midC_len (by simp [scs, HN.out])]; simp; omega)]; rfl)
                obtain ⟨c0, f0⟩ := hcell
                have htl := hrow.lt rfl
                simp only at htl
                have HV := Lib.hid hv; have HSUM := Lib.hid hsum; have HROWQ := Lib.hid hrow
                clear hv hsum hrow htk hx hbw hsb
                by_cases heq : id = a
                · subst heq
                  rw [if_pos rfl] at HSUM
                  go_wp2_with fail
                  have hst7 := (HQ.out.1.alloc (.cells #[.int .i64 id, .int .i64 wt, .int .i64 sco] 50) 5)
                  have hrow7 := (HROWQ.out.step ((Step.refl [] wr op).alloc (.cells #[.int .i64 id, .int .i64 wt, .int .i64 sco] 50) 5) (by simp))
                  have hbx := Blk.new wr 50 #[.int .i64 id, .int .i64 wt, .int .i64 sco]
                  obtain ⟨wz, hwz⟩ : ∃ wz, wz = wr.alloc (.cells #[.int .i64 id, .int .i64 wt, .int .i64 sco] 50) := ⟨_, rfl⟩
                  obtain ⟨zb, hzb⟩ : ∃ zb, zb = wr.heap.size := ⟨_, rfl⟩
                  obtain ⟨oz, hoz⟩ : ∃ oz, oz = ext op wr.heap.size 5 := ⟨_, rfl⟩
                  rw [← hwz, ← hoz] at hst7 hrow7
                  rw [← hwz, ← hzb] at hbx
                  rw [← hwz, ← hzb]
                  have j2 := hbx.cell 2
                  simp only [List.getElem?_toArray, List.getElem?_cons_zero, List.getElem?_cons_succ] at j2
                  obtain ⟨c0, f0⟩ := hrow7.cellAt (k := i) (u := .int .i64 v) (by unfold ints; rw [List.getElem?_map, List.getElem?_set_self (by rw [midC_len (by simp [scs, HN.out])]; simp; omega)]; rfl)
                  have hzl := hbx.lt
                  have htl := hrow7.lt rfl
                  simp only at htl
                  have HST7 := Lib.hid hst7; have HROW7 := Lib.hid hrow7
                  clear hst7 hrow7 hbx hwz hzb hoz
                  go_still_tail 8, (by kernel_rfl)
                  change wpList _ _ _ _ _ (World.drew _)
                  go_wp2_with fail
                  go_roundw
                  case rel =>
                    refine ⟨p + 1, oz, by omega, by go_num, Lib.hid ⟨(HST7.out.setCell (p := ⟨sb, i, none⟩) (.inr (by rw [HROW7.out.2 _ rfl]; simp)) (.int .i64 (v + sco))).drew, ?_⟩⟩
                    have e : (midC (List.replicate N 0) (scs its ws) i).set i (b + sumOf (its.take (p + 1)) id) = ((midC (List.replicate N 0) (scs its ws) i).set i v).set i (v + sco) := by
                      rw [List.set_set, HSUM.out, HV.out, Int.add_assoc]
                    rw [e, ← ints_set]
                    exact HROW7.out.set_ (k := i) hlt3 (.int .i64 (v + sco))
                  case measure => simp [intOf]; omega
                · have hne : (id == a) = false := by simpa using heq
                  rw [if_neg heq] at HSUM
                  go_wp2_with fail
                  go_roundw
                  case rel =>
                    refine ⟨p + 1, _, by omega, by go_num, Lib.hid ⟨HQ.out.1.alloc (.cells #[.int .i64 id, .int .i64 wt, .int .i64 sco] 50) 5, ?_⟩⟩
                    rw [show b + sumOf (its.take (p + 1)) a = v by rw [HV.out, HSUM.out, Int.add_zero]]
                    exact HROWQ.out.step ((Step.refl [] wr op).alloc (.cells #[.int .i64 id, .int .i64 wt, .int .i64 sco] 50) 5) (by simp)
                  case measure => simp [intOf]; omega
              · obtain rfl : n3 = p := by omega
                go_wp2_with fail
                go_roundw
                case rel =>
                  refine ⟨i + 1, op, by omega, by go_num, Lib.hid ⟨HST6.out.trans HQ.out.1, ?_⟩⟩
                  have h := HQ.out.2
                  rw [List.take_of_length_le (by rw [HN3.out]; exact Nat.le_refl _), midC_set HZL.out (a := 0) (by rw [List.getElem?_replicate, if_pos hlt3]) (scs_get HY.out)] at h
                  exact h
                case measure => simp [intOf]; omega
          · obtain rfl : N = i := by omega
            obtain ⟨T1, hT1, hmk⟩ := make_ints N (by omega)
            go_wp2_with fail
            clear hmk
            have hsc := HP.out.2
            rw [midC_all (by simp) (by simp [scs, HN.out])] at hsc
            have hrt := Row.fromList (w := wr) oi 31 3 T1 _ hT1 N (by simp) (by unfold maxLen; omega)
            have hst7 := (Step.refl [31] wr oi).alloc (.cells T1 3) 31
            obtain ⟨pb, hpb⟩ : ∃ pb, pb = wr.heap.size := ⟨_, rfl⟩
            rw [← hpb] at hrt hst7 ⊢
            obtain ⟨w7, hw7⟩ : ∃ w7, w7 = wr.alloc (.cells T1 3) := ⟨_, rfl⟩
            rw [← hw7] at hrt hst7 ⊢
            obtain ⟨o7, ho7⟩ : ∃ o7, o7 = ext oi pb 31 := ⟨_, rfl⟩
            rw [← ho7] at hrt hst7
            have hstp := (HP.out.1.mono (ts' := [30, 31]) (by simp)).trans (hst7.mono (ts' := [30, 31]) (by simp))
            have HSR7 := Lib.hid (hsc.step hst7 (by decide)); have HW7 := Lib.hid (HW5.out.step hstp (by decide)); have HN7 := Lib.hid (HN5.out.step hstp (by decide)); have HS7 := Lib.hid (HS5.out.step hstp (by decide))
            have ST7 := Lib.hid ((ST5.out.mono (ts' := [30, 31]) (by simp)).trans hstp)
            obtain ⟨P, hP⟩ : ∃ P, P = places its ws κ := ⟨_, rfl⟩
            have hz : ints (List.replicate N 0) = ints (pls (P.take 0) N) := by
              congr 1
              unfold pls
              rw [List.take_zero]
              simp only [plc_nil]
              apply List.ext_getElem?
              intro q
              rw [List.getElem?_replicate, List.getElem?_map]
              by_cases hq : q < N
              · rw [if_pos hq, List.getElem?_range hq]; rfl
              · rw [if_neg hq, List.getElem?_eq_none (by simpa using hq)]; rfl
            rw [hz] at hrt
            have HR7 := Lib.hid hrt; have HP7 := Lib.hid hP
            have hPl : P.length = σ := by rw [hP, places_len, HSI2.out, HN.out]
            have HPL := Lib.hid hPl
            clear hsc hrt hst7 hpb hw7 ho7 hstp hz hP hPl hT1 HP HW5 HN5 HS5 HI5 ST5 HR5
            go_loopw [109, 16, 17, 18, 19] (fun s _ _ _ _ wt => ∃ (j : Nat) (oj : Own), j ≤ σ ∧ s = .int .i64 j ∧ Hid (Step [31] w7 o7 wt oj ∧ Row wt oj 31 3 1 (some ⟨pb, 0, none⟩) N N (ints (pls (P.take j) N)))) (fun s _ _ _ _ _ => σ - (intOf s).toNat)
            case atStart => exact ⟨0, o7, Nat.zero_le _, rfl, Lib.hid ⟨Step.refl _ _ _, HR7.out⟩⟩
            case round => as_aux_lemma =>
              obtain ⟨j, oj, hj, rfl, HJ⟩ := hrel
              by_cases hlt5 : j < σ
              ·
                obtain ⟨i0, hi0⟩ : ∃ i0, P[j]? = some i0 := ⟨_, List.getElem?_eq_getElem (by rw [HPL.out]; exact hlt5)⟩
                have hi0' := hi0
                rw [HP7.out] at hi0'
                obtain ⟨⟨a0, b0⟩, hx0, hs0⟩ := sent_get hi0'
                obtain ⟨gs, offs, hSe, hgs, hcs⟩ := (HS7.out.step HJ.out.1 (by decide)).int hs0
                simp only at hcs
                subst hSe
                have hnm : i0 ∉ P.take j := by
                  have hnd : P.Nodup := by rw [HP7.out]; exact places_nodup _ _ _
                  have := List.nodup_append.1 (show (P.take j ++ P.drop j).Nodup by rw [List.take_append_drop]; exact hnd)
                  intro hmem
                  exact this.2.2 i0 hmem i0 (List.mem_of_getElem? (i := 0) (by rw [List.getElem?_drop]; exact hi0)) rfl
                have htk : P.take (j + 1) = P.take j ++ [i0] := by rw [List.take_add_one, hi0]; rfl
                have hplc : ∀ q, plc (P.take (j + 1)) q = plc (P.take j) q + if q = i0 then j + 1 else 0 := fun q => by
                  rw [htk, plc_snoc hnm, List.length_take, Nat.min_eq_left (by rw [HPL.out]; omega)]
                have HX0 := Lib.hid hx0; have HPLC := Lib.hid hplc
                clear hx0 hs0 hi0 hi0' hnm htk hplc
                go_wp2_with fail
                go_loopw [116, 18, 19] (fun s _ _ wt => ∃ (p : Nat) (op : Own), p ≤ N ∧ s = .int .i64 p ∧ Hid (Step [31] wr oj wt op ∧ Row wt op 31 3 1 (some ⟨pb, 0, none⟩) N N (ints (midC (pls (P.take j) N) (pls (P.take (j + 1)) N) p)))) (fun s _ _ _ => N - (intOf s).toNat)
                case atStart => exact ⟨0, oj, Nat.zero_le _, rfl, Lib.hid ⟨Step.refl _ _ _, by rw [midC_zero]; exact HJ.out.2⟩⟩
                case round => as_aux_lemma =>
                  obtain ⟨p, op, hp, rfl, HQ⟩ := hrel
                  by_cases hlt6 : p < N
                  · obtain ⟨⟨a, b⟩, hy⟩ : ∃ y, ws[p]? = some y := ⟨_, List.getElem?_eq_getElem (by rw [← HN.out]; exact hlt6)⟩
                    obtain ⟨gw, offw, hBe, -, hgw, cw0, cw1⟩ := (HW7.out.step (HJ.out.1.trans HQ.out.1) (by decide)).want hy
                    subst hBe
                    simp only at cw0 cw1
                    have hiff : a = a0 ↔ p = i0 := id_inj HR.out.2.2 hy HX0.out
                    have hle : (pls (P.take j) N).length = (pls (P.take (j + 1)) N).length := by simp [pls]
                    have hca := pls_get (p := P.take j) hlt6
                    have hcb := pls_get (p := P.take (j + 1)) hlt6
                    rw [HPLC.out] at hcb
                    have hub := plc_le (P.take j) p
                    rw [List.length_take] at hub
                    obtain ⟨u, hu⟩ : ∃ u, u = plc (P.take j) p := ⟨_, rfl⟩
                    rw [← hu] at hca hcb hub
                    have hu64 : u ≤ 64 := by omega
                    have HLE := Lib.hid hle; have HCA := Lib.hid hca
                    clear hle hca hu hub hy
                    by_cases heq : a = a0
                    · subst heq
                      rw [if_pos (hiff.1 rfl), show ((u + (j + 1) : Nat) : Int) = (u : Int) + ((j : Int) + 1) by omega] at hcb
                      have HCB := Lib.hid hcb
                      obtain ⟨hc0, hf0⟩ := HQ.out.2.cellAt (k := p) (u := .int .i64 u) (by unfold ints; rw [List.getElem?_map, midC_get HLE.out HCA.out]; rfl)
                      have htl := HQ.out.2.lt rfl
                      simp only at htl
                      clear hcb hiff
                      go_wp2_with fail
                      go_roundw
                      case rel =>
                        refine ⟨p + 1, _, by omega, by go_num, Lib.hid ⟨(HQ.out.1.setCell (p := ⟨pb, p, none⟩) (.inr (by rw [HQ.out.2.2 _ rfl]; simp)) (.int .i64 ((u : Int) + ((j : Int) + 1)))).alloc (.cells #[.int .i64 a, .int .i64 b] 46) 5, ?_⟩⟩
                        rw [← midC_set HLE.out HCA.out HCB.out, ← ints_set]
                        exact (HQ.out.2.set_ (k := p) hlt6 (.int .i64 ((u : Int) + ((j : Int) + 1)))).step ((Step.refl [] (wr.setCell ⟨pb, p, none⟩ (.int .i64 ((u : Int) + ((j : Int) + 1)))) op).alloc (.cells #[.int .i64 a, .int .i64 b] 46) 5) (by simp)
                      case measure => simp [intOf]; omega
                    · have hne : (a == a0) = false := by simpa using heq
                      rw [if_neg (fun h => heq (hiff.2 h)), Nat.add_zero] at hcb
                      have HCB := Lib.hid hcb
                      clear hcb hiff
                      go_wp2_with fail
                      go_roundw
                      case rel =>
                        refine ⟨p + 1, _, by omega, by go_num, Lib.hid ⟨HQ.out.1.alloc (.cells #[.int .i64 a, .int .i64 b] 46) 5, ?_⟩⟩
                        rw [← midC_keep HCA.out HCB.out]
                        exact HQ.out.2.step ((Step.refl [] wr op).alloc (.cells #[.int .i64 a, .int .i64 b] 46) 5) (by simp)
                      case measure => simp [intOf]; omega
                  · obtain rfl : N = p := by omega
                    go_wp2_with fail
                    go_roundw
                    case rel =>
                      refine ⟨j + 1, op, by omega, by go_num, Lib.hid ⟨HJ.out.1.trans HQ.out.1, ?_⟩⟩
                      have h := HQ.out.2
                      rw [midC_all (by simp [pls]) (by simp [pls])] at h
                      exact h
                    case measure => simp [intOf]; omega
              · obtain rfl : σ = j := by omega
                have hpr := HJ.out.2
                rw [List.take_of_length_le (by rw [HPL.out]; exact Nat.le_refl _)] at hpr
                have HPR := Lib.hid hpr; have HSR := Lib.hid (HSR7.out.step HJ.out.1 (by decide)); have HW8 := Lib.hid (HW7.out.step HJ.out.1 (by decide)); have HN8 := Lib.hid (HN7.out.step HJ.out.1 (by decide))
                have ST8 := Lib.hid (ST7.out.trans (HJ.out.1.mono (ts' := [30, 31]) (by simp)))
                have hmin : min (κ : Int) (N : Int) = (σ : Int) := by have := HSI2.out; omega
                clear hpr HSR7 HR7 HW7 HN7 HS7 ST7
                go_wp2_with fail
                go_loopw [137, 20, 21, 22, 23, 24, 25] (fun s s20 _ _ _ _ _ wt => ∃ (q t : Nat) (oq : Own), q ≤ N ∧ t ≤ q ∧ s = .int .i64 q ∧ s20 = .int .i64 t ∧ Hid (Step [] wr oj wt oq ∧ t = cntU P q)) (fun s _ _ _ _ _ _ _ => N - (intOf s).toNat)
                case atStart => exact ⟨0, 0, oj, Nat.zero_le _, Nat.zero_le _, rfl, rfl, Lib.hid ⟨Step.refl _ _ _, rfl⟩⟩
                case round => as_aux_lemma =>
                  obtain ⟨q, t, oq, hq, htq, rfl, rfl, HQ⟩ := hrel
                  by_cases hlt6 : q < N
                  · obtain ⟨⟨a, b⟩, hy⟩ : ∃ y, ws[q]? = some y := ⟨_, List.getElem?_eq_getElem (by rw [← HN.out]; exact hlt6)⟩
                    have hyb := HR.out.2.1 (a, b) (List.mem_of_getElem? hy)
                    obtain ⟨-, -, hb1, hb2⟩ := hyb
                    simp only at hb1 hb2
                    have hgp := gitm_plain (l := its) (B := 480) (by omega) (fun x hx => by have := HSC.out x hx; omega) (x := (a, b)) ⟨hb1, hb2⟩ (by omega)
                    rw [← sumOf_scoreOf HSRT.out] at hgp
                    simp only at hgp
                    obtain ⟨hg1, hg2, hg3⟩ := hgp
                    obtain ⟨S, hS⟩ : ∃ S, S = b + sumOf its a := ⟨_, rfl⟩
                    rw [← hS] at hg1
                    rw [hg1] at hg2 hg3
                    have hnq := stepM_get its ws κ q hy
                    rw [← HP7.out, show gitm its (a, b) = ⟨a, b, S⟩ by rw [← hg1]; rfl] at hnq
                    have hSq : (scs its ws)[q]? = some S := by rw [scs_get hy, hS]
                    have rS := HSR.out.step HQ.out.1 (by simp)
                    have cS := (rS.cellAt (k := q) (u := .int .i64 S) (by unfold ints; rw [List.getElem?_map, hSq]; rfl)).1
                    have lS := rS.lt rfl
                    obtain ⟨U, hU⟩ : ∃ U : Int, U = (plc P q : Int) := ⟨_, rfl⟩
                    have hUq := pls_get (p := P) hlt6
                    rw [← hU] at hUq
                    have rU := HPR.out.step HQ.out.1 (by simp)
                    have cU := (rU.cellAt (k := q) (u := .int .i64 U) (by unfold ints; rw [List.getElem?_map, hUq]; rfl)).1
                    have lU := rU.lt rfl
                    simp only at lS lU
                    clear rS rU
                    have hU0 : 0 ≤ U := by omega
                    have hcnt := cntU_succ P q
                    have HQ1 := HQ.out.2
                    rw [← HQ1] at hcnt
                    obtain ⟨gw, offw, hBe, -, hgw, cw0, cw1⟩ := (HW8.out.step HQ.out.1 (by simp)).want hy
                    simp only at cw0 cw1
                    have HY := Lib.hid hy; have HSS := Lib.hid hS; have HUU := Lib.hid hU; have HSq := Lib.hid hSq
                    obtain ⟨Zs, hZs⟩ : ∃ z : Int, z = if q ∈ P then 0 else S := ⟨_, rfl⟩
                    obtain ⟨t', ht'⟩ : ∃ t' : Nat, t' = cntU P (q + 1) := ⟨_, rfl⟩
                    rw [← ht'] at hcnt
                    have htq' : t' ≤ q + 1 := by rw [ht']; exact cntU_le _ _
                    have hnq' : (stepM its ws κ).1[q]? = some ⟨a, b, Zs⟩ := by
                      rw [hnq, hZs]; split <;> rfl
                    obtain ⟨gn, offn, hAn, hgn, k0, k1, k2⟩ := (HN8.out.step HQ.out.1 (by simp)).item hnq'
                    simp only at k0 k1 k2
                    have hpp := plc_pos (p := P) (n := q)
                    have HCN := Lib.hid hcnt; have HT' := Lib.hid ht'; have HZ := Lib.hid hZs; have HPP := Lib.hid hpp
                    clear hnq hnq' hcnt ht' hZs hpp hUq hy HQ1 hS hU hSq hg1
                    subst hBe hAn
                    obtain ⟨bU, hbU⟩ : ∃ bU : Bool, decide (0 < U) = bU := ⟨_, rfl⟩
                    have hbq : bU = true ↔ q ∈ P := by
                      rw [← hbU, decide_eq_true_iff, ← HPP.out]
                      have := HUU.out
                      omega
                    have HBQ := Lib.hid hbq; clear hbq
                    go_upto_if 150 with (fail)
                    clear hbU
                    go_cut [20, 23] (fun s20 s23 wx => s20 = .int .i64 t' ∧ s23 = .int .i64 Zs ∧ wx = wr.alloc (.cells #[.int .i64 a, .int .i64 b, .int .i64 Zs] 50))
                    case first =>
                      have h1 := HCN.out; have h2 := HZ.out
                      cases bU with
                      | true =>
                        rw [if_pos (HBQ.out.1 rfl)] at h1 h2
                        have H1 := Lib.hid h1; have H2 := Lib.hid h2
                        clear h1 h2
                        go_wp2_with fail
                        go_meet
                        exact ⟨by rw [H1.out]; go_num, by rw [H2.out], rfl⟩
                      | false =>
                        rw [if_neg (fun h => by have := HBQ.out.2 h; cases this)] at h1 h2
                        have H1 := Lib.hid h1; have H2 := Lib.hid h2
                        clear h1 h2
                        go_wp2_with fail
                        go_meet
                        exact ⟨by rw [H1.out]; rfl, by rw [H2.out], rfl⟩
                    case rest =>
                      obtain ⟨rfl, rfl, rfl⟩ := hcut
                      go_wp2_with fail
                      go_quiet (fail)
                      go_wp2_with fail
                      generalize hw9 : (World.drewN (World.alloc wr (.cells _ 50)) nq) = w9
                      obtain ⟨o9, hst9⟩ : ∃ o9, Step [] wr oq w9 o9 := by rw [← hw9]; exact ⟨_, ((Step.refl [] wr oq).alloc _ 5).drewN _⟩
                      have c9S : ∀ m y, ws[m]? = some y → w9.cell? ⟨sb, m, none⟩ = some (.int .i64 (y.2 + sumOf its y.1)) := fun m y h => (((HSR.out.step HQ.out.1 (by simp)).step hst9 (by simp)).cellAt (k := m) (u := .int .i64 (y.2 + sumOf its y.1)) (by unfold ints; rw [List.getElem?_map, scs_get h]; rfl)).1
                      have c9U : ∀ m, m < N → w9.cell? ⟨pb, m, none⟩ = some (.int .i64 (plc P m : Int)) := fun m h => (((HPR.out.step HQ.out.1 (by simp)).step hst9 (by simp)).cellAt (k := m) (u := .int .i64 (plc P m : Int)) (by unfold ints; rw [List.getElem?_map, pls_get h]; rfl)).1
                      have lS9 : sb < w9.heap.size := Nat.lt_of_lt_of_le lS hst9.size
                      have lU9 : pb < w9.heap.size := Nat.lt_of_lt_of_le lU hst9.size
                      have HST9 := Lib.hid (HQ.out.1.trans hst9); have C9S := Lib.hid c9S; have C9U := Lib.hid c9U
                      clear hst9 c9S c9U hw9 lS lU cS cU hgn k0 k1 k2 cw0 cw1 hgw
                      go_loopw [179, 24, 25] (fun s _ _ wt => ∃ (m z : Nat), m ≤ N ∧ s = .int .i64 m ∧ wt = w9.drewN z) (fun s _ _ _ => N - (intOf s).toNat)
                      case atStart => exact ⟨0, 0, Nat.zero_le _, rfl, rfl⟩
                      case round => as_aux_lemma =>
                        obtain ⟨m, z, hm, rfl, rfl⟩ := hrel
                        by_cases hlt7 : m < N
                        · obtain ⟨⟨a2, b2⟩, hy2⟩ : ∃ y, ws[m]? = some y := ⟨_, List.getElem?_eq_getElem (by rw [← HN.out]; exact hlt7)⟩
                          have cS := C9S.out q _ HY.out
                          have cU := C9U.out q hlt6
                          simp only at cS
                          rw [← HSS.out] at cS
                          rw [← HUU.out] at cU
                          have dS := C9S.out m _ hy2
                          have dU := C9U.out m hlt7
                          simp only at dS
                          obtain ⟨S2, hS2⟩ : ∃ S, S = b2 + sumOf its a2 := ⟨_, rfl⟩
                          obtain ⟨U2, hU2⟩ : ∃ U : Int, U = (plc P m : Int) := ⟨_, rfl⟩
                          rw [← hS2] at dS
                          rw [← hU2] at dU
                          have hyb2 := HR.out.2.1 (a2, b2) (List.mem_of_getElem? hy2)
                          have hgp2 := gitm_plain (l := its) (B := 480) (by omega) (fun x hx => by have := HSC.out x hx; omega) (x := (a2, b2)) hyb2.2.2 (by omega)
                          have hyb := HR.out.2.1 (a, b) (List.mem_of_getElem? HY.out)
                          have hgp := gitm_plain (l := its) (B := 480) (by omega) (fun x hx => by have := HSC.out x hx; omega) (x := (a, b)) hyb.2.2 (by omega)
                          rw [← sumOf_scoreOf HSRT.out] at hgp hgp2
                          have hord : (S2 < S ∨ (S = S2 ∧ q < m)) → ¬ (U = 0 ∧ 0 < U2) ∧ ¬ (U2 < U ∧ 0 < U2) := by
                            intro h
                            have := order_ok κ HY.out hy2 (by rw [hgp.1, hgp2.1]; simp only; rw [← hS2, ← HSS.out]; exact h)
                            rw [← HP7.out] at this
                            have e1 := HUU.out
                            omega
                          have hU20 : 0 ≤ U2 := by omega
                          have hqm : q = m → S2 = S := by
                            rintro rfl
                            have h := HY.out.symm.trans hy2
                            injection h with h; injection h with e1 e2
                            rw [hS2, HSS.out, e1, e2]
                          have HORD := Lib.hid hord
                          clear hord hgp hgp2 hyb hyb2 hS2 hU2 hy2
                          by_cases hf : S2 < S ∨ (S = S2 ∧ q < m)
                          · obtain ⟨x1, x2⟩ := HORD.out hf
                            have hqm' : ¬ q = m := fun h => by have := hqm h; omega
                            have hne : ((q : Int) == (m : Int)) = false := by simp; omega
                            have hne2 : ((q : Int) != (m : Int)) = true := by simp; omega
                            have hUc : (U = 0 ∧ U2 = 0) ∨ (0 < U ∧ U2 = 0) ∨ (0 < U ∧ 0 < U2 ∧ ¬ U2 < U) := by omega
                            clear x1 x2 hqm HORD
                            have hUU0 : (U == 0) = true ∧ decide (0 < U2) = false ∧ decide (U2 < U) = false ∨ (U == 0) = false ∧ decide (U2 < U) = true ∧ decide (0 < U2) = false ∨ (U == 0) = false ∧ decide (0 < U2) = true ∧ decide (U2 < U) = false := by
                              rcases hUc with ⟨h1, h2⟩ | ⟨h1, h2⟩ | ⟨h1, h2, h3⟩
                              · exact .inl ⟨by simp [h1], by simp; omega, by simp; omega⟩
                              · exact .inr (.inl ⟨by simp; omega, by simp; omega, by simp; omega⟩)
                              · exact .inr (.inr ⟨by simp; omega, by simp; omega, by simp; omega⟩)
                            clear hUc
                            rcases hf with hf | ⟨hf, hf2⟩
                            · have d1 := decide_eq_true hf
                              rcases hUU0 with ⟨f1, g1, g2⟩ | ⟨f1, g1, g2⟩ | ⟨f1, g1, g2⟩
                              all_goals
                                go_wp2_with fail
                                go_quiet (fail)
                                go_wp2_with fail
                                go_quiet (fail)
                                go_wp2_with fail
                                go_roundw
                                case rel => exact ⟨m + 1, _, by omega, by go_num, rfl⟩
                                case measure => simp [intOf]; omega
                            · have d1 : decide (S2 < S) = false := by simp; omega
                              have d2 : (S == S2) = true := by simp [hf]
                              have d3 := decide_eq_true hf2
                              clear hf
                              rcases hUU0 with ⟨f1, g1, g2⟩ | ⟨f1, g1, g2⟩ | ⟨f1, g1, g2⟩
                              all_goals
                                go_wp2_with fail
                                go_quiet (fail)
                                go_wp2_with fail
                                go_quiet (fail)
                                go_wp2_with fail
                                go_roundw
                                case rel => exact ⟨m + 1, _, by omega, by go_num, rfl⟩
                                case measure => simp [intOf]; omega
                          · have d1 : decide (S2 < S) = false := by simp; omega
                            by_cases hSS2 : S = S2
                            · have d2 : (S == S2) = true := by simp [hSS2]
                              have d3 : decide (q < m) = false := by simp; omega
                              rcases Classical.em (q = m) with hqe | hqe
                              · have hne : ((q : Int) == (m : Int)) = true := by simp [hqe]
                                have hne2 : ((q : Int) != (m : Int)) = false := by simp [hqe]
                                clear hqe hSS2 hqm
                                go_wp2_with fail
                                go_quiet (fail)
                                go_wp2_with fail
                                go_quiet (fail)
                                go_wp2_with fail
                                go_roundw
                                case rel => exact ⟨m + 1, _, by omega, by go_num, rfl⟩
                                case measure => simp [intOf]; omega
                              · have hne : ((q : Int) == (m : Int)) = false := by simp; omega
                                have hne2 : ((q : Int) != (m : Int)) = true := by simp; omega
                                clear hSS2 hqm
                                go_wp2_with fail
                                go_quiet (fail)
                                go_wp2_with fail
                                go_quiet (fail)
                                go_wp2_with fail
                                go_roundw
                                case rel => exact ⟨m + 1, _, by omega, by go_num, rfl⟩
                                case measure => simp [intOf]; omega
                            · have d2 : (S == S2) = false := by simp [hSS2]
                              have hqe : ¬ q = m := fun h => hSS2 (hqm h).symm
                              have hne : ((q : Int) == (m : Int)) = false := by simp; omega
                              have hne2 : ((q : Int) != (m : Int)) = true := by simp; omega
                              clear hSS2 hqm
                              go_wp2_with fail
                              go_quiet (fail)
                              go_wp2_with fail
                              go_quiet (fail)
                              go_wp2_with fail
                              go_roundw
                              case rel => exact ⟨m + 1, _, by omega, by go_num, rfl⟩
                              case measure => simp [intOf]; omega
                        · obtain rfl : N = m := by omega
                          go_wp2_with fail
                          go_roundw
                          case rel => exact ⟨q + 1, t', _, by omega, by omega, by go_num, rfl, Lib.hid ⟨HST9.out.drewN _, HT'.out⟩⟩
                          case measure => simp [intOf]; omega
                  · obtain rfl : N = q := by omega
                    obtain rfl : t = σ := by
                      rw [HQ.out.2, cntU_all (by rw [HP7.out]; exact places_nodup _ _ _) (fun i hi => by rw [HP7.out] at hi; rw [HN.out]; exact mem_places hi), HPL.out]
                    go_wp2_with fail
                    go_roundw
                    case rel =>
                      have hbl := (ST8.out.trans (HQ.out.1.nil (ts := [30, 31]))).to_below (by simp)
                      refine ⟨k + 1, A', N, N, _, by omega, by omega, by go_num, rfl, Lib.hid ⟨below_then HK.out.1 (below_then HB.out hbl), (HN8.out.step HQ.out.1 (by simp)).old0, by rw [stepM_len, HN.out], stepM_valid HK.out.2.2.2.1 HR.out κ, fun x hx => ?_⟩⟩
                      have := stepM_low (B := 16 * (k : Int)) (by omega) (by omega) HSC.out HR.out κ x hx
                      omega
                    case measure => simp [intOf]; omega
      · have hd2 : decide ((k : Int) < 30) = false := by simp; omega
        go_wp2_with fail
        go_ret
        exact ⟨rfl, HK.out.1⟩
    · go_wp2_with fail
      go_ret
      exact ⟨rfl, HK.out.1⟩
end Go.Proofs.Ytkiknbjokknemaa
