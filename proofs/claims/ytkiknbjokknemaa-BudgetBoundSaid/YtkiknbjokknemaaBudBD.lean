/-
  WALK of BudgetBound.
-/
import Derived.Test.YtkiknbjokknemaaBudBE
import Derived.Test.YtkiknbjokknemaaBudY
import Derived.Test.YtkiknbjokknemaaBudAD
import Derived.Test.YtkiknbjokknemaaTurnArg
import Derived.Test.YtkiknbjokknemaaBudR
import Derived.Deep.DeepCutAuto
namespace Go.Proofs.Ytkiknbjokknemaa
open Go.RowKit

theorem TurnsAt.up2 {w w' : World} {A : Option Addr} {n c : Nat} {ts : List TurnV} (h : TurnsAt w A n c ts) (hb : Below w.heap.size w w') : TurnsAt w' A n c ts := by
  refine ⟨h.1, h.2.1, h.2.2.1, h.2.2.2.1, fun hn => ?_⟩
  obtain ⟨g, off, hA, hg, hc⟩ := h.2.2.2.2 hn
  refine ⟨g, off, hA, Nat.lt_of_lt_of_le hg hb.size, fun i t hi => ?_⟩
  obtain ⟨c0, c1, c2⟩ := hc i t hi
  exact ⟨(hb.cell (p := ⟨g, off + i * 3, none⟩) hg).trans c0, (hb.cell (p := ⟨g, off + i * 3 + 1, none⟩) hg).trans c1, (hb.cell (p := ⟨g, off + i * 3 + 2, none⟩) hg).trans c2⟩

theorem Step.to_below_at {w w' : World} {o o' : Own} {ts : List Nat} {m : Nat} (h : Step ts w o w' o') (hm : m ≤ w.heap.size) (ht : ∀ k, k < m → o k ∉ ts) : Below m w w' :=
  ⟨h.os, h.tape, h.output, h.size, fun k hk => h.block k (Nat.lt_of_lt_of_le hk hm) (ht k hk)⟩
theorem own1_below (g0 : Nat) : ∀ g, g < g0 → own1 g0 g ∉ [40] := fun g hg => by
  unfold own1; rw [if_neg (Nat.ne_of_lt hg)]; decide

/-- The wants and the places of step j, for turns that are repeated. -/
def wsOf (ts : List TurnV) (j : Nat) : List (Int × Int) := madeTo (ts.getD (j % ts.length) default).bits.toNat (ts.getD (j % ts.length) default).wts.toNat 16
def ksOf (ts : List TurnV) (j : Nat) : Nat := (1 + (ts.getD (j % ts.length) default).k % 4).toNat

theorem wts_zero (w : World) : WtsAt (w.alloc (.cells Try.zeroCells34 34)) w.heap.size (fun _ => noWt) := by
  have e : Try.zeroCells34 = (List.replicate 80 (Value.int .i64 0)).toArray := by kernel_rfl
  refine ⟨_, Blk.new w _ _, by rw [e]; simp, fun i hi => ?_⟩
  have h : ∀ j, j < 80 → Try.zeroCells34[j]? = some (Value.int .i64 0) := fun j hj => by
    rw [e, List.getElem?_toArray, List.getElem?_replicate, if_pos hj]
  exact ⟨h _ (by omega), h _ (by omega), h _ (by omega), h _ (by omega), h _ (by omega)⟩

theorem close_wts {ws : Nat → List (Int × Int)} {ks : Nat → Nat} {wr w9 : World} {op o9 : Own} {g0 i k : Nat} {f9 : Nat → Wt} (h1 : Step [40] wr op w9 o9) (h2 : WtsAt w9 g0 f9) (h3 : ∀ j : Nat, j < 16 → WInv (itemsAt ws ks) ws ks (2 * (j : Int)) (if j < i + 1 then k + 1 else k) (f9 j)) :
    ∃ (oi : Own) (f' : Nat → Wt), Hid (Step [40] wr op w9 oi ∧ WtsAt w9 g0 f' ∧ ∀ j : Nat, j < 16 → WInv (itemsAt ws ks) ws ks (2 * (j : Int)) (if j < i + 1 then k + 1 else k) (f' j)) := ⟨o9, f9, Lib.hid ⟨h1, h2, h3⟩⟩
theorem close_round {ws : Nat → List (Int × Int)} {ks : Nat → Nat} {wr w9 : World} {op oX : Own} {g0 i k : Nat} {fX : Nat → Wt} (hi : i + 1 ≤ 16) (h : Hid (Step [40] wr op w9 oX ∧ WtsAt w9 g0 fX ∧ ∀ j : Nat, j < 16 → WInv (itemsAt ws ks) ws ks (2 * (j : Int)) (if j < i + 1 then k + 1 else k) (fX j))) :
    (∃ (i_1 : Nat) (oi : Own) (f' : Nat → Wt), i_1 ≤ 16 ∧ Value.int .i64 ((i : Int) + 1) = Value.int .i64 (i_1 : Int) ∧ Hid (Step [40] wr op w9 oi ∧ WtsAt w9 g0 f' ∧ ∀ j : Nat, j < 16 → WInv (itemsAt ws ks) ws ks (2 * (j : Int)) (if j < i_1 then k + 1 else k) (f' j))) ∧
      16 - (intOf (Value.int .i64 ((i : Int) + 1))).toNat < 16 - (intOf (Value.int .i64 (i : Int))).toNat :=
  ⟨⟨i + 1, oX, fX, hi, by go_num, h⟩, by simp [intOf]; omega⟩

set_option maxRecDepth 100000 in
set_option maxHeartbeats 16000000 in
theorem BudgetBound_walk (w : World) (A : Option Addr) (n c : Nat) (ts : List TurnV) (hT : TurnsAt w A n c ts) :
    Calls Try.prog 4 #[.slice A n c] w (SaysTo w true) := by
  have hc1 := hT.2.1; have hc2 := hT.2.2.1
  unfold maxLen at hc2
  have hlen : ts.length = n := hT.1
  have HT0 := Lib.hid hT; have HLN := Lib.hid hlen
  clear hT hlen
  by_cases hn0 : n = 0
  · have HN0 := Lib.hid hn0
    have hd : ((n : Int) == 0) = true := by simp [hn0]
    clear hn0
    go_enter Try.func4, Try.ntmps4
    go_wp2_with fail
    refine (awake_any _).mono ?_
    rintro e w1 ⟨rfl, hb1⟩
    have HB1 := Lib.hid hb1; clear hb1
    go_wp2_with fail
    go_ret
    exact ⟨rfl, HB1.out⟩
  · have hd : ((n : Int) == 0) = false := by simp; omega
    by_cases hn12 : 12 < n
    · have hd2 : decide (12 < (n : Int)) = true := by simp; omega
      go_enter Try.func4, Try.ntmps4
      go_wp2_with fail
      refine (awake_any _).mono ?_
      rintro e w1 ⟨rfl, hb1⟩
      have HB1 := Lib.hid hb1; clear hb1
      go_wp2_with fail
      go_ret
      exact ⟨rfl, HB1.out⟩
    · have hd2 : decide (12 < (n : Int)) = false := by simp; omega
      have hnpos : 0 < n := by omega
      have hn0' : ¬ (n : Int) = 0 := by omega
      go_enter Try.func4, Try.ntmps4
      go_wp2_with fail
      refine (awake_any _).mono ?_
      rintro e w1 ⟨rfl, hb1⟩
      have HB1 := Lib.hid hb1; clear hb1
      go_wp2_with fail
      have hw0 := wts_zero w1
      have hbz := HB1.out.alloc HB1.out.size (.cells Try.zeroCells34 34)
      obtain ⟨g0, hg0⟩ : ∃ g0, g0 = w1.heap.size := ⟨_, rfl⟩
      have hgw : w.heap.size ≤ g0 := by rw [hg0]; exact HB1.out.size
      rw [← hg0] at hw0 ⊢
      obtain ⟨w2, hw2⟩ : ∃ w2, w2 = w1.alloc (.cells Try.zeroCells34 34) := ⟨_, rfl⟩
      rw [← hw2] at hw0 hbz ⊢
      have HW0 := Lib.hid hw0; have HBZ := Lib.hid hbz
      obtain ⟨ws, hws⟩ : ∃ ws, ws = wsOf ts := ⟨_, rfl⟩
      obtain ⟨ks, hks⟩ : ∃ ks, ks = ksOf ts := ⟨_, rfl⟩
      have hr : ∀ j, RightP (ws j) := fun j => by rw [hws]; exact madeTo_right _ _ _ (by omega)
      have h16 : ∀ j, (ws j).length ≤ 16 := fun j => by rw [hws]; exact madeTo_len _ _ _
      have hval := itemsAt_valid (ks := ks) hr
      have HWS := Lib.hid hws; have HKS := Lib.hid hks; have HR := Lib.hid hr; have H16 := Lib.hid h16; have HVAL := Lib.hid hval
      clear hg0 hw2 hw0 hbz hws hks hr h16 hval HB1
      go_loopw [3, 5, 6, 7, 8, 9, 10, 11, 13, 14, 15, 16, 18, 20, 21, 22, 23] (fun s3 s5 _ _ _ _ _ _ _ _ _ _ _ _ _ _ _ wr => ∃ (k : Nat) (A3 : Option Addr) (n3 c3 : Nat) (f : Nat → Wt), k ≤ 200 ∧ s5 = .int .i64 k ∧ s3 = .slice A3 n3 c3 ∧ Hid (Below w.heap.size w wr ∧ Sl wr (fun _ => 0) 0 3 A3 n3 c3 (itms (itemsAt ws ks k)) ∧ WtsAt wr g0 f ∧ ∀ i : Nat, i < 16 → WInv (itemsAt ws ks) ws ks (2 * (i : Int)) k (f i))) (fun _ s5 _ _ _ _ _ _ _ _ _ _ _ _ _ _ _ _ => 200 - (intOf s5).toNat)
      case atStart => exact ⟨0, none, 0, 0, fun _ => noWt, by omega, rfl, rfl, Lib.hid ⟨HBZ.out, Sl.nil_ _ _ _ _ _ _ (by decide), HW0.out, fun _ _ => WInv.zero _⟩⟩
      case round => as_aux_lemma =>
        obtain ⟨k, A3, n3, c3, f, hk, rfl, rfl, HK⟩ := hrel
        by_cases hlt : k < 200
        · have hT := HT0.out.up2 HK.out.1
          obtain ⟨κi, hκi⟩ : ∃ κi : Nat, κi = k % n := ⟨_, rfl⟩
          have hκn : κi < n := by rw [hκi]; exact Nat.mod_lt _ hnpos
          have hmod : (k : Int) % (n : Int) = (κi : Int) := by rw [hκi]; simp
          obtain ⟨tv, htv⟩ : ∃ tv, ts[κi]? = some tv := ⟨_, List.getElem?_eq_getElem (by rw [HLN.out]; exact hκn)⟩
          have htg : ts.getD (k % ts.length) default = tv := by rw [HLN.out, ← hκi, List.getD_eq_getElem?_getD, htv]; rfl
          obtain ⟨g, off, hA, hg, hcs⟩ := hT.2.2.2.2 (by omega)
          obtain ⟨c0, c1, c2⟩ := hcs κi tv htv
          obtain ⟨u1, u2, u3, u4, u5, u6⟩ := hT.2.2.2.1 tv (List.mem_of_getElem? htv)
          have hwk : ws k = madeTo tv.bits.toNat tv.wts.toNat 16 := by rw [HWS.out]; unfold wsOf; rw [htg]
          have hkk : ks k = (1 + tv.k % 4).toNat := by rw [HKS.out]; unfold ksOf; rw [htg]
          obtain ⟨bits, weights, kk⟩ := tv
          simp only at c0 c1 c2 u1 u2 u3 u4 u5 u6 hwk hkk
          subst hA
          have hmd := fun W => made2 W bits weights kk u1 u2 u3 u4 u5 u6
          obtain ⟨κ, hκ⟩ : ∃ κ : Nat, κ = ks k := ⟨_, rfl⟩
          have hκk : 1 + kk % 4 = (κ : Int) := by omega
          have hκ1 : 1 ≤ κ := by omega
          have hκ4 : κ ≤ 4 := by omega
          rw [hκk, ← hwk] at hmd
          have hn16 := H16.out k
          obtain ⟨N, hN⟩ : ∃ N, N = (ws k).length := ⟨_, rfl⟩
          rw [← hN] at hmd hn16
          have HMD := Lib.hid hmd; have HN := Lib.hid hN; have HKK := Lib.hid hκ
          clear hmd hN hκ hκk hkk hwk htg hT htv hcs hκi
          go_wp2_with fail
          refine (HMD.out _).mono ?_
          rintro e w3 ⟨B, d, rfl, hb3, hsl3⟩
          have HB3 := Lib.hid hb3; have HW3 := Lib.hid hsl3
          clear hb3 hsl3
          go_wp2_with fail
          have hst := step2 w3 A3 n3 c3 (itemsAt ws ks k) (HK.out.2.1.up HB3.out) B N d (ws k) HW3.out.sl (HVAL.out k) (HR.out k) κ (by omega)
          rw [← HN.out] at hst
          refine hst.mono ?_
          clear hst
          rintro e w4 ⟨A', SA, sc, rfl, hb4, hnx, hse⟩
          obtain ⟨sent, hsent⟩ : ∃ s, s = (stepM (itemsAt ws ks k) (ws k) κ).2 := ⟨_, rfl⟩
          rw [← hsent] at hse ⊢
          obtain ⟨σ, hσ⟩ : ∃ σ, σ = sent.length := ⟨_, rfl⟩
          rw [← hσ] at hse ⊢
          have hσ2 : σ = min κ N := by rw [hσ, hsent, HN.out]; exact sent_len _ _ _
          have hmin := fun W => run_min2 (P := Try.prog) W #[3, 3] 3 (κ : Int) (N : Int) (σ : Int) (by omega)
          have hσN : σ ≤ N := by omega
          have hwt4 : WtsAt w4 g0 f := by
            have h3 := HK.out.2.2.1.step ((Step.refl [] wr (fun _ => 0)).below HB3.out 5) (by simp)
            exact h3.step ((Step.refl [] w3 (fun _ => 0)).below hb4 5) (by simp)
          have HWT := Lib.hid hwt4
          have HW4 := Lib.hid (HW3.out.up hb4); have HNX := Lib.hid hnx; have HSE := Lib.hid hse; have HSN := Lib.hid hsent; have HSG := Lib.hid hσ
          have HB4 := Lib.hid (below_then (below_then HK.out.1 HB3.out) hb4)
          clear hb4 hnx hse hsent hσ hσ2 hwt4 HW3 HB3 HMD
          obtain ⟨cs0, hb0, -⟩ := HWT.out
          have HWr := Lib.hid (HW4.out.apart hb0 (by decide)); have HSr := Lib.hid (HSE.out.apart hb0 (by decide)); have HNr := Lib.hid (HNX.out.apart hb0 (by decide))
          have HO1 := Lib.hid (own1_at g0)
          have HO2 := Lib.hid (own1_below g0)
          obtain ⟨o4, ho4⟩ : ∃ o4, o4 = own1 g0 := ⟨_, rfl⟩
          rw [← ho4] at HWr HSr HNr HO1 HO2
          clear ho4 hb0 HW4 HSE HNX
          go_wp2_with fail
          go_loopw [78, 11, 13] (fun s s11 _ wt => ∃ (p : Nat) (op : Own), p ≤ N ∧ s = .int .i64 p ∧ s11 = .int .i64 (mostOf ((ws k).take p)) ∧ Hid (Step [] w4 o4 wt op)) (fun s _ _ _ => N - (intOf s).toNat)
          case atStart => exact ⟨0, o4, Nat.zero_le _, rfl, rfl, Lib.hid (Step.refl _ _ _)⟩
          case round => as_aux_lemma =>
            obtain ⟨p, op, hp, rfl, rfl, HP⟩ := hrel
            by_cases hlt2 : p < N
            ·
              obtain ⟨⟨a, b⟩, hy⟩ : ∃ y, (ws k)[p]? = some y := ⟨_, List.getElem?_eq_getElem (by rw [← HN.out]; exact hlt2)⟩
              obtain ⟨gw, offw, hBe, -, hgw', cw0, cw1⟩ := (HWr.out.sl.step HP.out (by simp)).want hy
              subst hBe
              simp only at cw0 cw1
              obtain ⟨M, hM⟩ : ∃ M, M = mostOf ((ws k).take p) := ⟨_, rfl⟩
              have hnext : mostOf ((ws k).take (p + 1)) = max M b := by rw [List.take_add_one, hy, hM]; exact mostOf_snoc _ _
              rw [← hM]
              obtain ⟨M', hM'⟩ : ∃ m, m = max M b := ⟨_, rfl⟩
              rw [← hM'] at hnext
              have hmx := fun W => run_max2 (P := Try.prog) W #[3, 3] 3 M b M' hM'
              have HNE := Lib.hid hnext
              clear hnext hM hy hM'
              go_wp2_with fail
              go_roundw
              case rel => exact ⟨p + 1, _, by omega, by go_num, by rw [HNE.out], Lib.hid (HP.out.alloc (.cells #[.int .i64 a, .int .i64 b] 46) 5)⟩
              case measure => simp [intOf]; omega
            · obtain rfl : N = p := by omega
              rw [List.take_of_length_le (by rw [HN.out]; exact Nat.le_refl _)]
              obtain ⟨M, hM⟩ : ∃ M, M = mostOf (ws k) := ⟨_, rfl⟩
              rw [← hM]
              have hM0 : 0 ≤ M := by rw [hM]; exact mostOf_pos _
              have hM16 : M ≤ 16 := by rw [hM]; exact mostOf_le (by omega) fun x hx => ((HR.out k).2.1 x hx).2.2.2
              have HM := Lib.hid hM
              have hog : op g0 = 40 := (HP.out.own g0 HWT.out.lt).trans HO1.out
              have HOG := Lib.hid hog
              have HWT6 := Lib.hid (HWT.out.step HP.out (by simp)); have HWr6 := Lib.hid (HWr.out.step HP.out (by simp)).sl; have HSr6 := Lib.hid (HSr.out.step HP.out (by simp)).sl
              clear hM hog
              go_wp2_with fail
              go_loopw [87, 14, 15, 16, 18, 20, 21, 22, 23] (fun s _ _ _ _ _ _ _ _ wt => ∃ (i : Nat) (oi : Own) (f' : Nat → Wt), i ≤ 16 ∧ s = .int .i64 i ∧ Hid (Step [40] wr op wt oi ∧ WtsAt wt g0 f' ∧ ∀ j : Nat, j < 16 → WInv (itemsAt ws ks) ws ks (2 * (j : Int)) (if j < i then k + 1 else k) (f' j))) (fun s _ _ _ _ _ _ _ _ _ => 16 - (intOf s).toNat)
              case atStart => exact ⟨0, op, f, Nat.zero_le _, rfl, Lib.hid ⟨Step.refl _ _ _, HWT6.out, fun j hj => by rw [if_neg (Nat.not_lt_zero _)]; exact HK.out.2.2.2 j hj⟩⟩
              case round => as_aux_lemma =>
                obtain ⟨i, oi, f', hi, rfl, HI⟩ := hrel
                by_cases hlt3 : i < 16
                · obtain ⟨id, hid⟩ : ∃ id : Int, id = 2 * (i : Int) := ⟨_, rfl⟩
                  have HID := Lib.hid hid.symm
                  clear hid
                  go_wp2_with fail
                  go_loopw [92, 15, 18] (fun s s15 _ wt => ∃ (p : Nat) (oq : Own), p ≤ N ∧ s = .int .i64 p ∧ s15 = .int .i64 (wtOf ((ws k).take p) id) ∧ Hid (Step [] wr oi wt oq)) (fun s _ _ _ => N - (intOf s).toNat)
                  case atStart => exact ⟨0, oi, Nat.zero_le _, rfl, rfl, Lib.hid (Step.refl _ _ _)⟩
                  case round => as_aux_lemma =>
                    obtain ⟨p, oq, hp, rfl, rfl, HQ⟩ := hrel
                    by_cases hlt4 : p < N
                    ·
                      obtain ⟨⟨a, b⟩, hy⟩ : ∃ y, (ws k)[p]? = some y := ⟨_, List.getElem?_eq_getElem (by rw [← HN.out]; exact hlt4)⟩
                      obtain ⟨gw, offw, hBe, -, hgw', cw0, cw1⟩ := ((HWr6.out.step HI.out.1 (by decide)).step HQ.out (by simp)).want hy
                      subst hBe
                      simp only at cw0 cw1
                      obtain ⟨M2, hM2⟩ : ∃ M, M = wtOf ((ws k).take p) id := ⟨_, rfl⟩
                      have hnext : wtOf ((ws k).take (p + 1)) id = if a = id then b else M2 := by rw [List.take_add_one, hy, hM2]; exact wtOf_snoc _ _ _
                      rw [← hM2]
                      have hidd := HID.out
                      clear hM2 hy
                      by_cases hab : a = id
                      · rw [if_pos hab] at hnext
                        have HNE := Lib.hid hnext
                        have hdd : (a == id) = true := by simp [hab]
                        clear hnext hab
                        go_wp2_with fail
                        go_roundw
                        case rel => exact ⟨p + 1, _, by omega, by go_num, by rw [HNE.out], Lib.hid (HQ.out.alloc (.cells #[.int .i64 a, .int .i64 b] 46) 5)⟩
                        case measure => simp [intOf]; omega
                      · rw [if_neg hab] at hnext
                        have HNE := Lib.hid hnext
                        have hdd : (a == id) = false := by simpa using hab
                        clear hnext hab
                        go_wp2_with fail
                        go_roundw
                        case rel => exact ⟨p + 1, _, by omega, by go_num, by rw [HNE.out], Lib.hid (HQ.out.alloc (.cells #[.int .i64 a, .int .i64 b] 46) 5)⟩
                        case measure => simp [intOf]; omega
                    · obtain rfl : N = p := by omega
                      rw [List.take_of_length_le (by rw [HN.out]; exact Nat.le_refl _)]
                      obtain ⟨wt, hwt⟩ : ∃ x, x = wtOf (ws k) id := ⟨_, rfl⟩
                      rw [← hwt]
                      have HWT' := Lib.hid hwt
                      clear hwt
                      go_wp2_with fail
                      go_loopw [106, 16, 20] (fun s s16 _ wt => ∃ (p : Nat) (b : Bool), p ≤ σ ∧ s = .int .i64 p ∧ s16 = .bool b ∧ wt = wr ∧ Hid (b = decide (id ∈ sent.take p))) (fun s _ _ _ => σ - (intOf s).toNat)
                      case atStart => exact ⟨0, false, Nat.zero_le _, rfl, rfl, rfl, Lib.hid (by simp)⟩
                      case round => as_aux_lemma =>
                        obtain ⟨p, b, hp, rfl, rfl, rfl, HS⟩ := hrel
                        by_cases hlt5 : p < σ
                        ·
                          obtain ⟨x, hx⟩ : ∃ y, sent[p]? = some y := ⟨_, List.getElem?_eq_getElem (by rw [← HSG.out]; exact hlt5)⟩
                          obtain ⟨gs, offs, hSe, hgs, cs⟩ := ((HSr6.out.step HI.out.1 (by decide)).step HQ.out (by simp)).int hx
                          subst hSe
                          have hnext : decide (id ∈ sent.take (p + 1)) = (b || (x == id)) := by
                            rw [HS.out, List.take_add_one, hx, Bool.eq_iff_iff]
                            simp only [Option.toList_some, List.mem_append, List.mem_singleton, decide_eq_true_eq, Bool.or_eq_true, beq_iff_eq]
                            constructor
                            · rintro (h | h)
                              · exact .inl h
                              · exact .inr h.symm
                            · rintro (h | h)
                              · exact .inl h
                              · exact .inr h.symm
                          have hidd := HID.out
                          have HNE := Lib.hid hnext
                          clear hnext hx
                          cases b
                          · obtain ⟨b2, hb2⟩ : ∃ b2, (x == id) = b2 := ⟨_, rfl⟩
                            have HB2 := Lib.hid hb2
                            go_wp2_with fail
                            go_roundw
                            case rel => exact ⟨p + 1, b2, by omega, by go_num, by first | rfl | trivial, by first | rfl | trivial, Lib.hid (by rw [HNE.out, HB2.out]; rfl)⟩
                            case measure => simp [intOf]; omega
                          · go_wp2_with fail
                            go_roundw
                            case rel => exact ⟨p + 1, true, by omega, by go_num, by first | rfl | trivial, by first | rfl | trivial, Lib.hid (by rw [HNE.out]; rfl)⟩
                            case measure => simp [intOf]; omega
                        · obtain rfl : σ = p := by omega
                          have hgone : b = decide (id ∈ sent) := by
                            have h := HS.out
                            rwa [List.take_of_length_le (by rw [HSG.out]; exact Nat.le_refl _)] at h
                          have HGONE := Lib.hid hgone
                          have hwq := HI.out.2.1.step HQ.out (by simp)
                          obtain ⟨q0, q1, q2, q3, q4⟩ := hwq.get hlt3
                          have f0 := hwq.frozen (i * 5); have f1 := hwq.frozen (i * 5 + 1); have f2 := hwq.frozen (i * 5 + 2); have f3 := hwq.frozen (i * 5 + 3); have f4 := hwq.frozen (i * 5 + 4)
                          have hgl := hwq.lt
                          have hoq : oq g0 = 40 := (HQ.out.own g0 HI.out.2.1.lt).trans ((HI.out.1.own g0 HWT6.out.lt).trans HOG.out)
                          have HWQ := Lib.hid hwq; have HOQ := Lib.hid hoq
                          clear hgone hwq hoq HS
                          by_cases hskip : wt = 0 ∨ b = true
                          ·
                            have hdd : ((wt == 0) = true) ∨ ((wt == 0) = false ∧ b = true) := by
                              rcases Classical.em (wt = 0) with h | h
                              · exact .inl (by simp [h])
                              · exact .inr ⟨by simp [h], by rcases hskip with h' | h'; exact absurd h' h; exact h'⟩
                            clear hskip
                            rcases hdd with hdd | ⟨hdd, rfl⟩
                            all_goals
                              go_wp2_with fail
                              go_roundw
                              case rel =>
                                refine ⟨i + 1, oq, fun j => if j = i then noWt else f' j, by omega, by go_num, Lib.hid ⟨(HI.out.1.trans (HQ.out.mono (by simp))).put5 (by rw [HOQ.out]; simp) i 0 0 0 0 0, HWQ.out.put hlt3 noWt, fun j hj => ?_⟩⟩
                                by_cases hji : j = i
                                · subst hji
                                  show WInv _ _ _ _ _ (ite _ _ _)
                                  rw [if_pos (Nat.lt_succ_self _), if_pos rfl]
                                  exact WInv.zero _
                                · have := HI.out.2.2 j hj
                                  show WInv _ _ _ _ _ (ite _ _ _)
                                  by_cases hjl : j < i
                                  · rw [if_pos (by omega), if_neg hji]; rwa [if_pos hjl] at this
                                  · rw [if_neg (by omega), if_neg hji]; rwa [if_neg hjl] at this
                              case measure => simp [intOf]; omega
                          · have hw0 : ¬ wt = 0 := fun h => hskip (.inl h)
                            have hb0 : b = false := by cases b; rfl; exact absurd (.inr rfl) hskip
                            subst hb0
                            have hdd : (wt == 0) = false := by simpa using hw0
                            have hmem : (id, wt) ∈ ws k := by rw [HWT'.out] at hw0 ⊢; exact wtOf_mem _ _ hw0
                            have hmb := (HR.out k).2.1 _ hmem
                            simp only at hmb
                            have hnot : id ∉ (stepM (itemsAt ws ks k) (ws k) (ks k)).2 := by
                              rw [← HKK.out, ← HSN.out]
                              have := HGONE.out
                              simpa using this
                            have hinv := HI.out.2.2 i hlt3
                            rw [if_neg (Nat.lt_irrefl _), HID.out] at hinv
                            have hnext := hinv.next (by rfl) (HR.out k) hmem hnot (by rw [← HKK.out]; exact hκ1) (by rw [← HKK.out]; exact hκ4)
                            rw [← HN.out, ← HM.out, ← HKK.out] at hnext
                            obtain ⟨X, hX⟩ : ∃ X, X = f' i := ⟨_, rfl⟩
                            rw [← hX] at q0 q1 q2 q3 q4 hnext
                            obtain ⟨Y, hY⟩ : ∃ Y, Y = X.next wt N M κ := ⟨_, rfl⟩
                            rw [← hY] at hnext
                            have hxs200 : X.s ≤ 200 := by rw [hX]; exact Nat.le_trans hinv.le (Nat.le_of_lt hlt)
                            have hyp : 0 < Y.s := by rw [hY]; exact next_pos _ _ _ _ _
                            have hbo := fun W => (next_ok hnext HVAL.out (by exact hlt) hyp W).1
                            have hbd' := (next_ok hnext HVAL.out (by exact hlt) hyp wr).2
                            obtain ⟨Bd, hBd⟩ : ∃ Bd, Bd = boundI Y.n Y.k Y.least Y.most := ⟨_, rfl⟩
                            rw [← hBd] at hbd'
                            rw [← hBd] at hbo
                            have HNX2 := Lib.hid hnext; have HXX := Lib.hid hX; have HBO := Lib.hid hbo
                            have hrel' : ∀ j : Nat, j < 16 → WInv (itemsAt ws ks) ws ks (2 * (j : Int)) (if j < i + 1 then k + 1 else k) ((fun j => if j = i then Y else f' j) j) := fun j hj => by
                              by_cases hji : j = i
                              · subst hji
                                show WInv _ _ _ _ _ (ite _ _ _)
                                rw [if_pos (Nat.lt_succ_self _), if_pos rfl, HID.out]
                                exact HNX2.out
                              · have := HI.out.2.2 j hj
                                show WInv _ _ _ _ _ (ite _ _ _)
                                by_cases hjl : j < i
                                · rw [if_pos (by omega), if_neg hji]; rwa [if_pos hjl] at this
                                · rw [if_neg (by omega), if_neg hji]; rwa [if_neg hjl] at this
                            have HREL := Lib.hid hrel'
                            clear hX hnext hbo hBd hrel' hinv hskip hw0 hmem hmb hnot hyp
                            obtain ⟨xs, xl, xn, xm, xk⟩ := X
                            simp only at q0 q1 q2 q3 q4 hxs200
                            by_cases hs0 : xs = 0
                            · have hd1 : ((xs : Int) == 0) = true := by simp [hs0]
                              rw [next_zero hs0] at hY
                              have hd2 : decide (Bd < 1) = false := by rw [hY] at hbd'; exact decide_eq_false hbd'
                              have HY := Lib.hid hY
                              have hbo := HBO.out
                              rw [hY] at hbo
                              have HBO2 := Lib.hid (show ∀ W, Calls Try.prog 11 #[.int .i64 N, .int .i64 κ, .int .i64 wt, .int .i64 M] W fun e w' => e = .returned (.tuple #[.int .i64 Bd, .int .i64 0]) ∧ w' = W from hbo)
                              have e1 := fun W => run_min2 (P := Try.prog) W #[3, 3] 3 wt wt wt (Int.min_self _).symm
                              have e2 := fun W => run_max2 (P := Try.prog) W #[3, 3] 3 (N : Int) (N : Int) (N : Int) (Int.max_self _).symm
                              have e3 := fun W => run_max2 (P := Try.prog) W #[3, 3] 3 M M M (Int.max_self _).symm
                              have e4 := fun W => run_min2 (P := Try.prog) W #[3, 3] 3 (κ : Int) (κ : Int) (κ : Int) (Int.min_self _).symm
                              clear hbo hY hbd' hs0
                              have HRL := HREL.out
                              rw [HY.out] at HRL
                              have hp2 := (HWQ.out.put hlt3 ⟨1, wt, N, M, κ⟩).step ((Step.refl [] _ oq).alloc (.cells #[.int .i64 1, .int .i64 wt, .int .i64 N, .int .i64 M, .int .i64 κ] 33) 5) (by simp)
                              have hstf := ((HI.out.1.trans (HQ.out.mono (by simp))).put5 (by rw [HOQ.out]; simp) i 1 wt N M κ).alloc (.cells #[.int .i64 1, .int .i64 wt, .int .i64 N, .int .i64 M, .int .i64 κ] 33) 5
                              have hfin := close_wts hstf hp2 HRL
                              have HFIN := Lib.hid hfin
                              clear hstf hfin
                              have hbox := Blk.new (put5 wr g0 i 1 wt N M κ) 33 #[.int .i64 1, .int .i64 wt, .int .i64 N, .int .i64 M, .int .i64 κ]
                              have hsz : (put5 wr g0 i 1 wt N M κ).heap.size = wr.heap.size := by unfold put5; simp
                              rw [hsz] at hbox
                              have HBX := Lib.hid hbox
                              clear HWT HWr HSr HNr HM HWT6 HWr6 HSr6 HI HQ HGONE HWQ HOQ HNX2 HXX HREL HBO HVAL HR HK HLN HT0 HB4 HY hp2 HRL hbox hsz
                              go_upto_region 43 with (fail)
                              change Code.wp _ _ _ _ ((put5 wr g0 i 1 wt N M κ).alloc (.cells #[.int .i64 1, .int .i64 wt, .int .i64 N, .int .i64 M, .int .i64 κ] 33))
                              obtain ⟨W9, hW9⟩ : ∃ W9, W9 = (put5 wr g0 i 1 wt N M κ).alloc (.cells #[.int .i64 1, .int .i64 wt, .int .i64 N, .int .i64 M, .int .i64 κ] 33) := ⟨_, rfl⟩
                              have hb9 := HBX.out
                              have hf9 := HFIN.out
                              rw [← hW9] at hb9 hf9 ⊢
                              have r0 := hb9.cell 0; have r1 := hb9.cell 1; have r2 := hb9.cell 2; have r3 := hb9.cell 3; have r4 := hb9.cell 4
                              simp only [List.getElem?_toArray, List.getElem?_cons_zero, List.getElem?_cons_succ] at r0 r1 r2 r3 r4
                              have l9 := hb9.lt
                              have HF9 := Lib.hid hf9
                              clear hb9 hf9 hW9 HBX HFIN q0 q1 q2 q3 q4 f0 f1 f2 f3 f4 hgl
                              go_wp2_with (go_at_call 11; refine (HBO2.out _).mono ?_; rintro e w9 ⟨rfl, rfl⟩)
                              obtain ⟨oX, fX, HX⟩ := HF9.out
                              clear HF9
                              have hi1 : i + 1 ≤ 16 := Nat.succ_le_of_lt hlt3
                              exact close_round hi1 HX
                            · have hd1 : ((xs : Int) == 0) = false := by simpa using hs0
                              rw [next_more hs0] at hY
                              obtain ⟨yl, hyl⟩ : ∃ yl, yl = min xl wt := ⟨_, rfl⟩
                              obtain ⟨yn, hyn⟩ : ∃ yn, yn = max xn N := ⟨_, rfl⟩
                              obtain ⟨ym, hym⟩ : ∃ ym, ym = max xm M := ⟨_, rfl⟩
                              obtain ⟨yk, hyk⟩ : ∃ yk, yk = min xk κ := ⟨_, rfl⟩
                              rw [← hyl, ← hyn, ← hym, ← hyk] at hY
                              have hd2 : decide (Bd < (xs : Int) + 1) = false := by rw [hY] at hbd'; exact decide_eq_false hbd'
                              have HY := Lib.hid hY
                              have hbo := HBO.out
                              rw [hY] at hbo
                              have HBO2 := Lib.hid (show ∀ W, Calls Try.prog 11 #[.int .i64 yn, .int .i64 yk, .int .i64 yl, .int .i64 ym] W fun e w' => e = .returned (.tuple #[.int .i64 Bd, .int .i64 0]) ∧ w' = W from hbo)
                              have e1 := fun W => run_min2 (P := Try.prog) W #[3, 3] 3 xl wt yl hyl
                              have e2 := fun W => run_max2 (P := Try.prog) W #[3, 3] 3 (xn : Int) (N : Int) (yn : Int) (by rw [hyn, cast_max])
                              have e3 := fun W => run_max2 (P := Try.prog) W #[3, 3] 3 xm M ym hym
                              have e4 := fun W => run_min2 (P := Try.prog) W #[3, 3] 3 (xk : Int) (κ : Int) (yk : Int) (by rw [hyk, cast_min])
                              clear hbo hY hbd' hs0 hyl hyn hym hyk
                              have HRL := HREL.out
                              rw [HY.out] at HRL
                              have e : ((xs + 1 : Nat) : Int) = (xs : Int) + 1 := by omega
                              have hp := HWQ.out.put hlt3 ⟨xs + 1, yl, yn, ym, yk⟩
                              simp only at hp
                              rw [e] at hp
                              have hp2 := hp.step ((Step.refl [] _ oq).alloc (.cells #[.int .i64 ((xs : Int) + 1), .int .i64 yl, .int .i64 yn, .int .i64 ym, .int .i64 yk] 33) 5) (by simp)
                              clear e hp
                              have hstf := ((HI.out.1.trans (HQ.out.mono (by simp))).put5 (by rw [HOQ.out]; simp) i ((xs : Int) + 1) yl yn ym yk).alloc (.cells #[.int .i64 ((xs : Int) + 1), .int .i64 yl, .int .i64 yn, .int .i64 ym, .int .i64 yk] 33) 5
                              have hfin := close_wts hstf hp2 HRL
                              have HFIN := Lib.hid hfin
                              clear hstf hfin
                              have hbox := Blk.new (put5 wr g0 i ((xs : Int) + 1) yl yn ym yk) 33 #[.int .i64 ((xs : Int) + 1), .int .i64 yl, .int .i64 yn, .int .i64 ym, .int .i64 yk]
                              have hsz : (put5 wr g0 i ((xs : Int) + 1) yl yn ym yk).heap.size = wr.heap.size := by unfold put5; simp
                              rw [hsz] at hbox
                              have HBX := Lib.hid hbox
                              clear HWT HWr HSr HNr HM HWT6 HWr6 HSr6 HI HQ HGONE HWQ HOQ HNX2 HXX HREL HBO HVAL HR HK HLN HT0 HB4 HY hp2 HRL hbox hsz
                              go_upto_region 43 with (fail)
                              change Code.wp _ _ _ _ ((put5 wr g0 i ((xs : Int) + 1) yl yn ym yk).alloc (.cells #[.int .i64 ((xs : Int) + 1), .int .i64 yl, .int .i64 yn, .int .i64 ym, .int .i64 yk] 33))
                              obtain ⟨W9, hW9⟩ : ∃ W9, W9 = (put5 wr g0 i ((xs : Int) + 1) yl yn ym yk).alloc (.cells #[.int .i64 ((xs : Int) + 1), .int .i64 yl, .int .i64 yn, .int .i64 ym, .int .i64 yk] 33) := ⟨_, rfl⟩
                              have hb9 := HBX.out
                              have hf9 := HFIN.out
                              rw [← hW9] at hb9 hf9 ⊢
                              have r0 := hb9.cell 0; have r1 := hb9.cell 1; have r2 := hb9.cell 2; have r3 := hb9.cell 3; have r4 := hb9.cell 4
                              simp only [List.getElem?_toArray, List.getElem?_cons_zero, List.getElem?_cons_succ] at r0 r1 r2 r3 r4
                              have l9 := hb9.lt
                              have HF9 := Lib.hid hf9
                              clear hb9 hf9 hW9 HBX HFIN q0 q1 q2 q3 q4 f0 f1 f2 f3 f4 hgl
                              go_wp2_with (go_at_call 11; refine (HBO2.out _).mono ?_; rintro e w9 ⟨rfl, rfl⟩)
                              obtain ⟨oX, fX, HX⟩ := HF9.out
                              clear HF9
                              have hi1 : i + 1 ≤ 16 := Nat.succ_le_of_lt hlt3
                              exact close_round hi1 HX
                · obtain rfl : i = 16 := by omega
                  go_wp2_with fail
                  go_roundw
                  case rel =>
                    have hst := (HP.out.nil (ts := [40])).trans HI.out.1
                    have hbl := hst.to_below_at HB4.out.size (fun g hg => HO2.out g (Nat.lt_of_lt_of_le hg hgw))
                    have hit : itemsAt ws ks (k + 1) = (stepM (itemsAt ws ks k) (ws k) κ).1 := by rw [HKK.out]; rfl
                    refine ⟨k + 1, A', N, N, f', by omega, by go_num, rfl, Lib.hid ⟨HB4.out.trans hbl, by rw [hit]; exact (HNr.out.sl.step hst (by decide)).old0, HI.out.2.1, fun j hj => ?_⟩⟩
                    have := HI.out.2.2 j hj
                    rwa [if_pos hj] at this
                  case measure => simp [intOf]; omega
        · obtain rfl : k = 200 := by omega
          go_wp2_with fail
          go_ret
          exact ⟨rfl, HK.out.1⟩
end Go.Proofs.Ytkiknbjokknemaa
