/-
  WALKS of the reference's numbers.
-/
import Derived.Test.YtkceefheeicmbaaRatD
namespace Go.Proofs.Ytkceefheeicmbaa
open Go.RowKit

set_option maxRecDepth 100000 in
set_option maxHeartbeats 2000000 in
theorem refExpected_mid (w : World) (d E : Int) (h0 : 0 ≤ d) (h1 : d ≤ 800) (hE : E = expM d) : Calls Try.prog 15 #[.int .i64 d] w fun e w' => e = .returned (.int .i64 E) ∧ Below w.heap.size w w' := by
  have HE := Lib.hid hE; clear hE
  have hbk := Blk.new w 3 tabV
  have hbw : Below w.heap.size w (w.alloc (.cells tabV 3)) := (Below.refl _ _).alloc (Nat.le_refl _) _
  go_enter Try.func15, Try.ntmps15
  go_wp2_with fail
  change Code.wp _ _ _ _ (w.alloc (.cells tabV 3))
  obtain ⟨W, hW⟩ : ∃ W, W = w.alloc (.cells tabV 3) := ⟨_, rfl⟩
  rw [← hW] at hbk hbw ⊢
  obtain ⟨g, hg⟩ : ∃ g, g = w.heap.size := ⟨_, rfl⟩
  have HBW := Lib.hid hbw
  rw [← hg] at hbk ⊢
  have HBK := Lib.hid hbk
  have hgl := hbk.lt
  have hc16 := hbk.cell 16
  rw [tabV_get 16 (by omega)] at hc16
  have hc16' : W.cell? ⟨g, 16, none⟩ = some (.int .i64 1014) := hc16
  clear hW hg hbw hbk hc16
  go_loop [4] (fun i => ∃ k : Nat, k ≤ 16 ∧ 50 * (k : Int) ≤ d ∧ i = .int .i64 k) (fun i => 16 - (intOf i).toNat)
  case atStart => exact ⟨0, by omega, by omega, rfl⟩
  case round =>
    obtain ⟨i, hi, hd, rfl⟩ := hrel
    by_cases hlt : i < 16
    · by_cases hin : d < 50 * (i : Int) + 50
      · obtain ⟨p, hp⟩ : ∃ p : Int, p = d - 50 * (i : Int) := ⟨_, rfl⟩
        have hdec := decide_eq_true hin
        have hv : E = tb i + p * (tb (i + 1) - tb i) / 50 := by
          rw [HE.out]
          unfold expM
          rw [if_neg (by omega), if_neg (by omega), if_neg (by omega)]
          unfold expP expAt
          rw [show (d / 50).toNat = i by omega, show d % 50 = p by omega, Int.mul_comm]
        obtain ⟨x0, hx0⟩ : ∃ x, x = tb i := ⟨_, rfl⟩
        obtain ⟨x1, hx1⟩ : ∃ x, x = tb (i + 1) := ⟨_, rfl⟩
        obtain ⟨b1, b2, b3, b4, b5⟩ := tb_bd hlt
        have g0 := (HBK.out.cell i).trans (tabV_get i (by omega))
        have g1 := (HBK.out.cell (i + 1)).trans (tabV_get (i + 1) (by omega))
        rw [← hx0] at hv b1 b2 b3 b5 g0
        rw [← hx1] at hv b3 b4 b5 g1
        have hp0 : 0 ≤ p := by omega
        have hp1 : p < 50 := by omega
        have m0 : 0 ≤ p * (x1 - x0) := Int.mul_nonneg hp0 (by omega)
        have m1 : p * (x1 - x0) ≤ 50 * 73 := Int.mul_le_mul (by omega) (by omega) (by omega) (by omega)
        have hq : (p * (x1 - x0)).tdiv 50 = p * (x1 - x0) / 50 := Int.tdiv_eq_ediv_of_nonneg m0
        have HV := Lib.hid hv; have HPE := Lib.hid hp.symm
        clear hv hx0 hx1 hp
        go_wp2_with fail
        have e1 : IntKind.i64.wrap ((i : Int) + 1) = (i : Int) + 1 := IntWalk.i64_in _ (by omega)
        have e0 : IntKind.i64.wrap (50 * (i : Int)) = 50 * (i : Int) := IntWalk.i64_in _ (by omega)
        have e00 : IntKind.i64.wrap (d - 50 * (i : Int)) = p := by rw [HPE.out]; exact IntWalk.i64_in _ (by omega)
        have e01 := HPE.out
        have e2 : ((i : Int) + 1).toNat = i + 1 := by omega
        have e3 : (0 : Int) ≤ (i : Int) + 1 := by omega
        have e4 : (i : Int) + 1 < 17 := by omega
        have e5 : (i : Int) < 17 := by omega
        have e6 : (0 : Int) ≤ (i : Int) := by omega
        have e7 : IntKind.i64.wrap (x1 - x0) = x1 - x0 := IntWalk.i64_in _ (by omega)
        have e8 : IntKind.i64.wrap (p * (x1 - x0)) = p * (x1 - x0) := IntWalk.i64_in _ (by omega)
        have e9 : IntKind.i64.wrap (p * (x1 - x0) / 50) = p * (x1 - x0) / 50 := IntWalk.i64_in _ (by omega)
        have e10 : IntKind.i64.wrap (x0 + p * (x1 - x0) / 50) = x0 + p * (x1 - x0) / 50 := IntWalk.i64_in _ (by omega)
        go_quiet (fail)
        go_wp2_with fail
        go_ret
        exact ⟨by rw [HV.out]; rfl, Below.drewK HBW.out _⟩
      · have hdec := decide_eq_false hin
        go_wp2_with fail
        go_round
        case rel => exact ⟨i + 1, by omega, by omega, by go_num⟩
        case measure => simp [intOf]; omega
    · obtain rfl : i = 16 := by omega
      have hv := Lib.hid (show E = 1014 by rw [HE.out]; unfold expM; rw [if_pos (by omega)])
      go_wp2_with fail
      go_ret
      exact ⟨by rw [hv.out]; rfl, HBW.out⟩

set_option maxRecDepth 100000 in
set_option maxHeartbeats 1000000 in
theorem refExpected_any (w : World) (d E : Int) (hE : E = expM d) (hd0 : -9223372036854775808 ≤ d) (hd1 : d ≤ 9223372036854775807) : Calls Try.prog 15 #[.int .i64 d] w fun e w' => e = .returned (.int .i64 E) ∧ Below w.heap.size w w' := by
  have HE := Lib.hid hE
  have hbw : Below w.heap.size w (w.alloc (.cells tabV 3)) := (Below.refl _ _).alloc (Nat.le_refl _) _
  have HBW := Lib.hid hbw
  clear hbw
  by_cases h1 : 800 < d
  · have hv := Lib.hid (show E = 1014 by rw [HE.out]; unfold expM; rw [if_pos (by omega)])
    clear hE
    go_enter Try.func15, Try.ntmps15
    go_wp2_with fail
    go_ret
    exact ⟨by rw [hv.out]; rfl, HBW.out⟩
  · by_cases h2 : d < -800
    · have hv := Lib.hid (show E = 10 by rw [HE.out]; unfold expM; rw [if_neg (by omega), if_pos (by omega)])
      have hd : decide (800 < d) = false := by simp; omega
      clear hE
      go_enter Try.func15, Try.ntmps15
      go_wp2_with fail
      go_ret
      exact ⟨by rw [hv.out]; rfl, HBW.out⟩
    · by_cases h3 : d < 0
      · have hneg := expM_neg d
        have hb := expM_bd (-d)
        obtain ⟨q, hq⟩ : ∃ q, q = expM (-d) := ⟨_, rfl⟩
        rw [← hq] at hneg hb
        obtain ⟨b0, b1⟩ := hb
        have hv := Lib.hid (show E = 1024 - q by omega)
        have hd : decide (800 < d) = false := by simp; omega
        have hd2 : decide (d < -800) = false := by simp; omega
        have hm := fun W => refExpected_mid W (-d) q (by omega) (by omega) hq
        have HM := Lib.hid hm
        clear hm hq hneg hE
        go_enter Try.func15, Try.ntmps15
        go_wp2_with fail
        refine (HM.out _).mono ?_
        rintro e w2 ⟨rfl, hb2⟩
        have HB2 := Lib.hid hb2; clear hb2
        go_wp2_with fail
        go_ret
        exact ⟨by rw [hv.out]; rfl, HBW.out.trans (HB2.out.mono HBW.out.size)⟩
      · exact refExpected_mid w d E (by omega) (by omega) hE

set_option maxHeartbeats 800000 in
theorem right_any (w : World) (s k : Int) (R : Bool) (hR : R = (isSc s && isWt k)) : Calls Try.prog 63 #[.int .i64 s, .int .i64 k] w (Just w (.bool R)) := by
  have HR := Lib.hid hR; clear hR
  obtain ⟨b0, h0⟩ : ∃ b : Bool, (s == 0) = b := ⟨_, rfl⟩
  obtain ⟨b1, h1⟩ : ∃ b : Bool, (s == 512) = b := ⟨_, rfl⟩
  obtain ⟨b2, h2⟩ : ∃ b : Bool, (s == 1024) = b := ⟨_, rfl⟩
  obtain ⟨b3, h3⟩ : ∃ b : Bool, decide (1 ≤ k) = b := ⟨_, rfl⟩
  obtain ⟨b4, h4⟩ : ∃ b : Bool, decide (k ≤ 64) = b := ⟨_, rfl⟩
  have hv := Lib.hid (show R = ((b0 || b1 || b2) && (b3 && b4)) by rw [HR.out]; unfold isSc isWt; rw [h0, h1, h2, h3, h4])
  cases b0 <;> cases b1 <;> cases b2 <;> cases b3
  all_goals
    go_enter Try.func63, Try.ntmps63
    go_wp2
    go_ret
    exact ⟨by rw [hv.out]; rfl, rfl⟩

set_option maxHeartbeats 800000 in
theorem refWindow_any (w : World) (id rt sn tick R : Int) (hR : R = winM sn tick) :
    Calls Try.prog 18 #[.agg #[.int .i64 id, .int .i64 rt, .int .i64 sn], .int .i64 tick] w fun e w' => e = .returned (.int .i64 R) ∧ Below w.heap.size w w' := by
  have HR := Lib.hid hR; clear hR
  have hbw := fun v => (Below.refl w.heap.size w).alloc (Nat.le_refl _) (.cells v 29)
  have HBW := Lib.hid hbw; clear hbw
  by_cases h1 : sn < 0
  · have hv := Lib.hid (show R = 0 by rw [HR.out]; unfold winM; rw [if_pos (.inl h1)])
    go_enter Try.func18, Try.ntmps18
    go_wp2
    go_ret
    exact ⟨by rw [hv.out]; rfl, HBW.out _⟩
  · have hd1 : decide (sn < 0) = false := by simp; omega
    by_cases h2 : tick < sn
    · have hv := Lib.hid (show R = 0 by rw [HR.out]; unfold winM; rw [if_pos (.inr (.inl h2))])
      go_enter Try.func18, Try.ntmps18
      go_wp2
      go_ret
      exact ⟨by rw [hv.out]; rfl, HBW.out _⟩
    · have hd2 : decide (tick < sn) = false := by simp; omega
      by_cases h3 : 1073741824 < tick
      · have hv := Lib.hid (show R = 0 by rw [HR.out]; unfold winM; rw [if_pos (.inr (.inr h3))])
        go_enter Try.func18, Try.ntmps18
        go_wp2
        go_ret
        exact ⟨by rw [hv.out]; rfl, HBW.out _⟩
      · have hd3 : decide (1073741824 < tick) = false := by simp; omega
        by_cases h4 : 4000 < 50 + 2 * (tick - sn)
        · have hv := Lib.hid (show R = 4000 by rw [HR.out]; unfold winM; rw [if_neg (by omega)]; omega)
          have hd4 := decide_eq_true h4
          go_enter Try.func18, Try.ntmps18
          go_wp2
          go_ret
          exact ⟨by rw [hv.out]; rfl, HBW.out _⟩
        · have hv := Lib.hid (show R = 50 + 2 * (tick - sn) by rw [HR.out]; unfold winM; rw [if_neg (by omega)]; omega)
          have hd4 := decide_eq_false h4
          go_enter Try.func18, Try.ntmps18
          go_wp2
          go_ret
          exact ⟨by rw [hv.out]; rfl, HBW.out _⟩
end Go.Proofs.Ytkceefheeicmbaa
