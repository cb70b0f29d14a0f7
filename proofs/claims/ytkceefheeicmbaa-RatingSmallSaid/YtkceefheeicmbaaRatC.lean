/-
  WALKS of rating's expected score.
-/
import Derived.Test.YtkceefheeicmbaaRatB
namespace Go.Proofs.Ytkceefheeicmbaa
open Go.RowKit

theorem Below.drewK {n : Nat} {w w' : World} (h : Below n w w') (k : Nat) : Below n w (w'.drewN k) := ⟨h.os, h.tape, h.output, h.size, h.block⟩

set_option maxRecDepth 100000 in
set_option maxHeartbeats 1000000 in
/-- Between two entries of the table. -/
theorem Expected_mid (w : World) (d : Int) (h0 : 0 ≤ d) (h1 : d < 800) : Calls Try.prog 14 #[.int .i64 d] w fun e w' => e = .returned (.int .i64 (expP d)) ∧ Below w.heap.size w w' := by
  obtain ⟨i, hi⟩ : ∃ i : Nat, i = (d / 50).toNat := ⟨_, rfl⟩
  obtain ⟨p, hp⟩ : ∃ p : Int, p = d % 50 := ⟨_, rfl⟩
  have hi16 : i < 16 := by omega
  have hdi : d / 50 = (i : Int) := by omega
  have hE : expP d = tb i + (tb (i + 1) - tb i) * p / 50 := by unfold expP expAt; rw [← hi, ← hp]
  obtain ⟨x0, hx0⟩ : ∃ x, x = tb i := ⟨_, rfl⟩
  obtain ⟨x1, hx1⟩ : ∃ x, x = tb (i + 1) := ⟨_, rfl⟩
  obtain ⟨b1, b2, b3, b4, b5⟩ := tb_bd hi16
  have g0 := tabV_get i (by omega)
  have g1 := tabV_get (i + 1) (by omega)
  rw [← hx0] at hE b1 b2 b3 b5 g0
  rw [← hx1] at hE b3 b4 b5 g1
  have hp0 : 0 ≤ p := by omega
  have hp1 : p < 50 := by omega
  have m0 : 0 ≤ (x1 - x0) * p := Int.mul_nonneg (by omega) hp0
  have m1 : (x1 - x0) * p ≤ 73 * 50 := Int.mul_le_mul (by omega) (by omega) hp0 (by omega)
  have hq : ((x1 - x0) * p).tdiv 50 = (x1 - x0) * p / 50 := Int.tdiv_eq_ediv_of_nonneg m0
  obtain ⟨R, hR⟩ : ∃ R, R = expP d := ⟨_, rfl⟩
  rw [← hR] at hE ⊢
  have HE := Lib.hid hE; have HP := Lib.hid hp.symm; have HDI := Lib.hid hdi; have HQ := Lib.hid hq
  have hcell : ∀ (W : World) (g : Nat), Blk W g 64 tabV → W.cell? ⟨g, i, none⟩ = some (.int .i64 x0) ∧ W.cell? ⟨g, i + 1, none⟩ = some (.int .i64 x1) := fun W g hb => ⟨(hb.cell i).trans g0, (hb.cell (i + 1)).trans g1⟩
  have HC := Lib.hid hcell
  clear hE hp hdi hq hx0 hx1 hi g0 g1 hR hcell
  go_enter Try.func14, Try.ntmps14
  go_wp2_with (go_at_call 34; refine (table_any _).mono ?_; rintro e w1 ⟨rfl, hb1⟩; have HB1 := Lib.hid hb1; clear hb1)
  have hbk := Blk.new w1 64 tabV
  rw [HDI.out, HP.out]
  obtain ⟨W, hW⟩ : ∃ W, W = w1.alloc (.cells tabV 64) := ⟨_, rfl⟩
  have hbw : Below w.heap.size w W := by rw [hW]; exact HB1.out.alloc HB1.out.size _
  change Code.wp _ _ _ _ (w1.alloc (.cells tabV 64))
  rw [← hW] at hbk ⊢
  obtain ⟨c0, c1⟩ := HC.out W _ hbk
  have hgb := hbk.lt
  obtain ⟨g, hg⟩ : ∃ g, g = w1.heap.size := ⟨_, rfl⟩
  rw [← hg] at c0 c1 hgb ⊢
  have HBW := Lib.hid hbw
  clear hbw hbk hW hg HDI HP HC HB1
  have hq := HQ.out
  have e1 : IntKind.i64.wrap ((i : Int) + 1) = (i : Int) + 1 := IntWalk.i64_in _ (by omega)
  have e2 : ((i : Int) + 1).toNat = i + 1 := by omega
  have e3 : (0 : Int) ≤ (i : Int) + 1 := by omega
  have e4 : (i : Int) + 1 < 17 := by omega
  have e5 : (i : Int) < 17 := by omega
  have e6 : (0 : Int) ≤ (i : Int) := by omega
  have e7 : IntKind.i64.wrap (x1 - x0) = x1 - x0 := IntWalk.i64_in _ (by omega)
  have e8 : IntKind.i64.wrap ((x1 - x0) * p) = (x1 - x0) * p := IntWalk.i64_in _ (by omega)
  have e9 : IntKind.i64.wrap ((x1 - x0) * p / 50) = (x1 - x0) * p / 50 := IntWalk.i64_in _ (by omega)
  have e10 : IntKind.i64.wrap (x0 + (x1 - x0) * p / 50) = x0 + (x1 - x0) * p / 50 := IntWalk.i64_in _ (by omega)
  go_quiet (fail)
  go_wp2_with fail
  go_ret
  exact ⟨by rw [HE.out]; rfl, Below.drewK HBW.out _⟩

set_option maxRecDepth 100000 in
set_option maxHeartbeats 1000000 in
/-- The expected score. -/
theorem Expected_any (w : World) (d : Int) (E : Int) (hE : E = expM d) (hd0 : -9223372036854775808 ≤ d) (hd1 : d ≤ 9223372036854775807) : Calls Try.prog 14 #[.int .i64 d] w fun e w' => e = .returned (.int .i64 E) ∧ Below w.heap.size w w' := by
  have HE := Lib.hid hE; clear hE
  have hc : ∀ (W : World) (g : Nat), Blk W g 64 tabV → W.cell? ⟨g, 16, none⟩ = some (.int .i64 1014) := fun W g hb => hb.cell 16
  have HC := Lib.hid hc
  clear hc
  by_cases h1 : 800 ≤ d
  · have hv := Lib.hid (show E = 1014 by rw [HE.out]; unfold expM; rw [if_pos h1])
    go_enter Try.func14, Try.ntmps14
    go_wp2_with (go_at_call 34; refine (table_any _).mono ?_; rintro e w1 ⟨rfl, hb1⟩; have HB1 := Lib.hid hb1; clear hb1)
    go_ret
    exact ⟨by rw [hv.out]; rfl, HB1.out.alloc HB1.out.size _⟩
  · by_cases h2 : d ≤ -800
    · have hv := Lib.hid (show E = 10 by rw [HE.out]; unfold expM; rw [if_neg h1, if_pos h2])
      have hd : decide (800 ≤ d) = false := by simp; omega
      go_enter Try.func14, Try.ntmps14
      go_wp2_with (go_at_call 34; refine (table_any _).mono ?_; rintro e w1 ⟨rfl, hb1⟩; have HB1 := Lib.hid hb1; clear hb1)
      go_ret
      exact ⟨by rw [hv.out]; rfl, HB1.out.alloc HB1.out.size _⟩
    · by_cases h3 : d < 0
      · have hv := Lib.hid (show E = 1024 - expP (-d) by rw [HE.out]; unfold expM; rw [if_neg h1, if_neg h2, if_pos h3])
        have hb := expP_bd (d := -d) (by omega) (by omega)
        obtain ⟨b0, b1⟩ := hb
        have hd : decide (800 ≤ d) = false := by simp; omega
        have hd2 : decide (d ≤ -800) = false := by simp; omega
        have hm := fun W => Expected_mid W (-d) (by omega) (by omega)
        obtain ⟨q, hq⟩ : ∃ q, q = expP (-d) := ⟨_, rfl⟩
        rw [← hq] at hv hm b0 b1
        have HM := Lib.hid hm
        clear hm hq
        go_enter Try.func14, Try.ntmps14
        go_wp2_with (first | (go_at_call 34; refine (table_any _).mono ?_; rintro e w1 ⟨rfl, hb1⟩; have HB1 := Lib.hid hb1; clear hb1) | (go_at_call 14; refine (HM.out _).mono ?_; rintro e w2 ⟨rfl, hb2⟩; have HB2 := Lib.hid hb2; clear hb2))
        go_ret
        refine ⟨by rw [hv.out]; rfl, ?_⟩
        have := HB1.out.alloc HB1.out.size (.cells tabV 64)
        exact this.trans (HB2.out.mono this.size)
      · have hv := Lib.hid (show E = expP d by rw [HE.out]; unfold expM; rw [if_neg h1, if_neg h2, if_neg h3])
        refine (Expected_mid w d (by omega) (by omega)).mono ?_
        rintro e w' ⟨rfl, hb⟩
        exact ⟨by rw [hv.out], hb⟩
end Go.Proofs.Ytkceefheeicmbaa
