/-
  WALKS of the reference's gain and Gain.
-/
import Derived.Test.YtkceefheeicmbaaRatE
namespace Go.Proofs.Ytkceefheeicmbaa
open Go.RowKit

theorem gain_pos {a b q q0 : Int} (ha : 0 ≤ a ∧ a ≤ 4000) (hb : 0 ≤ b ∧ b ≤ 4000) (h0 : 0 ≤ q ∧ q ≤ q0) (hq : q = q0 ∨ ¬ (a + (q + 1) ≤ 4000 ∧ 0 ≤ b - (q + 1))) (hin : q = 0 ∨ (a + q ≤ 4000 ∧ 0 ≤ b - q)) :
    cutM (cutM q0 (-a) (4000 - a)) (b - 4000) b = q := by unfold cutM; omega
theorem gain_neg {a b q q0 : Int} (ha : 0 ≤ a ∧ a ≤ 4000) (hb : 0 ≤ b ∧ b ≤ 4000) (h0 : 0 ≤ q ∧ q ≤ q0) (hq : q = q0 ∨ ¬ (0 ≤ a - (q + 1) ∧ b + (q + 1) ≤ 4000)) (hin : q = 0 ∨ (0 ≤ a - q ∧ b + q ≤ 4000)) :
    cutM (cutM (-q0) (-a) (4000 - a)) (b - 4000) b = -q := by unfold cutM; omega

set_option maxRecDepth 100000 in
set_option maxHeartbeats 4000000 in
theorem refgain_any (w : World) (a b s e k R : Int) (ha : 0 ≤ a ∧ a ≤ 4000) (hb : 0 ≤ b ∧ b ≤ 4000) (hs : 0 ≤ s ∧ s ≤ 1024) (he : 0 ≤ e ∧ e ≤ 1024) (hk : 1 ≤ k ∧ k ≤ 64) (hR : R = exchM a b s e k) :
    Calls Try.prog 64 #[.int .i64 a, .int .i64 b, .int .i64 s, .int .i64 e, .int .i64 k] w (Just w (.int .i64 R)) := by
  obtain ⟨p0, p1⟩ := prod_bd hk hs he
  obtain ⟨a0, a1⟩ := ha; obtain ⟨b0, b1⟩ := hb; obtain ⟨s0, s1⟩ := hs; obtain ⟨e0, e1⟩ := he; obtain ⟨k0, k1⟩ := hk
  obtain ⟨P, hP⟩ : ∃ P, P = k * (s - e) := ⟨_, rfl⟩
  have hRP : R = cutM (cutM (roundM P) (-a) (4000 - a)) (b - 4000) b := by rw [hR, hP]; rfl
  rw [← hP] at p0 p1
  have HRP := Lib.hid hRP; have hP' := hP.symm
  clear hRP hR hP
  by_cases hneg : P < 0
  · obtain ⟨N, hN⟩ : ∃ N, N = -P := ⟨_, rfl⟩
    obtain ⟨q0, hq0⟩ : ∃ q0, q0 = (N + 512) / 1024 := ⟨_, rfl⟩
    have hr : roundM P = -q0 := by unfold roundM; rw [if_pos hneg, hq0, hN]
    have hq00 : 0 ≤ q0 := by omega
    have hq01 : q0 ≤ 64 := by omega
    have hN0 : 0 ≤ N := by omega
    have hN1 : N ≤ 65536 := by omega
    have hneg' : (0 : Int) - P = N := by omega
    rw [hr] at HRP
    have hsplit : (1024 ≤ 2 * (N % 1024) ∧ N / 1024 + 1 = q0) ∨ (¬ 1024 ≤ 2 * (N % 1024) ∧ N / 1024 = q0) := by omega
    have hdn := decide_eq_true hneg
    have HN := Lib.hid hN
    clear hr hq0 hN
    rcases hsplit with ⟨h1, h2⟩ | ⟨h1, h2⟩
    all_goals
      first | have hd1 := decide_eq_true h1 | have hd1 := decide_eq_false h1
      go_enter Try.func64, Try.ntmps64
      go_wp2_with fail
      go_loop [13] (fun v => ∃ q : Int, 0 ≤ q ∧ q ≤ q0 ∧ v = .int .i64 q ∧ Hid (q = q0 ∨ ¬ (0 ≤ a - (q + 1) ∧ b + (q + 1) ≤ 4000))) (fun v => (intOf v).toNat)
      case atStart => exact ⟨q0, hq00, Int.le_refl _, rfl, Lib.hid (.inl rfl)⟩
      case round => as_aux_lemma =>
        obtain ⟨q, hq1, hq2, rfl, HQ⟩ := hrel
        by_cases hz : 0 < q
        · by_cases ho : a < q
          · go_wp2_with fail
            go_round
            case rel => exact ⟨q - 1, by omega, by omega, rfl, Lib.hid (.inr (by omega))⟩
            case measure => simp [intOf]; omega
          · by_cases ho2 : 4000 < b + q
            · go_wp2_with fail
              go_round
              case rel => exact ⟨q - 1, by omega, by omega, rfl, Lib.hid (.inr (by omega))⟩
              case measure => simp [intOf]; omega
            · go_wp2_with fail
              go_ret
              exact ⟨ret_int (by rw [HRP.out, gain_neg ⟨a0, a1⟩ ⟨b0, b1⟩ ⟨hq1, hq2⟩ HQ.out (.inr (by omega))] <;> omega), rfl⟩
        · obtain rfl : q = 0 := by omega
          go_wp2_with fail
          go_ret
          exact ⟨ret_int (by rw [HRP.out, gain_neg ⟨a0, a1⟩ ⟨b0, b1⟩ ⟨hq1, hq2⟩ HQ.out (.inl rfl)] <;> omega), rfl⟩
  · obtain ⟨q0, hq0⟩ : ∃ q0, q0 = (P + 512) / 1024 := ⟨_, rfl⟩
    have hr : roundM P = q0 := by unfold roundM; rw [if_neg hneg, hq0]
    have hq00 : 0 ≤ q0 := by omega
    have hq01 : q0 ≤ 64 := by omega
    have hN0 : 0 ≤ P := by omega
    rw [hr] at HRP
    have hsplit : (1024 ≤ 2 * (P % 1024) ∧ P / 1024 + 1 = q0) ∨ (¬ 1024 ≤ 2 * (P % 1024) ∧ P / 1024 = q0) := by omega
    have hdn := decide_eq_false hneg
    clear hr hq0
    rcases hsplit with ⟨h1, h2⟩ | ⟨h1, h2⟩
    all_goals
      first | have hd1 := decide_eq_true h1 | have hd1 := decide_eq_false h1
      go_enter Try.func64, Try.ntmps64
      go_wp2_with fail
      go_loop [13] (fun v => ∃ q : Int, 0 ≤ q ∧ q ≤ q0 ∧ v = .int .i64 q ∧ Hid (q = q0 ∨ ¬ (a + (q + 1) ≤ 4000 ∧ 0 ≤ b - (q + 1)))) (fun v => (intOf v).toNat)
      case atStart => exact ⟨q0, hq00, Int.le_refl _, rfl, Lib.hid (.inl rfl)⟩
      case round => as_aux_lemma =>
        obtain ⟨q, hq1, hq2, rfl, HQ⟩ := hrel
        by_cases hz : 0 < q
        · by_cases ho : 4000 < a + q
          · go_wp2_with fail
            go_round
            case rel => exact ⟨q - 1, by omega, by omega, rfl, Lib.hid (.inr (by omega))⟩
            case measure => simp [intOf]; omega
          · by_cases ho2 : b < q
            · go_wp2_with fail
              go_round
              case rel => exact ⟨q - 1, by omega, by omega, rfl, Lib.hid (.inr (by omega))⟩
              case measure => simp [intOf]; omega
            · go_wp2_with fail
              go_ret
              exact ⟨ret_int (by rw [HRP.out, gain_pos ⟨a0, a1⟩ ⟨b0, b1⟩ ⟨hq1, hq2⟩ HQ.out (.inr (by omega))] <;> omega), rfl⟩
        · obtain rfl : q = 0 := by omega
          go_wp2_with fail
          go_ret
          exact ⟨ret_int (by rw [HRP.out, gain_pos ⟨a0, a1⟩ ⟨b0, b1⟩ ⟨hq1, hq2⟩ HQ.out (.inl rfl)] <;> omega), rfl⟩

set_option maxRecDepth 100000 in
set_option maxHeartbeats 2000000 in
theorem refGain_any (w : World) (a b s k : Int) (R E : Int) (hR : R = gainM a b s k) (hE : E = gainE a b s k) :
    Calls Try.prog 35 #[.int .i64 a, .int .i64 b, .int .i64 s, .int .i64 k] w fun e w' => e = .returned (.tuple #[.int .i64 R, .int .i64 E]) ∧ Below w.heap.size w w' := by
  unfold gainM at hR
  unfold gainE at hE
  have hok : gainOk a b s k = (inR a && inR b && (isSc s && isWt k)) := by unfold gainOk; rw [Bool.and_assoc (inR a && inR b)]
  rw [hok] at hR hE
  obtain ⟨S, hS⟩ : ∃ S, S = (isSc s && isWt k) := ⟨_, rfl⟩
  rw [← hS] at hR hE
  have cS := fun W => right_any W s k S hS
  have CS := Lib.hid cS
  clear hok cS
  by_cases h1 : a < 0
  · have hv : ¬ (inR a && inR b && S) = true := by rw [show inR a = false by unfold inR; simp; omega]; simp
    rw [if_neg hv] at hR hE
    have HE := Lib.hid hE; have HR := Lib.hid hR
    clear hE hR hv hS
    go_enter Try.func35, Try.ntmps35
    go_wp2_with fail
    go_ret2
    exact ⟨by rw [HE.out, HR.out]; rfl, Below.refl _ _⟩
  · have d1 := decide_eq_false h1
    by_cases h2 : 4000 < a
    · have hv : ¬ (inR a && inR b && S) = true := by rw [show inR a = false by unfold inR; simp; omega]; simp
      rw [if_neg hv] at hR hE
      have HE := Lib.hid hE; have HR := Lib.hid hR
      clear hE hR hv hS
      go_enter Try.func35, Try.ntmps35
      go_wp2_with fail
      go_ret2
      exact ⟨by rw [HE.out, HR.out]; rfl, Below.refl _ _⟩
    · have d2 := decide_eq_false h2
      by_cases h3 : b < 0
      · have hv : ¬ (inR a && inR b && S) = true := by rw [show inR b = false by unfold inR; simp; omega]; simp
        rw [if_neg hv] at hR hE
        have HE := Lib.hid hE; have HR := Lib.hid hR
        clear hE hR hv hS
        go_enter Try.func35, Try.ntmps35
        go_wp2_with fail
        go_ret2
        exact ⟨by rw [HE.out, HR.out]; rfl, Below.refl _ _⟩
      · have d3 := decide_eq_false h3
        by_cases h4 : 4000 < b
        · have hv : ¬ (inR a && inR b && S) = true := by rw [show inR b = false by unfold inR; simp; omega]; simp
          rw [if_neg hv] at hR hE
          have HE := Lib.hid hE; have HR := Lib.hid hR
          clear hE hR hv hS
          go_enter Try.func35, Try.ntmps35
          go_wp2_with fail
          go_ret2
          exact ⟨by rw [HE.out, HR.out]; rfl, Below.refl _ _⟩
        · have d4 := decide_eq_false h4
          rw [show inR a = true by rw [inR_iff]; omega, show inR b = true by rw [inR_iff]; omega] at hR hE
          cases S with
          | false =>
            rw [if_neg (by simp)] at hR hE
            have HE := Lib.hid hE; have HR := Lib.hid hR
            clear hE hR hS
            go_enter Try.func35, Try.ntmps35
            go_wp2_with fail
            refine (CS.out _).mono ?_
            rintro e w1 ⟨rfl, rfl⟩
            go_wp2_with fail
            go_ret2
            exact ⟨by rw [HE.out, HR.out]; rfl, Below.refl _ _⟩
          | true =>
            rw [if_pos (by simp)] at hR hE
            have hS' := hS.symm
            simp only [Bool.and_eq_true] at hS'
            have hs := isSc_iff.1 hS'.1
            obtain ⟨k0, k1⟩ := isWt_iff.1 hS'.2
            have hs01 : 0 ≤ s ∧ s ≤ 1024 := by omega
            obtain ⟨x, hx⟩ : ∃ x, x = expM (a - b) := ⟨_, rfl⟩
            have hxb := expM_bd (a - b)
            rw [← hx] at hxb hR
            have hexp := fun W => refExpected_any W (a - b) x hx (by omega) (by omega)
            have hexc := fun W => refgain_any W a b s x k R (by omega) (by omega) hs01 (by omega) ⟨k0, k1⟩ hR
            have HX := Lib.hid hexp; have HC := Lib.hid hexc; have HE := Lib.hid hE
            clear hexp hexc hR hE hx hxb hs hS hS'
            go_enter Try.func35, Try.ntmps35
            go_wp2_with fail
            refine (CS.out _).mono ?_
            rintro e w1 ⟨rfl, rfl⟩
            go_wp2_with fail
            refine (HX.out _).mono ?_
            rintro e w1 ⟨rfl, hb1⟩
            have HB1 := Lib.hid hb1; clear hb1
            go_wp2_with fail
            refine (HC.out _).mono ?_
            rintro e w2 ⟨rfl, rfl⟩
            go_wp2_with fail
            go_ret2
            exact ⟨by rw [HE.out]; rfl, HB1.out⟩
end Go.Proofs.Ytkceefheeicmbaa
