/-
  WALKS of exchange, Gain, Window.
-/
import Derived.Test.YtkceefheeicmbaaRatC
namespace Go.Proofs.Ytkceefheeicmbaa
open Go.RowKit

theorem run_min2 {P : Program} (W : World) (ts : Array TypeId) (t : TypeId) (a b m : Int) (hm : m = min a b) : (Builtin.min_ ts t #[.int .i64 a, .int .i64 b]).run P W = .ok (.int .i64 m) W := by
  have e : ∀ x y : Int, (if y < x then y else x) = min x y := by
    intro x y; rw [Int.min_def]; split <;> split <;> omega
  subst hm
  simp [Builtin.min_, Builtin.min2, e]
theorem run_max2 {P : Program} (W : World) (ts : Array TypeId) (t : TypeId) (a b m : Int) (hm : m = max a b) : (Builtin.max_ ts t #[.int .i64 a, .int .i64 b]).run P W = .ok (.int .i64 m) W := by
  have e : ∀ x y : Int, (if y > x then y else x) = max x y := by
    intro x y; rw [Int.max_def]; split <;> split <;> omega
  subst hm
  simp [Builtin.max_, Builtin.max2, e]

set_option maxHeartbeats 400000 in
theorem cut_any (w : World) (n lo hi R : Int) (hR : R = cutM n lo hi) : Calls Try.prog 69 #[.int .i64 n, .int .i64 lo, .int .i64 hi] w (Just w (.int .i64 R)) := by
  obtain ⟨x, hx⟩ : ∃ x, x = max n lo := ⟨_, rfl⟩
  have h1 := fun W => run_max2 (P := Try.prog) W #[3, 3] 3 n lo x hx
  have h2 := fun W => run_min2 (P := Try.prog) W #[3, 3] 3 x hi R (by rw [hR, hx]; rfl)
  clear hx hR
  go_enter Try.func69, Try.ntmps69
  go_wp2
  go_ret
  exact ⟨rfl, rfl⟩

set_option maxHeartbeats 400000 in
theorem rounded_pos (w : World) (n : Int) (h0 : 0 ≤ n) (h1 : n ≤ 1000000) : Calls Try.prog 70 #[.int .i64 n] w (Just w (.int .i64 ((n + 512) / 1024))) := by
  go_enter Try.func70, Try.ntmps70
  go_wp2
  go_ret
  exact ⟨rfl, rfl⟩

set_option maxHeartbeats 400000 in
theorem rounded_any (w : World) (n R : Int) (h0 : -1000000 ≤ n) (h1 : n ≤ 1000000) (hR : R = roundM n) : Calls Try.prog 70 #[.int .i64 n] w (Just w (.int .i64 R)) := by
  have HR := Lib.hid hR; clear hR
  by_cases h : n < 0
  · have hv := Lib.hid (show R = -((-n + 512) / 1024) by rw [HR.out]; unfold roundM; rw [if_pos h])
    have hp := fun W => rounded_pos W (-n) (by omega) (by omega)
    obtain ⟨q, hq⟩ : ∃ q, q = (-n + 512) / 1024 := ⟨_, rfl⟩
    have hq0 : 0 ≤ q ∧ q ≤ 1000 := by omega
    obtain ⟨q0, q1⟩ := hq0
    rw [← hq] at hp hv
    have HP := Lib.hid hp
    clear hp hq
    go_enter Try.func70, Try.ntmps70
    go_wp2_with (go_at_call 70; refine (HP.out _).mono ?_; rintro e w1 ⟨rfl, rfl⟩)
    go_ret
    exact ⟨by rw [hv.out]; rfl, rfl⟩
  · have hv := Lib.hid (show R = (n + 512) / 1024 by rw [HR.out]; unfold roundM; rw [if_neg h])
    refine (rounded_pos w n (by omega) h1).mono ?_
    rintro e w' ⟨rfl, rfl⟩
    exact ⟨by rw [hv.out], rfl⟩

set_option maxHeartbeats 800000 in
theorem exchange_any (w : World) (a b s e k R : Int) (ha : 0 ≤ a ∧ a ≤ 4000) (hb : 0 ≤ b ∧ b ≤ 4000) (hs : 0 ≤ s ∧ s ≤ 1024) (he : 0 ≤ e ∧ e ≤ 1024) (hk : 1 ≤ k ∧ k ≤ 64) (hR : R = exchM a b s e k) :
    Calls Try.prog 45 #[.int .i64 a, .int .i64 b, .int .i64 s, .int .i64 e, .int .i64 k] w (Just w (.int .i64 R)) := by
  obtain ⟨p0, p1⟩ := prod_bd hk hs he
  obtain ⟨a0, a1⟩ := ha; obtain ⟨b0, b1⟩ := hb; obtain ⟨s0, s1⟩ := hs; obtain ⟨e0, e1⟩ := he; obtain ⟨k0, k1⟩ := hk
  obtain ⟨rn, hrn⟩ : ∃ r, r = roundM (k * (s - e)) := ⟨_, rfl⟩
  obtain ⟨c1, hc1⟩ : ∃ c, c = cutM rn (-a) (4000 - a) := ⟨_, rfl⟩
  have hfin : R = cutM c1 (b - 4000) b := by rw [hR, hc1, hrn]; rfl
  have HRN := Lib.hid hrn; have HC1 := Lib.hid hc1; have HF := Lib.hid hfin
  clear hrn hc1 hfin hR
  go_enter Try.func45, Try.ntmps45
  go_wp2_with fail
  refine (rounded_any _ _ rn (by omega) (by omega) HRN.out).mono ?_
  rintro e w1 ⟨rfl, rfl⟩
  go_wp2_with fail
  refine (cut_any _ _ _ _ c1 HC1.out).mono ?_
  rintro e w1 ⟨rfl, rfl⟩
  go_wp2_with fail
  refine (cut_any _ _ _ _ R HF.out).mono ?_
  rintro e w1 ⟨rfl, rfl⟩
  go_wp2_with fail
  go_ret
  exact ⟨rfl, rfl⟩

/-- What Gain returns. -/
def gainOk (a b s k : Int) : Bool := inR a && inR b && isSc s && isWt k
def gainM (a b s k : Int) : Int := if gainOk a b s k = true then exchM a b s (expM (a - b)) k else 0
def gainE (a b s k : Int) : Int := if gainOk a b s k = true then 0 else 2

set_option maxRecDepth 100000 in
set_option maxHeartbeats 2000000 in
theorem Gain_any (w : World) (a b s k : Int) (R E : Int) (hR : R = gainM a b s k) (hE : E = gainE a b s k) :
    Calls Try.prog 23 #[.int .i64 a, .int .i64 b, .int .i64 s, .int .i64 k] w fun e w' => e = .returned (.tuple #[.int .i64 R, .int .i64 E]) ∧ Below w.heap.size w w' := by
  unfold gainM at hR
  unfold gainE at hE
  obtain ⟨A, hA⟩ : ∃ A, A = inR a := ⟨_, rfl⟩
  obtain ⟨B, hB⟩ : ∃ B, B = inR b := ⟨_, rfl⟩
  obtain ⟨S, hS⟩ : ∃ S, S = isSc s := ⟨_, rfl⟩
  obtain ⟨K, hK⟩ : ∃ K, K = isWt k := ⟨_, rfl⟩
  have hok : gainOk a b s k = (A && B && S && K) := by unfold gainOk; rw [hA, hB, hS, hK]
  rw [hok] at hR hE
  have cA := fun W => isRating_any W a A hA
  have cB := fun W => isRating_any W b B hB
  have cS := fun W => isScore_any W s S hS
  have cK := fun W => isWeight_any W k K hK
  have CA := Lib.hid cA; have CB := Lib.hid cB; have CS := Lib.hid cS; have CK := Lib.hid cK
  clear hok cA cB cS cK
  by_cases hv : (A && B && S && K) = true
  · rw [if_pos hv] at hR hE
    simp only [Bool.and_eq_true] at hv
    obtain ⟨⟨⟨rfl, rfl⟩, rfl⟩, rfl⟩ := hv
    obtain ⟨a0, a1⟩ := inR_iff.1 hA.symm
    obtain ⟨b0, b1⟩ := inR_iff.1 hB.symm
    have hs := isSc_iff.1 hS.symm
    obtain ⟨k0, k1⟩ := isWt_iff.1 hK.symm
    have hs01 : 0 ≤ s ∧ s ≤ 1024 := by omega
    obtain ⟨x, hx⟩ : ∃ x, x = expM (a - b) := ⟨_, rfl⟩
    have hxb := expM_bd (a - b)
    rw [← hx] at hxb hR
    have hexp := fun W => Expected_any W (a - b) x hx (by omega) (by omega)
    have hexc := fun W => exchange_any W a b s x k R ⟨a0, a1⟩ ⟨b0, b1⟩ hs01 (by omega) ⟨k0, k1⟩ hR
    have HX := Lib.hid hexp; have HC := Lib.hid hexc; have HE := Lib.hid hE
    clear hexp hexc hR hE hx hxb hs hA hB hS hK
    go_enter Try.func23, Try.ntmps23
    go_wp2_with fail
    refine (CA.out _).mono ?_
    rintro e w1 ⟨rfl, rfl⟩
    go_wp2_with fail
    refine (CB.out _).mono ?_
    rintro e w1 ⟨rfl, rfl⟩
    go_wp2_with fail
    refine (CS.out _).mono ?_
    rintro e w1 ⟨rfl, rfl⟩
    go_wp2_with fail
    refine (CK.out _).mono ?_
    rintro e w1 ⟨rfl, rfl⟩
    go_wp2_with fail
    refine (HX.out _).mono ?_
    rintro e w1 ⟨rfl, hb1⟩
    have HB1 := Lib.hid hb1; clear hb1
    go_wp2_with fail
    refine (HC.out _).mono ?_
    rintro e w2 ⟨rfl, rfl⟩
    go_wp2_with fail
    go_ret2
    exact ⟨by rw [HE.out]; rfl, HB1.out⟩
  · rw [if_neg hv] at hR hE
    have HE := Lib.hid hE; have HR := Lib.hid hR
    clear hA hB hS hK hR hE
    cases A with
    | false =>
      go_enter Try.func23, Try.ntmps23
      go_wp2_with fail
      refine (CA.out _).mono ?_
      rintro e w1 ⟨rfl, rfl⟩
      go_wp2_with fail
      go_ret2
      exact ⟨by rw [HE.out, HR.out]; rfl, Below.refl _ _⟩
    | true =>
      cases B with
      | false =>
        go_enter Try.func23, Try.ntmps23
        go_wp2_with fail
        refine (CA.out _).mono ?_
        rintro e w1 ⟨rfl, rfl⟩
        go_wp2_with fail
        refine (CB.out _).mono ?_
        rintro e w1 ⟨rfl, rfl⟩
        go_wp2_with fail
        go_ret2
        exact ⟨by rw [HE.out, HR.out]; rfl, Below.refl _ _⟩
      | true =>
        cases S with
        | false =>
          go_enter Try.func23, Try.ntmps23
          go_wp2_with fail
          refine (CA.out _).mono ?_
          rintro e w1 ⟨rfl, rfl⟩
          go_wp2_with fail
          refine (CB.out _).mono ?_
          rintro e w1 ⟨rfl, rfl⟩
          go_wp2_with fail
          refine (CS.out _).mono ?_
          rintro e w1 ⟨rfl, rfl⟩
          go_wp2_with fail
          go_ret2
          exact ⟨by rw [HE.out, HR.out]; rfl, Below.refl _ _⟩
        | true =>
          cases K with
          | false =>
            go_enter Try.func23, Try.ntmps23
            go_wp2_with fail
            refine (CA.out _).mono ?_
            rintro e w1 ⟨rfl, rfl⟩
            go_wp2_with fail
            refine (CB.out _).mono ?_
            rintro e w1 ⟨rfl, rfl⟩
            go_wp2_with fail
            refine (CS.out _).mono ?_
            rintro e w1 ⟨rfl, rfl⟩
            go_wp2_with fail
            refine (CK.out _).mono ?_
            rintro e w1 ⟨rfl, rfl⟩
            go_wp2_with fail
            go_ret2
            exact ⟨by rw [HE.out, HR.out]; rfl, Below.refl _ _⟩
          | true => exact absurd rfl hv

def winM (since tick : Int) : Int := if since < 0 ∨ tick < since ∨ 1073741824 < tick then 0 else min (50 + 2 * (tick - since)) 4000

set_option maxHeartbeats 800000 in
theorem Window_any (w : World) (id rt sn tick R : Int) (hR : R = winM sn tick) :
    Calls Try.prog 17 #[.agg #[.int .i64 id, .int .i64 rt, .int .i64 sn], .int .i64 tick] w fun e w' => e = .returned (.int .i64 R) ∧ Below w.heap.size w w' := by
  have HR := Lib.hid hR; clear hR
  have hbw := fun v => (Below.refl w.heap.size w).alloc (Nat.le_refl _) (.cells v 24)
  have HBW := Lib.hid hbw; clear hbw
  by_cases h1 : sn < 0
  · have hv := Lib.hid (show R = 0 by rw [HR.out]; unfold winM; rw [if_pos (.inl h1)])
    go_enter Try.func17, Try.ntmps17
    go_wp2
    go_ret
    exact ⟨by rw [hv.out]; rfl, HBW.out _⟩
  · have hd1 : decide (sn < 0) = false := by simp; omega
    by_cases h2 : tick < sn
    · have hv := Lib.hid (show R = 0 by rw [HR.out]; unfold winM; rw [if_pos (.inr (.inl h2))])
      go_enter Try.func17, Try.ntmps17
      go_wp2
      go_ret
      exact ⟨by rw [hv.out]; rfl, HBW.out _⟩
    · have hd2 : decide (tick < sn) = false := by simp; omega
      by_cases h3 : 1073741824 < tick
      · have hv := Lib.hid (show R = 0 by rw [HR.out]; unfold winM; rw [if_pos (.inr (.inr h3))])
        go_enter Try.func17, Try.ntmps17
        go_wp2
        go_ret
        exact ⟨by rw [hv.out]; rfl, HBW.out _⟩
      · have hd3 : decide (1073741824 < tick) = false := by simp; omega
        have hmin := fun W => run_min2 (P := Try.prog) W #[3, 3] 3 (50 + 2 * (tick - sn)) 4000 R (by rw [HR.out]; unfold winM; rw [if_neg (by omega)])
        go_enter Try.func17, Try.ntmps17
        go_wp2
        go_ret
        exact ⟨rfl, HBW.out _⟩
end Go.Proofs.Ytkceefheeicmbaa
