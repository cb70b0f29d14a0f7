/-
  WALKS of Pick and RatingFair (awake's contract is a hypothesis here).
-/
import Derived.Test.YtkceefheeicmbaaRatF
import Derived.Test.YtkceefheeicmbaaRatV
namespace Go.Proofs.Ytkceefheeicmbaa
open Go.RowKit


def PickTo (w : World) (n : Int) (e : Ending) (w' : World) : Prop := ∃ R : Int, 0 ≤ R ∧ R < n ∧ e = .returned (.int .i64 R) ∧ w' = w
set_option maxHeartbeats 800000 in
theorem Pick_any (w : World) (x n : Int) (h1 : 1 ≤ n) (h2 : n ≤ 4611686018427387904) : Calls Try.prog 22 #[.int .i64 x, .int .i64 n] w (PickTo w n) := by
  obtain ⟨t, ht⟩ : ∃ t, x.tmod n = t := ⟨_, rfl⟩
  have ht0 : -n < t := by rw [← ht]; exact Int.lt_tmod_of_pos x (by omega)
  have ht1 : t < n := by rw [← ht]; exact Int.tmod_lt_of_pos x (by omega)
  have hn0 : ¬ n = 0 := by omega
  by_cases h : t < 0
  · go_enter Try.func22, Try.ntmps22
    go_wp2
    go_ret
    exact ⟨t + n, by omega, by omega, rfl, rfl⟩
  · go_enter Try.func22, Try.ntmps22
    go_wp2
    go_ret
    exact ⟨t, by omega, by omega, rfl, rfl⟩

theorem Gain_ok (W : World) (a b s k n : Int) (ha : 0 ≤ a ∧ a ≤ 4000) (hb : 0 ≤ b ∧ b ≤ 4000) (hs : s = 0 ∨ s = 512 ∨ s = 1024) (hk : 1 ≤ k ∧ k ≤ 64) (hn : n = exchM a b s (expM (a - b)) k) :
    Calls Try.prog 23 #[.int .i64 a, .int .i64 b, .int .i64 s, .int .i64 k] W fun e w' => e = .returned (.tuple #[.int .i64 n, .int .i64 0]) ∧ Below W.heap.size W w' := by
  have hok : gainOk a b s k = true := by unfold gainOk; rw [inR_iff.2 ha, inR_iff.2 hb, isSc_iff.2 hs, isWt_iff.2 hk]; rfl
  exact Gain_any W a b s k n 0 (by unfold gainM; rw [if_pos hok, hn]) (by unfold gainE; rw [if_pos hok])

set_option maxRecDepth 100000 in
set_option maxHeartbeats 8000000 in
theorem RatingFair_walk (hawake : ∀ W, Calls Try.prog 19 #[] W (SaysTo W true)) (w : World) (x y z d : Int) :
    Calls Try.prog 6 #[.int .i64 x, .int .i64 y, .int .i64 z, .int .i64 d] w (SaysTo w true) := by
  have HA := Lib.hid hawake; clear hawake
  go_enter Try.func6, Try.ntmps6
  go_wp2_with fail
  refine (HA.out _).mono ?_
  rintro e w1 ⟨rfl, hb1⟩
  have HB1 := Lib.hid hb1; clear hb1
  go_wp2_with fail
  refine (Pick_any _ _ _ (by omega) (by omega)).mono ?_
  rintro e w2 ⟨a, a0, a1, rfl, rfl⟩
  go_wp2_with fail
  refine (Pick_any _ _ _ (by omega) (by omega)).mono ?_
  rintro e w2 ⟨b, b0, b1, rfl, rfl⟩
  go_wp2_with fail
  refine (Pick_any _ _ _ (by omega) (by omega)).mono ?_
  rintro e w2 ⟨k', k0, k1, rfl, rfl⟩
  obtain ⟨k, hk⟩ : ∃ k, 1 + k' = k := ⟨_, rfl⟩
  have hk0 : 1 ≤ k := by omega
  have hk1 : k ≤ 64 := by omega
  clear k0 k1
  go_wp2_with fail
  clear hk
  go_loopw [9, 10, 11, 12, 13] (fun s _ _ _ _ wt => (s = .int .i64 0 ∨ s = .int .i64 512 ∨ s = .int .i64 1024 ∨ s = .int .i64 1536) ∧ Hid (Below w.heap.size w wt)) (fun s _ _ _ _ _ => 1536 - (intOf s).toNat)
  case atStart => exact ⟨.inl rfl, HB1⟩
  case round => as_aux_lemma =>
    obtain ⟨hs, HB⟩ := hrel
    have hfair := fun s (hs : s = 0 ∨ s = 512 ∨ s = 1024) => exch_fair (a := a) (b := b) (k := k) ⟨a0, by omega⟩ ⟨b0, by omega⟩ ⟨hk0, hk1⟩ hs (expM_bd (a - b))
    have hsign := fun s => exch_sign (a := a) (b := b) (k := k) ⟨a0, by omega⟩ ⟨b0, by omega⟩ ⟨hk0, hk1⟩ (s := s) (e := expM (a - b))
    have hneg := expM_neg (a - b)
    rw [show -(a - b) = b - a by omega] at hneg
    have hx := expM_bd (a - b)
    have hab : b ≤ a → 512 ≤ expM (a - b) := fun h => (expM_step (d := a - b) (by omega)).1
    have hba : a ≤ b → expM (a - b) ≤ 512 := fun h => by have := (expM_step (d := b - a) (by omega)).1; omega
    have hg1 := fun W s (hs : s = 0 ∨ s = 512 ∨ s = 1024) => Gain_ok W a b s k _ ⟨a0, by omega⟩ ⟨b0, by omega⟩ hs ⟨hk0, hk1⟩ rfl
    have hg2 := fun W s (hs : s = 0 ∨ s = 512 ∨ s = 1024) => Gain_ok W b a (1024 - s) k (-exchM a b s (expM (a - b)) k) ⟨b0, by omega⟩ ⟨a0, by omega⟩ (by omega) ⟨hk0, hk1⟩ (by
      rw [← (hfair s hs).1, show (1024 - expM (a - b)) = expM (b - a) by omega])
    obtain ⟨X, hX⟩ : ∃ X, X = expM (a - b) := ⟨_, rfl⟩
    rw [← hX] at hfair hsign hneg hx hab hba hg1 hg2
    have HF := Lib.hid hfair; have HS := Lib.hid hsign; have HG1 := Lib.hid hg1; have HG2 := Lib.hid hg2
    clear hfair hsign hneg hg1 hg2 hX
    rcases hs with rfl | rfl | rfl | rfl
    · have hf := HF.out 0 (.inl rfl); have hs := HS.out 0; have g1 := fun W => HG1.out W 0 (.inl rfl); have g2 := fun W => HG2.out W 0 (.inl rfl)
      obtain ⟨n, hn⟩ : ∃ n, n = exchM a b 0 X k := ⟨_, rfl⟩
      rw [← hn] at hf hs g1 g2
      obtain ⟨-, f1, f2, f3, f4, f5, f6⟩ := hf
      have f7 : n ≤ 0 := hs.2 (by omega)
      have HG1' := Lib.hid g1; have HG2' := Lib.hid g2
      clear hs g1 g2 hn hab hba hx HF HS HG1 HG2
      go_wp2_with fail
      refine (HG1'.out _).mono ?_
      rintro e w3 ⟨rfl, hb3⟩
      have HB3 := Lib.hid (below_then HB.out hb3); clear hb3
      go_wp2_with fail
      refine (HG2'.out _).mono ?_
      rintro e w4 ⟨rfl, hb4⟩
      have HB4 := Lib.hid (below_then HB3.out hb4); clear hb4
      go_wp2_with fail
      go_roundw
      case rel => exact ⟨.inr (.inl rfl), HB4⟩
      case measure => simp [intOf]
    · have hf := HF.out 512 (.inr (.inl rfl)); have hs := HS.out 512; have g1 := fun W => HG1.out W 512 (.inr (.inl rfl)); have g2 := fun W => HG2.out W 512 (.inr (.inl rfl))
      obtain ⟨n, hn⟩ : ∃ n, n = exchM a b 512 X k := ⟨_, rfl⟩
      rw [← hn] at hf hs g1 g2
      obtain ⟨-, f1, f2, f3, f4, f5, f6⟩ := hf
      have f7 : b ≤ a → n ≤ 0 := fun h => hs.2 (hab h)
      have f8 : a ≤ b → 0 ≤ n := fun h => hs.1 (hba h)
      have hcmp : (b < a ∧ n ≤ 0) ∨ (a < b ∧ 0 ≤ n) ∨ (a = b ∧ n = 0) := by omega
      have HG1' := Lib.hid g1; have HG2' := Lib.hid g2
      clear hs g1 g2 hn hab hba hx HF HS HG1 HG2 f7 f8
      rcases hcmp with ⟨c1, c2⟩ | ⟨c1, c2⟩ | ⟨rfl, rfl⟩
      all_goals
        go_wp2_with fail
        refine (HG1'.out _).mono ?_
        rintro e w3 ⟨rfl, hb3⟩
        have HB3 := Lib.hid (below_then HB.out hb3); clear hb3
        go_wp2_with fail
        refine (HG2'.out _).mono ?_
        rintro e w4 ⟨rfl, hb4⟩
        have HB4 := Lib.hid (below_then HB3.out hb4); clear hb4
        go_wp2_with fail
        go_roundw
        case rel => exact ⟨.inr (.inr (.inl rfl)), HB4⟩
        case measure => simp [intOf]
    · have hf := HF.out 1024 (.inr (.inr rfl)); have hs := HS.out 1024; have g1 := fun W => HG1.out W 1024 (.inr (.inr rfl)); have g2 := fun W => HG2.out W 1024 (.inr (.inr rfl))
      obtain ⟨n, hn⟩ : ∃ n, n = exchM a b 1024 X k := ⟨_, rfl⟩
      rw [← hn] at hf hs g1 g2
      obtain ⟨-, f1, f2, f3, f4, f5, f6⟩ := hf
      have f7 : 0 ≤ n := hs.1 (by omega)
      have HG1' := Lib.hid g1; have HG2' := Lib.hid g2
      clear hs g1 g2 hn hab hba hx HF HS HG1 HG2
      go_wp2_with fail
      refine (HG1'.out _).mono ?_
      rintro e w3 ⟨rfl, hb3⟩
      have HB3 := Lib.hid (below_then HB.out hb3); clear hb3
      go_wp2_with fail
      refine (HG2'.out _).mono ?_
      rintro e w4 ⟨rfl, hb4⟩
      have HB4 := Lib.hid (below_then HB3.out hb4); clear hb4
      go_wp2_with fail
      go_roundw
      case rel => exact ⟨.inr (.inr (.inr rfl)), HB4⟩
      case measure => simp [intOf]
    · clear HF HS HG1 HG2 hx hab hba
      go_wp2_with fail
      refine (Pick_any _ _ _ (by omega) (by omega)).mono ?_
      rintro e w2 ⟨D, D0, D1, rfl, rfl⟩
      have hst := expM_step D0
      have hng := expM_neg D
      obtain ⟨E0, hE0⟩ : ∃ E, E = expM D := ⟨_, rfl⟩
      obtain ⟨E1, hE1⟩ : ∃ E, E = expM (D + 1) := ⟨_, rfl⟩
      obtain ⟨E2, hE2⟩ : ∃ E, E = expM (-D) := ⟨_, rfl⟩
      rw [← hE0, ← hE1] at hst
      rw [← hE0, ← hE2] at hng
      obtain ⟨t1, t2, t3⟩ := hst
      have hE2b : -1000 ≤ E2 ∧ E2 ≤ 1024 := by omega
      obtain ⟨t4, t5⟩ := hE2b
      have HE0 := Lib.hid hE0; have HE1 := Lib.hid hE1; have HE2 := Lib.hid hE2
      have ht3 : E0 ≤ 1014 := by omega
      clear hE0 hE1 hE2
      go_wp2_with fail
      refine (Expected_any _ _ E0 HE0.out (by omega) (by omega)).mono ?_
      rintro e w3 ⟨rfl, hb3⟩
      have HB3 := Lib.hid (below_then HB.out hb3); clear hb3
      go_wp2_with fail
      refine (Expected_any _ _ E1 HE1.out (by omega) (by omega)).mono ?_
      rintro e w4 ⟨rfl, hb4⟩
      have HB4 := Lib.hid (below_then HB3.out hb4); clear hb4
      go_wp2_with fail
      refine (Expected_any _ _ E2 HE2.out (by omega) (by omega)).mono ?_
      rintro e w5 ⟨rfl, hb5⟩
      have HB5 := Lib.hid (below_then HB4.out hb5); clear hb5
      go_wp2_with fail
      refine (Expected_any _ _ 512 expM_zero.symm (by omega) (by omega)).mono ?_
      rintro e w6 ⟨rfl, hb6⟩
      have HB6 := Lib.hid (below_then HB5.out hb6); clear hb6
      go_wp2_with fail
      go_ret
      exact ⟨rfl, HB6.out⟩
end Go.Proofs.Ytkceefheeicmbaa
