/-
  PLAIN LAWS of teams: what one gains the other one loses; who is free of the ends gains what all gain.
-/
import Derived.Test.YtkceefheeicmbaaRatH
namespace Go.Proofs.Ytkceefheeicmbaa

theorem roundM_k {n k : Int} (h1 : n ≤ 1014 * k) (h2 : -(1014 * k) ≤ n) (hk : 1 ≤ k) : -k ≤ roundM n ∧ roundM n ≤ k := by
  unfold roundM; split <;> omega
theorem prod_k {k s e : Int} (hk : 1 ≤ k) (hs : s = 0 ∨ s = 512 ∨ s = 1024) (he : 10 ≤ e ∧ e ≤ 1014) : k * (s - e) ≤ 1014 * k ∧ -(1014 * k) ≤ k * (s - e) := by
  have h1 : k * (s - e) ≤ k * 1014 := Int.mul_le_mul_of_nonneg_left (by omega) (by omega)
  have h2 : k * (-1014) ≤ k * (s - e) := Int.mul_le_mul_of_nonneg_left (by omega) (by omega)
  omega
theorem exch_free {a b k s e : Int} (ha : k ≤ a ∧ a ≤ 4000 - k) (hb : k ≤ b ∧ b ≤ 4000 - k) (hk : 1 ≤ k ∧ k ≤ 64) (hs : s = 0 ∨ s = 512 ∨ s = 1024) (he : 10 ≤ e ∧ e ≤ 1014) : exchM a b s e k = roundM (k * (s - e)) := by
  obtain ⟨h1, h2⟩ := prod_k hk.1 hs he
  obtain ⟨r1, r2⟩ := roundM_k h1 h2 hk.1
  unfold exchM cutM
  obtain ⟨R, hR⟩ : ∃ R, R = roundM (k * (s - e)) := ⟨_, rfl⟩
  rw [← hR] at r1 r2 ⊢
  omega
theorem team_get {xs ys : List Int} {s k : Int} (hok : teamOk xs ys s k = true) {i : Nat} {a b : Int} (h1 : xs[i]? = some a) (h2 : ys[i]? = some b) :
    ∃ g : Int, (matchX xs ys s k)[i]? = some (a + g) ∧ (matchY xs ys s k)[i]? = some (b - g) ∧ 0 ≤ a ∧ a ≤ 4000 ∧ 0 ≤ b ∧ b ≤ 4000 ∧ 0 ≤ a + g ∧ a + g ≤ 4000 ∧ 0 ≤ b - g ∧ b - g ≤ 4000 ∧ g = exchM a b s (teamX xs ys) k ∧ (k ≤ a → a ≤ 4000 - k → k ≤ b → b ≤ 4000 - k → g = roundM (k * (s - teamX xs ys))) := by
  have hok' := hok
  unfold teamOk at hok'
  simp only [Bool.and_eq_true, decide_eq_true_eq, and_assoc] at hok'
  obtain ⟨e1, e2, e3, e4, e5, e6, e7⟩ := hok'
  rw [List.all_eq_true] at e4 e5
  have ha := inR_iff.1 (e4 a (List.mem_of_getElem? h1))
  have hb := inR_iff.1 (e5 b (List.mem_of_getElem? h2))
  have hg := gains_get s k h1 h2
  have hf := exch_fair ha hb (isWt_iff.1 e7) (isSc_iff.1 e6) (expM_bd (Int.tdiv (sumM xs - sumM ys) xs.length))
  obtain ⟨-, f1, f2, f3, f4, -, -⟩ := hf
  refine ⟨exchM a b s (teamX xs ys) k, ?_, ?_, ha.1, ha.2, hb.1, hb.2, f1, f2, f3, f4, rfl, fun q1 q2 q3 q4 => exch_free ⟨q1, q2⟩ ⟨q3, q4⟩ (isWt_iff.1 e7) (isSc_iff.1 e6) (expM_bd _)⟩
  · unfold matchX; rw [List.getElem?_zipWith, h1, hg]
  · unfold matchY; rw [List.getElem?_zipWith, h2, hg]
theorem match_len {xs ys : List Int} {s k : Int} (h : xs.length = ys.length) : (matchX xs ys s k).length = xs.length ∧ (matchY xs ys s k).length = xs.length := by
  have hg := len_gains xs ys s k h
  unfold matchX matchY
  rw [List.length_zipWith, List.length_zipWith, hg]
  omega
theorem team_one {a b : Int} : teamX [a] [b] = expM (a - b) := by
  unfold teamX sumM
  simp
end Go.Proofs.Ytkceefheeicmbaa
