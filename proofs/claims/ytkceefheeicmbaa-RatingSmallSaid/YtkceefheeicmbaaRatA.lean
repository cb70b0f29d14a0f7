/-
  THE PLAIN MODEL of rating's numbers: expected scores, what is gained; and its laws. No program in sight.
-/
namespace Go.Proofs.Ytkceefheeicmbaa

def tabR : List Int := [512, 585, 655, 720, 778, 828, 869, 903, 931, 953, 969, 983, 993, 1000, 1006, 1011, 1014]
def tb (i : Nat) : Int := tabR.getD i 0

/-- Between two entries of the table. -/
def expAt (i : Nat) (p : Int) : Int := tb i + (tb (i + 1) - tb i) * p / 50
def expP (d : Int) : Int := expAt (d / 50).toNat (d % 50)
def expM (d : Int) : Int := if 800 ≤ d then 1014 else if d ≤ -800 then 10 else if d < 0 then 1024 - expP (-d) else expP d

theorem tb_all : ∀ i : Fin 16, 512 ≤ tb i ∧ tb i ≤ 1014 ∧ tb i ≤ tb (i + 1) ∧ tb (i + 1) ≤ 1014 ∧ tb (i + 1) - tb i ≤ 73 := by decide
theorem tb_bd {i : Nat} (h : i < 16) : 512 ≤ tb i ∧ tb i ≤ 1014 ∧ tb i ≤ tb (i + 1) ∧ tb (i + 1) ≤ 1014 ∧ tb (i + 1) - tb i ≤ 73 := tb_all ⟨i, h⟩

theorem expAt_bd {i : Nat} (h : i < 16) {p : Int} (h0 : 0 ≤ p) (h1 : p ≤ 50) : tb i ≤ expAt i p ∧ expAt i p ≤ tb (i + 1) := by
  obtain ⟨-, -, b, -, -⟩ := tb_bd h
  unfold expAt
  have m0 : 0 ≤ (tb (i + 1) - tb i) * p := Int.mul_nonneg (by omega) h0
  have m1 : (tb (i + 1) - tb i) * p ≤ (tb (i + 1) - tb i) * 50 := Int.mul_le_mul_of_nonneg_left h1 (by omega)
  omega
theorem expAt_mono {i : Nat} (h : i < 16) {p q : Int} (h0 : p ≤ q) : expAt i p ≤ expAt i q := by
  obtain ⟨-, -, b, -, -⟩ := tb_bd h
  unfold expAt
  have m1 : (tb (i + 1) - tb i) * p ≤ (tb (i + 1) - tb i) * q := Int.mul_le_mul_of_nonneg_left h0 (by omega)
  omega
theorem expAt_zero (i : Nat) : expAt i 0 = tb i := by unfold expAt; simp
theorem expAt_top (i : Nat) : expAt i 50 = tb (i + 1) := by unfold expAt; rw [Int.mul_ediv_cancel _ (by omega)]; omega

theorem expP_bd {d : Int} (h0 : 0 ≤ d) (h1 : d < 800) : 512 ≤ expP d ∧ expP d ≤ 1014 := by
  obtain ⟨a, b, c, e, -⟩ := tb_bd (i := (d / 50).toNat) (by omega)
  have := expAt_bd (i := (d / 50).toNat) (by omega) (p := d % 50) (by omega) (by omega)
  unfold expP; omega
theorem expP_step {d : Int} (h0 : 0 ≤ d) (h1 : d + 1 < 800) : expP d ≤ expP (d + 1) := by
  unfold expP
  by_cases c : (d + 1) / 50 = d / 50
  · rw [c]; exact expAt_mono (by omega) (by omega)
  · have e1 : d % 50 = 49 := by omega
    have e2 : ((d + 1) / 50).toNat = (d / 50).toNat + 1 := by omega
    have e3 : (d + 1) % 50 = 0 := by omega
    rw [e2, e3, expAt_zero, ← expAt_top]
    exact expAt_mono (by omega) (by omega)
theorem expM_bd (d : Int) : 10 ≤ expM d ∧ expM d ≤ 1014 := by
  unfold expM
  split
  · omega
  · split
    · omega
    · split
      · have := expP_bd (d := -d) (by omega) (by omega); omega
      · have := expP_bd (d := d) (by omega) (by omega); omega
theorem expM_zero : expM 0 = 512 := by decide
theorem expM_neg (d : Int) : expM d + expM (-d) = 1024 := by
  unfold expM
  by_cases h0 : d = 0
  · subst h0; decide
  by_cases h1 : 800 ≤ d
  · rw [if_pos h1, if_neg (by omega), if_pos (by omega)]; rfl
  by_cases h2 : d ≤ -800
  · rw [if_neg h1, if_pos h2, if_pos (by omega)]; rfl
  rw [if_neg h1, if_neg h2, if_neg (by omega : ¬ 800 ≤ -d), if_neg (by omega : ¬ -d ≤ -800)]
  by_cases h3 : d < 0
  · rw [if_pos h3, if_neg (by omega)]; omega
  · rw [if_neg h3, if_pos (by omega), Int.neg_neg]; omega
theorem expM_step {d : Int} (h0 : 0 ≤ d) : 512 ≤ expM d ∧ expM d ≤ expM (d + 1) ∧ expM (d + 1) ≤ 1014 := by
  have hb := expM_bd (d + 1)
  refine ⟨?_, ?_, hb.2⟩
  · unfold expM
    by_cases h1 : 800 ≤ d
    · rw [if_pos h1]; omega
    · rw [if_neg h1, if_neg (by omega), if_neg (by omega)]
      exact (expP_bd h0 (by omega)).1
  · unfold expM
    by_cases h1 : 800 ≤ d
    · rw [if_pos h1, if_pos (by omega)]; omega
    · rw [if_neg h1, if_neg (by omega), if_neg (by omega)]
      by_cases h2 : 800 ≤ d + 1
      · rw [if_pos h2]; exact (expP_bd h0 (by omega)).2
      · rw [if_neg h2, if_neg (by omega), if_neg (by omega)]
        exact expP_step h0 (by omega)

def roundM (n : Int) : Int := if n < 0 then -((-n + 512) / 1024) else (n + 512) / 1024
theorem roundM_neg (n : Int) : roundM (-n) = -roundM n := by
  unfold roundM
  by_cases h : n < 0
  · rw [if_pos h, if_neg (by omega)]; omega
  · by_cases h0 : n = 0
    · subst h0; decide
    · rw [if_neg h, if_pos (by omega)]; simp

def cutM (n lo hi : Int) : Int := min (max n lo) hi
/-- What a gains from b. -/
def exchM (a b score e k : Int) : Int := cutM (cutM (roundM (k * (score - e))) (-a) (4000 - a)) (b - 4000) b

def inR (a : Int) : Bool := decide (0 ≤ a) && decide (a ≤ 4000)
def isSc (s : Int) : Bool := s == 0 || s == 512 || s == 1024
def isWt (k : Int) : Bool := decide (1 ≤ k) && decide (k ≤ 64)
theorem inR_iff {a : Int} : inR a = true ↔ 0 ≤ a ∧ a ≤ 4000 := by simp [inR]
theorem isSc_iff {s : Int} : isSc s = true ↔ s = 0 ∨ s = 512 ∨ s = 1024 := by simp [isSc, or_assoc]
theorem isWt_iff {k : Int} : isWt k = true ↔ 1 ≤ k ∧ k ≤ 64 := by simp [isWt]

theorem prod_bd {k s e : Int} (hk : 1 ≤ k ∧ k ≤ 64) (hs : 0 ≤ s ∧ s ≤ 1024) (he : 0 ≤ e ∧ e ≤ 1024) : -65536 ≤ k * (s - e) ∧ k * (s - e) ≤ 65536 := by
  have h1 : k * (s - e) ≤ k * 1024 := Int.mul_le_mul_of_nonneg_left (by omega) (by omega)
  have h2 : k * (-1024) ≤ k * (s - e) := Int.mul_le_mul_of_nonneg_left (by omega) (by omega)
  omega
theorem roundM_bd {n : Int} (h : -65536 ≤ n ∧ n ≤ 65536) : -64 ≤ roundM n ∧ roundM n ≤ 64 := by
  unfold roundM; split <;> omega

/-- What is gained is what the other one loses; nobody leaves the range. -/
theorem exch_fair {a b k : Int} (ha : 0 ≤ a ∧ a ≤ 4000) (hb : 0 ≤ b ∧ b ≤ 4000) (hk : 1 ≤ k ∧ k ≤ 64) {s e : Int} (hs : s = 0 ∨ s = 512 ∨ s = 1024) (he : 10 ≤ e ∧ e ≤ 1014) :
    exchM b a (1024 - s) (1024 - e) k = -exchM a b s e k ∧ 0 ≤ a + exchM a b s e k ∧ a + exchM a b s e k ≤ 4000 ∧ 0 ≤ b - exchM a b s e k ∧ b - exchM a b s e k ≤ 4000 ∧ exchM a b s e k ≤ k ∧ -k ≤ exchM a b s e k := by
  have e1 : k * (1024 - s - (1024 - e)) = -(k * (s - e)) := by rw [show (1024 - s - (1024 - e)) = -(s - e) by omega, Int.mul_neg]
  have h1 : k * (s - e) ≤ k * 1014 := Int.mul_le_mul_of_nonneg_left (by omega) (by omega)
  have h2 : k * (-1014) ≤ k * (s - e) := Int.mul_le_mul_of_nonneg_left (by omega) (by omega)
  unfold exchM
  rw [e1, roundM_neg]
  obtain ⟨P, hP⟩ : ∃ P, P = k * (s - e) := ⟨_, rfl⟩
  rw [← hP] at h1 h2 ⊢
  have hr : roundM P ≤ k ∧ -k ≤ roundM P := by unfold roundM; split <;> omega
  obtain ⟨R, hR⟩ : ∃ R, R = roundM P := ⟨_, rfl⟩
  rw [← hR] at hr ⊢
  unfold cutM
  omega

/-- Who wins never loses points. -/
theorem exch_sign {a b k : Int} (ha : 0 ≤ a ∧ a ≤ 4000) (hb : 0 ≤ b ∧ b ≤ 4000) (hk : 1 ≤ k ∧ k ≤ 64) {s e : Int} : (e ≤ s → 0 ≤ exchM a b s e k) ∧ (s ≤ e → exchM a b s e k ≤ 0) := by
  constructor
  · intro h
    have h1 : 0 ≤ k * (s - e) := Int.mul_nonneg (by omega) (by omega)
    unfold exchM roundM cutM; rw [if_neg (by omega)]; omega
  · intro h
    have h1 : k * (s - e) ≤ k * 0 := Int.mul_le_mul_of_nonneg_left (by omega) (by omega)
    unfold exchM roundM cutM
    by_cases c : k * (s - e) < 0
    · rw [if_pos c]; omega
    · rw [if_neg c]; omega
end Go.Proofs.Ytkceefheeicmbaa
