/-
  ROUND ROBIN AND SHARES, in the plain model of package budget.
-/
import Derived.Test.YtkiknbjokknemaaGreatBudL
namespace Go.Proofs.YtkiknbjokknemaaGreat

theorem runM_succ (l : List It) (ws : List (Int × Int)) (k s : Nat) : runM l ws k (s + 1) = ((stepM (runM l ws k s).1 ws k).1, (runM l ws k s).2 ++ [(stepM (runM l ws k s).1 ws k).2]) := rfl

/-- The one that comes before all others is the first. -/
theorem order_head {out : List It} {r : Nat} (hr : r < out.length) (h : ∀ j, j < out.length → j ≠ r → before out r j = true) : (order out).take 1 = [r] := by
  have hl : ((order out).take 1).length = 1 := by rw [take_len]; omega
  obtain ⟨a, ha⟩ := List.length_eq_one_iff.1 hl
  rw [ha]
  have hm : a ∈ (order out).take 1 := by rw [ha]; simp
  have halt := mem_order.1 (List.mem_of_mem_take hm)
  by_cases c : a = r
  · rw [c]
  · have := take_before hr hm (h a halt c)
    rw [ha] at this
    simp at this
    exact absurd this.symm c

theorem validNil : ValidP [] := ⟨⟨by simp, fun _ h => by simp at h, List.Pairwise.nil⟩, fun _ h => by cases h⟩

/-! ### Turns -/
def ageT (n t i : Nat) : Nat := if i < t % n then t % n - 1 - i else if t / n = 0 then t else n + t % n - 1 - i

theorem ageT_next {n t i : Nat} (hn : 0 < n) (hi : i < n) : (if i = t % n then 0 else ageT n t i + 1) = ageT n (t + 1) i := by
  have hr := Nat.mod_lt t hn
  have hd := Nat.div_add_mod t n
  obtain ⟨q, hq⟩ : ∃ q, q = t / n := ⟨_, rfl⟩
  obtain ⟨r, hrr⟩ : ∃ r, r = t % n := ⟨_, rfl⟩
  rw [← hq, ← hrr] at hd
  rw [← hrr] at hr
  by_cases c : r + 1 < n
  · have e1 : (t + 1) % n = r + 1 := by rw [← hd, Nat.add_assoc, Nat.mul_add_mod]; exact Nat.mod_eq_of_lt c
    have e2 : (t + 1) / n = q := by rw [← hd, Nat.add_assoc, Nat.mul_add_div hn, Nat.div_eq_of_lt c]; omega
    unfold ageT
    rw [e1, e2, ← hrr, ← hq]
    by_cases hq0 : q = 0
    · subst hq0
      have : t = r := by omega
      split <;> split <;> (try split) <;> (try split) <;> omega
    · split <;> split <;> (try split) <;> (try split) <;> omega
  · have hn1 : r + 1 = n := by omega
    have hd1 : n * q + n = t + 1 := by omega
    have e1 : (t + 1) % n = 0 := by rw [← hd1]; simp
    have e2 : (t + 1) / n = q + 1 := by rw [← hd1, show n * q + n = n * (q + 1) by rw [Nat.mul_add, Nat.mul_one]]; exact Nat.mul_div_cancel_left _ hn
    unfold ageT
    rw [e1, e2, ← hrr, ← hq]
    by_cases hq0 : q = 0
    · subst hq0
      have : t = r := by omega
      split <;> split <;> (try split) <;> (try split) <;> omega
    · split <;> split <;> (try split) <;> (try split) <;> omega

theorem ageT_first {n t i : Nat} (hn : 0 < n) (hi : i < n) (h : i ≠ t % n) : ageT n t i < ageT n t (t % n) ∨ (ageT n t i = ageT n t (t % n) ∧ t % n < i) := by
  have hr := Nat.mod_lt t hn
  have hd := Nat.div_add_mod t n
  obtain ⟨q, hq⟩ : ∃ q, q = t / n := ⟨_, rfl⟩
  obtain ⟨r, hrr⟩ : ∃ r, r = t % n := ⟨_, rfl⟩
  rw [← hq, ← hrr] at hd
  unfold ageT
  rw [← hrr] at hr h ⊢
  rw [← hq]
  by_cases hq0 : q = 0
  · subst hq0
    have : t = r := by omega
    split <;> (try split) <;> (try split) <;> omega
  · split <;> (try split) <;> (try split) <;> omega

theorem ageT_le {n t i : Nat} (hn : 0 < n) (hn2 : n ≤ 16) : ageT n t i ≤ t + 32 := by
  have hr := Nat.mod_lt t hn
  unfold ageT
  split <;> (try split) <;> omega

theorem turns_state {ws : List (Int × Int)} (hw : RightP ws) {W : Int} (hW : ∀ x ∈ ws, x.2 = W) (hW1 : 1 ≤ W) (hW2 : W ≤ 16) (hn : 0 < ws.length) (hn2 : ws.length ≤ 16) (t : Nat) (ht : t ≤ 80) :
    ∀ i x, ws[i]? = some x → scoreOf (runM [] ws 1 t).1 x.1 = W * (ageT ws.length t i : Int) := by
  induction t with
  | zero =>
    intro i x hx
    have hi := (List.getElem?_eq_some_iff.1 hx).1
    have : ageT ws.length 0 i = 0 := by unfold ageT; simp
    rw [this]
    simp [runM, scoreOf]
  | succ t ih =>
    have ih := ih (by omega)
    intro i x hx
    have hi := (List.getElem?_eq_some_iff.1 hx).1
    have hv := runM_valid validNil hw 1 t
    have hp : places (runM [] ws 1 t).1 ws 1 = [t % ws.length] := by
      refine order_head (by rw [outs_len]; exact Nat.mod_lt _ hn) fun j hj hjr => ?_
      rw [outs_len] at hj
      obtain ⟨y, hy⟩ : ∃ y, ws[j]? = some y := ⟨_, List.getElem?_eq_getElem hj⟩
      obtain ⟨z, hz⟩ : ∃ z, ws[t % ws.length]? = some z := ⟨_, List.getElem?_eq_getElem (Nat.mod_lt _ hn)⟩
      rw [before_iff, outs_getD hy, outs_getD hz, gitm_sc, gitm_sc, ih j y hy, ih _ z hz, hW y (List.mem_of_getElem? hy), hW z (List.mem_of_getElem? hz)]
      have a1 := ageT_le (t := t) (i := j) hn hn2
      have a2 := ageT_le (t := t) (i := t % ws.length) hn hn2
      have key := ageT_first hn hj hjr
      have m1 : W * (ageT ws.length t j : Int) ≤ 16 * 112 := Int.mul_le_mul hW2 (by omega) (by omega) (by omega)
      have m2 : W * (ageT ws.length t (t % ws.length) : Int) ≤ 16 * 112 := Int.mul_le_mul hW2 (by omega) (by omega) (by omega)
      unfold topScore
      rcases key with k1 | ⟨k1, k2⟩
      · have : W * (ageT ws.length t j : Int) < W * (ageT ws.length t (t % ws.length) : Int) := Int.mul_lt_mul_of_pos_left (by omega) (by omega)
        omega
      · rw [k1]; right; exact ⟨rfl, k2⟩
    have hs := score_step hv hw 1 i hx
    rw [runM_succ]
    simp only
    rw [hs, hp, ← ageT_next hn hi]
    simp only [List.mem_singleton]
    split
    · simp
    · rw [gitm_sc, ih i x hx, hW x (List.mem_of_getElem? hx)]
      have a1 := ageT_le (t := t) (i := i) hn hn2
      have m1 : W * (ageT ws.length t i : Int) ≤ 16 * 112 := Int.mul_le_mul hW2 (by omega) (by omega) (by omega)
      unfold topScore
      rw [Int.natCast_add, Int.mul_add]
      simp only [Int.natCast_one, Int.mul_one]
      omega

/-- Everybody in turn. -/
theorem turns_sent {ws : List (Int × Int)} (hw : RightP ws) {W : Int} (hW : ∀ x ∈ ws, x.2 = W) (hW1 : 1 ≤ W) (hW2 : W ≤ 16) (hn : 0 < ws.length) (hn2 : ws.length ≤ 16) (t : Nat) (ht : t < 80) :
    ∃ z, ws[t % ws.length]? = some z ∧ (stepM (runM [] ws 1 t).1 ws 1).2 = [z.1] := by
  have ih := turns_state hw hW hW1 hW2 hn hn2 t (by omega)
  obtain ⟨z, hz⟩ : ∃ z, ws[t % ws.length]? = some z := ⟨_, List.getElem?_eq_getElem (Nat.mod_lt _ hn)⟩
  refine ⟨z, hz, ?_⟩
  have hp : places (runM [] ws 1 t).1 ws 1 = [t % ws.length] := by
    refine order_head (by rw [outs_len]; exact Nat.mod_lt _ hn) fun j hj hjr => ?_
    rw [outs_len] at hj
    obtain ⟨y, hy⟩ : ∃ y, ws[j]? = some y := ⟨_, List.getElem?_eq_getElem hj⟩
    rw [before_iff, outs_getD hy, outs_getD hz, gitm_sc, gitm_sc, ih j y hy, ih _ z hz, hW y (List.mem_of_getElem? hy), hW z (List.mem_of_getElem? hz)]
    have a1 := ageT_le (t := t) (i := j) hn hn2
    have a2 := ageT_le (t := t) (i := t % ws.length) hn hn2
    have key := ageT_first hn hj hjr
    have m1 : W * (ageT ws.length t j : Int) ≤ 16 * 112 := Int.mul_le_mul hW2 (by omega) (by omega) (by omega)
    have m2 : W * (ageT ws.length t (t % ws.length) : Int) ≤ 16 * 112 := Int.mul_le_mul hW2 (by omega) (by omega) (by omega)
    unfold topScore
    rcases key with k1 | ⟨k1, k2⟩
    · have : W * (ageT ws.length t j : Int) < W * (ageT ws.length t (t % ws.length) : Int) := Int.mul_lt_mul_of_pos_left (by omega) (by omega)
      omega
    · rw [k1]; right; exact ⟨rfl, k2⟩
  simp only [stepM, hp, List.map_cons, List.map_nil]
  rw [outs_getD hz]; rfl

theorem runM_get (l : List It) (ws : List (Int × Int)) (k : Nat) : ∀ (s t : Nat), t < s → (runM l ws k s).2[t]? = some (stepM (runM l ws k t).1 ws k).2 := by
  intro s
  induction s with
  | zero => intro t h; omega
  | succ s ih =>
    intro t ht
    rw [runM_succ]
    simp only
    by_cases c : t < s
    · rw [List.getElem?_append_left (by rw [runM_len]; exact c)]; exact ih t c
    · have : t = s := by omega
      subst this
      rw [List.getElem?_append_right (by rw [runM_len]; exact Nat.le_refl _), runM_len]
      simp

/-! ### Shares -/
def cntOf (ls : List (List Int)) (id : Int) : Nat := (ls.flatten).count id
theorem cntOf_nil (id : Int) : cntOf [] id = 0 := rfl
theorem cntOf_snoc (ls : List (List Int)) (x : List Int) (id : Int) : cntOf (ls ++ [x]) id = cntOf ls id + x.count id := by simp [cntOf]

theorem ids_inj {ws : List (Int × Int)} (hp : ws.Pairwise fun a b => a.1 < b.1) {i j : Nat} {x y : Int × Int} (hi : ws[i]? = some x) (hj : ws[j]? = some y) (h : x.1 = y.1) : i = j := by
  rw [List.pairwise_iff_getElem] at hp
  obtain ⟨h1, e1⟩ := List.getElem?_eq_some_iff.1 hi
  obtain ⟨h2, e2⟩ := List.getElem?_eq_some_iff.1 hj
  rcases Nat.lt_trichotomy i j with c | c | c
  · have := hp i j h1 h2 c; rw [e1, e2] at this; omega
  · exact c
  · have := hp j i h2 h1 c; rw [e1, e2] at this; omega

theorem count_sent {l : List It} {ws : List (Int × Int)} (hp : ws.Pairwise fun a b => a.1 < b.1) {k i : Nat} {x : Int × Int} (hi : ws[i]? = some x) : (stepM l ws k).2.count x.1 = if i ∈ places l ws k then 1 else 0 := by
  have hn := places_nodup l ws k
  have key : ∀ (p : List Nat), p.Nodup → (∀ a ∈ p, a < ws.length) → (p.map fun a => ((outs l ws).getD a default).id).count x.1 = if i ∈ p then 1 else 0 := by
    intro p
    induction p with
    | nil => intro _ _; rfl
    | cons a p ih =>
      intro hn hl
      rw [List.nodup_cons] at hn
      have ih := ih hn.2 fun b hb => hl b (by simp [hb])
      obtain ⟨y, hy⟩ : ∃ y, ws[a]? = some y := ⟨_, List.getElem?_eq_getElem (hl a (by simp))⟩
      rw [List.map_cons, List.count_cons, ih, outs_getD hy]
      have e : (gitm l y).id = y.1 := rfl
      rw [e]
      by_cases c : i = a
      · subst c
        have hxy : y = x := by rw [hi] at hy; exact (Option.some.inj hy).symm
        subst hxy
        simp [hn.1]
      · have : ¬ y.1 = x.1 := fun h => c (ids_inj hp hi hy h.symm)
        simp [this, c]
  exact key _ hn fun a ha => mem_places ha

theorem shares_state {ws : List (Int × Int)} (hw : RightP ws) (k t : Nat) (ht : t ≤ 150) :
    ∃ a : Nat → Nat, (∀ i x, ws[i]? = some x → scoreOf (runM [] ws k t).1 x.1 = x.2 * (a i : Int) ∧ a i ≤ t) ∧
      ∀ i j x y, ws[i]? = some x → ws[j]? = some y → y.2 < x.2 → cntOf (runM [] ws k t).2 y.1 + (if a i < a j then 1 else 0) ≤ cntOf (runM [] ws k t).2 x.1 := by
  induction t with
  | zero =>
    refine ⟨fun _ => 0, fun i x _ => ⟨by simp [runM, scoreOf], Nat.le_refl _⟩, fun i j x y _ _ _ => ?_⟩
    simp [runM, cntOf]
  | succ t ih =>
    obtain ⟨a, h1, h2⟩ := ih (by omega)
    have hv := runM_valid validNil hw k t
    have hg : ∀ i x, ws[i]? = some x → (gitm (runM [] ws k t).1 x).sc = x.2 * ((a i : Int) + 1) := fun i x hx => by
      obtain ⟨e1, e2⟩ := h1 i x hx
      have hb := hw.2.1 x (List.mem_of_getElem? hx)
      have m1 : x.2 * (a i : Int) ≤ 16 * 150 := Int.mul_le_mul hb.2.2.2 (by omega) (by omega) (by omega)
      rw [gitm_sc, e1, Int.mul_add, Int.mul_one]
      unfold topScore
      omega
    refine ⟨fun i => if i ∈ places (runM [] ws k t).1 ws k then 0 else a i + 1, fun i x hx => ?_, fun i j x y hx hy hxy => ?_⟩
    · rw [runM_succ]
      simp only
      rw [score_step hv hw k i hx]
      split
      · exact ⟨by simp, Nat.zero_le _⟩
      · refine ⟨?_, by have := (h1 i x hx).2; omega⟩
        rw [hg i x hx]; simp
    · rw [runM_succ]
      simp only
      rw [cntOf_snoc, cntOf_snoc, count_sent hw.2.2 hx, count_sent hw.2.2 hy]
      have h := h2 i j x y hx hy hxy
      by_cases ci : i ∈ places (runM [] ws k t).1 ws k
      · by_cases cj : j ∈ places (runM [] ws k t).1 ws k
        · simp only [ci, cj, if_true]; simp; split at h <;> omega
        · simp only [ci, cj, if_true, if_false]; simp; split at h <;> omega
      · by_cases cj : j ∈ places (runM [] ws k t).1 ws k
        · simp only [ci, cj, if_true, if_false]
          have hlt : a i < a j := by
            rcases Nat.lt_or_ge (a i) (a j) with c | c
            · exact c
            · exfalso
              refine ci (places_before hx hy cj (.inl ?_))
              rw [hg i x hx, hg j y hy]
              have hb := hw.2.1 y (List.mem_of_getElem? hy)
              calc y.2 * ((a j : Int) + 1) ≤ y.2 * ((a i : Int) + 1) := Int.mul_le_mul_of_nonneg_left (by omega) (by omega)
                _ < x.2 * ((a i : Int) + 1) := Int.mul_lt_mul_of_pos_right hxy (by omega)
          rw [if_pos hlt] at h
          simp
          omega
        · simp only [ci, cj, if_false]; simp; split at h <;> split <;> omega

/-- Who weighs more is sent as often. -/
theorem shares {ws : List (Int × Int)} (hw : RightP ws) (k t : Nat) (ht : t ≤ 150) {x y : Int × Int} (hx : x ∈ ws) (hy : y ∈ ws) (h : y.2 < x.2) : cntOf (runM [] ws k t).2 y.1 ≤ cntOf (runM [] ws k t).2 x.1 := by
  obtain ⟨a, -, h2⟩ := shares_state hw k t ht
  obtain ⟨i, hi⟩ := List.mem_iff_getElem?.1 hx
  obtain ⟨j, hj⟩ := List.mem_iff_getElem?.1 hy
  have := h2 i j x y hi hj h
  omega
end Go.Proofs.YtkiknbjokknemaaGreat
