/-
  PLAIN LAWS for BudgetBound: the ledger of who waits.
-/
import Derived.Test.YtkiknbjokknemaaBudB
namespace Go.Proofs.Ytkiknbjokknemaa

/-- What the law keeps of an ID. -/
structure Wt where
  s : Nat
  least : Int
  n : Nat
  most : Int
  k : Nat
  deriving Inhabited

def noWt : Wt := ⟨0, 0, 0, 0, 0⟩
/-- One step more. -/
def Wt.next (x : Wt) (weight : Int) (n : Nat) (most : Int) (k : Nat) : Wt :=
  if x.s = 0 then ⟨1, weight, n, most, k⟩ else ⟨x.s + 1, min x.least weight, max x.n n, max x.most most, min x.k k⟩

/-- The greatest weight. -/
def mostOf (ws : List (Int × Int)) : Int := ws.foldl (fun a x => max a x.2) 0
theorem mostOf_snoc (ws : List (Int × Int)) (x : Int × Int) : mostOf (ws ++ [x]) = max (mostOf ws) x.2 := by simp [mostOf]
theorem mostOf_fold (ws : List (Int × Int)) (a : Int) : a ≤ ws.foldl (fun a x => max a x.2) a ∧ ∀ x ∈ ws, x.2 ≤ ws.foldl (fun a x => max a x.2) a := by
  induction ws generalizing a with
  | nil => exact ⟨Int.le_refl _, fun _ h => by cases h⟩
  | cons y ws ih =>
    have := ih (max a y.2)
    simp only [List.foldl_cons]
    refine ⟨by omega, fun x hx => ?_⟩
    rcases List.mem_cons.1 hx with rfl | h
    · omega
    · exact this.2 x h
theorem mostOf_le {ws : List (Int × Int)} {B : Int} (hB : 0 ≤ B) (h : ∀ x ∈ ws, x.2 ≤ B) : mostOf ws ≤ B := by
  unfold mostOf
  have : ∀ a, a ≤ B → ws.foldl (fun a x => max a x.2) a ≤ B := by
    induction ws with
    | nil => exact fun a ha => ha
    | cons y ws ih =>
      intro a ha
      have hy := h y (by simp)
      exact ih (fun x hx => h x (by simp [hx])) _ (by simp only; omega)
  exact this 0 hB
theorem le_mostOf {ws : List (Int × Int)} {x : Int × Int} (h : x ∈ ws) : x.2 ≤ mostOf ws := (mostOf_fold ws 0).2 x h
theorem mostOf_pos (ws : List (Int × Int)) : 0 ≤ mostOf ws := (mostOf_fold ws 0).1

/-- The weight of an ID, 0 if it is not wanted. -/
def wtOf (ws : List (Int × Int)) (id : Int) : Int := ws.foldl (fun a x => if x.1 = id then x.2 else a) 0
theorem wtOf_snoc (ws : List (Int × Int)) (x : Int × Int) (id : Int) : wtOf (ws ++ [x]) id = if x.1 = id then x.2 else wtOf ws id := by simp [wtOf]
theorem wtOf_mem (ws : List (Int × Int)) (id : Int) : wtOf ws id ≠ 0 → (id, wtOf ws id) ∈ ws := by
  unfold wtOf
  suffices ∀ a : Int, (ws.foldl (fun a x => if x.1 = id then x.2 else a) a = a ∨ (id, ws.foldl (fun a x => if x.1 = id then x.2 else a) a) ∈ ws) by
    intro h
    rcases this 0 with h1 | h1
    · exact absurd h1 h
    · exact h1
  induction ws with
  | nil => exact fun a => .inl rfl
  | cons y ws ih =>
    intro a
    simp only [List.foldl_cons]
    by_cases c : y.1 = id
    · rw [if_pos c]
      rcases ih y.2 with h | h
      · right; rw [h, ← c]; simp
      · right; simp [h]
    · rw [if_neg c]
      rcases ih a with h | h
      · left; exact h
      · right; simp [h]

section
variable {l : Nat → List It} {ws : Nat → List (Int × Int)} {ks : Nat → Nat} {d : Int}

theorem Waits.none (s : Nat) (w M : Int) (n k : Nat) : Waits l ws ks d s 0 w M n k :=
  ⟨fun _ h => absurd h (by omega), fun _ h => absurd h (by omega), fun _ h => absurd h (by omega), fun _ h => absurd h (by omega), fun _ h => absurd h (by omega), fun _ h => absurd h (by omega), fun _ h => absurd h (by omega)⟩

theorem Waits.more {s t : Nat} {w M w' M' : Int} {n k n' k' : Nat} (h : Waits l ws ks d s t w M n k) (hw : w' ≤ w) (hM : M ≤ M') (hn : n ≤ n') (hk : k' ≤ k)
    (h1 : l (s + t + 1) = (stepM (l (s + t)) (ws (s + t)) (ks (s + t))).1) (h2 : RightP (ws (s + t))) {wt : Int} (h3 : (d, wt) ∈ ws (s + t)) (h4 : w' ≤ wt)
    (h5 : d ∉ (stepM (l (s + t)) (ws (s + t)) (ks (s + t))).2) (h6 : (ws (s + t)).length ≤ n') (h7 : ∀ x ∈ ws (s + t), x.2 ≤ M') (h8 : k' ≤ ks (s + t)) : Waits l ws ks d s (t + 1) w' M' n' k' := by
  have c : ∀ j, j < t + 1 → j < t ∨ j = t := fun j hj => by omega
  refine ⟨fun j hj => ?_, fun j hj => ?_, fun j hj => ?_, fun j hj => ?_, fun j hj => ?_, fun j hj => ?_, fun j hj => ?_⟩
  all_goals rcases c j hj with hj | rfl
  · exact h.step j hj
  · exact h1
  · exact h.right j hj
  · exact h2
  · obtain ⟨wt, a, b⟩ := h.want j hj; exact ⟨wt, a, by omega⟩
  · exact ⟨wt, h3, h4⟩
  · exact h.not j hj
  · exact h5
  · have := h.len j hj; omega
  · exact h6
  · exact fun x hx => Int.le_trans (h.most j hj x hx) hM
  · exact h7
  · have := h.kk j hj; omega
  · exact h8

/-- The ledger of one ID behind t steps. -/
structure WInv (l : Nat → List It) (ws : Nat → List (Int × Int)) (ks : Nat → Nat) (d : Int) (t : Nat) (x : Wt) : Prop where
  le : x.s ≤ t
  waits : Waits l ws ks d (t - x.s) x.s x.least x.most x.n x.k
  bd : 0 < x.s → 1 ≤ x.least ∧ x.least ≤ x.most ∧ x.most ≤ 16 ∧ 1 ≤ x.n ∧ x.n ≤ 64 ∧ 1 ≤ x.k ∧ x.k ≤ 4

theorem WInv.zero (t : Nat) : WInv l ws ks d t noWt := ⟨Nat.zero_le _, Waits.none _ _ _ _ _, fun h => absurd h (Nat.lt_irrefl _)⟩

theorem WInv.next {t : Nat} {x : Wt} (h : WInv l ws ks d t x) (h1 : l (t + 1) = (stepM (l t) (ws t) (ks t)).1) (h2 : RightP (ws t)) {wt : Int} (h3 : (d, wt) ∈ ws t)
    (h5 : d ∉ (stepM (l t) (ws t) (ks t)).2) (hk1 : 1 ≤ ks t) (hk4 : ks t ≤ 4) : WInv l ws ks d (t + 1) (x.next wt (ws t).length (mostOf (ws t)) (ks t)) := by
  have hb := h2.2.1 _ h3
  simp only at hb
  have hle := le_mostOf h3
  simp only at hle
  have hm16 : mostOf (ws t) ≤ 16 := mostOf_le (by omega) fun y hy => (h2.2.1 y hy).2.2.2
  have hlen : 1 ≤ (ws t).length := List.length_pos_of_mem h3
  have hlen64 := h2.1
  unfold Wt.next
  by_cases c : x.s = 0
  · rw [if_pos c]
    refine ⟨by simp only; omega, ?_, fun _ => ⟨by simp only; omega, by simp only; omega, hm16, hlen, hlen64, hk1, hk4⟩⟩
    simp only
    have e : t + 1 - 1 = t := by omega
    rw [e]
    exact (Waits.none (l := l) (ws := ws) (ks := ks) (d := d) t wt (mostOf (ws t)) (ws t).length (ks t)).more (Int.le_refl _) (Int.le_refl _) (Nat.le_refl _) (Nat.le_refl _) h1 h2 h3 (Int.le_refl _) h5 (Nat.le_refl _) (fun y hy => le_mostOf hy) (Nat.le_refl _)
  · rw [if_neg c]
    have hbd := h.bd (by omega)
    have hl := h.le
    refine ⟨by simp only; omega, ?_, fun _ => ?_⟩
    · simp only
      have e : t + 1 - (x.s + 1) = t - x.s := by omega
      have e2 : t - x.s + x.s = t := by omega
      rw [e]
      exact h.waits.more (Int.min_le_left _ _) (Int.le_max_left _ _) (Nat.le_max_left _ _) (Nat.min_le_left _ _) (by rw [e2]; exact h1) (by rw [e2]; exact h2) (by rw [e2]; exact h3) (Int.min_le_right _ _) (by rw [e2]; exact h5) (by rw [e2]; exact Nat.le_max_right _ _)
        (fun y hy => by rw [e2] at hy; exact Int.le_trans (le_mostOf hy) (Int.le_max_right _ _)) (by rw [e2]; exact Nat.min_le_right _ _)
    · simp only; omega

theorem WInv.bound {t : Nat} {x : Wt} (h : WInv l ws ks d t x) (h0 : ∀ j, ValidP (l j)) (ht : t ≤ 200) (hs : 0 < x.s) : (x.s : Int) ≤ 2 * ((x.n : Int) - 1) * (x.least + 2 * x.most) / ((x.k : Int) * x.least) := by
  obtain ⟨b1, b2, b3, b4, b5, b6, b7⟩ := h.bd hs
  have hl := h.le
  refine h.waits.bound_div (h0 _) b1 (by omega) ?_ b4 b6
  have : (x.s : Int) * x.least ≤ 200 * 16 := Int.mul_le_mul (by omega) (by omega) (by omega) (by omega)
  unfold topScore; omega
end

/-- The items behind t steps. -/
def itemsAt (ws : Nat → List (Int × Int)) (ks : Nat → Nat) : Nat → List It
  | 0 => []
  | t + 1 => (stepM (itemsAt ws ks t) (ws t) (ks t)).1
theorem itemsAt_valid {ws : Nat → List (Int × Int)} {ks : Nat → Nat} (h : ∀ j, RightP (ws j)) : ∀ t, ValidP (itemsAt ws ks t)
  | 0 => ⟨⟨by simp [itemsAt], fun x hx => absurd hx (by simp [itemsAt]), by simp [itemsAt]⟩, fun x hx => absurd hx (by simp [itemsAt])⟩
  | t + 1 => stepM_valid (itemsAt_valid h t) (h t) _
end Go.Proofs.Ytkiknbjokknemaa
