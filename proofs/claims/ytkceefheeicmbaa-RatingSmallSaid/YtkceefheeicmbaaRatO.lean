/-
  PLAIN LAWS for the walk of Pairs: keys as lists, the greedy choice as a fold, what is taken.
-/
import Derived.Test.YtkceefheeicmbaaRatI
namespace Go.Proofs.Ytkceefheeicmbaa

/-- slices.Compare, for lists of one length. -/
def cmpL : List Int → List Int → Int
  | x :: xs, y :: ys => if x < y then -1 else if y < x then 1 else cmpL xs ys
  | _, _ => 0
theorem cmpL_bd : ∀ xs ys : List Int, -1 ≤ cmpL xs ys ∧ cmpL xs ys ≤ 1
  | [], _ => by unfold cmpL; omega
  | _ :: _, [] => by unfold cmpL; omega
  | x :: xs, y :: ys => by
    have := cmpL_bd xs ys
    unfold cmpL
    split
    · omega
    · split <;> omega
theorem cmpL_drop {xs ys : List Int} {k : Nat} {x y : Int} (h1 : xs[k]? = some x) (h2 : ys[k]? = some y) : cmpL (xs.drop k) (ys.drop k) = if x < y then -1 else if y < x then 1 else cmpL (xs.drop (k + 1)) (ys.drop (k + 1)) := by
  obtain ⟨l1, e1⟩ := List.getElem?_eq_some_iff.1 h1
  obtain ⟨l2, e2⟩ := List.getElem?_eq_some_iff.1 h2
  rw [List.drop_eq_getElem_cons l1, List.drop_eq_getElem_cons l2, e1, e2, cmpL]
theorem cmpL_end {xs ys : List Int} : cmpL (xs.drop xs.length) ys = 0 := by
  rw [List.drop_length]; unfold cmpL; rfl
def keyL (m : Key) : List Int := [m.d, m.s, m.a, m.b]
theorem cmpL_key (x y : Key) : decide (cmpL (keyL x) (keyL y) < 0) = ltK x y := by
  rw [Bool.eq_iff_iff, ltK_iff, decide_eq_true_eq]
  unfold keyL
  simp only [cmpL]
  split
  · simp; omega
  · split
    · simp; omega
    · split
      · simp; omega
      · split
        · simp; omega
        · split
          · simp; omega
          · split
            · simp; omega
            · split
              · simp; omega
              · split
                · simp; omega
                · simp; omega

/-- The greedy choice, one step. -/
def gstep (p : List Int × List (Int × Int)) (m : Key) : List Int × List (Int × Int) := if m.a ∈ p.1 ∨ m.b ∈ p.1 then p else (m.a :: m.b :: p.1, p.2 ++ [(m.a, m.b)])
def gfold (S : List Key) : List Int × List (Int × Int) := S.foldl gstep ([], [])
theorem gfold_from (S : List Key) : ∀ (T : List Int) (out : List (Int × Int)), (S.foldl gstep (T, out)).2 = out ++ greedy T S := by
  induction S with
  | nil => intro T out; simp [greedy]
  | cons m r ih =>
    intro T out
    have hs : gstep (T, out) m = if m.a ∈ T ∨ m.b ∈ T then (T, out) else (m.a :: m.b :: T, out ++ [(m.a, m.b)]) := rfl
    rw [List.foldl_cons, greedy, hs]
    split
    · exact ih T out
    · rw [ih]; simp
theorem gfold_all (S : List Key) : (gfold S).2 = greedy [] S := by
  unfold gfold; rw [gfold_from]; rfl
theorem gfold_snoc {S : List Key} {j : Nat} {m : Key} (h : S[j]? = some m) : gfold (S.take (j + 1)) = gstep (gfold (S.take j)) m := by
  unfold gfold
  rw [List.take_add_one, h, List.foldl_append]
  rfl
theorem gfold_len (S : List Key) : (gfold S).2.length ≤ S.length := by
  rw [gfold_all]
  suffices h : ∀ (S : List Key) T, (greedy T S).length ≤ S.length from h S []
  intro S
  induction S with
  | nil => intro T; simp [greedy]
  | cons m r ih =>
    intro T
    rw [greedy]
    split
    · have := ih T; simp; omega
    · have := ih (m.a :: m.b :: T); simp; omega
theorem sortK_len (l : List Key) : (sortK l).length = l.length := (sortK_perm l).length_eq
theorem mtgs_len (t : Int) : ∀ l : List Tk, (mtgs t l).length ≤ l.length * l.length
  | [] => by simp [mtgs]
  | x :: l => by
    have h1 := mtgs_len t l
    have h2 := mtgOf_len t x l
    rw [mtgs, List.length_append, List.length_cons, Nat.add_mul, Nat.mul_add]
    omega

/-! when the tickets are right -/
theorem okTo_get {l : List Tk} : ∀ {n i : Nat} {x : Tk}, okTo l n = true → i < n → l[i]? = some x → okT x = true
  | 0, _, _, _, h, _ => absurd h (Nat.not_lt_zero _)
  | n + 1, i, x, h, hi, hx => by
    rw [okTo, Bool.and_eq_true, Bool.and_eq_true] at h
    by_cases hin : i = n
    · subst hin
      have := h.1.2
      rwa [List.getD_eq_getElem?_getD, hx] at this
    · exact okTo_get h.1.1 (by omega) hx
theorem okT_iff {x : Tk} : okT x = true ↔ 1 ≤ x.id ∧ x.id ≤ 65536 ∧ 0 ≤ x.rt ∧ x.rt ≤ 4000 ∧ 0 ≤ x.si ∧ x.si ≤ 1073741824 := by
  unfold okT
  simp only [Bool.and_eq_true, decide_eq_true_eq, inR_iff, and_assoc]
theorem okTo_apart {l : List Tk} : ∀ {n i j : Nat} {x y : Tk}, okTo l n = true → i < j → j < n → l[i]? = some x → l[j]? = some y → x.id ≠ y.id
  | 0, _, _, _, _, _, _, h, _, _ => absurd h (Nat.not_lt_zero _)
  | n + 1, i, j, x, y, h, hij, hj, hx, hy => by
    rw [okTo, Bool.and_eq_true, Bool.and_eq_true] at h
    by_cases hjn : j = n
    · subst hjn
      have h2 := h.2
      rw [List.getD_eq_getElem?_getD, hy, Bool.not_eq_true', List.any_eq_false] at h2
      have := h2 x (List.mem_of_getElem? (i := i) (by rw [List.getElem?_take_of_lt hij]; exact hx))
      simpa using this
    · exact okTo_apart h.1.1 hij (by omega) hx hy
end Go.Proofs.Ytkceefheeicmbaa
