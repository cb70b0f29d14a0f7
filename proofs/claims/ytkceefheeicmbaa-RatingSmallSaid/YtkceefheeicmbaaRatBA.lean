/-
  PLAIN LAWS of the order of tickets: who is right does not hang on the order; the list moved to the front.
-/
import Derived.Test.YtkceefheeicmbaaRatO
namespace Go.Proofs.Ytkceefheeicmbaa

theorem okTo_split {l : List Tk} : ∀ {n : Nat}, n ≤ l.length → (okTo l n = true ↔ (∀ x ∈ l.take n, okT x = true) ∧ (l.take n).Pairwise fun x y => x.id ≠ y.id)
  | 0, _ => by simp [okTo]
  | n + 1, hn => by
    obtain ⟨x, hx⟩ : ∃ x, l[n]? = some x := ⟨_, List.getElem?_eq_getElem (by omega)⟩
    have ih := okTo_split (l := l) (n := n) (by omega)
    rw [okTo, List.getD_eq_getElem?_getD, hx, Bool.and_eq_true, Bool.and_eq_true, ih, List.take_add_one, hx]
    simp only [Option.getD_some, Option.toList_some, List.mem_append, List.mem_singleton, List.pairwise_append, List.pairwise_cons, List.not_mem_nil, false_implies, implies_true, List.Pairwise.nil, and_true, true_and, Bool.not_eq_true', List.any_eq_false, beq_iff_eq]
    constructor
    · rintro ⟨⟨⟨h1, h2⟩, h3⟩, h4⟩
      refine ⟨?_, h2, ?_⟩
      · rintro y (hy | rfl)
        · exact h1 y hy
        · exact h3
      · rintro y hy z rfl
        exact h4 y hy
    · rintro ⟨h1, h2, h3⟩
      exact ⟨⟨⟨fun y hy => h1 y (.inl hy), h2⟩, h1 x (.inr rfl)⟩, fun y hy => h3 y hy x rfl⟩
theorem okTo_iff (l : List Tk) : okTo l l.length = true ↔ (∀ x ∈ l, okT x = true) ∧ l.Pairwise fun x y => x.id ≠ y.id := by
  rw [okTo_split (Nat.le_refl _), List.take_length]
theorem pairsOk_iff {l : List Tk} {t : Int} : pairsOk l t = true ↔ l.length ≤ 64 ∧ 0 ≤ t ∧ t ≤ 1073741824 ∧ (∀ x ∈ l, okT x = true) ∧ l.Pairwise fun x y => x.id ≠ y.id := by
  unfold pairsOk
  rw [Bool.and_eq_true, Bool.and_eq_true, Bool.and_eq_true, decide_eq_true_eq, decide_eq_true_eq, decide_eq_true_eq, okTo_iff, and_assoc, and_assoc]
theorem pairsOk_perm {l m : List Tk} {t : Int} (h : l.Perm m) (hl : pairsOk l t = true) : pairsOk m t = true := by
  rw [pairsOk_iff] at hl ⊢
  obtain ⟨h1, h2, h3, h4, h5⟩ := hl
  exact ⟨by rw [← h.length_eq]; exact h1, h2, h3, fun x hx => h4 x (h.mem_iff.2 hx), h.pairwise h5 (fun hxy => hxy.symm)⟩
theorem pairsOk_tail {x : Tk} {l : List Tk} {t : Int} (h : pairsOk (x :: l) t = true) : pairsOk l t = true := by
  rw [pairsOk_iff] at h ⊢
  obtain ⟨h1, h2, h3, h4, h5⟩ := h
  rw [List.pairwise_cons] at h5
  exact ⟨by rw [List.length_cons] at h1; omega, h2, h3, fun y hy => h4 y (List.mem_cons_of_mem _ hy), h5.2⟩
/-- The ticket at k moved to the front. -/
def frontT (l : List Tk) (k : Nat) (x : Tk) : List Tk := x :: (l.take k ++ l.drop (k + 1))
theorem front_perm {l : List Tk} {k : Nat} {x : Tk} (h : l[k]? = some x) : l.Perm (frontT l k x) := by
  obtain ⟨hk, he⟩ := List.getElem?_eq_some_iff.1 h
  have e : l = l.take k ++ x :: l.drop (k + 1) := by
    conv => lhs; rw [← List.take_append_drop k l, List.drop_eq_getElem_cons hk, he]
  unfold frontT
  conv => lhs; rw [e]
  exact List.perm_middle
theorem front_pairs {l : List Tk} {k : Nat} {x : Tk} {t : Int} (h : l[k]? = some x) : pairsM (frontT l k x) t = pairsM l t := (pairsM_perm (front_perm h)).symm
theorem front_ok {l : List Tk} {k : Nat} {x : Tk} {t : Int} (h : l[k]? = some x) (hl : pairsOk l t = true) : pairsOk (frontT l k x) t = true ∧ pairsOk (l.take k ++ l.drop (k + 1)) t = true :=
  ⟨pairsOk_perm (front_perm h) hl, pairsOk_tail (pairsOk_perm (front_perm h) hl)⟩
/-- Who may meet nobody can be left out. -/
theorem front_alone {l : List Tk} {k : Nat} {x : Tk} {t : Int} (h : l[k]? = some x) (hal : ∀ (i : Nat) y, l[i]? = some y → i ≠ k → mayT t y x = false) : pairsM (l.take k ++ l.drop (k + 1)) t = pairsM l t := by
  rw [← front_pairs h (t := t)]
  unfold frontT
  rw [pairsM_alone]
  intro y hy
  rw [mayT_symm]
  rw [List.mem_append] at hy
  rcases hy with hy | hy
  · obtain ⟨i, hi⟩ := List.getElem?_of_mem hy
    have hik : i < k := by have := (List.getElem?_eq_some_iff.1 hi).1; rw [List.length_take] at this; omega
    rw [List.getElem?_take_of_lt hik] at hi
    exact hal i y hi (by omega)
  · obtain ⟨i, hi⟩ := List.getElem?_of_mem hy
    rw [List.getElem?_drop] at hi
    exact hal _ y hi (by omega)
end Go.Proofs.Ytkceefheeicmbaa
