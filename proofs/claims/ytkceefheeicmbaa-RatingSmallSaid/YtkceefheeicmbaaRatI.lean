/-
  PLAIN LAWS of who is paired: one step of the greedy choice; the order of tickets; what the pairs are like.
-/
import Derived.Test.YtkceefheeicmbaaRatH
namespace Go.Proofs.Ytkceefheeicmbaa

def freeK (T : List Int) (m : Key) : Bool := !(decide (m.a ∈ T) || decide (m.b ∈ T))
theorem greedy_filter (U : List Int) (r : List Key) : ∀ T : List Int, greedy (T ++ U) r = greedy T (r.filter (freeK U)) := by
  induction r with
  | nil => intro T; rfl
  | cons m r ih =>
    intro T
    by_cases hU : m.a ∈ U ∨ m.b ∈ U
    · have hf : freeK U m = false := by unfold freeK; rcases hU with h | h <;> simp [h]
      rw [List.filter_cons_of_neg (by simp [hf]), greedy, if_pos (by simp only [List.mem_append]; rcases hU with h | h <;> simp [h]), ih]
    · have hf : freeK U m = true := by
        unfold freeK
        rw [not_or] at hU
        simp [hU.1, hU.2]
      rw [List.filter_cons_of_pos hf, greedy, greedy]
      rw [not_or] at hU
      by_cases hT : m.a ∈ T ∨ m.b ∈ T
      · rw [if_pos (by simp only [List.mem_append]; rcases hT with h | h <;> simp [h]), if_pos hT, ih]
      · rw [if_neg (by simp only [List.mem_append, hU.1, hU.2, or_false]; exact hT), if_neg hT, ← ih]
        rfl

def apartT (a b : Int) (x : Tk) : Bool := decide (x.id ≠ a) && decide (x.id ≠ b)
theorem free_key (a b : Int) (x y : Tk) : freeK [a, b] (keyT x y) = (apartT a b x && apartT a b y) := by
  rw [Bool.eq_iff_iff]
  unfold freeK apartT keyT
  simp only [Bool.not_eq_true', Bool.or_eq_false_iff, decide_eq_false_iff_not, List.mem_cons, List.not_mem_nil, or_false, Bool.and_eq_true, decide_eq_true_eq, ne_eq, not_or]
  omega

theorem mtgOf_apart (t a b : Int) (x : Tk) (l : List Tk) : (mtgOf t x l).filter (freeK [a, b]) = if apartT a b x = true then mtgOf t x (l.filter (apartT a b)) else [] := by
  unfold mtgOf
  rw [List.filter_map, List.filter_filter]
  cases hx : apartT a b x with
  | true =>
    rw [if_pos rfl, List.filter_filter]
    congr 1
    apply List.filter_congr
    intro y _
    rw [Function.comp, free_key, hx, Bool.true_and, Bool.and_comm]
  | false =>
    rw [if_neg (by simp)]
    rw [List.filter_eq_nil_iff.2, List.map_nil]
    intro y _
    rw [Function.comp, free_key, hx]
    simp
theorem mtgs_apart (t a b : Int) (l : List Tk) : (mtgs t l).filter (freeK [a, b]) = mtgs t (l.filter (apartT a b)) := by
  induction l with
  | nil => rfl
  | cons x l ih =>
    rw [mtgs, List.filter_append, ih, mtgOf_apart]
    cases hx : apartT a b x with
    | true => rw [if_pos rfl, List.filter_cons_of_pos hx, mtgs]
    | false => rw [if_neg (by simp), List.filter_cons_of_neg (by simp [hx]), List.nil_append]

theorem sortK_filter (p : Key → Bool) (l : List Key) : (sortK l).filter p = sortK (l.filter p) :=
  sorted_unique (((sortK_perm l).filter p).trans (sortK_perm _).symm) ((sortK_sorted l).filter p) (sortK_sorted _)

theorem pairsM_nil {l : List Tk} {t : Int} (h : mtgs t l = []) : pairsM l t = [] := by
  unfold pairsM; rw [h]; simp [sortK, greedy]
/-- One step of the greedy choice. -/
theorem pairsM_step {l : List Tk} {t : Int} {m : Key} (hm : m ∈ mtgs t l) (hmin : ∀ k ∈ mtgs t l, leK m k) :
    pairsM l t = (m.a, m.b) :: pairsM (l.filter (apartT m.a m.b)) t := by
  have hp := sortK_perm (mtgs t l)
  have hso := sortK_sorted (mtgs t l)
  have hc : (sortK (mtgs t l)).filter (freeK [m.a, m.b]) = sortK (mtgs t (l.filter (apartT m.a m.b))) := by rw [sortK_filter, mtgs_apart]
  unfold pairsM
  cases hs : sortK (mtgs t l) with
  | nil => rw [hs] at hp; exact absurd (hp.mem_iff.2 hm) (by simp)
  | cons x r =>
    rw [hs] at hp hso hc
    rw [List.pairwise_cons] at hso
    have hxm : x = m := by
      have h1 : leK m x := hmin x (hp.mem_iff.1 (by simp))
      rcases List.mem_cons.1 (hp.mem_iff.2 hm) with h | h
      · exact h.symm
      · exact ltK_tot h1 (hso.1 m h)
    subst hxm
    rw [List.filter_cons_of_neg (by simp [freeK])] at hc
    rw [greedy, if_neg (by simp)]
    have := greedy_filter [x.a, x.b] r []
    rw [List.nil_append] at this
    rw [this, hc]

/-! the order of tickets -/
theorem diffT_symm (x y : Tk) : diffT x y = diffT y x := by unfold diffT; omega
theorem keyT_symm (x y : Tk) : keyT x y = keyT y x := by
  refine Key.ext' (diffT_symm x y) ?_ ?_ ?_ <;> (unfold keyT; simp only; omega)
theorem mayT_symm (t : Int) (x y : Tk) : mayT t x y = mayT t y x := by unfold mayT; rw [diffT_symm, Int.min_comm]
theorem mtgOf_cons (t : Int) (x y : Tk) (l : List Tk) : mtgOf t x (y :: l) = (if mayT t x y = true then [keyT x y] else []) ++ mtgOf t x l := by
  unfold mtgOf
  cases h : mayT t x y with
  | true => rw [List.filter_cons_of_pos h, if_pos rfl]; rfl
  | false => rw [List.filter_cons_of_neg (by simp [h]), if_neg (by simp)]; rfl
theorem mtgs_perm {t : Int} {l m : List Tk} (h : l.Perm m) : (mtgs t l).Perm (mtgs t m) := by
  induction h with
  | nil => exact List.Perm.refl _
  | cons x h ih =>
    rw [mtgs, mtgs]
    exact List.Perm.append ((h.filter _).map _) ih
  | swap x y l =>
    rw [mtgs, mtgs, mtgs, mtgs, mtgOf_cons, mtgOf_cons, mayT_symm t y x, keyT_symm y x, List.append_assoc, List.append_assoc]
    refine List.Perm.append_left _ ?_
    rw [← List.append_assoc, ← List.append_assoc]
    exact List.Perm.append_right _ List.perm_append_comm
  | trans _ _ ih1 ih2 => exact ih1.trans ih2
theorem pairsM_perm {t : Int} {l m : List Tk} (h : l.Perm m) : pairsM l t = pairsM m t := by
  unfold pairsM; rw [sortK_of_perm (mtgs_perm h)]
theorem pairsM_alone {t : Int} {x : Tk} {l : List Tk} (h : ∀ y ∈ l, mayT t x y = false) : pairsM (x :: l) t = pairsM l t := by
  unfold pairsM
  have : mtgOf t x l = [] := by
    unfold mtgOf
    rw [List.filter_eq_nil_iff.2, List.map_nil]
    intro y hy; simp [h y hy]
  rw [mtgs, this, List.nil_append]

/-! what the pairs are like -/
def greedyK : List Int → List Key → List Key
  | _, [] => []
  | t, m :: r => if m.a ∈ t ∨ m.b ∈ t then greedyK t r else m :: greedyK (m.a :: m.b :: t) r
theorem greedy_keys (S : List Key) : ∀ T, greedy T S = (greedyK T S).map fun m => (m.a, m.b) := by
  induction S with
  | nil => intro T; rfl
  | cons m r ih =>
    intro T
    rw [greedy, greedyK]
    split
    · exact ih T
    · rw [List.map_cons, ih]
theorem greedyK_sub (S : List Key) : ∀ T, (greedyK T S).Sublist S := by
  induction S with
  | nil => intro T; exact List.Sublist.refl _
  | cons m r ih =>
    intro T
    rw [greedyK]
    split
    · exact (ih T).cons m
    · exact (ih _).cons_cons m
theorem greedyK_free (S : List Key) : ∀ T, ∀ m ∈ greedyK T S, m.a ∉ T ∧ m.b ∉ T := by
  induction S with
  | nil => intro T m h; cases h
  | cons k r ih =>
    intro T m h
    rw [greedyK] at h
    split at h
    · exact ih T m h
    · rename_i hk
      rw [not_or] at hk
      rcases List.mem_cons.1 h with rfl | h
      · exact hk
      · have := ih _ m h
        simp only [List.mem_cons, not_or] at this
        exact ⟨this.1.2.2, this.2.2.2⟩
def clash (x y : Key) : Prop := x.a = y.a ∨ x.a = y.b ∨ x.b = y.a ∨ x.b = y.b
theorem greedyK_apart (S : List Key) : ∀ T, (greedyK T S).Pairwise fun x y => ¬ clash x y := by
  induction S with
  | nil => intro T; exact List.Pairwise.nil
  | cons k r ih =>
    intro T
    rw [greedyK]
    split
    · exact ih T
    · rw [List.pairwise_cons]
      refine ⟨fun m hm hc => ?_, ih _⟩
      have := greedyK_free r _ m hm
      simp only [List.mem_cons, not_or] at this
      unfold clash at hc
      omega
/-- Who is not chosen shares somebody with one that was chosen ahead. -/
theorem greedyK_max (S : List Key) (hs : S.Pairwise leK) : ∀ T, ∀ m ∈ S, m.a ∈ T ∨ m.b ∈ T ∨ ∃ c ∈ greedyK T S, leK c m ∧ (c = m ∨ clash c m) := by
  induction S with
  | nil => intro T m h; cases h
  | cons k r ih =>
    rw [List.pairwise_cons] at hs
    intro T m h
    rw [greedyK]
    split
    · rename_i hk
      rcases List.mem_cons.1 h with rfl | h
      · rcases hk with hk | hk
        · exact .inl hk
        · exact .inr (.inl hk)
      · exact ih hs.2 T m h
    · rcases List.mem_cons.1 h with rfl | h
      · exact .inr (.inr ⟨m, by simp, by unfold leK; rw [ltK_false]; omega, .inl rfl⟩)
      · have := ih hs.2 (k.a :: k.b :: T) m h
        simp only [List.mem_cons] at this
        rcases this with (h1 | h1 | h1) | (h1 | h1 | h1) | ⟨c, hc, h1, h2⟩
        · exact .inr (.inr ⟨k, by simp, hs.1 m h, .inr (by unfold clash; omega)⟩)
        · exact .inr (.inr ⟨k, by simp, hs.1 m h, .inr (by unfold clash; omega)⟩)
        · exact .inl h1
        · exact .inr (.inr ⟨k, by simp, hs.1 m h, .inr (by unfold clash; omega)⟩)
        · exact .inr (.inr ⟨k, by simp, hs.1 m h, .inr (by unfold clash; omega)⟩)
        · exact .inr (.inl h1)
        · exact .inr (.inr ⟨c, List.mem_cons_of_mem _ hc, h1, h2⟩)
theorem mem_mtgs {t : Int} {l : List Tk} {m : Key} : m ∈ mtgs t l → ∃ x ∈ l, ∃ y ∈ l, mayT t x y = true ∧ m = keyT x y := by
  induction l with
  | nil => intro h; cases h
  | cons z l ih =>
    intro h
    rw [mtgs, List.mem_append] at h
    rcases h with h | h
    · unfold mtgOf at h
      obtain ⟨y, hy, rfl⟩ := List.mem_map.1 h
      rw [List.mem_filter] at hy
      exact ⟨z, by simp, y, List.mem_cons_of_mem _ hy.1, hy.2, rfl⟩
    · obtain ⟨x, hx, y, hy, h1, h2⟩ := ih h
      exact ⟨x, List.mem_cons_of_mem _ hx, y, List.mem_cons_of_mem _ hy, h1, h2⟩
theorem mtgs_mem {t : Int} {l : List Tk} {i j : Nat} {x y : Tk} (hx : l[i]? = some x) (hy : l[j]? = some y) (hij : i < j) (hm : mayT t x y = true) : keyT x y ∈ mtgs t l := by
  induction l generalizing i j with
  | nil => simp at hx
  | cons z l ih =>
    rw [mtgs, List.mem_append]
    cases j with
    | zero => omega
    | succ j =>
      rw [List.getElem?_cons_succ] at hy
      cases i with
      | zero =>
        rw [List.getElem?_cons_zero] at hx
        injection hx with hx; subst hx
        left
        unfold mtgOf
        exact List.mem_map.2 ⟨y, List.mem_filter.2 ⟨List.mem_of_getElem? hy, hm⟩, rfl⟩
      | succ i =>
        rw [List.getElem?_cons_succ] at hx
        exact .inr (ih hx hy (by omega))
end Go.Proofs.Ytkceefheeicmbaa
