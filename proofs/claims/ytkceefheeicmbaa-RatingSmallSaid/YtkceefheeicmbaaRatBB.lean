/-
  PLAIN LAWS of who is paired, as RatingPairing asks them.
-/
import Derived.Test.YtkceefheeicmbaaRatBA
namespace Go.Proofs.Ytkceefheeicmbaa

/-- The meetings that are chosen. -/
def chosen (l : List Tk) (t : Int) : List Key := greedyK [] (sortK (mtgs t l))
theorem chosen_pairs (l : List Tk) (t : Int) : pairsM l t = (chosen l t).map fun m => (m.a, m.b) := greedy_keys _ _
theorem mtgs_ix {t : Int} {l : List Tk} {m : Key} : m ∈ mtgs t l → ∃ (i j : Nat) (x y : Tk), i < j ∧ l[i]? = some x ∧ l[j]? = some y ∧ mayT t x y = true ∧ m = keyT x y := by
  induction l with
  | nil => intro h; cases h
  | cons z l ih =>
    intro h
    rw [mtgs, List.mem_append] at h
    rcases h with h | h
    · unfold mtgOf at h
      obtain ⟨y, hy, rfl⟩ := List.mem_map.1 h
      rw [List.mem_filter] at hy
      obtain ⟨j, hj⟩ := List.getElem?_of_mem hy.1
      exact ⟨0, j + 1, z, y, by omega, rfl, by simpa using hj, hy.2, rfl⟩
    · obtain ⟨i, j, x, y, hij, hx, hy, h1, h2⟩ := ih h
      exact ⟨i + 1, j + 1, x, y, by omega, by simpa using hx, by simpa using hy, h1, h2⟩
theorem mayT_iff {t : Int} {x y : Tk} : mayT t x y = true ↔ diffT x y ≤ winM x.si t ∧ diffT x y ≤ winM y.si t := by
  unfold mayT; rw [decide_eq_true_eq]; omega
/-- Who is chosen: two tickets, their IDs in order, their difference within both windows. -/
theorem chosen_who {l : List Tk} {t : Int} (hok : pairsOk l t = true) {m : Key} (hm : m ∈ chosen l t) :
    ∃ (i j : Nat) (x y : Tk), l[i]? = some x ∧ l[j]? = some y ∧ x.id = m.a ∧ y.id = m.b ∧ m.a < m.b ∧ m.d = diffT x y ∧ m.d ≤ winM x.si t ∧ m.d ≤ winM y.si t ∧ 0 ≤ m.d := by
  have h1 : m ∈ mtgs t l := (sortK_perm _).mem_iff.1 ((greedyK_sub _ _).subset hm)
  obtain ⟨i, j, x, y, hij, hx, hy, hmay, rfl⟩ := mtgs_ix h1
  have hne : x.id ≠ y.id := by
    have hp := (pairsOk_iff.1 hok).2.2.2.2
    obtain ⟨li, ei⟩ := List.getElem?_eq_some_iff.1 hx
    obtain ⟨lj, ej⟩ := List.getElem?_eq_some_iff.1 hy
    have := List.pairwise_iff_getElem.1 hp i j li lj hij
    rwa [ei, ej] at this
  obtain ⟨w1, w2⟩ := mayT_iff.1 hmay
  have hd : 0 ≤ diffT x y := by unfold diffT; omega
  by_cases h : x.id < y.id
  · exact ⟨i, j, x, y, hx, hy, by unfold keyT; simp only; omega, by unfold keyT; simp only; omega, by unfold keyT; simp only; omega, rfl, w1, w2, hd⟩
  · exact ⟨j, i, y, x, hy, hx, by unfold keyT; simp only; omega, by unfold keyT; simp only; omega, by unfold keyT; simp only; omega, diffT_symm x y, w2, w1, hd⟩
theorem chosen_sorted (l : List Tk) (t : Int) : (chosen l t).Pairwise leK := (sortK_sorted _).sublist (greedyK_sub _ _)
theorem chosen_le {l : List Tk} {t : Int} {i j : Nat} {x y : Key} (hij : i < j) (hx : (chosen l t)[i]? = some x) (hy : (chosen l t)[j]? = some y) : x.d ≤ y.d := by
  obtain ⟨li, ei⟩ := List.getElem?_eq_some_iff.1 hx
  obtain ⟨lj, ej⟩ := List.getElem?_eq_some_iff.1 hy
  have := List.pairwise_iff_getElem.1 (chosen_sorted l t) i j li lj hij
  rw [ei, ej] at this
  unfold leK at this
  rw [ltK_false] at this
  omega
/-- For each two that may meet somebody of them is chosen, with no greater difference. -/
theorem chosen_max {l : List Tk} {t : Int} {i j : Nat} {x y : Tk} (hij : i < j) (hx : l[i]? = some x) (hy : l[j]? = some y) (hmay : mayT t x y = true) :
    ∃ c ∈ chosen l t, c.d ≤ diffT x y ∧ (c.a = x.id ∨ c.b = x.id ∨ c.a = y.id ∨ c.b = y.id) := by
  have h1 := mtgs_mem hx hy hij hmay
  have h2 := greedyK_max _ (sortK_sorted (mtgs t l)) [] _ ((sortK_perm _).mem_iff.2 h1)
  simp only [List.not_mem_nil, false_or] at h2
  obtain ⟨c, hc, hle, hcl⟩ := h2
  unfold leK at hle
  rw [ltK_false] at hle
  refine ⟨c, hc, by unfold keyT at hle; simp only at hle; omega, ?_⟩
  rcases hcl with rfl | hcl
  · unfold keyT; simp only; omega
  · unfold clash keyT at hcl; simp only at hcl; omega

/-- What stands for an ID in the law's map 'with'. -/
def wth : List Key → Int → Int
  | [], _ => 0
  | m :: r, id => if m.a = id ∨ m.b = id then m.d + 1 else wth r id
theorem wth_none {l : List Key} {id : Int} (h : ∀ c ∈ l, c.a ≠ id ∧ c.b ≠ id) : wth l id = 0 := by
  induction l with
  | nil => rfl
  | cons m r ih =>
    have hm := h m (by simp)
    rw [wth, if_neg (by omega), ih fun c hc => h c (List.mem_cons_of_mem _ hc)]
theorem wth_some {l : List Key} (hp : l.Pairwise fun x y => ¬ clash x y) {c : Key} (hc : c ∈ l) {id : Int} (h : c.a = id ∨ c.b = id) : wth l id = c.d + 1 := by
  induction l with
  | nil => cases hc
  | cons m r ih =>
    rw [List.pairwise_cons] at hp
    rcases List.mem_cons.1 hc with rfl | hc
    · rw [wth, if_pos h]
    · have hm := hp.1 c hc
      rw [wth, if_neg (by unfold clash at hm; omega), ih hp.2 hc]
theorem wth_append (l r : List Key) (id : Int) : wth (l ++ r) id = if wth l id = 0 ∧ (∀ c ∈ l, c.a ≠ id ∧ c.b ≠ id) then wth r id else wth l id := by
  induction l with
  | nil => simp [wth]
  | cons m l ih =>
    rw [List.cons_append, wth, wth, ih]
    by_cases hm : m.a = id ∨ m.b = id
    · rw [if_pos hm, if_neg (by rintro ⟨-, h⟩; have := h m (by simp); omega), if_pos hm]
    · rw [if_neg hm]
      have e : (∀ c ∈ m :: l, c.a ≠ id ∧ c.b ≠ id) ↔ ∀ c ∈ l, c.a ≠ id ∧ c.b ≠ id := by
        constructor
        · exact fun h c hc => h c (List.mem_cons_of_mem _ hc)
        · intro h c hc
          rcases List.mem_cons.1 hc with rfl | hc
          · omega
          · exact h c hc
      simp only [e, if_neg hm]
theorem chosen_apart (l : List Tk) (t : Int) : (chosen l t).Pairwise fun x y => ¬ clash x y := greedyK_apart _ _
/-- One chosen meeting more. -/
theorem wth_snoc {l : List Tk} {t : Int} {i : Nat} {m : Key} (hm : (chosen l t)[i]? = some m) (id : Int) : wth ((chosen l t).take (i + 1)) id = if m.a = id ∨ m.b = id then m.d + 1 else wth ((chosen l t).take i) id := by
  rw [List.take_add_one, hm]
  have hp := (chosen_apart l t).sublist (List.take_sublist (i + 1) _)
  rw [List.take_add_one, hm] at hp
  by_cases h : m.a = id ∨ m.b = id
  · rw [if_pos h, wth_some hp (c := m) (by simp) h]
  · rw [if_neg h, wth_append]
    split
    · rename_i h0
      simp only [Option.toList_some, wth]
      rw [if_neg h, h0.1]
    · rfl
/-- Not both of a pair are free where one is chosen. -/
theorem wth_fresh {l : List Tk} {t : Int} {i : Nat} {m : Key} (hm : (chosen l t)[i]? = some m) : wth ((chosen l t).take i) m.a = 0 ∧ wth ((chosen l t).take i) m.b = 0 := by
  have hp := (chosen_apart l t).sublist (List.take_sublist (i + 1) _)
  rw [List.take_add_one, hm, List.pairwise_append] at hp
  have h := fun c hc => hp.2.2 c hc m (by simp)
  unfold clash at h
  exact ⟨wth_none fun c hc => by have := h c hc; omega, wth_none fun c hc => by have := h c hc; omega⟩
theorem pair_law {l : List Tk} {t : Int} (hok : pairsOk l t = true) {i j : Nat} {x y : Tk} (hij : i < j) (hx : l[i]? = some x) (hy : l[j]? = some y) (h1 : diffT x y ≤ winM x.si t) (h2 : diffT x y ≤ winM y.si t) :
    ¬ ((wth (chosen l t) y.id = 0 ∨ diffT x y + 1 < wth (chosen l t) y.id) ∧ (wth (chosen l t) x.id = 0 ∨ diffT x y + 1 < wth (chosen l t) x.id)) := by
  obtain ⟨c, hc, hle, hid⟩ := chosen_max hij hx hy (mayT_iff.2 ⟨h1, h2⟩)
  obtain ⟨_, _, _, _, _, _, _, _, _, _, _, _, hd⟩ := chosen_who hok hc
  have hap := chosen_apart l t
  rcases hid with h | h | h | h
  · rw [wth_some hap hc (id := x.id) (.inl h)]; omega
  · rw [wth_some hap hc (id := x.id) (.inr h)]; omega
  · rw [wth_some hap hc (id := y.id) (.inl h)]; omega
  · rw [wth_some hap hc (id := y.id) (.inr h)]; omega
/-- No two who have waited long are left. -/
theorem long_law {l : List Tk} {t : Int} (hok : pairsOk l t = true) {i j : Nat} {x y : Tk} (hij : i < j) (hx : l[i]? = some x) (hy : l[j]? = some y) (h1 : 1975 ≤ t - x.si) (h2 : 1975 ≤ t - y.si) :
    ¬ (wth (chosen l t) x.id = 0 ∧ wth (chosen l t) y.id = 0) := by
  obtain ⟨-, ht0, ht1, hall, -⟩ := pairsOk_iff.1 hok
  have ox := okT_iff.1 (hall x (List.mem_of_getElem? hx))
  have oy := okT_iff.1 (hall y (List.mem_of_getElem? hy))
  have hd : diffT x y ≤ 4000 := by unfold diffT; omega
  have wx : winM x.si t = 4000 := by unfold winM; rw [if_neg (by omega)]; omega
  have wy : winM y.si t = 4000 := by unfold winM; rw [if_neg (by omega)]; omega
  have := pair_law hok hij hx hy (by omega) (by omega)
  rintro ⟨e1, e2⟩
  exact this ⟨.inl e2, .inl e1⟩
end Go.Proofs.Ytkceefheeicmbaa
