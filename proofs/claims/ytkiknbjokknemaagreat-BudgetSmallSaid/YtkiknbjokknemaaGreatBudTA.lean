/-
  PLAIN LAW of BudgetTells: the reference, which looks for the best one k times, chooses as the program does; no program in sight.
-/
import Derived.Test.YtkiknbjokknemaaGreatBudA
namespace Go.Proofs.YtkiknbjokknemaaGreat

/-- The reference's score: that of the last item with the ID. -/
def refScore (l : List It) (id : Int) : Int := l.foldl (fun s x => if x.id = id then x.sc else s) 0
theorem foldl_none {id : Int} : ∀ {l : List It} {s : Int}, (∀ x ∈ l, x.id ≠ id) → l.foldl (fun s x => if x.id = id then x.sc else s) s = s
  | [], _, _ => rfl
  | x :: l, s, h => by
    rw [List.foldl_cons, if_neg (h x List.mem_cons_self)]
    exact foldl_none fun y hy => h y (List.mem_cons_of_mem _ hy)
theorem refScore_from {id : Int} : ∀ {l : List It} {s : Int}, l.Pairwise (fun a b => a.id < b.id) → (∀ x ∈ l, x.id ≠ id) ∨ l.foldl (fun s x => if x.id = id then x.sc else s) s = scoreOf l id
  | [], s, _ => .inl fun x hx => by cases hx
  | x :: l, s, h => by
    rw [List.pairwise_cons] at h
    rw [List.foldl_cons, scoreOf_cons]
    by_cases hx : x.id = id
    · right
      rw [if_pos hx, if_pos hx]
      exact foldl_none fun y hy => by have := h.1 y hy; omega
    · rw [if_neg hx, if_neg hx]
      rcases refScore_from (l := l) (s := s) h.2 with q | q
      · exact .inl fun y hy => by
          rcases List.mem_cons.1 hy with rfl | hy
          · exact hx
          · exact q y hy
      · exact .inr q
theorem refScore_eq {l : List It} (h : l.Pairwise fun a b => a.id < b.id) (id : Int) : refScore l id = scoreOf l id := by
  rcases refScore_from (s := 0) (id := id) h with q | q
  · unfold refScore
    rw [foldl_none q, scoreOf_none q]
  · exact q

abbrev itA (out : List It) (i : Nat) : It := out.getD i default
/-- 'before' of the reference. -/
def refBefore (a b : It) : Bool := decide (b.sc < a.sc) || (decide (a.sc = b.sc) && decide (a.id < b.id))
/-- The best one of the first m: -1 if there is none. -/
def bestG (out : List It) : Nat → Int
  | 0 => -1
  | i + 1 => if 0 < (itA out i).sc ∧ (bestG out i < 0 ∨ refBefore (itA out i) (itA out (bestG out i).toNat) = true) then (i : Int) else bestG out i

theorem best_spec {out : List It} (hid : ∀ i j, i < j → j < out.length → (itA out i).id < (itA out j).id) : ∀ m, m ≤ out.length →
    (bestG out m = -1 ∧ ∀ i, i < m → ¬ 0 < (itA out i).sc) ∨ (∃ b : Nat, bestG out m = (b : Int) ∧ b < m ∧ 0 < (itA out b).sc ∧ ∀ i, i < m → 0 < (itA out i).sc → i = b ∨ before out b i = true)
  | 0, _ => .inl ⟨rfl, fun i hi => by omega⟩
  | m + 1, hm => by
    rcases best_spec hid m (by omega) with ⟨h1, h2⟩ | ⟨b, h1, h2, h3, h4⟩
    · by_cases hs : 0 < (itA out m).sc
      · refine .inr ⟨m, ?_, by omega, hs, fun i hi hp => ?_⟩
        · rw [bestG, if_pos ⟨hs, .inl (by omega)⟩]
        · rcases Nat.lt_or_ge i m with q | q
          · exact absurd hp (h2 i q)
          · exact .inl (by omega)
      · refine .inl ⟨?_, fun i hi => ?_⟩
        · rw [bestG, if_neg (fun h => hs h.1), h1]
        · rcases Nat.lt_or_ge i m with q | q
          · exact h2 i q
          · rw [show i = m by omega]; exact hs
    · have hbn : (bestG out m).toNat = b := by omega
      have hlt := hid b m h2 (by omega)
      by_cases hc : 0 < (itA out m).sc ∧ (itA out b).sc < (itA out m).sc
      · refine .inr ⟨m, ?_, by omega, hc.1, fun i hi hp => ?_⟩
        · rw [bestG, if_pos ⟨hc.1, .inr (by rw [hbn]; simp only [refBefore, Bool.or_eq_true, decide_eq_true_eq]; exact .inl hc.2)⟩]
        · rcases Nat.lt_or_ge i m with q | q
          · refine .inr ((before_iff _ _ _).2 ?_)
            rcases h4 i q hp with rfl | h
            · exact .inl hc.2
            · rw [before_iff] at h
              show (itA out i).sc < (itA out m).sc ∨ _
              have h' : (itA out i).sc < (itA out b).sc ∨ ((itA out b).sc = (itA out i).sc ∧ b < i) := h
              left; omega
          · exact .inl (by omega)
      · refine .inr ⟨b, ?_, by omega, h3, fun i hi hp => ?_⟩
        · rw [bestG, if_neg, h1]
          rintro ⟨hs, h | h⟩
          · omega
          · rw [hbn] at h
            unfold refBefore at h
            simp only [Bool.or_eq_true, decide_eq_true_eq, Bool.and_eq_true] at h
            rcases h with h | h
            · exact hc ⟨hs, h⟩
            · omega
        · rcases Nat.lt_or_ge i m with q | q
          · exact h4 i q hp
          · obtain rfl : i = m := by omega
            refine .inr ((before_iff _ _ _).2 ?_)
            show (itA out i).sc < (itA out b).sc ∨ ((itA out b).sc = (itA out i).sc ∧ b < i)
            by_cases he : (itA out b).sc < (itA out i).sc
            · exact absurd ⟨hp, he⟩ hc
            · omega

theorem zeroAt_at (out : List It) (p : List Nat) {i : Nat} (hi : i < out.length) : itA (zeroAt out p) i = if i ∈ p then { itA out i with sc := 0 } else itA out i := by
  unfold itA
  rw [List.getD_eq_getElem?_getD, zeroAt_get, List.getD_eq_getElem?_getD, List.getElem?_eq_getElem hi]
  simp only [Option.map_some, Option.getD_some]
/-- The best one behind j choices is the next in the program's order. -/
theorem best_next {out : List It} (hid : ∀ i j, i < j → j < out.length → (itA out i).id < (itA out j).id) (hpos : ∀ i, i < out.length → 0 < (itA out i).sc) {j : Nat} (hj : j < out.length) :
    ∃ b, (order out)[j]? = some b ∧ bestG (zeroAt out ((order out).take j)) out.length = (b : Int) := by
  have hol := order_len out
  obtain ⟨b, hb⟩ : ∃ b, (order out)[j]? = some b := ⟨_, List.getElem?_eq_getElem (by omega)⟩
  refine ⟨b, hb, ?_⟩
  have hbl : b < out.length := mem_order.1 (List.mem_of_getElem? hb)
  have hzl := zeroAt_len out ((order out).take j)
  have hnd := order_nodup out
  have hspl : order out = (order out).take j ++ b :: (order out).drop (j + 1) := by
    have h1 := (List.take_append_drop j (order out)).symm
    rw [List.drop_eq_getElem_cons (by omega)] at h1
    have h2 : (order out)[j]'(by omega) = b := by
      have := List.getElem?_eq_some_iff.1 hb
      exact this.2
    rw [h2] at h1
    exact h1
  have hbn : b ∉ (order out).take j := by
    intro hm
    rw [hspl] at hnd
    rw [List.nodup_append] at hnd
    exact hnd.2.2 b hm b List.mem_cons_self rfl
  have hord := order_before out
  rw [hspl, List.pairwise_append, List.pairwise_cons] at hord
  have hzid : ∀ i k, i < k → k < (zeroAt out ((order out).take j)).length → (itA (zeroAt out ((order out).take j)) i).id < (itA (zeroAt out ((order out).take j)) k).id := fun i k hik hk => by
    rw [hzl] at hk
    rw [zeroAt_at out _ (by omega), zeroAt_at out _ hk]
    have := hid i k hik hk
    split <;> split <;> exact this
  have hzb : itA (zeroAt out ((order out).take j)) b = itA out b := by rw [zeroAt_at out _ hbl, if_neg hbn]
  rcases best_spec hzid out.length (by rw [hzl]; exact Nat.le_refl _) with ⟨-, h2⟩ | ⟨b', h1, h2, h3, h4⟩
  · exact absurd (by rw [hzb]; exact hpos b hbl) (h2 b hbl)
  · rw [h1]
    rcases h4 b hbl (by rw [hzb]; exact hpos b hbl) with q | q
    · rw [q]
    · exfalso
      have hb'n : b' ∉ (order out).take j := fun hm => by
        rw [zeroAt_at out _ h2, if_pos hm] at h3
        exact absurd h3 (by simp)
      have hzb' : itA (zeroAt out ((order out).take j)) b' = itA out b' := by rw [zeroAt_at out _ h2, if_neg hb'n]
      have hm' : b' ∈ order out := mem_order.2 h2
      rw [hspl] at hm'
      have q' := (before_iff _ _ _).1 q
      have q2 : (itA (zeroAt out ((order out).take j)) b).sc < (itA (zeroAt out ((order out).take j)) b').sc ∨ ((itA (zeroAt out ((order out).take j)) b').sc = (itA (zeroAt out ((order out).take j)) b).sc ∧ b' < b) := q'
      rw [hzb, hzb'] at q2
      rcases List.mem_append.1 hm' with hm' | hm'
      · exact hb'n hm'
      · rcases List.mem_cons.1 hm' with e | hm'
        · subst e; omega
        · have hbb := (before_iff _ _ _).1 (hord.2.1.1 b' hm')
          have hbb' : (itA out b').sc < (itA out b).sc ∨ ((itA out b).sc = (itA out b').sc ∧ b < b') := hbb
          omega
end Go.Proofs.YtkiknbjokknemaaGreat
