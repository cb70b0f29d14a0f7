/-
  PLAIN LAWS of the reference's search for the best pair, and of what is left.
-/
import Derived.Test.YtkceefheeicmbaaRatBB
namespace Go.Proofs.Ytkceefheeicmbaa

/-- Ahead of (i, k), in the order in which pairs are looked at. -/
def Seen (i k i' k' : Nat) : Prop := i' < k' ∧ (i' < i ∨ i' = i ∧ k' < k)
/-- The best pair of those that have been looked at. -/
def Best (t : Int) (lf : List Tk) (i k : Nat) : Option (Nat × Nat) → Prop
  | none => ∀ (i' k' : Nat) (x y : Tk), Seen i k i' k' → lf[i']? = some x → lf[k']? = some y → mayT t x y = false
  | some (p, q) => p < q ∧ ∃ xp xq, lf[p]? = some xp ∧ lf[q]? = some xq ∧ mayT t xp xq = true ∧ ∀ (i' k' : Nat) (x y : Tk), Seen i k i' k' → lf[i']? = some x → lf[k']? = some y → mayT t x y = true → leK (keyT xp xq) (keyT x y)
def bx : Option (Nat × Nat) → Int
  | none => -1
  | some (p, _) => p
def bY : Option (Nat × Nat) → Int
  | none => -1
  | some (_, q) => q
section
variable {t : Int} {lf : List Tk} {i k : Nat} {b : Option (Nat × Nat)}
theorem best_start (t : Int) (lf : List Tk) : Best t lf 0 1 none := by
  intro i' k' x y ⟨h1, h2⟩
  omega
theorem seen_succ {i k i' k' : Nat} : Seen i (k + 1) i' k' ↔ Seen i k i' k' ∨ (i' = i ∧ k' = k ∧ i < k) := by unfold Seen; omega
theorem best_skip {x y : Tk} (h : Best t lf i k b) (hx : lf[i]? = some x) (hy : lf[k]? = some y) (hm : mayT t x y = false) : Best t lf i (k + 1) b := by
  cases b with
  | none =>
    intro i' k' x' y' hs hx' hy'
    rcases seen_succ.1 hs with hs | ⟨rfl, rfl, -⟩
    · exact h i' k' x' y' hs hx' hy'
    · rw [hx] at hx'; rw [hy] at hy'; injection hx' with e1; injection hy' with e2; subst e1 e2; exact hm
  | some pq =>
    obtain ⟨p, q⟩ := pq
    obtain ⟨hpq, xp, xq, hp, hq, hmay, hall⟩ := h
    refine ⟨hpq, xp, xq, hp, hq, hmay, fun i' k' x' y' hs hx' hy' hm' => ?_⟩
    rcases seen_succ.1 hs with hs | ⟨rfl, rfl, -⟩
    · exact hall i' k' x' y' hs hx' hy' hm'
    · rw [hx] at hx'; rw [hy] at hy'; injection hx' with e1; injection hy' with e2; subst e1 e2; rw [hm] at hm'; cases hm'
theorem leK_refl (x : Key) : leK x x := by unfold leK; rw [ltK_false]; omega
theorem best_take {x y : Tk} (h : Best t lf i k b) (hik : i < k) (hx : lf[i]? = some x) (hy : lf[k]? = some y) (hm : mayT t x y = true)
    (hb : ∀ p q xp xq, b = some (p, q) → lf[p]? = some xp → lf[q]? = some xq → ltK (keyT x y) (keyT xp xq) = true) : Best t lf i (k + 1) (some (i, k)) := by
  refine ⟨hik, x, y, hx, hy, hm, fun i' k' x' y' hs hx' hy' hm' => ?_⟩
  rcases seen_succ.1 hs with hs | ⟨rfl, rfl, -⟩
  · cases b with
    | none => rw [h i' k' x' y' hs hx' hy'] at hm'; cases hm'
    | some pq =>
      obtain ⟨p, q⟩ := pq
      obtain ⟨-, xp, xq, hp, hq, -, hall⟩ := h
      exact leK_trans (leK_of_lt (hb p q xp xq rfl hp hq)) (hall i' k' x' y' hs hx' hy' hm')
  · rw [hx] at hx'; rw [hy] at hy'; injection hx' with e1; injection hy' with e2; subst e1 e2; exact leK_refl _
theorem best_keep {x y xp xq : Tk} {p q : Nat} (h : Best t lf i k (some (p, q))) (hx : lf[i]? = some x) (hy : lf[k]? = some y) (hp : lf[p]? = some xp) (hq : lf[q]? = some xq) (hb : ltK (keyT x y) (keyT xp xq) = false) : Best t lf i (k + 1) (some (p, q)) := by
  obtain ⟨hpq, xp', xq', hp', hq', hmay, hall⟩ := h
  rw [hp] at hp'; rw [hq] at hq'; injection hp' with e1; injection hq' with e2; subst e1 e2
  refine ⟨hpq, xp, xq, hp, hq, hmay, fun i' k' x' y' hs hx' hy' hm' => ?_⟩
  rcases seen_succ.1 hs with hs | ⟨rfl, rfl, -⟩
  · exact hall i' k' x' y' hs hx' hy' hm'
  · rw [hx] at hx'; rw [hy] at hy'; injection hx' with e1; injection hy' with e2; subst e1 e2; exact hb
theorem best_row {n : Nat} (hn : lf.length ≤ n) (h : Best t lf i n b) : Best t lf (i + 1) (i + 2) b := by
  have key : ∀ (i' k' : Nat) (y : Tk), Seen (i + 1) (i + 2) i' k' → lf[k']? = some y → Seen i n i' k' := by
    intro i' k' y ⟨h1, h2⟩ hy
    have := (List.getElem?_eq_some_iff.1 hy).1
    unfold Seen; omega
  cases b with
  | none => exact fun i' k' x y hs hx hy => h i' k' x y (key i' k' y hs hy) hx hy
  | some pq =>
    obtain ⟨p, q⟩ := pq
    obtain ⟨hpq, xp, xq, hp, hq, hmay, hall⟩ := h
    exact ⟨hpq, xp, xq, hp, hq, hmay, fun i' k' x y hs hx hy => hall i' k' x y (key i' k' y hs hy) hx hy⟩
theorem best_none (h : Best t lf lf.length k none) : pairsM lf t = [] := by
  refine pairsM_nil (List.eq_nil_iff_forall_not_mem.2 fun m hm => ?_)
  obtain ⟨i, j, x, y, hij, hx, hy, hmay, -⟩ := mtgs_ix hm
  rw [h i j x y ⟨hij, .inl (List.getElem?_eq_some_iff.1 hx).1⟩ hx hy] at hmay
  cases hmay
theorem best_some {p q : Nat} (h : Best t lf lf.length k (some (p, q))) : p < q ∧ ∃ xp xq, lf[p]? = some xp ∧ lf[q]? = some xq ∧ pairsM lf t = (min xp.id xq.id, max xp.id xq.id) :: pairsM (lf.filter (apartT (min xp.id xq.id) (max xp.id xq.id))) t := by
  obtain ⟨hpq, xp, xq, hp, hq, hmay, hall⟩ := h
  refine ⟨hpq, xp, xq, hp, hq, ?_⟩
  have := pairsM_step (mtgs_mem hp hq hpq hmay) (fun m hm => by
    obtain ⟨i, j, x, y, hij, hx, hy, hm2, rfl⟩ := mtgs_ix hm
    exact hall i j x y ⟨hij, .inl (List.getElem?_eq_some_iff.1 hx).1⟩ hx hy hm2)
  exact this
end

/-- All but two, as they are collected. -/
def restTo (lf : List Tk) (p q : Nat) : Nat → List Tk
  | 0 => []
  | i + 1 => if i ≠ p ∧ i ≠ q then restTo lf p q i ++ [lf.getD i default] else restTo lf p q i
theorem restTo_snoc {lf : List Tk} {p q i : Nat} {x : Tk} (hx : lf[i]? = some x) : restTo lf p q (i + 1) = if i ≠ p ∧ i ≠ q then restTo lf p q i ++ [x] else restTo lf p q i := by
  rw [restTo, List.getD_eq_getElem?_getD, hx]; rfl
theorem restTo_len (lf : List Tk) (p q : Nat) : ∀ i, (restTo lf p q i).length ≤ i
  | 0 => Nat.le_refl _
  | i + 1 => by
    have := restTo_len lf p q i
    rw [restTo]; split
    · rw [List.length_append]; simp; omega
    · omega
theorem restTo_filter {lf : List Tk} (hd : lf.Pairwise fun x y => x.id ≠ y.id) {p q : Nat} {xp xq : Tk} (hp : lf[p]? = some xp) (hq : lf[q]? = some xq) : ∀ i, i ≤ lf.length → restTo lf p q i = (lf.take i).filter (apartT (min xp.id xq.id) (max xp.id xq.id))
  | 0, _ => rfl
  | i + 1, hi => by
    obtain ⟨x, hx⟩ : ∃ x, lf[i]? = some x := ⟨_, List.getElem?_eq_getElem (by omega)⟩
    have key : ∀ (a b : Nat) (y z : Tk), lf[a]? = some y → lf[b]? = some z → (y.id = z.id ↔ a = b) := by
      intro a b y z ha hb
      obtain ⟨la, ea⟩ := List.getElem?_eq_some_iff.1 ha
      obtain ⟨lb, eb⟩ := List.getElem?_eq_some_iff.1 hb
      constructor
      · intro e
        by_cases h1 : a < b
        · have := List.pairwise_iff_getElem.1 hd a b la lb h1; rw [ea, eb] at this; exact absurd e this
        · by_cases h2 : b < a
          · have := List.pairwise_iff_getElem.1 hd b a lb la h2; rw [ea, eb] at this; exact absurd e.symm this
          · omega
      · rintro rfl; rw [ha] at hb; injection hb with e; rw [e]
    have k1 := key i p x xp hx hp
    have k2 := key i q x xq hx hq
    rw [restTo_snoc hx, restTo_filter hd hp hq i (by omega), List.take_add_one, hx, List.filter_append]
    have ha : apartT (min xp.id xq.id) (max xp.id xq.id) x = decide (i ≠ p ∧ i ≠ q) := by
      unfold apartT
      rw [Bool.eq_iff_iff, Bool.and_eq_true, decide_eq_true_eq, decide_eq_true_eq, decide_eq_true_eq]
      omega
    by_cases hc : i ≠ p ∧ i ≠ q
    · rw [if_pos hc]
      simp [ha, hc]
    · rw [if_neg hc]
      simp only [Option.toList_some, List.filter_cons, ha, decide_eq_false hc, List.filter_nil]
      simp
theorem rest_less {lf : List Tk} (hd : lf.Pairwise fun x y => x.id ≠ y.id) {p q : Nat} {xp xq : Tk} (hp : lf[p]? = some xp) (hq : lf[q]? = some xq) : (restTo lf p q lf.length).length < lf.length := by
  rw [restTo_filter hd hp hq _ (Nat.le_refl _), List.take_length]
  refine Nat.lt_of_le_of_ne (List.length_filter_le _ _) (fun h => ?_)
  have h2 := List.length_filter_eq_length_iff.1 h xp (List.mem_of_getElem? hp)
  unfold apartT at h2
  rw [Bool.and_eq_true, decide_eq_true_eq, decide_eq_true_eq] at h2
  omega
end Go.Proofs.Ytkceefheeicmbaa
