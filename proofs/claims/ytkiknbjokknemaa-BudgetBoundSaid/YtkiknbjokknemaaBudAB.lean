/-
  RUN IS STEP AGAIN AND AGAIN: plain laws for BudgetRuns; lists of lists joined.
-/
import Derived.Test.YtkiknbjokknemaaBudAA
namespace Go.Proofs.Ytkiknbjokknemaa
open Go.RowKit

theorem all_places (l : List It) (ws : List (Int × Int)) {i : Nat} (hi : i < ws.length) : i ∈ places l ws ws.length := by
  unfold places
  rw [List.take_of_length_le (by rw [order_len, outs_len]; exact Nat.le_refl _), mem_order, outs_len]
  exact hi
theorem no_places (l : List It) (ws : List (Int × Int)) : places l ws 0 = [] := by unfold places; simp

/-- With as many places as wants all are sent. -/
theorem full_zero {l : List It} {ws : List (Int × Int)} {i : Nat} {x : Int × Int} (hx : ws[i]? = some x) : (stepM l ws ws.length).1[i]? = some ⟨x.1, x.2, 0⟩ := by
  rw [stepM_get _ _ _ _ hx, if_pos (all_places l ws (List.getElem?_eq_some_iff.1 hx).1)]

/-- With none nobody is. -/
theorem none_score {l : List It} (hl : ValidP l) {ws : List (Int × Int)} (hr : RightP ws) {i : Nat} {x : Int × Int} (hx : ws[i]? = some x) (t : Nat) (ht : t ≤ 40) : (t : Int) * x.2 ≤ scoreOf (runM l ws 0 t).1 x.1 := by
  have hb := hr.2.1 x (List.mem_of_getElem? hx)
  induction t with
  | zero => have := (scoreOf_bd hl.2 x.1).1; simpa [runM] using this
  | succ t ih =>
    have ih := ih (by omega)
    rw [runM_succ]
    simp only
    rw [score_step (runM_valid hl hr 0 t) hr 0 i hx, no_places, if_neg (by simp), gitm_sc]
    have e : ((t + 1 : Nat) : Int) * x.2 = (t : Int) * x.2 + x.2 := by rw [show ((t + 1 : Nat) : Int) = (t : Int) + 1 by simp, Int.add_mul, Int.one_mul]
    have hm : (t : Int) * x.2 ≤ 40 * 16 := Int.mul_le_mul (by omega) hb.2.2.2 (by omega) (by omega)
    unfold topScore
    omega

theorem run_items_get {l : List It} {ws : List (Int × Int)} (k s i : Nat) {x : Int × Int} (hx : ws[i]? = some x) : ∃ sc, (runM l ws k (s + 1)).1[i]? = some ⟨x.1, x.2, sc⟩ ∧ (ValidP l → RightP ws → scoreOf (runM l ws k (s + 1)).1 x.1 = sc) := by
  rw [runM_succ]
  simp only
  have h := stepM_get (runM l ws k s).1 ws k i hx
  by_cases c : i ∈ places (runM l ws k s).1 ws k
  · rw [if_pos c] at h
    refine ⟨0, h, fun hl hr => ?_⟩
    rw [score_step (runM_valid hl hr k s) hr k i hx, if_pos c]
  · rw [if_neg c] at h
    refine ⟨_, h, fun hl hr => ?_⟩
    rw [score_step (runM_valid hl hr k s) hr k i hx, if_neg c]
    rfl

theorem run_items_len (l : List It) (ws : List (Int × Int)) (k s : Nat) : (runM l ws k (s + 1)).1.length = ws.length := by
  rw [runM_succ]; exact stepM_len _ _ _

theorem sent_lens2 {l : List It} {ws : List (Int × Int)} {k s t : Nat} {x : List Int} (h : (runM l ws k s).2[t]? = some x) : x.length = min k ws.length := by
  have hlt := (List.getElem?_eq_some_iff.1 h).1
  rw [runM_len] at hlt
  rw [runM_get l ws k s t hlt] at h
  rw [← Option.some.inj h, sent_len]

/-- Rows of rows joined. -/
theorem ListsAt.join {w w' : World} {o o' : Own} {τ τ1 : Nat} {A : Option Addr} {n c : Nat} {ls ms : List (List Int)} {vs us : List Value} (hr : Row w' o' τ 42 1 A n c (vs ++ us)) (hl : vs.length = ls.length) (hm : us.length = ms.length)
    (hv : ∀ (i : Nat) (v : Value), vs[i]? = some v → ∃ S len cap x, v = Value.slice S len cap ∧ ls[i]? = some x ∧ len = x.length ∧ Sl w o τ1 1 S len cap (ints x))
    (hu : ∀ (i : Nat) (v : Value), us[i]? = some v → ∃ S len cap x, v = Value.slice S len cap ∧ ms[i]? = some x ∧ len = x.length ∧ Sl w o τ1 1 S len cap (ints x))
    {ts : List Nat} (hst : Step ts w o w' o') (hτ : τ1 ∉ ts) : ListsAt w' o' τ τ1 A n c (ls ++ ms) := by
  refine ⟨_, hr, by simp [hl, hm], fun i v hi => ?_⟩
  rcases Nat.lt_or_ge i vs.length with h | h
  · rw [List.getElem?_append_left h] at hi
    obtain ⟨S, len, cap, x, e1, e2, e3, e4⟩ := hv i v hi
    exact ⟨S, len, cap, x, e1, by rw [List.getElem?_append_left (by omega)]; exact e2, e3, e4.step hst hτ⟩
  · rw [List.getElem?_append_right h] at hi
    obtain ⟨S, len, cap, x, e1, e2, e3, e4⟩ := hu _ v hi
    exact ⟨S, len, cap, x, e1, by rw [List.getElem?_append_right (by omega), ← hl]; exact e2, e3, e4.step hst hτ⟩
end Go.Proofs.Ytkiknbjokknemaa
