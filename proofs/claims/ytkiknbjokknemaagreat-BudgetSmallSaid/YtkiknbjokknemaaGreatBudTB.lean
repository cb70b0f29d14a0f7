/-
  PLAIN LAW of BudgetTells, second part: a round of the reference's loops; no program in sight.
-/
import Derived.Test.YtkiknbjokknemaaGreatBudTA
namespace Go.Proofs.YtkiknbjokknemaaGreat

theorem outs_at {l : List It} {ws : List (Int × Int)} {i : Nat} (hi : i < ws.length) : itA (outs l ws) i = gitm l ws[i] := by
  unfold itA outs
  rw [List.getD_eq_getElem?_getD, List.getElem?_map, List.getElem?_eq_getElem hi]
  rfl
theorem outs_id {l : List It} {ws : List (Int × Int)} (hw : RightP ws) : ∀ i j, i < j → j < (outs l ws).length → (itA (outs l ws) i).id < (itA (outs l ws) j).id := fun i j hij hj => by
  rw [outs_len] at hj
  rw [outs_at (by omega), outs_at hj]
  exact List.pairwise_iff_getElem.1 hw.2.2 i j (by omega) hj hij
theorem outs_pos {l : List It} {ws : List (Int × Int)} (hl : ValidP l) (hw : RightP ws) : ∀ i, i < (outs l ws).length → 0 < (itA (outs l ws) i).sc := fun i hi => by
  rw [outs_len] at hi
  rw [outs_at hi, gitm_sc]
  have h1 := scoreOf_bd hl.2 ws[i].1
  have h2 := hw.2.1 ws[i] (List.getElem_mem hi)
  unfold topScore at *
  omega

/-- A round of the score's loop. -/
theorem refScore_snoc {l : List It} {n : Nat} {x : It} (h : l[n]? = some x) (id : Int) : refScore (l.take (n + 1)) id = if x.id = id then x.sc else refScore (l.take n) id := by
  have e : l.take (n + 1) = l.take n ++ [x] := by rw [List.take_add_one, h]; rfl
  unfold refScore
  rw [e, List.foldl_append]
  rfl

/-- A round of the loop that chooses. -/
theorem zero_next {out : List It} {j b : Nat} (hb : (order out)[j]? = some b) :
    (zeroAt out ((order out).take j)).set b { itA (zeroAt out ((order out).take j)) b with sc := 0 } = zeroAt out ((order out).take (j + 1)) := by
  have hbl : b < out.length := mem_order.1 (List.mem_of_getElem? hb)
  have e : (order out).take (j + 1) = (order out).take j ++ [b] := by rw [List.take_add_one, hb]; rfl
  apply List.ext_getElem?
  intro i
  rw [List.getElem?_set, zeroAt_get, zeroAt_get, zeroAt_len, e]
  by_cases h : b = i
  · subst h
    have h2 : itA out b = out[b] := by
      unfold itA
      rw [List.getD_eq_getElem?_getD, List.getElem?_eq_getElem hbl]; rfl
    have h3 : b ∈ (order out).take j ++ [b] := by simp
    rw [if_pos rfl, if_pos hbl, zeroAt_at out _ hbl, List.getElem?_eq_getElem hbl, Option.map_some, h2]
    rw [show (if b ∈ (order out).take j ++ [b] then { out[b] with sc := 0 } else out[b]) = { out[b] with sc := 0 } from if_pos h3]
    split <;> rfl
  · rw [if_neg h]
    cases out[i]? with
    | none => rfl
    | some y =>
      simp only [Option.map_some, List.mem_append, List.mem_singleton]
      have : ¬ i = b := fun q => h q.symm
      simp only [this, or_false]
theorem sent_next {out : List It} {j b : Nat} (hb : (order out)[j]? = some b) :
    ((order out).take (j + 1)).map (fun i => (itA out i).id) = ((order out).take j).map (fun i => (itA out i).id) ++ [(itA out b).id] := by
  have e : (order out).take (j + 1) = (order out).take j ++ [b] := by rw [List.take_add_one, hb]; rfl
  rw [e, List.map_append]; rfl
/-- The chosen one's ID is that of the list without zeros. -/
theorem zero_id {out : List It} (p : List Nat) {b : Nat} (hb : b < out.length) : (itA (zeroAt out p) b).id = (itA out b).id := by
  rw [zeroAt_at out p hb]; split <;> rfl
/-- What stands at the end. -/
theorem step_end (l : List It) (ws : List (Int × Int)) (k j : Nat) (hj : j = min k ws.length) :
    stepM l ws k = (zeroAt (outs l ws) ((order (outs l ws)).take j), ((order (outs l ws)).take j).map fun i => (itA (outs l ws) i).id) := by
  have : (order (outs l ws)).take j = (order (outs l ws)).take k := by
    rw [hj, List.take_eq_take_iff, order_len, outs_len]
    omega
  rw [this]; rfl
end Go.Proofs.YtkiknbjokknemaaGreat
