/-
  THE MAP OF SCORES, as a datum; what it says at an ID.
-/
import Derived.Test.YtkiknbjokknemaaGreatBudI
import Derived.Maps.Own
import Derived.Maps.OwnOps
import Derived.Maps.Views
namespace Go.Proofs.YtkiknbjokknemaaGreat
open Go.RowKit Go.Maps

def putI (D : DataW Unit) (x : It) : DataW Unit := D.put (.int .i64 x.id) (.lit (.int .i64 x.sc))
def mapD (l : List It) : DataW Unit := l.foldl putI (.map [])

theorem isMap_put {D : DataW Unit} (h : IsMap D) (k : Lit) (d : DataW Unit) : IsMap (D.put k d) := by
  obtain ⟨es, rfl⟩ := h; exact ⟨_, rfl⟩

theorem mem_id {l : List It} {id : Int} (h : id ∉ l.map It.id) : scoreOf l id = 0 := by
  induction l with
  | nil => rfl
  | cons x l ih =>
    simp only [List.map_cons, List.mem_cons, not_or] at h
    unfold scoreOf
    rw [if_neg (fun e => h.1 e.symm), ih h.2]

theorem fold_at (l : List It) : ∀ (D : DataW Unit), IsMap D → l.Pairwise (fun a b => a.id < b.id) → ∀ (id : Int) (z : DataW Unit),
    (l.foldl putI D).atKey (.int .i64 id) z = if id ∈ l.map It.id then .lit (.int .i64 (scoreOf l id)) else D.atKey (.int .i64 id) z := by
  induction l with
  | nil => intro D _ _ id z; simp
  | cons x l ih =>
    intro D hD hp id z
    rw [List.pairwise_cons] at hp
    rw [List.foldl_cons, ih (putI D x) (isMap_put hD _ _) hp.2]
    by_cases hx : x.id = id
    · have hn : id ∉ l.map It.id := by
        intro hm
        obtain ⟨y, hy, he⟩ := List.mem_map.1 hm
        have := hp.1 y hy
        omega
      rw [if_neg hn, if_pos (by simp [hx])]
      unfold putI scoreOf
      rw [if_pos hx, ← hx]
      exact atKey_put_same hD (show WideAt.IsKeyLit (.int .i64 x.id) from trivial) _ _
    · have e1 : (id ∈ (x :: l).map It.id) = (id ∈ l.map It.id) := by
        rw [List.map_cons, List.mem_cons]
        exact propext ⟨fun h => h.resolve_left (fun e => hx e.symm), .inr⟩
      simp only [e1]
      by_cases hm : id ∈ l.map It.id
      · rw [if_pos hm, if_pos hm]
        conv => rhs; unfold scoreOf
        rw [if_neg hx]
      · rw [if_neg hm, if_neg hm]
        exact atKey_put_other (fun e => hx (by simpa using e.symm)) _ _

theorem mapD_at {l : List It} (hp : l.Pairwise (fun a b => a.id < b.id)) (id : Int) : (mapD l).atKey (.int .i64 id) (.lit (.int .i64 0)) = .lit (.int .i64 (scoreOf l id)) := by
  unfold mapD
  rw [fold_at l _ ⟨[], rfl⟩ hp]
  split
  · rfl
  · rename_i h
    rw [mem_id h]; rfl

theorem mapD_snoc {l : List It} {j : Nat} {x : It} (h : l[j]? = some x) : mapD (l.take (j + 1)) = (mapD (l.take j)).put (.int .i64 x.id) (.lit (.int .i64 x.sc)) := by
  unfold mapD
  rw [List.take_add_one, h, List.foldl_append]
  rfl
end Go.Proofs.YtkiknbjokknemaaGreat
