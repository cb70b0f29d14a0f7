/-
  The append, as one step inside a region that draws its order.
-/
import Derived.Test.YtkiknbjokknemaaGreatBase
import Derived.Test.YtkiknbjokknemaaGreatOrders
namespace Go.Proofs.YtkiknbjokknemaaGreat
open Go.RowKit

theorem step_append_row {P : Program} {w : World} {ops : Array Oper} {o : Oper} {a : Act} {K : Act → World → Prop} {Q : Exit → Act → World → Prop} {E : Prop} (hgd : o.guard = none) (s x : Operand) (t : TypeId)
    (ho : o.op = .call { callee := .builtin .append, args := #[s, x], argTypes := #[t, t] })
    {e : TypeId} {sz bytes : Nat} {z : Value} (he : Elem P t e sz bytes z) (ow : Own) (τ : Nat)
    (A : Option Addr) (n c : Nat) (xs : List Value) (hs : a.eval s = .slice A n c) (hR : Row w ow τ e sz A n c xs) (o2 : Own) (τ2 : Nat) (B : Option Addr) (m d : Nat) (news : List Value) (hx : a.eval x = .slice B m d) (hS : Sl w o2 τ2 sz B m d news)
    (h1 : ∀ u ∈ news, u.oneCell' = true) (hbytes : (n + m) * bytes ≤ 140737488355328) (h63 : n + m ≤ maxLen)
    (h : ∀ A' c' w', Row w' (ext ow w.heap.size τ) τ e sz A' (n + m) c' (xs ++ news) → w.grownBy w' (Value.slice A n c).ownBlock → (∀ ad, A' = some ad → (∃ ad0, A = some ad0 ∧ ad.block = ad0.block) ∨ ad.block = w.heap.size) →
      K (a.put o.dst (.slice A' (n + m) c')) w') : if Region.wanted o (yielded ops a.tmps) = true then Oper.wp P o a w K Q else E := by
  have hw : Region.wanted o (yielded ops a.tmps) = true := by simp [Region.wanted, hgd]
  rw [if_pos hw]
  obtain ⟨A', c', w', hrun, h2, h3, h4⟩ := run_append_row (P := P) w o.type he ow τ hR hS h1 hbytes h63
  unfold Oper.wp execOp
  simp only [ho, resolve, invoke, builtin, Sem.run_bind, Sem.run_pure, Result.andThen_ok, List.map_toArray, List.map_cons, List.map_nil, hs, hx, hrun]
  exact h A' c' w' h2 h3 h4
end Go.Proofs.YtkiknbjokknemaaGreat
