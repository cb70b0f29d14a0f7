/-
  WALKS of marcheskit's small functions (SameInts, SameBytes), and run equations: a text of bytes, two reports held against each other.
-/
import Derived.Test.YthjjipcbpmdfnaaPackJ
import Derived.Laws.IdiomStrings
import Derived.Laws.BytesArg
namespace Go.Proofs.Ythjjipcbpmdfnaa
open Go.RowKit

theorem conv_bytes (w : World) (o : Own) (τ : Nat) (A : Option Addr) (n c : Nat) (xs : List UInt8) (hS : Sl w o τ 1 A n c (byts xs)) :
    (convert 41 9 (.slice A n c)).run Try.prog w = .ok (.string ⟨xs.toArray⟩) w := by
  have hl : n = xs.length := by have := hS.1; simp at this; omega
  subst hl
  rcases Nat.eq_zero_or_pos xs.length with h0 | h0
  · have hx : xs = [] := List.length_eq_zero_iff.1 h0
    subst hx
    cases A with
    | none => exact run_convert_bytes_nil (P := Try.prog) w _ _ Try.underlying41 Try.underlying5 _ _ _ Try.underlying9
    | some a => exact run_convert_bytes_back (P := Try.prog) w _ _ _ a c [] Try.underlying41 Try.underlying5 Try.underlying9 (fun j hj => absurd hj (by simp))
  · obtain ⟨g, off, rfl, -, -, hc⟩ := hS.2.2.2 h0
    refine run_convert_bytes_back (P := Try.prog) w _ _ _ ⟨g, off, none⟩ c xs Try.underlying41 Try.underlying5 Try.underlying9 (fun j hj => ?_)
    rw [Addr.add_lit]
    exact hc j _ (by simp [byts, hj])

theorem rep_ne_walk (W : World) (a b : Int) (p q : Bool) : (binOp .neq 140 (.agg #[.int .i64 a, .bool p]) (.agg #[.int .i64 b, .bool q])).run Try.prog W =
    .ok (.bool (!((a == b) && (p == q)))) W := by
  rw [run_neq_struct, run_equalIn_struct W 9999 140 _ _ (by kernel_rfl) (by kernel_rfl)]
  simp [go_sem, Try.underlying140]
  by_cases h1 : a = b <;> by_cases h2 : p = q <;> simp [h1, h2]

theorem take_eq_succ {α : Type} [Inhabited α] {xs ys : List α} {k : Nat} (h : xs.take k = ys.take k) (_hk : k < xs.length) (_hk' : k < ys.length) (he : xs[k]? = ys[k]?) : xs.take (k + 1) = ys.take (k + 1) := by
  rw [List.take_add_one, List.take_add_one, h, he]

/-- What such a function comes to. -/
def SameTo (w : World) (b : Bool) (e : Ending) (w' : World) : Prop := e = .returned (.bool b) ∧ ∃ k, w' = w.drewN k

end Go.Proofs.Ythjjipcbpmdfnaa
