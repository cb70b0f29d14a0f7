/-
  A law's argument '[]byte', opened, with its size.
-/
import Derived.Test.YtpmbfgpfpdenbaaScript
import Derived.SizedLaws
namespace Go.Proofs.Ytpmbfgpfpdenbaa
open Go.ChangeShapes Go.WideShapes Go.ChangeAt Go.RowKit Go.Deep

section
variable {H : Type} {enc : TypeId × Value → H} {w : World} {base fuel : Nat} {held : Bool}
/-- The bytes, and that the datum is as long. -/
theorem open_bytesD {t : TypeId} {cs : List Value} {x : DataW H × List MemPlace} (ht : Try.prog.underlying t = some (.slice 5)) (h : DataW.trod enc Try.prog w base (fun _ => true) held fuel t cs = some x) :
    ∃ (A : Option Addr) (n c : Nat) (ys : List UInt8), cs = [.slice A n c] ∧ Sl w (fun _ => 0) 0 1 A n c (byts ys) ∧ (n = 0 ∨ ∃ el sp, x.1 = .slice el sp ∧ el.length = n) := by
  obtain ⟨A, n, c, ys, rfl, hS⟩ := open_bytes ht h
  refine ⟨A, n, c, ys, rfl, hS, ?_⟩
  rcases open_ints ht Try.underlying5 (by kernel_rfl) h with ⟨e, -⟩ | ⟨a, n', c', zs, e, -, hl, hc, hz, hx, -, -⟩
  · injection e with e; injection e with _ e _; exact .inl e
  · injection e with e
    injection e with _ e _
    subst e
    refine .inr ⟨_, _, by rw [hx], ?_⟩
    have : zs.length = c' := by rw [hz]; rfl
    simp [lits]; omega
end
end Go.Proofs.Ytpmbfgpfpdenbaa
