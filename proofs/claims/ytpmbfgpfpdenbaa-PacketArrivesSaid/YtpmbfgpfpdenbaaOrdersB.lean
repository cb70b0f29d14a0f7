/-
  A region that draws its order: another condition from here on.
-/
import Derived.Test.YtpmbfgpfpdenbaaOrders
namespace Go.Proofs.Ytpmbfgpfpdenbaa
open Go

section
variable {P : Program} {ops : Array Oper} {Q : Exit → Act → World → Prop} {md : Region.Mode} {S0 S1 : World → Prop} {st st1 : Nat}
/-- What is shown under a condition that is kept till 'st' holds with no condition. -/
theorem wpAnyG_weaken : ∀ (fuel : Nat) (listed : Array Bool) (a : Act) (w : World), wpAnyG P md ops Q S0 st fuel listed a w → wpAnyG P md ops Q (fun _ => True) st1 fuel listed a w
  | 0, _, _, _, h => h
  | fuel + 1, _, _, _, h => ⟨h.1, fun i hi => wpOp_mono (fun a' w' h' => ⟨.inr trivial, wpAnyG_weaken fuel _ a' w' h'.2⟩) (h.2 i hi)⟩
/-- Once 'st' has come up, the condition is of no account. -/
theorem wpAnyG_after : ∀ (fuel : Nat) (listed : Array Bool) (a : Act) (w : World), listed.getD st false = true → wpAnyG P md ops Q S1 st1 fuel listed a w → wpAnyG P md ops Q S0 st fuel listed a w
  | 0, _, _, _, _, h => h
  | fuel + 1, listed, _, _, hl, h => by
    have key : ∀ i, (listed.setIfInBounds i true).getD st false = true := fun i => by
      by_cases hi : i = st
      · subst hi
        have hlt : i < listed.size := by
          rcases Nat.lt_or_ge i listed.size with h1 | h1
          · exact h1
          · simp [Array.getElem?_eq_none h1] at hl
        simp [hlt]
      · rw [getD_set_far hi]; exact hl
    exact ⟨h.1, fun i hi => wpOp_mono (fun a' w' h' => ⟨.inl (key i), wpAnyG_after fuel _ a' w' (key i) h'.2⟩) (h.2 i hi)⟩
end
end Go.Proofs.Ytpmbfgpfpdenbaa
