/-
  TWO OWNERSHIPS JOINED: what a callee says of its new blocks, beside what the caller knows of the old ones.
-/
import Derived.Test.YtkiknbjokknemaaGreatBase
namespace Go.Proofs.YtkiknbjokknemaaGreat
open Go.RowKit

/-- Old blocks (below n) as o has them, new ones as o' has them. -/
def mix (o : Own) (n : Nat) (o' : Own) : Own := fun k => if k < n then o k else o' k
theorem mix_lt {o o' : Own} {n k : Nat} (h : k < n) : mix o n o' k = o k := by simp [mix, h]
theorem mix_ge {o o' : Own} {n k : Nat} (h : n ≤ k) : mix o n o' k = o' k := by simp [mix]; omega

section
variable {w w' : World} {o o' : Own} {ts : List Nat} {τ : Nat} {e : TypeId} {sz n c : Nat} {A : Option Addr} {xs : List Value}
theorem Step.mixed (h : Step [] w (fun _ => 0) w' o') (o : Own) : Step [] w o w' (mix o w.heap.size o') :=
  ⟨h.os, h.tape, h.output, h.size, fun _ hk => mix_lt hk, fun k hk _ => h.block k hk (by simp)⟩
theorem Step.mix_new (h : Step [] w (fun _ => 0) w' o') {k : Nat} (hk : o' k ≠ 0) : w.heap.size ≤ k := by
  rcases Nat.lt_or_ge k w.heap.size with hlt | hge
  · exact absurd (h.own k hlt) hk
  · exact hge
theorem Step.mix_eq (h : Step [] w (fun _ => 0) w' o') (o : Own) {k : Nat} (hk : o' k ≠ 0) : mix o w.heap.size o' k = o' k := mix_ge (h.mix_new hk)
theorem Row.mixed (hr : Row w' o' τ e sz A n c xs) (h : Step [] w (fun _ => 0) w' o') (o : Own) (hτ : τ ≠ 0) : Row w' (mix o w.heap.size o') τ e sz A n c xs :=
  ⟨hr.1, fun ad ha => by rw [h.mix_eq o (by rw [hr.2 ad ha]; exact hτ)]; exact hr.2 ad ha⟩
theorem Sl.mixed (hr : Sl w' o' τ sz A n c xs) (h : Step [] w (fun _ => 0) w' o') (o : Own) (hτ : τ ≠ 0) : Sl w' (mix o w.heap.size o') τ sz A n c xs := by
  refine ⟨hr.1, hr.2.1, hr.2.2.1, fun hn => ?_⟩
  obtain ⟨g, off, hA, ho, hg, hc⟩ := hr.2.2.2 hn
  exact ⟨g, off, hA, by rw [h.mix_eq o (by rw [ho]; exact hτ)]; exact ho, hg, hc⟩
end
end Go.Proofs.YtkiknbjokknemaaGreat
