/-
  THE WANTS OF A TURN, in plain words.
-/
import Derived.Test.YtkiknbjokknemaaGreatBudC
namespace Go.Proofs.YtkiknbjokknemaaGreat
open Go.RowKit

def madeAt (bits weights i : Nat) : Option (Int × Int) := if bits / 2 ^ i % 2 = 1 then some (2 * (i : Int), 1 + ((weights / 2 ^ (4 * i) % 16 : Nat) : Int)) else none
def madeTo (bits weights n : Nat) : List (Int × Int) := (List.range n).filterMap (madeAt bits weights)

theorem madeTo_succ (bits weights n : Nat) : madeTo bits weights (n + 1) = madeTo bits weights n ++ (madeAt bits weights n).toList := by
  unfold madeTo
  rw [List.range_succ, List.filterMap_append]
  cases h : madeAt bits weights n <;> simp [h]

theorem madeTo_mem {bits weights n : Nat} {x : Int × Int} (h : x ∈ madeTo bits weights n) : ∃ i, i < n ∧ x.1 = 2 * (i : Int) ∧ 1 ≤ x.2 ∧ x.2 ≤ 16 := by
  unfold madeTo at h
  obtain ⟨i, hi, hx⟩ := List.mem_filterMap.1 h
  unfold madeAt at hx
  split at hx
  · injection hx with hx
    subst hx
    exact ⟨i, by simpa using hi, rfl, by simp only; omega, by simp only; omega⟩
  · cases hx

theorem madeTo_len (bits weights n : Nat) : (madeTo bits weights n).length ≤ n := by
  have := List.length_filterMap_le (madeAt bits weights) (List.range n)
  simpa [madeTo] using this

theorem madeTo_sorted (bits weights n : Nat) : (madeTo bits weights n).Pairwise fun a b => a.1 < b.1 := by
  induction n with
  | zero => exact List.Pairwise.nil
  | succ n ih =>
    rw [madeTo_succ, List.pairwise_append]
    refine ⟨ih, ?_, fun a ha b hb => ?_⟩
    · cases madeAt bits weights n <;> simp
    · obtain ⟨i, hi, hx, -⟩ := madeTo_mem ha
      unfold madeAt at hb
      split at hb
      · simp at hb; subst hb; simp only; omega
      · simp at hb

theorem madeTo_right (bits weights n : Nat) (hn : n ≤ 16) : RightP (madeTo bits weights n) := by
  refine ⟨by have := madeTo_len bits weights n; omega, fun x hx => ?_, madeTo_sorted _ _ _⟩
  obtain ⟨i, hi, h1, h2, h3⟩ := madeTo_mem hx
  exact ⟨by omega, by omega, h2, h3⟩
end Go.Proofs.YtkiknbjokknemaaGreat
