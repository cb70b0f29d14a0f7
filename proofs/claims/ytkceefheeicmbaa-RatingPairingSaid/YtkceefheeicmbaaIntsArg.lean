/-
  A law's argument '[]int', opened.
-/
import Derived.Test.YtkceefheeicmbaaRatM
import Derived.Test.YtkceefheeicmbaaLaw
import Derived.Lib.SmallJoins
namespace Go.Proofs.Ytkceefheeicmbaa
open Go.ChangeShapes Go.WideShapes Go.ChangeAt Go.RowKit

theorem place_of {w : World} {a : Addr} {v : Value} (h : w.cell? a = some v) : a.spot = none ∧ a.block < w.heap.size := by
  refine ⟨?_, World.block_lt_of_cell? w a h⟩
  unfold World.cell? at h
  split at h
  · split at h
    · cases h
    · rename_i hs; simpa using hs
  · cases h

theorem open_intsS {H : Type} {enc : TypeId × Value → H} {w : World} {base fuel : Nat} {spare : Nat → Bool} {held : Bool} {t : TypeId} {A : Option Addr} {n c : Nat} {x : DataW H × List MemPlace} (ht : Try.prog.underlying t = some (.slice 3)) (h : DataW.trod enc Try.prog w base spare held fuel t [.slice A n c] = some x) :
    ∃ xs : List Int, Sl w (fun _ => 0) 0 1 A n c (ints xs) := by
  rcases open_ints ht Try.underlying3 (by kernel_rfl) h with ⟨e, -⟩ | ⟨a, n', c', zs, e, -, hl, hc, hz, -, hcell, -⟩
  · injection e with e; injection e with e1 e2 e3
    subst e1 e2 e3
    exact ⟨[], rfl, Nat.le_refl _, Nat.zero_le _, fun h => absurd h (Nat.lt_irrefl _)⟩
  · injection e with e; injection e with e1 e2 e3
    subst e1 e2 e3
    have hnz : n ≤ zs.length := by rw [hz]; split <;> omega
    refine ⟨zs.take n, by simp; omega, hl, hc, fun hn => ?_⟩
    have h0 := hcell 0 (by omega)
    rw [show a.add 0 = a from rfl] at h0
    obtain ⟨hs, hb⟩ := place_of h0
    obtain ⟨g, off, sp⟩ := a
    simp only at hs hb
    subst hs
    refine ⟨g, off, rfl, rfl, hb, fun j u hj => ?_⟩
    simp only [ints, List.getElem?_map, Option.map_eq_some_iff] at hj
    obtain ⟨z, hz1, rfl⟩ := hj
    rw [List.getElem?_take] at hz1
    split at hz1
    · rename_i hjn
      have h1 := hcell j (by omega)
      have e : zs.getD j 0 = z := by simp [List.getD, hz1]
      rw [e] at h1
      have e2 : (({ block := g, off := off, spot := none } : Addr).add j) = ⟨g, off + j, none⟩ := by unfold Addr.add; split <;> simp_all
      rw [e2] at h1
      exact h1
    · cases hz1
end Go.Proofs.Ytkceefheeicmbaa
