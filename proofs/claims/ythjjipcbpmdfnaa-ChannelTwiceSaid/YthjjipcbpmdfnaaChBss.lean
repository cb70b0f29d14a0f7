/-
  The argument of a law, '[][]byte', opened: 'ArgBs' of its cells.
-/
import Derived.Test.YthjjipcbpmdfnaaChTB
import Derived.Test.YthjjipcbpmdfnaaChScr
namespace Go.Proofs.Ythjjipcbpmdfnaa
open Go.ChangeShapes Go.WideShapes Go.ChangeAt Go.RowKit Go.Deep

section
variable {H : Type} {enc : TypeId × Value → H} {w : World} {base fuel : Nat} {spare : Nat → Bool} {held : Bool}
theorem open_bss {t : TypeId} {cs : List Value} {x : DataW H × List MemPlace} (ht : Try.prog.underlying t = some (.slice 41)) (h : DataW.trod enc Try.prog w base spare held fuel t cs = some x) :
    ∃ (A : Option Addr) (n c : Nat) (ls : List (List UInt8)), cs = [.slice A n c] ∧ ArgBs w (fun _ => 0) 0 A n c ls := by
  have hsz : Try.prog.cellsOf 41 = 1 := by kernel_rfl
  rcases open_slice ht h with ⟨rfl, -⟩ | ⟨a, n, c, m, k, D, Pl, rfl, -, hl, hc, hm, -, hx⟩
  · exact ⟨none, 0, 0, [], rfl, [], ⟨rfl, Nat.le_refl _, Nat.zero_le _, fun h => absurd h (Nat.lt_irrefl _)⟩, rfl, fun i p h => by simp at h⟩
  · have hnm : n ≤ m := by rw [hm]; split <;> omega
    have each : ∀ i, i < n → ∃ ys : List UInt8, ∃ BA bc, w.cell? (a.add i) = some (.slice BA ys.length bc) ∧ Sl w (fun _ => 0) 0 1 BA ys.length bc (byts ys) := by
      intro i hi
      obtain ⟨cs', hcs, htr⟩ := hx i (by omega)
      rw [hsz, Nat.mul_one] at hcs
      obtain ⟨-, hlen, hcell⟩ := World.cells?_some hcs
      obtain ⟨BA, bn, bc, ys, e3, hS⟩ := open_bytes Try.underlying41 htr
      subst e3
      have c0 := hcell 0 (by omega)
      rw [show (a.add i).add 0 = a.add i from rfl] at c0
      have hbn : bn = ys.length := by have := hS.1; simp at this; omega
      subst hbn
      exact ⟨ys, BA, bc, c0, hS⟩
    obtain ⟨f, hf⟩ := choose_lt (α := List UInt8) (p := fun i ys => ∃ BA bc, w.cell? (a.add i) = some (.slice BA ys.length bc) ∧ Sl w (fun _ => 0) 0 1 BA ys.length bc (byts ys)) each
    refine ⟨some a, n, c, (List.range n).map f, rfl, (List.range n).map (fun i => (w.cell? (a.add i)).getD (.bool false)), ⟨by simp, hl, hc, fun hn => ?_⟩, by simp, fun i p hp => ?_⟩
    · obtain ⟨BA, bc, k0, -⟩ := hf 0 hn
      rw [show a.add 0 = a from rfl] at k0
      obtain ⟨hs, hb⟩ := place_of k0
      obtain ⟨g, off, sp⟩ := a
      simp only at hs hb
      subst hs
      have ad : ∀ j : Nat, (({ block := g, off := off, spot := none } : Addr).add j) = ⟨g, off + j, none⟩ := fun j => by unfold Addr.add; split <;> simp_all
      refine ⟨g, off, rfl, rfl, hb, fun j u hj => ?_⟩
      simp only [List.getElem?_map, Option.map_eq_some_iff] at hj
      obtain ⟨j', hj', rfl⟩ := hj
      obtain ⟨hjn, rfl⟩ : j < n ∧ j' = j := by
        obtain ⟨hlt, he⟩ := List.getElem?_eq_some_iff.1 hj'
        rw [List.getElem_range] at he
        exact ⟨by simpa using hlt, he.symm⟩
      obtain ⟨BA, bc, q0, -⟩ := hf j' hjn
      rw [q0, ← ad, q0]; rfl
    · simp only [List.getElem?_map, Option.map_eq_some_iff] at hp
      obtain ⟨i', hi', rfl⟩ := hp
      obtain ⟨hin, rfl⟩ : i < n ∧ i' = i := by
        obtain ⟨hlt, he⟩ := List.getElem?_eq_some_iff.1 hi'
        rw [List.getElem_range] at he
        exact ⟨by simpa using hlt, he.symm⟩
      obtain ⟨BA, bc, q0, q1⟩ := hf i' hin
      refine ⟨BA, bc, ?_, q1⟩
      simp only [List.getElem?_map, hi', Option.map_some, q0, Option.getD_some]
end
end Go.Proofs.Ythjjipcbpmdfnaa
