/-
  The argument of a law, a script '[]Op', opened: 'OpsAt' of its cells; a '[]byte' opened: 'Sl'.
-/
import Derived.Test.YthjjipcbpmdfnaaChWX
import Derived.Test.YthjjipcbpmdfnaaLaw
import Derived.Lib.SmallJoins
namespace Go.Proofs.Ythjjipcbpmdfnaa
open Go.ChangeShapes Go.WideShapes Go.ChangeAt Go.RowKit Go.Deep

instance : Inhabited OpV := ⟨⟨0, 0, 0, []⟩⟩

theorem place_of {w : World} {a : Addr} {v : Value} (h : w.cell? a = some v) : a.spot = none ∧ a.block < w.heap.size := by
  refine ⟨?_, World.block_lt_of_cell? w a h⟩
  unfold World.cell? at h
  split at h
  · split at h
    · cases h
    · rename_i hs; simpa using hs
  · cases h

theorem list4 {α : Type} {l : List α} (h : l.length = 4) : ∃ a b c d, l = [a, b, c, d] := by
  match l, h with
  | [a, b, c, d], _ => exact ⟨a, b, c, d, rfl⟩

section
variable {H : Type} {enc : TypeId × Value → H} {w : World} {base fuel : Nat} {spare : Nat → Bool} {held : Bool}

theorem byte_of {x : Int} (h : (Lit.int .u8 x).wf = true) : ((UInt8.ofNat x.toNat).toNat : Int) = x := by
  have := u8_bd h
  have e : x.toNat < 256 := by omega
  rw [UInt8.toNat_ofNat', Nat.mod_eq_of_lt e]; omega

theorem open_bytes {t : TypeId} {cs : List Value} {x : DataW H × List MemPlace} (ht : Try.prog.underlying t = some (.slice 5)) (h : DataW.trod enc Try.prog w base spare held fuel t cs = some x) :
    ∃ (A : Option Addr) (n c : Nat) (ys : List UInt8), cs = [.slice A n c] ∧ Sl w (fun _ => 0) 0 1 A n c (byts ys) := by
  rcases open_ints ht Try.underlying5 (by kernel_rfl) h with ⟨rfl, -⟩ | ⟨a, n, c, zs, rfl, -, hl, hc, hz, -, hcell, hwf⟩
  · exact ⟨none, 0, 0, [], rfl, rfl, Nat.le_refl _, Nat.zero_le _, fun h => absurd h (Nat.lt_irrefl _)⟩
  · have hnz : n ≤ zs.length := by rw [hz]; split <;> omega
    refine ⟨some a, n, c, (zs.take n).map fun z => UInt8.ofNat z.toNat, rfl, by simp; omega, hl, hc, fun hn => ?_⟩
    have h0 := hcell 0 (by omega)
    rw [show a.add 0 = a from rfl] at h0
    obtain ⟨hs, hb⟩ := place_of h0
    obtain ⟨g, off, sp⟩ := a
    simp only at hs hb
    subst hs
    refine ⟨g, off, rfl, rfl, hb, fun j u hj => ?_⟩
    simp only [byts, List.map_map, List.getElem?_map, Option.map_eq_some_iff] at hj
    obtain ⟨z, hz1, rfl⟩ := hj
    rw [List.getElem?_take] at hz1
    split at hz1
    · rename_i hjn
      have h1 := hcell j (by omega)
      have e : zs.getD j 0 = z := by simp [List.getD, hz1]
      rw [e] at h1
      have e2 : (({ block := g, off := off, spot := none } : Addr).add j) = ⟨g, off + j, none⟩ := by unfold Addr.add; split <;> simp_all
      rw [e2] at h1
      rw [h1]
      simp only [Function.comp]
      rw [byte_of (hwf z (List.mem_of_getElem? hz1))]
    · cases hz1

theorem open_script {t : TypeId} {cs : List Value} {x : DataW H × List MemPlace} (ht : Try.prog.underlying t = some (.slice 43)) (h : DataW.trod enc Try.prog w base spare held fuel t cs = some x) :
    ∃ (A : Option Addr) (n c : Nat) (ps : List OpV), cs = [.slice A n c] ∧ OpsAt w (fun _ => 0) 0 A n c ps := by
  have hsz : Try.prog.cellsOf 43 = 4 := by kernel_rfl
  have h1 : Try.prog.cellsOf 5 = 1 := by kernel_rfl
  have h2 : Try.prog.cellsOf 41 = 1 := by kernel_rfl
  rcases open_slice ht h with ⟨rfl, -⟩ | ⟨a, n, c, m, k, D, Pl, rfl, -, hl, hc, hm, -, hx⟩
  · exact ⟨none, 0, 0, [], rfl, rfl, Nat.le_refl _, Nat.zero_le _, fun h => absurd h (Nat.lt_irrefl _)⟩
  · have hnm : n ≤ m := by rw [hm]; split <;> omega
    have each : ∀ i, i < n → ∃ p : OpV, p.K < 256 ∧ p.S < 256 ∧ p.T < 256 ∧ ∃ BA bn bc,
        w.cell? (a.add (i * 4)) = some (.int .u8 p.K) ∧ w.cell? ((a.add (i * 4)).add 1) = some (.int .u8 p.S) ∧ w.cell? ((a.add (i * 4)).add 2) = some (.int .u8 p.T) ∧ w.cell? ((a.add (i * 4)).add 3) = some (.slice BA bn bc) ∧ Sl w (fun _ => 0) 0 1 BA bn bc (byts p.B) ∧ bn ≤ 9223372036854775807 := by
      intro i hi
      obtain ⟨cs', hcs, htr⟩ := hx i (by omega)
      rw [hsz] at hcs
      obtain ⟨-, hlen, hcell⟩ := World.cells?_some hcs
      obtain ⟨y0, y1, y2, y3, q, -, -, t0, t1, t2, t3⟩ := Go.Joins.trod_struct4 Try.underlying43 htr
      obtain ⟨v0, v1, v2, v3, rfl⟩ := list4 hlen
      simp only [h1, h2, List.drop_zero, List.drop_succ_cons, List.take_succ_cons, List.take_zero] at t0 t1 t2 t3
      obtain ⟨z0, e0, -, w0⟩ := DataW.trod_int Try.underlying5 t0
      obtain ⟨z1, e1, -, w1⟩ := DataW.trod_int Try.underlying5 t1
      obtain ⟨z2, e2, -, w2⟩ := DataW.trod_int Try.underlying5 t2
      obtain ⟨BA, bn, bc, ys, e3, hS⟩ := open_bytes Try.underlying41 t3
      simp only [List.cons.injEq, and_true] at e0 e1 e2 e3
      subst e0 e1 e2 e3
      have b0 := u8_bd w0
      have b1 := u8_bd w1
      have b2 := u8_bd w2
      have c0 := hcell 0 (by omega); have c1 := hcell 1 (by omega); have c2 := hcell 2 (by omega); have c3 := hcell 3 (by omega)
      simp only [List.getElem?_cons_zero, List.getElem?_cons_succ] at c0 c1 c2 c3
      have hb1 := hS.2.1; have hb2 := hS.2.2.1
      unfold maxLen at hb2
      refine ⟨⟨z0.toNat, z1.toNat, z2.toNat, ys⟩, by simp only; omega, by simp only; omega, by simp only; omega, BA, bn, bc, ?_, ?_, ?_, c3, hS, by omega⟩
      · rw [show (a.add (i * 4)) = (a.add (i * 4)).add 0 from rfl, c0]; simp only; rw [Int.toNat_of_nonneg b0.1]
      · rw [c1]; simp only; rw [Int.toNat_of_nonneg b1.1]
      · rw [c2]; simp only; rw [Int.toNat_of_nonneg b2.1]
    obtain ⟨f, hf⟩ := choose_lt (α := OpV) (p := fun i p => p.K < 256 ∧ p.S < 256 ∧ p.T < 256 ∧ ∃ BA bn bc,
        w.cell? (a.add (i * 4)) = some (.int .u8 p.K) ∧ w.cell? ((a.add (i * 4)).add 1) = some (.int .u8 p.S) ∧ w.cell? ((a.add (i * 4)).add 2) = some (.int .u8 p.T) ∧ w.cell? ((a.add (i * 4)).add 3) = some (.slice BA bn bc) ∧ Sl w (fun _ => 0) 0 1 BA bn bc (byts p.B) ∧ bn ≤ 9223372036854775807) each
    refine ⟨some a, n, c, (List.range n).map f, rfl, by simp, hl, hc, fun hn => ?_⟩
    obtain ⟨-, -, -, _, _, _, k0, -⟩ := hf 0 hn
    rw [Nat.zero_mul] at k0
    rw [show a.add 0 = a from rfl] at k0
    obtain ⟨hs, hb⟩ := place_of k0
    obtain ⟨g, off, sp⟩ := a
    simp only at hs hb
    subst hs
    have ad : ∀ j : Nat, (({ block := g, off := off, spot := none } : Addr).add j) = ⟨g, off + j, none⟩ := fun j => by unfold Addr.add; split <;> simp_all
    have ad2 : ∀ o2 j : Nat, (({ block := g, off := o2, spot := none } : Addr).add j) = ⟨g, o2 + j, none⟩ := fun o2 j => by unfold Addr.add; split <;> simp_all
    refine ⟨g, off, rfl, rfl, hb, fun i p hp => ?_⟩
    simp only [List.getElem?_map, Option.map_eq_some_iff] at hp
    obtain ⟨i', hi', rfl⟩ := hp
    obtain ⟨hin, rfl⟩ : i < n ∧ i' = i := by
      obtain ⟨hlt, he⟩ := List.getElem?_eq_some_iff.1 hi'
      rw [List.getElem_range] at he
      exact ⟨by simpa using hlt, he.symm⟩
    obtain ⟨k1, k2, k3, BA, bn, bc, q0, q1, q2, q3, q4, q5⟩ := hf i' hin
    simp only [ad, ad2] at q0 q1 q2 q3
    exact ⟨k1, k2, k3, BA, bn, bc, q0, q1, q2, q3, q4, q5⟩
end
end Go.Proofs.Ythjjipcbpmdfnaa
