/-
  A law's argument that is a Turn, or a list of Turns, opened.
-/
import Derived.Test.YtkiknbjokknemaaLaw
import Derived.Test.YtkiknbjokknemaaBudO
import Derived.Lib.SmallJoins
namespace Go.Proofs.Ytkiknbjokknemaa
open Go.ChangeShapes Go.WideShapes Go.ChangeAt Go.RowKit Go.Deep

/-- A Turn's fields. -/
structure TurnV where
  bits : Int
  wts : Int
  k : Int
def TurnV.ok (t : TurnV) : Prop := 0 ≤ t.bits ∧ t.bits ≤ 65535 ∧ 0 ≤ t.wts ∧ t.wts ≤ 18446744073709551615 ∧ 0 ≤ t.k ∧ t.k ≤ 255
def TurnV.val (t : TurnV) : Value := .agg #[.int .u16 t.bits, .int .u64 t.wts, .int .u8 t.k]
instance : Inhabited TurnV := ⟨⟨0, 0, 0⟩⟩

theorem place_of {w : World} {a : Addr} {v : Value} (h : w.cell? a = some v) : a.spot = none ∧ a.block < w.heap.size := by
  refine ⟨?_, World.block_lt_of_cell? w a h⟩
  unfold World.cell? at h
  split at h
  · split at h
    · cases h
    · rename_i hs; simpa using hs
  · cases h

theorem list3 {α : Type} {l : List α} (h : l.length = 3) : ∃ a b c, l = [a, b, c] := by
  match l, h with
  | [a, b, c], _ => exact ⟨a, b, c, rfl⟩

section
variable {H : Type} {enc : TypeId × Value → H} {w : World} {base fuel : Nat} {spare : Nat → Bool} {held : Bool}

set_option maxRecDepth 100000 in
theorem open_turn {v : Value} {d : DataW H} {p : List MemPlace} {b0 : Nat} (hv : Value.okWide Try.prog w .any b0 41 v) (h : DataW.Trod enc Try.prog w base spare held 41 v d p) :
    ∃ t : TurnV, v = .agg #[.int .u16 t.bits, .int .u64 t.wts, .int .u8 t.k] ∧ t.ok := by
  obtain ⟨v0, v1, v2, y0, y1, y2, m, rfl, -, -, t0, t1, t2⟩ := Go.Joins.open_agg3 Try.underlying41 (by kernel_rfl) (by kernel_rfl) hv h
  obtain ⟨z0, e0, -, w0⟩ := DataW.trod_int Try.underlying38 t0
  obtain ⟨z1, e1, -, w1⟩ := DataW.trod_int Try.underlying39 t1
  obtain ⟨z2, e2, -, w2⟩ := DataW.trod_int Try.underlying5 t2
  simp only [List.cons.injEq, and_true] at e0 e1 e2
  subst e0 e1 e2
  exact ⟨⟨z0, z1, z2⟩, rfl, (u16_bd w0).1, (u16_bd w0).2, (u64_bd w1).1, (u64_bd w1).2, (u8_bd w2).1, (u8_bd w2).2⟩

/-- A list of Turns in memory. -/
def TurnsAt (w : World) (A : Option Addr) (n c : Nat) (ts : List TurnV) : Prop :=
  ts.length = n ∧ n ≤ c ∧ c ≤ maxLen ∧ (∀ t ∈ ts, t.ok) ∧ (0 < n → ∃ g off, A = some ⟨g, off, none⟩ ∧ g < w.heap.size ∧ ∀ i t, ts[i]? = some t → w.cell? ⟨g, off + i * 3, none⟩ = some (.int .u16 t.bits) ∧ w.cell? ⟨g, off + i * 3 + 1, none⟩ = some (.int .u64 t.wts) ∧ w.cell? ⟨g, off + i * 3 + 2, none⟩ = some (.int .u8 t.k))

theorem choose_ltT {α : Type} [Inhabited α] {p : Nat → α → Prop} {n : Nat} (h : ∀ i, i < n → ∃ x, p i x) : ∃ f : Nat → α, ∀ i, i < n → p i (f i) := by
  refine ⟨fun i => if hi : i < n then (h i hi).choose else default, fun i hi => ?_⟩
  simp only [hi, dif_pos]
  exact (h i hi).choose_spec

theorem open_turns {t : TypeId} {cs : List Value} {x : DataW H × List MemPlace} (ht : Try.prog.underlying t = some (.slice 41)) (h : DataW.trod enc Try.prog w base spare held fuel t cs = some x) :
    ∃ (A : Option Addr) (n c : Nat) (ts : List TurnV), cs = [.slice A n c] ∧ TurnsAt w A n c ts := by
  have hsz : Try.prog.cellsOf 41 = 3 := by kernel_rfl
  have h1 : Try.prog.cellsOf 38 = 1 := by kernel_rfl
  have h2 : Try.prog.cellsOf 39 = 1 := by kernel_rfl
  have h3 : Try.prog.cellsOf 5 = 1 := by kernel_rfl
  rcases open_slice ht h with ⟨rfl, -⟩ | ⟨a, n, c, m, k, D, Pl, rfl, -, hl, hc, hm, -, hx⟩
  · exact ⟨none, 0, 0, [], rfl, rfl, Nat.le_refl _, Nat.zero_le _, (fun t ht => absurd ht (by simp)), fun h => absurd h (Nat.lt_irrefl _)⟩
  · have hnm : n ≤ m := by rw [hm]; split <;> omega
    have each : ∀ i, i < n → ∃ p : TurnV, p.ok ∧ w.cell? (a.add (i * 3)) = some (.int .u16 p.bits) ∧ w.cell? ((a.add (i * 3)).add 1) = some (.int .u64 p.wts) ∧ w.cell? ((a.add (i * 3)).add 2) = some (.int .u8 p.k) := by
      intro i hi
      obtain ⟨cs', hcs, htr⟩ := hx i (by omega)
      rw [hsz] at hcs
      obtain ⟨-, hlen, hcell⟩ := World.cells?_some hcs
      obtain ⟨y0, y1, y2, q, -, -, t0, t1, t2⟩ := trod_struct3 Try.underlying41 htr
      obtain ⟨v0, v1, v2, rfl⟩ := list3 hlen
      simp only [h1, h2, h3, List.drop_zero, List.drop_succ_cons, List.take_succ_cons, List.take_zero] at t0 t1 t2
      obtain ⟨z0, e0, -, w0⟩ := DataW.trod_int Try.underlying38 t0
      obtain ⟨z1, e1, -, w1⟩ := DataW.trod_int Try.underlying39 t1
      obtain ⟨z2, e2, -, w2⟩ := DataW.trod_int Try.underlying5 t2
      simp only [List.cons.injEq, and_true] at e0 e1 e2
      subst e0 e1 e2
      have c0 := hcell 0 (by omega); have c1 := hcell 1 (by omega); have c2 := hcell 2 (by omega)
      simp only [List.getElem?_cons_zero, List.getElem?_cons_succ] at c0 c1 c2
      exact ⟨⟨z0, z1, z2⟩, ⟨(u16_bd w0).1, (u16_bd w0).2, (u64_bd w1).1, (u64_bd w1).2, (u8_bd w2).1, (u8_bd w2).2⟩, by rw [show (a.add (i * 3)) = (a.add (i * 3)).add 0 from rfl, c0], c1, c2⟩
    obtain ⟨f, hf⟩ := choose_ltT (α := TurnV) (p := fun i p => p.ok ∧ w.cell? (a.add (i * 3)) = some (.int .u16 p.bits) ∧ w.cell? ((a.add (i * 3)).add 1) = some (.int .u64 p.wts) ∧ w.cell? ((a.add (i * 3)).add 2) = some (.int .u8 p.k)) each
    refine ⟨some a, n, c, (List.range n).map f, rfl, by simp, hl, hc, fun t ht => ?_, fun hn => ?_⟩
    · obtain ⟨i, hi, rfl⟩ := List.mem_map.1 ht
      exact (hf i (by simpa using hi)).1
    obtain ⟨-, k0, -⟩ := hf 0 hn
    rw [Nat.zero_mul] at k0
    rw [show a.add 0 = a from rfl] at k0
    obtain ⟨hs, hb⟩ := place_of k0
    obtain ⟨g, off, sp⟩ := a
    simp only at hs hb
    subst hs
    have ad : ∀ j : Nat, (({ block := g, off := off, spot := none } : Addr).add j) = ⟨g, off + j, none⟩ := fun j => by unfold Addr.add; split <;> simp_all
    have ad2 : ∀ o2 j : Nat, (({ block := g, off := o2, spot := none } : Addr).add j) = ⟨g, o2 + j, none⟩ := fun o2 j => by unfold Addr.add; split <;> simp_all
    refine ⟨g, off, rfl, hb, fun i p hp => ?_⟩
    simp only [List.getElem?_map, Option.map_eq_some_iff] at hp
    obtain ⟨i', hi', rfl⟩ := hp
    obtain ⟨hin, rfl⟩ : i < n ∧ i' = i := by
      obtain ⟨hlt, he⟩ := List.getElem?_eq_some_iff.1 hi'
      rw [List.getElem_range] at he
      exact ⟨by simpa using hlt, he.symm⟩
    obtain ⟨-, q0, q1, q2⟩ := hf i' hin
    simp only [ad, ad2] at q0 q1 q2
    exact ⟨q0, q1, q2⟩
end
end Go.Proofs.Ytkiknbjokknemaa
