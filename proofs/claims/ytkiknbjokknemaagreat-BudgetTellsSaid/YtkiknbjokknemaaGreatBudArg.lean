/-
  A law's arguments '[]budget.Item', '[]budget.Want', opened.
-/
import Derived.Test.YtkiknbjokknemaaGreatLaw
import Derived.Lib.SmallJoins
import Derived.Test.YtkiknbjokknemaaGreatBudC
import Derived.ChangeSame
namespace Go.Proofs.YtkiknbjokknemaaGreat
open Go.ChangeShapes Go.WideShapes Go.ChangeAt Go.RowKit Go.Deep

theorem place_of {w : World} {a : Addr} {v : Value} (h : w.cell? a = some v) : a.spot = none ∧ a.block < w.heap.size := by
  refine ⟨?_, World.block_lt_of_cell? w a h⟩
  unfold World.cell? at h
  split at h
  · split at h
    · cases h
    · rename_i hs; simpa using hs
  · cases h

theorem list3 {α : Type} {l : List α} (h : l.length = 3) : ∃ a b c, l = [a, b, c] := by
  match l, h with
  | [a, b, c], _ => exact ⟨a, b, c, rfl⟩
theorem list2 {α : Type} {l : List α} (h : l.length = 2) : ∃ a b, l = [a, b] := by
  match l, h with
  | [a, b], _ => exact ⟨a, b, rfl⟩
theorem choose_ltT {α : Type} [Inhabited α] {p : Nat → α → Prop} {n : Nat} (h : ∀ i, i < n → ∃ x, p i x) : ∃ f : Nat → α, ∀ i, i < n → p i (f i) := by
  refine ⟨fun i => if hi : i < n then (h i hi).choose else default, fun i hi => ?_⟩
  simp only [hi, dif_pos]
  exact (h i hi).choose_spec

/-- Rows of three numbers. -/
abbrev rows3 (l : List (Int × Int × Int)) : List Value := l.flatMap fun x => [.int .i64 x.1, .int .i64 x.2.1, .int .i64 x.2.2]
abbrev rows2 (l : List (Int × Int)) : List Value := l.flatMap fun x => [.int .i64 x.1, .int .i64 x.2]
theorem rows3_at (l : List (Int × Int × Int)) : ∀ (j : Nat) (u : Value), (rows3 l)[j]? = some u → ∃ x, l[j / 3]? = some x ∧ (j % 3 = 0 ∧ u = .int .i64 x.1 ∨ j % 3 = 1 ∧ u = .int .i64 x.2.1 ∨ j % 3 = 2 ∧ u = .int .i64 x.2.2) := by
  induction l with
  | nil => intro j u h; simp at h
  | cons y l ih =>
    intro j u h
    rw [rows3, List.flatMap_cons] at h
    match j with
    | 0 => simp at h; exact ⟨y, by simp, .inl ⟨rfl, h.symm⟩⟩
    | 1 => simp at h; exact ⟨y, by simp, .inr (.inl ⟨rfl, h.symm⟩)⟩
    | 2 => simp at h; exact ⟨y, by simp, .inr (.inr ⟨rfl, h.symm⟩)⟩
    | j + 3 =>
      obtain ⟨x, h1, h2⟩ := ih j u (by simpa using h)
      refine ⟨x, ?_, ?_⟩
      · rw [show (j + 3) / 3 = j / 3 + 1 by omega, List.getElem?_cons_succ]; exact h1
      · rw [show (j + 3) % 3 = j % 3 by omega]; exact h2
theorem rows2_at (l : List (Int × Int)) : ∀ (j : Nat) (u : Value), (rows2 l)[j]? = some u → ∃ x, l[j / 2]? = some x ∧ (j % 2 = 0 ∧ u = .int .i64 x.1 ∨ j % 2 = 1 ∧ u = .int .i64 x.2) := by
  induction l with
  | nil => intro j u h; simp at h
  | cons y l ih =>
    intro j u h
    rw [rows2, List.flatMap_cons] at h
    match j with
    | 0 => simp at h; exact ⟨y, by simp, .inl ⟨rfl, h.symm⟩⟩
    | 1 => simp at h; exact ⟨y, by simp, .inr ⟨rfl, h.symm⟩⟩
    | j + 2 =>
      obtain ⟨x, h1, h2⟩ := ih j u (by simpa using h)
      refine ⟨x, ?_, ?_⟩
      · rw [show (j + 2) / 2 = j / 2 + 1 by omega, List.getElem?_cons_succ]; exact h1
      · rw [show (j + 2) % 2 = j % 2 by omega]; exact h2
theorem rows3_len (l : List (Int × Int × Int)) : (rows3 l).length = l.length * 3 := by
  induction l with
  | nil => rfl
  | cons x l ih => rw [rows3, List.flatMap_cons, List.length_append, ih]; simp; omega
theorem rows2_len (l : List (Int × Int)) : (rows2 l).length = l.length * 2 := by
  induction l with
  | nil => rfl
  | cons x l ih => rw [rows2, List.flatMap_cons, List.length_append, ih]; simp; omega

section
variable {H : Type} {enc : TypeId × Value → H} {w : World} {base fuel : Nat} {spare : Nat → Bool} {held : Bool}

theorem open_rows3 {t e : TypeId} {A : Option Addr} {n c : Nat} {x : DataW H × List MemPlace} (ht : Tryz.prog.underlying t = some (.slice e)) (hsz : Tryz.prog.cellsOf e = 3) (hst : ∀ {cs' : List Value} {fuel' : Nat} {y : DataW H × List MemPlace}, DataW.trod enc Tryz.prog w base spare held fuel' e cs' = some y → cs'.length = 3 →
      ∃ z0 z1 z2 : Int, cs' = [.int .i64 z0, .int .i64 z1, .int .i64 z2])
    (h : DataW.trod enc Tryz.prog w base spare held fuel t [.slice A n c] = some x) : ∃ ts : List (Int × Int × Int), Sl w (fun _ => 0) 0 3 A n c (rows3 ts) := by
  rcases open_slice ht h with ⟨e', -⟩ | ⟨a, n', c', m, k, D, Pl, e', -, hl, hc, hm, -, hx⟩
  · injection e' with e'; injection e' with e1 e2 e3; subst e1 e2 e3
    exact ⟨[], rfl, Nat.le_refl _, Nat.zero_le _, fun h => absurd h (Nat.lt_irrefl _)⟩
  · injection e' with e'; injection e' with e1 e2 e3; subst e1 e2 e3
    have hnm : n ≤ m := by rw [hm]; split <;> omega
    have each : ∀ i, i < n → ∃ p : Int × Int × Int, w.cell? (a.add (i * 3)) = some (.int .i64 p.1) ∧ w.cell? ((a.add (i * 3)).add 1) = some (.int .i64 p.2.1) ∧ w.cell? ((a.add (i * 3)).add 2) = some (.int .i64 p.2.2) := by
      intro i hi
      obtain ⟨cs', hcs, htr⟩ := hx i (by omega)
      rw [hsz] at hcs
      obtain ⟨-, hlen, hcell⟩ := World.cells?_some hcs
      obtain ⟨z0, z1, z2, rfl⟩ := hst htr hlen
      have c0 := hcell 0 (by omega); have c1 := hcell 1 (by omega); have c2 := hcell 2 (by omega)
      simp only [List.getElem?_cons_zero, List.getElem?_cons_succ] at c0 c1 c2
      exact ⟨(z0, z1, z2), by rw [show (a.add (i * 3)) = (a.add (i * 3)).add 0 from rfl, c0], c1, c2⟩
    obtain ⟨f, hf⟩ := choose_ltT (α := Int × Int × Int) each
    refine ⟨(List.range n).map f, by rw [rows3_len]; simp, hl, hc, fun hn => ?_⟩
    obtain ⟨k0, -⟩ := hf 0 hn
    rw [Nat.zero_mul] at k0
    rw [show a.add 0 = a from rfl] at k0
    obtain ⟨hs, hb⟩ := place_of k0
    obtain ⟨g, off, sp⟩ := a
    simp only at hs hb
    subst hs
    have ad : ∀ j : Nat, (({ block := g, off := off, spot := none } : Addr).add j) = ⟨g, off + j, none⟩ := fun j => by unfold Addr.add; split <;> simp_all
    have ad2 : ∀ o2 j : Nat, (({ block := g, off := o2, spot := none } : Addr).add j) = ⟨g, o2 + j, none⟩ := fun o2 j => by unfold Addr.add; split <;> simp_all
    refine ⟨g, off, rfl, rfl, hb, fun j u hj => ?_⟩
    obtain ⟨p, hp, hu⟩ := rows3_at _ j u hj
    simp only [List.getElem?_map, Option.map_eq_some_iff] at hp
    obtain ⟨i', hi', rfl⟩ := hp
    obtain ⟨hin, rfl⟩ : j / 3 < n ∧ i' = j / 3 := by
      obtain ⟨hlt, he⟩ := List.getElem?_eq_some_iff.1 hi'
      rw [List.getElem_range] at he
      exact ⟨by simpa using hlt, he.symm⟩
    obtain ⟨q0, q1, q2⟩ := hf (j / 3) hin
    simp only [ad, ad2] at q0 q1 q2
    rcases hu with ⟨hj0, rfl⟩ | ⟨hj0, rfl⟩ | ⟨hj0, rfl⟩
    · rw [show off + j = off + j / 3 * 3 by omega]; exact q0
    · rw [show off + j = off + j / 3 * 3 + 1 by omega]; exact q1
    · rw [show off + j = off + j / 3 * 3 + 2 by omega]; exact q2

theorem open_rows2 {t e : TypeId} {A : Option Addr} {n c : Nat} {x : DataW H × List MemPlace} (ht : Tryz.prog.underlying t = some (.slice e)) (hsz : Tryz.prog.cellsOf e = 2) (hst : ∀ {cs' : List Value} {fuel' : Nat} {y : DataW H × List MemPlace}, DataW.trod enc Tryz.prog w base spare held fuel' e cs' = some y → cs'.length = 2 →
      ∃ z0 z1 : Int, cs' = [.int .i64 z0, .int .i64 z1])
    (h : DataW.trod enc Tryz.prog w base spare held fuel t [.slice A n c] = some x) : ∃ ts : List (Int × Int), Sl w (fun _ => 0) 0 2 A n c (rows2 ts) := by
  rcases open_slice ht h with ⟨e', -⟩ | ⟨a, n', c', m, k, D, Pl, e', -, hl, hc, hm, -, hx⟩
  · injection e' with e'; injection e' with e1 e2 e3; subst e1 e2 e3
    exact ⟨[], rfl, Nat.le_refl _, Nat.zero_le _, fun h => absurd h (Nat.lt_irrefl _)⟩
  · injection e' with e'; injection e' with e1 e2 e3; subst e1 e2 e3
    have hnm : n ≤ m := by rw [hm]; split <;> omega
    have each : ∀ i, i < n → ∃ p : Int × Int, w.cell? (a.add (i * 2)) = some (.int .i64 p.1) ∧ w.cell? ((a.add (i * 2)).add 1) = some (.int .i64 p.2) := by
      intro i hi
      obtain ⟨cs', hcs, htr⟩ := hx i (by omega)
      rw [hsz] at hcs
      obtain ⟨-, hlen, hcell⟩ := World.cells?_some hcs
      obtain ⟨z0, z1, rfl⟩ := hst htr hlen
      have c0 := hcell 0 (by omega); have c1 := hcell 1 (by omega)
      simp only [List.getElem?_cons_zero, List.getElem?_cons_succ] at c0 c1
      exact ⟨(z0, z1), by rw [show (a.add (i * 2)) = (a.add (i * 2)).add 0 from rfl, c0], c1⟩
    obtain ⟨f, hf⟩ := choose_ltT (α := Int × Int) each
    refine ⟨(List.range n).map f, by rw [rows2_len]; simp, hl, hc, fun hn => ?_⟩
    obtain ⟨k0, -⟩ := hf 0 hn
    rw [Nat.zero_mul] at k0
    rw [show a.add 0 = a from rfl] at k0
    obtain ⟨hs, hb⟩ := place_of k0
    obtain ⟨g, off, sp⟩ := a
    simp only at hs hb
    subst hs
    have ad : ∀ j : Nat, (({ block := g, off := off, spot := none } : Addr).add j) = ⟨g, off + j, none⟩ := fun j => by unfold Addr.add; split <;> simp_all
    have ad2 : ∀ o2 j : Nat, (({ block := g, off := o2, spot := none } : Addr).add j) = ⟨g, o2 + j, none⟩ := fun o2 j => by unfold Addr.add; split <;> simp_all
    refine ⟨g, off, rfl, rfl, hb, fun j u hj => ?_⟩
    obtain ⟨p, hp, hu⟩ := rows2_at _ j u hj
    simp only [List.getElem?_map, Option.map_eq_some_iff] at hp
    obtain ⟨i', hi', rfl⟩ := hp
    obtain ⟨hin, rfl⟩ : j / 2 < n ∧ i' = j / 2 := by
      obtain ⟨hlt, he⟩ := List.getElem?_eq_some_iff.1 hi'
      rw [List.getElem_range] at he
      exact ⟨by simpa using hlt, he.symm⟩
    obtain ⟨q0, q1⟩ := hf (j / 2) hin
    simp only [ad, ad2] at q0 q1
    rcases hu with ⟨hj0, rfl⟩ | ⟨hj0, rfl⟩
    · rw [show off + j = off + j / 2 * 2 by omega]; exact q0
    · rw [show off + j = off + j / 2 * 2 + 1 by omega]; exact q1



theorem open_itms {t : TypeId} {A : Option Addr} {n c : Nat} {x : DataW H × List MemPlace} (ht : Tryz.prog.underlying t = some (.slice 28)) (h : DataW.trod enc Tryz.prog w base spare held fuel t [.slice A n c] = some x) : ∃ ts : List It, Sl w (fun _ => 0) 0 3 A n c (itms ts) := by
  have h1 : Tryz.prog.cellsOf 3 = 1 := by kernel_rfl
  obtain ⟨ts, hS⟩ := open_rows3 ht (by kernel_rfl) (fun {cs'} {fuel'} {y} htr hlen => by
    obtain ⟨y0, y1, y2, q, -, -, t0, t1, t2⟩ := trod_struct3 Tryz.underlying28 htr
    obtain ⟨v0, v1, v2, rfl⟩ := list3 hlen
    simp only [h1, List.drop_zero, List.drop_succ_cons, List.take_succ_cons, List.take_zero] at t0 t1 t2
    obtain ⟨z0, e0, -, w0⟩ := DataW.trod_int Tryz.underlying3 t0
    obtain ⟨z1, e1, -, w1⟩ := DataW.trod_int Tryz.underlying3 t1
    obtain ⟨z2, e2, -, w2⟩ := DataW.trod_int Tryz.underlying3 t2
    simp only [List.cons.injEq, and_true] at e0 e1 e2
    subst e0 e1 e2
    exact ⟨z0, z1, z2, rfl⟩) h
  refine ⟨ts.map fun p => ⟨p.1, p.2.1, p.2.2⟩, ?_⟩
  rw [show itms (ts.map fun p => (⟨p.1, p.2.1, p.2.2⟩ : It)) = rows3 ts by simp [itms, rows3, List.flatMap_map]]
  exact hS
theorem open_wnts {t : TypeId} {A : Option Addr} {n c : Nat} {x : DataW H × List MemPlace} (ht : Tryz.prog.underlying t = some (.slice 26)) (h : DataW.trod enc Tryz.prog w base spare held fuel t [.slice A n c] = some x) : ∃ ts : List (Int × Int), Sl w (fun _ => 0) 0 2 A n c (wnts ts) := by
  have h1 : Tryz.prog.cellsOf 3 = 1 := by kernel_rfl
  obtain ⟨ts, hS⟩ := open_rows2 ht (by kernel_rfl) (fun {cs'} {fuel'} {y} htr hlen => by
    obtain ⟨y0, y1, q, -, -, t0, t1⟩ := trod_struct2 Tryz.underlying26 htr
    obtain ⟨v0, v1, rfl⟩ := list2 hlen
    simp only [h1, List.drop_zero, List.drop_succ_cons, List.take_succ_cons, List.take_zero] at t0 t1
    obtain ⟨z0, e0, -, w0⟩ := DataW.trod_int Tryz.underlying3 t0
    obtain ⟨z1, e1, -, w1⟩ := DataW.trod_int Tryz.underlying3 t1
    simp only [List.cons.injEq, and_true] at e0 e1
    subst e0 e1
    exact ⟨z0, z1, rfl⟩) h
  exact ⟨ts, hS⟩
end
end Go.Proofs.YtkiknbjokknemaaGreat
