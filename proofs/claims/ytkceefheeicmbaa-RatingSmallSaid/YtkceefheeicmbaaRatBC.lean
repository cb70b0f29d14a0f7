/-
  WALK of difference; the ticket moved to the front: what lies in memory while it is made.
-/
import Derived.Test.YtkceefheeicmbaaRatV
import Derived.Test.YtkceefheeicmbaaRatBB
import Derived.Test.YtkceefheeicmbaaRatG
namespace Go.Proofs.Ytkceefheeicmbaa
open Go.RowKit

set_option maxHeartbeats 800000 in
theorem difference_any (w : World) (x y : Tk) (R : Int) (hR : R = diffT x y) (hx : 0 ≤ x.rt ∧ x.rt ≤ 4000) (hy : 0 ≤ y.rt ∧ y.rt ≤ 4000) :
    Calls Try.prog 27 #[.agg #[.int .i64 x.id, .int .i64 x.rt, .int .i64 x.si], .agg #[.int .i64 y.id, .int .i64 y.rt, .int .i64 y.si]] w fun e w' => e = .returned (.int .i64 R) ∧ Below w.heap.size w w' := by
  obtain ⟨x0, x1⟩ := hx
  obtain ⟨y0, y1⟩ := hy
  have hmx := fun W => run_max2 (P := Try.prog) W #[3, 3] 3 (x.rt - y.rt) (y.rt - x.rt) R (by rw [hR]; rfl)
  have hb := fun a b => ((Below.refl w.heap.size w).alloc (Nat.le_refl _) (.cells a 24)).alloc (by simp) (.cells b 24)
  have HB := Lib.hid hb
  clear hR hb
  go_enter Try.func27, Try.ntmps27
  go_wp2
  go_ret
  exact ⟨rfl, HB.out _ _⟩

theorem cell_up {W W' : World} (hb : Below W.heap.size W W') {a : Addr} {v : Value} (h : W.cell? a = some v) : W'.cell? a = some v := (hb.cell (World.block_lt_of_cell? _ _ h)).trans h

theorem el_tk : Elem Try.prog 34 24 3 24 (.agg #[.int .i64 0, .int .i64 0, .int .i64 0]) := ⟨Try.underlying34, by kernel_rfl, rfl, by decide⟩
theorem one_tks (l : List Tk) : ∀ u ∈ tks l, u.oneCell' = true := by
  intro u hu
  obtain ⟨x, -, h⟩ := List.mem_flatMap.1 hu
  simp only [List.mem_cons, List.not_mem_nil, or_false] at h
  rcases h with rfl | rfl | rfl <;> rfl

theorem tks_drop (l : List Tk) : ∀ k, (tks l).drop (k * 3) = tks (l.drop k) := by
  induction l with
  | nil => intro k; simp
  | cons y l ih =>
    intro k
    cases k with
    | zero => simp
    | succ k =>
      rw [List.drop_succ_cons, ← ih k, show (k + 1) * 3 = k * 3 + 1 + 1 + 1 by omega]
      rfl
/-- The tickets behind one. -/
theorem Sl.behind {w : World} {o : Own} {τ n c k g off : Nat} {l : List Tk} (h : Sl w o τ 3 (some ⟨g, off, none⟩) n c (tks l)) (hk : k ≤ n) {B : Option Addr} (hB : k < n → B = some ⟨g, off + k * 3, none⟩) : Sl w o τ 3 B (n - k) (c - k) (tks (l.drop k)) := by
  have hl := h.1
  rw [len_tks] at hl
  have h2 := h.cut (i := k) (j := n) hk (Nat.le_refl _) B (fun g' off' h hkn => by injection h with h; injection h with h1 h2; subst h1 h2; exact hB hkn)
  rw [tks_drop, List.take_of_length_le (by rw [len_tks, List.length_drop]; omega)] at h2
  exact h2
theorem run_tail (P : Program) (t e : TypeId) (z : Value) (sz b : Nat) (hu : P.underlying t = some (.slice e)) (hs : (P.info? e).map (fun i => (i.zero, i.size, i.bytes)) = some (some z, sz, b)) (g off n c k : Nat) (hk : k ≤ n) (hc : n ≤ c) :
    ∃ B, (∀ W, (Instr.slice t (.slice (some ⟨g, off, none⟩) n c) (some (.int .i64 (k : Int))) none none).run P W = .ok (.slice B (n - k) (c - k)) W) ∧ (k < n → B = some ⟨g, off + k * sz, none⟩) := by
  obtain ⟨i, h1, h2, h3, h4⟩ := info_parts hs
  refine ⟨if c = k then some ⟨g, off, none⟩ else some ⟨g, off + k * sz, none⟩, fun W => ?_, fun h => if_neg (by omega)⟩
  have hk0 : (0 : Int) ≤ (k : Int) := by omega
  have hk1 : (k : Int) ≤ (n : Int) := by omega
  simp [Instr.slice, Instr.sliceBounds, Instr.sliceBound, asIntOf, run_underlying hu, sizeOf, typeInfo, h1, hk, Addr.add, h3]
  split
  · rfl
  · by_cases h0 : k * sz = 0
    · simp [h0]
    · rw [if_neg h0]

/-- Two rows that are being made: the one of the ticket, the one of all others. -/
structure RowT where
  A : Option Addr
  n : Nat
  c : Nat
  l : List Tk
def nilT : RowT := ⟨none, 0, 0, []⟩
def OS (w2 W : World) (F C : RowT) : Prop :=
  ∃ o, Step [] w2 (fun _ => 0) W o ∧ Row W o 52 24 3 F.A F.n F.c (tks F.l) ∧ Row W o 51 24 3 C.A C.n C.c (tks C.l)
theorem OS.nil_ (w2 : World) : OS w2 w2 nilT nilT := ⟨_, Step.refl _ _ _, Row.nil_ _ _ _ _ _, Row.nil_ _ _ _ _ _⟩
theorem OS.below {w2 W : World} {F C : RowT} (h : OS w2 W F C) : Below w2.heap.size w2 W := by obtain ⟨o, h, -⟩ := h; exact h.to_below (by simp)
theorem OS.drew {w2 W : World} {F C : RowT} (h : OS w2 W F C) : OS w2 W.drew F C := by obtain ⟨o, h1, h2, h3⟩ := h; exact ⟨o, h1.drew, h2.drewN 1, h3.drewN 1⟩
theorem OS.f {w2 W : World} {C : RowT} (h : OS w2 W nilT C) (x : Tk) : OS w2 (W.alloc (.cells (tC x) 24)) ⟨some ⟨W.heap.size, 0, none⟩, 1, 1, [x]⟩ C := by
  obtain ⟨o, h1, -, h3⟩ := h
  refine ⟨_, h1.alloc _ 52, ?_, h3.step ((Step.refl [] W o).alloc _ 52) (by simp)⟩
  exact Row.made (w := W) o 52 24 3 (tC x) 1 rfl (by decide) 1 (Nat.le_refl _)
theorem OS.e {w2 W : World} {F : RowT} (h : OS w2 W F nilT) : OS w2 (W.alloc (.cells #[] 24)) F ⟨some ⟨W.heap.size, 0, none⟩, 0, 0, []⟩ := by
  obtain ⟨o, h1, h2, -⟩ := h
  refine ⟨_, h1.alloc _ 51, h2.step ((Step.refl [] W o).alloc _ 51) (by simp), ?_⟩
  exact Row.made (w := W) o 51 24 3 #[] 0 rfl (by decide) 0 (Nat.le_refl _)
theorem OS.grow {w2 W w' : World} {F C : RowT} {o : Own} (h1 : Step [] w2 (fun _ => 0) W o) (h2 : Row W o 52 24 3 F.A F.n F.c (tks F.l)) (h3 : Row W o 51 24 3 C.A C.n C.c (tks C.l))
    {A' : Option Addr} {m c' : Nat} {l : List Tk} (hr : Row w' (ext o W.heap.size 51) 51 24 3 A' (C.n + m) c' (tks C.l ++ tks l)) (hg : W.grownBy w' (Value.slice C.A C.n C.c).ownBlock) : OS w2 w' F ⟨A', C.n + m, c', C.l ++ l⟩ := by
  have st := Step.append h3 hg 51
  refine ⟨_, (h1.nil.trans st).forget (ts' := []) (fun t ht _ k _ => by simp at ht; subst ht; simp), h2.step st (by decide), ?_⟩
  rw [show tks (C.l ++ l) = tks C.l ++ tks l by simp]
  exact hr
/-- What is made in the end. -/
theorem OS.last {w2 W w' : World} {F : RowT} {o : Own} (h1 : Step [] w2 (fun _ => 0) W o) (h2 : Row W o 52 24 3 F.A F.n F.c (tks F.l))
    {A' : Option Addr} {m c' : Nat} {l : List Tk} (hr : Row w' (ext o W.heap.size 52) 52 24 3 A' (F.n + m) c' (tks F.l ++ tks l)) (hg : W.grownBy w' (Value.slice F.A F.n F.c).ownBlock) : Below w2.heap.size w2 w' ∧ Sl w' (fun _ => 0) 0 3 A' (F.n + m) c' (tks (F.l ++ l)) := by
  have st := Step.append h2 hg 52
  refine ⟨((h1.nil.trans st).forget (ts' := []) (fun t ht _ k _ => by simp at ht; subst ht; simp)).to_below (by simp), ?_⟩
  rw [show tks (F.l ++ l) = tks F.l ++ tks l by simp]
  exact hr.sl.old0

/-- One pair of a row of pairs. -/
theorem prs_get (l : List (Int × Int)) : ∀ (k : Nat) (x : Int × Int), l[k]? = some x → (prs l)[k * 2]? = some (.int .i64 x.1) ∧ (prs l)[k * 2 + 1]? = some (.int .i64 x.2) := by
  induction l with
  | nil => intro k x h; simp at h
  | cons y l ih =>
    intro k x h
    rw [prs, List.flatMap_cons]
    cases k with
    | zero => simp at h; subst h; exact ⟨rfl, rfl⟩
    | succ k =>
      obtain ⟨h0, h1⟩ := ih k x (by simpa using h)
      refine ⟨?_, ?_⟩
      · rw [List.getElem?_append_right (by simp; omega)]; simp only [List.length_cons, List.length_nil]; rw [show (k + 1) * 2 - (0 + 1 + 1) = k * 2 by omega]; exact h0
      · rw [List.getElem?_append_right (by simp; omega)]; simp only [List.length_cons, List.length_nil]; rw [show (k + 1) * 2 + 1 - (0 + 1 + 1) = k * 2 + 1 by omega]; exact h1
theorem Sl.pr {w : World} {o : Own} {τ n c : Nat} {A : Option Addr} {l : List (Int × Int)} (h : Sl w o τ 2 A n c (prs l)) {k : Nat} {x : Int × Int} (hx : l[k]? = some x) :
    ∃ g off, A = some ⟨g, off, none⟩ ∧ g < w.heap.size ∧ w.cell? ⟨g, off + k * 2, none⟩ = some (.int .i64 x.1) ∧ w.cell? ⟨g, off + k * 2 + 1, none⟩ = some (.int .i64 x.2) := by
  obtain ⟨i0, i1⟩ := prs_get l k x hx
  have h1 := h.1
  have hj := (List.getElem?_eq_some_iff.1 i0).1
  obtain ⟨g, off, hA, -, hg, hc⟩ := h.2.2.2 (by omega)
  exact ⟨g, off, hA, hg, hc _ _ i0, hc _ _ i1⟩
theorem len_prs (l : List (Int × Int)) : (prs l).length = l.length * 2 := by
  induction l with
  | nil => rfl
  | cons x l ih => rw [prs, List.flatMap_cons, List.length_append, ih]; simp; omega

/-- Nobody ahead of number i may meet x, but x itself. -/
def aloneTo (l : List Tk) (t : Int) (x : Tk) (k : Nat) : Nat → Bool
  | 0 => true
  | i + 1 => aloneTo l t x k i && (decide (i = k) || !mayT t (l.getD i default) x)
theorem aloneTo_get {l : List Tk} {t : Int} {x : Tk} {k : Nat} : ∀ {n : Nat}, aloneTo l t x k n = true → ∀ (i : Nat) y, i < n → l[i]? = some y → i ≠ k → mayT t y x = false
  | 0, _, i, y, hi, _, _ => absurd hi (Nat.not_lt_zero _)
  | n + 1, h, i, y, hi, hy, hne => by
    rw [aloneTo, Bool.and_eq_true, Bool.or_eq_true, decide_eq_true_eq] at h
    by_cases e : i = n
    · subst e
      rcases h.2 with h2 | h2
      · exact absurd h2 hne
      · rw [List.getD_eq_getElem?_getD, hy] at h2; simpa using h2
    · exact aloneTo_get h.1 i y (by omega) hy hne
theorem aloneTo_snoc {l : List Tk} {t : Int} {x y : Tk} {k i : Nat} (hy : l[i]? = some y) : aloneTo l t x k (i + 1) = (aloneTo l t x k i && (decide (i = k) || !mayT t y x)) := by
  rw [aloneTo, List.getD_eq_getElem?_getD, hy]; rfl
end Go.Proofs.Ytkceefheeicmbaa
