/-
  RUN IN PLAIN WORDS; rows of rows of IDs; slices.Clone of items.
-/
import Derived.Test.YtkiknbjokknemaaGreatBudK
namespace Go.Proofs.YtkiknbjokknemaaGreat
open Go.RowKit Go.Maps

/-- Several steps: the items behind them, and who was sent in each. -/
def runM (l : List It) (ws : List (Int × Int)) (k : Nat) : Nat → List It × List (List Int)
  | 0 => (l, [])
  | s + 1 => ((stepM (runM l ws k s).1 ws k).1, (runM l ws k s).2 ++ [(stepM (runM l ws k s).1 ws k).2])

theorem runM_len (l : List It) (ws : List (Int × Int)) (k s : Nat) : (runM l ws k s).2.length = s := by
  induction s with
  | zero => rfl
  | succ s ih => simp [runM, ih]

theorem runM_valid {l : List It} {ws : List (Int × Int)} (hl : ValidP l) (hw : RightP ws) (k s : Nat) : ValidP (runM l ws k s).1 := by
  induction s with
  | zero => exact hl
  | succ s ih => exact stepM_valid ih hw k

theorem runM_add (l : List It) (ws : List (Int × Int)) (k a b : Nat) : runM l ws k (a + b) = ((runM (runM l ws k a).1 ws k b).1, (runM l ws k a).2 ++ (runM (runM l ws k a).1 ws k b).2) := by
  induction b with
  | zero => simp [runM]
  | succ b ih =>
    have e : runM l ws k (a + (b + 1)) = ((stepM (runM l ws k (a + b)).1 ws k).1, (runM l ws k (a + b)).2 ++ [(stepM (runM l ws k (a + b)).1 ws k).2]) := rfl
    rw [e, ih]
    simp [runM]

/-- A row of rows of IDs. -/
def ListsAt (w : World) (o : Own) (τ τ2 : Nat) (A : Option Addr) (n c : Nat) (ls : List (List Int)) : Prop :=
  ∃ vs : List Value, Row w o τ 30 1 A n c vs ∧ vs.length = ls.length ∧ ∀ (i : Nat) (v : Value), vs[i]? = some v → ∃ S len cap x, v = Value.slice S len cap ∧ ls[i]? = some x ∧ len = x.length ∧ Sl w o τ2 1 S len cap (ints x)

theorem ListsAt.nil_ (w : World) (o : Own) (τ τ2 : Nat) : ListsAt w o τ τ2 none 0 0 [] := ⟨[], Row.nil_ _ _ _ _ _, rfl, fun i v h => by cases h⟩

theorem ListsAt.step {w w' : World} {o o' : Own} {τ τ2 : Nat} {A : Option Addr} {n c : Nat} {ls : List (List Int)} {ts : List Nat} (h : ListsAt w o τ τ2 A n c ls) (hs : Step ts w o w' o') (h1 : τ ∉ ts) (h2 : τ2 ∉ ts) : ListsAt w' o' τ τ2 A n c ls := by
  obtain ⟨vs, hr, hl, hv⟩ := h
  refine ⟨vs, hr.step hs h1, hl, fun i v hi => ?_⟩
  obtain ⟨S, len, cap, x, a, b, d, e⟩ := hv i v hi
  exact ⟨S, len, cap, x, a, b, d, e.step hs h2⟩

/-- Cells that were read under one view are read under another that agrees at their block. -/
theorem Sl.view {w : World} {o o2 : Own} {τ τ2 sz n c : Nat} {A : Option Addr} {xs : List Value} (h : Sl w o τ sz A n c xs) (ha : ∀ ad, A = some ad → o2 ad.block = τ2) : Sl w o2 τ2 sz A n c xs := by
  refine ⟨h.1, h.2.1, h.2.2.1, fun hn => ?_⟩
  obtain ⟨g, off, hA, -, hg, hc⟩ := h.2.2.2 hn
  exact ⟨g, off, hA, ha _ hA, hg, hc⟩
end Go.Proofs.YtkiknbjokknemaaGreat
