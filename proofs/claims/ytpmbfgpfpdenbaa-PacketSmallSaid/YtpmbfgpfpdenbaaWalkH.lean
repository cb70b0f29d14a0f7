/-
  THE LINK SEEN FROM A SIDE; WALK of step. (Printed by wip/gen/gen_step.py.)
-/
import Derived.Test.YtpmbfgpfpdenbaaWalkD
import Derived.Test.YtpmbfgpfpdenbaaWalkE
import Derived.Test.YtpmbfgpfpdenbaaWalkG
namespace Go.Proofs.Ytpmbfgpfpdenbaa
open Go.RowKit

/-- The cells of one side. -/
structure CellsAt (cells : Array Value) (s : Nat) (v : SideV) (own : Int) : Prop where
  c0 : cells[s * 5]? = some (.pointer (some ⟨v.e, 0, none⟩))
  c1 : cells[s * 5 + 1]? = some (.slice v.mA v.mn v.mc)
  c2 : cells[s * 5 + 2]? = some (.slice v.bA v.bn v.bc)
  c3 : cells[s * 5 + 3]? = some (.slice v.rA v.rn v.rc)
  c4 : cells[s * 5 + 4]? = some (.int .i64 own)

/-- A link at block l, seen from the side s. -/
structure LinkS (w : World) (o : Own) (l s s' : Nat) (own other : Int) (X Y : ASide) (v u : SideV) (cells : Array Value) : Prop where
  b : Blk w l 94 cells
  ol : o l = 1
  size : cells.size = 10
  cx : CellsAt cells s v own
  cy : CellsAt cells s' u other
  x : SideAt w o s v own other X
  y : SideAt w o s' u other own Y

theorem LinkS.swap {w : World} {o : Own} {l s s' : Nat} {own other : Int} {X Y : ASide} {v u : SideV} {cells : Array Value} (h : LinkS w o l s s' own other X Y v u cells) : LinkS w o l s' s other own Y X u v cells :=
  ⟨h.b, h.ol, h.size, h.cy, h.cx, h.y, h.x⟩

theorem LinkS.step {w w' : World} {o o' : Own} {l s s' : Nat} {own other : Int} {X Y : ASide} {v u : SideV} {cells : Array Value} {ts : List Nat} (h : LinkS w o l s s' own other X Y v u cells) (hst : Step ts w o w' o') (h1 : ∀ t ∈ ts, t = 0 ∨ 11 ≤ t) (hs : s < 2) (hs' : s' < 2) : LinkS w' o' l s s' own other X Y v u cells := by
  have no : ∀ {t}, 1 ≤ t → t ≤ 10 → t ∉ ts := fun a b hm => by rcases h1 _ hm with h | h <;> omega
  exact ⟨h.b.step hst (by rw [h.ol]; exact no (by omega) (by omega)), (hst.own l h.b.lt).trans h.ol, h.size, h.cx, h.cy,
    h.x.step hst (no (by omega) (by omega)) (no (by omega) (by omega)) (no (by omega) (by omega)) (no (by omega) (by omega)) (no (by omega) (by omega)),
    h.y.step hst (no (by omega) (by omega)) (no (by omega) (by omega)) (no (by omega) (by omega)) (no (by omega) (by omega)) (no (by omega) (by omega))⟩

theorem LinkS.of_at {w : World} {o : Own} {l : Nat} {own other : Int} {X Y : ASide} (h : LinkAt w o l own other X Y) : ∃ v u cells, LinkS w o l 0 1 own other X Y v u cells := by
  obtain ⟨u, v, hb, ho, hx, hy⟩ := h
  exact ⟨u, v, _, hb, ho, rfl, ⟨rfl, rfl, rfl, rfl, rfl⟩, ⟨rfl, rfl, rfl, rfl, rfl⟩, hx, hy⟩

/-- All tags of a link. -/
abbrev linkTags : List Nat := [1, 2, 3, 4, 5, 6, 7, 8, 9]

/-- Sizes stay within a bound m. -/
structure Sized (X Y : ASide) (m : Nat) : Prop where
  bx : X.bodies.length ≤ m
  bY : Y.bodies.length ≤ m
  mx : X.made.length ≤ m
  my : Y.made.length ≤ m

/-- What the side X does, by the kind. -/
def stepS (X Y : ASide) (K T : Nat) (ys : List UInt8) : ASide × ASide :=
  if K % 6 = 0 ∨ K % 6 = 1 then (X.make (markB X.bodies.length ys), Y)
  else if K % 6 = 2 then (X.only, Y)
  else if K % 6 = 3 ∨ K % 6 = 4 then
    match Y.made[Y.made.length - 1 - T % Y.made.length]? with
    | some p => (X.take p, Y.given X.e p)
    | none => (X, Y)
  else (X, Y)

/-- What a step comes to, seen from the side that acts. -/
def StepTo (w : World) (o : Own) (l s s' : Nat) (own other : Int) (R : ASide × ASide) (e : Ending) (w' : World) : Prop :=
  e = .returned (.bool true) ∧ ∃ o' v u cells, Step linkTags w o w' o' ∧ LinkS w' o' l s s' own other R.1 R.2 v u cells

theorem CellsAt.made {cells : Array Value} {s : Nat} {v v' : SideV} {own : Int} (h : CellsAt cells s v own) (hc : cells.size = 10) (hs : s < 2) (he : v'.e = v.e) : CellsAt (madeCells cells s v') s v' own := by
  unfold madeCells
  refine ⟨?_, ?_, ?_, ?_, ?_⟩
  · rw [Array.getElem?_setIfInBounds_ne (by omega), Array.getElem?_setIfInBounds_ne (by omega), Array.getElem?_setIfInBounds_ne (by omega), he]; exact h.c0
  · rw [Array.getElem?_setIfInBounds_self, if_pos (by simp only [Array.size_setIfInBounds]; omega)]
  · rw [Array.getElem?_setIfInBounds_ne (by omega), Array.getElem?_setIfInBounds_ne (by omega), Array.getElem?_setIfInBounds_self, if_pos (by omega)]
  · rw [Array.getElem?_setIfInBounds_ne (by omega), Array.getElem?_setIfInBounds_self, if_pos (by simp only [Array.size_setIfInBounds]; omega)]
  · rw [Array.getElem?_setIfInBounds_ne (by omega), Array.getElem?_setIfInBounds_ne (by omega), Array.getElem?_setIfInBounds_ne (by omega)]; exact h.c4
theorem CellsAt.made_far {cells : Array Value} {s s' : Nat} {v' u : SideV} {own : Int} (h : CellsAt cells s' u own) (hs : s < 2) (hs' : s' = 1 - s) : CellsAt (madeCells cells s v') s' u own := by
  unfold madeCells
  refine ⟨?_, ?_, ?_, ?_, ?_⟩
  all_goals rw [Array.getElem?_setIfInBounds_ne (by omega), Array.getElem?_setIfInBounds_ne (by omega), Array.getElem?_setIfInBounds_ne (by omega)]
  · exact h.c0
  · exact h.c1
  · exact h.c2
  · exact h.c3
  · exact h.c4

/-- 'makes', at a link. -/
theorem makes_link (w : World) (o : Own) (l s s' τ2 : Nat) (hs : s < 2) (hs' : s' = 1 - s) (own other : Int) (X Y : ASide) (v u : SideV) (cells : Array Value) (hL : LinkS w o l s s' own other X Y v u cells) (hI : LinkInv X Y) (hI' : LinkInv Y X)
    (hown : 0 ≤ own) (hown' : own ≤ 1099511627776) (hot : 0 ≤ other) (hot' : other ≤ 1099511627776) (hz : Sized X Y 900)
    (A : Option Addr) (n c : Nat) (xs : List UInt8) (hS : Sl w o τ2 1 A n c (byts xs)) (hnn : n ≤ 9223372036854775807) :
    Calls Try.prog 15 #[.pointer (some ⟨l, 0, none⟩), .int .i64 s, .slice A n c] w (StepTo w o l s s' own other (X.make (markB X.bodies.length xs), Y)) := by
  have := hz.bx; have := hz.bY; have := hz.mx
  refine (makes_any w o l s τ2 hs own other X Y v cells hL.b hL.ol hL.size hL.cx.c0 hL.cx.c1 hL.cx.c2 hL.cx.c3 hL.cx.c4 hL.x hI hI' hown hown' hot hot' (by omega) (by omega) (by omega) A n c xs hS hnn).mono ?_
  rintro e w' ⟨rfl, o', v', hst, he, hb, hx⟩
  refine ⟨rfl, o', v', u, _, hst.mono (by intro t ht; simp at ht ⊢; omega), hb, (hst.own l hL.b.lt).trans hL.ol, by simp [madeCells, hL.size], hL.cx.made hL.size hs he, hL.cy.made_far hs hs', hx, ?_⟩
  exact hL.y.step hst (by simp; omega) (by simp; omega) (by simp; omega) (by simp; omega) (by simp; omega)

end Go.Proofs.Ytpmbfgpfpdenbaa
