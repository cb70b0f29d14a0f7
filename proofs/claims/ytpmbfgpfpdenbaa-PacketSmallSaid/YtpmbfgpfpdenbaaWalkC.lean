/-
  THE LINK IN MEMORY; WALK of linked.
-/
import Derived.Test.YtpmbfgpfpdenbaaWalkB
namespace Go.Proofs.Ytpmbfgpfpdenbaa
open Go.RowKit

/-- Where a side's parts lie. -/
structure SideV where
  e : Nat
  mA : Option Addr
  mn : Nat
  mc : Nat
  bA : Option Addr
  bn : Nat
  bc : Nat
  rA : Option Addr
  rn : Nat
  rc : Nat

/-- The row of the packets that a side has made. -/
def MadeRow (w : World) (o : Own) (τ : Nat) (A : Option Addr) (n c : Nat) (ps : List (List UInt8)) : Prop :=
  ∃ vs, Row w o τ 27 1 A n c vs ∧ vs.length = ps.length ∧ ∀ (i : Nat) (p : List UInt8), ps[i]? = some p → ∃ A' n' c', vs[i]? = some (.slice A' n' c') ∧ Sl w o 10 1 A' n' c' (byts p)

theorem MadeRow.step {w w' : World} {o o' : Own} {τ n c : Nat} {A : Option Addr} {ps : List (List UInt8)} {ts : List Nat} (h : MadeRow w o τ A n c ps) (hs : Step ts w o w' o') (h1 : τ ∉ ts) (h2 : 10 ∉ ts) : MadeRow w' o' τ A n c ps := by
  obtain ⟨vs, hr, hl, hp⟩ := h
  refine ⟨vs, hr.step hs h1, hl, fun i p hi => ?_⟩
  obtain ⟨A', n', c', hv, hsl⟩ := hp i p hi
  exact ⟨A', n', c', hv, hsl.step hs h2⟩
theorem MadeRow.nil_ (w : World) (o : Own) (τ : Nat) : MadeRow w o τ none 0 0 [] := ⟨[], Row.nil_ _ _ _ _ _, rfl, fun i p h => by simp at h⟩

/-- A side's parts in memory. -/
structure SideAt (w : World) (o : Own) (s : Nat) (v : SideV) (own other : Int) (X : ASide) : Prop where
  e : EndAt w o (2 + s) v.e (X.e.conc own other)
  made : MadeRow w o (4 + s) v.mA v.mn v.mc (X.made.map (APkt.enc own other))
  bodies : Row w o (6 + s) 3 1 v.bA v.bn v.bc (nats X.bodies)
  reports : Row w o (8 + s) 3 1 v.rA v.rn v.rc (nats X.reports)

theorem SideAt.step {w w' : World} {o o' : Own} {s : Nat} {v : SideV} {own other : Int} {X : ASide} {ts : List Nat} (h : SideAt w o s v own other X) (hs : Step ts w o w' o') (h1 : 2 + s ∉ ts) (h2 : 4 + s ∉ ts) (h3 : 6 + s ∉ ts) (h4 : 8 + s ∉ ts) (h5 : 10 ∉ ts) : SideAt w' o' s v own other X :=
  ⟨h.e.step hs h1, h.made.step hs h2 h5, h.bodies.step hs h3, h.reports.step hs h4⟩

def SideV.cells (v : SideV) (own : Int) : List Value := [.pointer (some ⟨v.e, 0, none⟩), .slice v.mA v.mn v.mc, .slice v.bA v.bn v.bc, .slice v.rA v.rn v.rc, .int .i64 own]

/-- A link at block l. -/
def LinkAt (w : World) (o : Own) (l : Nat) (own other : Int) (X Y : ASide) : Prop :=
  ∃ u v, Blk w l 94 (u.cells own ++ v.cells other).toArray ∧ o l = 1 ∧ SideAt w o 0 u own other X ∧ SideAt w o 1 v other own Y

def side0 : ASide := ⟨⟨0, 0, 0, []⟩, [], [], []⟩

theorem conc0 (own other : Int) : (AEnd.conc own other ⟨0, 0, 0, []⟩) = ⟨own, own, other, other - 1, 0, []⟩ := by simp [AEnd.conc]

set_option maxHeartbeats 1000000 in
theorem linked_any (w : World) (o : Own) (own other : Int) (h0 : 0 ≤ own) (h1 : own ≤ 1099511627776) (h2 : 0 ≤ other) (h3 : other ≤ 1099511627776) :
    Calls Try.prog 11 #[.int .i64 own, .int .i64 other] w fun e w' => ∃ l o', e = .returned (.tuple #[.pointer (some ⟨l, 0, none⟩), .bool true]) ∧ Step [] w o w' o' ∧ LinkAt w' o' l own other side0 side0 := by
  go_enter Try.func11, Try.ntmps11
  go_wp2_with (go_at_call 20; first
    | (refine (New_ok w1 (ext o w.heap.size 2) 3 other own h2 h3 h0 h1).mono ?_; rintro e w2 ⟨rfl, hst2, he2⟩; have HST2 := Lib.hid hst2; have HE2 := Lib.hid he2; clear hst2 he2)
    | (refine (New_ok w o 2 own other h0 h1 h2 h3).mono ?_; rintro e w1 ⟨rfl, hst1, he1⟩; have HST1 := Lib.hid hst1; have HE1 := Lib.hid he1; clear hst1 he1))
  go_ret2
  have st3 := (HST1.out.trans HST2.out).alloc (.cells #[.pointer (some ⟨w.heap.size, 0, none⟩), .slice none 0 0, .slice none 0 0, .slice none 0 0, .int .i64 own, .pointer (some ⟨w1.heap.size, 0, none⟩), .slice none 0 0, .slice none 0 0, .slice none 0 0, .int .i64 other] 94) 1
  have st4 := (Step.refl [] w2 (ext (ext o w.heap.size 2) w1.heap.size 3)).alloc (.cells #[.pointer (some ⟨w.heap.size, 0, none⟩), .slice none 0 0, .slice none 0 0, .slice none 0 0, .int .i64 own, .pointer (some ⟨w1.heap.size, 0, none⟩), .slice none 0 0, .slice none 0 0, .slice none 0 0, .int .i64 other] 94) 1
  refine ⟨w2.heap.size, _, rfl, st3, ⟨w.heap.size, none, 0, 0, none, 0, 0, none, 0, 0⟩, ⟨w1.heap.size, none, 0, 0, none, 0, 0, none, 0, 0⟩, Blk.new _ _ _, ext_ge (Nat.le_refl _), ⟨?_, MadeRow.nil_ _ _ _, Row.nil_ _ _ _ _ _, Row.nil_ _ _ _ _ _⟩, ⟨?_, MadeRow.nil_ _ _ _, Row.nil_ _ _ _ _ _, Row.nil_ _ _ _ _ _⟩⟩
  · rw [show side0.e = ⟨0, 0, 0, []⟩ from rfl, conc0]
    exact (HE1.out.step HST2.out (by simp)).step st4 (by simp)
  · rw [show side0.e = ⟨0, 0, 0, []⟩ from rfl, conc0]
    exact HE2.out.step st4 (by simp)
end Go.Proofs.Ytpmbfgpfpdenbaa
