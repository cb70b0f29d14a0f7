/-
  TWO LINKS THAT LIE APART: each has its own view of the blocks ('oa', 'ob').
-/
import Derived.Test.YtpmbfgpfpdenbaaHonestA
namespace Go.Proofs.Ytpmbfgpfpdenbaa
open Go.RowKit

structure Two (w0 w : World) (oa ob : Own) (l1 l2 : Nat) (a b a2 b2 : Int) (X Y X2 Y2 : ASide) (k k2 : Nat) : Prop where
  sa : Step (14 :: allTags) w0 (fun _ => 0) w oa
  sb : Step (14 :: allTags) w0 (fun _ => 0) w ob
  da : ∀ j, j < w.heap.size → oa j ∈ linkTags → ob j = 14
  db : ∀ j, j < w.heap.size → ob j ∈ linkTags → oa j = 14
  la : LinkOk w oa l1 a b X Y k
  lb : LinkOk w ob l2 a2 b2 X2 Y2 k2

theorem Two.swap {w0 w : World} {oa ob : Own} {l1 l2 : Nat} {a b a2 b2 : Int} {X Y X2 Y2 : ASide} {k k2 : Nat} (h : Two w0 w oa ob l1 l2 a b a2 b2 X Y X2 Y2 k k2) : Two w0 w ob oa l2 l1 a2 b2 a b X2 Y2 X Y k2 k :=
  ⟨h.sb, h.sa, h.db, h.da, h.lb, h.la⟩

/-- What the other link sees of a step of the first. -/
theorem other_step {w w' : World} {oa oa' ob : Own} (hs : Step linkTags w oa w' oa') (da : ∀ j, j < w.heap.size → oa j ∈ linkTags → ob j = 14) : Step [14] w ob w' (ext ob w.heap.size 14) :=
  ⟨hs.os, hs.tape, hs.output, hs.size, fun _ hk => ext_lt hk, fun k hk hn => hs.block k hk (fun hm => hn (by simp [da k hk hm]))⟩

theorem Two.goes {w0 w w' : World} {oa ob oa' : Own} {l1 l2 : Nat} {a b a2 b2 : Int} {X Y X2 Y2 X' Y' : ASide} {k k2 k' : Nat} (h : Two w0 w oa ob l1 l2 a b a2 b2 X Y X2 Y2 k k2)
    (hs : Step linkTags w oa w' oa') (hl : LinkOk w' oa' l1 a b X' Y' k') : ∃ ob', Two w0 w' oa' ob' l1 l2 a b a2 b2 X' Y' X2 Y2 k' k2 := by
  have ho := other_step hs h.da
  refine ⟨_, h.sa.trans (hs.mono (by simp)), h.sb.trans (ho.mono (by simp)), fun j hj hm => ?_, fun j hj hm => ?_, hl, h.lb.step ho (by simp)⟩
  · by_cases hjw : j < w.heap.size
    · rw [ext_lt hjw]; rw [hs.own j hjw] at hm; exact h.da j hjw hm
    · exact ext_ge (by omega)
  · by_cases hjw : j < w.heap.size
    · rw [ext_lt hjw] at hm; rw [hs.own j hjw]; exact h.db j hjw hm
    · rw [ext_ge (by omega)] at hm; simp at hm

theorem Two.quiet {w0 w w' : World} {oa ob : Own} {l1 l2 : Nat} {a b a2 b2 : Int} {X Y X2 Y2 : ASide} {k k2 : Nat} (h : Two w0 w oa ob l1 l2 a b a2 b2 X Y X2 Y2 k k2)
    (hb : Below w.heap.size w w') : Two w0 w' (ext oa w.heap.size 12) (ext ob w.heap.size 12) l1 l2 a b a2 b2 X Y X2 Y2 k k2 := by
  have ha : Step [] w oa w' (ext oa w.heap.size 12) := (Step.refl [] w oa).below hb 12
  have hb' : Step [] w ob w' (ext ob w.heap.size 12) := (Step.refl [] w ob).below hb 12
  refine ⟨h.sa.trans ha.nil, h.sb.trans hb'.nil, fun j hj hm => ?_, fun j hj hm => ?_, h.la.step ha (by simp), h.lb.step hb' (by simp)⟩
  · by_cases hjw : j < w.heap.size
    · rw [ext_lt hjw] at hm ⊢; exact h.da j hjw hm
    · rw [ext_ge (by omega)] at hm; simp at hm
  · by_cases hjw : j < w.heap.size
    · rw [ext_lt hjw] at hm ⊢; exact h.db j hjw hm
    · rw [ext_ge (by omega)] at hm; simp at hm

/-- Two fresh links, one behind the other. -/
theorem Two.made {w w1 w2 : World} {o1 o2 : Own} {l1 l2 : Nat} {a b a2 b2 : Int} (h1 : Step linkTags w (fun _ => 0) w1 o1) (k1 : LinkOk w1 o1 l1 a b side0 side0 0)
    (h2 : Step linkTags w1 (fun j => if j < w.heap.size then 0 else 14) w2 o2) (k2 : LinkOk w2 o2 l2 a2 b2 side0 side0 0) : ∃ ob, Two w w2 ob o2 l1 l2 a b a2 b2 side0 side0 side0 side0 0 0 := by
  have s0 : Step [14] w (fun _ => 0) w1 (fun j => if j < w.heap.size then 0 else 14) := ⟨h1.os, h1.tape, h1.output, h1.size, fun k hk => by simp [hk], fun k hk _ => h1.block k hk (by simp)⟩
  have ho := other_step (ob := o1) h2 (fun j _ hm => by split at hm <;> simp at hm)
  refine ⟨_, (h1.mono (by simp)).trans (ho.mono (by simp)), (s0.mono (by simp)).trans (h2.mono (by simp)), fun j hj hm => ?_, fun j hj hm => ?_, k1.step ho (by simp), k2⟩
  · by_cases hjw : j < w1.heap.size
    · rw [ext_lt hjw] at hm
      rw [h2.own j hjw]
      by_cases hj0 : j < w.heap.size
      · rw [h1.own j hj0] at hm; simp at hm
      · simp [hj0]
    · rw [ext_ge (by omega)] at hm; simp at hm
  · by_cases hjw : j < w1.heap.size
    · rw [h2.own j hjw] at hm; split at hm <;> simp at hm
    · exact ext_ge (by omega)

/-- One side of a link, in cells. -/
structure SideF (w : World) (o : Own) (l s s' : Nat) (own other : Int) (X : ASide) (v : SideV) : Prop where
  c0 : w.cell? ⟨l, s * 5, none⟩ = some (.pointer (some ⟨v.e, 0, none⟩))
  c1 : w.cell? ⟨l, s * 5 + 1, none⟩ = some (.slice v.mA X.made.length v.mc)
  c2 : w.cell? ⟨l, s * 5 + 2, none⟩ = some (.slice v.bA X.bodies.length v.bc)
  c3 : w.cell? ⟨l, s * 5 + 3, none⟩ = some (.slice v.rA X.bodies.length v.rc)
  c4 : w.cell? ⟨l, s * 5 + 4, none⟩ = some (.int .i64 own)
  d4 : w.cell? ⟨l, s' * 5 + 4, none⟩ = some (.int .i64 other)
  e : EndAt w o (2 + s) v.e (X.e.conc own other)
  fit : (X.e.conc own other).Fit
  bodies : Row w o (6 + s) 3 1 v.bA X.bodies.length v.bc (nats X.bodies)
  reports : Row w o (8 + s) 3 1 v.rA X.bodies.length v.rc (nats X.reports)
  ol : o l = 1
  ll : l < w.heap.size
  b1 : X.bodies.length ≤ 900
  b2 : X.made.length ≤ 900
  pl : X.e.pend.length ≤ 256
  o0 : 0 ≤ own
  o1 : own ≤ 1099511627776
  p0 : 0 ≤ other
  p1 : other ≤ 1099511627776
  nb : X.bodies.length = X.e.n
  nr : X.reports.length = X.e.n
  pm : ∀ p ∈ X.e.pend, p < X.e.n
  msk : X.e.mask < 4294967296
  hr : X.e.heard ≤ 900

theorem SideF.step {w w' : World} {o o' : Own} {l s s' : Nat} {own other : Int} {X : ASide} {v : SideV} (h : SideF w o l s s' own other X v) (hst : Step [] w o w' o') : SideF w' o' l s s' own other X v := by
  have up : ∀ (k : Nat) (x : Value), w.cell? ⟨l, k, none⟩ = some x → w'.cell? ⟨l, k, none⟩ = some x := fun k x hx => (World.cell?_of_block (a := ⟨l, k, none⟩) (hst.block l h.ll (by simp))).trans hx
  exact { h with c0 := up _ _ h.c0, c1 := up _ _ h.c1, c2 := up _ _ h.c2, c3 := up _ _ h.c3, c4 := up _ _ h.c4, d4 := up _ _ h.d4, e := h.e.step hst (by simp), bodies := h.bodies.step hst (by simp), reports := h.reports.step hst (by simp), ol := (hst.own l h.ll).trans h.ol, ll := Nat.lt_of_lt_of_le h.ll hst.size }

theorem LinkS.side {w : World} {o : Own} {l s s' : Nat} {own other : Int} {X Y : ASide} {v u : SideV} {cells : Array Value} (h : LinkS w o l s s' own other X Y v u cells) (hI : LinkInv X Y) (hI' : LinkInv Y X)
    (h1 : X.bodies.length ≤ 900) (h2 : X.made.length ≤ 900) (h3 : Y.bodies.length ≤ 900) (o0 : 0 ≤ own) (o1 : own ≤ 1099511627776) (p0 : 0 ≤ other) (p1 : other ≤ 1099511627776) : SideF w o l s s' own other X v := by
  have q1 : v.bn = X.bodies.length := by have := h.x.bodies.len; simp at this; omega
  have q2 : v.rn = X.bodies.length := by have := h.x.reports.len; have := hI.nr; simp at *; omega
  have q3 : v.mn = X.made.length := by obtain ⟨vs, hvr, hvl, -⟩ := h.x.made; have := hvr.len; simp at hvl; omega
  have hf := conc_fit hI o0 o1 p0 p1 (by omega) (by omega)
  have c1 := (h.b.cell _).trans h.cx.c1
  have c2 := (h.b.cell _).trans h.cx.c2
  have c3 := (h.b.cell _).trans h.cx.c3
  have rb := h.x.bodies
  have rr := h.x.reports
  rw [q3] at c1
  rw [q1] at c2 rb
  rw [q2] at c3 rr
  exact { c0 := (h.b.cell _).trans h.cx.c0, c1 := c1, c2 := c2, c3 := c3, c4 := (h.b.cell _).trans h.cx.c4, d4 := (h.b.cell _).trans h.cy.c4, e := h.x.e, fit := hf, bodies := rb, reports := rr, ol := h.ol, ll := h.b.lt, b1 := h1, b2 := h2, pl := by simpa [AEnd.conc] using hf.len, o0 := o0, o1 := o1, p0 := p0, p1 := p1, nb := hI.n.symm, nr := hI.nr.trans hI.n.symm, pm := fun p hp => by have := (hI.pmem p hp).1; rw [hI.n]; exact this, msk := hI.mask, hr := by have := hI.heard; omega }

/-- Both links, seen from the side s. -/
theorem Two.side {w0 w : World} {oa ob : Own} {l1 l2 : Nat} {a b a2 b2 : Int} {X Y : ASide} {k : Nat} (h : Two w0 w oa ob l1 l2 a b a2 b2 X Y X Y k k) (hk : k ≤ 900) (s s' : Nat) (hs : s + s' = 1) :
    ∃ ow ot ow2 ot2 Z v v2, SideF w oa l1 s s' ow ot Z v ∧ SideF w ob l2 s s' ow2 ot2 Z v2 := by
  obtain ⟨⟨v, u, cells, hl⟩, a1, a2, a3, a4, a5, a6, a7⟩ := h.la
  obtain ⟨⟨v2, u2, cells2, hl2⟩, b1, b2, b3, b4, b5, b6, b7⟩ := h.lb
  have z1 := a3.bx; have z2 := a3.bY; have z3 := a3.mx; have z4 := a3.my
  have h01 : s = 0 ∨ s = 1 := by omega
  rcases h01 with rfl | rfl
  · obtain rfl : s' = 1 := by omega
    exact ⟨_, _, _, _, X, v, v2, hl.side a1 a2 (by omega) (by omega) (by omega) a4 a5 a6 a7, hl2.side b1 b2 (by omega) (by omega) (by omega) b4 b5 b6 b7⟩
  · obtain rfl : s' = 0 := by omega
    exact ⟨_, _, _, _, Y, u, u2, hl.swap.side a2 a1 (by omega) (by omega) (by omega) a6 a7 a4 a5, hl2.swap.side b2 b1 (by omega) (by omega) (by omega) b6 b7 b4 b5⟩

theorem Below.drewN_ {B : Nat} {a w : World} (h : Below B a w) (q : Nat) : Below B a (w.drewN q) := ⟨h.os, h.tape, h.output, h.size, h.block⟩

/-- What Received says of a side. -/
def recN (a : AEnd) (other : Int) : Int := if 0 < a.heard then other + a.heard - 1 else 0
def recM (a : AEnd) : Nat := if 0 < a.heard then a.mask else 0

theorem SideF.received {w : World} {o : Own} {l s s' : Nat} {own other : Int} {X : ASide} {v : SideV} (h : SideF w o l s s' own other X v) :
    Calls Try.prog 34 #[.pointer (some ⟨v.e, 0, none⟩)] w fun e w' => e = .returned (.tuple #[.int .i64 (recN X.e other), .int .u32 (recM X.e), .bool (decide (0 < X.e.heard))]) ∧ ∃ k, w' = w.drewN k := by
  refine (Received_ok w o (2 + s) v.e _ h.e).mono fun e w' ⟨he, hk⟩ => ⟨?_, hk⟩
  rw [he]
  by_cases hh : 0 < X.e.heard
  · rw [if_pos (by simp only [AEnd.conc]; omega)]
    simp only [recN, recM, hh, if_true, AEnd.conc, decide_true]
  · rw [if_neg (by simp only [AEnd.conc]; omega)]
    simp only [recN, recM, hh, if_false, decide_false]; rfl
end Go.Proofs.Ytpmbfgpfpdenbaa
