/-
  Joined: ChWA, ChWB, ChWC, ChWD, ChWE, ChWF, ChWG, ChWH.
-/
import Derived.Test.YthjjipcbpmdfnaaChR
import Derived.Test.YthjjipcbpmdfnaaChLM
import Derived.Test.YthjjipcbpmdfnaaKitF

/- A CONNECTION OF TWO CHANNELS IN MEMORY; WALK of linked. -/
namespace Go.Proofs.Ythjjipcbpmdfnaa
open Go.RowKit

/-- Where a side's parts lie. -/
structure CV where
  b : Nat
  sA : Option Addr
  sn : Nat
  sc : Nat
  gA : Option Addr
  gn : Nat
  gc : Nat
  mA : Option Addr
  mn : Nat
  mc : Nat

/-- The row of the packets that a side has returned. -/
def MadeC (w : World) (o : Own) (τ π : Nat) (A : Option Addr) (n c : Nat) (ps : List (List UInt8)) : Prop :=
  ∃ vs, Row w o τ 41 1 A n c vs ∧ vs.length = ps.length ∧ ∀ (i : Nat) (p : List UInt8), ps[i]? = some p → ∃ A' c', vs[i]? = some (.slice A' p.length c') ∧ Sl w o π 1 A' p.length c' (byts p)
theorem MadeC.step {w w' : World} {o o' : Own} {τ π n c : Nat} {A : Option Addr} {ps : List (List UInt8)} {ts : List Nat} (h : MadeC w o τ π A n c ps) (hs : Step ts w o w' o') (h1 : τ ∉ ts) (h2 : π ∉ ts) : MadeC w' o' τ π A n c ps := by
  obtain ⟨vs, hr, hl, hp⟩ := h
  refine ⟨vs, hr.step hs h1, hl, fun i p hi => ?_⟩
  obtain ⟨A', c', hv, hsl⟩ := hp i p hi
  exact ⟨A', c', hv, hsl.step hs h2⟩
theorem MadeC.nil_ (w : World) (o : Own) (τ π : Nat) : MadeC w o τ π none 0 0 [] := ⟨[], Row.nil_ _ _ _ _ _, rfl, fun i p h => by simp at h⟩

/-- Tags of a Channel are low. -/
structure ChT.Low (T : ChT) : Prop where
  t : T.τ < 20
  e : T.τe < 20
  s : T.σ < 20
  m : ∀ n, T.ε n < 20
theorem T1_low : T1.Low := ⟨by decide, by decide, by decide, fun _ => (show (4 : Nat) < 20 by decide)⟩
theorem T2_low : T2.Low := ⟨by decide, by decide, by decide, fun _ => (show (14 : Nat) < 20 by decide)⟩

/-- A side's parts in memory. -/
structure CSideAt (w : World) (o : Own) (T : ChT) (s : Nat) (v : CV) (a : CSide) : Prop where
  c : ChAt w o T v.b a.c
  sent : Row w o (31 + s) 9 1 v.sA v.sn v.sc (strs a.sent)
  got : Row w o (33 + s) 9 1 v.gA v.gn v.gc (strs a.got)
  made : MadeC w o (35 + s) 37 v.mA v.mn v.mc a.made
theorem CSideAt.step {w w' : World} {o o' : Own} {T : ChT} {s : Nat} {v : CV} {a : CSide} {ts : List Nat} (h : CSideAt w o T s v a) (hs : Step ts w o w' o') (h1 : T.τ ∉ ts) (h2 : T.τe ∉ ts) (h3 : T.σ ∉ ts) (h4 : ∀ n, T.ε n ∉ ts) (k1 : 31 + s ∉ ts) (k2 : 33 + s ∉ ts) (k3 : 35 + s ∉ ts) (k4 : 37 ∉ ts) : CSideAt w' o' T s v a :=
  ⟨h.c.step hs h1 h2 h3 (fun n _ => h4 n), h.sent.step hs k1, h.got.step hs k2, h.made.step hs k3 k4⟩
/-- A step of high tags leaves a side. -/
theorem CSideAt.high {w w' : World} {o o' : Own} {T : ChT} {s : Nat} {v : CV} {a : CSide} {ts : List Nat} (h : CSideAt w o T s v a) (hT : T.Low) (hs : Step ts w o w' o') (ht : ∀ t ∈ ts, t = 30 ∨ 38 ≤ t) (h2 : s < 2) : CSideAt w' o' T s v a :=
  h.step hs (fun hm => by have := ht _ hm; have := hT.t; omega) (fun hm => by have := ht _ hm; have := hT.e; omega) (fun hm => by have := ht _ hm; have := hT.s; omega) (fun n hm => by have := ht _ hm; have := hT.m n; omega) (fun hm => by have := ht _ hm; omega) (fun hm => by have := ht _ hm; omega) (fun hm => by have := ht _ hm; omega) (fun hm => by have := ht _ hm; omega)

def CV.cells (v : CV) : List Value := [.pointer (some ⟨v.b, 0, none⟩), .slice v.sA v.sn v.sc, .slice v.gA v.gn v.gc, .slice v.mA v.mn v.mc]
/-- What of a side stands in the link's block. -/
structure CellsC (cells : Array Value) (s : Nat) (v : CV) : Prop where
  c0 : cells[s * 4]? = some (.pointer (some ⟨v.b, 0, none⟩))
  c1 : cells[s * 4 + 1]? = some (.slice v.sA v.sn v.sc)
  c2 : cells[s * 4 + 2]? = some (.slice v.gA v.gn v.gc)
  c3 : cells[s * 4 + 3]? = some (.slice v.mA v.mn v.mc)

/-- A connection at block l, seen from the side s with the tags T (the other side: U). -/
structure LinkC (w : World) (o : Own) (l s s' : Nat) (T U : ChT) (a b : CSide) (t : Int) (v u : CV) (cells : Array Value) : Prop where
  blk : Blk w l 76 cells
  ol : o l = 30
  size : cells.size = 9
  x : CellsC cells s v
  y : CellsC cells s' u
  tick : cells[8]? = some (.int .i64 t)
  ax : CSideAt w o T s v a
  by_ : CSideAt w o U s' u b
theorem LinkC.swap {w : World} {o : Own} {l s s' : Nat} {T U : ChT} {a b : CSide} {t : Int} {v u : CV} {cells : Array Value} (h : LinkC w o l s s' T U a b t v u cells) : LinkC w o l s' s U T b a t u v cells :=
  ⟨h.blk, h.ol, h.size, h.y, h.x, h.tick, h.by_, h.ax⟩
theorem LinkC.high {w w' : World} {o o' : Own} {l s s' : Nat} {T U : ChT} {a b : CSide} {t : Int} {v u : CV} {cells : Array Value} {ts : List Nat} (h : LinkC w o l s s' T U a b t v u cells) (hT : T.Low) (hU : U.Low) (hs : Step ts w o w' o') (ht : ∀ t ∈ ts, 38 ≤ t) (h2 : s < 2) (h3 : s' < 2) : LinkC w' o' l s s' T U a b t v u cells :=
  ⟨h.blk.step hs (by rw [h.ol]; intro hm; have := ht _ hm; omega), (hs.own _ h.blk.lt).trans h.ol, h.size, h.x, h.y, h.tick, h.ax.high hT hs (fun t hm => .inr (ht t hm)) h2, h.by_.high hU hs (fun t hm => .inr (ht t hm)) h3⟩

/-- A connection at block l. -/
def LinkCAt (w : World) (o : Own) (l : Nat) (a b : CSide) (t : Int) : Prop := ∃ v u cells, LinkC w o l 0 1 T1 T2 a b t v u cells

def cnew (own other : Int) : CSide := ⟨chNew own other, [], [], []⟩

set_option maxRecDepth 100000 in
set_option maxHeartbeats 1000000 in
theorem linked_any (w : World) (o : Own) (x y p q : Int) (hx0 : 0 ≤ x) (_hx1 : x < 18446744073709551616) (hy0 : 0 ≤ y) (_hy1 : y < 18446744073709551616) (hp : p = x % 1099511627777) (hq : q = y % 1099511627777) :
    Calls Try.prog 35 #[.int .u64 x, .int .u64 y] w fun e w' => ∃ l o', e = .returned (.tuple #[.pointer (some ⟨l, 0, none⟩), .bool true]) ∧ Step [] w o w' o' ∧ LinkCAt w' o' l (cnew p q) (cnew q p) 0 := by
  have p0 : 0 ≤ p := by omega
  have p1 : p ≤ 1099511627776 := by omega
  have q0 : 0 ≤ q := by omega
  have q1 : q ≤ 1099511627776 := by omega
  have m1 : x % 1099511627777 = p := hp.symm
  have m2 : y % 1099511627777 = q := hq.symm
  have n1 : x.tmod 1099511627777 = p := by rw [Int.tmod_eq_emod_of_nonneg hx0]; exact m1
  have n2 : y.tmod 1099511627777 = q := by rw [Int.tmod_eq_emod_of_nonneg hy0]; exact m2
  clear hp hq
  go_enter Try.func35, Try.ntmps35
  go_wp2_with fail
  refine (ChNew_ok w o T1 T1_ok p q p0 p1 q0 q1).mono ?_
  rintro e w1 ⟨ba, o1, rfl, hst1, hA1⟩
  have HST := Lib.hid hst1; have HA := Lib.hid hA1
  clear hst1 hA1
  go_wp2_with fail
  refine (ChNew_ok w1 o1 T2 T2_ok q p q0 q1 p0 p1).mono ?_
  rintro e w2 ⟨bb, o2, rfl, hst2, hB2⟩
  have HA2 := Lib.hid (HA.out.far1 hst2 (by simp)); have HB2 := Lib.hid hB2; have HST2 := Lib.hid (HST.out.trans hst2)
  clear hst2 hB2 HA HST
  go_wp2_with fail
  go_ret2
  have st3 := (Step.refl [] w2 o2).alloc (.cells #[.pointer (some ⟨ba, 0, none⟩), .slice none 0 0, .slice none 0 0, .slice none 0 0, .pointer (some ⟨bb, 0, none⟩), .slice none 0 0, .slice none 0 0, .slice none 0 0, .int .i64 0] 76) 30
  refine ⟨w2.heap.size, _, rfl, HST2.out.trans st3, ⟨ba, none, 0, 0, none, 0, 0, none, 0, 0⟩, ⟨bb, none, 0, 0, none, 0, 0, none, 0, 0⟩, #[.pointer (some ⟨ba, 0, none⟩), .slice none 0 0, .slice none 0 0, .slice none 0 0, .pointer (some ⟨bb, 0, none⟩), .slice none 0 0, .slice none 0 0, .slice none 0 0, .int .i64 0], ?_⟩
  exact ⟨Blk.new _ _ _, ext_ge (Nat.le_refl _), rfl, ⟨rfl, rfl, rfl, rfl⟩, ⟨rfl, rfl, rfl, rfl⟩, rfl, ⟨HA2.out.far1 st3 (by simp), Row.nil_ _ _ _ _ _, Row.nil_ _ _ _ _ _, MadeC.nil_ _ _ _ _⟩, ⟨HB2.out.far2 st3 (by simp), Row.nil_ _ _ _ _ _, Row.nil_ _ _ _ _ _, MadeC.nil_ _ _ _ _⟩⟩
end Go.Proofs.Ythjjipcbpmdfnaa

/- WALK of (*link).sends. -/
namespace Go.Proofs.Ythjjipcbpmdfnaa
open Go.RowKit

def SendsTo (w : World) (o : Own) (l s s' : Nat) (T U : ChT) (a b : CSide) (t : Int) (u : CV) (e : Ending) (w' : World) : Prop :=
  e = .returned (.bool true) ∧ ∃ o' v' cells', Step [T.τ, T.τe, 30, 31 + s, 33 + s, 35 + s, 39] w o w' o' ∧ LinkC w' o' l s s' T U a b t v' u cells'

theorem CellsC.set1 {cells : Array Value} {s : Nat} {v : CV} (h : CellsC cells s v) (hc : cells.size = 9) (hs : s < 2) (A : Option Addr) (n c : Nat) : CellsC (cells.setIfInBounds (s * 4 + 1) (.slice A n c)) s { v with sA := A, sn := n, sc := c } := by
  refine ⟨?_, ?_, ?_, ?_⟩
  · rw [Array.getElem?_setIfInBounds_ne (by omega)]; exact h.c0
  · rw [Array.getElem?_setIfInBounds_self, if_pos (by omega)]
  · rw [Array.getElem?_setIfInBounds_ne (by omega)]; exact h.c2
  · rw [Array.getElem?_setIfInBounds_ne (by omega)]; exact h.c3
theorem CellsC.set2 {cells : Array Value} {s : Nat} {v : CV} (h : CellsC cells s v) (hc : cells.size = 9) (hs : s < 2) (A : Option Addr) (n c : Nat) : CellsC (cells.setIfInBounds (s * 4 + 2) (.slice A n c)) s { v with gA := A, gn := n, gc := c } := by
  refine ⟨?_, ?_, ?_, ?_⟩
  · rw [Array.getElem?_setIfInBounds_ne (by omega)]; exact h.c0
  · rw [Array.getElem?_setIfInBounds_ne (by omega)]; exact h.c1
  · rw [Array.getElem?_setIfInBounds_self, if_pos (by omega)]
  · rw [Array.getElem?_setIfInBounds_ne (by omega)]; exact h.c3
theorem CellsC.set3 {cells : Array Value} {s : Nat} {v : CV} (h : CellsC cells s v) (hc : cells.size = 9) (hs : s < 2) (A : Option Addr) (n c : Nat) : CellsC (cells.setIfInBounds (s * 4 + 3) (.slice A n c)) s { v with mA := A, mn := n, mc := c } := by
  refine ⟨?_, ?_, ?_, ?_⟩
  · rw [Array.getElem?_setIfInBounds_ne (by omega)]; exact h.c0
  · rw [Array.getElem?_setIfInBounds_ne (by omega)]; exact h.c1
  · rw [Array.getElem?_setIfInBounds_ne (by omega)]; exact h.c2
  · rw [Array.getElem?_setIfInBounds_self, if_pos (by omega)]
theorem CellsC.far {cells : Array Value} {s s' : Nat} {u : CV} (h : CellsC cells s' u) (hs : s < 2) (hs' : s' = 1 - s) (j : Nat) (hj : j < 4) (x : Value) : CellsC (cells.setIfInBounds (s * 4 + j) x) s' u := by
  refine ⟨?_, ?_, ?_, ?_⟩
  all_goals rw [Array.getElem?_setIfInBounds_ne (by omega)]
  · exact h.c0
  · exact h.c1
  · exact h.c2
  · exact h.c3

theorem strs_snoc (ms : List (List UInt8)) (x : List UInt8) : strs (ms ++ [x]) = strs ms ++ [.string ⟨x.toArray⟩] := by simp [strs]

/-- The two sides. -/
def Pair (T U : ChT) : Prop := (T = T1 ∧ U = T2) ∨ (T = T2 ∧ U = T1)
theorem Pair.swap {T U : ChT} (h : Pair T U) : Pair U T := by
  rcases h with ⟨h1, h2⟩ | ⟨h1, h2⟩
  · exact .inr ⟨h2, h1⟩
  · exact .inl ⟨h2, h1⟩
theorem Pair.ok {T U : ChT} (h : Pair T U) : T.Ok ∧ T.Low := by
  rcases h with ⟨rfl, rfl⟩ | ⟨rfl, rfl⟩
  · exact ⟨T1_ok, T1_low⟩
  · exact ⟨T2_ok, T2_low⟩
theorem Pair.pos {T U : ChT} (h : Pair T U) : 0 < T.τ ∧ 0 < T.τe := by
  rcases h with ⟨rfl, rfl⟩ | ⟨rfl, rfl⟩ <;> decide
theorem Pair.eps {T U : ChT} (h : Pair T U) (n : Nat) : T.ε n ≠ T.σ := by
  rcases h with ⟨rfl, rfl⟩ | ⟨rfl, rfl⟩ <;> simp [T1, T2]
theorem Pair.apart {T U : ChT} (h : Pair T U) {x : Nat} (hx : x = U.τ ∨ x = U.τe ∨ x = U.σ ∨ ∃ n, x = U.ε n) : x < 20 ∧ x ≠ T.τ ∧ x ≠ T.τe := by
  rcases h with ⟨rfl, rfl⟩ | ⟨rfl, rfl⟩
  all_goals
    simp only [T1, T2] at hx ⊢
    rcases hx with rfl | rfl | rfl | ⟨n, rfl⟩ <;> decide
/-- What the other side keeps. -/
theorem CSideAt.other {w w' : World} {o o' : Own} {T U : ChT} {s s' : Nat} {u : CV} {b : CSide} {ts : List Nat} (h : CSideAt w o U s' u b) (hs : Step ts w o w' o') (hP : Pair T U) (h2 : s < 2) (h3 : s' = 1 - s) (ht : ∀ t ∈ ts, t = T.τ ∨ t = T.τe ∨ t = 30 ∨ t = 31 + s ∨ t = 33 + s ∨ t = 35 + s ∨ 38 ≤ t) : CSideAt w' o' U s' u b := by
  have l1 := hP.ok.2.t; have l2 := hP.ok.2.e
  have low : ∀ x, (x = U.τ ∨ x = U.τe ∨ x = U.σ ∨ ∃ n, x = U.ε n) → x ∉ ts := fun x hx hm => by
    obtain ⟨q1, q2, q3⟩ := hP.apart hx
    rcases ht _ hm with q | q | q | q | q | q | q
    · exact q2 q
    · exact q3 q
    all_goals omega
  have high : ∀ x, 30 < x → x < 38 → x ≠ 31 + s → x ≠ 33 + s → x ≠ 35 + s → x ∉ ts := fun x k1 k2 k3 k4 k5 hm => by
    rcases ht _ hm with q | q | q | q | q | q | q <;> omega
  exact h.step hs (low _ (.inl rfl)) (low _ (.inr (.inl rfl))) (low _ (.inr (.inr (.inl rfl)))) (fun n => low _ (.inr (.inr (.inr ⟨n, rfl⟩)))) (high _ (by omega) (by omega) (by omega) (by omega) (by omega)) (high _ (by omega) (by omega) (by omega) (by omega) (by omega)) (high _ (by omega) (by omega) (by omega) (by omega) (by omega)) (high _ (by omega) (by omega) (by omega) (by omega) (by omega))

/-- A Channel alone has changed. -/
theorem LinkC.onC {w w' : World} {o o' : Own} {l s s' : Nat} {T U : ChT} {a b : CSide} {t : Int} {v u : CV} {cells : Array Value} {ts : List Nat} (h : LinkC w o l s s' T U a b t v u cells) (hP : Pair T U) (hs : s < 2) (hs' : s' = 1 - s) (hst : Step ts w o w' o') (ht : ∀ t ∈ ts, t = T.τ ∨ t = T.τe ∨ 38 ≤ t) {c' : ChS} (hA : ChAt w' o' T v.b c') : LinkC w' o' l s s' T U { a with c := c' } b t v u cells := by
  have l1 := hP.ok.2.t; have l2 := hP.ok.2.e
  have low : ∀ x, 30 ≤ x → x < 38 → x ∉ ts := fun x k1 k2 hm => by have := ht _ hm; omega
  exact ⟨h.blk.step hst (by rw [h.ol]; exact low _ (by omega) (by omega)), (hst.own _ h.blk.lt).trans h.ol, h.size, h.x, h.y, h.tick,
    ⟨hA, h.ax.sent.step hst (low _ (by omega) (by omega)), h.ax.got.step hst (low _ (by omega) (by omega)), h.ax.made.step hst (low _ (by omega) (by omega)) (low _ (by omega) (by omega))⟩,
    h.by_.other hst hP hs hs' (fun x hx => by have := ht _ hx; omega)⟩
/-- The row of what was sent has grown. -/
theorem LinkC.onSent {w w6 : World} {o o6 : Own} {l s s' : Nat} {T U : ChT} {a b : CSide} {t : Int} {v u : CV} {cells : Array Value} (h : LinkC w o l s s' T U a b t v u cells) (hP : Pair T U) (hs : s < 2) (hs' : s' = 1 - s) (hst : Step [31 + s, 39] w o w6 o6) {xs : List UInt8} {A : Option Addr} {n c : Nat} (hR : Row w6 o6 (31 + s) 9 1 A n c (strs (a.sent ++ [xs]))) :
    LinkC (w6.setCell ⟨l, s * 4 + 1, none⟩ (.slice A n c)) o6 l s s' T U { a with sent := a.sent ++ [xs] } b t { v with sA := A, sn := n, sc := c } u (cells.setIfInBounds (s * 4 + 1) (.slice A n c)) ∧ Step [30, 31 + s, 39] w o (w6.setCell ⟨l, s * 4 + 1, none⟩ (.slice A n c)) o6 := by
  have l1 := hP.ok.2.t; have l2 := hP.ok.2.e; have l3 := hP.ok.2.s; have l4 := hP.ok.2.m
  have hb6 := h.blk.step hst (by rw [h.ol]; simp; omega)
  have hol6 : o6 l = 30 := (hst.own _ h.blk.lt).trans h.ol
  have st7 : Step [30] w6 o6 (w6.setCell ⟨l, s * 4 + 1, none⟩ (.slice A n c)) o6 := (Step.refl [30] w6 o6).setCell (.inr (by simp [hol6])) _
  have stA := (hst.mono (ts' := [30, 31 + s, 39]) (by simp)).trans (st7.mono (ts' := [30, 31 + s, 39]) (by simp))
  refine ⟨⟨hb6.set_ _ _, hol6, by rw [Array.size_setIfInBounds]; exact h.size, h.x.set1 h.size hs A n c, h.y.far hs hs' 1 (by omega) _, by rw [Array.getElem?_setIfInBounds_ne (by omega)]; exact h.tick, ?_, h.by_.other stA hP hs hs' (fun x hx => by simp at hx; omega)⟩, stA⟩
  refine ⟨h.ax.c.step stA (by simp; omega) (by simp; omega) (by simp; omega) (fun n _ => by have := l4 n; simp; omega), hR.step st7 (by simp; omega), h.ax.got.step stA (by simp; omega), h.ax.made.step stA (by simp; omega) (by simp; omega)⟩

set_option maxRecDepth 100000 in
set_option maxHeartbeats 2000000 in
theorem sends_any {w : World} {o : Own} {l s s' : Nat} {T U : ChT} {a b : CSide} {t : Int} {v u : CV} {cells : Array Value} (h : LinkC w o l s s' T U a b t v u cells) (hP : Pair T U) (hs : s < 2) (hs' : s' = 1 - s) (hf : a.c.Fit) (hl : a.sent.length ≤ 100000)
    (τm : Nat) (A : Option Addr) (n c : Nat) (xs : List UInt8) (hS : Sl w o τm 1 A n c (byts xs)) (hm : τm = 0 ∨ 38 ≤ τm) :
    Calls Try.prog 37 #[.pointer (some ⟨l, 0, none⟩), .int .i64 s, .slice A n c] w (SendsTo w o l s s' T U (a.sd xs) b t u) := by
  obtain ⟨hTok, hTlow⟩ := hP.ok
  have hnl : n = xs.length := by have := hS.1; simp at this; omega
  have hnc : n ≤ 9223372036854775807 := by have h1 := hS.2.1; have h2 := hS.2.2.1; unfold maxLen at h2; omega
  have c0 := (h.blk.cell (s * 4)).trans h.x.c0
  have hw := Waiting_ok h.ax.c
  have hsend := Send_any h.ax.c hf hTok τm A n c xs hS
  have hwb : waitS a.c ≤ 1000000000 := Nat.le_trans (cntN_le _ _) hf.sl
  have lt1 := hTlow.t
  have blt := h.blk.lt
  have H := Lib.hid h; have HW := Lib.hid hw; have HS := Lib.hid hS; have HF := Lib.hid hf; have HNL := Lib.hid hnl
  clear hw h hS hf
  by_cases k1 : 1024 < n
  · have e : sendS a.c xs = (a.c, 3) := by unfold sendS; rw [if_pos (by omega)]
    have e2 : a.sd xs = a := by unfold CSide.sd; rw [if_neg (by omega)]
    rw [e] at hsend
    rw [e2]
    have HSD := Lib.hid hsend; have HP := Lib.hid hP
    clear hsend e e2 hnl hP
    have d1 : decide (1024 < (n : Int)) = true := by simp; omega
    go_enter Try.func37, Try.ntmps37
    go_wp2_with (first
      | (go_at_call 31; refine HW.out.mono ?_; rintro e w' ⟨rfl, rfl⟩)
      | (go_at_call 16; refine HSD.out.mono ?_; rintro e w' ⟨o', rfl, hst, hA⟩; have HST := Lib.hid hst; have HA := Lib.hid hA; clear hst hA))
    go_ret
    exact ⟨rfl, o', v, cells, HST.out.mono (by simp), H.out.onC HP.out hs hs' HST.out (by simp) HA.out⟩
  · have d1 : decide (1024 < (n : Int)) = false := by simp; omega
    by_cases k2 : 256 ≤ waitS a.c
    · have e : sendS a.c xs = (a.c, 4) := by unfold sendS; rw [if_neg (by omega), if_pos k2]
      have e2 : a.sd xs = a := by unfold CSide.sd; rw [if_neg (by omega)]
      rw [e] at hsend
      rw [e2]
      have HSD := Lib.hid hsend; have HP := Lib.hid hP
      clear hsend e e2 hnl hP
      have d2 : decide (256 ≤ (waitS a.c : Int)) = true := by simp; omega
      go_enter Try.func37, Try.ntmps37
      go_wp2_with (first
        | (go_at_call 31; refine HW.out.mono ?_; rintro e w' ⟨rfl, rfl⟩)
        | (go_at_call 16; refine HSD.out.mono ?_; rintro e w' ⟨o', rfl, hst, hA⟩; have HST := Lib.hid hst; have HA := Lib.hid hA; clear hst hA))
      go_ret
      exact ⟨rfl, o', v, cells, HST.out.mono (by simp), H.out.onC HP.out hs hs' HST.out (by simp) HA.out⟩
    · obtain ⟨e, ew⟩ := wait_send HF.out (b := xs) (by omega) (by omega)
      have e2 : a.sd xs = { a with c := (sendS a.c xs).1, sent := a.sent ++ [xs] } := by unfold CSide.sd; rw [if_pos ⟨by omega, by omega⟩]
      rw [e2]
      obtain ⟨c1, hc1⟩ : ∃ c1, c1 = (sendS a.c xs).1 := ⟨_, rfl⟩
      have e0 : (sendS a.c xs).2 = 0 := by rw [e]
      rw [← hc1] at ew ⊢
      have hsend2 : Calls Try.prog 16 #[.pointer (some ⟨v.b, 0, none⟩), .slice A n c] w (fun e w' => ∃ o', e = .returned (.int .i64 0) ∧ Step [T.τ] w o w' o' ∧ ChAt w' o' T v.b c1) := by
        refine hsend.mono ?_
        rintro e' w' ⟨o', he, hst, hA⟩
        rw [e0] at he; rw [← hc1] at hA
        exact ⟨o', he, hst, hA⟩
      have HSD := Lib.hid hsend2; have HP := Lib.hid hP; have HEW := Lib.hid ew
      clear hsend hsend2 e e2 hnl hP e0 hc1 ew
      have d2 : decide (256 ≤ (waitS a.c : Int)) = false := by simp; omega
      have d3 : (((waitS a.c : Int) + 1) == (waitS a.c : Int) + 1) = true := by simp
      go_enter Try.func37, Try.ntmps37
      go_wp2_with (first
        | (go_at_call 31; refine HW.out.mono ?_; rintro e w' ⟨rfl, rfl⟩)
        | (go_at_call 16; refine HSD.out.mono ?_; rintro e w1 ⟨o1, rfl, hst, hA⟩; have HST := Lib.hid hst; have HL := Lib.hid (H.out.onC HP.out hs hs' hst (by simp) hA); clear hst hA))
      have q1 := (HL.out.blk.cell (s * 4 + 1)).trans HL.out.x.c1
      obtain ⟨W2, hW2⟩ : ∃ W2, W2 = w1.drew := ⟨_, rfl⟩
      have stD : Step [] w1 o1 W2 o1 := by rw [hW2]; exact (Step.refl [] w1 o1).drew
      have lk : W2.cell? ⟨l, s * 4 + 1, none⟩ = some (.slice v.sA v.sn v.sc) := by rw [hW2]; exact q1
      have cv2 : (convert 41 9 (.slice A n c)).run Try.prog W2 = .ok (.string ⟨xs.toArray⟩) W2 := conv_bytes W2 o1 τm A n c xs ((HS.out.step HST.out (by have := HP.out.ok.2.t; have := HP.out.pos.1; simp; omega)).step stD (by simp))
      refine wp_region_till (S0 := fun w' => w'.cell? ⟨l, s * 4 + 1, none⟩ = some (.slice v.sA v.sn v.sc)) (st := 8) (by kernel_rfl) ?_
      change wpAnyG _ _ _ _ _ _ _ _ _ (World.drew _)
      rw [← hW2]
      have HL2 := Lib.hid (HL.out.onC HP.out hs hs' stD (by simp) (HL.out.ax.c.step stD (by simp) (by simp) (by simp) (by simp)))
      have HST2 := Lib.hid (HST.out.trans stD.nil)
      clear hW2 stD q1 HL HST
      refine wpAnyG_take (i := 0) (v := ?_) rfl (by kernel_rfl) (by kernel_rfl) (by kernel_rfl) (by kernel_rfl) (fun _ _ _ h => h) (Or.inl ⟨by rfl, ?_⟩) ((.inr lk)) ?_
      rotate_left
      · intro w' _; go_simp; try with_reducible rfl
      try simp only [Act.put, List.getElem_toArray, List.getElem_cons_zero, List.setIfInBounds_toArray, List.set_cons_zero, List.set_cons_succ]
      refine wpAnyG_take (i := 1) (v := ?_) rfl (by kernel_rfl) (by kernel_rfl) (by kernel_rfl) (by kernel_rfl) (fun _ _ _ h => h) (Or.inl ⟨by rfl, ?_⟩) ((.inr lk)) ?_
      rotate_left
      · intro w' _; go_simp; try with_reducible rfl
      try simp only [Act.put, List.getElem_toArray, List.getElem_cons_zero, List.getElem_cons_succ, List.setIfInBounds_toArray, List.set_cons_zero, List.set_cons_succ]
      refine wpAnyG_take (i := 2) (v := ?_) rfl (by kernel_rfl) (by kernel_rfl) (by kernel_rfl) (by kernel_rfl) (fun _ _ _ h => h) (Or.inl ⟨by rfl, ?_⟩) ((.inr lk)) ?_
      rotate_left
      · intro w' _; go_simp; try with_reducible rfl
      try simp only [Act.put, List.getElem_toArray, List.getElem_cons_zero, List.getElem_cons_succ, List.setIfInBounds_toArray, List.set_cons_zero, List.set_cons_succ]
      refine wpAnyG_take (i := 3) (v := ?_) rfl (by kernel_rfl) (by kernel_rfl) (by kernel_rfl) (by kernel_rfl) (fun _ _ _ h => h) (Or.inl ⟨by rfl, ?_⟩) ((.inr lk)) ?_
      rotate_left
      · intro w' _; go_simp; try with_reducible rfl
      try simp only [Act.put, List.getElem_toArray, List.getElem_cons_zero, List.getElem_cons_succ, List.setIfInBounds_toArray, List.set_cons_zero, List.set_cons_succ]
      refine wpAnyG_load (i := 4) (v := ?_) rfl rfl (by kernel_rfl) (by kernel_rfl) (by kernel_rfl) (by kernel_rfl) (by kernel_rfl) (by kernel_rfl) (fun _ _ _ h => h) (Or.inl ⟨by rfl, ?_⟩) (lk) ?_
      rotate_left
      · intro w' hSw; go_simp; try with_reducible rfl
      try simp only [Act.put, List.getElem_toArray, List.getElem_cons_zero, List.getElem_cons_succ, List.setIfInBounds_toArray, List.set_cons_zero, List.set_cons_succ]
      refine wpAnyG_take (i := 5) (v := ?_) rfl (by kernel_rfl) (by kernel_rfl) (by kernel_rfl) (by kernel_rfl) (fun _ _ _ h => h) (Or.inl ⟨by rfl, ?_⟩) ((.inr lk)) ?_
      rotate_left
      · intro w' _; go_simp; try with_reducible rfl
      try simp only [Act.put, List.getElem_toArray, List.getElem_cons_zero, List.getElem_cons_succ, List.setIfInBounds_toArray, List.set_cons_zero, List.set_cons_succ]
      refine wpAnyG_ready (rs := [6]) (by kernel_rfl) (by simp) ?_
      refine AllReadyG.cons rfl (fun K hK => ?_) AllReadyG.nil
      go_simp
      refine hK.out _ _ (.inr lk) ?_
      clear hK K
      refine wpAnyG_ready (rs := [7]) (by kernel_rfl) (by simp) ?_
      refine AllReadyG.cons rfl (fun K hK => ?_) AllReadyG.nil
      go_simp
      refine hK.out _ _ (.inr (((HL2.out.blk.alloc _).cell (s * 4 + 1)).trans HL2.out.x.c1)) ?_
      clear hK K
      have sN := (Step.refl [] W2 o1).alloc (.cells #[.string ⟨xs.toArray⟩] 9) 39
      have HN := Lib.hid (Row.made (w := W2) o1 39 9 1 #[.string ⟨xs.toArray⟩] 1 rfl (by decide) 1 (Nat.le_refl _)).sl
      have HRN := Lib.hid (HL2.out.ax.sent.step sN (by simp))
      have HSN := Lib.hid sN
      have hsn : v.sn ≤ 100000 := by have := HL2.out.ax.sent.len; rw [strs_len] at this; dsimp only at this; have := hl; omega
      clear sN lk cv2
      refine wpAnyG_ready (rs := [8]) (by kernel_rfl) (by simp) ?_
      refine AllReadyG.cons rfl (fun K hK => ?_) AllReadyG.nil
      refine step_append_row rfl (.tmp 44) (.tmp 47) _ rfl el_str _ (31 + s) v.sA v.sn v.sc _ rfl HRN.out _ 39 _ 1 1 [.string ⟨xs.toArray⟩] rfl HN.out (by simp [Value.oneCell']) (by omega) (by simp only [maxLen]; omega) ?_
      intro A2 c2 w6 hr6 hg6 hat6
      have sA := Step.append HRN.out hg6 (31 + s)
      have HST6 := Lib.hid ((HSN.out.mono (ts' := [31 + s, 39]) (by simp)).trans (sA.mono (by simp)))
      have HR6 := Lib.hid hr6
      clear hr6 hg6 hat6 sA
      refine hK.out _ _ (.inl rfl) ?_
      clear hK K
      refine wpAnyG_ready (rs := [9]) (by kernel_rfl) (by simp) ?_
      refine AllReadyG.cons rfl (fun K hK => ?_) AllReadyG.nil
      go_simp
      refine hK.out _ _ (.inl rfl) ?_
      clear hK K
      refine wpAnyG_ready (rs := [10]) (by kernel_rfl) (by simp) ?_
      refine AllReadyG.cons rfl (fun K hK => ?_) AllReadyG.nil
      go_simp
      refine hK.out _ _ (.inl rfl) ?_
      clear hK K
      have z0 := (HL2.out.blk.step HST6.out (by rw [HL2.out.ol]; simp; omega)).frozen (s * 4 + 1)
      have z1 := (HL2.out.blk.step HST6.out (by rw [HL2.out.ol]; simp; omega)).cell (s * 4 + 1)
      rw [HL2.out.x.c1] at z1
      refine wpAnyG_ready (rs := [11]) (by kernel_rfl) (by simp) ?_
      refine AllReadyG.cons rfl (fun K hK => ?_) AllReadyG.nil
      go_simp
      refine hK.out _ _ (.inl rfl) ?_
      clear hK K
      refine wpAnyG_done (by kernel_rfl) ?_ _
      have hR7 := HR6.out
      rw [show strs ({ a with c := c1 } : CSide).sent ++ [.string ⟨xs.toArray⟩] = strs (a.sent ++ [xs]) from (strs_snoc _ _).symm] at hR7
      obtain ⟨hL7, st7⟩ := HL2.out.onSent HP.out hs hs' HST6.out hR7
      obtain ⟨W7, hW7⟩ : ∃ W7, W7 = w6.setCell ⟨l, s * 4 + 1, none⟩ (.slice A2 (v.sn + 1) c2) := ⟨_, rfl⟩
      rw [← hW7] at hL7 st7 ⊢
      have y0 := (hL7.blk.cell (s * 4)).trans hL7.x.c0
      have hw7 := Waiting_ok hL7.ax.c
      have HW7 := Lib.hid hw7; have HL7 := Lib.hid hL7; have ST7 := Lib.hid st7
      clear hW7 z0 z1 hw7 hL7 st7 hR7 HR6 HST6 HSN HRN HN
      go_wp2_with (go_at_call 31; refine HW7.out.mono ?_; rintro e w8 ⟨he, rfl⟩; rw [show waitS ({ a with c := c1 } : CSide).c = waitS a.c + 1 from HEW.out] at he; subst he)
      go_ret
      exact ⟨rfl, _, _, _, (HST2.out.mono (by simp)).trans (ST7.out.mono (by simp)), HL7.out⟩
end Go.Proofs.Ythjjipcbpmdfnaa

/- WALK of (*link).flushes. -/
namespace Go.Proofs.Ythjjipcbpmdfnaa
open Go.RowKit

theorem el_slb : Elem Try.prog 29 41 1 24 (.slice none 0 0) := ⟨Try.underlying29, by kernel_rfl, rfl, by decide⟩

/-- The row of the packets has grown. -/
theorem LinkC.onMade {w w6 : World} {o o6 : Own} {l s s' : Nat} {T U : ChT} {a b : CSide} {t : Int} {v u : CV} {cells : Array Value} (h : LinkC w o l s s' T U a b t v u cells) (hP : Pair T U) (hs : s < 2) (hs' : s' = 1 - s) (hst : Step [35 + s, 39] w o w6 o6) {P : List UInt8} {PA : Option Addr} {pc : Nat} {vs : List Value} {A : Option Addr} {n c : Nat}
    (hvl : vs.length = a.made.length) (hvs : ∀ (i : Nat) (p : List UInt8), a.made[i]? = some p → ∃ A' c', vs[i]? = some (.slice A' p.length c') ∧ Sl w o 37 1 A' p.length c' (byts p))
    (hR : Row w6 o6 (35 + s) 41 1 A n c (vs ++ [.slice PA P.length pc])) (hS : Sl w6 o6 37 1 PA P.length pc (byts P)) :
    LinkC (w6.setCell ⟨l, s * 4 + 3, none⟩ (.slice A n c)) o6 l s s' T U { a with made := a.made ++ [P] } b t { v with mA := A, mn := n, mc := c } u (cells.setIfInBounds (s * 4 + 3) (.slice A n c)) ∧ Step [30, 35 + s, 39] w o (w6.setCell ⟨l, s * 4 + 3, none⟩ (.slice A n c)) o6 := by
  have l1 := hP.ok.2.t; have l2 := hP.ok.2.e; have l3 := hP.ok.2.s; have l4 := hP.ok.2.m
  have hb6 := h.blk.step hst (by rw [h.ol]; simp; omega)
  have hol6 : o6 l = 30 := (hst.own _ h.blk.lt).trans h.ol
  have st7 : Step [30] w6 o6 (w6.setCell ⟨l, s * 4 + 3, none⟩ (.slice A n c)) o6 := (Step.refl [30] w6 o6).setCell (.inr (by simp [hol6])) _
  have stA := (hst.mono (ts' := [30, 35 + s, 39]) (by simp)).trans (st7.mono (ts' := [30, 35 + s, 39]) (by simp))
  refine ⟨⟨hb6.set_ _ _, hol6, by rw [Array.size_setIfInBounds]; exact h.size, h.x.set3 h.size hs A n c, h.y.far hs hs' 3 (by omega) _, by rw [Array.getElem?_setIfInBounds_ne (by omega)]; exact h.tick, ?_, h.by_.other stA hP hs hs' (fun x hx => by simp at hx; omega)⟩, stA⟩
  refine ⟨h.ax.c.step stA (by simp; omega) (by simp; omega) (by simp; omega) (fun n _ => by have := l4 n; simp; omega), h.ax.sent.step stA (by simp; omega), h.ax.got.step stA (by simp; omega), ?_⟩
  refine ⟨vs ++ [.slice PA P.length pc], hR.step st7 (by simp; omega), by simp [hvl], fun i p hi => ?_⟩
  rw [List.getElem?_append] at hi ⊢
  by_cases hlt : i < a.made.length
  · rw [if_pos hlt] at hi
    rw [if_pos (by rw [hvl]; exact hlt)]
    obtain ⟨A', c', k1, k2⟩ := hvs i p hi
    exact ⟨A', c', k1, k2.step stA (by simp; omega)⟩
  · rw [if_neg hlt] at hi
    rw [if_neg (by rw [hvl]; exact hlt), hvl]
    generalize i - a.made.length = j at hi ⊢
    cases j with
    | succ j => simp at hi
    | zero =>
      simp only [List.getElem?_cons_zero, Option.some.injEq] at hi ⊢
      subst hi
      exact ⟨PA, pc, rfl, hS.step st7 (by simp)⟩

def FlushesTo (w : World) (o : Own) (l s s' : Nat) (T U : ChT) (P : List UInt8) (a b : CSide) (t : Int) (u : CV) (e : Ending) (w' : World) : Prop :=
  ∃ A c o' v' cells', e = .returned (.tuple #[.slice A P.length c, .bool true]) ∧ Step [T.τ, T.τe, 30, 31 + s, 33 + s, 35 + s, 39] w o w' o' ∧ LinkC w' o' l s s' T U a b t v' u cells' ∧ Sl w' o' 38 1 A P.length c (byts P)

set_option maxRecDepth 100000 in
set_option maxHeartbeats 2000000 in
theorem flushes_any {w : World} {o : Own} {l s s' : Nat} {T U : ChT} {a b : CSide} {t : Int} {v u : CV} {cells : Array Value} (h : LinkC w o l s s' T U a b t v u cells) (hP : Pair T U) (hs : s < 2) (hs' : s' = 1 - s) (hf : a.c.Fit) (hl : a.made.length ≤ 100000) (ht : t ≤ 9223372036854775807) (hn : a.c.e.next ≤ 1999999999998)
    (he : (flushS a.c t).2.2 = 0) (hP2 : (flushS a.c t).2.1.length ≤ 1200) :
    Calls Try.prog 33 #[.pointer (some ⟨l, 0, none⟩), .int .i64 s] w (FlushesTo w o l s s' T U (flushS a.c t).2.1 (a.fl t) b t u) := by
  obtain ⟨hTok, hTlow⟩ := hP.ok
  have l1 := hTlow.t; have l2 := hTlow.e; have p1 := hP.pos.1; have p2 := hP.pos.2
  have blt := h.blk.lt
  obtain ⟨R, hR⟩ : ∃ R, R = flushS a.c t := ⟨_, rfl⟩
  have hfl := Flush_any (h.ax.c.step (Step.refl [] w o).drew (by simp) (by simp) (by simp) (by simp)) hf hTok 38 (by omega) (by omega) t ht hn
  have hafl : a.fl t = { a with c := R.1, made := if R.2.1.length = 0 then a.made else a.made ++ [R.2.1] } := by unfold CSide.fl; rw [hR]
  rw [hafl]
  rw [← hR] at hfl he hP2 ⊢
  clear hR hafl
  obtain ⟨c1, P, e0⟩ := R
  dsimp only at he hP2 ⊢
  subst he
  obtain ⟨M, hM⟩ : ∃ M, M = if P.length = 0 then a.made else a.made ++ [P] := ⟨_, rfl⟩
  rw [← hM]
  have c0 : w.drew.cell? ⟨l, s * 4, none⟩ = some (.pointer (some ⟨v.b, 0, none⟩)) := (h.blk.drew.cell (s * 4)).trans h.x.c0
  have c8 : w.drew.cell? ⟨l, 8, none⟩ = some (.int .i64 t) := (h.blk.drew.cell 8).trans h.tick
  have C0 : w.drew.cell? ⟨l, s * 4, none⟩ = some (.pointer (some ⟨v.b, 0, none⟩)) ∧ w.drew.cell? ⟨l, 8, none⟩ = some (.int .i64 t) := ⟨c0, c8⟩
  have hsI : (s : Int) < 2 := by omega
  have hfl2 : Calls Try.prog 20 #[.pointer (some ⟨v.b, 0, none⟩), .int .i64 t] w.drew (fun e w' => ∃ o' A c, e = .returned (.tuple #[.slice A P.length c, .int .i64 0]) ∧ Step [T.τ, T.τe] w o w' o' ∧ LinkC w' o' l s s' T U { a with c := c1 } b t v u cells ∧ Sl w' o' 38 1 A P.length c (byts P)) := by
    refine hfl.mono ?_
    intro e w1 h1
    obtain ⟨o1, A, c, he, hst, hA, hRow⟩ := h1.out
    have hst0 : Step [T.τ, T.τe] w o w1 o1 := ((Step.refl [] w o).drew.nil).trans hst
    exact ⟨o1, A, c, he, hst0, h.onC hP hs hs' hst0 (by simp) hA, hRow.sl⟩
  have HP := Lib.hid hP; have HFL := Lib.hid hfl2; have HL0 := Lib.hid hl; have HM := Lib.hid hM; have HP2 := Lib.hid hP2
  have HSS := Lib.hid hs'
  clear hs'
  clear hM hfl hfl2 h hP hf hl c0 c8
  go_enter Try.func33, Try.ntmps33
  go_wp2_with fail
  go_region_held3 (fun w' => w'.cell? ⟨l, s * 4, none⟩ = some (.pointer (some ⟨v.b, 0, none⟩)) ∧ w'.cell? ⟨l, 8, none⟩ = some (.int .i64 t)) (first | with_reducible exact C0 | with_reducible exact C1)
    (first | (go_at_call 20; refine HFL.out.mono ?_; rintro e w1 ⟨o1, A, c, rfl, hst, hL1, hS1⟩; have C1 : w1.cell? ⟨l, s * 4, none⟩ = some (.pointer (some ⟨v.b, 0, none⟩)) ∧ w1.cell? ⟨l, 8, none⟩ = some (.int .i64 t) := ⟨(hL1.blk.cell (s * 4)).trans hL1.x.c0, (hL1.blk.cell 8).trans hL1.tick⟩; have HST1 := Lib.hid hst; have HL1 := Lib.hid hL1; have HS1 := Lib.hid hS1; clear hst hL1 hS1))
  have hle : decide ((P.length : Int) ≤ 1200) = true := by have := HP2.out; simp; omega
  by_cases hz : P.length = 0
  · have hd : decide (0 < (P.length : Int)) = false := decide_eq_false (by omega)
    have hMM : M = a.made := by rw [HM.out, if_pos hz]
    subst hMM
    go_wp2_with fail
    go_ret2
    exact ⟨A, c, o1, v, cells, rfl, HST1.out.mono (by simp), HL1.out, HS1.out⟩
  · have hd : decide (0 < (P.length : Int)) = true := decide_eq_true (by omega)
    have hMM : M = a.made ++ [P] := by rw [HM.out, if_neg hz]
    subst hMM
    go_wp2_with fail
    obtain ⟨W2, hW2⟩ : ∃ W2, W2 = w1.drew := ⟨_, rfl⟩
    have stD : Step [] w1 o1 W2 o1 := by rw [hW2]; exact (Step.refl [] w1 o1).drew
    have HL2 := Lib.hid (HL1.out.onC HP.out hs HSS.out stD (by simp) (HL1.out.ax.c.step stD (by simp) (by simp) (by simp) (by simp)))
    have HST2 := Lib.hid (HST1.out.trans stD.nil)
    have HS2 := Lib.hid (HS1.out.step stD (by simp))
    have lk : W2.cell? ⟨l, s * 4 + 3, none⟩ = some (.slice v.mA v.mn v.mc) := (HL2.out.blk.cell (s * 4 + 3)).trans HL2.out.x.c3
    refine wp_region_till (S0 := fun w' => w'.cell? ⟨l, s * 4 + 3, none⟩ = some (.slice v.mA v.mn v.mc)) (st := 9) (by kernel_rfl) ?_
    change wpAnyG _ _ _ _ _ _ _ _ _ (World.drew _)
    rw [← hW2]
    clear hW2 stD HL1 HST1 HS1 C0 C1
    refine wpAnyG_take (i := 0) (v := ?_) rfl (by kernel_rfl) (by kernel_rfl) (by kernel_rfl) (by kernel_rfl) (fun _ _ _ h => h) (Or.inl ⟨by rfl, ?_⟩) ((.inr lk)) ?_
    rotate_left
    · intro w' _; go_simp; try with_reducible rfl
    try simp only [Act.put, List.getElem_toArray, List.getElem_cons_zero, List.setIfInBounds_toArray, List.set_cons_zero, List.set_cons_succ]
    refine wpAnyG_take (i := 1) (v := ?_) rfl (by kernel_rfl) (by kernel_rfl) (by kernel_rfl) (by kernel_rfl) (fun _ _ _ h => h) (Or.inl ⟨by rfl, ?_⟩) ((.inr lk)) ?_
    rotate_left
    · intro w' _; go_simp; try with_reducible rfl
    try simp only [Act.put, List.getElem_toArray, List.getElem_cons_zero, List.getElem_cons_succ, List.setIfInBounds_toArray, List.set_cons_zero, List.set_cons_succ]
    refine wpAnyG_take (i := 2) (v := ?_) rfl (by kernel_rfl) (by kernel_rfl) (by kernel_rfl) (by kernel_rfl) (fun _ _ _ h => h) (Or.inl ⟨by rfl, ?_⟩) ((.inr lk)) ?_
    rotate_left
    · intro w' _; go_simp; try with_reducible rfl
    try simp only [Act.put, List.getElem_toArray, List.getElem_cons_zero, List.getElem_cons_succ, List.setIfInBounds_toArray, List.set_cons_zero, List.set_cons_succ]
    refine wpAnyG_take (i := 3) (v := ?_) rfl (by kernel_rfl) (by kernel_rfl) (by kernel_rfl) (by kernel_rfl) (fun _ _ _ h => h) (Or.inl ⟨by rfl, ?_⟩) ((.inr lk)) ?_
    rotate_left
    · intro w' _; go_simp; try with_reducible rfl
    try simp only [Act.put, List.getElem_toArray, List.getElem_cons_zero, List.getElem_cons_succ, List.setIfInBounds_toArray, List.set_cons_zero, List.set_cons_succ]
    refine wpAnyG_load (i := 4) (v := ?_) rfl rfl (by kernel_rfl) (by kernel_rfl) (by kernel_rfl) (by kernel_rfl) (by kernel_rfl) (by kernel_rfl) (fun _ _ _ h => h) (Or.inl ⟨by rfl, ?_⟩) (lk) ?_
    rotate_left
    · intro w' hSw; go_simp; try with_reducible rfl
    try simp only [Act.put, List.getElem_toArray, List.getElem_cons_zero, List.getElem_cons_succ, List.setIfInBounds_toArray, List.set_cons_zero, List.set_cons_succ]
    refine wpAnyG_take (i := 6) (v := ?_) rfl (by kernel_rfl) (by kernel_rfl) (by kernel_rfl) (by kernel_rfl) (fun _ _ _ h => h) (Or.inl ⟨by rfl, ?_⟩) ((.inr lk)) ?_
    rotate_left
    · intro w' _; go_simp; try with_reducible rfl
    try simp only [Act.put, List.getElem_toArray, List.getElem_cons_zero, List.getElem_cons_succ, List.setIfInBounds_toArray, List.set_cons_zero, List.set_cons_succ]
    refine wpAnyG_ready (rs := [5]) (by kernel_rfl) (by simp) ?_
    refine AllReadyG.cons rfl (fun K hK => ?_) AllReadyG.nil
    go_simp
    refine hK.out _ _ (.inr (((HL2.out.blk.alloc _).cell (s * 4 + 3)).trans HL2.out.x.c3)) ?_
    clear hK K
    have sN := (Step.refl [] W2 o1).alloc (.cells #[] 5) 37
    have HN := Lib.hid (Row.made (w := W2) o1 37 5 1 #[] 0 rfl (by decide) 0 (Nat.le_refl _))
    have HSP := Lib.hid (HS2.out.step sN (by simp))
    have HSN := Lib.hid sN
    clear sN lk
    refine wpAnyG_ready (rs := [7]) (by kernel_rfl) (by simp) ?_
    refine AllReadyG.cons rfl (fun K hK => ?_) AllReadyG.nil
    refine step_append_row rfl (.tmp 34) (.tmp 35) _ rfl el_byte _ 37 _ 0 0 _ rfl HN.out _ 38 _ P.length _ (byts P) rfl HSP.out (one_byts _) (by omega) (by simp only [maxLen]; omega) ?_
    intro A2 c2 w6 hr6 hg6 hat6
    have stG := HSN.out.grown hg6 (fun k hk => .inl (by simp [Value.ownBlock] at hk; omega)) 37
    have HST6 := Lib.hid stG
    have HR6 := Lib.hid hr6
    have HL6 := Lib.hid (HL2.out.onC HP.out hs HSS.out stG (by simp) (HL2.out.ax.c.step stG (by simp) (by simp) (by simp) (by simp)))
    have lk6 : w6.cell? ⟨l, s * 4 + 3, none⟩ = some (.slice v.mA v.mn v.mc) := (HL6.out.blk.cell (s * 4 + 3)).trans HL6.out.x.c3
    clear hr6 hg6 hat6 stG HN HSP HSN
    refine hK.out _ _ (.inr lk6) ?_
    clear hK K
    refine wpAnyG_ready (rs := [8]) (by kernel_rfl) (by simp) ?_
    refine AllReadyG.cons rfl (fun K hK => ?_) AllReadyG.nil
    go_simp
    obtain ⟨vs, hvr, hvl, hvs⟩ := HL6.out.ax.made
    have hmn : v.mn ≤ 100000 := by have := hvr.len; dsimp only at hvl; have := HL0.out; omega
    have sN := (Step.refl [] w6 (ext (ext o1 W2.heap.size 37) (W2.alloc (.cells #[] 5)).heap.size 37)).alloc (.cells #[.slice A2 P.length c2] 41) 39
    have HN := Lib.hid (Row.made (w := w6) (ext (ext o1 W2.heap.size 37) (W2.alloc (.cells #[] 5)).heap.size 37) 39 41 1 #[.slice A2 P.length c2] 1 rfl (by decide) 1 (Nat.le_refl _)).sl
    have HRN := Lib.hid (hvr.step sN (by simp))
    have HSP := Lib.hid (HR6.out.sl.step sN (by simp))
    have HSN := Lib.hid sN
    have HV := Lib.hid hvl; have HVS := Lib.hid hvs
    clear sN hvr hvl hvs HR6
    refine hK.out _ _ (.inr (((HL6.out.blk.alloc _).cell (s * 4 + 3)).trans HL6.out.x.c3)) ?_
    clear hK K lk6
    refine wpAnyG_ready (rs := [9]) (by kernel_rfl) (by simp) ?_
    refine AllReadyG.cons rfl (fun K hK => ?_) AllReadyG.nil
    refine step_append_row rfl (.tmp 33) (.tmp 37) _ rfl el_slb _ (35 + s) v.mA v.mn v.mc vs rfl HRN.out _ 39 _ 1 1 [.slice A2 P.length c2] rfl HN.out (by simp [Value.oneCell']) (by omega) (by simp only [maxLen]; omega) ?_
    intro A3 c3 w7 hr7 hg7 hat7
    have sA := Step.append HRN.out hg7 (35 + s)
    have HST7 := Lib.hid ((HSN.out.mono (ts' := [35 + s, 39]) (by simp)).trans (sA.mono (by simp)))
    have HS7 := Lib.hid (HSP.out.step sA (by simp; omega))
    have HR7 := Lib.hid hr7
    clear hr7 hg7 hat7 sA HN HRN HSN HSP
    refine hK.out _ _ (.inl rfl) ?_
    clear hK K
    refine wpAnyG_ready (rs := [10]) (by kernel_rfl) (by simp) ?_
    refine AllReadyG.cons rfl (fun K hK => ?_) AllReadyG.nil
    go_simp
    refine hK.out _ _ (.inl rfl) ?_
    clear hK K
    refine wpAnyG_ready (rs := [11]) (by kernel_rfl) (by simp) ?_
    refine AllReadyG.cons rfl (fun K hK => ?_) AllReadyG.nil
    go_simp
    refine hK.out _ _ (.inl rfl) ?_
    clear hK K
    have z0 := (HL6.out.blk.step HST7.out (by rw [HL6.out.ol]; simp; omega)).frozen (s * 4 + 3)
    have z1 := (HL6.out.blk.step HST7.out (by rw [HL6.out.ol]; simp; omega)).cell (s * 4 + 3)
    rw [HL6.out.x.c3] at z1
    refine wpAnyG_ready (rs := [12]) (by kernel_rfl) (by simp) ?_
    refine AllReadyG.cons rfl (fun K hK => ?_) AllReadyG.nil
    go_simp
    refine hK.out _ _ (.inl rfl) ?_
    clear hK K
    refine wpAnyG_done (by kernel_rfl) ?_ _
    clear z0 z1
    have hS7 := HS7.out
    rw [show (0 + P.length) = P.length from Nat.zero_add _] at hS7
    obtain ⟨hL8, st8⟩ := LinkC.onMade HL6.out HP.out hs HSS.out HST7.out HV.out HVS.out HR7.out (by simpa using hS7)
    have hS8 := (HS2.out.step HST6.out (by simp)).step st8 (by simp; omega)
    have HL8 := Lib.hid hL8; have HST8 := Lib.hid ((HST2.out.mono (ts' := [T.τ, T.τe, 30, 31 + s, 33 + s, 35 + s, 39]) (by simp)).trans ((HST6.out.mono (by simp)).trans (st8.mono (by simp)))); have HS8 := Lib.hid hS8
    clear hL8 st8 hS8 hS7
    go_wp2_with fail
    go_ret2
    exact ⟨A, c, _, _, _, rfl, HST8.out, HL8.out, HS8.out⟩
end Go.Proofs.Ythjjipcbpmdfnaa

/- WALK of (*link).takes. -/
namespace Go.Proofs.Ythjjipcbpmdfnaa
open Go.RowKit

/-- The row of what was delivered has grown. -/
theorem LinkC.onGot {w w6 : World} {o o6 : Own} {l s s' : Nat} {T U : ChT} {a b : CSide} {t : Int} {v u : CV} {cells : Array Value} (h : LinkC w o l s s' T U a b t v u cells) (hP : Pair T U) (hs : s < 2) (hs' : s' = 1 - s) (hst : Step [33 + s, 39] w o w6 o6) {xs : List UInt8} {A : Option Addr} {n c : Nat} (hR : Row w6 o6 (33 + s) 9 1 A n c (strs (a.got ++ [xs]))) :
    LinkC (w6.setCell ⟨l, s * 4 + 2, none⟩ (.slice A n c)) o6 l s s' T U { a with got := a.got ++ [xs] } b t { v with gA := A, gn := n, gc := c } u (cells.setIfInBounds (s * 4 + 2) (.slice A n c)) ∧ Step [30, 33 + s, 39] w o (w6.setCell ⟨l, s * 4 + 2, none⟩ (.slice A n c)) o6 := by
  have l1 := hP.ok.2.t; have l2 := hP.ok.2.e; have l3 := hP.ok.2.s; have l4 := hP.ok.2.m
  have hb6 := h.blk.step hst (by rw [h.ol]; simp; omega)
  have hol6 : o6 l = 30 := (hst.own _ h.blk.lt).trans h.ol
  have st7 : Step [30] w6 o6 (w6.setCell ⟨l, s * 4 + 2, none⟩ (.slice A n c)) o6 := (Step.refl [30] w6 o6).setCell (.inr (by simp [hol6])) _
  have stA := (hst.mono (ts' := [30, 33 + s, 39]) (by simp)).trans (st7.mono (ts' := [30, 33 + s, 39]) (by simp))
  refine ⟨⟨hb6.set_ _ _, hol6, by rw [Array.size_setIfInBounds]; exact h.size, h.x.set2 h.size hs A n c, h.y.far hs hs' 2 (by omega) _, by rw [Array.getElem?_setIfInBounds_ne (by omega)]; exact h.tick, ?_, h.by_.other stA hP hs hs' (fun x hx => by simp at hx; omega)⟩, stA⟩
  refine ⟨h.ax.c.step stA (by simp; omega) (by simp; omega) (by simp; omega) (fun n _ => by have := l4 n; simp; omega), h.ax.sent.step stA (by simp; omega), hR.step st7 (by simp; omega), h.ax.made.step stA (by simp; omega) (by simp; omega)⟩

def TakesToC (w : World) (o : Own) (l s s' : Nat) (T U : ChT) (a b : CSide) (t : Int) (u : CV) (e : Ending) (w' : World) : Prop :=
  e = .returned (.bool true) ∧ ∃ o' v' cells', Step [T.τ, T.τe, 30, 31 + s, 33 + s, 35 + s, 39, 40] w o w' o' ∧ LinkC w' o' l s s' T U a b t v' u cells'

/-- What the loop over the messages needs. -/
structure TakesJ (w : World) (o : Own) (l s s' : Nat) (T U : ChT) (a b : CSide) (t : Int) (u : CV) (c1 : ChS) (n : Nat) (A : Option Addr) (m c : Nat) (vs : List Value) (D : List (List UInt8)) (i : Nat) (wr : World) : Prop where
  ex : ∃ or v cells, LinkC wr or l s s' T U { a with c := c1, got := a.got ++ D.take i } b t v u cells ∧ MsgsAt wr or 40 T.ε n A m c vs D ∧ Step [T.τ, T.τe, 30, 31 + s, 33 + s, 35 + s, 39, 40] w o wr or

set_option maxRecDepth 100000 in
set_option maxHeartbeats 4000000 in
theorem takes_any {w : World} {o : Own} {l s s' : Nat} {T U : ChT} {a b : CSide} {t : Int} {v u : CV} {cells : Array Value} (h : LinkC w o l s s' T U a b t v u cells) (hP : Pair T U) (hs : s < 2) (hs' : s' = 1 - s) (hf : a.c.Fit) (hl : b.sent.length ≤ 100000) (hnw : a.c.e.newest ≤ 1999999900000)
    (τm : Nat) (A : Option Addr) (n c : Nat) (xs : List UInt8) (hS : Sl w o τm 1 A n c (byts xs)) (hm : τm = 37 ∨ τm = 38) (hn : n ≤ 140737488355328)
    (he : (recvS a.c xs).2.2 = 0 ∨ (((recvS a.c xs).2.2 = 191 ∨ (recvS a.c xs).2.2 = 192) ∧ (recvS a.c xs).2.1 = []))
    (hD : (recvS a.c xs).2.1 = (b.sent.drop a.got.length).take (recvS a.c xs).2.1.length) (hN : (recvS a.c xs).1.next = a.got.length + (recvS a.c xs).2.1.length)
    (hw : 0 < waitS b.c ∨ a.got.length + (recvS a.c xs).2.1.length = b.sent.length) :
    Calls Try.prog 34 #[.pointer (some ⟨l, 0, none⟩), .int .i64 s, .slice A n c] w (TakesToC w o l s s' T U (a.tk xs) b t u) := by
  obtain ⟨hTok, hTlow⟩ := hP.ok
  have l1 := hTlow.t; have l2 := hTlow.e; have l3 := hTlow.s; have p1 := hP.pos.1; have p2 := hP.pos.2
  obtain ⟨R, hR⟩ : ∃ R, R = recvS a.c xs := ⟨_, rfl⟩
  have hatk : a.tk xs = { a with c := R.1, got := a.got ++ R.2.1 } := by unfold CSide.tk; rw [hR]
  rw [hatk]
  rw [← hR] at he hD hN hw
  clear hatk
  obtain ⟨c1, D, e0⟩ := R
  dsimp only at he hD hN hw ⊢
  obtain ⟨nx, hnx⟩ : ∃ nx, nx = a.c.next := ⟨_, rfl⟩
  have hsI : (s : Int) < 2 := by omega
  have hss : (1 : Int) - (s : Int) = (s' : Int) := by omega
  have hss2 : (s' : Int) < 2 := by omega
  obtain ⟨dl, hdl⟩ : ∃ dl, dl = D.length := ⟨_, rfl⟩
  have hdb : dl ≤ 100000 := by
    have := congrArg List.length hD
    rw [List.length_take, List.length_drop] at this
    omega
  have he2 : ((e0 != 0) = false) ∨ (e0 != 0) = true ∧ dl = 0 ∧ (e0 = 191 ∨ e0 = 192) := by
    rcases he with he | ⟨he, hd0⟩
    · exact .inl (by rw [he]; rfl)
    · refine .inr ⟨by rcases he with he | he <;> rw [he] <;> rfl, by rw [hdl, hd0]; rfl, he⟩
  have blt := h.blk.lt
  have HR := Lib.hid hR; have HSS := Lib.hid hs'; have HP := Lib.hid hP; have HD := Lib.hid hD; have HN := Lib.hid hN; have HW := Lib.hid hw; have HL := Lib.hid hl
  have HNX := Lib.hid hnx; have HDL := Lib.hid hdl; have H := Lib.hid h; have HE := Lib.hid he2
  have HF := Lib.hid hf; have HS := Lib.hid hS; have HNW := Lib.hid hnw; have HNL := Lib.hid hn; have HM := Lib.hid hm
  clear hs' hP hD hN hw hl h hnx he hf hS hn hnw hdl hR he2 hm
  go_enter Try.func34, Try.ntmps34
  go_wp2_with fail
  go_quiet (fail)
  have st0 := (Step.refl [] w o).drewN nq
  have h2 := H.out.high HP.out.ok.2 HP.out.swap.ok.2 st0 (by simp) hs (by omega)
  have hS2 := HS.out.step st0 (by simp)
  have HST0 := Lib.hid st0
  clear st0 HS H
  generalize w.drewN nq = w0 at h2 hS2 HST0 ⊢
  have hrc := Receive_ch h2.ax.c HF.out hTok 40 (by omega) (by omega) (by omega) (fun n => by have := hTlow.m n; omega) HP.out.eps τm (by have := HM.out; omega) A n c xs hS2 HNL.out HNW.out
  rw [← HR.out, ← HNX.out] at hrc
  have hrc2 : Calls Try.prog 24 #[.pointer (some ⟨v.b, 0, none⟩), .slice A n c] w0 (fun e w' => ∃ LA lc vs, e = .returned (.tuple #[.slice LA dl lc, .int .i64 e0]) ∧ Hid (TakesJ w o l s s' T U a b t u c1 nx LA dl lc vs D 0 w')) := by
    refine hrc.mono ?_
    intro e w1 h1
    obtain ⟨o1, LA, m, lc, vs, he, hst, hA, hM⟩ := h1.out
    obtain rfl : m = dl := by rw [HDL.out]; exact hM.len.symm
    refine ⟨LA, lc, vs, he, Lib.hid ⟨o1, v, cells, ?_, hM, HST0.out.nil.trans (hst.mono (by simp))⟩⟩
    have := h2.onC HP.out hs HSS.out hst (by simp) hA
    simpa using this
  have c0 : w0.cell? ⟨l, s * 4, none⟩ = some (.pointer (some ⟨v.b, 0, none⟩)) := (h2.blk.cell (s * 4)).trans h2.x.c0
  have HRC := Lib.hid hrc2
  clear hrc hrc2 h2 hS2 HF HNW HR
  go_wp2_with fail
  refine HRC.out.mono ?_
  rintro e w1 ⟨LA, lc, vs, rfl, HJ⟩
  clear HRC c0
  rcases HE.out with q | ⟨q, q0, q1⟩
  · go_wp2_with fail
    go_loopw [50, 6] (fun i r wr => ∃ (j : Nat), j ≤ dl ∧ i = .int .i64 j ∧ r = .bool false ∧ Hid (TakesJ w o l s s' T U a b t u c1 nx LA dl lc vs D j wr)) (fun i _ _ => dl - (intOf i).toNat)
    case atStart => exact ⟨0, Nat.zero_le _, rfl, rfl, HJ⟩
    case round => as_aux_lemma =>
      clear HJ
      obtain ⟨j, hj, rfl, rfl, HJ⟩ := hrel
      by_cases hlt : j < dl
      · have hd : decide ((j : Int) < (dl : Int)) = true := decide_eq_true (by omega)
        have hd1 : (j : Int) < (dl : Int) := by omega
        obtain ⟨x, hx⟩ : ∃ x, D[j]? = some x := ⟨_, List.getElem?_eq_getElem (by rw [← HDL.out]; exact hlt)⟩
        obtain ⟨or, v1, cells1, hL, hM, hst⟩ := HJ.out.ex
        obtain ⟨XA, xl, xc, k1, k2⟩ := hM.el j x hx
        obtain ⟨ga, hLA, -, hca, -⟩ := hM.row.at_ (k := j) hlt
        subst hLA
        rw [k1] at hca
        have HX := Lib.hid hx; have HLK := Lib.hid hL; have HMS := Lib.hid hM; have HST := Lib.hid hst; have HXS := Lib.hid k2
        clear hx hL hM hst k1 k2
        obtain ⟨gj, hgj⟩ : ∃ g, g = a.got.length + j := ⟨_, rfl⟩
        have e1 : v1.gn = gj := by
          have := HLK.out.ax.got.len
          rw [strs_len, Nat.mul_one] at this
          dsimp only at this
          rw [List.length_append, List.length_take] at this
          have := HDL.out; omega
        have hbx : b.sent[gj]? = some x := by
          have := HX.out
          rw [HD.out, List.getElem?_take] at this
          split at this
          · rw [List.getElem?_drop] at this; rw [hgj]; exact this
          · cases this
        have hgb : gj < b.sent.length := (List.getElem?_eq_some_iff.1 hbx).1
        have e2 : u.sn = b.sent.length := by
          have := HLK.out.by_.sent.len
          rw [strs_len, Nat.mul_one] at this
          exact this.symm
        obtain ⟨sl, hsl⟩ : ∃ k, k = u.sn := ⟨_, rfl⟩
        obtain ⟨gb, hsA, -, hcb, -⟩ := HLK.out.by_.sent.at_ (k := gj) (by omega)
        rw [show (strs b.sent)[gj]? = some (.string ⟨x.toArray⟩) by simp [strs, hbx]] at hcb
        have m1 : wr.cell? ⟨l, s * 4 + 2, none⟩ = some (.slice v1.gA gj v1.gc) := by rw [← e1]; exact (HLK.out.blk.cell (s * 4 + 2)).trans HLK.out.x.c2
        have m2 : wr.cell? ⟨l, s' * 4 + 1, none⟩ = some (.slice (some ⟨gb, 0, none⟩) sl u.sc) := by rw [← hsA, hsl]; exact (HLK.out.blk.cell (s' * 4 + 1)).trans HLK.out.y.c1
        have cv : ∀ q, (convert 41 9 (.slice XA xl xc)).run Try.prog (wr.drewN q) = .ok (.string ⟨x.toArray⟩) (wr.drewN q) := fun q => conv_bytes (wr.drewN q) or _ XA xl xc x (HXS.out.step ((Step.refl [] _ _).drewN q) (by simp))
        have hd3 : decide (sl ≤ gj) = false := decide_eq_false (by omega)
        have hd4 : (gj : Int) < (sl : Int) := by omega
        have hglt : gb < wr.heap.size := HLK.out.by_.sent.lt hsA
        have hllt : l < wr.heap.size := HLK.out.blk.lt
        have hgjI : (0 : Int) ≤ (gj : Int) := by omega
        have HGJ := Lib.hid hgj; have HSL := Lib.hid hsl; have HE1 := Lib.hid e1; have HSA := Lib.hid hsA
        clear hgj hsl e1 e2 hbx hgb hsA
        go_wp2_with fail
        go_quiet (fail)
        go_wp2_with fail
        obtain ⟨W2, hW2⟩ : ∃ W2, W2 = (wr.drewN nq).drew := ⟨_, rfl⟩
        have stD : Step [] wr or W2 or := by rw [hW2]; exact ((Step.refl [] wr or).drewN nq).drew
        have HL2 := Lib.hid (HLK.out.onC HP.out hs HSS.out stD (by simp) (HLK.out.ax.c.step stD (by simp) (by simp) (by simp) (by simp)))
        have HST2 := Lib.hid (HST.out.trans stD.nil)
        have HMS2 := Lib.hid (HMS.out.step stD (by simp) (by simp))
        have cv2 : (convert 41 9 (.slice XA xl xc)).run Try.prog W2 = .ok (.string ⟨x.toArray⟩) W2 := conv_bytes W2 or _ XA xl xc x (HXS.out.step stD (by simp))
        have lk : W2.cell? ⟨l, s * 4 + 2, none⟩ = some (.slice v1.gA gj v1.gc) := by rw [hW2]; exact m1
        refine wp_region_till (S0 := fun w' => w'.cell? ⟨l, s * 4 + 2, none⟩ = some (.slice v1.gA gj v1.gc)) (st := 8) (by kernel_rfl) ?_
        change wpAnyG _ _ _ _ _ _ _ _ _ (World.drew _)
        rw [← hW2]
        clear hW2 stD HLK HST HMS HXS cv m1 m2 hca hcb
        refine wpAnyG_take (i := 0) (v := ?_) rfl (by kernel_rfl) (by kernel_rfl) (by kernel_rfl) (by kernel_rfl) (fun _ _ _ h => h) (Or.inl ⟨by rfl, ?_⟩) ((.inr lk)) ?_
        rotate_left
        · intro w' _; go_simp; try with_reducible rfl
        try simp only [Act.put, List.getElem_toArray, List.getElem_cons_zero, List.setIfInBounds_toArray, List.set_cons_zero, List.set_cons_succ]
        refine wpAnyG_take (i := 1) (v := ?_) rfl (by kernel_rfl) (by kernel_rfl) (by kernel_rfl) (by kernel_rfl) (fun _ _ _ h => h) (Or.inl ⟨by rfl, ?_⟩) ((.inr lk)) ?_
        rotate_left
        · intro w' _; go_simp; try with_reducible rfl
        try simp only [Act.put, List.getElem_toArray, List.getElem_cons_zero, List.getElem_cons_succ, List.setIfInBounds_toArray, List.set_cons_zero, List.set_cons_succ]
        refine wpAnyG_take (i := 2) (v := ?_) rfl (by kernel_rfl) (by kernel_rfl) (by kernel_rfl) (by kernel_rfl) (fun _ _ _ h => h) (Or.inl ⟨by rfl, ?_⟩) ((.inr lk)) ?_
        rotate_left
        · intro w' _; go_simp; try with_reducible rfl
        try simp only [Act.put, List.getElem_toArray, List.getElem_cons_zero, List.getElem_cons_succ, List.setIfInBounds_toArray, List.set_cons_zero, List.set_cons_succ]
        refine wpAnyG_take (i := 3) (v := ?_) rfl (by kernel_rfl) (by kernel_rfl) (by kernel_rfl) (by kernel_rfl) (fun _ _ _ h => h) (Or.inl ⟨by rfl, ?_⟩) ((.inr lk)) ?_
        rotate_left
        · intro w' _; go_simp; try with_reducible rfl
        try simp only [Act.put, List.getElem_toArray, List.getElem_cons_zero, List.getElem_cons_succ, List.setIfInBounds_toArray, List.set_cons_zero, List.set_cons_succ]
        refine wpAnyG_load (i := 4) (v := ?_) rfl rfl (by kernel_rfl) (by kernel_rfl) (by kernel_rfl) (by kernel_rfl) (by kernel_rfl) (by kernel_rfl) (fun _ _ _ h => h) (Or.inl ⟨by rfl, ?_⟩) (lk) ?_
        rotate_left
        · intro w' hSw; go_simp; try with_reducible rfl
        try simp only [Act.put, List.getElem_toArray, List.getElem_cons_zero, List.getElem_cons_succ, List.setIfInBounds_toArray, List.set_cons_zero, List.set_cons_succ]
        refine wpAnyG_take (i := 5) (v := ?_) rfl (by kernel_rfl) (by kernel_rfl) (by kernel_rfl) (by kernel_rfl) (fun _ _ _ h => h) (Or.inl ⟨by rfl, ?_⟩) ((.inr lk)) ?_
        rotate_left
        · intro w' _; go_simp; try with_reducible rfl
        try simp only [Act.put, List.getElem_toArray, List.getElem_cons_zero, List.getElem_cons_succ, List.setIfInBounds_toArray, List.set_cons_zero, List.set_cons_succ]
        refine wpAnyG_ready (rs := [6]) (by kernel_rfl) (by simp) ?_
        refine AllReadyG.cons rfl (fun K hK => ?_) AllReadyG.nil
        go_simp
        refine hK.out _ _ (.inr lk) ?_
        clear hK K
        refine wpAnyG_ready (rs := [7]) (by kernel_rfl) (by simp) ?_
        refine AllReadyG.cons rfl (fun K hK => ?_) AllReadyG.nil
        go_simp
        refine hK.out _ _ (.inr (by rw [← HE1.out]; exact (((HL2.out.blk.alloc _).cell (s * 4 + 2)).trans HL2.out.x.c2))) ?_
        clear hK K
        have sN := (Step.refl [] W2 or).alloc (.cells #[.string ⟨x.toArray⟩] 9) 39
        have HN := Lib.hid (Row.made (w := W2) or 39 9 1 #[.string ⟨x.toArray⟩] 1 rfl (by decide) 1 (Nat.le_refl _)).sl
        have hgr := HL2.out.ax.got
        dsimp only at hgr
        rw [HE1.out] at hgr
        have HRN := Lib.hid (hgr.step sN (by simp))
        have HSN := Lib.hid sN
        have HMSN := Lib.hid (HMS2.out.step sN (by simp) (by simp))
        clear sN lk cv2 hgr HMS2
        have hgjb : gj ≤ 200000 := by have := HD.out; have h5 := HGJ.out; have h6 := HSL.out; have h7 := HL.out; have h8 := HL2.out.by_.sent.len; rw [strs_len, Nat.mul_one] at h8; omega
        refine wpAnyG_ready (rs := [8]) (by kernel_rfl) (by simp) ?_
        refine AllReadyG.cons rfl (fun K hK => ?_) AllReadyG.nil
        refine step_append_row rfl (.tmp 85) (.tmp 88) _ rfl el_str _ (33 + s) v1.gA gj v1.gc _ rfl HRN.out _ 39 _ 1 1 [.string ⟨x.toArray⟩] rfl HN.out (by simp [Value.oneCell']) (by omega) (by simp only [maxLen]; omega) ?_
        intro A2 c2 w6 hr6 hg6 hat6
        have sA := Step.append HRN.out hg6 (33 + s)
        have HST6 := Lib.hid ((HSN.out.mono (ts' := [33 + s, 39]) (by simp)).trans (sA.mono (by simp)))
        have HMS6 := Lib.hid (HMSN.out.step sA (by simp; omega) (fun i => by have := hTlow.m i; simp; omega))
        have HR6 := Lib.hid hr6
        clear hr6 hg6 hat6 sA HMSN
        refine hK.out _ _ (.inl rfl) ?_
        clear hK K
        refine wpAnyG_ready (rs := [9]) (by kernel_rfl) (by simp) ?_
        refine AllReadyG.cons rfl (fun K hK => ?_) AllReadyG.nil
        go_simp
        refine hK.out _ _ (.inl rfl) ?_
        clear hK K
        refine wpAnyG_ready (rs := [10]) (by kernel_rfl) (by simp) ?_
        refine AllReadyG.cons rfl (fun K hK => ?_) AllReadyG.nil
        go_simp
        refine hK.out _ _ (.inl rfl) ?_
        clear hK K
        have z0 := (HL2.out.blk.step HST6.out (by rw [HL2.out.ol]; simp; omega)).frozen (s * 4 + 2)
        have z1 := (HL2.out.blk.step HST6.out (by rw [HL2.out.ol]; simp; omega)).cell (s * 4 + 2)
        rw [HL2.out.x.c2] at z1
        refine wpAnyG_ready (rs := [11]) (by kernel_rfl) (by simp) ?_
        refine AllReadyG.cons rfl (fun K hK => ?_) AllReadyG.nil
        go_simp
        refine hK.out _ _ (.inl rfl) ?_
        clear hK K
        refine wpAnyG_done (by kernel_rfl) ?_ _
        clear z0 z1
        have hR7 := HR6.out
        rw [← strs_snoc] at hR7
        obtain ⟨hL7, st7⟩ := HL2.out.onGot HP.out hs HSS.out HST6.out hR7
        obtain ⟨W7, hW7⟩ : ∃ W7, W7 = w6.setCell ⟨l, s * 4 + 2, none⟩ (.slice A2 (gj + 1) c2) := ⟨_, rfl⟩
        have hol6 : (ext (ext or W2.heap.size 39) (W2.alloc (.cells #[.string ⟨x.toArray⟩] 9)).heap.size (33 + s)) l = 30 := (HST6.out.own _ HL2.out.blk.lt).trans HL2.out.ol
        have hMS7 := HMS6.out.step ((Step.refl [30] w6 _).setCell (p := ⟨l, s * 4 + 2, none⟩) (.inr (List.mem_singleton.2 hol6)) (.slice A2 (gj + 1) c2)) (by simp) (fun i => by have := hTlow.m i; simp; omega)
        rw [← hW7] at hL7 st7 hMS7 ⊢
        have hJ7 : TakesJ w o l s s' T U a b t u c1 nx (some ⟨ga, 0, none⟩) dl lc vs D (j + 1) W7 := by
          have e : a.got ++ List.take (j + 1) D = (a.got ++ List.take j D) ++ [x] := by
            rw [List.take_add_one, HX.out]; simp
          dsimp only at hL7
          rw [← e] at hL7
          exact ⟨_, _, _, hL7, hMS7, (HST2.out.trans (st7.mono (by simp)))⟩
        have HJ7 := Lib.hid hJ7
        clear hJ7 hL7 st7 hMS7 hW7 hR7 HR6 HST6 HSN HRN HN hol6
        go_wp2_with fail
        go_roundw
        case rel => exact ⟨j + 1, by omega, by go_num, rfl, HJ7⟩
        case measure => simp [intOf]; omega
      · have hd : decide ((j : Int) < (dl : Int)) = false := decide_eq_false (by omega)
        obtain rfl : j = dl := by omega
        obtain ⟨or, v1, cells1, hL, hM, hst⟩ := HJ.out.ex
        rw [List.take_of_length_le (by rw [← HDL.out]; exact Nat.le_refl _)] at hL
        obtain ⟨gn, hgn⟩ : ∃ k, k = v1.gn := ⟨_, rfl⟩
        obtain ⟨sl, hsl⟩ : ∃ k, k = u.sn := ⟨_, rfl⟩
        obtain ⟨wn, hwn⟩ : ∃ k, k = waitS b.c := ⟨_, rfl⟩
        have e1 : gn = a.got.length + D.length := by
          have := hL.ax.got.len
          rw [strs_len, Nat.mul_one] at this
          dsimp only at this
          rw [List.length_append] at this
          omega
        have e2 : sl = b.sent.length := by
          have := hL.by_.sent.len
          rw [strs_len, Nat.mul_one] at this
          omega
        have m0 : wr.cell? ⟨l, s * 4, none⟩ = some (.pointer (some ⟨v1.b, 0, none⟩)) := (hL.blk.cell (s * 4)).trans hL.x.c0
        have m1 : wr.cell? ⟨l, s * 4 + 2, none⟩ = some (.slice v1.gA gn v1.gc) := by rw [hgn]; exact (hL.blk.cell (s * 4 + 2)).trans hL.x.c2
        have m2 : wr.cell? ⟨l, s' * 4, none⟩ = some (.pointer (some ⟨u.b, 0, none⟩)) := (hL.blk.cell (s' * 4)).trans hL.y.c0
        have m3 : wr.cell? ⟨l, s' * 4 + 1, none⟩ = some (.slice u.sA sl u.sc) := by rw [hsl]; exact (hL.blk.cell (s' * 4 + 1)).trans hL.y.c1
        have hdv : ∀ q, Calls Try.prog 36 #[.pointer (some ⟨v1.b, 0, none⟩)] (wr.drewN q) fun e w' => e = .returned (.int .i64 gn) ∧ w' = wr.drewN q := fun q => by
          refine (Delivered_ok (hL.ax.c.step ((Step.refl [] wr or).drewN q) (by simp) (by simp) (by simp) (by simp))).mono ?_
          rintro e w' ⟨he, rfl⟩
          have : (({ a with c := c1, got := a.got ++ D } : CSide).c.next) = gn := by rw [e1]; exact HN.out
          rw [this] at he
          exact ⟨he, rfl⟩
        have hwt : ∀ q, Calls Try.prog 31 #[.pointer (some ⟨u.b, 0, none⟩)] (wr.drewN q) fun e w' => e = .returned (.int .i64 wn) ∧ w' = wr.drewN q := fun q => by
          refine (Waiting_ok (hL.by_.c.step ((Step.refl [] wr or).drewN q) (by simp) (by simp) (by simp) (by simp))).mono ?_
          rintro e w' ⟨he, rfl⟩
          rw [← hwn] at he
          exact ⟨he, rfl⟩
        have hw2 : 0 < wn ∨ (¬ 0 < wn ∧ gn = sl) := by
          rcases Nat.lt_or_ge 0 wn with q | q
          · exact .inl q
          · rcases HW.out with q2 | q2
            · omega
            · exact .inr ⟨by omega, by omega⟩
        have hllt : l < wr.heap.size := hL.blk.lt
        have HDV := Lib.hid hdv; have HWT := Lib.hid hwt; have HLK := Lib.hid hL; have HST := Lib.hid hst
        clear hdv hwt hL hM hst hgn hsl hwn e1 e2
        rcases hw2 with hw2 | ⟨hw2, hw3⟩
        · have hd5 : decide (0 < wn) = true := decide_eq_true hw2
          go_wp2_with fail
          go_quiet (first | (go_at_call 36; with_reducible exact Calls.quiet_of_same (HDV.out _)) | (go_at_call 31; with_reducible exact Calls.quiet_of_same (HWT.out _)))
          go_wp2_with fail
          go_ret
          have st9 := (Step.refl [] wr or).drewN nq
          exact ⟨rfl, or, v1, cells1, HST.out.trans st9.nil, HLK.out.high HP.out.ok.2 HP.out.swap.ok.2 st9 (by simp) hs (by omega)⟩
        · subst hw3
          have hd5 : decide (0 < wn) = false := decide_eq_false hw2
          go_wp2_with fail
          go_quiet (first | (go_at_call 36; with_reducible exact Calls.quiet_of_same (HDV.out _)) | (go_at_call 31; with_reducible exact Calls.quiet_of_same (HWT.out _)))
          go_wp2_with fail
          go_ret
          have st9 := (Step.refl [] wr or).drewN nq
          exact ⟨rfl, or, v1, cells1, HST.out.trans st9.nil, HLK.out.high HP.out.ok.2 HP.out.swap.ok.2 st9 (by simp) hs (by omega)⟩
  · obtain ⟨wr, hwr⟩ : ∃ wr, wr = w1 := ⟨_, rfl⟩
    rw [← hwr] at HJ ⊢
    clear hwr
    rw [q0] at HJ
    have hdl0 : D.length = 0 := by rw [← HDL.out]; exact q0
    subst q0
    have HJ : Hid (TakesJ w o l s s' T U a b t u c1 nx LA 0 lc vs D 0 wr) := HJ
    rcases q1 with rfl | rfl
    all_goals
      go_wp2_with fail
      refine wp_loop_rounds 1 ?_
      rw [rounds_succ]
      go_wp2_with fail
      obtain ⟨or, v1, cells1, hL, hM, hst⟩ := HJ.out.ex
      rw [List.take_of_length_le (by rw [← HDL.out]; exact Nat.le_refl _)] at hL
      obtain ⟨gn, hgn⟩ : ∃ k, k = v1.gn := ⟨_, rfl⟩
      obtain ⟨sl, hsl⟩ : ∃ k, k = u.sn := ⟨_, rfl⟩
      obtain ⟨wn, hwn⟩ : ∃ k, k = waitS b.c := ⟨_, rfl⟩
      have e1 : gn = a.got.length + D.length := by
        have := hL.ax.got.len
        rw [strs_len, Nat.mul_one] at this
        dsimp only at this
        rw [List.length_append] at this
        omega
      have e2 : sl = b.sent.length := by
        have := hL.by_.sent.len
        rw [strs_len, Nat.mul_one] at this
        omega
      have m0 : wr.cell? ⟨l, s * 4, none⟩ = some (.pointer (some ⟨v1.b, 0, none⟩)) := (hL.blk.cell (s * 4)).trans hL.x.c0
      have m1 : wr.cell? ⟨l, s * 4 + 2, none⟩ = some (.slice v1.gA gn v1.gc) := by rw [hgn]; exact (hL.blk.cell (s * 4 + 2)).trans hL.x.c2
      have m2 : wr.cell? ⟨l, s' * 4, none⟩ = some (.pointer (some ⟨u.b, 0, none⟩)) := (hL.blk.cell (s' * 4)).trans hL.y.c0
      have m3 : wr.cell? ⟨l, s' * 4 + 1, none⟩ = some (.slice u.sA sl u.sc) := by rw [hsl]; exact (hL.blk.cell (s' * 4 + 1)).trans hL.y.c1
      have hdv : ∀ q, Calls Try.prog 36 #[.pointer (some ⟨v1.b, 0, none⟩)] (wr.drewN q) fun e w' => e = .returned (.int .i64 gn) ∧ w' = wr.drewN q := fun q => by
        refine (Delivered_ok (hL.ax.c.step ((Step.refl [] wr or).drewN q) (by simp) (by simp) (by simp) (by simp))).mono ?_
        rintro e w' ⟨he, rfl⟩
        have : (({ a with c := c1, got := a.got ++ D } : CSide).c.next) = gn := by rw [e1]; exact HN.out
        rw [this] at he
        exact ⟨he, rfl⟩
      have hwt : ∀ q, Calls Try.prog 31 #[.pointer (some ⟨u.b, 0, none⟩)] (wr.drewN q) fun e w' => e = .returned (.int .i64 wn) ∧ w' = wr.drewN q := fun q => by
        refine (Waiting_ok (hL.by_.c.step ((Step.refl [] wr or).drewN q) (by simp) (by simp) (by simp) (by simp))).mono ?_
        rintro e w' ⟨he, rfl⟩
        rw [← hwn] at he
        exact ⟨he, rfl⟩
      have hw2 : 0 < wn ∨ (¬ 0 < wn ∧ gn = sl) := by
        rcases Nat.lt_or_ge 0 wn with q | q
        · exact .inl q
        · rcases HW.out with q2 | q2
          · omega
          · exact .inr ⟨by omega, by omega⟩
      have hllt : l < wr.heap.size := hL.blk.lt
      have HDV := Lib.hid hdv; have HWT := Lib.hid hwt; have HLK := Lib.hid hL; have HST := Lib.hid hst
      clear hdv hwt hL hM hst hgn hsl hwn e1 e2
      rcases hw2 with hw2 | ⟨hw2, hw3⟩
      · have hd5 : decide (0 < wn) = true := decide_eq_true hw2
        go_wp2_with fail
        go_quiet (first | (go_at_call 36; with_reducible exact Calls.quiet_of_same (HDV.out _)) | (go_at_call 31; with_reducible exact Calls.quiet_of_same (HWT.out _)))
        go_wp2_with fail
        go_ret
        have st9 := (Step.refl [] wr or).drewN nq
        exact ⟨rfl, or, v1, cells1, HST.out.trans st9.nil, HLK.out.high HP.out.ok.2 HP.out.swap.ok.2 st9 (by simp) hs (by omega)⟩
      · subst hw3
        have hd5 : decide (0 < wn) = false := decide_eq_false hw2
        go_wp2_with fail
        go_quiet (first | (go_at_call 36; with_reducible exact Calls.quiet_of_same (HDV.out _)) | (go_at_call 31; with_reducible exact Calls.quiet_of_same (HWT.out _)))
        go_wp2_with fail
        go_ret
        have st9 := (Step.refl [] wr or).drewN nq
        exact ⟨rfl, or, v1, cells1, HST.out.trans st9.nil, HLK.out.high HP.out.ok.2 HP.out.swap.ok.2 st9 (by simp) hs (by omega)⟩
end Go.Proofs.Ythjjipcbpmdfnaa

/- WALKS of body, chosen (for an op that does not spoil), step. -/
namespace Go.Proofs.Ythjjipcbpmdfnaa
open Go.RowKit

/-- An op of a script. -/
structure OpV where
  K : Nat
  S : Nat
  T : Nat
  B : List UInt8
abbrev opCells (K S T : Nat) (BA : Option Addr) (bn bc : Nat) : Array Value := #[.int .u8 K, .int .u8 S, .int .u8 T, .slice BA bn bc]

theorem run_headA (P : Program) (t e : TypeId) (z : Value) (sz b : Nat) (hu : P.underlying t = some (.slice e)) (hs : (P.info? e).map (fun i => (i.zero, i.size, i.bytes)) = some (some z, sz, b)) (A : Option Addr) (n c k : Nat) (hk : k ≤ c) (W : World) :
    (Instr.slice t (.slice A n c) none (some (.int .i64 (k : Int))) none).run P W = .ok (.slice A k c) W := run_headC P t e z sz b hu hs A n c k hk W

set_option maxHeartbeats 1000000 in
theorem opbody_any (w : World) (o : Own) (τ : Nat) (K S T : Nat) (BA : Option Addr) (bn bc : Nat) (B : List UInt8) (hB : Sl w o τ 1 BA bn bc (byts B)) :
    Calls Try.prog 15 #[.agg (opCells K S T BA bn bc)] w fun e w' => e = .returned (.slice BA (B.take 1100).length bc) ∧ Below w.heap.size w w' := by
  have hl : B.length = bn := by have := hB.1; simpa using this
  have hc := hB.2.1
  obtain ⟨m, hm⟩ : ∃ m, m = (B.take 1100).length := ⟨_, rfl⟩
  have hm2 : m = min bn 1100 := by rw [hm, List.length_take]; omega
  have hmn : ∀ W : World, (Builtin.min_ #[3, 3] 3 #[.int .i64 (bn : Int), .int .i64 1100]).run Try.prog W = .ok (.int .i64 (m : Int)) W := fun W => run_minI (P := Try.prog) W #[3, 3] 3 (bn : Int) 1100 (m : Int) (by omega)
  have hmb : m ≤ bn := by omega
  have hA1 := run_headA Try.prog 41 5 (.int .u8 0) 1 1 Try.underlying41 (by kernel_rfl) BA bn bc m (by omega)
  rw [← hm]
  have hbx := Blk.new w 43 (opCells K S T BA bn bc)
  have q3 := hbx.cell 3
  simp only [opCells, List.getElem?_toArray, List.getElem?_cons_zero, List.getElem?_cons_succ] at q3
  clear hm hB hm2 hl hbx
  go_enter Try.func15, Try.ntmps15
  go_wp2_with fail
  go_ret
  exact ⟨rfl, (Below.refl _ _).alloc (Nat.le_refl _) _⟩

/-- What 'chosen' comes to. -/
def ChosenTo (w : World) (o : Own) (T : Nat) (ps : List (List UInt8)) (e : Ending) (w' : World) : Prop :=
  ∃ o', Step [] w o w' o' ∧ ((ps = [] ∧ e = .returned (.tuple #[.slice none 0 0, .bool false])) ∨
    ∃ p A' c', ps[ps.length - 1 - T % ps.length]? = some p ∧ e = .returned (.tuple #[.slice A' p.length c', .bool true]) ∧ Sl w' o' 38 1 A' p.length c' (byts p))

set_option maxRecDepth 100000 in
set_option maxHeartbeats 2000000 in
theorem chosen_any (w : World) (o : Own) (τ π K S T : Nat) (hK : K < 256) (hT : T < 256) (hk5 : K % 6 ≠ 5) (BA MA : Option Addr) (bn bc mn mc : Nat) (ps : List (List UInt8)) (hM : MadeC w o τ π MA mn mc ps) (hpl : ∀ p ∈ ps, p.length ≤ 100000) (hps : ps.length ≤ 100000) :
    Calls Try.prog 23 #[.agg #[.int .u8 K, .int .u8 S, .int .u8 T, .slice BA bn bc], .slice MA mn mc] w (ChosenTo w o T ps) := by
  obtain ⟨vs, hr, hl, hp⟩ := hM
  have hmn : mn = ps.length := by have := hr.len; omega
  have t1 : (((K : Int) % 6) == 5) = false := by simp; omega
  by_cases h0 : mn = 0
  · have hps0 : ps = [] := List.length_eq_zero_iff.1 (by omega)
    subst h0
    have HPS := Lib.hid hps0; clear hr hp hmn hl hps0
    go_enter Try.func23, Try.ntmps23
    go_wp2_with fail
    go_ret2
    exact ⟨_, (Step.refl [] w o).alloc _ 0, .inl ⟨HPS.out, rfl⟩⟩
  · obtain ⟨j, hj⟩ : ∃ j, j = mn - 1 - T % mn := ⟨_, rfl⟩
    have hjl : j < mn := by omega
    have hji : (mn : Int) - 1 - (T : Int) % (mn : Int) = (j : Int) := by
      have : T % mn < mn := Nat.mod_lt _ (by omega)
      have e : (T : Int) % (mn : Int) = ((T % mn : Nat) : Int) := by simp
      rw [e]; omega
    obtain ⟨p, hpj⟩ : ∃ p, ps[j]? = some p := ⟨ps[j]'(by omega), List.getElem?_eq_getElem _⟩
    obtain ⟨A', c', hv, hsl⟩ := hp j p hpj
    obtain ⟨n', hnp⟩ : ∃ n', n' = p.length := ⟨_, rfl⟩
    rw [← hnp] at hv hsl
    have hpb : p.length ≤ 100000 := hpl p (List.mem_of_getElem? hpj)
    obtain ⟨g, hMA, hog, hc, -⟩ := hr.at_ hjl
    subst hMA
    have d0 := hc.trans hv
    have hglt : g < w.heap.size := hr.lt rfl
    have hst := (((Step.refl [] w o).alloc (.cells #[.int .u8 K, .int .u8 S, .int .u8 T, .slice BA bn bc] 43) 0))
    have hst2 := hst.alloc (.cells #[] 5) 38
    have hr0 := Row.made (w := w.alloc (.cells #[.int .u8 K, .int .u8 S, .int .u8 T, .slice BA bn bc] 43)) (ext o w.heap.size 0) 38 5 1 #[] 0 rfl (by decide) 0 (Nat.le_refl _)
    rw [World.size_alloc] at hr0 hst2
    have hs1 := hsl.step hst2 (by simp)
    have hpp : ps[ps.length - 1 - T % ps.length]? = some p := by rw [← hmn, ← hj]; exact hpj
    have HST := Lib.hid hst2; have HR := Lib.hid hr0; have HS := Lib.hid hs1; have HPP := Lib.hid hpp; have HNP := Lib.hid hnp
    have hnb : n' ≤ 100000 := by omega
    have hmb : mn ≤ 100000 := by omega
    have hm0 : (mn : Int) ≠ 0 := by omega
    clear hst hst2 hr0 hs1 hpp hr hp hl hc hv hsl hpj hj hnp hmn
    go_enter Try.func23, Try.ntmps23
    go_wp2_with (at_builtin; refine wpList_append_row _ rfl (.tmp 22) (.tmp 35) _ rfl el_byte _ 38 _ 0 0 _ rfl HR.out _ π _ n' _ (byts p) rfl HS.out (one_byts _) (by omega) (by simp only [maxLen]; omega) ?_; intro A' c' w1 hR1 hg hat; have q0 := (((Blk.new w 43 #[.int .u8 K, .int .u8 S, .int .u8 T, .slice BA bn bc]).alloc (.cells #[] 5)).grown hg (by simp [Value.ownBlock])).cell 0; simp only [List.getElem?_toArray, List.getElem?_cons_zero] at q0; have HR1 := Lib.hid hR1; have HG := Lib.hid hg; clear hR1 hg hat)
    go_ret2
    have hR2 := HR1.out
    have hst3 := HST.out.grown HG.out (fun k hk => .inl (by simp [Value.ownBlock] at hk; omega)) 38
    refine ⟨_, hst3, .inr ⟨p, A', c', HPP.out, ?_, ?_⟩⟩
    · rw [HNP.out]; rfl
    · have := hR2.sl
      rw [HNP.out, Nat.zero_add] at this
      simpa using this
end Go.Proofs.Ythjjipcbpmdfnaa

/- WALK of step. -/
namespace Go.Proofs.Ythjjipcbpmdfnaa
open Go.RowKit

def StepToC (w : World) (o : Own) (l s s' : Nat) (T U : ChT) (u : CV) (R : CSide × CSide × Int) (e : Ending) (w' : World) : Prop :=
  e = .returned (.bool true) ∧ ∃ o' v' cells', Step [T.τ, T.τe, 30, 31 + s, 33 + s, 35 + s, 39, 40] w o w' o' ∧ LinkC w' o' l s s' T U R.1 R.2.1 R.2.2 v' u cells'
theorem StepToC.after {w w1 w' : World} {o o1 : Own} {l s s' : Nat} {T U : ChT} {u : CV} {R : CSide × CSide × Int} {e : Ending} (hst : Step [] w o w1 o1) (h : StepToC w1 o1 l s s' T U u R e w') : StepToC w o l s s' T U u R e w' := by
  obtain ⟨he, o', v, cells, h1, h2⟩ := h
  exact ⟨he, o', v, cells, hst.nil.trans h1, h2⟩

theorem take_self (B : List UInt8) (n : Nat) : B.take (B.take n).length = B.take n := by
  rw [List.length_take]
  rcases Nat.le_total n B.length with h | h
  · rw [Nat.min_eq_left h]
  · rw [Nat.min_eq_right h, List.take_length, List.take_of_length_le h]
/-- The clock. -/
theorem LinkC.onTick {w : World} {o : Own} {l s s' : Nat} {T U : ChT} {a b : CSide} {t : Int} {v u : CV} {cells : Array Value} (h : LinkC w o l s s' T U a b t v u cells) (hP : Pair T U) (hs : s < 2) (hs' : s' = 1 - s) (t' : Int) :
    LinkC (w.setCell ⟨l, 8, none⟩ (.int .i64 t')) o l s s' T U a b t' v u (cells.setIfInBounds 8 (.int .i64 t')) ∧ Step [30] w o (w.setCell ⟨l, 8, none⟩ (.int .i64 t')) o := by
  have l1 := hP.ok.2.t; have l2 := hP.ok.2.e; have l3 := hP.ok.2.s; have l4 := hP.ok.2.m
  have st : Step [30] w o (w.setCell ⟨l, 8, none⟩ (.int .i64 t')) o := (Step.refl [30] w o).setCell (.inr (by simp [h.ol])) _
  have far : ∀ {i : Nat} {x : Value}, i < 8 → cells[i]? = some x → (cells.setIfInBounds 8 (.int .i64 t'))[i]? = some x := fun hi hx => by rw [Array.getElem?_setIfInBounds_ne (by omega)]; exact hx
  refine ⟨⟨h.blk.set_ _ _, h.ol, by rw [Array.size_setIfInBounds]; exact h.size, ⟨far (by omega) h.x.c0, far (by omega) h.x.c1, far (by omega) h.x.c2, far (by omega) h.x.c3⟩, ⟨far (by omega) h.y.c0, far (by omega) h.y.c1, far (by omega) h.y.c2, far (by omega) h.y.c3⟩, by rw [Array.getElem?_setIfInBounds_self, if_pos (by have := h.size; omega)], ?_, h.by_.other st hP hs hs' (fun x hx => by simp at hx; omega)⟩, st⟩
  exact h.ax.high hP.ok.2 st (fun t hm => .inl (by simpa using hm)) hs

set_option maxRecDepth 100000 in
set_option maxHeartbeats 1000000 in
theorem step_sends {w : World} {o : Own} {l s s' : Nat} {T U : ChT} {a b : CSide} {t : Int} {v u : CV} {cells : Array Value} (h : LinkC w o l s s' T U a b t v u cells) (hP : Pair T U) (hs : s < 2) (hs' : s' = 1 - s) (hf : a.c.Fit) (hl : a.sent.length ≤ 100000)
    (K S T' : Nat) (hK : K < 256) (hS : S < 256) (_hT : T' < 256) (hSs : S % 2 = s) (BA : Option Addr) (bn bc : Nat) (B : List UInt8) (hB : Sl w o 0 1 BA bn bc (byts B)) (hk : K % 6 = 0 ∨ K % 6 = 1) :
    Calls Try.prog 57 #[.pointer (some ⟨l, 0, none⟩), .agg (opCells K S T' BA bn bc)] w (StepToC w o l s s' T U u (a.sd (B.take 1100), b, t)) := by
  have st := (Step.refl [] w o).alloc (.cells (opCells K S T' BA bn bc) 43) 41
  have hbd := opbody_any (w.alloc (.cells (opCells K S T' BA bn bc) 43)) (ext o w.heap.size 41) 0 K S T' BA bn bc B (hB.step st (by simp))
  have bx := Blk.new w 43 (opCells K S T' BA bn bc)
  have b0 := bx.cell 0; have b1 := bx.cell 1; have b2 := bx.cell 2; have b3 := bx.cell 3
  simp only [opCells, List.getElem?_toArray, List.getElem?_cons_zero, List.getElem?_cons_succ] at b0 b1 b2 b3
  have h1 := h.high hP.ok.2 hP.swap.ok.2 st (by simp) hs (by omega)
  have hB1 := hB.step st (by simp)
  have hCl : (B.take 1100).length ≤ bn := by have := hB.1; simp at this; rw [List.length_take]; omega
  have hself := take_self B 1100
  obtain ⟨C, hC⟩ : ∃ C, C = B.take 1100 := ⟨_, rfl⟩
  rw [← hC] at hbd hCl hself ⊢
  clear hC
  have hs2 : (S : Int) % 2 = (s : Int) := by omega
  have hk1 : (K : Int) % 6 = 0 ∨ (K : Int) % 6 = 1 := by omega
  have HCL := Lib.hid hCl; have HSF := Lib.hid hself
  clear hCl hself
  have HP := Lib.hid hP; have HF := Lib.hid hf; have HBD := Lib.hid hbd; have H1 := Lib.hid h1; have HB1 := Lib.hid hB1; have HST := Lib.hid st; have HSS := Lib.hid hs'; have HL := Lib.hid hl
  clear hP hf hbd h1 hB1 st h hB hs' hl hSs hk bx
  rcases hk1 with hk1 | hk1
  all_goals
    go_enter Try.func57, Try.ntmps57
    go_wp2_with fail
    refine HBD.out.mono ?_
    rintro e w1 ⟨rfl, hb1⟩
    have st1 := (Step.refl [] _ (ext o w.heap.size 41)).below hb1 41
    have hsl := (HB1.out.step st1 (by simp)).headB C.length HCL.out
    have h2 := H1.out.high HP.out.ok.2 HP.out.swap.ok.2 st1 (by simp) hs (by have := HSS.out; omega)
    rw [HSF.out] at hsl
    have hsd := sends_any h2 HP.out hs HSS.out HF.out HL.out 0 BA _ bc C hsl (.inl rfl)
    have HSD := Lib.hid hsd; have HST1 := Lib.hid st1
    clear hsd h2 hsl st1 hb1
    go_wp2_with fail
    refine HSD.out.mono ?_
    rintro e w2 ⟨rfl, o2, v2, cells2, hst2, hL2⟩
    have HST2 := Lib.hid hst2; have HL2 := Lib.hid hL2
    clear hst2 hL2
    go_wp2_with fail
    go_ret
    exact StepToC.after (HST.out.trans HST1.out) ⟨rfl, o2, v2, cells2, HST2.out.mono (by simp), HL2.out⟩

set_option maxRecDepth 100000 in
set_option maxHeartbeats 1000000 in
theorem step_none {w : World} {o : Own} {l s s' : Nat} {T U : ChT} {a b : CSide} {t : Int} {v u : CV} {cells : Array Value} (h : LinkC w o l s s' T U a b t v u cells) (hP : Pair T U) (hs : s < 2) (hs' : s' = 1 - s)
    (K S T' : Nat) (hK : K < 256) (hS : S < 256) (_hT : T' < 256) (hSs : S % 2 = s) (BA : Option Addr) (bn bc : Nat) (hk : K % 6 = 5) :
    Calls Try.prog 57 #[.pointer (some ⟨l, 0, none⟩), .agg (opCells K S T' BA bn bc)] w (StepToC w o l s s' T U u (a, b, t)) := by
  have st := (Step.refl [] w o).alloc (.cells (opCells K S T' BA bn bc) 43) 41
  have h1 := h.high hP.ok.2 hP.swap.ok.2 st (by simp) hs (by omega)
  have hs2 : (S : Int) % 2 = (s : Int) := by omega
  have hk1 : (K : Int) % 6 = 5 := by omega
  have H1 := Lib.hid h1; have HST := Lib.hid st
  clear h1 st h hP hSs hk hs'
  go_enter Try.func57, Try.ntmps57
  go_wp2_with fail
  go_ret
  exact ⟨rfl, _, v, cells, HST.out.nil, H1.out⟩
end Go.Proofs.Ythjjipcbpmdfnaa

/- WALK of step: flushing, receiving. -/
namespace Go.Proofs.Ythjjipcbpmdfnaa
open Go.RowKit

set_option maxRecDepth 100000 in
set_option maxHeartbeats 1000000 in
theorem step_flush {w : World} {o : Own} {l s s' : Nat} {T U : ChT} {a b : CSide} {t t2 : Int} {v u : CV} {cells : Array Value} (h : LinkC w o l s s' T U a b t v u cells) (hP : Pair T U) (hs : s < 2) (hs' : s' = 1 - s) (hf : a.c.Fit) (hl : a.made.length ≤ 100000)
    (K S T' : Nat) (hK : K < 256) (hS : S < 256) (hT : T' < 256) (hSs : S % 2 = s) (BA : Option Addr) (bn bc : Nat) (hk : K % 6 = 2) (ht0 : 0 ≤ t) (ht : t ≤ 1000000000) (ht2 : t2 = t + ((T' % 10 : Nat) : Int)) (hn : a.c.e.next ≤ 1999999999998)
    (he : (flushS a.c t2).2.2 = 0) (hP2 : (flushS a.c t2).2.1.length ≤ 1200) :
    Calls Try.prog 57 #[.pointer (some ⟨l, 0, none⟩), .agg (opCells K S T' BA bn bc)] w (StepToC w o l s s' T U u (a.fl t2, b, t2)) := by
  have st := (Step.refl [] w o).alloc (.cells (opCells K S T' BA bn bc) 43) 41
  have bx := Blk.new w 43 (opCells K S T' BA bn bc)
  have h1 := h.high hP.ok.2 hP.swap.ok.2 st (by simp) hs (by omega)
  have hs2 : (S : Int) % 2 = (s : Int) := by omega
  have hk1 : (K : Int) % 6 = 2 := by omega
  obtain ⟨d, hd⟩ : ∃ d : Nat, d = T' % 10 := ⟨_, rfl⟩
  have hd1 : (T' : Int) % 10 = (d : Int) := by omega
  have hd2 : d < 10 := by omega
  have hw1 : IntKind.i64.wrap (d : Int) = (d : Int) := IntWalk.i64_in _ (by omega)
  have hw2 : IntKind.i64.wrap (t + (d : Int)) = t2 := by rw [ht2, ← hd]; exact IntWalk.i64_in _ (by omega)
  have ht3 : t2 ≤ 9223372036854775807 := by omega
  have hne : l ≠ w.heap.size := by have := h.blk.lt; omega
  obtain ⟨W, hW⟩ : ∃ W, W = w.alloc (.cells (opCells K S T' BA bn bc) 43) := ⟨_, rfl⟩
  rw [← hW] at bx h1 st
  have b0 := bx.cell 0; have b1 := bx.cell 1; have b2 := bx.cell 2; have b3 := bx.cell 3
  simp only [opCells, List.getElem?_toArray, List.getElem?_cons_zero, List.getElem?_cons_succ] at b0 b1 b2 b3
  have m8 : W.cell? ⟨l, 8, none⟩ = some (.int .i64 t) := (h1.blk.cell 8).trans h1.tick
  have f8 := h1.blk.frozen 8
  have HP := Lib.hid hP; have HF := Lib.hid hf; have H1 := Lib.hid h1; have HST := Lib.hid st; have HSS := Lib.hid hs'; have HL := Lib.hid hl; have HE := Lib.hid he; have HP2 := Lib.hid hP2; have HN := Lib.hid hn; have HT2 := Lib.hid ht2; have HW := Lib.hid hW; have HD := Lib.hid hd
  clear hP hf h1 st h hs' hl hSs hk bx he hP2 hn ht2 hW hd
  go_enter Try.func57, Try.ntmps57
  go_wp2_with fail
  rw [← HW.out]
  go_region
  obtain ⟨hL2, st2⟩ := H1.out.onTick HP.out hs HSS.out t2
  have stD := (Step.refl [] (W.setCell ⟨l, 8, none⟩ (.int .i64 t2)) (ext o w.heap.size 41)).drew
  have hL3 := hL2.high HP.out.ok.2 HP.out.swap.ok.2 stD (by simp) hs (by have := HSS.out; omega)
  have st3 := st2.trans stD.nil
  generalize (W.setCell ⟨l, 8, none⟩ (.int .i64 t2)).drew = W3 at hL3 st3 ⊢
  clear stD st2 hL2
  have hfl := flushes_any hL3 HP.out hs HSS.out HF.out HL.out ht3 HN.out HE.out HP2.out
  have HFL := Lib.hid hfl; have HST3 := Lib.hid st3
  clear hfl hL3 st3 b0 b1 b2 b3 m8 f8
  go_wp2_with fail
  refine HFL.out.mono ?_
  rintro e w4 ⟨A4, c4, o4, v4, cells4, rfl, hst4, hL4, -⟩
  have HST4 := Lib.hid hst4; have HL4 := Lib.hid hL4
  clear hst4 hL4
  go_wp2_with fail
  go_ret
  exact ⟨rfl, o4, v4, cells4, (HST.out.nil.trans (HST3.out.mono (by simp))).trans (HST4.out.mono (by simp)), HL4.out⟩

set_option maxRecDepth 100000 in
set_option maxHeartbeats 2000000 in
theorem step_takes {w : World} {o : Own} {l s s' : Nat} {T U : ChT} {a b : CSide} {t : Int} {v u : CV} {cells : Array Value} (h : LinkC w o l s s' T U a b t v u cells) (hP : Pair T U) (hs : s < 2) (hs' : s' = 1 - s) (hf : a.c.Fit) (hl : b.sent.length ≤ 100000) (hnw : a.c.e.newest ≤ 1999999900000) (hml : b.made.length ≤ 100000) (hpl : ∀ p ∈ b.made, p.length ≤ 100000)
    (K S T' : Nat) (hK : K < 256) (hS : S < 256) (hT : T' < 256) (hSs : S % 2 = s) (BA : Option Addr) (bn bc : Nat) (hk : K % 6 = 3 ∨ K % 6 = 4)
    (xs : List UInt8) (hxs : b.made[b.made.length - 1 - T' % b.made.length]? = some xs)
    (he : (recvS a.c xs).2.2 = 0 ∨ (((recvS a.c xs).2.2 = 191 ∨ (recvS a.c xs).2.2 = 192) ∧ (recvS a.c xs).2.1 = []))
    (hD : (recvS a.c xs).2.1 = (b.sent.drop a.got.length).take (recvS a.c xs).2.1.length) (hN : (recvS a.c xs).1.next = a.got.length + (recvS a.c xs).2.1.length)
    (hw : 0 < waitS b.c ∨ a.got.length + (recvS a.c xs).2.1.length = b.sent.length) :
    Calls Try.prog 57 #[.pointer (some ⟨l, 0, none⟩), .agg (opCells K S T' BA bn bc)] w (StepToC w o l s s' T U u (a.tk xs, b, t)) := by
  have st := (Step.refl [] w o).alloc (.cells (opCells K S T' BA bn bc) 43) 41
  have bx := Blk.new w 43 (opCells K S T' BA bn bc)
  have h1 := h.high hP.ok.2 hP.swap.ok.2 st (by simp) hs (by omega)
  have hss : (1 : Int) - (s : Int) = (s' : Int) := by omega
  have hsb : s' < 2 := by omega
  have hwr : IntKind.i64.wrap (s' : Int) = (s' : Int) := by rw [IntKind.wrap_i64]; omega
  have hb0 : (0 : Int) ≤ (s' : Int) := by omega
  have hb1 : (s' : Int) < 2 := by omega
  have hs2 : (S : Int) % 2 = (s : Int) := by omega
  have hk1 : (K : Int) % 6 = 3 ∨ (K : Int) % 6 = 4 := by omega
  obtain ⟨W, hW⟩ : ∃ W, W = w.alloc (.cells (opCells K S T' BA bn bc) 43) := ⟨_, rfl⟩
  obtain ⟨oW, hoW⟩ : ∃ oW, oW = ext o w.heap.size 41 := ⟨_, rfl⟩
  rw [← hW] at bx
  rw [← hW, ← hoW] at h1 st
  have b0 := bx.cell 0; have b1 := bx.cell 1; have b2 := bx.cell 2; have b3 := bx.cell 3
  simp only [opCells, List.getElem?_toArray, List.getElem?_cons_zero, List.getElem?_cons_succ] at b0 b1 b2 b3
  have m1 := (h1.blk.cell (s' * 4 + 3)).trans h1.y.c3
  have hup : ∀ w1 o1, Step [] W oW w1 o1 → w1.cell? ⟨w.heap.size, 0, none⟩ = some (.int .u8 K) ∧ w1.cell? ⟨w.heap.size, 1, none⟩ = some (.int .u8 S) ∧ w1.cell? ⟨w.heap.size, 2, none⟩ = some (.int .u8 T') ∧ w1.cell? ⟨w.heap.size, 3, none⟩ = some (.slice BA bn bc) ∧ w1.cell? ⟨l, s' * 4 + 3, none⟩ = some (.slice u.mA u.mn u.mc) := by
    intro w1 o1 h1
    have up : ∀ (a : Addr) (x : Value), W.cell? a = some x → w1.cell? a = some x := fun a x h => (World.cell?_of_block (h1.block a.block (World.block_lt_of_cell? W a h) (by simp))).trans h
    exact ⟨up _ _ b0, up _ _ b1, up _ _ b2, up _ _ b3, up _ _ m1⟩
  have UPC := Lib.hid hup; clear hup
  have hch := chosen_any W.drew oW (35 + s') 37 K S T' hK hT (by omega) BA u.mA bn bc u.mn u.mc b.made (h1.by_.made.step (Step.refl [] W oW).drew (by simp) (by simp)) hpl hml
  obtain ⟨xl, hxl⟩ : ∃ k, k = xs.length := ⟨_, rfl⟩
  have hc : Calls Try.prog 23 #[.agg #[.int .u8 K, .int .u8 S, .int .u8 T', .slice BA bn bc], .slice u.mA u.mn u.mc] W.drew fun e w' => ∃ o' A' c', e = .returned (.tuple #[.slice A' xl c', .bool true]) ∧ Step [] W oW w' o' ∧ Sl w' o' 38 1 A' xl c' (byts xs) := by
    refine hch.mono ?_
    rintro e w' ⟨o', st', h | ⟨p, A', c', h, k1, k2⟩⟩
    · rw [h.1] at hxs; simp at hxs
    · rw [h] at hxs; injection hxs with hxs; subst hxs
      exact ⟨o', A', c', by rw [hxl]; exact k1, (Step.refl [] W oW).drew.trans st', by rw [hxl]; exact k2⟩
  have hxb : xl ≤ 140737488355328 := by have := hpl xs (List.mem_of_getElem? hxs); omega
  have H1 := Lib.hid h1; have HST := Lib.hid st; have HCH := Lib.hid hc; have HW := Lib.hid hW; have HSS := Lib.hid hs'; have HP := Lib.hid hP; have HF := Lib.hid hf; have HL := Lib.hid hl; have HNW := Lib.hid hnw
  have HE := Lib.hid he; have HD := Lib.hid hD; have HN := Lib.hid hN; have HWT := Lib.hid hw; have HOW := Lib.hid hoW; have HXB := Lib.hid hxb
  clear h1 st h hc hch hW hs' hP hf hl hnw he hD hN hw hSs hk bx hoW hpl hml hxs hxl hxb
  rcases hk1 with hk1 | hk1
  all_goals
    go_enter Try.func57, Try.ntmps57
    go_wp2_with fail
    rw [← HW.out]
    go_region_held3 (fun w' => w'.cell? ⟨w.heap.size, 0, none⟩ = some (.int .u8 K) ∧ w'.cell? ⟨w.heap.size, 1, none⟩ = some (.int .u8 S) ∧ w'.cell? ⟨w.heap.size, 2, none⟩ = some (.int .u8 T') ∧ w'.cell? ⟨w.heap.size, 3, none⟩ = some (.slice BA bn bc) ∧ w'.cell? ⟨l, s' * 4 + 3, none⟩ = some (.slice u.mA u.mn u.mc))
      (first | exact ⟨b0, b1, b2, b3, m1⟩ | exact HUP)
      (first | (go_at_call 23; refine HCH.out.mono ?_; rintro e w1 ⟨o1, A1, c1, rfl, st1, sl1⟩; have HUP := UPC.out w1 o1 st1; have ST1 := Lib.hid st1; have HS1 := Lib.hid sl1; clear st1 sl1))
    have h2 := H1.out.high HP.out.ok.2 HP.out.swap.ok.2 ST1.out (by simp) hs hsb
    have htk := takes_any h2 HP.out hs HSS.out HF.out HL.out HNW.out 38 A1 xl c1 xs HS1.out (.inr rfl) HXB.out HE.out HD.out HN.out HWT.out
    have HTK := Lib.hid htk
    clear h2 htk HUP b0 b1 b2 b3 m1
    go_wp2_with fail
    refine HTK.out.mono ?_
    rintro e w4 ⟨rfl, o4, v4, cells4, hst4, hL4⟩
    have HST4 := Lib.hid hst4; have HL4 := Lib.hid hL4
    clear hst4 hL4
    go_wp2_with fail
    go_ret
    exact ⟨rfl, o4, v4, cells4, (HST.out.trans ST1.out).nil.trans HST4.out, HL4.out⟩

set_option maxRecDepth 100000 in
set_option maxHeartbeats 2000000 in
theorem step_takes_none {w : World} {o : Own} {l s s' : Nat} {T U : ChT} {a b : CSide} {t : Int} {v u : CV} {cells : Array Value} (h : LinkC w o l s s' T U a b t v u cells) (hP : Pair T U) (hs : s < 2) (hs' : s' = 1 - s)
    (K S T' : Nat) (hK : K < 256) (hS : S < 256) (hT : T' < 256) (hSs : S % 2 = s) (BA : Option Addr) (bn bc : Nat) (hk : K % 6 = 3 ∨ K % 6 = 4) (hx0 : b.made = []) :
    Calls Try.prog 57 #[.pointer (some ⟨l, 0, none⟩), .agg (opCells K S T' BA bn bc)] w (StepToC w o l s s' T U u (a, b, t)) := by
  have st := (Step.refl [] w o).alloc (.cells (opCells K S T' BA bn bc) 43) 41
  have bx := Blk.new w 43 (opCells K S T' BA bn bc)
  have h1 := h.high hP.ok.2 hP.swap.ok.2 st (by simp) hs (by omega)
  have hss : (1 : Int) - (s : Int) = (s' : Int) := by omega
  have hsb : s' < 2 := by omega
  have hwr : IntKind.i64.wrap (s' : Int) = (s' : Int) := by rw [IntKind.wrap_i64]; omega
  have hb0 : (0 : Int) ≤ (s' : Int) := by omega
  have hb1 : (s' : Int) < 2 := by omega
  have hs2 : (S : Int) % 2 = (s : Int) := by omega
  have hk1 : (K : Int) % 6 = 3 ∨ (K : Int) % 6 = 4 := by omega
  obtain ⟨W, hW⟩ : ∃ W, W = w.alloc (.cells (opCells K S T' BA bn bc) 43) := ⟨_, rfl⟩
  obtain ⟨oW, hoW⟩ : ∃ oW, oW = ext o w.heap.size 41 := ⟨_, rfl⟩
  rw [← hW] at bx
  rw [← hW, ← hoW] at h1 st
  have b0 := bx.cell 0; have b1 := bx.cell 1; have b2 := bx.cell 2; have b3 := bx.cell 3
  simp only [opCells, List.getElem?_toArray, List.getElem?_cons_zero, List.getElem?_cons_succ] at b0 b1 b2 b3
  have m1 := (h1.blk.cell (s' * 4 + 3)).trans h1.y.c3
  have hup : ∀ w1 o1, Step [] W oW w1 o1 → w1.cell? ⟨w.heap.size, 0, none⟩ = some (.int .u8 K) ∧ w1.cell? ⟨w.heap.size, 1, none⟩ = some (.int .u8 S) ∧ w1.cell? ⟨w.heap.size, 2, none⟩ = some (.int .u8 T') ∧ w1.cell? ⟨w.heap.size, 3, none⟩ = some (.slice BA bn bc) ∧ w1.cell? ⟨l, s' * 4 + 3, none⟩ = some (.slice u.mA u.mn u.mc) := by
    intro w1 o1 h1
    have up : ∀ (a : Addr) (x : Value), W.cell? a = some x → w1.cell? a = some x := fun a x h => (World.cell?_of_block (h1.block a.block (World.block_lt_of_cell? W a h) (by simp))).trans h
    exact ⟨up _ _ b0, up _ _ b1, up _ _ b2, up _ _ b3, up _ _ m1⟩
  have UPC := Lib.hid hup; clear hup
  have hch := chosen_any W.drew oW (35 + s') 37 K S T' hK hT (by omega) BA u.mA bn bc u.mn u.mc b.made (h1.by_.made.step (Step.refl [] W oW).drew (by simp) (by simp)) (by rw [hx0]; simp) (by rw [hx0]; simp)
  have hc : Calls Try.prog 23 #[.agg #[.int .u8 K, .int .u8 S, .int .u8 T', .slice BA bn bc], .slice u.mA u.mn u.mc] W.drew fun e w' => e = .returned (.tuple #[.slice none 0 0, .bool false]) ∧ ∃ o', Step [] W oW w' o' := by
    refine hch.mono ?_
    rintro e w' ⟨o', st', h | ⟨p, A', c', h, k1, k2⟩⟩
    · exact ⟨h.2, o', (Step.refl [] W oW).drew.trans st'⟩
    · rw [hx0] at h; simp at h
  have H1 := Lib.hid h1; have HST := Lib.hid st; have HCH := Lib.hid hc; have HW := Lib.hid hW; have HSS := Lib.hid hs'; have HP := Lib.hid hP
  clear h1 st h hc hch hW hs' hP hSs hk bx hoW hx0
  rcases hk1 with hk1 | hk1
  all_goals
    go_enter Try.func57, Try.ntmps57
    go_wp2_with fail
    rw [← HW.out]
    go_region_held3 (fun w' => w'.cell? ⟨w.heap.size, 0, none⟩ = some (.int .u8 K) ∧ w'.cell? ⟨w.heap.size, 1, none⟩ = some (.int .u8 S) ∧ w'.cell? ⟨w.heap.size, 2, none⟩ = some (.int .u8 T') ∧ w'.cell? ⟨w.heap.size, 3, none⟩ = some (.slice BA bn bc) ∧ w'.cell? ⟨l, s' * 4 + 3, none⟩ = some (.slice u.mA u.mn u.mc))
      (first | exact ⟨b0, b1, b2, b3, m1⟩ | exact HUP)
      (first | (go_at_call 23; refine HCH.out.mono ?_; rintro e w1 ⟨rfl, o1, st1⟩; have HUP := UPC.out w1 o1 st1; have ST1 := Lib.hid st1; clear st1))
    have h2 := H1.out.high HP.out.ok.2 HP.out.swap.ok.2 ST1.out (by simp) hs hsb
    have H2 := Lib.hid h2; clear h2
    go_wp2_with fail
    go_ret
    exact ⟨rfl, o1, v, cells, (HST.out.trans ST1.out).nil, H2.out⟩
end Go.Proofs.Ythjjipcbpmdfnaa

/- WALK of played. -/
namespace Go.Proofs.Ythjjipcbpmdfnaa
open Go.RowKit

/-- A step, of the side that acts. -/
def cstep (a b : CSide) (t : Int) (p : OpV) : CSide × CSide × Int :=
  if p.K % 6 < 2 then (a.sd (p.B.take 1100), b, t)
  else if p.K % 6 = 2 then (a.fl (t + ((p.T % 10 : Nat) : Int)), b, t + ((p.T % 10 : Nat) : Int))
  else if p.K % 6 = 5 then (a, b, t)
  else match b.made[b.made.length - 1 - p.T % b.made.length]? with
    | none => (a, b, t)
    | some xs => (a.tk xs, b, t)
/-- A step of a script. -/
def cstepS (a b : CSide) (t : Int) (p : OpV) : CSide × CSide × Int :=
  if p.S % 2 = 0 then cstep a b t p else ((cstep b a t p).2.1, (cstep b a t p).1, (cstep b a t p).2.2)

theorem cstep_inv {own other : Int} {m : Nat} {a b : CSide} {t : Int} (h : CInv own other m a b t) (hm : m < 29000) (h0 : 0 ≤ own) (h1 : own ≤ 1099511627776) (h2 : 0 ≤ other) (h3 : other ≤ 1099511627776) (p : OpV) : CInv own other (m + 1) (cstep a b t p).1 (cstep a b t p).2.1 (cstep a b t p).2.2 := by
  unfold cstep
  split
  · exact h.send hm _
  · split
    · exact (h.flush hm h1 (Nat.mod_lt _ (by decide))).2.2
    · split
      · exact h.mono (Nat.le_succ _)
      · split
        · exact h.mono (Nat.le_succ _)
        · rename_i xs hx
          exact (h.take hm h0 h3 h2 (List.mem_of_getElem? hx)).2.2.2.2
theorem cstepS_inv {own other : Int} {m : Nat} {a b : CSide} {t : Int} (h : CInv own other m a b t) (hm : m < 29000) (h0 : 0 ≤ own) (h1 : own ≤ 1099511627776) (h2 : 0 ≤ other) (h3 : other ≤ 1099511627776) (p : OpV) : CInv own other (m + 1) (cstepS a b t p).1 (cstepS a b t p).2.1 (cstepS a b t p).2.2 := by
  unfold cstepS
  split
  · exact cstep_inv h hm h0 h1 h2 h3 p
  · exact (cstep_inv h.swap hm h2 h3 h0 h1 p).swap

theorem step_side {w : World} {o : Own} {l s s' : Nat} {T U : ChT} {a b : CSide} {t : Int} {v u : CV} {cells : Array Value} (h : LinkC w o l s s' T U a b t v u cells) (hP : Pair T U) (hs : s < 2) (hs' : s' = 1 - s) {own other : Int} {m : Nat} (hI : CInv own other m a b t) (hm : m < 20000) (h0 : 0 ≤ own) (h1 : own ≤ 1099511627776) (h2 : 0 ≤ other) (h3 : other ≤ 1099511627776)
    (p : OpV) (hK : p.K < 256) (hS : p.S < 256) (hT : p.T < 256) (hSs : p.S % 2 = s) (BA : Option Addr) (bn bc : Nat) (hB : Sl w o 0 1 BA bn bc (byts p.B)) :
    Calls Try.prog 57 #[.pointer (some ⟨l, 0, none⟩), .agg (opCells p.K p.S p.T BA bn bc)] w (StepToC w o l s s' T U u (cstep a b t p)) := by
  have z1 := hI.sa; have z2 := hI.sb; have z3 := hI.ma; have z4 := hI.mb; have z5 := hI.t1; have z6 := hI.t0
  unfold cstep
  by_cases k1 : p.K % 6 < 2
  · rw [if_pos k1]
    exact step_sends h hP hs hs' hI.fit (by omega) p.K p.S p.T hK hS hT hSs BA bn bc p.B hB (by omega)
  · rw [if_neg k1]
    by_cases k2 : p.K % 6 = 2
    · rw [if_pos k2]
      obtain ⟨q1, q2, -⟩ := hI.flush (by omega) h1 (d := p.T % 10) (Nat.mod_lt _ (by decide))
      exact step_flush h hP hs hs' hI.fit (by omega) p.K p.S p.T hK hS hT hSs BA bn bc k2 z6 (by omega) rfl (hI.next h1 (by omega)) q1 q2
    · rw [if_neg k2]
      by_cases k3 : p.K % 6 = 5
      · rw [if_pos k3]
        exact step_none h hP hs hs' p.K p.S p.T hK hS hT hSs BA bn bc k3
      · rw [if_neg k3]
        cases hx : b.made[b.made.length - 1 - p.T % b.made.length]? with
        | none =>
          have hb0 : b.made = [] := by
            rcases Nat.eq_zero_or_pos b.made.length with q | q
            · exact List.length_eq_zero_iff.1 q
            · have := List.getElem?_eq_none_iff.1 hx; omega
          exact step_takes_none h hP hs hs' p.K p.S p.T hK hS hT hSs BA bn bc (by omega) hb0
        | some xs =>
          obtain ⟨q1, q2, q3, q4, -⟩ := hI.take (by omega) h0 h3 h2 (List.mem_of_getElem? hx)
          exact step_takes h hP hs hs' hI.fit (by omega) (hI.newest h3 (by omega)) (by omega) (fun q hq => by have := hI.swap.short q hq; omega) p.K p.S p.T hK hS hT hSs BA bn bc (by omega) xs hx q1 q2 q3 q4

/-- All tags that a step may touch. -/
abbrev linkTags : List Nat := [1, 2, 11, 12, 30, 31, 32, 33, 34, 35, 36, 39, 40]
/-- A connection in memory, with what holds of it. -/
structure LinkOkC (w : World) (o : Own) (l : Nat) (own other : Int) (m : Nat) (a b : CSide) (t : Int) : Prop where
  at_ : LinkCAt w o l a b t
  inv : CInv own other m a b t
  o0 : 0 ≤ own
  o1 : own ≤ 1099511627776
  p0 : 0 ≤ other
  p1 : other ≤ 1099511627776
theorem LinkOkC.step {w w' : World} {o o' : Own} {l : Nat} {own other : Int} {m : Nat} {a b : CSide} {t : Int} {ts : List Nat} (h : LinkOkC w o l own other m a b t) (hs : Step ts w o w' o') (ht : ∀ t ∈ ts, 38 ≤ t) : LinkOkC w' o' l own other m a b t := by
  obtain ⟨⟨v, u, cells, h1⟩, h2, h3, h4, h5, h6⟩ := h
  exact ⟨⟨v, u, cells, h1.high T1_low T2_low hs ht (by decide) (by decide)⟩, h2, h3, h4, h5, h6⟩

theorem step_any {w : World} {o : Own} {l : Nat} {own other : Int} {m : Nat} {a b : CSide} {t : Int} (h : LinkOkC w o l own other m a b t) (hm : m < 20000)
    (p : OpV) (hK : p.K < 256) (hS : p.S < 256) (hT : p.T < 256) (BA : Option Addr) (bn bc : Nat) (hB : Sl w o 0 1 BA bn bc (byts p.B)) :
    Calls Try.prog 57 #[.pointer (some ⟨l, 0, none⟩), .agg (opCells p.K p.S p.T BA bn bc)] w fun e w' => e = .returned (.bool true) ∧ ∃ o', Step linkTags w o w' o' ∧ LinkOkC w' o' l own other (m + 1) (cstepS a b t p).1 (cstepS a b t p).2.1 (cstepS a b t p).2.2 := by
  have hin := cstepS_inv h.inv (by omega) h.o0 h.o1 h.p0 h.p1 p
  obtain ⟨⟨v, u, cells, h1⟩, h2, h3, h4, h5, h6⟩ := h
  have hc : p.S % 2 = 0 ∨ p.S % 2 = 1 := by omega
  rcases hc with hc | hc
  · have e : cstepS a b t p = cstep a b t p := by unfold cstepS; rw [if_pos hc]
    rw [e] at hin ⊢
    refine (step_side h1 (.inl ⟨rfl, rfl⟩) (by decide) rfl h2 hm h3 h4 h5 h6 p hK hS hT hc BA bn bc hB).mono ?_
    rintro e w' ⟨rfl, o', v', cells', hst, hL⟩
    exact ⟨rfl, o', hst.mono (by simp [T1]), ⟨⟨v', u, cells', hL⟩, hin, h3, h4, h5, h6⟩⟩
  · have e : cstepS a b t p = ((cstep b a t p).2.1, (cstep b a t p).1, (cstep b a t p).2.2) := by unfold cstepS; rw [if_neg (by omega)]
    rw [e] at hin ⊢
    refine (step_side h1.swap (.inr ⟨rfl, rfl⟩) (by decide) rfl h2.swap hm h5 h6 h3 h4 p hK hS hT hc BA bn bc hB).mono ?_
    rintro e w' ⟨rfl, o', v', cells', hst, hL⟩
    exact ⟨rfl, o', hst.mono (by simp [T2]), ⟨⟨v, v', cells', hL.swap⟩, hin, h3, h4, h5, h6⟩⟩

/-- A script as it came in. -/
def OpsAt (w : World) (o : Own) (τ : Nat) (A : Option Addr) (n c : Nat) (ps : List OpV) : Prop :=
  ps.length = n ∧ n ≤ c ∧ c ≤ maxLen ∧ (0 < n → ∃ g off, A = some ⟨g, off, none⟩ ∧ o g = τ ∧ g < w.heap.size ∧ ∀ (i : Nat) (p : OpV), ps[i]? = some p → p.K < 256 ∧ p.S < 256 ∧ p.T < 256 ∧ ∃ BA bn bc,
    w.cell? ⟨g, off + i * 4, none⟩ = some (.int .u8 p.K) ∧ w.cell? ⟨g, off + i * 4 + 1, none⟩ = some (.int .u8 p.S) ∧ w.cell? ⟨g, off + i * 4 + 2, none⟩ = some (.int .u8 p.T) ∧ w.cell? ⟨g, off + i * 4 + 3, none⟩ = some (.slice BA bn bc) ∧ Sl w o τ 1 BA bn bc (byts p.B) ∧ bn ≤ 9223372036854775807)

theorem OpsAt.step {w w' : World} {o o' : Own} {τ : Nat} {A : Option Addr} {n c : Nat} {ps : List OpV} {ts : List Nat} (h : OpsAt w o τ A n c ps) (hs : Step ts w o w' o') (hτ : τ ∉ ts) : OpsAt w' o' τ A n c ps := by
  obtain ⟨h1, h2, h3, h4⟩ := h
  refine ⟨h1, h2, h3, fun hn => ?_⟩
  obtain ⟨g, off, hA, ho, hg, hp⟩ := h4 hn
  have hb := hs.block g hg (by rw [ho]; exact hτ)
  refine ⟨g, off, hA, (hs.own g hg).trans ho, Nat.lt_of_lt_of_le hg hs.size, fun i p hi => ?_⟩
  obtain ⟨a1, a2, a3, BA, bn, bc, b0, b1, b2, b3, b4, b5⟩ := hp i p hi
  have up : ∀ (k : Nat) (x : Value), w.cell? ⟨g, k, none⟩ = some x → w'.cell? ⟨g, k, none⟩ = some x := fun k x hx => (World.cell?_of_block (a := ⟨g, k, none⟩) hb).trans hx
  exact ⟨a1, a2, a3, BA, bn, bc, up _ _ b0, up _ _ b1, up _ _ b2, up _ _ b3, b4.step hs hτ, b5⟩

/-- A script played. -/
def PlayedTo (w : World) (own other : Int) (k : Nat) (e : Ending) (w' : World) : Prop :=
  ∃ l o' m a b t, e = .returned (.tuple #[.pointer (some ⟨l, 0, none⟩), .bool true]) ∧ m ≤ k ∧ Step linkTags w (fun _ => 0) w' o' ∧ LinkOkC w' o' l own other m a b t

set_option maxRecDepth 100000 in
set_option maxHeartbeats 2000000 in
theorem played_any (w : World) (x y p q : Int) (hx0 : 0 ≤ x) (hx1 : x < 18446744073709551616) (hy0 : 0 ≤ y) (hy1 : y < 18446744073709551616) (hp : p = x % 1099511627777) (hq : q = y % 1099511627777)
    (A : Option Addr) (n c : Nat) (ps : List OpV) (hO : OpsAt w (fun _ => 0) 0 A n c ps) (k : Nat) (hk : k ≤ 1000) :
    Calls Try.prog 30 #[.int .u64 x, .int .u64 y, .slice A n c, .int .i64 k] w (PlayedTo w p q k) := by
  have hp0 : 0 ≤ p := by omega
  have hp1 : p ≤ 1099511627776 := by omega
  have hq0 : 0 ≤ q := by omega
  have hq1 : q ≤ 1099511627776 := by omega
  have hln := linked_any w (fun _ => 0) x y p q hx0 hx1 hy0 hy1 hp hq
  have hnl := hO.1
  have hnm : n ≤ 9223372036854775807 := by have h1 := hO.2.1; have h2 := hO.2.2.1; unfold maxLen at h2; omega
  have HLN := Lib.hid hln; have HO := Lib.hid hO; have HNL := Lib.hid hnl
  have Hp0 := Lib.hid hp0; have Hp1 := Lib.hid hp1; have Hq0 := Lib.hid hq0; have Hq1 := Lib.hid hq1
  clear hln hO hnl hx0 hx1 hy0 hy1 hp hq hp0 hp1 hq0 hq1
  go_enter Try.func30, Try.ntmps30
  go_wp2_with fail
  refine HLN.out.mono ?_
  rintro e w1 ⟨l, o1, rfl, hst1, hL1⟩
  have hok1 : LinkOkC w1 o1 l p q 0 (cnew p q) (cnew q p) 0 := ⟨hL1, cinv_new Hp0.out Hp1.out Hq0.out Hq1.out, Hp0.out, Hp1.out, Hq0.out, Hq1.out⟩
  have HST1 := Lib.hid hst1; have HOK1 := Lib.hid hok1
  clear hst1 hL1 hok1 HLN
  go_wp2_with fail
  go_loopw [12, 11] (fun i r wr => ∃ (j : Nat), j ≤ n ∧ j ≤ k ∧ i = .int .i64 j ∧ r = .bool true ∧ Hid (∃ or a b t, Step linkTags w (fun _ => 0) wr or ∧ LinkOkC wr or l p q j a b t)) (fun i _ _ => n - (intOf i).toNat)
  case atStart => exact ⟨0, Nat.zero_le _, Nat.zero_le _, rfl, rfl, Lib.hid ⟨o1, _, _, _, HST1.out.nil, HOK1.out⟩⟩
  case round => as_aux_lemma =>
    clear HOK1 HST1
    obtain ⟨j, hj, hjk, rfl, rfl, HJ⟩ := hrel
    by_cases hlt : j < n ∧ j < k
    · obtain ⟨or, a, b, t, hst, hok⟩ := HJ.out
      obtain ⟨pv, hpv⟩ : ∃ pv, ps[j]? = some pv := ⟨_, List.getElem?_eq_getElem (by rw [HNL.out]; exact hlt.1)⟩
      obtain ⟨g, off, hA, -, hg, hel⟩ := (HO.out.step hst (by simp)).2.2.2 (by omega)
      subst hA
      obtain ⟨hK, hS, hT, BA, bn, bc, b0, b1, b2, b3, b4, -⟩ := hel j pv hpv
      have hsp := step_any hok (by omega) pv hK hS hT BA bn bc (by rw [show (0 : Nat) = 0 from rfl]; exact b4)
      have HSP := Lib.hid hsp; have HST := Lib.hid hst
      have hd1 : (j : Int) < (n : Int) := by omega
      have hd2 : (j : Int) < (k : Int) := by omega
      have hlt1 := hlt.1; have hlt2 := hlt.2
      clear hsp hst hok hel b4 hpv hlt
      go_wp2_with fail
      refine HSP.out.mono ?_
      rintro e w4 ⟨rfl, o4, hst4, hok4⟩
      have HJ4 : Hid (∃ or a b t, Step linkTags w (fun _ => 0) w4 or ∧ LinkOkC w4 or l p q (j + 1) a b t) := Lib.hid ⟨o4, _, _, _, HST.out.trans hst4, hok4⟩
      clear hst4 hok4 HSP HST b0 b1 b2 b3 hd1 hd2
      go_wp2_with fail
      go_roundw
      case rel => exact ⟨j + 1, by omega, by omega, by go_num, rfl, HJ4⟩
      case measure => simp [intOf]; omega
    · obtain ⟨or, a, b, t, hst, hok⟩ := HJ.out
      have HST := Lib.hid hst; have HOK := Lib.hid hok
      clear hst hok HJ
      by_cases h1 : j < n
      · have hd1 : (j : Int) < (n : Int) := by omega
        have hd2 : decide ((j : Int) < (k : Int)) = false := decide_eq_false (by omega)
        have hd3 : decide (j < k) = false := decide_eq_false (by omega)
        clear hlt
        go_wp2_with fail
        go_ret2
        exact ⟨l, or, j, a, b, t, rfl, hjk, HST.out, HOK.out⟩
      · have hd1 : decide ((j : Int) < (n : Int)) = false := decide_eq_false (by omega)
        have hd3 : decide (j < n) = false := decide_eq_false (by omega)
        clear hlt
        go_wp2_with fail
        go_ret2
        exact ⟨l, or, j, a, b, t, rfl, hjk, HST.out, HOK.out⟩
end Go.Proofs.Ythjjipcbpmdfnaa
