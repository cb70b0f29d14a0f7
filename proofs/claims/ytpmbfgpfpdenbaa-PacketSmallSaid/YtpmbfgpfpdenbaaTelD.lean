/-
  WALK of PacketTells.
-/

import Derived.Test.YtpmbfgpfpdenbaaTelM

import Derived.Deep.DeepCutAuto
import Derived.Lib.QuietBelow
namespace Go.Proofs.Ytpmbfgpfpdenbaa
open Go.RowKit Go.Sort

def endS (own other : Int) : EndS := ⟨own, own, other, other - 1, 0, []⟩
def refS (own other : Int) : RefS := ⟨own, other, own, [], []⟩
theorem endS_fit {own oth : Int} (h0 : 0 ≤ own) (h1 : own ≤ 1099511627776) (h2 : 0 ≤ oth) (h3 : oth ≤ 1099511627776) : (endS own oth).Fit :=
  ⟨h0, Int.le_refl _, by show own ≤ _; omega, h2, Int.le_refl _, by show oth - 1 ≤ _; omega, (show 0 < 4294967296 by decide), (show 0 ≤ 256 by decide), fun n h => by cases h⟩
/-- A side at the start. -/
def tv0 (e : Nat) (own oth : Int) : TV := ⟨e, endS own oth, refS own oth, none, 0, 0, none, 0, 0, none, 0, 0, []⟩
def tvs (e0 e1 : Nat) (own oth : Int) : Nat → TV := fun i => if i = 0 then tv0 e0 own oth else tv0 e1 oth own
theorem tv0_side {W : World} {o : Own} {s e : Nat} {own oth : Int} (hE : EndAt W o (2 + s) e (endS own oth)) (h0 : 0 ≤ own) (h1 : own ≤ 1099511627776) (h2 : 0 ≤ oth) (h3 : oth ≤ 1099511627776) : TSide W o s (tv0 e own oth) 0 :=
  ⟨hE, endS_fit h0 h1 h2 h3, new_ref own oth, Sl.nil_ _ _ _ _ _ _ (Nat.zero_le _), Sl.nil_ _ _ _ _ _ _ (Nat.zero_le _), MadeRow.nil_ _ _ _, fun p h => (by cases h), Nat.le_refl _, Nat.le_refl _, h3, by show own ≤ 1099511627776 + ((0 : Nat) : Int); omega, by show oth - 1 ≤ _; omega⟩
theorem ts_init {w W : World} {o : Own} {e0 e1 : Nat} {own oth : Int} {b : Nat} (hst : Step [21, 22] w (fun _ => 0) W o) (hb0 : Blk W b 51 #[.pointer (some ⟨e0, 0, none⟩), .pointer (some ⟨e1, 0, none⟩)])
    (hb1 : Blk W (b + 1) 54 #[.int .i64 own, .int .i64 oth, .int .i64 own, .slice none 0 0, .slice none 0 0, .int .i64 oth, .int .i64 own, .int .i64 oth, .slice none 0 0, .slice none 0 0]) (hb2 : Blk W (b + 2) 55 #[.slice none 0 0, .slice none 0 0])
    (t0 : o b = 21) (t1 : o (b + 1) = 22) (t2 : o (b + 2) = 23) (hE : EndAt W o 2 e0 (endS own oth)) (hF : EndAt W o 3 e1 (endS oth own)) (h0 : 0 ≤ own) (h1 : own ≤ 1099511627776) (h2 : 0 ≤ oth) (h3 : oth ≤ 1099511627776) : TS w W o b (tvs e0 e1 own oth) 0 := by
  refine ⟨hst.mono (by simp), hb0, hb1, hb2, t0, t1, t2, fun s hs => ?_⟩
  rcases (show s = 0 ∨ s = 1 by omega) with rfl | rfl
  · exact tv0_side hE h0 h1 h2 h3
  · exact tv0_side hF h2 h3 h0 h1
/-- 'same' of a side, in every world of the class that a drawn region reaches. -/
theorem same_at {w W : World} {o : Own} {b s k : Nat} {v : Nat → TV} (h : TS w W o b v k) (hs : s < 2) (hk : k ≤ 1000) (dd : Nat) (os : Array Obj) :
    Calls Try.prog 33 #[.pointer (some ⟨(v s).e, 0, none⟩), .agg #[.int .i64 (v s).r.own, .int .i64 (v s).r.other, .int .i64 (v s).r.next, .slice (v s).PA (v s).pn (v s).pc, .slice (v s).GA (v s).gn (v s).gc]] (grow (redrawn W dd) os) fun e w' => e = .returned (.bool true) ∧ ∃ p : Regrown, w' = grow (redrawn W p.d) p.os := by
  have hb := (Step.refl [] W o).below (below_regrown W dd os) 30
  have hS := (h.S s hs)
  have hS' := hS.step hb (by simp) (by simp) (by simp)
  exact Calls.regrown_of (same_eq _ _ _ _ 10 _ _ hS'.E hS'.fit _ (hS.rfit hk) _ _ _ _ _ _ hS'.hP hS'.hG hS'.rel)
theorem upd_self (v : Nat → TV) (s : Nat) : upd v s (v s) = v := by
  funext i
  unfold upd
  split
  · next h => rw [h]
  · rfl
def TelQ (w W : World) (v : Nat → TV) (s k : Nat) (u : TV) (o5 : Own) : Prop := TS w W o5 w.heap.size (upd v s u) (k + 1)
/-- The three arrays of PacketTells, new. -/
theorem tel_three (w : World) : ∃ (w0 : World) (o0 : Own), ((w.alloc (.cells #[.pointer none, .pointer none] 51)).alloc (.cells #[.int .i64 0, .int .i64 0, .int .i64 0, .slice none 0 0, .slice none 0 0, .int .i64 0, .int .i64 0, .int .i64 0, .slice none 0 0, .slice none 0 0] 54)).alloc (.cells #[.slice none 0 0, .slice none 0 0] 55) = w0 ∧
    Step [] w (fun _ => 0) w0 o0 ∧ Blk w0 w.heap.size 51 #[.pointer none, .pointer none] ∧ Blk w0 (w.heap.size + 1) 54 #[.int .i64 0, .int .i64 0, .int .i64 0, .slice none 0 0, .slice none 0 0, .int .i64 0, .int .i64 0, .int .i64 0, .slice none 0 0, .slice none 0 0] ∧ Blk w0 (w.heap.size + 2) 55 #[.slice none 0 0, .slice none 0 0] ∧
    o0 w.heap.size = 21 ∧ o0 (w.heap.size + 1) = 22 ∧ o0 (w.heap.size + 2) = 23 := by
  have s1 := ((Step.refl [] w (fun _ => 0)).alloc (.cells #[.pointer none, .pointer none] 51) 21)
  have s2 := s1.alloc (.cells #[.int .i64 0, .int .i64 0, .int .i64 0, .slice none 0 0, .slice none 0 0, .int .i64 0, .int .i64 0, .int .i64 0, .slice none 0 0, .slice none 0 0] 54) 22
  have s3 := s2.alloc (.cells #[.slice none 0 0, .slice none 0 0] 55) 23
  have z1 : (w.alloc (.cells #[.pointer none, .pointer none] 51)).heap.size = w.heap.size + 1 := World.size_alloc ..
  have z2 : ((w.alloc (.cells #[.pointer none, .pointer none] 51)).alloc (.cells #[.int .i64 0, .int .i64 0, .int .i64 0, .slice none 0 0, .slice none 0 0, .int .i64 0, .int .i64 0, .int .i64 0, .slice none 0 0, .slice none 0 0] 54)).heap.size = w.heap.size + 2 := (World.size_alloc ..).trans (by rw [z1])
  refine ⟨_, _, rfl, s3, ((Blk.new _ _ _).alloc _).alloc _, ?_, ?_, ?_, ?_, ?_⟩
  · exact (z1 ▸ Blk.new _ _ _ : Blk _ (w.heap.size + 1) _ _).alloc _
  · exact (z2 ▸ Blk.new _ _ _ : Blk _ (w.heap.size + 2) _ _)
  · rw [ext_lt (by rw [z2]; omega), ext_lt (by rw [z1]; omega), ext_ge (Nat.le_refl _)]
  · rw [ext_lt (by rw [z2]; omega), ext_ge (by rw [z1]; omega)]
  · rw [ext_ge (by rw [z2]; omega)]
theorem tel_put {W : World} {o : Own} {b : Nat} {C D : Array Value} {t1 t2 : TypeId} (hB : Blk W b t1 C) (hD : Blk W (b + 1) t2 D) (h0 : o b = 21) (h1 : o (b + 1) = 22) (i j0 j1 j2 j3 j4 : Nat) (p v0 v1 v2 v3 v4 : Value) {W' : World}
    (hW : W' = ((((((W.setCell ⟨b, i, none⟩ p).setCell ⟨b + 1, j0, none⟩ v0).setCell ⟨b + 1, j1, none⟩ v1).setCell ⟨b + 1, j2, none⟩ v2).setCell ⟨b + 1, j3, none⟩ v3).setCell ⟨b + 1, j4, none⟩ v4).drew) :
    Step [21, 22] W o W' o ∧ Blk W' b t1 (C.setIfInBounds i p) ∧ Blk W' (b + 1) t2 (((((D.setIfInBounds j0 v0).setIfInBounds j1 v1).setIfInBounds j2 v2).setIfInBounds j3 v3).setIfInBounds j4 v4) := by
  have m0 : o b ∈ [21, 22] := by rw [h0]; simp
  have m1 : o (b + 1) ∈ [21, 22] := by rw [h1]; simp
  have n1 : b ≠ b + 1 := by omega
  have n2 : b + 1 ≠ b := by omega
  have s1 := (Step.refl [21, 22] W o).setCell (p := ⟨b, i, none⟩) (.inr m0) p
  have e1 := hB.set_ i p
  have d1 := hD.far (p := ⟨b, i, none⟩) n2 p
  generalize W.setCell ⟨b, i, none⟩ p = W1 at hW s1 e1 d1
  have s2 := s1.setCell (p := ⟨b + 1, j0, none⟩) (.inr m1) v0
  have e2 := e1.far (p := ⟨b + 1, j0, none⟩) n1 v0
  have d2 := d1.set_ j0 v0
  generalize W1.setCell ⟨b + 1, j0, none⟩ v0 = W2 at hW s2 e2 d2
  have s3 := s2.setCell (p := ⟨b + 1, j1, none⟩) (.inr m1) v1
  have e3 := e2.far (p := ⟨b + 1, j1, none⟩) n1 v1
  have d3 := d2.set_ j1 v1
  generalize W2.setCell ⟨b + 1, j1, none⟩ v1 = W3 at hW s3 e3 d3
  have s4 := s3.setCell (p := ⟨b + 1, j2, none⟩) (.inr m1) v2
  have e4 := e3.far (p := ⟨b + 1, j2, none⟩) n1 v2
  have d4 := d3.set_ j2 v2
  generalize W3.setCell ⟨b + 1, j2, none⟩ v2 = W4 at hW s4 e4 d4
  have s5 := s4.setCell (p := ⟨b + 1, j3, none⟩) (.inr m1) v3
  have e5 := e4.far (p := ⟨b + 1, j3, none⟩) n1 v3
  have d5 := d4.set_ j3 v3
  generalize W4.setCell ⟨b + 1, j3, none⟩ v3 = W5 at hW s5 e5 d5
  have s6 := s5.setCell (p := ⟨b + 1, j4, none⟩) (.inr m1) v4
  have e6 := e5.far (p := ⟨b + 1, j4, none⟩) n1 v4
  have d6 := d5.set_ j4 v4
  generalize W5.setCell ⟨b + 1, j4, none⟩ v4 = W6 at hW s6 e6 d6
  subst hW
  exact ⟨s6.drew, e6.drew, d6.drew⟩
/-- What 'chosen' comes to, in one form. -/
def ChosenU (w : World) (BA : Option Addr) (bn : Nat) (e : Ending) (w' : World) : Prop :=
  ∃ (p : List UInt8) (pl : Nat) (A : Option Addr) (c : Nat) (ok : Bool), e = .returned (.tuple #[.slice A pl c, .bool ok]) ∧ pl = p.length ∧ pl ≤ 2000 ∧ Below w.heap.size w w' ∧ Sl w' (fun _ => 0) 0 1 A pl c (byts p) ∧ ((A = BA ∧ pl ≤ bn) ∨ (0 < pl → ∀ ad, A = some ad → w.heap.size ≤ ad.block))
theorem ChosenR.one {w w' : World} {BA : Option Addr} {bn : Nat} {e : Ending} (h : ChosenR w BA bn e w') : ChosenU w BA bn e w' := by
  rcases h with ⟨rfl, hb⟩ | ⟨p, A, c, rfl, h1, h2, h3, h4⟩
  · exact ⟨[], 0, none, 0, false, rfl, rfl, by omega, hb, Sl.nil_ _ _ _ _ _ _ (Nat.zero_le _), .inr fun h => absurd h (by omega)⟩
  · exact ⟨p, p.length, A, c, true, rfl, rfl, h1, h2, h3, h4⟩
set_option maxRecDepth 100000 in
set_option maxHeartbeats 4000000 in
theorem PacketTells_good (w : World) (own oth : Int) (ho0 : 0 ≤ own) (ho1 : own ≤ 1099511627776) (hp0 : 0 ≤ oth) (hp1 : oth ≤ 1099511627776) (A : Option Addr) (n c : Nat) (ps : List OpV) (hP : OpsAt w (fun _ => 0) 0 A n c ps) :
    Calls Try.prog 5 #[.int .i64 own, .int .i64 oth, .slice A n c] w fun e w' => e = .returned (.bool true) ∧ Below w.heap.size w w' := by
  have hc1 := hP.2.1; have hc2 := hP.2.2.1
  unfold maxLen at hc2
  have hlen : ps.length = n := hP.1
  have hAn : A = none → n = 0 := by
    intro h
    rcases Nat.eq_zero_or_pos n with h0 | h0
    · exact h0
    · obtain ⟨g, off, hA, -⟩ := hP.2.2.2 h0; rw [h] at hA; cases hA
  obtain ⟨m0, hm0'⟩ : ∃ m0 : Nat, m0 = min n 60 := ⟨_, rfl⟩
  have hmn : m0 ≤ n := by omega
  have hm2 : m0 ≤ 60 := by omega
  have hmin : min (n : Int) 60 = (m0 : Int) := by omega
  clear hm0'
  have HP := Lib.hid hP; have HLN := Lib.hid hlen; have HAN := Lib.hid hAn
  clear hP hlen hAn
  go_enter Try.func5, Try.ntmps5
  go_wp2_with fail
  obtain ⟨w0, o0, hw0, hst, hb0, hb1, hb2, ht0, ht1, ht2⟩ := tel_three w
  rw [show w.heap.size + 1 + 1 = w.heap.size + 2 from rfl]
  rw [hw0]
  have ST := Lib.hid hst; have B0 := Lib.hid hb0; have B1 := Lib.hid hb1; have B2 := Lib.hid hb2
  have T0 := Lib.hid ht0; have T1 := Lib.hid ht1; have T2 := Lib.hid ht2
  clear hw0 hst hb0 hb1 hb2 ht0 ht1 ht2
  refine wp_loop_rounds 3 ?_
  rw [rounds_succ]
  go_wp2_with fail
  refine (New_ok w0 o0 2 own oth ho0 ho1 hp0 hp1).mono ?_
  rintro e w1 ⟨rfl, hst, hE⟩
  have ST1 := Lib.hid (ST.out.trans hst); have E1 := Lib.hid hE
  have B0' := Lib.hid (B0.out.step hst (by simp)); have B1' := Lib.hid (B1.out.step hst (by simp)); have B2' := Lib.hid (B2.out.step hst (by simp))
  have T0' := Lib.hid ((hst.own _ B0.out.lt).trans T0.out); have T1' := Lib.hid ((hst.own _ B1.out.lt).trans T1.out); have T2' := Lib.hid ((hst.own _ B2.out.lt).trans T2.out)
  clear ST B0 B1 B2 T0 T1 T2 hst hE
  generalize ext o0 w0.heap.size 2 = o1 at ST1 E1 T0' T1' T2'
  generalize w0.heap.size = e0 at E1 ⊢
  go_wp2_with fail
  refine (RNew_ok w1 own oth ho0 ho1 hp0 hp1).mono ?_
  rintro e w2 ⟨rfl, hb⟩
  have hst := (Step.refl [] w1 o1).below hb 30
  have hal := hst.alloc (.cells #[.int .i64 own, .int .i64 oth, .int .i64 own, .slice none 0 0, .slice none 0 0] 53) 31
  go_upto_region 11 with fail
  have hB0 := (((B0'.out).below hb B0'.out.lt).alloc (.cells #[.int .i64 own, .int .i64 oth, .int .i64 own, .slice none 0 0, .slice none 0 0] 53))
  have hB1 := (((B1'.out).below hb B1'.out.lt).alloc (.cells #[.int .i64 own, .int .i64 oth, .int .i64 own, .slice none 0 0, .slice none 0 0] 53))
  have hN := Blk.new w2 53 #[.int .i64 own, .int .i64 oth, .int .i64 own, .slice none 0 0, .slice none 0 0]
  have hg0 : w.heap.size < w2.heap.size := by have := B2'.out.lt; have := hb.size; omega
  have hg1 : w2.heap.size ≠ w.heap.size := by omega
  have hg2 : w2.heap.size ≠ w.heap.size + 1 := by have := B2'.out.lt; have := hb.size; omega
  have hg3 : w.heap.size ≠ w2.heap.size := by omega
  have hg4 : w.heap.size + 1 ≠ w2.heap.size := fun e => hg2 e.symm
  have hg5 : w.heap.size + 1 < w2.heap.size := by have := B2'.out.lt; have := hb.size; omega
  generalize w2.heap.size = g at hal hg5 hN hg0 hg1 hg2 hg3 hg4 ⊢
  generalize w2.alloc (.cells #[.int .i64 own, .int .i64 oth, .int .i64 own, .slice none 0 0, .slice none 0 0] 53) = w3 at hal hB0 hB1 hN ⊢
  have x0 := hB0.cell 0; have y0 := hB0.frozen 0
  have l0 := hN.cell 0; have l1 := hN.cell 1; have l2 := hN.cell 2; have l3 := hN.cell 3; have l4 := hN.cell 4
  have q0 := hB1.cell 0; have q1 := hB1.cell 1; have q2 := hB1.cell 2; have q3 := hB1.cell 3; have q4 := hB1.cell 4
  have f0 := hB1.frozen 0; have f1 := hB1.frozen 1; have f2 := hB1.frozen 2; have f3 := hB1.frozen 3; have f4 := hB1.frozen 4
  go_region
  clear x0 y0 l0 l1 l2 l3 l4 q0 q1 q2 q3 q4 f0 f1 f2 f3 f4
  obtain ⟨w4, hw4⟩ : ∃ w4, w4 = ((((((w3.setCell ⟨w.heap.size, 0, none⟩ (.pointer (some ⟨e0, 0, none⟩))).setCell ⟨w.heap.size + 1, 0, none⟩ (.int .i64 own)).setCell ⟨w.heap.size + 1, 1, none⟩ (.int .i64 oth)).setCell ⟨w.heap.size + 1, 2, none⟩ (.int .i64 own)).setCell ⟨w.heap.size + 1, 3, none⟩ (.slice none 0 0)).setCell ⟨w.heap.size + 1, 4, none⟩ (.slice none 0 0)).drew := ⟨_, rfl⟩
  obtain ⟨hp, hb0, hb1⟩ := tel_put hB0 hB1 (o := ext (ext o1 w1.heap.size 30) g 31) (by rw [ext_lt hg0, ext_lt B0'.out.lt]; exact T0'.out) (by rw [ext_lt hg5, ext_lt B1'.out.lt]; exact T1'.out) 0 0 1 2 3 4 _ _ _ _ _ _ hw4
  rw [← hw4]
  clear hw4
  have hs4 := (hal.mono (ts' := [21, 22]) (by simp)).trans hp
  have ST4 := Lib.hid ((ST1.out.mono (ts' := [21, 22]) (by simp)).trans hs4)
  have E4 := Lib.hid (E1.out.step hs4 (by simp))
  have T0 := Lib.hid ((hs4.own _ B0'.out.lt).trans T0'.out); have T1 := Lib.hid ((hs4.own _ B1'.out.lt).trans T1'.out); have T2 := Lib.hid ((hs4.own _ B2'.out.lt).trans T2'.out)
  have B0 : Hid (Blk w4 w.heap.size 51 #[.pointer (some ⟨e0, 0, none⟩), .pointer none]) := Lib.hid hb0
  have B1 : Hid (Blk w4 (w.heap.size + 1) 54 #[.int .i64 own, .int .i64 oth, .int .i64 own, .slice none 0 0, .slice none 0 0, .int .i64 0, .int .i64 0, .int .i64 0, .slice none 0 0, .slice none 0 0]) := Lib.hid hb1
  have B2 := Lib.hid (B2'.out.step hs4 (by rw [T2'.out]; simp))
  generalize ext (ext o1 _ 30) g 31 = o4 at ST4 E4 T0 T1 T2
  clear B0' B1' B2' T0' T1' T2' ST1 E1 hst hal hb hp hs4 hb0 hb1 hB0 hB1 hN hg0 hg1 hg2 hg3 hg4 hg5
  go_wp2_with fail
  rw [rounds_succ]
  go_wp2_with fail
  refine (New_ok w4 o4 3 oth own hp0 hp1 ho0 ho1).mono ?_
  rintro e w5 ⟨rfl, hst, hE⟩
  have ST1 := Lib.hid (ST4.out.trans (hst.mono (ts' := [21, 22]) (by simp))); have E4' := Lib.hid (E4.out.step hst (by simp)); have E1 := Lib.hid hE
  have B0' := Lib.hid (B0.out.step hst (by simp)); have B1' := Lib.hid (B1.out.step hst (by simp)); have B2' := Lib.hid (B2.out.step hst (by simp))
  have T0' := Lib.hid ((hst.own _ B0.out.lt).trans T0.out); have T1' := Lib.hid ((hst.own _ B1.out.lt).trans T1.out); have T2' := Lib.hid ((hst.own _ B2.out.lt).trans T2.out)
  clear ST4 E4 B0 B1 B2 T0 T1 T2 hst hE
  generalize ext o4 w4.heap.size 3 = o5 at ST1 E1 E4' T0' T1' T2'
  generalize w4.heap.size = e1 at E1 ⊢
  go_wp2_with fail
  refine (RNew_ok w5 oth own hp0 hp1 ho0 ho1).mono ?_
  rintro e w6 ⟨rfl, hb⟩
  have hst := (Step.refl [] w5 o5).below hb 30
  have hal := hst.alloc (.cells #[.int .i64 oth, .int .i64 own, .int .i64 oth, .slice none 0 0, .slice none 0 0] 53) 31
  go_upto_region 11 with fail
  have hB0 := (((B0'.out).below hb B0'.out.lt).alloc (.cells #[.int .i64 oth, .int .i64 own, .int .i64 oth, .slice none 0 0, .slice none 0 0] 53))
  have hB1 := (((B1'.out).below hb B1'.out.lt).alloc (.cells #[.int .i64 oth, .int .i64 own, .int .i64 oth, .slice none 0 0, .slice none 0 0] 53))
  have hN := Blk.new w6 53 #[.int .i64 oth, .int .i64 own, .int .i64 oth, .slice none 0 0, .slice none 0 0]
  have hg0 : w.heap.size < w6.heap.size := by have := B2'.out.lt; have := hb.size; omega
  have hg1 : w6.heap.size ≠ w.heap.size := by omega
  have hg2 : w6.heap.size ≠ w.heap.size + 1 := by have := B2'.out.lt; have := hb.size; omega
  have hg3 : w.heap.size ≠ w6.heap.size := by omega
  have hg4 : w.heap.size + 1 ≠ w6.heap.size := fun e => hg2 e.symm
  have hg5 : w.heap.size + 1 < w6.heap.size := by have := B2'.out.lt; have := hb.size; omega
  generalize w6.heap.size = g at hal hg5 hN hg0 hg1 hg2 hg3 hg4 ⊢
  generalize w6.alloc (.cells #[.int .i64 oth, .int .i64 own, .int .i64 oth, .slice none 0 0, .slice none 0 0] 53) = w7 at hal hB0 hB1 hN ⊢
  have x0 := hB0.cell 1; have y0 := hB0.frozen 1
  have l0 := hN.cell 0; have l1 := hN.cell 1; have l2 := hN.cell 2; have l3 := hN.cell 3; have l4 := hN.cell 4
  have q0 := hB1.cell 5; have q1 := hB1.cell 6; have q2 := hB1.cell 7; have q3 := hB1.cell 8; have q4 := hB1.cell 9
  have f0 := hB1.frozen 5; have f1 := hB1.frozen 6; have f2 := hB1.frozen 7; have f3 := hB1.frozen 8; have f4 := hB1.frozen 9
  go_region
  clear x0 y0 l0 l1 l2 l3 l4 q0 q1 q2 q3 q4 f0 f1 f2 f3 f4
  obtain ⟨w8, hw8⟩ : ∃ w8, w8 = ((((((w7.setCell ⟨w.heap.size, 1, none⟩ (.pointer (some ⟨e1, 0, none⟩))).setCell ⟨w.heap.size + 1, 5, none⟩ (.int .i64 oth)).setCell ⟨w.heap.size + 1, 6, none⟩ (.int .i64 own)).setCell ⟨w.heap.size + 1, 7, none⟩ (.int .i64 oth)).setCell ⟨w.heap.size + 1, 8, none⟩ (.slice none 0 0)).setCell ⟨w.heap.size + 1, 9, none⟩ (.slice none 0 0)).drew := ⟨_, rfl⟩
  obtain ⟨hp, hb0, hb1⟩ := tel_put hB0 hB1 (o := ext (ext o5 w5.heap.size 30) g 31) (by rw [ext_lt hg0, ext_lt B0'.out.lt]; exact T0'.out) (by rw [ext_lt hg5, ext_lt B1'.out.lt]; exact T1'.out) 1 5 6 7 8 9 _ _ _ _ _ _ hw8
  rw [← hw8]
  clear hw8
  have hs4 := (hal.mono (ts' := [21, 22]) (by simp)).trans hp
  have ST8 := Lib.hid (ST1.out.trans hs4)
  have E8 := Lib.hid (E1.out.step hs4 (by simp)); have F8 := Lib.hid (E4'.out.step hs4 (by simp))
  have T0 := Lib.hid ((hs4.own _ B0'.out.lt).trans T0'.out); have T1 := Lib.hid ((hs4.own _ B1'.out.lt).trans T1'.out); have T2 := Lib.hid ((hs4.own _ B2'.out.lt).trans T2'.out)
  have B0 : Hid (Blk w8 w.heap.size 51 #[.pointer (some ⟨e0, 0, none⟩), .pointer (some ⟨e1, 0, none⟩)]) := Lib.hid hb0
  have B1 : Hid (Blk w8 (w.heap.size + 1) 54 #[.int .i64 own, .int .i64 oth, .int .i64 own, .slice none 0 0, .slice none 0 0, .int .i64 oth, .int .i64 own, .int .i64 oth, .slice none 0 0, .slice none 0 0]) := Lib.hid hb1
  have B2 := Lib.hid (B2'.out.step hs4 (by rw [T2'.out]; simp))
  generalize ext (ext o5 _ 30) g 31 = o8 at ST8 E8 F8 T0 T1 T2
  clear B0' B1' B2' T0' T1' T2' ST1 E1 E4' hst hal hb hp hs4 hb0 hb1 hB0 hB1 hN hg0 hg1 hg2 hg3 hg4 hg5
  go_wp2_with fail
  rw [rounds_succ]
  have c0 := B0.out.cell 0
  go_upto_region 16 with fail
  clear c0
  have HT := Lib.hid (ts_init ST8.out B0.out B1.out B2.out T0.out T1.out T2.out F8.out E8.out ho0 ho1 hp0 hp1)
  clear ST8 B0 B1 B2 T0 T1 T2 F8 E8
  go_cut [86, 87, 88] (fun s86 s87 s88 wx => s86 = .slice A m0 c ∧ s87 = .int .i64 m0 ∧ s88 = .int .i64 0 ∧ wx = w8)
  case first =>
    cases A with
    | none =>
      obtain rfl := HAN.out rfl
      obtain rfl : m0 = 0 := by omega
      go_wp2_with fail
      go_meet
      exact ⟨rfl, rfl, rfl, rfl⟩
    | some ad =>
      clear HAN
      go_wp2_with fail
      go_meet
      exact ⟨rfl, rfl, rfl, rfl⟩
  case rest =>
    obtain ⟨rfl, rfl, rfl, rfl⟩ := hcut
    go_wp2_with fail
    go_loopw [88] (fun i wr => ∃ (k : Nat) (ok : Own) (v : Nat → TV), k ≤ m0 ∧ i = .int .i64 k ∧ Hid (TS w wr ok w.heap.size v k)) (fun i _ => m0 - (intOf i).toNat)
    case atStart => exact ⟨0, _, _, Nat.zero_le _, rfl, HT⟩
    case round => as_aux_lemma =>
      obtain ⟨k, ok, v, hk, rfl, HK⟩ := hrel
      by_cases hlt : k < m0
      · obtain ⟨x, hx⟩ : ∃ x, ps[k]? = some x := ⟨_, List.getElem?_eq_getElem (by rw [HLN.out]; omega)⟩
        obtain ⟨g, off, hA, -, hg, hpp⟩ := (HP.out.step HK.out.st (by simp)).2.2.2 (by omega)
        obtain ⟨a1, a2, a3, BA, bn, bc, b0, b1, b2, b3, b4, b5⟩ := hpp k x hx
        subst hA
        obtain ⟨K, S, T, B⟩ := x
        simp only at a1 a2 a3 b0 b1 b2 b3 b4
        obtain ⟨s, hs⟩ : ∃ s, s = S % 2 := ⟨_, rfl⟩
        have hs2 : s < 2 := by omega
        have HB := Lib.hid b4; have HBN := Lib.hid b5
        clear b4 b5 hpp hx hg
        go_upto_region 20 with fail
        rw [show ((S : Int) % 2) = (s : Int) by omega]
        have HSS := Lib.hid hs
        clear hs
        have sta := (Step.refl [] wr ok).alloc (.cells (opCells K S T BA bn bc) 29) 30
        have hx0 := Blk.new wr 29 (opCells K S T BA bn bc)
        have hxo : ext ok wr.heap.size 30 wr.heap.size = 30 := ext_ge (Nat.le_refl _)
        have HX := Lib.hid hx0; have HXO := Lib.hid hxo; have HST := Lib.hid (HK.out.st.trans sta.nil)
        have HK1 := Lib.hid (HK.out.step sta (by simp))
        have HB1 := Lib.hid (HB.out.step sta (by simp))
        have hgw : w.heap.size + 2 < wr.heap.size := HK.out.b2.lt
        clear b0 b1 b2 b3 HK HB sta hx0 hxo
        generalize wr.heap.size = gx at HX HXO HST HK1 HB1 hgw ⊢
        generalize ext ok gx 30 = o1 at HXO HST HK1 HB1
        change Code.wp _ _ _ _ (wr.alloc (.cells (opCells K S T BA bn bc) 29))
        generalize wr.alloc (.cells (opCells K S T BA bn bc) 29) = w1 at HX HST HK1 HB1 ⊢
        have c0 := HK1.out.endc hs2
        obtain ⟨r0, r1, r2, r3, r4⟩ := HK1.out.refc hs2
        have ht2 : s * 5 + 4 < 10 := by omega
        have hw0 : w.heap.size < w1.heap.size := HK1.out.b0.lt
        have hw1 : w.heap.size + 1 < w1.heap.size := HK1.out.b1.lt
        have hn0 : w.heap.size ≠ w1.heap.size := by omega
        have hn1 : w.heap.size + 1 ≠ w1.heap.size := by omega
        go_region
        have st2 := ((Step.refl [] w1 o1).alloc (.cells #[.int .i64 (v s).r.own, .int .i64 (v s).r.other, .int .i64 (v s).r.next, .slice (v s).PA (v s).pn (v s).pc, .slice (v s).GA (v s).gn (v s).gc] 53) 30).drew
        have hb := (Blk.new w1 53 #[.int .i64 (v s).r.own, .int .i64 (v s).r.other, .int .i64 (v s).r.next, .slice (v s).PA (v s).pn (v s).pc, .slice (v s).GA (v s).gn (v s).gc]).drew
        have hbo : ext o1 w1.heap.size 30 w1.heap.size = 30 := ext_ge (Nat.le_refl _)
        have HR2 := Lib.hid hb; have HRO := Lib.hid hbo
        have HK2 := Lib.hid (HK1.out.step st2 (by simp)); have HB2 := Lib.hid (HB1.out.step st2 (by simp))
        have HX2 := Lib.hid (HX.out.step st2 (by simp)); have HXO2 := Lib.hid ((st2.own _ HX.out.lt).trans HXO.out)
        have HST2 := Lib.hid (HST.out.trans st2.nil)
        clear HK1 HB1 HX HXO HST st2 hb hbo c0 r0 r1 r2 r3 r4 hw0 hw1 hn0 hn1 ht2
        generalize w1.heap.size = gr at HR2 HRO HK2 HB2 HX2 HXO2 HST2 ⊢
        generalize ext o1 gr 30 = o2 at HRO HK2 HB2 HXO2 HST2
        obtain ⟨w2, hw2⟩ : ∃ w2, w2 = (w1.alloc (.cells #[.int .i64 (v s).r.own, .int .i64 (v s).r.other, .int .i64 (v s).r.next, .slice (v s).PA (v s).pn (v s).pc, .slice (v s).GA (v s).gn (v s).gc] 53)).drew := ⟨_, rfl⟩
        rw [← hw2] at HR2 HK2 HB2 HX2 HST2 ⊢
        clear hw2
        obtain ⟨κ, hκ⟩ : ∃ κ, κ = K % 6 := ⟨_, rfl⟩
        have hκ6 : κ < 6 := by omega
        have k0 : w2.cell? ⟨gx, 0, none⟩ = some (.int .u8 K) := HX2.out.cell 0
        go_upto_block 4 with fail
        rw [show ((K : Int) % 6) = (κ : Int) by omega]
        clear k0 hκ
        go_cut [] (fun wx => ∃ (u : TV) (o5 : Own), Hid (TelQ w wx v s k u o5))
        case first => as_aux_lemma =>
          rcases (show κ ≤ 1 ∨ κ = 2 ∨ 3 ≤ κ by omega) with hκ1 | rfl | hκ3
          · have hS := HK2.out.S s hs2
            obtain ⟨xl, hxl⟩ : ∃ xl, xl = (B.take 1300).length := ⟨_, rfl⟩
            obtain ⟨X, hX⟩ : ∃ X, X = B.take 1300 := ⟨_, rfl⟩
            have hxm : xl ≤ 1300 := by rw [hxl, List.length_take]; omega
            have HBODY := Lib.hid (fun W (hb : Below w2.heap.size w2 W) => body_any W o2 0 K S T BA bn bc B (HB2.out.below hb) HBN.out)
            have HBX := Lib.hid (fun W (hb : Below w2.heap.size w2 W) => (HB2.out.below hb).plain.body)
            rw [← hxl] at HBODY
            rw [← hxl, ← hX] at HBX
            rw [← hX] at hxl
            obtain ⟨S1, r1, ys, num, rs, code, hm1, hm2, hrel, hfit, hnw, hnx, hot, hgot, hys⟩ := make_three hS.rel hS.fit (hS.rfit (by omega)) (by have := hS.nx; omega) X xl hxl
            have HM1 := Lib.hid hm1; have HM2 := Lib.hid hm2; have HREL := Lib.hid hrel; have HFIT := Lib.hid hfit; have HBD := Lib.hid (And.intro hnw (And.intro hnx (And.intro hot hgot))); have HYS := Lib.hid hys; have HXL := Lib.hid hxl
            have HXX := Lib.hid hX
            clear hS hX hxl hm1 hm2 hrel hfit hnw hnx hot hgot hys
            go_upto_if 165 with fail
            go_cut [165, 167] (fun s165 s167 wx => s165 = .bool true ∧ w2 = wx)
            case first =>
              rcases (show κ = 0 ∨ κ = 1 by omega) with rfl | rfl
              all_goals
                go_wp2_with fail
                go_meet
                exact ⟨rfl, rfl⟩
            case rest =>
              obtain ⟨rfl, rfl⟩ := hcut
              have k0 : w2.cell? ⟨gx, 0, none⟩ = some (.int .u8 K) := HX2.out.cell 0
              have k1 : w2.cell? ⟨gx, 1, none⟩ = some (.int .u8 S) := HX2.out.cell 1
              have k2 : w2.cell? ⟨gx, 2, none⟩ = some (.int .u8 T) := HX2.out.cell 2
              have k3 : w2.cell? ⟨gx, 3, none⟩ = some (.slice BA bn bc) := HX2.out.cell 3
              go_wp2_with fail
              refine (HBODY.out _ (Below.refl _ _)).mono ?_
              rintro e w3 ⟨rfl, hb3⟩
              have hst3 := (Step.refl [] w2 o2).below hb3 30
              have HB3 := Lib.hid hb3; have HQ3 := Lib.hid (HB2.out.step hst3 (by simp))
              have HK3 := Lib.hid (HK2.out.step hst3 (by simp))
              have HX3 := Lib.hid (HX2.out.step hst3 (by simp)); have HR3 := Lib.hid (HR2.out.step hst3 (by simp)); have HRO3 := Lib.hid ((hst3.own _ HR2.out.lt).trans HRO.out); have HXO3 := Lib.hid ((hst3.own _ HX2.out.lt).trans HXO2.out)
              clear hst3 hb3 k0 k1 k2 k3
              generalize ext o2 w2.heap.size 30 = o3 at HK3 HRO3 HXO3 HQ3
              go_wp2_with fail
              refine (LentBytes_any w3 (fun _ => 0) 0 BA xl bc X (HBX.out w3 HB3.out) (by omega)).mono ?_
              rintro e w4 ⟨gi, ci, rfl, hb4, hgi, hr4⟩
              have hst4 := (Step.refl [] w3 o3).below hb4 13
              have HQ4 := Lib.hid (HQ3.out.step hst4 (by simp))
              have HI4 := Lib.hid (hr4.tag o3 13)
              have HK4 := Lib.hid (HK3.out.step hst4 (by simp))
              have HX4 := Lib.hid (HX3.out.step hst4 (by simp)); have HR4 := Lib.hid (HR3.out.step hst4 (by simp)); have HRO4 := Lib.hid ((hst4.own _ HR3.out.lt).trans HRO3.out); have HXO4 := Lib.hid ((hst4.own _ HX3.out.lt).trans HXO3.out)
              clear hst4 hb4 hgi hr4 HK3 HX3 HR3 HRO3 HXO3 HB3 HQ3
              generalize ext o3 w3.heap.size 13 = o4 at HI4 HK4 HRO4 HXO4 HQ4
              have hif : Row w4 o4 13 5 1 (some ⟨gi, 0, none⟩) xl ci (byts X) := by
                have h := HI4.out.first xl (by omega) (by omega)
                have e : (byts (X ++ mkB 1 12)).take (xl * 1) = byts X := by rw [Nat.mul_one, HXL.out]; simp [byts]
                rwa [e] at h
              have HIF := Lib.hid hif
              clear hif
              go_wp2_with fail
              refine (HM1.out w4 o4 (2 + s) (v s).e ⟨gi, 0, none⟩ ci (by omega) (by omega) (HK4.out.S s hs2).E HIF.out.sl).mono ?_
              rintro e w5 ⟨A5, c5, o5, LA5, lc5, rfl, hst5, hE5, hy5, hl5⟩
              have HST5 := Lib.hid hst5; have HE5 := Lib.hid hE5; have HY5 := Lib.hid hy5; have HL5 := Lib.hid hl5
              have HI5 := Lib.hid (HI4.out.step hst5 (by simp <;> omega))
              have hsv := HK4.out.S s hs2
              have HPG := Lib.hid (And.intro (hsv.hP.step hst5 (by simp <;> omega)) (hsv.hG.step hst5 (by simp <;> omega)))
              have HX5 := Lib.hid (HX4.out.step hst5 (by rw [HXO4.out]; simp <;> omega)); have HR5 := Lib.hid (HR4.out.step hst5 (by rw [HRO4.out]; simp <;> omega))
              have HXO5 := Lib.hid ((hst5.own _ HX4.out.lt).trans HXO4.out)
              clear hsv hst5 hE5 hy5 hl5 HIF HI4 HX4 HR4 HRO4 HXO4
              have HQ5 := Lib.hid (HQ4.out.step HST5.out (by simp <;> omega))
              have hbx : ∀ W, Below w5.heap.size w5 W → Sl W (fun _ => 0) 0 1 BA xl bc (byts X) := fun W hb => by rw [HXL.out, HXX.out]; exact (HQ5.out.below hb).plain.body
              have HBO := Lib.hid (show ∀ W, Below w5.heap.size w5 W → Calls Try.prog 23 #[.agg #[.int .u8 K, .int .u8 S, .int .u8 T, .slice BA bn bc]] W fun e w' => e = .returned (.slice BA xl bc) ∧ Below W.heap.size W w' from fun W hb => by rw [HXL.out, HXX.out]; exact body_any W o5 0 K S T BA bn bc B (HQ5.out.below hb) HBN.out)
              have HMO := Lib.hid (fun W (hb : Below w5.heap.size w5 W) => HM2.out W (v s).PA (v s).pn (v s).pc (v s).GA (v s).gn (v s).gc BA bc (HPG.out.1.plain.below hb) (HPG.out.2.plain.below hb) (hbx W hb))
              have HBX5 := Lib.hid hbx
              clear hbx HQ4 HM1 HM2 HBODY HBX
              have HCC := Lib.hid (fun W (hb : Below w5.heap.size w5 W) => And.intro ((HR5.out.below hb HR5.out.lt).cell 0) (And.intro ((HR5.out.below hb HR5.out.lt).cell 1) (And.intro ((HR5.out.below hb HR5.out.lt).cell 2) (And.intro ((HR5.out.below hb HR5.out.lt).cell 3) ((HR5.out.below hb HR5.out.lt).cell 4)))))
              have HCX := Lib.hid (fun W (hb : Below w5.heap.size w5 W) => And.intro ((HX5.out.below hb HX5.out.lt).cell 0) (And.intro ((HX5.out.below hb HX5.out.lt).cell 1) (And.intro ((HX5.out.below hb HX5.out.lt).cell 2) ((HX5.out.below hb HX5.out.lt).cell 3))))
              go_upto_region 38 with fail
              go_cut [25, 26, 27, 28, 29] (fun s25 s26 s27 s28 s29 wx => ∃ (ba : Nat) (PA6 : Option Addr) (pn6 pc6 : Nat) (BA6 : Option Addr) (bc6 : Nat) (LA6 : Option Addr) (lc6 : Nat), s25 = .pointer (some ⟨ba, 0, none⟩) ∧ s26 = .slice BA6 ys.length bc6 ∧ s27 = .int .i64 num ∧ s28 = .slice LA6 rs.length lc6 ∧ s29 = .int .i64 code ∧ Hid (M38B w5 wx r1 PA6 (v s).PA pn6 (v s).pn pc6 (v s).GA (v s).gn (v s).gc ys BA6 bc6 rs LA6 lc6 ba))
              case first => as_aux_lemma =>
                clear HYS HREL HFIT HBD
                go_wp2_with fail
                have PK : Below w5.heap.size w5 w5.drew := (Below.refl _ _).drew
                obtain ⟨WW, hWW⟩ : ∃ W, W = w5.drew := ⟨_, rfl⟩
                refine wp_region_till (S0 := fun w' => Below w5.heap.size w5 w') (st := 11) (by kernel_rfl) ?_
                change wpAnyG _ _ _ _ _ _ _ _ _ (World.drew _)
                rw [← hWW] at PK ⊢
                clear hWW
                refine wpAnyG_load (i := 0) (v := ?_) rfl rfl (by kernel_rfl) (by kernel_rfl) (by kernel_rfl) (by kernel_rfl) (by kernel_rfl) (by kernel_rfl) (fun _ _ _ h => h) (Or.inl ⟨by rfl, ?_⟩) (PK) ?_
                rotate_left
                · intro w' hSw; obtain ⟨z0, z1, z2, z3, z4⟩ := HCC.out _ hSw; go_simp; try with_reducible rfl
                try simp only [Act.put, List.getElem_toArray, List.getElem_cons_zero, List.setIfInBounds_toArray, List.set_cons_zero, List.set_cons_succ]
                refine wpAnyG_load (i := 1) (v := ?_) rfl rfl (by kernel_rfl) (by kernel_rfl) (by kernel_rfl) (by kernel_rfl) (by kernel_rfl) (by kernel_rfl) (fun _ _ _ h => h) (Or.inl ⟨by rfl, ?_⟩) (PK) ?_
                rotate_left
                · intro w' hSw; obtain ⟨z0, z1, z2, z3⟩ := HCX.out _ hSw; go_simp; try with_reducible rfl
                try simp only [Act.put, List.getElem_toArray, List.getElem_cons_zero, List.getElem_cons_succ, List.setIfInBounds_toArray, List.set_cons_zero, List.set_cons_succ]
                refine wpAnyG_ready (rs := [2, 10]) (by kernel_rfl) (by simp) ?_
                refine AllReadyG.cons rfl (fun K hK => ?_) ?_
                · skip
                  go_simp
                  refine (HBO.out _ PK).mono ?_
                  rintro e WN ⟨rfl, hbN⟩
                  try go_simp
                  have PKN := below_then PK hbN
                  refine hK.out _ _ (.inr PKN) ?_
                  clear hK K
                  have PK := PKN
                  clear hbN PKN
                  obtain ⟨WW, hWW⟩ : ∃ W, W = WN := ⟨_, rfl⟩
                  rw [← hWW] at PK ⊢
                  clear hWW
                  refine wpAnyG_ready (rs := [3, 10]) (by kernel_rfl) (by simp) ?_
                  refine AllReadyG.cons rfl (fun K hK => ?_) ?_
                  · skip
                    go_simp
                    refine (HMO.out _ PK).mono ?_
                    rintro e WN ⟨PA6, pn6, pc6, BA6, bc6, LA6, lc6, rfl, hbN, hP6, hB6, hL6, hlP, hlB⟩
                    try go_simp
                    have HMK := Lib.hid (M38.mk_ PK hbN hP6 hB6 hL6 hlP hlB)
                    have PKN := below_then PK hbN
                    refine hK.out _ _ (.inr PKN) ?_
                    clear hK K
                    have PK := PKN
                    clear hbN PKN hP6 hB6 hL6 hlP hlB
                    obtain ⟨WW, hWW⟩ : ∃ W, W = WN := ⟨_, rfl⟩
                    rw [← hWW] at PK HMK ⊢
                    clear hWW
                    refine wpAnyG_take (i := 4) (v := ?_) rfl (by kernel_rfl) (by kernel_rfl) (by kernel_rfl) (by kernel_rfl) (fun _ _ _ h => h) (Or.inl ⟨by rfl, ?_⟩) ((.inr PK)) ?_
                    rotate_left
                    · intro w' _; go_simp; try with_reducible rfl
                    try simp only [Act.put, List.getElem_toArray, List.getElem_cons_zero, List.getElem_cons_succ, List.setIfInBounds_toArray, List.set_cons_zero, List.set_cons_succ]
                    refine wpAnyG_take (i := 5) (v := ?_) rfl (by kernel_rfl) (by kernel_rfl) (by kernel_rfl) (by kernel_rfl) (fun _ _ _ h => h) (Or.inl ⟨by rfl, ?_⟩) ((.inr PK)) ?_
                    rotate_left
                    · intro w' _; go_simp; try with_reducible rfl
                    try simp only [Act.put, List.getElem_toArray, List.getElem_cons_zero, List.getElem_cons_succ, List.setIfInBounds_toArray, List.set_cons_zero, List.set_cons_succ]
                    refine wpAnyG_take (i := 6) (v := ?_) rfl (by kernel_rfl) (by kernel_rfl) (by kernel_rfl) (by kernel_rfl) (fun _ _ _ h => h) (Or.inl ⟨by rfl, ?_⟩) ((.inr PK)) ?_
                    rotate_left
                    · intro w' _; go_simp; try with_reducible rfl
                    try simp only [Act.put, List.getElem_toArray, List.getElem_cons_zero, List.getElem_cons_succ, List.setIfInBounds_toArray, List.set_cons_zero, List.set_cons_succ]
                    refine wpAnyG_take (i := 7) (v := ?_) rfl (by kernel_rfl) (by kernel_rfl) (by kernel_rfl) (by kernel_rfl) (fun _ _ _ h => h) (Or.inl ⟨by rfl, ?_⟩) ((.inr PK)) ?_
                    rotate_left
                    · intro w' _; go_simp; try with_reducible rfl
                    try simp only [Act.put, List.getElem_toArray, List.getElem_cons_zero, List.getElem_cons_succ, List.setIfInBounds_toArray, List.set_cons_zero, List.set_cons_succ]
                    refine wpAnyG_take (i := 8) (v := ?_) rfl (by kernel_rfl) (by kernel_rfl) (by kernel_rfl) (by kernel_rfl) (fun _ _ _ h => h) (Or.inl ⟨by rfl, ?_⟩) ((.inr PK)) ?_
                    rotate_left
                    · intro w' _; go_simp; try with_reducible rfl
                    try simp only [Act.put, List.getElem_toArray, List.getElem_cons_zero, List.getElem_cons_succ, List.setIfInBounds_toArray, List.set_cons_zero, List.set_cons_succ]
                    refine wpAnyG_take (i := 9) (v := ?_) rfl (by kernel_rfl) (by kernel_rfl) (by kernel_rfl) (by kernel_rfl) (fun _ _ _ h => h) (Or.inl ⟨by rfl, ?_⟩) ((.inr PK)) ?_
                    rotate_left
                    · intro w' _; go_simp; try with_reducible rfl
                    try simp only [Act.put, List.getElem_toArray, List.getElem_cons_zero, List.getElem_cons_succ, List.setIfInBounds_toArray, List.set_cons_zero, List.set_cons_succ]
                    refine wpAnyG_ready (rs := [10]) (by kernel_rfl) (by simp) ?_
                    refine AllReadyG.cons rfl (fun K hK => ?_) AllReadyG.nil
                    go_simp
                    have PKN := Below.alloc PK PK.size (.cells #[.int .i64 0, .int .i64 0, .int .i64 0, .slice none 0 0, .slice none 0 0] 53)
                    refine hK.out _ _ (.inr PKN) ?_
                    clear hK K
                    have BA := Blk.new WW 53 #[.int .i64 0, .int .i64 0, .int .i64 0, .slice none 0 0, .slice none 0 0]
                    have hge1 := PK.size
                    have HSEP := Lib.hid HMK.out.sep_last
                    have HMK := Lib.hid (HMK.out.up ((Below.refl WW.heap.size WW).alloc (Nat.le_refl _) (.cells #[.int .i64 0, .int .i64 0, .int .i64 0, .slice none 0 0, .slice none 0 0] 53)))
                    obtain ⟨ba, hba⟩ : ∃ b, b = WW.heap.size := ⟨_, rfl⟩
                    rw [← hba] at BA hge1 HSEP ⊢
                    have PK := PKN
                    clear PKN
                    obtain ⟨WW, hWW⟩ : ∃ W, W = WW.alloc (.cells #[.int .i64 0, .int .i64 0, .int .i64 0, .slice none 0 0, .slice none 0 0] 53) := ⟨_, rfl⟩
                    rw [← hWW] at PK BA HMK ⊢
                    clear hWW hba
                    have q0 := BA.cell 0; have q1 := BA.cell 1; have q2 := BA.cell 2; have q3 := BA.cell 3; have q4 := BA.cell 4; have f0 := BA.frozen 0; have f1 := BA.frozen 1; have f2 := BA.frozen 2; have f3 := BA.frozen 3; have f4 := BA.frozen 4
                    simp only [List.getElem?_toArray, List.getElem?_cons_zero, List.getElem?_cons_succ] at q0 q1 q2 q3 q4
                    have hbl := BA.lt
                    refine wpAnyG_ready (rs := [11]) (by kernel_rfl) (by simp) ?_
                    refine AllReadyG.cons rfl (fun K hK => ?_) AllReadyG.nil
                    go_simp
                    refine hK.out _ _ (.inl rfl) ?_
                    clear hK K
                    refine wpAnyG_ready (rs := [12]) (by kernel_rfl) (by simp) ?_
                    refine AllReadyG.cons rfl (fun K hK => ?_) AllReadyG.nil
                    go_simp
                    refine hK.out _ _ (.inl rfl) ?_
                    clear hK K
                    refine wpAnyG_ready (rs := [13]) (by kernel_rfl) (by simp) ?_
                    refine AllReadyG.cons rfl (fun K hK => ?_) AllReadyG.nil
                    go_simp
                    refine hK.out _ _ (.inl rfl) ?_
                    clear hK K
                    refine wpAnyG_ready (rs := [14]) (by kernel_rfl) (by simp) ?_
                    refine AllReadyG.cons rfl (fun K hK => ?_) AllReadyG.nil
                    go_simp
                    refine hK.out _ _ (.inl rfl) ?_
                    clear hK K
                    refine wpAnyG_ready (rs := [15]) (by kernel_rfl) (by simp) ?_
                    refine AllReadyG.cons rfl (fun K hK => ?_) AllReadyG.nil
                    go_simp
                    refine hK.out _ _ (.inl rfl) ?_
                    clear hK K
                    refine wpAnyG_done (by kernel_rfl) ?_ _
                    go_wp2_with fail
                    go_meet
                    exact ⟨ba, PA6, pn6, pc6, BA6, bc6, LA6, lc6, rfl, rfl, rfl, rfl, rfl, Lib.hid (m38 PK hge1 BA HMK.out HSEP.out)⟩
                  refine AllReadyG.cons rfl (fun K hK => ?_) AllReadyG.nil
                  go_simp
                  have PKN := Below.alloc PK PK.size (.cells #[.int .i64 0, .int .i64 0, .int .i64 0, .slice none 0 0, .slice none 0 0] 53)
                  refine hK.out _ _ (.inr PKN) ?_
                  clear hK K
                  have BA := Blk.new WW 53 #[.int .i64 0, .int .i64 0, .int .i64 0, .slice none 0 0, .slice none 0 0]
                  have hge1 := PK.size
                  obtain ⟨ba, hba⟩ : ∃ b, b = WW.heap.size := ⟨_, rfl⟩
                  rw [← hba] at BA hge1 ⊢
                  have PK := PKN
                  clear PKN
                  obtain ⟨WW, hWW⟩ : ∃ W, W = WW.alloc (.cells #[.int .i64 0, .int .i64 0, .int .i64 0, .slice none 0 0, .slice none 0 0] 53) := ⟨_, rfl⟩
                  rw [← hWW] at PK BA ⊢
                  clear hWW hba
                  refine wpAnyG_ready (rs := [3]) (by kernel_rfl) (by simp) ?_
                  refine AllReadyG.cons rfl (fun K hK => ?_) AllReadyG.nil
                  go_simp
                  refine (HMO.out _ PK).mono ?_
                  rintro e WN ⟨PA6, pn6, pc6, BA6, bc6, LA6, lc6, rfl, hbN, hP6, hB6, hL6, hlP, hlB⟩
                  try go_simp
                  have HMK := Lib.hid (M38.mk_ PK hbN hP6 hB6 hL6 hlP hlB)
                  have PKN := below_then PK hbN
                  refine hK.out _ _ (.inr PKN) ?_
                  clear hK K
                  have hlt := BA.lt
                  have BA := BA.below hbN BA.lt
                  have HSEP := Lib.hid (M38.sep_first HPG.out.1 hge1 hlt hlP hlB hL6 BA)
                  clear hlt
                  have PK := PKN
                  clear hbN PKN hP6 hB6 hL6 hlP hlB
                  obtain ⟨WW, hWW⟩ : ∃ W, W = WN := ⟨_, rfl⟩
                  rw [← hWW] at PK HMK BA ⊢
                  clear hWW
                  refine wpAnyG_take (i := 4) (v := ?_) rfl (by kernel_rfl) (by kernel_rfl) (by kernel_rfl) (by kernel_rfl) (fun _ _ _ h => h) (Or.inl ⟨by rfl, ?_⟩) ((.inr PK)) ?_
                  rotate_left
                  · intro w' _; go_simp; try with_reducible rfl
                  try simp only [Act.put, List.getElem_toArray, List.getElem_cons_zero, List.getElem_cons_succ, List.setIfInBounds_toArray, List.set_cons_zero, List.set_cons_succ]
                  refine wpAnyG_take (i := 5) (v := ?_) rfl (by kernel_rfl) (by kernel_rfl) (by kernel_rfl) (by kernel_rfl) (fun _ _ _ h => h) (Or.inl ⟨by rfl, ?_⟩) ((.inr PK)) ?_
                  rotate_left
                  · intro w' _; go_simp; try with_reducible rfl
                  try simp only [Act.put, List.getElem_toArray, List.getElem_cons_zero, List.getElem_cons_succ, List.setIfInBounds_toArray, List.set_cons_zero, List.set_cons_succ]
                  refine wpAnyG_take (i := 6) (v := ?_) rfl (by kernel_rfl) (by kernel_rfl) (by kernel_rfl) (by kernel_rfl) (fun _ _ _ h => h) (Or.inl ⟨by rfl, ?_⟩) ((.inr PK)) ?_
                  rotate_left
                  · intro w' _; go_simp; try with_reducible rfl
                  try simp only [Act.put, List.getElem_toArray, List.getElem_cons_zero, List.getElem_cons_succ, List.setIfInBounds_toArray, List.set_cons_zero, List.set_cons_succ]
                  refine wpAnyG_take (i := 7) (v := ?_) rfl (by kernel_rfl) (by kernel_rfl) (by kernel_rfl) (by kernel_rfl) (fun _ _ _ h => h) (Or.inl ⟨by rfl, ?_⟩) ((.inr PK)) ?_
                  rotate_left
                  · intro w' _; go_simp; try with_reducible rfl
                  try simp only [Act.put, List.getElem_toArray, List.getElem_cons_zero, List.getElem_cons_succ, List.setIfInBounds_toArray, List.set_cons_zero, List.set_cons_succ]
                  refine wpAnyG_take (i := 8) (v := ?_) rfl (by kernel_rfl) (by kernel_rfl) (by kernel_rfl) (by kernel_rfl) (fun _ _ _ h => h) (Or.inl ⟨by rfl, ?_⟩) ((.inr PK)) ?_
                  rotate_left
                  · intro w' _; go_simp; try with_reducible rfl
                  try simp only [Act.put, List.getElem_toArray, List.getElem_cons_zero, List.getElem_cons_succ, List.setIfInBounds_toArray, List.set_cons_zero, List.set_cons_succ]
                  refine wpAnyG_take (i := 9) (v := ?_) rfl (by kernel_rfl) (by kernel_rfl) (by kernel_rfl) (by kernel_rfl) (fun _ _ _ h => h) (Or.inl ⟨by rfl, ?_⟩) ((.inr PK)) ?_
                  rotate_left
                  · intro w' _; go_simp; try with_reducible rfl
                  try simp only [Act.put, List.getElem_toArray, List.getElem_cons_zero, List.getElem_cons_succ, List.setIfInBounds_toArray, List.set_cons_zero, List.set_cons_succ]
                  have q0 := BA.cell 0; have q1 := BA.cell 1; have q2 := BA.cell 2; have q3 := BA.cell 3; have q4 := BA.cell 4; have f0 := BA.frozen 0; have f1 := BA.frozen 1; have f2 := BA.frozen 2; have f3 := BA.frozen 3; have f4 := BA.frozen 4
                  simp only [List.getElem?_toArray, List.getElem?_cons_zero, List.getElem?_cons_succ] at q0 q1 q2 q3 q4
                  have hbl := BA.lt
                  refine wpAnyG_ready (rs := [11]) (by kernel_rfl) (by simp) ?_
                  refine AllReadyG.cons rfl (fun K hK => ?_) AllReadyG.nil
                  go_simp
                  refine hK.out _ _ (.inl rfl) ?_
                  clear hK K
                  refine wpAnyG_ready (rs := [12]) (by kernel_rfl) (by simp) ?_
                  refine AllReadyG.cons rfl (fun K hK => ?_) AllReadyG.nil
                  go_simp
                  refine hK.out _ _ (.inl rfl) ?_
                  clear hK K
                  refine wpAnyG_ready (rs := [13]) (by kernel_rfl) (by simp) ?_
                  refine AllReadyG.cons rfl (fun K hK => ?_) AllReadyG.nil
                  go_simp
                  refine hK.out _ _ (.inl rfl) ?_
                  clear hK K
                  refine wpAnyG_ready (rs := [14]) (by kernel_rfl) (by simp) ?_
                  refine AllReadyG.cons rfl (fun K hK => ?_) AllReadyG.nil
                  go_simp
                  refine hK.out _ _ (.inl rfl) ?_
                  clear hK K
                  refine wpAnyG_ready (rs := [15]) (by kernel_rfl) (by simp) ?_
                  refine AllReadyG.cons rfl (fun K hK => ?_) AllReadyG.nil
                  go_simp
                  refine hK.out _ _ (.inl rfl) ?_
                  clear hK K
                  refine wpAnyG_done (by kernel_rfl) ?_ _
                  go_wp2_with fail
                  go_meet
                  exact ⟨ba, PA6, pn6, pc6, BA6, bc6, LA6, lc6, rfl, rfl, rfl, rfl, rfl, Lib.hid (m38 PK hge1 BA HMK.out HSEP.out)⟩
                refine AllReadyG.cons rfl (fun K hK => ?_) AllReadyG.nil
                go_simp
                have PKN := Below.alloc PK PK.size (.cells #[.int .i64 0, .int .i64 0, .int .i64 0, .slice none 0 0, .slice none 0 0] 53)
                refine hK.out _ _ (.inr PKN) ?_
                clear hK K
                have BA := Blk.new WW 53 #[.int .i64 0, .int .i64 0, .int .i64 0, .slice none 0 0, .slice none 0 0]
                have hge1 := PK.size
                obtain ⟨ba, hba⟩ : ∃ b, b = WW.heap.size := ⟨_, rfl⟩
                rw [← hba] at BA hge1 ⊢
                have PK := PKN
                clear PKN
                obtain ⟨WW, hWW⟩ : ∃ W, W = WW.alloc (.cells #[.int .i64 0, .int .i64 0, .int .i64 0, .slice none 0 0, .slice none 0 0] 53) := ⟨_, rfl⟩
                rw [← hWW] at PK BA ⊢
                clear hWW hba
                refine wpAnyG_ready (rs := [2]) (by kernel_rfl) (by simp) ?_
                refine AllReadyG.cons rfl (fun K hK => ?_) AllReadyG.nil
                go_simp
                refine (HBO.out _ PK).mono ?_
                rintro e WN ⟨rfl, hbN⟩
                try go_simp
                have PKN := below_then PK hbN
                refine hK.out _ _ (.inr PKN) ?_
                clear hK K
                have BA := BA.below hbN BA.lt
                have PK := PKN
                clear hbN PKN
                obtain ⟨WW, hWW⟩ : ∃ W, W = WN := ⟨_, rfl⟩
                rw [← hWW] at PK BA ⊢
                clear hWW
                refine wpAnyG_ready (rs := [3]) (by kernel_rfl) (by simp) ?_
                refine AllReadyG.cons rfl (fun K hK => ?_) AllReadyG.nil
                go_simp
                refine (HMO.out _ PK).mono ?_
                rintro e WN ⟨PA6, pn6, pc6, BA6, bc6, LA6, lc6, rfl, hbN, hP6, hB6, hL6, hlP, hlB⟩
                try go_simp
                have HMK := Lib.hid (M38.mk_ PK hbN hP6 hB6 hL6 hlP hlB)
                have PKN := below_then PK hbN
                refine hK.out _ _ (.inr PKN) ?_
                clear hK K
                have hlt := BA.lt
                have BA := BA.below hbN BA.lt
                have HSEP := Lib.hid (M38.sep_first HPG.out.1 hge1 hlt hlP hlB hL6 BA)
                clear hlt
                have PK := PKN
                clear hbN PKN hP6 hB6 hL6 hlP hlB
                obtain ⟨WW, hWW⟩ : ∃ W, W = WN := ⟨_, rfl⟩
                rw [← hWW] at PK HMK BA ⊢
                clear hWW
                refine wpAnyG_take (i := 4) (v := ?_) rfl (by kernel_rfl) (by kernel_rfl) (by kernel_rfl) (by kernel_rfl) (fun _ _ _ h => h) (Or.inl ⟨by rfl, ?_⟩) ((.inr PK)) ?_
                rotate_left
                · intro w' _; go_simp; try with_reducible rfl
                try simp only [Act.put, List.getElem_toArray, List.getElem_cons_zero, List.getElem_cons_succ, List.setIfInBounds_toArray, List.set_cons_zero, List.set_cons_succ]
                refine wpAnyG_take (i := 5) (v := ?_) rfl (by kernel_rfl) (by kernel_rfl) (by kernel_rfl) (by kernel_rfl) (fun _ _ _ h => h) (Or.inl ⟨by rfl, ?_⟩) ((.inr PK)) ?_
                rotate_left
                · intro w' _; go_simp; try with_reducible rfl
                try simp only [Act.put, List.getElem_toArray, List.getElem_cons_zero, List.getElem_cons_succ, List.setIfInBounds_toArray, List.set_cons_zero, List.set_cons_succ]
                refine wpAnyG_take (i := 6) (v := ?_) rfl (by kernel_rfl) (by kernel_rfl) (by kernel_rfl) (by kernel_rfl) (fun _ _ _ h => h) (Or.inl ⟨by rfl, ?_⟩) ((.inr PK)) ?_
                rotate_left
                · intro w' _; go_simp; try with_reducible rfl
                try simp only [Act.put, List.getElem_toArray, List.getElem_cons_zero, List.getElem_cons_succ, List.setIfInBounds_toArray, List.set_cons_zero, List.set_cons_succ]
                refine wpAnyG_take (i := 7) (v := ?_) rfl (by kernel_rfl) (by kernel_rfl) (by kernel_rfl) (by kernel_rfl) (fun _ _ _ h => h) (Or.inl ⟨by rfl, ?_⟩) ((.inr PK)) ?_
                rotate_left
                · intro w' _; go_simp; try with_reducible rfl
                try simp only [Act.put, List.getElem_toArray, List.getElem_cons_zero, List.getElem_cons_succ, List.setIfInBounds_toArray, List.set_cons_zero, List.set_cons_succ]
                refine wpAnyG_take (i := 8) (v := ?_) rfl (by kernel_rfl) (by kernel_rfl) (by kernel_rfl) (by kernel_rfl) (fun _ _ _ h => h) (Or.inl ⟨by rfl, ?_⟩) ((.inr PK)) ?_
                rotate_left
                · intro w' _; go_simp; try with_reducible rfl
                try simp only [Act.put, List.getElem_toArray, List.getElem_cons_zero, List.getElem_cons_succ, List.setIfInBounds_toArray, List.set_cons_zero, List.set_cons_succ]
                refine wpAnyG_take (i := 9) (v := ?_) rfl (by kernel_rfl) (by kernel_rfl) (by kernel_rfl) (by kernel_rfl) (fun _ _ _ h => h) (Or.inl ⟨by rfl, ?_⟩) ((.inr PK)) ?_
                rotate_left
                · intro w' _; go_simp; try with_reducible rfl
                try simp only [Act.put, List.getElem_toArray, List.getElem_cons_zero, List.getElem_cons_succ, List.setIfInBounds_toArray, List.set_cons_zero, List.set_cons_succ]
                have q0 := BA.cell 0; have q1 := BA.cell 1; have q2 := BA.cell 2; have q3 := BA.cell 3; have q4 := BA.cell 4; have f0 := BA.frozen 0; have f1 := BA.frozen 1; have f2 := BA.frozen 2; have f3 := BA.frozen 3; have f4 := BA.frozen 4
                simp only [List.getElem?_toArray, List.getElem?_cons_zero, List.getElem?_cons_succ] at q0 q1 q2 q3 q4
                have hbl := BA.lt
                refine wpAnyG_ready (rs := [11]) (by kernel_rfl) (by simp) ?_
                refine AllReadyG.cons rfl (fun K hK => ?_) AllReadyG.nil
                go_simp
                refine hK.out _ _ (.inl rfl) ?_
                clear hK K
                refine wpAnyG_ready (rs := [12]) (by kernel_rfl) (by simp) ?_
                refine AllReadyG.cons rfl (fun K hK => ?_) AllReadyG.nil
                go_simp
                refine hK.out _ _ (.inl rfl) ?_
                clear hK K
                refine wpAnyG_ready (rs := [13]) (by kernel_rfl) (by simp) ?_
                refine AllReadyG.cons rfl (fun K hK => ?_) AllReadyG.nil
                go_simp
                refine hK.out _ _ (.inl rfl) ?_
                clear hK K
                refine wpAnyG_ready (rs := [14]) (by kernel_rfl) (by simp) ?_
                refine AllReadyG.cons rfl (fun K hK => ?_) AllReadyG.nil
                go_simp
                refine hK.out _ _ (.inl rfl) ?_
                clear hK K
                refine wpAnyG_ready (rs := [15]) (by kernel_rfl) (by simp) ?_
                refine AllReadyG.cons rfl (fun K hK => ?_) AllReadyG.nil
                go_simp
                refine hK.out _ _ (.inl rfl) ?_
                clear hK K
                refine wpAnyG_done (by kernel_rfl) ?_ _
                go_wp2_with fail
                go_meet
                exact ⟨ba, PA6, pn6, pc6, BA6, bc6, LA6, lc6, rfl, rfl, rfl, rfl, rfl, Lib.hid (m38 PK hge1 BA HMK.out HSEP.out)⟩
              case rest => as_aux_lemma =>
                obtain ⟨ba, PA6, pn6, pc6, BA6, bc6, LA6, lc6, rfl, rfl, rfl, rfl, rfl, HM6⟩ := hcut
                generalize wc = w6 at HM6 ⊢
                have hst6 := (Step.refl [] w5 o5).below HM6.out.b 10
                have HP6 := Lib.hid (HM6.out.m.P.place HPG.out.1 HM6.out.m.lP)
                have HZ6 := Lib.hid (HM6.out.m.B.tag' HM6.out.m.lB o5 10)
                have HL6 := Lib.hid HM6.out.m.L; have HBA6 := Lib.hid HM6.out.x
                have HG6 := Lib.hid (HPG.out.2.step hst6 (by simp))
                have HE6 := Lib.hid (HE5.out.step hst6 (by simp)); have HY6 := Lib.hid (HY5.out.step hst6 (by simp)); have HD6 := Lib.hid (HL5.out.step hst6 (by simp)); have HI6 := Lib.hid (HI5.out.step hst6 (by simp))
                have HX6 := Lib.hid (HX5.out.step hst6 (by simp)); have HXB := Lib.hid (HBX5.out w6 HM6.out.b); have HST6 := Lib.hid (HST5.out.trans hst6.nil)
                have HBO6 := Lib.hid (fun W (hb : Below w6.heap.size w6 W) => HBO.out W (below_then HM6.out.b hb))
                have HOB6 : Hid (ext o5 w5.heap.size 10 ba = 10) := Lib.hid (ext_ge HM6.out.ge)
                clear hst6 HM6 HPG HE5 HY5 HL5 HI5 HX5 HXO5 HR5 HBX5 HST5 HBO HMO HCC HCX HQ5
                generalize ext o5 w5.heap.size 10 = o6 at HP6 HZ6 HG6 HE6 HY6 HD6 HI6 HX6 HST6 HOB6
                go_wp2_with fail
                refine (SameBytes_eq w6 o6 o6 31 10 A5 BA6 _ _ c5 bc6 ys HY6.out.sl HZ6.out).mono ?_
                rintro e w7 ⟨rfl, q7, hw7⟩
                have HW7 := Lib.hid hw7
                clear hw7
                have hst7 : Step [] w6 o6 w7 o6 := by rw [HW7.out]; exact (Step.refl [] w6 o6).drewN q7
                have hd7 := HD6.out.step hst7 (by simp)
                have hl7 : Sl w7 (fun _ => 0) 0 2 LA6 rs.length lc6 (reps rs) := by rw [HW7.out]; exact HL6.out
                have HSX := Lib.hid hd7; have HTX := Lib.hid hl7; have HST7 := Lib.hid hst7
                have HX7 := HX6.out.step hst7 (by simp)
                have x0 := HX7.cell 0; have x1 := HX7.cell 1; have x2 := HX7.cell 2; have x3 := HX7.cell 3
                have HB7 : Hid (Below w6.heap.size w6 w7) := Lib.hid (by rw [HW7.out]; exact below_drewN (Below.refl _ _) _)
                clear hd7 hl7 hst7
                go_wp2_with fail
                refine (sameReports_eq w7 o6 (fun _ => 0) 31 0 LA5 LA6 _ _ lc5 lc6 rs HSX.out HTX.out).mono ?_
                rintro e w8 ⟨rfl, q8, hw8⟩
                have hst8 : Step [] w6 o6 w8 o6 := HST7.out.trans (by rw [hw8]; exact (Step.refl [] w7 o6).drewN q8)
                have HB8 : Hid (Below w6.heap.size w6 w8) := Lib.hid (HB7.out.trans (by rw [hw8]; exact below_drewN (Below.refl _ _) _))
                have HX8 := HX6.out.step hst8 (by simp)
                have HST8 := Lib.hid hst8
                clear hw8 hst8 HSX HTX HST7 HX7 x0 x1 x2 x3 HB7 HD6 HL6 HW7
                have x0 := HX8.cell 0; have x1 := HX8.cell 1; have x2 := HX8.cell 2; have x3 := HX8.cell 3
                clear HX8
                go_wp2_with fail
                refine (HBO6.out w8 HB8.out).mono ?_
                rintro e w9 ⟨rfl, hb9⟩
                have hst9 := HST8.out.below hb9 30
                have HB9 := Lib.hid (below_then HB8.out hb9)
                have hown : ∀ b, b < w6.heap.size → ext o6 w8.heap.size 30 b = o6 b := fun b h => ext_lt (Nat.lt_of_lt_of_le h HST8.out.size)
                have HO9 := Lib.hid (hown _ HBA6.out.lt)
                have HST9 := Lib.hid hst9
                clear hb9 hst9 hown HST8 HB8 x0 x1 x2 x3
                generalize ext o6 w8.heap.size 30 = o9 at HST9 HO9
                have HI9 := Lib.hid (HI6.out.step HST9.out (by simp)); have HXB9 := Lib.hid (HXB.out.below HB9.out)
                clear HI6 HXB HB9 HBO6 HX6
                go_wp2_with fail
                refine (KeptBytes_any w9 o9 (fun _ => 0) 13 0 gi ci BA xl bc X HI9.out.sl HXB9.out (by omega)).mono ?_
                rintro e w10 ⟨rfl, q10, hw10⟩
                have hst10 : Step [] w9 o9 w10 o9 := by rw [hw10]; exact (Step.refl [] w9 o9).drewN q10
                have HST10 := Lib.hid (HST9.out.trans hst10)
                have HI10 := Lib.hid (HI9.out.step hst10 (by simp))
                clear hw10 HXB9 hst10 HI9 HST9
                have hif : Row w10 o9 13 5 1 (some ⟨gi, 0, none⟩) xl ci (byts X) := by
                  have h := HI10.out.first xl (by omega) (by omega)
                  have e : (byts (X ++ mkB 1 12)).take (xl * 1) = byts X := by rw [Nat.mul_one, HXL.out]; simp [byts]
                  rwa [e] at h
                have HIF := Lib.hid hif
                clear hif
                go_wp2_with fail
                refine (OverBytes_row w10 o9 13 (some ⟨gi, 0, none⟩) xl ci _ HIF.out (by omega)).mono ?_
                rintro e w11 ⟨rfl, hst11⟩
                have hst12 : Step [13] w6 o6 w11 o9 := HST10.out.nil.trans hst11
                have hN := HBA6.out.step hst12 (by rw [HOB6.out]; simp)
                have HST12 : Hid (Step [2 + s, 13] w4 o4 w11 o9) := Lib.hid ((HST6.out.mono (by simp)).trans (hst12.mono (by simp)))
                have HE12 := Lib.hid (HE6.out.step hst12 (by simp <;> omega)); have HP12 := Lib.hid (HP6.out.step hst12 (by simp)); have HG12 := Lib.hid (HG6.out.step hst12 (by simp)); have HZ12 := Lib.hid (HZ6.out.step hst12 (by simp)); have HY12 := Lib.hid (HY6.out.step hst12 (by simp))
                clear hst11 hst12 HIF HI10 HST10 HST6 HE6 HP6 HG6 HZ6 HY6
                have q0 := hN.cell 0; have q1 := hN.cell 1; have q2 := hN.cell 2; have q3 := hN.cell 3; have q4 := hN.cell 4
                have hb1 := HK4.out.b1.step HST12.out (by rw [HK4.out.t1]; simp <;> omega)
                have f0 := hb1.frozen (s * 5); have f1 := hb1.frozen (s * 5 + 1); have f2 := hb1.frozen (s * 5 + 2); have f3 := hb1.frozen (s * 5 + 3); have f4 := hb1.frozen (s * 5 + 4)
                obtain ⟨r0, r1', r2, r3, r4⟩ := refc_blk hb1 hs2
                have hbl1 := hb1.lt
                clear hN hb1
                go_upto_region 43 with fail
                obtain ⟨w12, hw12⟩ : ∃ w12, w12 = (((((w11.setCell ⟨w.heap.size + 1, s * 5, none⟩ (.int .i64 r1.own)).setCell ⟨w.heap.size + 1, s * 5 + 1, none⟩ (.int .i64 r1.other)).setCell ⟨w.heap.size + 1, s * 5 + 2, none⟩ (.int .i64 r1.next)).setCell ⟨w.heap.size + 1, s * 5 + 3, none⟩ (.slice PA6 pn6 pc6)).setCell ⟨w.heap.size + 1, s * 5 + 4, none⟩ (.slice (v s).GA (v s).gn (v s).gc)) := ⟨_, rfl⟩
                obtain ⟨bd1, bd2, bd3, bd4⟩ := HBD.out
                have hside := (HK4.out.S s hs2).recv HST12.out (by simp <;> omega) (by simp <;> omega) HE12.out HFIT.out HREL.out HP12.out (by rw [bd4]; exact HG12.out) (by omega) bd2 bd3 (by rw [bd4]; omega)
                obtain ⟨u, hu⟩ : ∃ u : TV, u = { v s with S := S1, r := r1, PA := PA6, pn := pn6, pc := pc6, GA := (v s).GA, gn := (v s).gn, gc := (v s).gc } := ⟨_, rfl⟩
                have m22 : o9 (w.heap.size + 1) ∈ [22] := by rw [(HST12.out.own _ HK4.out.b1.lt).trans HK4.out.t1]; simp
                have hst12 : Step [22] w11 o9 w12 o9 := by rw [hw12]; exact (((((Step.refl _ _ _).setCell (.inr m22) _).setCell (.inr m22) _).setCell (.inr m22) _).setCell (.inr m22) _).setCell (.inr m22) _
                have HTS := Lib.hid (HK4.out.put hs2 (Nat.le_succ k) _ HST12.out (by simp) hside rfl ⟨rfl, rfl, rfl⟩ hw12)
                have hup : u.MA = (v s).MA ∧ u.mn = (v s).mn ∧ u.mc = (v s).mc ∧ u.ps = (v s).ps := by rw [hu]; exact ⟨rfl, rfl, rfl, rfl⟩
                rw [← hu] at HTS
                rw [← hw12]
                have HUP := Lib.hid hup
                have HY13 := Lib.hid (HY12.out.step hst12 (by simp)); have HZ13 := Lib.hid (HZ12.out.step hst12 (by simp))
                have hpk := (HK4.out.S s hs2).pn
                clear hw12 hst12 hside m22 bd1 bd2 bd3 bd4 HY12 HZ12 HE12 HP12 HG12 HST12 q0 q1 q2 q3 q4 f0 f1 f2 f3 f4 r0 r1' r2 r3 r4 hbl1 hup hu HBD HFIT HREL HK4
                rcases HYS.out with ⟨rfl, hy1, hy2⟩ | ⟨hne, -⟩
                · clear HYS
                  have hS12 := HTS.out.S s hs2
                  rw [upd_same] at hS12
                  obtain ⟨vs, hrow, hvl, hvp⟩ := hS12.m
                  have c2 := HTS.out.madec hs2
                  rw [upd_same, HUP.out.1, HUP.out.2.1, HUP.out.2.2.1] at c2
                  rw [HUP.out.1, HUP.out.2.1, HUP.out.2.2.1] at hrow
                  rw [HUP.out.2.2.2] at hvl hvp
                  have hmn : (v s).mn ≤ 100 := by have := hrow.len; simp at this; omega
                  have HROW := Lib.hid hrow; have HVP := Lib.hid (And.intro hvl hvp)
                  have hw2 : w.heap.size + 2 ≠ w12.heap.size := by have := HTS.out.b2.lt; omega
                  clear hS12 hrow hvl hvp
                  go_upto_region 45 with (at_builtin; refine wpList_append_row _ rfl (.tmp 226) (.tmp 228) _ rfl el_sl (ext o9 w12.heap.size 31) (4 + s) (v s).MA (v s).mn (v s).mc vs rfl (HROW.out.step ((Step.refl [] w12 o9).alloc _ 31) (by simp)) _ _ _ 1 1 _ rfl (Sl.fresh w12 27 1 1 [.slice BA6 ys.length bc6] rfl (by decide)) (by simp [Value.oneCell']) (by omega) (by simp only [maxLen]; omega) ?_; intro A8 c8 w8 hr8 hg8 hat8; have st8 := ((Step.refl [4 + s] w12 o9).alloc _ 31).trans (Step.append (HROW.out.step ((Step.refl [] w12 o9).alloc _ 31) (by simp)) hg8 (4 + s)); have d2 := HTS.out.b2.step st8 (by rw [HTS.out.t2]; simp <;> omega); have d3 := (d2.cell s).trans ((HTS.out.b2.cell s).symm.trans c2); have d4 := d2.frozen s; have H8 := Lib.hid (And.intro st8 hr8); clear st8 hr8 hg8 hat8 d2)
                  obtain ⟨o8, HH8⟩ : ∃ o8, Hid (Step [4 + s] w12 o9 w8 o8 ∧ Row w8 o8 (4 + s) 27 1 A8 ((v s).mn + 1) c8 (vs ++ [.slice BA6 ys.length bc6])) := ⟨_, H8⟩
                  clear H8 d3 d4 c2
                  obtain ⟨w13, hw13⟩ : ∃ w13, w13 = w8.setCell ⟨w.heap.size + 2, s, none⟩ (.slice A8 ((v s).mn + 1) c8) := ⟨_, rfl⟩
                  rw [← hw13]
                  obtain ⟨⟨u2, htf⟩, hyf⟩ := TS.more HTS.out hs2 HH8.out.1 HH8.out.2 HVP.out.1 HVP.out.2 HUP.out.2.2.2 HZ13.out ⟨hy1, hy2⟩ HY13.out hpk hw13
                  have HTF := Lib.hid htf; have HYF := Lib.hid hyf
                  clear hw13 htf hyf HH8 HROW HVP HTS HY13 HZ13 hw2 HUP
                  go_wp2_with fail
                  refine (OverBytes_row w13 o8 31 A5 _ c5 _ HYF.out (by omega)).mono ?_
                  rintro e w14 ⟨rfl, hst14⟩
                  have HTG := Lib.hid (HTF.out.step hst14 (by simp))
                  clear hst14 HYF HTF
                  go_wp2_with fail
                  go_meet
                  exact ⟨_, _, HTG⟩
                · have hdc : (code == 0) = false := by simpa using hne
                  clear hne HYS
                  go_wp2_with fail
                  go_meet
                  exact ⟨_, _, HTS⟩
          · have hS := HK2.out.S s hs2
            have hf := hS.rfit (by omega)
            by_cases hg : (v s).r.got = []
            ·
              have hh : ¬ (v s).S.other ≤ (v s).S.newest := fun h => (hS.rel.some.1 h) hg
              have HO := Lib.hid (Only_none w2 o2 _ _ _ hS.E hh)
              clear hS hf hh
              go_wp2_with fail
              refine HO.out.mono ?_
              rintro e w3 ⟨rfl, q3, hw3⟩
              have st3 : Step [] w2 o2 w3 o2 := by rw [hw3]; exact (Step.refl [] w2 o2).drewN q3
              clear hw3
              have hb3 := HR2.out.step st3 (by simp)
              have HK3 := Lib.hid (HK2.out.step st3 (by simp))
              have q0 := hb3.cell 0; have q1 := hb3.cell 1; have q2 := hb3.cell 2; have q3' := hb3.cell 3; have q4 := hb3.cell 4
              clear hb3 st3 HO
              go_wp2_with fail
              refine (ROnly_none w3 (v s).r hg (v s).PA (v s).pn (v s).pc (v s).GA (v s).gn (v s).gc o2 10 (HK3.out.S s hs2).hG).mono ?_
              rintro e w4 ⟨rfl, hb4⟩
              have HK4 := Lib.hid (HK3.out.step ((Step.refl [] w3 o2).below hb4 30) (by simp))
              clear hb4 q0 q1 q2 q3' q4
              go_wp2_with fail
              refine (SameBytes_eq w4 (fun _ => 0) (fun _ => 0) 0 0 none none 0 0 0 0 [] (Sl.nil_ _ _ _ _ _ _ (Nat.zero_le _)) (Sl.nil_ _ _ _ _ _ _ (Nat.zero_le _))).mono ?_
              rintro e w5 ⟨rfl, q5, hw5⟩
              generalize ext o2 w3.heap.size 30 = o4 at HK4
              have st5 : Step [] w4 o4 w5 o4 := by rw [hw5]; exact (Step.refl [] w4 o4).drewN q5
              clear hw5
              have HK5 := Lib.hid (HK4.out.step st5 (by simp))
              clear st5
              go_wp2_with fail
              go_meet
              exact ⟨v s, o4, Lib.hid (by unfold TelQ; rw [upd_self]; exact HK5.out.up)⟩
            ·
              have hh : (v s).S.other ≤ (v s).S.newest := hS.rel.some.2 hg
              have HO := Lib.hid (Only_ok w2 o2 _ 31 _ _ hS.E hS.fit hh)
              obtain ⟨Y, hY⟩ : ∃ Y, Y = refBytes (v s).r (-1) [] := ⟨_, rfl⟩
              have hYa : ackP (v s).S = Y := (only_ref hS.rel hg).trans hY.symm
              rw [hYa] at HO
              have HYL : Hid (1 ≤ Y.length ∧ Y.length ≤ 2000) := Lib.hid (by rw [← hYa]; simp [ackP, bytesOf_len])
              have HYY := Lib.hid hY
              clear hS hh hYa hY
              go_wp2_with fail
              refine HO.out.mono ?_
              rintro e w3 ⟨QA, qc, o3, rfl, st3, hr3⟩
              have hb3 := HR2.out.step st3 (by simp)
              have HK3 := Lib.hid (HK2.out.step st3 (by simp)); have HQ3 := Lib.hid hr3
              have q0 := hb3.cell 0; have q1 := hb3.cell 1; have q2 := hb3.cell 2; have q3' := hb3.cell 3; have q4 := hb3.cell 4
              clear hb3 st3 HO hr3
              go_wp2_with fail
              refine (ROnly_new w3 o3 10 (v s).r hf hg (v s).PA (v s).pn (v s).pc (v s).GA (v s).gn (v s).gc (HK3.out.S s hs2).hG).mono ?_
              rintro e w4 ⟨TA, tc, rfl, hb4, hs4, hf4⟩
              rw [← HYY.out] at hs4 ⊢
              have st4 := (Step.refl [] w3 o3).below hb4 10
              have HK4 := Lib.hid (HK3.out.step st4 (by simp)); have HQ4 := Lib.hid (HQ3.out.step st4 (by simp)); have HT4 := Lib.hid (hs4.tag hf4 o3 10)
              clear hb4 hs4 hf4 st4 q0 q1 q2 q3' q4 HQ3
              generalize ext o3 w3.heap.size 10 = o4 at HK4 HQ4 HT4
              go_wp2_with fail
              refine (SameBytes_eq w4 o4 o4 31 10 QA TA _ _ qc tc Y HQ4.out.sl HT4.out).mono ?_
              rintro e w5 ⟨rfl, q5, hw5⟩
              have st5 : Step [] w4 o4 w5 o4 := by rw [hw5]; exact (Step.refl [] w4 o4).drewN q5
              clear hw5
              have HK5 := Lib.hid (HK4.out.step st5 (by simp)); have HT5 := Lib.hid (HT4.out.step st5 (by simp))
              clear st5
              have hS5 := HK5.out.S s hs2
              obtain ⟨vs, hrow, hvl, hvp⟩ := hS5.m
              have hpn := hS5.pn
              have hmn : (v s).mn ≤ 100 := by have := hrow.len; simp at this; omega
              have HROW := Lib.hid hrow; have HVP := Lib.hid (And.intro hvl hvp)
              have c2 := HK5.out.madec hs2
              have hw2 : w.heap.size + 2 ≠ w5.heap.size := by have := HK5.out.b2.lt; omega
              clear hS5 hrow hvl hvp hpn HK2 HK3 HK4 HQ4 HT4
              go_wp2_with (at_builtin; refine wpList_append_row _ rfl (.tmp 259) (.tmp 261) _ rfl el_sl (ext o4 w5.heap.size 31) (4 + s) (v s).MA (v s).mn (v s).mc vs rfl (HROW.out.step ((Step.refl [] w5 o4).alloc _ 31) (by simp)) _ _ _ 1 1 _ rfl (Sl.fresh w5 27 1 1 [.slice TA Y.length tc] rfl (by decide)) (by simp [Value.oneCell']) (by omega) (by simp only [maxLen]; omega) ?_; intro A8 c8 w8 hr8 hg8 hat8; have st8 := ((Step.refl [4 + s] w5 o4).alloc _ 31).trans (Step.append (HROW.out.step ((Step.refl [] w5 o4).alloc _ 31) (by simp)) hg8 (4 + s)); have d2 := HK5.out.b2.step st8 (by rw [HK5.out.t2]; simp <;> omega); have d3 := (d2.cell s).trans ((HK5.out.b2.cell s).symm.trans c2); have d4 := d2.frozen s; have H8 := Lib.hid (And.intro st8 hr8); clear st8 hr8 hg8 hat8 d2)
              go_meet
              obtain ⟨h81, h82⟩ := H8.out
              refine ⟨_, _, Lib.hid (TS.made HK5.out hs2 h81 (made_snoc HVP.out.1 HVP.out.2 h81 (by simp <;> omega) h82 (HT5.out.step h81 (by simp <;> omega))) ?_ rfl)⟩
              exact HYL.out
          ·
            obtain ⟨s', hs'⟩ : ∃ s', s' = 1 - s := ⟨_, rfl⟩
            have hs'2 : s' < 2 := by omega
            have hsub : (1 : Int) - (s : Int) = (s' : Int) := by omega
            have HSE := Lib.hid hs'
            clear hs'
            have HCH := Lib.hid (chosen_R w2.drew o2 (4 + s') 0 K S T a1 a3 BA (v s').MA bn bc (v s').mn (v s').mc B (HB2.out.step (Step.refl [] w2 o2).drew (by simp)) HBN.out (v s').ps (by omega) ((HK2.out.S s' hs'2).m.step (Step.refl [] w2 o2).drew (by simp <;> omega) (by simp)) (HK2.out.S s' hs'2).pl (by have := (HK2.out.S s' hs'2).pn; omega))
            have k0 : w2.cell? ⟨gx, 0, none⟩ = some (.int .u8 K) := HX2.out.cell 0
            have k1 : w2.cell? ⟨gx, 1, none⟩ = some (.int .u8 S) := HX2.out.cell 1
            have k2 : w2.cell? ⟨gx, 2, none⟩ = some (.int .u8 T) := HX2.out.cell 2
            have k3 : w2.cell? ⟨gx, 3, none⟩ = some (.slice BA bn bc) := HX2.out.cell 3
            have m2 := HK2.out.madec hs'2
            have hwr : IntKind.i64.wrap ((1 : Int) - (s : Int)) = (s' : Int) := by rw [hsub]; exact IntWalk.i64_in _ (by omega)
            have hwr2 : IntKind.i64.wrap (s' : Int) = (s' : Int) := IntWalk.i64_in _ (by omega)
            have hs'0 : (0 : Int) ≤ (s' : Int) := by omega
            have hs'1 : (s' : Int) < 2 := by omega
            have hsz : (0 : Int) ≤ (1 : Int) - (s : Int) := by omega
            have hsz1 : (1 : Int) - (s : Int) < 2 := by omega
            have HX0 : w2.drew.cell? ⟨gx, 0, none⟩ = some (.int .u8 K) ∧ w2.drew.cell? ⟨gx, 1, none⟩ = some (.int .u8 S) ∧ w2.drew.cell? ⟨gx, 2, none⟩ = some (.int .u8 T) ∧ w2.drew.cell? ⟨gx, 3, none⟩ = some (.slice BA bn bc) ∧ w2.drew.cell? ⟨w.heap.size + 2, s', none⟩ = some (.slice (v s').MA (v s').mn (v s').mc) := ⟨k0, k1, k2, k3, m2⟩
            have UPC := Lib.hid (fun w3 (hb : Below w2.drew.heap.size w2.drew w3) => show w3.cell? ⟨gx, 0, none⟩ = some (.int .u8 K) ∧ w3.cell? ⟨gx, 1, none⟩ = some (.int .u8 S) ∧ w3.cell? ⟨gx, 2, none⟩ = some (.int .u8 T) ∧ w3.cell? ⟨gx, 3, none⟩ = some (.slice BA bn bc) ∧ w3.cell? ⟨w.heap.size + 2, s', none⟩ = some (.slice (v s').MA (v s').mn (v s').mc) from
              ⟨(hb.cell (p := ⟨gx, 0, none⟩) HX2.out.lt).trans k0, (hb.cell (p := ⟨gx, 1, none⟩) HX2.out.lt).trans k1, (hb.cell (p := ⟨gx, 2, none⟩) HX2.out.lt).trans k2, (hb.cell (p := ⟨gx, 3, none⟩) HX2.out.lt).trans k3, (hb.cell (p := ⟨w.heap.size + 2, s', none⟩) HK2.out.b2.lt).trans m2⟩)
            go_upto_region 22 with fail
            go_region_held3 (fun w' => w'.cell? ⟨gx, 0, none⟩ = some (.int .u8 K) ∧ w'.cell? ⟨gx, 1, none⟩ = some (.int .u8 S) ∧ w'.cell? ⟨gx, 2, none⟩ = some (.int .u8 T) ∧ w'.cell? ⟨gx, 3, none⟩ = some (.slice BA bn bc) ∧ w'.cell? ⟨w.heap.size + 2, s', none⟩ = some (.slice (v s').MA (v s').mn (v s').mc))
              (first | with_reducible exact HX0 | with_reducible exact HUP)
              (first | (go_at_call 31; refine HCH.out.mono ?_; intro e w3 hch; obtain ⟨p, pl, pA, pc, ok, rfl, hpl, hpm, hb3, hps, hpL⟩ := hch.one; have HUP := UPC.out _ hb3; have HPL := Lib.hid hpl; have HB3 := Lib.hid hb3; have HPS := Lib.hid hps; have HPP := Lib.hid hpL; clear hch hpl hb3 hps hpL))
            clear k0 k1 k2 k3 m2 HX0 UPC HCH hwr hwr2 hs'0 hs'1 hsz hsz1 hsub HUP
            have hst3 : Step [] w2 o2 w3 (ext o2 w2.heap.size 0) := (Step.refl [] w2 o2).drew.below HB3.out 0
            cases ok
            · have HK3 := Lib.hid (HK2.out.step hst3 (by simp))
              clear hst3 HB3 HPS HPP HPL HK2
              go_wp2_with fail
              exact ⟨⟨k + 1, _, v, by omega, by go_num, Lib.hid HK3.out.up⟩, by simp [intOf]; omega⟩
            · have hps3 : Sl w3 (ext o2 w2.heap.size 0) 0 1 pA pl pc (byts p) := by
                rcases HPP.out with ⟨h1, h2⟩ | h
                · exact HPS.out.loc (w := w2) HB2.out (.inl h1) (fun h => .inl (by omega))
                · exact HPS.out.tag' (w := w2) h o2 0
              have HP3 := Lib.hid hps3
              have HK3 := Lib.hid (HK2.out.step hst3 (by simp))
              have HX3 := Lib.hid (HX2.out.step hst3 (by simp)); have HXO3 := Lib.hid ((hst3.own _ HX2.out.lt).trans HXO2.out)
              have HR3 := Lib.hid (HR2.out.step hst3 (by simp)); have HRO3 := Lib.hid ((hst3.own _ HR2.out.lt).trans HRO.out)
              have HST3 := Lib.hid (HST2.out.trans hst3.nil)
              clear hps3 hst3 HK2 HX2 HXO2 HR2 HRO HB2 HB3 HPS HPP HST2
              generalize ext o2 w2.heap.size 0 = o3 at HP3 HK3 HX3 HXO3 HR3 HRO3 HST3
              have hsd := HK3.out.S s hs2
              obtain ⟨S1, r1, body, rs, code, hR1, hR2, hrel, hfit, hnw, hnx, hot, hgl, hbl⟩ := recv_both hsd.rel hsd.fit p (by have := hsd.nw; omega)
              have hrf := hsd.rfit (by omega)
              have HR1 := Lib.hid hR1; have HRR := Lib.hid hR2; have HREL := Lib.hid hrel; have HFIT := Lib.hid hfit; have HBD := Lib.hid (And.intro hnw (And.intro hnx (And.intro hot hgl))); have HRF := Lib.hid hrf
              clear hsd hR1 hR2 hrel hfit hnw hnx hot hgl hrf
              go_wp2_with fail
              refine (LentBytes_any w3 o3 0 pA pl pc p HP3.out hpm).mono ?_
              rintro e w4 ⟨gi, ci, rfl, hb4, hgi, hr4⟩
              have hst4 := (Step.refl [] w3 o3).below hb4 13
              have HI4 := Lib.hid (hr4.tag o3 13)
              have HK4 := Lib.hid (HK3.out.step hst4 (by simp)); have HP4 := Lib.hid (HP3.out.step hst4 (by simp))
              have HR4 := Lib.hid (HR3.out.step hst4 (by simp)); have HRO4 := Lib.hid ((hst4.own _ HR3.out.lt).trans HRO3.out)
              have HST4 := Lib.hid (HST3.out.trans hst4.nil)
              clear hst4 hb4 hgi hr4 HK3 HP3 HR3 HRO3 HST3 HX3 HXO3
              generalize ext o3 w3.heap.size 13 = o4 at HI4 HK4 HP4 HR4 HRO4 HST4
              have hif : Row w4 o4 13 5 1 (some ⟨gi, 0, none⟩) pl ci (byts p) := by
                have h := HI4.out.first pl (by omega) (by omega)
                have e : (byts (p ++ mkB 1 12)).take (pl * 1) = byts p := by rw [Nat.mul_one, HPL.out]; simp [byts]
                rwa [e] at h
              have HIF := Lib.hid hif
              clear hif
              go_wp2_with fail
              refine (Receive_any w4 o4 (2 + s) 13 31 (v s).e (v s).S (HK4.out.S s hs2).E (HK4.out.S s hs2).fit (by omega) (by omega) (some ⟨gi, 0, none⟩) ci pl p HIF.out.sl (by omega)).mono ?_
              rw [HR1.out]
              rintro e w5 ⟨BA5, bc5, RA5, rc5, o5, rfl, hst5, hE5, hB5, hS5⟩
              simp only at hE5 hB5 hS5 ⊢
              have hsv := HK4.out.S s hs2
              have HE5 := Lib.hid hE5; have HB5 := Lib.hid hB5; have HS5 := Lib.hid hS5; have HST5 := Lib.hid hst5
              have HPG := Lib.hid (And.intro (hsv.hP.step hst5 (by simp <;> omega)) (hsv.hG.step hst5 (by simp <;> omega)))
              have HP5 := Lib.hid (HP4.out.step hst5 (by simp <;> omega)); have HI5 := Lib.hid (HI4.out.step hst5 (by simp <;> omega))
              have HR5 := Lib.hid (HR4.out.step hst5 (by rw [HRO4.out]; simp <;> omega)); have HRO5 := Lib.hid ((hst5.own _ HR4.out.lt).trans HRO4.out)
              have q0 := HR5.out.cell 0; have q1 := HR5.out.cell 1; have q2 := HR5.out.cell 2; have q3 := HR5.out.cell 3; have q4 := HR5.out.cell 4
              clear hsv hE5 hB5 hS5 hst5 HP4 HI4 HIF HR4 HRO4 HR1
              go_wp2_with fail
              refine (RRecv_any w5 o5 (ext o5 w5.heap.size 10) 10 0 (v s).r HRF.out (v s).PA (v s).pn (v s).pc (v s).GA (v s).gn (v s).gc HPG.out.1 HPG.out.2 pA pl pc p (HP5.out.ext_ 10) (by omega)).mono ?_
              rw [HRR.out]
              rintro e w6 ⟨PA6, pn6, pc6, GA6, gn6, gc6, WA6, wc6, TA6, tc6, rfl, hb6, hP6, hG6, hW6, hT6, hlP, hlG⟩
              simp only at hP6 hG6 hW6 hT6 ⊢
              have hst6 := (Step.refl [] w5 o5).below hb6 10
              have HPP6 := Lib.hid (hP6.place HPG.out.1 hlP); have HGG6 := Lib.hid (hG6.place HPG.out.2 hlG)
              have HW6 := Lib.hid hW6; have HT6 := Lib.hid hT6
              have HE6 := Lib.hid (HE5.out.step hst6 (by simp)); have HB6 := Lib.hid (HB5.out.step hst6 (by simp)); have HS6 := Lib.hid (HS5.out.step hst6 (by simp))
              have HP6 := Lib.hid (HP5.out.step hst6 (by simp)); have HI6 := Lib.hid (HI5.out.step hst6 (by simp))
              have HST6 := Lib.hid (HST5.out.trans hst6.nil)
              clear hst6 hb6 hP6 hG6 hW6 hT6 hlP hlG HPG HE5 HB5 HS5 HP5 HI5 HR5 HRO5 HST5 HRR q0 q1 q2 q3 q4
              generalize ext o5 w5.heap.size 10 = o6 at HPP6 HGG6 HW6 HE6 HB6 HS6 HP6 HI6 HST6
              go_upto_region 27 with fail
              have hst7 := (Step.refl [] w6 o6).alloc (.cells #[.int .i64 r1.own, .int .i64 r1.other, .int .i64 r1.next, .slice PA6 pn6 pc6, .slice GA6 gn6 gc6] 53) 30
              have HN7 := Lib.hid (Blk.new w6 53 #[.int .i64 r1.own, .int .i64 r1.other, .int .i64 r1.next, .slice PA6 pn6 pc6, .slice GA6 gn6 gc6])
              have HPP7 := Lib.hid (HPP6.out.step hst7 (by simp)); have HGG7 := Lib.hid (HGG6.out.step hst7 (by simp)); have HW7 := Lib.hid (HW6.out.step hst7 (by simp))
              have HT7 := Lib.hid (HT6.out.below ((Below.refl w6.heap.size w6).alloc (Nat.le_refl _) (.cells #[.int .i64 r1.own, .int .i64 r1.other, .int .i64 r1.next, .slice PA6 pn6 pc6, .slice GA6 gn6 gc6] 53)))
              have HE7 := Lib.hid (HE6.out.step hst7 (by simp)); have HB7 := Lib.hid (HB6.out.step hst7 (by simp)); have HS7 := Lib.hid (HS6.out.step hst7 (by simp))
              have HP7 := Lib.hid (HP6.out.step hst7 (by simp)); have HI7 := Lib.hid (HI6.out.step hst7 (by simp))
              have HST7 := Lib.hid (HST6.out.trans hst7.nil)
              have HO7 : Hid (ext o6 w6.heap.size 30 w6.heap.size = 30) := Lib.hid (ext_ge (Nat.le_refl _))
              clear hst7 HPP6 HGG6 HW6 HT6 HE6 HB6 HS6 HP6 HI6 HST6
              generalize w6.heap.size = g7 at HN7 HPP7 HGG7 HW7 HT7 HE7 HB7 HS7 HP7 HI7 HST7 HO7 ⊢
              generalize ext o6 g7 30 = o7 at HPP7 HGG7 HW7 HT7 HE7 HB7 HS7 HP7 HI7 HST7 HO7
              generalize w6.alloc (.cells #[.int .i64 r1.own, .int .i64 r1.other, .int .i64 r1.next, .slice PA6 pn6 pc6, .slice GA6 gn6 gc6] 53) = w7 at HN7 HPP7 HGG7 HW7 HT7 HE7 HB7 HS7 HP7 HI7 HST7 ⊢
              go_wp2_with fail
              refine (SameBytes_eq w7 o7 o7 31 0 BA5 WA6 _ _ bc5 wc6 body HB7.out.sl HW7.out).mono ?_
              rintro e w8 ⟨rfl, q8, hw8⟩
              have HW8 := Lib.hid hw8
              clear hw8
              have hst8 : Step [] w7 o7 w8 o7 := by rw [HW8.out]; exact (Step.refl [] w7 o7).drewN q8
              have hs8 := HS7.out.step hst8 (by simp)
              have ht8 : Sl w8 (fun _ => 0) 0 2 TA6 rs.length tc6 (reps rs) := by rw [HW8.out]; exact HT7.out
              have HSX := Lib.hid hs8; have HTX := Lib.hid ht8; have HST8 := Lib.hid hst8
              clear hs8 ht8 hst8
              go_wp2_with fail
              refine (sameReports_eq w8 o7 (fun _ => 0) 31 0 RA5 TA6 _ _ rc5 tc6 rs HSX.out HTX.out).mono ?_
              rintro e w9 ⟨rfl, q9, hw9⟩
              have hst9 : Step [] w7 o7 w9 o7 := HST8.out.trans (by rw [hw9]; exact (Step.refl [] w8 o7).drewN q9)
              clear hw9 HSX HTX HW8 HST8
              have HP9 := Lib.hid (HP7.out.step hst9 (by simp)); have HI9 := Lib.hid (HI7.out.step hst9 (by simp)); have HST9 := Lib.hid hst9
              clear hst9 HT7 HS7
              go_wp2_with fail
              refine (KeptBytes_any w9 o7 o7 13 0 gi ci pA pl pc p HI9.out.sl HP9.out hpm).mono ?_
              rintro e w10 ⟨rfl, q10, hw10⟩
              have hst10 : Step [] w7 o7 w10 o7 := HST9.out.trans (by rw [hw10]; exact (Step.refl [] w9 o7).drewN q10)
              clear hw10 HP9 HI9 HST9
              have hN10 := HN7.out.step hst10 (by simp)
              have HPP10 := HPP7.out.step hst10 (by simp); have HGG10 := HGG7.out.step hst10 (by simp)
              have HW10 := Lib.hid (HW7.out.step hst10 (by simp)); have HB10 := Lib.hid (HB7.out.step hst10 (by simp)); have HI10 := Lib.hid (HI7.out.step hst10 (by simp))
              have HST10 := HST7.out.trans hst10.nil
              obtain ⟨bd1, bd2, bd3, bd4⟩ := HBD.out
              have hside := (HK4.out.S s hs2).recv HST10 (by simp <;> omega) (by simp <;> omega) (HE7.out.step hst10 (by simp)) HFIT.out HREL.out HPP10 HGG10 bd1 (by omega) bd3 bd4
              have HSIDE := Lib.hid hside; have HSTX := Lib.hid HST10
              have q0 := hN10.cell 0; have q1 := hN10.cell 1; have q2 := hN10.cell 2; have q3 := hN10.cell 3; have q4 := hN10.cell 4
              have hb1 := HK4.out.b1.step HST10 (by rw [HK4.out.t1]; simp <;> omega)
              have f0 := hb1.frozen (s * 5); have f1 := hb1.frozen (s * 5 + 1); have f2 := hb1.frozen (s * 5 + 2); have f3 := hb1.frozen (s * 5 + 3); have f4 := hb1.frozen (s * 5 + 4)
              obtain ⟨r0, r1', r2, r3, r4⟩ := refc_blk hb1 hs2
              have hbl1 := hb1.lt
              clear hst10 hN10 HPP10 HGG10 HST10 bd1 bd2 bd3 bd4 hside hb1 HN7 HPP7 HGG7 HW7 HE7 HB7 HP7 HI7 HST7 HBD HFIT HREL HRF
              go_upto_region 30 with fail
              obtain ⟨w11, hw11⟩ : ∃ w11, w11 = (((((w10.setCell ⟨w.heap.size + 1, s * 5, none⟩ (.int .i64 r1.own)).setCell ⟨w.heap.size + 1, s * 5 + 1, none⟩ (.int .i64 r1.other)).setCell ⟨w.heap.size + 1, s * 5 + 2, none⟩ (.int .i64 r1.next)).setCell ⟨w.heap.size + 1, s * 5 + 3, none⟩ (.slice PA6 pn6 pc6)).setCell ⟨w.heap.size + 1, s * 5 + 4, none⟩ (.slice GA6 gn6 gc6)) := ⟨_, rfl⟩
              have m22 : o7 (w.heap.size + 1) ∈ [22] := by rw [(HSTX.out.own _ HK4.out.b1.lt).trans HK4.out.t1]; simp
              have hst11 : Step [22] w10 o7 w11 o7 := by rw [hw11]; exact (((((Step.refl _ _ _).setCell (.inr m22) _).setCell (.inr m22) _).setCell (.inr m22) _).setCell (.inr m22) _).setCell (.inr m22) _
              have HTS := Lib.hid (HK4.out.put hs2 (Nat.le_succ k) _ HSTX.out (by simp) HSIDE.out rfl ⟨rfl, rfl, rfl⟩ hw11)
              rw [← hw11]
              have HW11 := Lib.hid (HW10.out.step hst11 (by simp)); have HB11 := Lib.hid (HB10.out.step hst11 (by simp)); have HI11 := Lib.hid (HI10.out.step hst11 (by simp))
              clear hw11 m22 hst11 HW10 HB10 HI10 HSTX HSIDE q0 q1 q2 q3 q4 f0 f1 f2 f3 f4 r0 r1' r2 r3 r4 hbl1
              have hif : Row w11 o7 13 5 1 (some ⟨gi, 0, none⟩) pl ci (byts p) := by
                have h := HI11.out.first pl (by omega) (by omega)
                have e : (byts (p ++ mkB 1 12)).take (pl * 1) = byts p := by rw [Nat.mul_one, HPL.out]; simp [byts]
                rwa [e] at h
              have HIF := Lib.hid hif
              clear hif
              go_wp2_with fail
              refine (OverBytes_row w11 o7 13 (some ⟨gi, 0, none⟩) pl ci _ HIF.out (by omega)).mono ?_
              rintro e w12 ⟨rfl, hst12⟩
              have HW12 := Lib.hid (HW11.out.step hst12 (by simp)); have HB12 := Lib.hid (HB11.out.step hst12 (by simp)); have HTS12 := Lib.hid (HTS.out.step hst12 (by simp))
              clear hst12 HW11 HB11 HI11 HIF HTS
              go_wp2_with fail
              refine (SameBytes_eq w12 o7 o7 31 0 BA5 WA6 _ _ bc5 wc6 body HB12.out.sl HW12.out).mono ?_
              rintro e w13 ⟨rfl, q13, hw13⟩
              have hst13 : Step [] w12 o7 w13 o7 := by rw [hw13]; exact (Step.refl [] w12 o7).drewN q13
              clear hw13
              have HB13 := Lib.hid (HB12.out.step hst13 (by simp)); have HTS13 := Lib.hid (HTS12.out.step hst13 (by simp))
              clear hst13 HW12 HB12 HTS12
              go_wp2_with fail
              refine (OverBytes_row w13 o7 31 BA5 _ bc5 _ HB13.out (by omega)).mono ?_
              rintro e w14 ⟨rfl, hst14⟩
              have HTS14 := Lib.hid (HTS13.out.step hst14 (by simp))
              clear hst14 HB13 HTS13
              go_wp2_with fail
              go_meet
              exact ⟨_, _, HTS14⟩
        case rest => as_aux_lemma =>
          obtain ⟨u, o5, HQ⟩ := hcut
          generalize wc = wy at HQ ⊢
          obtain ⟨v2, hv2⟩ : ∃ v2, v2 = upd v s u := ⟨_, rfl⟩
          have HQ2 : Hid (TS w wy o5 w.heap.size v2 (k + 1)) := Lib.hid (by rw [hv2]; exact HQ.out)
          clear hv2 HQ
          have HSM := Lib.hid (same_at HQ2.out hs2 (by omega))
          have e0 := HQ2.out.endc hs2
          obtain ⟨r0, r1, r2, r3, r4⟩ := HQ2.out.refc hs2
          go_upto_region 53 with fail
          refine wp_region_quiet_below (by kernel_rfl) (by kernel_rfl) ?_
          have v0 := cell_regrown e0; have v1 := cell_regrown r0; have v2' := cell_regrown r1; have v3 := cell_regrown r2; have v4 := cell_regrown r3; have v5 := cell_regrown r4
          clear e0 r0 r1 r2 r3 r4
          repeat (go_big_quiet_step (with_reducible exact HSM.out _ _))
          refine wpQuiet_nil ?_
          intro wz hw'
          obtain ⟨⟨dq, osq⟩, hw''⟩ := hw'
          have hbq := below_regrown wy dq osq
          obtain ⟨w9, hw9⟩ : ∃ w9, w9 = grow (redrawn wy dq) osq := ⟨_, rfl⟩
          rw [← hw9] at hbq
          have hw10 := hw''.trans hw9.symm
          subst hw10
          have HK9 := Lib.hid (HQ2.out.step ((Step.refl [] wy o5).below hbq 30) (by simp))
          clear hw'' hw9 hbq v0 v1 v2' v3 v4 v5 HSM HQ2
          go_wp2_with fail
          go_roundw
          case rel => exact ⟨k + 1, _, _, by omega, by go_num, HK9⟩
          case measure => simp [intOf]; omega
      ·
        obtain rfl : m0 = k := by omega
        go_wp2_with fail
        refine (awake_any _).mono ?_
        rintro e w9 ⟨rfl, hb9⟩
        go_wp2_with fail
        go_ret
        exact ⟨rfl, (HK.out.st.below hb9 30).old (by simp)⟩
end Go.Proofs.Ytpmbfgpfpdenbaa
