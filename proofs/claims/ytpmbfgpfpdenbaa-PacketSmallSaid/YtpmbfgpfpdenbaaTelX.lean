/-
  WALK of PacketTells at beginnings out of range.
-/
import Derived.Test.YtpmbfgpfpdenbaaTelD
namespace Go.Proofs.Ytpmbfgpfpdenbaa
open Go.RowKit

set_option maxRecDepth 100000 in
set_option maxHeartbeats 2000000 in
theorem PacketTells_bad (w : World) (own oth : Int) (h : own < 0 ∨ 1099511627776 < own ∨ oth < 0 ∨ 1099511627776 < oth) (A : Option Addr) (n c : Nat) :
    Calls Try.prog 5 #[.int .i64 own, .int .i64 oth, .slice A n c] w fun e w' => e = .returned (.bool true) ∧ Below w.heap.size w w' := by
  have h' : oth < 0 ∨ 1099511627776 < oth ∨ own < 0 ∨ 1099511627776 < own := by omega
  have HN := Lib.hid (fun W => New_bad W own oth h); have HR := Lib.hid (fun W => RNew_bad W own oth h)
  have HN' := Lib.hid (fun W => New_bad W oth own h'); have HR' := Lib.hid (fun W => RNew_bad W oth own h')
  clear h h'
  go_enter Try.func5, Try.ntmps5
  go_wp2_with fail
  obtain ⟨w0, o0, hw0, hst, hb0, hb1, hb2, ht0, ht1, ht2⟩ := tel_three w
  rw [show w.heap.size + 1 + 1 = w.heap.size + 2 from rfl]
  rw [hw0]
  have ST := Lib.hid hst; have B0 := Lib.hid hb0; have B1 := Lib.hid hb1; have B2 := Lib.hid hb2
  have T0 := Lib.hid ht0; have T1 := Lib.hid ht1; have T2 := Lib.hid ht2
  clear hw0 hst hb0 hb1 hb2 ht0 ht1 ht2
  refine wp_loop_rounds 3 ?_
  rw [rounds_succ]
  go_wp2_with fail
  refine (HN.out _).mono ?_
  rintro e w1 ⟨rfl, rfl⟩
  go_wp2_with fail
  refine (HR.out _).mono ?_
  rintro e w2 ⟨rfl, hb⟩
  have hst := (Step.refl [] w0 o0).below hb 30
  have hal := hst.alloc (.cells #[.int .i64 0, .int .i64 0, .int .i64 0, .slice none 0 0, .slice none 0 0] 53) 31
  go_upto_region 11 with fail
  have hB0 := (((B0.out).below hb B0.out.lt).alloc (.cells #[.int .i64 0, .int .i64 0, .int .i64 0, .slice none 0 0, .slice none 0 0] 53))
  have hB1 := (((B1.out).below hb B1.out.lt).alloc (.cells #[.int .i64 0, .int .i64 0, .int .i64 0, .slice none 0 0, .slice none 0 0] 53))
  have hN := Blk.new w2 53 #[.int .i64 0, .int .i64 0, .int .i64 0, .slice none 0 0, .slice none 0 0]
  have hg0 : w.heap.size < w2.heap.size := by have := B2.out.lt; have := hb.size; omega
  have hg1 : w2.heap.size ≠ w.heap.size := by omega
  have hg2 : w2.heap.size ≠ w.heap.size + 1 := by have := B2.out.lt; have := hb.size; omega
  have hg3 : w.heap.size ≠ w2.heap.size := by omega
  have hg4 : w.heap.size + 1 ≠ w2.heap.size := fun e => hg2 e.symm
  have hg5 : w.heap.size + 1 < w2.heap.size := by have := B2.out.lt; have := hb.size; omega
  generalize w2.heap.size = g at hal hg5 hN hg0 hg1 hg2 hg3 hg4 ⊢
  generalize w2.alloc (.cells #[.int .i64 0, .int .i64 0, .int .i64 0, .slice none 0 0, .slice none 0 0] 53) = w3 at hal hB0 hB1 hN ⊢
  have x0 := hB0.cell 0; have y0 := hB0.frozen 0
  have l0 := hN.cell 0; have l1 := hN.cell 1; have l2 := hN.cell 2; have l3 := hN.cell 3; have l4 := hN.cell 4
  have q0 := hB1.cell 0; have q1 := hB1.cell 1; have q2 := hB1.cell 2; have q3 := hB1.cell 3; have q4 := hB1.cell 4
  have f0 := hB1.frozen 0; have f1 := hB1.frozen 1; have f2 := hB1.frozen 2; have f3 := hB1.frozen 3; have f4 := hB1.frozen 4
  go_region
  clear x0 y0 l0 l1 l2 l3 l4 q0 q1 q2 q3 q4 f0 f1 f2 f3 f4
  obtain ⟨w4, hw4⟩ : ∃ w4, w4 = ((((((w3.setCell ⟨w.heap.size, 0, none⟩ (.pointer none)).setCell ⟨w.heap.size + 1, 0, none⟩ (.int .i64 0)).setCell ⟨w.heap.size + 1, 1, none⟩ (.int .i64 0)).setCell ⟨w.heap.size + 1, 2, none⟩ (.int .i64 0)).setCell ⟨w.heap.size + 1, 3, none⟩ (.slice none 0 0)).setCell ⟨w.heap.size + 1, 4, none⟩ (.slice none 0 0)).drew := ⟨_, rfl⟩
  obtain ⟨hp, hb0, hb1⟩ := tel_put hB0 hB1 (o := ext (ext o0 w0.heap.size 30) g 31) (by rw [ext_lt hg0, ext_lt B0.out.lt]; exact T0.out) (by rw [ext_lt hg5, ext_lt B1.out.lt]; exact T1.out) 0 0 1 2 3 4 _ _ _ _ _ _ hw4
  rw [← hw4]
  clear hw4
  have hs4 := (hal.mono (ts' := [21, 22]) (by simp)).trans hp
  have ST4 := Lib.hid ((ST.out.mono (ts' := [21, 22]) (by simp)).trans hs4)
  have T0' := Lib.hid ((hs4.own _ B0.out.lt).trans T0.out); have T1' := Lib.hid ((hs4.own _ B1.out.lt).trans T1.out); have T2' := Lib.hid ((hs4.own _ B2.out.lt).trans T2.out)
  have B0' : Hid (Blk w4 w.heap.size 51 #[.pointer none, .pointer none]) := Lib.hid hb0
  have B1' : Hid (Blk w4 (w.heap.size + 1) 54 #[.int .i64 0, .int .i64 0, .int .i64 0, .slice none 0 0, .slice none 0 0, .int .i64 0, .int .i64 0, .int .i64 0, .slice none 0 0, .slice none 0 0]) := Lib.hid hb1
  have B2' := Lib.hid (B2.out.step hs4 (by rw [T2.out]; simp))
  generalize ext (ext o0 _ 30) g 31 = o4 at ST4 T0' T1' T2'
  clear B0 B1 B2 T0 T1 T2 ST hst hal hb hp hs4 hb0 hb1 hB0 hB1 hN hg0 hg1 hg2 hg3 hg4 hg5
  go_wp2_with fail
  rw [rounds_succ]
  go_wp2_with fail
  refine (HN'.out _).mono ?_
  rintro e w5 ⟨rfl, rfl⟩
  go_wp2_with fail
  refine (HR'.out _).mono ?_
  rintro e w6 ⟨rfl, hb⟩
  have hst := (Step.refl [] w4 o4).below hb 30
  have hal := hst.alloc (.cells #[.int .i64 0, .int .i64 0, .int .i64 0, .slice none 0 0, .slice none 0 0] 53) 31
  go_upto_region 11 with fail
  have hB0 := (((B0'.out).below hb B0'.out.lt).alloc (.cells #[.int .i64 0, .int .i64 0, .int .i64 0, .slice none 0 0, .slice none 0 0] 53))
  have hB1 := (((B1'.out).below hb B1'.out.lt).alloc (.cells #[.int .i64 0, .int .i64 0, .int .i64 0, .slice none 0 0, .slice none 0 0] 53))
  have hN := Blk.new w6 53 #[.int .i64 0, .int .i64 0, .int .i64 0, .slice none 0 0, .slice none 0 0]
  have hg0 : w.heap.size < w6.heap.size := by have := B2'.out.lt; have := hb.size; omega
  have hg1 : w6.heap.size ≠ w.heap.size := by omega
  have hg2 : w6.heap.size ≠ w.heap.size + 1 := by have := B2'.out.lt; have := hb.size; omega
  have hg3 : w.heap.size ≠ w6.heap.size := by omega
  have hg4 : w.heap.size + 1 ≠ w6.heap.size := fun e => hg2 e.symm
  have hg5 : w.heap.size + 1 < w6.heap.size := by have := B2'.out.lt; have := hb.size; omega
  generalize w6.heap.size = g at hal hg5 hN hg0 hg1 hg2 hg3 hg4 ⊢
  generalize w6.alloc (.cells #[.int .i64 0, .int .i64 0, .int .i64 0, .slice none 0 0, .slice none 0 0] 53) = w7 at hal hB0 hB1 hN ⊢
  have x0 := hB0.cell 1; have y0 := hB0.frozen 1
  have l0 := hN.cell 0; have l1 := hN.cell 1; have l2 := hN.cell 2; have l3 := hN.cell 3; have l4 := hN.cell 4
  have q0 := hB1.cell 5; have q1 := hB1.cell 6; have q2 := hB1.cell 7; have q3 := hB1.cell 8; have q4 := hB1.cell 9
  have f0 := hB1.frozen 5; have f1 := hB1.frozen 6; have f2 := hB1.frozen 7; have f3 := hB1.frozen 8; have f4 := hB1.frozen 9
  go_region
  clear x0 y0 l0 l1 l2 l3 l4 q0 q1 q2 q3 q4 f0 f1 f2 f3 f4
  obtain ⟨w8, hw8⟩ : ∃ w8, w8 = ((((((w7.setCell ⟨w.heap.size, 1, none⟩ (.pointer none)).setCell ⟨w.heap.size + 1, 5, none⟩ (.int .i64 0)).setCell ⟨w.heap.size + 1, 6, none⟩ (.int .i64 0)).setCell ⟨w.heap.size + 1, 7, none⟩ (.int .i64 0)).setCell ⟨w.heap.size + 1, 8, none⟩ (.slice none 0 0)).setCell ⟨w.heap.size + 1, 9, none⟩ (.slice none 0 0)).drew := ⟨_, rfl⟩
  obtain ⟨hp, hb0, hb1⟩ := tel_put hB0 hB1 (o := ext (ext o4 w4.heap.size 30) g 31) (by rw [ext_lt hg0, ext_lt B0'.out.lt]; exact T0'.out) (by rw [ext_lt hg5, ext_lt B1'.out.lt]; exact T1'.out) 1 5 6 7 8 9 _ _ _ _ _ _ hw8
  rw [← hw8]
  clear hw8
  have hs4 := (hal.mono (ts' := [21, 22]) (by simp)).trans hp
  have ST8 := Lib.hid (ST4.out.trans hs4)
  have B0 : Hid (Blk w8 w.heap.size 51 #[.pointer none, .pointer none]) := Lib.hid hb0
  generalize ext (ext o4 _ 30) g 31 = o8 at ST8
  clear B0' B1' B2' T0' T1' T2' ST4 hst hal hb hp hs4 hb0 hb1 hB0 hB1 hN hg0 hg1 hg2 hg3 hg4 hg5
  go_wp2_with fail
  rw [rounds_succ]
  have c0 := B0.out.cell 0
  go_wp2_with fail
  refine (awake_any _).mono ?_
  rintro e w9 ⟨rfl, hb9⟩
  go_wp2_with fail
  go_ret
  exact ⟨rfl, (ST8.out.below hb9 30).old (by simp)⟩
/-- PacketTells, whatever the beginnings and the script. -/
theorem PacketTells_walk (w : World) (own oth : Int) (A : Option Addr) (n c : Nat) (ps : List OpV) (hP : OpsAt w (fun _ => 0) 0 A n c ps) :
    Calls Try.prog 5 #[.int .i64 own, .int .i64 oth, .slice A n c] w fun e w' => e = .returned (.bool true) ∧ Below w.heap.size w w' := by
  by_cases h : own < 0 ∨ 1099511627776 < own ∨ oth < 0 ∨ 1099511627776 < oth
  · exact PacketTells_bad w own oth h A n c
  · exact PacketTells_good w own oth (by omega) (by omega) (by omega) (by omega) A n c ps hP
end Go.Proofs.Ytpmbfgpfpdenbaa
