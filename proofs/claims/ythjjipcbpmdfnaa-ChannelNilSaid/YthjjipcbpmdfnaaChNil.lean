/-
  WALK of marcheslaw20.ChannelNil.
-/
import Derived.Test.YthjjipcbpmdfnaaChR
import Derived.Test.YthjjipcbpmdfnaaChNilB
namespace Go.Proofs.Ythjjipcbpmdfnaa
open Go.RowKit

theorem zeros_sl (w : World) (o : Own) {zs : Array Value} (h : zs = (byts (List.replicate 1025 0)).toArray) : Sl (w.alloc (.cells zs 5)) (ext o w.heap.size 20) 20 1 (some ⟨w.heap.size, 0, none⟩) 1025 1025 (byts (List.replicate 1025 0)) := by
  have hl : zs.toList = byts (List.replicate 1025 0) := by rw [h]
  refine ⟨by rw [byts, List.length_map, List.length_replicate], Nat.le_refl _, by decide, fun _ => ⟨w.heap.size, 0, rfl, ext_ge (Nat.le_refl _), by simp, fun j u hu => ?_⟩⟩
  rw [Nat.zero_add, (Blk.new w 5 zs).cell, ← Array.getElem?_toList, hl]; exact hu
theorem sendS_zeros (t : Int) : sendS (chZ t) (List.replicate 1025 0) = (chZ t, 3) := sendS_long t (by rw [List.length_replicate]; decide)

set_option maxRecDepth 100000 in
set_option maxHeartbeats 4000000 in
theorem nil_walk (w : World) (A : Option Addr) (n c : Nat) (x : Int) (hx0 : -9223372036854775808 ≤ x) (hx1 : x ≤ 9223372036854775807) : Calls Try.prog 10 #[.slice A n c, .int .i64 x] w fun e w' => e = .returned (.bool true) ∧ Below w.heap.size w w' := by
  obtain ⟨B, hB⟩ : ∃ B : Value, B = .slice A n c := ⟨_, rfl⟩
  rw [← hB]; clear hB
  obtain ⟨m1, hm1⟩ : ∃ m, m = min x (-1) := ⟨_, rfl⟩
  obtain ⟨m2, hm2⟩ : ∃ m, m = max x 1099511627777 := ⟨_, rfl⟩
  obtain ⟨m3, hm3⟩ : ∃ m, m = max x 0 := ⟨_, rfl⟩
  obtain ⟨m4, hm4⟩ : ∃ m, m = min x m3 := ⟨_, rfl⟩
  have r1 : ∀ (W : World) (ts : Array TypeId) (t : TypeId), (Builtin.min_ ts t #[.int .i64 x, .int .i64 (-1)]).run Try.prog W = .ok (.int .i64 m1) W := fun W ts t => run_minI W ts t x (-1) m1 hm1
  have r2 : ∀ (W : World) (ts : Array TypeId) (t : TypeId), (Builtin.max_ ts t #[.int .i64 x, .int .i64 1099511627777]).run Try.prog W = .ok (.int .i64 m2) W := fun W ts t => run_maxI W ts t x 1099511627777 m2 hm2
  have r3 : ∀ (W : World) (ts : Array TypeId) (t : TypeId), (Builtin.max_ ts t #[.int .i64 x, .int .i64 0]).run Try.prog W = .ok (.int .i64 m3) W := fun W ts t => run_maxI W ts t x 0 m3 hm3
  have r4 : ∀ (W : World) (ts : Array TypeId) (t : TypeId), (Builtin.min_ ts t #[.int .i64 x, .int .i64 m3]).run Try.prog W = .ok (.int .i64 m4) W := fun W ts t => run_minI W ts t x m3 m4 hm4
  have b1 : m1 ≤ -1 := by omega
  have b2 : 1099511627777 ≤ m2 := by omega
  have b3 : 0 ≤ m3 := by omega
  have b3' : m3 ≤ 9223372036854775807 := by omega
  have b4 : m4 = x := by omega
  have b5 : x ≤ m3 := by omega
  clear hm1 hm2 hm3 hm4
  subst b4
  have R3 := Lib.hid r3; have R4 := Lib.hid r4
  clear r3 r4
  obtain ⟨Z, hZ⟩ : ∃ Z : Array Value, Z = #[.int .i64 0, .int .i64 0, .int .i64 0, .int .i64 0, .bool false, .pointer none, .map none, .map none, .map none] := ⟨_, rfl⟩
  have hb0 : Blk ((w.alloc (.cells Z 93)).alloc (.cells #[.pointer none, .pointer (some ⟨w.heap.size, 0, none⟩)] 23)) w.heap.size 93 Z := (Blk.new w _ _).alloc _
  have hb1 : Blk ((w.alloc (.cells Z 93)).alloc (.cells #[.pointer none, .pointer (some ⟨w.heap.size, 0, none⟩)] 23)) (w.heap.size + 1) 23 #[.pointer none, .pointer (some ⟨w.heap.size, 0, none⟩)] := by
    have := Blk.new (w.alloc (.cells Z 93)) 23 #[.pointer none, .pointer (some ⟨w.heap.size, 0, none⟩)]
    simpa using this
  have st0 := ((Step.refl [] w (fun _ => 0)).alloc (.cells Z 93) 20).alloc (.cells #[.pointer none, .pointer (some ⟨w.heap.size, 0, none⟩)] 23) 20
  obtain ⟨W, hW⟩ : ∃ W, W = ((w.alloc (.cells Z 93)).alloc (.cells #[.pointer none, .pointer (some ⟨w.heap.size, 0, none⟩)] 23)) := ⟨_, rfl⟩
  obtain ⟨o1, ho1⟩ : ∃ o1 : Own, o1 = ext (ext (fun _ => 0) w.heap.size 20) (w.alloc (.cells Z 93)).heap.size 20 := ⟨_, rfl⟩
  rw [← hW] at hb0 hb1 st0
  rw [← ho1] at st0
  have HW := Lib.hid hW; clear hW ho1
  have c5 := hb0.cell 5
  rw [show Z[5]? = some (.pointer none) by rw [hZ]; rfl] at c5
  have d0 := hb1.cell 0; have d1 := hb1.cell 1; have hz := hb1.lt; have hz0 := hb0.lt
  simp only [List.getElem?_toArray, List.getElem?_cons_zero, List.getElem?_cons_succ] at d0 d1
  rw [hZ] at HW
  have ST := Lib.hid st0; clear hb0 hb1 st0 hZ
  have C5 := Lib.hid c5; clear c5
  go_enter Try.func10, Try.ntmps10
  go_wp2_with fail
  rw [← HW.out]
  refine wp_loop_rounds 3 ?_
  rw [rounds_succ]
  go_wp2_with (first
    | (go_at_call 20; refine (Flush_none W _).mono ?_; rintro e w' ⟨rfl, rfl⟩)
    | (go_at_call 24; refine (Receive_none W _).mono ?_; rintro e w' ⟨rfl, rfl⟩)
    | (go_at_call 16; refine (Send_none W _).mono ?_; rintro e w' ⟨rfl, rfl⟩)
    | (go_at_call 31; refine (Waiting_none W).mono ?_; rintro e w' ⟨rfl, rfl⟩)
    | (go_at_call 36; refine (Delivered_none W).mono ?_; rintro e w' ⟨rfl, rfl⟩))
  rw [rounds_succ]
  go_wp2_with (first
    | (go_at_call 20; refine (Flush_zero W _ C5.out).mono ?_; rintro e w' ⟨rfl, rfl⟩)
    | (go_at_call 24; refine (Receive_zero W _ C5.out).mono ?_; rintro e w' ⟨rfl, rfl⟩)
    | (go_at_call 16; refine (Send_zero W _ C5.out).mono ?_; rintro e w' ⟨rfl, rfl⟩)
    | (go_at_call 31; refine (Waiting_zero W C5.out).mono ?_; rintro e w' ⟨rfl, rfl⟩)
    | (go_at_call 36; refine (Delivered_zero W C5.out).mono ?_; rintro e w' ⟨rfl, rfl⟩))
  rw [rounds_succ]
  go_wp2_with fail
  refine wp_loop_rounds 3 ?_
  rw [rounds_succ]
  go_wp2_with (go_at_call 11; refine (ChNew_bad _ _ _ (by omega)).mono ?_; rintro e w' ⟨rfl, rfl⟩)
  rw [rounds_succ]
  go_wp2_with (go_at_call 11; refine (ChNew_bad _ _ _ (by omega)).mono ?_; rintro e w' ⟨rfl, rfl⟩)
  rw [rounds_succ]
  go_wp2_with fail
  have st2 := fun T => ST.out.alloc (.cells T 3) 20
  have ST2 := Lib.hid st2; clear st2 ST
  refine (ChNew_ok _ (ext o1 W.heap.size 20) T1 T1_ok 0 0 (by decide) (by decide) (by decide) (by decide)).mono ?_
  rintro e w3 ⟨b, o3, rfl, hst, hC⟩
  have ST3 := Lib.hid ((ST2.out _).trans hst); have HC3 : Hid (ChAt w3 o3 T1 b (chZ 0)) := Lib.hid hC; clear hst hC ST2 C5
  have r3 := R3.out; have r4 := R4.out; clear R3 R4 r1 r2 d0 d1 hz hz0
  go_wp2_with fail
  refine (Flush_any HC3.out (chZ_fit (by decide) (by decide)) T1_ok 21 (by decide) (by decide) m3 b3' (show (0 : Int) ≤ 1999999999998 by decide)).mono ?_
  intro e w4 hfl
  rw [flushS_chZ b3] at hfl
  obtain ⟨o4, PA, pc, rfl, hst, hC, -⟩ := hfl.out
  have ST4 := Lib.hid (ST3.out.mono (ts' := [1, 2]) (by simp) |>.trans (hst.mono (ts' := [1, 2]) (by simp [T1]))); have HC4 : Hid (ChAt w4 o4 T1 b (chZ m3)) := Lib.hid hC; clear hst hC ST3 HC3 hfl
  go_wp2_with fail
  refine (Flush_any HC4.out (chZ_fit b3 b3') T1_ok 21 (by decide) (by decide) m3 b3' (show (0 : Int) ≤ 1999999999998 by decide)).mono ?_
  intro e w5 hfl
  rw [flushS_chZ (Int.le_refl _)] at hfl
  obtain ⟨o5, QA, qc, rfl, hst, hC, -⟩ := hfl.out
  have ST5 := Lib.hid (ST4.out.trans (hst.mono (ts' := [1, 2]) (by simp [T1]))); have HC5 : Hid (ChAt w5 o5 T1 b (chZ m3)) := Lib.hid hC; clear hst hC ST4 HC4 hfl
  rcases Int.lt_or_le (-9223372036854775808) m4 with hlow | hlow
  · have hwr : IntKind.i64.wrap (m4 - 1) = m4 - 1 := IntWalk.i64_in _ (by omega)
    go_wp2_with fail
    refine (Flush_any HC5.out (chZ_fit b3 b3') T1_ok 21 (by decide) (by decide) (m4 - 1) (by omega) (show (0 : Int) ≤ 1999999999998 by decide)).mono ?_
    intro e w6 hfl
    rw [flushS_back (by omega)] at hfl
    obtain ⟨o6, RA, rc, rfl, hst, hC, -⟩ := hfl.out
    have ST6 := Lib.hid (ST5.out.trans (hst.mono (ts' := [1, 2]) (by simp [T1]))); have HC6 : Hid (ChAt w6 o6 T1 b (chZ m3)) := Lib.hid hC; clear hst hC ST5 HC5 hfl
    obtain ⟨zs, hzs, mk⟩ := make_bytesZ 1025 (by decide)
    have HZS := Lib.hid hzs; clear hzs
    have mk2 : ∀ W, (Instr.makeSlice 41 (.int .i64 1025) (.int .i64 1025)).run Try.prog W = .ok (.slice (some ⟨W.heap.size, 0, none⟩) 1025 1025) (W.alloc (.cells zs 5)) := mk
    clear mk
    go_wp2_with fail
    have st7 := (Step.refl [] w6 o6).alloc (.cells zs 5) 20
    have hl7 := zeros_sl w6 o6 HZS.out
    have hC7 := HC6.out.far1 st7 (by simp)
    refine (Send_any hC7 (chZ_fit b3 b3') T1_ok 20 _ 1025 1025 (List.replicate 1025 0) hl7).mono ?_
    intro e w8 hsd
    rw [sendS_zeros] at hsd
    obtain ⟨o8, rfl, hst8, hC8⟩ := hsd.out
    have ST8 := Lib.hid ((ST6.out.trans st7.nil).trans (hst8.mono (ts' := [1, 2]) (by simp [T1]))); have HC8 : Hid (ChAt w8 o8 T1 b (chZ m3)) := Lib.hid hC8
    clear hsd hst8 hC8 hl7 hC7 st7 HZS mk2 ST6 HC6
    go_wp2_with fail
    refine (Waiting_ok HC8.out).mono ?_
    rintro e w9 ⟨he, rfl⟩
    rw [waitS_chZ] at he
    subst he
    go_wp2_with fail
    refine (awake_any _).mono ?_
    rintro e wa ⟨rfl, hb⟩
    have STa := Lib.hid (ST8.out.below hb 20)
    go_wp2_with fail
    go_ret
    exact ⟨rfl, STa.out.old (by decide)⟩
  · obtain ⟨t9, ht9⟩ : ∃ t : Int, t = 9223372036854775807 := ⟨_, rfl⟩
    have hwr : IntKind.i64.wrap (m4 - 1) = t9 := by
      have : m4 = -9223372036854775808 := by omega
      rw [this, ht9]; decide
    have hmb : (m4 == (-9223372036854775808 : Int)) = true := by
      have : m4 = -9223372036854775808 := by omega
      rw [this]; decide
    have h90 : 0 ≤ t9 := by omega
    have h91 : t9 ≤ 9223372036854775807 := by omega
    have h92 : m3 ≤ t9 := by omega
    clear ht9
    go_wp2_with fail
    refine (Flush_any HC5.out (chZ_fit b3 b3') T1_ok 21 (by decide) (by decide) t9 h91 (show (0 : Int) ≤ 1999999999998 by decide)).mono ?_
    intro e w6 hfl
    rw [flushS_chZ h92] at hfl
    obtain ⟨o6, RA, rc, rfl, hst, hC, -⟩ := hfl.out
    have ST6 := Lib.hid (ST5.out.trans (hst.mono (ts' := [1, 2]) (by simp [T1]))); have HC6 : Hid (ChAt w6 o6 T1 b (chZ t9)) := Lib.hid hC; clear hst hC ST5 HC5 hfl
    obtain ⟨zs, hzs, mk⟩ := make_bytesZ 1025 (by decide)
    have HZS := Lib.hid hzs; clear hzs
    have mk2 : ∀ W, (Instr.makeSlice 41 (.int .i64 1025) (.int .i64 1025)).run Try.prog W = .ok (.slice (some ⟨W.heap.size, 0, none⟩) 1025 1025) (W.alloc (.cells zs 5)) := mk
    clear mk
    go_wp2_with fail
    have st7 := (Step.refl [] w6 o6).alloc (.cells zs 5) 20
    have hl7 := zeros_sl w6 o6 HZS.out
    have hC7 := HC6.out.far1 st7 (by simp)
    refine (Send_any hC7 (chZ_fit h90 h91) T1_ok 20 _ 1025 1025 (List.replicate 1025 0) hl7).mono ?_
    intro e w8 hsd
    rw [sendS_zeros] at hsd
    obtain ⟨o8, rfl, hst8, hC8⟩ := hsd.out
    have ST8 := Lib.hid ((ST6.out.trans st7.nil).trans (hst8.mono (ts' := [1, 2]) (by simp [T1]))); have HC8 : Hid (ChAt w8 o8 T1 b (chZ t9)) := Lib.hid hC8
    clear hsd hst8 hC8 hl7 hC7 st7 HZS mk2 ST6 HC6
    go_wp2_with fail
    refine (Waiting_ok HC8.out).mono ?_
    rintro e w9 ⟨he, rfl⟩
    rw [waitS_chZ] at he
    subst he
    go_wp2_with fail
    refine (awake_any _).mono ?_
    rintro e wa ⟨rfl, hb⟩
    have STa := Lib.hid (ST8.out.below hb 20)
    go_wp2_with fail
    go_ret
    exact ⟨rfl, STa.out.old (by decide)⟩
end Go.Proofs.Ythjjipcbpmdfnaa
