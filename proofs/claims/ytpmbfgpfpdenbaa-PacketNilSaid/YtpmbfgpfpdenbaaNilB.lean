/-
  WALK of PacketNil.
-/
import Derived.Test.YtpmbfgpfpdenbaaNilA
namespace Go.Proofs.Ytpmbfgpfpdenbaa
open Go.RowKit

theorem New_at (w : World) (o : Own) (τ : Nat) (own other : Int) (h0 : 0 ≤ own) (h1 : own ≤ 1099511627776) (h2 : 0 ≤ other) (h3 : other ≤ 1099511627776) (g : Nat) (hg : w.heap.size = g) :
    Calls Try.prog 20 #[.int .i64 own, .int .i64 other] w fun e w' => e = .returned (.tuple #[.pointer (some ⟨g, 0, none⟩), .int .i64 0]) ∧
      ∃ o', Step [] w o w' o' ∧ EndAt w' o' τ g ⟨own, own, other, other - 1, 0, []⟩ := by
  subst hg
  refine (New_ok w o τ own other h0 h1 h2 h3).mono ?_
  rintro e w' ⟨rfl, hst, hE⟩
  exact ⟨rfl, _, hst, hE⟩

set_option maxRecDepth 100000 in
set_option maxHeartbeats 800000 in
theorem PacketNil_walk (w : World) (A : Option Addr) (n c : Nat) (x : Int) (hx0 : -9223372036854775808 ≤ x) (hx1 : x ≤ 9223372036854775807) :
    Calls Try.prog 10 #[.slice A n c, .int .i64 x] w fun e w' => e = .returned (.bool true) ∧ Below w.heap.size w w' := by
  obtain ⟨B, hB⟩ : ∃ B : Value, B = .slice A n c := ⟨_, rfl⟩
  rw [← hB]; clear hB
  have hb0 : Blk ((w.alloc (.cells #[.bool false, .int .i64 0, .int .i64 0, .int .i64 0, .int .i64 0, .int .u32 0, .slice none 0 0] 90)).alloc (.cells #[.pointer none, .pointer (some ⟨w.heap.size, 0, none⟩)] 32)) w.heap.size 90 #[.bool false, .int .i64 0, .int .i64 0, .int .i64 0, .int .i64 0, .int .u32 0, .slice none 0 0] := (Blk.new w _ _).alloc _
  have hb1 : Blk ((w.alloc (.cells #[.bool false, .int .i64 0, .int .i64 0, .int .i64 0, .int .i64 0, .int .u32 0, .slice none 0 0] 90)).alloc (.cells #[.pointer none, .pointer (some ⟨w.heap.size, 0, none⟩)] 32)) (w.heap.size + 1) 32 #[.pointer none, .pointer (some ⟨w.heap.size, 0, none⟩)] := by
    have := Blk.new (w.alloc (.cells #[.bool false, .int .i64 0, .int .i64 0, .int .i64 0, .int .i64 0, .int .u32 0, .slice none 0 0] 90)) 32 #[.pointer none, .pointer (some ⟨w.heap.size, 0, none⟩)]
    simpa using this
  have st0 := ((Step.refl [2] w (fun _ => 0)).alloc (.cells #[.bool false, .int .i64 0, .int .i64 0, .int .i64 0, .int .i64 0, .int .u32 0, .slice none 0 0] 90) 5).alloc (.cells #[.pointer none, .pointer (some ⟨w.heap.size, 0, none⟩)] 32) 5
  obtain ⟨W, hW⟩ : ∃ W, W = ((w.alloc (.cells #[.bool false, .int .i64 0, .int .i64 0, .int .i64 0, .int .i64 0, .int .u32 0, .slice none 0 0] 90)).alloc (.cells #[.pointer none, .pointer (some ⟨w.heap.size, 0, none⟩)] 32)) := ⟨_, rfl⟩
  obtain ⟨o1, ho1⟩ : ∃ o1 : Own, o1 = ext (ext (fun _ => 0) w.heap.size 5) (w.alloc (.cells #[.bool false, .int .i64 0, .int .i64 0, .int .i64 0, .int .i64 0, .int .u32 0, .slice none 0 0] 90)).heap.size 5 := ⟨_, rfl⟩
  rw [← hW] at hb0 hb1 st0
  rw [← ho1] at st0
  have HW := Lib.hid hW; clear hW ho1
  have c0 := hb0.cell 0; have d0 := hb1.cell 0; have d1 := hb1.cell 1; have hz := hb1.lt; have hz0 := hb0.lt
  simp only [List.getElem?_toArray, List.getElem?_cons_zero, List.getElem?_cons_succ] at c0 d0 d1
  have HB0 := Lib.hid hb0; have ST := Lib.hid st0; clear hb0 hb1 st0
  have hn1 := Lib.hid (not_there_nil W)
  have hn2 := Lib.hid (not_there_made c0)
  go_enter Try.func10, Try.ntmps10
  go_wp2_with fail
  rw [← HW.out]
  refine wp_loop_rounds 3 ?_
  rw [rounds_succ]
  go_wp2_with (first
    | (go_at_call 24; refine (Make_not W none B hn1.out).mono ?_; rintro e w' ⟨rfl, rfl⟩)
    | (go_at_call 17; refine (Only_not W none hn1.out).mono ?_; rintro e w' ⟨rfl, rfl⟩)
    | (go_at_call 18; refine (Receive_not W none B hn1.out).mono ?_; rintro e w' ⟨rfl, rfl⟩)
    | (go_at_call 34; refine (Received_not W none hn1.out).mono ?_; rintro e w' ⟨rfl, rfl⟩)
    | (go_at_call 13; refine (Pending_not W none hn1.out).mono ?_; rintro e w' ⟨rfl, rfl⟩))
  rw [rounds_succ]
  go_wp2_with (first
    | (go_at_call 24; refine (Make_not W _ B hn2.out).mono ?_; rintro e w' ⟨rfl, rfl⟩)
    | (go_at_call 17; refine (Only_not W _ hn2.out).mono ?_; rintro e w' ⟨rfl, rfl⟩)
    | (go_at_call 18; refine (Receive_not W _ B hn2.out).mono ?_; rintro e w' ⟨rfl, rfl⟩)
    | (go_at_call 34; refine (Received_not W _ hn2.out).mono ?_; rintro e w' ⟨rfl, rfl⟩)
    | (go_at_call 13; refine (Pending_not W _ hn2.out).mono ?_; rintro e w' ⟨rfl, rfl⟩))
  have hcase : x < -1 ∨ x = -1 ∨ (-1 < x ∧ x < 1099511627777) ∨ x = 1099511627777 ∨ 1099511627777 < x := by omega
  rcases hcase with hc | rfl | ⟨hc, hc2⟩ | rfl | hc
  all_goals
    rw [rounds_succ]
    go_wp2_with fail
    refine wp_loop_rounds 3 ?_
    rw [rounds_succ]
    go_wp2_with (go_at_call 20; refine (New_bad _ _ _ (by omega)).mono ?_; rintro e w' ⟨rfl, rfl⟩)
    rw [rounds_succ]
    go_wp2_with (go_at_call 20; refine (New_bad _ _ _ (by omega)).mono ?_; rintro e w' ⟨rfl, rfl⟩)
    rw [rounds_succ]
    go_wp2_with fail
    have st2 := fun T => ST.out.alloc (.cells T 3) 5
    have ST2 := Lib.hid st2; clear st2
    refine (New_at _ (ext o1 W.heap.size 5) 2 0 1099511627776 (by omega) (by omega) (by omega) (by omega) (W.heap.size + 1) (by simp)).mono ?_
    rintro e w3 ⟨rfl, o3, hst, hE⟩
    trace "A"
    have ST3 := Lib.hid ((ST2.out _).trans hst.nil); have EA := Lib.hid hE; clear hst hE ST2
    trace "B"
    go_wp2_with fail
    trace "C"
    refine (Only_none w3 o3 2 _ _ EA.out (by decide)).mono ?_
    rintro e w4 ⟨rfl, k4, hw4⟩
    have ST4 := Lib.hid (ST3.out.drewN k4); have EB := Lib.hid (EA.out.step ((Step.refl [] _ _).drewN k4) (by simp))
    rw [← hw4] at ST4 EB
    clear hw4 ST3 EA
    trace "D"
    go_wp2_with fail
    trace "E"
    refine (Pending_ok w4 o3 2 5 _ _ EB.out (fit_of (by decide +kernel))).mono ?_
    rintro e w5 ⟨PA, pc, rfl, -, hb⟩
    have ST5 := Lib.hid (ST4.out.below hb 5)
    clear hb ST4 EB
    go_wp2_with fail
    refine (awake_any w5).mono ?_
    rintro e w6 ⟨rfl, hb⟩
    have ST6 := Lib.hid (ST5.out.below hb 5)
    clear hb ST5
    go_wp2_with fail
    go_ret
    exact ⟨rfl, ST6.out.old (by simp)⟩
end Go.Proofs.Ytpmbfgpfpdenbaa
