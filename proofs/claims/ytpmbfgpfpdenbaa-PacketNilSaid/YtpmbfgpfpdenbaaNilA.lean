/-
  CONTRACTS of packet's methods at an End that New did not return.
-/
import Derived.Test.YtpmbfgpfpdenbaaAwake
namespace Go.Proofs.Ytpmbfgpfpdenbaa
open Go.RowKit

/-- 'there' says no. -/
def NotThere (p : Option Addr) (w : World) : Prop := Calls Try.prog 37 #[.pointer p] w fun e w' => e = .returned (.bool false) ∧ w = w'

set_option maxHeartbeats 400000 in
theorem not_there_made {b : Nat} {w : World} (h0 : w.cell? ⟨b, 0, none⟩ = some (.bool false)) : NotThere (some ⟨b, 0, none⟩) w := by
  unfold NotThere
  go_enter Try.func37, Try.ntmps37
  go_wp2
  go_ret
  exact ⟨rfl, rfl⟩

theorem not_there_nil (w : World) : NotThere none w := there_nil w

set_option maxRecDepth 100000 in
set_option maxHeartbeats 400000 in
theorem Make_not (w : World) (p : Option Addr) (B : Value) (h : NotThere p w) : Calls Try.prog 24 #[.pointer p, B] w fun e w' => e = .returned (.tuple #[.slice none 0 0, .int .i64 0, .slice none 0 0, .int .i64 1]) ∧ w = w' := by
  have H := Lib.hid h; clear h
  go_enter Try.func24, Try.ntmps24
  go_wp2_with (go_at_call 37; refine (show Calls _ _ _ _ _ from H.out).mono ?_; rintro e w' ⟨rfl, rfl⟩)
  refine bodyPost_ret (results_tmp4 rfl _ _ _) rfl ?_
  exact ⟨rfl, rfl⟩

set_option maxHeartbeats 400000 in
theorem Only_not (w : World) (p : Option Addr) (h : NotThere p w) : Calls Try.prog 17 #[.pointer p] w fun e w' => e = .returned (.tuple #[.slice none 0 0, .int .i64 1]) ∧ w = w' := by
  have H := Lib.hid h; clear h
  go_enter Try.func17, Try.ntmps17
  go_wp2_with (go_at_call 37; refine (show Calls _ _ _ _ _ from H.out).mono ?_; rintro e w' ⟨rfl, rfl⟩)
  go_ret2
  exact ⟨rfl, rfl⟩

set_option maxRecDepth 100000 in
set_option maxHeartbeats 400000 in
theorem Receive_not (w : World) (p : Option Addr) (B : Value) (h : NotThere p w) : Calls Try.prog 18 #[.pointer p, B] w fun e w' => e = .returned (.tuple #[.slice none 0 0, .slice none 0 0, .int .i64 1]) ∧ w = w' := by
  have H := Lib.hid h; clear h
  go_enter Try.func18, Try.ntmps18
  go_wp2_with (go_at_call 37; refine (show Calls _ _ _ _ _ from H.out).mono ?_; rintro e w' ⟨rfl, rfl⟩)
  go_ret3
  exact ⟨rfl, rfl⟩

set_option maxHeartbeats 400000 in
theorem Pending_not (w : World) (p : Option Addr) (h : NotThere p w) : Calls Try.prog 13 #[.pointer p] w fun e w' => e = .returned (.slice none 0 0) ∧ w = w' := by
  have H := Lib.hid h; clear h
  go_enter Try.func13, Try.ntmps13
  go_wp2_with (go_at_call 37; refine (show Calls _ _ _ _ _ from H.out).mono ?_; rintro e w' ⟨rfl, rfl⟩)
  go_ret
  exact ⟨rfl, rfl⟩

set_option maxHeartbeats 400000 in
theorem Received_not (w : World) (p : Option Addr) (h : NotThere p w) : Calls Try.prog 34 #[.pointer p] w fun e w' => e = .returned (.tuple #[.int .i64 0, .int .u32 0, .bool false]) ∧ w = w' := by
  have H := Lib.hid h; clear h
  go_enter Try.func34, Try.ntmps34
  go_wp2_with (go_at_call 37; refine (show Calls _ _ _ _ _ from H.out).mono ?_; rintro e w' ⟨rfl, rfl⟩)
  go_ret3
  exact ⟨rfl, rfl⟩
end Go.Proofs.Ytpmbfgpfpdenbaa
