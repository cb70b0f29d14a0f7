/-
  WALKS of Make at bodies that it rejects.
-/
import Derived.Test.YtpmbfgpfpdenbaaPackJ
namespace Go.Proofs.Ytpmbfgpfpdenbaa
open Go.RowKit

set_option maxHeartbeats 400000 in
theorem Make_arg (w : World) (o : Own) (τ b : Nat) (s : EndS) (hE : EndAt w o τ b s) (A : Option Addr) (c : Nat) :
    Calls Try.prog 24 #[.pointer (some ⟨b, 0, none⟩), .slice A 0 c] w fun e w' => e = .returned (.tuple #[.slice none 0 0, .int .i64 0, .slice none 0 0, .int .i64 2]) ∧ w = w' := by
  obtain ⟨A0, m, cc, hb, ho, hr⟩ := hE
  obtain ⟨h0, -⟩ := endCell hb
  clear hb ho hr
  go_enter Try.func24, Try.ntmps24
  go_wp2_with (go_at_call 37; refine (there_end h0).mono ?_; rintro e w' ⟨rfl, rfl⟩)
  refine bodyPost_ret (results_tmp4 Try.results24 _ _ _) rfl ?_
  exact ⟨rfl, rfl⟩

set_option maxHeartbeats 400000 in
theorem Make_long (w : World) (o : Own) (τ b : Nat) (s : EndS) (hE : EndAt w o τ b s) (A : Option Addr) (n c : Nat) (hn : 1191 < n) :
    Calls Try.prog 24 #[.pointer (some ⟨b, 0, none⟩), .slice A n c] w fun e w' => e = .returned (.tuple #[.slice none 0 0, .int .i64 0, .slice none 0 0, .int .i64 3]) ∧ w = w' := by
  obtain ⟨A0, m, cc, hb, ho, hr⟩ := hE
  obtain ⟨h0, -⟩ := endCell hb
  have h1 : ((n : Int) == 0) = false := by simp; omega
  have h2 : decide ((1191 : Int) < (n : Int)) = true := by simp; omega
  clear hb ho hr
  go_enter Try.func24, Try.ntmps24
  go_wp2_with (go_at_call 37; refine (there_end h0).mono ?_; rintro e w' ⟨rfl, rfl⟩)
  refine bodyPost_ret (results_tmp4 Try.results24 _ _ _) rfl ?_
  exact ⟨rfl, rfl⟩
end Go.Proofs.Ytpmbfgpfpdenbaa
