/-
  WALK of ChannelOrder.
-/
import Derived.Test.YthjjipcbpmdfnaaChWM
namespace Go.Proofs.Ythjjipcbpmdfnaa
open Go.RowKit

set_option maxRecDepth 100000 in
set_option maxHeartbeats 1000000 in
theorem order_walk (w : World) (x y : Int) (hx0 : 0 ≤ x) (hx1 : x < 18446744073709551616) (hy0 : 0 ≤ y) (hy1 : y < 18446744073709551616) (A : Option Addr) (n c : Nat) (ps : List OpV) (hO : OpsAt w (fun _ => 0) 0 A n c ps) :
    Calls Try.prog 5 #[.int .u64 x, .int .u64 y, .slice A n c] w fun e w' => e = .returned (.bool true) ∧ Below w.heap.size w w' := by
  have hpl := played_any w x y _ _ hx0 hx1 hy0 hy1 rfl rfl A n c ps hO 300 (by decide)
  have HPL := Lib.hid hpl
  clear hpl hO
  go_enter Try.func5, Try.ntmps5
  go_wp2_with fail
  refine HPL.out.mono ?_
  rintro e w1 ⟨l, o1, m, a, b, t, rfl, -, hst, -⟩
  have HST := Lib.hid hst
  clear hst HPL
  go_wp2_with fail
  refine (awake_any _).mono ?_
  rintro e w2 ⟨rfl, hb⟩
  have ST2 := Lib.hid (HST.out.below hb 20)
  go_wp2_with fail
  go_ret
  exact ⟨rfl, ST2.out.old (by decide)⟩
end Go.Proofs.Ythjjipcbpmdfnaa
