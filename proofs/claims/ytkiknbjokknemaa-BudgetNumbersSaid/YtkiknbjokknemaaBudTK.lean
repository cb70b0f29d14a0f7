/-
  math/big: norm of one limb, and of two of which the upper one is 0.
-/
import Derived.Test.YtkiknbjokknemaaBudTJ
namespace Go.Proofs.Ytkiknbjokknemaa
open Go.RowKit

set_option maxRecDepth 100000 in
set_option maxHeartbeats 4000000 in
theorem norm_one (w : World) (g off c m : Nat) (hm : m ≠ 0) (hc : 1 ≤ c) (hc2 : c ≤ 1000) (h : w.cell? ⟨g, off, none⟩ = some (.int .u64 (m : Int))) :
    Calls Try.prog 91 #[.slice (some ⟨g, off, none⟩) 1 c] w fun e w' => e = .returned (.slice (some ⟨g, off, none⟩) 1 c) ∧ ∃ k, w' = w.drewN k := by
  go_enter Try.func91, Try.ntmps91
  go_wp2_with fail
  refine wp_loop_rounds 1 ?_
  rw [rounds_succ]
  go_wp2_with fail
  go_ret
  exact ⟨rfl, 0, rfl⟩

set_option maxRecDepth 100000 in
set_option maxHeartbeats 4000000 in
theorem norm_two (w : World) (g off c m : Nat) (hm : m ≠ 0) (hc : 2 ≤ c) (hc2 : c ≤ 1000) (h : w.cell? ⟨g, off, none⟩ = some (.int .u64 (m : Int))) (h' : w.cell? ⟨g, off + 1, none⟩ = some (.int .u64 0)) :
    Calls Try.prog 91 #[.slice (some ⟨g, off, none⟩) 2 c] w fun e w' => e = .returned (.slice (some ⟨g, off, none⟩) 1 c) ∧ ∃ k, w' = w.drewN k := by
  go_enter Try.func91, Try.ntmps91
  go_wp2_with fail
  refine wp_loop_rounds 2 ?_
  rw [rounds_succ]
  go_wp2_with fail
  rw [rounds_succ]
  go_wp2_with fail
  go_ret
  exact ⟨rfl, 0, rfl⟩
end Go.Proofs.Ytkiknbjokknemaa
