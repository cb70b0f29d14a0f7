/-
  WALKS of cmp.Compare, cmp.Or and the closure that Step hands to the sort.
-/
import Derived.Test.YtkiknbjokknemaaGreatBudE
namespace Go.Proofs.YtkiknbjokknemaaGreat
open Go.RowKit

def ordI (a b : Int) : Int := if a < b then -1 else if b < a then 1 else 0

set_option maxHeartbeats 400000 in
theorem Compare_any (w : World) (a b : Int) : Calls Tryz.prog 31 #[.int .i64 a, .int .i64 b] w fun e w' => e = .returned (.int .i64 (ordI a b)) ∧ w' = w := by
  obtain ⟨R, hR⟩ : ∃ R : Int, R = ordI a b := ⟨_, rfl⟩
  rw [← hR]
  have HR := Lib.hid hR; clear hR
  have na : (a != a) = false := by simp
  have nb : (b != b) = false := by simp
  rcases Int.lt_trichotomy a b with h | h | h
  · have hv := Lib.hid (show R = -1 by rw [HR.out, ordI, if_pos h])
    go_enter Tryz.func31, Tryz.ntmps31
    go_wp2
    go_ret
    exact ⟨by rw [hv.out]; rfl, rfl⟩
  · subst h
    have hv := Lib.hid (show R = 0 by rw [HR.out, ordI, if_neg (by omega), if_neg (by omega)])
    go_enter Tryz.func31, Tryz.ntmps31
    go_wp2
    go_ret
    exact ⟨by rw [hv.out]; rfl, rfl⟩
  · have hv := Lib.hid (show R = 1 by rw [HR.out, ordI, if_neg (by omega), if_pos h])
    go_enter Tryz.func31, Tryz.ntmps31
    go_wp2
    go_ret
    exact ⟨by rw [hv.out]; rfl, rfl⟩

set_option maxHeartbeats 400000 in
theorem Or_any (w : World) (g : Nat) (a b : Int) (h0 : w.cell? ⟨g, 0, none⟩ = some (.int .i64 a)) (h1 : w.cell? ⟨g, 1, none⟩ = some (.int .i64 b)) :
    Calls Tryz.prog 30 #[.slice (some ⟨g, 0, none⟩) 2 2] w fun e w' => e = .returned (.int .i64 (if a = 0 then b else a)) ∧ w' = w := by
  obtain ⟨R, hR⟩ : ∃ R : Int, R = if a = 0 then b else a := ⟨_, rfl⟩
  rw [← hR]
  have HR := Lib.hid hR; clear hR
  by_cases ha : a = 0
  · subst ha
    by_cases hb : b = 0
    · subst hb
      have hv := Lib.hid (show R = 0 by rw [HR.out]; simp)
      go_enter Tryz.func30, Tryz.ntmps30
      go_wp2
      refine wp_loop_rounds 3 ?_
      rw [rounds_succ]
      go_wp2
      rw [rounds_succ]
      go_wp2
      rw [rounds_succ]
      go_wp2
      go_ret
      exact ⟨by rw [hv.out]; rfl, rfl⟩
    · have hv := Lib.hid (show R = b by rw [HR.out]; simp)
      have hb2 : (b != 0) = true := by simpa using hb
      go_enter Tryz.func30, Tryz.ntmps30
      go_wp2
      refine wp_loop_rounds 3 ?_
      rw [rounds_succ]
      go_wp2
      rw [rounds_succ]
      go_wp2
      go_ret
      exact ⟨by rw [hv.out]; rfl, rfl⟩
  · have hv := Lib.hid (show R = a by rw [HR.out, if_neg ha])
    have ha2 : (a != 0) = true := by simpa using ha
    go_enter Tryz.func30, Tryz.ntmps30
    go_wp2
    refine wp_loop_rounds 3 ?_
    rw [rounds_succ]
    go_wp2
    go_ret
    exact ⟨by rw [hv.out]; rfl, rfl⟩
end Go.Proofs.YtkiknbjokknemaaGreat
