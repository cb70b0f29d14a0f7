/-
  math/big: the comparison of two limbs.
-/
import Derived.Test.YtkiknbjokknemaaBudTI
import Derived.Test.YtkiknbjokknemaaBudF
namespace Go.Proofs.Ytkiknbjokknemaa
open Go.RowKit

set_option maxRecDepth 100000 in
set_option maxHeartbeats 4000000 in
theorem natCmp_any (w : World) (A B : Option Addr) (n c n' c' m m' : Nat) (h : LimbAt w A n c m) (h' : LimbAt w B n' c' m') :
    Calls Try.prog 77 #[.slice A n c, .slice B n' c'] w fun e w' => e = .returned (.int .i64 (ordI m m')) ∧ ∃ k, w' = w.drewN k := by
  obtain ⟨⟨rfl, rfl⟩ | ⟨hm, rfl, g, off, rfl, h1⟩, h2⟩ := h
  · obtain ⟨⟨rfl, rfl⟩ | ⟨hm', rfl, g', off', rfl, h1'⟩, h2'⟩ := h'
    · go_enter Try.func77, Try.ntmps77
      go_wp2_with fail
      go_ret
      exact ⟨rfl, 0, rfl⟩
    · have hv := Lib.hid (show ordI ((0 : Nat) : Int) m' = -1 by unfold ordI; rw [if_pos (by omega)])
      go_enter Try.func77, Try.ntmps77
      go_wp2_with fail
      go_ret
      exact ⟨by rw [hv.out]; rfl, 0, rfl⟩
  · obtain ⟨⟨rfl, rfl⟩ | ⟨hm', rfl, g', off', rfl, h1'⟩, h2'⟩ := h'
    · have hv := Lib.hid (show ordI m ((0 : Nat) : Int) = 1 by unfold ordI; rw [if_neg (by omega), if_pos (by omega)])
      go_enter Try.func77, Try.ntmps77
      go_wp2_with fail
      go_ret
      exact ⟨by rw [hv.out]; rfl, 0, rfl⟩
    · rcases Nat.lt_trichotomy m m' with q | q | q
      · have hv := Lib.hid (show ordI m m' = -1 by unfold ordI; rw [if_pos (by omega)])
        have hd : decide ((m : Int) < (m' : Int)) = true := by simp; omega
        go_enter Try.func77, Try.ntmps77
        go_wp2_with fail
        refine wp_loop_rounds 1 ?_
        rw [rounds_succ]
        go_wp2_with fail
        go_quiet (fail)
        go_wp2_with fail
        go_quiet (fail)
        go_wp2_with fail
        go_ret
        exact ⟨by rw [hv.out]; rfl, _, by simp only [World.drewN_drewN]; rfl⟩
      · subst q
        have hv := Lib.hid (show ordI m m = 0 by unfold ordI; rw [if_neg (by omega), if_neg (by omega)])
        have hd : decide ((m : Int) < (m : Int)) = false := by simp
        go_enter Try.func77, Try.ntmps77
        go_wp2_with fail
        refine wp_loop_rounds 1 ?_
        rw [rounds_succ]
        go_wp2_with fail
        go_quiet (fail)
        go_wp2_with fail
        go_quiet (fail)
        go_wp2_with fail
        go_quiet (fail)
        go_wp2_with fail
        go_ret
        exact ⟨by rw [hv.out]; rfl, _, by simp only [World.drewN_drewN]; rfl⟩
      · have hv := Lib.hid (show ordI m m' = 1 by unfold ordI; rw [if_neg (by omega), if_pos (by omega)])
        have hd : decide ((m : Int) < (m' : Int)) = false := by simp; omega
        have hd2 : decide ((m' : Int) < (m : Int)) = true := by simp; omega
        go_enter Try.func77, Try.ntmps77
        go_wp2_with fail
        refine wp_loop_rounds 1 ?_
        rw [rounds_succ]
        go_wp2_with fail
        go_quiet (fail)
        go_wp2_with fail
        go_quiet (fail)
        go_wp2_with fail
        go_quiet (fail)
        go_wp2_with fail
        go_ret
        exact ⟨by rw [hv.out]; rfl, _, by simp only [World.drewN_drewN]; rfl⟩
end Go.Proofs.Ytkiknbjokknemaa
