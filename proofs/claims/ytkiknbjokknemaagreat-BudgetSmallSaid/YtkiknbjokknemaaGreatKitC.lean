/-
  WALK of marcheskit.SameInts.
-/
import Derived.Test.YtkiknbjokknemaaGreatBase
namespace Go.Proofs.YtkiknbjokknemaaGreat
open Go.RowKit

theorem take_eq_succ {α : Type} [Inhabited α] {xs ys : List α} {k : Nat} (h : xs.take k = ys.take k) (_ : k < xs.length) (_ : k < ys.length) (he : xs[k]? = ys[k]?) : xs.take (k + 1) = ys.take (k + 1) := by
  rw [List.take_add_one, List.take_add_one, h, he]

/-- What such a function comes to. -/
def SameTo (w : World) (b : Bool) (e : Ending) (w' : World) : Prop := e = .returned (.bool b) ∧ ∃ k, w' = w.drewN k

set_option maxHeartbeats 1000000 in
theorem SameInts_any (w : World) (o o2 : Own) (τ τ2 : Nat) (A B : Option Addr) (n c m d : Nat) (xs ys : List Int) (hS : Sl w o τ 1 A n c (ints xs)) (hT : Sl w o2 τ2 1 B m d (ints ys)) :
    Calls Tryz.prog 20 #[.slice A n c, .slice B m d] w (SameTo w (decide (xs = ys))) := by
  have hl1 : xs.length = n := by have := hS.1; simp at this; omega
  have hl2 : ys.length = m := by have := hT.1; simp at this; omega
  have hb : n ≤ 9223372036854775807 ∧ m ≤ 9223372036854775807 := by have h1 := hS.2.1; have h2 := hS.2.2.1; have h3 := hT.2.1; have h4 := hT.2.2.1; unfold maxLen at h2 h4; omega
  obtain ⟨hb1, hb2⟩ := hb
  by_cases hnm : n = m
  · subst hnm
    rcases Nat.eq_zero_or_pos n with h0 | h0
    · subst h0
      have e1 : xs = [] := List.length_eq_zero_iff.1 hl1
      have e2 : ys = [] := List.length_eq_zero_iff.1 hl2
      subst e1; subst e2
      clear hS hT
      go_enter Tryz.func20, Tryz.ntmps20
      go_wp2
      refine wp_loop_rounds 1 ?_
      rw [rounds_succ]
      go_wp2
      go_ret
      exact ⟨rfl, 0, rfl⟩
    · obtain ⟨R, hR⟩ : ∃ R : Bool, R = decide (xs = ys) := ⟨_, rfl⟩
      rw [← hR]
      have HR := Lib.hid hR; clear hR
      obtain ⟨g, off, rfl, -, hg, hc⟩ := hS.2.2.2 h0
      obtain ⟨g2, off2, rfl, -, hg2, hc2⟩ := hT.2.2.2 h0
      have HC := Lib.hid hc; have HC2 := Lib.hid hc2; have HL1 := Lib.hid hl1; have HL2 := Lib.hid hl2
      clear hS hT hc hc2 hl1 hl2
      go_enter Tryz.func20, Tryz.ntmps20
      go_wp2
      go_loopw [5] (fun i wr => ∃ k q : Nat, k ≤ n ∧ i = .int .i64 k ∧ wr = w.drewN q ∧ Hid (xs.take k = ys.take k)) (fun i _ => n - (intOf i).toNat)
      case atStart => exact ⟨0, 0, Nat.zero_le _, rfl, rfl, Lib.hid (by simp)⟩
      case round =>
        obtain ⟨k, q, hk, rfl, rfl, hT⟩ := hrel
        by_cases hlt : k < n
        · obtain ⟨x, hx⟩ : ∃ x, xs[k]? = some x := ⟨_, List.getElem?_eq_getElem (by rw [HL1.out]; exact hlt)⟩
          obtain ⟨y, hy⟩ : ∃ y, ys[k]? = some y := ⟨_, List.getElem?_eq_getElem (by rw [HL2.out]; exact hlt)⟩
          have c1 := HC.out k (.int .i64 x) (by simp [ints, hx])
          have c2 := HC2.out k (.int .i64 y) (by simp [ints, hy])
          have HX := Lib.hid hx; have HY := Lib.hid hy
          clear hx hy
          by_cases hxy : x = y
          · subst hxy
            go_wp2
            go_quiet (fail)
            go_wp2
            go_roundw
            case rel => exact ⟨k + 1, q + nq, by omega, by go_num, by first | rfl | rw [World.drewN_drewN], Lib.hid (take_eq_succ hT.out (by rw [HL1.out]; exact hlt) (by rw [HL2.out]; exact hlt) (by rw [HX.out, HY.out]))⟩
            case measure => simp [intOf]; omega
          · have hne : (x == y) = false := by simpa using hxy
            have hne2 : (x != y) = true := by simpa using hxy
            have hd : decide (xs = ys) = false := by
              simp only [decide_eq_false_iff_not]
              intro h
              rw [h, HY.out] at HX
              exact hxy (by injection HX.out with h; exact h.symm)
            have HD := Lib.hid hd; clear hd
            go_wp2
            go_quiet (fail)
            go_wp2
            go_ret
            exact ⟨by rw [HR.out, HD.out]; rfl, q + nq, by first | rfl | rw [World.drewN_drewN]⟩
        · obtain rfl : n = k := by omega
          have hd : decide (xs = ys) = true := by
            have := hT.out
            rw [List.take_of_length_le (by rw [HL1.out]; exact Nat.le_refl _), List.take_of_length_le (by rw [HL2.out]; exact Nat.le_refl _)] at this
            simpa using this
          have HD := Lib.hid hd; clear hd
          go_wp2
          go_ret
          exact ⟨by rw [HR.out, HD.out]; rfl, q, rfl⟩
  · have hd : decide (xs = ys) = false := by
      simp only [decide_eq_false_iff_not]
      rintro rfl
      exact hnm (hl1.symm.trans hl2)
    rw [hd]
    have hne : ((n : Int) == (m : Int)) = false := by simp; omega
    have hne2 : ((n : Int) != (m : Int)) = true := by simp; omega
    clear hS hT hd hl1 hl2
    go_enter Tryz.func20, Tryz.ntmps20
    go_wp2
    go_ret
    exact ⟨rfl, 0, rfl⟩
end Go.Proofs.YtkiknbjokknemaaGreat
