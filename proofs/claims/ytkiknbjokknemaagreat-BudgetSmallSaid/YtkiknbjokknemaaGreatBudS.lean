/-
  WALK of sameLists.
-/
import Derived.Test.YtkiknbjokknemaaGreatBudN
import Derived.Test.YtkiknbjokknemaaGreatKitC
namespace Go.Proofs.YtkiknbjokknemaaGreat
open Go.RowKit

set_option maxRecDepth 100000 in
set_option maxHeartbeats 1000000 in
theorem sameLists_any (w : World) (o oB : Own) (τ τ2 σ σ2 : Nat) (A B : Option Addr) (n c m d : Nat) (ls ms : List (List Int)) (hS : ListsAt w o τ τ2 A n c ls) (hT : ListsAt w oB σ σ2 B m d ms) :
    Calls Tryz.prog 21 #[.slice A n c, .slice B m d] w (SameTo w (decide (ls = ms))) := by
  obtain ⟨vs, hrA, hlA, hvA⟩ := hS
  obtain ⟨us, hrB, hlB, hvB⟩ := hT
  have hl1 : ls.length = n := by have := hrA.len; omega
  have hl2 : ms.length = m := by have := hrB.len; omega
  have hsA := hrA.sl; have hsB := hrB.sl
  have hb : n ≤ 9223372036854775807 ∧ m ≤ 9223372036854775807 := by have h1 := hsA.2.1; have h2 := hsA.2.2.1; have h3 := hsB.2.1; have h4 := hsB.2.2.1; unfold maxLen at h2 h4; omega
  obtain ⟨hb1, hb2⟩ := hb
  obtain ⟨R, hR⟩ : ∃ R : Bool, R = decide (ls = ms) := ⟨_, rfl⟩
  rw [← hR]
  have HR := Lib.hid hR; clear hR
  have HSA := Lib.hid hsA; have HSB := Lib.hid hsB; have HL1 := Lib.hid hl1; have HL2 := Lib.hid hl2; have HLA := Lib.hid hlA; have HLB := Lib.hid hlB; have HVA := Lib.hid hvA; have HVB := Lib.hid hvB
  clear hsA hsB hl1 hl2 hlA hlB hvA hvB hrA hrB
  by_cases hnm : n = m
  · subst hnm
    go_enter Tryz.func21, Tryz.ntmps21
    go_wp2
    go_loopw [13, 5] (fun i _ wr => ∃ k q : Nat, k ≤ n ∧ i = .int .i64 k ∧ wr = w.drewN q ∧ Hid (ls.take k = ms.take k)) (fun i _ _ => n - (intOf i).toNat)
    case atStart => exact ⟨0, 0, Nat.zero_le _, rfl, rfl, Lib.hid (by simp)⟩
    case round =>
      obtain ⟨k, q, hk, rfl, rfl, hT⟩ := hrel
      by_cases hlt : k < n
      · obtain ⟨g, off, hA, -, hg, u, hu, hcu⟩ := HSA.out.at_ hlt
        obtain ⟨g2, off2, hB, -, hg2, v, hv, hcv⟩ := HSB.out.at_ hlt
        subst hA; subst hB
        obtain ⟨S, len, cap, x, rfl, hx, rfl, hxs⟩ := HVA.out k u hu
        obtain ⟨S2, len2, cap2, y, rfl, hy, rfl, hys⟩ := HVB.out k v hv
        have HX := Lib.hid hx; have HY := Lib.hid hy
        obtain ⟨r, hr⟩ : ∃ r : Bool, r = decide (x = y) := ⟨_, rfl⟩
        have hcall : ∀ j, Calls Tryz.prog 20 #[.slice S x.length cap, .slice S2 y.length cap2] (w.drewN (q + j)) fun e w'' => e = .returned (.bool r) ∧ ∃ m, w'' = w.drewN (q + m) := fun j => by
          refine (SameInts_any _ o oB τ2 σ2 S S2 _ _ _ _ x y (hxs.step ((Step.refl [] w o).drewN (q + j)) (by simp)) (hys.step ((Step.refl [] w oB).drewN (q + j)) (by simp))).mono ?_
          rintro e w'' ⟨rfl, i, rfl⟩
          exact ⟨by rw [hr], j + i, by rw [World.drewN_drewN, Nat.add_assoc]⟩
        have HC := Lib.hid hcall
        have HXY := Lib.hid hr
        clear hu hv hx hy hxs hys hr hcall
        cases r with
        | true =>
          go_wp2
          go_quiet ((go_at_call 20; exact HC.out _))
          go_wp2
          go_roundw
          case rel =>
            have hxy : x = y := by have := HXY.out; simpa using this.symm
            exact ⟨k + 1, q + nq, by omega, by go_num, by first | rfl | rw [World.drewN_drewN], Lib.hid (by rw [List.take_add_one, List.take_add_one, hT.out, HX.out, HY.out, hxy])⟩
          case measure => simp [intOf]; omega
        | false =>
          have hne : R = false := by
            have hxy : x ≠ y := by have := HXY.out; simpa using this.symm
            rw [HR.out]
            simp only [decide_eq_false_iff_not]
            intro h
            rw [h, HY.out] at HX
            exact hxy (by injection HX.out with h; exact h.symm)
          have HNE := Lib.hid hne
          clear hne
          go_wp2
          go_quiet ((go_at_call 20; exact HC.out _))
          go_wp2
          go_ret
          exact ⟨by rw [HNE.out]; rfl, q + nq, by first | rfl | rw [World.drewN_drewN]⟩
      · obtain rfl : n = k := by omega
        have hd : R = true := by
          have := hT.out
          rw [List.take_of_length_le (by rw [HL1.out]; exact Nat.le_refl _), List.take_of_length_le (by rw [HL2.out]; exact Nat.le_refl _)] at this
          rw [HR.out]; simpa using this
        have HD := Lib.hid hd; clear hd
        go_wp2
        go_ret
        exact ⟨by rw [HD.out]; rfl, q, rfl⟩
  · have hd : R = false := by
      rw [HR.out]
      simp only [decide_eq_false_iff_not]
      rintro rfl
      exact hnm (HL1.out.symm.trans HL2.out)
    have HD := Lib.hid hd; clear hd
    have hne : ((n : Int) == (m : Int)) = false := by simp; omega
    have hne2 : ((n : Int) != (m : Int)) = true := by simp; omega
    go_enter Tryz.func21, Tryz.ntmps21
    go_wp2
    go_ret
    exact ⟨by rw [HD.out]; rfl, 0, rfl⟩
end Go.Proofs.YtkiknbjokknemaaGreat
