/-
  WALK of KeptInts.
-/
import Derived.Test.YtkceefheeicmbaaRatAB
import Derived.Test.YtkceefheeicmbaaKitC
import Derived.BigQuiet
namespace Go.Proofs.Ytkceefheeicmbaa
open Go.RowKit

theorem mk1_get {j : Nat} (h : j < 12) : (mk1 12)[j]? = some (mkI 1 j) := by simp [mk1, h]
set_option maxRecDepth 100000 in
set_option maxHeartbeats 4000000 in
theorem KeptInts_any (w : World) (g c : Nat) (A : Option Addr) (n d : Nat) (xs : List Int) (hS : Sl w (fun _ => 0) 0 1 (some ⟨g, 0, none⟩) (n + 12) c (ints (xs ++ mk1 12))) (hT : Sl w (fun _ => 0) 0 1 A n d (ints xs)) (hn : n ≤ 20) :
    Calls Try.prog 40 #[.slice (some ⟨g, 0, none⟩) n c, .slice A n d] w (SameTo w true) := by
  have hl : xs.length = n := by have := hT.1; rw [len_ints] at this; omega
  have hcn : n + 12 ≤ c := hS.2.1
  have hcn2 : ¬ c < n + 12 := by omega
  have hnn : ((n : Int) != (n : Int)) = false := by simp
  have HL := Lib.hid hl; have HS := Lib.hid hS; have HT := Lib.hid hT
  clear hl hS hT
  go_enter Try.func40, Try.ntmps40
  go_wp2_with fail
  go_loopw [6] (fun s wr => ∃ i : Nat, i ≤ n + 12 ∧ s = .int .i64 i ∧ Hid (∃ q, wr = w.drewN q)) (fun s _ => n + 12 - (intOf s).toNat)
  case atStart => exact ⟨0, Nat.zero_le _, rfl, Lib.hid ⟨0, rfl⟩⟩
  case round => as_aux_lemma =>
    obtain ⟨i, hi, rfl, HQ⟩ := hrel
    have hq : ∀ a v, w.cell? a = some v → wr.cell? a = some v := fun a v h => by obtain ⟨q, e⟩ := HQ.out; rw [e]; exact h
    have hnq : ∀ m, ∃ q, wr.drewN m = w.drewN q := fun m => by obtain ⟨q, e⟩ := HQ.out; exact ⟨q + m, by rw [e, World.drewN_drewN]⟩
    have HNQ := Lib.hid hnq
    clear hnq
    by_cases hlt : i < n
    · obtain ⟨x, hx⟩ : ∃ x, xs[i]? = some x := ⟨_, List.getElem?_eq_getElem (by rw [HL.out]; exact hlt)⟩
      have hx2 : (xs ++ mk1 12)[i]? = some x := by rw [List.getElem?_append_left (by rw [HL.out]; exact hlt)]; exact hx
      obtain ⟨g', off', he, -, hg, c1⟩ := HS.out.int hx2
      injection he with he; injection he with he1 he2; subst he1 he2
      obtain ⟨ga, oa, rfl, -, hga, c2⟩ := HT.out.int hx
      rw [Nat.zero_add] at c1
      have c1 := hq _ _ c1; have c2 := hq _ _ c2
      clear hq
      have d1 : decide ((i : Int) < (n : Int)) = true := by simp; omega
      have d2 : decide ((n : Int) ≤ (i : Int)) = false := by simp; omega
      have hxx : (x == x) = true := by simp
      have i1 : (i : Int) < (n : Int) + 12 := by omega
      have i2 : (i : Int) < (n : Int) := by omega
      have i3 : i < n + 12 := by omega
      have i4 : ¬ n ≤ i := by omega
      clear hx hx2
      go_wp2_with fail
      go_quiet (fail)
      go_wp2_with fail
      go_roundw
      case rel => exact ⟨i + 1, by omega, by go_num, Lib.hid (HNQ.out _)⟩
      case measure => simp [intOf]; omega
    · by_cases hlt2 : i < n + 12
      · obtain ⟨j, hj⟩ : ∃ j, j = i - n := ⟨_, rfl⟩
        obtain rfl : i = n + j := by omega
        have hj12 : j < 12 := by omega
        have hx2 : (xs ++ mk1 12)[n + j]? = some (mkI 1 j) := by
          rw [List.getElem?_append_right (by rw [HL.out]; omega), HL.out, Nat.add_sub_cancel_left]; exact mk1_get hj12
        obtain ⟨x, hx⟩ : ∃ x, x = mkI 1 (j : Int) := ⟨_, rfl⟩
        rw [← hx] at hx2
        obtain ⟨g', off', he, -, hg, c1⟩ := HS.out.int hx2
        injection he with he; injection he with he1 he2; subst he1 he2
        rw [Nat.zero_add] at c1
        have c1 := hq _ _ c1
        clear hq
        have hm := fun W => mark_any W 1 (j : Int) (by omega) (by omega) x hx
        have HM := Lib.hid hm
        have d1 : decide (((n + j : Nat) : Int) < (n : Int)) = false := by simp; omega
        have d2 : decide ((n : Int) ≤ ((n + j : Nat) : Int)) = true := by simp; omega
        have d1' : decide ((n : Int) + (j : Int) < (n : Int)) = false := by simp; omega
        have d2' : decide ((n : Int) ≤ (n : Int) + (j : Int)) = true := by simp; omega
        have hxx : (x == x) = true := by simp
        have i1 : ((n + j : Nat) : Int) < (n : Int) + 12 := by omega
        have i2 : (n : Int) + (j : Int) < (n : Int) + 12 := by omega
        have i3 : n + j < n + 12 := by omega
        have i4 : ¬ n + j < n := by omega
        have i5 : n ≤ n + j := by omega
        have hsub : IntKind.i64.wrap (((n + j : Nat) : Int) - (n : Int)) = (j : Int) := (IntWalk.i64_in _ (by omega)).trans (by omega)
        have hsub' : IntKind.i64.wrap ((n : Int) + (j : Int) - (n : Int)) = (j : Int) := (IntWalk.i64_in _ (by omega)).trans (by omega)
        have HSB := Lib.hid hsub; have HSB2 := Lib.hid hsub'
        clear hx hx2 hm hj hlt hsub hsub' HS HT
        go_wp2_with fail
        have hsub := HSB.out; have hsub' := HSB2.out
        go_quiet ((go_at_call 65; exact Calls.quiet_of_same (HM.out _)))
        clear hsub hsub' hxx c1
        go_wp2_with fail
        go_roundw
        case rel => exact ⟨n + j + 1, by omega, by go_num, Lib.hid (HNQ.out _)⟩
        case measure => simp [intOf]; omega
      · obtain rfl : i = n + 12 := by omega
        go_wp2_with fail
        go_ret
        exact ⟨rfl, HQ.out⟩
end Go.Proofs.Ytkceefheeicmbaa
