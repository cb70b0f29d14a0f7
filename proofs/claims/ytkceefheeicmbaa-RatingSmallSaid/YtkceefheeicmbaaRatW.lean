/-
  WALKS of the closure that looks for an ID, IndexFunc and ContainsFunc of tickets.
-/
import Derived.Test.YtkceefheeicmbaaRatR
namespace Go.Proofs.Ytkceefheeicmbaa
open Go.RowKit

set_option maxHeartbeats 400000 in
theorem pairs1_any (w : World) (u : Tk) (gt : Nat) (x : Int) (hc : w.cell? ⟨gt, 0, none⟩ = some (.int .i64 x)) (R : Bool) (hR : R = (u.id == x)) :
    Calls Try.prog 51 #[tV u, .pointer (some ⟨gt, 0, none⟩)] w (SaysTo w R) := by
  have hg := World.block_lt_of_cell? w ⟨gt, 0, none⟩ hc
  simp only at hg
  have HR := Lib.hid hR.symm; clear hR
  have hb := (Below.refl w.heap.size w).alloc (Nat.le_refl _) (.cells (tC u) 24)
  have HB := Lib.hid hb; clear hb
  go_enter Try.func51, Try.ntmps51
  go_wp2_with fail
  go_ret
  exact ⟨by rw [← HR.out]; rfl, HB.out⟩

set_option maxHeartbeats 800000 in
theorem idxT_any (w : World) (o : Own) (τ : Nat) (A : Option Addr) (n c : Nat) (l : List Tk) (hS : Sl w o τ 3 A n c (tks l)) (gt : Nat) (x : Int) (hc : w.cell? ⟨gt, 0, none⟩ = some (.int .i64 x)) :
    Calls Try.prog 72 #[.slice A n c, .func (Fn.func 51) #[] #[.pointer (some ⟨gt, 0, none⟩)]] w fun e w' => ∃ i : Int, decide (0 ≤ i) = (l.any fun u => u.id == x) ∧ e = .returned (.int .i64 i) ∧ Below w.heap.size w w' := by
  have hl : l.length = n := by have := hS.1; rw [len_tks] at this; omega
  have hnm : n ≤ 9223372036854775807 := by have h1 := hS.2.1; have h2 := hS.2.2.1; unfold maxLen at h2; omega
  have hg := World.block_lt_of_cell? w ⟨gt, 0, none⟩ hc
  simp only at hg
  obtain ⟨P, hP⟩ : ∃ P : Int → Prop, P = fun i => (decide (0 ≤ i)) = (l.any fun u => u.id == x) := ⟨_, rfl⟩
  show Calls _ _ _ _ fun e w' => ∃ i : Int, (fun i => (decide (0 ≤ i)) = (l.any fun u => u.id == x)) i ∧ e = .returned (.int .i64 i) ∧ Below w.heap.size w w'
  rw [← hP]
  have HP := Lib.hid hP; have HL := Lib.hid hl; have HS := Lib.hid hS; have HC := Lib.hid hc; clear hP hl hS hc
  go_enter Try.func72, Try.ntmps72
  go_wp2_with fail
  go_loopw [8, 5] (fun i _ wr => ∃ (k : Nat), k ≤ n ∧ i = .int .i64 k ∧ Hid (Below w.heap.size w wr ∧ ((l.take k).any fun u => u.id == x) = false)) (fun i _ _ => n - (intOf i).toNat)
  case atStart => exact ⟨0, Nat.zero_le _, rfl, Lib.hid ⟨Below.refl _ _, by simp⟩⟩
  case round =>
    obtain ⟨k, hk, rfl, hT⟩ := hrel
    by_cases hlt : k < n
    · obtain ⟨u, hu⟩ : ∃ u, l[k]? = some u := ⟨_, List.getElem?_eq_getElem (by rw [HL.out]; exact hlt)⟩
      obtain ⟨g, off, rfl, -, hg2, c0, c1, c2⟩ := (HS.out.step ((Step.refl [] w o).below hT.out.1 5) (by simp)).tk hu
      have hst : ((l.take (k + 1)).any fun u => u.id == x) = (u.id == x) := by rw [List.take_add_one, hu, List.any_append, hT.out.2]; simp
      have hmem := List.mem_of_getElem? hu
      obtain ⟨I, hI⟩ : ∃ I, I = (u.id == x) := ⟨_, rfl⟩
      have hcw := (hT.out.1.cell (p := ⟨gt, 0, none⟩) hg).trans HC.out
      have hcc := pairs1_any wr u gt x hcw I hI
      have HCC := Lib.hid hcc; have HST := Lib.hid hst; have HM := Lib.hid hmem; have HI := Lib.hid hI
      clear hst hmem hu hI hcw hcc
      cases I with
      | true =>
        go_wp2_with (go_at_call 51; refine HCC.out.mono ?_; rintro e w1 ⟨rfl, hb1⟩; have HB1 := Lib.hid (hT.out.1.trans (hb1.mono hT.out.1.size)); clear hb1)
        go_ret
        refine ⟨k, ?_, rfl, HB1.out⟩
        rw [HP.out]
        have : (l.any fun u => u.id == x) = true := by
          rw [List.any_eq_true]
          exact ⟨u, HM.out, HI.out.symm⟩
        rw [this]; simp
      | false =>
        go_wp2_with (go_at_call 51; refine HCC.out.mono ?_; rintro e w1 ⟨rfl, hb1⟩; have HB1 := Lib.hid (hT.out.1.trans (hb1.mono hT.out.1.size)); clear hb1)
        go_roundw
        case rel => exact ⟨k + 1, by omega, by go_num, Lib.hid ⟨HB1.out, by rw [HST.out, ← HI.out]⟩⟩
        case measure => simp [intOf]; omega
    · obtain rfl : n = k := by omega
      have hT2 : (l.any fun u => u.id == x) = false := by
        have := hT.out.2
        rwa [List.take_of_length_le (by rw [HL.out]; exact Nat.le_refl _)] at this
      have HT2 := Lib.hid hT2; clear hT2
      go_wp2_with fail
      go_ret
      refine ⟨-1, ?_, rfl, hT.out.1⟩
      rw [HP.out, HT2.out]; rfl

set_option maxHeartbeats 400000 in
theorem containsT_any (w : World) (o : Own) (τ : Nat) (A : Option Addr) (n c : Nat) (l : List Tk) (hS : Sl w o τ 3 A n c (tks l)) (gt : Nat) (x : Int) (hc : w.cell? ⟨gt, 0, none⟩ = some (.int .i64 x)) (R : Bool) (hR : R = (l.any fun u => u.id == x)) :
    Calls Try.prog 50 #[.slice A n c, .func (Fn.func 51) #[] #[.pointer (some ⟨gt, 0, none⟩)]] w (SaysTo w R) := by
  have h := idxT_any w o τ A n c l hS gt x hc
  rw [← hR] at h
  have H := Lib.hid h; clear h hS hR hc
  go_enter Try.func50, Try.ntmps50
  go_wp2_with fail
  refine H.out.mono ?_
  rintro e w1 ⟨i, hi, rfl, hb⟩
  subst hi
  have HB := Lib.hid hb; clear hb
  go_wp2_with fail
  go_ret
  exact ⟨rfl, HB.out⟩
end Go.Proofs.Ytkceefheeicmbaa
