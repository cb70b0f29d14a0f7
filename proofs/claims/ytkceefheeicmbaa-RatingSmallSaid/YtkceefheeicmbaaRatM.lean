/-
  WALKS of sum, ContainsFunc, Clone, Match.
-/
import Derived.Test.YtkceefheeicmbaaRatH
import Derived.Test.YtkceefheeicmbaaKitE
import Derived.Test.YtkceefheeicmbaaKitF
import Derived.Deep.DeepCutAuto
namespace Go.Proofs.Ytkceefheeicmbaa
open Go.RowKit

theorem el_int : Elem Try.prog 32 3 1 8 (.int .i64 0) := ⟨Try.underlying32, by kernel_rfl, rfl, by decide⟩

theorem ints_get {xs : List Int} {k : Nat} {x : Int} (h : xs[k]? = some x) : (ints xs)[k]? = some (.int .i64 x) := by simp [ints, h]
theorem len_ints (xs : List Int) : (ints xs).length = xs.length := by simp [ints]

/-- One element of a slice of ints. -/
theorem Sl.int {w : World} {o : Own} {τ n c : Nat} {A : Option Addr} {xs : List Int} (h : Sl w o τ 1 A n c (ints xs)) {k : Nat} {x : Int} (hx : xs[k]? = some x) : ∃ g off, A = some ⟨g, off, none⟩ ∧ o g = τ ∧ g < w.heap.size ∧ w.cell? ⟨g, off + k, none⟩ = some (.int .i64 x) := by
  have hk : k < n := by
    have := (List.getElem?_eq_some_iff.1 hx).1
    have h1 := h.1
    rw [len_ints] at h1
    omega
  obtain ⟨g, off, h1, h2, h3, u, h4, h5⟩ := h.at_ hk
  rw [ints_get hx] at h4
  injection h4 with h4
  exact ⟨g, off, h1, h2, h3, by rw [h5, h4]⟩

set_option maxHeartbeats 400000 in
theorem sum_any (w : World) (o : Own) (τ : Nat) (A : Option Addr) (n c : Nat) (xs : List Int) (hS : Sl w o τ 1 A n c (ints xs)) (hx : xs.all inR = true) (h8 : xs.length ≤ 8) :
    Calls Try.prog 48 #[.slice A n c] w (Just w (.int .i64 (sumM xs))) := by
  have hl : xs.length = n := by have := hS.1; rw [len_ints] at this; omega
  obtain ⟨R, hR⟩ : ∃ R, R = sumM xs := ⟨_, rfl⟩
  rw [← hR]
  have hn8 : n ≤ 8 := by omega
  have hbd : ∀ k, 0 ≤ sumM (xs.take k) ∧ sumM (xs.take k) ≤ 32000 := fun k => by
    have h := sum_bd (l := xs.take k) (by rw [List.all_eq_true] at hx ⊢; exact fun y hy => hx y (List.mem_of_mem_take hy))
    rw [List.length_take] at h
    omega
  have hxb : ∀ (k : Nat) (x : Int), xs[k]? = some x → 0 ≤ x ∧ x ≤ 4000 := fun k x h => by
    rw [List.all_eq_true] at hx
    exact inR_iff.1 (hx x (List.mem_of_getElem? h))
  have HS := Lib.hid hS; have HL := Lib.hid hl; have HB := Lib.hid hbd; have HX := Lib.hid hxb; have HR := Lib.hid hR
  clear hS hl hbd hxb hR hx h8
  go_enter Try.func48, Try.ntmps48
  go_wp2_with fail
  go_loopw [8, 3] (fun i s wr => ∃ k : Nat, k ≤ n ∧ i = .int .i64 k ∧ s = .int .i64 (sumM (xs.take k)) ∧ wr = w) (fun i _ _ => n - (intOf i).toNat)
  case atStart => exact ⟨0, Nat.zero_le _, rfl, rfl, rfl⟩
  case round =>
    obtain ⟨k, hk, rfl, rfl, rfl⟩ := hrel
    by_cases hlt : k < n
    · obtain ⟨x, hx⟩ : ∃ x, xs[k]? = some x := ⟨_, List.getElem?_eq_getElem (by rw [HL.out]; exact hlt)⟩
      obtain ⟨g, off, rfl, -, hg, c0⟩ := HS.out.int hx
      have hsn := sumM_snoc hx
      obtain ⟨s0, s1⟩ := HB.out k
      obtain ⟨x0, x1⟩ := HX.out k x hx
      obtain ⟨S, hS⟩ : ∃ S, S = sumM (xs.take k) := ⟨_, rfl⟩
      rw [← hS] at hsn s0 s1 ⊢
      have HSN := Lib.hid hsn
      clear hsn hS hx
      go_wp2_with fail
      go_roundw
      case rel => exact ⟨k + 1, by omega, by go_num, by rw [HSN.out], by trivial⟩
      case measure => simp [intOf]; omega
    · obtain rfl : n = k := by omega
      rw [List.take_of_length_le (by rw [HL.out]; exact Nat.le_refl _), ← HR.out]
      go_wp2_with fail
      go_ret
      exact ⟨rfl, rfl⟩

set_option maxHeartbeats 400000 in
theorem match1_any (w : World) (x : Int) (R : Bool) (hR : R = !inR x) : Calls Try.prog 46 #[.int .i64 x] w (Just w (.bool R)) := by
  obtain ⟨I, hI⟩ : ∃ I, I = inR x := ⟨_, rfl⟩
  rw [← hI] at hR
  have h := fun W => isRating_any W x I hI
  have H := Lib.hid h; have HR := Lib.hid hR; clear h hR hI
  go_enter Try.func46, Try.ntmps46
  go_wp2_with fail
  refine (H.out _).mono ?_
  rintro e w1 ⟨rfl, rfl⟩
  go_wp2_with fail
  go_ret
  exact ⟨by rw [HR.out]; rfl, rfl⟩

set_option maxHeartbeats 400000 in
theorem idx_any (w : World) (o : Own) (τ : Nat) (A : Option Addr) (n c : Nat) (xs : List Int) (hS : Sl w o τ 1 A n c (ints xs)) :
    Calls Try.prog 71 #[.slice A n c, .func (Fn.func 46) #[] #[]] w fun e w' => ∃ i : Int, decide (0 ≤ i) = !xs.all inR ∧ e = .returned (.int .i64 i) ∧ w' = w := by
  have hl : xs.length = n := by have := hS.1; rw [len_ints] at this; omega
  have hnm : n ≤ 9223372036854775807 := by have h1 := hS.2.1; have h2 := hS.2.2.1; unfold maxLen at h2; omega
  obtain ⟨P, hP⟩ : ∃ P : Int → Prop, P = fun i => (decide (0 ≤ i)) = (!xs.all inR) := ⟨_, rfl⟩
  show Calls _ _ _ _ fun e w' => ∃ i : Int, (fun i => (decide (0 ≤ i)) = (!xs.all inR)) i ∧ e = .returned (.int .i64 i) ∧ w' = w
  rw [← hP]
  have HP := Lib.hid hP; have HL := Lib.hid hl; have HS := Lib.hid hS; clear hP hl hS
  go_enter Try.func71, Try.ntmps71
  go_wp2_with fail
  go_loopw [8] (fun i wr => ∃ (k : Nat), k ≤ n ∧ i = .int .i64 k ∧ wr = w ∧ Hid ((xs.take k).all inR = true)) (fun i _ => n - (intOf i).toNat)
  case atStart => exact ⟨0, Nat.zero_le _, rfl, rfl, Lib.hid (by simp)⟩
  case round =>
    obtain ⟨k, hk, rfl, rfl, hT⟩ := hrel
    by_cases hlt : k < n
    · obtain ⟨x, hx⟩ : ∃ x, xs[k]? = some x := ⟨_, List.getElem?_eq_getElem (by rw [HL.out]; exact hlt)⟩
      obtain ⟨g, off, rfl, -, hg, c0⟩ := HS.out.int hx
      have hst : (xs.take (k + 1)).all inR = inR x := by rw [List.take_add_one, hx, List.all_append, hT.out]; simp
      have hmem := List.mem_of_getElem? hx
      obtain ⟨I, hI⟩ : ∃ I, I = inR x := ⟨_, rfl⟩
      have HST := Lib.hid hst; have HM := Lib.hid hmem; have HI := Lib.hid hI
      clear hst hmem hx hI
      cases I with
      | false =>
        have hc := match1_any wr x true (by rw [← HI.out]; rfl)
        have HC := Lib.hid hc; clear hc
        go_wp2_with (go_at_call 46; refine HC.out.mono ?_; rintro e w1 ⟨rfl, rfl⟩)
        go_ret
        refine ⟨k, ?_, rfl, rfl⟩
        rw [HP.out]
        have : xs.all inR = false := by
          rw [List.all_eq_false]
          exact ⟨x, HM.out, by rw [← HI.out]; simp⟩
        rw [this]; simp
      | true =>
        have hc := match1_any wr x false (by rw [← HI.out]; rfl)
        have HC := Lib.hid hc; clear hc
        go_wp2_with (go_at_call 46; refine HC.out.mono ?_; rintro e w1 ⟨rfl, rfl⟩)
        go_roundw
        case rel => exact ⟨k + 1, by omega, by go_num, by trivial, Lib.hid (by rw [HST.out, HI.out])⟩
        case measure => simp [intOf]; omega
    · obtain rfl : n = k := by omega
      have hT2 : xs.all inR = true := by
        have := hT.out
        rwa [List.take_of_length_le (by rw [HL.out]; exact Nat.le_refl _)] at this
      have HT2 := Lib.hid hT2; clear hT2
      go_wp2_with fail
      go_ret
      refine ⟨-1, ?_, rfl, rfl⟩
      rw [HP.out, HT2.out]; rfl

set_option maxHeartbeats 400000 in
theorem contains_any (w : World) (o : Own) (τ : Nat) (A : Option Addr) (n c : Nat) (xs : List Int) (hS : Sl w o τ 1 A n c (ints xs)) (R : Bool) (hR : R = !xs.all inR) :
    Calls Try.prog 47 #[.slice A n c, .func (Fn.func 46) #[] #[]] w (Just w (.bool R)) := by
  have h := idx_any w o τ A n c xs hS
  rw [← hR] at h
  have H := Lib.hid h; clear h hS hR
  go_enter Try.func47, Try.ntmps47
  go_wp2_with fail
  refine H.out.mono ?_
  rintro e w1 ⟨i, hi, rfl, rfl⟩
  subst hi
  go_wp2_with fail
  go_ret
  exact ⟨rfl, rfl⟩

set_option maxHeartbeats 400000 in
theorem clone1 (w : World) (o : Own) (τ ρ : Nat) (A : Option Addr) (n c : Nat) (xs : List Value) (hS : Sl w o τ 1 A n c xs) (h1 : ∀ u ∈ xs, u.oneCell' = true) (hn : n ≤ 64) :
    Calls Try.prog 49 #[.slice A n c] w fun e w' => ∃ A' c', e = .returned (.slice A' n c') ∧ Row w' (ext o w.heap.size ρ) ρ 3 1 A' n c' xs ∧ Below w.heap.size w w' ∧ ∀ ad, A' = some ad → w.heap.size ≤ ad.block := by
  cases A with
  | none =>
    have hn0 : n = 0 := by
      rcases Nat.eq_zero_or_pos n with h | h
      · exact h
      · obtain ⟨_, _, h, _⟩ := hS.2.2.2 h; cases h
    subst hn0
    have hx : xs = [] := List.eq_nil_of_length_eq_zero (by simpa using hS.1)
    subst hx
    clear hS
    have hnil := Lib.run_eql_slice_nil (P := Try.prog) w 32 3 none 0 c 0 0 Try.underlying32
    go_enter Try.func49, Try.ntmps49
    go_wp2_with fail
    go_ret
    exact ⟨none, 0, rfl, Row.nil_ _ _ _ _ _, Below.refl _ _, fun _ h => by cases h⟩
  | some ad =>
    have hnil := Lib.run_eql_slice_nil (P := Try.prog) w 32 3 (some ad) n c 0 0 Try.underlying32
    have H := Lib.hid hS; clear hS
    go_enter Try.func49, Try.ntmps49
    go_wp2_with (at_builtin; refine wpList_append_row _ rfl (.tmp 5) (.tmp 6) _ rfl el_int (ext o w.heap.size ρ) ρ _ 0 0 [] rfl (Row.made (w := w) o ρ 3 1 #[] 0 rfl (Nat.zero_le _) 0 (Nat.le_refl _)) (ext o w.heap.size 0) τ _ n c xs rfl (H.out.step ((Step.refl [] _ _).alloc _ _) (by simp)) h1 (by omega) (by simp only [maxLen]; omega) ?_; intro A' c' w' hR hg hat)
    go_ret
    rw [World.size_alloc, ext_ext (by omega), Nat.zero_add] at hR
    refine ⟨A', c', rfl, by simpa using hR, ?_, fun ad0 h0 => ?_⟩
    rotate_left
    · rcases hat ad0 h0 with ⟨ad1, h1, h2⟩ | h2
      · injection h1 with h1; subst h1; rw [h2]; exact Nat.le_refl _
      · rw [h2]; simp
    exact ((Below.refl _ _).alloc (Nat.le_refl _) _).grown hg (by simp) (fun k hk => by simp [Value.ownBlock] at hk; omega)
end Go.Proofs.Ytkceefheeicmbaa
