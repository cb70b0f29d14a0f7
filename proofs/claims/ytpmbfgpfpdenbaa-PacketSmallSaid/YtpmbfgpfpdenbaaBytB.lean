/-
  WALKS of KeptBytes, OverBytes, SameBytes.
-/
import Derived.Test.YtpmbfgpfpdenbaaBytA
import Derived.BigQuiet
import Derived.Lib.MinMax
namespace Go.Proofs.Ytpmbfgpfpdenbaa
open Go.RowKit

theorem run_min2 {P : Program} (W : World) (ts : Array TypeId) (t : TypeId) (a b m : Int) (hm : m = min a b) : (Builtin.min_ ts t #[.int .i64 a, .int .i64 b]).run P W = .ok (.int .i64 m) W := by
  have e : ∀ x y : Int, (if y < x then y else x) = min x y := by
    intro x y; rw [Int.min_def]; split <;> split <;> omega
  subst hm
  simp [Builtin.min_, Builtin.min2, e]

theorem Sl.u8_at {w : World} {o : Own} {τ n c : Nat} {A : Option Addr} {xs : List UInt8} (h : Sl w o τ 1 A n c (byts xs)) {k : Nat} {x : UInt8} (hx : xs[k]? = some x) : ∃ g off, A = some ⟨g, off, none⟩ ∧ g < w.heap.size ∧ w.cell? ⟨g, off + k, none⟩ = some (.int .u8 (x.toNat : Int)) := by
  have hl : k < xs.length := (List.getElem?_eq_some_iff.1 hx).1
  have hn : xs.length = n := by have := h.1; simpa using this
  obtain ⟨g, off, hA, -, hg, u, hu, hc⟩ := h.at_ (k := k) (by omega)
  rw [byts, List.getElem?_map, hx] at hu
  simp only [Option.map_some, Option.some.injEq] at hu
  subst hu
  exact ⟨g, off, hA, hg, hc⟩

set_option maxRecDepth 100000 in
set_option maxHeartbeats 4000000 in
theorem KeptBytes_any (w : World) (o o2 : Own) (τ τ2 : Nat) (g c : Nat) (A : Option Addr) (n d : Nat) (xs : List UInt8) (hS : Sl w o τ 1 (some ⟨g, 0, none⟩) (n + 12) c (byts (xs ++ mkB 1 12))) (hT : Sl w o2 τ2 1 A n d (byts xs)) (hn : n ≤ 2000) :
    Calls Try.prog 28 #[.slice (some ⟨g, 0, none⟩) n c, .slice A n d] w (SameTo w true) := by
  have hl : xs.length = n := by have := hT.1; simpa using this
  have hcn : n + 12 ≤ c := hS.2.1
  have hcn2 : ¬ c < n + 12 := by omega
  have hnn : ((n : Int) != (n : Int)) = false := by simp
  have HL := Lib.hid hl; have HS := Lib.hid hS; have HT := Lib.hid hT
  clear hl hS hT
  go_enter Try.func28, Try.ntmps28
  go_wp2_with fail
  go_loopw [6] (fun s wr => ∃ i : Nat, i ≤ n + 12 ∧ s = .int .i64 i ∧ Hid (∃ q, wr = w.drewN q)) (fun s _ => n + 12 - (intOf s).toNat)
  case atStart => exact ⟨0, Nat.zero_le _, rfl, Lib.hid ⟨0, rfl⟩⟩
  case round => as_aux_lemma =>
    obtain ⟨i, hi, rfl, HQ⟩ := hrel
    have hq : ∀ a v, w.cell? a = some v → wr.cell? a = some v := fun a v h => by obtain ⟨q, e⟩ := HQ.out; rw [e]; exact h
    have hnq : ∀ m, ∃ q, wr.drewN m = w.drewN q := fun m => by obtain ⟨q, e⟩ := HQ.out; exact ⟨q + m, by rw [e, World.drewN_drewN]⟩
    have HNQ := Lib.hid hnq
    clear hnq
    by_cases hlt : i < n
    · obtain ⟨y, hx⟩ : ∃ x, xs[i]? = some x := ⟨_, List.getElem?_eq_getElem (by rw [HL.out]; exact hlt)⟩
      have hx2 : (xs ++ mkB 1 12)[i]? = some y := by rw [List.getElem?_append_left (by rw [HL.out]; exact hlt)]; exact hx
      obtain ⟨g', off', he, hg, c1⟩ := HS.out.u8_at hx2
      injection he with he; injection he with he1 he2; subst he1 he2
      obtain ⟨ga, oa, rfl, hga, c2⟩ := HT.out.u8_at hx
      rw [Nat.zero_add] at c1
      have c1 := hq _ _ c1; have c2 := hq _ _ c2
      obtain ⟨x, hxv⟩ : ∃ x : Int, x = (y.toNat : Int) := ⟨_, rfl⟩
      rw [← hxv] at c1 c2
      clear hq hxv
      have d1 : decide ((i : Int) < (n : Int)) = true := by simp; omega
      have d2 : decide ((n : Int) ≤ (i : Int)) = false := by simp; omega
      have hxx : (x == x) = true := by simp
      have i1 : (i : Int) < (n : Int) + 12 := by omega
      have i2 : (i : Int) < (n : Int) := by omega
      have i3 : i < n + 12 := by omega
      have i4 : ¬ n ≤ i := by omega
      clear hx hx2
      go_wp2_with fail
      go_quiet (fail)
      go_wp2_with fail
      go_roundw
      case rel => exact ⟨i + 1, by omega, by go_num, Lib.hid (HNQ.out _)⟩
      case measure => simp [intOf]; omega
    · by_cases hlt2 : i < n + 12
      · obtain ⟨j, hj⟩ : ∃ j, j = i - n := ⟨_, rfl⟩
        obtain rfl : i = n + j := by omega
        have hj12 : j < 12 := by omega
        have hx2 : (xs ++ mkB 1 12)[n + j]? = some (mbU 1 j) := by
          rw [List.getElem?_append_right (by rw [HL.out]; omega), HL.out, Nat.add_sub_cancel_left]; exact mkB_get hj12
        obtain ⟨g', off', he, hg, c1⟩ := HS.out.u8_at hx2
        injection he with he; injection he with he1 he2; subst he1 he2
        rw [Nat.zero_add] at c1
        have c1 := hq _ _ c1
        clear hq
        have hm := fun q => (markByte_any (wr.drewN q) 1 (j : Int) (by omega) (by omega)).mono (fun e w' h => (⟨h.1, h.2.symm⟩ : e = _ ∧ w' = wr.drewN q))
        obtain ⟨x, hx⟩ : ∃ x : Int, x = ((mbU 1 (j : Int)).toNat : Int) := ⟨_, rfl⟩
        rw [← hx] at c1 hm
        have HM := Lib.hid hm
        have d1 : decide (((n + j : Nat) : Int) < (n : Int)) = false := by simp; omega
        have d2 : decide ((n : Int) ≤ ((n + j : Nat) : Int)) = true := by simp; omega
        have d1' : decide ((n : Int) + (j : Int) < (n : Int)) = false := by simp; omega
        have d2' : decide ((n : Int) ≤ (n : Int) + (j : Int)) = true := by simp; omega
        have hxx : (x == x) = true := by simp
        have i1 : ((n + j : Nat) : Int) < (n : Int) + 12 := by omega
        have i2 : (n : Int) + (j : Int) < (n : Int) + 12 := by omega
        have i3 : n + j < n + 12 := by omega
        have i4 : ¬ n + j < n := by omega
        have i5 : n ≤ n + j := by omega
        have hsub : IntKind.i64.wrap (((n + j : Nat) : Int) - (n : Int)) = (j : Int) := (IntWalk.i64_in _ (by omega)).trans (by omega)
        have hsub' : IntKind.i64.wrap ((n : Int) + (j : Int) - (n : Int)) = (j : Int) := (IntWalk.i64_in _ (by omega)).trans (by omega)
        have HSB := Lib.hid hsub; have HSB2 := Lib.hid hsub'
        clear hx hx2 hm hj hlt hsub hsub' HS HT
        go_wp2_with fail
        have hsub := HSB.out; have hsub' := HSB2.out
        go_quiet ((go_at_call 48; exact Calls.quiet_of_same (HM.out _)))
        clear hsub hsub' hxx c1
        go_wp2_with fail
        go_roundw
        case rel => exact ⟨n + j + 1, by omega, by go_num, Lib.hid (HNQ.out _)⟩
        case measure => simp [intOf]; omega
      · obtain rfl : i = n + 12 := by omega
        go_wp2_with fail
        go_ret
        exact ⟨rfl, HQ.out⟩

/-- What OverBytes comes to. -/
def OverTo (τ : Nat) (w : World) (o : Own) (e : Ending) (w' : World) : Prop := e = .returned (.tuple #[]) ∧ Step [τ] w o w' o
set_option maxRecDepth 100000 in
set_option maxHeartbeats 1000000 in
theorem OverBytes_nil (w : World) (o : Own) (τ : Nat) : Calls Try.prog 29 #[.slice none 0 0] w (OverTo τ w o) := by
  have hmn := fun W => run_min2 (P := Try.prog) W #[3, 3] 3 0 12 0 (by omega)
  go_enter Try.func29, Try.ntmps29
  go_wp2_with fail
  refine wp_loop_rounds 1 ?_
  rw [rounds_succ]
  go_wp2_with fail
  go_end0
  exact ⟨rfl, Step.refl _ _ _⟩

set_option maxRecDepth 100000 in
set_option maxHeartbeats 2000000 in
theorem OverBytes_row (w : World) (o : Own) (τ : Nat) (A : Option Addr) (n c : Nat) (xs : List Value) (hR : Row w o τ 5 1 A n c xs) (hn : n ≤ 4000) :
    Calls Try.prog 29 #[.slice A n c] w (OverTo τ w o) := by
  obtain ⟨⟨h1, h2⟩, h3⟩ := hR
  rcases h2 with ⟨h2, h4⟩ | ⟨g, cap, cur, hv, hg, hh, hnc, hcm, hsz, -⟩
  · injection h2 with a1 a2 a3
    subst a1; subst a2; subst a3
    exact OverBytes_nil w o τ
  injection hv with a1 a2 a3
  subst a1; subst a3
  have ho := h3 _ rfl
  simp only at ho
  have hB : Blk w g 5 cur := hh
  obtain ⟨M, hM⟩ : ∃ M : Nat, M = min c (n + 12) := ⟨_, rfl⟩
  have hMc : M ≤ c := by omega
  have hM64 : M ≤ 4012 := by omega
  have hcb : c ≤ 9223372036854775807 := by unfold maxLen at hcm; omega
  have hmn := fun W => run_min2 (P := Try.prog) W #[3, 3] 3 (c : Int) ((n : Int) + 12) (M : Int) (by omega)
  have HO := Lib.hid ho; have HB := Lib.hid hB; have HSZ := Lib.hid hsz
  clear hM hcm ho hB hsz h1 h3 hh hg
  go_enter Try.func29, Try.ntmps29
  go_wp2_with fail
  go_loopw [3] (fun s wr => ∃ (i : Nat) (cs : Array Value), i ≤ M ∧ s = .int .i64 i ∧ Hid (Step [τ] w o wr o ∧ Blk wr g 5 cs ∧ cs.size = c)) (fun s _ => M - (intOf s).toNat)
  case atStart => exact ⟨0, cur, Nat.zero_le _, rfl, Lib.hid ⟨Step.refl _ _ _, HB.out, by rw [HSZ.out]; omega⟩⟩
  case round => as_aux_lemma =>
    obtain ⟨i, cs, hi, rfl, HK⟩ := hrel
    by_cases hlt : i < M
    · have hmm := fun W => markByte_any W 2 (i : Int) (by omega) (by omega)
      obtain ⟨R, hR⟩ : ∃ R : Int, R = ((mbU 2 (i : Int)).toNat : Int) := ⟨_, rfl⟩
      rw [← hR] at hmm
      obtain ⟨u, hu⟩ : ∃ u, cs[i]? = some u := ⟨_, Array.getElem?_eq_getElem (by rw [HK.out.2.2]; omega)⟩
      have c1 := (HK.out.2.1.cell i).trans hu
      have f1 := HK.out.2.1.frozen i
      have HMM := Lib.hid hmm
      clear hmm hR hu
      go_wp2_with (go_at_call 48; refine (HMM.out _).mono ?_; rintro e w2 ⟨rfl, rfl⟩)
      go_roundw
      case rel => exact ⟨i + 1, cs.setIfInBounds i (.int .u8 R), by omega, by go_num, Lib.hid ⟨HK.out.1.setCell (.inr (by rw [HO.out]; simp)) _, HK.out.2.1.set_ i _, by rw [Array.size_setIfInBounds]; exact HK.out.2.2⟩⟩
      case measure => simp [intOf]; omega
    · obtain rfl : M = i := by omega
      go_wp2_with fail
      go_end0
      exact ⟨rfl, HK.out.1⟩
/-- The first elements of a row are a row. -/
theorem Row.first {w : World} {o : Own} {τ : Nat} {e : TypeId} {sz n c : Nat} {A : Option Addr} {xs : List Value} (h : Row w o τ e sz A n c xs) (k : Nat) (hk : k ≤ n) (h0 : 0 < n) : Row w o τ e sz A k c (xs.take (k * sz)) := by
  obtain ⟨g, cur, hA, ho, hb, hnc, hm, hsz, ht⟩ := h.form h0
  have h1 : k * sz ≤ n * sz := Nat.mul_le_mul_right _ hk
  refine ⟨⟨by rw [List.length_take, h.len]; omega, .inr ⟨g, c, cur, by rw [hA], Nat.zero_le _, hb, by omega, hm, hsz, ?_⟩⟩, fun ad ha => by rw [hA] at ha; injection ha with ha; subst ha; exact ho⟩
  rw [← ht, List.take_take, Nat.min_eq_left h1]

set_option maxRecDepth 100000 in
set_option maxHeartbeats 1000000 in
theorem SameBytes_eq (w : World) (o o2 : Own) (τ τ2 : Nat) (A B : Option Addr) (n m c d : Nat) (xs : List UInt8) (hS : Sl w o τ 1 A n c (byts xs)) (hT : Sl w o2 τ2 1 B m d (byts xs)) :
    Calls Try.prog 26 #[.slice A n c, .slice B m d] w (SameTo w true) := by
  have hl1 : xs.length = n := by have := hS.1; simpa using this
  have hl2 : xs.length = m := by have := hT.1; simpa using this
  obtain rfl : n = m := by omega
  have hb : n ≤ 9223372036854775807 := by have h1 := hS.2.1; have h2 := hS.2.2.1; unfold maxLen at h2; omega
  have hnn : ((n : Int) != (n : Int)) = false := by simp
  have HS := Lib.hid hS; have HT := Lib.hid hT; have HL := Lib.hid hl1
  clear hS hT hl1 hl2
  go_enter Try.func26, Try.ntmps26
  go_wp2_with fail
  go_loopw [5] (fun s wr => ∃ k q : Nat, k ≤ n ∧ s = .int .i64 k ∧ wr = w.drewN q) (fun s _ => n - (intOf s).toNat)
  case atStart => exact ⟨0, 0, Nat.zero_le _, rfl, rfl⟩
  case round => as_aux_lemma =>
    obtain ⟨k, q, hk, rfl, rfl⟩ := hrel
    by_cases hlt : k < n
    · obtain ⟨y, hx⟩ : ∃ x, xs[k]? = some x := ⟨_, List.getElem?_eq_getElem (by rw [HL.out]; exact hlt)⟩
      obtain ⟨g1, o1, rfl, hg1, c1⟩ := HS.out.u8_at hx
      obtain ⟨g2, o2, rfl, hg2, c2⟩ := HT.out.u8_at hx
      obtain ⟨x, hxv⟩ : ∃ x : Int, x = (y.toNat : Int) := ⟨_, rfl⟩
      rw [← hxv] at c1 c2
      have hxx : (x != x) = false := by simp
      have hki : (k : Int) < (n : Int) := by omega
      clear hxv hx
      go_wp2_with fail
      go_quiet (fail)
      go_wp2_with fail
      go_roundw
      case rel => exact ⟨k + 1, q + nq, by omega, by go_num, by first | rfl | rw [World.drewN_drewN]⟩
      case measure => simp [intOf]; omega
    · obtain rfl : n = k := by omega
      go_wp2_with fail
      go_ret
      exact ⟨rfl, q, rfl⟩
end Go.Proofs.Ytpmbfgpfpdenbaa
