/-
  WALKS of mark, LentInts.
-/
import Derived.Test.YtkceefheeicmbaaRatN
namespace Go.Proofs.Ytkceefheeicmbaa
open Go.RowKit

def mkI (k i : Int) : Int := 1000003 * (k + 7) + i
def mk1 (j : Nat) : List Int := (List.range j).map fun (i : Nat) => mkI 1 (i : Int)
theorem mk1_snoc (j : Nat) : mk1 (j + 1) = mk1 j ++ [mkI 1 j] := by simp [mk1, List.range_succ]

set_option maxHeartbeats 400000 in
theorem mark_any (w : World) (k i : Int) (hk : 0 ≤ k ∧ k ≤ 10) (hi : 0 ≤ i ∧ i ≤ 1000000) (R : Int) (hR : R = mkI k i) : Calls Try.prog 65 #[.int .i64 k, .int .i64 i] w (Just w (.int .i64 R)) := by
  obtain ⟨k0, k1⟩ := hk
  obtain ⟨i0, i1⟩ := hi
  have HR := Lib.hid hR; clear hR
  go_enter Try.func65, Try.ntmps65
  go_wp2_with fail
  go_ret
  exact ⟨by rw [HR.out]; rfl, rfl⟩

theorem make_ints (m : Nat) (hm : m ≤ 64) : ∃ cs : Array Value, cs.size = m ∧ ∀ W, (Instr.makeSlice 32 (.int .i64 0) (.int .i64 (m : Int))).run Try.prog W = .ok (.slice (some ⟨W.heap.size, 0, none⟩) 0 m) (W.alloc (.cells cs 3)) := by
  have hi : (Try.prog.info? 3).map (fun i => (i.zero, i.size, i.bytes)) = some (some (.int .i64 0), 1, 8) := by kernel_rfl
  obtain ⟨i, h1, h2, h3, h4⟩ := info_parts hi
  refine ⟨madeCells (Value.int .i64 0).cells (m * 1), by rw [size_madeCells]; omega, fun W => ?_⟩
  have h := run_makeSlice (P := Try.prog) W 32 3 i (.int .i64 0) Try.underlying32 h1 h2 .i64 .i64 (0 : Int) (m : Int) (by omega) (by omega) (by rw [h3, Int.toNat_natCast]; omega) (by rw [h4]; omega) (by omega)
  rw [h3, Int.toNat_natCast] at h
  exact h

def LentTo (w : World) (n : Nat) (xs : List Int) (e : Ending) (w' : World) : Prop := ∃ g c o', e = .returned (.slice (some ⟨g, 0, none⟩) n c) ∧ Step [] w (fun _ => 0) w' o' ∧ Row w' o' 34 3 1 (some ⟨g, 0, none⟩) (n + 12) c (ints (xs ++ mk1 12))
set_option maxRecDepth 100000 in
set_option maxHeartbeats 2000000 in
theorem LentInts_any (w : World) (A : Option Addr) (n c : Nat) (xs : List Int) (hS : Sl w (fun _ => 0) 0 1 A n c (ints xs)) (hn : n ≤ 20) :
    Calls Try.prog 37 #[.slice A n c] w (LentTo w n xs) := by
  have hl : xs.length = n := by have := hS.1; rw [len_ints] at this; omega
  obtain ⟨cs, hcs, hmk⟩ := make_ints (n + 12) (by omega)
  have hcast : ((n + 12 : Nat) : Int) = (n : Int) + 12 := by omega
  rw [hcast] at hmk
  have hst := (Step.refl [] w (fun _ => 0)).alloc (.cells cs 3) 34
  have hr0 : Row (w.alloc (.cells cs 3)) (ext (fun _ => 0) w.heap.size 34) 34 3 1 (some ⟨w.heap.size, 0, none⟩) 0 (n + 12) [] := by
    have := Row.made (w := w) (fun _ => 0) 34 3 1 cs (n + 12) (by rw [hcs]; omega) (by simp only [maxLen]; omega) 0 (Nat.zero_le _)
    simpa using this
  have hS1 := hS.step hst (by simp)
  have HL := Lib.hid hl; have HST := Lib.hid hst; have HR0 := Lib.hid hr0; have HS1 := Lib.hid hS1
  clear hl hst hr0 hS1 hS hcs hcast
  go_enter Try.func37, Try.ntmps37
  go_wp2_with (at_builtin; refine wpList_append_row _ rfl (.tmp 9) (.tmp 10) _ rfl el_int _ 34 _ 0 _ [] rfl HR0.out _ 0 A n c (ints xs) rfl HS1.out (one_ints _) (by omega) (by simp only [maxLen]; omega) ?_; intro A1 c1 w1 hr1 hg1 hat1; have HR1 := Lib.hid hr1; have HST1 := Lib.hid ((HST.out.nil.trans (Step.append HR0.out hg1 34)).forget (ts' := []) (fun t ht _ k hk => by simp at ht; subst ht; simp)); clear hr1 hg1 hat1)
  rw [Nat.zero_add] at HR1
  go_loopw [4, 3] (fun s s3 wr => ∃ (j : Nat) (Aj : Option Addr) (cj : Nat) (oj : Own), j ≤ 12 ∧ s = .int .i64 j ∧ s3 = .slice Aj (n + j) cj ∧ Hid (Step [] w (fun _ => 0) wr oj ∧ Row wr oj 34 3 1 Aj (n + j) cj (ints (xs ++ mk1 j)))) (fun s _ _ => 12 - (intOf s).toNat)
  case atStart => exact ⟨0, A1, c1, _, Nat.zero_le _, rfl, rfl, Lib.hid ⟨HST1.out, by simpa [mk1] using HR1.out⟩⟩
  case round => as_aux_lemma =>
    obtain ⟨j, Aj, cj, oj, hj, rfl, rfl, HJ⟩ := hrel
    by_cases hlt : j < 12
    · have hmm := fun W => mark_any W 1 (j : Int) (by omega) (by omega) (mkI 1 j) rfl
      have HMM := Lib.hid hmm
      obtain ⟨R, hR⟩ : ∃ R, R = mkI 1 (j : Int) := ⟨_, rfl⟩
      rw [← hR] at HMM
      have hsn := mk1_snoc j
      rw [← hR] at hsn
      have HSN := Lib.hid hsn
      have hst2 := (Step.refl [] wr oj).alloc (.cells #[.int .i64 R] 3) 5
      have hr2 := HJ.out.2.step hst2 (by simp)
      have bN := Blk.new wr 3 #[.int .i64 R]
      have hsl : Sl (wr.alloc (.cells #[.int .i64 R] 3)) (ext oj wr.heap.size 5) 5 1 (some ⟨wr.heap.size, 0, none⟩) 1 1 [.int .i64 R] :=
        ⟨rfl, Nat.le_refl _, by decide, fun _ => ⟨wr.heap.size, 0, rfl, ext_ge (Nat.le_refl _), bN.lt, fun i u hi => by rw [Nat.zero_add, bN.cell]; simpa using hi⟩⟩
      have HST2 := Lib.hid (HJ.out.1.trans hst2); have HR2 := Lib.hid hr2; have HSL := Lib.hid hsl
      clear hmm hR hsn hst2 hr2 bN hsl
      go_wp2_with (first
        | (go_at_call 65; refine (HMM.out _).mono ?_; rintro e w2 ⟨rfl, rfl⟩)
        | (at_builtin; refine wpList_append_row _ rfl (.tmp 16) (.tmp 19) _ rfl el_int _ 34 Aj (n + j) cj _ rfl HR2.out _ 5 _ 1 1 [.int .i64 R] rfl HSL.out (by simp [Value.oneCell']) (by omega) (by simp only [maxLen]; omega) ?_; intro A2 c2 w2 hr3 hg3 hat3; have HR3 := Lib.hid hr3; have HST3 := Lib.hid ((HST2.out.nil.trans (Step.append HR2.out hg3 34)).forget (ts' := []) (fun t ht _ k hk => by simp at ht; subst ht; simp)); clear hr3 hg3 hat3))
      go_roundw
      case rel => exact ⟨j + 1, A2, c2, _, by omega, by go_num, rfl, Lib.hid ⟨HST3.out, by rw [HSN.out]; simpa [ints, Nat.add_assoc] using HR3.out⟩⟩
      case measure => simp [intOf]; omega
    · obtain rfl : j = 12 := by omega
      obtain ⟨g, cur, rfl, -, -, hc1, -, -, -⟩ := HJ.out.2.form (by omega)
      have hcn : n ≤ cj := by omega
      go_wp2_with fail
      go_ret
      exact ⟨g, cj, oj, rfl, HJ.out.1, HJ.out.2⟩
end Go.Proofs.Ytkceefheeicmbaa
