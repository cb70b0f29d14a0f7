/-
  WALKS of mark, markByte, LentBytes.
-/
import Derived.Test.YtpmbfgpfpdenbaaNew
import Derived.Test.YtpmbfgpfpdenbaaBitsA
import Derived.Test.YtpmbfgpfpdenbaaKitA
namespace Go.Proofs.Ytpmbfgpfpdenbaa
open Go.RowKit

def mkI (k i : Int) : Int := 1000003 * (k + 7) + i
def mbI (k i : Int) : Int := mkI k i * 11400714819323198485 % 18446744073709551616 / 72057594037927936
theorem mbI_bd (k i : Int) : 0 ≤ mbI k i ∧ mbI k i < 256 := by unfold mbI; omega
def mbU (k i : Int) : UInt8 := UInt8.ofNat (mbI k i).toNat
theorem mbU_val (k i : Int) : ((mbU k i).toNat : Int) = mbI k i := by
  obtain ⟨h0, h1⟩ := mbI_bd k i
  unfold mbU
  simp
  omega

set_option maxHeartbeats 400000 in
theorem kmark_any (w : World) (k i : Int) (hk : 0 ≤ k ∧ k ≤ 10) (hi : 0 ≤ i ∧ i ≤ 1000000) : Calls Try.prog 61 #[.int .i64 k, .int .i64 i] w fun e w' => e = .returned (.int .i64 (mkI k i)) ∧ w = w' := by
  obtain ⟨k0, k1⟩ := hk
  obtain ⟨i0, i1⟩ := hi
  go_enter Try.func61, Try.ntmps61
  go_wp2_with fail
  go_ret
  exact ⟨by unfold mkI; rfl, rfl⟩

set_option maxHeartbeats 400000 in
theorem markByte_any (w : World) (k i : Int) (hk : 0 ≤ k ∧ k ≤ 10) (hi : 0 ≤ i ∧ i ≤ 1000000) : Calls Try.prog 48 #[.int .i64 k, .int .i64 i] w fun e w' => e = .returned (.int .u8 ((mbU k i).toNat : Int)) ∧ w = w' := by
  obtain ⟨M, hM⟩ : ∃ M, M = mkI k i := ⟨_, rfl⟩
  have hM0 : 0 ≤ M := by rw [hM]; unfold mkI; omega
  have hM1 : M ≤ 20000000000 := by rw [hM]; unfold mkI; omega
  have hm := fun W => kmark_any W k i hk hi
  rw [← hM] at hm
  obtain ⟨R, hR⟩ : ∃ R, R = mbI k i := ⟨_, rfl⟩
  rw [mbU_val, ← hR]
  unfold mbI at hR
  rw [← hM] at hR
  have HM := Lib.hid hm; have HR := Lib.hid hR
  clear hm hR hM hk hi
  go_enter Try.func48, Try.ntmps48
  go_wp2_with (go_at_call 61; refine (HM.out _).mono ?_; rintro e w' ⟨rfl, rfl⟩)
  go_ret
  refine ⟨ret_int (k := .u8) (?_ : IntKind.u64.wrap (M * 11400714819323198485) / 72057594037927936 % 256 = R), rfl⟩
  have hw : IntKind.u64.wrap (M * 11400714819323198485) = M * 11400714819323198485 % 18446744073709551616 := rfl
  rw [HR.out, hw]
  omega

def mkB (k j : Nat) : List UInt8 := (List.range j).map fun (i : Nat) => mbU (k : Int) (i : Int)
theorem mkB_snoc (k j : Nat) : mkB k (j + 1) = mkB k j ++ [mbU k j] := by simp [mkB, List.range_succ]
theorem mkB_get {k j m : Nat} (h : j < m) : (mkB k m)[j]? = some (mbU k j) := by simp [mkB, h]

theorem make_bytes0 (m : Nat) (hm : m ≤ 4000) : ∃ cs : Array Value, cs.size = m ∧ ∀ W, (Instr.makeSlice 27 (.int .i64 0) (.int .i64 (m : Int))).run Try.prog W = .ok (.slice (some ⟨W.heap.size, 0, none⟩) 0 m) (W.alloc (.cells cs 5)) := by
  have hi : (Try.prog.info? 5).map (fun i => (i.zero, i.size, i.bytes)) = some (some (.int .u8 0), 1, 1) := by kernel_rfl
  obtain ⟨i, h1, h2, h3, h4⟩ := info_parts hi
  refine ⟨madeCells (Value.int .u8 0).cells (m * 1), by rw [size_madeCells]; omega, fun W => ?_⟩
  have h := run_makeSlice (P := Try.prog) W 27 5 i (.int .u8 0) Try.underlying27 h1 h2 .i64 .i64 (0 : Int) (m : Int) (by omega) (by omega) (by rw [h3, Int.toNat_natCast]; omega) (by rw [h4]; omega) (by omega)
  rw [h3, Int.toNat_natCast] at h
  exact h

/-- A lent slice: its own row, whole. -/
def LentTo (w : World) (n : Nat) (xs : List UInt8) (e : Ending) (w' : World) : Prop := ∃ g c, e = .returned (.slice (some ⟨g, 0, none⟩) n c) ∧ Below w.heap.size w w' ∧ w.heap.size ≤ g ∧ NRow w.heap.size w' 5 1 (some ⟨g, 0, none⟩) (n + 12) c (byts (xs ++ mkB 1 12))

set_option maxRecDepth 100000 in
set_option maxHeartbeats 2000000 in
theorem LentBytes_any (w : World) (o : Own) (τ : Nat) (A : Option Addr) (n c : Nat) (xs : List UInt8) (hS : Sl w o τ 1 A n c (byts xs)) (hn : n ≤ 2000) :
    Calls Try.prog 22 #[.slice A n c] w (LentTo w n xs) := by
  have hl : xs.length = n := by have := hS.1; simpa using this
  obtain ⟨cs, hcs, hmk⟩ := make_bytes0 (n + 12) (by omega)
  have hcast : ((n + 12 : Nat) : Int) = (n : Int) + 12 := by omega
  rw [hcast] at hmk
  have H0 := Lib.hid ((NS.refl w).alloc (.cells cs 5))
  have r0 := NRow.made (w := w) (B := w.heap.size) (Nat.le_refl _) 5 1 (n + 12) (cs := cs) (by rw [hcs]; omega) (by simp only [maxLen]; omega) 0 (Nat.zero_le _)
  simp only [Nat.zero_mul, List.take_zero] at r0
  have R0 := Lib.hid r0
  have S0 := Lib.hid (hS.below ((Below.refl w.heap.size w).alloc (Nat.le_refl _) (.cells cs 5)))
  have HL := Lib.hid hl
  clear hl r0 hS hcs hcast
  go_enter Try.func22, Try.ntmps22
  go_wp2_with (at_builtin; refine wpList_append_new _ rfl (.tmp 9) (.tmp 10) _ rfl el_byte H0.out _ 0 _ [] rfl R0.out A n c (byts xs) rfl S0.out (one_byts _) (by omega) (by simp only [maxLen]; omega) ?_; intro A1 c1 w1 hr1 hk1 hl1 hb1; rw [Nat.zero_add] at hr1; have R1 := Lib.hid hr1; have H1 := Lib.hid hk1; clear hr1 hk1 hl1 hb1)
  go_loopw [4, 3] (fun s s3 wr => ∃ (j : Nat) (Aj : Option Addr) (cj : Nat), j ≤ 12 ∧ s = .int .i64 j ∧ s3 = .slice Aj (n + j) cj ∧ Hid (NS w.heap.size w wr ∧ NRow w.heap.size wr 5 1 Aj (n + j) cj (byts (xs ++ mkB 1 j)))) (fun s _ _ => 12 - (intOf s).toNat)
  case atStart => exact ⟨0, A1, c1, Nat.zero_le _, rfl, rfl, Lib.hid ⟨H1.out, by simpa [mkB] using R1.out⟩⟩
  case round => as_aux_lemma =>
    obtain ⟨j, Aj, cj, hj, rfl, rfl, HJ⟩ := hrel
    by_cases hlt : j < 12
    · have hmm := fun W => markByte_any W 1 (j : Int) (by omega) (by omega)
      have hsn := mkB_snoc 1 j
      have e1 : ((1 : Nat) : Int) = 1 := rfl
      rw [e1] at hsn
      obtain ⟨R, hR⟩ : ∃ R : Int, R = ((mbU 1 (j : Int)).toNat : Int) := ⟨_, rfl⟩
      rw [← hR] at hmm
      have HMM := Lib.hid hmm; have HSN := Lib.hid hsn; have HRR := Lib.hid hR
      have H2 := Lib.hid (HJ.out.1.alloc (.cells #[.int .u8 R] 5)); have R2 := Lib.hid (HJ.out.2.alloc HJ.out.1.le' (.cells #[.int .u8 R] 5))
      clear hmm hR hsn e1
      go_wp2_with (first
        | (go_at_call 48; refine (HMM.out _).mono ?_; rintro e w2 ⟨rfl, rfl⟩)
        | (at_builtin; refine wpList_append_new _ rfl (.tmp 16) (.tmp 19) _ rfl el_byte H2.out Aj (n + j) cj _ rfl R2.out _ 1 1 _ rfl (Sl.fresh wr 5 1 1 [.int .u8 R] rfl (by decide)) (by simp [Value.oneCell']) (by omega) (by simp only [maxLen]; omega) ?_; intro A3 c3 w3 hr3 hk3 hl3 hb3; have R3 := Lib.hid hr3; have H3 := Lib.hid hk3; clear hr3 hk3 hl3 hb3))
      go_roundw
      case rel => exact ⟨j + 1, A3, c3, by omega, by go_num, rfl, Lib.hid ⟨H3.out, by have := R3.out; rw [HSN.out]; rw [HRR.out] at this; simpa [byts, Nat.add_assoc] using this⟩⟩
      case measure => simp [intOf]; omega
    · obtain rfl : j = 12 := by omega
      obtain ⟨g, cur, rfl, -, -, hc1, -, -, -⟩ := HJ.out.2.form (by omega)
      have hcn : n ≤ cj := by omega
      go_wp2_with fail
      go_ret
      exact ⟨g, cj, rfl, HJ.out.1.fin, HJ.out.2.new _ rfl, HJ.out.2⟩
end Go.Proofs.Ytpmbfgpfpdenbaa
