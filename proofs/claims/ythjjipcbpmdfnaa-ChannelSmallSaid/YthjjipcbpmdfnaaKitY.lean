/-
  Joined: KitA, BytA, BytB, KitB.
-/
import Derived.Test.YthjjipcbpmdfnaaPackJ
import Derived.Laws.IdiomStrings
import Derived.Laws.BytesArg
import Derived.Test.YthjjipcbpmdfnaaNew
import Derived.Test.YthjjipcbpmdfnaaBitsA
import Derived.BigQuiet
import Derived.Lib.MinMax
import Derived.Lib.SlBytesConst

/- WALKS of marcheskit's small functions (SameInts, SameBytes), and run equations: a text of bytes, two reports held against each other. -/
namespace Go.Proofs.Ythjjipcbpmdfnaa
open Go.RowKit

theorem conv_bytes (w : World) (o : Own) (τ : Nat) (A : Option Addr) (n c : Nat) (xs : List UInt8) (hS : Sl w o τ 1 A n c (byts xs)) :
    (convert 41 9 (.slice A n c)).run Try.prog w = .ok (.string ⟨xs.toArray⟩) w := by
  have hl : n = xs.length := by have := hS.1; simp at this; omega
  subst hl
  rcases Nat.eq_zero_or_pos xs.length with h0 | h0
  · have hx : xs = [] := List.length_eq_zero_iff.1 h0
    subst hx
    cases A with
    | none => exact run_convert_bytes_nil (P := Try.prog) w _ _ Try.underlying41 Try.underlying5 _ _ _ Try.underlying9
    | some a => exact run_convert_bytes_back (P := Try.prog) w _ _ _ a c [] Try.underlying41 Try.underlying5 Try.underlying9 (fun j hj => absurd hj (by simp))
  · obtain ⟨g, off, rfl, -, -, hc⟩ := hS.2.2.2 h0
    refine run_convert_bytes_back (P := Try.prog) w _ _ _ ⟨g, off, none⟩ c xs Try.underlying41 Try.underlying5 Try.underlying9 (fun j hj => ?_)
    rw [Addr.add_lit]
    exact hc j _ (by simp [byts, hj])

theorem rep_ne_walk (W : World) (a b : Int) (p q : Bool) : (binOp .neq 140 (.agg #[.int .i64 a, .bool p]) (.agg #[.int .i64 b, .bool q])).run Try.prog W =
    .ok (.bool (!((a == b) && (p == q)))) W := by
  rw [run_neq_struct, run_equalIn_struct W 9999 140 _ _ (by kernel_rfl) (by kernel_rfl)]
  simp [go_sem, Try.underlying140]
  by_cases h1 : a = b <;> by_cases h2 : p = q <;> simp [h1, h2]

theorem take_eq_succ {α : Type} [Inhabited α] {xs ys : List α} {k : Nat} (h : xs.take k = ys.take k) (_hk : k < xs.length) (_hk' : k < ys.length) (he : xs[k]? = ys[k]?) : xs.take (k + 1) = ys.take (k + 1) := by
  rw [List.take_add_one, List.take_add_one, h, he]

/-- What such a function comes to. -/
def SameTo (w : World) (b : Bool) (e : Ending) (w' : World) : Prop := e = .returned (.bool b) ∧ ∃ k, w' = w.drewN k

end Go.Proofs.Ythjjipcbpmdfnaa

/- WALKS of mark, markByte, LentBytes. -/
namespace Go.Proofs.Ythjjipcbpmdfnaa
open Go.RowKit

def mkI (k i : Int) : Int := 1000003 * (k + 7) + i
def mbI (k i : Int) : Int := mkI k i * 11400714819323198485 % 18446744073709551616 / 72057594037927936
theorem mbI_bd (k i : Int) : 0 ≤ mbI k i ∧ mbI k i < 256 := by unfold mbI; omega
def mbU (k i : Int) : UInt8 := UInt8.ofNat (mbI k i).toNat
theorem mbU_val (k i : Int) : ((mbU k i).toNat : Int) = mbI k i := by
  obtain ⟨h0, h1⟩ := mbI_bd k i
  unfold mbU
  simp
  omega

set_option maxHeartbeats 400000 in
theorem kmark_any (w : World) (k i : Int) (hk : 0 ≤ k ∧ k ≤ 10) (hi : 0 ≤ i ∧ i ≤ 1000000) : Calls Try.prog 58 #[.int .i64 k, .int .i64 i] w fun e w' => e = .returned (.int .i64 (mkI k i)) ∧ w = w' := by
  obtain ⟨k0, k1⟩ := hk
  obtain ⟨i0, i1⟩ := hi
  go_enter Try.func58, Try.ntmps58
  go_wp2_with fail
  go_ret
  exact ⟨by unfold mkI; rfl, rfl⟩

set_option maxHeartbeats 400000 in
theorem markByte_any (w : World) (k i : Int) (hk : 0 ≤ k ∧ k ≤ 10) (hi : 0 ≤ i ∧ i ≤ 1000000) : Calls Try.prog 40 #[.int .i64 k, .int .i64 i] w fun e w' => e = .returned (.int .u8 ((mbU k i).toNat : Int)) ∧ w = w' := by
  obtain ⟨M, hM⟩ : ∃ M, M = mkI k i := ⟨_, rfl⟩
  have hM0 : 0 ≤ M := by rw [hM]; unfold mkI; omega
  have hM1 : M ≤ 20000000000 := by rw [hM]; unfold mkI; omega
  have hm := fun W => kmark_any W k i hk hi
  rw [← hM] at hm
  obtain ⟨R, hR⟩ : ∃ R, R = mbI k i := ⟨_, rfl⟩
  rw [mbU_val, ← hR]
  unfold mbI at hR
  rw [← hM] at hR
  have HM := Lib.hid hm; have HR := Lib.hid hR
  clear hm hR hM hk hi
  go_enter Try.func40, Try.ntmps40
  go_wp2_with (go_at_call 58; refine (HM.out _).mono ?_; rintro e w' ⟨rfl, rfl⟩)
  go_ret
  refine ⟨ret_int (k := .u8) (?_ : IntKind.u64.wrap (M * 11400714819323198485) / 72057594037927936 % 256 = R), rfl⟩
  have hw : IntKind.u64.wrap (M * 11400714819323198485) = M * 11400714819323198485 % 18446744073709551616 := rfl
  rw [HR.out, hw]
  omega

def mkB (k j : Nat) : List UInt8 := (List.range j).map fun (i : Nat) => mbU (k : Int) (i : Int)
theorem mkB_snoc (k j : Nat) : mkB k (j + 1) = mkB k j ++ [mbU k j] := by simp [mkB, List.range_succ]
theorem mkB_get {k j m : Nat} (h : j < m) : (mkB k m)[j]? = some (mbU k j) := by simp [mkB, h]

theorem make_bytes0 (m : Nat) (hm : m ≤ 4000) : ∃ cs : Array Value, cs.size = m ∧ ∀ W, (Instr.makeSlice 41 (.int .i64 0) (.int .i64 (m : Int))).run Try.prog W = .ok (.slice (some ⟨W.heap.size, 0, none⟩) 0 m) (W.alloc (.cells cs 5)) := by
  have hi : (Try.prog.info? 5).map (fun i => (i.zero, i.size, i.bytes)) = some (some (.int .u8 0), 1, 1) := by kernel_rfl
  obtain ⟨i, h1, h2, h3, h4⟩ := info_parts hi
  refine ⟨madeCells (Value.int .u8 0).cells (m * 1), by rw [size_madeCells]; omega, fun W => ?_⟩
  have h := run_makeSlice (P := Try.prog) W 41 5 i (.int .u8 0) Try.underlying41 h1 h2 .i64 .i64 (0 : Int) (m : Int) (by omega) (by omega) (by rw [h3, Int.toNat_natCast]; omega) (by rw [h4]; omega) (by omega)
  rw [h3, Int.toNat_natCast] at h
  exact h

/-- A lent slice: its own row, whole. -/
def LentTo (w : World) (n : Nat) (xs : List UInt8) (e : Ending) (w' : World) : Prop := ∃ g c, e = .returned (.slice (some ⟨g, 0, none⟩) n c) ∧ Below w.heap.size w w' ∧ w.heap.size ≤ g ∧ NRow w.heap.size w' 5 1 (some ⟨g, 0, none⟩) (n + 12) c (byts (xs ++ mkB 1 12))

set_option maxRecDepth 100000 in
set_option maxHeartbeats 2000000 in
theorem LentBytes_any (w : World) (o : Own) (τ : Nat) (A : Option Addr) (n c : Nat) (xs : List UInt8) (hS : Sl w o τ 1 A n c (byts xs)) (hn : n ≤ 2000) :
    Calls Try.prog 14 #[.slice A n c] w (LentTo w n xs) := by
  have hl : xs.length = n := by have := hS.1; simpa using this
  obtain ⟨cs, hcs, hmk⟩ := make_bytes0 (n + 12) (by omega)
  have hcast : ((n + 12 : Nat) : Int) = (n : Int) + 12 := by omega
  rw [hcast] at hmk
  have H0 := Lib.hid ((NS.refl w).alloc (.cells cs 5))
  have r0 := NRow.made (w := w) (B := w.heap.size) (Nat.le_refl _) 5 1 (n + 12) (cs := cs) (by rw [hcs]; omega) (by simp only [maxLen]; omega) 0 (Nat.zero_le _)
  simp only [Nat.zero_mul, List.take_zero] at r0
  have R0 := Lib.hid r0
  have S0 := Lib.hid (hS.below ((Below.refl w.heap.size w).alloc (Nat.le_refl _) (.cells cs 5)))
  have HL := Lib.hid hl
  clear hl r0 hS hcs hcast
  go_enter Try.func14, Try.ntmps14
  go_wp2_with (at_builtin; refine wpList_append_new _ rfl (.tmp 9) (.tmp 10) _ rfl el_byte H0.out _ 0 _ [] rfl R0.out A n c (byts xs) rfl S0.out (one_byts _) (by omega) (by simp only [maxLen]; omega) ?_; intro A1 c1 w1 hr1 hk1 hl1 hb1; rw [Nat.zero_add] at hr1; have R1 := Lib.hid hr1; have H1 := Lib.hid hk1; clear hr1 hk1 hl1 hb1)
  go_loopw [4, 3] (fun s s3 wr => ∃ (j : Nat) (Aj : Option Addr) (cj : Nat), j ≤ 12 ∧ s = .int .i64 j ∧ s3 = .slice Aj (n + j) cj ∧ Hid (NS w.heap.size w wr ∧ NRow w.heap.size wr 5 1 Aj (n + j) cj (byts (xs ++ mkB 1 j)))) (fun s _ _ => 12 - (intOf s).toNat)
  case atStart => exact ⟨0, A1, c1, Nat.zero_le _, rfl, rfl, Lib.hid ⟨H1.out, by simpa [mkB] using R1.out⟩⟩
  case round => as_aux_lemma =>
    obtain ⟨j, Aj, cj, hj, rfl, rfl, HJ⟩ := hrel
    by_cases hlt : j < 12
    · have hmm := fun W => markByte_any W 1 (j : Int) (by omega) (by omega)
      have hsn := mkB_snoc 1 j
      have e1 : ((1 : Nat) : Int) = 1 := rfl
      rw [e1] at hsn
      obtain ⟨R, hR⟩ : ∃ R : Int, R = ((mbU 1 (j : Int)).toNat : Int) := ⟨_, rfl⟩
      rw [← hR] at hmm
      have HMM := Lib.hid hmm; have HSN := Lib.hid hsn; have HRR := Lib.hid hR
      have H2 := Lib.hid (HJ.out.1.alloc (.cells #[.int .u8 R] 5)); have R2 := Lib.hid (HJ.out.2.alloc HJ.out.1.le' (.cells #[.int .u8 R] 5))
      clear hmm hR hsn e1
      go_wp2_with (first
        | (go_at_call 40; refine (HMM.out _).mono ?_; rintro e w2 ⟨rfl, rfl⟩)
        | (at_builtin; refine wpList_append_new _ rfl (.tmp 16) (.tmp 19) _ rfl el_byte H2.out Aj (n + j) cj _ rfl R2.out _ 1 1 _ rfl (Sl.fresh wr 5 1 1 [.int .u8 R] rfl (by decide)) (by simp [Value.oneCell']) (by omega) (by simp only [maxLen]; omega) ?_; intro A3 c3 w3 hr3 hk3 hl3 hb3; have R3 := Lib.hid hr3; have H3 := Lib.hid hk3; clear hr3 hk3 hl3 hb3))
      go_roundw
      case rel => exact ⟨j + 1, A3, c3, by omega, by go_num, rfl, Lib.hid ⟨H3.out, by have := R3.out; rw [HSN.out]; rw [HRR.out] at this; simpa [byts, Nat.add_assoc] using this⟩⟩
      case measure => simp [intOf]; omega
    · obtain rfl : j = 12 := by omega
      obtain ⟨g, cur, rfl, -, -, hc1, -, -, -⟩ := HJ.out.2.form (by omega)
      have hcn : n ≤ cj := by omega
      go_wp2_with fail
      go_ret
      exact ⟨g, cj, rfl, HJ.out.1.fin, HJ.out.2.new _ rfl, HJ.out.2⟩
end Go.Proofs.Ythjjipcbpmdfnaa

/- WALKS of KeptBytes, OverBytes, SameBytes. -/
namespace Go.Proofs.Ythjjipcbpmdfnaa
open Go.RowKit

theorem run_min2 {P : Program} (W : World) (ts : Array TypeId) (t : TypeId) (a b m : Int) (hm : m = min a b) : (Builtin.min_ ts t #[.int .i64 a, .int .i64 b]).run P W = .ok (.int .i64 m) W := by
  have e : ∀ x y : Int, (if y < x then y else x) = min x y := by
    intro x y; rw [Int.min_def]; split <;> split <;> omega
  subst hm
  simp [Builtin.min_, Builtin.min2, e]

theorem Sl.u8_at {w : World} {o : Own} {τ n c : Nat} {A : Option Addr} {xs : List UInt8} (h : Sl w o τ 1 A n c (byts xs)) {k : Nat} {x : UInt8} (hx : xs[k]? = some x) : ∃ g off, A = some ⟨g, off, none⟩ ∧ g < w.heap.size ∧ w.cell? ⟨g, off + k, none⟩ = some (.int .u8 (x.toNat : Int)) := by
  have hl : k < xs.length := (List.getElem?_eq_some_iff.1 hx).1
  have hn : xs.length = n := by have := h.1; simpa using this
  obtain ⟨g, off, hA, -, hg, u, hu, hc⟩ := h.at_ (k := k) (by omega)
  rw [byts, List.getElem?_map, hx] at hu
  simp only [Option.map_some, Option.some.injEq] at hu
  subst hu
  exact ⟨g, off, hA, hg, hc⟩

set_option maxRecDepth 100000 in
set_option maxHeartbeats 4000000 in
theorem KeptBytes_any (w : World) (o o2 : Own) (τ τ2 : Nat) (g c : Nat) (A : Option Addr) (n d : Nat) (xs : List UInt8) (hS : Sl w o τ 1 (some ⟨g, 0, none⟩) (n + 12) c (byts (xs ++ mkB 1 12))) (hT : Sl w o2 τ2 1 A n d (byts xs)) (hn : n ≤ 2000) :
    Calls Try.prog 18 #[.slice (some ⟨g, 0, none⟩) n c, .slice A n d] w (SameTo w true) := by
  have hl : xs.length = n := by have := hT.1; simpa using this
  have hcn : n + 12 ≤ c := hS.2.1
  have hcn2 : ¬ c < n + 12 := by omega
  have hnn : ((n : Int) != (n : Int)) = false := by simp
  have HL := Lib.hid hl; have HS := Lib.hid hS; have HT := Lib.hid hT
  clear hl hS hT
  go_enter Try.func18, Try.ntmps18
  go_wp2_with fail
  go_loopw [6] (fun s wr => ∃ i : Nat, i ≤ n + 12 ∧ s = .int .i64 i ∧ Hid (∃ q, wr = w.drewN q)) (fun s _ => n + 12 - (intOf s).toNat)
  case atStart => exact ⟨0, Nat.zero_le _, rfl, Lib.hid ⟨0, rfl⟩⟩
  case round => as_aux_lemma =>
    obtain ⟨i, hi, rfl, HQ⟩ := hrel
    have hq : ∀ a v, w.cell? a = some v → wr.cell? a = some v := fun a v h => by obtain ⟨q, e⟩ := HQ.out; rw [e]; exact h
    have hnq : ∀ m, ∃ q, wr.drewN m = w.drewN q := fun m => by obtain ⟨q, e⟩ := HQ.out; exact ⟨q + m, by rw [e, World.drewN_drewN]⟩
    have HNQ := Lib.hid hnq
    clear hnq
    by_cases hlt : i < n
    · obtain ⟨y, hx⟩ : ∃ x, xs[i]? = some x := ⟨_, List.getElem?_eq_getElem (by rw [HL.out]; exact hlt)⟩
      have hx2 : (xs ++ mkB 1 12)[i]? = some y := by rw [List.getElem?_append_left (by rw [HL.out]; exact hlt)]; exact hx
      obtain ⟨g', off', he, hg, c1⟩ := HS.out.u8_at hx2
      injection he with he; injection he with he1 he2; subst he1 he2
      obtain ⟨ga, oa, rfl, hga, c2⟩ := HT.out.u8_at hx
      rw [Nat.zero_add] at c1
      have c1 := hq _ _ c1; have c2 := hq _ _ c2
      obtain ⟨x, hxv⟩ : ∃ x : Int, x = (y.toNat : Int) := ⟨_, rfl⟩
      rw [← hxv] at c1 c2
      clear hq hxv
      have d1 : decide ((i : Int) < (n : Int)) = true := by simp; omega
      have d2 : decide ((n : Int) ≤ (i : Int)) = false := by simp; omega
      have hxx : (x == x) = true := by simp
      have i1 : (i : Int) < (n : Int) + 12 := by omega
      have i2 : (i : Int) < (n : Int) := by omega
      have i3 : i < n + 12 := by omega
      have i4 : ¬ n ≤ i := by omega
      clear hx hx2
      go_wp2_with fail
      go_quiet (fail)
      go_wp2_with fail
      go_roundw
      case rel => exact ⟨i + 1, by omega, by go_num, Lib.hid (HNQ.out _)⟩
      case measure => simp [intOf]; omega
    · by_cases hlt2 : i < n + 12
      · obtain ⟨j, hj⟩ : ∃ j, j = i - n := ⟨_, rfl⟩
        obtain rfl : i = n + j := by omega
        have hj12 : j < 12 := by omega
        have hx2 : (xs ++ mkB 1 12)[n + j]? = some (mbU 1 j) := by
          rw [List.getElem?_append_right (by rw [HL.out]; omega), HL.out, Nat.add_sub_cancel_left]; exact mkB_get hj12
        obtain ⟨g', off', he, hg, c1⟩ := HS.out.u8_at hx2
        injection he with he; injection he with he1 he2; subst he1 he2
        rw [Nat.zero_add] at c1
        have c1 := hq _ _ c1
        clear hq
        have hm := fun q => (markByte_any (wr.drewN q) 1 (j : Int) (by omega) (by omega)).mono (fun e w' h => (⟨h.1, h.2.symm⟩ : e = _ ∧ w' = wr.drewN q))
        obtain ⟨x, hx⟩ : ∃ x : Int, x = ((mbU 1 (j : Int)).toNat : Int) := ⟨_, rfl⟩
        rw [← hx] at c1 hm
        have HM := Lib.hid hm
        have d1 : decide (((n + j : Nat) : Int) < (n : Int)) = false := by simp; omega
        have d2 : decide ((n : Int) ≤ ((n + j : Nat) : Int)) = true := by simp; omega
        have d1' : decide ((n : Int) + (j : Int) < (n : Int)) = false := by simp; omega
        have d2' : decide ((n : Int) ≤ (n : Int) + (j : Int)) = true := by simp; omega
        have hxx : (x == x) = true := by simp
        have i1 : ((n + j : Nat) : Int) < (n : Int) + 12 := by omega
        have i2 : (n : Int) + (j : Int) < (n : Int) + 12 := by omega
        have i3 : n + j < n + 12 := by omega
        have i4 : ¬ n + j < n := by omega
        have i5 : n ≤ n + j := by omega
        have hsub : IntKind.i64.wrap (((n + j : Nat) : Int) - (n : Int)) = (j : Int) := (IntWalk.i64_in _ (by omega)).trans (by omega)
        have hsub' : IntKind.i64.wrap ((n : Int) + (j : Int) - (n : Int)) = (j : Int) := (IntWalk.i64_in _ (by omega)).trans (by omega)
        have HSB := Lib.hid hsub; have HSB2 := Lib.hid hsub'
        clear hx hx2 hm hj hlt hsub hsub' HS HT
        go_wp2_with fail
        have hsub := HSB.out; have hsub' := HSB2.out
        go_quiet ((go_at_call 40; exact Calls.quiet_of_same (HM.out _)))
        clear hsub hsub' hxx c1
        go_wp2_with fail
        go_roundw
        case rel => exact ⟨n + j + 1, by omega, by go_num, Lib.hid (HNQ.out _)⟩
        case measure => simp [intOf]; omega
      · obtain rfl : i = n + 12 := by omega
        go_wp2_with fail
        go_ret
        exact ⟨rfl, HQ.out⟩

/-- What OverBytes comes to. -/
def OverTo (τ : Nat) (w : World) (o : Own) (e : Ending) (w' : World) : Prop := e = .returned (.tuple #[]) ∧ Step [τ] w o w' o
set_option maxRecDepth 100000 in
set_option maxHeartbeats 1000000 in
theorem OverBytes_nil (w : World) (o : Own) (τ : Nat) : Calls Try.prog 19 #[.slice none 0 0] w (OverTo τ w o) := by
  have hmn := fun W => run_min2 (P := Try.prog) W #[3, 3] 3 0 12 0 (by omega)
  go_enter Try.func19, Try.ntmps19
  go_wp2_with fail
  refine wp_loop_rounds 1 ?_
  rw [rounds_succ]
  go_wp2_with fail
  go_end0
  exact ⟨rfl, Step.refl _ _ _⟩

set_option maxRecDepth 100000 in
set_option maxHeartbeats 2000000 in
theorem OverBytes_row (w : World) (o : Own) (τ : Nat) (A : Option Addr) (n c : Nat) (xs : List Value) (hR : Row w o τ 5 1 A n c xs) (hn : n ≤ 4000) :
    Calls Try.prog 19 #[.slice A n c] w (OverTo τ w o) := by
  obtain ⟨⟨h1, h2⟩, h3⟩ := hR
  rcases h2 with ⟨h2, h4⟩ | ⟨g, cap, cur, hv, hg, hh, hnc, hcm, hsz, -⟩
  · injection h2 with a1 a2 a3
    subst a1; subst a2; subst a3
    exact OverBytes_nil w o τ
  injection hv with a1 a2 a3
  subst a1; subst a3
  have ho := h3 _ rfl
  simp only at ho
  have hB : Blk w g 5 cur := hh
  obtain ⟨M, hM⟩ : ∃ M : Nat, M = min c (n + 12) := ⟨_, rfl⟩
  have hMc : M ≤ c := by omega
  have hM64 : M ≤ 4012 := by omega
  have hcb : c ≤ 9223372036854775807 := by unfold maxLen at hcm; omega
  have hmn := fun W => run_min2 (P := Try.prog) W #[3, 3] 3 (c : Int) ((n : Int) + 12) (M : Int) (by omega)
  have HO := Lib.hid ho; have HB := Lib.hid hB; have HSZ := Lib.hid hsz
  clear hM hcm ho hB hsz h1 h3 hh hg
  go_enter Try.func19, Try.ntmps19
  go_wp2_with fail
  go_loopw [3] (fun s wr => ∃ (i : Nat) (cs : Array Value), i ≤ M ∧ s = .int .i64 i ∧ Hid (Step [τ] w o wr o ∧ Blk wr g 5 cs ∧ cs.size = c)) (fun s _ => M - (intOf s).toNat)
  case atStart => exact ⟨0, cur, Nat.zero_le _, rfl, Lib.hid ⟨Step.refl _ _ _, HB.out, by rw [HSZ.out]; omega⟩⟩
  case round => as_aux_lemma =>
    obtain ⟨i, cs, hi, rfl, HK⟩ := hrel
    by_cases hlt : i < M
    · have hmm := fun W => markByte_any W 2 (i : Int) (by omega) (by omega)
      obtain ⟨R, hR⟩ : ∃ R : Int, R = ((mbU 2 (i : Int)).toNat : Int) := ⟨_, rfl⟩
      rw [← hR] at hmm
      obtain ⟨u, hu⟩ : ∃ u, cs[i]? = some u := ⟨_, Array.getElem?_eq_getElem (by rw [HK.out.2.2]; omega)⟩
      have c1 := (HK.out.2.1.cell i).trans hu
      have f1 := HK.out.2.1.frozen i
      have HMM := Lib.hid hmm
      clear hmm hR hu
      go_wp2_with (go_at_call 40; refine (HMM.out _).mono ?_; rintro e w2 ⟨rfl, rfl⟩)
      go_roundw
      case rel => exact ⟨i + 1, cs.setIfInBounds i (.int .u8 R), by omega, by go_num, Lib.hid ⟨HK.out.1.setCell (.inr (by rw [HO.out]; simp)) _, HK.out.2.1.set_ i _, by rw [Array.size_setIfInBounds]; exact HK.out.2.2⟩⟩
      case measure => simp [intOf]; omega
    · obtain rfl : M = i := by omega
      go_wp2_with fail
      go_end0
      exact ⟨rfl, HK.out.1⟩
/-- The first elements of a row are a row. -/
theorem Row.first {w : World} {o : Own} {τ : Nat} {e : TypeId} {sz n c : Nat} {A : Option Addr} {xs : List Value} (h : Row w o τ e sz A n c xs) (k : Nat) (hk : k ≤ n) (h0 : 0 < n) : Row w o τ e sz A k c (xs.take (k * sz)) := by
  obtain ⟨g, cur, hA, ho, hb, hnc, hm, hsz, ht⟩ := h.form h0
  have h1 : k * sz ≤ n * sz := Nat.mul_le_mul_right _ hk
  refine ⟨⟨by rw [List.length_take, h.len]; omega, .inr ⟨g, c, cur, by rw [hA], Nat.zero_le _, hb, by omega, hm, hsz, ?_⟩⟩, fun ad ha => by rw [hA] at ha; injection ha with ha; subst ha; exact ho⟩
  rw [← ht, List.take_take, Nat.min_eq_left h1]

set_option maxRecDepth 100000 in
set_option maxHeartbeats 1000000 in
theorem SameBytes_eq (w : World) (o o2 : Own) (τ τ2 : Nat) (A B : Option Addr) (n m c d : Nat) (xs : List UInt8) (hS : Sl w o τ 1 A n c (byts xs)) (hT : Sl w o2 τ2 1 B m d (byts xs)) :
    Calls Try.prog 22 #[.slice A n c, .slice B m d] w (SameTo w true) := by
  have hl1 : xs.length = n := by have := hS.1; simpa using this
  have hl2 : xs.length = m := by have := hT.1; simpa using this
  obtain rfl : n = m := by omega
  have hb : n ≤ 9223372036854775807 := by have h1 := hS.2.1; have h2 := hS.2.2.1; unfold maxLen at h2; omega
  have hnn : ((n : Int) != (n : Int)) = false := by simp
  have HS := Lib.hid hS; have HT := Lib.hid hT; have HL := Lib.hid hl1
  clear hS hT hl1 hl2
  go_enter Try.func22, Try.ntmps22
  go_wp2_with fail
  go_loopw [5] (fun s wr => ∃ k q : Nat, k ≤ n ∧ s = .int .i64 k ∧ wr = w.drewN q) (fun s _ => n - (intOf s).toNat)
  case atStart => exact ⟨0, 0, Nat.zero_le _, rfl, rfl⟩
  case round => as_aux_lemma =>
    obtain ⟨k, q, hk, rfl, rfl⟩ := hrel
    by_cases hlt : k < n
    · obtain ⟨y, hx⟩ : ∃ x, xs[k]? = some x := ⟨_, List.getElem?_eq_getElem (by rw [HL.out]; exact hlt)⟩
      obtain ⟨g1, o1, rfl, hg1, c1⟩ := HS.out.u8_at hx
      obtain ⟨g2, o2, rfl, hg2, c2⟩ := HT.out.u8_at hx
      obtain ⟨x, hxv⟩ : ∃ x : Int, x = (y.toNat : Int) := ⟨_, rfl⟩
      rw [← hxv] at c1 c2
      have hxx : (x != x) = false := by simp
      have hki : (k : Int) < (n : Int) := by omega
      clear hxv hx
      go_wp2_with fail
      go_quiet (fail)
      go_wp2_with fail
      go_roundw
      case rel => exact ⟨k + 1, q + nq, by omega, by go_num, by first | rfl | rw [World.drewN_drewN]⟩
      case measure => simp [intOf]; omega
    · obtain rfl : n = k := by omega
      go_wp2_with fail
      go_ret
      exact ⟨rfl, q, rfl⟩
end Go.Proofs.Ythjjipcbpmdfnaa

/- CONTRACTS of Make, Receive, Only at given data: what a script with known packets steps through. -/
namespace Go.Proofs.Ythjjipcbpmdfnaa
open Go.RowKit

def fitB (s : EndS) : Bool := decide (0 ≤ s.own) && decide (s.own ≤ s.next) && decide (s.next ≤ 2000000000000) && decide (0 ≤ s.other) && decide (s.other - 1 ≤ s.newest) && decide (s.newest ≤ 2000000000000) && decide (s.mask < 4294967296) && decide (s.pend.length ≤ 256) &&
  s.pend.all fun n => decide (s.own ≤ n) && decide (n < s.next)
theorem fit_of {s : EndS} (h : fitB s = true) : s.Fit := by
  simp only [fitB, Bool.and_eq_true, decide_eq_true_eq, List.all_eq_true] at h
  obtain ⟨⟨⟨⟨⟨⟨⟨⟨h1, h2⟩, h3⟩, h4⟩, h5⟩, h6⟩, h7⟩, h8⟩, h9⟩ := h
  exact ⟨h1, h2, h3, h4, h5, h6, h7, h8, h9⟩

/-- A block just made, as a slice that is read. -/
theorem Sl.lit (w : World) (o : Own) (τ : Nat) (C : Array Value) (t : TypeId) (fr : Nat × Nat) (n : Nat) (hn : C.size = n) (hm : n ≤ maxLen) : Sl (w.alloc (.cells C t fr)) (ext o w.heap.size τ) τ 1 (some ⟨w.heap.size, 0, none⟩) n n C.toList := by
  refine ⟨by simpa using hn, Nat.le_refl _, hm, fun _ => ⟨w.heap.size, 0, rfl, ext_ge (Nat.le_refl _), by simp, fun j u hu => ?_⟩⟩
  rw [Nat.zero_add, cell_of_row (w.alloc (.cells C t fr)) w.heap.size j C t fr (heap_alloc_new w _)]
  simpa using hu

/-- Make of one byte that lies in a block just made. -/
def MadeTo (w : World) (o : Own) (τ σ b : Nat) (s : EndS) (P : List UInt8) (n : Nat) (e : Ending) (w' : World) : Prop :=
  ∃ A c o' LA lc, e = .returned (.tuple #[.slice A n c, .int .i64 s.next, .slice LA (lostP s).length lc, .int .i64 0]) ∧ Step [τ] w o w' o' ∧ EndAt w' o' τ b (makeS s) ∧ Row w' o' σ 5 1 A n c (byts P) ∧ Sl w' o' σ 2 LA (lostP s).length lc (reps (lostP s))

theorem Make_lit (w : World) (o : Own) (τ σ b : Nat) (s : EndS) (hE : EndAt w o τ b s) (hs : s.Fit) (ht : τ ≠ 11) (hσ : σ ≠ τ) (hnx : s.next ≤ 1999999999999) (x : UInt8) (xi : Int) (hx : (x.toNat : Int) = xi) (P : List UInt8) (n : Nat) (hP : packP (makeS s) s.next [x] = P) (hn : P.length = n) (g : Nat) (hg : g = w.heap.size) :
    Calls Try.prog 46 #[.pointer (some ⟨b, 0, none⟩), .slice (some ⟨g, 0, none⟩) 1 1] (w.alloc (.cells #[.int .u8 xi] 5 (1, 2))) (MadeTo w o τ σ b s P n) := by
  subst hx; subst hg
  have hS := Sl.lit w o 11 #[.int .u8 (x.toNat : Int)] 5 (1, 2) 1 rfl (by decide)
  have st := (Step.refl [] w o).alloc (.cells #[.int .u8 (x.toNat : Int)] 5 (1, 2)) 11
  refine (Make_any _ (ext o w.heap.size 11) τ 11 σ b s (hE.step st (by simp)) hs (Ne.symm ht) hσ _ 1 1 [x] hS (Nat.le_refl _) (by omega) hnx).mono ?_
  rintro e w' ⟨A, c, o', LA, lc, rfl, h1, h2, h3, h4⟩
  rw [hP, hn] at h3 ⊢
  exact ⟨A, c, o', LA, lc, rfl, st.nil.trans h1, h2, h3, h4⟩

/-- Receive of known bytes. -/
theorem Recv_lit (w : World) (o : Own) (τ τ2 σ b : Nat) (s : EndS) (hE : EndAt w o τ b s) (hs : s.Fit) (ht : τ2 ≠ τ) (hσ : σ ≠ τ) (A : Option Addr) (n c : Nat) (xs : List UInt8) (hS : Sl w o τ2 1 A n c (byts xs)) (hn : n ≤ 140737488355328)
    (s' : EndS) (bd : List UInt8) (rs : List (Int × Bool)) (code : Int) (hR : recvP s xs = (s', bd, rs, code)) (n1 n2 : Nat) (h1 : bd.length = n1) (h2 : rs.length = n2) :
    Calls Try.prog 53 #[.pointer (some ⟨b, 0, none⟩), .slice A n c] w fun e w' => ∃ BA bc RA rc o', e = .returned (.tuple #[.slice BA n1 bc, .slice RA n2 rc, .int .i64 code]) ∧ Step [τ] w o w' o' ∧ EndAt w' o' τ b s' ∧ Row w' o' σ 5 1 BA n1 bc (byts bd) ∧ Sl w' o' σ 2 RA n2 rc (reps rs) := by
  refine (Receive_any w o τ τ2 σ b s hE hs ht hσ A c n xs hS hn).mono ?_
  rw [hR]
  rintro e w' ⟨BA, bc, RA, rc, o', rfl, g1, g2, g3, g4⟩
  simp only [h1, h2] at g3 g4 ⊢
  exact ⟨BA, bc, RA, rc, o', rfl, g1, g2, g3, g4⟩

/-- Only, at known data. -/
theorem Only_lit (w : World) (o : Own) (τ σ b : Nat) (s : EndS) (hE : EndAt w o τ b s) (hs : s.Fit) (hh : s.other ≤ s.newest) (P : List UInt8) (n : Nat) (hP : ackP s = P) (hn : P.length = n) :
    Calls Try.prog 48 #[.pointer (some ⟨b, 0, none⟩)] w fun e w' => ∃ A c o', e = .returned (.tuple #[.slice A n c, .int .i64 0]) ∧ Step [] w o w' o' ∧ Row w' o' σ 5 1 A n c (byts P) := by
  refine (Only_ok w o τ σ b s hE hs hh).mono ?_
  rw [hP, hn]
  exact fun _ _ h => h

theorem Sl.rep {w : World} {o : Own} {τ n c : Nat} {A : Option Addr} {rs : List (Int × Bool)} (h : Sl w o τ 2 A n c (reps rs)) (hn : 0 < n) : ∃ g off, A = some ⟨g, off, none⟩ ∧ o g = τ ∧ g < w.heap.size ∧ ∀ j u, (reps rs)[j]? = some u → w.cell? ⟨g, off + j, none⟩ = some u := h.2.2.2 hn

theorem Step.old {ts : List Nat} {w w' : World} {o' : Own} (h : Step ts w (fun _ => 0) w' o') (h0 : 0 ∉ ts) : Below w.heap.size w w' := h.to_below (fun _ _ => h0)
end Go.Proofs.Ythjjipcbpmdfnaa
