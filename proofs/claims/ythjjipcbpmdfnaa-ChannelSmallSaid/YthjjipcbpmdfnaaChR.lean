/-
  WALK of marcheslaw20.awake.
-/
import Derived.Test.YthjjipcbpmdfnaaChO
import Derived.Test.YthjjipcbpmdfnaaChNQ
import Derived.Test.YthjjipcbpmdfnaaKitY
import Derived.Lib.SlBytesConst
namespace Go.Proofs.Ythjjipcbpmdfnaa
open Go.RowKit

def T1 : ChT := ⟨1, 2, 3, fun _ => 4⟩
def T2 : ChT := ⟨11, 12, 13, fun _ => 14⟩
theorem T1_ok : T1.Ok := ⟨by decide, by decide, by decide, fun _ => (show (4 : Nat) ≠ 1 by decide), fun _ => (show (4 : Nat) ≠ 2 by decide)⟩
theorem T2_ok : T2.Ok := ⟨by decide, by decide, by decide, fun _ => (show (14 : Nat) ≠ 11 by decide), fun _ => (show (14 : Nat) ≠ 12 by decide)⟩
/-- One Channel is left alone while the other works. -/
theorem ChAt.far2 {w w' : World} {o o' : Own} {b : Nat} {s : ChS} {ts : List Nat} (h : ChAt w o T2 b s) (hs : Step ts w o w' o') (ht : ∀ t ∈ ts, t ≤ 4 ∨ 20 ≤ t) : ChAt w' o' T2 b s :=
  h.step hs (fun h => by have := ht _ h; simp [T2] at this) (fun h => by have := ht _ h; simp [T2] at this) (fun h => by have := ht _ h; simp [T2] at this) (fun n _ h => by have := ht _ h; simp [T2] at this)
theorem ChAt.far1 {w w' : World} {o o' : Own} {b : Nat} {s : ChS} {ts : List Nat} (h : ChAt w o T1 b s) (hs : Step ts w o w' o') (ht : ∀ t ∈ ts, 5 ≤ t) : ChAt w' o' T1 b s :=
  h.step hs (fun h => by have := ht _ h; simp [T1] at this) (fun h => by have := ht _ h; simp [T1] at this) (fun h => by have := ht _ h; simp [T1] at this) (fun n _ h => by have := ht _ h; simp [T1] at this)
theorem awA_fit : awA.Fit := (sendS_keep ((sendS_keep (chNew_fit (own := 0) (other := 0) (by decide) (by decide) (by decide) (by decide)) [97] (by decide)).1) [98, 99] (by decide +kernel)).1
theorem awB_fit : awB.Fit := (flushS_keep awA_fit (t := 0) (by decide) (by decide +kernel)).1
theorem awC_fit : awC.Fit := (flushS_keep awB_fit (t := 1) (by decide) (by decide +kernel)).1
theorem awD_fit : awD.Fit := (flushS_keep awC_fit (t := 8) (by decide) (by decide +kernel)).1
theorem awX_fit : awX.Fit := (recvS_keep (chNew_fit (own := 0) (other := 0) (by decide) (by decide) (by decide) (by decide)) awP (by decide +kernel) (by decide +kernel)).1

theorem run_headC (P : Program) (t e : TypeId) (z : Value) (sz b : Nat) (hu : P.underlying t = some (.slice e)) (hs : (P.info? e).map (fun i => (i.zero, i.size, i.bytes)) = some (some z, sz, b)) (A : Option Addr) (n c k : Nat) (hk : k ≤ c) (W : World) :
    (Instr.slice t (.slice A n c) none (some (.int .i64 (k : Int))) none).run P W = .ok (.slice A k c) W := by
  obtain ⟨i, h1, h2, h3, h4⟩ := info_parts hs
  cases A with
  | none => simp [Instr.slice, Instr.sliceBounds, Instr.sliceBound, asIntOf, run_underlying hu, sizeOf, typeInfo, h1, hk]
  | some a =>
    simp [Instr.slice, Instr.sliceBounds, Instr.sliceBound, asIntOf, run_underlying hu, sizeOf, typeInfo, h1, hk, Addr.add]
theorem Sl.headB {w : World} {o : Own} {τ n c : Nat} {A : Option Addr} {B : List UInt8} (h : Sl w o τ 1 A n c (byts B)) (m : Nat) (hm : m ≤ n) : Sl w o τ 1 A m c (byts (B.take m)) := by
  have := h.cut (i := 0) (j := m) (by omega) hm A (fun g off hA _ => by rw [hA]; simp)
  simpa [byts, List.map_take] using this
theorem Sl.tailB {w : World} {o : Own} {τ n c : Nat} {A A' : Option Addr} {B : List UInt8} (h : Sl w o τ 1 A n c (byts B)) (m : Nat) (hm : m ≤ n) (hA : m < n → ∀ g off, A = some ⟨g, off, none⟩ → A' = some ⟨g, off + m * 1, none⟩) : Sl w o τ 1 A' (n - m) (c - m) (byts (B.drop m)) := by
  have hl := h.1
  have := h.cut (i := m) (j := n) hm (Nat.le_refl _) A' (fun g off e hlt => hA hlt g off e)
  rw [List.take_of_length_le (by rw [List.length_drop, hl]; omega)] at this
  simpa [byts, List.map_drop] using this

set_option maxRecDepth 100000 in
set_option maxHeartbeats 4000000 in
theorem awake_any (w : World) : Calls Try.prog 13 #[] w fun e w' => e = .returned (.bool true) ∧ Below w.heap.size w w' := by
  have kd : ∀ (w : World) (C : Array Value) (N n c : Nat), w.heap.size = N → (convert 41 41 (.slice (some ⟨N, 0, none⟩) n c)).run Try.prog (w.alloc (.cells C 5)) = .ok (.slice (some ⟨N, 0, none⟩) n c) (w.alloc (.cells C 5 (C.size, C.size + 1))) := fun w C N n c h => by
    subst h; exact Lib.run_convert_bytes_const (P := Try.prog) w 41 5 C n c Try.underlying41 Try.underlying5
  go_enter Try.func13, Try.ntmps13
  go_wp2_with fail
  refine (ChNew_ok w (fun _ => 0) T1 T1_ok 0 0 (by decide) (by decide) (by decide) (by decide)).mono ?_
  rintro e w1 ⟨ba, o1, rfl, hst1, hA1⟩
  have HST := Lib.hid hst1; have HA := Lib.hid hA1
  clear hst1 hA1
  go_wp2_with fail
  refine (ChNew_ok w1 o1 T2 T2_ok 0 0 (by decide) (by decide) (by decide) (by decide)).mono ?_
  rintro e w2 ⟨bb, o2, rfl, hst2, hB2⟩
  have HA2 := Lib.hid (HA.out.far1 hst2 (by simp)); have HB2 := Lib.hid hB2; have HST2 := Lib.hid ((HST.out.trans hst2).mono (ts' := [1, 2, 11, 12, 20]) (by simp))
  clear hst2 hB2 HA HST
  go_wp2_with fail
  have st3 := (Step.refl [] w2 o2).alloc (.cells #[.int .u8 97] 5 (1, 2)) 20
  have hl3 : Sl _ _ 20 1 _ 1 1 (byts [97]) := Sl.lit w2 o2 20 #[.int .u8 97] 5 (1, 2) 1 rfl (by decide)
  have hA3 := HA2.out.far1 st3 (by simp)
  have HB3 := Lib.hid (HB2.out.far2 st3 (by simp)); have HST3 := Lib.hid (HST2.out.trans st3.nil)
  refine (Send_any hA3 (chNew_fit (by decide) (by decide) (by decide) (by decide)) T1_ok 20 _ 1 1 [97] hl3).mono ?_
  clear st3 hl3 hA3 HA2 HB2 HST2
  intro e w4 hsd
  obtain ⟨o4, he, hst4, hA4⟩ := hsd.out
  rw [aw1] at he
  subst he
  have HA4 := Lib.hid hA4; have HB4 := Lib.hid (HB3.out.far2 hst4 (by simp [T1])); have HST4 := Lib.hid (HST3.out.trans (hst4.mono (ts' := [1, 2, 11, 12, 20]) (by simp [T1])))
  clear hsd hst4 hA4 HB3 HST3
  go_wp2_with fail
  have st5 := (Step.refl [] w4 o4).alloc (.cells #[.int .u8 98, .int .u8 99] 5 (2, 3)) 20
  have hl5 : Sl _ _ 20 1 _ 2 2 (byts [98, 99]) := Sl.lit w4 o4 20 #[.int .u8 98, .int .u8 99] 5 (2, 3) 2 rfl (by decide)
  have hA5 := HA4.out.far1 st5 (by simp)
  have HB5 := Lib.hid (HB4.out.far2 st5 (by simp)); have HST5 := Lib.hid (HST4.out.trans st5.nil)
  refine (Send_any hA5 (sendS_keep (chNew_fit (by decide) (by decide) (by decide) (by decide)) [97] (by decide)).1 T1_ok 20 _ 2 2 [98, 99] hl5).mono ?_
  clear st5 hl5 hA5 HA4 HB4 HST4
  intro e w6 hsd
  obtain ⟨o6, he, hst6, hA6⟩ := hsd.out
  rw [aw2] at he
  subst he
  have HA6 : Hid (ChAt w6 o6 T1 ba awA) := Lib.hid hA6
  have HB6 := Lib.hid (HB5.out.far2 hst6 (by simp [T1])); have HST6 := Lib.hid (HST5.out.trans (hst6.mono (ts' := [1, 2, 11, 12, 20]) (by simp [T1])))
  clear hsd hst6 hA6 HB5 HST5
  go_wp2_with fail
  refine (Flush_any HA6.out awA_fit T1_ok 21 (by decide) (by decide) 0 (by decide) (by decide +kernel)).mono ?_
  intro e w7 hfl
  obtain ⟨o7, PA, pc, he, hst7, hA7, hP7⟩ := hfl.out
  rw [aw3] at he hP7
  subst he
  have HA7 : Hid (ChAt w7 o7 T1 ba awB) := Lib.hid hA7
  have HP7 : Hid (Sl w7 o7 21 1 PA 14 pc (byts awP)) := Lib.hid hP7.sl
  have HB7 := Lib.hid (HB6.out.far2 hst7 (by simp [T1])); have HST7 := Lib.hid (HST6.out.trans (hst7.mono (ts' := [1, 2, 11, 12, 20]) (by simp [T1])))
  clear hfl hst7 hA7 hP7 HA6 HB6 HST6
  go_wp2_with fail
  refine (Flush_any HA7.out awB_fit T1_ok 22 (by decide) (by decide) 1 (by decide) (by decide +kernel)).mono ?_
  intro e w8 hfl
  obtain ⟨o8, NA, nc, he, hst8, hA8, -⟩ := hfl.out
  rw [aw4] at he
  subst he
  have HA8 : Hid (ChAt w8 o8 T1 ba awC) := Lib.hid hA8
  have HP8 := Lib.hid (HP7.out.step hst8 (by simp [T1]))
  have HB8 := Lib.hid (HB7.out.far2 hst8 (by simp [T1])); have HST8 := Lib.hid (HST7.out.trans (hst8.mono (ts' := [1, 2, 11, 12, 20]) (by simp [T1])))
  clear hfl hst8 hA8 HA7 HB7 HST7 HP7
  go_wp2_with fail
  refine (Flush_any HA8.out awC_fit T1_ok 22 (by decide) (by decide) 8 (by decide) (by decide +kernel)).mono ?_
  intro e w9 hfl
  obtain ⟨o9, QA, qc, he, hst9, hA9, hQ9⟩ := hfl.out
  rw [aw5] at he hQ9
  subst he
  have HA9 : Hid (ChAt w9 o9 T1 ba awD) := Lib.hid hA9
  have HP9 := Lib.hid (HP8.out.step hst9 (by simp [T1]))
  have HQ9 : Hid (Sl w9 o9 22 1 QA 14 qc (byts [1, 0, 1, 0, 0, 0, 1, 97, 0, 1, 0, 2, 98, 99])) := Lib.hid hQ9.sl
  have HB9 := Lib.hid (HB8.out.far2 hst9 (by simp [T1])); have HST9 := Lib.hid (HST8.out.trans (hst9.mono (ts' := [1, 2, 11, 12, 20]) (by simp [T1])))
  clear hfl hst9 hA9 hQ9 HA8 HB8 HST8 HP8
  have hpl : awP.length = 14 := rfl
  have hpc : 14 ≤ pc := HP9.out.2.1
  have hqc : 14 ≤ qc := HQ9.out.2.1
  have cvP : ∀ q, (convert 41 9 (.slice PA 14 pc)).run Try.prog (w9.drewN q) = .ok (.string ⟨#[1, 0, 0, 0, 0, 0, 1, 97, 0, 1, 0, 2, 98, 99]⟩) (w9.drewN q) := fun q => conv_bytes (w9.drewN q) o9 21 PA 14 pc awP HP9.out
  have slQ := fun W => run_headC Try.prog 41 5 (.int .u8 0) 1 1 Try.underlying41 (by kernel_rfl) QA 14 qc 3 (by omega) W
  have cvQ : ∀ q, (convert 41 9 (.slice QA 3 qc)).run Try.prog (w9.drewN q) = .ok (.string ⟨#[1, 0, 1]⟩) (w9.drewN q) := fun q => conv_bytes (w9.drewN q) o9 22 QA 3 qc [1, 0, 1] (HQ9.out.headB 3 (by decide))
  obtain ⟨BQ, hBQ, hBQa⟩ := run_tailC Try.prog 41 5 (.int .u8 0) 1 1 Try.underlying41 (by kernel_rfl) QA 14 qc 3 (by omega) hqc
  obtain ⟨BP, hBP, hBPa⟩ := run_tailC Try.prog 41 5 (.int .u8 0) 1 1 Try.underlying41 (by kernel_rfl) PA 14 pc 3 (by omega) hpc
  have cvR : ∀ q, (convert 41 9 (.slice BQ 11 (qc - 3))).run Try.prog (w9.drewN q) = .ok (.string ⟨#[0, 0, 0, 1, 97, 0, 1, 0, 2, 98, 99]⟩) (w9.drewN q) := fun q => conv_bytes (w9.drewN q) o9 22 BQ 11 (qc - 3) [0, 0, 0, 1, 97, 0, 1, 0, 2, 98, 99] (HQ9.out.tailB 3 (by decide) hBQa)
  have cvS : ∀ q, (convert 41 9 (.slice BP 11 (pc - 3))).run Try.prog (w9.drewN q) = .ok (.string ⟨#[0, 0, 0, 1, 97, 0, 1, 0, 2, 98, 99]⟩) (w9.drewN q) := fun q => conv_bytes (w9.drewN q) o9 21 BP 11 (pc - 3) [0, 0, 0, 1, 97, 0, 1, 0, 2, 98, 99] (HP9.out.tailB 3 (by decide) hBPa)
  have slQ3 : ∀ W, (Instr.slice 41 (.slice QA 14 qc) none (some (.int .i64 3)) none).run Try.prog W = .ok (.slice QA 3 qc) W := slQ
  have slR : ∀ W, (Instr.slice 41 (.slice QA 14 qc) (some (.int .i64 3)) none none).run Try.prog W = .ok (.slice BQ 11 (qc - 3)) W := hBQ
  have slS : ∀ W, (Instr.slice 41 (.slice PA 14 pc) (some (.int .i64 3)) none none).run Try.prog W = .ok (.slice BP 11 (pc - 3)) W := hBP
  clear slQ hBQ hBP hBQa hBPa
  go_wp2_with fail
  go_quiet (fail)
  have st10 := (Step.refl [] w9 o9).drewN nq
  have HA10 := Lib.hid (HA9.out.far1 st10 (by simp)); have HB10 := Lib.hid (HB9.out.far2 st10 (by simp)); have HST10 := Lib.hid (HST9.out.trans st10.nil)
  have HP10 := Lib.hid (HP9.out.step st10 (by simp))
  clear st10 cvP cvQ cvR cvS slQ3 slR slS HA9 HB9 HST9 HP9 HQ9
  generalize w9.drewN nq = w10 at HA10 HB10 HST10 HP10 ⊢
  go_wp2_with fail
  refine (Receive_ch HB10.out (chNew_fit (by decide) (by decide) (by decide) (by decide)) T2_ok 23 (by decide) (by decide) (by decide) (fun _ => (show (14 : Nat) ≠ 23 by decide)) (fun _ => (show (14 : Nat) ≠ 13 by decide)) 21 (by decide) PA 14 pc awP HP10.out (by decide) (by decide +kernel)).mono ?_
  intro e w11 hrc
  obtain ⟨o11, LA, lm, lc, vs, he, hst11, hB11, hM11⟩ := hrc.out
  rw [aw6] at he hM11
  obtain rfl : 2 = lm := hM11.len
  subst he
  have HB11 : Hid (ChAt w11 o11 T2 bb awX) := Lib.hid hB11
  have HA11 := Lib.hid (HA10.out.far1 hst11 (by simp [T2])); have HST11 := Lib.hid (HST10.out.mono (ts' := [1, 2, 11, 12, 20, 23]) (by simp) |>.trans (hst11.mono (by simp [T2])))
  have HM11 : Hid (MsgsAt w11 o11 23 T2.ε _ LA 2 lc vs [[97], [98, 99]]) := Lib.hid hM11
  clear hrc hst11 hB11 hM11 HA10 HB10 HST10 HP10
  go_wp2_with fail
  refine (Flush_any HB11.out awX_fit T2_ok 24 (by decide) (by decide) 1 (by decide) (by decide +kernel)).mono ?_
  intro e w12 hfl
  obtain ⟨o12, KA, kc, he, hst12, hB12, hK12⟩ := hfl.out
  rw [aw8] at he hK12
  subst he
  have hql : awQ.length = 7 := rfl
  have HB12 : Hid (ChAt w12 o12 T2 bb awY) := Lib.hid hB12
  have HK12 : Hid (Sl w12 o12 24 1 KA 7 kc (byts awQ)) := Lib.hid hK12.sl
  have HA12 := Lib.hid (HA11.out.far1 hst12 (by simp [T2])); have HST12 := Lib.hid (HST11.out.trans (hst12.mono (by simp [T2])))
  have HM12 := Lib.hid (HM11.out.step hst12 (by simp [T2]) (by intro i; simp [T2]))
  clear hfl hst12 hB12 hK12 HB11 HA11 HST11 HM11
  go_wp2_with fail
  refine (Receive_ch HA12.out awD_fit T1_ok 25 (by decide) (by decide) (by decide) (fun _ => (show (4 : Nat) ≠ 25 by decide)) (fun _ => (show (4 : Nat) ≠ 3 by decide)) 24 (by decide) KA 7 kc awQ HK12.out (by decide +kernel) (by decide +kernel)).mono ?_
  intro e w13 hrc
  obtain ⟨o13, EA, em, ec, us, he, hst13, hA13, hM13⟩ := hrc.out
  rw [aw9] at he hM13
  obtain rfl : 0 = em := hM13.len
  subst he
  have HA13 : Hid (ChAt w13 o13 T1 ba awE) := Lib.hid hA13
  have HB13 := Lib.hid (HB12.out.far2 hst13 (by simp [T1])); have HST13 := Lib.hid (HST12.out.mono (ts' := [1, 2, 11, 12, 20, 23, 25]) (by simp) |>.trans (hst13.mono (by simp [T1])))
  have HM13 := Lib.hid (HM12.out.step hst13 (by simp [T1]) (by intro i; simp [T1, T2]))
  have HK13 := Lib.hid (HK12.out.step hst13 (by simp [T1]))
  clear hrc hst13 hA13 hM13 HB12 HA12 HST12 HM12 HK12
  go_wp2_with fail
  refine (texts_any HM13.out.bs (by decide)).mono ?_
  rintro e w14 ⟨TA, tc, rfl, hb14, hT14⟩
  have st14 := (Step.refl [] w13 o13).below hb14 20
  have HT14 : Hid (Sl w14 (fun _ => 0) 0 1 TA 2 tc (strs [[97], [98, 99]])) := Lib.hid hT14
  have HA14 := Lib.hid (HA13.out.far1 st14 (by simp)); have HB14 := Lib.hid (HB13.out.far2 st14 (by simp)); have HST14 := Lib.hid (HST13.out.trans st14.nil)
  have HK14 := Lib.hid (HK13.out.step st14 (by simp))
  clear st14 hb14 hT14 HA13 HB13 HST13 HK13 HM13
  generalize ext o13 w13.heap.size 20 = o14 at HA14 HB14 HST14 HK14
  go_wp2_with fail
  have sl15 := (Step.refl [] w14 o14).alloc (.cells #[.string ⟨#[97]⟩, .string ⟨#[98, 99]⟩] 9) 20
  have hL15 : Sl (w14.alloc (.cells #[.string ⟨#[97]⟩, .string ⟨#[98, 99]⟩] 9)) (ext o14 w14.heap.size 20) 20 1 (some ⟨w14.heap.size, 0, none⟩) 2 2 (strs [[97], [98, 99]]) := Sl.lit w14 o14 20 _ 9 _ 2 rfl (by decide)
  refine (SameTexts_eq _ (fun _ => 0) _ 0 20 TA _ 2 tc 2 [[97], [98, 99]] (HT14.out.below (sl15.to_below (by simp))) hL15).mono ?_
  clear hL15
  rintro e w15' ⟨rfl, k15, rfl⟩
  have st15 := sl15.drewN k15
  have HA15 := Lib.hid (HA14.out.far1 st15 (by simp)); have HB15 := Lib.hid (HB14.out.far2 st15 (by simp)); have HST15 := Lib.hid (HST14.out.trans st15.nil)
  have HK15 := Lib.hid (HK14.out.step st15 (by simp))
  clear sl15 st15 HA14 HB14 HST14 HK14 HT14
  generalize ext o14 w14.heap.size 20 = o15 at HA15 HB15 HST15 HK15
  generalize (w14.alloc (.cells #[.string ⟨#[97]⟩, .string ⟨#[98, 99]⟩] 9)).drewN k15 = w15 at HA15 HB15 HST15 HK15 ⊢
  go_wp2_with fail
  refine (Delivered_ok HB15.out).mono ?_
  rintro e w16 ⟨he, rfl⟩
  rw [show awY.next = 2 from by decide +kernel] at he
  subst he
  obtain ⟨g, off, rfl, -, -, hc⟩ := HK15.out.2.2.2 (by decide)
  have hk0 := hc 0 (.int .u8 2) rfl
  rw [Nat.add_zero] at hk0
  clear hc HB15 HK15
  go_wp2_with fail
  refine (Waiting_ok HA15.out).mono ?_
  rintro e w17 ⟨he, rfl⟩
  rw [aw10] at he
  subst he
  go_wp2_with fail
  go_ret
  exact ⟨rfl, HST15.out.old (by decide)⟩
end Go.Proofs.Ythjjipcbpmdfnaa
