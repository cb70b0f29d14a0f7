/-
  WALK of PacketWrong.
-/
import Derived.Test.YtpmbfgpfpdenbaaPWrM
import Derived.Test.YtpmbfgpfpdenbaaHonestA
import Derived.Test.YtpmbfgpfpdenbaaAwake
import Derived.Test.YtpmbfgpfpdenbaaMakeN
import Derived.Test.YtpmbfgpfpdenbaaKitA
import Derived.Test.YtpmbfgpfpdenbaaKitB
import Derived.Deep.DeepCutAuto
import Derived.Lib.SlBytesConst
namespace Go.Proofs.Ytpmbfgpfpdenbaa
open Go.RowKit Go.Sort

/-- The fourteen rows of bytes. -/
def wrLs (own oth : Nat) (bl : List UInt8) (FL : UInt8) (c9 c7 : Nat) : List (List UInt8) := [[], [0], [4] ++ bl, [FL] ++ bl, (wrFull ((oth : Int) + 1) ((own : Int) + 1)).take c9, (wrFull ((oth : Int) + 1) ((own : Int) + 1)).take 9, (wrOnly ((own : Int) + 1) 0).take c7, ([] ++ (wrOnly ((own : Int) + 1) 0)) ++ [0], ([] ++ (wrFull ((oth : Int) + 1) ((own : Int) + 1))) ++ List.replicate 1191 0, putNum (own + 2) 1 (wrOnly ((own : Int) + 1) 0), putNum (own + 2) 3 (wrFull ((oth : Int) + 1) ((own : Int) + 1)), putNum (own - 1) 1 (wrOnly ((own : Int) + 1) 0), putNum (oth - 1) 1 (wrFull ((oth : Int) + 1) ((own : Int) + 1)), putNum (oth - 50) 1 (wrFull ((oth : Int) + 1) ((own : Int) + 1))]
def wrK (A : Option Addr) (n c : Nat) (fA : Option Addr) (fc : Nat) (oA : Option Addr) (oc : Nat) (own oth : Nat) (cut : Nat) (bl : List UInt8) (FL : UInt8) (c9 c7 : Nat) : List Kind := [.closed [0],
  .row 51 [4],
  .known (.slice A n c),
  .closed ([4] ++ bl),
  .known (.int .u8 cut),
  .known (.int .u8 (FL.toNat : Int)),
  .row 52 [FL],
  .known (.slice A n c),
  .closed ([FL] ++ bl),
  .known (.slice fA 12 fc),
  .known (.int .u8 cut),
  .known (.int .i64 cut),
  .known (.int .i64 c9),
  .known (.slice fA c9 fc),
  .known (.slice fA 12 fc),
  .known (.slice fA 9 fc),
  .known (.slice oA 7 oc),
  .known (.int .u8 cut),
  .known (.int .i64 cut),
  .known (.int .i64 c7),
  .known (.slice oA c7 oc),
  .row 53 [],
  .known (.slice oA 7 oc),
  .row 55 ([] ++ (wrOnly ((own : Int) + 1) 0)),
  .closed [0],
  .closed (([] ++ (wrOnly ((own : Int) + 1) 0)) ++ [0]),
  .row 54 [],
  .known (.slice fA 12 fc),
  .row 56 ([] ++ (wrFull ((oth : Int) + 1) ((own : Int) + 1))),
  .closed (([] ++ (wrFull ((oth : Int) + 1) ((own : Int) + 1))) ++ List.replicate 1191 0),
  .known (.func (.func 35) #[] #[]),
  .known (.int .i64 own),
  .known (.int .i64 ((own : Int) + 2)),
  .known (.slice oA 7 oc),
  .closed (putNum (own + 2) 1 (wrOnly ((own : Int) + 1) 0)),
  .known (.func (.func 35) #[] #[]),
  .known (.int .i64 own),
  .known (.int .i64 ((own : Int) + 2)),
  .known (.slice fA 12 fc),
  .closed (putNum (own + 2) 3 (wrFull ((oth : Int) + 1) ((own : Int) + 1))),
  .known (.func (.func 35) #[] #[]),
  .known (.int .i64 own),
  .known (.int .i64 ((own : Int) - 1)),
  .known (.slice oA 7 oc),
  .closed (putNum (own - 1) 1 (wrOnly ((own : Int) + 1) 0)),
  .known (.func (.func 35) #[] #[]),
  .known (.int .i64 oth),
  .known (.int .i64 ((oth : Int) - 1)),
  .known (.slice fA 12 fc),
  .closed (putNum (oth - 1) 1 (wrFull ((oth : Int) + 1) ((own : Int) + 1))),
  .known (.func (.func 35) #[] #[]),
  .known (.int .i64 oth),
  .known (.int .i64 ((oth : Int) - 50)),
  .known (.slice fA 12 fc),
  .closed (putNum (oth - 50) 1 (wrFull ((oth : Int) + 1) ((own : Int) + 1))),
  .many (wrLs own oth bl FL c9 c7),
  .many (wrLs own oth bl FL c9 c7)]
def wrDs : List (Option Tmp) := [some 146, some 147, some 148, some 149, some 150, some 151, some 152, some 153, some 154, some 155, some 156, some 157, some 158, some 159, some 160, some 161, some 162, some 163, some 164, some 165, some 166, some 167, some 168, some 169, some 170, some 171, some 172, some 173, some 174, some 175, some 176, some 177, some 178, some 179, some 180, some 181, some 182, some 183, some 184, some 185, some 186, some 187, some 188, some 189, some 190, some 191, some 192, some 193, some 194, some 195, some 196, some 197, some 198, some 199, some 200, some 201, some 21]
def wrNeeds : List (List Nat) := [[], [], [], [1, 2], [], [4], [5], [], [6, 7], [], [], [10], [11], [9, 12], [], [14], [], [], [17], [18], [16, 19], [], [], [21, 22], [], [23, 24], [], [], [26, 27], [28], [], [], [31], [], [30, 32, 33], [], [], [36], [], [35, 37, 38], [], [], [41], [], [40, 42, 43], [], [], [46], [], [45, 47, 48], [], [], [51], [], [50, 52, 53], [0, 3, 8, 13, 15, 20, 25, 29, 34, 39, 44, 49, 54], [55]]
def wrEats : List (List Nat) := [[], [], [], [1], [], [], [], [], [6], [], [], [], [], [], [], [], [], [], [], [], [], [], [], [21], [], [23], [], [], [26], [28], [], [], [], [], [], [], [], [], [], [], [], [], [], [], [], [], [], [], [], [], [], [], [], [], [], [], []]

theorem wr_all (own oth : Nat) (ho : 100 ≤ own) (hp : 100 ≤ oth) (bl : List UInt8) (FL : UInt8) (cut : Nat) : wrLs own oth bl FL (cut % 9) (cut % 7) ++ [wrOnly ((own : Int) + 1) 2] = badL own oth bl cut FL := by
  unfold wrLs badL
  rw [putNum_only, putNum_only, putNum_full3, putNum_full1, putNum_full1]
  have e1 : ((own + 2 : Nat) : Int) = (own : Int) + 2 := by omega
  have e2 : ((own - 1 : Nat) : Int) = (own : Int) - 1 := by omega
  have e3 : ((oth - 1 : Nat) : Int) = (oth : Int) - 1 := by omega
  have e4 : ((oth - 50 : Nat) : Int) = (oth : Int) - 50 := by omega
  rw [e1, e2, e3, e4]
  rfl

theorem box1 (w : World) (o : Own) (b : UInt8) (v : Int) (hv : (b.toNat : Int) = v) : Sl (w.alloc (.cells #[.int .u8 v] 5 (1, 2))) (ext o w.heap.size 12) 12 1 (some ⟨w.heap.size, 0, none⟩) 1 1 (byts [b]) := by
  subst hv
  exact Sl.lit w o 12 #[.int .u8 (b.toNat : Int)] 5 (1, 2) 1 rfl (by decide)

set_option maxRecDepth 100000 in
set_option maxHeartbeats 4000000 in
theorem PacketWrong_walk (w : World) (a b : Int) (ha : 0 ≤ a) (hb : 0 ≤ b) (A : Option Addr) (n c : Nat) (bl : List UInt8) (hS : Sl w (fun _ => 0) 0 1 A n c (byts bl)) (hn : n ≤ 140737488351232) (cut : Nat) (hcut : cut ≤ 255) :
    Calls Try.prog 9 #[.int .u64 a, .int .u64 b, .slice A n c, .int .u8 cut] w fun e w' => e = .returned (.bool true) ∧ Below w.heap.size w w' := by
  obtain ⟨own, hown⟩ : ∃ own : Nat, (own : Int) = 100 + a % 1099511627677 := ⟨(100 + a % 1099511627677).toNat, by omega⟩
  obtain ⟨oth, hoth⟩ : ∃ oth : Nat, (oth : Int) = 100 + b % 1099511627677 := ⟨(100 + b % 1099511627677).toNat, by omega⟩
  have ho0 : 100 ≤ own := by omega
  have ho1 : own ≤ 1099511627776 := by omega
  have hp0 : 100 ≤ oth := by omega
  have hp1 : oth ≤ 1099511627776 := by omega
  have HOWN := Lib.hid hown.symm; have HOTH := Lib.hid hoth.symm
  have HS := Lib.hid hS; have HBL := Lib.hid (show bl.length = n by have := hS.1; simpa using this)
  clear hown hoth hS
  have kc := fun (w : World) (C : Array Value) (n c : Nat) => Lib.run_convert_bytes_const (P := Try.prog) w 27 5 C n c Try.underlying27 Try.underlying5
  go_enter Try.func9, Try.ntmps9
  go_wp2_with fail
  rw [HOWN.out, HOTH.out]
  refine (linked_ok w (fun _ => 0) own oth (by omega) (by omega) (by omega) (by omega)).mono ?_
  rintro e w1 ⟨l, o1, rfl, hst1, hl1⟩
  have ST1 := Lib.hid (hst1.mono (ts' := allTags) (by simp)); have HL1 := Lib.hid hl1
  clear hst1 hl1
  have hb1 := box1 w1 o1 97 97 rfl
  have st1 := (Step.refl [] w1 o1).alloc (.cells #[.int .u8 97] 5 (1, 2)) 12
  have HM1 := Lib.hid ((HL1.out.step st1 (by simp)).make0 (by omega) 12 _ 1 1 [97] hb1 (by omega))
  have ST1' := Lib.hid (ST1.out.trans st1.nil)
  clear hb1 st1
  go_wp2_with fail
  refine HM1.out.mono ?_
  rintro e w2 ⟨rfl, o2, hst2, hl2⟩
  rw [show (side0.make (markB side0.bodies.length [97])) = wrX1 from rfl] at hl2
  have ST2 := Lib.hid (ST1'.out.trans (hst2.mono (by simp))); have HL2 := Lib.hid hl2
  clear hst2 hl2 HM1 HL1 ST1 ST1'
  have hb2 := box1 w2 o2 98 98 rfl
  have st2 := (Step.refl [] w2 o2).alloc (.cells #[.int .u8 98] 5 (1, 2)) 12
  have HM2 := Lib.hid ((HL2.out.step st2 (by simp)).make1 (by omega) 12 _ 1 1 [98] hb2 (by omega))
  have ST2' := Lib.hid (ST2.out.trans st2.nil)
  clear hb2 st2
  go_wp2_with fail
  refine HM2.out.mono ?_
  rintro e w3 ⟨rfl, o3, hst3, hl3⟩
  rw [show (side0.make (markB side0.bodies.length [98])) = wrY1 from rfl] at hl3
  have ST3 := Lib.hid (ST2'.out.trans (hst3.mono (by simp))); have HL3 := Lib.hid hl3
  obtain ⟨mA, mn, mc, mg, pA, pn, pc, c1, rfl, hj, c2, hpn, hps⟩ := hl3.pkt1 wr_made0
  have HM3 := Lib.hid (hl3.take0 (by omega) (List.mem_of_getElem? wr_made0) pA pn pc hps (by rw [hpn]; show _ ≤ _; simp [APkt.enc, wrPb, markB, bytesOf_len]))
  have hj0 : (0 : Int) < (mn : Int) := by omega
  clear hst3 hl3 hpn hps HM2 HL2 ST2 ST2' hj
  go_wp2_with fail
  refine HM3.out.mono ?_
  rintro e w4 ⟨rfl, o4, hst4, hl4⟩
  rw [show wrX1.take wrPb = wrX2 from rfl, show wrY1.given wrX1.e wrPb = wrY2 from rfl] at hl4
  have ST4 := Lib.hid (ST3.out.trans (hst4.mono (by simp))); have HL4 := Lib.hid hl4
  clear hst4 hl4 HM3 HL3 ST3 c1 c2 hj0
  have hb4 := box1 w4 o4 99 99 rfl
  have st4 := (Step.refl [] w4 o4).alloc (.cells #[.int .u8 99] 5 (1, 2)) 12
  have HM4 := Lib.hid ((HL4.out.step st4 (by simp)).make0 (by omega) 12 _ 1 1 [99] hb4 (by omega))
  have ST4' := Lib.hid (ST4.out.trans st4.nil)
  clear hb4 st4
  go_wp2_with fail
  refine HM4.out.mono ?_
  rintro e w5 ⟨rfl, o5, hst5, hl5⟩
  rw [show (wrX2.make (markB wrX2.bodies.length [99])) = wrX3 from rfl] at hl5
  have ST5 := Lib.hid (ST4'.out.trans (hst5.mono (by simp))); have HL5 := Lib.hid hl5
  obtain ⟨mA, mn, mc, mg, pA, pn, pc, c1, rfl, hj, c2, hpn, hps⟩ := hl5.pkt0 wr_made1
  have HM5 := Lib.hid (hl5.take1 (by omega) (List.mem_of_getElem? wr_made1) pA pn pc hps (by rw [hpn]; show _ ≤ _; simp [APkt.enc, wrPc, markB, bytesOf_len]))
  have hj0 : (1 : Int) < (mn : Int) := by omega
  clear hst5 hl5 hpn hps HM4 HL4 ST4 ST4' hj
  go_wp2_with fail
  refine HM5.out.mono ?_
  rintro e w6 ⟨rfl, o6, hst6, hl6⟩
  rw [show wrY2.take wrPc = wrY3 from rfl, show wrX3.given wrY2.e wrPc = wrX4 from rfl] at hl6
  have ST6 := Lib.hid (ST5.out.trans (hst6.mono (by simp))); have HL6 := Lib.hid hl6
  clear hst6 hl6 HM5 HL5 ST5 c1 c2 hj0
  have hb6 := box1 w6 o6 100 100 rfl
  have st6 := (Step.refl [] w6 o6).alloc (.cells #[.int .u8 100] 5 (1, 2)) 12
  have HM6 := Lib.hid ((HL6.out.step st6 (by simp)).make1 (by omega) 12 _ 1 1 [100] hb6 (by omega))
  have ST6' := Lib.hid (ST6.out.trans st6.nil)
  clear hb6 st6
  go_wp2_with fail
  refine HM6.out.mono ?_
  rintro e w7 ⟨rfl, o7, hst7, hl7⟩
  rw [show (wrY3.make (markB wrY3.bodies.length [100])) = wrY4 from rfl] at hl7
  have ST7 := Lib.hid (ST6'.out.trans (hst7.mono (by simp)))
  obtain ⟨mA, mn, mc, mg, fA, fn, fc, c1, rfl, hj, c2, hfn, hfs⟩ := hl7.pkt1 wr_made2
  obtain ⟨e0, e1, c3, c4, hE0, hE1, hlt⟩ := hl7.ends
  rw [wr_conc] at hE0
  rw [wr_conc1] at hE1
  rw [wr_full] at hfn hfs
  rw [wrFull_len] at hfn
  subst hfn
  have HE0 := Lib.hid hE0; have HE1 := Lib.hid hE1; have HF := Lib.hid hfs
  have hj0 : (1 : Int) < (mn : Int) := by omega
  clear hst7 hl7 hfs hE0 hE1 HM6 HL6 ST6 ST6' hj
  go_wp2_with fail
  refine (wr_received w7 o7 e0 own oth HE0.out).mono ?_
  rintro e w8 ⟨rfl, k8, hw8⟩
  have st8 : Step [] w7 o7 w8 o7 := by rw [hw8]; exact (Step.refl [] w7 o7).drewN k8
  have d1 : w8.cell? ⟨l, 6, none⟩ = some (.slice (some ⟨mg, 0, none⟩) mn mc) := by rw [hw8]; exact c1
  have d2 : w8.cell? ⟨mg, 1, none⟩ = some (.slice fA 12 fc) := by rw [hw8]; exact c2
  have d3 : w8.cell? ⟨l, 0, none⟩ = some (.pointer (some ⟨e0, 0, none⟩)) := by rw [hw8]; exact c3
  have d4 : w8.cell? ⟨l, 5, none⟩ = some (.pointer (some ⟨e1, 0, none⟩)) := by rw [hw8]; exact c4
  have HE8 := Lib.hid (HE0.out.step st8 (by simp)); have HF8 := Lib.hid (HF.out.step st8 (by simp)); have ST8 := Lib.hid (ST7.out.trans st8.nil)
  have HO8 := Lib.hid (wr_only w8 o7 e1 own oth (by omega) (by omega) (by omega) (by omega) (HE1.out.step st8 (by simp)))
  clear hw8 st8 c1 c2 c3 c4 HE0 HE1 HF ST7 hlt
  go_wp2_with fail
  refine HO8.out.mono ?_
  rintro e w9 ⟨oA, oc, o9, rfl, st9, hos⟩
  have HE9 := Lib.hid (HE8.out.step st9 (by simp)); have HF9 := Lib.hid (HF8.out.step st9 (by simp)); have ST9 := Lib.hid (ST8.out.trans st9.nil)
  have HO9 := Lib.hid hos
  have HB9 := Lib.hid (HS.out.below (ST9.out.old (by simp)))
  clear st9 hos HE8 HF8 ST8 HO8 d1 d2 d3 d4 hj0 HS
  obtain ⟨FL, hFL, hFL3⟩ := or4 cut hcut
  obtain ⟨c9, hc9n⟩ : ∃ c9, c9 = cut % 9 := ⟨_, rfl⟩
  obtain ⟨c7, hc7n⟩ : ∃ c7, c7 = cut % 7 := ⟨_, rfl⟩
  have hc9 : (cut : Int) % 9 = (c9 : Int) := by omega
  have hc7 : (cut : Int) % 7 = (c7 : Int) := by omega
  have hc9l : c9 < 9 := by omega
  have hwc : IntKind.i64.wrap (cut : Int) = (cut : Int) := IntWalk.i64_in _ (by omega)
  have ht9 : (cut : Int).tmod 9 = (c9 : Int) := by rw [Int.tmod_eq_emod_of_nonneg (by omega)]; exact hc9
  have ht7 : (cut : Int).tmod 7 = (c7 : Int) := by rw [Int.tmod_eq_emod_of_nonneg (by omega)]; exact hc7
  have hwo2 : IntKind.i64.wrap ((own : Int) + 2) = (own : Int) + 2 := IntWalk.i64_in _ (by omega)
  have hwo1 : IntKind.i64.wrap ((own : Int) - 1) = (own : Int) - 1 := IntWalk.i64_in _ (by omega)
  have hwp1 : IntKind.i64.wrap ((oth : Int) - 1) = (oth : Int) - 1 := IntWalk.i64_in _ (by omega)
  have hwp50 : IntKind.i64.wrap ((oth : Int) - 50) = (oth : Int) - 50 := IntWalk.i64_in _ (by omega)
  have hc7l : c7 < 7 := by omega
  have HC := Lib.hid (And.intro hc9n hc7n)
  have hfc : 12 ≤ fc := HF9.out.2.1
  have hoc : 7 ≤ oc := HO9.out.2.1
  have hfc9 : (9 : Int) ≤ (fc : Int) := by omega
  have hs1 := run_headW Try.prog 27 5 (.int .u8 0) 1 1 Try.underlying27 (by kernel_rfl) fA 12 fc c9 (by omega)
  have hs2 := run_headW Try.prog 27 5 (.int .u8 0) 1 1 Try.underlying27 (by kernel_rfl) fA 12 fc 9 (by omega)
  have hs3 := run_headW Try.prog 27 5 (.int .u8 0) 1 1 Try.underlying27 (by kernel_rfl) oA 7 oc c7 (by omega)
  clear hc9n hc7n
  go_upto_region 12 with fail
  obtain ⟨W0, hW0⟩ : ∃ W0, W0 = w9.drew := ⟨_, rfl⟩
  have HF := Lib.hid (show Sl W0 (small o9) 10 1 fA 12 fc (byts (wrFull ((oth : Int) + 1) ((own : Int) + 1))) by rw [hW0]; exact (HF9.out.small (by omega)).step (Step.refl [] w9 _).drew (by simp))
  have HO := Lib.hid (show Sl W0 (small o9) 13 1 oA 7 oc (byts (wrOnly ((own : Int) + 1) 0)) by rw [hW0]; exact (HO9.out.small (by omega)).step (Step.refl [] w9 _).drew (by simp))
  have HB := Lib.hid (show Sl W0 (fun _ => 0) 0 1 A n c (byts bl) by rw [hW0]; exact HB9.out)
  have H4 := Lib.hid (HF.out.headW c9 (by omega)); have H5 := Lib.hid (HF.out.headW 9 (by omega)); have H6 := Lib.hid (HO.out.headW c7 (by omega))
  have HEW := Lib.hid (show EndAt W0 (small o9) 2 e0 (wrS own oth) by rw [hW0]; exact (HE9.out.small (by omega)).step (Step.refl [] w9 _).drew (by simp))
  have STW := Lib.hid (show Step allTags w (fun _ => 0) W0 o9 by rw [hW0]; exact ST9.out.drew)
  refine wp_region_monoA (V := kindsV (wrK A n c fA fc oA oc own oth cut bl FL c9 c7)) (Base := BaseO W0 (small o9)) (small o9) wrDs wrNeeds wrEats (by kernel_rfl) (by kernel_rfl) (by rw [← hW0]; exact ⟨Step.refl _ _ _, fun k _ => small_le o9 k⟩) ?obs ?rest
  case obs => as_aux_lemma =>
    intro a1 ha1 Q1
    have e2 : a1.eval (.tmp 2) = .slice A n c := ha1 2
    have e3 : a1.eval (.tmp 3) = .int .u8 cut := ha1 3
    have e9 : a1.eval (.tmp 9) = .int .i64 own := ha1 9
    have e10 : a1.eval (.tmp 10) = .int .i64 oth := ha1 10
    have e17 : a1.eval (.tmp 17) = .slice fA 12 fc := ha1 17
    have e18 : a1.eval (.tmp 18) = .slice oA 7 oc := ha1 18
    have e20 : a1.eval (.tmp 20) = .func (.func 35) #[] #[] := ha1 20
    clear ha1 HF9 HO9 HB9 HE9 ST9 HOWN HOTH hW0 HEW STW kc
    refine ⟨fun a w γ hb far need => ?_, ?_⟩
    · clear far
      refine ob_K fun K hK => ?_
      go_simp
      exact hK.out _ _ (ObPost.shut_ (xs := [0]) hb rfl (rfl) rfl (by simp [maxLen]))
    refine ⟨fun a w γ hb far need => ?_, ?_⟩
    · clear far
      refine ob_K fun K hK => ?_
      go_simp
      exact hK.out _ _ (ObPost.open_ (xs := [4]) hb rfl (rfl) rfl (by simp [maxLen]))
    refine ⟨fun a w γ hb far need => ?_, ?_⟩
    · clear need
      have x := ev ((far 2 (by decide)).trans e2)
      refine ob_K fun K hK => ?_
      go_simp
      exact hK.out _ _ (ObPost.pure_ hb rfl)
    refine ⟨fun a w γ hb far need => ?_, ?_⟩
    · clear far
      have y : (Kind.row 51 [4]).says (a.eval (.tmp 147)) w γ := need 1 (by decide) 147 rfl
      have z : a.eval (.tmp 148) = .slice A n c := need 2 (by decide) 148 rfl
      exact ob_append rfl el_byte (by unfold OpenTag; omega) hb y z (by exact HB.out.below hb.below) (by show 1 + n ≤ _; omega) rfl (.inr rfl) rfl
    refine ⟨fun a w γ hb far need => ?_, ?_⟩
    · clear need
      have x := ev ((far 3 (by decide)).trans e3)
      refine ob_K fun K hK => ?_
      go_simp
      exact hK.out _ _ (ObPost.pure_ hb rfl)
    refine ⟨fun a w γ hb far need => ?_, ?_⟩
    · clear far
      have y4 := ev (show a.eval (.tmp 150) = .int .u8 cut from need 4 (by decide) 150 rfl)
      refine ob_K fun K hK => ?_
      go_simp
      exact hK.out _ _ (ObPost.pure_ hb rfl)
    refine ⟨fun a w γ hb far need => ?_, ?_⟩
    · clear far
      have y5 := ev (show a.eval (.tmp 151) = .int .u8 (FL.toNat : Int) from need 5 (by decide) 151 rfl)
      refine ob_K fun K hK => ?_
      go_simp
      exact hK.out _ _ (ObPost.open_ (xs := [FL]) hb rfl (rfl) rfl (by simp [maxLen]))
    refine ⟨fun a w γ hb far need => ?_, ?_⟩
    · clear need
      have x := ev ((far 2 (by decide)).trans e2)
      refine ob_K fun K hK => ?_
      go_simp
      exact hK.out _ _ (ObPost.pure_ hb rfl)
    refine ⟨fun a w γ hb far need => ?_, ?_⟩
    · clear far
      have y : (Kind.row 52 [FL]).says (a.eval (.tmp 152)) w γ := need 6 (by decide) 152 rfl
      have z : a.eval (.tmp 153) = .slice A n c := need 7 (by decide) 153 rfl
      exact ob_append rfl el_byte (by unfold OpenTag; omega) hb y z (by exact HB.out.below hb.below) (by show 1 + n ≤ _; omega) rfl (.inr rfl) rfl
    refine ⟨fun a w γ hb far need => ?_, ?_⟩
    · clear need
      have x := ev ((far 17 (by decide)).trans e17)
      refine ob_K fun K hK => ?_
      go_simp
      exact hK.out _ _ (ObPost.pure_ hb rfl)
    refine ⟨fun a w γ hb far need => ?_, ?_⟩
    · clear need
      have x := ev ((far 3 (by decide)).trans e3)
      refine ob_K fun K hK => ?_
      go_simp
      exact hK.out _ _ (ObPost.pure_ hb rfl)
    refine ⟨fun a w γ hb far need => ?_, ?_⟩
    · clear far
      have y10 := ev (show a.eval (.tmp 156) = .int .u8 cut from need 10 (by decide) 156 rfl)
      refine ob_K fun K hK => ?_
      go_simp
      exact hK.out _ _ (ObPost.pure_ hb rfl)
    refine ⟨fun a w γ hb far need => ?_, ?_⟩
    · clear far
      have y11 := ev (show a.eval (.tmp 157) = .int .i64 cut from need 11 (by decide) 157 rfl)
      refine ob_K fun K hK => ?_
      go_simp
      exact hK.out _ _ (ObPost.pure_ hb rfl)
    refine ⟨fun a w γ hb far need => ?_, ?_⟩
    · clear far
      have y9 := ev (show a.eval (.tmp 155) = .slice fA 12 fc from need 9 (by decide) 155 rfl)
      have y12 := ev (show a.eval (.tmp 158) = .int .i64 c9 from need 12 (by decide) 158 rfl)
      refine ob_K fun K hK => ?_
      go_simp
      exact hK.out _ _ (ObPost.pure_ hb rfl)
    refine ⟨fun a w γ hb far need => ?_, ?_⟩
    · clear need
      have x := ev ((far 17 (by decide)).trans e17)
      refine ob_K fun K hK => ?_
      go_simp
      exact hK.out _ _ (ObPost.pure_ hb rfl)
    refine ⟨fun a w γ hb far need => ?_, ?_⟩
    · clear far
      have y14 := ev (show a.eval (.tmp 160) = .slice fA 12 fc from need 14 (by decide) 160 rfl)
      refine ob_K fun K hK => ?_
      go_simp
      exact hK.out _ _ (ObPost.pure_ hb rfl)
    refine ⟨fun a w γ hb far need => ?_, ?_⟩
    · clear need
      have x := ev ((far 18 (by decide)).trans e18)
      refine ob_K fun K hK => ?_
      go_simp
      exact hK.out _ _ (ObPost.pure_ hb rfl)
    refine ⟨fun a w γ hb far need => ?_, ?_⟩
    · clear need
      have x := ev ((far 3 (by decide)).trans e3)
      refine ob_K fun K hK => ?_
      go_simp
      exact hK.out _ _ (ObPost.pure_ hb rfl)
    refine ⟨fun a w γ hb far need => ?_, ?_⟩
    · clear far
      have y17 := ev (show a.eval (.tmp 163) = .int .u8 cut from need 17 (by decide) 163 rfl)
      refine ob_K fun K hK => ?_
      go_simp
      exact hK.out _ _ (ObPost.pure_ hb rfl)
    refine ⟨fun a w γ hb far need => ?_, ?_⟩
    · clear far
      have y18 := ev (show a.eval (.tmp 164) = .int .i64 cut from need 18 (by decide) 164 rfl)
      refine ob_K fun K hK => ?_
      go_simp
      exact hK.out _ _ (ObPost.pure_ hb rfl)
    refine ⟨fun a w γ hb far need => ?_, ?_⟩
    · clear far
      have y16 := ev (show a.eval (.tmp 162) = .slice oA 7 oc from need 16 (by decide) 162 rfl)
      have y19 := ev (show a.eval (.tmp 165) = .int .i64 c7 from need 19 (by decide) 165 rfl)
      refine ob_K fun K hK => ?_
      go_simp
      exact hK.out _ _ (ObPost.pure_ hb rfl)
    refine ⟨fun a w γ hb far need => ?_, ?_⟩
    · clear far
      refine ob_K fun K hK => ?_
      go_simp
      exact hK.out _ _ (ObPost.open_ (xs := []) hb rfl (rfl) rfl (by simp [maxLen]))
    refine ⟨fun a w γ hb far need => ?_, ?_⟩
    · clear need
      have x := ev ((far 18 (by decide)).trans e18)
      refine ob_K fun K hK => ?_
      go_simp
      exact hK.out _ _ (ObPost.pure_ hb rfl)
    refine ⟨fun a w γ hb far need => ?_, ?_⟩
    · clear far
      have y : (Kind.row 53 []).says (a.eval (.tmp 167)) w γ := need 21 (by decide) 167 rfl
      have z : a.eval (.tmp 168) = .slice oA 7 oc := need 22 (by decide) 168 rfl
      exact ob_append rfl el_byte (by unfold OpenTag; omega) hb y z (by exact HO.out.base hb) (by show 0 + 7 ≤ _; omega) rfl (.inl ⟨_, rfl⟩) rfl
    refine ⟨fun a w γ hb far need => ?_, ?_⟩
    · clear far
      refine ob_K fun K hK => ?_
      go_simp
      exact hK.out _ _ (ObPost.shut_ (xs := [0]) hb rfl (rfl) rfl (by simp [maxLen]))
    refine ⟨fun a w γ hb far need => ?_, ?_⟩
    · clear far
      have y : (Kind.row 55 ([] ++ (wrOnly ((own : Int) + 1) 0))).says (a.eval (.tmp 169)) w γ := need 23 (by decide) 169 rfl
      have z : (Kind.closed [0]).says (a.eval (.tmp 170)) w γ := need 24 (by decide) 170 rfl
      obtain ⟨zA, zc, zt, zv, -, zs⟩ := z
      exact ob_append rfl el_byte (by unfold OpenTag; omega) hb y zv zs (by rw [List.nil_append, wrOnly_len]; decide) rfl (.inr rfl) rfl
    refine ⟨fun a w γ hb far need => ?_, ?_⟩
    · clear far
      refine ob_K fun K hK => ?_
      go_simp
      exact hK.out _ _ (ObPost.open_ (xs := []) hb rfl (rfl) rfl (by simp [maxLen]))
    refine ⟨fun a w γ hb far need => ?_, ?_⟩
    · clear need
      have x := ev ((far 17 (by decide)).trans e17)
      refine ob_K fun K hK => ?_
      go_simp
      exact hK.out _ _ (ObPost.pure_ hb rfl)
    refine ⟨fun a w γ hb far need => ?_, ?_⟩
    · clear far
      have y : (Kind.row 54 []).says (a.eval (.tmp 172)) w γ := need 26 (by decide) 172 rfl
      have z : a.eval (.tmp 173) = .slice fA 12 fc := need 27 (by decide) 173 rfl
      exact ob_append rfl el_byte (by unfold OpenTag; omega) hb y z (by exact HF.out.base hb) (by show 0 + 12 ≤ _; omega) rfl (.inl ⟨_, rfl⟩) rfl
    refine ⟨fun a w γ hb far need => ?_, ?_⟩
    · clear far
      have y : (Kind.row 56 ([] ++ (wrFull ((oth : Int) + 1) ((own : Int) + 1)))).says (a.eval (.tmp 174)) w γ := need 28 (by decide) 174 rfl
      exact ob_zeros (m := 1191) rfl el_byte Try.underlying3 (by unfold OpenTag; omega) hb y (by rw [List.nil_append, wrFull_len]; decide) rfl (by omega) (by rw [List.nil_append, wrFull_len]; decide) rfl rfl
    refine ⟨fun a w γ hb far need => ?_, ?_⟩
    · clear need
      have x := ev ((far 20 (by decide)).trans e20)
      refine ob_K fun K hK => ?_
      go_simp
      exact hK.out _ _ (ObPost.pure_ hb rfl)
    refine ⟨fun a w γ hb far need => ?_, ?_⟩
    · clear need
      have x := ev ((far 9 (by decide)).trans e9)
      refine ob_K fun K hK => ?_
      go_simp
      exact hK.out _ _ (ObPost.pure_ hb rfl)
    refine ⟨fun a w γ hb far need => ?_, ?_⟩
    · clear far
      have y31 := ev (show a.eval (.tmp 177) = .int .i64 own from need 31 (by decide) 177 rfl)
      refine ob_K fun K hK => ?_
      go_simp
      exact hK.out _ _ (ObPost.pure_ hb rfl)
    refine ⟨fun a w γ hb far need => ?_, ?_⟩
    · clear need
      have x := ev ((far 18 (by decide)).trans e18)
      refine ob_K fun K hK => ?_
      go_simp
      exact hK.out _ _ (ObPost.pure_ hb rfl)
    refine ⟨fun a w γ hb far need => ?_, ?_⟩
    · clear far
      have y0 := ev (show a.eval (.tmp 176) = .func (.func 35) #[] #[] from need 30 (by decide) 176 rfl)
      have y1 := ev (show a.eval (.tmp 178) = .int .i64 ((own : Int) + 2) from need 32 (by decide) 178 rfl)
      have y2 := ev (show a.eval (.tmp 179) = .slice oA 7 oc from need 33 (by decide) 179 rfl)
      refine ob_K fun K hK => ?_
      go_simp
      rw [show ((own : Int) + 2) = ((own + 2 : Nat) : Int) by omega]
      refine (number_any w _ _ (own + 2) 1 (by omega) _ _ _ _ (HO.out.base hb) (by omega) (by omega)).mono ?_
      rintro e w' ⟨A', c', rfl, hbl, hs, hf⟩
      try go_simp
      exact hK.out _ _ (ObPost.new_ hb rfl (by unfold putNum; rw [List.length_set, List.length_set]; exact (wrOnly_len _ _).symm) hbl hs hf)
    refine ⟨fun a w γ hb far need => ?_, ?_⟩
    · clear need
      have x := ev ((far 20 (by decide)).trans e20)
      refine ob_K fun K hK => ?_
      go_simp
      exact hK.out _ _ (ObPost.pure_ hb rfl)
    refine ⟨fun a w γ hb far need => ?_, ?_⟩
    · clear need
      have x := ev ((far 9 (by decide)).trans e9)
      refine ob_K fun K hK => ?_
      go_simp
      exact hK.out _ _ (ObPost.pure_ hb rfl)
    refine ⟨fun a w γ hb far need => ?_, ?_⟩
    · clear far
      have y36 := ev (show a.eval (.tmp 182) = .int .i64 own from need 36 (by decide) 182 rfl)
      refine ob_K fun K hK => ?_
      go_simp
      exact hK.out _ _ (ObPost.pure_ hb rfl)
    refine ⟨fun a w γ hb far need => ?_, ?_⟩
    · clear need
      have x := ev ((far 17 (by decide)).trans e17)
      refine ob_K fun K hK => ?_
      go_simp
      exact hK.out _ _ (ObPost.pure_ hb rfl)
    refine ⟨fun a w γ hb far need => ?_, ?_⟩
    · clear far
      have y0 := ev (show a.eval (.tmp 181) = .func (.func 35) #[] #[] from need 35 (by decide) 181 rfl)
      have y1 := ev (show a.eval (.tmp 183) = .int .i64 ((own : Int) + 2) from need 37 (by decide) 183 rfl)
      have y2 := ev (show a.eval (.tmp 184) = .slice fA 12 fc from need 38 (by decide) 184 rfl)
      refine ob_K fun K hK => ?_
      go_simp
      rw [show ((own : Int) + 2) = ((own + 2 : Nat) : Int) by omega]
      refine (number_any w _ _ (own + 2) 3 (by omega) _ _ _ _ (HF.out.base hb) (by omega) (by omega)).mono ?_
      rintro e w' ⟨A', c', rfl, hbl, hs, hf⟩
      try go_simp
      exact hK.out _ _ (ObPost.new_ hb rfl (by unfold putNum; rw [List.length_set, List.length_set]; exact (wrFull_len _ _).symm) hbl hs hf)
    refine ⟨fun a w γ hb far need => ?_, ?_⟩
    · clear need
      have x := ev ((far 20 (by decide)).trans e20)
      refine ob_K fun K hK => ?_
      go_simp
      exact hK.out _ _ (ObPost.pure_ hb rfl)
    refine ⟨fun a w γ hb far need => ?_, ?_⟩
    · clear need
      have x := ev ((far 9 (by decide)).trans e9)
      refine ob_K fun K hK => ?_
      go_simp
      exact hK.out _ _ (ObPost.pure_ hb rfl)
    refine ⟨fun a w γ hb far need => ?_, ?_⟩
    · clear far
      have y41 := ev (show a.eval (.tmp 187) = .int .i64 own from need 41 (by decide) 187 rfl)
      refine ob_K fun K hK => ?_
      go_simp
      exact hK.out _ _ (ObPost.pure_ hb rfl)
    refine ⟨fun a w γ hb far need => ?_, ?_⟩
    · clear need
      have x := ev ((far 18 (by decide)).trans e18)
      refine ob_K fun K hK => ?_
      go_simp
      exact hK.out _ _ (ObPost.pure_ hb rfl)
    refine ⟨fun a w γ hb far need => ?_, ?_⟩
    · clear far
      have y0 := ev (show a.eval (.tmp 186) = .func (.func 35) #[] #[] from need 40 (by decide) 186 rfl)
      have y1 := ev (show a.eval (.tmp 188) = .int .i64 ((own : Int) - 1) from need 42 (by decide) 188 rfl)
      have y2 := ev (show a.eval (.tmp 189) = .slice oA 7 oc from need 43 (by decide) 189 rfl)
      refine ob_K fun K hK => ?_
      go_simp
      rw [show ((own : Int) - 1) = ((own - 1 : Nat) : Int) by omega]
      refine (number_any w _ _ (own - 1) 1 (by omega) _ _ _ _ (HO.out.base hb) (by omega) (by omega)).mono ?_
      rintro e w' ⟨A', c', rfl, hbl, hs, hf⟩
      try go_simp
      exact hK.out _ _ (ObPost.new_ hb rfl (by unfold putNum; rw [List.length_set, List.length_set]; exact (wrOnly_len _ _).symm) hbl hs hf)
    refine ⟨fun a w γ hb far need => ?_, ?_⟩
    · clear need
      have x := ev ((far 20 (by decide)).trans e20)
      refine ob_K fun K hK => ?_
      go_simp
      exact hK.out _ _ (ObPost.pure_ hb rfl)
    refine ⟨fun a w γ hb far need => ?_, ?_⟩
    · clear need
      have x := ev ((far 10 (by decide)).trans e10)
      refine ob_K fun K hK => ?_
      go_simp
      exact hK.out _ _ (ObPost.pure_ hb rfl)
    refine ⟨fun a w γ hb far need => ?_, ?_⟩
    · clear far
      have y46 := ev (show a.eval (.tmp 192) = .int .i64 oth from need 46 (by decide) 192 rfl)
      refine ob_K fun K hK => ?_
      go_simp
      exact hK.out _ _ (ObPost.pure_ hb rfl)
    refine ⟨fun a w γ hb far need => ?_, ?_⟩
    · clear need
      have x := ev ((far 17 (by decide)).trans e17)
      refine ob_K fun K hK => ?_
      go_simp
      exact hK.out _ _ (ObPost.pure_ hb rfl)
    refine ⟨fun a w γ hb far need => ?_, ?_⟩
    · clear far
      have y0 := ev (show a.eval (.tmp 191) = .func (.func 35) #[] #[] from need 45 (by decide) 191 rfl)
      have y1 := ev (show a.eval (.tmp 193) = .int .i64 ((oth : Int) - 1) from need 47 (by decide) 193 rfl)
      have y2 := ev (show a.eval (.tmp 194) = .slice fA 12 fc from need 48 (by decide) 194 rfl)
      refine ob_K fun K hK => ?_
      go_simp
      rw [show ((oth : Int) - 1) = ((oth - 1 : Nat) : Int) by omega]
      refine (number_any w _ _ (oth - 1) 1 (by omega) _ _ _ _ (HF.out.base hb) (by omega) (by omega)).mono ?_
      rintro e w' ⟨A', c', rfl, hbl, hs, hf⟩
      try go_simp
      exact hK.out _ _ (ObPost.new_ hb rfl (by unfold putNum; rw [List.length_set, List.length_set]; exact (wrFull_len _ _).symm) hbl hs hf)
    refine ⟨fun a w γ hb far need => ?_, ?_⟩
    · clear need
      have x := ev ((far 20 (by decide)).trans e20)
      refine ob_K fun K hK => ?_
      go_simp
      exact hK.out _ _ (ObPost.pure_ hb rfl)
    refine ⟨fun a w γ hb far need => ?_, ?_⟩
    · clear need
      have x := ev ((far 10 (by decide)).trans e10)
      refine ob_K fun K hK => ?_
      go_simp
      exact hK.out _ _ (ObPost.pure_ hb rfl)
    refine ⟨fun a w γ hb far need => ?_, ?_⟩
    · clear far
      have y51 := ev (show a.eval (.tmp 197) = .int .i64 oth from need 51 (by decide) 197 rfl)
      refine ob_K fun K hK => ?_
      go_simp
      exact hK.out _ _ (ObPost.pure_ hb rfl)
    refine ⟨fun a w γ hb far need => ?_, ?_⟩
    · clear need
      have x := ev ((far 17 (by decide)).trans e17)
      refine ob_K fun K hK => ?_
      go_simp
      exact hK.out _ _ (ObPost.pure_ hb rfl)
    refine ⟨fun a w γ hb far need => ?_, ?_⟩
    · clear far
      have y0 := ev (show a.eval (.tmp 196) = .func (.func 35) #[] #[] from need 50 (by decide) 196 rfl)
      have y1 := ev (show a.eval (.tmp 198) = .int .i64 ((oth : Int) - 50) from need 52 (by decide) 198 rfl)
      have y2 := ev (show a.eval (.tmp 199) = .slice fA 12 fc from need 53 (by decide) 199 rfl)
      refine ob_K fun K hK => ?_
      go_simp
      rw [show ((oth : Int) - 50) = ((oth - 50 : Nat) : Int) by omega]
      refine (number_any w _ _ (oth - 50) 1 (by omega) _ _ _ _ (HF.out.base hb) (by omega) (by omega)).mono ?_
      rintro e w' ⟨A', c', rfl, hbl, hs, hf⟩
      try go_simp
      exact hK.out _ _ (ObPost.new_ hb rfl (by unfold putNum; rw [List.length_set, List.length_set]; exact (wrFull_len _ _).symm) hbl hs hf)
    refine ⟨fun a w γ hb far need => ?_, ?_⟩
    · clear far
      have k1 : (Kind.closed ([0])).says (a.eval (.tmp 146)) w γ := need 0 (by decide) 146 rfl
      obtain ⟨A1, d1, n1, y1⟩ := says_slice k1
      rw [y1] at k1
      have K1 := Lib.hid k1
      clear k1
      have k2 : (Kind.closed ([4] ++ bl)).says (a.eval (.tmp 149)) w γ := need 3 (by decide) 149 rfl
      obtain ⟨A2, d2, n2, y2⟩ := says_slice k2
      rw [y2] at k2
      have K2 := Lib.hid k2
      clear k2
      have k3 : (Kind.closed ([FL] ++ bl)).says (a.eval (.tmp 154)) w γ := need 8 (by decide) 154 rfl
      obtain ⟨A3, d3, n3, y3⟩ := says_slice k3
      rw [y3] at k3
      have K3 := Lib.hid k3
      clear k3
      have y4 : a.eval (.tmp 159) = .slice fA c9 fc := need 13 (by decide) 159 rfl
      have y5 : a.eval (.tmp 161) = .slice fA 9 fc := need 15 (by decide) 161 rfl
      have y6 : a.eval (.tmp 166) = .slice oA c7 oc := need 20 (by decide) 166 rfl
      have k7 : (Kind.closed (([] ++ (wrOnly ((own : Int) + 1) 0)) ++ [0])).says (a.eval (.tmp 171)) w γ := need 25 (by decide) 171 rfl
      obtain ⟨A7, d7, n7, y7⟩ := says_slice k7
      rw [y7] at k7
      have K7 := Lib.hid k7
      clear k7
      have k8 : (Kind.closed (([] ++ (wrFull ((oth : Int) + 1) ((own : Int) + 1))) ++ List.replicate 1191 0)).says (a.eval (.tmp 175)) w γ := need 29 (by decide) 175 rfl
      obtain ⟨A8, d8, n8, y8⟩ := says_slice k8
      rw [y8] at k8
      have K8 := Lib.hid k8
      clear k8
      have k9 : (Kind.closed (putNum (own + 2) 1 (wrOnly ((own : Int) + 1) 0))).says (a.eval (.tmp 180)) w γ := need 34 (by decide) 180 rfl
      obtain ⟨A9, d9, n9, y9⟩ := says_slice k9
      rw [y9] at k9
      have K9 := Lib.hid k9
      clear k9
      have k10 : (Kind.closed (putNum (own + 2) 3 (wrFull ((oth : Int) + 1) ((own : Int) + 1)))).says (a.eval (.tmp 185)) w γ := need 39 (by decide) 185 rfl
      obtain ⟨A10, d10, n10, y10⟩ := says_slice k10
      rw [y10] at k10
      have K10 := Lib.hid k10
      clear k10
      have k11 : (Kind.closed (putNum (own - 1) 1 (wrOnly ((own : Int) + 1) 0))).says (a.eval (.tmp 190)) w γ := need 44 (by decide) 190 rfl
      obtain ⟨A11, d11, n11, y11⟩ := says_slice k11
      rw [y11] at k11
      have K11 := Lib.hid k11
      clear k11
      have k12 : (Kind.closed (putNum (oth - 1) 1 (wrFull ((oth : Int) + 1) ((own : Int) + 1)))).says (a.eval (.tmp 195)) w γ := need 49 (by decide) 195 rfl
      obtain ⟨A12, d12, n12, y12⟩ := says_slice k12
      rw [y12] at k12
      have K12 := Lib.hid k12
      clear k12
      have k13 : (Kind.closed (putNum (oth - 50) 1 (wrFull ((oth : Int) + 1) ((own : Int) + 1)))).says (a.eval (.tmp 200)) w γ := need 54 (by decide) 200 rfl
      obtain ⟨A13, d13, n13, y13⟩ := says_slice k13
      rw [y13] at k13
      have K13 := Lib.hid k13
      clear k13
      have HALL := Lib.hid (show All2 (fun u p => (Kind.closed p).says u w γ) [.slice none 0 0, .slice A1 n1 d1, .slice A2 n2 d2, .slice A3 n3 d3, .slice fA c9 fc, .slice fA 9 fc, .slice oA c7 oc, .slice A7 n7 d7, .slice A8 n8 d8, .slice A9 n9 d9, .slice A10 n10 d10, .slice A11 n11 d11, .slice A12 n12 d12, .slice A13 n13 d13] (wrLs own oth bl FL c9 c7) from ⟨closed_nil _ _, K1.out, K2.out, K3.out, closed_of H4.out.1 (.inl rfl) (H4.out.2.base hb), closed_of H5.out.1 (.inl rfl) (H5.out.2.base hb), closed_of H6.out.1 (.inr (.inl rfl)) (H6.out.2.base hb), K7.out, K8.out, K9.out, K10.out, K11.out, K12.out, K13.out, trivial⟩)
      exact ob_many rfl el_sl hb (by simp only [List.map_toArray, List.map_cons, List.map_nil, y1, y2, y3, y4, y5, y6, y7, y8, y9, y10, y11, y12, y13]; rfl) rfl rfl (by omega) (by omega) HALL.out rfl
    refine ⟨fun a w γ hb far need => ?_, ?_⟩
    · clear far
      have y : (Kind.many (wrLs own oth bl FL c9 c7)).says (a.eval (.tmp 201)) w γ := need 55 (by decide) 201 rfl
      obtain ⟨v, hv⟩ : ∃ v, a.eval (.tmp 201) = v := ⟨_, rfl⟩
      rw [hv] at y
      have Y := Lib.hid y; clear y
      have hv2 := ev hv
      clear hv
      refine ob_K fun K hK => ?_
      go_simp
      exact hK.out _ _ (ObPost.same_ hb Y.out)
    trivial
  case rest =>
    clear hs1 hs2 hs3 hwc ht9 ht7 hwo1 hwo2 hwp1 hwp50 hfc9 hc9 hc7 hFL H4 H5 H6 HF HB HF9 HO9 HB9 HE9 ST9
    intro vs w10 o10 hb10 hv10
    obtain ⟨A10, c10, rows, hrv, hrow, hrel⟩ : (Kind.many (wrLs own oth bl FL c9 c7)).says (vs 56) w10 o10 := hv10 56 (by decide) (by decide)
    have HR10 := Lib.hid (show Row w10 o10 70 27 1 A10 14 c10 rows from hrow); have HRE := Lib.hid hrel
    have HE10 := Lib.hid (HEW.out.step hb10.1 (by simp)); have HO10 := Lib.hid (HO.out.step hb10.1 (by simp))
    have hz10 : ∀ k, k < w.heap.size → o10 k = 0 := fun k hk => (hb10.1.own k (Nat.lt_of_lt_of_le hk STW.out.size)).trans (small_zero (STW.out.own k hk))
    have hbw : Below w.heap.size w w10 := (STW.out.old (by simp)).trans (hb10.below.mono STW.out.size)
    have HZ := Lib.hid hz10; have HBW := Lib.hid hbw
    simp only [puts, wrDs, if_true, Act.put, List.setIfInBounds_toArray, List.set_cons_zero, List.set_cons_succ]
    rw [hrv]
    rw [show (wrLs own oth bl FL c9 c7).length = 14 from rfl]
    clear hv10 hrow hrel hb10 hrv hz10 hbw HO HEW STW hW0
    generalize vs = vs at *
    have st11 := (Step.refl [] w10 o10).alloc (.cells #[] 5) 71
    have hr11 := Row.made (w := w10) o10 71 5 1 #[] 0 rfl (by decide) 0 (Nat.le_refl _)
    have HR11 := Lib.hid hr11; have HO11 := Lib.hid (HO10.out.step st11 (by simp))
    have HE11 := Lib.hid (HE10.out.step st11 (by simp)); have HR10' := Lib.hid (HR10.out.step st11 (by simp)); have ST11 := Lib.hid st11
    clear st11 hr11 HO10 HE10 HR10
    go_upto_region 14 with (at_builtin; refine wpList_append_row _ rfl (.tmp 202) (.tmp 203) _ rfl el_byte _ 71 _ 0 0 _ rfl HR11.out _ 13 _ 7 _ (byts (wrOnly ((own : Int) + 1) 0)) rfl HO11.out (one_byts _) (by omega) (by simp only [maxLen]; omega) ?_; intro eA ec w12 hr12 hg12 hat12; have ST12 := Lib.hid (Step.append HR11.out hg12 71); have HR12 := Lib.hid hr12; clear hr12 hg12 hat12)
    have HE12 := Lib.hid (HE11.out.step ST12.out (by simp)); have HR70 := Lib.hid (HR10'.out.step ST12.out (by simp)); have STQ := Lib.hid (ST11.out.nil.trans ST12.out)
    clear ST11 ST12 HR11 HO11 HE11 HR10'
    generalize ext (ext o10 w10.heap.size 71) _ 71 = o12 at HE12 HR70 STQ HR12
    have HX12 : Hid (Row w12 o12 71 5 1 eA 7 ec (byts (wrOnly ((own : Int) + 1) 0))) := Lib.hid (by have := HR12.out; simpa using this)
    clear HR12
    obtain ⟨gE, curE, hA, -, hbE, -, -, -, -⟩ := HX12.out.form (by omega)
    subst hA
    obtain ⟨cx, fx⟩ := HX12.out.cellAt (k := 6) (u := .int .u8 0) (by rw [byts, List.getElem?_map, wrOnly_six]; rfl)
    have hgE := hbE.lt
    have h02 : bits .or .u8 0 2 = 2 := by decide
    clear hbE
    go_upto_region 15 with fail
    have hrE := HX12.out.set_ (k := 6) (by omega) (.int .u8 2)
    have eE : (byts (wrOnly ((own : Int) + 1) 0)).set 6 (.int .u8 2) = byts (wrOnly ((own : Int) + 1) 2) := by
      rw [← wrOnly_set]; simp only [byts, List.map_set]; rfl
    rw [eE] at hrE
    have hoE : o12 gE = 71 := HX12.out.2 _ rfl
    have st13 : Step [71] w12 o12 (w12.setCell ⟨gE, 6, none⟩ (.int .u8 2)) o12 := (Step.refl _ _ _).setCell (.inr (by show o12 gE ∈ [71]; rw [hoE]; simp)) _
    have HE13 := Lib.hid (HE12.out.step st13 (by simp)); have HR13 := Lib.hid (HR70.out.step st13 (by simp)); have HX13 := Lib.hid hrE; have STR := Lib.hid (STQ.out.trans st13)
    clear HE12 HR70 HX12 STQ cx fx hgE eE hrE hoE st13 h02
    generalize w12.setCell ⟨gE, 6, none⟩ (.int .u8 2) = w13 at HE13 HR13 HX13 STR ⊢
    have st14 := (Step.refl [] w13 o12).alloc (.cells #[.slice (some ⟨gE, 0, none⟩) 7 ec] 27) 72
    have HE14 := Lib.hid (HE13.out.step st14 (by simp)); have HR14 := Lib.hid (HR13.out.step st14 (by simp)); have HX14 := Lib.hid (HX13.out.step st14 (by simp)); have STS := Lib.hid (STR.out.trans st14.nil)
    clear st14 HE13 HR13 HX13 STR
    go_wp2_with (at_builtin; refine wpList_append_row _ rfl (.tmp 210) (.tmp 212) _ rfl el_sl _ 70 A10 14 c10 rows rfl HR14.out _ _ _ 1 1 _ rfl (Sl.fresh w13 27 1 1 [.slice (some ⟨gE, 0, none⟩) 7 ec] rfl (by decide)) (by simp [Value.oneCell']) (by omega) (by simp only [maxLen]; omega) ?_; intro A15 c15 w15 hr15 hg15 hat15; have ST15 := Lib.hid (Step.append HR14.out hg15 70); have HR15 := Lib.hid hr15; clear hr15 hg15 hat15)
    have HE15 := Lib.hid (HE14.out.step ST15.out (by simp)); have HX15 := Lib.hid (HX14.out.step ST15.out (by simp)); have STT := Lib.hid ((STS.out.mono (ts' := [70, 71]) (by simp)).trans (ST15.out.mono (by simp)))
    clear HE14 HX14 STS ST15 HR14
    generalize ext (ext o12 w13.heap.size 72) _ 70 = o15 at HE15 HX15 STT HR15
    -- the elements
    have hall : ∀ (k : Nat) (p : List UInt8), (badL own oth bl cut FL)[k]? = some p → ∃ A' c' t, (rows ++ [.slice (some ⟨gE, 0, none⟩) 7 ec])[k]? = some (.slice A' p.length c') ∧ (t ≠ 2) ∧ Sl w15 o15 t 1 A' p.length c' (byts p) := by
      intro k p hp
      rw [← wr_all own oth ho0 hp0 bl FL cut, ← HC.out.1, ← HC.out.2] at hp
      have hrl : rows.length = 14 := by
        have := HR15.out.len
        simp at this; omega
      rcases Nat.lt_or_ge k 14 with hk | hk
      · rw [List.getElem?_append_left (show k < (wrLs own oth bl FL c9 c7).length from hk)] at hp
        obtain ⟨A', c', t, h1, h2, h3⟩ := HRE.out k p hp
        refine ⟨A', c', t, by rw [List.getElem?_append_left (by omega)]; exact h1, by unfold ShutTag at h2; omega, h3.step STT.out (by unfold ShutTag at h2; simp; omega)⟩
      · rw [List.getElem?_append_right (show (wrLs own oth bl FL c9 c7).length ≤ k from hk)] at hp
        have hk0 : k - (wrLs own oth bl FL c9 c7).length = 0 := by
          rcases Nat.eq_zero_or_pos (k - (wrLs own oth bl FL c9 c7).length) with h | h
          · exact h
          · rw [List.getElem?_eq_none (by simp; omega)] at hp; cases hp
        have hk14 : k = 14 := by
          have : (wrLs own oth bl FL c9 c7).length = 14 := rfl
          omega
        rw [hk0] at hp
        simp only [List.getElem?_cons_zero, Option.some.injEq] at hp
        subst hp
        rw [wrOnly_len]
        exact ⟨some ⟨gE, 0, none⟩, ec, 71, by rw [List.getElem?_append_right (by omega), hk14, hrl]; rfl, by decide, HX15.out.sl⟩
    have HALL := Lib.hid hall
    have HR15' : Hid (Row w15 o15 70 27 1 A15 15 c15 (rows ++ [.slice (some ⟨gE, 0, none⟩) 7 ec])) := HR15
    have hbll : bl.length = n := HBL.out
    have hbad15 : (badL own oth bl cut FL).length = 15 := rfl
    clear hall HRE HX15 HR15
    go_loopw [215] (fun i wr => ∃ (k : Nat) (o' : Own), k ≤ 15 ∧ i = .int .i64 k ∧ Hid (Step [2] w15 o15 wr o' ∧ EndAt wr o' 2 e0 (wrS own oth))) (fun i _ => 15 - (intOf i).toNat)
    case atStart => exact ⟨0, o15, by omega, rfl, Lib.hid ⟨Step.refl _ _ _, HE15.out⟩⟩
    case round => as_aux_lemma =>
      obtain ⟨k, ok, hk, rfl, HK⟩ := hrel
      by_cases hlt : k < 15
      · obtain ⟨p, hp⟩ : ∃ p, (badL own oth bl cut FL)[k]? = some p := ⟨_, List.getElem?_eq_getElem (by rw [hbad15]; exact hlt)⟩
        obtain ⟨A', c', t, hv, ht2, hs⟩ := HALL.out k p hp
        obtain ⟨g, hA, -, hc, -⟩ := (HR15'.out.step HK.out.1 (by simp)).at_ hlt
        have hcv := hc.trans hv
        subst hA
        have hpm := List.mem_of_getElem? hp
        have hpl := bad_len own oth bl cut FL p hpm
        have HRV := Lib.hid (wr_recv wr ok t e0 own oth (by omega) (by omega) (by omega) (by omega) bl cut FL hFL3 p hpm HK.out.2 ht2 A' _ c' (hs.step HK.out.1 (by simpa using ht2)) (by omega))
        obtain ⟨pl, hpl2⟩ : ∃ pl, pl = p.length := ⟨_, rfl⟩
        rw [← hpl2] at HRV hcv
        clear hc hv hs hp hpm hpl hpl2
        go_wp2_with fail
        refine HRV.out.mono ?_
        rintro e w16 ⟨BA, bc, RA, rc, o16, rfl, st16, hE16⟩
        have HST16 := Lib.hid (HK.out.1.trans st16); have HE16 := Lib.hid hE16
        clear st16 hE16 hcv HRV HK
        go_wp2_with fail
        refine (wr_received w16 o16 e0 own oth HE16.out).mono ?_
        rintro e w17 ⟨rfl, k17, hw17⟩
        have st17 : Step [] w16 o16 w17 o16 := by rw [hw17]; exact (Step.refl [] w16 o16).drewN k17
        have HE17 := Lib.hid (HE16.out.step st17 (by simp)); have HST17 := Lib.hid (HST16.out.trans st17.nil)
        clear hw17 st17 HE16 HST16
        go_wp2_with fail
        refine (Pending_ok w17 o16 2 73 e0 _ HE17.out (wrS_fit (by omega) (by omega) (by omega) (by omega))).mono ?_
        rintro e w18 ⟨A18, c18, rfl, hr18, hb18⟩
        have st18 := (Step.refl [] w17 o16).below hb18 73
        have st19 := st18.alloc (.cells #[.int .i64 own, .int .i64 ((own : Int) + 1)] 3) 74
        have hr19 := (hr18.step ((Step.refl [] w18 _).alloc (.cells #[.int .i64 own, .int .i64 ((own : Int) + 1)] 3) 74) (by simp)).sl
        have hq19 := (Row.made (w := w18) (ext o16 w17.heap.size 73) 74 3 1 #[.int .i64 own, .int .i64 ((own : Int) + 1)] 2 rfl (by decide) 2 (Nat.le_refl _)).sl
        have HE19 := Lib.hid (HE17.out.step st19 (by simp)); have HST19 := Lib.hid (HST17.out.trans st19.nil)
        have HSM := Lib.hid (SameInts_any _ _ _ 73 74 A18 _ 2 c18 2 2 [(own : Int), (own : Int) + 1] [(own : Int), (own : Int) + 1] hr19 hq19)
        clear hb18 hr18 st18 st19 hr19 hq19 HE17 HST17
        rw [show (wrS (own : Int) (oth : Int)).pend.length = 2 from rfl]
        go_wp2_with fail
        refine HSM.out.mono ?_
        rintro e w20 ⟨he20, k20, hw20⟩
        simp only [decide_true] at he20
        subst he20
        have st20 := (Step.refl [] (w18.alloc (.cells #[.int .i64 own, .int .i64 ((own : Int) + 1)] 3)) (ext (ext o16 w17.heap.size 73) w18.heap.size 74)).drewN k20
        rw [← hw20] at st20
        have HF20 := Lib.hid (And.intro (HST19.out.trans st20.nil) (HE19.out.step st20 (by simp)))
        clear hw20 st20 HST19 HE19 HSM
        go_wp2_with fail
        go_roundw
        case rel => exact ⟨k + 1, _, by omega, by go_num, HF20⟩
        case measure => simp [intOf]; omega
      · obtain rfl : k = 15 := by omega
        have HEF := Lib.hid HK.out.2
        have hfin : Below w.heap.size w wr := HBW.out.trans (((STT.out.mono (ts' := [2, 70, 71]) (by simp)).trans (HK.out.1.mono (by simp))).below_at HBW.out.size (fun k hk => by rw [HZ.out k hk]; decide))
        have HFIN := Lib.hid hfin
        have hM : (1192 : Int) + (cut : Int) = ((1192 + cut : Nat) : Int) := by omega
        obtain ⟨M, hMn⟩ : ∃ M, M = 1192 + cut := ⟨_, rfl⟩
        rw [← hMn] at hM
        have hM2 : 1191 < M := by omega
        obtain ⟨csM, hmk⟩ := make_bytesN M (by omega)
        clear hfin hMn HK HALL HR15' hbad15
        go_wp2_with fail
        refine (Make_arg wr ok 2 e0 _ HEF.out none 0).mono ?_
        rintro e w21 ⟨rfl, rfl⟩
        go_wp2_with fail
        refine (Make_long _ _ 2 e0 _ (HEF.out.step ((Step.refl [] wr ok).alloc (.cells csM 5) 75) (by simp)) _ M M hM2).mono ?_
        rintro e w22 ⟨rfl, rfl⟩
        go_wp2_with fail
        refine (awake_any _).mono ?_
        rintro e w23 ⟨rfl, hb23⟩
        go_wp2_with fail
        go_ret
        exact ⟨rfl, (HFIN.out.alloc HFIN.out.size _).trans (hb23.mono (by simpa using Nat.le_succ_of_le HFIN.out.size))⟩
end Go.Proofs.Ytpmbfgpfpdenbaa
