/-
  WALK of awake: the chapter's examples, in whatever world.
-/
import Derived.Test.YtpmbfgpfpdenbaaKitB
namespace Go.Proofs.Ytpmbfgpfpdenbaa
open Go.RowKit

set_option maxRecDepth 100000 in
set_option maxHeartbeats 8000000 in
theorem awake_any (w : World) : Calls Try.prog 14 #[] w fun e w' => e = .returned (.bool true) ∧ Below w.heap.size w w' := by
  obtain ⟨o, ho⟩ : ∃ o : Own, o = fun _ => 0 := ⟨_, rfl⟩
  have HO := Lib.hid ho; clear ho
  have kc := fun (w : World) (C : Array Value) (n c : Nat) => Lib.run_convert_bytes_const (P := Try.prog) w 27 5 C n c Try.underlying27 Try.underlying5
  go_enter Try.func14, Try.ntmps14
  go_wp2_with fail
  refine (New_ok w o 2 0 0 (by omega) (by omega) (by omega) (by omega)).mono ?_
  rintro e w1 ⟨rfl, hst, hE⟩
  have ST := Lib.hid hst; have EA := Lib.hid hE; clear hst hE
  go_wp2_with fail
  refine (New_ok w1 (ext o w.heap.size 2) 3 0 0 (by omega) (by omega) (by omega) (by omega)).mono ?_
  rintro e w2 ⟨rfl, hst, hE⟩
  have EA2 := Lib.hid (EA.out.step hst (by simp)); have EB := Lib.hid hE; have ST2 := Lib.hid (ST.out.trans hst); clear hst hE EA ST
  obtain ⟨o2, ho2⟩ : ∃ o2 : Own, o2 = ext (ext o w.heap.size 2) w1.heap.size 3 := ⟨_, rfl⟩
  rw [← ho2] at EA2 EB ST2; clear ho2
  have EB2 := EB
  clear EB
  have EA : Hid (EndAt w2 o2 2 w.heap.size ⟨0, 0, 0, -1, 0, []⟩) := EA2
  have EB : Hid (EndAt w2 o2 3 w1.heap.size ⟨0, 0, 0, -1, 0, []⟩) := EB2
  have ST := ST2; clear EA2 ST2 EB2

  have ST' := Lib.hid (ST.out.mono (ts' := [2, 3, 4, 9]) (by simp)); clear ST; have ST := ST'; clear ST'
  go_wp2_with fail
  refine (Make_lit w2 o2 2 10 w.heap.size ⟨0, 0, 0, -1, 0, []⟩ EA.out (fit_of (by decide +kernel)) (by decide) (by decide) (by decide) 120 120 rfl [1, 0, 0, 120] 4 (by decide +kernel) rfl _ rfl).mono ?_
  rintro e w3 ⟨FA, Fc, o3, FL, Flc, rfl, hst, hE, hr, hl⟩
  have EA' : Hid (EndAt w3 o3 2 w.heap.size ⟨0, 1, 0, -1, 0, [0]⟩) := Lib.hid hE
  have EB' := Lib.hid (EB.out.step hst (by simp))
  have ST' := Lib.hid (ST.out.trans (hst.mono (ts' := [2, 3, 4, 9]) (by simp)))
  clear EA EB ST
  have EA := EA'; have EB := EB'; have ST := ST'
  clear EA' EB' ST'
  have F := Lib.hid hr.sl; clear hst hE hr hl
  go_wp2_with fail
  refine (Recv_lit w3 o3 3 10 10 w1.heap.size ⟨0, 0, 0, -1, 0, []⟩ EB.out (fit_of (by decide +kernel)) (by decide) (by decide) FA 4 Fc [1, 0, 0, 120] F.out (by decide) ⟨0, 0, 0, 0, 0, []⟩ [120] [] 0 (by decide +kernel) 1 0 rfl rfl).mono ?_
  rintro e w4 ⟨GBA, Gbc, GRA, Grc, o4, rfl, hst, hE, hr, hl⟩
  have EB' := Lib.hid hE
  have EA' := Lib.hid (EA.out.step hst (by simp))
  have F' := Lib.hid (F.out.step hst (by simp))
  have ST' := Lib.hid (ST.out.trans (hst.mono (ts' := [2, 3, 4, 9]) (by simp)))
  clear EA EB F ST
  have EA := EA'; have EB := EB'; have F := F'; have ST := ST'
  clear EA' EB' F' ST'
  have Gb := Lib.hid hr.sl
  clear hst hE hr hl
  go_wp2_with fail
  refine (Only_lit w4 o4 3 10 w1.heap.size ⟨0, 0, 0, 0, 0, []⟩ EB.out (fit_of (by decide +kernel)) (by decide) [2, 0, 0, 0, 0, 0, 0] 7 (by decide +kernel) rfl).mono ?_
  rintro e w5 ⟨KA, Kc, o5, rfl, hst, hr⟩
  have EA' := Lib.hid (EA.out.step hst (by simp))
  have EB' := Lib.hid (EB.out.step hst (by simp))
  have F' := Lib.hid (F.out.step hst (by simp))
  have Gb' := Lib.hid (Gb.out.step hst (by simp))
  have ST' := Lib.hid (ST.out.trans (hst.mono (ts' := [2, 3, 4, 9]) (by simp)))
  clear EA EB F Gb ST
  have EA := EA'; have EB := EB'; have F := F'; have Gb := Gb'; have ST := ST'
  clear EA' EB' F' Gb' ST'
  have K := Lib.hid hr.sl; clear hst hr
  go_wp2_with fail
  refine (Recv_lit w5 o5 2 10 10 w.heap.size ⟨0, 1, 0, -1, 0, [0]⟩ EA.out (fit_of (by decide +kernel)) (by decide) (by decide) KA 7 Kc [2, 0, 0, 0, 0, 0, 0] K.out (by decide) ⟨0, 1, 0, -1, 0, []⟩ [] [(0, true)] 0 (by decide +kernel) 0 1 rfl rfl).mono ?_
  rintro e w6 ⟨HBA, Hbc, HRA, Hrc, o6, rfl, hst, hE, hr, hl⟩
  have EA' := Lib.hid hE
  have EB' := Lib.hid (EB.out.step hst (by simp))
  have F' := Lib.hid (F.out.step hst (by simp))
  have Gb' := Lib.hid (Gb.out.step hst (by simp))
  have K' := Lib.hid (K.out.step hst (by simp))
  have ST' := Lib.hid (ST.out.trans (hst.mono (ts' := [2, 3, 4, 9]) (by simp)))
  clear EA EB F Gb K ST
  have EA := EA'; have EB := EB'; have F := F'; have Gb := Gb'; have K := K'; have ST := ST'
  clear EA' EB' F' Gb' K' ST'
  have Hr := Lib.hid hl
  clear hst hE hr hl
  obtain ⟨hg1, hoff1, hRA1, -, -, hc⟩ := Hr.out.rep (by decide)
  subst hRA1
  have c0 := hc 0 (.int .i64 0) rfl
  have c1 := hc 1 (.bool true) rfl
  rw [Nat.add_zero] at c0
  have cv1 : (convert 27 9 (.slice FA 4 Fc)).run Try.prog w6 = .ok (.string ⟨#[1, 0, 0, 120]⟩) w6 := conv_bytes w6 o6 10 FA 4 Fc [1, 0, 0, 120] F.out
  have cv2 : (convert 27 9 (.slice GBA 1 Gbc)).run Try.prog w6 = .ok (.string ⟨#[120]⟩) w6 := conv_bytes w6 o6 10 GBA 1 Gbc [120] Gb.out
  have cv3 : (convert 27 9 (.slice KA 7 Kc)).run Try.prog w6 = .ok (.string ⟨#[2, 0, 0, 0, 0, 0, 0]⟩) w6 := conv_bytes w6 o6 10 KA 7 Kc [2, 0, 0, 0, 0, 0, 0] K.out
  have ne1 := rep_ne_walk w6 0 0 true true

  go_wp2_with fail
  refine (Recv_lit w6 o6 3 10 10 w1.heap.size ⟨0, 0, 0, 0, 0, []⟩ EB.out (fit_of (by decide +kernel)) (by decide) (by decide) FA 4 Fc [1, 0, 0, 120] F.out (by decide) ⟨0, 0, 0, 0, 0, []⟩ [] [] 192 (by decide +kernel) 0 0 rfl rfl).mono ?_
  rintro e w7 ⟨IBA, Ibc, IRA, Irc, o7, rfl, hst, hE, hr, hl⟩
  have EB' := Lib.hid hE
  have EA' := Lib.hid (EA.out.step hst (by simp))
  have F' := Lib.hid (F.out.step hst (by simp))
  have Gb' := Lib.hid (Gb.out.step hst (by simp))
  have K' := Lib.hid (K.out.step hst (by simp))
  have Hr' := Lib.hid (Hr.out.step hst (by simp))
  have ST' := Lib.hid (ST.out.trans (hst.mono (ts' := [2, 3, 4, 9]) (by simp)))
  clear EA EB F Gb K Hr ST
  have EA := EA'; have EB := EB'; have F := F'; have Gb := Gb'; have K := K'; have Hr := Hr'; have ST := ST'
  clear EA' EB' F' Gb' K' Hr' ST'
  clear hst hE hr hl
  go_wp2_with fail
  obtain ⟨gl, hgl⟩ : ∃ gl, gl = w7.heap.size := ⟨_, rfl⟩
  have BL := Lib.hid (Blk.new w7 96 #[Value.slice none 0 0, Value.slice none 0 0, Value.slice none 0 0, Value.slice none 0 0])
  have hst := (Step.refl [] w7 o7).alloc (.cells #[Value.slice none 0 0, Value.slice none 0 0, Value.slice none 0 0, Value.slice none 0 0] 96) 9
  have BO : Hid (ext o7 w7.heap.size 9 gl = 9) := Lib.hid (by rw [hgl]; exact ext_ge (Nat.le_refl _))
  have EA' := Lib.hid (EA.out.step hst (by simp))
  have EB' := Lib.hid (EB.out.step hst (by simp))
  have F' := Lib.hid (F.out.step hst (by simp))
  have Gb' := Lib.hid (Gb.out.step hst (by simp))
  have K' := Lib.hid (K.out.step hst (by simp))
  have Hr' := Lib.hid (Hr.out.step hst (by simp))
  have ST' := Lib.hid (ST.out.trans (hst.mono (ts' := [2, 3, 4, 9]) (by simp)))
  clear hst
  clear EA EB F Gb K Hr ST
  have EA := EA'; have EB := EB'; have F := F'; have Gb := Gb'; have K := K'; have Hr := Hr'; have ST := ST'
  clear EA' EB' F' Gb' K' Hr' ST'
  rw [← hgl] at BL ⊢
  obtain ⟨w8, hw⟩ : ∃ W, W = w7.alloc (.cells #[Value.slice none 0 0, Value.slice none 0 0, Value.slice none 0 0, Value.slice none 0 0] 96) := ⟨_, rfl⟩
  obtain ⟨o8, ho⟩ : ∃ o', o' = ext o7 w7.heap.size 9 := ⟨_, rfl⟩
  rw [← hw, ← ho] at EA EB F Gb K Hr ST
  rw [← hw] at BL ⊢; rw [← ho] at BO; clear ho hw hgl
  refine wp_loop_rounds 4 ?_
  rw [rounds_succ]
  go_wp2_with fail
  refine (Make_lit w8 o8 2 10 w.heap.size ⟨0, 1, 0, -1, 0, []⟩ EA.out (fit_of (by decide +kernel)) (by decide) (by decide) (by decide) 121 121 rfl [1, 0, 1, 121] 4 (by decide +kernel) rfl _ rfl).mono ?_
  rintro e w9 ⟨M1A, M1c, o9, M1L, M1lc, rfl, hst, hE, hr, hl⟩
  have EA' : Hid (EndAt w9 o9 2 w.heap.size ⟨0, 2, 0, -1, 0, [1]⟩) := Lib.hid hE
  have EB' := Lib.hid (EB.out.step hst (by simp))
  have F' := Lib.hid (F.out.step hst (by simp))
  have Gb' := Lib.hid (Gb.out.step hst (by simp))
  have K' := Lib.hid (K.out.step hst (by simp))
  have Hr' := Lib.hid (Hr.out.step hst (by simp))
  have BL' := Lib.hid (BL.out.step hst (by rw [BO.out]; simp))
  have BO' := Lib.hid ((hst.own gl BL.out.lt).trans BO.out)
  have ST' := Lib.hid (ST.out.trans (hst.mono (ts' := [2, 3, 4, 9]) (by simp)))
  clear EA EB F Gb K Hr ST BL BO
  have EA := EA'; have EB := EB'; have F := F'; have Gb := Gb'; have K := K'; have Hr := Hr'; have ST := ST'; have BL := BL'; have BO := BO'
  clear EA' EB' F' Gb' K' Hr' ST' BL' BO'
  have M1 := Lib.hid hr.sl; clear hst hE hr hl
  have cI := BL.out.cell 1; have fI := BL.out.frozen 1; have gI := BL.out.lt
  simp only [List.getElem?_toArray, List.getElem?_cons_zero, List.getElem?_cons_succ] at cI
  go_wp2_with fail
  clear cI fI gI
  have hst : Step [9] w9 o9 (w9.setCell ⟨gl, 1, none⟩ (.slice M1A 4 M1c)) o9 := (Step.refl [9] w9 o9).setCell (.inr (by rw [show (⟨gl, 1, none⟩ : Addr).block = gl from rfl, BO.out]; simp)) _
  have BL2 : Hid (Blk (w9.setCell ⟨gl, 1, none⟩ (.slice M1A 4 M1c)) gl 96 #[Value.slice none 0 0, Value.slice M1A 4 M1c, Value.slice none 0 0, Value.slice none 0 0]) := Lib.hid (BL.out.set_ 1 _)
  have EA' := Lib.hid (EA.out.step hst (by simp))
  have EB' := Lib.hid (EB.out.step hst (by simp))
  have F' := Lib.hid (F.out.step hst (by simp))
  have Gb' := Lib.hid (Gb.out.step hst (by simp))
  have K' := Lib.hid (K.out.step hst (by simp))
  have Hr' := Lib.hid (Hr.out.step hst (by simp))
  have M1' := Lib.hid (M1.out.step hst (by simp))
  have ST' := Lib.hid (ST.out.trans (hst.mono (ts' := [2, 3, 4, 9]) (by simp)))
  clear hst BL; have BL := BL2; clear BL2
  clear EA EB F Gb K Hr M1 ST
  have EA := EA'; have EB := EB'; have F := F'; have Gb := Gb'; have K := K'; have Hr := Hr'; have M1 := M1'; have ST := ST'
  clear EA' EB' F' Gb' K' Hr' M1' ST'
  obtain ⟨w10, hw⟩ : ∃ W, W = w9.setCell ⟨gl, 1, none⟩ (.slice M1A 4 M1c) := ⟨_, rfl⟩
  rw [← hw] at EA EB F Gb K Hr M1 ST BL ⊢
  clear hw; obtain ⟨o10, ho⟩ : ∃ o', o' = o9 := ⟨_, rfl⟩; rw [← ho] at EA EB F Gb K Hr M1 ST BO; clear ho
  rw [rounds_succ]
  go_wp2_with fail
  refine (Make_lit w10 o10 2 10 w.heap.size ⟨0, 2, 0, -1, 0, [1]⟩ EA.out (fit_of (by decide +kernel)) (by decide) (by decide) (by decide) 121 121 rfl [1, 0, 2, 121] 4 (by decide +kernel) rfl _ rfl).mono ?_
  rintro e w11 ⟨M2A, M2c, o11, M2L, M2lc, rfl, hst, hE, hr, hl⟩
  have EA' : Hid (EndAt w11 o11 2 w.heap.size ⟨0, 3, 0, -1, 0, [1, 2]⟩) := Lib.hid hE
  have EB' := Lib.hid (EB.out.step hst (by simp))
  have F' := Lib.hid (F.out.step hst (by simp))
  have Gb' := Lib.hid (Gb.out.step hst (by simp))
  have K' := Lib.hid (K.out.step hst (by simp))
  have Hr' := Lib.hid (Hr.out.step hst (by simp))
  have M1' := Lib.hid (M1.out.step hst (by simp))
  have BL' := Lib.hid (BL.out.step hst (by rw [BO.out]; simp))
  have BO' := Lib.hid ((hst.own gl BL.out.lt).trans BO.out)
  have ST' := Lib.hid (ST.out.trans (hst.mono (ts' := [2, 3, 4, 9]) (by simp)))
  clear EA EB F Gb K Hr M1 ST BL BO
  have EA := EA'; have EB := EB'; have F := F'; have Gb := Gb'; have K := K'; have Hr := Hr'; have M1 := M1'; have ST := ST'; have BL := BL'; have BO := BO'
  clear EA' EB' F' Gb' K' Hr' M1' ST' BL' BO'
  have M2 := Lib.hid hr.sl; clear hst hE hr hl
  have cI := BL.out.cell 2; have fI := BL.out.frozen 2; have gI := BL.out.lt
  simp only [List.getElem?_toArray, List.getElem?_cons_zero, List.getElem?_cons_succ] at cI
  go_wp2_with fail
  clear cI fI gI
  have hst : Step [9] w11 o11 (w11.setCell ⟨gl, 2, none⟩ (.slice M2A 4 M2c)) o11 := (Step.refl [9] w11 o11).setCell (.inr (by rw [show (⟨gl, 2, none⟩ : Addr).block = gl from rfl, BO.out]; simp)) _
  have BL2 : Hid (Blk (w11.setCell ⟨gl, 2, none⟩ (.slice M2A 4 M2c)) gl 96 #[Value.slice none 0 0, Value.slice M1A 4 M1c, Value.slice M2A 4 M2c, Value.slice none 0 0]) := Lib.hid (BL.out.set_ 2 _)
  have EA' := Lib.hid (EA.out.step hst (by simp))
  have EB' := Lib.hid (EB.out.step hst (by simp))
  have F' := Lib.hid (F.out.step hst (by simp))
  have Gb' := Lib.hid (Gb.out.step hst (by simp))
  have K' := Lib.hid (K.out.step hst (by simp))
  have Hr' := Lib.hid (Hr.out.step hst (by simp))
  have M1' := Lib.hid (M1.out.step hst (by simp))
  have M2' := Lib.hid (M2.out.step hst (by simp))
  have ST' := Lib.hid (ST.out.trans (hst.mono (ts' := [2, 3, 4, 9]) (by simp)))
  clear hst BL; have BL := BL2; clear BL2
  clear EA EB F Gb K Hr M1 M2 ST
  have EA := EA'; have EB := EB'; have F := F'; have Gb := Gb'; have K := K'; have Hr := Hr'; have M1 := M1'; have M2 := M2'; have ST := ST'
  clear EA' EB' F' Gb' K' Hr' M1' M2' ST'
  obtain ⟨w12, hw⟩ : ∃ W, W = w11.setCell ⟨gl, 2, none⟩ (.slice M2A 4 M2c) := ⟨_, rfl⟩
  rw [← hw] at EA EB F Gb K Hr M1 M2 ST BL ⊢
  clear hw; obtain ⟨o12, ho⟩ : ∃ o', o' = o11 := ⟨_, rfl⟩; rw [← ho] at EA EB F Gb K Hr M1 M2 ST BO; clear ho
  rw [rounds_succ]
  go_wp2_with fail
  refine (Make_lit w12 o12 2 10 w.heap.size ⟨0, 3, 0, -1, 0, [1, 2]⟩ EA.out (fit_of (by decide +kernel)) (by decide) (by decide) (by decide) 121 121 rfl [1, 0, 3, 121] 4 (by decide +kernel) rfl _ rfl).mono ?_
  rintro e w13 ⟨M3A, M3c, o13, M3L, M3lc, rfl, hst, hE, hr, hl⟩
  have EA' : Hid (EndAt w13 o13 2 w.heap.size ⟨0, 4, 0, -1, 0, [1, 2, 3]⟩) := Lib.hid hE
  have EB' := Lib.hid (EB.out.step hst (by simp))
  have F' := Lib.hid (F.out.step hst (by simp))
  have Gb' := Lib.hid (Gb.out.step hst (by simp))
  have K' := Lib.hid (K.out.step hst (by simp))
  have Hr' := Lib.hid (Hr.out.step hst (by simp))
  have M1' := Lib.hid (M1.out.step hst (by simp))
  have M2' := Lib.hid (M2.out.step hst (by simp))
  have BL' := Lib.hid (BL.out.step hst (by rw [BO.out]; simp))
  have BO' := Lib.hid ((hst.own gl BL.out.lt).trans BO.out)
  have ST' := Lib.hid (ST.out.trans (hst.mono (ts' := [2, 3, 4, 9]) (by simp)))
  clear EA EB F Gb K Hr M1 M2 ST BL BO
  have EA := EA'; have EB := EB'; have F := F'; have Gb := Gb'; have K := K'; have Hr := Hr'; have M1 := M1'; have M2 := M2'; have ST := ST'; have BL := BL'; have BO := BO'
  clear EA' EB' F' Gb' K' Hr' M1' M2' ST' BL' BO'
  have M3 := Lib.hid hr.sl; clear hst hE hr hl
  have cI := BL.out.cell 3; have fI := BL.out.frozen 3; have gI := BL.out.lt
  simp only [List.getElem?_toArray, List.getElem?_cons_zero, List.getElem?_cons_succ] at cI
  go_wp2_with fail
  clear cI fI gI
  have hst : Step [9] w13 o13 (w13.setCell ⟨gl, 3, none⟩ (.slice M3A 4 M3c)) o13 := (Step.refl [9] w13 o13).setCell (.inr (by rw [show (⟨gl, 3, none⟩ : Addr).block = gl from rfl, BO.out]; simp)) _
  have BL2 : Hid (Blk (w13.setCell ⟨gl, 3, none⟩ (.slice M3A 4 M3c)) gl 96 #[Value.slice none 0 0, Value.slice M1A 4 M1c, Value.slice M2A 4 M2c, Value.slice M3A 4 M3c]) := Lib.hid (BL.out.set_ 3 _)
  have EA' := Lib.hid (EA.out.step hst (by simp))
  have EB' := Lib.hid (EB.out.step hst (by simp))
  have F' := Lib.hid (F.out.step hst (by simp))
  have Gb' := Lib.hid (Gb.out.step hst (by simp))
  have K' := Lib.hid (K.out.step hst (by simp))
  have Hr' := Lib.hid (Hr.out.step hst (by simp))
  have M1' := Lib.hid (M1.out.step hst (by simp))
  have M2' := Lib.hid (M2.out.step hst (by simp))
  have M3' := Lib.hid (M3.out.step hst (by simp))
  have ST' := Lib.hid (ST.out.trans (hst.mono (ts' := [2, 3, 4, 9]) (by simp)))
  clear hst BL; have BL := BL2; clear BL2
  clear EA EB F Gb K Hr M1 M2 M3 ST
  have EA := EA'; have EB := EB'; have F := F'; have Gb := Gb'; have K := K'; have Hr := Hr'; have M1 := M1'; have M2 := M2'; have M3 := M3'; have ST := ST'
  clear EA' EB' F' Gb' K' Hr' M1' M2' M3' ST'
  obtain ⟨w14, hw⟩ : ∃ W, W = w13.setCell ⟨gl, 3, none⟩ (.slice M3A 4 M3c) := ⟨_, rfl⟩
  rw [← hw] at EA EB F Gb K Hr M1 M2 M3 ST BL ⊢
  clear hw; obtain ⟨o14, ho⟩ : ∃ o', o' = o13 := ⟨_, rfl⟩; rw [← ho] at EA EB F Gb K Hr M1 M2 M3 ST BO; clear ho
  rw [rounds_succ]
  have c1 := BL.out.cell 1; have c3 := BL.out.cell 3; have gI := BL.out.lt
  simp only [List.getElem?_toArray, List.getElem?_cons_zero, List.getElem?_cons_succ] at c1 c3
  go_wp2_with fail
  refine (Recv_lit w14 o14 3 10 10 w1.heap.size ⟨0, 0, 0, 0, 0, []⟩ EB.out (fit_of (by decide +kernel)) (by decide) (by decide) M3A 4 M3c [1, 0, 3, 121] M3.out (by decide) ⟨0, 0, 0, 3, 4, []⟩ [121] [] 0 (by decide +kernel) 1 0 rfl rfl).mono ?_
  rintro e w15 ⟨NBA, Nbc, NRA, Nrc, o15, rfl, hst, hE, hr, hl⟩
  have EB' := Lib.hid hE
  have EA' := Lib.hid (EA.out.step hst (by simp))
  have F' := Lib.hid (F.out.step hst (by simp))
  have Gb' := Lib.hid (Gb.out.step hst (by simp))
  have K' := Lib.hid (K.out.step hst (by simp))
  have Hr' := Lib.hid (Hr.out.step hst (by simp))
  have M1' := Lib.hid (M1.out.step hst (by simp))
  have M2' := Lib.hid (M2.out.step hst (by simp))
  have M3' := Lib.hid (M3.out.step hst (by simp))
  have BL' := Lib.hid (BL.out.step hst (by rw [BO.out]; simp))
  have BO' := Lib.hid ((hst.own gl BL.out.lt).trans BO.out)
  have ST' := Lib.hid (ST.out.trans (hst.mono (ts' := [2, 3, 4, 9]) (by simp)))
  clear EA EB F Gb K Hr M1 M2 M3 ST BL BO
  have EA := EA'; have EB := EB'; have F := F'; have Gb := Gb'; have K := K'; have Hr := Hr'; have M1 := M1'; have M2 := M2'; have M3 := M3'; have ST := ST'; have BL := BL'; have BO := BO'
  clear EA' EB' F' Gb' K' Hr' M1' M2' M3' ST' BL' BO'
  have Nb := Lib.hid hr.sl
  clear hst hE hr hl
  have c1 := BL.out.cell 1; have gI := BL.out.lt
  simp only [List.getElem?_toArray, List.getElem?_cons_zero, List.getElem?_cons_succ] at c1
  go_wp2_with fail
  refine (Recv_lit w15 o15 3 10 10 w1.heap.size ⟨0, 0, 0, 3, 4, []⟩ EB.out (fit_of (by decide +kernel)) (by decide) (by decide) M1A 4 M1c [1, 0, 1, 121] M1.out (by decide) ⟨0, 0, 0, 3, 6, []⟩ [121] [] 0 (by decide +kernel) 1 0 rfl rfl).mono ?_
  rintro e w16 ⟨PBA, Pbc, PRA, Prc, o16, rfl, hst, hE, hr, hl⟩
  have EB' := Lib.hid hE
  have EA' := Lib.hid (EA.out.step hst (by simp))
  have F' := Lib.hid (F.out.step hst (by simp))
  have Gb' := Lib.hid (Gb.out.step hst (by simp))
  have K' := Lib.hid (K.out.step hst (by simp))
  have Hr' := Lib.hid (Hr.out.step hst (by simp))
  have M1' := Lib.hid (M1.out.step hst (by simp))
  have M2' := Lib.hid (M2.out.step hst (by simp))
  have M3' := Lib.hid (M3.out.step hst (by simp))
  have Nb' := Lib.hid (Nb.out.step hst (by simp))
  have BL' := Lib.hid (BL.out.step hst (by rw [BO.out]; simp))
  have BO' := Lib.hid ((hst.own gl BL.out.lt).trans BO.out)
  have ST' := Lib.hid (ST.out.trans (hst.mono (ts' := [2, 3, 4, 9]) (by simp)))
  clear EA EB F Gb K Hr M1 M2 M3 Nb ST BL BO
  have EA := EA'; have EB := EB'; have F := F'; have Gb := Gb'; have K := K'; have Hr := Hr'; have M1 := M1'; have M2 := M2'; have M3 := M3'; have Nb := Nb'; have ST := ST'; have BL := BL'; have BO := BO'
  clear EA' EB' F' Gb' K' Hr' M1' M2' M3' Nb' ST' BL' BO'
  have Pb := Lib.hid hr.sl
  clear hst hE hr hl
  go_wp2_with fail
  refine (Only_lit w16 o16 3 10 w1.heap.size ⟨0, 0, 0, 3, 6, []⟩ EB.out (fit_of (by decide +kernel)) (by decide) [2, 0, 3, 0, 0, 0, 6] 7 (by decide +kernel) rfl).mono ?_
  rintro e w17 ⟨QA, Qc, o17, rfl, hst, hr⟩
  have EA' := Lib.hid (EA.out.step hst (by simp))
  have EB' := Lib.hid (EB.out.step hst (by simp))
  have F' := Lib.hid (F.out.step hst (by simp))
  have Gb' := Lib.hid (Gb.out.step hst (by simp))
  have K' := Lib.hid (K.out.step hst (by simp))
  have Hr' := Lib.hid (Hr.out.step hst (by simp))
  have M1' := Lib.hid (M1.out.step hst (by simp))
  have M2' := Lib.hid (M2.out.step hst (by simp))
  have M3' := Lib.hid (M3.out.step hst (by simp))
  have Nb' := Lib.hid (Nb.out.step hst (by simp))
  have Pb' := Lib.hid (Pb.out.step hst (by simp))
  have BL' := Lib.hid (BL.out.step hst (by rw [BO.out]; simp))
  have BO' := Lib.hid ((hst.own gl BL.out.lt).trans BO.out)
  have ST' := Lib.hid (ST.out.trans (hst.mono (ts' := [2, 3, 4, 9]) (by simp)))
  clear EA EB F Gb K Hr M1 M2 M3 Nb Pb ST BL BO
  have EA := EA'; have EB := EB'; have F := F'; have Gb := Gb'; have K := K'; have Hr := Hr'; have M1 := M1'; have M2 := M2'; have M3 := M3'; have Nb := Nb'; have Pb := Pb'; have ST := ST'; have BL := BL'; have BO := BO'
  clear EA' EB' F' Gb' K' Hr' M1' M2' M3' Nb' Pb' ST' BL' BO'
  have Q := Lib.hid hr.sl; clear hst hr
  go_wp2_with fail
  refine (Recv_lit w17 o17 2 10 10 w.heap.size ⟨0, 4, 0, -1, 0, [1, 2, 3]⟩ EA.out (fit_of (by decide +kernel)) (by decide) (by decide) QA 7 Qc [2, 0, 3, 0, 0, 0, 6] Q.out (by decide) ⟨0, 4, 0, -1, 0, [2]⟩ [] [(1, true), (3, true)] 0 (by decide +kernel) 0 2 rfl rfl).mono ?_
  rintro e w18 ⟨RBA, Rbc, RRA, Rrc, o18, rfl, hst, hE, hr, hl⟩
  have EA' := Lib.hid hE
  have EB' := Lib.hid (EB.out.step hst (by simp))
  have F' := Lib.hid (F.out.step hst (by simp))
  have Gb' := Lib.hid (Gb.out.step hst (by simp))
  have K' := Lib.hid (K.out.step hst (by simp))
  have Hr' := Lib.hid (Hr.out.step hst (by simp))
  have M1' := Lib.hid (M1.out.step hst (by simp))
  have M2' := Lib.hid (M2.out.step hst (by simp))
  have M3' := Lib.hid (M3.out.step hst (by simp))
  have Nb' := Lib.hid (Nb.out.step hst (by simp))
  have Pb' := Lib.hid (Pb.out.step hst (by simp))
  have Q' := Lib.hid (Q.out.step hst (by simp))
  have BL' := Lib.hid (BL.out.step hst (by rw [BO.out]; simp))
  have BO' := Lib.hid ((hst.own gl BL.out.lt).trans BO.out)
  have ST' := Lib.hid (ST.out.trans (hst.mono (ts' := [2, 3, 4, 9]) (by simp)))
  clear EA EB F Gb K Hr M1 M2 M3 Nb Pb Q ST BL BO
  have EA := EA'; have EB := EB'; have F := F'; have Gb := Gb'; have K := K'; have Hr := Hr'; have M1 := M1'; have M2 := M2'; have M3 := M3'; have Nb := Nb'; have Pb := Pb'; have Q := Q'; have ST := ST'; have BL := BL'; have BO := BO'
  clear EA' EB' F' Gb' K' Hr' M1' M2' M3' Nb' Pb' Q' ST' BL' BO'
  have Rr := Lib.hid hl
  clear hst hE hr hl
  obtain ⟨hg2, hoff2, hRA2, -, -, hc⟩ := Rr.out.rep (by decide)
  subst hRA2
  have c0 := hc 0 (.int .i64 1) rfl
  have c1 := hc 1 (.bool true) rfl
  have c2 := hc 2 (.int .i64 3) rfl
  have c3 := hc 3 (.bool true) rfl
  rw [Nat.add_zero] at c0
  clear hc
  have cv1 : (convert 27 9 (.slice QA 7 Qc)).run Try.prog w18 = .ok (.string ⟨#[2, 0, 3, 0, 0, 0, 6]⟩) w18 := conv_bytes w18 o18 10 QA 7 Qc [2, 0, 3, 0, 0, 0, 6] Q.out
  have ne1 := rep_ne_walk w18 1 1 true true
  have ne2 := rep_ne_walk w18 3 3 true true
  go_wp2_with fail
  clear c0 c1 c2 c3 cv1 ne1 ne2
  refine (Pending_ok w18 o18 2 10 w.heap.size ⟨0, 4, 0, -1, 0, [2]⟩ EA.out (fit_of (by decide +kernel))).mono ?_
  rintro e w19 ⟨SA, Sc, rfl, hr, hb⟩
  obtain ⟨o19, ho⟩ : ∃ o', o' = ext o18 w18.heap.size 10 := ⟨_, rfl⟩
  have hst := (Step.refl [] w18 o18).below hb 10
  rw [← ho] at hst hr
  clear ho hb
  have EA' := Lib.hid (EA.out.step hst (by simp))
  have EB' := Lib.hid (EB.out.step hst (by simp))
  have F' := Lib.hid (F.out.step hst (by simp))
  have Gb' := Lib.hid (Gb.out.step hst (by simp))
  have K' := Lib.hid (K.out.step hst (by simp))
  have Hr' := Lib.hid (Hr.out.step hst (by simp))
  have M1' := Lib.hid (M1.out.step hst (by simp))
  have M2' := Lib.hid (M2.out.step hst (by simp))
  have M3' := Lib.hid (M3.out.step hst (by simp))
  have Nb' := Lib.hid (Nb.out.step hst (by simp))
  have Pb' := Lib.hid (Pb.out.step hst (by simp))
  have Q' := Lib.hid (Q.out.step hst (by simp))
  have Rr' := Lib.hid (Rr.out.step hst (by simp))
  have ST' := Lib.hid (ST.out.trans (hst.mono (ts' := [2, 3, 4, 9]) (by simp)))
  clear EA EB F Gb K Hr M1 M2 M3 Nb Pb Q Rr ST
  have EA := EA'; have EB := EB'; have F := F'; have Gb := Gb'; have K := K'; have Hr := Hr'; have M1 := M1'; have M2 := M2'; have M3 := M3'; have Nb := Nb'; have Pb := Pb'; have Q := Q'; have Rr := Rr'; have ST := ST'
  clear EA' EB' F' Gb' K' Hr' M1' M2' M3' Nb' Pb' Q' Rr' ST'
  have hS := Lib.hid (hr.sl.step ((Step.refl [] w19 o19).alloc (.cells #[.int .i64 2] 3) 11) (by simp)); clear hst hr
  have hT := Lib.hid (Sl.lit w19 o19 11 #[.int .i64 2] 3 (0, 0) 1 rfl (by decide))
  go_wp2_with fail
  refine (SameInts_any _ _ _ 10 11 SA _ 1 Sc 1 1 [2] [2] hS.out hT.out).mono ?_
  rintro e w20 ⟨rfl, kd, hw⟩
  have hst := ((Step.refl [] w19 o19).alloc (.cells #[.int .i64 2] 3) 11).drewN kd
  rw [← hw] at hst
  obtain ⟨o20, ho⟩ : ∃ o', o' = ext o19 w19.heap.size 11 := ⟨_, rfl⟩
  rw [← ho] at hst
  clear hw ho hS hT
  have EA' := Lib.hid (EA.out.step hst (by simp))
  have EB' := Lib.hid (EB.out.step hst (by simp))
  have F' := Lib.hid (F.out.step hst (by simp))
  have Gb' := Lib.hid (Gb.out.step hst (by simp))
  have K' := Lib.hid (K.out.step hst (by simp))
  have Hr' := Lib.hid (Hr.out.step hst (by simp))
  have M1' := Lib.hid (M1.out.step hst (by simp))
  have M2' := Lib.hid (M2.out.step hst (by simp))
  have M3' := Lib.hid (M3.out.step hst (by simp))
  have Nb' := Lib.hid (Nb.out.step hst (by simp))
  have Pb' := Lib.hid (Pb.out.step hst (by simp))
  have Q' := Lib.hid (Q.out.step hst (by simp))
  have Rr' := Lib.hid (Rr.out.step hst (by simp))
  have ST' := Lib.hid (ST.out.trans (hst.mono (ts' := [2, 3, 4, 9]) (by simp)))
  clear hst
  clear EA EB F Gb K Hr M1 M2 M3 Nb Pb Q Rr ST
  have EA := EA'; have EB := EB'; have F := F'; have Gb := Gb'; have K := K'; have Hr := Hr'; have M1 := M1'; have M2 := M2'; have M3 := M3'; have Nb := Nb'; have Pb := Pb'; have Q := Q'; have Rr := Rr'; have ST := ST'
  clear EA' EB' F' Gb' K' Hr' M1' M2' M3' Nb' Pb' Q' Rr' ST'
  go_wp2_with fail
  refine (New_ok w20 o20 4 65535 0 (by omega) (by omega) (by omega) (by omega)).mono ?_
  rintro e w21 ⟨rfl, hst, hE⟩
  obtain ⟨gc, hgc⟩ : ∃ gc, gc = w20.heap.size := ⟨_, rfl⟩
  obtain ⟨o21, ho⟩ : ∃ o', o' = ext o20 w20.heap.size 4 := ⟨_, rfl⟩
  rw [← ho] at hst hE
  rw [← hgc] at hE ⊢
  clear ho hgc
  have EC : Hid (EndAt w21 o21 4 gc ⟨65535, 65535, 0, -1, 0, []⟩) := Lib.hid hE
  have ST' := Lib.hid (ST.out.trans (hst.mono (ts' := [2, 3, 4, 9]) (by simp)))
  clear hst hE ST EA EB F Gb K Hr M1 M2 M3 Nb Pb Q Rr
  have ST := ST'
  clear ST'
  go_wp2_with fail
  refine (Make_lit w21 o21 4 10 gc ⟨65535, 65535, 0, -1, 0, []⟩ EC.out (fit_of (by decide +kernel)) (by decide) (by decide) (by decide) 122 122 rfl [1, 255, 255, 122] 4 (by decide +kernel) rfl _ rfl).mono ?_
  rintro e w22 ⟨UA, Uc, o22, UL, Ulc, rfl, hst, hE, hr, hl⟩
  have EC' : Hid (EndAt w22 o22 4 gc ⟨65535, 65536, 0, -1, 0, [65535]⟩) := Lib.hid hE
  have ST' := Lib.hid (ST.out.trans (hst.mono (ts' := [2, 3, 4, 9]) (by simp)))
  clear EC ST
  have EC := EC'; have ST := ST'
  clear EC' ST'
  have U := Lib.hid hr.sl; clear hst hE hr hl
  go_wp2_with fail
  refine (Make_lit w22 o22 4 10 gc ⟨65535, 65536, 0, -1, 0, [65535]⟩ EC.out (fit_of (by decide +kernel)) (by decide) (by decide) (by decide) 122 122 rfl [1, 0, 0, 122] 4 (by decide +kernel) rfl _ rfl).mono ?_
  rintro e w23 ⟨VA, Vc, o23, VL, Vlc, rfl, hst, hE, hr, hl⟩
  have EC' : Hid (EndAt w23 o23 4 gc ⟨65535, 65537, 0, -1, 0, [65535, 65536]⟩) := Lib.hid hE
  have U' := Lib.hid (U.out.step hst (by simp))
  have ST' := Lib.hid (ST.out.trans (hst.mono (ts' := [2, 3, 4, 9]) (by simp)))
  clear EC U ST
  have EC := EC'; have U := U'; have ST := ST'
  clear EC' U' ST'
  have V := Lib.hid hr.sl; clear hst hE hr hl
  have cv1 : (convert 27 9 (.slice UA 4 Uc)).run Try.prog w23 = .ok (.string ⟨#[1, 255, 255, 122]⟩) w23 := conv_bytes w23 o23 10 UA 4 Uc [1, 255, 255, 122] U.out
  have cv2 : (convert 27 9 (.slice VA 4 Vc)).run Try.prog w23 = .ok (.string ⟨#[1, 0, 0, 122]⟩) w23 := conv_bytes w23 o23 10 VA 4 Vc [1, 0, 0, 122] V.out
  go_wp2_with fail
  go_ret
  have ho := HO.out
  subst ho
  exact ⟨rfl, ST.out.old (by simp)⟩
end Go.Proofs.Ytpmbfgpfpdenbaa
