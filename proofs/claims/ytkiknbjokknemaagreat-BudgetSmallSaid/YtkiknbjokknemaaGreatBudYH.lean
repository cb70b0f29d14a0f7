/-
  WALK of tells.
-/
import Derived.Test.YtkiknbjokknemaaGreatBudYI
namespace Go.Proofs.YtkiknbjokknemaaGreat
open Go.RowKit Go.Maps

set_option maxRecDepth 100000 in
set_option maxHeartbeats 8000000 in
theorem tells_any (w : World) (A : Option Addr) (n c : Nat) (l : List It) (hA : Sl w (fun _ => 0) 0 3 A n c (itms l)) (hn : n ≤ 80) (B : Option Addr) (m d : Nat) (ws : List (Int × Int)) (hB : Sl w (fun _ => 0) 0 2 B m d (wnts ws)) (hm : m ≤ 80) (k s : Int) (hk0 : -9223372036854775808 ≤ k) (hk : k ≤ 9223372036854775807) (hs0 : -9223372036854775808 ≤ s) (hs : s ≤ 9223372036854775807) (hs60 : s ≤ 60 ∨ 10000 < s) :
    Calls Tryz.prog 5 #[.slice A n c, .slice B m d, .int .i64 k, .int .i64 s] w (SaysTo w true) := by
  have hln : l.length = n := by have := hA.1; rw [len_itms] at this; omega
  have hlm : ws.length = m := by have := hB.1; rw [len_wnts] at this; omega
  have r1 := row_lit0 w (fun _ => 0) 6 28 3
  have a1 := hA.up0 ((Below.refl w.heap.size w).alloc (Nat.le_refl _) (.cells #[] 28))
  have HA := Lib.hid hA; have HB := Lib.hid hB; have R1 := Lib.hid r1; have A1 := Lib.hid a1; have HLN := Lib.hid hln; have HLM := Lib.hid hlm
  clear hA hB r1 a1 hln hlm
  go_enter Tryz.func5, Tryz.ntmps5
  go_upto_region 2 with (first
    | (at_builtin; refine wpList_append_row _ rfl (.tmp 25) (.tmp 26) _ rfl el_item _ 6 _ 0 0 _ rfl R1.out _ 0 A n c (itms l) rfl A1.out (itms_one l) (by omega) (by simp only [maxLen]; omega) ?_; intro iA ic w1 hR hg _; obtain ⟨p1, p2, p3, p4⟩ := first_copy HA.out HB.out hR hg; have HP1 := Lib.hid (And.intro p1 (And.intro p2 (And.intro p3 p4))); have r2 := row_lit0 w1 (fun _ => 0) 6 26 2; have a2 := p3.up0 ((Below.refl w1.heap.size w1).alloc (Nat.le_refl _) (.cells #[] 26)); have R2 := Lib.hid r2; have A2 := Lib.hid a2; clear hR hg p1 p2 p3 p4 r2 a2)
    | (at_builtin; refine wpList_append_row _ rfl (.tmp 28) (.tmp 29) _ rfl el_want _ 6 _ 0 0 _ rfl R2.out _ 0 B m d (wnts ws) rfl A2.out (wnts_one ws) (by omega) (by simp only [maxLen]; omega) ?_; intro vA vc w2 hR hg _; obtain ⟨q1, q2⟩ := second_copy HP1.out.2.2.1 hR hg; have HT2 := Lib.hid (show TF w2 A n c l B m d ws iA ic vA vc from ⟨HP1.out.2.1.up0 q1, HP1.out.2.2.1.up0 q1, HP1.out.2.2.2.up0 q1, q2⟩); have HB2 := Lib.hid (HP1.out.1.trans (q1.mono HP1.out.1.size)); clear hR hg q1 q2))
  obtain ⟨U, hU⟩ : ∃ U, U = stepU l ws k := ⟨_, rfl⟩
  obtain ⟨V, hV⟩ : ∃ V, V = runU l ws k s := ⟨_, rfl⟩
  have hVl : V.2.1.length ≤ 60 := by rw [hV]; exact runU_len hs60
  have hVn : ∀ x ∈ V.2.1, x.length ≤ 64 := by rw [hV]; exact runU_each
  have hUn : U.2.1.length ≤ 64 := by rw [hU]; exact stepU_len
  have cst := fun W (h : TF W A n c l B m d ws iA ic vA vc) => StepP_any W iA n ic l h.hi vA m vc ws h.hv k hk
  have crs := fun W (IA : Option Addr) (Ic : Nat) (h : Sl W (fun _ => 0) 0 3 IA n Ic (itms l)) (JA : Option Addr) (Jc : Nat) (h' : Sl W (fun _ => 0) 0 2 JA m Jc (wnts ws)) => rstep_t W IA n Ic l h (by omega) JA m Jc ws h' k hk0 hk
  have crn := fun W (h : TF W A n c l B m d ws iA ic vA vc) => RunP_any W iA n ic l h.hi vA m vc ws h.hv k s hk
  have crr := fun W (IA : Option Addr) (Ic : Nat) (h : Sl W (fun _ => 0) 0 3 IA n Ic (itms l)) (JA : Option Addr) (Jc : Nat) (h' : Sl W (fun _ => 0) 0 2 JA m Jc (wnts ws)) => rrun_t W IA n Ic l h (by omega) JA m Jc ws h' k s hk0 hk hs0 hs
  unfold StepPU at cst crs
  unfold RunPU at crn
  unfold RRunPU at crr
  simp only [← hU] at cst crs
  simp only [← hV] at crn crr
  obtain ⟨la, xs, er⟩ := U
  obtain ⟨lc', us, er2⟩ := V
  simp only at cst crs crn crr hVl hVn hUn
  have CST := Lib.hid cst; have CRS := Lib.hid crs; have CRN := Lib.hid crn; have CRR := Lib.hid crr
  have CIT := Lib.hid (fun W (h : TF W A n c l B m d ws iA ic vA vc) => items_t W A n c l h.hl (by omega))
  have CWT := Lib.hid (fun W (h : TF W A n c l B m d ws iA ic vA vc) => wants_t W B m d ws h.hw (by omega))
  have HVL := Lib.hid hVl; have HVN := Lib.hid hVn; have HUN := Lib.hid hUn
  obtain ⟨rb, hrb⟩ : ∃ b, b = rightB ws := ⟨_, rfl⟩
  obtain ⟨vb, hvb⟩ : ∃ b, b = validB l := ⟨_, rfl⟩
  have CRT := Lib.hid (fun W (h : TF W A n c l B m d ws iA ic vA vc) => hrb ▸ Right_any W _ 0 vA m vc ws h.hv)
  have CVL := Lib.hid (fun W (h : TF W A n c l B m d ws iA ic vA vc) => hvb ▸ Valid_any W _ 0 iA n ic l h.hi)
  have CRR2 := Lib.hid (fun W (JA : Option Addr) (Jc : Nat) (h' : Sl W (fun _ => 0) 0 2 JA m Jc (wnts ws)) => hrb ▸ RRight_any W _ 0 JA m Jc ws h')
  have CRV := Lib.hid (fun W (IA : Option Addr) (Ic : Nat) (h : Sl W (fun _ => 0) 0 3 IA n Ic (itms l)) => hvb ▸ RValid_any W _ 0 IA n Ic l h (by omega))
  have ner : (er != er) = false := by simp
  have ner2 : (er2 != er2) = false := by simp
  have nrb : (rb != rb) = false := by simp
  have nvb : (vb != vb) = false := by simp
  clear hU hV hVl hVn hUn cst crs crn crr R1 A1 R2 A2 HP1 HA HB hrb hvb
  go_wp2_with fail
  refine (CST.out w2 HT2.out).mono ?_
  rintro e w3 ⟨aA, an, ac, xA, xn, xc, rfl, hb, q1, q2, q3⟩
  have HT3 := Lib.hid (HT2.out.up hb)
  have HB3 := Lib.hid (HB2.out.trans (hb.mono HB2.out.size))
  have FA3 := Lib.hid (q1)
  have FX3 := Lib.hid (q2)
  have XQ3 := Lib.hid (q3)
  clear hb q1 q2 q3
  go_wp2_with fail
  refine (CIT.out w3 HT3.out).mono ?_
  rintro e w4 ⟨IA, Ic, rfl, hb, q1⟩
  have HT4 := Lib.hid (HT3.out.up hb)
  have FA4 := Lib.hid (FA3.out.up0 hb)
  have FX4 := Lib.hid (FX3.out.up0 hb)
  have HB4 := Lib.hid (HB3.out.trans (hb.mono HB3.out.size))
  have FI4 := Lib.hid (q1)
  clear hb q1
  go_wp2_with fail
  refine (CWT.out w4 HT4.out).mono ?_
  rintro e w5 ⟨JA, Jc, rfl, hb, q1⟩
  have HT5 := Lib.hid (HT4.out.up hb)
  have FA5 := Lib.hid (FA4.out.up0 hb)
  have FX5 := Lib.hid (FX4.out.up0 hb)
  have FI5 := Lib.hid (FI4.out.up0 hb)
  have HB5 := Lib.hid (HB4.out.trans (hb.mono HB4.out.size))
  have FJ5 := Lib.hid (q1)
  clear hb q1
  go_wp2_with fail
  refine (CRS.out w5 IA Ic FI5.out JA Jc FJ5.out).mono ?_
  rintro e w6 ⟨bA, bn, bc, yA, yn, yc, rfl, hb, q1, q2, -⟩
  have HT6 := Lib.hid (HT5.out.up hb)
  have FA6 := Lib.hid (FA5.out.up0 hb)
  have FX6 := Lib.hid (FX5.out.up0 hb)
  have FI6 := Lib.hid (FI5.out.up0 hb)
  have FJ6 := Lib.hid (FJ5.out.up0 hb)
  have HB6 := Lib.hid (HB5.out.trans (hb.mono HB5.out.size))
  have FB6 := Lib.hid (q1)
  have FY6 := Lib.hid (q2.sl)
  clear hb q1 q2
  clear FI6
  clear FJ6
  go_wp2_with fail
  refine (CRN.out w6 HT6.out).mono ?_
  rintro e w7 ⟨cA, cn, cc, uA, un, uc, rfl, hb, q1, q2, q3⟩
  have HT7 := Lib.hid (HT6.out.up hb)
  have FA7 := Lib.hid (FA6.out.up0 hb)
  have FX7 := Lib.hid (FX6.out.up0 hb)
  have FB7 := Lib.hid (FB6.out.up0 hb)
  have FY7 := Lib.hid (FY6.out.up0 hb)
  have HB7 := Lib.hid (HB6.out.trans (hb.mono HB6.out.size))
  have FC7 := Lib.hid (q2)
  have FU7 := Lib.hid (q3)
  have CQ7 := Lib.hid (q1)
  have HE7 := Lib.hid (show Since w6 w7 from hb)
  clear hb q1 q2 q3
  have EARLY := Lib.hid (And.intro HT6.out (And.intro FA6.out (And.intro FB6.out FX6.out)))
  go_wp2_with fail
  refine (CIT.out w7 HT7.out).mono ?_
  rintro e w8 ⟨IA, Ic, rfl, hb, q1⟩
  have HT8 := Lib.hid (HT7.out.up hb)
  have FA8 := Lib.hid (FA7.out.up0 hb)
  have FX8 := Lib.hid (FX7.out.up0 hb)
  have FB8 := Lib.hid (FB7.out.up0 hb)
  have FY8 := Lib.hid (FY7.out.up0 hb)
  have FC8 := Lib.hid (FC7.out.up0 hb)
  have FU8 := Lib.hid (FU7.out.up0 hb)
  have HE8 := Lib.hid (HE7.out.up hb)
  have HB8 := Lib.hid (HB7.out.trans (hb.mono HB7.out.size))
  have FI8 := Lib.hid (q1)
  clear hb q1
  go_wp2_with fail
  refine (CWT.out w8 HT8.out).mono ?_
  rintro e w9 ⟨JA, Jc, rfl, hb, q1⟩
  have HT9 := Lib.hid (HT8.out.up hb)
  have FA9 := Lib.hid (FA8.out.up0 hb)
  have FX9 := Lib.hid (FX8.out.up0 hb)
  have FB9 := Lib.hid (FB8.out.up0 hb)
  have FY9 := Lib.hid (FY8.out.up0 hb)
  have FC9 := Lib.hid (FC8.out.up0 hb)
  have FU9 := Lib.hid (FU8.out.up0 hb)
  have HE9 := Lib.hid (HE8.out.up hb)
  have FI9 := Lib.hid (FI8.out.up0 hb)
  have HB9 := Lib.hid (HB8.out.trans (hb.mono HB8.out.size))
  have FJ9 := Lib.hid (q1)
  clear hb q1
  go_wp2_with fail
  refine (CRR.out w9 IA Ic FI9.out JA Jc FJ9.out).mono ?_
  rintro e w10 ⟨dA, dn, dc, zA, zn, zc, rfl, hb, q1, q2⟩
  have HT10 := Lib.hid (HT9.out.up hb)
  have FA10 := Lib.hid (FA9.out.up0 hb)
  have FX10 := Lib.hid (FX9.out.up0 hb)
  have FB10 := Lib.hid (FB9.out.up0 hb)
  have FY10 := Lib.hid (FY9.out.up0 hb)
  have FC10 := Lib.hid (FC9.out.up0 hb)
  have FU10 := Lib.hid (FU9.out.up0 hb)
  have HE10 := Lib.hid (HE9.out.up hb)
  have FI10 := Lib.hid (FI9.out.up0 hb)
  have FJ10 := Lib.hid (FJ9.out.up0 hb)
  have HB10 := Lib.hid (HB9.out.trans (hb.mono HB9.out.size))
  have FD10 := Lib.hid (q1)
  have FZ10 := Lib.hid (q2)
  clear hb q1 q2
  clear FI10
  clear FJ10
  go_wp2_with fail
  refine (CRT.out w10 HT10.out).mono ?_
  rintro e w11 ⟨rfl, hb⟩
  have HT11 := Lib.hid (HT10.out.up hb)
  have FA11 := Lib.hid (FA10.out.up0 hb)
  have FX11 := Lib.hid (FX10.out.up0 hb)
  have FB11 := Lib.hid (FB10.out.up0 hb)
  have FY11 := Lib.hid (FY10.out.up0 hb)
  have FC11 := Lib.hid (FC10.out.up0 hb)
  have FU11 := Lib.hid (FU10.out.up0 hb)
  have HE11 := Lib.hid (HE10.out.up hb)
  have FD11 := Lib.hid (FD10.out.up0 hb)
  have FZ11 := Lib.hid (FZ10.out.up0 hb)
  have HB11 := Lib.hid (HB10.out.trans (hb.mono HB10.out.size))
  clear hb
  go_wp2_with fail
  refine (CWT.out w11 HT11.out).mono ?_
  rintro e w12 ⟨JA, Jc, rfl, hb, q1⟩
  have HT12 := Lib.hid (HT11.out.up hb)
  have FA12 := Lib.hid (FA11.out.up0 hb)
  have FX12 := Lib.hid (FX11.out.up0 hb)
  have FB12 := Lib.hid (FB11.out.up0 hb)
  have FY12 := Lib.hid (FY11.out.up0 hb)
  have FC12 := Lib.hid (FC11.out.up0 hb)
  have FU12 := Lib.hid (FU11.out.up0 hb)
  have HE12 := Lib.hid (HE11.out.up hb)
  have FD12 := Lib.hid (FD11.out.up0 hb)
  have FZ12 := Lib.hid (FZ11.out.up0 hb)
  have HB12 := Lib.hid (HB11.out.trans (hb.mono HB11.out.size))
  have FJ12 := Lib.hid (q1)
  clear hb q1
  go_wp2_with fail
  refine (CRR2.out w12 JA Jc FJ12.out).mono ?_
  rintro e w13 ⟨rfl, hb⟩
  have HT13 := Lib.hid (HT12.out.up hb)
  have FA13 := Lib.hid (FA12.out.up0 hb)
  have FX13 := Lib.hid (FX12.out.up0 hb)
  have FB13 := Lib.hid (FB12.out.up0 hb)
  have FY13 := Lib.hid (FY12.out.up0 hb)
  have FC13 := Lib.hid (FC12.out.up0 hb)
  have FU13 := Lib.hid (FU12.out.up0 hb)
  have HE13 := Lib.hid (HE12.out.up hb)
  have FD13 := Lib.hid (FD12.out.up0 hb)
  have FZ13 := Lib.hid (FZ12.out.up0 hb)
  have FJ13 := Lib.hid (FJ12.out.up0 hb)
  have HB13 := Lib.hid (HB12.out.trans (hb.mono HB12.out.size))
  clear hb
  clear FJ13
  go_wp2_with fail
  refine (CVL.out w13 HT13.out).mono ?_
  rintro e w14 ⟨rfl, hb⟩
  have HT14 := Lib.hid (HT13.out.up hb)
  have FA14 := Lib.hid (FA13.out.up0 hb)
  have FX14 := Lib.hid (FX13.out.up0 hb)
  have FB14 := Lib.hid (FB13.out.up0 hb)
  have FY14 := Lib.hid (FY13.out.up0 hb)
  have FC14 := Lib.hid (FC13.out.up0 hb)
  have FU14 := Lib.hid (FU13.out.up0 hb)
  have HE14 := Lib.hid (HE13.out.up hb)
  have FD14 := Lib.hid (FD13.out.up0 hb)
  have FZ14 := Lib.hid (FZ13.out.up0 hb)
  have HB14 := Lib.hid (HB13.out.trans (hb.mono HB13.out.size))
  clear hb
  go_wp2_with fail
  refine (CIT.out w14 HT14.out).mono ?_
  rintro e w15 ⟨IA, Ic, rfl, hb, q1⟩
  have HT15 := Lib.hid (HT14.out.up hb)
  have FA15 := Lib.hid (FA14.out.up0 hb)
  have FX15 := Lib.hid (FX14.out.up0 hb)
  have FB15 := Lib.hid (FB14.out.up0 hb)
  have FY15 := Lib.hid (FY14.out.up0 hb)
  have FC15 := Lib.hid (FC14.out.up0 hb)
  have FU15 := Lib.hid (FU14.out.up0 hb)
  have HE15 := Lib.hid (HE14.out.up hb)
  have FD15 := Lib.hid (FD14.out.up0 hb)
  have FZ15 := Lib.hid (FZ14.out.up0 hb)
  have HB15 := Lib.hid (HB14.out.trans (hb.mono HB14.out.size))
  have FI15 := Lib.hid (q1)
  clear hb q1
  go_wp2_with fail
  refine (CRV.out w15 IA Ic FI15.out).mono ?_
  rintro e w16 ⟨rfl, hb⟩
  have HT16 := Lib.hid (HT15.out.up hb)
  have FA16 := Lib.hid (FA15.out.up0 hb)
  have FX16 := Lib.hid (FX15.out.up0 hb)
  have FB16 := Lib.hid (FB15.out.up0 hb)
  have FY16 := Lib.hid (FY15.out.up0 hb)
  have FC16 := Lib.hid (FC15.out.up0 hb)
  have FU16 := Lib.hid (FU15.out.up0 hb)
  have HE16 := Lib.hid (HE15.out.up hb)
  have FD16 := Lib.hid (FD15.out.up0 hb)
  have FZ16 := Lib.hid (FZ15.out.up0 hb)
  have FI16 := Lib.hid (FI15.out.up0 hb)
  have HB16 := Lib.hid (HB15.out.trans (hb.mono HB15.out.size))
  clear hb
  clear FI16
  go_wp2_with fail
  refine (same_t w16 aA bA an ac bn bc la FA16.out FB16.out).mono ?_
  rintro e w17 ⟨rfl, hb⟩
  have HT17 := Lib.hid (HT16.out.up hb)
  have FA17 := Lib.hid (FA16.out.up0 hb)
  have FX17 := Lib.hid (FX16.out.up0 hb)
  have FB17 := Lib.hid (FB16.out.up0 hb)
  have FY17 := Lib.hid (FY16.out.up0 hb)
  have FC17 := Lib.hid (FC16.out.up0 hb)
  have FU17 := Lib.hid (FU16.out.up0 hb)
  have HE17 := Lib.hid (HE16.out.up hb)
  have FD17 := Lib.hid (FD16.out.up0 hb)
  have FZ17 := Lib.hid (FZ16.out.up0 hb)
  have HB17 := Lib.hid (HB16.out.trans (hb.mono HB16.out.size))
  clear hb
  go_wp2_with fail
  refine (same_t w17 cA dA cn cc dn dc lc' FC17.out.sl FD17.out).mono ?_
  rintro e w18 ⟨rfl, hb⟩
  have HT18 := Lib.hid (HT17.out.up hb)
  have FA18 := Lib.hid (FA17.out.up0 hb)
  have FX18 := Lib.hid (FX17.out.up0 hb)
  have FB18 := Lib.hid (FB17.out.up0 hb)
  have FY18 := Lib.hid (FY17.out.up0 hb)
  have FC18 := Lib.hid (FC17.out.up0 hb)
  have FU18 := Lib.hid (FU17.out.up0 hb)
  have HE18 := Lib.hid (HE17.out.up hb)
  have FD18 := Lib.hid (FD17.out.up0 hb)
  have FZ18 := Lib.hid (FZ17.out.up0 hb)
  have HB18 := Lib.hid (HB17.out.trans (hb.mono HB17.out.size))
  clear hb
  go_wp2_with fail
  refine (ints_t w18 xA yA xn xc yn yc xs FX18.out.sl FY18.out).mono ?_
  rintro e w19 ⟨rfl, hb⟩
  have HT19 := Lib.hid (HT18.out.up hb)
  have FA19 := Lib.hid (FA18.out.up0 hb)
  have FX19 := Lib.hid (FX18.out.up0 hb)
  have FB19 := Lib.hid (FB18.out.up0 hb)
  have FY19 := Lib.hid (FY18.out.up0 hb)
  have FC19 := Lib.hid (FC18.out.up0 hb)
  have FU19 := Lib.hid (FU18.out.up0 hb)
  have HE19 := Lib.hid (HE18.out.up hb)
  have FD19 := Lib.hid (FD18.out.up0 hb)
  have FZ19 := Lib.hid (FZ18.out.up0 hb)
  have HB19 := Lib.hid (HB18.out.trans (hb.mono HB18.out.size))
  clear hb
  go_wp2_with fail
  refine (lists_t w19 uA zA un uc zn zc us FU19.out.lists FZ19.out).mono ?_
  rintro e w20 ⟨rfl, hb⟩
  have HT20 := Lib.hid (HT19.out.up hb)
  have FA20 := Lib.hid (FA19.out.up0 hb)
  have FX20 := Lib.hid (FX19.out.up0 hb)
  have FB20 := Lib.hid (FB19.out.up0 hb)
  have FY20 := Lib.hid (FY19.out.up0 hb)
  have FC20 := Lib.hid (FC19.out.up0 hb)
  have FU20 := Lib.hid (FU19.out.up0 hb)
  have HE20 := Lib.hid (HE19.out.up hb)
  have FD20 := Lib.hid (FD19.out.up0 hb)
  have FZ20 := Lib.hid (FZ19.out.up0 hb)
  have HB20 := Lib.hid (HB19.out.trans (hb.mono HB19.out.size))
  clear hb
  clear FD20
  clear FZ20
  clear FY20
  have nmm : ((m : Int) != (m : Int)) = false := by simp
  go_wp2_with fail
  refine (CIT.out w20 HT20.out).mono ?_
  rintro e w21 ⟨IA, Ic, rfl, hb, q1⟩
  have HT21 := Lib.hid (HT20.out.up hb)
  have FA21 := Lib.hid (FA20.out.up0 hb)
  have FX21 := Lib.hid (FX20.out.up0 hb)
  have FB21 := Lib.hid (FB20.out.up0 hb)
  have FC21 := Lib.hid (FC20.out.up0 hb)
  have FU21 := Lib.hid (FU20.out.up0 hb)
  have HE21 := Lib.hid (HE20.out.up hb)
  have HB21 := Lib.hid (HB20.out.trans (hb.mono HB20.out.size))
  have FI21 := Lib.hid (q1)
  clear hb q1
  go_wp2_with fail
  refine (same_t w21 iA IA n ic n Ic l HT21.out.hi FI21.out).mono ?_
  rintro e w22 ⟨rfl, hb⟩
  have HT22 := Lib.hid (HT21.out.up hb)
  have FA22 := Lib.hid (FA21.out.up0 hb)
  have FX22 := Lib.hid (FX21.out.up0 hb)
  have FB22 := Lib.hid (FB21.out.up0 hb)
  have FC22 := Lib.hid (FC21.out.up0 hb)
  have FU22 := Lib.hid (FU21.out.up0 hb)
  have HE22 := Lib.hid (HE21.out.up hb)
  have FI22 := Lib.hid (FI21.out.up0 hb)
  have HB22 := Lib.hid (HB21.out.trans (hb.mono HB21.out.size))
  clear hb
  clear FI22
  have hneq := fun W (a b : Int) => neq_want W a b
  go_wp2_with fail
  go_loopw [131] (fun iv wr => ∃ q, q ≤ m ∧ iv = .int .i64 (q : Int) ∧ Hid (Below w22.heap.size w22 wr)) (fun iv _ => m - (intOf iv).toNat)
  case atStart => exact ⟨0, Nat.zero_le _, rfl, Lib.hid (Below.refl _ _)⟩
  case round =>
    obtain ⟨q, hq, rfl, HW⟩ := hrel
    by_cases hlt : q < m
    · obtain ⟨x, hx⟩ : ∃ x, ws[q]? = some x := ⟨_, List.getElem?_eq_getElem (by rw [HLM.out]; exact hlt)⟩
      obtain ⟨g1, o1, hA1, -, hg1, hc1⟩ := HT22.out.hv.2.2.2 (by omega)
      obtain ⟨g2, o2, hA2, -, hg2, hc2⟩ := HT22.out.hw.2.2.2 (by omega)
      subst hA1
      subst hA2
      obtain ⟨i0, i1⟩ := wnts_get ws q x hx
      obtain ⟨a, b⟩ := x
      simp only at i0 i1
      have c0 := (HW.out.cell (p := ⟨g1, o1 + q * 2, none⟩) hg1).trans (hc1 _ _ i0)
      have c1 := (HW.out.cell (p := ⟨g1, o1 + (q * 2 + 1), none⟩) hg1).trans (hc1 _ _ i1)
      have c2 := (HW.out.cell (p := ⟨g2, o2 + q * 2, none⟩) hg2).trans (hc2 _ _ i0)
      have c3 := (HW.out.cell (p := ⟨g2, o2 + (q * 2 + 1), none⟩) hg2).trans (hc2 _ _ i1)
      rw [← Nat.add_assoc] at c1 c3
      have v0 := cell_regrown c0; have v1 := cell_regrown c1; have v2 := cell_regrown c2; have v3 := cell_regrown c3
      clear hc1 hc2 i0 i1 hx
      go_upto_region 13 with fail
      refine wp_region_quiet_below (by kernel_rfl) (by kernel_rfl) ?_
      clear c0 c1 c2 c3
      repeat (go_big_quiet_step (fail))
      refine wpQuiet_nil ?_
      intro _ hw'
      obtain ⟨⟨dq, osq⟩, hw''⟩ := hw'
      have HF := Lib.hid (HW.out.trans ((below_regrown wr dq osq).mono HW.out.size))
      subst hw''
      clear v0 v1 v2 v3
      go_wp2_with fail
      go_roundw
      case rel => exact ⟨q + 1, by omega, by go_num, HF⟩
      case measure => simp [intOf]; omega
    · obtain rfl : m = q := by omega
      have fc := FC22.out.up0 HW.out
      have fu := FU22.out.up0 HW.out
      have he := HE22.out.up HW.out
      have hb := HB22.out.trans (HW.out.mono HB22.out.size)
      obtain ⟨oc, hc1, hc2, hc3⟩ := carve (W0 := w6) fc CQ7.out
      have tl := EARLY.out.1.hl.carve he hc2
      have ti := EARLY.out.1.hi.carve he hc2
      have ta := EARLY.out.2.1.carve he hc2
      have tb := EARLY.out.2.2.1.carve he hc2
      have tx := EARLY.out.2.2.2.carve he hc2
      have tu := fu.carve hc3
      have HC1 := Lib.hid hc1; have HOC := Lib.hid hc2; have TL := Lib.hid tl; have TI := Lib.hid ti; have TA := Lib.hid ta; have TB := Lib.hid tb; have TX := Lib.hid tx; have TU := Lib.hid tu; have HBW := Lib.hid hb; have HE := Lib.hid he
      clear fc fu he hb hc1 hc2 hc3 tl ti ta tb tx tu HW
      generalize wr = wz at HC1 TL TI TA TB TX TU HBW HE ⊢
      clear wr
      have hcnb : cn ≤ 9223372036854775807 := by have h1 := HC1.out.sl.2.1; have h2 := HC1.out.sl.2.2.1; unfold maxLen at h2; omega
      have hcn : lc'.length * 3 = cn * 3 := by have := HC1.out.len; rw [len_itms] at this; exact this
      go_wp2_with fail
      go_loopw [146] (fun iv wr => ∃ q, q ≤ cn ∧ iv = .int .i64 (q : Int) ∧ Hid (Step [50] wz oc wr oc ∧ ∃ ys, Row wr oc 50 28 3 cA cn cc ys)) (fun iv _ => cn - (intOf iv).toNat)
      case atStart => exact ⟨0, Nat.zero_le _, rfl, Lib.hid ⟨Step.refl _ _ _, _, HC1.out⟩⟩
      case round =>
        obtain ⟨q, hq, rfl, HQ⟩ := hrel
        obtain ⟨hst, ys, hrow⟩ := HQ.out
        by_cases hlt : q < cn
        · obtain ⟨u, hu⟩ : ∃ u, ys[q * 3 + 2]? = some u := ⟨_, List.getElem?_eq_getElem (by rw [hrow.len]; omega)⟩
          obtain ⟨h, hce, hoh, hhl, d2, f2⟩ := Row.cellG hrow hu (by omega)
          subst hce
          have hset := Row.setG (k := q * 3 + 2) hrow (by omega) (.int .i64 (-5))
          have hstp := hst.setCell (p := ⟨h, q * 3 + 2, none⟩) (.inr (by rw [hoh]; simp)) (.int .i64 (-5))
          have HF := Lib.hid (And.intro hstp hset)
          clear hu hset hstp hst hrow HQ
          go_wp2_with fail
          go_roundw
          case rel => exact ⟨q + 1, by omega, by go_num, Lib.hid ⟨HF.out.1, _, HF.out.2⟩⟩
          case measure => simp [intOf]; omega
        · obtain rfl : cn = q := by omega
          have sl := (TL.out.step hst (by simp)).old0
          have si := (TI.out.step hst (by simp)).old0
          have sa := (TA.out.step hst (by simp)).old0
          have sb := (TB.out.step hst (by simp)).old0
          have sx := (TX.out.step hst (by simp)).any0
          have su := (TU.out.step hst (by simp) (by simp)).any0
          have hb := below_carve (HB6.out) HBW.out HOC.out hst
          have KL := Lib.hid sl; have KI := Lib.hid si; have KA := Lib.hid sa; have KB := Lib.hid sb; have KX := Lib.hid sx; have KU := Lib.hid su; have HBZ := Lib.hid hb
          clear sl si sa sb sx su hb hst hrow HQ
          have CIT2 := Lib.hid (fun W (h : Sl W (fun _ => 0) 0 3 A n c (itms l)) => items_t W A n c l h (by omega))
          go_wp2_with fail
          refine (CIT2.out _ KL.out).mono ?_
          rintro e wa ⟨IA, Ic, rfl, hb1, q1⟩
          have KI1 := Lib.hid (KI.out.up0 hb1); have KA1 := Lib.hid (KA.out.up0 hb1); have KB1 := Lib.hid (KB.out.up0 hb1); have KX1 := Lib.hid (KX.out.up0 hb1); have KU1 := Lib.hid (KU.out.up0 hb1); have HZ1 := Lib.hid (HBZ.out.trans (hb1.mono HBZ.out.size)); have QI := Lib.hid q1
          clear hb1 q1
          go_wp2_with fail
          refine (same_t wa iA IA n ic n Ic l KI1.out QI.out).mono ?_
          rintro e wb ⟨rfl, hb1⟩
          have KA2 := Lib.hid (KA1.out.up0 hb1); have KB2 := Lib.hid (KB1.out.up0 hb1); have KX2 := Lib.hid (KX1.out.up0 hb1); have KU2 := Lib.hid (KU1.out.up0 hb1); have HZ2 := Lib.hid (HZ1.out.trans (hb1.mono HZ1.out.size))
          clear hb1
          go_wp2_with fail
          refine (same_t wb aA bA an ac bn bc la KA2.out KB2.out).mono ?_
          rintro e wd ⟨rfl, hb1⟩
          have KX3 := Lib.hid (KX2.out.up0 hb1); have KU3 := Lib.hid (KU2.out.up0 hb1); have HZ3 := Lib.hid (HZ2.out.trans (hb1.mono HZ2.out.size))
          clear hb1
          obtain ⟨L, ua, ub, uc', ud, uf⟩ := KU3.out
          have hxq : ∀ p, xA = some p → w.heap.size ≤ p.block ∧ p.block < w6.heap.size := fun p hp => ⟨Nat.le_trans HB2.out.size (XQ3.out p hp), EARLY.out.2.2.2.lt hp⟩
          have hunl : un ≤ 60 := by have := ua.len; simp at this; have := HVL.out; omega
          have RL := Lib.hid (row_lit1 wd (fun _ => 0) 7 30 (.slice xA xn xc))
          have SU := Lib.hid (ua.up0 ((Below.refl wd.heap.size wd).alloc (Nat.le_refl _) (.cells #[.slice xA xn xc] 30)))
          have LAST := Lib.hid (fun wf A' c' => last_list (w6 := w6) (wf := wf) (A' := A') (c' := c') HZ3.out HB6.out.size KX3.out hxq HUN.out HVL.out HVN.out L ua ub uc' ud uf)
          clear ua ub uc' ud uf hxq
          go_wp2_with (first
            | (at_builtin; refine wpList_append_rowW _ (.tmp 165) (.tmp 166) _ rfl el_ints _ 7 _ 1 1 [.slice xA xn xc] rfl RL.out _ 0 uA un uc (L.map Rw.v) rfl SU.out.sl (val_one L) (by omega) (by simp only [maxLen]; omega) rfl ?_; intro fA fc wf hR hg _; have CL := Lib.hid (LAST.out wf fA fc hR hg); clear hR hg)
            | (go_at_call 22; refine CL.out.mono ?_; rintro e wg ⟨rfl, hb⟩; have HFIN := Lib.hid hb; clear hb))
          go_ret
          exact ⟨rfl, HFIN.out⟩
end Go.Proofs.YtkiknbjokknemaaGreat
