/-
  WALK of PacketShifts. (Printed by wip/gen/gen_shift.py.)
-/
import Derived.Test.YtpmbfgpfpdenbaaShiftA
import Derived.Test.YtpmbfgpfpdenbaaAwake
import Derived.Deep.DeepCutAuto
import Derived.Deep.RegionWith
namespace Go.Proofs.Ytpmbfgpfpdenbaa
open Go.RowKit

theorem SideF.drewN {w : World} {o : Own} {l s s' : Nat} {own other : Int} {X : ASide} {v : SideV} (h : SideF w o l s s' own other X v) (q : Nat) : SideF (w.drewN q) o l s s' own other X v := h.step ((Step.refl [] w o).drewN q)

/-- What Pending of a side hands back, in whatever later world. -/
theorem SideF.pending {w : World} {o : Own} {l s s' : Nat} {own other : Int} {X : ASide} {v : SideV} (h : SideF w o l s s' own other X v) (w1 : World) (hb : Below w.heap.size w w1) :
    Calls Try.prog 13 #[.pointer (some ⟨v.e, 0, none⟩)] w1 fun e w' => ∃ A c oP, e = .returned (.slice A X.e.pend.length c) ∧ Row w' oP 12 3 1 A X.e.pend.length c (ints (X.e.conc own other).pend) ∧ Below w1.heap.size w1 w' := by
  have h1 := h.step ((Step.refl [] w o).below hb 12)
  refine (Pending_ok w1 _ (2 + s) 12 v.e _ h1.e h1.fit).mono ?_
  rintro e w' ⟨A, c, he, hr, hb'⟩
  have hl : (X.e.conc own other).pend.length = X.e.pend.length := by simp [AEnd.conc]
  rw [hl] at he hr
  exact ⟨A, c, _, he, hr, hb'⟩

set_option maxRecDepth 100000 in
set_option maxHeartbeats 4000000 in
theorem PacketShifts_walk (w : World) (a b a2 b2 : Int) (ha : 0 ≤ a) (hb : 0 ≤ b) (ha2 : 0 ≤ a2) (hb2 : 0 ≤ b2) (A : Option Addr) (n c : Nat) (ps : List OpV) (hP : OpsAt w (fun _ => 0) 0 A n c ps) :
    Calls Try.prog 7 #[.int .u64 a, .int .u64 b, .int .u64 a2, .int .u64 b2, .slice A n c] w fun e w' => e = .returned (.bool true) ∧ Below w.heap.size w w' := by
  obtain ⟨own, hown⟩ : ∃ own : Int, own = a % 1099511627777 := ⟨_, rfl⟩
  obtain ⟨oth, hoth⟩ : ∃ oth : Int, oth = b % 1099511627777 := ⟨_, rfl⟩
  obtain ⟨own2, hown2⟩ : ∃ own2 : Int, own2 = a2 % 1099511627777 := ⟨_, rfl⟩
  obtain ⟨oth2, hoth2⟩ : ∃ oth2 : Int, oth2 = b2 % 1099511627777 := ⟨_, rfl⟩
  have HOWN := Lib.hid hown.symm; have HOTH := Lib.hid hoth.symm; have HOWN2 := Lib.hid hown2.symm; have HOTH2 := Lib.hid hoth2.symm; clear hown hoth hown2 hoth2
  have hc1 := hP.2.1; have hc2 := hP.2.2.1
  unfold maxLen at hc2
  have hlen : ps.length = n := hP.1
  have hAn : A = none → n = 0 := by
    intro h
    rcases Nat.eq_zero_or_pos n with h0 | h0
    · exact h0
    · obtain ⟨g, off, hA, -⟩ := hP.2.2.2 h0; rw [h] at hA; cases hA
  have HP := Lib.hid hP; have HLN := Lib.hid hlen; have HAN := Lib.hid hAn
  clear hP hlen hAn
  go_enter Try.func7, Try.ntmps7
  go_upto_region 2 with (go_at_call 11; refine (linked_ok w (fun _ => 0) (a % 1099511627777) (b % 1099511627777) (by omega) (by omega) (by omega) (by omega)).mono ?_; rintro e w1 ⟨l, o1, rfl, hst1, hl1⟩; rw [HOWN.out, HOTH.out] at hl1; have ST1 := Lib.hid hst1; have HL1 := Lib.hid hl1; clear hst1 hl1)
  go_upto_region 5 with (go_at_call 11; refine (linked_ok w1 (fun j => if j < w.heap.size then 0 else 14) (a2 % 1099511627777) (b2 % 1099511627777) (by omega) (by omega) (by omega) (by omega)).mono ?_; rintro e w2 ⟨l2, o2, rfl, hst2, hl2⟩; rw [HOWN2.out, HOTH2.out] at hl2; obtain ⟨ob, htwo⟩ := Two.made ST1.out.nil HL1.out hst2.nil hl2; have HT := Lib.hid htwo; clear hst2 hl2 htwo ST1 HL1)
  go_cut [58, 59, 60] (fun s31 s32 s33 wx => ∃ m0 : Nat, m0 ≤ n ∧ m0 ≤ 150 ∧ s31 = .slice A m0 c ∧ s32 = .int .i64 m0 ∧ s33 = .int .i64 0 ∧ wx = w2)
  case first =>
    cases A with
    | none =>
      obtain rfl := HAN.out rfl
      go_wp2_with fail
      go_meet
      exact ⟨0, Nat.le_refl _, by omega, rfl, rfl, rfl, rfl⟩
    | some ad =>
      clear HAN
      have hcase : n < 150 ∨ n = 150 ∨ 150 < n := by omega
      rcases hcase with hc3 | rfl | hc3
      · go_wp2_with fail
        go_meet
        exact ⟨n, Nat.le_refl _, by omega, rfl, rfl, rfl, rfl⟩
      · go_wp2_with fail
        go_meet
        exact ⟨150, Nat.le_refl _, by omega, rfl, rfl, rfl, rfl⟩
      · go_wp2_with fail
        go_meet
        exact ⟨150, by omega, by omega, rfl, rfl, rfl, rfl⟩
  case rest => as_aux_lemma =>
    obtain ⟨m0, hm1, hm2, rfl, rfl, rfl, rfl⟩ := hcut
    go_wp2_with fail
    go_loopw [60] (fun i wr => ∃ (k : Nat) (oa ob : Own) (X Y : ASide), k ≤ m0 ∧ i = .int .i64 k ∧ Hid (Two w wr oa ob l l2 own oth own2 oth2 X Y X Y k k)) (fun i _ => m0 - (intOf i).toNat)
    case atStart => exact ⟨0, ob, o2, side0, side0, Nat.zero_le _, rfl, HT⟩
    case round => as_aux_lemma =>
      obtain ⟨k, oa, ob', X, Y, hk, rfl, HK⟩ := hrel
      by_cases hlt : k < m0
      · obtain ⟨x, hx⟩ : ∃ x, ps[k]? = some x := ⟨_, List.getElem?_eq_getElem (by rw [HLN.out]; omega)⟩
        obtain ⟨g, off, hA, ho0, hg, hpp⟩ := HP.out.2.2.2 (by omega)
        obtain ⟨a1, a3, a4, BA, bn, bc, b0, b1, b2, b3, b4, b5⟩ := hpp k x hx
        subst hA
        obtain ⟨K, S, T, B⟩ := x
        simp only at a1 a3 a4 b0 b1 b2 b3 b4
        have upr : ∀ (q : Nat) (u : Value), w.cell? ⟨g, q, none⟩ = some u → wr.cell? ⟨g, q, none⟩ = some u := fun q u hu => (World.cell?_of_block (a := ⟨g, q, none⟩) (HK.out.sa.block g hg (by simp))).trans hu
        have d0 := upr _ _ b0; have d1 := upr _ _ b1; have d2 := upr _ _ b2; have d3 := upr _ _ b3
        have hT1 := HK.out.quiet ((Below.refl wr.heap.size wr).alloc (Nat.le_refl _) (.cells (opCells K S T BA bn bc) 29))
        have hst := step_any _ _ l 0 own oth X Y k hT1.la (by omega) K S T a1 a3 a4 BA bn bc B (b4.step hT1.sa (by simp)) b5
        have hgr : wr.heap.size < (wr.alloc (.cells (opCells K S T BA bn bc) 29)).heap.size := by simp
        have hop : ext oa wr.heap.size 12 wr.heap.size ∉ linkTags := by rw [ext_ge (Nat.le_refl _)]; simp
        have HB4 := Lib.hid b4
        have HT1 := Lib.hid hT1; have HS := Lib.hid hst; have HGR := Lib.hid hgr; have HOP := Lib.hid hop; have HX := Lib.hid hx
        clear hT1 hst b4 hpp hx hg upr b0 b1 b2 b3 hgr hop ho0
        go_upto_region 10 with (first
          | (go_at_call_of 12 (Value.pointer (some ⟨l, 0, none⟩)); refine HS.out.mono ?_; rintro e w3 ⟨rfl, o3, h1, h2⟩; obtain ⟨ob3, hT3⟩ := HT1.out.goes h1 h2; have HT3 := Lib.hid hT3; have f0 := h1.block _ HGR.out HOP.out; have u0 : w3.cell? ⟨wr.heap.size, 0, none⟩ = some (.int .u8 K) := (World.cell?_of_block (a := ⟨wr.heap.size, 0, none⟩) f0).trans (by simp [opCells]); have u1 : w3.cell? ⟨wr.heap.size, 1, none⟩ = some (.int .u8 S) := (World.cell?_of_block (a := ⟨wr.heap.size, 1, none⟩) f0).trans (by simp [opCells]); have u2 : w3.cell? ⟨wr.heap.size, 2, none⟩ = some (.int .u8 T) := (World.cell?_of_block (a := ⟨wr.heap.size, 2, none⟩) f0).trans (by simp [opCells]); have u3 : w3.cell? ⟨wr.heap.size, 3, none⟩ = some (.slice BA bn bc) := (World.cell?_of_block (a := ⟨wr.heap.size, 3, none⟩) f0).trans (by simp [opCells]); clear h1 h2 hT3 f0)
          | (go_at_call_of 12 (Value.pointer (some ⟨l2, 0, none⟩)); refine (step_any w3 ob3 l2 0 own2 oth2 X Y k HT3.out.lb (by omega) K S T a1 a3 a4 BA bn bc B (HB4.out.step HT3.out.sb (by simp)) b5).mono ?_; rintro e w4 ⟨rfl, o4, h1, h2⟩; obtain ⟨oa4, hT4⟩ := HT3.out.swap.goes h1 h2; have HT4 := Lib.hid hT4.swap; clear h1 h2 hT4 u0 u1 u2 u3))
        go_wp2_with fail
        obtain ⟨X4, hX4⟩ : ∃ X4, X4 = (stepA X Y ⟨K, S, T, B⟩).1 := ⟨_, rfl⟩
        obtain ⟨Y4, hY4⟩ : ∃ Y4, Y4 = (stepA X Y ⟨K, S, T, B⟩).2 := ⟨_, rfl⟩
        rw [← hX4, ← hY4] at HT4
        clear hX4 hY4 d0 d1 d2 d3 HS HT3 HT1
        go_loopw [74] (fun i w5 => ∃ (s : Nat) (oa ob : Own), s ≤ 2 ∧ i = .int .i64 s ∧ Hid (Two w w5 oa ob l l2 own oth own2 oth2 X4 Y4 X4 Y4 (k + 1) (k + 1))) (fun i _ => 2 - (intOf i).toNat)
        case atStart => exact ⟨0, _, _, by omega, rfl, HT4⟩
        case round => as_aux_lemma =>
          obtain ⟨s, oa5, ob5, hs2, rfl, H5⟩ := hrel
          by_cases hs : s < 2
          · obtain ⟨s', hss'⟩ : ∃ s', s + s' = 1 := ⟨1 - s, by omega⟩
            obtain ⟨ow, ot, ow2, ot2, Z, v, v2, f1, f2⟩ := H5.out.side (by omega) s s' hss'
            have c0 := f1.c0; have e0 := f2.c0
            have F1 := Lib.hid f1; have F2 := Lib.hid f2; have HSS := Lib.hid hss'
            have hs1 : (1 : Int) - (s : Int) = (s' : Int) := by omega
            clear f1 f2 hss'
            obtain ⟨N, hN⟩ : ∃ N, N = recN Z.e ot := ⟨_, rfl⟩
            obtain ⟨N2, hN2⟩ : ∃ N2, N2 = recN Z.e ot2 := ⟨_, rfl⟩
            obtain ⟨M, hM⟩ : ∃ M, M = recM Z.e := ⟨_, rfl⟩
            have HN := Lib.hid hN; have HN2 := Lib.hid hN2; have HM := Lib.hid hM; clear hN hN2 hM
            by_cases hh : 0 < Z.e.heard
            · have HD : Hid (decide (0 < Z.e.heard) = true) := Lib.hid (by simpa using hh)
              go_upto_region 15 with (first
                | (go_at_call_of 34 (Value.pointer (some ⟨v.e, 0, none⟩)); refine F1.out.received.mono ?_; rw [HD.out, ← HN.out, ← HM.out]; rintro e w6 ⟨rfl, q6, rfl⟩)
                | (go_at_call_of 34 (Value.pointer (some ⟨v2.e, 0, none⟩)); refine (F2.out.drewN q6).received.mono ?_; rw [HD.out, ← HN2.out, ← HM.out]; rintro e w6 ⟨rfl, q7, rfl⟩))
              go_cut [24, 25] (fun s24 s25 wx => ∃ A1 c1 A2 c2 oP oQ, s24 = .slice A1 Z.e.pend.length c1 ∧ s25 = .slice A2 Z.e.pend.length c2 ∧ Hid (Row wx oP 12 3 1 A1 Z.e.pend.length c1 (ints (Z.e.conc ow ot).pend) ∧ Row wx oQ 12 3 1 A2 Z.e.pend.length c2 (ints (Z.e.conc ow2 ot2).pend) ∧ Below wr.heap.size wr wx))
              case first =>
                have HPA := Lib.hid F1.out.pending
                have HPB := Lib.hid F2.out.pending
                have HKP : Hid (∀ w1, Below wr.heap.size wr w1 → w1.cell? ⟨l, s * 5, none⟩ = some (.pointer (some ⟨v.e, 0, none⟩)) ∧ w1.cell? ⟨l2, s * 5, none⟩ = some (.pointer (some ⟨v2.e, 0, none⟩))) := Lib.hid (fun w1 h => ⟨(h.cell F1.out.ll).trans F1.out.c0, (h.cell F2.out.ll).trans F2.out.c0⟩)
                have k0 : Hid (∀ q, Below wr.heap.size wr (wr.drewN q)) := Lib.hid (fun q => Go.Proofs.Ytpmbfgpfpdenbaa.Below.drewN_ (Below.refl _ wr) q)
                go_region_held3 (fun w' => w'.cell? ⟨l, s * 5, none⟩ = some (.pointer (some ⟨v.e, 0, none⟩)) ∧ w'.cell? ⟨l2, s * 5, none⟩ = some (.pointer (some ⟨v2.e, 0, none⟩))) (first | exact ⟨c0, e0⟩ | exact ⟨ca1, ca2⟩ | exact ⟨cb1, cb2⟩)
                  (first
                    | (go_at_call_of 13 (Value.pointer (some ⟨v.e, 0, none⟩)); refine (HPA.out _ (by first | exact k0.out _ | exact kB.out)).mono ?_; rintro e wA ⟨PA, cA, oA, rfl, hrA, hbA⟩; have kA' : Below wr.heap.size wr wA := (by first | exact (k0.out _).trans hbA | exact kB.out.trans (hbA.mono kB.out.size)); have kA := Lib.hid kA'; obtain ⟨ca1, ca2⟩ := HKP.out wA kA'; have HRA := Lib.hid hrA; have HBA := Lib.hid hbA; clear hrA hbA kA')
                    | (go_at_call_of 13 (Value.pointer (some ⟨v2.e, 0, none⟩)); refine (HPB.out _ (by first | exact k0.out _ | exact kA.out)).mono ?_; rintro e wB ⟨PB, cB, oB, rfl, hrB, hbB⟩; have kB' : Below wr.heap.size wr wB := (by first | exact (k0.out _).trans hbB | exact kA.out.trans (hbB.mono kA.out.size)); have kB := Lib.hid kB'; obtain ⟨cb1, cb2⟩ := HKP.out wB kB'; have HRB := Lib.hid hrB; have HBB := Lib.hid hbB; clear hrB hbB kB'))
                all_goals
                  go_wp2_with fail
                  go_meet
                  first
                    | exact ⟨PA, cA, PB, cB, _, _, rfl, rfl, Lib.hid ⟨HRA.out.step ((Step.refl [] wA oA).below HBB.out 12) (by simp), HRB.out, kB.out⟩⟩
                    | exact ⟨PA, cA, PB, cB, _, _, rfl, rfl, Lib.hid ⟨HRA.out, HRB.out.step ((Step.refl [] wB oB).below HBA.out 12) (by simp), kA.out⟩⟩
              case rest => as_aux_lemma =>
                obtain ⟨A1, c1, A2, c2, oP, oQ, rfl, rfl, hrr⟩ := hcut
                have HR1 := Lib.hid hrr.out.1; have HR2 := Lib.hid hrr.out.2.1; have HBX := Lib.hid hrr.out.2.2
                clear hrr c0 e0
                have G1 := Lib.hid (F1.out.step ((Step.refl [] wr oa5).below HBX.out 12)); have G2 := Lib.hid (F2.out.step ((Step.refl [] wr ob5).below HBX.out 12))
                clear F1 F2
                have x1 := G1.out.c1; have x2 := G1.out.c2; have x3 := G1.out.c3; have x4 := G1.out.c4; have x5 := G1.out.d4
                have y1 := G2.out.c1; have y2 := G2.out.c2; have y3 := G2.out.c3; have y4 := G2.out.c4; have y5 := G2.out.d4
                have hb1 := G1.out.b1; have hb2 := G1.out.b2; have hpl := G1.out.pl
                have ho0 := G1.out.o0; have ho1 := G1.out.o1; have ho2 := G2.out.o0; have ho3 := G2.out.o1
                have hp0 := G1.out.p0; have hp1 := G1.out.p1; have hp2 := G2.out.p0; have hp3 := G2.out.p1
                have hhr := G1.out.hr
                have eN : N - ot = (Z.e.heard : Int) - 1 := by rw [HN.out]; simp only [recN, hh, if_true]; omega
                have eN2 : N2 - ot2 = (Z.e.heard : Int) - 1 := by rw [HN2.out]; simp only [recN, hh, if_true]; omega
                have bN : 0 ≤ N ∧ N ≤ 2000000000000 ∧ 0 ≤ N2 ∧ N2 ≤ 2000000000000 := by omega
                obtain ⟨bN1, bN2, bN3, bN4⟩ := bN
                go_wp2_with fail
                go_quiet (fail)
                go_wp2_with fail
                go_loopw [171] (fun i wt => ∃ (j q : Nat), j ≤ Z.e.pend.length ∧ i = .int .i64 j ∧ wt = wc.drewN q) (fun i _ => Z.e.pend.length - (intOf i).toNat)
                case atStart => exact ⟨0, _, Nat.zero_le _, rfl, rfl⟩
                case round => as_aux_lemma =>
                  obtain ⟨j, q, hj, rfl, rfl⟩ := hrel
                  by_cases hjl : j < Z.e.pend.length
                  · obtain ⟨p, hp⟩ : ∃ p, Z.e.pend[j]? = some p := ⟨_, List.getElem?_eq_getElem hjl⟩
                    have hpm := G1.out.pm p (List.mem_of_getElem? hp)
                    have hnb := G1.out.nb
                    obtain ⟨g1, hA1, -, d1, -⟩ := HR1.out.at_ hjl
                    obtain ⟨g2, hA2, -, d2, -⟩ := HR2.out.at_ hjl
                    subst hA1; subst hA2
                    have d3 := d1.trans (show (ints (Z.e.conc ow ot).pend)[j]? = some (.int .i64 (ow + (p : Int))) by simp only [AEnd.conc, ints, List.map_map, List.getElem?_map, hp]; rfl)
                    have d4 := d2.trans (show (ints (Z.e.conc ow2 ot2).pend)[j]? = some (.int .i64 (ow2 + (p : Int))) by simp only [AEnd.conc, ints, List.map_map, List.getElem?_map, hp]; rfl)
                    have q1 : ow + (p : Int) - ow = (p : Int) := by omega
                    have q2 : ow2 + (p : Int) - ow2 = (p : Int) := by omega
                    have hpb : p ≤ 900 := by omega
                    clear d1 d2 hpm hp hnb
                    go_wp2_with fail
                    go_quiet (fail)
                    go_wp2_with fail
                    go_roundw
                    case rel => exact ⟨j + 1, _, by omega, by go_num, by first | rfl | rw [World.drewN_drewN]⟩
                    case measure => simp [intOf]; omega
                  · obtain rfl : Z.e.pend.length = j := by omega
                    go_wp2_with fail
                    go_loopw [205] (fun i wt => ∃ (j q : Nat), j ≤ Z.bodies.length ∧ i = .int .i64 j ∧ wt = wc.drewN q) (fun i _ => Z.bodies.length - (intOf i).toNat)
                    case atStart => exact ⟨0, _, Nat.zero_le _, rfl, rfl⟩
                    case round => as_aux_lemma =>
                      obtain ⟨j, q, hj, rfl, rfl⟩ := hrel
                      by_cases hjl : j < Z.bodies.length
                      · obtain ⟨p, hp⟩ : ∃ p, Z.bodies[j]? = some p := ⟨_, List.getElem?_eq_getElem hjl⟩
                        obtain ⟨p2, hp2⟩ : ∃ p, Z.reports[j]? = some p := ⟨_, List.getElem?_eq_getElem (by have := G1.out.nb; have := G1.out.nr; omega)⟩
                        obtain ⟨g1, hA1, -, d1, -⟩ := G1.out.bodies.at_ hjl
                        obtain ⟨g2, hA2, -, d2, -⟩ := G2.out.bodies.at_ hjl
                        obtain ⟨g3, hA3, -, d3, -⟩ := G1.out.reports.at_ hjl
                        obtain ⟨g4, hA4, -, d4, -⟩ := G2.out.reports.at_ hjl
                        rw [hA1] at x2; rw [hA2] at y2; rw [hA3] at x3; rw [hA4] at y3
                        have e1 : (nats Z.bodies)[j]? = some (.int .i64 (p : Int)) := by simp [nats, hp]
                        have e2 : (nats Z.reports)[j]? = some (.int .i64 (p2 : Int)) := by simp [nats, hp2]
                        have d5 := d1.trans e1; have d6 := d2.trans e1; have d7 := d3.trans e2; have d8 := d4.trans e2
                        clear d1 d2 d3 d4 e1 e2 hp hp2 hA1 hA2 hA3 hA4
                        go_wp2_with fail
                        go_quiet (fail)
                        go_wp2_with fail
                        go_roundw
                        case rel => exact ⟨j + 1, _, by omega, by go_num, by first | rfl | rw [World.drewN_drewN]⟩
                        case measure => simp [intOf]; omega
                      · obtain rfl : Z.bodies.length = j := by omega
                        go_wp2_with fail
                        go_roundw
                        case rel => exact ⟨s + 1, _, _, by omega, by go_num, Lib.hid (H5.out.quiet (Go.Proofs.Ytpmbfgpfpdenbaa.Below.drewN_ HBX.out _))⟩
                        case measure => simp [intOf]; omega
            · have HD : Hid (decide (0 < Z.e.heard) = false) := Lib.hid (by simpa using hh)
              go_upto_region 15 with (first
                | (go_at_call_of 34 (Value.pointer (some ⟨v.e, 0, none⟩)); refine F1.out.received.mono ?_; rw [HD.out, ← HN.out, ← HM.out]; rintro e w6 ⟨rfl, q6, rfl⟩)
                | (go_at_call_of 34 (Value.pointer (some ⟨v2.e, 0, none⟩)); refine (F2.out.drewN q6).received.mono ?_; rw [HD.out, ← HN2.out, ← HM.out]; rintro e w6 ⟨rfl, q7, rfl⟩))
              go_cut [24, 25] (fun s24 s25 wx => ∃ A1 c1 A2 c2 oP oQ, s24 = .slice A1 Z.e.pend.length c1 ∧ s25 = .slice A2 Z.e.pend.length c2 ∧ Hid (Row wx oP 12 3 1 A1 Z.e.pend.length c1 (ints (Z.e.conc ow ot).pend) ∧ Row wx oQ 12 3 1 A2 Z.e.pend.length c2 (ints (Z.e.conc ow2 ot2).pend) ∧ Below wr.heap.size wr wx))
              case first =>
                have HPA := Lib.hid F1.out.pending
                have HPB := Lib.hid F2.out.pending
                have HKP : Hid (∀ w1, Below wr.heap.size wr w1 → w1.cell? ⟨l, s * 5, none⟩ = some (.pointer (some ⟨v.e, 0, none⟩)) ∧ w1.cell? ⟨l2, s * 5, none⟩ = some (.pointer (some ⟨v2.e, 0, none⟩))) := Lib.hid (fun w1 h => ⟨(h.cell F1.out.ll).trans F1.out.c0, (h.cell F2.out.ll).trans F2.out.c0⟩)
                have k0 : Hid (∀ q, Below wr.heap.size wr (wr.drewN q)) := Lib.hid (fun q => Go.Proofs.Ytpmbfgpfpdenbaa.Below.drewN_ (Below.refl _ wr) q)
                go_region_held3 (fun w' => w'.cell? ⟨l, s * 5, none⟩ = some (.pointer (some ⟨v.e, 0, none⟩)) ∧ w'.cell? ⟨l2, s * 5, none⟩ = some (.pointer (some ⟨v2.e, 0, none⟩))) (first | exact ⟨c0, e0⟩ | exact ⟨ca1, ca2⟩ | exact ⟨cb1, cb2⟩)
                  (first
                    | (go_at_call_of 13 (Value.pointer (some ⟨v.e, 0, none⟩)); refine (HPA.out _ (by first | exact k0.out _ | exact kB.out)).mono ?_; rintro e wA ⟨PA, cA, oA, rfl, hrA, hbA⟩; have kA' : Below wr.heap.size wr wA := (by first | exact (k0.out _).trans hbA | exact kB.out.trans (hbA.mono kB.out.size)); have kA := Lib.hid kA'; obtain ⟨ca1, ca2⟩ := HKP.out wA kA'; have HRA := Lib.hid hrA; have HBA := Lib.hid hbA; clear hrA hbA kA')
                    | (go_at_call_of 13 (Value.pointer (some ⟨v2.e, 0, none⟩)); refine (HPB.out _ (by first | exact k0.out _ | exact kA.out)).mono ?_; rintro e wB ⟨PB, cB, oB, rfl, hrB, hbB⟩; have kB' : Below wr.heap.size wr wB := (by first | exact (k0.out _).trans hbB | exact kA.out.trans (hbB.mono kA.out.size)); have kB := Lib.hid kB'; obtain ⟨cb1, cb2⟩ := HKP.out wB kB'; have HRB := Lib.hid hrB; have HBB := Lib.hid hbB; clear hrB hbB kB'))
                all_goals
                  go_wp2_with fail
                  go_meet
                  first
                    | exact ⟨PA, cA, PB, cB, _, _, rfl, rfl, Lib.hid ⟨HRA.out.step ((Step.refl [] wA oA).below HBB.out 12) (by simp), HRB.out, kB.out⟩⟩
                    | exact ⟨PA, cA, PB, cB, _, _, rfl, rfl, Lib.hid ⟨HRA.out, HRB.out.step ((Step.refl [] wB oB).below HBA.out 12) (by simp), kA.out⟩⟩
              case rest => as_aux_lemma =>
                obtain ⟨A1, c1, A2, c2, oP, oQ, rfl, rfl, hrr⟩ := hcut
                have HR1 := Lib.hid hrr.out.1; have HR2 := Lib.hid hrr.out.2.1; have HBX := Lib.hid hrr.out.2.2
                clear hrr c0 e0
                have G1 := Lib.hid (F1.out.step ((Step.refl [] wr oa5).below HBX.out 12)); have G2 := Lib.hid (F2.out.step ((Step.refl [] wr ob5).below HBX.out 12))
                clear F1 F2
                have x1 := G1.out.c1; have x2 := G1.out.c2; have x3 := G1.out.c3; have x4 := G1.out.c4; have x5 := G1.out.d4
                have y1 := G2.out.c1; have y2 := G2.out.c2; have y3 := G2.out.c3; have y4 := G2.out.c4; have y5 := G2.out.d4
                have hb1 := G1.out.b1; have hb2 := G1.out.b2; have hpl := G1.out.pl
                have ho0 := G1.out.o0; have ho1 := G1.out.o1; have ho2 := G2.out.o0; have ho3 := G2.out.o1
                have hp0 := G1.out.p0; have hp1 := G1.out.p1; have hp2 := G2.out.p0; have hp3 := G2.out.p1
                have hhr := G1.out.hr
                go_wp2_with fail
                go_quiet (fail)
                go_wp2_with fail
                go_loopw [171] (fun i wt => ∃ (j q : Nat), j ≤ Z.e.pend.length ∧ i = .int .i64 j ∧ wt = wc.drewN q) (fun i _ => Z.e.pend.length - (intOf i).toNat)
                case atStart => exact ⟨0, _, Nat.zero_le _, rfl, rfl⟩
                case round => as_aux_lemma =>
                  obtain ⟨j, q, hj, rfl, rfl⟩ := hrel
                  by_cases hjl : j < Z.e.pend.length
                  · obtain ⟨p, hp⟩ : ∃ p, Z.e.pend[j]? = some p := ⟨_, List.getElem?_eq_getElem hjl⟩
                    have hpm := G1.out.pm p (List.mem_of_getElem? hp)
                    have hnb := G1.out.nb
                    obtain ⟨g1, hA1, -, d1, -⟩ := HR1.out.at_ hjl
                    obtain ⟨g2, hA2, -, d2, -⟩ := HR2.out.at_ hjl
                    subst hA1; subst hA2
                    have d3 := d1.trans (show (ints (Z.e.conc ow ot).pend)[j]? = some (.int .i64 (ow + (p : Int))) by simp only [AEnd.conc, ints, List.map_map, List.getElem?_map, hp]; rfl)
                    have d4 := d2.trans (show (ints (Z.e.conc ow2 ot2).pend)[j]? = some (.int .i64 (ow2 + (p : Int))) by simp only [AEnd.conc, ints, List.map_map, List.getElem?_map, hp]; rfl)
                    have q1 : ow + (p : Int) - ow = (p : Int) := by omega
                    have q2 : ow2 + (p : Int) - ow2 = (p : Int) := by omega
                    have hpb : p ≤ 900 := by omega
                    clear d1 d2 hpm hp hnb
                    go_wp2_with fail
                    go_quiet (fail)
                    go_wp2_with fail
                    go_roundw
                    case rel => exact ⟨j + 1, _, by omega, by go_num, by first | rfl | rw [World.drewN_drewN]⟩
                    case measure => simp [intOf]; omega
                  · obtain rfl : Z.e.pend.length = j := by omega
                    go_wp2_with fail
                    go_loopw [205] (fun i wt => ∃ (j q : Nat), j ≤ Z.bodies.length ∧ i = .int .i64 j ∧ wt = wc.drewN q) (fun i _ => Z.bodies.length - (intOf i).toNat)
                    case atStart => exact ⟨0, _, Nat.zero_le _, rfl, rfl⟩
                    case round => as_aux_lemma =>
                      obtain ⟨j, q, hj, rfl, rfl⟩ := hrel
                      by_cases hjl : j < Z.bodies.length
                      · obtain ⟨p, hp⟩ : ∃ p, Z.bodies[j]? = some p := ⟨_, List.getElem?_eq_getElem hjl⟩
                        obtain ⟨p2, hp2⟩ : ∃ p, Z.reports[j]? = some p := ⟨_, List.getElem?_eq_getElem (by have := G1.out.nb; have := G1.out.nr; omega)⟩
                        obtain ⟨g1, hA1, -, d1, -⟩ := G1.out.bodies.at_ hjl
                        obtain ⟨g2, hA2, -, d2, -⟩ := G2.out.bodies.at_ hjl
                        obtain ⟨g3, hA3, -, d3, -⟩ := G1.out.reports.at_ hjl
                        obtain ⟨g4, hA4, -, d4, -⟩ := G2.out.reports.at_ hjl
                        rw [hA1] at x2; rw [hA2] at y2; rw [hA3] at x3; rw [hA4] at y3
                        have e1 : (nats Z.bodies)[j]? = some (.int .i64 (p : Int)) := by simp [nats, hp]
                        have e2 : (nats Z.reports)[j]? = some (.int .i64 (p2 : Int)) := by simp [nats, hp2]
                        have d5 := d1.trans e1; have d6 := d2.trans e1; have d7 := d3.trans e2; have d8 := d4.trans e2
                        clear d1 d2 d3 d4 e1 e2 hp hp2 hA1 hA2 hA3 hA4
                        go_wp2_with fail
                        go_quiet (fail)
                        go_wp2_with fail
                        go_roundw
                        case rel => exact ⟨j + 1, _, by omega, by go_num, by first | rfl | rw [World.drewN_drewN]⟩
                        case measure => simp [intOf]; omega
                      · obtain rfl : Z.bodies.length = j := by omega
                        go_wp2_with fail
                        go_roundw
                        case rel => exact ⟨s + 1, _, _, by omega, by go_num, Lib.hid (H5.out.quiet (Go.Proofs.Ytpmbfgpfpdenbaa.Below.drewN_ HBX.out _))⟩
                        case measure => simp [intOf]; omega
          · obtain rfl : s = 2 := by omega
            go_wp2_with fail
            go_roundw
            case rel => exact ⟨k + 1, _, _, X4, Y4, by omega, by go_num, H5⟩
            case measure => simp [intOf]; omega
      · obtain rfl : m0 = k := by omega
        go_wp2_with (go_at_call 14; refine (awake_any wr).mono ?_; rintro e w9 ⟨rfl, hb9⟩)
        go_ret
        exact ⟨rfl, (HK.out.sa.below hb9 12).old (by simp)⟩
end Go.Proofs.Ytpmbfgpfpdenbaa

