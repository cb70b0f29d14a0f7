/-
  WALK of PacketHonest. (Printed by wip/gen/gen_honest.py.)
-/
import Derived.Test.YtpmbfgpfpdenbaaWalkL
import Derived.Test.YtpmbfgpfpdenbaaAwake
import Derived.Deep.DeepCutAuto
namespace Go.Proofs.Ytpmbfgpfpdenbaa
open Go.RowKit

/-- A script as it came in. -/
def OpsAt (w : World) (o : Own) (τ : Nat) (A : Option Addr) (n c : Nat) (ps : List OpV) : Prop :=
  ps.length = n ∧ n ≤ c ∧ c ≤ maxLen ∧ (0 < n → ∃ g off, A = some ⟨g, off, none⟩ ∧ o g = τ ∧ g < w.heap.size ∧ ∀ (i : Nat) (p : OpV), ps[i]? = some p → p.K < 256 ∧ p.S < 256 ∧ p.T < 256 ∧ ∃ BA bn bc,
    w.cell? ⟨g, off + i * 4, none⟩ = some (.int .u8 p.K) ∧ w.cell? ⟨g, off + i * 4 + 1, none⟩ = some (.int .u8 p.S) ∧ w.cell? ⟨g, off + i * 4 + 2, none⟩ = some (.int .u8 p.T) ∧ w.cell? ⟨g, off + i * 4 + 3, none⟩ = some (.slice BA bn bc) ∧ Sl w o τ 1 BA bn bc (byts p.B) ∧ bn ≤ 9223372036854775807)

theorem OpsAt.step {w w' : World} {o o' : Own} {τ : Nat} {A : Option Addr} {n c : Nat} {ps : List OpV} {ts : List Nat} (h : OpsAt w o τ A n c ps) (hs : Step ts w o w' o') (hτ : τ ∉ ts) : OpsAt w' o' τ A n c ps := by
  obtain ⟨h1, h2, h3, h4⟩ := h
  refine ⟨h1, h2, h3, fun hn => ?_⟩
  obtain ⟨g, off, hA, ho, hg, hp⟩ := h4 hn
  have hb := hs.block g hg (by rw [ho]; exact hτ)
  refine ⟨g, off, hA, (hs.own g hg).trans ho, Nat.lt_of_lt_of_le hg hs.size, fun i p hi => ?_⟩
  obtain ⟨a1, a2, a3, BA, bn, bc, b0, b1, b2, b3, b4, b5⟩ := hp i p hi
  have up : ∀ (k : Nat) (x : Value), w.cell? ⟨g, k, none⟩ = some x → w'.cell? ⟨g, k, none⟩ = some x := fun k x hx => (World.cell?_of_block (a := ⟨g, k, none⟩) hb).trans hx
  exact ⟨a1, a2, a3, BA, bn, bc, up _ _ b0, up _ _ b1, up _ _ b2, up _ _ b3, b4.step hs hτ, b5⟩

/-- What the ledger says of a side's pending packets. -/
theorem LinkOk.pend {w : World} {o : Own} {l : Nat} {own other : Int} {X Y : ASide} {m : Nat} (h : LinkOk w o l own other X Y m) (hm : m ≤ 900) : ∃ v u : SideV,
    (w.cell? ⟨l, 0, none⟩ = some (.pointer (some ⟨v.e, 0, none⟩)) ∧ w.cell? ⟨l, 3, none⟩ = some (.slice v.rA v.rn v.rc) ∧ w.cell? ⟨l, 4, none⟩ = some (.int .i64 own) ∧ EndAt w o 2 v.e (X.e.conc own other) ∧ (X.e.conc own other).Fit ∧ v.rn = X.bodies.length ∧ Row w o 8 3 1 v.rA v.rn v.rc (nats X.reports)) ∧
    (w.cell? ⟨l, 5, none⟩ = some (.pointer (some ⟨u.e, 0, none⟩)) ∧ w.cell? ⟨l, 8, none⟩ = some (.slice u.rA u.rn u.rc) ∧ w.cell? ⟨l, 9, none⟩ = some (.int .i64 other) ∧ EndAt w o 3 u.e (Y.e.conc other own) ∧ (Y.e.conc other own).Fit ∧ u.rn = Y.bodies.length ∧ Row w o 9 3 1 u.rA u.rn u.rc (nats Y.reports)) := by
  obtain ⟨⟨v, u, cells, hl⟩, hI, hI', hz, o0, o1, p0, p1⟩ := h
  have z1 := hz.bx; have z2 := hz.bY
  refine ⟨v, u, ⟨(hl.b.cell _).trans hl.cx.c0, (hl.b.cell _).trans hl.cx.c3, (hl.b.cell _).trans hl.cx.c4, hl.x.e, conc_fit hI o0 o1 p0 p1 (by omega) (by omega), ?_, hl.x.reports⟩, ⟨(hl.b.cell _).trans hl.cy.c0, (hl.b.cell _).trans hl.cy.c3, (hl.b.cell _).trans hl.cy.c4, hl.y.e, conc_fit hI' p0 p1 o0 o1 (by omega) (by omega), ?_, hl.y.reports⟩⟩
  · have := hl.x.reports.len; have := hI.nr; simp at *; omega
  · have := hl.y.reports.len; have := hI'.nr; simp at *; omega

abbrev allTags : List Nat := [1, 2, 3, 4, 5, 6, 7, 8, 9, 12]

set_option maxRecDepth 100000 in
set_option maxHeartbeats 4000000 in
theorem PacketHonest_walk (w : World) (a b : Int) (ha : 0 ≤ a) (hb : 0 ≤ b) (A : Option Addr) (n c : Nat) (ps : List OpV) (hP : OpsAt w (fun _ => 0) 0 A n c ps) :
    Calls Try.prog 3 #[.int .u64 a, .int .u64 b, .slice A n c] w fun e w' => e = .returned (.bool true) ∧ Below w.heap.size w w' := by
  obtain ⟨own, hown⟩ : ∃ own : Int, own = a % 1099511627777 := ⟨_, rfl⟩
  obtain ⟨oth, hoth⟩ : ∃ oth : Int, oth = b % 1099511627777 := ⟨_, rfl⟩
  have ho : 0 ≤ own ∧ own ≤ 1099511627776 := by omega
  have hp : 0 ≤ oth ∧ oth ≤ 1099511627776 := by omega
  obtain ⟨ho0, ho1⟩ := ho; obtain ⟨hp0, hp1⟩ := hp
  have HOWN := Lib.hid hown.symm; have HOTH := Lib.hid hoth.symm; clear hown hoth
  have hc1 := hP.2.1; have hc2 := hP.2.2.1
  unfold maxLen at hc2
  have hlen : ps.length = n := hP.1
  have hAn : A = none → n = 0 := by
    intro h
    rcases Nat.eq_zero_or_pos n with h0 | h0
    · exact h0
    · obtain ⟨g, off, hA, -⟩ := hP.2.2.2 h0; rw [h] at hA; cases hA
  have HP := Lib.hid hP; have HLN := Lib.hid hlen; have HAN := Lib.hid hAn
  clear hP hlen hAn
  go_enter Try.func3, Try.ntmps3
  go_upto_region 4 with (go_at_call 11; refine (linked_ok w (fun _ => 0) (a % 1099511627777) (b % 1099511627777) (by omega) (by omega) (by omega) (by omega)).mono ?_; rintro e w1 ⟨l, o1, rfl, hst1, hl1⟩; rw [HOWN.out, HOTH.out] at hl1; have ST1 := Lib.hid hst1; have HL1 := Lib.hid hl1; clear hst1 hl1)
  go_cut [31, 32, 33] (fun s31 s32 s33 wx => ∃ m0 : Nat, m0 ≤ n ∧ m0 ≤ 300 ∧ s31 = .slice A m0 c ∧ s32 = .int .i64 m0 ∧ s33 = .int .i64 0 ∧ wx = w1)
  case first =>
    cases A with
    | none =>
      obtain rfl := HAN.out rfl
      go_wp2_with fail
      go_meet
      exact ⟨0, Nat.le_refl _, by omega, rfl, rfl, rfl, rfl⟩
    | some ad =>
      clear HAN
      have hcase : n < 300 ∨ n = 300 ∨ 300 < n := by omega
      rcases hcase with hc3 | rfl | hc3
      · go_wp2_with fail
        go_meet
        exact ⟨n, Nat.le_refl _, by omega, rfl, rfl, rfl, rfl⟩
      · go_wp2_with fail
        go_meet
        exact ⟨300, Nat.le_refl _, by omega, rfl, rfl, rfl, rfl⟩
      · go_wp2_with fail
        go_meet
        exact ⟨300, by omega, by omega, rfl, rfl, rfl, rfl⟩
  case rest =>
    obtain ⟨m0, hm1, hm2, rfl, rfl, rfl, rfl⟩ := hcut
    go_wp2_with fail
    go_loopw [33] (fun i wr => ∃ (k : Nat) (o' : Own) (X Y : ASide), k ≤ m0 ∧ i = .int .i64 k ∧ Hid (Step allTags w (fun _ => 0) wr o' ∧ LinkOk wr o' l own oth X Y k)) (fun i _ => m0 - (intOf i).toNat)
    case atStart => exact ⟨0, o1, side0, side0, Nat.zero_le _, rfl, Lib.hid ⟨ST1.out.nil, HL1.out⟩⟩
    case round =>
      obtain ⟨k, ok, X, Y, hk, rfl, HK⟩ := hrel
      by_cases hlt : k < m0
      · obtain ⟨x, hx⟩ : ∃ x, ps[k]? = some x := ⟨_, List.getElem?_eq_getElem (by rw [HLN.out]; omega)⟩
        obtain ⟨g, off, hA, -, hg, hpp⟩ := (HP.out.step HK.out.1 (by simp)).2.2.2 (by omega)
        obtain ⟨a1, a2, a3, BA, bn, bc, b0, b1, b2, b3, b4, b5⟩ := hpp k x hx
        subst hA
        obtain ⟨K, S, T, B⟩ := x
        simp only at a1 a2 a3 b0 b1 b2 b3 b4
        have sta := (Step.refl [] wr ok).alloc (.cells (opCells K S T BA bn bc) 29) 12
        have hst := step_any _ _ l 0 own oth X Y k (HK.out.2.step sta (by simp)) (by omega) K S T a1 a2 a3 BA bn bc B (b4.step sta (by simp)) b5
        have STA := Lib.hid sta; have HS := Lib.hid hst
        clear sta hst b4 hpp hx hg
        go_wp2_with (go_at_call 12; refine HS.out.mono ?_; rintro e w2 ⟨rfl, o2, h1, h2⟩; have ST2 := Lib.hid h1; have HL2 := Lib.hid h2; clear h1 h2)
        go_roundw
        case rel => exact ⟨k + 1, o2, _, _, by omega, by go_num, Lib.hid ⟨HK.out.1.trans ((STA.out.nil.trans ST2.out).mono (by simp)), HL2.out⟩⟩
        case measure => simp [intOf]; omega
      · obtain rfl : m0 = k := by omega
        have hkb : m0 ≤ 900 := by omega
        obtain ⟨v, u, ⟨v0, v3, v4, vE, vF, vr, vR⟩, ⟨u0, u3, u4, uE, uF, ur, uR⟩⟩ := HK.out.2.pend hkb
        have VE := Lib.hid vE; have VF := Lib.hid vF; have VN := Lib.hid vr; have VR := Lib.hid vR; have UE := Lib.hid uE; have UF := Lib.hid uF; have UN := Lib.hid ur; have UR := Lib.hid uR
        have hvb : v.rn ≤ 900 ∧ u.rn ≤ 900 := by have := HK.out.2.sized.bx; have := HK.out.2.sized.bY; omega
        obtain ⟨hvb1, hvb2⟩ := hvb
        have hlz := World.block_lt_of_cell? wr _ v0
        simp only at hlz
        clear vE vF vr vR uE uF ur uR
        go_wp2_with fail
        refine wp_loop_rounds 3 ?_
        rw [rounds_succ]
        go_wp2_with fail
        refine (Pending_ok wr ok 2 12 v.e _ VE.out VF.out).mono ?_
        rintro e wq00 ⟨PA00, pc00, rfl, hr, hbl⟩
        have sq : Step [] wr ok wq00 (ext ok wr.heap.size 12) := (Step.refl [] wr ok).below hbl 12
        have upc : ∀ (a : Addr) (x : Value), wr.cell? a = some x → wq00.cell? a = some x := fun a x hx => (World.cell?_of_block (sq.block a.block (World.block_lt_of_cell? wr a hx) (by simp))).trans hx
        have v0' := upc _ _ v0; have v3' := upc _ _ v3; have v4' := upc _ _ v4; have u0' := upc _ _ u0; have u3' := upc _ _ u3; have u4' := upc _ _ u4
        clear v0 v3 v4 u0 u3 u4 upc hbl; have v0 := v0'; have v3 := v3'; have v4 := v4'; have u0 := u0'; have u3 := u3'; have u4 := u4'; clear v0' v3' v4' u0' u3' u4'
        have VE' := Lib.hid (VE.out.step sq (by simp)); have UE' := Lib.hid (UE.out.step sq (by simp)); have VR' := Lib.hid (VR.out.step sq (by simp)); have UR' := Lib.hid (UR.out.step sq (by simp)); have HK' := Lib.hid (HK.out.1.trans sq.nil)
        have HKL := HK; clear HK; have HK : Hid (Step allTags w (fun _ => 0) wq00 (ext ok wr.heap.size 12) ∧ True) := Lib.hid ⟨HK'.out, trivial⟩; clear HK'
        clear VE UE VR UR; have VE := VE'; have UE := UE'; have VR := VR'; have UR := UR'; clear VE' UE' VR' UR'
        obtain ⟨ok00, hoo⟩ : ∃ oo, oo = ext ok wr.heap.size 12 := ⟨_, rfl⟩
        rw [← hoo] at VE UE VR UR HK hr; clear hoo sq
        have HPR := Lib.hid hr; clear hr
        have hpl : (X.e.conc own oth).pend.length ≤ 256 := VF.out.len
        obtain ⟨pl, hpl2⟩ : ∃ pl, pl = (X.e.conc own oth).pend.length := ⟨_, rfl⟩
        rw [← hpl2] at HPR hpl ⊢
        have HPL := Lib.hid hpl2; clear hpl2
        go_wp2_with fail
        go_loop [53] (fun i => ∃ j : Nat, j ≤ pl ∧ i = .int .i64 j) (fun i => pl - (intOf i).toNat)
        case atStart => exact ⟨0, Nat.zero_le _, rfl⟩
        case round =>
          obtain ⟨j, hj, rfl⟩ := hrel
          by_cases hjl : j < pl
          · obtain ⟨q, hq⟩ : ∃ q, X.e.pend[j]? = some q := ⟨_, List.getElem?_eq_getElem (by have := HPL.out; simp only [AEnd.conc, List.length_map] at this; omega)⟩
            have hpm := HKL.out.2.inv.pmem q (List.mem_of_getElem? hq)
            obtain ⟨g1, hPA, -, d1, -⟩ := HPR.out.at_ hjl
            subst hPA
            have d2 : (ints (X.e.conc own oth).pend)[j]? = some (.int .i64 (own + (q : Int))) := by simp only [AEnd.conc, ints, List.map_map, List.getElem?_map, hq]; rfl
            have d3 := d1.trans d2
            have hqr : q < v.rn := by have := VN.out; omega
            obtain ⟨g2, hRA, -, d4, -⟩ := VR.out.at_ hqr
            have d5 : (nats X.reports)[q]? = some (.int .i64 0) := by rw [nats_get (by have := HKL.out.2.inv.nr; omega), hpm.2]; rfl
            have d6 := d4.trans d5
            obtain ⟨rA, hrA⟩ : ∃ rA, rA = v.rA := ⟨_, rfl⟩
            rw [← hrA] at v3 hRA
            clear hrA
            subst hRA
            have e1 : own + (q : Int) - own = (q : Int) := by omega
            have e2 : decide (((q : Int)) < 0) = false := by simp
            have e3 : decide (v.rn ≤ q) = false := by simp; omega
            have hqb : q ≤ 900 := by omega
            have hq5 : 0 ≤ own + (q : Int) ∧ own + (q : Int) ≤ 2000000000000 := by omega
            obtain ⟨hq6, hq7⟩ := hq5
            clear d1 d2 d4 d5 hpm hq
            go_wp2_with fail
            go_round
            case rel => exact ⟨j + 1, by omega, by go_num⟩
            case measure => simp [intOf]; omega
          · obtain rfl : pl = j := by omega
            go_wp2_with fail
            refine (Pending_ok wq00 ok00 2 12 v.e _ VE.out VF.out).mono ?_
            rintro e wq01 ⟨PA01, pc01, rfl, hr, hbl⟩
            have sq : Step [] wq00 ok00 wq01 (ext ok00 wq00.heap.size 12) := (Step.refl [] wq00 ok00).below hbl 12
            have upc : ∀ (a : Addr) (x : Value), wq00.cell? a = some x → wq01.cell? a = some x := fun a x hx => (World.cell?_of_block (sq.block a.block (World.block_lt_of_cell? wq00 a hx) (by simp))).trans hx
            have v0' := upc _ _ v0; have v3' := upc _ _ v3; have v4' := upc _ _ v4; have u0' := upc _ _ u0; have u3' := upc _ _ u3; have u4' := upc _ _ u4
            clear v0 v3 v4 u0 u3 u4 upc hbl; have v0 := v0'; have v3 := v3'; have v4 := v4'; have u0 := u0'; have u3 := u3'; have u4 := u4'; clear v0' v3' v4' u0' u3' u4'
            have VE' := Lib.hid (VE.out.step sq (by simp)); have UE' := Lib.hid (UE.out.step sq (by simp)); have VR' := Lib.hid (VR.out.step sq (by simp)); have UR' := Lib.hid (UR.out.step sq (by simp)); have HK' := Lib.hid (HK.out.1.trans sq.nil)
            clear HK; have HK : Hid (Step allTags w (fun _ => 0) wq01 (ext ok00 wq00.heap.size 12) ∧ True) := Lib.hid ⟨HK'.out, trivial⟩; clear HK'
            clear VE UE VR UR; have VE := VE'; have UE := UE'; have VR := VR'; have UR := UR'; clear VE' UE' VR' UR'
            obtain ⟨ok0001, hoo⟩ : ∃ oo, oo = ext ok00 wq00.heap.size 12 := ⟨_, rfl⟩
            rw [← hoo] at VE UE VR UR HK hr; clear hoo sq
            rw [← HPL.out]
            go_wp2_with fail
            rw [rounds_succ]
            go_wp2_with fail
            refine (Pending_ok wq01 ok0001 3 12 u.e _ UE.out UF.out).mono ?_
            rintro e wq10 ⟨PA10, pc10, rfl, hr, hbl⟩
            have sq : Step [] wq01 ok0001 wq10 (ext ok0001 wq01.heap.size 12) := (Step.refl [] wq01 ok0001).below hbl 12
            have upc : ∀ (a : Addr) (x : Value), wq01.cell? a = some x → wq10.cell? a = some x := fun a x hx => (World.cell?_of_block (sq.block a.block (World.block_lt_of_cell? wq01 a hx) (by simp))).trans hx
            have v0' := upc _ _ v0; have v3' := upc _ _ v3; have v4' := upc _ _ v4; have u0' := upc _ _ u0; have u3' := upc _ _ u3; have u4' := upc _ _ u4
            clear v0 v3 v4 u0 u3 u4 upc hbl; have v0 := v0'; have v3 := v3'; have v4 := v4'; have u0 := u0'; have u3 := u3'; have u4 := u4'; clear v0' v3' v4' u0' u3' u4'
            have VE' := Lib.hid (VE.out.step sq (by simp)); have UE' := Lib.hid (UE.out.step sq (by simp)); have VR' := Lib.hid (VR.out.step sq (by simp)); have UR' := Lib.hid (UR.out.step sq (by simp)); have HK' := Lib.hid (HK.out.1.trans sq.nil)
            clear HK; have HK : Hid (Step allTags w (fun _ => 0) wq10 (ext ok0001 wq01.heap.size 12) ∧ True) := Lib.hid ⟨HK'.out, trivial⟩; clear HK'
            clear VE UE VR UR; have VE := VE'; have UE := UE'; have VR := VR'; have UR := UR'; clear VE' UE' VR' UR'
            obtain ⟨ok000110, hoo⟩ : ∃ oo, oo = ext ok0001 wq01.heap.size 12 := ⟨_, rfl⟩
            rw [← hoo] at VE UE VR UR HK hr; clear hoo sq
            have HPR := Lib.hid hr; clear hr
            have hpl : (Y.e.conc oth own).pend.length ≤ 256 := UF.out.len
            obtain ⟨pl, hpl2⟩ : ∃ pl, pl = (Y.e.conc oth own).pend.length := ⟨_, rfl⟩
            rw [← hpl2] at HPR hpl ⊢
            have HPL := Lib.hid hpl2; clear hpl2
            go_wp2_with fail
            go_loop [53] (fun i => ∃ j : Nat, j ≤ pl ∧ i = .int .i64 j) (fun i => pl - (intOf i).toNat)
            case atStart => exact ⟨0, Nat.zero_le _, rfl⟩
            case round =>
              obtain ⟨j, hj, rfl⟩ := hrel
              by_cases hjl : j < pl
              · obtain ⟨q, hq⟩ : ∃ q, Y.e.pend[j]? = some q := ⟨_, List.getElem?_eq_getElem (by have := HPL.out; simp only [AEnd.conc, List.length_map] at this; omega)⟩
                have hpm := HKL.out.2.inv'.pmem q (List.mem_of_getElem? hq)
                obtain ⟨g1, hPA, -, d1, -⟩ := HPR.out.at_ hjl
                subst hPA
                have d2 : (ints (Y.e.conc oth own).pend)[j]? = some (.int .i64 (oth + (q : Int))) := by simp only [AEnd.conc, ints, List.map_map, List.getElem?_map, hq]; rfl
                have d3 := d1.trans d2
                have hqr : q < u.rn := by have := UN.out; omega
                obtain ⟨g2, hRA, -, d4, -⟩ := UR.out.at_ hqr
                have d5 : (nats Y.reports)[q]? = some (.int .i64 0) := by rw [nats_get (by have := HKL.out.2.inv'.nr; omega), hpm.2]; rfl
                have d6 := d4.trans d5
                obtain ⟨rA, hrA⟩ : ∃ rA, rA = u.rA := ⟨_, rfl⟩
                rw [← hrA] at u3 hRA
                clear hrA
                subst hRA
                have e1 : oth + (q : Int) - oth = (q : Int) := by omega
                have e2 : decide (((q : Int)) < 0) = false := by simp
                have e3 : decide (u.rn ≤ q) = false := by simp; omega
                have hqb : q ≤ 900 := by omega
                have hq5 : 0 ≤ oth + (q : Int) ∧ oth + (q : Int) ≤ 2000000000000 := by omega
                obtain ⟨hq6, hq7⟩ := hq5
                clear d1 d2 d4 d5 hpm hq
                go_wp2_with fail
                go_round
                case rel => exact ⟨j + 1, by omega, by go_num⟩
                case measure => simp [intOf]; omega
              · obtain rfl : pl = j := by omega
                go_wp2_with fail
                refine (Pending_ok wq10 ok000110 3 12 u.e _ UE.out UF.out).mono ?_
                rintro e wq11 ⟨PA11, pc11, rfl, hr, hbl⟩
                have sq : Step [] wq10 ok000110 wq11 (ext ok000110 wq10.heap.size 12) := (Step.refl [] wq10 ok000110).below hbl 12
                have upc : ∀ (a : Addr) (x : Value), wq10.cell? a = some x → wq11.cell? a = some x := fun a x hx => (World.cell?_of_block (sq.block a.block (World.block_lt_of_cell? wq10 a hx) (by simp))).trans hx
                have v0' := upc _ _ v0; have v3' := upc _ _ v3; have v4' := upc _ _ v4; have u0' := upc _ _ u0; have u3' := upc _ _ u3; have u4' := upc _ _ u4
                clear v0 v3 v4 u0 u3 u4 upc hbl; have v0 := v0'; have v3 := v3'; have v4 := v4'; have u0 := u0'; have u3 := u3'; have u4 := u4'; clear v0' v3' v4' u0' u3' u4'
                have VE' := Lib.hid (VE.out.step sq (by simp)); have UE' := Lib.hid (UE.out.step sq (by simp)); have VR' := Lib.hid (VR.out.step sq (by simp)); have UR' := Lib.hid (UR.out.step sq (by simp)); have HK' := Lib.hid (HK.out.1.trans sq.nil)
                clear HK; have HK : Hid (Step allTags w (fun _ => 0) wq11 (ext ok000110 wq10.heap.size 12) ∧ True) := Lib.hid ⟨HK'.out, trivial⟩; clear HK'
                clear VE UE VR UR; have VE := VE'; have UE := UE'; have VR := VR'; have UR := UR'; clear VE' UE' VR' UR'
                obtain ⟨ok00011011, hoo⟩ : ∃ oo, oo = ext ok000110 wq10.heap.size 12 := ⟨_, rfl⟩
                rw [← hoo] at VE UE VR UR HK hr; clear hoo sq
                rw [← HPL.out]
                go_wp2_with fail
                rw [rounds_succ]
                go_wp2_with fail
                refine (awake_any wq11).mono ?_
                rintro e w9 ⟨rfl, hb9⟩
                go_wp2_with fail
                go_ret
                exact ⟨rfl, (HK.out.1.below hb9 12).old (by simp)⟩
end Go.Proofs.Ytpmbfgpfpdenbaa
