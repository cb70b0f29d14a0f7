/-
  WALKS of sameReports, same (marcheslaw19) at reports and Ends that agree.
-/
import Derived.Test.YtpmbfgpfpdenbaaRefC
import Derived.Test.YtpmbfgpfpdenbaaBytB
import Derived.Test.YtpmbfgpfpdenbaaKitA
import Derived.Test.YtpmbfgpfpdenbaaWalkA
import Derived.Lib.QuietBelow
import Derived.Deep.CutBlock
namespace Go.Proofs.Ytpmbfgpfpdenbaa
open Go.RowKit

set_option maxRecDepth 100000 in
set_option maxHeartbeats 2000000 in
theorem sameReports_eq (w : World) (o o2 : Own) (τ τ2 : Nat) (A B : Option Addr) (n m c d : Nat) (rs : List (Int × Bool)) (hS : Sl w o τ 2 A n c (reps rs)) (hT : Sl w o2 τ2 2 B m d (reps rs)) :
    Calls Try.prog 27 #[.slice A n c, .slice B m d] w (SameTo w true) := by
  have hl1 : rs.length = n := by have := hS.1; rw [len_reps] at this; omega
  have hl2 : rs.length = m := by have := hT.1; rw [len_reps] at this; omega
  obtain rfl : n = m := by omega
  have hb : n ≤ 9223372036854775807 := by have h1 := hS.2.1; have h2 := hS.2.2.1; unfold maxLen at h2; omega
  have hnn : ((n : Int) != (n : Int)) = false := by simp
  have HS := Lib.hid hS; have HT := Lib.hid hT; have HL := Lib.hid hl1
  clear hS hT hl1 hl2
  go_enter Try.func27, Try.ntmps27
  go_wp2_with fail
  go_loopw [13] (fun s wr => ∃ k q : Nat, k ≤ n ∧ s = .int .i64 k ∧ wr = w.drewN q) (fun s _ => n - (intOf s).toNat)
  case atStart => exact ⟨0, 0, Nat.zero_le _, rfl, rfl⟩
  case round => as_aux_lemma =>
    obtain ⟨k, q, hk, rfl, rfl⟩ := hrel
    by_cases hlt : k < n
    · obtain ⟨⟨x, b⟩, hx⟩ : ∃ x, rs[k]? = some x := ⟨_, List.getElem?_eq_getElem (by rw [HL.out]; exact hlt)⟩
      obtain ⟨r0, r1⟩ := reps_get rs k x b hx
      obtain ⟨g1, f1, rfl, -, hg1, c1⟩ := HS.out.2.2.2 (by omega)
      obtain ⟨g2, f2, rfl, -, hg2, c2⟩ := HT.out.2.2.2 (by omega)
      have d0 := c1 _ _ r0; have d1 := c1 _ _ r1; have e0 := c2 _ _ r0; have e1 := c2 _ _ r1
      rw [← Nat.add_assoc] at d1 e1
      have hkz : (0 : Int) ≤ (k : Int) := by omega
      have hki : (k : Int) < (n : Int) := by omega
      have hrn := fun W => rep_ne_walk W x x b b
      simp only [beq_self_eq_true, Bool.and_self, Bool.not_true] at hrn
      clear hx r0 r1 c1 c2
      go_wp2_with fail
      go_quiet (fail)
      go_wp2_with fail
      go_roundw
      case rel => exact ⟨k + 1, q + nq, by omega, by go_num, by first | rfl | rw [World.drewN_drewN]⟩
      case measure => simp [intOf]; omega
    · obtain rfl : n = k := by omega
      go_wp2_with fail
      go_ret
      exact ⟨rfl, q, rfl⟩
set_option maxRecDepth 100000 in
set_option maxHeartbeats 1000000 in
theorem OverInts_nil (w : World) (o : Own) (τ : Nat) : Calls Try.prog 54 #[.slice none 0 0] w (OverTo τ w o) := by
  have hmn := fun W => run_min2 (P := Try.prog) W #[3, 3] 3 0 12 0 (by omega)
  go_enter Try.func54, Try.ntmps54
  go_wp2_with fail
  refine wp_loop_rounds 1 ?_
  rw [rounds_succ]
  go_wp2_with fail
  go_end0
  exact ⟨rfl, Step.refl _ _ _⟩

set_option maxRecDepth 100000 in
set_option maxHeartbeats 2000000 in
theorem OverInts_row (w : World) (o : Own) (τ : Nat) (A : Option Addr) (n c : Nat) (xs : List Value) (hR : Row w o τ 3 1 A n c xs) (hn : n ≤ 4000) :
    Calls Try.prog 54 #[.slice A n c] w (OverTo τ w o) := by
  obtain ⟨⟨h1, h2⟩, h3⟩ := hR
  rcases h2 with ⟨h2, h4⟩ | ⟨g, cap, cur, hv, hg, hh, hnc, hcm, hsz, -⟩
  · injection h2 with a1 a2 a3
    subst a1; subst a2; subst a3
    exact OverInts_nil w o τ
  injection hv with a1 a2 a3
  subst a1; subst a3
  have ho := h3 _ rfl
  simp only at ho
  have hB : Blk w g 3 cur := hh
  obtain ⟨M, hM⟩ : ∃ M : Nat, M = min c (n + 12) := ⟨_, rfl⟩
  have hMc : M ≤ c := by omega
  have hM64 : M ≤ 4012 := by omega
  have hcb : c ≤ 9223372036854775807 := by unfold maxLen at hcm; omega
  have hmn := fun W => run_min2 (P := Try.prog) W #[3, 3] 3 (c : Int) ((n : Int) + 12) (M : Int) (by omega)
  have HO := Lib.hid ho; have HB := Lib.hid hB; have HSZ := Lib.hid hsz
  clear hM hcm ho hB hsz h1 h3 hh hg
  go_enter Try.func54, Try.ntmps54
  go_wp2_with fail
  go_loopw [3] (fun s wr => ∃ (i : Nat) (cs : Array Value), i ≤ M ∧ s = .int .i64 i ∧ Hid (Step [τ] w o wr o ∧ Blk wr g 3 cs ∧ cs.size = c)) (fun s _ => M - (intOf s).toNat)
  case atStart => exact ⟨0, cur, Nat.zero_le _, rfl, Lib.hid ⟨Step.refl _ _ _, HB.out, by rw [HSZ.out]; omega⟩⟩
  case round => as_aux_lemma =>
    obtain ⟨i, cs, hi, rfl, HK⟩ := hrel
    by_cases hlt : i < M
    · have hmm := fun W => kmark_any W 2 (i : Int) (by omega) (by omega)
      obtain ⟨R, hR⟩ : ∃ R : Int, R = mkI 2 (i : Int) := ⟨_, rfl⟩
      rw [← hR] at hmm
      obtain ⟨u, hu⟩ : ∃ u, cs[i]? = some u := ⟨_, Array.getElem?_eq_getElem (by rw [HK.out.2.2]; omega)⟩
      have c1 := (HK.out.2.1.cell i).trans hu
      have f1 := HK.out.2.1.frozen i
      have HMM := Lib.hid hmm
      clear hmm hR hu
      go_wp2_with (go_at_call 61; refine (HMM.out _).mono ?_; rintro e w2 ⟨rfl, rfl⟩)
      go_roundw
      case rel => exact ⟨i + 1, cs.setIfInBounds i (.int .i64 R), by omega, by go_num, Lib.hid ⟨HK.out.1.setCell (.inr (by rw [HO.out]; simp)) _, HK.out.2.1.set_ i _, by rw [Array.size_setIfInBounds]; exact HK.out.2.2⟩⟩
      case measure => simp [intOf]; omega
    · obtain rfl : M = i := by omega
      go_wp2_with fail
      go_end0
      exact ⟨rfl, HK.out.1⟩

theorem below_drewNE {B : Nat} {w w' : World} (h : Below B w w') (n : Nat) : Below B w (w'.drewN n) := ⟨h.os, h.tape, h.output, h.size, h.block⟩

/-- What the reference's End says of the End. -/
structure RefRel (s : EndS) (r : RefS) : Prop where
  own : s.own = r.own
  next : s.next = r.next
  other : s.other = r.other
  pend : s.pend = r.pend
  newest : s.newest = newestR r.other r.got
  some : s.other ≤ s.newest ↔ r.got ≠ []
  mask : s.mask = if r.got = [] then 0 else maskR (newestR r.other r.got) r.got 32

set_option maxRecDepth 100000 in
set_option maxHeartbeats 2000000 in
theorem same_eq (w : World) (o o2 : Own) (τ τ2 : Nat) (b : Nat) (s : EndS) (hE : EndAt w o τ b s) (hs : s.Fit) (r : RefS) (hf : r.Fit) (PA : Option Addr) (pn pc : Nat) (GA : Option Addr) (gn gc : Nat) (hP : Sl w o2 τ2 1 PA pn pc (ints r.pend)) (hG : Sl w o2 τ2 1 GA gn gc (ints r.got)) (hr : RefRel s r) :
    Calls Try.prog 33 #[.pointer (some ⟨b, 0, none⟩), r.val PA pn pc GA gn gc] w fun e w' => e = .returned (.bool true) ∧ Below w.heap.size w w' := by
  obtain ⟨h1, h2, h3, h4, h5, h6, h7⟩ := hr
  have HNW := Lib.hid (fun W (hb : Below w.heap.size w W) => Newest_any W o2 τ2 r PA pn pc GA gn gc (hG.below hb) hf.o0 hf.o1)
  have HMK := Lib.hid (fun W (hb : Below w.heap.size w W) => Mask_any W o2 τ2 r PA pn pc GA gn gc (hG.below hb) hf.o0 hf.o1 hf.lo (by have := hf.n1; omega))
  have HRC := Lib.hid (fun W (hb : Below w.heap.size w W) => Received_ok W (ext o w.heap.size 0) τ b s (hE.step ((Step.refl [] w o).below hb 0) (by simp)))
  obtain ⟨ρ, hρ, hρ0⟩ := fresh_tag w o [0]
  have HPD := Lib.hid (fun W (hb : Below w.heap.size w W) => Pending_ok W (ext o w.heap.size 0) τ ρ b s (hE.step ((Step.refl [] w o).below hb 0) (by simp)) hs)
  have HSI := Lib.hid (fun W (hb : Below w.heap.size w W) => hP.below hb)
  rw [h4] at HPD
  have hpl : r.pend.length ≤ 256 := by rw [← h4]; exact hs.len
  obtain ⟨own, other, next, pend, got⟩ := r
  simp only at h2 h3 h4 h5 h6 h7 hP hG HNW HMK HPD HSI hpl
  obtain ⟨hl, hgn⟩ := hG.int_len
  obtain ⟨pl, hple⟩ : ∃ pl, pl = pend.length := ⟨_, rfl⟩
  rw [← hple] at HPD hpl
  have hB0 := Blk.new w 53 #[.int .i64 own, .int .i64 other, .int .i64 next, .slice PA pn pc, .slice GA gn gc]
  have hb0 := (Below.refl w.heap.size w).alloc (Nat.le_refl _) (.cells #[.int .i64 own, .int .i64 other, .int .i64 next, .slice PA pn pc, .slice GA gn gc] 53)
  obtain ⟨W0, hW0⟩ : ∃ W0, W0 = w.alloc (.cells #[.int .i64 own, .int .i64 other, .int .i64 next, .slice PA pn pc, .slice GA gn gc] 53) := ⟨_, rfl⟩
  obtain ⟨bx, hbx⟩ : ∃ bx, bx = w.heap.size := ⟨_, rfl⟩
  rw [← hW0] at hB0 hb0
  have HB0 := Lib.hid hb0
  rw [← hbx] at hB0
  have HX := Lib.hid hB0
  by_cases hg : got = []
  · have hgn0 : gn = 0 := by rw [← hl, hg]; rfl
    have hno : ¬ s.other ≤ s.newest := fun h => h6.1 h hg
    subst hgn0
    have HH := Lib.hid hno
    clear hE hs hf h1 h2 h3 h4 h5 h6 h7 hP hG hl hgn hB0 hb0 hg hno hple
    go_enter Try.func33, Try.ntmps33
    go_upto_region 1 with fail
    rw [← hW0, ← hbx]
    clear hW0 hbx
    go_wp2_with fail
    refine (HRC.out _ HB0.out).mono ?_
    rw [if_neg (by have := HH.out; omega)]
    rintro e w1 ⟨rfl, q, rfl⟩
    have q4 : (W0.drewN q).cell? ⟨bx, 4, none⟩ = some (.slice GA 0 gc) := HX.out.cell 4
    have q3 : (W0.drewN q).cell? ⟨bx, 3, none⟩ = some (.slice PA pn pc) := HX.out.cell 3
    have HXq : Hid (Blk (W0.drewN q) bx 53 #[.int .i64 own, .int .i64 other, .int .i64 next, .slice PA pn pc, .slice GA 0 gc]) := Lib.hid HX.out
    go_wp2_with fail
    refine (HPD.out _ (below_drewNE HB0.out q)).mono ?_
    rintro e w2 ⟨A2, c2, rfl, hr2, hb2⟩
    have st2 := ((Step.refl [] w o).below (below_drewNE HB0.out q) 0).below hb2 ρ
    have X2 := HXq.out.below hb2 HXq.out.lt
    have BW2 : Below w.heap.size w w2 := st2.to_below (by simp)
    obtain ⟨O2, hO2⟩ : ∃ O2, O2 = ext (ext o w.heap.size 0) (W0.drewN q).heap.size ρ := ⟨_, rfl⟩
    rw [← hO2] at hr2 st2
    have R2 := Lib.hid hr2; have ST2 := Lib.hid st2; have S2 := Lib.hid (HSI.out _ BW2)
    have q3 : w2.cell? ⟨bx, 3, none⟩ = some (.slice PA pn pc) := X2.cell 3
    clear hr2 hb2 st2 X2 BW2 hO2 HXq
    go_wp2_with fail
    refine (SameInts_any w2 O2 o2 ρ τ2 A2 PA pl c2 pn pc pend pend R2.out.sl S2.out).mono ?_
    rw [show decide (pend = pend) = true by simp]
    rintro e w3 ⟨rfl, k3, rfl⟩
    go_wp2_with fail
    refine (OverInts_row _ O2 ρ A2 pl c2 _ (R2.out.step ((Step.refl [] w2 O2).drewN k3) (by simp)) (by omega)).mono ?_
    rintro e w4 ⟨rfl, hst4⟩
    have HF := Lib.hid ((ST2.out.nil.drewN k3).trans hst4)
    clear hst4
    go_wp2_with fail
    go_ret
    exact ⟨rfl, HF.out.to_below (fun k hk h => hρ k hk (by simpa using h))⟩
  · obtain ⟨N, hN⟩ : ∃ N, N = newestR other got := ⟨_, rfl⟩
    rw [← hN] at h5 h7 HNW HMK
    rw [if_neg hg] at h7
    obtain ⟨M, hM⟩ : ∃ M, M = maskR N got 32 := ⟨_, rfl⟩
    rw [← hM] at h7 HMK
    have hyes : s.other ≤ s.newest := h6.2 hg
    have HRC2 := Lib.hid (fun W hb => by have := HRC.out W hb; rw [if_pos hyes, h5, h7] at this; exact this)
    have hgp : 0 < gn := by
      have : 0 < got.length := List.length_pos_iff.2 hg
      omega
    clear HRC hE hs hf h1 h2 h3 h4 h5 h6 h7 hP hG hl hgn hB0 hb0 hg hyes hple hN hM
    go_enter Try.func33, Try.ntmps33
    go_upto_region 1 with fail
    rw [← hW0, ← hbx]
    clear hW0 hbx
    go_wp2_with fail
    refine (HRC2.out _ HB0.out).mono ?_
    rintro e w1 ⟨rfl, q, rfl⟩
    have HB1 : Hid (Below w.heap.size w (W0.drewN q)) := Lib.hid (below_drewNE HB0.out q)
    have HX1 : Hid (Blk (W0.drewN q) bx 53 #[.int .i64 own, .int .i64 other, .int .i64 next, .slice PA pn pc, .slice GA gn gc]) := Lib.hid HX.out
    obtain ⟨wA, hwA⟩ : ∃ wA, wA = W0.drewN q := ⟨_, rfl⟩
    rw [← hwA] at HB1 HX1 ⊢
    clear hwA
    obtain ⟨q0, q1, q2, q3, q4⟩ := box5 HX1.out
    have hdN : (N != N) = false := by simp
    have hdM : ((M : Int) != (M : Int)) = false := by simp
    go_wp2_with fail
    refine (HNW.out _ HB1.out).mono ?_
    rintro e wZ ⟨rfl, hbZ⟩
    have HBZ := Lib.hid (HB1.out.trans (hbZ.mono HB1.out.size)); have HXZ := Lib.hid (HX1.out.below hbZ HX1.out.lt)
    clear hbZ q0 q1 q2 q3 q4
    obtain ⟨q0, q1, q2, q3, q4⟩ := box5 HXZ.out
    go_wp2_with fail
    refine (HMK.out _ HBZ.out).mono ?_
    rintro e wB ⟨rfl, hbB⟩
    have HB2 := Lib.hid (HBZ.out.trans (hbB.mono HBZ.out.size)); have HX2 := Lib.hid (HXZ.out.below hbB HXZ.out.lt)
    clear hbB q0 q1 q2 q3 q4 HXZ HBZ HX1 HB1 HX
    obtain ⟨p0, p1, p2, p3, p4⟩ := box5 HX2.out
    go_wp2_with fail
    refine (HPD.out _ HB2.out).mono ?_
    rintro e w2 ⟨A2, c2, rfl, hr2, hb2⟩
    have st2 := ((Step.refl [] w o).below HB2.out 0).below hb2 ρ
    have X2 := HX2.out.below hb2 HX2.out.lt
    have BW2 : Below w.heap.size w w2 := st2.to_below (by simp)
    obtain ⟨O2, hO2⟩ : ∃ O2, O2 = ext (ext o w.heap.size 0) wB.heap.size ρ := ⟨_, rfl⟩
    rw [← hO2] at hr2 st2
    have R2 := Lib.hid hr2; have ST2 := Lib.hid st2; have S2 := Lib.hid (HSI.out _ BW2)
    have q3 : w2.cell? ⟨bx, 3, none⟩ = some (.slice PA pn pc) := X2.cell 3
    clear hr2 hb2 st2 X2 BW2 hO2 HX2 p0 p1 p2 p3 p4
    go_wp2_with fail
    refine (SameInts_any w2 O2 o2 ρ τ2 A2 PA pl c2 pn pc pend pend R2.out.sl S2.out).mono ?_
    rw [show decide (pend = pend) = true by simp]
    rintro e w3 ⟨rfl, k3, rfl⟩
    go_wp2_with fail
    refine (OverInts_row _ O2 ρ A2 pl c2 _ (R2.out.step ((Step.refl [] w2 O2).drewN k3) (by simp)) (by omega)).mono ?_
    rintro e w4 ⟨rfl, hst4⟩
    have HF := Lib.hid ((ST2.out.nil.drewN k3).trans hst4)
    clear hst4
    go_wp2_with fail
    go_ret
    exact ⟨rfl, HF.out.to_below (fun k hk h => hρ k hk (by simpa using h))⟩
end Go.Proofs.Ytpmbfgpfpdenbaa
