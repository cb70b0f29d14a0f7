/-
  WALKS of OverInts, the reference's Match.
-/
import Derived.Test.YtkceefheeicmbaaRatAB
import Derived.Test.YtkceefheeicmbaaRatP
import Derived.Test.YtkceefheeicmbaaRatF
import Derived.Test.YtkceefheeicmbaaRatV
import Derived.Lib.QuietBelow
import Derived.BigQuiet
namespace Go.Proofs.Ytkceefheeicmbaa
open Go.RowKit Go.Sort

def OverTo (τ : Nat) (w : World) (o : Own) (e : Ending) (w' : World) : Prop := e = .returned (.tuple #[]) ∧ Step [τ] w o w' o
set_option maxRecDepth 100000 in
set_option maxHeartbeats 1000000 in
theorem OverInts_nil (w : World) (o : Own) (τ : Nat) : Calls Try.prog 39 #[.slice none 0 0] w (OverTo τ w o) := by
  have hmn := fun W => run_min2 (P := Try.prog) W #[3, 3] 3 0 12 0 (by omega)
  go_enter Try.func39, Try.ntmps39
  go_wp2_with fail
  refine wp_loop_rounds 1 ?_
  rw [rounds_succ]
  go_wp2_with fail
  go_end0
  exact ⟨rfl, Step.refl _ _ _⟩

set_option maxRecDepth 100000 in
set_option maxHeartbeats 2000000 in
theorem OverInts_row (w : World) (o : Own) (τ g n c : Nat) (xs : List Value) (hR : Row w o τ 3 1 (some ⟨g, 0, none⟩) n c xs) (h0 : 0 < n) (hn : n ≤ 64) :
    Calls Try.prog 39 #[.slice (some ⟨g, 0, none⟩) n c] w (OverTo τ w o) := by
  obtain ⟨g', cur, hg', ho, hB, hnc, hcm, hsz, -⟩ := hR.form h0
  injection hg' with hg'; injection hg' with hg'; subst hg'
  obtain ⟨M, hM⟩ : ∃ M : Nat, M = min c (n + 12) := ⟨_, rfl⟩
  have hMc : M ≤ c := by omega
  have hM64 : M ≤ 76 := by omega
  have hcb : c ≤ 9223372036854775807 := by unfold maxLen at hcm; omega
  have hmn := fun W => run_min2 (P := Try.prog) W #[3, 3] 3 (c : Int) ((n : Int) + 12) (M : Int) (by omega)
  have HO := Lib.hid ho; have HB := Lib.hid hB; have HSZ := Lib.hid hsz
  clear hR hM hcm ho hB hsz
  go_enter Try.func39, Try.ntmps39
  go_wp2_with fail
  go_loopw [3] (fun s wr => ∃ (i : Nat) (cs : Array Value), i ≤ M ∧ s = .int .i64 i ∧ Hid (Step [τ] w o wr o ∧ Blk wr g 3 cs ∧ cs.size = c)) (fun s _ => M - (intOf s).toNat)
  case atStart => exact ⟨0, cur, Nat.zero_le _, rfl, Lib.hid ⟨Step.refl _ _ _, HB.out, by rw [HSZ.out]; omega⟩⟩
  case round => as_aux_lemma =>
    obtain ⟨i, cs, hi, rfl, HK⟩ := hrel
    by_cases hlt : i < M
    · obtain ⟨R, hR⟩ : ∃ R, R = mkI 2 (i : Int) := ⟨_, rfl⟩
      have hmm := fun W => mark_any W 2 (i : Int) (by omega) (by omega) R hR
      obtain ⟨u, hu⟩ : ∃ u, cs[i]? = some u := ⟨_, Array.getElem?_eq_getElem (by rw [HK.out.2.2]; omega)⟩
      have c1 := (HK.out.2.1.cell i).trans hu
      have f1 := HK.out.2.1.frozen i
      have HMM := Lib.hid hmm
      clear hmm hR hu
      go_wp2_with (go_at_call 65; refine (HMM.out _).mono ?_; rintro e w2 ⟨rfl, rfl⟩)
      go_roundw
      case rel => exact ⟨i + 1, cs.setIfInBounds i (.int .i64 R), by omega, by go_num, Lib.hid ⟨HK.out.1.setCell (.inr (by rw [HO.out]; simp)) _, HK.out.2.1.set_ i _, by rw [Array.size_setIfInBounds]; exact HK.out.2.2⟩⟩
      case measure => simp [intOf]; omega
    · obtain rfl : M = i := by omega
      go_wp2_with fail
      go_end0
      exact ⟨rfl, HK.out.1⟩

theorem Sl.intAt {w : World} {o : Own} {τ n c g off : Nat} {xs : List Int} (h : Sl w o τ 1 (some ⟨g, off, none⟩) n c (ints xs)) {k : Nat} {x : Int} (hx : xs[k]? = some x) : w.cell? ⟨g, off + k, none⟩ = some (.int .i64 x) := by
  obtain ⟨g', off', h1, -, -, h2⟩ := h.int hx
  injection h1 with h1; injection h1 with h3 h4; subst h3 h4
  exact h2
theorem Sl.one (w : World) (o : Own) (τ : Nat) (t : TypeId) (v : Value) : Sl (w.alloc (.cells #[v] t)) (ext o w.heap.size τ) τ 1 (some ⟨w.heap.size, 0, none⟩) 1 1 [v] :=
  ⟨rfl, Nat.le_refl _, by decide, fun _ => ⟨w.heap.size, 0, rfl, ext_ge (Nat.le_refl _), (Blk.new w t #[v]).lt, fun i u hi => by rw [Nat.zero_add, (Blk.new w t #[v]).cell]; simpa using hi⟩⟩
theorem just_below {w : World} {P : Program} {f : FuncId} {args : Array Value} {v : Value} (h : Calls P f args w (Just w v)) : Calls P f args w fun e w' => e = .returned v ∧ Below w.heap.size w w' :=
  h.mono fun e w' ⟨h1, h2⟩ => ⟨h1, by rw [h2]; exact Below.refl _ _⟩

/-- What the reference's Match comes to. -/
def RefTo (w : World) (xs ys : List Int) (s k : Int) (e : Ending) (w' : World) : Prop :=
  ∃ A cx B cy o', e = .returned (.tuple #[.slice A xs.length cx, .slice B xs.length cy, .int .i64 0]) ∧ Step [] w (fun _ => 0) w' o' ∧
    Row w' o' 36 3 1 A xs.length cx (ints (matchX xs ys s k)) ∧ Row w' o' 37 3 1 B xs.length cy (ints (matchY xs ys s k))

set_option maxRecDepth 100000 in
set_option maxHeartbeats 4000000 in
theorem refMatch_ok (w : World) (A B : Option Addr) (n c d : Nat) (xs ys : List Int) (hS : Sl w (fun _ => 0) 0 1 A n c (ints xs)) (hT : Sl w (fun _ => 0) 0 1 B n d (ints ys)) (s k : Int) (hok : teamOk xs ys s k = true) :
    Calls Try.prog 38 #[.slice A n c, .slice B n d, .int .i64 s, .int .i64 k] w (RefTo w xs ys s k) := by
  have hl1 : xs.length = n := by have := hS.1; rw [len_ints] at this; omega
  have hl2 : ys.length = n := by have := hT.1; rw [len_ints] at this; omega
  obtain ⟨a1, a2, a3, a4, a5, a6, a7⟩ := teamOk_iff.1 hok
  have hr := fun W => right_any W s k true (by rw [a6, a7]; rfl)
  have hxb : ∀ (i : Nat) (x : Int), xs[i]? = some x → 0 ≤ x ∧ x ≤ 4000 := fun i x h => by
    rw [List.all_eq_true] at a4
    exact inR_iff.1 (a4 x (List.mem_of_getElem? h))
  have hyb : ∀ (i : Nat) (x : Int), ys[i]? = some x → 0 ≤ x ∧ x ≤ 4000 := fun i x h => by
    rw [List.all_eq_true] at a5
    exact inR_iff.1 (a5 x (List.mem_of_getElem? h))
  have hs1 : ∀ i, 0 ≤ sumM (xs.take i) ∧ sumM (xs.take i) ≤ 32000 := fun i => by
    have h := sum_bd (l := xs.take i) (by rw [List.all_eq_true] at a4 ⊢; exact fun y hy => a4 y (List.mem_of_mem_take hy))
    rw [List.length_take] at h; omega
  have hs2 : ∀ i, 0 ≤ sumM (ys.take i) ∧ sumM (ys.take i) ≤ 32000 := fun i => by
    have h := sum_bd (l := ys.take i) (by rw [List.all_eq_true] at a5 ⊢; exact fun y hy => a5 y (List.mem_of_mem_take hy))
    rw [List.length_take] at h; omega
  have hks := isSc_iff.1 a6
  obtain ⟨k0, k1⟩ := isWt_iff.1 a7
  have n1 : ((n : Int) != (n : Int)) = false := by simp
  have n2 : decide ((n : Int) < 1) = false := by simp; omega
  have n3 : decide (8 < (n : Int)) = false := by simp; omega
  have hn1 : 1 ≤ n := by omega
  have hn8 : n ≤ 8 := by omega
  obtain ⟨X, hX⟩ : ∃ X, X = matchX xs ys s k := ⟨_, rfl⟩
  obtain ⟨Y, hY⟩ : ∃ Y, Y = matchY xs ys s k := ⟨_, rfl⟩
  obtain ⟨D, hD⟩ : ∃ D, D = sumM xs - sumM ys := ⟨_, rfl⟩
  obtain ⟨x, hx⟩ : ∃ x, x = teamX xs ys := ⟨_, rfl⟩
  have hxD : x = expM (Int.tdiv D n) := by rw [hx, hD, ← hl1]; rfl
  have hxbd := expM_bd (Int.tdiv D n)
  rw [← hxD] at hxbd
  have hlXY := match_len (s := s) (k := k) a1
  rw [← hX, ← hY] at hlXY
  have hget : ∀ (i : Nat) (u v : Int), xs[i]? = some u → ys[i]? = some v → X[i]? = some (u + exchM u v s x k) ∧ Y[i]? = some (v - exchM u v s x k) := fun i u v h1 h2 => by
    have hg := gains_get s k h1 h2
    rw [← hx] at hg
    rw [hX, hY]; unfold matchX matchY
    rw [List.getElem?_zipWith, List.getElem?_zipWith, h1, h2, hg]
    exact ⟨rfl, rfl⟩
  have hDb : -32000 ≤ D ∧ D ≤ 32000 := by
    have e1 := hs1 xs.length; have e2 := hs2 ys.length
    rw [List.take_length] at e1 e2
    omega
  have hDe : sumM (xs.take n) - sumM (ys.take n) = D := by
    rw [hD, List.take_of_length_le (by omega), List.take_of_length_le (by omega)]
  obtain ⟨D0, D1⟩ := hDb
  obtain ⟨x0, x1⟩ := hxbd
  have HR := Lib.hid hr; have HXB := Lib.hid hxb; have HYB := Lib.hid hyb; have HS1 := Lib.hid hs1; have HS2 := Lib.hid hs2; have HSC := Lib.hid hks; have HX := Lib.hid hX; have HY := Lib.hid hY; have HDE := Lib.hid hDe
  have HXD := Lib.hid hxD; have HLXY := Lib.hid hlXY; have HG := Lib.hid hget; have HL1 := Lib.hid hl1; have HL2 := Lib.hid hl2; have HS := Lib.hid hS; have HT := Lib.hid hT
  clear hr hxb hyb hs1 hs2 hks hX hY hDe hxD hlXY hget hl1 hl2 hS hT hD hx hok a1 a2 a3 a4 a5 a6 a7
  go_enter Try.func38, Try.ntmps38
  go_wp2_with (go_at_call 63; refine (HR.out _).mono ?_; rintro e w2 ⟨rfl, h2⟩; subst w2)
  go_loopw [13, 12] (fun t u wr => ∃ (i : Nat) (S : Int), i ≤ n ∧ t = .int .i64 i ∧ u = .int .i64 S ∧ Hid (S = sumM (xs.take i) - sumM (ys.take i)) ∧ Hid (Below w.heap.size w wr)) (fun t _ _ => n - (intOf t).toNat)
  case atStart => exact ⟨0, 0, Nat.zero_le _, rfl, rfl, Lib.hid (by simp [sumM]), Lib.hid (Below.refl _ _)⟩
  case round => as_aux_lemma =>
    obtain ⟨i, S, hi, rfl, rfl, HSS, HB⟩ := hrel
    by_cases hlt : i < n
    · obtain ⟨u, hu⟩ : ∃ u, xs[i]? = some u := ⟨_, List.getElem?_eq_getElem (by rw [HL1.out]; exact hlt)⟩
      obtain ⟨v, hv⟩ : ∃ v, ys[i]? = some v := ⟨_, List.getElem?_eq_getElem (by rw [HL2.out]; exact hlt)⟩
      obtain ⟨ga, oa, rfl, -, hga, ca⟩ := (HS.out.up HB.out).int hu
      obtain ⟨gb, ob, rfl, -, hgb, cb⟩ := (HT.out.up HB.out).int hv
      obtain ⟨u0, u1⟩ := HXB.out i u hu
      obtain ⟨v0, v1⟩ := HYB.out i v hv
      have hsn1 := sumM_snoc hu; have hsn2 := sumM_snoc hv
      have HSN : Hid (S + u - v = sumM (xs.take (i + 1)) - sumM (ys.take (i + 1))) := Lib.hid (by rw [HSS.out, hsn1, hsn2]; omega)
      have hSb : -32000 ≤ S ∧ S ≤ 32000 := by rw [HSS.out]; have e1 := HS1.out i; have e2 := HS2.out i; omega
      obtain ⟨s0, s1⟩ := hSb
      clear hsn1 hsn2 hu hv
      have t1 : decide (u < 0) = false := by simp; omega
      have t2 : decide (4000 < u) = false := by simp; omega
      have t3 : decide (v < 0) = false := by simp; omega
      have t4 : decide (4000 < v) = false := by simp; omega
      go_wp2_with fail
      go_quiet (fail)
      go_wp2_with fail
      go_roundw
      case rel => exact ⟨i + 1, S + u - v, by omega, by go_num, rfl, HSN, Lib.hid (by first | exact HB.out.drewK _ | exact Below.drewK HB.out _)⟩
      case measure => simp [intOf]; omega
    · obtain rfl : n = i := by omega
      obtain rfl : S = D := by rw [HSS.out, HDE.out]
      obtain ⟨T, hT⟩ : ∃ T, T = Int.tdiv S n := ⟨_, rfl⟩
      have hTb := tdiv_bd S n D0 D1
      rw [← hT] at hTb
      have hxT : x = expM T := by rw [HXD.out, hT]
      have he : ∀ W, Calls Try.prog 15 #[.int .i64 T] W fun e w' => e = .returned (.int .i64 x) ∧ Below W.heap.size W w' := fun W => refExpected_any W T x hxT (by omega) (by omega)
      have HE := Lib.hid he; have HT' := Lib.hid hT.symm
      obtain ⟨T0, T1⟩ := hTb
      have hn0 : (n : Int) ≠ 0 := by omega
      obtain ⟨w5, hw5⟩ : ∃ w5, w5 = wr := ⟨_, rfl⟩
      rw [← hw5] at HB
      have hst5 : Step [] w (fun _ => 0) w5 (fun _ => 0) := by have := (Step.refl [] w (fun _ => 0)).below HB.out 0; rwa [ext00] at this
      have HST5 := Lib.hid hst5
      have hq1 : IntKind.i64.wrap (Int.tdiv S n) = T := by rw [← hT]; exact IntWalk.i64_in _ (by omega)
      have HQ1 := Lib.hid hq1
      clear he hT hxT HXD HSS HDE HB hst5 hq1
      rw [← hw5]
      clear hw5 wr
      go_wp2_with fail
      go_loopw [16, 14, 15, 17] (fun t p q _ wr => ∃ (i : Nat) (Ap : Option Addr) (cp : Nat) (Aq : Option Addr) (cq : Nat) (oj : Own), i ≤ n ∧ t = .int .i64 i ∧ p = .slice Ap i cp ∧ q = .slice Aq i cq ∧
        Hid (Step [] w (fun _ => 0) wr oj ∧ Row wr oj 36 3 1 Ap i cp (ints (X.take i)) ∧ Row wr oj 37 3 1 Aq i cq (ints (Y.take i)))) (fun t _ _ _ _ => n - (intOf t).toNat)
      case atStart => exact ⟨0, none, 0, none, 0, _, Nat.zero_le _, rfl, rfl, rfl, Lib.hid ⟨HST5.out, Row.nil_ _ _ _ _ _, Row.nil_ _ _ _ _ _⟩⟩
      case round => as_aux_lemma =>
        obtain ⟨i, Ap, cp, Aq, cq, oj, hi, rfl, rfl, rfl, HK⟩ := hrel
        by_cases hlt : i < n
        · obtain ⟨u, hu⟩ : ∃ u, xs[i]? = some u := ⟨_, List.getElem?_eq_getElem (by rw [HL1.out]; exact hlt)⟩
          obtain ⟨v, hv⟩ : ∃ v, ys[i]? = some v := ⟨_, List.getElem?_eq_getElem (by rw [HL2.out]; exact hlt)⟩
          obtain ⟨ga, oa, rfl, -, hga, ca⟩ := (HS.out.step HK.out.1 (by simp)).int hu
          obtain ⟨gb, ob, rfl, -, hgb, cb⟩ := (HT.out.step HK.out.1 (by simp)).int hv
          obtain ⟨u0, u1⟩ := HXB.out i u hu
          obtain ⟨v0, v1⟩ := HYB.out i v hv
          obtain ⟨g1, g2⟩ := HG.out i u v hu hv
          have hfair := exch_fair (a := u) (b := v) ⟨u0, u1⟩ ⟨v0, v1⟩ ⟨k0, k1⟩ HSC.out ⟨x0, x1⟩
          obtain ⟨G, hG⟩ : ∃ G, G = exchM u v s x k := ⟨_, rfl⟩
          rw [← hG] at g1 g2 hfair
          have ce : ∀ dd os, Calls Try.prog 15 #[.int .i64 T] (grow (redrawn wr dd) os) fun e w'' => e = .returned (.int .i64 x) ∧ ∃ p : Regrown, w'' = grow (redrawn wr p.d) p.os := fun dd os => Calls.regrown_of (HE.out _)
          have cg : ∀ dd os, Calls Try.prog 64 #[.int .i64 u, .int .i64 v, .int .i64 s, .int .i64 x, .int .i64 k] (grow (redrawn wr dd) os) fun e w'' => e = .returned (.int .i64 G) ∧ ∃ p : Regrown, w'' = grow (redrawn wr p.d) p.os :=
            fun dd os => Calls.regrown_of (just_below (refgain_any _ u v s x k G ⟨u0, u1⟩ ⟨v0, v1⟩ (by have := HSC.out; omega) (by omega) ⟨k0, k1⟩ hG))
          obtain ⟨-, q1, q2, q3, q4, -, -⟩ := hfair
          have htx : X.take (i + 1) = X.take i ++ [u + G] := by rw [List.take_add_one, g1]; rfl
          have hty : Y.take (i + 1) = Y.take i ++ [v - G] := by rw [List.take_add_one, g2]; rfl
          have HTX := Lib.hid htx; have HTY := Lib.hid hty; have CE := Lib.hid ce; have CG := Lib.hid cg
          have HV := Lib.hid hv
          clear htx hty ce cg g1 g2 hG hu hv
          go_wp2_with fail
          refine wp_region_quiet_below (by kernel_rfl) (by kernel_rfl) ?_
          have v1' := cell_regrown ca; have v2' := cell_regrown cb; have hq1 := HQ1.out; have hq2 := HT'.out
          repeat (go_big_quiet_step (first | with_reducible exact CE.out _ _ | with_reducible exact CG.out _ _))
          refine wpQuiet_nil ?_
          intro wz hw'
          obtain ⟨⟨dq, osq⟩, hw''⟩ := hw'
          have hbq := below_regrown wr dq osq
          obtain ⟨w9, hw9⟩ : ∃ w9, w9 = grow (redrawn wr dq) osq := ⟨_, rfl⟩
          rw [← hw9] at hbq
          have hw10 := hw''.trans hw9.symm
          subst hw10
          have ua := (hbq.cell (World.block_lt_of_cell? _ _ ca)).trans ca
          have hst9 := HK.out.1.below hbq 5
          have hp9 := HK.out.2.1.step ((Step.refl [] wr oj).below hbq 5) (by simp)
          have hq9 := HK.out.2.2.step ((Step.refl [] wr oj).below hbq 5) (by simp)
          obtain ⟨o9, ho9⟩ : ∃ o, o = ext oj wr.heap.size 5 := ⟨_, rfl⟩
          rw [← ho9] at hst9 hp9 hq9
          have stA := (Step.refl [] wz o9).alloc (.cells #[.int .i64 (u + G)] 3) 5
          have HST9 := Lib.hid (hst9.trans stA); have HP9 := Lib.hid (hp9.step stA (by simp)); have HQ9 := Lib.hid (hq9.step stA (by simp))
          have HSL := Lib.hid (Sl.one wz o9 5 3 (.int .i64 (u + G)))
          clear hw'' hw9 hbq v1' v2' hq1 hq2 ca cb hst9 hp9 hq9 stA ho9 CE CG
          go_wp2_with (first
            | (at_builtin; refine wpList_append_row _ rfl (.tmp 100) (.tmp 107) _ rfl el_int _ 36 Ap i cp _ rfl HP9.out _ 5 _ 1 1 [.int .i64 (u + G)] rfl HSL.out (by simp [Value.oneCell']) (by omega) (by simp only [maxLen]; omega) ?_; intro A2 c2 w10 hr3 hg3 hat3; have sAp := Step.append HP9.out hg3 36; have hst10 := (HST9.out.nil.trans sAp).forget (ts' := []) (fun t ht _ k hk => by simp at ht; subst ht; simp); have hq10 := HQ9.out.step sAp (by decide); have stB := fun o => (Step.refl [] w10 o).alloc (.cells #[.int .i64 (v - G)] 3) 5; have cb := (HT.out.step hst10 (by simp)).intAt HV.out; have HST10 := Lib.hid (hst10.trans (stB _)); have HP10 := Lib.hid (hr3.step (stB _) (by simp)); have HQ10 := Lib.hid (hq10.step (stB _) (by simp)); have HSL2 := Lib.hid (Sl.one w10 (ext (ext o9 wz.heap.size 5) (wz.alloc (.cells #[.int .i64 (u + G)] 3)).heap.size 36) 5 3 (.int .i64 (v - G))); clear hr3 hg3 hat3 sAp hst10 hq10 stB)
            | (at_builtin; refine wpList_append_row _ rfl (.tmp 109) (.tmp 116) _ rfl el_int _ 37 Aq i cq _ rfl HQ10.out _ 5 _ 1 1 [.int .i64 (v - G)] rfl HSL2.out (by simp [Value.oneCell']) (by omega) (by simp only [maxLen]; omega) ?_; intro A4 c4 w11 hr4 hg4 hat4; have sAq := Step.append HQ10.out hg4 37; have HST11 := Lib.hid ((HST10.out.nil.trans sAq).forget (ts' := []) (fun t ht _ k hk => by simp at ht; subst ht; simp)); have HP11 := Lib.hid (HP10.out.step sAq (by decide)); have HQ11 := Lib.hid hr4; clear hr4 hg4 hat4 sAq))
          go_roundw
          case rel => exact ⟨i + 1, A2, c2, A4, c4, _, by omega, by go_num, rfl, rfl, Lib.hid ⟨HST11.out, by rw [HTX.out]; simpa [ints] using HP11.out, by rw [HTY.out]; simpa [ints] using HQ11.out⟩⟩
          case measure => simp [intOf]; omega
        · obtain rfl : n = i := by omega
          go_wp2_with fail
          go_ret3
          have k1 := HK.out.2.1; have k2 := HK.out.2.2
          rw [List.take_of_length_le (by have := HLXY.out; have := HL1.out; omega), HX.out] at k1
          rw [List.take_of_length_le (by have := HLXY.out; have := HL1.out; omega), HY.out] at k2
          rw [← HL1.out] at k1 k2
          exact ⟨Ap, cp, Aq, cq, oj, by rw [HL1.out]; rfl, HK.out.1, k1, k2⟩

set_option maxRecDepth 100000 in
set_option maxHeartbeats 4000000 in
theorem refMatch_bad (w : World) (A B : Option Addr) (n c m d : Nat) (xs ys : List Int) (hS : Sl w (fun _ => 0) 0 1 A n c (ints xs)) (hT : Sl w (fun _ => 0) 0 1 B m d (ints ys)) (s k : Int) (hbad : teamOk xs ys s k = false) :
    Calls Try.prog 38 #[.slice A n c, .slice B m d, .int .i64 s, .int .i64 k] w fun e w' => e = .returned (.tuple #[.slice none 0 0, .slice none 0 0, .int .i64 2]) ∧ Below w.heap.size w w' := by
  have hl1 : xs.length = n := by have := hS.1; rw [len_ints] at this; omega
  have hl2 : ys.length = m := by have := hT.1; rw [len_ints] at this; omega
  have hb : n ≤ 9223372036854775807 ∧ m ≤ 9223372036854775807 := by have h1 := hS.2.1; have h2 := hS.2.2.1; have h3 := hT.2.1; have h4 := hT.2.2.1; unfold maxLen at h2 h4; omega
  obtain ⟨hb1, hb2⟩ := hb
  obtain ⟨R, hR⟩ : ∃ R, R = (isSc s && isWt k) := ⟨_, rfl⟩
  have h3 := fun W => right_any W s k R hR
  have H3 := Lib.hid h3
  have hbad' : n = m → 1 ≤ n → n ≤ 8 → R = true → ¬ (∀ (i : Nat) (u v : Int), xs[i]? = some u → ys[i]? = some v → (0 ≤ u ∧ u ≤ 4000) ∧ 0 ≤ v ∧ v ≤ 4000) := fun a1 a2 a3 a4 h => by
    rw [← Bool.not_eq_true, teamOk_iff, hl1, hl2] at hbad
    rw [hR, Bool.and_eq_true] at a4
    refine hbad ⟨a1, a2, a3, ?_, ?_, a4.1, a4.2⟩
    · rw [List.all_eq_true]
      intro u hu
      obtain ⟨i, hi⟩ := List.getElem?_of_mem hu
      have := (List.getElem?_eq_some_iff.1 hi).1
      exact inR_iff.2 (h i u _ hi (List.getElem?_eq_getElem (by omega))).1
    · rw [List.all_eq_true]
      intro u hu
      obtain ⟨i, hi⟩ := List.getElem?_of_mem hu
      have := (List.getElem?_eq_some_iff.1 hi).1
      exact inR_iff.2 (h i _ u (List.getElem?_eq_getElem (by omega)) hi).2
  clear h3 hR hbad
  have bel := Below.refl w.heap.size w
  by_cases b1 : n = m
  · have d1 : ((n : Int) != (m : Int)) = false := by simp [b1]
    by_cases b2 : n < 1
    · have d2 : decide ((n : Int) < 1) = true := by simp; omega
      clear hbad' b1 b2 hS hT hl1 hl2
      go_enter Try.func38, Try.ntmps38
      go_wp2_with fail
      go_ret3
      exact ⟨rfl, bel⟩
    · have d2 : decide ((n : Int) < 1) = false := by simp; omega
      by_cases b3 : 8 < n
      · have d3 : decide (8 < (n : Int)) = true := by simp; omega
        clear hbad' b1 b2 b3 hS hT hl1 hl2
        go_enter Try.func38, Try.ntmps38
        go_wp2_with fail
        go_ret3
        exact ⟨rfl, bel⟩
      · have d3 : decide (8 < (n : Int)) = false := by simp; omega
        cases R with
        | false =>
          clear hbad' b1 b2 b3 hS hT hl1 hl2
          go_enter Try.func38, Try.ntmps38
          go_wp2_with (go_at_call 63; refine (H3.out _).mono ?_; rintro e w2 ⟨rfl, h2⟩; subst w2)
          go_ret3
          exact ⟨rfl, bel⟩
        | true =>
          subst b1
          have hn8 : n ≤ 8 := by omega
          have HBAD := Lib.hid (hbad' rfl (by omega) (by omega) rfl)
          have HL1 := Lib.hid hl1; have HL2 := Lib.hid hl2; have HS := Lib.hid hS; have HT := Lib.hid hT
          clear hbad' hl1 hl2 hS hT bel hb1 hb2 b2 b3
          go_enter Try.func38, Try.ntmps38
          go_wp2_with (go_at_call 63; refine (H3.out _).mono ?_; rintro e w2 ⟨rfl, h2⟩; subst w2)
          go_loopw [13, 12] (fun t u wr => ∃ (i : Nat) (S : Int), i ≤ n ∧ t = .int .i64 i ∧ u = .int .i64 S ∧ -4000 * (i : Int) ≤ S ∧ S ≤ 4000 * (i : Int) ∧ Hid (∀ (j : Nat) (u v : Int), j < i → xs[j]? = some u → ys[j]? = some v → (0 ≤ u ∧ u ≤ 4000) ∧ 0 ≤ v ∧ v ≤ 4000) ∧ Hid (Below w.heap.size w wr)) (fun t _ _ => n - (intOf t).toNat)
          case atStart => exact ⟨0, 0, Nat.zero_le _, rfl, rfl, by omega, by omega, Lib.hid (fun j _ _ h => absurd h (Nat.not_lt_zero _)), Lib.hid (Below.refl _ _)⟩
          case round => as_aux_lemma =>
            obtain ⟨i, S, hi, rfl, rfl, s0, s1, HGD, HB⟩ := hrel
            by_cases hlt : i < n
            · obtain ⟨u, hu⟩ : ∃ u, xs[i]? = some u := ⟨_, List.getElem?_eq_getElem (by rw [HL1.out]; exact hlt)⟩
              obtain ⟨v, hv⟩ : ∃ v, ys[i]? = some v := ⟨_, List.getElem?_eq_getElem (by rw [HL2.out]; exact hlt)⟩
              obtain ⟨ga, oa, rfl, -, hga, ca⟩ := (HS.out.up HB.out).int hu
              obtain ⟨gb, ob, rfl, -, hgb, cb⟩ := (HT.out.up HB.out).int hv
              obtain ⟨c0, hc0⟩ : ∃ c : Bool, decide (u < 0) = c := ⟨_, rfl⟩
              obtain ⟨c1, hc1⟩ : ∃ c : Bool, decide (4000 < u) = c := ⟨_, rfl⟩
              obtain ⟨c2, hc2⟩ : ∃ c : Bool, decide (v < 0) = c := ⟨_, rfl⟩
              obtain ⟨c3, hc3⟩ : ∃ c : Bool, decide (4000 < v) = c := ⟨_, rfl⟩
              have HU := Lib.hid hu; have HV := Lib.hid hv
              have hx1 : (i : Int) ≤ 8 := by omega
              clear hu hv
              cases c0
              · cases c1
                · cases c2
                  · cases c3
                    · have e0 : ¬ u < 0 := by simpa using hc0
                      have e1 : ¬ 4000 < u := by simpa using hc1
                      have e2 : ¬ v < 0 := by simpa using hc2
                      have e3 : ¬ 4000 < v := by simpa using hc3
                      have HGD2 : Hid (∀ (j : Nat) (u v : Int), j < i + 1 → xs[j]? = some u → ys[j]? = some v → (0 ≤ u ∧ u ≤ 4000) ∧ 0 ≤ v ∧ v ≤ 4000) := Lib.hid (fun j u' v' hj h1 h2 => by
                        by_cases hji : j < i
                        · exact HGD.out j u' v' hji h1 h2
                        · obtain rfl : j = i := by omega
                          have q1 := HU.out.symm.trans h1; have q2 := HV.out.symm.trans h2
                          injection q1 with q1; injection q2 with q2
                          subst q1 q2; omega)
                      go_wp2_with fail
                      go_quiet (fail)
                      go_wp2_with fail
                      go_roundw
                      case rel => exact ⟨i + 1, S + u - v, by omega, by go_num, rfl, by omega, by omega, HGD2, Lib.hid (by first | exact HB.out.drewK _ | exact Below.drewK HB.out _)⟩
                      case measure => simp [intOf]; omega
                    · go_wp2_with fail
                      go_ret3
                      exact ⟨rfl, HB.out⟩
                  · go_wp2_with fail
                    go_ret3
                    exact ⟨rfl, HB.out⟩
                · go_wp2_with fail
                  go_ret3
                  exact ⟨rfl, HB.out⟩
              · go_wp2_with fail
                go_ret3
                exact ⟨rfl, HB.out⟩
            · obtain rfl : n = i := by omega
              exact absurd (fun j u v h1 h2 => HGD.out j u v (by have := (List.getElem?_eq_some_iff.1 h1).1; have := HL1.out; omega) h1 h2) HBAD.out
  · have d1 : ((n : Int) != (m : Int)) = true := by simp; omega
    clear hbad' b1 hS hT hl1 hl2
    go_enter Try.func38, Try.ntmps38
    go_wp2_with fail
    go_ret3
    exact ⟨rfl, bel⟩
end Go.Proofs.Ytkceefheeicmbaa
