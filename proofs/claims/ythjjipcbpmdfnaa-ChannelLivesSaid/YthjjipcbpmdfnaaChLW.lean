/-
  WALK of (*link).calm.
-/
import Derived.Test.YthjjipcbpmdfnaaChWM
import Derived.Test.YthjjipcbpmdfnaaChLV
namespace Go.Proofs.Ythjjipcbpmdfnaa
open Go.RowKit

/-- What 'calm' comes to. -/
def CalmTo (w : World) (o : Own) (l : Nat) (own other : Int) (most m : Nat) (e : Ending) (w' : World) : Prop :=
  ∃ (n m' : Nat) (o' : Own) (a b : CSide) (t : Int), e = .returned (.tuple #[.int .i64 n, .bool true]) ∧ n ≤ most ∧ m' ≤ m + 5 * most ∧ Step linkTags w o w' o' ∧ LinkOkC w' o' l own other m' a b t ∧ waitS a.c = 0 ∧ waitS b.c = 0

/-- What the loop of calm holds. -/
def CalmJ (w : World) (o : Own) (l : Nat) (own other t0 : Int) (W m n : Nat) (wr : World) : Prop :=
  ∃ (m' : Nat) (or : Own) (a b : CSide) (t : Int), m' = m + 5 * n ∧ Step linkTags w o wr or ∧ LinkOkC wr or l own other m' a b t ∧ Calm own other t0 W n m' a b t

/-- The two Waitings, in a region that draws its order. -/
theorem wait_both {w : World} {o : Own} {l : Nat} {a b : CSide} {t : Int} (h : LinkCAt w o l a b t) : ∃ (ab bb : Nat), w.cell? ⟨l, 0, none⟩ = some (.pointer (some ⟨ab, 0, none⟩)) ∧ w.cell? ⟨l, 4, none⟩ = some (.pointer (some ⟨bb, 0, none⟩)) ∧ w.cell? ⟨l, 8, none⟩ = some (.int .i64 t) ∧ w.frozen? ⟨l, 8, none⟩ = false ∧ l < w.heap.size ∧
    (∀ q, Calls Try.prog 31 #[.pointer (some ⟨ab, 0, none⟩)] (w.drewN q) fun e w' => e = .returned (.int .i64 (waitS a.c)) ∧ w' = w.drewN q) ∧
    (∀ q, Calls Try.prog 31 #[.pointer (some ⟨bb, 0, none⟩)] (w.drewN q) fun e w' => e = .returned (.int .i64 (waitS b.c)) ∧ w' = w.drewN q) := by
  obtain ⟨v, u, cells, h⟩ := h
  refine ⟨v.b, u.b, (h.blk.cell 0).trans h.x.c0, (h.blk.cell 4).trans h.y.c0, (h.blk.cell 8).trans h.tick, h.blk.frozen 8, h.blk.lt, fun q => ?_, fun q => ?_⟩
  · refine (Waiting_ok (h.ax.c.step ((Step.refl [] w o).drewN q) (by simp) (by simp) (by simp) (by simp))).mono ?_
    rintro e w' ⟨he, rfl⟩; exact ⟨he, rfl⟩
  · refine (Waiting_ok (h.by_.c.step ((Step.refl [] w o).drewN q) (by simp) (by simp) (by simp) (by simp))).mono ?_
    rintro e w' ⟨he, rfl⟩; exact ⟨he, rfl⟩

theorem link_tags {T U : ChT} (hP : Pair T U) {s : Nat} (hs : s < 2) : ∀ t ∈ [T.τ, T.τe, 30, 31 + s, 33 + s, 35 + s, 39, 40], t ∈ linkTags := by
  intro t ht
  have hs2 : s = 0 ∨ s = 1 := by omega
  rcases hP with ⟨rfl, rfl⟩ | ⟨rfl, rfl⟩ <;> rcases hs2 with rfl | rfl <;> simp [T1, T2] at ht ⊢ <;> omega

/-- Half a tick in memory: what flushes comes to, and, if there is a packet, what takes makes of it. -/
def HalfTo (w : World) (o : Own) (l s s' : Nat) (T U : ChT) (x y : CSide) (t : Int) (e : Ending) (w1 : World) : Prop :=
  ∃ A P c, e = .returned (.tuple #[.slice A P c, .bool true]) ∧ P = (flushS x.c t).2.1.length ∧
    ((P = 0 ∧ ∃ o1 v1 u1 cells1, Step linkTags w o w1 o1 ∧ LinkC w1 o1 l s' s U T (halfS x y t).2 (halfS x y t).1 t u1 v1 cells1) ∨
     (0 < P ∧ Calls Try.prog 34 #[.pointer (some ⟨l, 0, none⟩), .int .i64 s', .slice A P c] w1 fun e w2 => e = .returned (.bool true) ∧ ∃ o2 v2 u2 cells2, Step linkTags w o w2 o2 ∧ LinkC w2 o2 l s' s U T (halfS x y t).2 (halfS x y t).1 t u2 v2 cells2))

theorem half_mem {w : World} {o : Own} {l s s' : Nat} {T U : ChT} {x y : CSide} {t : Int} {v u : CV} {cells : Array Value} (h : LinkC w o l s s' T U x y t v u cells) (hP : Pair T U) (hs : s < 2) (hs' : s' = 1 - s) {own other : Int} {m : Nat} (hI : CInv own other m x y t) (hm : m ≤ 20000) (h0 : 0 ≤ own) (h1 : own ≤ 1099511627776) (h2 : 0 ≤ other) :
    Calls Try.prog 33 #[.pointer (some ⟨l, 0, none⟩), .int .i64 s] w (HalfTo w o l s s' T U x y t) := by
  obtain ⟨e0, e1, e2, hmem, -⟩ := hI.half (by omega) h0 h1 h2
  have z1 := hI.sa; have z2 := hI.sb; have z3 := hI.ma; have z4 := hI.mb; have z5 := hI.t1
  refine (flushes_any h hP hs hs' hI.fit (by omega) (by omega) (hI.next h1 (by omega)) e0 e1).mono ?_
  rintro e w1 ⟨A, c, o1, v1, cells1, rfl, hst1, hL1, hS1⟩
  have htg := link_tags hP hs
  have hst1' : Step linkTags w o w1 o1 := hst1.mono fun t ht => htg t (by
    simp only [List.mem_cons, List.not_mem_nil, or_false] at ht ⊢
    omega)
  refine ⟨A, _, c, rfl, rfl, ?_⟩
  by_cases hp : (flushS x.c t).2.1.length = 0
  · refine .inl ⟨hp, o1, v1, u, cells1, hst1', ?_⟩
    unfold halfS
    rw [if_pos hp]
    exact hL1.swap
  · refine .inr ⟨by omega, ?_⟩
    obtain ⟨f1, f2, f3, f4, -⟩ := e2.swap.take (by omega) h2 h1 h0 (hmem hp)
    have hfit := e2.swap.fit
    have z6 := e2.sa
    refine (takes_any hL1.swap hP.swap (by omega) (by omega) hfit (by omega) (e2.swap.newest h1 (by omega)) 38 A _ c _ hS1 (.inr rfl) (by omega) f1 f2 f3 f4).mono ?_
    rintro e w2 ⟨rfl, o2, u2, cells2, hst2, hL2⟩
    refine ⟨rfl, o2, v1, u2, cells2, hst1'.trans (hst2.mono (link_tags hP.swap (by omega))), ?_⟩
    unfold halfS
    rw [if_neg hp]
    exact hL2

/-- The clock of a connection. -/
theorem LinkCAt.tick {w : World} {o : Own} {l : Nat} {a b : CSide} {t : Int} (h : LinkCAt w o l a b t) (t' : Int) : LinkCAt (w.setCell ⟨l, 8, none⟩ (.int .i64 t')) o l a b t' ∧ Step linkTags w o (w.setCell ⟨l, 8, none⟩ (.int .i64 t')) o := by
  obtain ⟨v, u, cells, h⟩ := h
  obtain ⟨h1, h2⟩ := h.onTick (.inl ⟨rfl, rfl⟩) (by decide) rfl t'
  exact ⟨⟨v, u, _, h1⟩, h2.mono (by simp)⟩

set_option maxRecDepth 100000 in
set_option maxHeartbeats 2000000 in
theorem calm_any {w : World} {o : Own} {l : Nat} {own other : Int} {m : Nat} {a b : CSide} {t0 : Int} (h : LinkOkC w o l own other m a b t0) (hm : m ≤ 300) {W : Nat} (ha : waitS a.c ≤ W) (hb : waitS b.c ≤ W) (hW : W ≤ 300) :
    Calls Try.prog 32 #[.pointer (some ⟨l, 0, none⟩), .int .i64 ((W : Int) + 18)] w (CalmTo w o l own other (W + 18) m) := by
  have hJ0 : CalmJ w o l own other t0 W m 0 w := ⟨m, o, a, b, t0, by omega, Step.refl _ _ _, h, calm_start h.inv ha hb⟩
  have Ho0 := h.o0; have Ho1 := h.o1; have Hp0 := h.p0; have Hp1 := h.p1
  have Bo0 := Lib.hid Ho0; have Bo1 := Lib.hid Ho1; have Bp0 := Lib.hid Hp0; have Bp1 := Lib.hid Hp1
  have HJ0 := Lib.hid hJ0
  obtain ⟨M, hM⟩ : ∃ M, M = W + 18 := ⟨_, rfl⟩
  have hMI : (W : Int) + 18 = (M : Int) := by omega
  have hM4 : M ≤ 400 := by omega
  rw [hMI, ← hM]
  have HM := Lib.hid hM
  clear hJ0 h ha hb hM hMI Ho0 Ho1 Hp0 Hp1
  go_enter Try.func32, Try.ntmps32
  go_wp2_with fail
  go_loopw [11, 4, 5] (fun i r4 r5 wr => ∃ (n : Nat), n ≤ M ∧ i = .int .i64 n ∧ r4 = .int .i64 0 ∧ r5 = .bool false ∧ Hid (CalmJ w o l own other t0 W m n wr)) (fun i _ _ _ => M - (intOf i).toNat)
  case atStart => exact ⟨0, Nat.zero_le _, rfl, rfl, rfl, HJ0⟩
  case round => as_aux_lemma =>
    clear HJ0
    obtain ⟨n, hn, rfl, rfl, rfl, HJ⟩ := hrel
    obtain ⟨m', or, a1, b1, t, hm', hst, hok, hcalm⟩ := HJ.out
    obtain ⟨ab, bb, c0, c4, c8, f8, hlt, hwa, hwb⟩ := wait_both hok.at_
    have hsa : waitS a1.c ≤ 300 := by have := hcalm.wa; omega
    have hsb : waitS b1.c ≤ 300 := by have := hcalm.wb; omega
    obtain ⟨S, hS⟩ : ∃ S, S = waitS a1.c + waitS b1.c := ⟨_, rfl⟩
    have hwr : wrap64 ((waitS a1.c : Int) + (waitS b1.c : Int)) = (waitS a1.c : Int) + (waitS b1.c : Int) := IntWalk.wrap64_in _ (by omega)
    have htb : 0 ≤ t ∧ t ≤ 1000000 := ⟨hok.inv.t0, by have := hok.inv.t1; omega⟩
    obtain ⟨ht0, ht1⟩ := htb
    have HS := Lib.hid hS
    have HWA := Lib.hid hwa; have HWB := Lib.hid hwb; have HST := Lib.hid hst; have HOK := Lib.hid hok; have HCALM := Lib.hid hcalm; have HM' := Lib.hid hm'
    clear hwa hwb hst hok hcalm hm' HJ hS
    by_cases hlt2 : n < M
    · have hd : decide ((n : Int) < (M : Int)) = true := decide_eq_true (by omega)
      have hd' : (n : Int) < (M : Int) := by omega
      by_cases hS0 : S = 0
      · have hd2 : (((waitS a1.c : Int) + (waitS b1.c : Int)) == 0) = true := by have := HS.out; simp; omega
        go_wp2_with fail
        go_quiet (first | (go_at_call 31; with_reducible exact Calls.quiet_of_same (HWA.out _)) | (go_at_call 31; with_reducible exact Calls.quiet_of_same (HWB.out _)))
        go_wp2_with fail
        go_ret2
        have st9 := (Step.refl [] wr or).drewN nq
        exact ⟨n, m', or, a1, b1, t, rfl, by have := HM.out; omega, by have := HM'.out; have := HM.out; omega, HST.out.trans st9.nil, HOK.out.step st9 (by simp), by have := HS.out; omega, by have := HS.out; omega⟩
      · have hd2 : (((waitS a1.c : Int) + (waitS b1.c : Int)) == 0) = false := by have := HS.out; simp; omega
        have hwt : IntKind.i64.wrap (t + 1) = t + 1 := IntWalk.i64_in _ (by omega)
        have hcalm2 := calm_tick HCALM.out Bo0.out Bo1.out Bp0.out Bp1.out (by have := HM'.out; have := HM.out; omega)
        have hinv1 : CInv own other (m' + 1) a1 b1 (t + 1) := by
          obtain ⟨q1, q2, q3, q4, q5, q6, q7, q8, q9⟩ := HOK.out.inv.mono (Nat.le_succ m')
          exact ⟨q1, q2, q3, q4, q5, by omega, by omega, by omega, by have := HOK.out.inv.t1; omega⟩
        have HC2 := Lib.hid hcalm2; have HI1 := Lib.hid hinv1
        clear hcalm2 hinv1
        go_wp2_with fail
        go_quiet (first | (go_at_call 31; with_reducible exact Calls.quiet_of_same (HWA.out _)) | (go_at_call 31; with_reducible exact Calls.quiet_of_same (HWB.out _)))
        go_wp2_with fail
        have st1 := (Step.refl [] wr or).drewN nq
        obtain ⟨hL2, st2⟩ := (HOK.out.step st1 (by simp)).at_.tick (t + 1)
        have st3 := HST.out.trans (st1.nil.trans st2)
        generalize (wr.drewN nq).setCell ⟨l, 8, none⟩ (.int .i64 (t + 1)) = w2 at hL2 st3 ⊢
        obtain ⟨v2, u2, cells2, hL2⟩ := hL2
        have hh := half_mem hL2 (.inl ⟨rfl, rfl⟩) (by decide) rfl HI1.out (by have := HM'.out; omega) Bo0.out Bo1.out Bp0.out
        have HH := Lib.hid hh; have ST3 := Lib.hid st3
        clear hh hL2 st3 st1 st2 c0 c4 c8 f8 HWA HWB
        refine wp_loop_rounds 3 ?_
        rw [rounds_succ]
        go_wp2_with fail
        refine HH.out.mono ?_
        rintro e w3 ⟨A3, P3, p3, rfl, -, hcs⟩
        obtain ⟨-, -, -, -, hinv4⟩ := HI1.out.half (by have := HM'.out; omega) Bo0.out Bo1.out Bp0.out
        have HI4 := Lib.hid hinv4
        clear hinv4 HH
        rcases hcs with ⟨rfl, o3, v3, u3, cells3, st4, hL3⟩ | ⟨hp3, htk⟩
        · have hh := half_mem hL3 (.inr ⟨rfl, rfl⟩) (by decide) rfl HI4.out (by have := HM'.out; omega) Bp0.out Bp1.out Bo0.out
          have HH := Lib.hid hh; have ST4 := Lib.hid (ST3.out.trans st4)
          clear hh hL3 st4 ST3
          go_wp2_with fail
          rw [rounds_succ]
          go_wp2_with fail
          refine HH.out.mono ?_
          rintro e w6 ⟨A6, P6, p6, rfl, -, hcs⟩
          clear HH
          rcases hcs with ⟨rfl, o6, v6, u6, cells6, st6, hL6⟩ | ⟨hp6, htk6⟩
          · have ST6 := Lib.hid (ST4.out.trans st6); have HL6 := Lib.hid hL6
            clear st6 hL6 ST4
            go_wp2_with fail
            have HJ9 : Hid (CalmJ w o l own other t0 W m (n + 1) w6) := Lib.hid ⟨m' + 5, o6, (calmS a1 b1 (t + 1)).1, (calmS a1 b1 (t + 1)).2, t + 1, by have := HM'.out; omega, ST6.out, ⟨⟨_, _, _, HL6.out⟩, HC2.out.inv, Bo0.out, Bo1.out, Bp0.out, Bp1.out⟩, HC2.out⟩
            rw [rounds_succ]
            go_wp2_with fail
            go_roundw
            case rel => exact ⟨n + 1, by omega, by go_num, rfl, rfl, HJ9⟩
            case measure => simp [intOf]; omega
          · have HTK6 := Lib.hid htk6
            have hdp6 : decide (0 < (P6 : Int)) = true := decide_eq_true (by omega)
            clear htk6
            go_wp2_with fail
            refine HTK6.out.mono ?_
            rintro e w7 ⟨rfl, o7, v7, u7, cells7, st7, hL7⟩
            have ST7 := Lib.hid (ST4.out.trans st7); have HL7 := Lib.hid hL7
            clear st7 hL7 ST4 HTK6
            go_wp2_with fail
            have HJ9 : Hid (CalmJ w o l own other t0 W m (n + 1) w7) := Lib.hid ⟨m' + 5, o7, (calmS a1 b1 (t + 1)).1, (calmS a1 b1 (t + 1)).2, t + 1, by have := HM'.out; omega, ST7.out, ⟨⟨_, _, _, HL7.out⟩, HC2.out.inv, Bo0.out, Bo1.out, Bp0.out, Bp1.out⟩, HC2.out⟩
            rw [rounds_succ]
            go_wp2_with fail
            go_roundw
            case rel => exact ⟨n + 1, by omega, by go_num, rfl, rfl, HJ9⟩
            case measure => simp [intOf]; omega
        · have HTK := Lib.hid htk
          have hdp3 : decide (0 < (P3 : Int)) = true := decide_eq_true (by omega)
          clear htk
          go_wp2_with fail
          refine HTK.out.mono ?_
          rintro e w5 ⟨rfl, o5, v5, u5, cells5, st5, hL5⟩
          have hh := half_mem hL5 (.inr ⟨rfl, rfl⟩) (by decide) rfl HI4.out (by have := HM'.out; omega) Bp0.out Bp1.out Bo0.out
          have HH := Lib.hid hh; have ST4 := Lib.hid (ST3.out.trans st5)
          clear hh hL5 st5 ST3 HTK
          go_wp2_with fail
          rw [rounds_succ]
          go_wp2_with fail
          refine HH.out.mono ?_
          rintro e w6 ⟨A6, P6, p6, rfl, -, hcs⟩
          clear HH
          rcases hcs with ⟨rfl, o6, v6, u6, cells6, st6, hL6⟩ | ⟨hp6, htk6⟩
          · have ST6 := Lib.hid (ST4.out.trans st6); have HL6 := Lib.hid hL6
            clear st6 hL6 ST4
            go_wp2_with fail
            have HJ9 : Hid (CalmJ w o l own other t0 W m (n + 1) w6) := Lib.hid ⟨m' + 5, o6, (calmS a1 b1 (t + 1)).1, (calmS a1 b1 (t + 1)).2, t + 1, by have := HM'.out; omega, ST6.out, ⟨⟨_, _, _, HL6.out⟩, HC2.out.inv, Bo0.out, Bo1.out, Bp0.out, Bp1.out⟩, HC2.out⟩
            rw [rounds_succ]
            go_wp2_with fail
            go_roundw
            case rel => exact ⟨n + 1, by omega, by go_num, rfl, rfl, HJ9⟩
            case measure => simp [intOf]; omega
          · have HTK6 := Lib.hid htk6
            have hdp6 : decide (0 < (P6 : Int)) = true := decide_eq_true (by omega)
            clear htk6
            go_wp2_with fail
            refine HTK6.out.mono ?_
            rintro e w7 ⟨rfl, o7, v7, u7, cells7, st7, hL7⟩
            have ST7 := Lib.hid (ST4.out.trans st7); have HL7 := Lib.hid hL7
            clear st7 hL7 ST4 HTK6
            go_wp2_with fail
            have HJ9 : Hid (CalmJ w o l own other t0 W m (n + 1) w7) := Lib.hid ⟨m' + 5, o7, (calmS a1 b1 (t + 1)).1, (calmS a1 b1 (t + 1)).2, t + 1, by have := HM'.out; omega, ST7.out, ⟨⟨_, _, _, HL7.out⟩, HC2.out.inv, Bo0.out, Bo1.out, Bp0.out, Bp1.out⟩, HC2.out⟩
            rw [rounds_succ]
            go_wp2_with fail
            go_roundw
            case rel => exact ⟨n + 1, by omega, by go_num, rfl, rfl, HJ9⟩
            case measure => simp [intOf]; omega
    · obtain rfl : n = M := by omega
      have hd : decide ((n : Int) < (n : Int)) = false := decide_eq_false (by omega)
      have hz : waitS a1.c = 0 ∧ waitS b1.c = 0 := by have h1 := HCALM.out.wa; have h2 := HCALM.out.wb; have := HM.out; omega
      have hd2 : (((waitS a1.c : Int) + (waitS b1.c : Int)) == 0) = true := by have := HS.out; simp; omega
      go_wp2_with fail
      go_quiet (first | (go_at_call 31; with_reducible exact Calls.quiet_of_same (HWA.out _)) | (go_at_call 31; with_reducible exact Calls.quiet_of_same (HWB.out _)))
      go_wp2_with fail
      go_ret2
      have st9 := (Step.refl [] wr or).drewN nq
      exact ⟨n, m', or, a1, b1, t, rfl, Nat.le_refl _, by have := HM'.out; omega, HST.out.trans st9.nil, HOK.out.step st9 (by simp), hz.1, hz.2⟩
end Go.Proofs.Ythjjipcbpmdfnaa
