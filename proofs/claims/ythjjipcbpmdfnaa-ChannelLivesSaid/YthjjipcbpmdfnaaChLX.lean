/-
  WALK of ChannelLives.
-/
import Derived.Test.YthjjipcbpmdfnaaChLW
namespace Go.Proofs.Ythjjipcbpmdfnaa
open Go.RowKit

theorem CInv.later {own other : Int} {m : Nat} {a b : CSide} {t : Int} (h : CInv own other m a b t) {d : Nat} (hd : d ≤ 9) : CInv own other (m + 1) a b (t + (d : Int)) := by
  obtain ⟨q1, q2, q3, q4, q5, q6, q7, q8, q9⟩ := h.mono (Nat.le_succ m)
  exact ⟨q1, q2, q3, q4, q5, by omega, by omega, by omega, by have := h.t1; omega⟩
theorem CInv.all {own other : Int} {m : Nat} {a b : CSide} {t : Int} (h : CInv own other m a b t) (hw : waitS b.c = 0) : a.got = b.sent := by
  obtain ⟨X, Y, L, K, -, -, -, h4, -, -⟩ := h.ex
  rw [h4.got, h4.all hw, List.take_length]

theorem run_maxL {P : Program} (W : World) (ts : Array TypeId) (t : TypeId) (a b m : Int) (hm : m = max a b) : (Builtin.max_ ts t #[.int .i64 a, .int .i64 b]).run P W = .ok (.int .i64 m) W := by
  have e : ∀ x y : Int, (if x < y then y else x) = max x y := by
    intro x y; rw [Int.max_def]; split <;> split <;> omega
  subst hm
  simp [Builtin.max_, Builtin.max2, e]
/-- Everything has arrived: what the two sides show. -/
theorem arrived {w : World} {o : Own} {l : Nat} {own other : Int} {m : Nat} {a b : CSide} {t : Int} (h : LinkOkC w o l own other m a b t) (ha : waitS a.c = 0) (hb : waitS b.c = 0) :
    ∃ (ab bb : Nat) (GA : Option Addr) (g gc : Nat) (SA : Option Addr) (sc : Nat) (HA : Option Addr) (k kc : Nat) (RA : Option Addr) (rc : Nat),
      w.cell? ⟨l, 0, none⟩ = some (.pointer (some ⟨ab, 0, none⟩)) ∧ w.cell? ⟨l, 4, none⟩ = some (.pointer (some ⟨bb, 0, none⟩)) ∧ w.cell? ⟨l, 2, none⟩ = some (.slice GA g gc) ∧ w.cell? ⟨l, 5, none⟩ = some (.slice SA g sc) ∧ w.cell? ⟨l, 6, none⟩ = some (.slice HA k kc) ∧ w.cell? ⟨l, 1, none⟩ = some (.slice RA k rc) ∧ l < w.heap.size ∧
      Hid (∀ q, Calls Try.prog 26 #[.slice GA g gc, .slice SA g sc] (w.drewN q) fun e w' => e = .returned (.bool true) ∧ ∃ m, w' = w.drewN m) ∧
      Hid (∀ q, Calls Try.prog 26 #[.slice HA k kc, .slice RA k rc] (w.drewN q) fun e w' => e = .returned (.bool true) ∧ ∃ m, w' = w.drewN m) ∧
      Hid (∀ q, Calls Try.prog 31 #[.pointer (some ⟨ab, 0, none⟩)] (w.drewN q) fun e w' => e = .returned (.int .i64 0) ∧ w' = w.drewN q) ∧
      Hid (∀ q, Calls Try.prog 31 #[.pointer (some ⟨bb, 0, none⟩)] (w.drewN q) fun e w' => e = .returned (.int .i64 0) ∧ w' = w.drewN q) := by
  have e1 := h.inv.all hb
  have e2 := h.inv.swap.all ha
  obtain ⟨ab, bb, c0, c4, -, -, hlt, hwa, hwb⟩ := wait_both h.at_
  obtain ⟨⟨v, u, cells, hL⟩, -, -, -, -, -⟩ := h
  have g1 := hL.ax.got; have g2 := hL.by_.sent; have g3 := hL.by_.got; have g4 := hL.ax.sent
  rw [e1] at g1
  rw [e2] at g3
  have n1 : v.gn = u.sn := by have := g1.len; have := g2.len; omega
  have n2 : u.gn = v.sn := by have := g3.len; have := g4.len; omega
  have same : ∀ (q : Nat) {τ τ2 : Nat} {A B : Option Addr} {n c d : Nat} {ms : List (List UInt8)}, Sl w o τ 1 A n c (strs ms) → Sl w o τ2 1 B n d (strs ms) → Calls Try.prog 26 #[.slice A n c, .slice B n d] (w.drewN q) fun e w' => e = .returned (.bool true) ∧ ∃ m, w' = w.drewN m := by
    intro q τ τ2 A B n c d ms hA hB
    have st := (Step.refl [] w o).drewN q
    refine (SameTexts_eq (w.drewN q) o o τ τ2 A B n c d ms (hA.step st (by simp)) (hB.step st (by simp))).mono ?_
    rintro e w' ⟨he, k, hk⟩
    exact ⟨he, q + k, by rw [hk]; simp [World.drewN, Nat.add_assoc]⟩
  rw [ha] at hwa
  rw [hb] at hwb
  refine ⟨ab, bb, v.gA, v.gn, v.gc, u.sA, u.sc, u.gA, u.gn, u.gc, v.sA, v.sc, c0, c4, (hL.blk.cell 2).trans hL.x.c2, by rw [n1]; exact (hL.blk.cell 5).trans hL.y.c1, (hL.blk.cell 6).trans hL.y.c2, by rw [n2]; exact (hL.blk.cell 1).trans hL.x.c1, hlt, Lib.hid fun q => same q g1.sl (by rw [n1]; exact g2.sl), Lib.hid fun q => same q g3.sl (by rw [n2]; exact g4.sl), Lib.hid fun q => hwa q, Lib.hid fun q => hwb q⟩

/-- The end of ChannelLives: nothing waits; from the second round on nothing is to be acknowledged. -/
def IdleJ (w : World) (l : Nat) (own other : Int) (k : Nat) (wr : World) : Prop :=
  ∃ (m : Nat) (or : Own) (a b : CSide) (t : Int), m ≤ 3000 + 20 * k ∧ Step linkTags w (fun _ => 0) wr or ∧ LinkOkC wr or l own other m a b t ∧ waitS a.c = 0 ∧ waitS b.c = 0 ∧ (0 < k → a.c.owes = false ∧ b.c.owes = false)

set_option maxRecDepth 100000 in
set_option maxHeartbeats 4000000 in
theorem lives_walk (w : World) (x y : Int) (hx0 : 0 ≤ x) (hx1 : x < 18446744073709551616) (hy0 : 0 ≤ y) (hy1 : y < 18446744073709551616) (A : Option Addr) (n c : Nat) (ps : List OpV) (hO : OpsAt w (fun _ => 0) 0 A n c ps) :
    Calls Try.prog 6 #[.int .u64 x, .int .u64 y, .slice A n c] w fun e w' => e = .returned (.bool true) ∧ Below w.heap.size w w' := by
  have hpl := played_any w x y _ _ hx0 hx1 hy0 hy1 rfl rfl A n c ps hO 200 (by decide)
  obtain ⟨own, hown⟩ : ∃ k, k = x % 1099511627777 := ⟨_, rfl⟩
  obtain ⟨other, hother⟩ : ∃ k, k = y % 1099511627777 := ⟨_, rfl⟩
  rw [← hown, ← hother] at hpl
  have HPL := Lib.hid hpl
  clear hpl hO hown hother
  go_enter Try.func6, Try.ntmps6
  go_wp2_with fail
  refine HPL.out.mono ?_
  rintro e w1 ⟨l, o1, m, a, b, t, rfl, hm, hst, hok⟩
  obtain ⟨ab, bb, c0, c4, c8, f8, hlt, hwa, hwb⟩ := wait_both hok.at_
  have hsa : waitS a.c ≤ 200 := by have := cntN_le a.c.out a.c.sent; obtain ⟨X, Y, L, K, -, -, h3, -, -, -⟩ := hok.inv.ex; have := h3.ns; have := hok.inv.sa; unfold waitS; omega
  have hsb : waitS b.c ≤ 200 := by have := cntN_le b.c.out b.c.sent; obtain ⟨X, Y, L, K, -, -, -, h3, -, -⟩ := hok.inv.ex; have := h3.ns; have := hok.inv.sb; unfold waitS; omega
  obtain ⟨wa, hwae⟩ : ∃ k, k = waitS a.c := ⟨_, rfl⟩
  obtain ⟨wb, hwbe⟩ : ∃ k, k = waitS b.c := ⟨_, rfl⟩
  rw [← hwae] at hwa hsa
  rw [← hwbe] at hwb hsb
  obtain ⟨W, hW⟩ : ∃ W, W = max wa wb := ⟨_, rfl⟩
  have hW1 : waitS a.c ≤ W := by omega
  have hW2 : waitS b.c ≤ W := by omega
  have hW3 : W ≤ 200 := by omega
  have hmx : ∀ (V : World) (ts : Array TypeId) (tt : TypeId), (Builtin.max_ ts tt #[.int .i64 wa, .int .i64 wb]).run Try.prog V = .ok (.int .i64 W) V := fun V ts tt => run_maxL V ts tt wa wb W (by omega)
  have HWA := Lib.hid hwa; have HWB := Lib.hid hwb; have HST := Lib.hid hst; have HOK := Lib.hid hok
  clear hwa hwb hst hok HPL hwae hwbe hW c8 f8
  have HW1 := Lib.hid hW1; have HW2 := Lib.hid hW2
  clear hW1 hW2
  go_wp2_with fail
  go_quiet (first | (go_at_call 31; with_reducible exact Calls.quiet_of_same (HWA.out _)) | (go_at_call 31; with_reducible exact Calls.quiet_of_same (HWB.out _)))
  have st2 := (Step.refl [] w1 o1).drewN nq
  have hok2 := HOK.out.step st2 (by simp)
  have HST2 := Lib.hid (HST.out.trans st2.nil)
  generalize w1.drewN nq = w2 at hok2 HST2 ⊢
  have hcl := calm_any hok2 (by omega) HW1.out HW2.out (by omega)
  have HCL := Lib.hid hcl
  clear hcl hok2 st2 HWA HWB HST HOK c0 c4
  have hw16 : (W : Int) + 16 + 2 = (W : Int) + 18 := by omega
  go_wp2_with fail
  refine HCL.out.mono ?_
  rintro e w3 ⟨nn, m3, o3, a3, b3, t3, rfl, hnn, hm3, hst3, hok3, hwa3, hwb3⟩
  have hcmp : decide ((W : Int) + 18 < (nn : Int)) = false := decide_eq_false (by omega)
  have hcmp2 : decide (W + 18 < nn) = false := decide_eq_false (by omega)
  obtain ⟨ab3, bb3, GA, g, gc, SA, sc, HA, k, kc, RA, rc, c0, c4, c2, c5, c6, c1, hlt3, S1, S2, V1, V2⟩ := arrived hok3 hwa3 hwb3
  have HOK3 := Lib.hid hok3; have HST3 := Lib.hid (HST2.out.trans hst3); have HWA3 := Lib.hid hwa3; have HWB3 := Lib.hid hwb3
  clear hok3 hst3 hwa3 hwb3 HCL HST2
  go_wp2_with fail
  refine wp_loop_rounds 3 ?_
  rw [rounds_succ]
  go_wp2_with fail
  go_quiet (first | (go_at_call 26; with_reducible exact S1.out _) | (go_at_call 31; with_reducible exact Calls.quiet_of_same (V1.out _)))
  have st4 := (Step.refl [] w3 o3).drewN nq
  have hok4 := HOK3.out.step st4 (by simp)
  have hst4 := HST3.out.trans st4.nil
  generalize w3.drewN nq = w4 at hok4 hst4 ⊢
  clear st4 S1 S2 V1 V2 c0 c4 c2 c5 c6 c1 hlt3 HST3 HOK3
  obtain ⟨ab4, bb4, GA4, g4, gc4, SA4, sc4, HA4, k4, kc4, RA4, rc4, c0, c4, c2, c5, c6, c1, hlt4, S1, S2, V1, V2⟩ := arrived hok4 HWA3.out HWB3.out
  have HOK4 := Lib.hid hok4; have HST4 := Lib.hid hst4
  clear hok4 hst4
  go_wp2_with fail
  rw [rounds_succ]
  go_wp2_with fail
  go_quiet (first | (go_at_call 26; with_reducible exact S2.out _) | (go_at_call 31; with_reducible exact Calls.quiet_of_same (V2.out _)))
  have st5 := (Step.refl [] w4 o3).drewN nq
  have hok5 := HOK4.out.step st5 (by simp)
  have hst5 := HST4.out.trans st5.nil
  generalize w4.drewN nq = w5 at hok5 hst5 ⊢
  clear st5 S1 S2 V1 V2 c0 c4 c2 c5 c6 c1 hlt4 HST4 HOK4
  have hJ0 : IdleJ w l own other 0 w5 := ⟨m3, o3, a3, b3, t3, by omega, hst5, hok5, HWA3.out, HWB3.out, fun h => absurd h (Nat.lt_irrefl _)⟩
  have HJ0 := Lib.hid hJ0
  clear hJ0 hok5 hst5
  go_wp2_with fail
  rw [rounds_succ]
  go_wp2_with fail
  go_loopw [89, 6] (fun i r wr => ∃ (k : Nat), k ≤ 3 ∧ i = .int .i64 k ∧ r = .bool false ∧ Hid (IdleJ w l own other k wr)) (fun i _ _ => 3 - (intOf i).toNat)
  case atStart => exact ⟨0, Nat.zero_le _, rfl, rfl, HJ0⟩
  case round => as_aux_lemma =>
    clear HJ0
    obtain ⟨kk, hkk, rfl, rfl, HJ⟩ := hrel
    obtain ⟨m6, o6, a6, b6, t6, hm6, hst6, hok6, hwa6, hwb6, how6⟩ := HJ.out
    have Ho0 := hok6.o0; have Ho1 := hok6.o1; have Hp0 := hok6.p0; have Hp1 := hok6.p1
    have hinv := hok6.inv
    have htb : 0 ≤ t6 ∧ t6 ≤ 1000000 := ⟨hinv.t0, by have := hinv.t1; omega⟩
    obtain ⟨ht60, ht61⟩ := htb
    obtain ⟨v6, u6, cells6, hL6⟩ := hok6.at_
    have c8 := (hL6.blk.cell 8).trans hL6.tick
    have f8 := hL6.blk.frozen 8
    by_cases hlt : kk < 3
    · have hd : decide ((kk : Int) < 3) = true := decide_eq_true (by omega)
      have hw1 : IntKind.i64.wrap (t6 + 5) = t6 + 5 := IntWalk.i64_in _ (by omega)
      have hw2 : IntKind.i64.wrap (t6 + 5 + 5) = t6 + 5 + 5 := IntWalk.i64_in _ (by omega)
      have hi1 := hinv.later (d := 5) (by decide)
      have hi1 : CInv own other (m6 + 1) a6 b6 (t6 + 5) := hi1
      have hid1 := idle_half hi1 (by omega) Ho0 Ho1 Hp0 hwa6 hwb6
      obtain ⟨-, -, -, -, hi2⟩ := hi1.half (by omega) Ho0 Ho1 Hp0
      have hi2 : CInv other own (m6 + 4) (halfS a6 b6 (t6 + 5)).2 (halfS a6 b6 (t6 + 5)).1 (t6 + 5 + 5) := hi2.later (d := 5) (by decide)
      have hid2 := idle_half hi2 (by omega) Hp0 Hp1 Ho0 hid1.2.2.2.1 hid1.2.2.1
      obtain ⟨-, -, -, -, hi3⟩ := hi2.half (by omega) Hp0 Hp1 Ho0
      obtain ⟨hL7, st7⟩ := hL6.onTick (.inl ⟨rfl, rfl⟩) (by decide) rfl (t6 + 5)
      have hh := half_mem hL7 (.inl ⟨rfl, rfl⟩) (by decide) rfl hi1 (by omega) Ho0 Ho1 Hp0
      have ST7 := Lib.hid (hst6.trans (st7.mono (by simp)))
      have HH := Lib.hid hh; have HI2 := Lib.hid hi2; have HI3 := Lib.hid hi3; have HD1 := Lib.hid hid1; have HD2 := Lib.hid hid2
      have hl7 := hL6.blk.lt
      clear hL7 st7 hh hi1 hi2 hi3 hid1 hid2 hL6 hst6 hok6 hinv HJ
      go_wp2_with fail
      refine wp_loop_rounds 3 ?_
      rw [rounds_succ]
      go_wp2_with fail
      refine HH.out.mono ?_
      rintro e w8 ⟨A8, P8, p8, rfl, hP8, hcs8⟩
      clear HH c8 f8
      rcases hcs8 with ⟨rfl, o8, v8, u8, cells8, st8, hL8⟩ | ⟨hp8, htk8⟩
      · have ST8 := Lib.hid (ST7.out.trans st8); have HL8 := Lib.hid hL8
        clear st8 hL8 ST7 hP8
        go_wp2_with fail
        have c8b := (HL8.out.blk.cell 8).trans HL8.out.tick
        have f8b := HL8.out.blk.frozen 8
        obtain ⟨hL9, st9⟩ := HL8.out.onTick (.inr ⟨rfl, rfl⟩) (by decide) rfl (t6 + 5 + 5)
        have hh2 := half_mem hL9 (.inr ⟨rfl, rfl⟩) (by decide) rfl HI2.out (by omega) Hp0 Hp1 Ho0
        have ST9 := Lib.hid (ST8.out.trans (st9.mono (by simp)))
        have HH2 := Lib.hid hh2
        have hl9 := HL8.out.blk.lt
        clear hL9 st9 hh2
        rw [rounds_succ]
        go_wp2_with fail
        refine HH2.out.mono ?_
        rintro e w9 ⟨A9, P9, p9, rfl, hP9, hcs9⟩
        clear HH2 c8b f8b
        rcases hcs9 with ⟨rfl, o9, v9, u9, cells9, st9, hL9⟩ | ⟨hp9, htk9⟩
        · have HJ9 : Hid (IdleJ w l own other (kk + 1) w9) := Lib.hid ⟨m6 + 6, o9, _, _, _, by omega, ST9.out.trans st9, ⟨⟨_, _, _, hL9⟩, HI3.out, Ho0, Ho1, Hp0, Hp1⟩, HD2.out.2.2.2.1, HD2.out.2.2.1, fun _ => ⟨HD2.out.2.2.2.2.2.trans HD1.out.2.2.2.2.1, HD2.out.2.2.2.2.1⟩⟩
          clear hL9 st9 ST9 hP9
          go_wp2_with fail
          rw [rounds_succ]
          go_wp2_with fail
          go_roundw
          case rel => exact ⟨kk + 1, by omega, by go_num, rfl, HJ9⟩
          case measure => simp [intOf]; omega
        · rcases HD2.out.1 with q9 | ⟨q9, ow9⟩
          · omega
          · have hk0 : kk = 0 := by
              rcases Nat.eq_zero_or_pos kk with q | q
              · exact q
              · have h1 := (how6 q).2; rw [HD1.out.2.2.2.2.2, h1] at ow9; cases ow9
            have hkd : decide (0 < (kk : Int)) = false := decide_eq_false (by omega)
            have hkd2 : decide (0 < kk) = false := decide_eq_false (by omega)
            obtain rfl : P9 = 7 := by rw [hP9]; exact q9
            have HTK9 := Lib.hid htk9
            clear htk9 hP9 q9 ow9 hk0 hp9
            go_wp2_with fail
            refine HTK9.out.mono ?_
            rintro e w10 ⟨rfl, o10, v10, u10, cells10, st10, hL10⟩
            have HJ9 : Hid (IdleJ w l own other (kk + 1) w10) := Lib.hid ⟨m6 + 6, o10, _, _, _, by omega, ST9.out.trans st10, ⟨⟨_, _, _, hL10⟩, HI3.out, Ho0, Ho1, Hp0, Hp1⟩, HD2.out.2.2.2.1, HD2.out.2.2.1, fun _ => ⟨HD2.out.2.2.2.2.2.trans HD1.out.2.2.2.2.1, HD2.out.2.2.2.2.1⟩⟩
            clear hL10 st10 ST9 HTK9
            go_wp2_with fail
            rw [rounds_succ]
            go_wp2_with fail
            go_roundw
            case rel => exact ⟨kk + 1, by omega, by go_num, rfl, HJ9⟩
            case measure => simp [intOf]; omega
      · rcases HD1.out.1 with q8 | ⟨q8, ow8⟩
        · omega
        · have hk0 : kk = 0 := by
            rcases Nat.eq_zero_or_pos kk with q | q
            · exact q
            · have h1 := (how6 q).1; rw [h1] at ow8; cases ow8
          have hkd : decide (0 < (kk : Int)) = false := decide_eq_false (by omega)
          have hkd2 : decide (0 < kk) = false := decide_eq_false (by omega)
          obtain rfl : P8 = 7 := by rw [hP8]; exact q8
          have HTK8 := Lib.hid htk8
          clear htk8 hP8 q8 ow8 hk0 hp8
          go_wp2_with fail
          refine HTK8.out.mono ?_
          rintro e w11 ⟨rfl, o11, v11, u11, cells11, st11, hL11⟩
          have ST8 := Lib.hid (ST7.out.trans st11); have HL8 := Lib.hid hL11
          clear st11 hL11 ST7 HTK8
          go_wp2_with fail
          have c8b := (HL8.out.blk.cell 8).trans HL8.out.tick
          have f8b := HL8.out.blk.frozen 8
          obtain ⟨hL9, st9⟩ := HL8.out.onTick (.inr ⟨rfl, rfl⟩) (by decide) rfl (t6 + 5 + 5)
          have hh2 := half_mem hL9 (.inr ⟨rfl, rfl⟩) (by decide) rfl HI2.out (by omega) Hp0 Hp1 Ho0
          have ST9 := Lib.hid (ST8.out.trans (st9.mono (by simp)))
          have HH2 := Lib.hid hh2
          have hl9 := HL8.out.blk.lt
          clear hL9 st9 hh2
          rw [rounds_succ]
          go_wp2_with fail
          refine HH2.out.mono ?_
          rintro e w9 ⟨A9, P9, p9, rfl, hP9, hcs9⟩
          clear HH2 c8b f8b
          rcases hcs9 with ⟨rfl, o9, v9, u9, cells9, st9, hL9⟩ | ⟨hp9, htk9⟩
          · have HJ9 : Hid (IdleJ w l own other (kk + 1) w9) := Lib.hid ⟨m6 + 6, o9, _, _, _, by omega, ST9.out.trans st9, ⟨⟨_, _, _, hL9⟩, HI3.out, Ho0, Ho1, Hp0, Hp1⟩, HD2.out.2.2.2.1, HD2.out.2.2.1, fun _ => ⟨HD2.out.2.2.2.2.2.trans HD1.out.2.2.2.2.1, HD2.out.2.2.2.2.1⟩⟩
            clear hL9 st9 ST9 hP9
            go_wp2_with fail
            rw [rounds_succ]
            go_wp2_with fail
            go_roundw
            case rel => exact ⟨kk + 1, by omega, by go_num, rfl, HJ9⟩
            case measure => simp [intOf]; omega
          · rcases HD2.out.1 with q9 | ⟨q9, ow9⟩
            · omega
            · have hk0 : kk = 0 := by
                rcases Nat.eq_zero_or_pos kk with q | q
                · exact q
                · have h1 := (how6 q).2; rw [HD1.out.2.2.2.2.2, h1] at ow9; cases ow9
              have hkd' : decide (0 < (kk : Int)) = false := decide_eq_false (by omega)
              have hkd2' : decide (0 < kk) = false := decide_eq_false (by omega)
              obtain rfl : P9 = 7 := by rw [hP9]; exact q9
              have HTK9 := Lib.hid htk9
              clear htk9 hP9 q9 ow9 hk0 hp9
              go_wp2_with fail
              refine HTK9.out.mono ?_
              rintro e w10 ⟨rfl, o10, v10, u10, cells10, st10, hL10⟩
              have HJ9 : Hid (IdleJ w l own other (kk + 1) w10) := Lib.hid ⟨m6 + 6, o10, _, _, _, by omega, ST9.out.trans st10, ⟨⟨_, _, _, hL10⟩, HI3.out, Ho0, Ho1, Hp0, Hp1⟩, HD2.out.2.2.2.1, HD2.out.2.2.1, fun _ => ⟨HD2.out.2.2.2.2.2.trans HD1.out.2.2.2.2.1, HD2.out.2.2.2.2.1⟩⟩
              clear hL10 st10 ST9 HTK9
              go_wp2_with fail
              rw [rounds_succ]
              go_wp2_with fail
              go_roundw
              case rel => exact ⟨kk + 1, by omega, by go_num, rfl, HJ9⟩
              case measure => simp [intOf]; omega
    · obtain rfl : kk = 3 := by omega
      have HST6 := Lib.hid hst6
      clear hst6 hL6 hok6 hinv HJ how6 c8 f8
      go_wp2_with fail
      refine (awake_any _).mono ?_
      rintro e w7 ⟨rfl, hb⟩
      have ST7 := Lib.hid (HST6.out.below hb 20)
      go_wp2_with fail
      go_ret
      exact ⟨rfl, ST7.out.old (by decide)⟩
end Go.Proofs.Ythjjipcbpmdfnaa
