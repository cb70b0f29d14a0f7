/-
  WALK of ChannelWraps.
-/
import Derived.Test.YthjjipcbpmdfnaaChVB
import Derived.Test.YthjjipcbpmdfnaaChTB
import Derived.Deep.CutBlock
import Derived.Deep.DeepCutAuto
namespace Go.Proofs.Ythjjipcbpmdfnaa
open Go.RowKit

def cs (c : ChS) : CSide := ⟨c, [], [], []⟩
/-- The connection in memory. -/
structure WAt (w wr : World) (l : Nat) (a b : ChS) : Prop where
  ex : ∃ or v u cells, Step linkTags w (fun _ => 0) wr or ∧ LinkC wr or l 0 1 T1 T2 (cs a) (cs b) 0 v u cells
theorem WAt.drewN {w wr : World} {l : Nat} {a b : ChS} (h : WAt w wr l a b) (q : Nat) : WAt w (wr.drewN q) l a b := by
  obtain ⟨or, v, u, cells, hst, hL⟩ := h.ex
  have st := (Step.refl [] wr or).drewN q
  exact ⟨or, v, u, cells, hst.trans st.nil, hL.high T1_low T2_low st (by simp) (by decide) (by decide)⟩
theorem wv_fl {w : World} {o : Own} {l s s' : Nat} {T U : ChT} {a b : CSide} {t : Int} {v u : CV} {cells : Array Value} (h : LinkC w o l s s' T U a b t v u cells) (hP : Pair T U) (hs : s < 2) (hs' : s' = 1 - s) (hc : Calm2 a.c) {x : Int} (hx : x ≤ 20000) (ρ : Nat) (hρ : 41 ≤ ρ) {c' : ChS} {P : List UInt8} (he : flushS a.c x = (c', P, 0)) :
    Calls Try.prog 20 #[.pointer (some ⟨v.b, 0, none⟩), .int .i64 x] w fun e w' => ∃ (A : Option Addr) (c : Nat) (o' : Own), e = .returned (.tuple #[.slice A P.length c, .int .i64 0]) ∧ Step [T.τ, T.τe] w o w' o' ∧ LinkC w' o' l s s' T U { a with c := c' } b t v u cells ∧ Sl w' o' ρ 1 A P.length c (byts P) := by
  have l1 := hP.ok.2.t; have l2 := hP.ok.2.e
  refine (Flush_any h.ax.c hc.fit hP.ok.1 ρ (by omega) (by omega) x (by omega) hc.next).mono ?_
  intro e w' hfl
  obtain ⟨o', A, c, he', hst, hA, hR⟩ := hfl.out
  rw [he] at he' hA hR
  exact ⟨A, c, o', he', hst, h.onC hP hs hs' hst (by simp) hA, hR.sl⟩
theorem wv_rc {w : World} {o : Own} {l s s' : Nat} {T U : ChT} {a b : CSide} {t : Int} {v u : CV} {cells : Array Value} (h : LinkC w o l s s' T U a b t v u cells) (hP : Pair T U) (hs : s < 2) (hs' : s' = 1 - s) (hc : Calm2 a.c) {τ : Nat} (hτ : 30 ≤ τ) {A : Option Addr} {n c : Nat} {xs : List UInt8} (hS : Sl w o τ 1 A n c (byts xs)) (hnb : n ≤ 140737488355328) {c' : ChS} {ms : List (List UInt8)} {code : Int} (he : recvS a.c xs = (c', ms, code)) :
    Calls Try.prog 24 #[.pointer (some ⟨v.b, 0, none⟩), .slice A n c] w fun e w' => ∃ (A' : Option Addr) (c2 : Nat) (vs : List Value) (o' : Own), e = .returned (.tuple #[.slice A' ms.length c2, .int .i64 code]) ∧ Step [T.τ, T.τe, 40] w o w' o' ∧ LinkC w' o' l s s' T U { a with c := c' } b t v u cells ∧ MsgsAt w' o' 40 T.ε a.c.next A' ms.length c2 vs ms := by
  have l1 := hP.ok.2.t; have l2 := hP.ok.2.e; have l3 := hP.ok.2.s
  refine (Receive_ch h.ax.c hc.fit hP.ok.1 40 (by omega) (by omega) (by omega) (fun n => by have := hP.ok.2.m n; omega) hP.eps τ (by omega) A n c xs hS hnb hc.newest).mono ?_
  intro e w' hrc
  obtain ⟨o', A', m, c2, vs, he', hst, hA, hM⟩ := hrc.out
  rw [he] at he' hA hM
  obtain rfl : ms.length = m := hM.len
  exact ⟨A', c2, vs, o', he', hst, h.onC hP hs hs' hst (by simp) hA, hM⟩
/-- Which of two the round is about. -/
structure RxS (g g' : Nat) (b b2 : ChS) (k gx : Nat) (bx : ChS) : Prop where
  or : (k = 0 ∧ gx = g ∧ bx = b) ∨ (0 < k ∧ gx = g' ∧ bx = b2)
structure RxAt (w wx : World) (l : Nat) (a1 bx : ChS) (A2 : Option Addr) (pl c2 : Nat) (p : List UInt8) : Prop where
  ex : ∃ or v u cells, Step linkTags w (fun _ => 0) wx or ∧ LinkC wx or l 0 1 T1 T2 (cs a1) (cs bx) 0 v u cells ∧ Sl wx or 42 1 A2 pl c2 (byts p)
theorem mw_cells (N : Nat) : byts (mw N) = [.int .u8 ((N % 256 : Nat) : Int), .int .u8 ((N / 256 % 256 : Nat) : Int), .int .u8 ((N / 65536 % 256 : Nat) : Int)] := by simp [byts, mw]
theorem i64_orV (a b : Nat) (ha : a < 4611686018427387904) (hb : b < 4611686018427387904) : bits .or .i64 (a : Int) (b : Int) = ((a ||| b : Nat) : Int) := by
  have hx : a ||| b < 2 ^ 62 := Nat.or_lt_two_pow (by omega) (by omega)
  have h1 : (BitVec.ofInt 64 (a : Int)).toNat = a := by
    rw [BitVec.ofInt_natCast, BitVec.toNat_ofNat]; exact Nat.mod_eq_of_lt (by omega)
  have h2 : (BitVec.ofInt 64 (b : Int)).toNat = b := by
    rw [BitVec.ofInt_natCast, BitVec.toNat_ofNat]; exact Nat.mod_eq_of_lt (by omega)
  show IntKind.i64.wrap ((BitVec.ofInt 64 (a : Int) ||| BitVec.ofInt 64 (b : Int)).toNat : Int) = _
  rw [BitVec.toNat_or, h1, h2]
  exact IntWalk.i64_in _ (by omega)
theorem or3 {u0 u1 u2 N : Nat} (h0 : u0 < 256) (h1 : u1 < 256) (h2 : u2 < 256) (hN : N = u0 + u1 * 256 + u2 * 65536) : bits .or .i64 (bits .or .i64 (u0 : Int) ((u1 : Int) * 256)) ((u2 : Int) * 65536) = (N : Int) := by
  have e1 : u0 ||| u1 * 256 = u0 + u1 * 256 := by
    have := Nat.shiftLeft_add_eq_or_of_lt (b := u0) (i := 8) (by omega) u1
    rw [Nat.shiftLeft_eq, show (2 : Nat) ^ 8 = 256 from rfl] at this
    rw [Nat.or_comm]; omega
  have e2 : (u0 + u1 * 256) ||| u2 * 65536 = u0 + u1 * 256 + u2 * 65536 := by
    have := Nat.shiftLeft_add_eq_or_of_lt (b := u0 + u1 * 256) (i := 16) (by omega) u2
    rw [Nat.shiftLeft_eq, show (2 : Nat) ^ 16 = 65536 from rfl] at this
    rw [Nat.or_comm]; omega
  rw [show (u1 : Int) * 256 = ((u1 * 256 : Nat) : Int) by omega, i64_orV _ _ (by omega) (by omega), e1, show (u2 : Int) * 65536 = ((u2 * 65536 : Nat) : Int) by omega, i64_orV _ _ (by omega) (by omega), e2, hN]
theorem tmodV (a b : Nat) : ((a : Int)).tmod (b : Int) = ((a % b : Nat) : Int) := by rw [Int.tmod_eq_emod_of_nonneg (by omega)]; omega
theorem tdivV (a b : Nat) : ((a : Int)).tdiv (b : Int) = ((a / b : Nat) : Int) := by rw [Int.tdiv_eq_ediv_of_nonneg (by omega)]; rfl

set_option maxRecDepth 100000 in
set_option maxHeartbeats 8000000 in
theorem wraps_walk (w : World) : Calls Try.prog 7 #[] w fun e w' => e = .returned (.bool true) ∧ Below w.heap.size w w' := by
  have hln := linked_any w (fun _ => 0) 65000 1099511627776 65000 1099511627776 (by decide) (by decide) (by decide) (by decide) (by decide) (by decide)
  have HLN := Lib.hid hln
  clear hln
  go_enter Try.func7, Try.ntmps7
  go_wp2_with fail
  refine HLN.out.mono ?_
  rintro e w1 ⟨l, o1, rfl, hst1, v1, u1, cells1, hL1⟩
  have HW1 : Hid (WAt w w1 l (chNew 65000 1099511627776) (chNew 1099511627776 65000)) := Lib.hid ⟨o1, v1, u1, cells1, hst1.nil, hL1⟩
  clear hst1 hL1 HLN
  go_wp2_with fail
  go_quiet (fail)
  have HW2 := Lib.hid (HW1.out.drewN nq)
  clear HW1
  generalize w1.drewN nq = w2 at HW2 ⊢
  have HC0 : Hid (∃ m, m = runW 0 ∧ 0 = gotW m ∧ WConn 0 m 0 (chNew 65000 1099511627776) (chNew 1099511627776 65000)) := Lib.hid ⟨_, rfl, rfl, conn_new⟩
  go_wp2_with fail
  go_loopw [7, 6, 5] (fun tk gt sn wr => ∃ (t g S : Nat) (a b : ChS), t ≤ 20000 ∧ tk = .int .i64 t ∧ gt = .int .i64 g ∧ sn = .int .i64 S ∧ g ≤ 66000 ∧ Hid (∃ m, m = runW t ∧ g = gotW m ∧ WConn t m S a b) ∧ Hid (WAt w wr l a b)) (fun tk _ _ _ => 20000 - (intOf tk).toNat)
  case atStart => exact ⟨0, 0, 0, _, _, Nat.zero_le _, rfl, rfl, rfl, Nat.zero_le _, HC0, HW2⟩
  case round => as_aux_lemma =>
    clear HC0 HW2
    obtain ⟨t, g, S, a, b, ht, rfl, rfl, rfl, hg66, HM, HW⟩ := hrel
    obtain ⟨m, hm, hg, hcn⟩ := HM.out
    have HMR := Lib.hid hm; have HG := Lib.hid hg; have HC := Lib.hid hcn
    clear hm hg hcn HM
    by_cases hlt : g < 66000 ∧ t < 20000
    · obtain ⟨hlg, hlt⟩ := hlt
      have dg : decide ((g : Int) < 66000) = true := decide_eq_true (by omega)
      have dt : decide ((t : Int) < 20000) = true := decide_eq_true (by omega)
      go_upto_block 2 with fail
      go_cut [5] (fun sn wx => ∃ (S : Nat) (a' : ChS), sn = .int .i64 S ∧ Hid (WConn t m S a' b ∧ S = min 66000 (m.f + 256)) ∧ Hid (WAt w wx l a' b))
      case first => as_aux_lemma =>
       go_wp2_with fail
       go_loopw [5] (fun sn wx => ∃ (S : Nat) (a' : ChS), sn = .int .i64 S ∧ S ≤ 66000 ∧ Hid (WConn t m S a' b) ∧ Hid (WAt w wx l a' b)) (fun sn _ => 66000 - (intOf sn).toNat)
       case atStart => exact ⟨S, a, rfl, HC.out.s66, HC, HW⟩
       case round => as_aux_lemma =>
        clear HC HW
        obtain ⟨S, a', rfl, hS66, HC, HW⟩ := hrel
        obtain ⟨or, v, u, cells, hst, hL⟩ := HW.out.ex
        have c0 := (hL.blk.cell 0).trans hL.x.c0
        have hw := Waiting_ok hL.ax.c
        rw [show waitS (cs a').c = S - m.f from HC.out.wait] at hw
        obtain ⟨k, hk⟩ : ∃ k, k = S - m.f := ⟨_, rfl⟩
        rw [← hk] at hw
        have HK := Lib.hid hk; have HWT := Lib.hid hw; have HL := Lib.hid hL; have HST := Lib.hid hst
        clear hw hL hst hk HW
        by_cases hgo : k < 256 ∧ S < 66000
        · obtain ⟨hg1, hg2⟩ := hgo
          have d1 : decide ((k : Int) < 256) = true := decide_eq_true (by omega)
          have d2 : decide ((S : Int) < 66000) = true := decide_eq_true (by omega)
          go_upto_region 10 with (go_at_call 31; refine HWT.out.mono ?_; rintro e _ ⟨rfl, rfl⟩)
          obtain ⟨hs0, hcn⟩ := HC.out.send (by have := HK.out; omega) hg2
          have stA := (Step.refl [] wr or).alloc (.cells #[.int .u8 ((S : Int) % 256), .int .u8 ((S : Int) / 256 % 256), .int .u8 ((S : Int) / 65536)] 5) 39
          have hL1 := HL.out.high T1_low T2_low stA (by simp) (by decide) (by decide)
          have hsl := (Row.made (w := wr) or 39 5 1 #[.int .u8 ((S : Int) % 256), .int .u8 ((S : Int) / 256 % 256), .int .u8 ((S : Int) / 65536)] 3 rfl (by decide) 3 (Nat.le_refl _)).sl
          rw [show (#[Value.int .u8 ((S : Int) % 256), .int .u8 ((S : Int) / 256 % 256), .int .u8 ((S : Int) / 65536)] : Array Value).toList.take (3 * 1) = byts (mw S) by simp [byts, mw]; omega] at hsl
          have hsd := Send_any hL1.ax.c HC.out.fa T1_ok 39 _ 3 3 (mw S) hsl
          have HSD := Lib.hid hsd; have HL1 := Lib.hid hL1; have HCN := Lib.hid hcn; have HS0 := Lib.hid hs0; have HSTA := Lib.hid stA
          clear hsd hL1 hcn hs0 stA hsl
          go_wp2_with (go_at_call 16; refine HSD.out.mono ?_; intro e w2 h2; obtain ⟨o2, he2, hst2, hA2⟩ := h2.out; rw [show (sendS (cs a').c (mw S)).2 = 0 from HS0.out] at he2; subst he2)
          have HW2 : Hid (WAt w w2 l (sendS a' (mw S)).1 b) := Lib.hid ⟨o2, v, u, cells, (HST.out.trans HSTA.out.nil).trans (hst2.mono (by simp [T1])), HL1.out.onC (.inl ⟨rfl, rfl⟩) (by decide) rfl hst2 (by simp) hA2⟩
          clear h2 hst2 hA2 HSD HL1 HST HSTA HL HWT c0
          go_roundw
          case rel => exact ⟨S + 1, _, by go_num, by omega, HCN, HW2⟩
          case measure => simp [intOf]; omega
        · have hSe : S = min 66000 (m.f + 256) := by have := HK.out; have := HC.out.s1; have := HC.out.fS; omega
          have HW2 : Hid (WAt w wr l a' b) := Lib.hid ⟨or, v, u, cells, HST.out, HL.out⟩
          have HC2 := Lib.hid (And.intro HC.out hSe)
          clear hSe
          by_cases hk2 : k < 256
          · have d1 : decide ((k : Int) < 256) = true := decide_eq_true (by omega)
            have d2 : decide ((S : Int) < 66000) = false := decide_eq_false (by omega)
            go_wp2_with (go_at_call 31; refine HWT.out.mono ?_; rintro e _ ⟨rfl, rfl⟩)
            go_meet
            exact ⟨S, a', rfl, HC2, HW2⟩
          · have d1 : decide ((k : Int) < 256) = false := decide_eq_false (by omega)
            go_wp2_with (go_at_call 31; refine HWT.out.mono ?_; rintro e _ ⟨rfl, rfl⟩)
            go_meet
            exact ⟨S, a', rfl, HC2, HW2⟩
      obtain ⟨S, a', rfl, HC, HW⟩ := hcut
      have hok : WmOk t m := by rw [HMR.out]; exact wm_ok t (.inl (by rw [← HMR.out, ← HG.out]; exact hlg))
      obtain ⟨a1, p, hr⟩ := HC.out.1.round hlt hok (by rw [← HG.out]; exact hlg) HC.out.2
      obtain ⟨g', hg'⟩ : ∃ x, x = gotW (stepW t m) := ⟨_, rfl⟩
      have hg'66 : g' ≤ 66000 := by
        rw [hg']
        by_cases hp : 0 < p.length ∧ t % 7 ≠ 3
        · obtain ⟨_, _, _, _, _, _, q⟩ := hr.go hp.1 hp.2; exact q
        · have := (hr.skip (by omega)).2
          rw [this, ← HG.out]; exact hg66
      obtain ⟨or, v, u, cells, hst, hL⟩ := HW.out.ex
      have c0 := (hL.blk.cell 0).trans hL.x.c0
      have hfl := wv_fl hL (.inl ⟨rfl, rfl⟩) (by decide) rfl (HC.out.1.ca (by omega)) (x := (t : Int)) (by omega) 42 (by decide) hr.fl
      have HR := Lib.hid hr; have HFL := Lib.hid hfl; have HST := Lib.hid hst; have HGN := Lib.hid hg'
      clear hok hr hfl hst hL hg' HW
      go_upto_block 4 with (go_at_call 20; refine HFL.out.mono ?_; rintro e w2 ⟨A2, c2, o2, rfl, hst2, hL2, hS2⟩; have HL2 := Lib.hid hL2; have HS2 := Lib.hid hS2; have HST2 := Lib.hid (HST.out.trans (hst2.mono (by simp [T1]))); clear hst2 hL2 hS2)
      obtain ⟨pl, hpl⟩ : ∃ x, x = p.length := ⟨_, rfl⟩
      rw [← hpl] at HS2 ⊢
      have HPL := Lib.hid hpl
      have hpl12 : pl ≤ 1200 := by rw [hpl]; exact HR.out.len
      obtain ⟨t5, ht5⟩ : ∃ x, x = t % 5 := ⟨_, rfl⟩
      have h5 : ((t : Int)).tmod 5 = (t5 : Int) := by rw [ht5]; exact tmodV t 5
      obtain ⟨d, hd⟩ : ∃ x, x = (t5 + 4) / 8 := ⟨_, rfl⟩
      have h8 : ((t5 : Int) + 4).tdiv 8 = (d : Int) := by rw [hd]; exact tdivV (t5 + 4) 8
      have hd1 : d ≤ 1 := by omega
      have ht5' : t5 < 5 := by omega
      obtain ⟨t7, ht7⟩ : ∃ x, x = t % 7 := ⟨_, rfl⟩
      have h7 : ((t : Int)).tmod 7 = (t7 : Int) := by rw [ht7]; exact tmodV t 7
      have HT7 := Lib.hid ht7
      clear hpl ht5 hd ht7 c0 HFL HST
      go_cut [6] (fun gt wx => ∃ b2, gt = .int .i64 g' ∧ Hid (WTail t m S a1 b2) ∧ Hid (WAt w wx l a1 b2))
      case first => as_aux_lemma =>
       by_cases hgo : 0 < pl ∧ t7 ≠ 3
       · obtain ⟨b2, r1, r2, r3, r4, r5, -⟩ := HR.out.go (by rw [← HPL.out]; exact hgo.1) (by rw [← HT7.out]; exact hgo.2)
         rw [← HG.out, ← HGN.out] at r1
         rw [← HG.out, ← HGN.out] at r5
         have hp0 : decide (0 < (pl : Int)) = true := decide_eq_true (by omega)
         have h73 : ((t7 : Int) != 3) = true := by simp; omega
         have R1 := Lib.hid r1; have R2 := Lib.hid r2; have R3 := Lib.hid r3; have R4 := Lib.hid r4
         clear r1 r2 r3 r4
         have HJS : RxS g g' b b2 0 g b := ⟨.inl ⟨rfl, rfl, rfl⟩⟩
         have HJ := Lib.hid HJS
         have HJ2 : Hid (RxAt w w2 l a1 b A2 pl c2 p) := Lib.hid ⟨o2, v, u, cells, HST2.out, HL2.out, HS2.out⟩
         clear HJS
         go_wp2_with fail
         go_loopw [10, 6] (fun kv gt wx => ∃ (k gx : Nat) (bx : ChS), kv = .int .i64 k ∧ gt = .int .i64 gx ∧ k ≤ 1 + d ∧ Hid (RxS g g' b b2 k gx bx) ∧ Hid (RxAt w wx l a1 bx A2 pl c2 p)) (fun kv _ _ => 2 - (intOf kv).toNat)
         case atStart => exact ⟨0, g, b, rfl, rfl, by omega, HJ, HJ2⟩
         case round => as_aux_lemma =>
           clear HJ HJ2 HST2 HL2 HS2
           obtain ⟨k, gx, bx, rfl, rfl, hkd, HK, HJ⟩ := hrel
           have hcase := HK.out.or
           obtain ⟨or, v, u, cells, hst, hL, hS⟩ := HJ.out.ex
           have c4 := (hL.blk.cell 4).trans hL.y.c0
           by_cases hlt : k < 1 + d
           · have dk : decide ((k : Int) < 1 + (d : Int)) = true := decide_eq_true (by omega)
             rcases hcase with ⟨hk0, rfl, rfl⟩ | ⟨hk0, rfl, rfl⟩
             · have HK0 := Lib.hid hk0
               clear hk0
               obtain ⟨ms, hms⟩ : ∃ x, x = (List.range' gx (g' - gx)).map mw := ⟨_, rfl⟩
               have r1 := R1.out
               rw [← hms] at r1
               have hrc := wv_rc hL.swap (.inr ⟨rfl, rfl⟩) (by decide) rfl (HC.out.1.cb (by omega)) (by decide) hS (by omega) r1
               obtain ⟨ml, hml⟩ : ∃ x, x = ms.length := ⟨_, rfl⟩
               rw [← hml] at hrc
               have hml2 : ml = g' - gx := by rw [hml, hms]; simp
               have HML := Lib.hid hml2; have HMS := Lib.hid hms
               have hmlb : ml ≤ 66000 := by omega
               clear r1 hml hml2 hms
               have HRC := Lib.hid hrc; have HST := Lib.hid hst; have HSS := Lib.hid hS
               clear hrc hst hL hS HJ
               go_upto_block 6 with (go_at_call 24; refine HRC.out.mono ?_; rintro e w4 ⟨A4, c4', vs, o4, rfl, hst4, hL4, hM4⟩; have HL4 := Lib.hid hL4; have HM4 := Lib.hid hM4; have HST4 := Lib.hid hst4; clear hst4 hL4 hM4)
               clear HRC c4
               go_wp2_with fail
               go_loopw [113, 6] (fun jv gt wx => ∃ (j q : Nat), jv = .int .i64 j ∧ gt = .int .i64 ((gx + j : Nat) : Int) ∧ j ≤ ml ∧ wx = w4.drewN q) (fun jv _ _ => ml - (intOf jv).toNat)
               case atStart => exact ⟨0, 0, rfl, rfl, Nat.zero_le _, rfl⟩
               case round => as_aux_lemma =>
                 obtain ⟨j, q, rfl, rfl, hj, rfl⟩ := hrel
                 by_cases hjl : j < ml
                 · have dj : decide ((j : Int) < (ml : Int)) = true := decide_eq_true (by omega)
                   have hji : (j : Int) < (ml : Int) := by omega
                   obtain ⟨N, hN⟩ : ∃ x, x = gx + j := ⟨_, rfl⟩
                   have hN66 : N < 66000 := by have := HML.out; omega
                   have hx : ms[j]? = some (mw N) := by
                     rw [HMS.out, List.getElem?_map, List.getElem?_range' (by have := HML.out; omega), hN]; simp
                   obtain ⟨XA, xl, xc, k1, k2⟩ := HM4.out.el j _ hx
                   obtain ⟨ga, hLA, -, hca, -⟩ := HM4.out.row.at_ (k := j) hjl
                   subst hLA
                   rw [k1] at hca
                   rw [mw_cells] at k2
                   obtain rfl : xl = 3 := by have := k2.1; simp at this; omega
                   obtain ⟨gb, ob, hXA, -, hgb, hcb⟩ := k2.2.2.2 (by decide)
                   subst hXA
                   obtain ⟨u0, hu0⟩ : ∃ x, x = N % 256 := ⟨_, rfl⟩
                   obtain ⟨u1, hu1⟩ : ∃ x, x = N / 256 % 256 := ⟨_, rfl⟩
                   obtain ⟨u2, hu2⟩ : ∃ x, x = N / 65536 % 256 := ⟨_, rfl⟩
                   rw [← hu0, ← hu1, ← hu2] at hcb
                   have q0 := hcb 0 _ rfl; have q1 := hcb 1 _ rfl; have q2 := hcb 2 _ rfl
                   rw [Nat.add_zero] at q0
                   have b0 : u0 < 256 := by omega
                   have b1 : u1 < 256 := by omega
                   have b2' : u2 < 256 := by omega
                   have HN := Lib.hid hN
                   have hbt : (bits .or .i64 (bits .or .i64 (u0 : Int) ((u1 : Int) * 256)) ((u2 : Int) * 65536) != (N : Int)) = false := by rw [or3 b0 b1 b2' (N := N) (by omega)]; simp
                   rw [← hN]
                   clear hx k1 k2 hcb hN hu0 hu1 hu2
                   go_wp2_with fail
                   go_quiet (fail)
                   go_wp2_with fail
                   go_roundw
                   case rel => exact ⟨j + 1, q + nq, by go_num, by have := HN.out; go_num, by omega, by first | rfl | rw [World.drewN_drewN]⟩
                   case measure => simp [intOf]; omega
                 · obtain rfl : j = ml := by omega
                   have hgg : gx + j = g' := by have := HML.out; omega
                   rw [hgg]
                   have hHJ : Hid (RxAt w (w4.drewN q) l a1 b2 A2 pl c2 p) := Lib.hid (by
                     have stq := (Step.refl [] w4 o4).drewN q
                     exact ⟨o4, v, u, cells, ((HST.out.trans (HST4.out.mono (by simp [T2]))).trans stq.nil), HL4.out.swap.high T1_low T2_low stq (by simp) (by decide) (by decide), (HSS.out.step HST4.out (by simp [T2])).step stq (by simp)⟩)
                   have hHS : Hid (RxS gx g' bx b2 (k + 1) g' b2) := Lib.hid ⟨.inr ⟨by omega, rfl, rfl⟩⟩
                   have dj : decide ((j : Int) < (j : Int)) = false := decide_eq_false (by omega)
                   clear HML HMS HM4 HL4 HST4 HSS HST hgg
                   go_wp2_with fail
                   go_roundw
                   case rel => exact ⟨k + 1, g', b2, by go_num, rfl, by omega, hHS, hHJ⟩
                   case measure => simp [intOf]; omega
             · have HK0 := Lib.hid hk0
               clear hk0
               have hrc := wv_rc hL.swap (.inr ⟨rfl, rfl⟩) (by decide) rfl R3.out (by decide) hS (by omega) R2.out
               have HRC := Lib.hid hrc; have HST := Lib.hid hst; have HSS := Lib.hid hS
               clear hrc hst hL hS HJ
               go_upto_block 6 with (go_at_call 24; refine HRC.out.mono ?_; rintro e w4 ⟨A4, c4', vs, o4, rfl, hst4, hL4, -⟩; have HL4 := Lib.hid hL4; have HST4 := Lib.hid hst4; clear hst4 hL4)
               have hHJ : Hid (RxAt w w4 l a1 bx A2 pl c2 p) := Lib.hid ⟨o4, v, u, cells, (HST.out.trans (HST4.out.mono (by simp [T2]))), HL4.out.swap, HSS.out.step HST4.out (by simp [T2])⟩
               have hHS : Hid (RxS g gx b bx (k + 1) gx bx) := Lib.hid ⟨.inr ⟨by omega, rfl, rfl⟩⟩
               clear HRC c4 HL4 HST4 HSS HST
               go_wp2_with fail
               refine wp_loop_rounds 1 ?_
               rw [rounds_succ]
               go_wp2_with fail
               go_roundw
               case rel => exact ⟨k + 1, gx, bx, by go_num, rfl, by omega, hHS, hHJ⟩
               case measure => simp [intOf]; omega
           · have dk : decide ((k : Int) < 1 + (d : Int)) = false := decide_eq_false (by omega)
             obtain ⟨hk0, hgx, hbx⟩ : 0 < k ∧ gx = g' ∧ bx = b2 := by rcases hcase with ⟨q1, -, -⟩ | q; omega; exact q
             subst hgx; subst hbx
             have HW9 : Hid (WAt w wr l a1 bx) := Lib.hid ⟨or, v, u, cells, hst, hL⟩
             clear hst hL hS HJ c4 hcase HK
             go_wp2_with fail
             go_meet
             exact ⟨bx, rfl, R4, HW9⟩
       · obtain ⟨r4, hgg⟩ := HR.out.skip (by have := HPL.out; have := HT7.out; omega)
         have hge : g' = g := by rw [HGN.out, hgg, ← HG.out]
         have R4 := Lib.hid r4
         have HW9 : Hid (WAt w w2 l a1 b) := Lib.hid ⟨o2, v, u, cells, HST2.out, HL2.out⟩
         have HGE := Lib.hid hge
         have dk : (0 : Int) < 1 + (d : Int) := by omega
         clear r4 hgg hge HST2 HL2 HS2
         go_wp2_with fail
         refine wp_loop_rounds 1 ?_
         rw [rounds_succ]
         by_cases hp0 : 0 < pl
         · have hp1 : decide (0 < (pl : Int)) = true := decide_eq_true (by omega)
           have hp2 : (0 : Int) < (pl : Int) := by omega
           have h73 : ((t7 : Int) != 3) = false := by simp; omega
           have h74 : (t7 : Int) = 3 := by omega
           go_wp2_with fail
           go_meet
           exact ⟨b, by rw [HGE.out], R4, HW9⟩
         · have hp1 : decide (0 < (pl : Int)) = false := decide_eq_false (by omega)
           have hp2 : ¬ (0 : Int) < (pl : Int) := by omega
           go_wp2_with fail
           go_meet
           exact ⟨b, by rw [HGE.out], R4, HW9⟩
      obtain ⟨b2, rfl, HT, HW⟩ := hcut
      obtain ⟨b3, q, f1, f2, f3, f4⟩ := HT.out.ex
      obtain ⟨or, v, u, cells, hst, hL⟩ := HW.out.ex
      have c4 := (hL.blk.cell 4).trans hL.y.c0
      have hfl := wv_fl hL.swap (.inr ⟨rfl, rfl⟩) (by decide) rfl HT.out.cb (x := (t : Int)) (by omega) 43 (by decide) f1
      obtain ⟨ql, hql⟩ : ∃ x, x = q.length := ⟨_, rfl⟩
      rw [← hql] at hfl
      have HFL := Lib.hid hfl; have HST := Lib.hid hst; have HQL := Lib.hid hql; have HF3 := Lib.hid f3; have HF4 := Lib.hid f4
      have hql7 : ql ≤ 7 := by omega
      clear hfl hst hql f1 f2 f3 f4 hL HW
      have HSW : Hid (stepW t m = runW (t + 1)) := Lib.hid (by rw [HMR.out]; rfl)
      go_upto_region 28 with (go_at_call 20; refine HFL.out.mono ?_; rintro e w5 ⟨A5, c5, o5, rfl, hst5, hL5, hS5⟩; have HL5 := Lib.hid hL5; have HS5 := Lib.hid hS5; have HST5 := Lib.hid (HST.out.trans (hst5.mono (ts' := linkTags) (by simp [T2]))); clear hst5 hL5 hS5)
      clear c4 HFL HST
      by_cases hq : 0 < ql ∧ t7 ≠ 5
      · obtain ⟨a2, r1, r2⟩ := HF3.out (by rw [← HQL.out, ← HT7.out]; exact hq)
        have d1 : decide (0 < (ql : Int)) = true := decide_eq_true (by omega)
        have d2 : (0 : Int) < (ql : Int) := by omega
        have h75 : ((t7 : Int) != 5) = true := by simp; omega
        have hrc := wv_rc HL5.out.swap (.inl ⟨rfl, rfl⟩) (by decide) rfl HT.out.ca (by decide) HS5.out (by omega) r1
        have c0 := (HL5.out.blk.cell 0).trans HL5.out.y.c0
        have HRC := Lib.hid hrc
        have HM2 : Hid (∃ m', m' = runW (t + 1) ∧ g' = gotW m' ∧ WConn (t + 1) m' S a2 b3) := Lib.hid ⟨_, HSW.out, HGN.out, r2⟩
        clear hrc r1 r2
        go_wp2_with (go_at_call 24; refine HRC.out.mono ?_; rintro e w6 ⟨A6, c6, vs6, o6, rfl, hst6, hL6, -⟩; have HW6 : Hid (WAt w w6 l a2 b3) := Lib.hid ⟨o6, _, _, _, HST5.out.trans (hst6.mono (by simp [T1])), hL6⟩; clear hst6 hL6)
        go_roundw
        case rel => exact ⟨t + 1, g', S, a2, b3, by omega, by go_num, rfl, rfl, hg'66, HM2, HW6⟩
        case measure => simp [intOf]; omega
      · have r2 := HF4.out (by rw [← HQL.out, ← HT7.out]; exact hq)
        have HM2 : Hid (∃ m', m' = runW (t + 1) ∧ g' = gotW m' ∧ WConn (t + 1) m' S a1 b3) := Lib.hid ⟨_, HSW.out, HGN.out, r2⟩
        have HW6 : Hid (WAt w w5 l a1 b3) := Lib.hid ⟨o5, _, _, _, HST5.out, HL5.out.swap⟩
        clear r2 HL5 HS5 HST5
        by_cases hq0 : 0 < ql
        · have d1 : decide (0 < (ql : Int)) = true := decide_eq_true (by omega)
          have d2 : (0 : Int) < (ql : Int) := by omega
          have h75 : ((t7 : Int) != 5) = false := by simp; omega
          have h76 : (t7 : Int) = 5 := by omega
          go_wp2_with fail
          go_roundw
          case rel => exact ⟨t + 1, g', S, a1, b3, by omega, by go_num, rfl, rfl, hg'66, HM2, HW6⟩
          case measure => simp [intOf]; omega
        · have d1 : decide (0 < (ql : Int)) = false := decide_eq_false (by omega)
          have d2 : ¬ (0 : Int) < (ql : Int) := by omega
          go_wp2_with fail
          go_roundw
          case rel => exact ⟨t + 1, g', S, a1, b3, by omega, by go_num, rfl, rfl, hg'66, HM2, HW6⟩
          case measure => simp [intOf]; omega
    · have hge : g = 66000 := by
        rcases Nat.lt_or_ge g 66000 with h1 | h1
        · have ht2 : t = 20000 := by omega
          have := got_end
          rw [← ht2, ← HMR.out, ← HG.out] at this
          omega
        · omega
      have dg : decide ((g : Int) < 66000) = false := decide_eq_false (by omega)
      have dg2 : ((g : Int) == 66000) = true := by simp; omega
      obtain ⟨or, v, u, cells, hst, hL⟩ := HW.out.ex
      have c4 := (hL.blk.cell 4).trans hL.y.c0
      have hdl := Delivered_ok hL.by_.c
      have hnx : (cs b).c.next = g := by rw [HG.out]; exact HC.out.next
      rw [hnx] at hdl
      have HDL := Lib.hid hdl; have HST := Lib.hid hst; have HGE := Lib.hid hge
      have dgg : ((g : Int) == (g : Int)) = true := by simp
      clear hdl hst hL hnx hge hlt HW HC HG HMR
      go_wp2_with (first
        | (go_at_call 36; refine HDL.out.mono ?_; rintro e _ ⟨rfl, rfl⟩)
        | (go_at_call 13; refine (awake_any _).mono ?_; rintro e w9 ⟨rfl, hb⟩; have ST9 := Lib.hid (HST.out.below hb 20)))
      go_ret
      exact ⟨rfl, ST9.out.old (by decide)⟩
end Go.Proofs.Ythjjipcbpmdfnaa
