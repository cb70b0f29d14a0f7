/-
  WALK of (*End).Receive, behind a packet with a body and an acknowledgement.
-/
import Derived.Test.YthjjipcbpmdfnaaPackH
namespace Go.Proofs.Ythjjipcbpmdfnaa
open Go.RowKit

set_option maxRecDepth 100000 in
set_option maxHeartbeats 2000000 in
theorem recv_three (w : World) (o : Own) (τ τ2 σ b : Nat) (s : EndS) (hE : EndAt w o τ b s) (hs : s.Fit) (ht : τ2 ≠ τ) (hσ : σ ≠ τ) (A : Option Addr) (c : Nat) (xs : List UInt8) (hS : Sl w o τ2 1 A xs.length c (byts xs)) (hn : xs.length ≤ 140737488355328) (nu ak mk : Nat) (body : List UInt8)
    (hp : parseP xs = some (3, nu, ak, mk, body)) : Calls Try.prog 53 #[.pointer (some ⟨b, 0, none⟩), .slice A xs.length c] w (RecvTo w o τ σ b (recvP s xs)) := by
  have HS := Lib.hid hs
  have HE := Lib.hid hE
  obtain ⟨-, -, bnu, bak, bmk, hbl, -⟩ := parse_bd hp
  obtain ⟨A0, m, cc, hb, ho, hr⟩ := hE
  obtain ⟨h0, -⟩ := endCell hb
  obtain ⟨fi, hfi⟩ : ∃ fi : Int, fi = 3 := ⟨_, rfl⟩
  have hcall := parse_some w o τ2 A c xs hS hn hp fi (by rw [hfi]; rfl)
  have t1 : decide ((0:Int) < bits BinOp.and IntKind.u64 fi 1) = true := by rw [hfi]; decide
  have t2 : decide ((0:Int) < bits BinOp.and IntKind.u64 fi 2) = true := by rw [hfi]; decide
  have t3 : (bits BinOp.and IntKind.u64 fi 1 == 0) = false := by rw [hfi]; decide
  have hfb : 0 ≤ fi ∧ fi < 18446744073709551616 := by omega
  obtain ⟨hf0, hf1⟩ := hfb
  have q0 := hs.own0; have q1 := hs.own1; have q2 := hs.next1; have q3 := hs.oth0; have q4 := hs.oth1; have q5 := hs.new1
  obtain ⟨b1, b2⟩ := near_bd s.newest nu
  obtain ⟨b3, b4⟩ := near_bd (s.next - 1) ak
  have heq := fun W => hdr_ne_walk W fi nu ak mk (by omega)
  clear hfi
  have hre : recvP s xs = if near s.newest nu < s.other then (s, [], [], 190) else if near (s.next - 1) ak < s.own ∨ s.next ≤ near (s.next - 1) ak ∨ earlyB (near (s.next - 1) ak) s.own mk = true then (s, [], [], 190)
      else ((accept { s with pend := ackL (near (s.next - 1) ak) mk s.pend } (near s.newest nu - s.newest)).1, if (accept { s with pend := ackL (near (s.next - 1) ak) mk s.pend } (near s.newest nu - s.newest)).2 = 0 then body else [], ackR (near (s.next - 1) ak) mk s.pend, (accept { s with pend := ackL (near (s.next - 1) ak) mk s.pend } (near s.newest nu - s.newest)).2) := by
    simp [recvP, hp]
  have HC := Lib.hid hcall; have HB := Lib.hid hb; have HR := Lib.hid hre
  clear hcall hb ho hr hS hp hs hre
  obtain ⟨bl, hbl2⟩ : ∃ n, n = body.length := ⟨_, rfl⟩
  rw [← hbl2] at HC hbl
  have HBL := Lib.hid hbl2; clear hbl2
  rw [HR.out]
  by_cases hoth : near s.newest nu < s.other
  · rw [if_pos hoth]
    go_enter Try.func53, Try.ntmps53
    go_wp2_with (first
      | (go_at_call 60; refine (there_end h0).mono ?_; rintro e w' ⟨rfl, rfl⟩)
      | (go_at_call 66; refine HC.out.mono ?_; rintro e w' ⟨o', BA, bc, hst, rfl, hsl⟩; have hb1 := HB.out.step hst (by simp); obtain ⟨g0, g1, g2, g3, g4, g5, g6⟩ := endCell hb1; have hlt1 := hb1.lt; have HB1 := Lib.hid hb1; have HST := Lib.hid hst; have HSL := Lib.hid hsl; clear hst hsl hb1))
    go_quiet ((go_at_call 67; exact Calls.quiet_of_same (near_eq rfl (by omega) (by omega) (by omega) (by omega) _)))
    go_wp2_with (go_at_call 68; refine (named_any _ _ _).mono ?_; rintro e w2 ⟨rfl, hw2⟩; obtain ⟨o2, hst2, hb2, n0, n1, n2, n3, n4⟩ := recv_world (o := o') τ2 HB1.out hw2; obtain ⟨e0, e1, e2, e3, e4, e5, e6⟩ := endCell hb2; have HST2 := Lib.hid hst2; clear hb2 hst2 hw2)
    go_ret3
    exact RecvTo.bad HE.out (HST.out.trans HST2.out)
  rw [if_neg hoth]
  by_cases c1 : near (s.next - 1) ak < s.own
  · rw [if_pos (Or.inl c1)]
    go_enter Try.func53, Try.ntmps53
    go_wp2_with (first
      | (go_at_call 60; refine (there_end h0).mono ?_; rintro e w' ⟨rfl, rfl⟩)
      | (go_at_call 66; refine HC.out.mono ?_; rintro e w' ⟨o', BA, bc, hst, rfl, hsl⟩; have hb1 := HB.out.step hst (by simp); obtain ⟨g0, g1, g2, g3, g4, g5, g6⟩ := endCell hb1; have hlt1 := hb1.lt; have HB1 := Lib.hid hb1; have HST := Lib.hid hst; have HSL := Lib.hid hsl; clear hst hsl hb1))
    go_quiet ((go_at_call 67; exact Calls.quiet_of_same (near_eq rfl (by omega) (by omega) (by omega) (by omega) _)))
    go_wp2_with (go_at_call 68; refine (named_any _ _ _).mono ?_; rintro e w2 ⟨rfl, hw2⟩; obtain ⟨o2, hst2, hb2, n0, n1, n2, n3, n4⟩ := recv_world (o := o') τ2 HB1.out hw2; obtain ⟨e0, e1, e2, e3, e4, e5, e6⟩ := endCell hb2; have HST2 := Lib.hid hst2; clear hb2 hst2 hw2)
    go_ret3
    exact RecvTo.bad HE.out (HST.out.trans HST2.out)
  by_cases c2 : s.next ≤ near (s.next - 1) ak
  · rw [if_pos (Or.inr (Or.inl c2))]
    go_enter Try.func53, Try.ntmps53
    go_wp2_with (first
      | (go_at_call 60; refine (there_end h0).mono ?_; rintro e w' ⟨rfl, rfl⟩)
      | (go_at_call 66; refine HC.out.mono ?_; rintro e w' ⟨o', BA, bc, hst, rfl, hsl⟩; have hb1 := HB.out.step hst (by simp); obtain ⟨g0, g1, g2, g3, g4, g5, g6⟩ := endCell hb1; have hlt1 := hb1.lt; have HB1 := Lib.hid hb1; have HST := Lib.hid hst; have HSL := Lib.hid hsl; clear hst hsl hb1))
    go_quiet ((go_at_call 67; exact Calls.quiet_of_same (near_eq rfl (by omega) (by omega) (by omega) (by omega) _)))
    go_wp2_with (go_at_call 68; refine (named_any _ _ _).mono ?_; rintro e w2 ⟨rfl, hw2⟩; obtain ⟨o2, hst2, hb2, n0, n1, n2, n3, n4⟩ := recv_world (o := o') τ2 HB1.out hw2; obtain ⟨e0, e1, e2, e3, e4, e5, e6⟩ := endCell hb2; have HST2 := Lib.hid hst2; clear hb2 hst2 hw2)
    go_ret3
    exact RecvTo.bad HE.out (HST.out.trans HST2.out)
  have hack : ∀ w1 o1, EndAt w1 o1 τ b s → ∀ p q, w1.cell? ⟨p, 0, none⟩ = some (.int .i64 (near (s.next - 1) ak)) → w1.cell? ⟨q, 0, none⟩ = some (.int .u64 mk) →
      Calls Try.prog 69 #[.pointer (some ⟨b, 0, none⟩), .int .i64 (near (s.next - 1) ak), .func (.func 82) #[] #[.pointer (some ⟨p, 0, none⟩), .pointer (some ⟨q, 0, none⟩)]] w1 fun e w' =>
      ∃ OA oc o', e = .returned (.slice OA (ackR (near (s.next - 1) ak) mk s.pend).length oc) ∧ Step [τ] w1 o1 w' o' ∧ EndAt w' o' τ b { s with pend := ackL (near (s.next - 1) ak) mk s.pend } ∧ Row w' o' σ 140 2 OA (ackR (near (s.next - 1) ak) mk s.pend).length oc (reps (ackR (near (s.next - 1) ak) mk s.pend)) :=
    fun w1 o1 h p q hp hq => acknowledged_any w1 o1 τ σ b s h HS.out _ mk p q hp hq (by omega) (by omega) bmk
  obtain ⟨rs, hrs⟩ : ∃ rs, rs = ackR (near (s.next - 1) ak) mk s.pend := ⟨_, rfl⟩
  obtain ⟨s1, hs1⟩ : ∃ s1 : EndS, s1 = { s with pend := ackL (near (s.next - 1) ak) mk s.pend } := ⟨_, rfl⟩
  have hfit1 : s1.Fit := by rw [hs1]; exact HS.out.ack _ _
  have hnw : s1.newest = s.newest := by rw [hs1]
  rw [← hrs, ← hs1] at hack ⊢
  obtain ⟨rl, hrl⟩ : ∃ n, n = rs.length := ⟨_, rfl⟩
  rw [← hrl] at hack
  have HK := Lib.hid hack; have HRL := Lib.hid hrl; clear hack hrl hrs hs1
  have hacc : ∀ w1 o1, EndAt w1 o1 τ b s1 → Calls Try.prog 70 #[.pointer (some ⟨b, 0, none⟩), .int .i64 (near s.newest nu)] w1 fun e w' => e = .returned (.int .i64 (accept s1 (near s.newest nu - s.newest)).2) ∧ Step [τ] w1 o1 w' o1 ∧ EndAt w' o1 τ b (accept s1 (near s.newest nu - s.newest)).1 := fun w1 o1 h => by
    have := accept_end h hfit1 (near s.newest nu) (by omega) (by omega)
    rwa [hnw] at this
  obtain ⟨R, hR⟩ : ∃ R, R = accept s1 (near s.newest nu - s.newest) := ⟨_, rfl⟩
  rw [← hR] at hacc ⊢
  obtain ⟨s2, code⟩ := R
  clear hR
  have HA := Lib.hid hacc; clear hacc
  simp only
  clear hfit1 hnw
  obtain ⟨R0, hR0⟩ : ∃ R, R = (if near (s.next - 1) ak < s.own ∨ s.next ≤ near (s.next - 1) ak ∨ earlyB (near (s.next - 1) ak) s.own mk = true then (s, [], [], 190) else (s2, if code = 0 then body else [], rs, code) : EndS × List UInt8 × List (Int × Bool) × Int) := ⟨_, rfl⟩
  rw [← hR0]
  have HR0 := Lib.hid hR0; clear hR0
  go_enter Try.func53, Try.ntmps53
  go_wp2_with (first
    | (go_at_call 60; refine (there_end h0).mono ?_; rintro e w' ⟨rfl, rfl⟩)
    | (go_at_call 66; refine HC.out.mono ?_; rintro e w' ⟨o', BA, bc, hst, rfl, hsl⟩; have hb1 := HB.out.step hst (by simp); obtain ⟨g0, g1, g2, g3, g4, g5, g6⟩ := endCell hb1; have hlt1 := hb1.lt; have HB1 := Lib.hid hb1; have HST := Lib.hid hst; have HSL := Lib.hid hsl; clear hst hsl hb1))
  go_quiet ((go_at_call 67; exact Calls.quiet_of_same (near_eq rfl (by omega) (by omega) (by omega) (by omega) _)))
  go_wp2_with (go_at_call 68; refine (named_any _ _ _).mono ?_; rintro e w2 ⟨rfl, hw2⟩; obtain ⟨o2, hst2, hb2, n0, n1, n2, n3, n4⟩ := recv_world (o := o') τ2 HB1.out hw2; obtain ⟨e0, e1, e2, e3, e4, e5, e6⟩ := endCell hb2; have HST2 := Lib.hid hst2; clear hb2 hst2 hw2)
  go_loopw [4, 12] (fun v4 i wr => ∃ v : Int, v4 = .slice BA bl bc ∧ i = .int .i64 v ∧ near (s.next - 1) ak - 32 ≤ v ∧ (v ≤ s.own ∨ v = near (s.next - 1) ak - 32) ∧ NoneUpTo (near (s.next - 1) ak) v mk ∧ wr = w2) (fun _ i _ => (s.own - intOf i).toNat)
  case atStart => exact ⟨_, rfl, rfl, by omega, by omega, fun n h1 h2 => by omega, rfl⟩
  case round =>
    obtain ⟨v, rfl, rfl, hv1, hv2, hnone, rfl⟩ := hrel
    have HNONE := Lib.hid hnone; clear hnone
    by_cases hv : v < s.own
    · cases hN : named (near (s.next - 1) ak) mk v with
      | true =>
        have hcl := fun W hp hq => is_any v (near (s.next - 1) ak) mk (w'.heap.size + 1) (w'.heap.size + 1 + 1) W hp hq (by omega) (by omega) (by omega) (by omega) bmk
        rw [hN] at hcl
        have hearly := early_of (own := s.own) (by omega) hv1 hv hN
        have hR1 := HR0.out; rw [if_pos (Or.inr (Or.inr hearly))] at hR1; have HR1 := Lib.hid hR1; clear hR1
        have HCL := Lib.hid (hcl wr n1 n2); clear hcl hN hearly
        go_wp2_with (go_at_call 82; refine HCL.out.mono ?_; rintro e w3 ⟨rfl, rfl⟩)
        go_ret3
        rw [HR1.out]; exact RecvTo.bad HE.out (HST.out.trans HST2.out)
      | false =>
        have hcl := fun W hp hq => is_any v (near (s.next - 1) ak) mk (w'.heap.size + 1) (w'.heap.size + 1 + 1) W hp hq (by omega) (by omega) (by omega) (by omega) bmk
        rw [hN] at hcl
        have HCL := Lib.hid (hcl wr n1 n2); have HN := Lib.hid hN; clear hcl hN
        go_wp2_with (go_at_call 82; refine HCL.out.mono ?_; rintro e w3 ⟨rfl, rfl⟩)
        go_roundw
        case rel => exact ⟨v + 1, rfl, by go_num, by omega, by omega, HNONE.out.snoc HN.out, trivial⟩
        case measure => simp [intOf]; omega
    · have hne := HNONE.out.not_early (own := s.own) (by omega) (by omega)
      have hR1 := HR0.out; rw [if_neg (by rw [hne]; simp; omega)] at hR1; have HR1 := Lib.hid hR1; clear hR1
      clear hne
      have h3c : ∀ w3 o3, EndAt w3 o3 τ b s1 → True := fun _ _ _ => trivial
      clear h3c
      by_cases hc0 : code = 0
      · subst hc0
        have hR2 := HR1.out; rw [if_pos rfl] at hR2; have HR2 := Lib.hid hR2; clear hR2
        go_wp2_with (first
          | (go_at_call 69; refine (HK.out _ _ (HE.out.step (HST.out.trans HST2.out) (by simp)) _ _ n1 n2).mono ?_; rintro e w3 ⟨OA, oc, o3, rfl, hst3, he3, hr3⟩; have d0 : w3.cell? ⟨w'.heap.size, 0, none⟩ = some (.int .u64 fi) := (World.cell?_of_block (a := ⟨w'.heap.size, 0, none⟩) (hst3.block w'.heap.size n4 (by rw [n3]; simpa using ht))).trans n0; have HST3 := Lib.hid hst3; have HE3 := Lib.hid he3; have HR3 := Lib.hid hr3; clear hst3 he3 hr3)
          | (go_at_call 70; refine (HA.out _ _ HE3.out).mono ?_; rintro e w4 ⟨rfl, hst4, he4⟩; have HST4 := Lib.hid hst4; have HE4 := Lib.hid he4; clear hst4 he4)
          | (go_at_call 42; refine (cloneB _ _ τ2 σ BA bl bc _ (((HSL.out.step HST2.out (by simp)).step HST3.out (by simpa using ht)).step HST4.out (by simpa using ht)) (one_byts _) (by omega)).mono ?_; rintro e w5 ⟨A2, c2, rfl, hr5, hb5, -⟩; have HR5 := Lib.hid hr5; have HB5 := Lib.hid hb5; clear hr5 hb5))
        go_ret3
        have st1 := ((HST.out.trans HST2.out).nil.trans HST3.out).trans HST4.out
        have st2 := st1.below HB5.out σ
        have sr := (HR3.out.step HST4.out (by simpa using hσ)).step ((Step.refl [] _ _).below HB5.out σ) (by simp)
        rw [HR2.out]
        refine ⟨A2, c2, OA, oc, _, ?_, st2, ?_, ?_, ?_⟩
        · rw [HBL.out, HRL.out]; rfl
        · exact HE4.out.step ((Step.refl [] _ _).below HB5.out σ) (by simp)
        · rw [← HBL.out]; exact HR5.out
        · rw [← HRL.out]; exact sr.sl
      · have hR2 := HR1.out; rw [if_neg hc0] at hR2; have HR2 := Lib.hid hR2; clear hR2
        go_wp2_with (first
          | (go_at_call 69; refine (HK.out _ _ (HE.out.step (HST.out.trans HST2.out) (by simp)) _ _ n1 n2).mono ?_; rintro e w3 ⟨OA, oc, o3, rfl, hst3, he3, hr3⟩; have d0 : w3.cell? ⟨w'.heap.size, 0, none⟩ = some (.int .u64 fi) := (World.cell?_of_block (a := ⟨w'.heap.size, 0, none⟩) (hst3.block w'.heap.size n4 (by rw [n3]; simpa using ht))).trans n0; have HST3 := Lib.hid hst3; have HE3 := Lib.hid he3; have HR3 := Lib.hid hr3; clear hst3 he3 hr3)
          | (go_at_call 70; refine (HA.out _ _ HE3.out).mono ?_; rintro e w4 ⟨rfl, hst4, he4⟩; have HST4 := Lib.hid hst4; have HE4 := Lib.hid he4; clear hst4 he4))
        go_ret3
        have st1 := ((HST.out.trans HST2.out).nil.trans HST3.out).trans HST4.out
        have sr := HR3.out.step HST4.out (by simpa using hσ)
        rw [HR2.out]
        refine ⟨none, 0, OA, oc, _, ?_, st1, HE4.out, Row.nil_ _ _ _ _ _, ?_⟩
        · rw [HRL.out]; rfl
        · rw [← HRL.out]; exact sr.sl
end Go.Proofs.Ythjjipcbpmdfnaa
