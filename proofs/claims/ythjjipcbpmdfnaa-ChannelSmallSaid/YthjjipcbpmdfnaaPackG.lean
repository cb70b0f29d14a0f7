/-
  WALK of (*End).Receive, behind a packet that parses.
-/
import Derived.Test.YthjjipcbpmdfnaaPackF
namespace Go.Proofs.Ythjjipcbpmdfnaa
open Go.RowKit

/-- What 'parse' says, in the walk's form. -/
theorem parse_some (w : World) (o : Own) (τ : Nat) (A : Option Addr) (c : Nat) (xs : List UInt8) (hS : Sl w o τ 1 A xs.length c (byts xs)) (hn : xs.length ≤ 140737488355328) {f nu ak mk : Nat} {body : List UInt8} (hp : parseP xs = some (f, nu, ak, mk, body)) (fi : Int) (hfi : (f : Int) = fi) :
    Calls Try.prog 66 #[.slice A xs.length c] w fun e w' => ∃ o' BA bc, Step [] w o w' o' ∧ e = .returned (.tuple #[.agg #[.int .u64 fi, .int .u64 nu, .int .u64 ak, .int .u64 mk], .slice BA body.length bc, .bool true]) ∧ Sl w' o' τ 1 BA body.length bc (byts body) := by
  refine (parse_any w o τ A c xs hS hn).mono ?_
  rintro e w' ⟨o', hst, h | ⟨f', nu', ak', mk', body', A', n', c', h, he, hsl⟩⟩
  · rw [hp] at h; cases h.1
  · rw [hp] at h
    simp only [Option.some.injEq, Prod.mk.injEq] at h
    obtain ⟨rfl, rfl, rfl, rfl, rfl⟩ := h
    have hl : n' = body.length := by have := hsl.1; simp at this; omega
    subst hl
    exact ⟨o', A', c', hst, by rw [← hfi]; exact he, hsl⟩

theorem near_eq {a r v : Int} (hv : v = near a r) (ha : -1000000 ≤ a) (ha' : a ≤ 4000000000000) (hr : 0 ≤ r) (hr' : r < 65536) (w : World) :
    Calls Try.prog 67 #[.int .i64 a, .int .u64 r] w fun e w' => e = .returned (.int .i64 v) ∧ w' = w :=
  (near_any a r w ha ha' hr hr').mono fun _ _ ⟨h1, h2⟩ => ⟨by rw [hv]; exact h1, h2.symm⟩

theorem hdr_ne_walk (W : World) (f n a m : Int) (hf : f ≠ 0) : (binOp .eql 146 (.agg #[.int .u64 f, .int .u64 n, .int .u64 a, .int .u64 m]) (.agg #[.int .u64 0, .int .u64 0, .int .u64 0, .int .u64 0])).run Try.prog W = .ok (.bool false) W := by
  rw [hdr_eq_walk]; simp [hf]

/-- The world behind 'named'. -/
theorem recv_world {w w2 : World} {o : Own} {a0 a1 a2 a3 ack mk : Value} {n : Nat} {b : Nat} {s : EndS} {A : Option Addr} {m c : Nat} (t : Nat) (hb : Blk w b 136 (endCells s A m c)) (h : (((w.alloc (.cells #[a0, a1, a2, a3] 146)).drewN n).alloc (.cells #[ack] 3)).alloc (.cells #[mk] 67) = w2) :
    ∃ o2, Step [] w o w2 o2 ∧ Blk w2 b 136 (endCells s A m c) ∧ w2.cell? ⟨w.heap.size, 0, none⟩ = some a0 ∧ w2.cell? ⟨w.heap.size + 1, 0, none⟩ = some ack ∧ w2.cell? ⟨w.heap.size + 1 + 1, 0, none⟩ = some mk ∧ o2 w.heap.size = t ∧ w.heap.size < w2.heap.size := by
  subst h
  have hst := (((((Step.refl [] w o).alloc (.cells #[a0, a1, a2, a3] 146) t).drewN n).alloc (.cells #[ack] 3) t).alloc (.cells #[mk] 67) t)
  refine ⟨_, hst, hb.step hst (by simp), ?_, ?_, ?_, ?_, by simp; omega⟩
  · exact ((((Blk.new w 146 #[a0, a1, a2, a3]).drewN n).alloc (.cells #[ack] 3)).alloc (.cells #[mk] 67)).cell 0
  · have := ((Blk.new ((w.alloc (.cells #[a0, a1, a2, a3] 146)).drewN n) 3 #[ack]).alloc (.cells #[mk] 67)).cell 0
    simpa using this
  · have := (Blk.new (((w.alloc (.cells #[a0, a1, a2, a3] 146)).drewN n).alloc (.cells #[ack] 3)) 67 #[mk]).cell 0
    simpa using this
  · rw [ext_lt (by (first | (simp; done) | (simp; omega))), ext_lt (by (first | (simp; done) | (simp; omega)))]; exact ext_ge (Nat.le_refl _)

set_option maxRecDepth 100000 in
set_option maxHeartbeats 1000000 in
/-- A body, and no acknowledgement. -/
theorem recv_one (w : World) (o : Own) (τ τ2 σ b : Nat) (s : EndS) (hE : EndAt w o τ b s) (hs : s.Fit) (ht : τ2 ≠ τ) (_hσ : σ ≠ τ) (A : Option Addr) (c : Nat) (xs : List UInt8) (hS : Sl w o τ2 1 A xs.length c (byts xs)) (hn : xs.length ≤ 140737488355328) (nu ak mk : Nat) (body : List UInt8)
    (hp : parseP xs = some (1, nu, ak, mk, body)) : Calls Try.prog 53 #[.pointer (some ⟨b, 0, none⟩), .slice A xs.length c] w (RecvTo w o τ σ b (recvP s xs)) := by
  have HS := Lib.hid hs
  have HE := Lib.hid hE
  obtain ⟨-, -, bnu, bak, bmk, hbl, -⟩ := parse_bd hp
  obtain ⟨A0, m, cc, hb, ho, hr⟩ := hE
  obtain ⟨h0, -⟩ := endCell hb
  obtain ⟨fi, hfi⟩ : ∃ fi : Int, fi = 1 := ⟨_, rfl⟩
  have hcall := parse_some w o τ2 A c xs hS hn hp fi (by rw [hfi]; rfl)
  have t1 : decide ((0:Int) < bits BinOp.and IntKind.u64 fi 1) = true := by rw [hfi]; decide
  have t2 : decide ((0:Int) < bits BinOp.and IntKind.u64 fi 2) = false := by rw [hfi]; decide
  have t3 : (bits BinOp.and IntKind.u64 fi 1 == 0) = false := by rw [hfi]; decide
  have hfb : 0 ≤ fi ∧ fi < 18446744073709551616 := by omega
  obtain ⟨hf0, hf1⟩ := hfb
  have q0 := hs.own0; have q1 := hs.own1; have q2 := hs.next1; have q3 := hs.oth0; have q4 := hs.oth1; have q5 := hs.new1
  obtain ⟨b1, b2⟩ := near_bd s.newest nu
  have heq := fun W => hdr_ne_walk W fi nu ak mk (by omega)
  clear hfi
  have hre : recvP s xs = if near s.newest nu < s.other then (s, [], [], 190) else ((accept s (near s.newest nu - s.newest)).1, if (accept s (near s.newest nu - s.newest)).2 = 0 then body else [], [], (accept s (near s.newest nu - s.newest)).2) := by
    simp [recvP, hp]
  have HC := Lib.hid hcall; have HB := Lib.hid hb; have HR := Lib.hid hre
  clear hcall hb ho hr hS hp hs hre
  obtain ⟨bl, hbl2⟩ : ∃ n, n = body.length := ⟨_, rfl⟩
  rw [← hbl2] at HC hbl
  have HBL := Lib.hid hbl2; clear hbl2
  rw [HR.out]
  by_cases hlt : near s.newest nu < s.other
  · rw [if_pos hlt]
    go_enter Try.func53, Try.ntmps53
    go_wp2_with (first
      | (go_at_call 60; refine (there_end h0).mono ?_; rintro e w' ⟨rfl, rfl⟩)
      | (go_at_call 66; refine HC.out.mono ?_; rintro e w' ⟨o', BA, bc, hst, rfl, hsl⟩; have hb1 := HB.out.step hst (by simp); obtain ⟨g0, g1, g2, g3, g4, g5, g6⟩ := endCell hb1; have hlt1 := hb1.lt; have HB1 := Lib.hid hb1; have HST := Lib.hid hst; have HSL := Lib.hid hsl; clear hst hsl hb1))
    go_quiet ((go_at_call 67; exact Calls.quiet_of_same (near_eq rfl (by omega) (by omega) (by omega) (by omega) _)))
    go_wp2_with (go_at_call 68; refine (named_any _ _ _).mono ?_; rintro e w2 ⟨rfl, hw2⟩; obtain ⟨o2, hst2, hb2, n0, n1, n2, n3, n4⟩ := recv_world (o := o') τ2 HB1.out hw2; obtain ⟨e0, e1, e2, e3, e4, e5, e6⟩ := endCell hb2; have HST2 := Lib.hid hst2; clear hb2 hst2 hw2)
    go_ret3
    exact RecvTo.bad HE.out (HST.out.trans HST2.out)
  · rw [if_neg hlt]
    have hacc : ∀ w1 o1, EndAt w1 o1 τ b s → Calls Try.prog 70 #[.pointer (some ⟨b, 0, none⟩), .int .i64 (near s.newest nu)] w1 fun e w' => e = .returned (.int .i64 (accept s (near s.newest nu - s.newest)).2) ∧ Step [τ] w1 o1 w' o1 ∧ EndAt w' o1 τ b (accept s (near s.newest nu - s.newest)).1 := fun w1 o1 h => accept_end h HS.out (near s.newest nu) (by omega) (by omega)
    obtain ⟨R, hR⟩ : ∃ R, R = accept s (near s.newest nu - s.newest) := ⟨_, rfl⟩
    rw [← hR] at hacc ⊢
    obtain ⟨s2, code⟩ := R
    clear hR
    have HA := Lib.hid hacc; clear hacc
    simp only
    by_cases hc0 : code = 0
    · subst hc0
      rw [if_pos rfl]
      go_enter Try.func53, Try.ntmps53
      go_wp2_with (first
        | (go_at_call 60; refine (there_end h0).mono ?_; rintro e w' ⟨rfl, rfl⟩)
        | (go_at_call 66; refine HC.out.mono ?_; rintro e w' ⟨o', BA, bc, hst, rfl, hsl⟩; have hb1 := HB.out.step hst (by simp); obtain ⟨g0, g1, g2, g3, g4, g5, g6⟩ := endCell hb1; have hlt1 := hb1.lt; have HB1 := Lib.hid hb1; have HST := Lib.hid hst; have HSL := Lib.hid hsl; clear hst hsl hb1))
      go_quiet ((go_at_call 67; exact Calls.quiet_of_same (near_eq rfl (by omega) (by omega) (by omega) (by omega) _)))
      go_wp2_with (first
        | (go_at_call 68; refine (named_any _ _ _).mono ?_; rintro e w2 ⟨rfl, hw2⟩; obtain ⟨o2, hst2, hb2, n0, n1, n2, n3, n4⟩ := recv_world (o := o') τ2 HB1.out hw2; obtain ⟨e0, e1, e2, e3, e4, e5, e6⟩ := endCell hb2; have HST2 := Lib.hid hst2; clear hb2 hst2 hw2)
        | (go_at_call 70; refine (HA.out _ _ (HE.out.step (HST.out.trans HST2.out) (by simp))).mono ?_; rintro e w' ⟨rfl, hst1, he1⟩; have HST1 := Lib.hid hst1; have HE1 := Lib.hid he1; clear hst1 he1)
        | (go_at_call 42; refine (cloneB _ _ τ2 σ BA bl bc _ ((HSL.out.step HST2.out (by simp)).step HST1.out (by simpa using ht)) (one_byts _) (by omega)).mono ?_; rintro e w' ⟨A2, c2, rfl, hr2, hb2, -⟩; have HR2 := Lib.hid hr2; have HB2 := Lib.hid hb2; clear hr2 hb2))
      go_ret3
      have st1 := (HST.out.trans HST2.out).nil (ts := [τ]) |>.trans HST1.out
      have st2 := st1.below HB2.out σ
      refine ⟨A2, c2, none, 0, _, ?_, st2, ?_, ?_, Sl.nil_ _ _ _ _ _ _ (Nat.zero_le _)⟩
      · rw [HBL.out]; rfl
      · exact HE1.out.step ((Step.refl [] _ _).below HB2.out σ) (by simp)
      · rw [← HBL.out]; exact HR2.out
    · rw [if_neg hc0]
      go_enter Try.func53, Try.ntmps53
      go_wp2_with (first
        | (go_at_call 60; refine (there_end h0).mono ?_; rintro e w' ⟨rfl, rfl⟩)
        | (go_at_call 66; refine HC.out.mono ?_; rintro e w' ⟨o', BA, bc, hst, rfl, hsl⟩; have hb1 := HB.out.step hst (by simp); obtain ⟨g0, g1, g2, g3, g4, g5, g6⟩ := endCell hb1; have hlt1 := hb1.lt; have HB1 := Lib.hid hb1; have HST := Lib.hid hst; have HSL := Lib.hid hsl; clear hst hsl hb1))
      go_quiet ((go_at_call 67; exact Calls.quiet_of_same (near_eq rfl (by omega) (by omega) (by omega) (by omega) _)))
      go_wp2_with (first
        | (go_at_call 68; refine (named_any _ _ _).mono ?_; rintro e w2 ⟨rfl, hw2⟩; obtain ⟨o2, hst2, hb2, n0, n1, n2, n3, n4⟩ := recv_world (o := o') τ2 HB1.out hw2; obtain ⟨e0, e1, e2, e3, e4, e5, e6⟩ := endCell hb2; have HST2 := Lib.hid hst2; clear hb2 hst2 hw2)
        | (go_at_call 70; refine (HA.out _ _ (HE.out.step (HST.out.trans HST2.out) (by simp))).mono ?_; rintro e w' ⟨rfl, hst1, he1⟩; have HST1 := Lib.hid hst1; have HE1 := Lib.hid he1; clear hst1 he1))
      go_ret3
      have st1 := (HST.out.trans HST2.out).nil (ts := [τ]) |>.trans HST1.out
      exact ⟨none, 0, none, 0, _, rfl, st1, HE1.out, Row.nil_ _ _ _ _ _, Sl.nil_ _ _ _ _ _ _ (Nat.zero_le _)⟩
end Go.Proofs.Ythjjipcbpmdfnaa
