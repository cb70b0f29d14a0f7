/-
  Joined: ChN, ChQ.
-/
import Derived.Test.YthjjipcbpmdfnaaChM

/- Channels that are nil, or that New did not return; what keeps the bounds when a packet comes; numbers of a closed start. -/
namespace Go.Proofs.Ythjjipcbpmdfnaa
open Go.RowKit

set_option maxRecDepth 100000 in
set_option maxHeartbeats 400000 in
theorem Flush_none (w : World) (t : Int) : Calls Try.prog 20 #[.pointer none, .int .i64 t] w fun e w' => e = .returned (.tuple #[.slice none 0 0, .int .i64 1]) ∧ w = w' := by
  go_enter Try.func20, Try.ntmps20
  go_wp2_with (go_at_call 41; refine (there_none _).mono ?_; rintro e w' ⟨rfl, rfl⟩)
  go_ret2
  exact ⟨rfl, rfl⟩
set_option maxRecDepth 100000 in
set_option maxHeartbeats 400000 in
theorem Flush_zero {b : Nat} (w : World) (t : Int) (h5 : w.cell? ⟨b, 5, none⟩ = some (.pointer none)) : Calls Try.prog 20 #[.pointer (some ⟨b, 0, none⟩), .int .i64 t] w fun e w' => e = .returned (.tuple #[.slice none 0 0, .int .i64 1]) ∧ w = w' := by
  go_enter Try.func20, Try.ntmps20
  go_wp2_with (go_at_call 41; refine (there_zero h5).mono ?_; rintro e w' ⟨rfl, rfl⟩)
  go_ret2
  exact ⟨rfl, rfl⟩
set_option maxRecDepth 100000 in
set_option maxHeartbeats 400000 in
theorem Receive_none (w : World) (v : Value) : Calls Try.prog 24 #[.pointer none, v] w fun e w' => e = .returned (.tuple #[.slice none 0 0, .int .i64 1]) ∧ w = w' := by
  go_enter Try.func24, Try.ntmps24
  go_wp2_with (go_at_call 41; refine (there_none _).mono ?_; rintro e w' ⟨rfl, rfl⟩)
  go_ret2
  exact ⟨rfl, rfl⟩
set_option maxRecDepth 100000 in
set_option maxHeartbeats 400000 in
theorem Receive_zero {b : Nat} (w : World) (v : Value) (h5 : w.cell? ⟨b, 5, none⟩ = some (.pointer none)) : Calls Try.prog 24 #[.pointer (some ⟨b, 0, none⟩), v] w fun e w' => e = .returned (.tuple #[.slice none 0 0, .int .i64 1]) ∧ w = w' := by
  go_enter Try.func24, Try.ntmps24
  go_wp2_with (go_at_call 41; refine (there_zero h5).mono ?_; rintro e w' ⟨rfl, rfl⟩)
  go_ret2
  exact ⟨rfl, rfl⟩
set_option maxHeartbeats 400000 in
theorem Send_none (w : World) (v : Value) : Calls Try.prog 16 #[.pointer none, v] w fun e w' => e = .returned (.int .i64 1) ∧ w = w' := by
  go_enter Try.func16, Try.ntmps16
  go_wp2_with (go_at_call 41; refine (there_none _).mono ?_; rintro e w' ⟨rfl, rfl⟩)
  go_ret
  exact ⟨rfl, rfl⟩
set_option maxHeartbeats 400000 in
theorem Send_zero {b : Nat} (w : World) (v : Value) (h5 : w.cell? ⟨b, 5, none⟩ = some (.pointer none)) : Calls Try.prog 16 #[.pointer (some ⟨b, 0, none⟩), v] w fun e w' => e = .returned (.int .i64 1) ∧ w = w' := by
  go_enter Try.func16, Try.ntmps16
  go_wp2_with (go_at_call 41; refine (there_zero h5).mono ?_; rintro e w' ⟨rfl, rfl⟩)
  go_ret
  exact ⟨rfl, rfl⟩
set_option maxHeartbeats 400000 in
theorem Waiting_none (w : World) : Calls Try.prog 31 #[.pointer none] w fun e w' => e = .returned (.int .i64 0) ∧ w = w' := by
  go_enter Try.func31, Try.ntmps31
  go_wp2_with (go_at_call 41; refine (there_none _).mono ?_; rintro e w' ⟨rfl, rfl⟩)
  go_ret
  exact ⟨rfl, rfl⟩
set_option maxHeartbeats 400000 in
theorem Waiting_zero {b : Nat} (w : World) (h5 : w.cell? ⟨b, 5, none⟩ = some (.pointer none)) : Calls Try.prog 31 #[.pointer (some ⟨b, 0, none⟩)] w fun e w' => e = .returned (.int .i64 0) ∧ w = w' := by
  go_enter Try.func31, Try.ntmps31
  go_wp2_with (go_at_call 41; refine (there_zero h5).mono ?_; rintro e w' ⟨rfl, rfl⟩)
  go_ret
  exact ⟨rfl, rfl⟩
set_option maxHeartbeats 400000 in
theorem Delivered_none (w : World) : Calls Try.prog 36 #[.pointer none] w fun e w' => e = .returned (.int .i64 0) ∧ w = w' := by
  go_enter Try.func36, Try.ntmps36
  go_wp2_with (go_at_call 41; refine (there_none _).mono ?_; rintro e w' ⟨rfl, rfl⟩)
  go_ret
  exact ⟨rfl, rfl⟩
set_option maxHeartbeats 400000 in
theorem Delivered_zero {b : Nat} (w : World) (h5 : w.cell? ⟨b, 5, none⟩ = some (.pointer none)) : Calls Try.prog 36 #[.pointer (some ⟨b, 0, none⟩)] w fun e w' => e = .returned (.int .i64 0) ∧ w = w' := by
  go_enter Try.func36, Try.ntmps36
  go_wp2_with (go_at_call 41; refine (there_zero h5).mono ?_; rintro e w' ⟨rfl, rfl⟩)
  go_ret
  exact ⟨rfl, rfl⟩

/-! ### bounds when a packet comes -/
theorem keepS_bound (next : Nat) : ∀ (l : List (Nat × List UInt8)) (early : Nat → Option (List UInt8)), (∀ n b, early n = some b → next ≤ n ∧ n < next + 64 ∧ b.length ≤ 1024) → (∀ p ∈ l, p.1 < next + 64 ∧ p.2.length ≤ 1024) → ∀ n b, keepS next early l n = some b → next ≤ n ∧ n < next + 64 ∧ b.length ≤ 1024
  | [], early, h, _, n, b, hb => h n b hb
  | p :: l, early, h, hl, n, b, hb => by
    refine keepS_bound next l (keep1 next early p) (fun n b hb => ?_) (fun q hq => hl q (List.mem_cons_of_mem _ hq)) n b hb
    unfold keep1 at hb
    split at hb
    · rename_i hc
      unfold updN at hb
      split at hb
      · next e =>
        injection hb with hb; subst hb; subst e
        exact ⟨hc.1, (hl p List.mem_cons_self).1, (hl p List.mem_cons_self).2⟩
      · exact h n b hb
    · exact h n b hb
theorem dlv_len (early : Nat → Option (List UInt8)) : ∀ k n, (dlv early k n).length ≤ k
  | 0, _ => Nat.le_refl _
  | k + 1, n => by
    unfold dlv
    split
    · exact Nat.zero_le _
    · simp only [List.length_cons]; have := dlv_len early k (n + 1); omega
theorem recvS_fit {s : ChS} (h : s.Fit) (xs : List UInt8) (hn : s.next + 64 ≤ 1000000000) (hw : s.e.newest ≤ 1999999900000) : (recvS s xs).1.Fit := by
  have hf := recv_fit h.e xs hw
  have h1 := decS_fit (h.ofe hf.1) (recvP s.e xs).2.2.1
  obtain ⟨f, out, pk, q, -⟩ := decS_form { s with e := (recvP s.e xs).1 } (recvP s.e xs).2.2.1 h.fs
  unfold recvS
  simp only
  split
  · exact h
  · split
    · exact h1
    · split
      · exact h1.owe true
      · split
        · exact h1.owe true
        · rename_i l hp
          have hb := parseC_bound _ _ _ _ hp
          have hk := keepS_bound s.next l s.early h.el hb
          have hl := dlv_len (keepS s.next s.early l) 64 s.next
          have h2 := h1.owe true
          refine ⟨h2.e, h2.fs, h2.sl, by show s.next + _ ≤ _; omega, h2.t0, h2.t1, h2.lo, h2.msg, fun n b hb' => ?_, h2.pk⟩
          simp only [dropN] at hb'
          split at hb'
          · cases hb'
          · rename_i hc
            have := hk n b hb'
            refine ⟨?_, ?_, this.2.2⟩
            · show s.next + _ ≤ n; omega
            · show n < s.next + _ + 64; omega
end Go.Proofs.Ythjjipcbpmdfnaa

/- PLAIN LAWS of the model of a Channel: its bounds, whatever it does. -/
namespace Go.Proofs.Ythjjipcbpmdfnaa

theorem chNew_fit {own other : Int} (h0 : 0 ≤ own) (h1 : own ≤ 1099511627776) (h2 : 0 ≤ other) (h3 : other ≤ 1099511627776) : (chNew own other).Fit :=
  ⟨⟨h0, Int.le_refl _, by show own ≤ _; omega, h2, Int.le_refl _, by show other - 1 ≤ _; omega, (show 0 < 4294967296 by decide), (show 0 ≤ 256 by decide), fun n h => by cases h⟩, Nat.le_refl _, (show 0 ≤ 1000000000 by decide), (show 0 ≤ 1000000000 by decide), (show (0 : Int) ≤ 0 by decide), (show (0 : Int) ≤ 9223372036854775807 by decide),
   fun n h => absurd rfl h, fun n m h => (by cases h), fun n b h => (by cases h), fun i l h => (by cases h)⟩
/-- What of an End is kept. -/
structure EKeep (s t : EndS) : Prop where
  own : t.own = s.own
  other : t.other = s.other
  next0 : s.next ≤ t.next
  next1 : t.next ≤ s.next + 1
  newest1 : t.newest ≤ s.newest + 40000
theorem EKeep.refl (s : EndS) : EKeep s s := ⟨rfl, rfl, Int.le_refl _, by omega, by omega⟩
theorem decS_e {s : ChS} (h : s.first ≤ s.sent) (rs : List (Int × Bool)) : (decS s rs).e = s.e ∧ (decS s rs).next = s.next ∧ (decS s rs).sent = s.sent ∧ (decS s rs).tick = s.tick ∧ (decS s rs).owes = s.owes ∧ (decS s rs).early = s.early := by
  obtain ⟨f, out, pk, q, -⟩ := decS_form s rs h
  rw [q]; exact ⟨rfl, rfl, rfl, rfl, rfl, rfl⟩
theorem flushS_keep {s : ChS} (h : s.Fit) {t : Int} (ht : t ≤ 9223372036854775807) (hn : s.e.next + 1 ≤ 2000000000000) :
    (flushS s t).1.Fit ∧ EKeep s.e (flushS s t).1.e ∧ (flushS s t).1.sent = s.sent ∧ (flushS s t).1.next = s.next := by
  by_cases hlt : t < s.tick
  · have e : flushS s t = (s, [], 2) := by unfold flushS; rw [if_pos hlt]
    rw [e]; exact ⟨h, EKeep.refl _, rfl, rfl⟩
  obtain ⟨s1, hs1⟩ : ∃ s1 : ChS, s1 = { s with tick := t } := ⟨_, rfl⟩
  have hf1 : s1.Fit := by rw [hs1]; exact h.clock (by omega) ht
  have q0 : s1.e = s.e := by rw [hs1]
  have q1 : s1.sent = s.sent := by rw [hs1]
  have q2 : s1.next = s.next := by rw [hs1]
  have q3 : s1.tick = t := by rw [hs1]
  rcases Nat.eq_zero_or_pos (bodyS s1).2.length with hz | hz
  · rw [flushS_none hlt hs1 hz]
    split
    · split
      · exact ⟨hf1.owe false, by rw [← q0]; exact EKeep.refl _, q1, q2⟩
      · exact ⟨hf1.owe false, by rw [← q0]; exact EKeep.refl _, q1, q2⟩
    · exact ⟨hf1, by rw [← q0]; exact EKeep.refl _, q1, q2⟩
  · rw [flushS_send hlt hs1 hz]
    have hm := make_fit hf1.e (by rw [q0]; exact hn)
    have hf2 := flush_fit hf1 (by rw [q0]; exact hn) hm
    rw [show markS s1.out s1.e.next s1.tick (bodyS s1).2 = markS s1.out s1.e.next t (bodyS s1).2 by rw [q3]] at hf2
    have hf3 := decS_fit hf2 (lostP s1.e)
    have hd := decS_e (s := { s1 with e := makeS s1.e, out := markS s1.out s1.e.next t (bodyS s1).2, packets := updI s1.packets s1.e.next (some (bodyS s1).2) }) hf1.fs (lostP s1.e)
    refine ⟨hf3.owe false, ?_, hd.2.2.1.trans q1, hd.2.1.trans q2⟩
    show EKeep s.e (decS _ _).e
    rw [hd.1, ← q0]
    exact ⟨rfl, rfl, by show s1.e.next ≤ s1.e.next + 1; omega, Int.le_refl _, by show s1.e.newest ≤ _; omega⟩
theorem recvS_keep {s : ChS} (h : s.Fit) (xs : List UInt8) (hn : s.next + 64 ≤ 1000000000) (hw : s.e.newest ≤ 1999999900000) :
    (recvS s xs).1.Fit ∧ EKeep s.e (recvS s xs).1.e ∧ (recvS s xs).1.sent = s.sent ∧ (recvS s xs).1.next ≤ s.next + 64 ∧ s.next ≤ (recvS s xs).1.next := by
  refine ⟨recvS_fit h xs hn hw, ?_⟩
  have hf := recv_fit h.e xs hw
  have hk : EKeep s.e (recvP s.e xs).1 := ⟨recvP_own, hf.2.2.2, by rw [hf.2.2.1]; exact Int.le_refl _, by rw [hf.2.2.1]; omega, hf.2.1⟩
  have hd := decS_e (s := { s with e := (recvP s.e xs).1 }) h.fs (recvP s.e xs).2.2.1
  unfold recvS
  simp only
  split
  · exact ⟨EKeep.refl _, rfl, Nat.le_add_right _ _, Nat.le_refl _⟩
  · split
    · exact ⟨by rw [hd.1]; exact hk, hd.2.2.1, by rw [hd.2.1]; show s.next ≤ _; omega, by rw [hd.2.1]; exact Nat.le_refl _⟩
    · split
      · exact ⟨by show EKeep s.e (decS _ _).e; rw [hd.1]; exact hk, hd.2.2.1, by show (decS _ _).next ≤ _; rw [hd.2.1]; show s.next ≤ _; omega, by show _ ≤ (decS _ _).next; rw [hd.2.1]; exact Nat.le_refl _⟩
      · split
        · exact ⟨by show EKeep s.e (decS _ _).e; rw [hd.1]; exact hk, hd.2.2.1, by show (decS _ _).next ≤ _; rw [hd.2.1]; show s.next ≤ _; omega, by show _ ≤ (decS _ _).next; rw [hd.2.1]; exact Nat.le_refl _⟩
        · rename_i l hp
          have hl := dlv_len (keepS s.next s.early l) 64 s.next
          exact ⟨by show EKeep s.e (decS _ _).e; rw [hd.1]; exact hk, hd.2.2.1, by show s.next + _ ≤ _; omega, by show s.next ≤ s.next + _; omega⟩
theorem sendS_keep {s : ChS} (h : s.Fit) (b : List UInt8) (hl : s.sent + 1 ≤ 1000000000) : (sendS s b).1.Fit ∧ (sendS s b).1.e = s.e ∧ (sendS s b).1.sent ≤ s.sent + 1 ∧ s.sent ≤ (sendS s b).1.sent ∧ (sendS s b).1.next = s.next := by
  refine ⟨sendS_fit h b hl, ?_⟩
  unfold sendS
  split
  · exact ⟨rfl, Nat.le_add_right _ _, Nat.le_refl _, rfl⟩
  · split
    · exact ⟨rfl, Nat.le_add_right _ _, Nat.le_refl _, rfl⟩
    · exact ⟨rfl, Nat.le_refl _, by show s.sent ≤ s.sent + 1; omega, rfl⟩

/-! ### the examples of the chapter -/
def awA : ChS := (sendS (sendS (chNew 0 0) [97]).1 [98, 99]).1
def awB : ChS := (flushS awA 0).1
def awC : ChS := (flushS awB 1).1
def awD : ChS := (flushS awC 8).1
def awP : List UInt8 := [1, 0, 0, 0, 0, 0, 1, 97, 0, 1, 0, 2, 98, 99]
def awX : ChS := (recvS (chNew 0 0) awP).1
def awY : ChS := (flushS awX 1).1
def awQ : List UInt8 := [2, 0, 0, 0, 0, 0, 0]
def awE : ChS := (recvS awD awQ).1
theorem aw1 : (sendS (chNew 0 0) [97]).2 = 0 := by decide +kernel
theorem aw2 : (sendS (sendS (chNew 0 0) [97]).1 [98, 99]).2 = 0 := by decide +kernel
theorem aw3 : (flushS awA 0).2 = (awP, 0) := by decide +kernel
theorem aw4 : (flushS awB 1).2 = ([], 0) := by decide +kernel
theorem aw5 : (flushS awC 8).2 = ([1, 0, 1, 0, 0, 0, 1, 97, 0, 1, 0, 2, 98, 99], 0) := by decide +kernel
theorem aw6 : (recvS (chNew 0 0) awP).2 = ([[97], [98, 99]], 0) := by decide +kernel
theorem aw7 : awX.next = 2 := by decide +kernel
theorem aw8 : (flushS awX 1).2 = (awQ, 0) := by decide +kernel
theorem aw9 : (recvS awD awQ).2 = ([], 0) := by decide +kernel
theorem aw10 : waitS awE = 0 := by decide +kernel
end Go.Proofs.Ythjjipcbpmdfnaa
