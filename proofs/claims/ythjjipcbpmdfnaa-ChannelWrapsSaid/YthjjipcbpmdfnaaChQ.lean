/-
  PLAIN LAWS of the model of a Channel: its bounds, whatever it does.
-/
import Derived.Test.YthjjipcbpmdfnaaChN
namespace Go.Proofs.Ythjjipcbpmdfnaa

theorem chNew_fit {own other : Int} (h0 : 0 ≤ own) (h1 : own ≤ 1099511627776) (h2 : 0 ≤ other) (h3 : other ≤ 1099511627776) : (chNew own other).Fit :=
  ⟨⟨h0, Int.le_refl _, by show own ≤ _; omega, h2, Int.le_refl _, by show other - 1 ≤ _; omega, (show 0 < 4294967296 by decide), (show 0 ≤ 256 by decide), fun n h => by cases h⟩, Nat.le_refl _, (show 0 ≤ 1000000000 by decide), (show 0 ≤ 1000000000 by decide), (show (0 : Int) ≤ 0 by decide), (show (0 : Int) ≤ 9223372036854775807 by decide),
   fun n h => absurd rfl h, fun n m h => (by cases h), fun n b h => (by cases h), fun i l h => (by cases h)⟩
/-- What of an End is kept. -/
structure EKeep (s t : EndS) : Prop where
  own : t.own = s.own
  other : t.other = s.other
  next0 : s.next ≤ t.next
  next1 : t.next ≤ s.next + 1
  newest1 : t.newest ≤ s.newest + 40000
theorem EKeep.refl (s : EndS) : EKeep s s := ⟨rfl, rfl, Int.le_refl _, by omega, by omega⟩
theorem decS_e {s : ChS} (h : s.first ≤ s.sent) (rs : List (Int × Bool)) : (decS s rs).e = s.e ∧ (decS s rs).next = s.next ∧ (decS s rs).sent = s.sent ∧ (decS s rs).tick = s.tick ∧ (decS s rs).owes = s.owes ∧ (decS s rs).early = s.early := by
  obtain ⟨f, out, pk, q, -⟩ := decS_form s rs h
  rw [q]; exact ⟨rfl, rfl, rfl, rfl, rfl, rfl⟩
theorem flushS_keep {s : ChS} (h : s.Fit) {t : Int} (ht : t ≤ 9223372036854775807) (hn : s.e.next + 1 ≤ 2000000000000) :
    (flushS s t).1.Fit ∧ EKeep s.e (flushS s t).1.e ∧ (flushS s t).1.sent = s.sent ∧ (flushS s t).1.next = s.next := by
  by_cases hlt : t < s.tick
  · have e : flushS s t = (s, [], 2) := by unfold flushS; rw [if_pos hlt]
    rw [e]; exact ⟨h, EKeep.refl _, rfl, rfl⟩
  obtain ⟨s1, hs1⟩ : ∃ s1 : ChS, s1 = { s with tick := t } := ⟨_, rfl⟩
  have hf1 : s1.Fit := by rw [hs1]; exact h.clock (by omega) ht
  have q0 : s1.e = s.e := by rw [hs1]
  have q1 : s1.sent = s.sent := by rw [hs1]
  have q2 : s1.next = s.next := by rw [hs1]
  have q3 : s1.tick = t := by rw [hs1]
  rcases Nat.eq_zero_or_pos (bodyS s1).2.length with hz | hz
  · rw [flushS_none hlt hs1 hz]
    split
    · split
      · exact ⟨hf1.owe false, by rw [← q0]; exact EKeep.refl _, q1, q2⟩
      · exact ⟨hf1.owe false, by rw [← q0]; exact EKeep.refl _, q1, q2⟩
    · exact ⟨hf1, by rw [← q0]; exact EKeep.refl _, q1, q2⟩
  · rw [flushS_send hlt hs1 hz]
    have hm := make_fit hf1.e (by rw [q0]; exact hn)
    have hf2 := flush_fit hf1 (by rw [q0]; exact hn) hm
    rw [show markS s1.out s1.e.next s1.tick (bodyS s1).2 = markS s1.out s1.e.next t (bodyS s1).2 by rw [q3]] at hf2
    have hf3 := decS_fit hf2 (lostP s1.e)
    have hd := decS_e (s := { s1 with e := makeS s1.e, out := markS s1.out s1.e.next t (bodyS s1).2, packets := updI s1.packets s1.e.next (some (bodyS s1).2) }) hf1.fs (lostP s1.e)
    refine ⟨hf3.owe false, ?_, hd.2.2.1.trans q1, hd.2.1.trans q2⟩
    show EKeep s.e (decS _ _).e
    rw [hd.1, ← q0]
    exact ⟨rfl, rfl, by show s1.e.next ≤ s1.e.next + 1; omega, Int.le_refl _, by show s1.e.newest ≤ _; omega⟩
theorem recvS_keep {s : ChS} (h : s.Fit) (xs : List UInt8) (hn : s.next + 64 ≤ 1000000000) (hw : s.e.newest ≤ 1999999900000) :
    (recvS s xs).1.Fit ∧ EKeep s.e (recvS s xs).1.e ∧ (recvS s xs).1.sent = s.sent ∧ (recvS s xs).1.next ≤ s.next + 64 ∧ s.next ≤ (recvS s xs).1.next := by
  refine ⟨recvS_fit h xs hn hw, ?_⟩
  have hf := recv_fit h.e xs hw
  have hk : EKeep s.e (recvP s.e xs).1 := ⟨recvP_own, hf.2.2.2, by rw [hf.2.2.1]; exact Int.le_refl _, by rw [hf.2.2.1]; omega, hf.2.1⟩
  have hd := decS_e (s := { s with e := (recvP s.e xs).1 }) h.fs (recvP s.e xs).2.2.1
  unfold recvS
  simp only
  split
  · exact ⟨EKeep.refl _, rfl, Nat.le_add_right _ _, Nat.le_refl _⟩
  · split
    · exact ⟨by rw [hd.1]; exact hk, hd.2.2.1, by rw [hd.2.1]; show s.next ≤ _; omega, by rw [hd.2.1]; exact Nat.le_refl _⟩
    · split
      · exact ⟨by show EKeep s.e (decS _ _).e; rw [hd.1]; exact hk, hd.2.2.1, by show (decS _ _).next ≤ _; rw [hd.2.1]; show s.next ≤ _; omega, by show _ ≤ (decS _ _).next; rw [hd.2.1]; exact Nat.le_refl _⟩
      · split
        · exact ⟨by show EKeep s.e (decS _ _).e; rw [hd.1]; exact hk, hd.2.2.1, by show (decS _ _).next ≤ _; rw [hd.2.1]; show s.next ≤ _; omega, by show _ ≤ (decS _ _).next; rw [hd.2.1]; exact Nat.le_refl _⟩
        · rename_i l hp
          have hl := dlv_len (keepS s.next s.early l) 64 s.next
          exact ⟨by show EKeep s.e (decS _ _).e; rw [hd.1]; exact hk, hd.2.2.1, by show s.next + _ ≤ _; omega, by show s.next ≤ s.next + _; omega⟩
theorem sendS_keep {s : ChS} (h : s.Fit) (b : List UInt8) (hl : s.sent + 1 ≤ 1000000000) : (sendS s b).1.Fit ∧ (sendS s b).1.e = s.e ∧ (sendS s b).1.sent ≤ s.sent + 1 ∧ s.sent ≤ (sendS s b).1.sent ∧ (sendS s b).1.next = s.next := by
  refine ⟨sendS_fit h b hl, ?_⟩
  unfold sendS
  split
  · exact ⟨rfl, Nat.le_add_right _ _, Nat.le_refl _, rfl⟩
  · split
    · exact ⟨rfl, Nat.le_add_right _ _, Nat.le_refl _, rfl⟩
    · exact ⟨rfl, Nat.le_refl _, by show s.sent ≤ s.sent + 1; omega, rfl⟩

/-! ### the examples of the chapter -/
def awA : ChS := (sendS (sendS (chNew 0 0) [97]).1 [98, 99]).1
def awB : ChS := (flushS awA 0).1
def awC : ChS := (flushS awB 1).1
def awD : ChS := (flushS awC 8).1
def awP : List UInt8 := [1, 0, 0, 0, 0, 0, 1, 97, 0, 1, 0, 2, 98, 99]
def awX : ChS := (recvS (chNew 0 0) awP).1
def awY : ChS := (flushS awX 1).1
def awQ : List UInt8 := [2, 0, 0, 0, 0, 0, 0]
def awE : ChS := (recvS awD awQ).1
theorem aw1 : (sendS (chNew 0 0) [97]).2 = 0 := by decide +kernel
theorem aw2 : (sendS (sendS (chNew 0 0) [97]).1 [98, 99]).2 = 0 := by decide +kernel
theorem aw3 : (flushS awA 0).2 = (awP, 0) := by decide +kernel
theorem aw4 : (flushS awB 1).2 = ([], 0) := by decide +kernel
theorem aw5 : (flushS awC 8).2 = ([1, 0, 1, 0, 0, 0, 1, 97, 0, 1, 0, 2, 98, 99], 0) := by decide +kernel
theorem aw6 : (recvS (chNew 0 0) awP).2 = ([[97], [98, 99]], 0) := by decide +kernel
theorem aw7 : awX.next = 2 := by decide +kernel
theorem aw8 : (flushS awX 1).2 = (awQ, 0) := by decide +kernel
theorem aw9 : (recvS awD awQ).2 = ([], 0) := by decide +kernel
theorem aw10 : waitS awE = 0 := by decide +kernel
end Go.Proofs.Ythjjipcbpmdfnaa
