/-
  PLAIN LAWS of an End: what keeps its numbers in their bounds.
-/
import Derived.Test.YthjjipcbpmdfnaaPackJ
namespace Go.Proofs.Ythjjipcbpmdfnaa
theorem make_fit {s : EndS} (h : s.Fit) (hn : s.next + 1 ≤ 2000000000000) : (makeS s).Fit := by
  have q1 := h.own0; have q2 := h.own1
  refine ⟨h.own0, ?_, ?_, h.oth0, h.oth1, h.new1, h.mask1, ?_, ?_⟩
  · show s.own ≤ s.next + 1; omega
  · show s.next + 1 ≤ _; omega
  · show (if s.pend.length < 256 then s.pend ++ [s.next] else (s.pend ++ [s.next]).tail).length ≤ 256
    have := h.len
    split
    · simp; omega
    · simp; omega
  · intro n hn'
    have hm : n ∈ s.pend ++ [s.next] := by
      have : n ∈ (if s.pend.length < 256 then s.pend ++ [s.next] else (s.pend ++ [s.next]).tail) := hn'
      split at this
      · exact this
      · exact List.mem_of_mem_tail this
    rcases List.mem_append.1 hm with h1 | h1
    · have := h.mem n h1
      exact ⟨this.1, show n < s.next + 1 by omega⟩
    · rw [List.mem_singleton.1 h1]
      exact ⟨show s.own ≤ s.next by omega, show s.next < s.next + 1 by omega⟩

theorem ackL_subset (ack : Int) (mask : Nat) (l : List Int) : ∀ x ∈ ackL ack mask l, x ∈ l := by
  induction l with
  | nil => intro x h; cases h
  | cons n l ih =>
    intro x h
    simp only [ackL] at h
    split at h
    · exact List.mem_cons_of_mem _ (ih x h)
    · split at h
      · exact List.mem_cons_of_mem _ (ih x h)
      · rcases List.mem_cons.1 h with rfl | h
        · exact List.mem_cons_self
        · exact List.mem_cons_of_mem _ (ih x h)

theorem accept_fit {s : EndS} (h : s.Fit) (d : Int) (hd : d ≤ 40000) (hn : s.newest ≤ 1999999900000) : (accept s d).1.Fit ∧ (accept s d).1.newest ≤ s.newest + 40000 ∧ (accept s d).1.next = s.next ∧ (accept s d).1.other = s.other := by
  have q := h.oth1
  unfold accept
  split
  · exact ⟨h, by simp only; omega, rfl, rfl⟩
  split
  · exact ⟨h, by simp only; omega, rfl, rfl⟩
  split
  · split
    · exact ⟨h, by simp only; omega, rfl, rfl⟩
    · refine ⟨⟨h.own0, h.own1, h.next1, h.oth0, h.oth1, h.new1, ?_, h.len, h.mem⟩, by simp only; omega, rfl, rfl⟩
      exact Nat.or_lt_two_pow (n := 32) h.mask1 (Nat.pow_lt_pow_right (by omega) (by omega))
  · refine ⟨⟨h.own0, h.own1, h.next1, h.oth0, by simp only; omega, by simp only; omega, ?_, h.len, h.mem⟩, by simp only; omega, rfl, rfl⟩
    refine Nat.or_lt_two_pow (n := 32) (Nat.mod_lt _ (by decide)) ?_
    split
    · exact Nat.mod_lt _ (by decide)
    · decide

theorem pend_fit {s : EndS} (h : s.Fit) (l : List Int) (hl : l.length ≤ s.pend.length) (hm : ∀ x ∈ l, x ∈ s.pend) : ({ s with pend := l } : EndS).Fit :=
  ⟨h.own0, h.own1, h.next1, h.oth0, h.oth1, h.new1, h.mask1, Nat.le_trans hl h.len, fun n hn => h.mem n (hm n hn)⟩

theorem recv_fit {s : EndS} (h : s.Fit) (xs : List UInt8) (hn : s.newest ≤ 1999999900000) : (recvP s xs).1.Fit ∧ (recvP s xs).1.newest ≤ s.newest + 40000 ∧ (recvP s xs).1.next = s.next ∧ (recvP s xs).1.other = s.other := by
  unfold recvP
  cases hp : parseP xs with
  | none => exact ⟨h, by simp only; omega, rfl, rfl⟩
  | some q =>
    obtain ⟨f, nu, ak, mk, body⟩ := q
    simp only
    split
    · exact ⟨h, by simp only; omega, rfl, rfl⟩
    split
    · exact ⟨h, by simp only; omega, rfl, rfl⟩
    have h1 : (if f / 2 % 2 = 1 then ({ s with pend := ackL (near (s.next - 1) ak) mk s.pend } : EndS) else s).Fit := by
      split
      · exact pend_fit h _ (ackL_len _ _ _) (ackL_subset _ _ _)
      · exact h
    have h2 : (if f / 2 % 2 = 1 then ({ s with pend := ackL (near (s.next - 1) ak) mk s.pend } : EndS) else s).newest = s.newest ∧ (if f / 2 % 2 = 1 then ({ s with pend := ackL (near (s.next - 1) ak) mk s.pend } : EndS) else s).next = s.next ∧ (if f / 2 % 2 = 1 then ({ s with pend := ackL (near (s.next - 1) ak) mk s.pend } : EndS) else s).other = s.other := by
      split <;> exact ⟨rfl, rfl, rfl⟩
    generalize (if f / 2 % 2 = 1 then ({ s with pend := ackL (near (s.next - 1) ak) mk s.pend } : EndS) else s) = s1 at h1 h2 ⊢
    split
    · have hb := near_bd s.newest nu
      have := accept_fit h1 (near s.newest nu - s.newest) (by omega) (by omega)
      obtain ⟨a1, a2, a3, a4⟩ := this
      exact ⟨a1, by simp only; omega, a3.trans h2.2.1, a4.trans h2.2.2⟩
    · exact ⟨h1, by simp only; omega, h2.2.1, h2.2.2⟩
end Go.Proofs.Ythjjipcbpmdfnaa
