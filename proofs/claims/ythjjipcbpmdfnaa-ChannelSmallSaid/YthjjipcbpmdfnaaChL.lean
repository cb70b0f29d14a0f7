/-
  A Channel in memory while early messages are kept and delivered.
-/
import Derived.Test.YthjjipcbpmdfnaaChK
namespace Go.Proofs.Ythjjipcbpmdfnaa
open Go.RowKit

section
variable {w w' : World} {o : Own} {T : ChT} {b : Nat} {s : ChS} {k : ChB} {blk : Nat → Nat}
/-- 'v, ok := c.early[n]', in every world that draws come to. -/
theorem EarlyAt.look {τ m N : Nat} {ε : Nat → Nat} {early : Nat → Option (List UInt8)} (h : EarlyAt w o τ ε m N early) {n : Nat} (hn : n ≤ 4000000000) :
    ∃ EA el ec, (∀ q, (Instr.lookup 90 (.map (some m)) (.int .i64 (n : Int)) true).run Try.prog (w.drewN q) = .ok (.tuple #[.slice EA el ec, .bool (early n).isSome]) (w.drewN q)) ∧ ∀ bb, early n = some bb → Row w o (ε n) 5 1 EA el ec (byts bb) := by
  obtain ⟨adr, cap, q1, q2⟩ := h.map
  cases hx : early n with
  | none => exact ⟨none, 0, 0, fun q => (q1.drewN q).ok_none Try.underlying90 (zeroB _) (i64_nat hn) (by unfold earlyF; rw [natF_nat, hx]; rfl), fun bb hb => by cases hb⟩
  | some x => exact ⟨_, _, _, fun q => (q1.drewN q).ok_some Try.underlying90 (zeroB _) (i64_nat hn) (by unfold earlyF; rw [natF_nat, hx]; rfl), fun bb hb => by injection hb with hb; subst hb; exact q2 n x hx⟩
theorem earlyF_put (adr : Nat → Option Addr) (cap : Nat → Nat) (early : Nat → Option (List UInt8)) (n : Nat) (bb : List UInt8) (LA : Option Addr) (lc : Nat) (id : Int) :
    earlyF (fun i => if i = n then LA else adr i) (fun i => if i = n then lc else cap i) (updN early n (some bb)) id = if id = (n : Int) then some (.slice LA bb.length lc) else earlyF adr cap early id := by
  unfold earlyF natF updN
  by_cases h0 : id < 0
  · rw [if_pos h0, if_neg (by omega), if_pos h0]
  · rw [if_neg h0, if_neg h0]
    by_cases h1 : id = (n : Int)
    · subst h1; simp
    · simp only []
      have h2 : ¬ id.toNat = n := by omega
      rw [if_neg h1]
      simp only [h2, if_false]
theorem earlyF_del (adr : Nat → Option Addr) (cap : Nat → Nat) (early : Nat → Option (List UInt8)) (n : Nat) (id : Int) : earlyF adr cap (updN early n none) id = if id = (n : Int) then none else earlyF adr cap early id := by
  unfold earlyF natF updN
  by_cases h0 : id < 0
  · rw [if_pos h0, if_neg (by omega), if_pos h0]
  · rw [if_neg h0, if_neg h0]
    by_cases h1 : id = (n : Int)
    · subst h1; simp
    · simp only []
      rw [if_neg (by omega), if_neg h1]
/-- An early message is kept. -/
theorem ChIs.putearly (h : ChIs w o T b s k blk) (hT : T.Ok) {adr : Nat → Option Addr} {cap : Nat → Nat} (hs : ∀ n b, s.early n = some b → Row w o (T.ε n) 5 1 (adr n) b.length (cap n) (byts b)) {n : Nat} (hn : n < s.next + 64) {bb : List UInt8} {LA : Option Addr} {ln lc : Nat} (hln : ln = bb.length)
    (hl : Row w o (T.ε n) 5 1 LA ln lc (byts bb)) (hm : MapV w' k.me (if (earlyF adr cap s.early n).isSome then cntN s.early (s.next + 64) else cntN s.early (s.next + 64) + 1) (fun i => if i = (n : Int) then some (.slice LA ln lc) else earlyF adr cap s.early i)) (hg : w.grownBy w' (some k.me)) :
    ChIs w' o T b { s with early := updN s.early n (some bb) } k blk ∧ Step [T.τ] w o w' o := by
  obtain ⟨adr0, cap0, q1, -⟩ := h.early.map
  have hst := step_map h.early.om hg
  subst hln
  refine ⟨⟨h.cb.grown hg (by simpa using Ne.symm (q1.ne_blk h.cb)), h.ob, h.e.step hst (by simpa using hT.te), h.out.onmap q1 h.early.om hg h.d1 hT.s1, ⟨⟨fun i => if i = n then LA else adr i, fun i => if i = n then lc else cap i, ?_, fun i b hb => ?_⟩, h.early.om, fun i hi => ?_⟩, h.pack.onmap h.early.om hg (Ne.symm h.d3) hT.s1, h.d1, h.d2, h.d3⟩, hst⟩
  · have := hm.congr (earlyF_put adr cap s.early n bb LA lc)
    rw [show (earlyF adr cap s.early n).isSome = (s.early n).isSome by unfold earlyF; rw [natF_nat]; cases s.early n <;> rfl, ← cntN_put (f := s.early) (v := bb) hn] at this
    exact this
  · simp only [updN] at hb
    by_cases e : i = n
    · rw [if_pos e] at hb
      injection hb with hb; subst hb
      simp only [if_pos e]
      rw [e]
      exact hl.step hst (by simpa using hT.e1 n)
    · rw [if_neg e] at hb
      simp only [if_neg e]
      exact (hs i b hb).step hst (by simpa using hT.e1 i)
  · simp only [updN] at hi
    split at hi
    · next e => rw [e]; exact hn
    · exact h.early.lt i hi
/-- An early message is struck. -/
theorem ChIs.delearly (h : ChIs w o T b s k blk) (hT : T.Ok) {adr : Nat → Option Addr} {cap : Nat → Nat} (hs : ∀ n b, s.early n = some b → Row w o (T.ε n) 5 1 (adr n) b.length (cap n) (byts b)) {n : Nat} (hn : n < s.next + 64)
    (hm : MapV w' k.me (if (earlyF adr cap s.early n).isSome then cntN s.early (s.next + 64) - 1 else cntN s.early (s.next + 64)) (fun i => if i = (n : Int) then none else earlyF adr cap s.early i)) (hg : w.grownBy w' (some k.me)) :
    ChIs w' o T b { s with early := updN s.early n none } k blk ∧ Step [T.τ] w o w' o := by
  obtain ⟨adr0, cap0, q1, -⟩ := h.early.map
  have hst := step_map h.early.om hg
  refine ⟨⟨h.cb.grown hg (by simpa using Ne.symm (q1.ne_blk h.cb)), h.ob, h.e.step hst (by simpa using hT.te), h.out.onmap q1 h.early.om hg h.d1 hT.s1, ⟨⟨adr, cap, ?_, fun i b hb => ?_⟩, h.early.om, fun i hi => ?_⟩, h.pack.onmap h.early.om hg (Ne.symm h.d3) hT.s1, h.d1, h.d2, h.d3⟩, hst⟩
  · have := hm.congr (earlyF_del adr cap s.early n)
    rw [show (earlyF adr cap s.early n).isSome = (s.early n).isSome by unfold earlyF; rw [natF_nat]; cases s.early n <;> rfl, ← cntN_del (f := s.early) hn] at this
    exact this
  · simp only [updN] at hb
    split at hb
    · cases hb
    · exact (hs i b hb).step hst (by simpa using hT.e1 i)
  · simp only [updN] at hi
    split at hi
    · exact absurd rfl hi
    · exact h.early.lt i hi
/-- 'c.next++'. -/
theorem ChIs.setnext (h : ChIs w o T b s k blk) (hT : T.Ok) : ChIs (w.setCell ⟨b, 2, none⟩ (.int .i64 ((s.next : Int) + 1))) o T b { s with next := s.next + 1 } k blk ∧ Step [T.τ] w o (w.setCell ⟨b, 2, none⟩ (.int .i64 ((s.next : Int) + 1))) o := by
  have hst : Step [T.τ] w o (w.setCell ⟨b, 2, none⟩ (.int .i64 ((s.next : Int) + 1))) o := step_cell h.ob _
  have he := h.early.setb (i := 2) h.cb h.ob hT.e1 (.int .i64 ((s.next : Int) + 1))
  refine ⟨⟨h.cb.set_ 2 _, h.ob, h.e.step hst (by simpa using hT.te), h.out.setb h.cb (by decide) h.ob hT.s1 _, ⟨?_, he.om, fun i hi => by have := he.lt i hi; show i < s.next + 1 + 64; omega⟩, h.pack.setb h.cb h.ob hT.s1 _, h.d1, h.d2, h.d3⟩, hst⟩
  obtain ⟨adr, cap, q1, q2⟩ := he.map
  exact ⟨adr, cap, by rw [show cntN s.early (s.next + 1 + 64) = cntN s.early (s.next + 64) from cntN_ext he.lt (by omega)]; exact q1, q2⟩
end
theorem accept_190 (s : EndS) (d : Int) : (accept s d).2 ≠ 190 := by
  have h1 : (191 : Int) ≠ 190 := by decide
  have h2 : (192 : Int) ≠ 190 := by decide
  have h3 : (0 : Int) ≠ 190 := by decide
  unfold accept
  split
  · exact h1
  · split
    · exact h2
    · split
      · split
        · exact h2
        · exact h3
      · exact h3
theorem recvP_190 {s : EndS} {xs : List UInt8} (h : (recvP s xs).2.2.2 = 190) : recvP s xs = (s, [], [], 190) := by
  unfold recvP at h ⊢
  split
  · rfl
  · rename_i f nu ak mk body hp
    rw [hp] at h
    simp only at h ⊢
    split
    · rfl
    · rename_i h1
      rw [if_neg h1] at h
      split
      · rfl
      · rename_i h2
        rw [if_neg h2] at h
        exfalso
        split at h
        · exact accept_190 _ _ h
        · cases h
theorem ackR_mem (ack : Int) (mask : Nat) : ∀ (l : List Int) (r : Int × Bool), r ∈ ackR ack mask l → r.1 ∈ l
  | [], r, h => by cases h
  | n :: l, r, h => by
    unfold ackR at h
    split at h
    · rcases List.mem_cons.1 h with h | h
      · rw [h]; exact List.mem_cons_self
      · exact List.mem_cons_of_mem _ (ackR_mem ack mask l r h)
    · split at h
      · rcases List.mem_cons.1 h with h | h
        · rw [h]; exact List.mem_cons_self
        · exact List.mem_cons_of_mem _ (ackR_mem ack mask l r h)
      · exact List.mem_cons_of_mem _ (ackR_mem ack mask l r h)
theorem recvP_reps {s : EndS} {xs : List UInt8} : ∀ r ∈ (recvP s xs).2.2.1, r.1 ∈ s.pend := by
  intro r hr
  unfold recvP at hr
  split at hr
  · cases hr
  · simp only at hr
    split at hr
    · cases hr
    · split at hr
      · cases hr
      · split at hr
        · simp only at hr
          split at hr
          · exact ackR_mem _ _ _ r hr
          · cases hr
        · simp only at hr
          split at hr
          · exact ackR_mem _ _ _ r hr
          · cases hr
theorem recvP_own {s : EndS} {xs : List UInt8} : (recvP s xs).1.own = s.own := by
  have ha : ∀ (s : EndS) (d : Int), (accept s d).1.own = s.own := by
    intro s d; unfold accept
    split
    · rfl
    · split
      · rfl
      · split
        · split <;> rfl
        · rfl
  unfold recvP
  split
  · rfl
  · simp only
    split
    · rfl
    · split
      · rfl
      · split
        · simp only; rw [ha]; split <;> rfl
        · simp only; split <;> rfl
end Go.Proofs.Ythjjipcbpmdfnaa
