/-
  A Channel in memory while its maps and messages are written.
-/
import Derived.Test.YthjjipcbpmdfnaaChD
namespace Go.Proofs.Ythjjipcbpmdfnaa
open Go.RowKit

section
variable {w w' : World} {o : Own} {T : ChT} {b : Nat} {s : ChS} {k : ChB} {blk : Nat → Nat}
theorem step_cell {τ g i : Nat} (h : o g = τ) (u : Value) : Step [τ] w o (w.setCell ⟨g, i, none⟩ u) o := (Step.refl _ _ _).setCell (.inr (by simp [h])) u
theorem outF_put (out : Nat → Option OutM) (n : Nat) (x : OutM) (id : Int) : outF blk (updN out n (some x)) id = if id = (n : Int) then some (.pointer (some ⟨blk n, 0, none⟩)) else outF blk out id := by
  unfold outF natF updN
  by_cases h0 : id < 0
  · rw [if_pos h0, if_neg (by omega), if_pos h0]
  · rw [if_neg h0, if_neg h0]
    by_cases h1 : id = (n : Int)
    · subst h1; simp
    · simp only []
      rw [if_neg (by omega), if_neg h1]
theorem outF_del (out : Nat → Option OutM) (n : Nat) (id : Int) : outF blk (updN out n none) id = if id = (n : Int) then none else outF blk out id := by
  unfold outF natF updN
  by_cases h0 : id < 0
  · rw [if_pos h0, if_neg (by omega), if_pos h0]
  · rw [if_neg h0, if_neg h0]
    by_cases h1 : id = (n : Int)
    · subst h1; simp
    · simp only []
      rw [if_neg (by omega), if_neg h1]
theorem outF_same (out : Nat → Option OutM) (n : Nat) (x x' : OutM) (hx : out n = some x) (id : Int) : outF blk (updN out n (some x')) id = outF blk out id := by
  rw [outF_put]
  split
  · rename_i h; subst h; unfold outF; rw [natF_nat, hx]; rfl
  · rfl
theorem cntN_same {out : Nat → Option OutM} {n N : Nat} {x x' : OutM} (hx : out n = some x) : cntN (updN out n (some x')) N = cntN out N :=
  cntN_congr fun i _ => by
    unfold updN
    by_cases h : i = n
    · subst h; rw [if_pos rfl, hx]; rfl
    · rw [if_neg h]

/-- A message's cell is written. -/
theorem ChIs.setmsg (h : ChIs w o T b s k blk) (hT : T.Ok) {n : Nat} {x x' : OutM} (hx : s.out n = some x) (i : Nat) (u : Value) (hb : x'.b = x.b)
    (hc : ∀ A c, (#[.slice A x.b.length c, .int .i64 x.packet, .int .i64 x.tick] : Array Value).setIfInBounds i u = #[.slice A x'.b.length c, .int .i64 x'.packet, .int .i64 x'.tick]) :
    ChIs (w.setCell ⟨blk n, i, none⟩ u) o T b { s with out := updN s.out n (some x') } k blk ∧ Step [T.τ] w o (w.setCell ⟨blk n, i, none⟩ u) o := by
  obtain ⟨A, c, hB, ho, hS⟩ := h.out.msg n x hx
  have hst : Step [T.τ] w o (w.setCell ⟨blk n, i, none⟩ u) o := step_cell ho u
  refine ⟨⟨h.cb.far (Blk.ne_ h.cb hB (by decide)) u, h.ob, h.e.step hst (by simpa using hT.te), ⟨?_, h.out.om, ?_, ?_, ?_⟩, h.early.setb hB ho hT.e1 u, h.pack.setb hB ho hT.s1 u, h.d1, h.d2, h.d3⟩, hst⟩
  · rw [show cntN (updN s.out n (some x')) s.sent = cntN s.out s.sent from cntN_same hx]
    exact (h.out.map.far (h.out.map.ne_blk hB) u).congr (outF_same s.out n x x' hx)
  · intro m y hy
    simp only [updN] at hy
    by_cases hm : m = n
    · subst hm
      rw [if_pos rfl] at hy
      injection hy with hy
      subst hy
      exact ⟨A, c, by rw [← hc A c]; exact hB.set_ i u, ho, by rw [hb]; exact hS.step hst (by simpa using hT.s1)⟩
    · rw [if_neg hm] at hy
      obtain ⟨A2, c2, r1, r2, r3⟩ := h.out.msg m y hy
      exact ⟨A2, c2, r1.far (fun e => hm (h.out.inj m n (by rw [hy]; simp) (by rw [hx]; simp) e)) u, r2, r3.step hst (by simpa using hT.s1)⟩
  · intro i j hi hj
    refine h.out.inj i j ?_ ?_
    · simp only [updN] at hi; split at hi
      · next e => rw [e, hx]; simp
      · exact hi
    · simp only [updN] at hj; split at hj
      · next e => rw [e, hx]; simp
      · exact hj
  · intro m hm
    simp only [updN] at hm; split at hm
    · next e => rw [e]; exact h.out.lt n (by rw [hx]; simp)
    · exact h.out.lt m hm

/-- What a write into the block of one map leaves. -/
theorem step_map {τ m : Nat} (h : o m = τ) (hg : w.grownBy w' (some m)) : Step [τ] w o w' o := Step.of_only hg (by simp [h])
theorem OutAt.onmap {τ σ m m' sent : Nat} {out : Nat → Option OutM} (h : OutAt w o τ σ m sent blk out) {cnt : Nat} {f : Int → Option Value} (hm : MapV w m' cnt f) (om : o m' = τ) (hg : w.grownBy w' (some m')) (hne : m ≠ m') (hσ : σ ≠ τ) : OutAt w' o τ σ m sent blk out :=
  ⟨h.map.grown hg (by simpa using hne), h.om, fun n x hx => by
    obtain ⟨A, c, q1, q2, q3⟩ := h.msg n x hx
    exact ⟨A, c, q1.grown hg (by simpa using Ne.symm (hm.ne_blk q1)), q2, q3.step (step_map om hg) (by simpa using hσ)⟩, h.inj, h.lt⟩
theorem EarlyAt.onmap {τ m m' N : Nat} {ε : Nat → Nat} {early : Nat → Option (List UInt8)} (h : EarlyAt w o τ ε m N early) (om : o m' = τ) (hg : w.grownBy w' (some m')) (hne : m ≠ m') (hε : ∀ n, ε n ≠ τ) : EarlyAt w' o τ ε m N early := by
  obtain ⟨⟨adr, cap, q1, q2⟩, q3, q4⟩ := h
  exact ⟨⟨adr, cap, q1.grown hg (by simpa using hne), fun n x hx => (q2 n x hx).step (step_map om hg) (by simpa using hε n)⟩, q3, q4⟩
theorem PackAt.onmap {τ σ m m' : Nat} {K : Int} {packets : Int → Option (List Nat)} (h : PackAt w o τ σ m K packets) (om : o m' = τ) (hg : w.grownBy w' (some m')) (hne : m ≠ m') (hσ : σ ≠ τ) : PackAt w' o τ σ m K packets := by
  obtain ⟨⟨adr, cap, cnt, q1, q2, q4⟩, q3⟩ := h
  exact ⟨⟨adr, cap, cnt, q1.grown hg (by simpa using hne), q2, fun i l hl => (q4 i l hl).step (step_map om hg) (by simpa using hσ)⟩, q3⟩

/-- A message is struck from the map. -/
theorem ChIs.delmsg (h : ChIs w o T b s k blk) (hT : T.Ok) {n : Nat} {x : OutM} (hx : s.out n = some x) (hm : MapV w' k.mo (if (outF blk s.out n).isSome then cntN s.out s.sent - 1 else cntN s.out s.sent) (fun i => if i = (n : Int) then none else outF blk s.out i)) (hg : w.grownBy w' (some k.mo)) :
    ChIs w' o T b { s with out := updN s.out n none } k blk ∧ Step [T.τ] w o w' o := by
  have hst := step_map h.out.om hg
  refine ⟨⟨h.cb.grown hg (by simpa using Ne.symm (h.out.map.ne_blk h.cb)), h.ob, h.e.step hst (by simpa using hT.te), ⟨?_, h.out.om, ?_, ?_, ?_⟩, h.early.onmap h.out.om hg (Ne.symm h.d1) hT.e1, h.pack.onmap h.out.om hg (Ne.symm h.d2) hT.s1, h.d1, h.d2, h.d3⟩, hst⟩
  · have hn : n < s.sent := h.out.lt n (by rw [hx]; simp)
    have := hm.congr (g := outF blk (updN s.out n none)) (outF_del s.out n)
    rw [show (outF blk s.out n).isSome = (s.out n).isSome by unfold outF; rw [natF_nat, hx]; rfl, ← cntN_del (f := s.out) hn] at this
    exact this
  · intro m y hy
    simp only [updN] at hy
    split at hy
    · cases hy
    · obtain ⟨A2, c2, r1, r2, r3⟩ := h.out.msg m y hy
      exact ⟨A2, c2, r1.grown hg (by simpa using Ne.symm (h.out.map.ne_blk r1)), r2, r3.step hst (by simpa using hT.s1)⟩
  · intro i j hi hj
    refine h.out.inj i j ?_ ?_
    · simp only [updN] at hi; split at hi
      · exact absurd rfl hi
      · exact hi
    · simp only [updN] at hj; split at hj
      · exact absurd rfl hj
      · exact hj
  · intro m hm
    simp only [updN] at hm; split at hm
    · exact absurd rfl hm
    · exact h.out.lt m hm

/-- A packet is struck from the map. -/
theorem ChIs.delpack (h : ChIs w o T b s k blk) (hT : T.Ok) {adr : Int → Option Addr} {cap : Int → Nat} {cnt : Nat} (n : Int) (hc : (cnt : Int) ≤ s.e.next - s.e.own) (hs : ∀ i l, s.packets i = some l → Sl w o T.σ 1 (adr i) l.length (cap i) (nats l))
    (hm : MapV w' k.mp (if (packF adr cap s.packets n).isSome then cnt - 1 else cnt) (fun i => if i = n then none else packF adr cap s.packets i)) (hg : w.grownBy w' (some k.mp)) :
    ChIs w' o T b { s with packets := updI s.packets n none } k blk ∧ Step [T.τ] w o w' o := by
  obtain ⟨adr0, cap0, cnt0, q1, -, -⟩ := h.pack.map
  have hst := step_map h.pack.om hg
  refine ⟨⟨h.cb.grown hg (by simpa using Ne.symm (q1.ne_blk h.cb)), h.ob, h.e.step hst (by simpa using hT.te), h.out.onmap q1 h.pack.om hg h.d2 hT.s1, h.early.onmap h.pack.om hg h.d3 hT.e1, ⟨⟨adr, cap, _, hm.congr fun i => ?_, ?_, fun i l hl => ?_⟩, h.pack.om⟩, h.d1, h.d2, h.d3⟩, hst⟩
  · unfold packF updI
    show Option.map _ (if i = n then none else s.packets i) = _
    by_cases e : i = n
    · rw [if_pos e, if_pos e]; rfl
    · rw [if_neg e, if_neg e]
  · refine Int.le_trans (Int.ofNat_le.2 ?_) hc
    split
    · exact Nat.sub_le _ _
    · exact Nat.le_refl _
  · simp only [updI] at hl
    split at hl
    · cases hl
    · exact (hs i l hl).step hst (by simpa using hT.s1)
/-- A packet is entered into the map. -/
theorem ChIs.putpack (h : ChIs w o T b s k blk) (hT : T.Ok) {adr : Int → Option Addr} {cap : Int → Nat} {cnt : Nat} (num : Int) (l : List Nat) {LA : Option Addr} {ln lc : Nat} (hln : ln = l.length) (hc : (cnt : Int) + 1 ≤ s.e.next - s.e.own) (hs : ∀ i l, s.packets i = some l → Sl w o T.σ 1 (adr i) l.length (cap i) (nats l))
    (hl : Sl w o T.σ 1 LA ln lc (nats l)) (hm : MapV w' k.mp (if (packF adr cap s.packets num).isSome then cnt else cnt + 1) (fun i => if i = num then some (.slice LA ln lc) else packF adr cap s.packets i)) (hg : w.grownBy w' (some k.mp)) :
    ChIs w' o T b { s with packets := updI s.packets num (some l) } k blk ∧ Step [T.τ] w o w' o := by
  obtain ⟨adr0, cap0, cnt0, q1, -, -⟩ := h.pack.map
  have hst := step_map h.pack.om hg
  subst hln
  refine ⟨⟨h.cb.grown hg (by simpa using Ne.symm (q1.ne_blk h.cb)), h.ob, h.e.step hst (by simpa using hT.te), h.out.onmap q1 h.pack.om hg h.d2 hT.s1, h.early.onmap h.pack.om hg h.d3 hT.e1, ⟨⟨fun i => if i = num then LA else adr i, fun i => if i = num then lc else cap i, _, hm.congr fun i => ?_, ?_, fun i l' hl' => ?_⟩, h.pack.om⟩, h.d1, h.d2, h.d3⟩, hst⟩
  · unfold packF updI
    show Option.map _ (if i = num then some l else s.packets i) = _
    by_cases e : i = num
    · simp [e]
    · simp only [if_neg e]
  · split
    · show (cnt : Int) ≤ s.e.next - s.e.own; omega
    · show ((cnt + 1 : Nat) : Int) ≤ s.e.next - s.e.own; omega
  · simp only [updI] at hl'
    split at hl'
    · next e => injection hl' with hl'; subst hl'; simp only [if_pos e]; exact hl.step hst (by simpa using hT.s1)
    · next e => simp only [if_neg e]; exact (hs i l' hl').step hst (by simpa using hT.s1)
end
end Go.Proofs.Ythjjipcbpmdfnaa
