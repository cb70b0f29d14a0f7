/-
  THE PROTOCOL'S INVARIANT, in the plain model of a link.
-/
import Derived.Test.YtpmbfgpfpdenbaaLinkA
namespace Go.Proofs.Ytpmbfgpfpdenbaa

structure ASide where
  e : AEnd
  made : List APkt
  bodies : List Nat
  reports : List Nat

def noteL (l : List Nat) (rs : List (Nat × Bool)) : List Nat := rs.foldl (fun l r => l.set r.1 1) l
def ASide.note (X : ASide) (rs : List (Nat × Bool)) : ASide := { X with reports := noteL X.reports rs }
def ASide.grow (X : ASide) (xs : List UInt8) : ASide := { e := X.e.make, made := X.made ++ [⟨some (X.e.n, xs), X.e.note⟩], bodies := X.bodies ++ [0], reports := X.reports ++ [0] }
def ASide.make (X : ASide) (xs : List UInt8) : ASide := (X.grow xs).note X.e.lost
def ASide.only (X : ASide) : ASide := if 0 < X.e.heard then { X with made := X.made ++ [⟨none, X.e.note⟩] } else X
/-- The side that takes p. -/
def ASide.take (X : ASide) (p : APkt) : ASide := ({ X with e := (recvA X.e p).1 } : ASide).note (recvA X.e p).2.2.1
/-- The side that has made p. -/
def ASide.given (Y : ASide) (a : AEnd) (p : APkt) : ASide :=
  match p.body with
  | some (k, _) => if (recvA a p).2.2.2 = 0 then { Y with bodies := Y.bodies.set k 1 } else Y
  | none => Y

structure PktOk (X Y : ASide) (p : APkt) : Prop where
  any : p.body ≠ none ∨ p.ack ≠ none
  body : ∀ k xs, p.body = some (k, xs) → k < X.bodies.length ∧ 2 ≤ xs.length ∧ xs.length ≤ 22 ∧ xs.take 2 = [UInt8.ofNat (k / 256), UInt8.ofNat k]
  ack : ∀ m mk, p.ack = some (m, mk) → m < Y.bodies.length ∧ mk < 4294967296 ∧ (∀ i, mk.testBit i = true → i + 1 ≤ m) ∧ ∀ k, namedA m mk k = true → Y.bodies.getD k 0 = 1

structure LinkInv (X Y : ASide) : Prop where
  n : X.e.n = X.bodies.length
  nr : X.reports.length = X.bodies.length
  heard : X.e.heard ≤ Y.bodies.length
  mask : X.e.mask < 4294967296
  maskb : ∀ i, X.e.mask.testBit i = true → i + 2 ≤ X.e.heard
  hi : ∀ k, X.e.heard ≤ k → Y.bodies.getD k 0 = 0
  top : ∀ k, k + 1 = X.e.heard → Y.bodies.getD k 0 = 1
  mid : ∀ k, k + 1 < X.e.heard → X.e.heard ≤ k + 33 → Y.bodies.getD k 0 = if X.e.mask.testBit (X.e.heard - 2 - k) then 1 else 0
  le : ∀ k, Y.bodies.getD k 0 ≤ 1
  sorted : X.e.pend.Pairwise (· < ·)
  pmem : ∀ k ∈ X.e.pend, k < X.bodies.length ∧ X.reports.getD k 0 = 0
  plen : X.e.pend.length ≤ 256
  rle : ∀ k, X.reports.getD k 0 ≤ 1
  pkts : ∀ p ∈ X.made, PktOk X Y p

/-- Reports that may be entered into the ledger. -/
structure NoteOk (X : ASide) (rs : List (Nat × Bool)) : Prop where
  sorted : (rs.map Prod.fst).Pairwise (· < ·)
  mem : ∀ r ∈ rs, r.1 < X.reports.length ∧ X.reports.getD r.1 0 = 0 ∧ (r.2 = true → X.bodies.getD r.1 0 = 1)

theorem getD_snoc (l : List Nat) (k : Nat) : (l ++ [0]).getD k 0 = l.getD k 0 := by
  simp only [List.getD_eq_getElem?_getD, List.getElem?_append]
  split
  · rfl
  · rename_i h
    rw [List.getElem?_eq_none (l := l) (by omega)]
    by_cases h2 : k - l.length = 0
    · rw [h2]; rfl
    · rw [List.getElem?_eq_none (by simp; omega)]

theorem getD_set (l : List Nat) (k j v : Nat) (hk : k < l.length) : (l.set k v).getD j 0 = if j = k then v else l.getD j 0 := by
  simp only [List.getD_eq_getElem?_getD, List.getElem?_set]
  by_cases h : k = j
  · subst h; simp [hk]
  · rw [if_neg h, if_neg (fun e => h e.symm)]

theorem noteL_len (rs : List (Nat × Bool)) (l : List Nat) : (noteL l rs).length = l.length := by
  induction rs generalizing l with
  | nil => rfl
  | cons r rs ih => simp only [noteL, List.foldl_cons] at ih ⊢; rw [ih]; simp

theorem noteL_getD (rs : List (Nat × Bool)) (l : List Nat) (h : ∀ r ∈ rs, r.1 < l.length) (j : Nat) : (noteL l rs).getD j 0 = if j ∈ rs.map Prod.fst then 1 else l.getD j 0 := by
  induction rs generalizing l with
  | nil => simp [noteL]
  | cons r rs ih =>
    have h1 : r.1 < l.length := h r List.mem_cons_self
    have := ih (l.set r.1 1) (fun x hx => by rw [List.length_set]; exact h x (List.mem_cons_of_mem _ hx))
    simp only [noteL, List.foldl_cons, List.map_cons, List.mem_cons] at this ⊢
    rw [this, getD_set _ _ _ _ h1]
    by_cases h2 : j ∈ rs.map Prod.fst
    · simp [h2]
    · by_cases h3 : j = r.1
      · simp [h3]
      · simp [h2, h3]

theorem ackLA_eq (m mk : Nat) (l : List Nat) : ackLA m mk l = l.filter fun k => !(namedA m mk k) && !(decide (k + 32 < m)) := by
  induction l with
  | nil => rfl
  | cons k l ih =>
    simp only [ackLA, List.filter_cons, ih]
    by_cases h1 : namedA m mk k = true <;> by_cases h2 : k + 32 < m <;> simp [h1, h2]
theorem ackRA_eq (m mk : Nat) (l : List Nat) : ackRA m mk l = (l.filter fun k => namedA m mk k || decide (k + 32 < m)).map fun k => (k, namedA m mk k) := by
  induction l with
  | nil => rfl
  | cons k l ih =>
    simp only [ackRA, List.filter_cons, ih]
    by_cases h1 : namedA m mk k = true <;> by_cases h2 : k + 32 < m <;> simp [h1, h2]
theorem ackRA_fst (m mk : Nat) (l : List Nat) : (ackRA m mk l).map Prod.fst = l.filter fun k => namedA m mk k || decide (k + 32 < m) := by
  rw [ackRA_eq, List.map_map]
  simp [Function.comp_def]

theorem make_pend (X : ASide) (Y : ASide) (h : LinkInv X Y) : (X.e.pend ++ [X.e.n]).Pairwise (· < ·) := by
  rw [List.pairwise_append]
  refine ⟨h.sorted, List.pairwise_singleton _ _, fun a ha b hb => ?_⟩
  rw [List.mem_singleton.1 hb, h.n]; exact (h.pmem a ha).1

theorem lost_mem {X Y : ASide} (h : LinkInv X Y) {r : Nat × Bool} (hr : r ∈ X.e.lost) : r.1 < X.bodies.length + 1 ∧ X.reports.getD r.1 0 = 0 ∧ r.2 = false ∧ r.1 ∈ X.e.pend ++ [X.e.n] := by
  unfold AEnd.lost at hr
  split at hr
  · cases hr
  · rename_i hl
    cases hp : X.e.pend with
    | nil => rw [hp] at hl; simp at hl
    | cons a l =>
      rw [hp] at hr
      simp at hr
      subst hr
      have := h.pmem a (by rw [hp]; exact List.mem_cons_self)
      exact ⟨by show a < _; omega, this.2, rfl, by simp⟩

theorem make_noteOk {X Y : ASide} (h : LinkInv X Y) (xs : List UInt8) : NoteOk (X.grow xs) X.e.lost := by
  refine ⟨?_, fun r hr => ?_⟩
  · unfold AEnd.lost; split <;> simp
  · have := lost_mem h hr
    have e1 := h.nr
    refine ⟨by simp [ASide.grow]; omega, by simp only [ASide.grow, getD_snoc]; exact this.2.1, fun h1 => by rw [this.2.2.1] at h1; cases h1⟩

theorem note_bits {X Y : ASide} (h : LinkInv X Y) {k : Nat} (h0 : 0 < X.e.heard) (hk : namedA (X.e.heard - 1) X.e.mask k = true) : Y.bodies.getD k 0 = 1 := by
  unfold namedA at hk
  simp only [Bool.or_eq_true, beq_iff_eq, Bool.and_eq_true, decide_eq_true_eq] at hk
  rcases hk with hk | ⟨⟨h1, h2⟩, h3⟩
  · exact h.top k (by omega)
  · rw [h.mid k (by omega) (by omega), if_pos (by rw [show X.e.heard - 2 - k = X.e.heard - 1 - 1 - k by omega]; exact h3)]

theorem note_ok {X Y : ASide} (h : LinkInv X Y) {m mk : Nat} (hn : X.e.note = some (m, mk)) : m < Y.bodies.length ∧ mk < 4294967296 ∧ (∀ i, mk.testBit i = true → i + 1 ≤ m) ∧ ∀ k, namedA m mk k = true → Y.bodies.getD k 0 = 1 := by
  unfold AEnd.note at hn
  split at hn
  · rename_i h0
    simp only [Option.some.injEq, Prod.mk.injEq] at hn
    obtain ⟨rfl, rfl⟩ := hn
    refine ⟨by have := h.heard; omega, h.mask, fun i hi => by have := h.maskb i hi; omega, fun k hk => note_bits h h0 hk⟩
  · cases hn

/-- A body's mark. -/
def MarkOk (k : Nat) (xs : List UInt8) : Prop := 2 ≤ xs.length ∧ xs.length ≤ 22 ∧ xs.take 2 = [UInt8.ofNat (k / 256), UInt8.ofNat k]

theorem make_inv {X Y : ASide} (h : LinkInv X Y) (h' : LinkInv Y X) {xs : List UInt8} (hx : MarkOk X.e.n xs) : LinkInv (X.make xs) Y ∧ LinkInv Y (X.make xs) := by
  have hb : (X.make xs).bodies = X.bodies ++ [0] := rfl
  have hg : ∀ k, (X.make xs).bodies.getD k 0 = X.bodies.getD k 0 := fun k => by rw [hb, getD_snoc]
  have hl : (X.make xs).bodies.length = X.bodies.length + 1 := by rw [hb]; simp
  have hnk := make_noteOk h xs
  have hrl : (X.make xs).reports.length = X.bodies.length + 1 := by
    show (noteL (X.reports ++ [0]) X.e.lost).length = _
    rw [noteL_len]; simp [h.nr]
  have hrg : ∀ j, (X.make xs).reports.getD j 0 = if j ∈ X.e.lost.map Prod.fst then 1 else X.reports.getD j 0 := fun j => by
    show (noteL (X.grow xs).reports X.e.lost).getD j 0 = _
    rw [noteL_getD _ _ (fun r hr => (hnk.mem r hr).1), show (X.grow xs).reports = X.reports ++ [0] from rfl, getD_snoc]
  have hpw := make_pend X Y h
  constructor
  · refine ⟨by rw [hl, ← h.n]; rfl, by rw [hrl, hl], h.heard, h.mask, h.maskb, h.hi, h.top, h.mid, h.le, ?_, ?_, ?_, ?_, ?_⟩
    · show (AEnd.make X.e).pend.Pairwise (· < ·)
      unfold AEnd.make
      simp only
      split
      · exact hpw
      · exact hpw.sublist (List.tail_sublist _)
    · intro k hk
      rw [hl, hrg]
      have hk' : k ∈ (AEnd.make X.e).pend := hk
      unfold AEnd.make at hk'
      simp only at hk'
      have hin : k ∈ X.e.pend ++ [X.e.n] := by
        split at hk'
        · exact hk'
        · exact List.mem_of_mem_tail hk'
      have hnot : k ∉ X.e.lost.map Prod.fst := by
        unfold AEnd.lost
        split at hk'
        · rename_i hlt; rw [if_pos hlt]; simp
        · rename_i hlt
          rw [if_neg hlt]
          cases hp : X.e.pend ++ [X.e.n] with
          | nil => rw [hp] at hin; cases hin
          | cons a l =>
            rw [hp] at hk' hpw
            simp only [List.tail_cons] at hk'
            have := (List.pairwise_cons.1 hpw).1 k hk'
            simp; omega
      rw [if_neg hnot]
      rcases List.mem_append.1 hin with h1 | h1
      · have := h.pmem k h1; exact ⟨by omega, this.2⟩
      · rw [List.mem_singleton.1 h1, h.n]
        refine ⟨by omega, ?_⟩
        rw [List.getD_eq_getElem?_getD, List.getElem?_eq_none (by rw [h.nr]; exact Nat.le_refl _)]; rfl
    · show (AEnd.make X.e).pend.length ≤ 256
      have := h.plen
      unfold AEnd.make; simp only
      split <;> simp <;> omega
    · intro k; rw [hrg]; have := h.rle k; split <;> omega
    · intro p hp
      have hp' : p ∈ X.made ++ [⟨some (X.e.n, xs), X.e.note⟩] := hp
      rcases List.mem_append.1 hp' with h1 | h1
      · have q := h.pkts p h1
        exact ⟨q.any, fun k ys hy => by have := q.body k ys hy; rw [hl]; exact ⟨by omega, this.2⟩, q.ack⟩
      · rw [List.mem_singleton.1 h1]
        refine ⟨.inl (by simp), fun k ys hy => ?_, fun m mk hm => note_ok h hm⟩
        simp only [Option.some.injEq, Prod.mk.injEq] at hy
        obtain ⟨rfl, rfl⟩ := hy
        rw [hl]
        exact ⟨by rw [h.n]; omega, hx⟩
  · refine ⟨h'.n, h'.nr, by rw [hl]; have := h'.heard; omega, h'.mask, h'.maskb, fun k hk => by rw [hg]; exact h'.hi k hk, fun k hk => by rw [hg]; exact h'.top k hk, fun k h1 h2 => by rw [hg]; exact h'.mid k h1 h2, fun k => by rw [hg]; exact h'.le k, h'.sorted, h'.pmem, h'.plen, h'.rle, ?_⟩
    intro p hp
    have q := h'.pkts p hp
    exact ⟨q.any, q.body, fun m mk hm => by have := q.ack m mk hm; rw [hl]; exact ⟨by omega, this.2.1, this.2.2.1, fun k hk => by rw [hg]; exact this.2.2.2 k hk⟩⟩

theorem only_inv {X Y : ASide} (h : LinkInv X Y) (h' : LinkInv Y X) : LinkInv X.only Y ∧ LinkInv Y X.only := by
  unfold ASide.only
  split
  · rename_i h0
    refine ⟨⟨h.n, h.nr, h.heard, h.mask, h.maskb, h.hi, h.top, h.mid, h.le, h.sorted, h.pmem, h.plen, h.rle, ?_⟩, ⟨h'.n, h'.nr, h'.heard, h'.mask, h'.maskb, h'.hi, h'.top, h'.mid, h'.le, h'.sorted, h'.pmem, h'.plen, h'.rle, fun p hp => by have q := h'.pkts p hp; exact ⟨q.any, q.body, q.ack⟩⟩⟩
    intro p hp
    rcases List.mem_append.1 hp with h1 | h1
    · have q := h.pkts p h1; exact ⟨q.any, q.body, q.ack⟩
    · rw [List.mem_singleton.1 h1]
      refine ⟨.inr (by simp [AEnd.note, h0]), fun k ys hy => by simp at hy, fun m mk hm => note_ok h hm⟩
  · exact ⟨h, h'⟩
end Go.Proofs.Ytpmbfgpfpdenbaa
