/-
  Joined: ChLB, ChLC, ChLD, ChLE, ChLF, ChLG.
-/
import Derived.Test.YthjjipcbpmdfnaaLinkA
import Derived.Test.YthjjipcbpmdfnaaChNQ

/- THE PROTOCOL'S INVARIANT, in the plain model of a link. -/
namespace Go.Proofs.Ythjjipcbpmdfnaa

structure ASide where
  e : AEnd
  made : List APkt
  bodies : List Nat
  reports : List Nat

def noteL (l : List Nat) (rs : List (Nat × Bool)) : List Nat := rs.foldl (fun l r => l.set r.1 1) l
def ASide.note (X : ASide) (rs : List (Nat × Bool)) : ASide := { X with reports := noteL X.reports rs }
def ASide.grow (X : ASide) (xs : List UInt8) : ASide := { e := X.e.make, made := X.made ++ [⟨some (X.e.n, xs), X.e.note⟩], bodies := X.bodies ++ [0], reports := X.reports ++ [0] }
def ASide.make (X : ASide) (xs : List UInt8) : ASide := (X.grow xs).note X.e.lost
def ASide.only (X : ASide) : ASide := if 0 < X.e.heard then { X with made := X.made ++ [⟨none, X.e.note⟩] } else X
/-- The side that takes p. -/
def ASide.take (X : ASide) (p : APkt) : ASide := ({ X with e := (recvA X.e p).1 } : ASide).note (recvA X.e p).2.2.1
/-- The side that has made p. -/
def ASide.given (Y : ASide) (a : AEnd) (p : APkt) : ASide :=
  match p.body with
  | some (k, _) => if (recvA a p).2.2.2 = 0 then { Y with bodies := Y.bodies.set k 1 } else Y
  | none => Y

structure PktOk (X Y : ASide) (p : APkt) : Prop where
  any : p.body ≠ none ∨ p.ack ≠ none
  body : ∀ k xs, p.body = some (k, xs) → k < X.bodies.length ∧ 1 ≤ xs.length ∧ xs.length ≤ 1191
  ack : ∀ m mk, p.ack = some (m, mk) → m < Y.bodies.length ∧ mk < 4294967296 ∧ (∀ i, mk.testBit i = true → i + 1 ≤ m) ∧ ∀ k, namedA m mk k = true → Y.bodies.getD k 0 = 1

structure LinkInv (X Y : ASide) : Prop where
  n : X.e.n = X.bodies.length
  nr : X.reports.length = X.bodies.length
  heard : X.e.heard ≤ Y.bodies.length
  mask : X.e.mask < 4294967296
  maskb : ∀ i, X.e.mask.testBit i = true → i + 2 ≤ X.e.heard
  hi : ∀ k, X.e.heard ≤ k → Y.bodies.getD k 0 = 0
  top : ∀ k, k + 1 = X.e.heard → Y.bodies.getD k 0 = 1
  mid : ∀ k, k + 1 < X.e.heard → X.e.heard ≤ k + 33 → Y.bodies.getD k 0 = if X.e.mask.testBit (X.e.heard - 2 - k) then 1 else 0
  le : ∀ k, Y.bodies.getD k 0 ≤ 1
  sorted : X.e.pend.Pairwise (· < ·)
  pmem : ∀ k ∈ X.e.pend, k < X.bodies.length ∧ X.reports.getD k 0 = 0
  plen : X.e.pend.length ≤ 256
  rle : ∀ k, X.reports.getD k 0 ≤ 1
  pkts : ∀ p ∈ X.made, PktOk X Y p

/-- Reports that may be entered into the ledger. -/
structure NoteOk (X : ASide) (rs : List (Nat × Bool)) : Prop where
  sorted : (rs.map Prod.fst).Pairwise (· < ·)
  mem : ∀ r ∈ rs, r.1 < X.reports.length ∧ X.reports.getD r.1 0 = 0 ∧ (r.2 = true → X.bodies.getD r.1 0 = 1)

theorem getD_snoc (l : List Nat) (k : Nat) : (l ++ [0]).getD k 0 = l.getD k 0 := by
  simp only [List.getD_eq_getElem?_getD, List.getElem?_append]
  split
  · rfl
  · rename_i h
    rw [List.getElem?_eq_none (l := l) (by omega)]
    by_cases h2 : k - l.length = 0
    · rw [h2]; rfl
    · rw [List.getElem?_eq_none (by simp; omega)]

theorem getD_set (l : List Nat) (k j v : Nat) (hk : k < l.length) : (l.set k v).getD j 0 = if j = k then v else l.getD j 0 := by
  simp only [List.getD_eq_getElem?_getD, List.getElem?_set]
  by_cases h : k = j
  · subst h; simp [hk]
  · rw [if_neg h, if_neg (fun e => h e.symm)]

theorem noteL_len (rs : List (Nat × Bool)) (l : List Nat) : (noteL l rs).length = l.length := by
  induction rs generalizing l with
  | nil => rfl
  | cons r rs ih => simp only [noteL, List.foldl_cons] at ih ⊢; rw [ih]; simp

theorem noteL_getD (rs : List (Nat × Bool)) (l : List Nat) (h : ∀ r ∈ rs, r.1 < l.length) (j : Nat) : (noteL l rs).getD j 0 = if j ∈ rs.map Prod.fst then 1 else l.getD j 0 := by
  induction rs generalizing l with
  | nil => simp [noteL]
  | cons r rs ih =>
    have h1 : r.1 < l.length := h r List.mem_cons_self
    have := ih (l.set r.1 1) (fun x hx => by rw [List.length_set]; exact h x (List.mem_cons_of_mem _ hx))
    simp only [noteL, List.foldl_cons, List.map_cons, List.mem_cons] at this ⊢
    rw [this, getD_set _ _ _ _ h1]
    by_cases h2 : j ∈ rs.map Prod.fst
    · simp [h2]
    · by_cases h3 : j = r.1
      · simp [h3]
      · simp [h2, h3]

theorem ackLA_eq (m mk : Nat) (l : List Nat) : ackLA m mk l = l.filter fun k => !(namedA m mk k) && !(decide (k + 32 < m)) := by
  induction l with
  | nil => rfl
  | cons k l ih =>
    simp only [ackLA, List.filter_cons, ih]
    by_cases h1 : namedA m mk k = true <;> by_cases h2 : k + 32 < m <;> simp [h1, h2]
theorem ackRA_eq (m mk : Nat) (l : List Nat) : ackRA m mk l = (l.filter fun k => namedA m mk k || decide (k + 32 < m)).map fun k => (k, namedA m mk k) := by
  induction l with
  | nil => rfl
  | cons k l ih =>
    simp only [ackRA, List.filter_cons, ih]
    by_cases h1 : namedA m mk k = true <;> by_cases h2 : k + 32 < m <;> simp [h1, h2]
theorem ackRA_fst (m mk : Nat) (l : List Nat) : (ackRA m mk l).map Prod.fst = l.filter fun k => namedA m mk k || decide (k + 32 < m) := by
  rw [ackRA_eq, List.map_map]
  simp [Function.comp_def]

theorem make_pend (X : ASide) (Y : ASide) (h : LinkInv X Y) : (X.e.pend ++ [X.e.n]).Pairwise (· < ·) := by
  rw [List.pairwise_append]
  refine ⟨h.sorted, List.pairwise_singleton _ _, fun a ha b hb => ?_⟩
  rw [List.mem_singleton.1 hb, h.n]; exact (h.pmem a ha).1

theorem lost_mem {X Y : ASide} (h : LinkInv X Y) {r : Nat × Bool} (hr : r ∈ X.e.lost) : r.1 < X.bodies.length + 1 ∧ X.reports.getD r.1 0 = 0 ∧ r.2 = false ∧ r.1 ∈ X.e.pend ++ [X.e.n] := by
  unfold AEnd.lost at hr
  split at hr
  · cases hr
  · rename_i hl
    cases hp : X.e.pend with
    | nil => rw [hp] at hl; simp at hl
    | cons a l =>
      rw [hp] at hr
      simp at hr
      subst hr
      have := h.pmem a (by rw [hp]; exact List.mem_cons_self)
      exact ⟨by show a < _; omega, this.2, rfl, by simp⟩

theorem make_noteOk {X Y : ASide} (h : LinkInv X Y) (xs : List UInt8) : NoteOk (X.grow xs) X.e.lost := by
  refine ⟨?_, fun r hr => ?_⟩
  · unfold AEnd.lost; split <;> simp
  · have := lost_mem h hr
    have e1 := h.nr
    refine ⟨by simp [ASide.grow]; omega, by simp only [ASide.grow, getD_snoc]; exact this.2.1, fun h1 => by rw [this.2.2.1] at h1; cases h1⟩

theorem note_bits {X Y : ASide} (h : LinkInv X Y) {k : Nat} (h0 : 0 < X.e.heard) (hk : namedA (X.e.heard - 1) X.e.mask k = true) : Y.bodies.getD k 0 = 1 := by
  unfold namedA at hk
  simp only [Bool.or_eq_true, beq_iff_eq, Bool.and_eq_true, decide_eq_true_eq] at hk
  rcases hk with hk | ⟨⟨h1, h2⟩, h3⟩
  · exact h.top k (by omega)
  · rw [h.mid k (by omega) (by omega), if_pos (by rw [show X.e.heard - 2 - k = X.e.heard - 1 - 1 - k by omega]; exact h3)]

theorem note_ok {X Y : ASide} (h : LinkInv X Y) {m mk : Nat} (hn : X.e.note = some (m, mk)) : m < Y.bodies.length ∧ mk < 4294967296 ∧ (∀ i, mk.testBit i = true → i + 1 ≤ m) ∧ ∀ k, namedA m mk k = true → Y.bodies.getD k 0 = 1 := by
  unfold AEnd.note at hn
  split at hn
  · rename_i h0
    simp only [Option.some.injEq, Prod.mk.injEq] at hn
    obtain ⟨rfl, rfl⟩ := hn
    refine ⟨by have := h.heard; omega, h.mask, fun i hi => by have := h.maskb i hi; omega, fun k hk => note_bits h h0 hk⟩
  · cases hn

/-- A body's mark. -/
def MarkOk (xs : List UInt8) : Prop := 1 ≤ xs.length ∧ xs.length ≤ 1191

theorem make_inv {X Y : ASide} (h : LinkInv X Y) (h' : LinkInv Y X) {xs : List UInt8} (hx : MarkOk xs) : LinkInv (X.make xs) Y ∧ LinkInv Y (X.make xs) := by
  have hb : (X.make xs).bodies = X.bodies ++ [0] := rfl
  have hg : ∀ k, (X.make xs).bodies.getD k 0 = X.bodies.getD k 0 := fun k => by rw [hb, getD_snoc]
  have hl : (X.make xs).bodies.length = X.bodies.length + 1 := by rw [hb]; simp
  have hnk := make_noteOk h xs
  have hrl : (X.make xs).reports.length = X.bodies.length + 1 := by
    show (noteL (X.reports ++ [0]) X.e.lost).length = _
    rw [noteL_len]; simp [h.nr]
  have hrg : ∀ j, (X.make xs).reports.getD j 0 = if j ∈ X.e.lost.map Prod.fst then 1 else X.reports.getD j 0 := fun j => by
    show (noteL (X.grow xs).reports X.e.lost).getD j 0 = _
    rw [noteL_getD _ _ (fun r hr => (hnk.mem r hr).1), show (X.grow xs).reports = X.reports ++ [0] from rfl, getD_snoc]
  have hpw := make_pend X Y h
  constructor
  · refine ⟨by rw [hl, ← h.n]; rfl, by rw [hrl, hl], h.heard, h.mask, h.maskb, h.hi, h.top, h.mid, h.le, ?_, ?_, ?_, ?_, ?_⟩
    · show (AEnd.make X.e).pend.Pairwise (· < ·)
      unfold AEnd.make
      simp only
      split
      · exact hpw
      · exact hpw.sublist (List.tail_sublist _)
    · intro k hk
      rw [hl, hrg]
      have hk' : k ∈ (AEnd.make X.e).pend := hk
      unfold AEnd.make at hk'
      simp only at hk'
      have hin : k ∈ X.e.pend ++ [X.e.n] := by
        split at hk'
        · exact hk'
        · exact List.mem_of_mem_tail hk'
      have hnot : k ∉ X.e.lost.map Prod.fst := by
        unfold AEnd.lost
        split at hk'
        · rename_i hlt; rw [if_pos hlt]; simp
        · rename_i hlt
          rw [if_neg hlt]
          cases hp : X.e.pend ++ [X.e.n] with
          | nil => rw [hp] at hin; cases hin
          | cons a l =>
            rw [hp] at hk' hpw
            simp only [List.tail_cons] at hk'
            have := (List.pairwise_cons.1 hpw).1 k hk'
            simp; omega
      rw [if_neg hnot]
      rcases List.mem_append.1 hin with h1 | h1
      · have := h.pmem k h1; exact ⟨by omega, this.2⟩
      · rw [List.mem_singleton.1 h1, h.n]
        refine ⟨by omega, ?_⟩
        rw [List.getD_eq_getElem?_getD, List.getElem?_eq_none (by rw [h.nr]; exact Nat.le_refl _)]; rfl
    · show (AEnd.make X.e).pend.length ≤ 256
      have := h.plen
      unfold AEnd.make; simp only
      split <;> simp <;> omega
    · intro k; rw [hrg]; have := h.rle k; split <;> omega
    · intro p hp
      have hp' : p ∈ X.made ++ [⟨some (X.e.n, xs), X.e.note⟩] := hp
      rcases List.mem_append.1 hp' with h1 | h1
      · have q := h.pkts p h1
        exact ⟨q.any, fun k ys hy => by have := q.body k ys hy; rw [hl]; exact ⟨by omega, this.2⟩, q.ack⟩
      · rw [List.mem_singleton.1 h1]
        refine ⟨.inl (by simp), fun k ys hy => ?_, fun m mk hm => note_ok h hm⟩
        simp only [Option.some.injEq, Prod.mk.injEq] at hy
        obtain ⟨rfl, rfl⟩ := hy
        rw [hl]
        exact ⟨by rw [h.n]; omega, hx⟩
  · refine ⟨h'.n, h'.nr, by rw [hl]; have := h'.heard; omega, h'.mask, h'.maskb, fun k hk => by rw [hg]; exact h'.hi k hk, fun k hk => by rw [hg]; exact h'.top k hk, fun k h1 h2 => by rw [hg]; exact h'.mid k h1 h2, fun k => by rw [hg]; exact h'.le k, h'.sorted, h'.pmem, h'.plen, h'.rle, ?_⟩
    intro p hp
    have q := h'.pkts p hp
    exact ⟨q.any, q.body, fun m mk hm => by have := q.ack m mk hm; rw [hl]; exact ⟨by omega, this.2.1, this.2.2.1, fun k hk => by rw [hg]; exact this.2.2.2 k hk⟩⟩

theorem only_inv {X Y : ASide} (h : LinkInv X Y) (h' : LinkInv Y X) : LinkInv X.only Y ∧ LinkInv Y X.only := by
  unfold ASide.only
  split
  · rename_i h0
    refine ⟨⟨h.n, h.nr, h.heard, h.mask, h.maskb, h.hi, h.top, h.mid, h.le, h.sorted, h.pmem, h.plen, h.rle, ?_⟩, ⟨h'.n, h'.nr, h'.heard, h'.mask, h'.maskb, h'.hi, h'.top, h'.mid, h'.le, h'.sorted, h'.pmem, h'.plen, h'.rle, fun p hp => by have q := h'.pkts p hp; exact ⟨q.any, q.body, q.ack⟩⟩⟩
    intro p hp
    rcases List.mem_append.1 hp with h1 | h1
    · have q := h.pkts p h1; exact ⟨q.any, q.body, q.ack⟩
    · rw [List.mem_singleton.1 h1]
      refine ⟨.inr (by simp [AEnd.note, h0]), fun k ys hy => by simp at hy, fun m mk hm => note_ok h hm⟩
  · exact ⟨h, h'⟩
end Go.Proofs.Ythjjipcbpmdfnaa

/- THE PROTOCOL'S INVARIANT: what a packet of the other side does. -/
namespace Go.Proofs.Ythjjipcbpmdfnaa

/-- What 'accept' does to the received ones: 'got k' counts how often k was returned. -/
structure Seen (heard mask : Nat) (got : Nat → Nat) : Prop where
  lt : mask < 4294967296
  maskb : ∀ i, mask.testBit i = true → i + 2 ≤ heard
  hi : ∀ k, heard ≤ k → got k = 0
  top : ∀ k, k + 1 = heard → got k = 1
  mid : ∀ k, k + 1 < heard → heard ≤ k + 33 → got k = if mask.testBit (heard - 2 - k) then 1 else 0
  le : ∀ k, got k ≤ 1

theorem LinkInv.seen {X Y : ASide} (h : LinkInv X Y) : Seen X.e.heard X.e.mask fun k => Y.bodies.getD k 0 := ⟨h.mask, h.maskb, h.hi, h.top, h.mid, h.le⟩

theorem bit_u32_lt {x i : Nat} (hx : x < 4294967296) (h : x.testBit i = true) : i < 32 := by
  rcases Nat.lt_or_ge i 32 with h1 | h1
  · exact h1
  · have : x < 2 ^ i := Nat.lt_of_lt_of_le hx (by have := Nat.pow_le_pow_right (n := 2) (by omega) h1; omega)
    rw [Nat.testBit_lt_two_pow this] at h; cases h

theorem new_bit (mask d i : Nat) (c : Bool) (hi : i < 32) (hd : 1 ≤ d) : (mask * 2 ^ min d 32 % 4294967296 ||| (if c = true then 2 ^ min (d - 1) 32 % 4294967296 else 0)).testBit i = ((decide (d ≤ i) && mask.testBit (i - d)) || (c && decide (i = d - 1))) := by
  rw [Nat.testBit_or, show (4294967296 : Nat) = 2 ^ 32 from rfl, Nat.testBit_mod_two_pow, Nat.testBit_mul_two_pow]
  simp only [hi, decide_true, Bool.true_and]
  congr 1
  · rcases Nat.lt_or_ge i d with h | h
    · have e1 : decide (d ≤ i) = false := by simp; omega
      have e2 : decide (min d 32 ≤ i) = false := by simp; omega
      rw [e1, e2]; rfl
    · rw [Nat.min_eq_left (by omega)]
  · cases c
    · simp
    · simp only [if_true, Bool.true_and, Nat.testBit_mod_two_pow, hi, decide_true, Nat.testBit_two_pow]
      rw [Bool.eq_iff_iff]; simp; omega

theorem accept_seen {a : AEnd} {got : Nat → Nat} (h : Seen a.heard a.mask got) (k : Nat) :
    ((acceptA a k).2 = 0 ∧ got k = 0 ∧ Seen (acceptA a k).1.heard (acceptA a k).1.mask (fun j => if j = k then 1 else got j) ∧ a.heard ≤ (acceptA a k).1.heard ∧ (acceptA a k).1.heard ≤ max a.heard (k + 1)) ∨
    (((acceptA a k).2 = 191 ∨ (acceptA a k).2 = 192) ∧ (acceptA a k).1 = a) := by
  unfold acceptA
  by_cases c1 : k + 33 < a.heard
  · rw [if_pos c1]; exact .inr ⟨.inl rfl, rfl⟩
  · rw [if_neg c1]
    by_cases c2 : k + 1 = a.heard
    · rw [if_pos c2]; exact .inr ⟨.inr rfl, rfl⟩
    · rw [if_neg c2]
      by_cases c3 : k + 1 < a.heard
      · rw [if_pos c3]
        by_cases c4 : a.mask.testBit (a.heard - 2 - k) = true
        · rw [if_pos c4]; exact .inr ⟨.inr rfl, rfl⟩
        · rw [if_neg c4]
          refine .inl ⟨rfl, by rw [h.mid k c3 (by omega), if_neg c4], ⟨?_, ?_, ?_, ?_, ?_, ?_⟩, Nat.le_refl _, by show a.heard ≤ _; omega⟩
          · have : a.mask ||| 2 ^ (a.heard - 2 - k) < 2 ^ 32 := Nat.or_lt_two_pow (by have := h.lt; omega) (Nat.pow_lt_pow_right (by omega) (by omega))
            show a.mask ||| 2 ^ (a.heard - 2 - k) < _
            omega
          · intro i hi
            have hi : (a.mask ||| 2 ^ (a.heard - 2 - k)).testBit i = true := hi
            simp only [Nat.testBit_or, Nat.testBit_two_pow, Bool.or_eq_true, decide_eq_true_eq] at hi
            show i + 2 ≤ a.heard
            rcases hi with hi | hi
            · exact h.maskb i hi
            · omega
          · intro j (hj : a.heard ≤ j); show (if j = k then 1 else got j) = 0; rw [if_neg (by omega)]; exact h.hi j hj
          · intro j (hj : j + 1 = a.heard); show (if j = k then 1 else got j) = 1; rw [if_neg (by omega)]; exact h.top j hj
          · intro j (hj : j + 1 < a.heard) (hj2 : a.heard ≤ j + 33)
            show (if j = k then 1 else got j) = if (a.mask ||| 2 ^ (a.heard - 2 - k)).testBit (a.heard - 2 - j) = true then 1 else 0
            rw [Nat.testBit_or, Nat.testBit_two_pow]
            by_cases e : j = k
            · subst e; simp
            · rw [if_neg e, h.mid j hj hj2, show decide (a.heard - 2 - k = a.heard - 2 - j) = false by simp; omega, Bool.or_false]
          · intro j; show (if j = k then 1 else got j) ≤ 1; have := h.le j; split <;> omega
      · rw [if_neg c3]
        refine .inl ⟨rfl, h.hi k (by omega), ⟨?_, ?_, ?_, ?_, ?_, ?_⟩, by show a.heard ≤ k + 1; omega, by show k + 1 ≤ _; omega⟩
        · have : a.mask * 2 ^ min (k + 1 - a.heard) 32 % 4294967296 ||| (if 0 < a.heard then 2 ^ min (k - a.heard) 32 % 4294967296 else 0) < 2 ^ 32 :=
            Nat.or_lt_two_pow (by omega) (by split <;> omega)
          exact this
        · intro i hi
          show i + 2 ≤ k + 1
          have hi' : (a.mask * 2 ^ min (k + 1 - a.heard) 32 % 4294967296 ||| (if 0 < a.heard then 2 ^ min (k - a.heard) 32 % 4294967296 else 0)).testBit i = true := hi
          have hlt : a.mask * 2 ^ min (k + 1 - a.heard) 32 % 4294967296 ||| (if 0 < a.heard then 2 ^ min (k - a.heard) 32 % 4294967296 else 0) < 4294967296 := by
            have : a.mask * 2 ^ min (k + 1 - a.heard) 32 % 4294967296 ||| (if 0 < a.heard then 2 ^ min (k - a.heard) 32 % 4294967296 else 0) < 2 ^ 32 :=
              Nat.or_lt_two_pow (by omega) (by split <;> omega)
            exact this
          have h32 := bit_u32_lt hlt hi'
          have := new_bit a.mask (k + 1 - a.heard) i (decide (0 < a.heard)) h32 (by omega)
          rw [show k + 1 - a.heard - 1 = k - a.heard by omega] at this
          simp only [decide_eq_true_eq] at this
          rw [this] at hi'
          simp only [Bool.or_eq_true, Bool.and_eq_true, decide_eq_true_eq] at hi'
          rcases hi' with ⟨h1, h2⟩ | ⟨h1, h2⟩
          · have := h.maskb _ h2; omega
          · omega
        · intro j (hj : k + 1 ≤ j); show (if j = k then 1 else got j) = 0; rw [if_neg (by omega)]; exact h.hi j (by omega)
        · intro j (hj : j + 1 = k + 1); show (if j = k then 1 else got j) = 1; rw [if_pos (by omega)]
        · intro j (hj : j + 1 < k + 1) (hj2 : k + 1 ≤ j + 33)
          show (if j = k then 1 else got j) = if (a.mask * 2 ^ min (k + 1 - a.heard) 32 % 4294967296 ||| (if 0 < a.heard then 2 ^ min (k - a.heard) 32 % 4294967296 else 0)).testBit (k + 1 - 2 - j) = true then 1 else 0
          rw [if_neg (by omega)]
          have := new_bit a.mask (k + 1 - a.heard) (k + 1 - 2 - j) (decide (0 < a.heard)) (by omega) (by omega)
          rw [show k + 1 - a.heard - 1 = k - a.heard by omega] at this
          simp only [decide_eq_true_eq] at this
          rw [this]
          by_cases q1 : a.heard ≤ j
          · rw [h.hi j q1, if_neg]
            simp only [Bool.or_eq_true, Bool.and_eq_true, decide_eq_true_eq]
            omega
          · by_cases q2 : j + 1 = a.heard
            · rw [h.top j q2, if_pos]
              simp only [Bool.or_eq_true, Bool.and_eq_true, decide_eq_true_eq]
              omega
            · rw [h.mid j (by omega) (by omega)]
              have e : k + 1 - 2 - j - (k + 1 - a.heard) = a.heard - 2 - j := by omega
              have e1 : decide (k + 1 - a.heard ≤ k + 1 - 2 - j) = true := by simp; omega
              have e2 : decide (k + 1 - 2 - j = k - a.heard) = false := by simp; omega
              rw [e, e1, e2]; simp
        · intro j; show (if j = k then 1 else got j) ≤ 1; have := h.le j; split <;> omega

theorem acceptA_n (a : AEnd) (k : Nat) : (acceptA a k).1.n = a.n := by unfold acceptA; (repeat' split) <;> rfl
theorem acceptA_pend (a : AEnd) (k : Nat) : (acceptA a k).1.pend = a.pend := by unfold acceptA; (repeat' split) <;> rfl

theorem inv_upd {X Y : ASide} (h : LinkInv X Y) (h' : LinkInv Y X) {e' : AEnd} {rs : List (Nat × Bool)} {B' : List Nat} (hn : e'.n = X.e.n) (hpend : List.Sublist e'.pend X.e.pend)
    (hrs : ∀ r ∈ rs, r.1 ∈ X.e.pend) (hdis : ∀ k ∈ e'.pend, k ∉ rs.map Prod.fst) (hB : B'.length = Y.bodies.length) (hmono : ∀ k, Y.bodies.getD k 0 = 1 → B'.getD k 0 = 1)
    (hseen : Seen e'.heard e'.mask fun k => B'.getD k 0) (hheard : e'.heard ≤ Y.bodies.length) :
    LinkInv (({ X with e := e' } : ASide).note rs) { Y with bodies := B' } ∧ LinkInv { Y with bodies := B' } (({ X with e := e' } : ASide).note rs) := by
  have hrl : ∀ r ∈ rs, r.1 < X.reports.length := fun r hr => by rw [h.nr]; exact (h.pmem _ (hrs r hr)).1
  have hrg := noteL_getD rs X.reports hrl
  constructor
  · refine ⟨hn.trans h.n, (noteL_len _ _).trans h.nr, by show e'.heard ≤ B'.length; rw [hB]; exact hheard, hseen.lt, hseen.maskb, hseen.hi, hseen.top, hseen.mid, hseen.le, h.sorted.sublist hpend, ?_, Nat.le_trans hpend.length_le h.plen, ?_, ?_⟩
    · intro k hk
      refine ⟨(h.pmem k (hpend.subset hk)).1, ?_⟩
      show (noteL X.reports rs).getD k 0 = 0
      rw [hrg, if_neg (hdis k hk)]
      exact (h.pmem k (hpend.subset hk)).2
    · intro k
      show (noteL X.reports rs).getD k 0 ≤ 1
      rw [hrg]; have := h.rle k; split <;> omega
    · intro p hp
      have q := h.pkts p hp
      refine ⟨q.any, q.body, fun m mk hm => ?_⟩
      have := q.ack m mk hm
      exact ⟨by show m < B'.length; rw [hB]; exact this.1, this.2.1, this.2.2.1, fun k hk => hmono k (this.2.2.2 k hk)⟩
  · refine ⟨by show Y.e.n = B'.length; rw [hB]; exact h'.n, by show Y.reports.length = B'.length; rw [hB]; exact h'.nr, h'.heard, h'.mask, h'.maskb, h'.hi, h'.top, h'.mid, h'.le, h'.sorted, ?_, h'.plen, h'.rle, ?_⟩
    · intro k hk
      exact ⟨by show k < B'.length; rw [hB]; exact (h'.pmem k hk).1, (h'.pmem k hk).2⟩
    · intro p hp
      have q := h'.pkts p hp
      exact ⟨q.any, fun k xs hx => by have := q.body k xs hx; exact ⟨by show k < B'.length; rw [hB]; exact this.1, this.2⟩, q.ack⟩

def pendA (ack : Option (Nat × Nat)) (l : List Nat) : List Nat := match ack with | some (m, mk) => ackLA m mk l | none => l
def repA (ack : Option (Nat × Nat)) (l : List Nat) : List (Nat × Bool) := match ack with | some (m, mk) => ackRA m mk l | none => []

theorem acceptA_with (a : AEnd) (l : List Nat) (k : Nat) : acceptA { a with pend := l } k = ({ (acceptA a k).1 with pend := l }, (acceptA a k).2) := by
  unfold acceptA; simp only; (repeat' split) <;> rfl

theorem recvA_eq (a : AEnd) (p : APkt) : recvA a p = match p.body with
    | some (k, xs) => ({ (acceptA a k).1 with pend := pendA p.ack a.pend }, if (acceptA a k).2 = 0 then xs else [], repA p.ack a.pend, (acceptA a k).2)
    | none => ({ a with pend := pendA p.ack a.pend }, [], repA p.ack a.pend, 0) := by
  obtain ⟨body, ack⟩ := p
  cases body with
  | none => cases ack <;> rfl
  | some q =>
    obtain ⟨k, xs⟩ := q
    cases ack with
    | none => simp only [recvA, pendA, repA]; rw [← acceptA_pend a k]
    | some r => obtain ⟨m, mk⟩ := r; simp only [recvA, pendA, repA, acceptA_with]

theorem pend_facts (ack : Option (Nat × Nat)) (l : List Nat) (hl : l.Pairwise (· < ·)) : List.Sublist (pendA ack l) l ∧ (∀ r ∈ repA ack l, r.1 ∈ l) ∧ (∀ k ∈ pendA ack l, k ∉ (repA ack l).map Prod.fst) ∧ ((repA ack l).map Prod.fst).Pairwise (· < ·) := by
  cases ack with
  | none => exact ⟨List.Sublist.refl _, fun r hr => (by cases hr), fun k _ hk => (by cases hk), List.Pairwise.nil⟩
  | some q =>
    obtain ⟨m, mk⟩ := q
    simp only [pendA, repA, ackRA_fst]
    rw [ackLA_eq]
    refine ⟨List.filter_sublist, fun r hr => ?_, fun k hk hk2 => ?_, hl.sublist List.filter_sublist⟩
    · have : r.1 ∈ (ackRA m mk l).map Prod.fst := List.mem_map_of_mem hr
      rw [ackRA_fst] at this
      exact (List.mem_filter.1 this).1
    · have h1 := (List.mem_filter.1 hk).2
      have h2 := (List.mem_filter.1 hk2).2
      simp at h1 h2
      rcases h2 with h2 | h2
      · rw [h1.1] at h2; cases h2
      · omega

theorem rep_acked {X Y : ASide} {p : APkt} (hp : PktOk Y X p) {l : List Nat} : ∀ r ∈ repA p.ack l, r.2 = true → X.bodies.getD r.1 0 = 1 := by
  intro r hr h2
  cases ha : p.ack with
  | none => rw [ha] at hr; cases hr
  | some q =>
    obtain ⟨m, mk⟩ := q
    rw [ha] at hr
    simp only [repA, ackRA_eq, List.mem_map] at hr
    obtain ⟨k, _, rfl⟩ := hr
    exact (hp.ack m mk ha).2.2.2 k h2

/-- What X makes of a packet p of Y. -/
theorem take_inv {X Y : ASide} (h : LinkInv X Y) (h' : LinkInv Y X) {p : APkt} (hp : PktOk Y X p) :
    LinkInv (X.take p) (Y.given X.e p) ∧ LinkInv (Y.given X.e p) (X.take p) ∧ NoteOk { X with e := (recvA X.e p).1 } (recvA X.e p).2.2.1 := by
  obtain ⟨f1, f2, f3, f4⟩ := pend_facts p.ack X.e.pend h.sorted
  have hr : (recvA X.e p).2.2.1 = repA p.ack X.e.pend := by rw [recvA_eq]; split <;> rfl
  have hnote : NoteOk { X with e := (recvA X.e p).1 } (recvA X.e p).2.2.1 := by
    rw [hr]
    refine ⟨f4, fun r hr => ?_⟩
    have := h.pmem _ (f2 r hr)
    exact ⟨by show r.1 < X.reports.length; rw [h.nr]; exact this.1, this.2, rep_acked hp r hr⟩
  rw [← and_assoc]
  refine ⟨?_, hnote⟩
  unfold ASide.take ASide.given
  rw [hr, recvA_eq]
  cases hb : p.body with
  | none => exact inv_upd h h' rfl f1 f2 f3 rfl (fun _ hk => hk) h.seen h.heard
  | some q =>
    obtain ⟨k, xs⟩ := q
    have hk := (hp.body k xs hb).1
    simp only
    rcases accept_seen h.seen k with ⟨c1, c2, c3, c4, c5⟩ | ⟨c1, c2⟩
    · rw [if_pos c1]
      refine inv_upd h h' (e' := { (acceptA X.e k).1 with pend := pendA p.ack X.e.pend }) (acceptA_n _ _) f1 f2 f3 (by simp) ?_ ?_ ?_
      · intro j hj; rw [getD_set _ _ _ _ hk]; split <;> simp_all
      · have : (fun j => (Y.bodies.set k 1).getD j 0) = fun j => if j = k then 1 else Y.bodies.getD j 0 := by
          funext j; rw [getD_set _ _ _ _ hk]
        rw [this]; exact c3
      · show (acceptA X.e k).1.heard ≤ _
        have := h.heard; omega
    · have c0 : ¬ (acceptA X.e k).2 = 0 := by rcases c1 with c1 | c1 <;> rw [c1] <;> decide
      rw [if_neg c0, c2]
      exact inv_upd h h' (e' := { X.e with pend := pendA p.ack X.e.pend }) rfl f1 f2 f3 rfl (fun _ hk => hk) h.seen h.heard
end Go.Proofs.Ythjjipcbpmdfnaa

/- PLAIN LAWS of the model of a Channel: what reports strike, what a body holds, what is delivered; no program in sight. -/
namespace Go.Proofs.Ythjjipcbpmdfnaa

/-! ### what reports strike -/
theorem dec1_gone {r : Int × Bool} {out : Nat → Option OutM} {m n : Nat} (h : dec1 r out m n = none) : out n = none ∨ (r.2 = true ∧ n = m) := by
  cases hx : out m with
  | none =>
    simp only [dec1, hx] at h
    exact .inl h
  | some x =>
    simp only [dec1, hx] at h
    split at h
    · rename_i hr
      simp only [updN] at h
      split at h
      · rename_i e; exact .inr ⟨hr, e⟩
      · exact .inl h
    · split at h
      · simp only [updN] at h
        split at h
        · cases h
        · exact .inl h
      · exact .inl h
theorem fold1_gone {r : Int × Bool} : ∀ {l : List Nat} {out : Nat → Option OutM} {n : Nat}, l.foldl (dec1 r) out n = none → out n = none ∨ (r.2 = true ∧ n ∈ l)
  | [], _, _, h => .inl h
  | m :: l, out, n, h => by
    rcases fold1_gone (l := l) h with h | h
    · rcases dec1_gone h with h | h
      · exact .inl h
      · exact .inr ⟨h.1, by rw [h.2]; exact List.mem_cons_self⟩
    · exact .inr ⟨h.1, List.mem_cons_of_mem _ h.2⟩
theorem foldR_gone : ∀ {rs : List (Int × Bool)} {s : ChS} {n : Nat}, (rs.foldl decR s).out n = none → s.out n = none ∨ ∃ i l, (i, true) ∈ rs ∧ s.packets i = some l ∧ n ∈ l
  | [], _, _, h => .inl h
  | r :: rs, s, n, h => by
    rcases foldR_gone (rs := rs) h with h | ⟨i, l, h1, h2, h3⟩
    · rcases fold1_gone (r := r) (l := (s.packets r.1).getD []) h with h | ⟨h1, h2⟩
      · exact .inl h
      · cases hp : s.packets r.1 with
        | none => rw [hp] at h2; cases h2
        | some l => rw [hp] at h2; exact .inr ⟨r.1, l, by rw [← h1]; exact List.mem_cons_self, hp, h2⟩
    · refine .inr ⟨i, l, List.mem_cons_of_mem _ h1, ?_, h3⟩
      simp only [decR, updI] at h2
      split at h2
      · cases h2
      · exact h2
theorem decS_gone {s : ChS} {rs : List (Int × Bool)} {n : Nat} (h : (decS s rs).out n = none) : s.out n = none ∨ ∃ i l, (i, true) ∈ rs ∧ s.packets i = some l ∧ n ∈ l :=
  foldR_gone (rs := rs) (s := s) h

/-! ### bodies -/
/-- The body that holds these messages of M. -/
def encM (M : List (List UInt8)) : List Nat → List UInt8
  | [] => []
  | n :: l => hdrB n (M.getD n []).length ++ (M.getD n [] ++ encM M l)
theorem encM_append (M : List (List UInt8)) (l k : List Nat) : encM M (l ++ k) = encM M l ++ encM M k := by
  induction l with
  | nil => rfl
  | cons n l ih => simp [encM, ih, List.append_assoc]
theorem getD_of {M : List (List UInt8)} {n : Nat} {b : List UInt8} (h : M[n]? = some b) : M.getD n [] = b := by simp [h]
theorem encM_congr {M M' : List (List UInt8)} : ∀ {l : List Nat}, (∀ n ∈ l, M.getD n [] = M'.getD n []) → encM M l = encM M' l
  | [], _ => rfl
  | n :: l, h => by
    simp only [encM]
    rw [h n List.mem_cons_self, encM_congr fun k hk => h k (List.mem_cons_of_mem _ hk)]
theorem bodyG_enc {s : ChS} {M : List (List UInt8)} (h : ∀ n m, s.out n = some m → M[n]? = some m.b) : ∀ k, (bodyG s k).1 = encM M (bodyG s k).2
  | 0 => rfl
  | k + 1 => by
    have ih := bodyG_enc h k
    rw [show bodyG s (k + 1) = bodyStep s (s.first + k) (bodyG s k) from rfl]
    unfold bodyStep
    split
    · exact ih
    · rename_i m hm
      split
      · rw [encM_append, ← ih]
        simp only [encM, getD_of (h _ _ hm), List.append_nil, List.append_assoc]
      · exact ih
theorem bodyS_enc {s : ChS} {M : List (List UInt8)} (h : ∀ n m, s.out n = some m → M[n]? = some m.b) : (bodyS s).1 = encM M (bodyS s).2 := bodyG_enc h _
theorem beNum_hdr (n : Nat) (a b : UInt8) (xs : List UInt8) : beNum ((UInt8.ofNat (n / 256) :: UInt8.ofNat n :: a :: b :: xs).take 2) = n % 65536 := by
  simp [beNum]; omega
theorem beNum_hdr2 (n : Nat) (a b : UInt8) (xs : List UInt8) (hn : n ≤ 1024) : beNum (((a :: b :: UInt8.ofNat (n / 256) :: UInt8.ofNat n :: xs).drop 2).take 2) = n := by
  simp [beNum]; omega
theorem near_small {next n : Nat} (h1 : next ≤ n + 30000) (h2 : n < next + 64) : near next ((n % 65536 : Nat) : Int) = n := by
  unfold near; omega
theorem parse_enc {next : Nat} {M : List (List UInt8)} (hM : ∀ b ∈ M, b.length ≤ 1024) : ∀ (l : List Nat), (∀ n ∈ l, n < M.length ∧ n < next + 64 ∧ next ≤ n + 30000) → parseP' next (encM M l) = some (l.map fun n => (n, M.getD n []))
  | [], _ => by unfold parseP'; simp [encM, parseC]
  | n :: l, h => by
    obtain ⟨h1, h2, h3⟩ := h n List.mem_cons_self
    have ih := parse_enc (next := next) hM l fun k hk => h k (List.mem_cons_of_mem _ hk)
    have hb : (M.getD n []).length ≤ 1024 := by
      rw [List.getD_eq_getElem?_getD, List.getElem?_eq_getElem h1]
      exact hM _ (List.getElem_mem h1)
    simp only [encM, List.map_cons]
    generalize M.getD n [] = B at hb ⊢
    have e1 : beNum ((hdrB n B.length ++ (B ++ encM M l)).take 2) = n % 65536 := beNum_hdr n _ _ _
    have e2 : beNum (((hdrB n B.length ++ (B ++ encM M l)).drop 2).take 2) = B.length := beNum_hdr2 _ _ _ _ hb
    have e3 : (hdrB n B.length ++ (B ++ encM M l)).length = 4 + B.length + (encM M l).length := by simp [hdrB]; omega
    have e4 := near_small h3 h2
    rw [parse_good (by omega) (by rw [e1, e2, e3, e4]; unfold badHead; omega), e1, e2, e4]
    have e5 : (hdrB n B.length ++ (B ++ encM M l)).drop (4 + B.length) = encM M l := by
      rw [← List.append_assoc]
      rw [show 4 + B.length = (hdrB n B.length ++ B).length by simp [hdrB]; omega]
      exact List.drop_left
    have e6 : ((hdrB n B.length ++ (B ++ encM M l)).drop 4).take B.length = B := by
      rw [show (hdrB n B.length ++ (B ++ encM M l)).drop 4 = B ++ encM M l from rfl]
      exact List.take_left
    rw [e5, e6, ih]
    simp
theorem encM_ne {M : List (List UInt8)} {l : List Nat} (h : l ≠ []) : encM M l ≠ [] := by
  cases l with
  | nil => exact absurd rfl h
  | cons n l => simp [encM, hdrB]

/-! ### what is kept and delivered -/
theorem keepS_some {next : Nat} : ∀ {l : List (Nat × List UInt8)} {early : Nat → Option (List UInt8)} {n : Nat} {x : List UInt8}, keepS next early l n = some x → early n = some x ∨ (n, x) ∈ l
  | [], _, _, _, h => .inl h
  | p :: l, early, n, x, h => by
    rcases keepS_some (l := l) h with h | h
    · unfold keep1 at h
      split at h
      · unfold updN at h
        split at h
        · rename_i e; injection h with h; exact .inr (by rw [e, ← h]; exact List.mem_cons_self)
        · exact .inl h
      · exact .inl h
    · exact .inr (List.mem_cons_of_mem _ h)
theorem keep1_mono {next : Nat} {early : Nat → Option (List UInt8)} {p : Nat × List UInt8} {n : Nat} (h : early n ≠ none) : keep1 next early p n ≠ none := by
  unfold keep1
  split
  · unfold updN
    split
    · simp
    · exact h
  · exact h
theorem keepS_mono {next : Nat} : ∀ {l : List (Nat × List UInt8)} {early : Nat → Option (List UInt8)} {n : Nat}, early n ≠ none → keepS next early l n ≠ none
  | [], _, _, h => h
  | _ :: l, _, _, h => keepS_mono (l := l) (keep1_mono h)
theorem keepS_has {next : Nat} : ∀ {l : List (Nat × List UInt8)} {early : Nat → Option (List UInt8)} {p : Nat × List UInt8}, p ∈ l → next ≤ p.1 → keepS next early l p.1 ≠ none
  | q :: l, _, _, h, hn => by
    rcases List.mem_cons.1 h with h | h
    · subst h
      refine keepS_mono (l := l) ?_
      unfold keep1
      split
      · simp [updN]
      · rename_i hc
        intro e; exact hc ⟨hn, e⟩
    · exact keepS_has (l := l) h hn
theorem dlv_get {early : Nat → Option (List UInt8)} : ∀ {k n i : Nat} {x : List UInt8}, (dlv early k n)[i]? = some x → early (n + i) = some x
  | 0, _, _, _, h => by simp [dlv] at h
  | k + 1, n, i, x, h => by
    unfold dlv at h
    split at h
    · simp at h
    · rename_i b hb
      cases i with
      | zero => simp at h; subst h; exact hb
      | succ i =>
        have := dlv_get (k := k) (n := n + 1) (i := i) (by simpa using h)
        rw [show n + (i + 1) = n + 1 + i by omega]; exact this
theorem dlv_end {early : Nat → Option (List UInt8)} : ∀ {k n : Nat}, (dlv early k n).length < k → early (n + (dlv early k n).length) = none
  | 0, _, h => by omega
  | k + 1, n, h => by
    cases hb : early n with
    | none =>
      have e : dlv early (k + 1) n = [] := by rw [dlv, hb]
      rw [e]; exact hb
    | some b =>
      have e : dlv early (k + 1) n = b :: dlv early k (n + 1) := by rw [dlv, hb]
      rw [e] at h ⊢
      simp only [List.length_cons] at h ⊢
      have := dlv_end (early := early) (k := k) (n := n + 1) (by omega)
      rw [show n + ((dlv early k (n + 1)).length + 1) = n + 1 + (dlv early k (n + 1)).length by omega]; exact this
theorem dlv_take {early : Nat → Option (List UInt8)} {M : List (List UInt8)} {k n : Nat} (h : ∀ i x, early i = some x → M[i]? = some x) : dlv early k n = (M.drop n).take (dlv early k n).length := by
  apply List.ext_getElem?
  intro i
  rw [List.getElem?_take, List.getElem?_drop]
  split
  · rename_i hi
    obtain ⟨x, hx⟩ : ∃ x, (dlv early k n)[i]? = some x := ⟨_, List.getElem?_eq_getElem hi⟩
    rw [hx, h _ _ (dlv_get hx)]
  · rename_i hi
    exact List.getElem?_eq_none (by omega)
theorem take_more {M : List (List UInt8)} (n k : Nat) : M.take n ++ (M.drop n).take k = M.take (n + k) := by
  rw [List.take_add]

/-! ### how many wait -/
theorem cntN_zero {α : Type} {f : Nat → Option α} : ∀ {N : Nat}, cntN f N = 0 → ∀ n, n < N → f n = none
  | 0, _, n, h => by omega
  | N + 1, h, n, hn => by
    rw [cntN_succ] at h
    rcases Nat.lt_or_ge n N with h1 | h1
    · exact cntN_zero (by omega) n h1
    · obtain rfl : n = N := by omega
      cases hf : f n with
      | none => rfl
      | some x => rw [hf] at h; simp at h
theorem wait_send {s : ChS} (h : s.Fit) {b : List UInt8} (hb : b.length ≤ 1024) (hw : waitS s < 256) : sendS s b = ({ s with out := updN s.out s.sent (some ⟨b, -1, 0⟩), sent := s.sent + 1 }, 0) ∧ waitS (sendS s b).1 = waitS s + 1 := by
  have e : sendS s b = ({ s with out := updN s.out s.sent (some ⟨b, -1, 0⟩), sent := s.sent + 1 }, 0) := by
    unfold sendS; rw [if_neg (by omega), if_neg (by omega)]
  refine ⟨e, ?_⟩
  rw [e]
  show cntN (updN s.out s.sent _) (s.sent + 1) = cntN s.out s.sent + 1
  have hn : s.out s.sent = none := by
    rcases Classical.em (s.out s.sent = none) with h1 | h1
    · exact h1
    · have := h.lo _ h1; omega
  rw [cntN_put (Nat.lt_succ_self _), hn]
  simp only [Option.isSome_none, Bool.false_eq_true, if_false]
  rw [cntN_succ, hn]; rfl
end Go.Proofs.Ythjjipcbpmdfnaa

/- THE PLAIN LAW of a connection of two Channels: its invariant, and what Send does to it; no program in sight. -/
namespace Go.Proofs.Ythjjipcbpmdfnaa

def movR (own : Int) (rs : List (Nat × Bool)) : List (Int × Bool) := rs.map fun r => (own + (r.1 : Int), r.2)
theorem conc_make (own other : Int) (a : AEnd) : makeS (a.conc own other) = a.make.conc own other := by
  unfold makeS AEnd.make AEnd.conc
  simp only [List.length_map]
  by_cases h : a.pend.length < 256
  · simp only [if_pos h]
    simp
    omega
  · simp only [if_neg h]
    simp
    omega
theorem conc_lost (own other : Int) (a : AEnd) : lostP (a.conc own other) = movR own a.lost := by
  unfold lostP AEnd.lost AEnd.conc movR
  simp only [List.length_map]
  by_cases h : a.pend.length < 256
  · simp only [if_pos h]; rfl
  · simp only [if_neg h]
    cases a.pend with
    | nil => simp
    | cons x l => simp
theorem conc_pack (own other : Int) (a : AEnd) (xs : List UInt8) : packP (makeS (a.conc own other)) (a.conc own other).next xs = APkt.enc own other ⟨some (a.n, xs), a.note⟩ := by
  rw [conc_make]
  unfold packP AEnd.note APkt.enc
  by_cases h : 0 < a.heard
  · rw [if_pos (show (a.make.conc own other).other ≤ (a.make.conc own other).newest by simp only [AEnd.conc, AEnd.make]; omega), if_pos h]
    simp only [AEnd.conc, AEnd.make]
    rw [show other + (a.heard : Int) - 1 = other + ((a.heard - 1 : Nat) : Int) by omega]
  · rw [if_neg (show ¬ (a.make.conc own other).other ≤ (a.make.conc own other).newest by simp only [AEnd.conc, AEnd.make]; omega), if_neg h]
    simp only [AEnd.conc]
theorem conc_ack (own other : Int) (a : AEnd) (h : 0 < a.heard) : ackP (a.conc own other) = APkt.enc own other ⟨none, a.note⟩ := by
  unfold ackP AEnd.note APkt.enc
  rw [if_pos h]
  simp only [AEnd.conc]
  rw [show other + (a.heard : Int) - 1 = other + ((a.heard - 1 : Nat) : Int) by omega]

/-- A side of a connection: its Channel, what it sent, what was delivered to it, the packets that it returned. -/
structure CSide where
  c : ChS
  sent : List (List UInt8)
  got : List (List UInt8)
  made : List (List UInt8)

/-- The way from a to b. X, Y: the Ends' ghosts; L: the messages of each packet. -/
structure Dir (own other : Int) (N : Nat) (X Y : ASide) (L : List (List Nat)) (a b : CSide) : Prop where
  ce : a.c.e = X.e.conc own other
  fit : a.c.Fit
  made : a.made = X.made.map (APkt.enc own other)
  ns : a.c.sent = a.sent.length
  nN : a.sent.length ≤ N
  eN : X.e.n ≤ N
  len : ∀ x ∈ a.sent, x.length ≤ 1024
  out : ∀ n m, a.c.out n = some m → a.sent[n]? = some m.b
  nl : X.e.n = L.length
  pk : ∀ i l, a.c.packets i = some l → ∃ k : Nat, i = own + k ∧ L[k]? = some l
  bod : ∀ p ∈ X.made, ∀ k xs, p.body = some (k, xs) → ∃ l, L[k]? = some l ∧ xs = encM a.sent l
  ls : ∀ (k : Nat) l, L[k]? = some l → l ≠ [] ∧ ∀ n ∈ l, n < a.sent.length ∧ n < b.c.next + 64
  inb : ∀ (k : Nat) l, L[k]? = some l → X.bodies.getD k 0 = 1 → ∀ n ∈ l, n < b.c.next ∨ b.c.early n ≠ none
  done : ∀ n, n < a.sent.length → a.c.out n = none → n < b.c.next ∨ b.c.early n ≠ none
  nle : b.c.next ≤ a.sent.length
  got : b.got = a.sent.take b.c.next
  early : ∀ n x, b.c.early n = some x → a.sent[n]? = some x
  gap : b.c.early b.c.next = none
  owes : a.c.owes = true → 0 < X.e.heard
  hot : a.c.first < a.c.sent → a.c.out a.c.first ≠ none

/-- What of the receiver a way speaks of. -/
theorem Dir.recv {own other : Int} {N : Nat} {X Y Y' : ASide} {L : List (List Nat)} {a b b' : CSide} (h : Dir own other N X Y L a b) (h1 : b'.c.next = b.c.next) (h2 : b'.c.early = b.c.early) (h3 : b'.got = b.got) : Dir own other N X Y' L a b' :=
  ⟨h.ce, h.fit, h.made, h.ns, h.nN, h.eN, h.len, h.out, h.nl, h.pk, h.bod, fun k l hk => by rw [h1]; exact h.ls k l hk, fun k l hk hb n hn => by rw [h1, h2]; exact h.inb k l hk hb n hn,
    fun n hn ho => by rw [h1, h2]; exact h.done n hn ho, by rw [h1]; exact h.nle, by rw [h1, h3]; exact h.got, fun n x hx => h.early n x (by rw [← h2]; exact hx), by rw [h1, h2]; exact h.gap, h.owes, h.hot⟩

/-- The first message that is not done is at most the next one to be delivered. -/
theorem Dir.first_le {own other : Int} {N : Nat} {X Y : ASide} {L : List (List Nat)} {a b : CSide} (h : Dir own other N X Y L a b) : a.c.first ≤ b.c.next := by
  rcases Nat.lt_or_ge b.c.next a.c.first with h1 | h1
  · exfalso
    have hs := h.fit.fs; have hn := h.ns
    rcases h.done b.c.next (by omega) (by
      rcases Classical.em (a.c.out b.c.next = none) with h2 | h2
      · exact h2
      · have := h.fit.lo _ h2; omega) with h2 | h2
    · omega
    · exact h2 h.gap
  · exact h1

/-- Nothing waits: everything was delivered. -/
theorem Dir.all {own other : Int} {N : Nat} {X Y : ASide} {L : List (List Nat)} {a b : CSide} (h : Dir own other N X Y L a b) (hw : waitS a.c = 0) : b.c.next = a.sent.length := by
  have hn := h.nle; have hs := h.ns
  rcases Nat.lt_or_ge b.c.next a.sent.length with h1 | h1
  · exfalso
    rcases h.done b.c.next h1 (cntN_zero hw _ (by omega)) with h2 | h2
    · omega
    · exact h2 h.gap
  · omega

theorem dir_new {own other : Int} (h0 : 0 ≤ own) (h1 : own ≤ 1099511627776) (h2 : 0 ≤ other) (h3 : other ≤ 1099511627776) (N : Nat) (b : CSide) (hb1 : b.c.next = 0) (hb2 : b.c.early = fun _ => none) (hb3 : b.got = []) : Dir own other N ⟨⟨0, 0, 0, []⟩, [], [], []⟩ ⟨⟨0, 0, 0, []⟩, [], [], []⟩ [] ⟨chNew own other, [], [], []⟩ b := by
  refine ⟨?_, chNew_fit h0 h1 h2 h3, rfl, rfl, Nat.zero_le _, Nat.zero_le _, by simp, fun n m h => (by cases h), rfl, fun i l h => (by cases h), fun p hp => (by cases hp), fun k l h => (by simp at h), fun k l h => (by simp at h), fun n hn => (by simp at hn), by rw [hb1]; exact Nat.zero_le _, by rw [hb1, hb3]; rfl, fun n x hx => (by rw [hb2] at hx; cases hx), by rw [hb2], fun h => (by cases h), fun h => absurd h (Nat.lt_irrefl _)⟩
  simp [chNew, AEnd.conc]
theorem inv_new : LinkInv ⟨⟨0, 0, 0, []⟩, [], [], []⟩ ⟨⟨0, 0, 0, []⟩, [], [], []⟩ :=
  ⟨rfl, rfl, Nat.le_refl _, (show 0 < 4294967296 by decide), by simp, by simp, fun k h => by simp at h, fun k h => by simp at h, by simp, List.Pairwise.nil, by simp, (show 0 ≤ 256 by decide), by simp, by simp⟩

theorem getD_snoc_lt {M : List (List UInt8)} {x : List UInt8} {n : Nat} (h : n < M.length) : (M ++ [x]).getD n [] = M.getD n [] := by
  simp [List.getD_eq_getElem?_getD, List.getElem?_append, h]

/-- 'Send'. -/
theorem dir_send {own other : Int} {N : Nat} {X Y : ASide} {L : List (List Nat)} {a b : CSide} (h : Dir own other N X Y L a b) {x : List UInt8} (hx : x.length ≤ 1024) (hw : waitS a.c < 256) (hN : a.sent.length + 1 ≤ N) (hN2 : N ≤ 100000) :
    Dir own other N X Y L { a with c := (sendS a.c x).1, sent := a.sent ++ [x] } b := by
  obtain ⟨e, -⟩ := wait_send h.fit hx hw
  have hf := sendS_fit h.fit x (by have := h.ns; omega)
  rw [e] at hf ⊢
  have hs := h.ns
  refine ⟨h.ce, hf, h.made, ?_, ?_, h.eN, ?_, ?_, h.nl, h.pk, ?_, ?_, h.inb, ?_, ?_, ?_, ?_, h.gap, h.owes, fun hlt => ?_⟩
  · show a.c.sent + 1 = (a.sent ++ [x]).length; simp; exact hs
  · show (a.sent ++ [x]).length ≤ N; simpa using hN
  · intro y hy
    rcases List.mem_append.1 hy with hy | hy
    · exact h.len y hy
    · rw [List.mem_singleton.1 hy]; exact hx
  · intro n m hm
    simp only [updN] at hm
    show (a.sent ++ [x])[n]? = some m.b
    split at hm
    · rename_i en
      injection hm with hm; subst hm
      rw [en, hs]; simp
    · have := h.out n m hm
      have hl := (List.getElem?_eq_some_iff.1 this).1
      rw [List.getElem?_append_left hl]; exact this
  · intro p hp k xs hb
    obtain ⟨l, h1, h2⟩ := h.bod p hp k xs hb
    refine ⟨l, h1, ?_⟩
    rw [h2]
    exact encM_congr fun n hn => (getD_snoc_lt ((h.ls k l h1).2 n hn).1).symm
  · intro k l hk
    refine ⟨(h.ls k l hk).1, fun n hn => ?_⟩
    have := (h.ls k l hk).2 n hn
    exact ⟨by show n < (a.sent ++ [x]).length; simp; omega, this.2⟩
  · intro n hn ho
    have hn' : n < a.sent.length + 1 := by simpa using hn
    simp only [updN] at ho
    split at ho
    · cases ho
    · exact h.done n (by omega) ho
  · show b.c.next ≤ (a.sent ++ [x]).length
    have := h.nle; simp; omega
  · rw [h.got]
    show _ = (a.sent ++ [x]).take b.c.next
    rw [List.take_append_of_le_length h.nle]
  · intro n y hy
    have := h.early n y hy
    have hl := (List.getElem?_eq_some_iff.1 this).1
    show (a.sent ++ [x])[n]? = some y
    rw [List.getElem?_append_left hl]; exact this
  · show updN a.c.out a.c.sent (some ⟨x, -1, 0⟩) a.c.first ≠ none
    have hlt' : a.c.first < a.c.sent + 1 := hlt
    unfold updN
    split
    · simp
    · exact h.hot (by omega)
end Go.Proofs.Ythjjipcbpmdfnaa

/- THE PLAIN LAW of a connection of two Channels: what Flush and Receive do to its invariant; no program in sight. -/
namespace Go.Proofs.Ythjjipcbpmdfnaa

/-- A side behind a Flush. -/
def CSide.fl (a : CSide) (t : Int) : CSide := { a with c := (flushS a.c t).1, made := if (flushS a.c t).2.1.length = 0 then a.made else a.made ++ [(flushS a.c t).2.1] }
/-- A side behind a Receive. -/
def CSide.tk (b : CSide) (xs : List UInt8) : CSide := { b with c := (recvS b.c xs).1, got := b.got ++ (recvS b.c xs).2.1 }

theorem enc_len (own other : Int) (k : Nat) (xs : List UInt8) (ack : Option (Nat × Nat)) (h : xs.length ≤ 1191) : 1 ≤ (APkt.enc own other ⟨some (k, xs), ack⟩).length ∧ (APkt.enc own other ⟨some (k, xs), ack⟩).length ≤ 1200 := by
  cases ack with
  | none => simp only [APkt.enc, List.length_append, bytesOf_len]; omega
  | some q => obtain ⟨m, mk⟩ := q; simp only [APkt.enc, List.length_append, bytesOf_len]; omega
theorem enc_len2 (own other : Int) (m mk : Nat) : (APkt.enc own other ⟨none, some (m, mk)⟩).length = 7 := by
  simp only [APkt.enc, List.length_append, bytesOf_len]
theorem lost_false {X : AEnd} : ∀ r ∈ X.lost, r.2 = false := by
  intro r hr
  unfold AEnd.lost at hr
  split at hr
  · cases hr
  · rw [List.mem_singleton.1 hr]

/-- The ghosts of a side behind a Flush. -/
def flX (X : ASide) (a : CSide) (t : Int) : ASide :=
  if 0 < (bodyS { a.c with tick := t }).2.length then X.make (bodyS { a.c with tick := t }).1 else if a.c.owes = true then { X with made := X.made ++ [⟨none, X.e.note⟩] } else X
def flL (L : List (List Nat)) (a : CSide) (t : Int) : List (List Nat) := if 0 < (bodyS { a.c with tick := t }).2.length then L ++ [(bodyS { a.c with tick := t }).2] else L

theorem dir_flush {own other : Int} {N : Nat} {X Y : ASide} {L K : List (List Nat)} {a b : CSide} (h : Dir own other N X Y L a b) (h' : Dir other own N Y X K b a) (hI : LinkInv X Y) (hI' : LinkInv Y X)
    {t : Int} (ht0 : a.c.tick ≤ t) (ht1 : t ≤ 9223372036854775807) (hN : X.e.n + 1 ≤ N) (hN2 : N ≤ 100000) (ho1 : own ≤ 1099511627776) :
    (flushS a.c t).2.2 = 0 ∧ (flushS a.c t).2.1.length ≤ 1200 ∧ (flushS a.c t).1.tick = t ∧
    ∃ X' L', X' = flX X a t ∧ L' = flL L a t ∧ LinkInv X' Y ∧ LinkInv Y X' ∧ X'.e.n ≤ X.e.n + 1 ∧ Dir own other N X' Y L' (a.fl t) b ∧ Dir other own N Y X' K b (a.fl t) := by
  have hen : a.c.e.next = own + (X.e.n : Int) := by rw [h.ce]; rfl
  have hkp := flushS_keep h.fit ht1 (by rw [hen]; omega)
  have hlt : ¬ t < a.c.tick := by omega
  obtain ⟨s1, hs1⟩ : ∃ s1 : ChS, s1 = { a.c with tick := t } := ⟨_, rfl⟩
  have q1 : s1.e = X.e.conc own other := by rw [hs1]; exact h.ce
  have q2 : s1.out = a.c.out := by rw [hs1]
  have q3 : s1.packets = a.c.packets := by rw [hs1]
  have q4 : s1.sent = a.c.sent := by rw [hs1]
  have q5 : s1.first = a.c.first := by rw [hs1]
  have q6 : s1.next = a.c.next := by rw [hs1]
  have q7 : s1.early = a.c.early := by rw [hs1]
  have q8 : s1.owes = a.c.owes := by rw [hs1]
  have q9 : s1.tick = t := by rw [hs1]
  have hns := h.ns
  unfold flX flL
  rw [← hs1, ← q8]
  rcases Nat.eq_zero_or_pos (bodyS s1).2.length with hz | hz
  · have e := flushS_none hlt hs1 hz
    by_cases ho : s1.owes = true
    · have hh : 0 < X.e.heard := h.owes (by rw [← q8]; exact ho)
      have hnw : s1.e.other ≤ s1.e.newest := by rw [q1]; simp only [AEnd.conc]; omega
      rw [if_pos ho, if_pos hnw] at e
      have hnote : X.e.note = some (X.e.heard - 1, X.e.mask) := by unfold AEnd.note; rw [if_pos hh]
      have hl7 : (flushS a.c t).2.1.length = 7 := by rw [e, q1, conc_ack own other X.e hh, hnote, enc_len2]
      have hx := only_inv hI hI'
      have hX : X.only = { X with made := X.made ++ [⟨none, X.e.note⟩] } := by unfold ASide.only; rw [if_pos hh]
      rw [hX] at hx
      have hfl : a.fl t = { a with c := { s1 with owes := false }, made := a.made ++ [ackP s1.e] } := by
        unfold CSide.fl; rw [hl7, if_neg (by decide), e]
      have hf := hkp.1
      rw [e] at hf
      refine ⟨by rw [e], by rw [hl7]; decide, by rw [e]; exact q9, { X with made := X.made ++ [⟨none, X.e.note⟩] }, L, by rw [if_neg (by omega), if_pos ho], by rw [if_neg (by omega)], hx.1, hx.2, Nat.le_succ _, ?_, ?_⟩
      · rw [hfl]
        refine ⟨q1, hf, ?_, q4.trans hns, h.nN, by show X.e.n ≤ N; omega, h.len, by rw [show ({ a with c := { s1 with owes := false }, made := a.made ++ [ackP s1.e] } : CSide).c.out = a.c.out from q2]; exact h.out, h.nl, by rw [show ({ a with c := { s1 with owes := false }, made := a.made ++ [ackP s1.e] } : CSide).c.packets = a.c.packets from q3]; exact h.pk, ?_, h.ls, h.inb, by rw [show ({ a with c := { s1 with owes := false }, made := a.made ++ [ackP s1.e] } : CSide).c.out = a.c.out from q2]; exact h.done, h.nle, h.got, h.early, h.gap, fun hq => (by cases hq), by show s1.first < s1.sent → s1.out s1.first ≠ none; rw [q2, q4, q5]; exact h.hot⟩
        · show a.made ++ [ackP s1.e] = (X.made ++ [_]).map _
          rw [List.map_append, ← h.made, q1, conc_ack own other X.e hh]; rfl
        · intro p hp k xs hb
          rcases List.mem_append.1 hp with hp | hp
          · exact h.bod p hp k xs hb
          · rw [List.mem_singleton.1 hp] at hb; cases hb
      · rw [hfl]
        exact h'.recv q6 q7 rfl
    · rw [if_neg ho] at e
      have hl0 : (flushS a.c t).2.1.length = 0 := by rw [e]; rfl
      have hfl : a.fl t = { a with c := s1 } := by
        unfold CSide.fl; rw [hl0, if_pos rfl, e]
      have hf := hkp.1
      rw [e] at hf
      refine ⟨by rw [e], by rw [hl0]; decide, by rw [e]; exact q9, X, L, by rw [if_neg (by omega), if_neg ho], by rw [if_neg (by omega)], hI, hI', Nat.le_succ _, ?_, ?_⟩
      · rw [hfl]
        exact ⟨q1, hf, h.made, q4.trans hns, h.nN, by omega, h.len, by rw [show ({ a with c := s1 } : CSide).c.out = a.c.out from q2]; exact h.out, h.nl, by rw [show ({ a with c := s1 } : CSide).c.packets = a.c.packets from q3]; exact h.pk, h.bod, h.ls, h.inb, by rw [show ({ a with c := s1 } : CSide).c.out = a.c.out from q2]; exact h.done, h.nle, h.got, h.early, h.gap, fun hq => absurd hq ho, by show s1.first < s1.sent → s1.out s1.first ≠ none; rw [q2, q4, q5]; exact h.hot⟩
      · rw [hfl]
        exact h'.recv q6 q7 rfl
  · have e := flushS_send hlt hs1 hz
    have hbl := bodyS_len s1
    have hne : (bodyS s1).2 ≠ [] := by intro hq; rw [hq] at hz; exact absurd hz (by decide)
    obtain ⟨xs, hxs⟩ : ∃ xs, xs = (bodyS s1).1 := ⟨_, rfl⟩
    obtain ⟨l, hl⟩ : ∃ l, l = (bodyS s1).2 := ⟨_, rfl⟩
    have hmem : ∀ n ∈ l, s1.first ≤ n ∧ n < s1.sent ∧ n < s1.first + 64 ∧ dueS s1 n = true := fun n hn => bodyS_mem (by rw [← hl]; exact hn)
    have henc : xs = encM a.sent l := by rw [hxs, hl]; exact bodyS_enc (by rw [q2]; exact h.out)
    rw [← hxs, ← hl] at e hbl ⊢
    rw [← hl] at hne
    have hmk : MarkOk xs := ⟨hbl.2.2 hne, hbl.1⟩
    obtain ⟨hx1, hx2⟩ := make_inv hI hI' hmk
    obtain ⟨s2, hs2⟩ : ∃ s2 : ChS, s2 = { s1 with e := makeS s1.e, out := markS s1.out s1.e.next t l, packets := updI s1.packets s1.e.next (some l) } := ⟨_, rfl⟩
    rw [← hs2] at e
    have r1 : s2.e = X.e.make.conc own other := by rw [hs2]; show makeS s1.e = _; rw [q1, conc_make]
    have r2 : s2.out = markS a.c.out s1.e.next t l := by rw [hs2]; show markS s1.out _ _ _ = _; rw [q2]
    have r3 : s2.packets = updI a.c.packets (own + (X.e.n : Int)) (some l) := by
      rw [hs2]; show updI s1.packets s1.e.next (some l) = _; rw [q3, q1]; rfl
    have r4 : s2.sent = a.c.sent := by rw [hs2]; exact q4
    have r5 : s2.first = a.c.first := by rw [hs2]; exact q5
    have r6 : s2.next = a.c.next := by rw [hs2]; exact q6
    have r7 : s2.early = a.c.early := by rw [hs2]; exact q7
    have r8 : s2.tick = t := by rw [hs2]; exact q9
    obtain ⟨f, out, pk, hd, hsub, hpk, -, -, -, hhot⟩ := decS_form s2 (lostP s1.e) (by rw [r4, r5]; exact h.fit.fs)
    have hnone : ∀ n, out n = none → a.c.out n = none := by
      intro n hn
      have hq : (decS s2 (lostP s1.e)).out n = none := by rw [hd]; exact hn
      rcases decS_gone hq with hq | ⟨i, l', hq, -, -⟩
      · rw [r2, markS_at] at hq
        split at hq
        · simpa using hq
        · exact hq
      · rw [q1, conc_lost] at hq
        obtain ⟨r, hr, hre⟩ := List.mem_map.1 hq
        have := lost_false r hr
        injection hre with hr1 hr2
        rw [this] at hr2; cases hr2
    have hpkt : packP (makeS s1.e) s1.e.next xs = APkt.enc own other ⟨some (X.e.n, xs), X.e.note⟩ := by rw [q1, conc_pack]
    rw [hd, hpkt] at e
    have hel := enc_len own other X.e.n xs X.e.note hbl.1
    have hfl : a.fl t = { a with c := { s2 with first := f, out := out, packets := pk, owes := false }, made := a.made ++ [APkt.enc own other ⟨some (X.e.n, xs), X.e.note⟩] } := by
      unfold CSide.fl; rw [e]; simp only; rw [if_neg (by omega)]
    have hf := hkp.1
    rw [e] at hf
    have hLlen := h.nl
    refine ⟨by rw [e], by rw [e]; exact hel.2, by rw [e]; exact r8, X.make xs, L ++ [l], by rw [if_pos (by rw [hl]; exact hz)], by rw [if_pos (by rw [hl]; exact hz)], hx1, hx2, Nat.le_refl _, ?_, ?_⟩
    · rw [hfl]
      refine ⟨r1, hf, ?_, r4.trans hns, h.nN, hN, h.len, ?_, ?_, ?_, ?_, ?_, ?_, ?_, h.nle, h.got, h.early, h.gap, fun hq => (by cases hq), hhot⟩
      · show a.made ++ [_] = (X.made ++ [_]).map _
        rw [List.map_append, ← h.made]; rfl
      · intro n m hm
        obtain ⟨y, hy, y1, -, -⟩ := hsub n m hm
        rw [r2, markS_at] at hy
        rw [y1]
        split at hy
        · obtain ⟨z, hz1, rfl⟩ := Option.map_eq_some_iff.1 hy
          exact h.out n z hz1
        · exact h.out n y hy
      · show X.e.n + 1 = (L ++ [l]).length
        simp; omega
      · intro i l' hl'
        have := hpk i l' hl'
        rw [r3] at this
        simp only [updI] at this
        split at this
        · rename_i hi
          injection this with this; subst this
          exact ⟨X.e.n, hi, by rw [hLlen]; simp⟩
        · obtain ⟨k, k1, k2⟩ := h.pk i l' this
          exact ⟨k, k1, by rw [List.getElem?_append_left (List.getElem?_eq_some_iff.1 k2).1]; exact k2⟩
      · intro p hp k ys hb
        have hp' : p ∈ X.made ++ [⟨some (X.e.n, xs), X.e.note⟩] := hp
        rcases List.mem_append.1 hp' with hp | hp
        · obtain ⟨l', k1, k2⟩ := h.bod p hp k ys hb
          exact ⟨l', by rw [List.getElem?_append_left (List.getElem?_eq_some_iff.1 k1).1]; exact k1, k2⟩
        · rw [List.mem_singleton.1 hp] at hb
          simp only [Option.some.injEq, Prod.mk.injEq] at hb
          obtain ⟨rfl, rfl⟩ := hb
          exact ⟨l, by rw [hLlen]; simp, henc⟩
      · intro k l' hk
        rw [List.getElem?_append] at hk
        split at hk
        · exact h.ls k l' hk
        · rename_i hkl
          have hk0 : k - L.length = 0 := by have := (List.getElem?_eq_some_iff.1 hk).1; simp at this; omega
          rw [hk0] at hk
          simp only [List.getElem?_cons_zero, Option.some.injEq] at hk
          subst hk
          refine ⟨hne, fun n hn => ?_⟩
          obtain ⟨m1, m2, m3, -⟩ := hmem n hn
          have := h.first_le
          exact ⟨by show n < a.sent.length; omega, by omega⟩
      · intro k l' hk hb
        have hb' : (X.bodies ++ [0]).getD k 0 = 1 := hb
        rw [getD_snoc] at hb'
        rw [List.getElem?_append] at hk
        split at hk
        · exact h.inb k l' hk hb'
        · rename_i hkl
          have : X.bodies.getD k 0 = 0 := by
            rw [List.getD_eq_getElem?_getD, List.getElem?_eq_none (by have := hI.n; omega)]; rfl
          omega
      · intro n hn ho
        exact h.done n hn (hnone n ho)
    · rw [hfl]
      exact h'.recv r6 r7 rfl

/-- Once received, a message stays received. -/
theorem in_mono {next len : Nat} {early e1 : Nat → Option (List UInt8)} (he : ∀ n, early n ≠ none → e1 n ≠ none) {n : Nat} (h : n < next ∨ early n ≠ none) : n < next + len ∨ dropN e1 next len n ≠ none := by
  rcases h with h | h
  · exact .inl (by omega)
  · by_cases hn : next ≤ n ∧ n < next + len
    · exact .inl hn.2
    · refine .inr ?_
      unfold dropN
      rw [if_neg hn]
      exact he n h
theorem recvA_n (a : AEnd) (p : APkt) : (recvA a p).1.n = a.n := by
  rw [recvA_eq]; split
  · exact acceptA_n _ _
  · rfl
theorem accept_heard (a : AEnd) (k : Nat) : a.heard ≤ (acceptA a k).1.heard ∧ 0 < (acceptA a k).1.heard := by
  unfold acceptA
  repeat' split
  all_goals simp only; omega
theorem accept_code (a : AEnd) (k : Nat) : (acceptA a k).2 = 0 ∨ (acceptA a k).2 = 191 ∨ (acceptA a k).2 = 192 := by
  unfold acceptA
  repeat' split
  all_goals simp

theorem dir_take {own other : Int} {N : Nat} {X Y : ASide} {L K : List (List Nat)} {a b : CSide} (h : Dir own other N X Y L a b) (h' : Dir other own N Y X K b a) (hI : LinkInv X Y) (hI' : LinkInv Y X)
    {p : APkt} (hp : p ∈ X.made) (hN2 : N ≤ 29000) (h0 : 0 ≤ own) (h1 : own ≤ 1099511627776) (h2 : 0 ≤ other) :
    ((recvS b.c (APkt.enc own other p)).2.2 = 0 ∨ (((recvS b.c (APkt.enc own other p)).2.2 = 191 ∨ (recvS b.c (APkt.enc own other p)).2.2 = 192) ∧ (recvS b.c (APkt.enc own other p)).2.1 = [])) ∧
    (recvS b.c (APkt.enc own other p)).1.next = b.c.next + (recvS b.c (APkt.enc own other p)).2.1.length ∧ (recvS b.c (APkt.enc own other p)).2.1 = (a.sent.drop b.c.next).take (recvS b.c (APkt.enc own other p)).2.1.length ∧
    ∃ X' Y', X' = X.given Y.e p ∧ Y' = Y.take p ∧ LinkInv X' Y' ∧ LinkInv Y' X' ∧ X'.e.n = X.e.n ∧ Y'.e.n = Y.e.n ∧ Dir own other N X' Y' L a (b.tk (APkt.enc own other p)) ∧ Dir other own N Y' X' K (b.tk (APkt.enc own other p)) a := by
  have hpo := hI.pkts p hp
  obtain ⟨t1, t2, t3⟩ := take_inv hI' hI hpo
  have hXn := hI.n; have hYn := hI'.n; have eX := h.eN; have eY := h'.eN
  have hh := hI'.heard
  have hfits : p.Fits Y.e := ⟨hpo.any, fun k xs hk => by have := hpo.body k xs hk; exact ⟨this.2.1, this.2.2, by omega⟩, fun m mk hm => by have := hpo.ack m mk hm; exact ⟨by omega, this.2.1, this.2.2.1⟩⟩
  have hrc := recv_enc other own h2 h0 Y.e (by omega) (by omega) p hfits
  rw [← h'.ce] at hrc
  have hrn : b.c.e.newest ≤ 1999999900000 := by rw [h'.ce]; simp only [AEnd.conc]; omega
  have hbn := h.nle; have hb2 := h.nN
  have hkp := recvS_keep h'.fit (APkt.enc own other p) (by omega) hrn
  obtain ⟨rs, hrs⟩ : ∃ rs, rs = (recvA Y.e p).2.2.1.map (fun r => (other + (r.1 : Int), r.2)) := ⟨_, rfl⟩
  rw [← hrs] at hrc
  obtain ⟨s0, hs0⟩ : ∃ s0 : ChS, s0 = { b.c with e := (recvA Y.e p).1.conc other own } := ⟨_, rfl⟩
  obtain ⟨f, out, pk, hd, hsub, hpk, -, -, -, hhot⟩ := decS_form s0 rs (by rw [hs0]; exact h'.fit.fs)
  have hnone : ∀ n, n < b.sent.length → out n = none → n < a.c.next ∨ a.c.early n ≠ none := by
    intro n hn ho
    have hq : (decS s0 rs).out n = none := by rw [hd]; exact ho
    rcases decS_gone hq with hq | ⟨i, l', hq, hq2, hq3⟩
    · rw [hs0] at hq; exact h'.done n hn hq
    · rw [hs0] at hq2
      obtain ⟨k, hk1, hk2⟩ := h'.pk i l' hq2
      rw [hrs] at hq
      obtain ⟨r, hr, hre⟩ := List.mem_map.1 hq
      injection hre with e1 e2
      have hrk : r.1 = k := by omega
      have hbd := (t3.mem r hr).2.2 e2
      rw [hrk] at hbd
      exact h'.inb k l' hk2 hbd n hq3
  have hoc : ∀ n m, out n = some m → b.sent[n]? = some m.b := by
    intro n m hm
    obtain ⟨y, hy, y1, -, -⟩ := hsub n m hm
    rw [hs0] at hy
    rw [y1]; exact h'.out n y hy
  have hpc : ∀ i l, pk i = some l → ∃ k : Nat, i = other + k ∧ K[k]? = some l := by
    intro i l hl
    have := hpk i l hl
    rw [hs0] at this
    exact h'.pk i l this
  have hte : (Y.take p).e = (recvA Y.e p).1 := rfl
  have htn : (Y.take p).e.n = Y.e.n := by rw [hte, recvA_n]
  -- the way back, for any early messages
  have back : ∀ (nx : Nat) (ea : Nat → Option (List UInt8)) (ow : Bool) (gt : List (List UInt8)), (ow = true → 0 < (recvA Y.e p).1.heard) → ChS.Fit { s0 with first := f, out := out, packets := pk, next := nx, early := ea, owes := ow } → ∀ X' : ASide,
      Dir other own N (Y.take p) X' K { b with c := { s0 with first := f, out := out, packets := pk, next := nx, early := ea, owes := ow }, got := gt } a := by
    intro nx ea ow gt how hfit X'
    refine ⟨by rw [hs0]; rfl, hfit, h'.made, by rw [hs0]; exact h'.ns, h'.nN, by rw [htn]; exact eY, h'.len, hoc, by rw [htn]; exact h'.nl, hpc, h'.bod, h'.ls, h'.inb, hnone, h'.nle, h'.got, h'.early, h'.gap, how, hhot⟩
  unfold CSide.tk
  -- the cases
  cases hbo : p.body with
  | none =>
    have hra : recvA Y.e p = ({ Y.e with pend := pendA p.ack Y.e.pend }, [], repA p.ack Y.e.pend, 0) := by rw [recvA_eq, hbo]
    have hR : recvS b.c (APkt.enc own other p) = ({ s0 with first := f, out := out, packets := pk }, [], 0) := by
      unfold recvS
      simp only [hrc]
      rw [← hs0, hd, hra]
      simp
    have hgv : X.given Y.e p = X := by unfold ASide.given; rw [hbo]
    rw [hgv] at t1 t2
    have hf := hkp.1
    rw [hR] at hf ⊢
    refine ⟨.inl rfl, by rw [hs0]; rfl, by simp, X, Y.take p, hgv.symm, rfl, t2, t1, rfl, htn, ?_, ?_⟩
    · exact h.recv (by rw [hs0]) (by rw [hs0]) (by simp)
    · refine back _ _ s0.owes _ ?_ hf X
      rw [hra, hs0]; exact h'.owes
  | some q =>
    obtain ⟨k, xs⟩ := q
    have hra : recvA Y.e p = ({ (acceptA Y.e k).1 with pend := pendA p.ack Y.e.pend }, if (acceptA Y.e k).2 = 0 then xs else [], repA p.ack Y.e.pend, (acceptA Y.e k).2) := by rw [recvA_eq, hbo]
    have hhd : 0 < (recvA Y.e p).1.heard := by rw [hra]; exact (accept_heard Y.e k).2
    have hxl := hpo.body k xs hbo
    by_cases hc : (acceptA Y.e k).2 = 0
    · have hgv : X.given Y.e p = { X with bodies := X.bodies.set k 1 } := by unfold ASide.given; rw [hbo]; simp only; rw [if_pos (by rw [hra]; exact hc)]
      rw [hgv] at t1 t2
      obtain ⟨l, hl1, hl2⟩ := h.bod p hp k xs hbo
      obtain ⟨hl3, hl4⟩ := h.ls k l hl1
      have hfi := h.first_le
      have hpar := parse_enc (next := b.c.next) (M := a.sent) h.len l fun n hn => ⟨(hl4 n hn).1, (hl4 n hn).2, by omega⟩
      rw [← hl2] at hpar
      obtain ⟨ms, hms⟩ : ∃ ms, ms = l.map fun n => (n, a.sent.getD n []) := ⟨_, rfl⟩
      rw [← hms] at hpar
      obtain ⟨e1, he1⟩ : ∃ e1, e1 = keepS b.c.next b.c.early ms := ⟨_, rfl⟩
      obtain ⟨D, hD⟩ : ∃ D, D = dlv e1 64 b.c.next := ⟨_, rfl⟩
      have hxne : xs ≠ [] := by intro hq; rw [hq] at hxl; simp at hxl
      have hR : recvS b.c (APkt.enc own other p) = ({ s0 with first := f, out := out, packets := pk, next := b.c.next + D.length, early := dropN e1 b.c.next D.length, owes := true }, D, 0) := by
        unfold recvS
        simp only [hrc]
        rw [← hs0, hd, hra]
        simp only [hc, if_true]
        rw [if_neg (by decide), if_neg (by simp [hxne]), if_neg (by simp)]
        have : parseC b.c.next xs.length xs = some ms := hpar
        rw [this]
        simp only
        rw [← he1, ← hD]
      have hf := hkp.1
      rw [hR] at hf ⊢
      have hemono : ∀ n, b.c.early n ≠ none → e1 n ≠ none := fun n hn => by rw [he1]; exact keepS_mono hn
      have hesome : ∀ n x, e1 n = some x → a.sent[n]? = some x := by
        intro n x hx
        rw [he1] at hx
        rcases keepS_some hx with hx | hx
        · exact h.early n x hx
        · rw [hms] at hx
          obtain ⟨m, hm, hme⟩ := List.mem_map.1 hx
          injection hme with m1 m2
          subst m1
          have hlt := (hl4 m hm).1
          rw [← m2, List.getD_eq_getElem?_getD, List.getElem?_eq_getElem hlt]; rfl
      have hDt : D = (a.sent.drop b.c.next).take D.length := by rw [hD]; exact dlv_take hesome
      have hDlen : b.c.next + D.length ≤ a.sent.length := by
        have hq := congrArg List.length hDt
        rw [List.length_take, List.length_drop] at hq
        omega
      have hDle : D.length ≤ 64 := by rw [hD]; exact dlv_len _ _ _
      have hgap : dropN e1 b.c.next D.length (b.c.next + D.length) = none := by
        unfold dropN
        rw [if_neg (by omega)]
        rcases Nat.lt_or_ge D.length 64 with hlt | hge
        · rw [hD] at hlt ⊢; exact dlv_end hlt
        · have hD64 : D.length = 64 := by omega
          rw [hD64]
          rcases Classical.em (e1 (b.c.next + 64) = none) with hq | hq
          · exact hq
          · exfalso
            obtain ⟨x, hx⟩ := Option.ne_none_iff_exists'.1 hq
            rw [he1] at hx
            have := keepS_bound b.c.next ms b.c.early h'.fit.el (parseC_bound _ _ _ _ hpar) _ x hx
            omega
      refine ⟨.inl rfl, rfl, hDt, { X with bodies := X.bodies.set k 1 }, Y.take p, hgv.symm, rfl, t2, t1, rfl, htn, ?_, ?_⟩
      · refine ⟨h.ce, h.fit, h.made, h.ns, h.nN, h.eN, h.len, h.out, h.nl, h.pk, h.bod, ?_, ?_, ?_, hDlen, ?_, ?_, hgap, h.owes, h.hot⟩
        · intro j l' hj
          have := h.ls j l' hj
          exact ⟨this.1, fun n hn => ⟨(this.2 n hn).1, by have := (this.2 n hn).2; show n < b.c.next + D.length + 64; omega⟩⟩
        · intro j l' hj hb n hn
          show n < b.c.next + D.length ∨ dropN e1 b.c.next D.length n ≠ none
          have hb' : (X.bodies.set k 1).getD j 0 = 1 := hb
          rw [getD_set _ _ _ _ hxl.1] at hb'
          split at hb'
          · rename_i hjk
            subst hjk
            rw [hl1] at hj
            injection hj with hj
            subst hj
            rcases Nat.lt_or_ge n b.c.next with hnn | hnn
            · exact .inl (by omega)
            · have hin : (n, a.sent.getD n []) ∈ ms := by rw [hms]; exact List.mem_map_of_mem hn
              have := keepS_has (early := b.c.early) hin hnn
              exact in_mono (early := e1) (fun _ hq => hq) (.inr (by rw [he1]; exact this))
          · exact in_mono hemono (h.inb j l' hj hb' n hn)
        · intro n hn ho
          exact in_mono hemono (h.done n hn ho)
        · show b.got ++ D = a.sent.take (b.c.next + D.length)
          rw [h.got]
          conv => lhs; rw [hDt]
          exact take_more _ _
        · intro n x hx
          have hx' : dropN e1 b.c.next D.length n = some x := hx
          unfold dropN at hx'
          split at hx'
          · cases hx'
          · exact hesome n x hx'
      · exact back _ _ true _ (fun _ => hhd) hf _
    · have hgv : X.given Y.e p = X := by unfold ASide.given; rw [hbo]; simp only; rw [if_neg (by rw [hra]; exact hc)]
      rw [hgv] at t1 t2
      have hcode := accept_code Y.e k
      have hR : recvS b.c (APkt.enc own other p) = ({ s0 with first := f, out := out, packets := pk, owes := true }, [], (acceptA Y.e k).2) := by
        unfold recvS
        simp only [hrc]
        rw [← hs0, hd, hra]
        simp only [hc, if_false]
        rw [if_neg (by rcases hcode with q | q | q <;> rw [q] <;> decide), if_neg (by simp), if_pos hc]
      have hf := hkp.1
      rw [hR] at hf ⊢
      refine ⟨.inr ⟨hcode.resolve_left hc, rfl⟩, by rw [hs0]; rfl, by simp, X, Y.take p, hgv.symm, rfl, t2, t1, rfl, htn, ?_, ?_⟩
      · exact h.recv (by rw [hs0]) (by rw [hs0]) (by simp)
      · exact back _ _ true _ (fun _ => hhd) hf X
end Go.Proofs.Ythjjipcbpmdfnaa

/- THE PLAIN LAW of a connection under a script. -/
namespace Go.Proofs.Ythjjipcbpmdfnaa

/-- What holds of a connection after at most m steps. -/
structure CInv (own other : Int) (m : Nat) (a b : CSide) (t : Int) : Prop where
  ex : ∃ X Y L K, LinkInv X Y ∧ LinkInv Y X ∧ Dir own other 29000 X Y L a b ∧ Dir other own 29000 Y X K b a ∧ X.e.n ≤ m ∧ Y.e.n ≤ m
  sa : a.sent.length ≤ m
  sb : b.sent.length ≤ m
  ma : a.made.length ≤ m
  mb : b.made.length ≤ m
  ta : a.c.tick ≤ t
  tb : b.c.tick ≤ t
  t0 : 0 ≤ t
  t1 : t ≤ 9 * (m : Int)
theorem CInv.swap {own other : Int} {m : Nat} {a b : CSide} {t : Int} (h : CInv own other m a b t) : CInv other own m b a t := by
  obtain ⟨⟨X, Y, L, K, h1, h2, h3, h4, h5, h6⟩, h7, h8, h9, h10, h11, h12, h13, h14⟩ := h
  exact ⟨⟨Y, X, K, L, h2, h1, h4, h3, h6, h5⟩, h8, h7, h10, h9, h12, h11, h13, h14⟩
theorem CInv.mono {own other : Int} {m m' : Nat} {a b : CSide} {t : Int} (h : CInv own other m a b t) (hm : m ≤ m') : CInv own other m' a b t := by
  obtain ⟨⟨X, Y, L, K, h1, h2, h3, h4, h5, h6⟩, h7, h8, h9, h10, h11, h12, h13, h14⟩ := h
  exact ⟨⟨X, Y, L, K, h1, h2, h3, h4, by omega, by omega⟩, by omega, by omega, by omega, by omega, h11, h12, h13, by omega⟩
theorem cinv_new {own other : Int} (h0 : 0 ≤ own) (h1 : own ≤ 1099511627776) (h2 : 0 ≤ other) (h3 : other ≤ 1099511627776) : CInv own other 0 ⟨chNew own other, [], [], []⟩ ⟨chNew other own, [], [], []⟩ 0 :=
  ⟨⟨_, _, _, _, inv_new, inv_new, dir_new h0 h1 h2 h3 29000 _ rfl rfl rfl, dir_new h2 h3 h0 h1 29000 _ rfl rfl rfl, Nat.le_refl _, Nat.le_refl _⟩, Nat.le_refl _, Nat.le_refl _, Nat.le_refl _, Nat.le_refl _, Int.le_refl _, Int.le_refl _, Int.le_refl _, Int.le_refl _⟩
section
variable {own other : Int} {m : Nat} {a b : CSide} {t : Int}
theorem CInv.fit (h : CInv own other m a b t) : a.c.Fit := by obtain ⟨X, Y, L, K, h1, h2, h3, h4, h5, h6⟩ := h.ex; exact h3.fit
theorem CInv.next (h : CInv own other m a b t) (h1 : own ≤ 1099511627776) (hm : m ≤ 29000) : a.c.e.next ≤ 1999999999998 := by
  obtain ⟨X, Y, L, K, -, -, h3, -, h5, -⟩ := h.ex
  rw [h3.ce]; show own + (X.e.n : Int) ≤ _; omega
theorem CInv.newest (h : CInv own other m a b t) (h1 : other ≤ 1099511627776) (hm : m ≤ 29000) : a.c.e.newest ≤ 1999999900000 := by
  obtain ⟨X, Y, L, K, k1, k2, h3, -, -, h6⟩ := h.ex
  rw [h3.ce]; show other + (X.e.heard : Int) - 1 ≤ _
  have := k1.heard; have := k2.n; omega
theorem CInv.gotl (h : CInv own other m a b t) : a.got.length = a.c.next := by
  obtain ⟨X, Y, L, K, -, -, -, h4, -, -⟩ := h.ex
  rw [h4.got, List.length_take]; have := h4.nle; omega
theorem CInv.short (h : CInv own other m a b t) : ∀ p ∈ a.made, 1 ≤ p.length ∧ p.length ≤ 1200 := by
  obtain ⟨X, Y, L, K, k1, -, h3, -, -, -⟩ := h.ex
  intro p hp
  rw [h3.made] at hp
  obtain ⟨q, hq, rfl⟩ := List.mem_map.1 hp
  have hpo := k1.pkts q hq
  obtain ⟨pb, pa⟩ := q
  cases pb with
  | none =>
    cases pa with
    | none => exact absurd hpo.any (by simp)
    | some r => obtain ⟨x, y⟩ := r; rw [enc_len2]; omega
  | some r =>
    obtain ⟨k, xs⟩ := r
    exact enc_len _ _ _ _ _ (hpo.body k xs rfl).2.2

/-- A side behind 'sends'. -/
def CSide.sd (a : CSide) (xs : List UInt8) : CSide := if xs.length ≤ 1024 ∧ waitS a.c < 256 then { a with c := (sendS a.c xs).1, sent := a.sent ++ [xs] } else a

theorem CInv.send (h : CInv own other m a b t) (hm : m < 29000) (xs : List UInt8) : CInv own other (m + 1) (a.sd xs) b t := by
  unfold CSide.sd
  split
  · rename_i hc
    have hw := (wait_send h.fit hc.1 hc.2).1
    obtain ⟨X, Y, L, K, h1, h2, h3, h4, h5, h6⟩ := h.ex
    have hs := h.sa; have ha := h.ma; have hb := h.sb; have hbm := h.mb; have h14 := h.t1
    have hd := dir_send h3 hc.1 hc.2 (by omega) (by omega)
    have e1 : (sendS a.c xs).1.next = a.c.next ∧ (sendS a.c xs).1.early = a.c.early ∧ (sendS a.c xs).1.tick = a.c.tick := by rw [hw]; exact ⟨rfl, rfl, rfl⟩
    refine ⟨⟨X, Y, L, K, h1, h2, hd, h4.recv e1.1 e1.2.1 rfl, by omega, by omega⟩, ?_, by omega, by show a.made.length ≤ _; omega, by omega, by show (sendS a.c xs).1.tick ≤ t; rw [e1.2.2]; exact h.ta, h.tb, h.t0, by omega⟩
    show (a.sent ++ [xs]).length ≤ m + 1
    simp; omega
  · exact h.mono (Nat.le_succ _)
theorem CInv.flush (h : CInv own other m a b t) (hm : m < 29000) (h1 : own ≤ 1099511627776) {d : Nat} (hd : d < 10) :
    (flushS a.c (t + (d : Int))).2.2 = 0 ∧ (flushS a.c (t + (d : Int))).2.1.length ≤ 1200 ∧ CInv own other (m + 1) (a.fl (t + (d : Int))) b (t + (d : Int)) := by
  obtain ⟨X, Y, L, K, k1, k2, h3, h4, h5, h6⟩ := h.ex
  have hs := h.sa; have ha := h.ma; have hb := h.sb; have hbm := h.mb; have h14 := h.t1; have hta := h.ta; have htb := h.tb; have ht0 := h.t0
  obtain ⟨e0, e1, e2, X', L', -, -, q1, q2, q3, q4, q5⟩ := dir_flush h3 h4 k1 k2 (t := t + (d : Int)) (by omega) (by omega) (by omega) (by omega) h1
  refine ⟨e0, e1, ⟨X', Y, L', K, q1, q2, q4, q5, by omega, by omega⟩, by show a.sent.length ≤ _; omega, by omega, ?_, by omega, by show (flushS a.c _).1.tick ≤ _; omega, by omega, by omega, by omega⟩
  show (if (flushS a.c (t + (d : Int))).2.1.length = 0 then a.made else a.made ++ [(flushS a.c (t + (d : Int))).2.1]).length ≤ m + 1
  split
  · omega
  · simp; omega
theorem CInv.take (h : CInv own other m a b t) (_hm : m < 29000) (h0 : 0 ≤ own) (h1 : other ≤ 1099511627776) (h2 : 0 ≤ other) {xs : List UInt8} (hx : xs ∈ b.made) :
    ((recvS a.c xs).2.2 = 0 ∨ (((recvS a.c xs).2.2 = 191 ∨ (recvS a.c xs).2.2 = 192) ∧ (recvS a.c xs).2.1 = [])) ∧
    (recvS a.c xs).2.1 = (b.sent.drop a.got.length).take (recvS a.c xs).2.1.length ∧ (recvS a.c xs).1.next = a.got.length + (recvS a.c xs).2.1.length ∧
    (0 < waitS b.c ∨ a.got.length + (recvS a.c xs).2.1.length = b.sent.length) ∧ CInv own other (m + 1) (a.tk xs) b t := by
  have hgl := h.gotl
  obtain ⟨X, Y, L, K, k1, k2, h3, h4, h5, h6⟩ := h.ex
  have hs := h.sa; have ha := h.ma; have hb := h.sb; have hbm := h.mb; have h14 := h.t1; have hta := h.ta; have htb := h.tb; have ht0 := h.t0
  rw [h4.made] at hx
  obtain ⟨p, hp, rfl⟩ := List.mem_map.1 hx
  obtain ⟨e0, e1, e2, Y', X', -, -, q1, q2, q3, q4, q5, q6⟩ := dir_take h4 h3 k2 k1 hp (by omega) h2 h1 h0
  have htk : (a.tk (APkt.enc other own p)).c.tick = a.c.tick := by
    show (recvS a.c (APkt.enc other own p)).1.tick = a.c.tick
    unfold recvS
    simp only
    have hdt := (decS_e (s := { a.c with e := (recvP a.c.e (APkt.enc other own p)).1 }) h3.fit.fs (recvP a.c.e (APkt.enc other own p)).2.2.1).2.2.2.1
    repeat' split
    · rfl
    · exact hdt
    · exact hdt
    · exact hdt
    · exact hdt
  rw [hgl]
  refine ⟨e0, e2, e1, ?_, ⟨⟨X', Y', L, K, q2, q1, q6, q5, by omega, by omega⟩, by show a.sent.length ≤ _; omega, by omega, by show a.made.length ≤ _; omega, by omega, by rw [htk]; exact hta, htb, ht0, by omega⟩⟩
  rcases Nat.eq_zero_or_pos (waitS b.c) with hw | hw
  · refine .inr ?_
    have := q5.all hw
    rw [← this]; exact e1.symm
  · exact .inl hw
end
end Go.Proofs.Ythjjipcbpmdfnaa
