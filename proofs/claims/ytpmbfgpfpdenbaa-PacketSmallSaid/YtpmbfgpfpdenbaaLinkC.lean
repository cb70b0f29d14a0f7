/-
  THE PROTOCOL'S INVARIANT: what a packet of the other side does.
-/
import Derived.Test.YtpmbfgpfpdenbaaLinkB
namespace Go.Proofs.Ytpmbfgpfpdenbaa

/-- What 'accept' does to the received ones: 'got k' counts how often k was returned. -/
structure Seen (heard mask : Nat) (got : Nat → Nat) : Prop where
  lt : mask < 4294967296
  maskb : ∀ i, mask.testBit i = true → i + 2 ≤ heard
  hi : ∀ k, heard ≤ k → got k = 0
  top : ∀ k, k + 1 = heard → got k = 1
  mid : ∀ k, k + 1 < heard → heard ≤ k + 33 → got k = if mask.testBit (heard - 2 - k) then 1 else 0
  le : ∀ k, got k ≤ 1

theorem LinkInv.seen {X Y : ASide} (h : LinkInv X Y) : Seen X.e.heard X.e.mask fun k => Y.bodies.getD k 0 := ⟨h.mask, h.maskb, h.hi, h.top, h.mid, h.le⟩

theorem bit_u32_lt {x i : Nat} (hx : x < 4294967296) (h : x.testBit i = true) : i < 32 := by
  rcases Nat.lt_or_ge i 32 with h1 | h1
  · exact h1
  · have : x < 2 ^ i := Nat.lt_of_lt_of_le hx (by have := Nat.pow_le_pow_right (n := 2) (by omega) h1; omega)
    rw [Nat.testBit_lt_two_pow this] at h; cases h

theorem new_bit (mask d i : Nat) (c : Bool) (hi : i < 32) (hd : 1 ≤ d) : (mask * 2 ^ min d 32 % 4294967296 ||| (if c = true then 2 ^ min (d - 1) 32 % 4294967296 else 0)).testBit i = ((decide (d ≤ i) && mask.testBit (i - d)) || (c && decide (i = d - 1))) := by
  rw [Nat.testBit_or, show (4294967296 : Nat) = 2 ^ 32 from rfl, Nat.testBit_mod_two_pow, Nat.testBit_mul_two_pow]
  simp only [hi, decide_true, Bool.true_and]
  congr 1
  · rcases Nat.lt_or_ge i d with h | h
    · have e1 : decide (d ≤ i) = false := by simp; omega
      have e2 : decide (min d 32 ≤ i) = false := by simp; omega
      rw [e1, e2]; rfl
    · rw [Nat.min_eq_left (by omega)]
  · cases c
    · simp
    · simp only [if_true, Bool.true_and, Nat.testBit_mod_two_pow, hi, decide_true, Nat.testBit_two_pow]
      rw [Bool.eq_iff_iff]; simp; omega

theorem accept_seen {a : AEnd} {got : Nat → Nat} (h : Seen a.heard a.mask got) (k : Nat) :
    ((acceptA a k).2 = 0 ∧ got k = 0 ∧ Seen (acceptA a k).1.heard (acceptA a k).1.mask (fun j => if j = k then 1 else got j) ∧ a.heard ≤ (acceptA a k).1.heard ∧ (acceptA a k).1.heard ≤ max a.heard (k + 1)) ∨
    (((acceptA a k).2 = 191 ∨ (acceptA a k).2 = 192) ∧ (acceptA a k).1 = a) := by
  unfold acceptA
  by_cases c1 : k + 33 < a.heard
  · rw [if_pos c1]; exact .inr ⟨.inl rfl, rfl⟩
  · rw [if_neg c1]
    by_cases c2 : k + 1 = a.heard
    · rw [if_pos c2]; exact .inr ⟨.inr rfl, rfl⟩
    · rw [if_neg c2]
      by_cases c3 : k + 1 < a.heard
      · rw [if_pos c3]
        by_cases c4 : a.mask.testBit (a.heard - 2 - k) = true
        · rw [if_pos c4]; exact .inr ⟨.inr rfl, rfl⟩
        · rw [if_neg c4]
          refine .inl ⟨rfl, by rw [h.mid k c3 (by omega), if_neg c4], ⟨?_, ?_, ?_, ?_, ?_, ?_⟩, Nat.le_refl _, by show a.heard ≤ _; omega⟩
          · have : a.mask ||| 2 ^ (a.heard - 2 - k) < 2 ^ 32 := Nat.or_lt_two_pow (by have := h.lt; omega) (Nat.pow_lt_pow_right (by omega) (by omega))
            show a.mask ||| 2 ^ (a.heard - 2 - k) < _
            omega
          · intro i hi
            have hi : (a.mask ||| 2 ^ (a.heard - 2 - k)).testBit i = true := hi
            simp only [Nat.testBit_or, Nat.testBit_two_pow, Bool.or_eq_true, decide_eq_true_eq] at hi
            show i + 2 ≤ a.heard
            rcases hi with hi | hi
            · exact h.maskb i hi
            · omega
          · intro j (hj : a.heard ≤ j); show (if j = k then 1 else got j) = 0; rw [if_neg (by omega)]; exact h.hi j hj
          · intro j (hj : j + 1 = a.heard); show (if j = k then 1 else got j) = 1; rw [if_neg (by omega)]; exact h.top j hj
          · intro j (hj : j + 1 < a.heard) (hj2 : a.heard ≤ j + 33)
            show (if j = k then 1 else got j) = if (a.mask ||| 2 ^ (a.heard - 2 - k)).testBit (a.heard - 2 - j) = true then 1 else 0
            rw [Nat.testBit_or, Nat.testBit_two_pow]
            by_cases e : j = k
            · subst e; simp
            · rw [if_neg e, h.mid j hj hj2, show decide (a.heard - 2 - k = a.heard - 2 - j) = false by simp; omega, Bool.or_false]
          · intro j; show (if j = k then 1 else got j) ≤ 1; have := h.le j; split <;> omega
      · rw [if_neg c3]
        refine .inl ⟨rfl, h.hi k (by omega), ⟨?_, ?_, ?_, ?_, ?_, ?_⟩, by show a.heard ≤ k + 1; omega, by show k + 1 ≤ _; omega⟩
        · have : a.mask * 2 ^ min (k + 1 - a.heard) 32 % 4294967296 ||| (if 0 < a.heard then 2 ^ min (k - a.heard) 32 % 4294967296 else 0) < 2 ^ 32 :=
            Nat.or_lt_two_pow (by omega) (by split <;> omega)
          exact this
        · intro i hi
          show i + 2 ≤ k + 1
          have hi' : (a.mask * 2 ^ min (k + 1 - a.heard) 32 % 4294967296 ||| (if 0 < a.heard then 2 ^ min (k - a.heard) 32 % 4294967296 else 0)).testBit i = true := hi
          have hlt : a.mask * 2 ^ min (k + 1 - a.heard) 32 % 4294967296 ||| (if 0 < a.heard then 2 ^ min (k - a.heard) 32 % 4294967296 else 0) < 4294967296 := by
            have : a.mask * 2 ^ min (k + 1 - a.heard) 32 % 4294967296 ||| (if 0 < a.heard then 2 ^ min (k - a.heard) 32 % 4294967296 else 0) < 2 ^ 32 :=
              Nat.or_lt_two_pow (by omega) (by split <;> omega)
            exact this
          have h32 := bit_u32_lt hlt hi'
          have := new_bit a.mask (k + 1 - a.heard) i (decide (0 < a.heard)) h32 (by omega)
          rw [show k + 1 - a.heard - 1 = k - a.heard by omega] at this
          simp only [decide_eq_true_eq] at this
          rw [this] at hi'
          simp only [Bool.or_eq_true, Bool.and_eq_true, decide_eq_true_eq] at hi'
          rcases hi' with ⟨h1, h2⟩ | ⟨h1, h2⟩
          · have := h.maskb _ h2; omega
          · omega
        · intro j (hj : k + 1 ≤ j); show (if j = k then 1 else got j) = 0; rw [if_neg (by omega)]; exact h.hi j (by omega)
        · intro j (hj : j + 1 = k + 1); show (if j = k then 1 else got j) = 1; rw [if_pos (by omega)]
        · intro j (hj : j + 1 < k + 1) (hj2 : k + 1 ≤ j + 33)
          show (if j = k then 1 else got j) = if (a.mask * 2 ^ min (k + 1 - a.heard) 32 % 4294967296 ||| (if 0 < a.heard then 2 ^ min (k - a.heard) 32 % 4294967296 else 0)).testBit (k + 1 - 2 - j) = true then 1 else 0
          rw [if_neg (by omega)]
          have := new_bit a.mask (k + 1 - a.heard) (k + 1 - 2 - j) (decide (0 < a.heard)) (by omega) (by omega)
          rw [show k + 1 - a.heard - 1 = k - a.heard by omega] at this
          simp only [decide_eq_true_eq] at this
          rw [this]
          by_cases q1 : a.heard ≤ j
          · rw [h.hi j q1, if_neg]
            simp only [Bool.or_eq_true, Bool.and_eq_true, decide_eq_true_eq]
            omega
          · by_cases q2 : j + 1 = a.heard
            · rw [h.top j q2, if_pos]
              simp only [Bool.or_eq_true, Bool.and_eq_true, decide_eq_true_eq]
              omega
            · rw [h.mid j (by omega) (by omega)]
              have e : k + 1 - 2 - j - (k + 1 - a.heard) = a.heard - 2 - j := by omega
              have e1 : decide (k + 1 - a.heard ≤ k + 1 - 2 - j) = true := by simp; omega
              have e2 : decide (k + 1 - 2 - j = k - a.heard) = false := by simp; omega
              rw [e, e1, e2]; simp
        · intro j; show (if j = k then 1 else got j) ≤ 1; have := h.le j; split <;> omega

theorem acceptA_n (a : AEnd) (k : Nat) : (acceptA a k).1.n = a.n := by unfold acceptA; (repeat' split) <;> rfl
theorem acceptA_pend (a : AEnd) (k : Nat) : (acceptA a k).1.pend = a.pend := by unfold acceptA; (repeat' split) <;> rfl

theorem inv_upd {X Y : ASide} (h : LinkInv X Y) (h' : LinkInv Y X) {e' : AEnd} {rs : List (Nat × Bool)} {B' : List Nat} (hn : e'.n = X.e.n) (hpend : List.Sublist e'.pend X.e.pend)
    (hrs : ∀ r ∈ rs, r.1 ∈ X.e.pend) (hdis : ∀ k ∈ e'.pend, k ∉ rs.map Prod.fst) (hB : B'.length = Y.bodies.length) (hmono : ∀ k, Y.bodies.getD k 0 = 1 → B'.getD k 0 = 1)
    (hseen : Seen e'.heard e'.mask fun k => B'.getD k 0) (hheard : e'.heard ≤ Y.bodies.length) :
    LinkInv (({ X with e := e' } : ASide).note rs) { Y with bodies := B' } ∧ LinkInv { Y with bodies := B' } (({ X with e := e' } : ASide).note rs) := by
  have hrl : ∀ r ∈ rs, r.1 < X.reports.length := fun r hr => by rw [h.nr]; exact (h.pmem _ (hrs r hr)).1
  have hrg := noteL_getD rs X.reports hrl
  constructor
  · refine ⟨hn.trans h.n, (noteL_len _ _).trans h.nr, by show e'.heard ≤ B'.length; rw [hB]; exact hheard, hseen.lt, hseen.maskb, hseen.hi, hseen.top, hseen.mid, hseen.le, h.sorted.sublist hpend, ?_, Nat.le_trans hpend.length_le h.plen, ?_, ?_⟩
    · intro k hk
      refine ⟨(h.pmem k (hpend.subset hk)).1, ?_⟩
      show (noteL X.reports rs).getD k 0 = 0
      rw [hrg, if_neg (hdis k hk)]
      exact (h.pmem k (hpend.subset hk)).2
    · intro k
      show (noteL X.reports rs).getD k 0 ≤ 1
      rw [hrg]; have := h.rle k; split <;> omega
    · intro p hp
      have q := h.pkts p hp
      refine ⟨q.any, q.body, fun m mk hm => ?_⟩
      have := q.ack m mk hm
      exact ⟨by show m < B'.length; rw [hB]; exact this.1, this.2.1, this.2.2.1, fun k hk => hmono k (this.2.2.2 k hk)⟩
  · refine ⟨by show Y.e.n = B'.length; rw [hB]; exact h'.n, by show Y.reports.length = B'.length; rw [hB]; exact h'.nr, h'.heard, h'.mask, h'.maskb, h'.hi, h'.top, h'.mid, h'.le, h'.sorted, ?_, h'.plen, h'.rle, ?_⟩
    · intro k hk
      exact ⟨by show k < B'.length; rw [hB]; exact (h'.pmem k hk).1, (h'.pmem k hk).2⟩
    · intro p hp
      have q := h'.pkts p hp
      exact ⟨q.any, fun k xs hx => by have := q.body k xs hx; exact ⟨by show k < B'.length; rw [hB]; exact this.1, this.2⟩, q.ack⟩

def pendA (ack : Option (Nat × Nat)) (l : List Nat) : List Nat := match ack with | some (m, mk) => ackLA m mk l | none => l
def repA (ack : Option (Nat × Nat)) (l : List Nat) : List (Nat × Bool) := match ack with | some (m, mk) => ackRA m mk l | none => []

theorem acceptA_with (a : AEnd) (l : List Nat) (k : Nat) : acceptA { a with pend := l } k = ({ (acceptA a k).1 with pend := l }, (acceptA a k).2) := by
  unfold acceptA; simp only; (repeat' split) <;> rfl

theorem recvA_eq (a : AEnd) (p : APkt) : recvA a p = match p.body with
    | some (k, xs) => ({ (acceptA a k).1 with pend := pendA p.ack a.pend }, if (acceptA a k).2 = 0 then xs else [], repA p.ack a.pend, (acceptA a k).2)
    | none => ({ a with pend := pendA p.ack a.pend }, [], repA p.ack a.pend, 0) := by
  obtain ⟨body, ack⟩ := p
  cases body with
  | none => cases ack <;> rfl
  | some q =>
    obtain ⟨k, xs⟩ := q
    cases ack with
    | none => simp only [recvA, pendA, repA]; rw [← acceptA_pend a k]
    | some r => obtain ⟨m, mk⟩ := r; simp only [recvA, pendA, repA, acceptA_with]

theorem pend_facts (ack : Option (Nat × Nat)) (l : List Nat) (hl : l.Pairwise (· < ·)) : List.Sublist (pendA ack l) l ∧ (∀ r ∈ repA ack l, r.1 ∈ l) ∧ (∀ k ∈ pendA ack l, k ∉ (repA ack l).map Prod.fst) ∧ ((repA ack l).map Prod.fst).Pairwise (· < ·) := by
  cases ack with
  | none => exact ⟨List.Sublist.refl _, fun r hr => (by cases hr), fun k _ hk => (by cases hk), List.Pairwise.nil⟩
  | some q =>
    obtain ⟨m, mk⟩ := q
    simp only [pendA, repA, ackRA_fst]
    rw [ackLA_eq]
    refine ⟨List.filter_sublist, fun r hr => ?_, fun k hk hk2 => ?_, hl.sublist List.filter_sublist⟩
    · have : r.1 ∈ (ackRA m mk l).map Prod.fst := List.mem_map_of_mem hr
      rw [ackRA_fst] at this
      exact (List.mem_filter.1 this).1
    · have h1 := (List.mem_filter.1 hk).2
      have h2 := (List.mem_filter.1 hk2).2
      simp at h1 h2
      rcases h2 with h2 | h2
      · rw [h1.1] at h2; cases h2
      · omega

theorem rep_acked {X Y : ASide} {p : APkt} (hp : PktOk Y X p) {l : List Nat} : ∀ r ∈ repA p.ack l, r.2 = true → X.bodies.getD r.1 0 = 1 := by
  intro r hr h2
  cases ha : p.ack with
  | none => rw [ha] at hr; cases hr
  | some q =>
    obtain ⟨m, mk⟩ := q
    rw [ha] at hr
    simp only [repA, ackRA_eq, List.mem_map] at hr
    obtain ⟨k, _, rfl⟩ := hr
    exact (hp.ack m mk ha).2.2.2 k h2

/-- What X makes of a packet p of Y. -/
theorem take_inv {X Y : ASide} (h : LinkInv X Y) (h' : LinkInv Y X) {p : APkt} (hp : PktOk Y X p) :
    LinkInv (X.take p) (Y.given X.e p) ∧ LinkInv (Y.given X.e p) (X.take p) ∧ NoteOk { X with e := (recvA X.e p).1 } (recvA X.e p).2.2.1 := by
  obtain ⟨f1, f2, f3, f4⟩ := pend_facts p.ack X.e.pend h.sorted
  have hr : (recvA X.e p).2.2.1 = repA p.ack X.e.pend := by rw [recvA_eq]; split <;> rfl
  have hnote : NoteOk { X with e := (recvA X.e p).1 } (recvA X.e p).2.2.1 := by
    rw [hr]
    refine ⟨f4, fun r hr => ?_⟩
    have := h.pmem _ (f2 r hr)
    exact ⟨by show r.1 < X.reports.length; rw [h.nr]; exact this.1, this.2, rep_acked hp r hr⟩
  rw [← and_assoc]
  refine ⟨?_, hnote⟩
  unfold ASide.take ASide.given
  rw [hr, recvA_eq]
  cases hb : p.body with
  | none => exact inv_upd h h' rfl f1 f2 f3 rfl (fun _ hk => hk) h.seen h.heard
  | some q =>
    obtain ⟨k, xs⟩ := q
    have hk := (hp.body k xs hb).1
    simp only
    rcases accept_seen h.seen k with ⟨c1, c2, c3, c4, c5⟩ | ⟨c1, c2⟩
    · rw [if_pos c1]
      refine inv_upd h h' (e' := { (acceptA X.e k).1 with pend := pendA p.ack X.e.pend }) (acceptA_n _ _) f1 f2 f3 (by simp) ?_ ?_ ?_
      · intro j hj; rw [getD_set _ _ _ _ hk]; split <;> simp_all
      · have : (fun j => (Y.bodies.set k 1).getD j 0) = fun j => if j = k then 1 else Y.bodies.getD j 0 := by
          funext j; rw [getD_set _ _ _ _ hk]
        rw [this]; exact c3
      · show (acceptA X.e k).1.heard ≤ _
        have := h.heard; omega
    · have c0 : ¬ (acceptA X.e k).2 = 0 := by rcases c1 with c1 | c1 <;> rw [c1] <;> decide
      rw [if_neg c0, c2]
      exact inv_upd h h' (e' := { X.e with pend := pendA p.ack X.e.pend }) rfl f1 f2 f3 rfl (fun _ hk => hk) h.seen h.heard
end Go.Proofs.Ytpmbfgpfpdenbaa
