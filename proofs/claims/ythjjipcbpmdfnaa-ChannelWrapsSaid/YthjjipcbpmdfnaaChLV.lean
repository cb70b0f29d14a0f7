/-
  PLAIN LAW of ChannelLives: as soon as every packet arrives, each tick brings the first message that is due; no program in sight.
-/
import Derived.Test.YthjjipcbpmdfnaaChLM
namespace Go.Proofs.Ythjjipcbpmdfnaa

/-! ### reports -/
theorem dec1_stays {r : Int × Bool} {out : Nat → Option OutM} {m n : Nat} (h : out n = none) : dec1 r out m n = none := by
  cases hx : dec1 r out m n with
  | none => rfl
  | some x => obtain ⟨y, hy, -⟩ := dec1_sub r out m n x hx; rw [h] at hy; cases hy
theorem fold1_stays {r : Int × Bool} {l : List Nat} {out : Nat → Option OutM} {n : Nat} (h : out n = none) : l.foldl (dec1 r) out n = none := by
  cases hx : l.foldl (dec1 r) out n with
  | none => rfl
  | some x => obtain ⟨y, hy, -⟩ := fold1_sub r l out n x hx; rw [h] at hy; cases hy
theorem fold1_hits {r : Int × Bool} (hr : r.2 = true) : ∀ {l : List Nat} {out : Nat → Option OutM} {n : Nat}, n ∈ l → l.foldl (dec1 r) out n = none
  | m :: l, out, n, h => by
    rcases List.mem_cons.1 h with h | h
    · subst h
      refine fold1_stays (l := l) ?_
      cases hx : out n with
      | none => exact dec1_stays hx
      | some x => simp only [dec1, hx, hr, if_true, updN]
    · exact fold1_hits hr (l := l) h
theorem foldR_keep {i : Int} : ∀ {rs : List (Int × Bool)} {s : ChS}, (∀ r ∈ rs, r.1 ≠ i) → (rs.foldl decR s).packets i = s.packets i
  | [], _, _ => rfl
  | r :: rs, s, h => by
    rw [List.foldl_cons, foldR_keep (fun q hq => h q (List.mem_cons_of_mem _ hq))]
    simp only [decR, updI]
    rw [if_neg (fun e => h r List.mem_cons_self e.symm)]
theorem foldR_stays {rs : List (Int × Bool)} {s : ChS} {n : Nat} (h : s.out n = none) : (rs.foldl decR s).out n = none := by
  obtain ⟨out, pk, h1, h2, -⟩ := foldR_form rs s
  rw [h1]
  show out n = none
  cases hx : out n with
  | none => rfl
  | some x => obtain ⟨y, hy, -⟩ := h2 n x hx; rw [h] at hy; cases hy
theorem foldR_hits {i : Int} {l : List Nat} {n : Nat} (hn : n ∈ l) : ∀ {rs : List (Int × Bool)} {s : ChS}, (rs.map Prod.fst).Pairwise (· < ·) → (i, true) ∈ rs → s.packets i = some l → (rs.foldl decR s).out n = none
  | r :: rs, s, hs, hi, hp => by
    rw [List.map_cons, List.pairwise_cons] at hs
    rw [List.foldl_cons]
    rcases List.mem_cons.1 hi with hi | hi
    · subst hi
      refine foldR_stays ?_
      show (((s.packets i).getD []).foldl (dec1 (i, true)) s.out) n = none
      rw [hp]
      exact fold1_hits rfl hn
    · refine foldR_hits hn hs.2 hi ?_
      simp only [decR, updI]
      rw [if_neg ?_, hp]
      intro e
      have := hs.1 i (List.mem_map.2 ⟨_, hi, rfl⟩)
      omega
theorem decS_hits {s : ChS} {rs : List (Int × Bool)} {i : Int} {l : List Nat} {n : Nat} (hs : (rs.map Prod.fst).Pairwise (· < ·)) (hi : (i, true) ∈ rs) (hp : s.packets i = some l) (hn : n ∈ l) : (decS s rs).out n = none :=
  foldR_hits (s := s) hn hs hi hp
theorem decS_keep {s : ChS} {rs : List (Int × Bool)} {i : Int} (h : ∀ r ∈ rs, r.1 ≠ i) : (decS s rs).packets i = s.packets i := foldR_keep (s := s) h

/-! ### the first message that is due is sent -/
theorem bodyG_grow (s : ChS) {n : Nat} : ∀ {j k : Nat}, j ≤ k → n ∈ (bodyG s j).2 → n ∈ (bodyG s k).2
  | j, 0, h, hn => by
    obtain rfl : j = 0 := by omega
    exact hn
  | j, k + 1, h, hn => by
    rcases Nat.lt_or_ge j (k + 1) with h1 | h1
    · have := bodyG_grow s (j := j) (k := k) (by omega) hn
      rw [show bodyG s (k + 1) = bodyStep s (s.first + k) (bodyG s k) from rfl]
      unfold bodyStep
      split
      · exact this
      · split
        · exact List.mem_append_left _ this
        · exact this
    · obtain rfl : j = k + 1 := by omega
      exact hn
theorem body_first {s : ChS} (hf : s.Fit) (h1 : s.first < s.sent) (hd : dueS s s.first = true) : s.first ∈ (bodyS s).2 := by
  unfold bodyS
  refine bodyG_grow s (j := 1) (by omega) ?_
  obtain ⟨m, hm⟩ := dueS_msg hd
  show s.first ∈ (bodyStep s (s.first + 0) ([], [])).2
  unfold bodyStep
  rw [Nat.add_zero, hm]
  have hb := (hf.msg _ _ hm).1
  simp only
  rw [if_pos ⟨hd, by simp; omega⟩]
  simp

/-- The invariant of a connection, with its ghosts. -/
structure Lk (own other : Int) (X Y : ASide) (L K : List (List Nat)) (a b : CSide) : Prop where
  i1 : LinkInv X Y
  i2 : LinkInv Y X
  d1 : Dir own other 29000 X Y L a b
  d2 : Dir other own 29000 Y X K b a
theorem Lk.swap {own other : Int} {X Y : ASide} {L K : List (List Nat)} {a b : CSide} (h : Lk own other X Y L K a b) : Lk other own Y X K L b a := ⟨h.i2, h.i1, h.d2, h.d1⟩

/-- How many of a side's messages wait, those of l not counted. -/
def waitL (s : ChS) (l : List Nat) : Nat := cntN (fun n => if n ∈ l then none else s.out n) s.sent
theorem waitL_nil (s : ChS) : waitL s [] = waitS s := by simp [waitL, waitS]
theorem cntN_le_of {α β : Type} {f : Nat → Option α} {g : Nat → Option β} : ∀ {N : Nat}, (∀ n, n < N → f n ≠ none → g n ≠ none) → cntN f N ≤ cntN g N
  | 0, _ => Nat.le_refl _
  | N + 1, h => by
    rw [cntN_succ, cntN_succ]
    have ih := cntN_le_of (f := f) (g := g) (N := N) fun n hn => h n (by omega)
    have h1 := h N (by omega)
    cases hf : f N with
    | none => simp; omega
    | some x =>
      cases hg : g N with
      | none => exact absurd hg (h1 (by rw [hf]; simp))
      | some y => simp; omega
theorem cntN_lt_of {α β : Type} {f : Nat → Option α} {g : Nat → Option β} {j : Nat} : ∀ {N : Nat}, (∀ n, n < N → f n ≠ none → g n ≠ none) → j < N → f j = none → g j ≠ none → cntN f N + 1 ≤ cntN g N
  | 0, _, h, _, _ => by omega
  | N + 1, h, hj, hf, hg => by
    rw [cntN_succ, cntN_succ]
    rcases Nat.lt_or_ge j N with h1 | h1
    · have ih := cntN_lt_of (f := f) (g := g) (N := N) (fun n hn => h n (by omega)) h1 hf hg
      have h2 := h N (by omega)
      cases hf' : f N with
      | none => simp; omega
      | some x =>
        cases hg' : g N with
        | none => exact absurd hg' (h2 (by rw [hf']; simp))
        | some y => simp; omega
    · obtain rfl : j = N := by omega
      have ih := cntN_le_of (f := f) (g := g) (N := j) fun n hn => h n (by omega)
      rw [hf]
      cases hg' : g j with
      | none => exact absurd hg' hg
      | some y => simp; omega

/-- A side's last packet with messages l is on its way to be acknowledged. -/
def Ackd (own : Int) (X Y : ASide) (a b : CSide) (l : List Nat) : Prop := l = [] ∨ ∃ k : Nat, a.c.packets (own + k) = some l ∧ k ∈ X.e.pend ∧ Y.e.heard = k + 1 ∧ b.c.owes = true
/-- Before a side (x) flushes: what waits at it was sent long ago; of the other's (y) messages only those of l were sent of late. -/
structure Half (own other : Int) (t0 : Int) (X Y : ASide) (L K : List (List Nat)) (x y : CSide) (l : List Nat) : Prop where
  lk : Lk own other X Y L K x y
  p1 : ∀ n m, x.c.out n = some m → m.tick ≤ t0
  p2 : ∀ n m, y.c.out n = some m → n ∉ l → m.tick ≤ t0
  ak : Ackd other Y X y x l

/-- One side flushes, and the packet arrives. -/
def halfS (x y : CSide) (t : Int) : CSide × CSide := (x.fl t, if (flushS x.c t).2.1.length = 0 then y else y.tk (flushS x.c t).2.1)

/-- What the flush of x does: to its messages, and the packet. -/
structure Flo (own other : Int) (t0 t : Int) (X Y : ASide) (x : CSide) (l : List Nat) : Prop where
  tick : ∀ n m, (x.fl t).c.out n = some m → n ∉ l → ∃ y, x.c.out n = some y ∧ m.tick = y.tick
  some_ : ∀ n, (x.fl t).c.out n ≠ none → x.c.out n ≠ none
  due : x.c.first < x.c.sent → dueS { x.c with tick := t } x.c.first = true → x.c.first ∈ l
  sent : (x.fl t).c.sent = x.c.sent
  mem : ∀ n ∈ l, x.c.out n ≠ none
  pkt : (flushS x.c t).2.1.length ≠ 0 → ∃ q, q ∈ (flX X x t).made ∧ (flushS x.c t).2.1 = APkt.enc own other q ∧ q.ack = X.e.note ∧ (l ≠ [] → ∃ xs, q.body = some (X.e.n, xs)) ∧ (l = [] → q.body = none)
  none_ : (flushS x.c t).2.1.length = 0 → l = [] ∧ x.c.owes = false
  msg : l ≠ [] → (x.fl t).c.packets (own + (X.e.n : Int)) = some l ∧ X.e.n ∈ (flX X x t).e.pend
  hd : (flX X x t).e.heard = X.e.heard ∧ (flX X x t).e.mask = X.e.mask
  owes : (x.fl t).c.owes = false

theorem pend_make (X : AEnd) : X.n ∈ X.make.pend := by
  unfold AEnd.make
  simp only
  split
  · simp
  · rename_i h
    cases hp : X.pend with
    | nil => rw [hp] at h; simp at h
    | cons a l => simp

theorem flo {own other : Int} {t0 t : Int} {X Y : ASide} {L K : List (List Nat)} {x y : CSide} (h : Lk own other X Y L K x y) (ht0 : x.c.tick ≤ t) (ht1 : t ≤ 9223372036854775807) : ∃ l, Flo own other t0 t X Y x l := by
  have hlt : ¬ t < x.c.tick := by omega
  obtain ⟨s1, hs1⟩ : ∃ s1 : ChS, s1 = { x.c with tick := t } := ⟨_, rfl⟩
  have q1 : s1.e = X.e.conc own other := by rw [hs1]; exact h.d1.ce
  have q2 : s1.out = x.c.out := by rw [hs1]
  have q3 : s1.packets = x.c.packets := by rw [hs1]
  have q4 : s1.sent = x.c.sent := by rw [hs1]
  have q5 : s1.first = x.c.first := by rw [hs1]
  have q8 : s1.owes = x.c.owes := by rw [hs1]
  have hf1 : s1.Fit := by rw [hs1]; exact h.d1.fit.clock ht0 ht1
  refine ⟨(bodyS s1).2, ?_⟩
  rcases Nat.eq_zero_or_pos (bodyS s1).2.length with hz | hz
  · have hl0 : (bodyS s1).2 = [] := List.length_eq_zero_iff.1 hz
    have e := flushS_none hlt hs1 hz
    have hX : flX X x t = if x.c.owes = true then { X with made := X.made ++ [⟨none, X.e.note⟩] } else X := by
      unfold flX; rw [← hs1, if_neg (by omega)]
    rw [hl0]
    by_cases ho : s1.owes = true
    · have hh : 0 < X.e.heard := h.d1.owes (by rw [← q8]; exact ho)
      have hnw : s1.e.other ≤ s1.e.newest := by rw [q1]; simp only [AEnd.conc]; omega
      rw [if_pos ho, if_pos hnw] at e
      have hnote : X.e.note = some (X.e.heard - 1, X.e.mask) := by unfold AEnd.note; rw [if_pos hh]
      rw [if_pos (by rw [← q8]; exact ho)] at hX
      have hpk : (flushS x.c t).2.1 = APkt.enc own other ⟨none, X.e.note⟩ := by rw [e, q1, conc_ack own other X.e hh]
      have hl7 : (flushS x.c t).2.1.length = 7 := by rw [hpk, hnote, enc_len2]
      have hc : (x.fl t).c = { s1 with owes := false } := by show (flushS x.c t).1 = _; rw [e]
      exact ⟨fun n m hm _ => ⟨m, by rw [hc] at hm; rw [← q2]; exact hm, rfl⟩, fun n hn => by rw [hc] at hn; rw [← q2]; exact hn,
        fun k1 k2 => (by have hb := body_first hf1 (by rw [q4, q5]; exact k1) (by rw [hs1]; exact k2); rw [hl0] at hb; cases hb), (by rw [hc]; exact q4), (fun n hn => (by cases hn)),
        fun _ => ⟨_, by rw [hX]; exact List.mem_append_right _ List.mem_cons_self, hpk, rfl, fun hq => absurd rfl hq, fun _ => rfl⟩, fun hq => by omega, fun hq => absurd rfl hq, by rw [hX]; exact ⟨rfl, rfl⟩, by rw [hc]⟩
    · rw [if_neg ho] at e
      rw [if_neg (by rw [← q8]; exact ho)] at hX
      have hc : (x.fl t).c = s1 := by show (flushS x.c t).1 = _; rw [e]
      exact ⟨fun n m hm _ => ⟨m, by rw [hc] at hm; rw [← q2]; exact hm, rfl⟩, fun n hn => by rw [hc] at hn; rw [← q2]; exact hn,
        fun k1 k2 => (by have hb := body_first hf1 (by rw [q4, q5]; exact k1) (by rw [hs1]; exact k2); rw [hl0] at hb; cases hb), (by rw [hc]; exact q4), (fun n hn => (by cases hn)),
        fun hq => by rw [e] at hq; exact absurd rfl hq, fun _ => ⟨rfl, by rw [← q8]; simpa using ho⟩, fun hq => absurd rfl hq, by rw [hX]; exact ⟨rfl, rfl⟩, by rw [hc]; simpa using ho⟩
  · have e := flushS_send hlt hs1 hz
    have hbl := bodyS_len s1
    have hne : (bodyS s1).2 ≠ [] := by intro hq; rw [hq] at hz; exact absurd hz (by decide)
    have hX : flX X x t = X.make (bodyS s1).1 := by unfold flX; rw [← hs1, if_pos hz]
    obtain ⟨s2, hs2⟩ : ∃ s2 : ChS, s2 = { s1 with e := makeS s1.e, out := markS s1.out s1.e.next t (bodyS s1).2, packets := updI s1.packets s1.e.next (some (bodyS s1).2) } := ⟨_, rfl⟩
    rw [← hs2] at e
    have r2 : s2.out = markS x.c.out s1.e.next t (bodyS s1).2 := by rw [hs2]; show markS s1.out _ _ _ = _; rw [q2]
    have r3 : s2.packets = updI x.c.packets (own + (X.e.n : Int)) (some (bodyS s1).2) := by
      rw [hs2]; show updI s1.packets s1.e.next (some _) = _; rw [q3, q1]; rfl
    have r4 : s2.sent = x.c.sent := by rw [hs2]; exact q4
    have r5 : s2.first = x.c.first := by rw [hs2]; exact q5
    have hkeep : (decS s2 (lostP s1.e)).packets (own + (X.e.n : Int)) = some (bodyS s1).2 := by
      rw [decS_keep, r3]
      · simp [updI]
      · intro r hr
        rw [q1, conc_lost] at hr
        obtain ⟨r', hr', rfl⟩ := List.mem_map.1 hr
        have hlm := lost_mem h.i1 hr'
        simp only
        intro heq
        have hrn : r'.1 = X.e.n := by omega
        unfold AEnd.lost at hr'
        split at hr'
        · cases hr'
        · rename_i hl
          have hr2 := List.mem_singleton.1 hr'
          cases hp : X.e.pend with
          | nil => rw [hp] at hl; simp at hl
          | cons a l =>
            rw [hp] at hr2
            have h1 : r'.1 = a := by rw [hr2]; rfl
            have := (h.i1.pmem a (by rw [hp]; exact List.mem_cons_self)).1
            have := h.i1.n
            omega
    obtain ⟨f, out, pk, hd, hsub, hpk, -, -, -, -⟩ := decS_form s2 (lostP s1.e) (by rw [r4, r5]; exact h.d1.fit.fs)
    rw [hd] at hkeep
    have hpkt : packP (makeS s1.e) s1.e.next (bodyS s1).1 = APkt.enc own other ⟨some (X.e.n, (bodyS s1).1), X.e.note⟩ := by rw [q1, conc_pack]
    rw [hd, hpkt] at e
    have hel := enc_len own other X.e.n (bodyS s1).1 X.e.note hbl.1
    have hc : (x.fl t).c = { s2 with first := f, out := out, packets := pk, owes := false } := by show (flushS x.c t).1 = _; rw [e]
    refine ⟨fun n m hm hn => ?_, fun n hn => ?_, fun k1 k2 => (by have hb := body_first hf1 (by rw [q4, q5]; exact k1) (by rw [hs1]; exact k2); rw [q5] at hb; exact hb), (by rw [hc]; exact r4), (fun n hn => (by obtain ⟨m, hm⟩ := dueS_msg (bodyS_mem hn).2.2.2; rw [q2] at hm; rw [hm]; simp)), fun _ => ⟨_, by rw [hX]; exact List.mem_append_right _ List.mem_cons_self, by rw [e], rfl, fun _ => ⟨_, rfl⟩, fun hq => absurd hq hne⟩, fun hq => by rw [e] at hq; simp only at hq; omega, fun _ => ⟨by rw [hc]; exact hkeep, by rw [hX]; exact pend_make X.e⟩, by rw [hX]; exact ⟨rfl, rfl⟩, by rw [hc]⟩
    · rw [hc] at hm
      obtain ⟨z, hz1, -, z2, -⟩ := hsub n m hm
      rw [r2, markS_at, if_neg hn] at hz1
      exact ⟨z, hz1, z2⟩
    · rw [hc] at hn
      obtain ⟨m, hm⟩ := Option.ne_none_iff_exists'.1 hn
      obtain ⟨z, hz1, -, -, -⟩ := hsub n m hm
      rw [r2, markS_at] at hz1
      split at hz1
      · obtain ⟨z', hz2, -⟩ := Option.map_eq_some_iff.1 hz1
        rw [hz2]; simp
      · rw [hz1]; simp

/-! ### what comes -/
theorem recvS_form {s : ChS} {xs : List UInt8} (h : (recvP s.e xs).2.2.2 ≠ 190) : ∃ ea nx ow, (recvS s xs).1 = { decS { s with e := (recvP s.e xs).1 } (recvP s.e xs).2.2.1 with early := ea, next := nx, owes := ow } ∧
    ow = if (recvP s.e xs).2.2.2 = 0 ∧ (recvP s.e xs).2.1 = [] then (decS { s with e := (recvP s.e xs).1 } (recvP s.e xs).2.2.1).owes else true := by
  unfold recvS
  simp only
  rw [if_neg h]
  by_cases h1 : (recvP s.e xs).2.2.2 = 0 ∧ (recvP s.e xs).2.1 = []
  · rw [if_pos h1, if_pos h1]
    exact ⟨_, _, _, rfl, rfl⟩
  · rw [if_neg h1, if_neg h1]
    split
    · exact ⟨_, _, true, rfl, rfl⟩
    · split
      · exact ⟨_, _, true, rfl, rfl⟩
      · exact ⟨_, _, true, rfl, rfl⟩

/-- What y makes of a packet of x. -/
structure Tko (own other : Int) (Y : ASide) (y : CSide) (q : APkt) : Prop where
  tick : ∀ n m, (y.tk (APkt.enc own other q)).c.out n = some m → ∃ z, y.c.out n = some z ∧ m.tick = z.tick
  sent : (y.tk (APkt.enc own other q)).c.sent = y.c.sent
  hit : ∀ (k mk : Nat) l, q.ack = some (k, mk) → y.c.packets (other + (k : Int)) = some l → k ∈ Y.e.pend → ∀ n ∈ l, (y.tk (APkt.enc own other q)).c.out n = none
  fresh : ∀ (k : Nat) xs, q.body = some (k, xs) → Y.e.heard ≤ k → (y.tk (APkt.enc own other q)).c.owes = true ∧ (Y.take q).e.heard = k + 1
  ackonly : q.body = none → (y.tk (APkt.enc own other q)).c.owes = y.c.owes ∧ (Y.take q).e.heard = Y.e.heard

theorem tko {own other : Int} {X Y : ASide} {L K : List (List Nat)} {x y : CSide} (h : Lk own other X Y L K x y) {q : APkt} (hq : q ∈ X.made) (h0 : 0 ≤ own) (h2 : 0 ≤ other) : Tko own other Y y q := by
  have hpo := h.i1.pkts q hq
  obtain ⟨-, -, t3⟩ := take_inv h.i2 h.i1 hpo
  have hXn := h.i1.n; have hYn := h.i2.n; have eX := h.d1.eN; have eY := h.d2.eN
  have hh := h.i2.heard
  have hfits : q.Fits Y.e := ⟨hpo.any, fun k xs hk => by have := hpo.body k xs hk; exact ⟨this.2.1, this.2.2, by omega⟩, fun m mk hm => by have := hpo.ack m mk hm; exact ⟨by omega, this.2.1, this.2.2.1⟩⟩
  have hrc := recv_enc other own h2 h0 Y.e (by omega) (by omega) q hfits
  rw [← h.d2.ce] at hrc
  have hcode : (recvA Y.e q).2.2.2 = 0 ∨ (recvA Y.e q).2.2.2 = 191 ∨ (recvA Y.e q).2.2.2 = 192 := by
    rw [recvA_eq]; split
    · exact accept_code _ _
    · exact .inl rfl
  have hc190 : (recvP y.c.e (APkt.enc own other q)).2.2.2 ≠ 190 := by rw [hrc]; simp only; rcases hcode with e | e | e <;> rw [e] <;> decide
  obtain ⟨ea, nx, ow, hform, how⟩ := recvS_form hc190
  rw [hrc] at hform how
  simp only at hform how
  obtain ⟨s0, hs0⟩ : ∃ s0 : ChS, s0 = { y.c with e := (recvA Y.e q).1.conc other own } := ⟨_, rfl⟩
  rw [← hs0] at hform how
  obtain ⟨f, out, pk, hd, hsub, hpk, -, -, -, -⟩ := decS_form s0 ((recvA Y.e q).2.2.1.map fun r => (other + (r.1 : Int), r.2)) (by rw [hs0]; exact h.d2.fit.fs)
  have hc : (y.tk (APkt.enc own other q)).c = { decS s0 ((recvA Y.e q).2.2.1.map fun r => (other + (r.1 : Int), r.2)) with early := ea, next := nx, owes := ow } := hform
  refine ⟨fun n m hm => ?_, ?_, ?_, ?_, ?_⟩
  · rw [hc, hd] at hm
    obtain ⟨z, hz, -, z2, -⟩ := hsub n m hm
    rw [hs0] at hz
    exact ⟨z, hz, z2⟩
  · rw [hc, hd, hs0]
  · intro k mk l hak hp hk n hn
    rw [hc]
    show (decS s0 _).out n = none
    have hrep : (recvA Y.e q).2.2.1 = ackRA k mk Y.e.pend := by rw [recvA_eq, hak]; split <;> rfl
    have hsort : (((recvA Y.e q).2.2.1.map fun r => (other + (r.1 : Int), r.2)).map Prod.fst).Pairwise (· < ·) := by
      have := t3.sorted
      rw [List.map_map]
      rw [List.pairwise_map] at this ⊢
      exact this.imp fun hlt => by simp only [Function.comp]; omega
    refine decS_hits hsort (i := other + (k : Int)) (l := l) ?_ (by rw [hs0]; exact hp) hn
    rw [hrep, ackRA_eq]
    have hnm : namedA k mk k = true := by unfold namedA; simp
    exact List.mem_map.2 ⟨(k, true), List.mem_map.2 ⟨k, List.mem_filter.2 ⟨hk, by rw [hnm]; rfl⟩, by rw [hnm]⟩, rfl⟩
  · intro k xs hb hk
    have hra : recvA Y.e q = ({ (acceptA Y.e k).1 with pend := pendA q.ack Y.e.pend }, if (acceptA Y.e k).2 = 0 then xs else [], repA q.ack Y.e.pend, (acceptA Y.e k).2) := by rw [recvA_eq, hb]
    have hac : (acceptA Y.e k).2 = 0 ∧ (acceptA Y.e k).1.heard = k + 1 := by
      unfold acceptA
      rw [if_neg (by omega), if_neg (by omega), if_neg (by omega)]
      exact ⟨rfl, rfl⟩
    have hxl := (hpo.body k xs hb).2.1
    refine ⟨?_, ?_⟩
    · rw [hc]
      show ow = true
      rw [how, hra]
      simp only [hac.1, if_true]
      rw [if_neg]
      rintro ⟨-, hx⟩
      rw [hx] at hxl; simp at hxl
    · show (recvA Y.e q).1.heard = k + 1
      rw [hra]; exact hac.2
  · intro hb
    have hra : recvA Y.e q = ({ Y.e with pend := pendA q.ack Y.e.pend }, [], repA q.ack Y.e.pend, 0) := by rw [recvA_eq, hb]
    refine ⟨?_, ?_⟩
    · rw [hc]
      show ow = _
      rw [how, hra, if_pos ⟨rfl, rfl⟩]
      have := (decS_e (s := s0) (by rw [hs0]; exact h.d2.fit.fs) ((recvA Y.e q).2.2.1.map fun r => (other + (r.1 : Int), r.2))).2.2.2.2.1
      rw [hra] at this
      rw [this, hs0]
    · show (recvA Y.e q).1.heard = _
      rw [hra]

theorem fl_fields (x : CSide) (t : Int) : (x.fl t).sent = x.sent ∧ (x.fl t).got = x.got := ⟨rfl, rfl⟩
theorem due_old {x : CSide} {t t0 : Int} {m : OutM} (hm : x.c.out x.c.first = some m) (h1 : m.tick ≤ t0) (h2 : t0 + 8 ≤ t) : dueS { x.c with tick := t } x.c.first = true := by
  unfold dueS
  show (match x.c.out x.c.first with | none => false | some m => decide (m.packet < 0) || decide (8 ≤ t - m.tick)) = true
  rw [hm]
  simp only [Bool.or_eq_true, decide_eq_true_eq]
  exact .inr (by omega)
/-- Half a tick: x flushes, and the packet arrives at y. -/
theorem half_step {own other t0 t : Int} {X Y : ASide} {L K : List (List Nat)} {x y : CSide} {l : List Nat} (h : Half own other t0 X Y L K x y l) (h0 : 0 ≤ own) (h1 : own ≤ 1099511627776) (h2 : 0 ≤ other) (ht0 : x.c.tick ≤ t) (ht1 : t ≤ 9223372036854775807) (hN : X.e.n + 1 ≤ 29000) :
    ∃ X1 Y1 L1 l1, Half other own t0 Y1 X1 K L1 (halfS x y t).2 (halfS x y t).1 l1 ∧ X1.e.n ≤ X.e.n + 1 ∧ Y1.e.n = Y.e.n ∧
      waitS (halfS x y t).2.c ≤ waitL y.c l ∧ waitL (halfS x y t).1.c l1 ≤ waitS x.c - (if t0 + 8 ≤ t then 1 else 0) ∧ waitS (halfS x y t).1.c ≤ waitS x.c := by
  obtain ⟨l', hfl⟩ := flo (t0 := t0) h.lk ht0 ht1
  obtain ⟨-, -, -, X', L', hX', hL', k1, k2, k3, k4, k5⟩ := dir_flush h.lk.d1 h.lk.d2 h.lk.i1 h.lk.i2 ht0 ht1 hN (by decide) h1
  have hlk : Lk own other X' Y L' K (x.fl t) y := ⟨k1, k2, k4, k5⟩
  have hX'e : X'.e.heard = X.e.heard := by rw [hX']; exact hfl.hd.1
  -- what waits at x
  have hwx : waitL (x.fl t).c l' ≤ waitS x.c - (if t0 + 8 ≤ t then 1 else 0) := by
    unfold waitL
    rw [hfl.sent]
    have hle : ∀ n, n < x.c.sent → (if n ∈ l' then none else (x.fl t).c.out n) ≠ none → x.c.out n ≠ none := fun n _ hn => by
      split at hn
      · exact absurd rfl hn
      · exact hfl.some_ n hn
    by_cases hd : t0 + 8 ≤ t
    · rw [if_pos hd]
      rcases Nat.eq_zero_or_pos (waitS x.c) with hw | hw
      · have := cntN_le_of (f := fun n => if n ∈ l' then none else (x.fl t).c.out n) (g := x.c.out) hle
        have e : cntN x.c.out x.c.sent = 0 := hw
        omega
      · have hlt : x.c.first < x.c.sent := by
          rcases Nat.lt_or_ge x.c.first x.c.sent with q | q
          · exact q
          · exfalso
            have : cntN x.c.out x.c.sent = 0 := by
              have hz := cntN_le_of (f := x.c.out) (g := fun _ => (none : Option Unit)) (N := x.c.sent) (fun n hn hq => by have := h.lk.d1.fit.lo n hq; omega)
              have e0 : cntN (fun _ => (none : Option Unit)) x.c.sent = 0 := by unfold cntN; simp
              omega
            have e : waitS x.c = 0 := this
            omega
        have hhot := h.lk.d1.hot hlt
        obtain ⟨m, hm⟩ := Option.ne_none_iff_exists'.1 hhot
        have hin := hfl.due hlt (due_old hm (h.p1 _ _ hm) hd)
        have := cntN_lt_of (f := fun n => if n ∈ l' then none else (x.fl t).c.out n) (g := x.c.out) hle hlt (if_pos hin) hhot
        have e : waitS x.c = cntN x.c.out x.c.sent := rfl
        omega
    · rw [if_neg hd]
      exact cntN_le_of (f := fun n => if n ∈ l' then none else (x.fl t).c.out n) (g := x.c.out) hle
  have hp2 : ∀ n m, (x.fl t).c.out n = some m → n ∉ l' → m.tick ≤ t0 := fun n m hm hn => by
    obtain ⟨z, hz, hz2⟩ := hfl.tick n m hm hn
    rw [hz2]; exact h.p1 n z hz
  have hws : waitS (x.fl t).c ≤ waitS x.c := by
    unfold waitS
    rw [hfl.sent]
    exact cntN_le_of fun n _ hn => hfl.some_ n hn
  unfold halfS
  by_cases hp : (flushS x.c t).2.1.length = 0
  · rw [if_pos hp]
    obtain ⟨hl0, ho⟩ := hfl.none_ hp
    have hl : l = [] := by
      rcases h.ak with q | ⟨k, -, -, -, q⟩
      · exact q
      · rw [ho] at q; cases q
    subst hl hl0
    exact ⟨X', Y, L', [], ⟨hlk.swap, fun n m hm => h.p2 n m hm (by simp), hp2, .inl rfl⟩, k3, rfl, by rw [waitL_nil]; exact Nat.le_refl _, hwx, hws⟩
  · rw [if_neg hp]
    obtain ⟨q, hq, hqe, hqa, hqb, -⟩ := hfl.pkt hp
    rw [← hX'] at hq
    rw [hqe]
    have htk := tko hlk hq h0 h2
    obtain ⟨-, -, -, X1, Y1, hX1, hY1, r1, r2, r3, r4, r5, r6⟩ := dir_take hlk.d1 hlk.d2 hlk.i1 hlk.i2 hq (Nat.le_refl _) h0 h1 h2
    have hlk1 : Lk own other X1 Y1 L' K (x.fl t) (y.tk (APkt.enc own other q)) := ⟨r1, r2, r5, r6⟩
    have hX1e : X1.e = X'.e := by rw [hX1]; unfold ASide.given; split <;> (try split) <;> rfl
    have hgone : ∀ n m, (y.tk (APkt.enc own other q)).c.out n = some m → n ∉ l := fun n m hm hn => by
      rcases h.ak with q' | ⟨k, a1, a2, a3, a4⟩
      · subst q'; cases hn
      · have hnote : X.e.note = some (k, X.e.mask) := by unfold AEnd.note; rw [if_pos (by omega), a3]; rfl
        rw [hnote] at hqa
        have := htk.hit k X.e.mask l hqa a1 a2 n hn
        rw [this] at hm; cases hm
    refine ⟨X1, Y1, L', l', ⟨hlk1.swap, fun n m hm => ?_, hp2, ?_⟩, by omega, r4, ?_, hwx, hws⟩
    · obtain ⟨z, hz, hz2⟩ := htk.tick n m hm
      rw [hz2]; exact h.p2 n z hz (hgone n m hm)
    · rcases Classical.em (l' = []) with q' | q'
      · exact .inl q'
      · refine .inr ⟨X.e.n, (hfl.msg q').1, by rw [hX1e, hX']; exact (hfl.msg q').2, ?_⟩
        obtain ⟨xs, hxs⟩ := hqb q'
        have hhd : Y.e.heard ≤ X.e.n := by have := h.lk.i2.heard; have := h.lk.i1.n; omega
        have hfr := htk.fresh X.e.n xs hxs hhd
        exact ⟨by rw [hY1]; exact hfr.2, hfr.1⟩
    · show cntN _ (y.tk (APkt.enc own other q)).c.sent ≤ waitL y.c l
      rw [htk.sent]
      unfold waitL
      refine cntN_le_of (g := fun n => if n ∈ l then none else y.c.out n) fun n _ hn => ?_
      obtain ⟨m, hm⟩ := Option.ne_none_iff_exists'.1 hn
      obtain ⟨z, hz, -⟩ := htk.tick n m hm
      show (if n ∈ l then none else y.c.out n) ≠ none
      rw [if_neg (hgone n m hm), hz]; simp

/-- A half of a tick, with the ghosts hidden. -/
def HalfI (own other t0 : Int) (m : Nat) (x y : CSide) (l : List Nat) : Prop := ∃ X Y L K, Half own other t0 X Y L K x y l ∧ X.e.n ≤ m ∧ Y.e.n ≤ m
theorem CInv.half {own other : Int} {m : Nat} {x y : CSide} {t : Int} (h : CInv own other m x y t) (hm : m + 2 ≤ 29000) (h0 : 0 ≤ own) (h1 : own ≤ 1099511627776) (h2 : 0 ≤ other) :
    (flushS x.c t).2.2 = 0 ∧ (flushS x.c t).2.1.length ≤ 1200 ∧ CInv own other (m + 1) (x.fl t) y t ∧ ((flushS x.c t).2.1.length ≠ 0 → (flushS x.c t).2.1 ∈ (x.fl t).made) ∧ CInv other own (m + 2) (halfS x y t).2 (halfS x y t).1 t := by
  obtain ⟨e0, e1, e2⟩ := h.flush (by omega) h1 (d := 0) (by decide)
  rw [Int.natCast_zero, Int.add_zero] at e0 e1 e2
  have hmem : (flushS x.c t).2.1.length ≠ 0 → (flushS x.c t).2.1 ∈ (x.fl t).made := fun hp => by
    show _ ∈ (if (flushS x.c t).2.1.length = 0 then x.made else x.made ++ [(flushS x.c t).2.1])
    rw [if_neg hp]; exact List.mem_append_right _ List.mem_cons_self
  refine ⟨e0, e1, e2, hmem, ?_⟩
  unfold halfS
  by_cases hp : (flushS x.c t).2.1.length = 0
  · rw [if_pos hp]; exact (e2.mono (Nat.le_succ _)).swap
  · rw [if_neg hp]
    exact (e2.swap.take (by omega) h2 h1 h0 (hmem hp)).2.2.2.2
theorem HalfI.step {own other t0 t : Int} {m : Nat} {x y : CSide} {l : List Nat} (h : HalfI own other t0 m x y l) (h0 : 0 ≤ own) (h1 : own ≤ 1099511627776) (h2 : 0 ≤ other) (ht0 : x.c.tick ≤ t) (ht1 : t ≤ 9223372036854775807) (hN : m + 1 ≤ 29000) :
    ∃ l1, HalfI other own t0 (m + 1) (halfS x y t).2 (halfS x y t).1 l1 ∧ waitS (halfS x y t).2.c ≤ waitL y.c l ∧ waitL (halfS x y t).1.c l1 ≤ waitS x.c - (if t0 + 8 ≤ t then 1 else 0) ∧ waitS (halfS x y t).1.c ≤ waitS x.c := by
  obtain ⟨X, Y, L, K, hh, hx, hy⟩ := h
  obtain ⟨X1, Y1, L1, l1, k1, k2, k3, k4, k5, k6⟩ := half_step hh h0 h1 h2 ht0 ht1 (by omega)
  exact ⟨l1, ⟨Y1, X1, K, L1, k1, by omega, by omega⟩, k4, k5, k6⟩

/-- A tick of calm. -/
def calmS (a b : CSide) (t : Int) : CSide × CSide := ((halfS (halfS a b t).2 (halfS a b t).1 t).2, (halfS (halfS a b t).2 (halfS a b t).1 t).1)
/-- What holds after n ticks of calm. -/
structure Calm (own other t0 : Int) (W n m : Nat) (a b : CSide) (t : Int) : Prop where
  inv : CInv own other m a b t
  hi : ∃ l, HalfI own other t0 m a b l ∧ waitL b.c l ≤ W - (n - 7)
  wa : waitS a.c ≤ W - (n - 7)
  wb : waitS b.c ≤ W - (n - 8)
  tn : t = t0 + (n : Int)
theorem calm_start {own other t0 : Int} {m : Nat} {a b : CSide} (h : CInv own other m a b t0) {W : Nat} (ha : waitS a.c ≤ W) (hb : waitS b.c ≤ W) : Calm own other t0 W 0 m a b t0 := by
  refine ⟨h, ⟨[], ?_, by rw [waitL_nil]; omega⟩, by omega, by omega, by omega⟩
  obtain ⟨X, Y, L, K, h1, h2, h3, h4, h5, h6⟩ := h.ex
  have hta := h.ta; have htb := h.tb
  refine ⟨X, Y, L, K, ⟨⟨h1, h2, h3, h4⟩, fun n x hx => ?_, fun n x hx _ => ?_, .inl rfl⟩, h5, h6⟩
  · have := (h3.fit.msg n x hx).2.2.2.2; omega
  · have := (h4.fit.msg n x hx).2.2.2.2; omega
theorem calm_tick {own other t0 : Int} {W n m : Nat} {a b : CSide} {t : Int} (h : Calm own other t0 W n m a b t) (h0 : 0 ≤ own) (h1 : own ≤ 1099511627776) (h2 : 0 ≤ other) (h3 : other ≤ 1099511627776) (hm : m + 10 ≤ 29000) : Calm own other t0 W (n + 1) (m + 5) (calmS a b (t + 1)).1 (calmS a b (t + 1)).2 (t + 1) := by
  obtain ⟨hinv, ⟨l, hh, hwl⟩, hwa, hwb, htn⟩ := h
  have hinv1 : CInv own other (m + 1) a b (t + 1) := by
    obtain ⟨q1, q2, q3, q4, q5, q6, q7, q8, q9⟩ := hinv.mono (Nat.le_succ m)
    exact ⟨q1, q2, q3, q4, q5, by omega, by omega, by omega, by have := hinv.t1; omega⟩
  have ht9 := hinv1.t1
  obtain ⟨-, -, -, -, hinv2⟩ := hinv1.half (by omega) h0 h1 h2
  obtain ⟨l1, hh1, w1, w2, w3⟩ := HalfI.step (t := t + 1) hh h0 h1 h2 (by have := hinv1.ta; omega) (by omega) (by omega)
  obtain ⟨-, -, -, -, hinv3⟩ := hinv2.half (by omega) h2 h3 h0
  obtain ⟨l2, hh2, w4, w5, w6⟩ := HalfI.step (t := t + 1) hh1 h2 h3 h0 (by have := hinv2.ta; omega) (by omega) (by omega)
  have hd : (t0 + 8 ≤ t + 1) ↔ 8 ≤ n + 1 := by omega
  obtain ⟨X, Y, L, K, z1, z2, z3⟩ := hh2
  refine ⟨hinv3, ⟨l2, ⟨X, Y, L, K, z1, by omega, by omega⟩, ?_⟩, ?_, ?_, by omega⟩
  · show waitL (halfS (halfS a b (t + 1)).2 (halfS a b (t + 1)).1 (t + 1)).1.c l2 ≤ _
    by_cases h8 : 8 ≤ n + 1
    · rw [if_pos (hd.2 h8)] at w5; omega
    · rw [if_neg (fun q => h8 (hd.1 q))] at w5; omega
  · show waitS (halfS (halfS a b (t + 1)).2 (halfS a b (t + 1)).1 (t + 1)).2.c ≤ _
    by_cases h8 : 8 ≤ n + 1
    · rw [if_pos (hd.2 h8)] at w2; omega
    · rw [if_neg (fun q => h8 (hd.1 q))] at w2; omega
  · show waitS (halfS (halfS a b (t + 1)).2 (halfS a b (t + 1)).1 (t + 1)).1.c ≤ _
    omega

/-! ### with nothing to send -/
theorem idle_half {own other : Int} {m : Nat} {x y : CSide} {t : Int} (h : CInv own other m x y t) (hm : m + 2 ≤ 29000) (h0 : 0 ≤ own) (h1 : own ≤ 1099511627776) (h2 : 0 ≤ other) (hw : waitS x.c = 0) (hw2 : waitS y.c = 0) :
    ((flushS x.c t).2.1.length = 0 ∨ (flushS x.c t).2.1.length = 7 ∧ x.c.owes = true) ∧ (x.fl t).c.owes = false ∧ waitS (halfS x y t).1.c = 0 ∧ waitS (halfS x y t).2.c = 0 ∧ (halfS x y t).1.c.owes = false ∧ (halfS x y t).2.c.owes = y.c.owes := by
  obtain ⟨X, Y, L, K, k1, k2, k3, k4, k5, k6⟩ := h.ex
  have hlk : Lk own other X Y L K x y := ⟨k1, k2, k3, k4⟩
  have ht9 := h.t1
  obtain ⟨l, hfl⟩ := flo (t0 := t) hlk h.ta (by omega)
  have hl : l = [] := by
    cases l with
    | nil => rfl
    | cons n l =>
      exfalso
      have hn := hfl.mem n List.mem_cons_self
      exact hn (cntN_zero hw n (k3.fit.lo n hn).2)
  subst hl
  have hws : waitS (x.fl t).c = 0 := by
    have e : waitS (x.fl t).c ≤ waitS x.c := by
      unfold waitS
      rw [hfl.sent]
      exact cntN_le_of fun n _ hn => hfl.some_ n hn
    omega
  obtain ⟨-, -, -, X', L', hX', hL', r1, r2, r3, r4, r5⟩ := dir_flush k3 k4 k1 k2 h.ta (by omega) (by omega) (by decide) h1
  have hlk' : Lk own other X' Y L' K (x.fl t) y := ⟨r1, r2, r4, r5⟩
  unfold halfS
  by_cases hp : (flushS x.c t).2.1.length = 0
  · rw [if_pos hp]
    exact ⟨.inl hp, hfl.owes, hws, hw2, hfl.owes, rfl⟩
  · rw [if_neg hp]
    obtain ⟨q, hq, hqe, hqa, -, hqb⟩ := hfl.pkt hp
    rw [← hX'] at hq
    have hbn := hqb rfl
    have hany := (r1.pkts q hq).any
    have h7 : (flushS x.c t).2.1.length = 7 := by
      rw [hqe]
      obtain ⟨pb, pa⟩ := q
      simp only at hbn hany
      subst hbn
      cases pa with
      | none => exact absurd hany (by simp)
      | some r => obtain ⟨r1, r2⟩ := r; exact enc_len2 _ _ _ _
    have how : x.c.owes = true := by
      cases ho : x.c.owes with
      | true => rfl
      | false =>
        exfalso
        have hlt : ¬ t < x.c.tick := by have := h.ta; omega
        obtain ⟨s1, hs1⟩ : ∃ s1 : ChS, s1 = { x.c with tick := t } := ⟨_, rfl⟩
        have hz : (bodyS s1).2.length = 0 := by
          rcases Nat.eq_zero_or_pos (bodyS s1).2.length with q | q
          · exact q
          · exfalso
            obtain ⟨n, hn⟩ := List.exists_mem_of_length_pos q
            have := bodyS_mem hn
            obtain ⟨m', hm'⟩ := dueS_msg this.2.2.2
            rw [hs1] at hm'
            have hm2 : x.c.out n = some m' := hm'
            have := cntN_zero hw n (k3.fit.lo n (by rw [hm2]; simp)).2
            rw [hm2] at this; cases this
        have e := flushS_none hlt hs1 hz
        rw [if_neg (by rw [hs1]; simp [ho])] at e
        rw [e] at hp; exact hp rfl
    rw [hqe]
    have htk := tko hlk' hq h0 h2
    have hao := htk.ackonly hbn
    have hwy : waitS (y.tk (APkt.enc own other q)).c = 0 := by
      have e : waitS (y.tk (APkt.enc own other q)).c ≤ waitS y.c := by
        unfold waitS
        rw [htk.sent]
        refine cntN_le_of fun n _ hn => ?_
        obtain ⟨m', hm'⟩ := Option.ne_none_iff_exists'.1 hn
        obtain ⟨z, hz, -⟩ := htk.tick n m' hm'
        rw [hz]; simp
      omega
    exact ⟨.inr ⟨by rw [← hqe]; exact h7, how⟩, hfl.owes, hws, hwy, hfl.owes, hao.1⟩
end Go.Proofs.Ythjjipcbpmdfnaa
