/-
  PLAIN LAW of ChannelWraps: 66000 messages, up to 64 in a packet; what each call does to the sender; no program in sight.
-/
import Derived.Test.YthjjipcbpmdfnaaChTA
import Derived.Test.YthjjipcbpmdfnaaChLV
namespace Go.Proofs.Ythjjipcbpmdfnaa

/-- Message i. -/
def mw (i : Nat) : List UInt8 := [UInt8.ofNat i, UInt8.ofNat (i / 256), UInt8.ofNat (i / 65536)]
def MW : List (List UInt8) := (List.range 66000).map mw
theorem MW_len : MW.length = 66000 := by unfold MW; rw [List.length_map, List.length_range]
theorem MW_at {i : Nat} (h : i < 66000) : MW[i]? = some (mw i) := by
  unfold MW; rw [List.getElem?_map, List.getElem?_range h]; rfl
theorem MW_get {i : Nat} (h : i < 66000) : MW.getD i [] = mw i := getD_of (MW_at h)
theorem MW_short : ∀ b ∈ MW, b.length ≤ 1024 := by
  intro b hb
  unfold MW at hb
  obtain ⟨i, -, rfl⟩ := List.mem_map.1 hb
  simp [mw]
theorem encM_len7 : ∀ {l : List Nat}, (∀ n ∈ l, n < 66000) → (encM MW l).length = 7 * l.length
  | [], _ => rfl
  | n :: l, h => by
    simp only [encM, MW_get (h n List.mem_cons_self), List.length_append, List.length_cons]
    rw [encM_len7 (l := l) fun k hk => h k (List.mem_cons_of_mem _ hk)]
    simp only [hdrB, mw, List.length_cons, List.length_nil]; omega
theorem mem_range1 {f W n : Nat} : n ∈ List.range' f W ↔ f ≤ n ∧ n < f + W := by
  rw [List.mem_range'_1]
theorem bodyG_range {s : ChS} {f W : Nat} (hf : s.first = f) (hW : W ≤ 64) (ho : ∀ i m, s.out i = some m → m.b = mw i ∧ i < 66000) (hd : ∀ i, f ≤ i → i < f + W → dueS s i = true) :
    ∀ j, j ≤ W → (bodyG s j).2 = List.range' f j
  | 0, _ => rfl
  | j + 1, hj => by
    have ih := bodyG_range hf hW ho hd j (by omega)
    have hdj := hd (f + j) (by omega) (by omega)
    obtain ⟨x, hx⟩ := dueS_some hdj
    have hl : (bodyG s j).1.length = 7 * j := by
      rw [bodyG_enc (M := MW) (fun n m hm => by obtain ⟨h1, h2⟩ := ho n m hm; rw [h1]; exact MW_at h2), encM_len7, ih, List.length_range']
      intro n hn
      obtain ⟨-, hn2, hn3⟩ := bodyG_mem s j n hn
      obtain ⟨y, hy⟩ := dueS_some hn3
      exact (ho n y hy).2
    rw [bodyG_due (by rw [hf]; exact hdj) (by rw [hf]; exact hx) (by rw [hl, (ho _ _ hx).1]; simp [mw]; omega)]
    show (bodyG s j).2 ++ [s.first + j] = _
    rw [ih, hf, List.range'_1_concat]
theorem sorted_len {hi : Nat} : ∀ {l : List Nat} {lo : Nat}, l.Pairwise (· < ·) → (∀ k ∈ l, lo ≤ k ∧ k < hi) → l.length ≤ hi - lo
  | [], _, _, _ => Nat.zero_le _
  | x :: l, lo, hs, hm => by
    rw [List.pairwise_cons] at hs
    have hx := hm x List.mem_cons_self
    have := sorted_len (hi := hi) (l := l) (lo := x + 1) hs.2 fun k hk => ⟨hs.1 k hk, (hm k (List.mem_cons_of_mem _ hk)).2⟩
    simp only [List.length_cons]; omega
theorem cntN_window {α : Type} {g : Nat → Option α} {f S : Nat} (h : ∀ i, (g i).isSome = decide (f ≤ i ∧ i < S)) : ∀ N : Nat, cntN g N = min N S - min N f
  | 0 => by simp [cntN]
  | N + 1 => by
    rw [cntN_succ, cntN_window h N, h N]
    by_cases hc : f ≤ N ∧ N < S
    · rw [if_pos (by simpa using hc)]; omega
    · rw [if_neg (by simpa using hc)]; omega

/-- The sender: n packets were made; messages below f are done, those below S were sent; md: nothing is under way (none), or the window was sent at a tick. -/
structure WA (c n : Nat) (pend : List Nat) (f S : Nat) (md : Option Int) (t : Int) (a : ChS) : Prop where
  e : a.e = AEnd.conc 65000 1099511627776 ⟨n, 0, 0, pend⟩
  first : a.first = f
  sent : a.sent = S
  owes : a.owes = false
  tick : a.tick = t
  fS : f ≤ S
  S66 : S ≤ 66000
  pl : ∀ k ∈ pend, k < n ∧ n ≤ k + c
  ps : pend.Pairwise (· < ·)
  has : ∀ i, f ≤ i → i < S → a.out i ≠ none
  bod : ∀ i m, a.out i = some m → f ≤ i ∧ i < S ∧ m.b = mw i
  idle : md = none → ∀ i m, a.out i = some m → m.packet = -1
  busy : ∀ t0, md = some t0 → t0 ≤ t ∧ ∀ i m, a.out i = some m → (i < f + 64 → 0 ≤ m.packet ∧ m.tick = t0) ∧ (f + 64 ≤ i → m.packet = -1)
  pk : ∀ p l, a.packets p = some l → ∀ i ∈ l, i < f + if md = none then 0 else min (S - f) 64

section
variable {c n : Nat} {pend : List Nat} {f S : Nat} {md : Option Int} {t t0 : Int} {a : ChS}
theorem WA.wait (h : WA c n pend f S md t a) : waitS a = S - f := by
  unfold waitS
  rw [cntN_window (f := f) (S := S), h.sent]
  · have := h.fS; omega
  · intro i
    by_cases hc : f ≤ i ∧ i < S
    · have := h.has i hc.1 hc.2
      rw [decide_eq_true hc]
      cases hx : a.out i with
      | none => exact absurd hx this
      | some x => rfl
    · rw [decide_eq_false hc]
      cases hx : a.out i with
      | none => rfl
      | some x => have := h.bod i x hx; exact absurd ⟨this.1, this.2.1⟩ hc
theorem WA.send (h : WA c n pend f S none t a) (hw : S < f + 256) (h66 : S < 66000) : (sendS a (mw S)).2 = 0 ∧ WA c n pend f (S + 1) none t (sendS a (mw S)).1 := by
  have e : sendS a (mw S) = ({ a with out := updN a.out a.sent (some ⟨mw S, -1, 0⟩), sent := a.sent + 1 }, 0) := by
    unfold sendS
    rw [if_neg (by simp [mw]), if_neg (by rw [h.wait]; omega)]
  rw [e, h.sent]
  have hfS := h.fS
  refine ⟨rfl, ⟨h.e, h.first, rfl, h.owes, h.tick, by omega, by omega, h.pl, h.ps, fun i h1 h2 => ?_, fun i m hm => ?_, fun _ i m hm => ?_, fun t0 ht0 => (by cases ht0), ?_⟩⟩
  · show (if i = S then some (⟨mw S, -1, 0⟩ : OutM) else a.out i) ≠ none
    split
    · simp
    · exact h.has i h1 (by omega)
  · have hm' : (if i = S then some (⟨mw S, -1, 0⟩ : OutM) else a.out i) = some m := hm
    split at hm'
    · rename_i he
      injection hm' with hm'; subst hm'; subst he
      exact ⟨hfS, by omega, rfl⟩
    · have := h.bod i m hm'; exact ⟨this.1, by omega, this.2.2⟩
  · have hm' : (if i = S then some (⟨mw S, -1, 0⟩ : OutM) else a.out i) = some m := hm
    split at hm'
    · injection hm' with hm'; subst hm'; rfl
    · exact h.idle rfl i m hm'
  · intro p l hp i hi
    have := h.pk p l hp i hi
    simpa using this
theorem WA.quiet (h : WA c n pend f S (some t0) t a) {t' : Int} (ht : t ≤ t') (h8 : t' < t0 + 8) : flushS a t' = ({ a with tick := t' }, [], 0) ∧ WA c n pend f S (some t0) t' { a with tick := t' } := by
  obtain ⟨hb1, hb2⟩ := h.busy t0 rfl
  have hz : (bodyS { a with tick := t' }).2 = [] := by
    rw [List.eq_nil_iff_forall_not_mem]
    intro i hi
    obtain ⟨q1, q2, q3, q4⟩ := bodyS_mem hi
    obtain ⟨x, hx⟩ := dueS_some q4
    have hx' : a.out i = some x := hx
    have q3' : i < a.first + 64 := q3
    rw [h.first] at q3'
    obtain ⟨b1, b2⟩ := (hb2 i x hx').1 q3'
    unfold dueS at q4
    rw [hx] at q4
    simp only [Bool.or_eq_true, decide_eq_true_eq] at q4
    omega
  refine ⟨?_, ⟨h.e, h.first, h.sent, h.owes, rfl, h.fS, h.S66, h.pl, h.ps, h.has, h.bod, fun e => (by cases e), fun t1 e1 => ?_, h.pk⟩⟩
  · rw [flushS_none (s1 := { a with tick := t' }) (by rw [h.tick]; omega) rfl (by rw [hz]; rfl)]
    rw [if_neg (show ¬ a.owes = true by rw [h.owes]; decide)]
  · injection e1 with e1; subst e1
    exact ⟨by omega, hb2⟩
theorem WA.flush (h : WA c n pend f S md t a) (hfS : f < S) {t' : Int} (ht : t ≤ t') (hd : ∀ t0, md = some t0 → t0 + 8 ≤ t') (hc : c ≤ 200) (hn : n < 30000) :
    (flushS a t').2 = (APkt.enc 65000 1099511627776 ⟨some (n, encM MW (List.range' f (min (S - f) 64))), none⟩, 0) ∧ WA (c + 1) (n + 1) (pend ++ [n]) f S (some t') t' (flushS a t').1 ∧ (flushS a t').1.packets (65000 + (n : Int)) = some (List.range' f (min (S - f) 64)) := by
  obtain ⟨W, hW⟩ : ∃ W, W = min (S - f) 64 := ⟨_, rfl⟩
  rw [← hW]
  have hW0 : 0 < W := by omega
  obtain ⟨s1, hs1⟩ : ∃ s1 : ChS, s1 = { a with tick := t' } := ⟨_, rfl⟩
  have q0 : s1.e = a.e := by rw [hs1]
  have q1 : s1.sent = S := by rw [hs1]; exact h.sent
  have q2 : s1.first = f := by rw [hs1]; exact h.first
  have q3 : s1.tick = t' := by rw [hs1]
  have q4 : s1.out = a.out := by rw [hs1]
  have q5 : s1.packets = a.packets := by rw [hs1]
  have hS66 := h.S66
  have hdue : ∀ i, f ≤ i → i < f + W → dueS s1 i = true := by
    intro i h1 h2
    have hne := h.has i h1 (by omega)
    cases hx : a.out i with
    | none => exact absurd hx hne
    | some x =>
      unfold dueS
      rw [q4, hx, q3]
      simp only [Bool.or_eq_true, decide_eq_true_eq]
      cases md with
      | none => have := h.idle rfl i x hx; omega
      | some t0 =>
        have := (h.busy t0 rfl).2 i x hx
        have h8 := hd t0 rfl
        have := (this.1 (by omega)).2
        omega
  have hl : (bodyS s1).2 = List.range' f W := by
    unfold bodyS
    rw [q1, q2, show min S (f + 64) - f = W by omega]
    exact bodyG_range q2 (by omega) (fun i m hm => by rw [q4] at hm; have := h.bod i m hm; exact ⟨this.2.2, by omega⟩) hdue W (Nat.le_refl _)
  have hb : (bodyS s1).1 = encM MW (List.range' f W) := by
    rw [bodyS_enc (M := MW) (fun i m hm => by rw [q4] at hm; have := h.bod i m hm; rw [this.2.2]; exact MW_at (by omega)), hl]
  have hpl : pend.length < 256 := by
    have := sorted_len (hi := n) (l := pend) (lo := n - c) h.ps fun k hk => by have := h.pl k hk; omega
    omega
  rw [flushS_send (by rw [h.tick]; omega) hs1 (by rw [hl, List.length_range']; exact hW0), hl, hb, q0, h.e, conc_pack]
  have hlost : lostP (AEnd.conc 65000 1099511627776 ⟨n, 0, 0, pend⟩) = [] := by
    rw [conc_lost]; unfold AEnd.lost; simp only; rw [if_pos hpl]; rfl
  have hmk : makeS (AEnd.conc 65000 1099511627776 ⟨n, 0, 0, pend⟩) = AEnd.conc 65000 1099511627776 ⟨n + 1, 0, 0, pend ++ [n]⟩ := by
    rw [conc_make]; unfold AEnd.make; simp only; rw [if_pos hpl]
  have hnx : (AEnd.conc 65000 1099511627776 ⟨n, 0, 0, pend⟩).next = 65000 + (n : Int) := rfl
  rw [hlost, hmk, hnx, q4, q5]
  have hmo : ∀ i, markS a.out (65000 + (n : Int)) t' (List.range' f W) i = if f ≤ i ∧ i < f + W then (a.out i).map fun m => { m with packet := 65000 + (n : Int), tick := t' } else a.out i := by
    intro i; rw [markS_at]
    by_cases hi : f ≤ i ∧ i < f + W
    · rw [if_pos (mem_range1.2 hi), if_pos hi]
    · rw [if_neg (fun hc => hi (mem_range1.1 hc)), if_neg hi]
  generalize markS a.out (65000 + (n : Int)) t' (List.range' f W) = out' at hmo ⊢
  have hne' : ∀ i, f ≤ i → i < S → out' i ≠ none := by
    intro i h1 h2
    rw [hmo]
    have := h.has i h1 h2
    split
    · cases hx : a.out i with
      | none => exact absurd hx this
      | some x => simp
    · exact this
  obtain ⟨s2, hs2⟩ : ∃ s2 : ChS, s2 = { s1 with e := AEnd.conc 65000 1099511627776 ⟨n + 1, 0, 0, pend ++ [n]⟩, out := out', packets := updI a.packets (65000 + (n : Int)) (some (List.range' f W)) } := ⟨_, rfl⟩
  rw [← hs2]
  have hdec : decS s2 [] = s2 := by
    unfold decS
    simp only [List.foldl_nil]
    rw [adv_stop (by rw [hs2]; show out' s1.first ≠ none; rw [q2]; exact hne' f (Nat.le_refl _) hfS)]
  rw [hdec]
  refine ⟨by unfold AEnd.note; rfl, ⟨by rw [hs2], by rw [hs2]; exact q2, by rw [hs2]; exact q1, rfl, by rw [hs2]; exact q3, h.fS, h.S66, ?_, ?_, ?_, ?_, fun e => (by cases e), ?_, ?_⟩, ?_⟩
  · intro k hk
    rcases List.mem_append.1 hk with hk | hk
    · have := h.pl k hk; omega
    · rw [List.mem_singleton.1 hk]; omega
  · rw [List.pairwise_append]
    refine ⟨h.ps, List.pairwise_singleton _ _, fun x hx y hy => ?_⟩
    rw [List.mem_singleton.1 hy]; exact (h.pl x hx).1
  · intro i h1 h2; rw [hs2]; exact hne' i h1 h2
  · intro i m hm
    have hm' : out' i = some m := by rw [hs2] at hm; exact hm
    rw [hmo] at hm'
    split at hm'
    · cases hx : a.out i with
      | none => rw [hx] at hm'; cases hm'
      | some x =>
        rw [hx] at hm'
        simp only [Option.map_some, Option.some.injEq] at hm'
        have := h.bod i x hx
        subst hm'; exact this
    · exact h.bod i m hm'
  · intro t1 e1
    injection e1 with e1; subst e1
    refine ⟨Int.le_refl _, fun i m hm => ?_⟩
    have hm' : out' i = some m := by rw [hs2] at hm; exact hm
    rw [hmo] at hm'
    split at hm'
    · rename_i hi
      cases hx : a.out i with
      | none => rw [hx] at hm'; cases hm'
      | some x =>
        rw [hx] at hm'
        simp only [Option.map_some, Option.some.injEq] at hm'
        subst hm'
        exact ⟨fun _ => ⟨by show 0 ≤ 65000 + (n : Int); omega, rfl⟩, fun h64 => by omega⟩
    · rename_i hi
      have hbd := h.bod i m hm'
      refine ⟨fun h64 => absurd ⟨hbd.1, by omega⟩ hi, fun h64 => ?_⟩
      cases md with
      | none => exact h.idle rfl i m hm'
      | some t0 => exact ((h.busy t0 rfl).2 i m hm').2 h64
  · intro p l hp i hi
    have hp' : (if p = 65000 + (n : Int) then some (List.range' f W) else a.packets p) = some l := by rw [hs2] at hp; exact hp
    rw [if_neg (by simp), ← hW]
    split at hp'
    · injection hp' with hp'; subst hp'
      exact (mem_range1.1 hi).2
    · have := h.pk p l hp' i hi
      rw [← hW] at this
      split at this <;> omega
  · rw [hs2]
    show (if (65000 + (n : Int)) = 65000 + (n : Int) then some (List.range' f W) else _) = _
    rw [if_pos rfl]

theorem dec1_far {r : Int × Bool} {out : Nat → Option OutM} {m i : Nat} (h : i ≠ m) : dec1 r out m i = out i := by
  cases hx : out m with
  | none => simp [dec1, hx]
  | some x =>
    by_cases hr : r.2 = true
    · simp [dec1, hx, hr, updN, h]
    · by_cases hp : x.packet = r.1
      · simp [dec1, hx, hr, hp, updN, h]
      · simp [dec1, hx, hr, hp]
theorem fold1_far {r : Int × Bool} {i : Nat} : ∀ {l : List Nat} {out : Nat → Option OutM}, i ∉ l → l.foldl (dec1 r) out i = out i
  | [], _, _ => rfl
  | m :: l, out, h => by
    rw [List.foldl_cons, fold1_far (l := l) (fun hc => h (List.mem_cons_of_mem _ hc)), dec1_far (fun e => h (by rw [e]; exact List.mem_cons_self))]
theorem foldR_far {i : Nat} : ∀ {rs : List (Int × Bool)} {s : ChS}, (∀ p l, s.packets p = some l → i ∉ l) → (rs.foldl decR s).out i = s.out i
  | [], _, _ => rfl
  | r :: rs, s, h => by
    rw [List.foldl_cons, foldR_far (rs := rs) (s := decR s r)]
    · show ((s.packets r.1).getD []).foldl (dec1 r) s.out i = s.out i
      refine fold1_far ?_
      cases hp : s.packets r.1 with
      | none => simp
      | some l => exact h r.1 l hp
    · intro p l hp
      simp only [decR, updI] at hp
      split at hp
      · cases hp
      · exact h p l hp
theorem WA.ack (h : WA c n pend f S (some t0) t a) (hfS : f < S) {m mk : Nat} (hm : n = m + 1) (hn : n ≤ 30000) (hmp : m ∈ pend) (hpk : a.packets (65000 + (m : Int)) = some (List.range' f (min (S - f) 64))) (hmk : mk < 4294967296) (hbit : ∀ i, mk.testBit i = true → i + 1 ≤ m) :
    (recvS a (APkt.enc 1099511627776 65000 ⟨none, some (m, mk)⟩)).2 = ([], 0) ∧ WA 33 n (ackLA m mk pend) (f + min (S - f) 64) S none t (recvS a (APkt.enc 1099511627776 65000 ⟨none, some (m, mk)⟩)).1 := by
  obtain ⟨W, hW⟩ : ∃ W, W = min (S - f) 64 := ⟨_, rfl⟩
  rw [← hW] at hpk ⊢
  have hr := recv_enc 65000 1099511627776 (by decide) (by decide) ⟨n, 0, 0, pend⟩ hn (Nat.zero_le _) ⟨none, some (m, mk)⟩ ⟨.inr (by simp), fun k xs hx => (by cases hx), fun m' mk' hx => by
    simp only [Option.some.injEq, Prod.mk.injEq] at hx
    obtain ⟨rfl, rfl⟩ := hx
    exact ⟨by show m < n; omega, hmk, hbit⟩⟩
  rw [recvA_eq] at hr
  simp only [pendA, repA] at hr
  unfold recvS
  rw [h.e, hr]
  simp only
  rw [if_neg (by decide), if_pos (by simp)]
  obtain ⟨rs, hrs⟩ : ∃ rs, rs = (ackRA m mk pend).map fun r => ((65000 : Int) + (r.1 : Int), r.2) := ⟨_, rfl⟩
  rw [← hrs]
  obtain ⟨s0, hs0⟩ : ∃ s0 : ChS, s0 = { a with e := AEnd.conc 65000 1099511627776 ⟨n, 0, 0, ackLA m mk pend⟩ } := ⟨_, rfl⟩
  rw [← hs0]
  have o0 : s0.out = a.out := by rw [hs0]
  have p0 : s0.packets = a.packets := by rw [hs0]
  have f0 : s0.first = f := by rw [hs0]; exact h.first
  have e0 : s0.sent = S := by rw [hs0]; exact h.sent
  have hsort : (rs.map Prod.fst).Pairwise (· < ·) := by
    have := (pend_facts (some (m, mk)) pend h.ps).2.2.2
    rw [hrs, List.map_map]
    simp only [repA] at this
    rw [List.pairwise_map] at this ⊢
    exact this.imp fun hlt => by simp only [Function.comp]; omega
  have hin : (65000 + (m : Int), true) ∈ rs := by
    rw [hrs, ackRA_eq]
    have hnm : namedA m mk m = true := by unfold namedA; simp
    exact List.mem_map.2 ⟨(m, true), List.mem_map.2 ⟨m, List.mem_filter.2 ⟨hmp, by rw [hnm]; rfl⟩, by rw [hnm]⟩, rfl⟩
  obtain ⟨f', out', pk', hd, -, hpk', hd1, hd2, hd3, hd4⟩ := decS_form s0 rs (by rw [f0, e0]; exact h.fS)
  have hout' : out' = (decS s0 rs).out := by rw [hd]
  have hgone : ∀ i, f ≤ i → i < f + W → out' i = none := by
    intro i h1 h2
    rw [hout']
    exact decS_hits hsort hin (by rw [p0]; exact hpk) (mem_range1.2 ⟨h1, h2⟩)
  have hkeep : ∀ i, f + W ≤ i → out' i = a.out i := by
    intro i h1
    rw [hout', ← o0]
    refine foldR_far (rs := rs) (s := s0) fun p l hp hi => ?_
    rw [p0] at hp
    have := h.pk p l hp i hi
    rw [if_neg (by simp), ← hW] at this
    omega
  have hbel : ∀ i, i < f → out' i = none := by
    intro i h1
    rw [hout']
    refine foldR_stays (rs := rs) (s := s0) ?_
    rw [o0]
    cases hx : a.out i with
    | none => rfl
    | some x => have := h.bod i x hx; omega
  rw [f0] at hd1 hd3
  rw [e0] at hd2 hd4
  have hff : f' = f + W := by
    rcases Nat.lt_trichotomy f' (f + W) with h1 | h1 | h1
    · exact absurd (hgone f' hd1 h1) (hd4 (by omega))
    · exact h1
    · have h2 := hd3 (f + W) (by omega) h1
      rw [hkeep _ (Nat.le_refl _)] at h2
      exact absurd h2 (h.has _ (by omega) (by omega))
  have hbz := (h.busy t0 rfl)
  rw [hd]
  refine ⟨rfl, ⟨by rw [hs0], hff, e0, by rw [hs0]; exact h.owes, by rw [hs0]; exact h.tick, by omega, h.S66, ?_, ?_, ?_, ?_, ?_, fun t1 e1 => (by cases e1), ?_⟩⟩
  · intro k hk
    rw [ackLA_eq] at hk
    obtain ⟨k1, k2⟩ := List.mem_filter.1 hk
    have := h.pl k k1
    simp only [Bool.and_eq_true, Bool.not_eq_true', decide_eq_false_iff_not] at k2
    omega
  · rw [ackLA_eq]; exact h.ps.sublist List.filter_sublist
  · intro i h1 h2
    show out' i ≠ none
    rw [hkeep i h1]; exact h.has i (by omega) h2
  · intro i x hx
    have hx' : out' i = some x := hx
    rcases Nat.lt_or_ge i (f + W) with h1 | h1
    · rcases Nat.lt_or_ge i f with h2 | h2
      · rw [hbel i h2] at hx'; cases hx'
      · rw [hgone i h2 h1] at hx'; cases hx'
    · rw [hkeep i h1] at hx'
      have := h.bod i x hx'
      exact ⟨h1, this.2.1, this.2.2⟩
  · intro _ i x hx
    have hx' : out' i = some x := hx
    rcases Nat.lt_or_ge i (f + W) with h1 | h1
    · rcases Nat.lt_or_ge i f with h2 | h2
      · rw [hbel i h2] at hx'; cases hx'
      · rw [hgone i h2 h1] at hx'; cases hx'
    · rw [hkeep i h1] at hx'
      have hb := h.bod i x hx'
      exact (hbz.2 i x hx').2 (by omega)
  · intro p l hp i hi
    have := h.pk p l (by rw [← p0]; exact hpk' p l hp) i hi
    rw [if_neg (by simp), ← hW] at this
    rw [if_pos rfl]; omega
end
theorem WA_new : WA 33 0 [] 0 0 none 0 (chNew 65000 1099511627776) :=
  ⟨by simp [chNew, AEnd.conc], rfl, rfl, rfl, rfl, Nat.le_refl _, Nat.zero_le _, fun k hk => (by cases hk), List.Pairwise.nil, fun i h1 h2 => by omega, fun i m hm => (by cases hm), fun _ i m hm => (by cases hm), fun t e => (by cases e), fun p l hp => (by cases hp)⟩

/-! ### the receiver -/
def wb (h mk x : Nat) (ow : Bool) (t : Int) : ChS := ⟨AEnd.conc 1099511627776 65000 ⟨0, h, mk, []⟩, 0, 0, x, t, ow, fun _ => none, fun _ => none, fun _ => none⟩
structure MkOk (h mk : Nat) : Prop where
  lt : mk < 4294967296
  bit : ∀ i, mk.testBit i = true → i + 2 ≤ h
theorem wb_new : chNew 1099511627776 65000 = wb 0 0 0 false 0 := by simp [wb, chNew, AEnd.conc]
theorem accept_newW {h mk k : Nat} (hk : h ≤ k) (hm : MkOk h mk) : ∃ mk', MkOk (k + 1) mk' ∧ acceptA ⟨0, h, mk, []⟩ k = (⟨0, k + 1, mk', []⟩, 0) := by
  refine ⟨mk * 2 ^ min (k + 1 - h) 32 % 4294967296 ||| (if 0 < h then 2 ^ min (k - h) 32 % 4294967296 else 0), ⟨?_, ?_⟩, ?_⟩
  · refine Nat.or_lt_two_pow (n := 32) (Nat.mod_lt _ (by decide)) ?_
    split
    · exact Nat.mod_lt _ (by decide)
    · decide
  · intro i hi
    have hlt : mk * 2 ^ min (k + 1 - h) 32 % 4294967296 ||| (if 0 < h then 2 ^ min (k - h) 32 % 4294967296 else 0) < 4294967296 := by
      refine Nat.or_lt_two_pow (n := 32) (Nat.mod_lt _ (by decide)) ?_
      split
      · exact Nat.mod_lt _ (by decide)
      · decide
    have h32 := bit_u32_lt hlt hi
    have e : (mk * 2 ^ min (k + 1 - h) 32 % 4294967296 ||| (if 0 < h then 2 ^ min (k - h) 32 % 4294967296 else 0)) = (mk * 2 ^ min (k + 1 - h) 32 % 4294967296 ||| (if decide (0 < h) = true then 2 ^ min (k + 1 - h - 1) 32 % 4294967296 else 0)) := by
      simp only [decide_eq_true_eq]
      rw [show k + 1 - h - 1 = k - h by omega]
    rw [e, new_bit mk (k + 1 - h) i (decide (0 < h)) h32 (by omega)] at hi
    simp only [Bool.or_eq_true, Bool.and_eq_true, decide_eq_true_eq] at hi
    rcases hi with ⟨h1, h2⟩ | ⟨h1, h2⟩
    · have := hm.bit _ h2; omega
    · omega
  · unfold acceptA
    simp only
    rw [if_neg (by omega), if_neg (by omega), if_neg (by omega)]
theorem accept_sameW {mk k : Nat} : acceptA ⟨0, k + 1, mk, []⟩ k = (⟨0, k + 1, mk, []⟩, 192) := by
  unfold acceptA
  simp only
  rw [if_neg (by omega), if_pos trivial]
theorem keepS_from {g : Nat → List UInt8} {x : Nat} : ∀ {l l0 : List Nat} {e : Nat → Option (List UInt8)}, (∀ i, e i = if x ≤ i ∧ i ∈ l0 then some (g i) else none) → ∀ i, keepS x e (l.map fun n => (n, g n)) i = if x ≤ i ∧ i ∈ l0 ++ l then some (g i) else none
  | [], l0, e, he, i => by rw [List.append_nil]; exact he i
  | n :: l, l0, e, he, i => by
    have := keepS_from (g := g) (x := x) (l := l) (l0 := l0 ++ [n]) (e := keep1 x e (n, g n)) (fun j => by
      unfold keep1
      simp only
      by_cases hj : j = n
      · subst hj
        by_cases hx : x ≤ j
        · rw [if_pos (show x ≤ j ∧ j ∈ l0 ++ [j] from ⟨hx, by simp⟩)]
          split
          · unfold updN; rw [if_pos rfl]
          · rename_i hc
            rw [he j]
            by_cases h0 : j ∈ l0
            · rw [if_pos ⟨hx, h0⟩]
            · exact absurd ⟨hx, by rw [he j, if_neg (fun hc => h0 hc.2)]⟩ hc
        · rw [if_neg (fun hc => hx hc.1), if_neg (fun hc => hx hc.1), he j, if_neg (fun hc => hx hc.1)]
      · have e1 : (if x ≤ n ∧ e n = none then updN e n (some (g n)) else e) j = e j := by
          split
          · unfold updN; rw [if_neg hj]
          · rfl
        rw [e1, he j]
        simp only [List.mem_append, List.mem_singleton, hj, or_false]) i
    rw [List.append_assoc] at this
    exact this
theorem dlv_from {g : Nat → List UInt8} {x0 hi : Nat} {early : Nat → Option (List UInt8)} (he : ∀ i, early i = if x0 ≤ i ∧ i < hi then some (g i) else none) : ∀ (k x : Nat), x0 ≤ x → x ≤ hi → hi - x ≤ k → dlv early k x = (List.range' x (hi - x)).map g
  | 0, x, _, _, h => by rw [show hi - x = 0 by omega]; rfl
  | k + 1, x, h0, h1, h => by
    rw [dlv, he x]
    rcases Nat.lt_or_ge x hi with h2 | h2
    · rw [if_pos ⟨h0, h2⟩]
      simp only
      rw [dlv_from he k (x + 1) (by omega) h2 (by omega), show hi - x = (hi - (x + 1)) + 1 by omega, List.range'_succ]
      rfl
    · rw [if_neg (by omega), show hi - x = 0 by omega]; rfl
theorem fitsW {k f W : Nat} (hW0 : 0 < W) (hW : W ≤ 64) (h66 : f + W ≤ 66000) (hk : k ≤ 30000) (a : AEnd) : APkt.Fits ⟨some (k, encM MW (List.range' f W)), none⟩ a := by
  refine ⟨.inl (by simp), fun j xs hx => ?_, fun m mk hx => (by cases hx)⟩
  simp only [Option.some.injEq, Prod.mk.injEq] at hx
  obtain ⟨rfl, rfl⟩ := hx
  rw [encM_len7 (fun n hn => by have := mem_range1.1 hn; omega), List.length_range']
  omega
/-- The packet k comes for the first time: what of it is new is delivered. -/
theorem wb_recv {h mk x k f W : Nat} {ow : Bool} {t : Int} (hk : h ≤ k) (hm : MkOk h mk) (h1 : f ≤ x) (h2 : x ≤ f + W) (hW0 : 0 < W) (hW : W ≤ 64) (h66 : f + W ≤ 66000) (hk2 : k < 30000) :
    ∃ mk', MkOk (k + 1) mk' ∧ recvS (wb h mk x ow t) (APkt.enc 65000 1099511627776 ⟨some (k, encM MW (List.range' f W)), none⟩) = (wb (k + 1) mk' (f + W) true t, (List.range' x (f + W - x)).map mw, 0) := by
  obtain ⟨mk', hm', hac⟩ := accept_newW hk hm
  refine ⟨mk', hm', ?_⟩
  have hr := recv_enc 1099511627776 65000 (by decide) (by decide) ⟨0, h, mk, []⟩ (Nat.zero_le _) (by show h ≤ 30000; omega) _ (fitsW (k := k) hW0 hW h66 (by omega) _)
  rw [recvA_eq] at hr
  simp only [pendA, repA, List.map_nil] at hr
  rw [hac] at hr
  simp only [if_true] at hr
  unfold recvS
  rw [show (wb h mk x ow t).e = AEnd.conc 1099511627776 65000 ⟨0, h, mk, []⟩ from rfl, hr]
  simp only
  have hne : encM MW (List.range' f W) ≠ [] := encM_ne (by
    intro e
    have := congrArg List.length e
    rw [List.length_range'] at this
    simp at this; omega)
  rw [if_neg (by decide), if_neg (fun hc => hne hc.2), if_neg (by simp)]
  rw [decS_nil0 (s := { wb h mk x ow t with e := AEnd.conc 1099511627776 65000 ⟨0, k + 1, mk', []⟩ }) rfl rfl]
  rw [show (wb h mk x ow t).next = x from rfl]
  have hpe : parseC x (encM MW (List.range' f W)).length (encM MW (List.range' f W)) = some ((List.range' f W).map fun n => (n, MW.getD n [])) := parse_enc MW_short _ fun n hn => by
    have := mem_range1.1 hn
    rw [MW_len]; omega
  rw [hpe]
  simp only
  have hke : ∀ i, keepS x (wb h mk x ow t).early ((List.range' f W).map fun n => (n, MW.getD n [])) i = if x ≤ i ∧ i < f + W then some (mw i) else none := by
    intro i
    rw [keepS_from (g := fun n => MW.getD n []) (l0 := []) (e := (wb h mk x ow t).early) (fun j => by simp [wb])]
    rw [List.nil_append]
    by_cases hi : x ≤ i ∧ i < f + W
    · rw [if_pos hi, if_pos ⟨hi.1, mem_range1.2 ⟨by omega, hi.2⟩⟩, MW_get (by omega)]
    · rw [if_neg hi, if_neg (fun hc => hi ⟨hc.1, (mem_range1.1 hc.2).2⟩)]
  generalize keepS x (wb h mk x ow t).early ((List.range' f W).map fun n => (n, MW.getD n [])) = ea at hke ⊢
  rw [dlv_from hke 64 x (Nat.le_refl _) h2 (by omega)]
  refine Prod.ext ?_ rfl
  unfold wb
  simp only [List.length_map, List.length_range']
  rw [show x + (f + W - x) = f + W by omega]
  congr 1
  funext i
  unfold dropN
  split
  · rfl
  · rw [hke, if_neg (by omega)]
/-- It comes again. -/
theorem wb_again {mk x k f W : Nat} {ow : Bool} {t : Int} (hW0 : 0 < W) (hW : W ≤ 64) (h66 : f + W ≤ 66000) (hk2 : k < 30000) :
    recvS (wb (k + 1) mk x ow t) (APkt.enc 65000 1099511627776 ⟨some (k, encM MW (List.range' f W)), none⟩) = (wb (k + 1) mk x true t, [], 192) := by
  have hr := recv_enc 1099511627776 65000 (by decide) (by decide) ⟨0, k + 1, mk, []⟩ (Nat.zero_le _) (by show k + 1 ≤ 30000; omega) _ (fitsW (k := k) hW0 hW h66 (by omega) _)
  rw [recvA_eq] at hr
  simp only [pendA, repA, List.map_nil] at hr
  rw [accept_sameW] at hr
  simp only [show ¬ ((192 : Int) = 0) by decide, if_false] at hr
  unfold recvS
  rw [show (wb (k + 1) mk x ow t).e = AEnd.conc 1099511627776 65000 ⟨0, k + 1, mk, []⟩ from rfl, hr]
  simp only
  rw [if_neg (by decide), if_neg (by decide), if_pos (by decide)]
  rw [decS_nil0 (s := { wb (k + 1) mk x ow t with e := AEnd.conc 1099511627776 65000 ⟨0, k + 1, mk, []⟩ }) rfl rfl]
  rfl
/-- It says what it received. -/
theorem wb_flush {h mk x : Nat} {t t' : Int} (ht : t ≤ t') (h0 : 0 < h) : flushS (wb h mk x true t) t' = (wb h mk x false t', APkt.enc 1099511627776 65000 ⟨none, some (h - 1, mk)⟩, 0) := by
  rw [flushS_none (s1 := wb h mk x true t') (show ¬ t' < t by omega) rfl (show (bodyS (wb h mk x true t')).2.length = 0 from rfl)]
  have he : (wb h mk x true t').e = AEnd.conc 1099511627776 65000 ⟨0, h, mk, []⟩ := rfl
  rw [if_pos (show (wb h mk x true t').owes = true from rfl), he, if_pos (by simp only [AEnd.conc]; omega), conc_ack 1099511627776 65000 _ h0]
  unfold AEnd.note
  rw [if_pos h0]
  rfl
theorem wb_flush0 {h mk x : Nat} {t t' : Int} (ht : t ≤ t') : flushS (wb h mk x false t) t' = (wb h mk x false t', [], 0) := by
  rw [flushS_none (s1 := wb h mk x false t') (show ¬ t' < t by omega) rfl (show (bodyS (wb h mk x false t')).2.length = 0 from rfl)]
  rw [if_neg (show ¬ (wb h mk x false t').owes = true from by simp [wb])]

/-! ### the clock -/
/-- Where the sender stands: the first message that is not done; 0: nothing is under way, 1: the window is lost, 2: the window has arrived, but not what says so; since when. -/
structure WM where
  f : Nat
  md : Nat
  t0 : Nat
  deriving DecidableEq
def winW (f : Nat) : Nat := min (66000 - f) 64
def gotW (m : WM) : Nat := if m.md = 2 then m.f + winW m.f else m.f
def stepW (t : Nat) (m : WM) : WM :=
  if m.md = 0 then (if t % 7 = 3 then ⟨m.f, 1, t⟩ else if t % 7 = 5 then ⟨m.f, 2, t⟩ else ⟨m.f + winW m.f, 0, 0⟩)
  else if t < m.t0 + 8 then m else ⟨m.f + winW m.f, 0, 0⟩
def runW : Nat → WM
  | 0 => ⟨0, 0, 0⟩
  | t + 1 => stepW t (runW t)
theorem stepS {t f : Nat} (h : t % 7 ≠ 3) (h' : t % 7 ≠ 5) : stepW t ⟨f, 0, 0⟩ = ⟨f + winW f, 0, 0⟩ := by
  unfold stepW; rw [if_pos rfl, if_neg h, if_neg h']
theorem step3 {t f : Nat} (h : t % 7 = 3) : stepW t ⟨f, 0, 0⟩ = ⟨f, 1, t⟩ := by
  unfold stepW; rw [if_pos rfl, if_pos h]
theorem step5 {t f : Nat} (h : t % 7 = 5) : stepW t ⟨f, 0, 0⟩ = ⟨f, 2, t⟩ := by
  unfold stepW; rw [if_pos rfl, if_neg (by omega), if_pos h]
theorem stepL {t f md t0 : Nat} (h0 : md ≠ 0) (h : t < t0 + 8) : stepW t ⟨f, md, t0⟩ = ⟨f, md, t0⟩ := by
  unfold stepW; rw [if_neg h0, if_pos h]
theorem stepE {t f md t0 : Nat} (h0 : md ≠ 0) (h : ¬ t < t0 + 8) : stepW t ⟨f, md, t0⟩ = ⟨f + winW f, 0, 0⟩ := by
  unfold stepW; rw [if_neg h0, if_neg h]
theorem got_mono (t : Nat) : gotW (runW t) ≤ gotW (runW (t + 1)) := by
  show gotW (runW t) ≤ gotW (stepW t (runW t))
  generalize runW t = m
  obtain ⟨f, md, t0⟩ := m
  by_cases h0 : md = 0
  · subst h0
    have e0 : gotW ⟨f, 0, t0⟩ = f := rfl
    rw [e0]
    unfold stepW
    rw [if_pos rfl]
    split
    · exact Nat.le_refl f
    · split
      · exact Nat.le_add_right f _
      · exact Nat.le_add_right f _
  · by_cases h1 : t < t0 + 8
    · rw [stepL h0 h1]; exact Nat.le_refl _
    · rw [stepE h0 h1]
      show gotW ⟨f, md, t0⟩ ≤ f + winW f
      unfold gotW; simp only; split <;> omega
theorem got_mono' {t k : Nat} : gotW (runW t) ≤ gotW (runW (t + k)) := by
  induction k with
  | zero => exact Nat.le_refl _
  | succ k ih => exact Nat.le_trans ih (got_mono _)
theorem stayW {f md t0 : Nat} (h0 : md ≠ 0) : ∀ (k t : Nat), runW t = ⟨f, md, t0⟩ → t + k ≤ t0 + 8 → runW (t + k) = ⟨f, md, t0⟩
  | 0, _, h, _ => h
  | k + 1, t, h, hk => by
    show stepW (t + k) (runW (t + k)) = _
    rw [stayW h0 k t h (by omega), stepL h0 (by omega)]
theorem periodW {t f : Nat} (h7 : t % 7 = 0) (hf : f + 320 ≤ 66000) (hr : runW t = ⟨f, 0, 0⟩) : runW (t + 21) = ⟨f + 320, 0, 0⟩ := by
  have hw : ∀ x, x + 64 ≤ 66000 → winW x = 64 := fun x hx => by unfold winW; omega
  have r1 : runW (t + 1) = ⟨f + 64, 0, 0⟩ := by
    show stepW t (runW t) = _
    rw [hr, stepS (by omega) (by omega), hw f (by omega)]
  have r2 : runW (t + 2) = ⟨f + 128, 0, 0⟩ := by
    show stepW (t + 1) (runW (t + 1)) = _
    rw [r1, stepS (by omega) (by omega), hw _ (by omega)]
  have r3 : runW (t + 3) = ⟨f + 192, 0, 0⟩ := by
    show stepW (t + 2) (runW (t + 2)) = _
    rw [r2, stepS (by omega) (by omega), hw _ (by omega)]
  have r4 : runW (t + 4) = ⟨f + 192, 1, t + 3⟩ := by
    show stepW (t + 3) (runW (t + 3)) = _
    rw [r3, step3 (by omega)]
  have r11 : runW (t + 4 + 7) = ⟨f + 192, 1, t + 3⟩ := stayW (by decide) 7 (t + 4) r4 (by omega)
  have r12 : runW (t + 12) = ⟨f + 256, 0, 0⟩ := by
    show stepW (t + 11) (runW (t + 4 + 7)) = _
    rw [r11, stepE (by decide) (by omega), hw _ (by omega)]
  have r13 : runW (t + 13) = ⟨f + 256, 2, t + 12⟩ := by
    show stepW (t + 12) (runW (t + 12)) = _
    rw [r12, step5 (by omega)]
  have r20 : runW (t + 13 + 7) = ⟨f + 256, 2, t + 12⟩ := stayW (by decide) 7 (t + 13) r13 (by omega)
  show stepW (t + 20) (runW (t + 13 + 7)) = _
  rw [r20, stepE (by decide) (by omega), hw _ (by omega)]
theorem periodsW : ∀ c : Nat, c ≤ 206 → runW (21 * c) = ⟨320 * c, 0, 0⟩
  | 0, _ => rfl
  | c + 1, h => by
    have := periodW (t := 21 * c) (f := 320 * c) (by omega) (by omega) (periodsW c (by omega))
    rw [show 21 * (c + 1) = 21 * c + 21 by omega, show 320 * (c + 1) = 320 * c + 320 by omega]; exact this
theorem got_end : gotW (runW 20000) ≥ 66000 := by
  have h0 := periodsW 206 (Nat.le_refl _)
  obtain ⟨T, hT⟩ : ∃ T, T = 21 * 206 := ⟨_, rfl⟩
  rw [← hT] at h0
  have h1 : runW (T + 1) = ⟨65984, 0, 0⟩ := by
    show stepW T (runW T) = _
    rw [h0, stepS (by omega) (by omega)]; unfold winW; rfl
  have h2 : runW (T + 1 + 1) = ⟨66000, 0, 0⟩ := by
    show stepW (T + 1) (runW (T + 1)) = _
    rw [h1, stepS (by omega) (by omega)]; unfold winW; rfl
  obtain ⟨k, hk⟩ : ∃ k, 20000 = T + 1 + 1 + k := ⟨20000 - (T + 1 + 1), by omega⟩
  rw [hk]
  have := got_mono' (t := T + 1 + 1) (k := k)
  rw [h2] at this
  exact this
/-- What holds of the clock's state. -/
structure WmOk (t : Nat) (m : WM) : Prop where
  f66 : m.f ≤ 66000
  md : m.md ≤ 2
  t0 : m.md ≠ 0 → m.t0 < t ∧ t ≤ m.t0 + 8
  r1 : m.md = 1 → m.t0 % 7 = 3
  r2 : m.md = 2 → m.t0 % 7 = 5
  lt : m.md ≠ 0 → m.f < 66000
theorem wm_ok : ∀ t, gotW (runW t) < 66000 ∨ t = 0 → WmOk t (runW t)
  | 0, _ => ⟨Nat.zero_le _, Nat.zero_le _, fun h => absurd rfl h, fun h => (by cases h), fun h => (by cases h), fun h => absurd rfl h⟩
  | t + 1, hg => by
    have hm := got_mono t
    have hg' : gotW (runW t) < 66000 := by rcases hg with h | h <;> omega
    have ih := wm_ok t (.inl hg')
    show WmOk (t + 1) (stepW t (runW t))
    generalize runW t = m at ih hg'
    obtain ⟨f, md, t0⟩ := m
    obtain ⟨i1, i2, i3, i4, i5, i6⟩ := ih
    simp only at i1 i2 i3 i4 i5 i6
    unfold gotW at hg'
    simp only at hg'
    unfold stepW
    simp only
    have hw : winW f ≤ 66000 - f := by unfold winW; omega
    by_cases h0 : md = 0
    · rw [if_pos h0]
      rw [if_neg (by omega)] at hg'
      split
      · exact ⟨i1, (show 1 ≤ 2 by decide), fun _ => ⟨by show t < t + 1; omega, by show t + 1 ≤ t + 8; omega⟩, fun _ => by assumption, fun h => (by cases h), fun _ => hg'⟩
      · split
        · exact ⟨i1, (show 2 ≤ 2 by decide), fun _ => ⟨by show t < t + 1; omega, by show t + 1 ≤ t + 8; omega⟩, fun h => (by cases h), fun _ => by assumption, fun _ => hg'⟩
        · exact ⟨by show f + winW f ≤ 66000; omega, Nat.zero_le _, fun h => absurd rfl h, fun h => (by cases h), fun h => (by cases h), fun h => absurd rfl h⟩
    · rw [if_neg h0]
      split
      · exact ⟨i1, i2, fun _ => ⟨by show t0 < t + 1; have := i3 h0; omega, by show t + 1 ≤ t0 + 8; omega⟩, i4, i5, i6⟩
      · exact ⟨by show f + winW f ≤ 66000; omega, Nat.zero_le _, fun h => absurd rfl h, fun h => (by cases h), fun h => (by cases h), fun h => absurd rfl h⟩
end Go.Proofs.Ythjjipcbpmdfnaa
