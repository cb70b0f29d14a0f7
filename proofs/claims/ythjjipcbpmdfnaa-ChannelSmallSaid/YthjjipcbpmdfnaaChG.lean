/-
  PLAIN LAWS of the model of a Channel: what keeps the numbers in their bounds; no program in sight.
-/
import Derived.Test.YthjjipcbpmdfnaaChB
namespace Go.Proofs.Ythjjipcbpmdfnaa

/-- Messages may be struck, or lose their packet. -/
def Sub (out out' : Nat → Option OutM) : Prop := ∀ i x, out' i = some x → ∃ y, out i = some y ∧ x.b = y.b ∧ x.tick = y.tick ∧ (x.packet = y.packet ∨ x.packet = -1)
theorem Sub.refl (out : Nat → Option OutM) : Sub out out := fun _ x h => ⟨x, h, rfl, rfl, .inl rfl⟩
theorem Sub.trans {a b c : Nat → Option OutM} (h : Sub a b) (k : Sub b c) : Sub a c := fun i x hx => by
  obtain ⟨y, hy, y1, y2, y3⟩ := k i x hx
  obtain ⟨z, hz, z1, z2, z3⟩ := h i y hy
  refine ⟨z, hz, y1.trans z1, y2.trans z2, ?_⟩
  rcases y3 with y3 | y3
  · rcases z3 with z3 | z3
    · exact .inl (y3.trans z3)
    · exact .inr (y3.trans z3)
  · exact .inr y3
theorem Sub.some_ {a b : Nat → Option OutM} (h : Sub a b) {i : Nat} (hi : b i ≠ none) : a i ≠ none := by
  cases hx : b i with
  | none => exact absurd hx hi
  | some x => obtain ⟨y, hy, -⟩ := h i x hx; rw [hy]; simp
theorem dec1_sub (r : Int × Bool) (out : Nat → Option OutM) (n : Nat) : Sub out (dec1 r out n) := by
  intro i x hx
  cases hm : out n with
  | none =>
    simp only [dec1, hm] at hx
    exact ⟨x, hx, rfl, rfl, .inl rfl⟩
  | some m =>
    simp only [dec1, hm] at hx
    split at hx
    · unfold updN at hx
      split at hx
      · cases hx
      · exact ⟨x, hx, rfl, rfl, .inl rfl⟩
    · split at hx
      · unfold updN at hx
        split at hx
        · next e => injection hx with hx; subst hx; subst e; exact ⟨m, hm, rfl, rfl, .inr rfl⟩
        · exact ⟨x, hx, rfl, rfl, .inl rfl⟩
      · exact ⟨x, hx, rfl, rfl, .inl rfl⟩
theorem fold1_sub (r : Int × Bool) : ∀ (l : List Nat) (out : Nat → Option OutM), Sub out (l.foldl (dec1 r) out)
  | [], out => Sub.refl out
  | n :: l, out => (dec1_sub r out n).trans (fold1_sub r l _)
theorem foldR_form : ∀ (rs : List (Int × Bool)) (s : ChS), ∃ out pk, rs.foldl decR s = { s with out := out, packets := pk } ∧ Sub s.out out ∧ ∀ i l, pk i = some l → s.packets i = some l
  | [], s => ⟨s.out, s.packets, rfl, Sub.refl _, fun _ _ h => h⟩
  | r :: rs, s => by
    obtain ⟨out, pk, h1, h2, h3⟩ := foldR_form rs (decR s r)
    refine ⟨out, pk, ?_, (fold1_sub r _ s.out).trans h2, fun i l hl => ?_⟩
    · rw [List.foldl_cons, h1]; rfl
    · have := h3 i l hl
      simp only [decR, updI] at this
      split at this
      · cases this
      · exact this
theorem adv_spec (out : Nat → Option OutM) (sent : Nat) : ∀ (k f : Nat), f ≤ sent → sent - f ≤ k → f ≤ adv out sent k f ∧ adv out sent k f ≤ sent ∧ (∀ n, f ≤ n → n < adv out sent k f → out n = none) ∧ (adv out sent k f < sent → out (adv out sent k f) ≠ none)
  | 0, f, h, hk => ⟨Nat.le_refl _, h, fun n h1 h2 => by simp only [adv] at h2; omega, fun h1 => by simp only [adv] at h1; omega⟩
  | k + 1, f, h, hk => by
    rw [adv]
    split
    · rename_i hc
      obtain ⟨q1, q2, q3, q4⟩ := adv_spec out sent k (f + 1) (by omega) (by omega)
      refine ⟨by omega, q2, fun n h1 h2 => ?_, q4⟩
      rcases Nat.eq_or_lt_of_le h1 with e | e
      · rw [← e]; exact hc.2
      · exact q3 n e h2
    · rename_i hc
      refine ⟨Nat.le_refl _, h, fun n h1 h2 => by omega, fun h1 h2 => hc ⟨h1, h2⟩⟩
theorem decS_form (s : ChS) (rs : List (Int × Bool)) (hf : s.first ≤ s.sent) : ∃ f out pk, decS s rs = { s with first := f, out := out, packets := pk } ∧ Sub s.out out ∧ (∀ i l, pk i = some l → s.packets i = some l) ∧
    s.first ≤ f ∧ f ≤ s.sent ∧ (∀ n, s.first ≤ n → n < f → out n = none) ∧ (f < s.sent → out f ≠ none) := by
  obtain ⟨out, pk, h1, h2, h3⟩ := foldR_form rs s
  obtain ⟨q1, q2, q3, q4⟩ := adv_spec out s.sent (s.sent - s.first) s.first hf (Nat.le_refl _)
  exact ⟨_, out, pk, by unfold decS; simp only [h1], h2, h3, q1, q2, q3, q4⟩
/-- The bounds, of a state with fewer messages. -/
theorem ChS.Fit.sub {s : ChS} (h : s.Fit) {f : Nat} {out : Nat → Option OutM} {pk : Int → Option (List Nat)} (h2 : Sub s.out out) (h3 : ∀ i l, pk i = some l → s.packets i = some l) (hf : f ≤ s.sent) (hlo : ∀ n, s.first ≤ n → n < f → out n = none) : ChS.Fit { s with first := f, out := out, packets := pk } :=
  ⟨h.e, hf, h.sl, h.nl, h.t0, h.t1, fun n hn => by
    have := h.lo n (h2.some_ hn)
    refine ⟨?_, this.2⟩
    rcases Nat.lt_or_ge n f with h1 | h1
    · exact absurd (hlo n this.1 h1) hn
    · exact h1, fun n m hm => by
    obtain ⟨y, hy, y1, y2, y3⟩ := h2 n m hm
    obtain ⟨z1, z2, z3, z4, z5⟩ := h.msg n y hy
    exact ⟨by rw [y1]; exact z1, by omega, by omega, by rw [y2]; exact z4, by rw [y2]; exact z5⟩, h.el, fun i l hl => h.pk i l (h3 i l hl)⟩
theorem decS_fit {s : ChS} (h : s.Fit) (rs : List (Int × Bool)) : (decS s rs).Fit := by
  obtain ⟨f, out, pk, h1, h2, h3, -, h5, h6, -⟩ := decS_form s rs h.fs
  rw [h1]
  exact h.sub h2 h3 h5 h6
theorem ChS.Fit.ofe {s : ChS} (h : s.Fit) {e : EndS} (he : e.Fit) : ChS.Fit { s with e := e } := ⟨he, h.fs, h.sl, h.nl, h.t0, h.t1, h.lo, h.msg, h.el, h.pk⟩
theorem ChS.Fit.owe {s : ChS} (h : s.Fit) (x : Bool) : ChS.Fit { s with owes := x } := ⟨h.e, h.fs, h.sl, h.nl, h.t0, h.t1, h.lo, h.msg, h.el, h.pk⟩
theorem ChS.Fit.clock {s : ChS} (h : s.Fit) {t : Int} (h0 : s.tick ≤ t) (h1 : t ≤ 9223372036854775807) : ChS.Fit { s with tick := t } :=
  ⟨h.e, h.fs, h.sl, h.nl, by have := h.t0; show 0 ≤ t; omega, h1, h.lo, fun n m hm => by
    obtain ⟨z1, z2, z3, z4, z5⟩ := h.msg n m hm
    exact ⟨z1, z2, z3, z4, by show m.tick ≤ t; omega⟩, h.el, h.pk⟩
/-- 'Send' keeps the bounds. -/
theorem sendS_fit {s : ChS} (h : s.Fit) (b : List UInt8) (hl : s.sent + 1 ≤ 1000000000) : (sendS s b).1.Fit := by
  unfold sendS
  split
  · exact h
  · split
    · exact h
    · have h0 := h.t0
      refine ⟨h.e, by have := h.fs; show s.first ≤ s.sent + 1; omega, hl, h.nl, h.t0, h.t1, fun n hn => ?_, fun n m hm => ?_, h.el, fun i l hl => ⟨(h.pk i l hl).1, fun n hn => Nat.lt_succ_of_lt ((h.pk i l hl).2 n hn)⟩⟩
      · simp only [updN] at hn
        split at hn
        · next e => have := h.fs; show s.first ≤ n ∧ n < s.sent + 1; omega
        · have := h.lo n hn; show s.first ≤ n ∧ n < s.sent + 1; omega
      · simp only [updN] at hm
        split at hm
        · injection hm with hm; subst hm
          exact ⟨by show b.length ≤ 1024; omega, by show (-1 : Int) ≤ -1; decide, by show (-1 : Int) ≤ _; decide, by show (0 : Int) ≤ 0; decide, h0⟩
        · exact h.msg n m hm
/-- 'c.out[n].packet, c.out[n].tick = number, tick' for all messages of a packet. -/
theorem markS_at (number tick : Int) : ∀ (l : List Nat) (out : Nat → Option OutM) (n : Nat), markS out number tick l n = if n ∈ l then (out n).map fun m => { m with packet := number, tick := tick } else out n
  | [], out, n => by simp [markS]
  | a :: l, out, n => by
    show markS (updN out a ((out a).map fun m => { m with packet := number, tick := tick })) number tick l n = _
    rw [markS_at number tick l]
    by_cases hn : n = a
    · subst hn
      simp only [updN, if_true, List.mem_cons, true_or]
      split
      · cases out n <;> rfl
      · rfl
    · simp only [updN, hn, if_false, List.mem_cons, false_or]
/-- The messages of a body. -/
theorem bodyG_mem (s : ChS) : ∀ j n, n ∈ (bodyG s j).2 → s.first ≤ n ∧ n < s.first + j ∧ dueS s n = true
  | 0, n, h => by simp [bodyG] at h
  | j + 1, n, h => by
    rw [show bodyG s (j + 1) = bodyStep s (s.first + j) (bodyG s j) from rfl] at h
    unfold bodyStep at h
    split at h
    · have := bodyG_mem s j n h; exact ⟨this.1, by omega, this.2.2⟩
    · split at h
      · rename_i hc
        simp only [List.mem_append, List.mem_singleton] at h
        rcases h with h | h
        · have := bodyG_mem s j n h; exact ⟨this.1, by omega, this.2.2⟩
        · subst h; exact ⟨by omega, by omega, hc.1⟩
      · have := bodyG_mem s j n h; exact ⟨this.1, by omega, this.2.2⟩
theorem bodyG_len (s : ChS) : ∀ j, (bodyG s j).1.length ≤ 1191 ∧ (bodyG s j).2.length ≤ j ∧ ((bodyG s j).2 ≠ [] → 1 ≤ (bodyG s j).1.length)
  | 0 => ⟨by simp [bodyG], by simp [bodyG], by simp [bodyG]⟩
  | j + 1 => by
    have ih := bodyG_len s j
    rw [show bodyG s (j + 1) = bodyStep s (s.first + j) (bodyG s j) from rfl]
    generalize bodyG s j = a at ih ⊢
    unfold bodyStep
    split
    · exact ⟨ih.1, by omega, ih.2.2⟩
    · split
      · rename_i h
        refine ⟨?_, ?_, fun _ => ?_⟩
        · have := h.2; simp [hdrB]; omega
        · simp only [List.length_append, List.length_singleton]; omega
        · simp [hdrB]; omega
      · exact ⟨ih.1, by omega, ih.2.2⟩
theorem bodyS_mem {s : ChS} {n : Nat} (h : n ∈ (bodyS s).2) : s.first ≤ n ∧ n < s.sent ∧ n < s.first + 64 ∧ dueS s n = true := by
  have := bodyG_mem s _ n h
  exact ⟨this.1, by omega, by omega, this.2.2⟩
theorem bodyS_len (s : ChS) : (bodyS s).1.length ≤ 1191 ∧ (bodyS s).2.length ≤ 64 ∧ ((bodyS s).2 ≠ [] → 1 ≤ (bodyS s).1.length) := by
  have := bodyG_len s (min s.sent (s.first + 64) - s.first)
  exact ⟨this.1, by unfold bodyS; omega, this.2.2⟩
theorem dueS_msg {s : ChS} {n : Nat} (h : dueS s n = true) : ∃ x, s.out n = some x := by
  cases hx : s.out n with
  | none => simp [dueS, hx] at h
  | some x => exact ⟨x, rfl⟩
/-- What Flush does before the reports. -/
theorem flush_fit {s : ChS} (h : s.Fit) (hn : s.e.next + 1 ≤ 2000000000000) (hm : (makeS s.e).Fit) : ChS.Fit { s with e := makeS s.e, out := markS s.out s.e.next s.tick (bodyS s).2, packets := updI s.packets s.e.next (some (bodyS s).2) } := by
  have h1 := h.e.own0; have h2 := h.e.own1
  refine ⟨hm, h.fs, h.sl, h.nl, h.t0, h.t1, fun n hn => ?_, fun n m hm => ?_, h.el, fun i l hl => ?_⟩
  · simp only [markS_at] at hn
    refine h.lo n fun e => hn ?_
    rw [e]; simp
  · simp only [markS_at] at hm
    split at hm
    · obtain ⟨y, hy, rfl⟩ := Option.map_eq_some_iff.1 hm
      obtain ⟨z1, z2, z3, z4, z5⟩ := h.msg n y hy
      exact ⟨z1, by show -1 ≤ s.e.next; omega, by show s.e.next ≤ _; omega, h.t0, Int.le_refl _⟩
    · exact h.msg n m hm
  · simp only [updI] at hl
    split at hl
    · injection hl with hl; subst hl
      exact ⟨(bodyS_len s).2.1, fun n hn => (bodyS_mem hn).2.1⟩
    · exact h.pk i l hl
end Go.Proofs.Ythjjipcbpmdfnaa
