/-
  PLAIN LAW of ChannelWraps: a tick of both sides; no program in sight.
-/
import Derived.Test.YthjjipcbpmdfnaaChVA
namespace Go.Proofs.Ythjjipcbpmdfnaa

def mdW (m : WM) : Option Int := if m.md = 0 then none else some (m.t0 : Int)
/-- Both sides before the tick t; S messages were sent. -/
structure WConn (t : Nat) (m : WM) (S : Nat) (a b : ChS) : Prop where
  ex : ∃ (c n : Nat) (pend : List Nat) (h mk : Nat) (ta tb : Int), WA c n pend m.f S (mdW m) ta a ∧ b = wb h mk (gotW m) false tb ∧ MkOk h mk ∧ h ≤ n ∧ n ≤ t ∧ ta ≤ t ∧ tb ≤ t ∧ c ≤ if m.md = 0 then 33 else 34
  fa : a.Fit
  fb : b.Fit
  an : a.next ≤ 64 * t
  s1 : S ≤ m.f + 256
  s2 : m.md ≠ 0 → S = min 66000 (m.f + 256)
theorem conn_new : WConn 0 ⟨0, 0, 0⟩ 0 (chNew 65000 1099511627776) (chNew 1099511627776 65000) :=
  ⟨⟨33, 0, [], 0, 0, 0, 0, WA_new, wb_new, ⟨by decide, by simp⟩, Nat.le_refl _, Nat.le_refl _, Int.le_refl _, Int.le_refl _, by decide⟩, chNew_fit (by decide) (by decide) (by decide) (by decide), chNew_fit (by decide) (by decide) (by decide) (by decide), Nat.le_refl _, by decide, fun h => absurd rfl h⟩

/-- Bounds that the calls want. -/
structure Calm2 (s : ChS) : Prop where
  fit : s.Fit
  next : s.e.next ≤ 1999999999998
  newest : s.e.newest ≤ 1999999900000

section
variable {t : Nat} {m : WM} {S : Nat} {a b : ChS}
theorem WConn.wait (h : WConn t m S a b) : waitS a = S - m.f := by
  obtain ⟨_, _, _, _, _, _, _, hA, -⟩ := h.ex
  exact hA.wait
theorem WConn.ca (h : WConn t m S a b) (ht : t ≤ 20000) : Calm2 a := by
  obtain ⟨_, n, _, _, _, _, _, hA, _, _, _, hn, -⟩ := h.ex
  refine ⟨h.fa, ?_, ?_⟩
  · rw [hA.e]; show (65000 : Int) + (n : Int) ≤ _; omega
  · rw [hA.e]; show (1099511627776 : Int) + ((0 : Nat) : Int) - 1 ≤ _; decide
theorem WConn.cb (h : WConn t m S a b) (ht : t ≤ 20000) : Calm2 b := by
  obtain ⟨_, n, _, hh, _, _, _, hA, hb, _, hhn, hn, -⟩ := h.ex
  refine ⟨h.fb, ?_, ?_⟩
  · rw [hb]; show (1099511627776 : Int) + ((0 : Nat) : Int) ≤ _; decide
  · rw [hb]; show (65000 : Int) + (hh : Int) - 1 ≤ _; omega
theorem WConn.next (h : WConn t m S a b) : b.next = gotW m := by
  obtain ⟨_, n, _, hh, _, _, _, hA, hb, -⟩ := h.ex
  rw [hb]; rfl
theorem WConn.s66 (h : WConn t m S a b) : S ≤ 66000 := by
  obtain ⟨_, _, _, _, _, _, _, hA, -⟩ := h.ex
  exact hA.S66
theorem WConn.fS (h : WConn t m S a b) : m.f ≤ S := by
  obtain ⟨_, _, _, _, _, _, _, hA, -⟩ := h.ex
  exact hA.fS
theorem WConn.send (h : WConn t m S a b) (hw : S - m.f < 256) (h66 : S < 66000) : (sendS a (mw S)).2 = 0 ∧ WConn t m (S + 1) (sendS a (mw S)).1 b := by
  have hfS := h.fS
  have hmd : m.md = 0 := by
    rcases Nat.eq_zero_or_pos m.md with h0 | h0
    · exact h0
    · have := h.s2 (by omega); omega
  obtain ⟨c, n, pend, hh, mk, ta, tb, hA, hb, h1, h2, h3, h4, h5, h6⟩ := h.ex
  have e : mdW m = none := by unfold mdW; rw [if_pos hmd]
  rw [e] at hA
  obtain ⟨q1, q2⟩ := hA.send (by omega) h66
  refine ⟨q1, ⟨⟨c, n, pend, hh, mk, ta, tb, by rw [e]; exact q2, hb, h1, h2, h3, h4, h5, h6⟩, sendS_fit h.fa _ (by rw [hA.sent]; omega), h.fb, by rw [(sendS_keep h.fa (mw S) (by rw [hA.sent]; omega)).2.2.2.2]; exact h.an, by omega, fun hc => absurd hmd hc⟩⟩
theorem WConn.quiet (h : WConn t m S a b) (ht : t ≤ 20000) (hmd : m.md ≠ 0) (h8 : t < m.t0 + 8) : ∃ a1 b1, flushS a t = (a1, [], 0) ∧ flushS b t = (b1, [], 0) ∧ WConn (t + 1) m S a1 b1 := by
  obtain ⟨c, n, pend, hh, mk, ta, tb, hA, hb, h1, h2, h3, h4, h5, h6⟩ := h.ex
  have e : mdW m = some (m.t0 : Int) := by unfold mdW; rw [if_neg hmd]
  rw [e] at hA
  obtain ⟨q1, q2⟩ := hA.quiet h4 (t' := (t : Int)) (by omega)
  have q3 := wb_flush0 (h := hh) (mk := mk) (x := gotW m) h5
  rw [← hb] at q3
  have kk := flushS_keep h.fa (t := (t : Int)) (by omega) (by have := (h.ca ht).next; omega)
  have ka := kk.1
  have kn : (flushS a t).1.next ≤ 64 * (t + 1) := by rw [kk.2.2.2]; have := h.an; omega
  have kb := (flushS_keep h.fb (t := (t : Int)) (by omega) (by have := (h.cb ht).next; omega)).1
  rw [q1] at ka kn; rw [q3] at kb
  exact ⟨_, _, q1, q3, ⟨c, n, pend, hh, mk, t, t, by rw [e]; exact q2, rfl, h1, h2, by omega, by omega, by omega, h6⟩, ka, kb, kn, h.s1, h.s2⟩
/-- What a tick in which a packet is sent comes to. -/
structure WTick (t : Nat) (m : WM) (S : Nat) (a b : ChS) (a1 : ChS) (p : List UInt8) : Prop where
  fl : flushS a t = (a1, p, 0)
  len : 1 ≤ p.length ∧ p.length ≤ 1200
  ca : Calm2 a1
  lost : m.md = 0 → t % 7 = 3 → ∃ b1, flushS b t = (b1, [], 0) ∧ WConn (t + 1) (stepW t m) S a1 b1
  got : (m.md = 0 → t % 7 ≠ 3) → ∃ b2 b3 q, recvS b p = (b2, (List.range' (gotW m) (m.f + winW m.f - gotW m)).map mw, 0) ∧ recvS b2 p = (b2, [], 192) ∧ Calm2 b2 ∧ flushS b2 t = (b3, q, 0) ∧ q.length = 7 ∧
    (m.md = 0 → t % 7 = 5 → WConn (t + 1) (stepW t m) S a1 b3) ∧ ((m.md = 0 → t % 7 ≠ 5) → ∃ a2, recvS a1 q = (a2, [], 0) ∧ WConn (t + 1) (stepW t m) S a2 b3)
theorem WConn.tick (h : WConn t m S a b) (ht : t < 20000) (_hok : WmOk t m) (hf : m.f < 66000) (hS : S = min 66000 (m.f + 256)) (hmd : m.md = 0 ∨ t = m.t0 + 8) : ∃ a1 p, WTick t m S a b a1 p := by
  obtain ⟨c, n, pend, hh, mk, ta, tb, hA, hb, h1, h2, h3, h4, h5, h6⟩ := h.ex
  have hca := h.ca (by omega); have hcb := h.cb (by omega)
  obtain ⟨q1, q2, q3⟩ := hA.flush (by omega) h4 (fun t0 e => by
    unfold mdW at e
    split at e
    · cases e
    · injection e with e; rcases hmd with h0 | h0
      · exact absurd h0 (by assumption)
      · omega) (by split at h6 <;> omega) (by omega)
  have hW : min (S - m.f) 64 = winW m.f := by unfold winW; omega
  have hW0 : 0 < winW m.f := by unfold winW; omega
  have hW64 : winW m.f ≤ 64 := by unfold winW; omega
  have hWf : m.f + winW m.f ≤ 66000 := by unfold winW; omega
  rw [hW] at q1 q3
  obtain ⟨a1, ha1⟩ : ∃ a1, a1 = (flushS a t).1 := ⟨_, rfl⟩
  rw [← ha1] at q2 q3
  have hfl : flushS a t = (a1, APkt.enc 65000 1099511627776 ⟨some (n, encM MW (List.range' m.f (winW m.f))), none⟩, 0) := Prod.ext ha1.symm q1
  have kk := flushS_keep h.fa (t := (t : Int)) (by omega) (by have := hca.next; omega)
  rw [hfl] at kk
  have kn : a1.next ≤ 64 * t := by rw [kk.2.2.2]; exact h.an
  have ka1 : Calm2 a1 := ⟨kk.1, by rw [q2.e]; show (65000 : Int) + ((n + 1 : Nat) : Int) ≤ _; omega, by rw [q2.e]; show (1099511627776 : Int) + ((0 : Nat) : Int) - 1 ≤ _; decide⟩
  have hlen : (encM MW (List.range' m.f (winW m.f))).length ≤ 1191 := by
    rw [encM_len7 (fun k hk => by have := mem_range1.1 hk; omega), List.length_range']; omega
  have hgot : m.f ≤ gotW m ∧ gotW m ≤ m.f + winW m.f := by unfold gotW; split <;> omega
  refine ⟨a1, _, ⟨hfl, enc_len _ _ _ _ _ hlen, ka1, fun hm0 h7 => ?_, fun h7 => ?_⟩⟩
  · have e : stepW t m = ⟨m.f, 1, t⟩ := by unfold stepW; rw [if_pos hm0, if_pos h7]
    have q4 := wb_flush0 (h := hh) (mk := mk) (x := gotW m) h5
    rw [← hb] at q4
    have kb := (flushS_keep h.fb (t := (t : Int)) (by omega) (by have := hcb.next; omega)).1
    rw [q4] at kb
    refine ⟨_, q4, ?_⟩
    rw [e]
    refine ⟨⟨c + 1, n + 1, pend ++ [n], hh, mk, t, t, q2, ?_, h1, by omega, by omega, by omega, by omega, by rw [if_pos hm0] at h6; show c + 1 ≤ 34; omega⟩, ka1.fit, kb, by omega, h.s1, fun _ => hS⟩
    have : gotW m = gotW ⟨m.f, 1, t⟩ := by unfold gotW; simp [hm0]
    rw [this]
  · obtain ⟨mk', hm', hr⟩ := wb_recv (ow := false) (t := tb) (h := hh) (mk := mk) (x := gotW m) (k := n) (f := m.f) (W := winW m.f) h2 h1 hgot.1 hgot.2 hW0 hW64 hWf (by omega)
    rw [← hb] at hr
    have hr2 := wb_again (mk := mk') (x := m.f + winW m.f) (k := n) (f := m.f) (W := winW m.f) (ow := true) (t := tb) hW0 hW64 hWf (by omega)
    have kb2 := recvS_fit h.fb (APkt.enc 65000 1099511627776 ⟨some (n, encM MW (List.range' m.f (winW m.f))), none⟩) (by rw [h.next]; omega) hcb.newest
    rw [hr] at kb2
    have cb2 : Calm2 (wb (n + 1) mk' (m.f + winW m.f) true tb) := ⟨kb2, by show (1099511627776 : Int) + ((0 : Nat) : Int) ≤ _; decide, by show (65000 : Int) + ((n + 1 : Nat) : Int) - 1 ≤ _; omega⟩
    have hf3 := wb_flush (h := n + 1) (mk := mk') (x := m.f + winW m.f) h5 (Nat.succ_pos n)
    rw [Nat.add_sub_cancel] at hf3
    have kb3 := (flushS_keep cb2.fit (t := (t : Int)) (by omega) (by have := cb2.next; omega)).1
    rw [hf3] at kb3
    refine ⟨_, _, _, hr, hr2, cb2, hf3, enc_len2 _ _ _ _, fun hm0 h5' => ?_, fun h5' => ?_⟩
    · have e : stepW t m = ⟨m.f, 2, t⟩ := by unfold stepW; rw [if_pos hm0, if_neg (by omega), if_pos h5']
      rw [e]
      refine ⟨⟨c + 1, n + 1, pend ++ [n], n + 1, mk', t, t, q2, ?_, hm', Nat.le_refl _, by omega, by omega, by omega, by rw [if_pos hm0] at h6; show c + 1 ≤ 34; omega⟩, ka1.fit, kb3, by omega, h.s1, fun _ => hS⟩
      have : m.f + winW m.f = gotW ⟨m.f, 2, t⟩ := by unfold gotW; simp
      rw [this]
    · have e : stepW t m = ⟨m.f + winW m.f, 0, 0⟩ := by
        unfold stepW
        by_cases hm0 : m.md = 0
        · rw [if_pos hm0, if_neg (h7 hm0), if_neg (h5' hm0)]
        · rw [if_neg hm0, if_neg (by rcases hmd with h0 | h0; exact absurd h0 hm0; omega)]
      obtain ⟨r1, r2⟩ := q2.ack (by omega) (m := n) (mk := mk') rfl (by omega) (List.mem_append_right _ (List.mem_singleton.2 rfl)) (by rw [hW]; exact q3) hm'.lt (fun i hi => by have := hm'.bit i hi; omega)
      rw [hW] at r2
      have kka := recvS_fit ka1.fit (APkt.enc 1099511627776 65000 ⟨none, some (n, mk')⟩) (by omega) ka1.newest
      have kan := (recvS_keep ka1.fit (APkt.enc 1099511627776 65000 ⟨none, some (n, mk')⟩) (by omega) ka1.newest).2.2.2.1
      obtain ⟨a2, ha2⟩ : ∃ a2, a2 = (recvS a1 (APkt.enc 1099511627776 65000 ⟨none, some (n, mk')⟩)).1 := ⟨_, rfl⟩
      rw [← ha2] at r2 kka kan
      refine ⟨a2, Prod.ext ha2.symm r1, ?_⟩
      rw [e]
      refine ⟨⟨33, n + 1, _, n + 1, mk', t, t, r2, ?_, hm', Nat.le_refl _, by omega, by omega, by omega, Nat.le_refl _⟩, kka, kb3, by omega, by show S ≤ m.f + winW m.f + 256; omega, fun hc => absurd rfl hc⟩
      have : m.f + winW m.f = gotW ⟨m.f + winW m.f, 0, 0⟩ := by unfold gotW; simp
      exact congrArg (fun x => wb (n + 1) mk' x false (t : Int)) this
/-- What is left of a tick when the receiver (b2) is to flush. -/
structure WTail (t : Nat) (m : WM) (S : Nat) (a1 b2 : ChS) : Prop where
  ca : Calm2 a1
  cb : Calm2 b2
  ex : ∃ b3 q, flushS b2 t = (b3, q, 0) ∧ q.length ≤ 7 ∧ ((0 < q.length ∧ t % 7 ≠ 5) → ∃ a2, recvS a1 q = (a2, [], 0) ∧ WConn (t + 1) (stepW t m) S a2 b3) ∧ (¬ (0 < q.length ∧ t % 7 ≠ 5) → WConn (t + 1) (stepW t m) S a1 b3)
/-- A tick. -/
structure WRound (t : Nat) (m : WM) (S : Nat) (a b a1 : ChS) (p : List UInt8) : Prop where
  fl : flushS a t = (a1, p, 0)
  len : p.length ≤ 1200
  skip : (p.length = 0 ∨ t % 7 = 3) → WTail t m S a1 b ∧ gotW (stepW t m) = gotW m
  go : 0 < p.length → t % 7 ≠ 3 → ∃ b2, recvS b p = (b2, (List.range' (gotW m) (gotW (stepW t m) - gotW m)).map mw, 0) ∧ recvS b2 p = (b2, [], 192) ∧ Calm2 b2 ∧ WTail t m S a1 b2 ∧ gotW m ≤ gotW (stepW t m) ∧ gotW (stepW t m) ≤ 66000
theorem WConn.round (h : WConn t m S a b) (ht : t < 20000) (hok : WmOk t m) (hg : gotW m < 66000) (hS : S = min 66000 (m.f + 256)) : ∃ a1 p, WRound t m S a b a1 p := by
  have hf : m.f < 66000 := by unfold gotW at hg; split at hg <;> omega
  by_cases hq : m.md ≠ 0 ∧ t < m.t0 + 8
  · obtain ⟨a1, b1, q1, q2, q3⟩ := h.quiet (by omega) hq.1 hq.2
    have e : stepW t m = m := by unfold stepW; rw [if_neg hq.1, if_pos hq.2]
    have k1 := flushS_keep h.fa (t := (t : Int)) (by omega) (by have := (h.ca (by omega)).next; omega)
    have ca1 := q3.ca (by omega)
    refine ⟨a1, [], ⟨q1, Nat.zero_le _, fun _ => ⟨⟨ca1, h.cb (by omega), b1, [], q2, Nat.zero_le _, fun hc => absurd hc.1 (Nat.lt_irrefl _), fun _ => by rw [e]; exact q3⟩, by rw [e]⟩, fun hc => absurd hc (Nat.lt_irrefl _)⟩⟩
  · have hmd : m.md = 0 ∨ t = m.t0 + 8 := by
      by_cases h0 : m.md = 0
      · exact .inl h0
      · have := (hok.t0 h0).2
        exact .inr (by
          rcases Nat.lt_or_ge t (m.t0 + 8) with h1 | h1
          · exact absurd ⟨h0, h1⟩ hq
          · omega)
    obtain ⟨a1, p, hT⟩ := h.tick ht hok hf hS hmd
    have hwf : m.f + winW m.f ≤ 66000 := by unfold winW; omega
    refine ⟨a1, p, ⟨hT.fl, hT.len.2, fun hs => ?_, fun hp h7 => ?_⟩⟩
    · have h7 : t % 7 = 3 := by have := hT.len.1; omega
      have hm0 : m.md = 0 := by
        rcases Nat.eq_zero_or_pos m.md with h0 | h0
        · exact h0
        · have h1 := hok.md; have h2 := hok.r1; have h3 := hok.r2
          exfalso
          rcases hmd with h4 | h4
          · omega
          · rcases (show m.md = 1 ∨ m.md = 2 by omega) with h5 | h5
            · have := h2 h5; omega
            · have := h3 h5; omega
      obtain ⟨b1, r1, r2⟩ := hT.lost hm0 h7
      refine ⟨⟨hT.ca, h.cb (by omega), b1, [], r1, Nat.zero_le _, fun hc => absurd hc.1 (Nat.lt_irrefl _), fun _ => r2⟩, ?_⟩
      unfold stepW gotW
      rw [if_pos hm0, if_pos h7]
      simp [hm0]
    · obtain ⟨b2, b3, q, r1, r2, r3, r4, r5, r6, r7⟩ := hT.got (fun _ => h7)
      have eg : gotW (stepW t m) = m.f + winW m.f := by
        unfold stepW
        by_cases hm0 : m.md = 0
        · rw [if_pos hm0, if_neg h7]
          split
          · unfold gotW; simp
          · unfold gotW; simp
        · rw [if_neg hm0, if_neg (by rcases hmd with h0 | h0; exact absurd h0 hm0; omega)]
          unfold gotW; simp
      refine ⟨b2, by rw [eg]; exact r1, r2, r3, ⟨hT.ca, r3, b3, q, r4, by omega, fun hc => r7 (fun _ => hc.2), fun hc => ?_⟩, ?_, by rw [eg]; exact hwf⟩
      · have h5 : t % 7 = 5 := by omega
        have hm0 : m.md = 0 := by
          rcases Nat.eq_zero_or_pos m.md with h0 | h0
          · exact h0
          · have h1 := hok.md; have h2 := hok.r1; have h3 := hok.r2
            exfalso
            rcases hmd with h4 | h4
            · omega
            · rcases (show m.md = 1 ∨ m.md = 2 by omega) with h5 | h5
              · have := h2 h5; omega
              · have := h3 h5; omega
        exact r6 hm0 h5
      · rw [eg]; unfold gotW; split <;> omega
end
end Go.Proofs.Ythjjipcbpmdfnaa
