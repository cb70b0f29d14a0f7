/-
  PLAIN LAW: the reference's End and the program's answer alike (Receive, Make, Only).
-/
import Derived.Test.YtpmbfgpfpdenbaaRefL
namespace Go.Proofs.Ytpmbfgpfpdenbaa

theorem contains_app (l : List Int) (x y : Int) : (l ++ [y]).contains x = (l.contains x || (y == x)) := contains_snoc l x y

theorem acc_rel {s : EndS} {r : RefS} (hr : RefRel s r) (n : Int) (hn : r.other ≤ n) :
    (n < newestR r.other r.got - 32 → accept s (n - s.newest) = (s, 191)) ∧
    (¬ n < newestR r.other r.got - 32 → r.got.contains n = true → accept s (n - s.newest) = (s, 192)) ∧
    (¬ n < newestR r.other r.got - 32 → r.got.contains n = false → (accept s (n - s.newest)).2 = 0 ∧ RefRel (accept s (n - s.newest)).1 { r with got := r.got ++ [n] }) := by
  obtain ⟨h1, h2, h3, h4, h5, h6, h7⟩ := hr
  obtain ⟨N, hN⟩ : ∃ N, N = newestR r.other r.got := ⟨_, rfl⟩
  rw [← hN] at h5 h7 ⊢
  refine ⟨fun h => ?_, fun h hc => ?_, fun h hc => ?_⟩
  · unfold accept; rw [if_pos (by omega)]
  · have hmem : n ∈ r.got := List.contains_iff_mem.1 hc
    have hle : n ≤ N := by rw [hN]; exact newestR_ge hmem
    have hg : r.got ≠ [] := fun e => by rw [e] at hmem; cases hmem
    unfold accept
    rw [if_neg (by omega)]
    by_cases h0 : n = N
    · rw [if_pos (by omega)]
    · rw [if_neg (by omega), if_pos (by omega)]
      have hb : s.mask.testBit (-(n - s.newest) - 1).toNat = true := by
        rw [h7, if_neg hg, maskR_bit]
        rw [show N - 1 - (((-(n - s.newest) - 1).toNat : Nat) : Int) = n by omega, hc]
        simp; omega
      rw [if_pos hb]
  · have hne : n ≠ N := fun e => by
      have hm : newestR r.other r.got ∈ r.got := newestR_mem (by omega)
      rw [← hN, ← e] at hm
      rw [List.contains_iff_mem.2 hm] at hc; cases hc
    unfold accept
    rw [if_neg (by omega), if_neg (by omega)]
    by_cases hlt : n < N
    · have hg : r.got ≠ [] := h6.1 (by omega)
      rw [if_pos (by omega)]
      obtain ⟨i, hi⟩ : ∃ i : Nat, (-(n - s.newest) - 1).toNat = i := ⟨_, rfl⟩
      have hi2 : N - 1 - (i : Int) = n := by omega
      have hi32 : i < 32 := by omega
      rw [hi]
      have hb : s.mask.testBit i = false := by rw [h7, if_neg hg, maskR_bit, hi2, hc]; simp
      rw [if_neg (by rw [hb]; decide)]
      have hnw : newestR r.other (r.got ++ [n]) = N := by rw [newestR_snoc, ← hN]; omega
      refine ⟨rfl, ⟨h1, h2, h3, h4, by rw [hnw]; exact h5, ⟨fun _ => by simp, fun _ => by simp only; omega⟩, ?_⟩⟩
      simp only
      rw [if_neg (by simp), hnw, h7, if_neg hg]
      apply Nat.eq_of_testBit_eq
      intro j
      rw [Nat.testBit_or, maskR_bit, maskR_bit, Nat.testBit_two_pow, contains_app]
      by_cases hj : j < 32
      · rw [decide_eq_true hj]
        simp only [Bool.true_and]
        congr 1
        rw [Bool.eq_iff_iff]
        simp only [decide_eq_true_eq, beq_iff_eq]
        omega
      · rw [decide_eq_false hj, decide_eq_false (show ¬ i = j by omega)]; rfl
    · rw [if_neg (by omega)]
      obtain ⟨d, hd⟩ : ∃ d : Nat, (n - s.newest) = (d : Int) := ⟨(n - s.newest).toNat, by omega⟩
      have hd1 : 1 ≤ d := by omega
      have hnw : newestR r.other (r.got ++ [n]) = n := by rw [newestR_snoc, ← hN]; omega
      refine ⟨rfl, ⟨h1, h2, h3, h4, by rw [hnw]; simp only; omega, ⟨fun _ => by simp, fun _ => by simp only; omega⟩, ?_⟩⟩
      have hmk : (if r.got ++ [n] = [] then 0 else maskR (newestR r.other (r.got ++ [n])) (r.got ++ [n]) 32) = maskR n (r.got ++ [n]) 32 := by rw [if_neg (by simp), hnw]
      simp only
      rw [hmk, hd, Int.toNat_natCast, show ((d : Int) - 1).toNat = d - 1 by omega]
      have hm0 : s.mask = if r.got = [] then 0 else maskR N r.got 32 := h7
      apply Nat.eq_of_testBit_eq
      intro j
      rw [maskR_bit, contains_app]
      by_cases hj : j < 32
      · have hnb := new_bit s.mask d j (decide (s.other ≤ s.newest)) hj hd1
        have e : (if s.other ≤ s.newest then 2 ^ min (d - 1) 32 % 4294967296 else 0) = (if decide (s.other ≤ s.newest) = true then 2 ^ min (d - 1) 32 % 4294967296 else 0) := by
          by_cases h : s.other ≤ s.newest <;> simp [h]
        rw [e, hnb, decide_eq_true hj]
        simp only [Bool.true_and]
        have e2 : (n == n - 1 - (j : Int)) = false := by simp; omega
        rw [e2, Bool.or_false]
        by_cases hg : r.got = []
        · rw [hg] at h6
          have h6' : ¬ s.other ≤ s.newest := fun h => h6.1 h rfl
          rw [hm0, if_pos hg, hg, decide_eq_false h6']
          simp
        · have h6' : s.other ≤ s.newest := h6.2 hg
          rw [hm0, if_neg hg, decide_eq_true h6', maskR_bit]
          simp only [Bool.true_and]
          rcases Nat.lt_trichotomy (j + 1) d with h | h | h
          · rw [decide_eq_false (show ¬ d ≤ j by omega), decide_eq_false (show ¬ j = d - 1 by omega)]
            simp only [Bool.false_and, Bool.or_false]
            have : ¬ (n - 1 - (j : Int)) ∈ r.got := fun hm => by have := newestR_ge (other := r.other) hm; rw [← hN] at this; omega
            rw [← List.contains_iff_mem] at this
            simpa using this
          · rw [decide_eq_false (show ¬ d ≤ j by omega), decide_eq_true (show j = d - 1 by omega)]
            simp only [Bool.false_and, Bool.or_true]
            have : (n - 1 - (j : Int)) = newestR r.other r.got := by rw [← hN]; omega
            rw [this]
            exact (List.contains_iff_mem.2 (newestR_mem (by rw [← hN]; omega))).symm
          · rw [decide_eq_true (show d ≤ j by omega), decide_eq_false (show ¬ j = d - 1 by omega)]
            simp only [Bool.true_and, Bool.or_false]
            rw [decide_eq_true (show j - d < 32 by omega), Bool.true_and, show N - 1 - ((j - d : Nat) : Int) = n - 1 - (j : Int) by omega]
      · rw [decide_eq_false hj]
        have hlt : s.mask * 2 ^ min d 32 % 4294967296 ||| (if s.other ≤ s.newest then 2 ^ min (d - 1) 32 % 4294967296 else 0) < 2 ^ 32 := by
          refine Nat.or_lt_two_pow (Nat.mod_lt _ (by decide)) ?_
          split
          · exact Nat.mod_lt _ (by decide)
          · decide
        rw [Nat.testBit_lt_two_pow (Nat.lt_of_lt_of_le hlt (Nat.pow_le_pow_right (by omega) (by omega)))]
        rfl

theorem RefRel.pended {s : EndS} {r : RefS} (h : RefRel s r) {l m : List Int} (e : l = m) : RefRel { s with pend := l } { r with pend := m } := ⟨h.own, h.next, h.other, e, h.newest, h.some, h.mask⟩

/-- Behind the header: a packet with a body or without. -/
theorem recv_tail {s : EndS} {r : RefS} (hr : RefRel s r) (hb : Bool) (nm : List Int) (ha : Bool) (ack num : Int) (body : List UInt8) (l : List Int) (rs : List (Int × Bool)) (hl : l = leftR nm ha ack r.pend) (hrs : rs = repR nm ha ack r.pend) (hnum : hb = true → r.other ≤ num) :
    RefRel (if hb = true then ((accept { s with pend := l } (num - s.newest)).1, if (accept { s with pend := l } (num - s.newest)).2 = 0 then body else [], rs, (accept { s with pend := l } (num - s.newest)).2) else ({ s with pend := l }, [], rs, 0)).1
      (if hb = false then ({ r with pend := leftR nm ha ack r.pend }, ([] : List UInt8), repR nm ha ack r.pend, (0 : Int)) else if num < newestR r.other r.got - 32 then ({ r with pend := leftR nm ha ack r.pend }, [], repR nm ha ack r.pend, 191)
        else if r.got.contains num = true then ({ r with pend := leftR nm ha ack r.pend }, [], repR nm ha ack r.pend, 192) else ({ r with pend := leftR nm ha ack r.pend, got := r.got ++ [num] }, body, repR nm ha ack r.pend, 0)).1 ∧
    (if hb = true then ((accept { s with pend := l } (num - s.newest)).1, if (accept { s with pend := l } (num - s.newest)).2 = 0 then body else [], rs, (accept { s with pend := l } (num - s.newest)).2) else ({ s with pend := l }, [], rs, 0)).2 =
      (if hb = false then ({ r with pend := leftR nm ha ack r.pend }, ([] : List UInt8), repR nm ha ack r.pend, (0 : Int)) else if num < newestR r.other r.got - 32 then ({ r with pend := leftR nm ha ack r.pend }, [], repR nm ha ack r.pend, 191)
        else if r.got.contains num = true then ({ r with pend := leftR nm ha ack r.pend }, [], repR nm ha ack r.pend, 192) else ({ r with pend := leftR nm ha ack r.pend, got := r.got ++ [num] }, body, repR nm ha ack r.pend, 0)).2 := by
  subst hl; subst hrs
  have h1 := hr.pended (l := leftR nm ha ack r.pend) rfl
  cases hb with
  | false => exact ⟨h1, rfl⟩
  | true =>
    have ha' := acc_rel h1 num (hnum rfl)
    simp only [if_true, Bool.true_eq_false, if_false] at ha' ⊢
    obtain ⟨a1, a2, a3⟩ := ha'
    by_cases c1 : num < newestR r.other r.got - 32
    · rw [if_pos c1, a1 c1]; exact ⟨h1, rfl⟩
    · rw [if_neg c1]
      cases c2 : r.got.contains num with
      | true => rw [if_pos rfl, a2 c1 c2]; exact ⟨h1, rfl⟩
      | false =>
        rw [if_neg (by decide)]
        obtain ⟨b1, b2⟩ := a3 c1 c2
        rw [b1]
        exact ⟨b2, rfl⟩

/-- Receive. -/
theorem recv_ref {s : EndS} {r : RefS} (hr : RefRel s r) (xs : List UInt8) : RefRel (recvP s xs).1 (refRecv r xs).1 ∧ (recvP s xs).2 = (refRecv r xs).2 := by
  rw [parse_ref]
  unfold recvP
  cases hp : parseP xs with
  | none => exact ⟨hr, rfl⟩
  | some q =>
    obtain ⟨f, nu, ak, mk, body⟩ := q
    obtain ⟨f1, f3, -, -, -, hb1, hb2⟩ := parse_bd hp
    obtain ⟨so, sn, st, sw, sm, sp⟩ := s
    obtain ⟨ro, rt, rn, rp, rg⟩ := r
    have hr' := hr
    obtain ⟨e1, e2, e3, e4, e5, -, -⟩ := hr'
    simp only at e1 e2 e3 e4 e5
    subst e1; subst e2; subst e3; subst e4; subst e5
    simp only
    unfold refTail
    have hbad : ∀ num : Int, badR ⟨so, st, sn, sp, rg⟩ (decide (f % 2 = 1)) num body = true ↔ (f % 2 = 1 ∧ num < st) := fun num => by
      unfold badR
      have e : decide (0 < body.length) = decide (f % 2 = 1) := decide_eq_decide.2 hb2
      rw [e, decide_eq_false (show ¬ 1191 < body.length by omega)]
      simp
    by_cases c1 : f % 2 = 1
    · by_cases c3 : near (newestR st rg) nu < st
      · rw [if_pos ⟨c1, c3⟩, if_pos ((hbad _).2 ⟨c1, by rw [if_pos c1]; exact c3⟩)]
        exact ⟨hr, rfl⟩
      · rw [if_neg (show ¬ (f % 2 = 1 ∧ near (newestR st rg) nu < st) from fun h => c3 h.2), if_neg (show ¬ badR ⟨so, st, sn, sp, rg⟩ (decide (f % 2 = 1)) (if f % 2 = 1 then near (newestR st rg) nu else 0) body = true from fun h => c3 (by have := ((hbad _).1 h).2; rwa [if_pos c1] at this))]
        by_cases c2 : f / 2 % 2 = 1
        · simp only [c1, c2, if_true, decide_true, true_and, nmR]
          by_cases c4 : outR ⟨so, st, sn, sp, rg⟩ (namedR (near (sn - 1) ak) mk 32) = true
          · rw [if_pos c4, if_pos ((out_eq _ _ _).1 c4)]
            exact ⟨hr, rfl⟩
          · rw [if_neg c4, if_neg (fun h => c4 ((out_eq _ _ _).2 h))]
            exact recv_tail hr true (namedR (near (sn - 1) ak) mk 32) true (near (sn - 1) ak) (near (newestR st rg) nu) body (ackL (near (sn - 1) ak) mk sp) (ackR (near (sn - 1) ak) mk sp) (by rw [left_eq]) (by rw [rep_eq]) (fun _ => by simp only; omega)
        · have c2' : decide (f / 2 % 2 = 1) = false := by simpa using c2
          simp only [c1, c2, if_true, if_false, decide_true, decide_false, false_and, nmR, Bool.false_eq_true]
          rw [if_neg (show ¬ outR ⟨so, st, sn, sp, rg⟩ [] = true by unfold outR; simp)]
          exact recv_tail hr true [] false 0 (near (newestR st rg) nu) body sp [] (by rw [left_none]) (by rw [rep_none]) (fun _ => by simp only; omega)
    · have c2 : f / 2 % 2 = 1 := by omega
      have c1' : decide (f % 2 = 1) = false := by simpa using c1
      rw [if_neg (show ¬ (f % 2 = 1 ∧ near (newestR st rg) nu < st) from fun h => c1 h.1), if_neg (show ¬ badR ⟨so, st, sn, sp, rg⟩ (decide (f % 2 = 1)) (if f % 2 = 1 then near (newestR st rg) nu else 0) body = true from fun h => c1 ((hbad _).1 h).1)]
      simp only [c1, c2, if_true, if_false, decide_true, decide_false, true_and, nmR]
      by_cases c4 : outR ⟨so, st, sn, sp, rg⟩ (namedR (near (sn - 1) ak) mk 32) = true
      · rw [if_pos c4, if_pos ((out_eq _ _ _).1 c4)]
        exact ⟨hr, rfl⟩
      · rw [if_neg c4, if_neg (fun h => c4 ((out_eq _ _ _).2 h))]
        exact recv_tail hr false (namedR (near (sn - 1) ak) mk 32) true (near (sn - 1) ak) 0 body (ackL (near (sn - 1) ak) mk sp) (ackR (near (sn - 1) ak) mk sp) (by rw [left_eq]) (by rw [rep_eq]) (fun h => by cases h)

/-- Make. -/
theorem make_ref {s : EndS} {r : RefS} (hr : RefRel s r) (xs : List UInt8) (h0 : 0 ≤ s.next) : RefRel (makeS s) (refMakeS r) ∧ packP (makeS s) s.next xs = refBytes r r.next xs ∧ lostP s = refLost r := by
  obtain ⟨so, sn, st, sw, sm, sp⟩ := s
  obtain ⟨ro, rt, rn, rp, rg⟩ := r
  have hr' := hr
  obtain ⟨e1, e2, e3, e4, e5, e6, e7⟩ := hr'
  simp only at e1 e2 e3 e4 e5 e6 e7 h0
  subst e1; subst e2; subst e3; subst e4; subst e5
  refine ⟨⟨rfl, rfl, rfl, rfl, rfl, e6, e7⟩, ?_, rfl⟩
  unfold packP refBytes makeS
  simp only
  rw [if_pos h0, if_pos h0]
  by_cases hg : rg = []
  · rw [if_neg (fun h => e6.1 h hg), if_pos hg, if_pos hg, bytesOf_one]; simp
  · rw [if_pos (e6.2 hg), if_neg hg, if_neg hg, bytesOf_one, e7, if_neg hg]; simp

/-- Only. -/
theorem only_ref {s : EndS} {r : RefS} (hr : RefRel s r) (hg : r.got ≠ []) : ackP s = refBytes r (-1) [] := by
  unfold ackP refBytes
  rw [if_neg (show ¬ (0 : Int) ≤ -1 by decide), if_neg (show ¬ (0 : Int) ≤ -1 by decide), if_neg hg, if_neg hg, bytesOf_one, hr.newest, hr.mask, if_neg hg]
  simp
/-- At the beginning. -/
theorem new_ref (own other : Int) : RefRel ⟨own, own, other, other - 1, 0, []⟩ ⟨own, other, own, [], []⟩ :=
  ⟨rfl, rfl, rfl, rfl, rfl, ⟨fun h => by simp only at h; omega, fun h => absurd rfl h⟩, rfl⟩
end Go.Proofs.Ytpmbfgpfpdenbaa
