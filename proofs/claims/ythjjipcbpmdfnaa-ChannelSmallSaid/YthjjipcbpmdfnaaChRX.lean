/-
  Joined: ChRL, ChRN, ChRA.
-/
import Derived.Test.YthjjipcbpmdfnaaChRR
import Derived.Test.YthjjipcbpmdfnaaRefB
import Derived.Test.YthjjipcbpmdfnaaChLM

/- PLAIN LAW: the reference's End and the program's answer alike. -/
namespace Go.Proofs.Ythjjipcbpmdfnaa

theorem newestR_cases (l : List Int) (a : Int) : l.foldl max a = a ∨ l.foldl max a ∈ l := by
  induction l generalizing a with
  | nil => exact .inl rfl
  | cons x l ih =>
    simp only [List.foldl_cons]
    rcases ih (max a x) with h | h
    · rw [h]
      rcases Int.le_total a x with h1 | h1
      · rw [Int.max_eq_right h1]; exact .inr (by simp)
      · rw [Int.max_eq_left h1]; exact .inl rfl
    · exact .inr (List.mem_cons_of_mem _ h)
theorem foldl_max_ge (l : List Int) (a : Int) : a ≤ l.foldl max a ∧ ∀ x ∈ l, x ≤ l.foldl max a := by
  induction l generalizing a with
  | nil => exact ⟨Int.le_refl _, fun x h => by cases h⟩
  | cons y l ih =>
    simp only [List.foldl_cons]
    obtain ⟨h1, h2⟩ := ih (max a y)
    refine ⟨by omega, fun x hx => ?_⟩
    rcases List.mem_cons.1 hx with rfl | hx
    · omega
    · exact h2 x hx
theorem newestR_mem {other : Int} {got : List Int} (h : other ≤ newestR other got) : newestR other got ∈ got := by
  rcases newestR_cases got (other - 1) with h1 | h1
  · unfold newestR at h; omega
  · exact h1
theorem newestR_ge {other : Int} {got : List Int} {x : Int} (h : x ∈ got) : x ≤ newestR other got := (foldl_max_ge got (other - 1)).2 x h

theorem maskR_bit (n : Int) (got : List Int) (k i : Nat) : (maskR n got k).testBit i = (decide (i < k) && got.contains (n - 1 - (i : Int))) := by
  induction k with
  | zero => simp [maskR]
  | succ k ih =>
    have hlt := maskR_lt n got k
    simp only [maskR]
    by_cases hc : got.contains (n - 1 - (k : Int)) = true
    · rw [if_pos hc, Nat.add_comm]
      rcases Nat.lt_trichotomy i k with h | h | h
      · rw [Nat.testBit_two_pow_add_gt h, ih, decide_eq_true h, decide_eq_true (show i < k + 1 by omega)]
      · subst h
        rw [Nat.testBit_two_pow_add_eq, Nat.testBit_lt_two_pow hlt, hc, decide_eq_true (show i < i + 1 by omega)]; rfl
      · rw [Nat.testBit_lt_two_pow, decide_eq_false (show ¬ i < k + 1 by omega)]; rfl
        have h1 : 2 ^ (k + 1) ≤ 2 ^ i := Nat.pow_le_pow_right (by omega) (by omega)
        have h2 : 2 ^ (k + 1) = 2 ^ k + 2 ^ k := by rw [Nat.pow_succ]; omega
        omega
    · rw [if_neg hc, Nat.add_zero, ih]
      by_cases h : i < k
      · rw [decide_eq_true h, decide_eq_true (show i < k + 1 by omega)]
      · by_cases h2 : i = k
        · subst h2
          have : got.contains (n - 1 - (i : Int)) = false := by simpa using hc
          rw [this]; simp
        · rw [decide_eq_false h, decide_eq_false (show ¬ i < k + 1 by omega)]

/-- What a named number is. -/
theorem namedR_mem (ack : Int) (mask k : Nat) (x : Int) : x ∈ namedR ack mask k ↔ x = ack ∨ ∃ i, i < k ∧ mask.testBit i = true ∧ x = ack - 1 - (i : Int) := by
  induction k with
  | zero => simp [namedR]
  | succ k ih =>
    simp only [namedR, List.mem_append, ih]
    constructor
    · rintro ((h | ⟨i, h1, h2, h3⟩) | h)
      · exact .inl h
      · exact .inr ⟨i, by omega, h2, h3⟩
      · by_cases hb : mask.testBit k = true
        · rw [if_pos hb] at h
          exact .inr ⟨k, by omega, hb, by simpa using h⟩
        · rw [if_neg hb] at h; simp at h
    · rintro (h | ⟨i, h1, h2, h3⟩)
      · exact .inl (.inl h)
      · by_cases hk : i = k
        · subst hk
          rw [if_pos h2]; exact .inr (by simpa using h3)
        · exact .inl (.inr ⟨i, by omega, h2, h3⟩)
theorem named_eq (ack : Int) (mask : Nat) (n : Int) : (namedR ack mask 32).contains n = named ack mask n := by
  rw [Bool.eq_iff_iff, List.contains_iff_mem, namedR_mem]
  unfold named
  simp only [Bool.or_eq_true, beq_iff_eq, Bool.and_eq_true, decide_eq_true_eq]
  constructor
  · rintro (h | ⟨i, h1, h2, h3⟩)
    · exact .inl h
    · refine .inr ⟨⟨by omega, by omega⟩, ?_⟩
      rw [show (ack - 1 - n).toNat = i by omega]; exact h2
  · rintro (h | ⟨⟨h1, h2⟩, h3⟩)
    · exact .inl h
    · exact .inr ⟨(ack - 1 - n).toNat, by omega, h3, by omega⟩

theorem rep_eq (ack : Int) (mask : Nat) (l : List Int) : repR (namedR ack mask 32) true ack l = ackR ack mask l := by
  induction l with
  | nil => rfl
  | cons n l ih =>
    simp only [repR, ackR, ih, named_eq, true_and]
theorem left_eq (ack : Int) (mask : Nat) (l : List Int) : leftR (namedR ack mask 32) true ack l = ackL ack mask l := by
  induction l with
  | nil => rfl
  | cons n l ih =>
    simp only [leftR, ackL, ih, named_eq, true_and]
theorem rep_none (ack : Int) (l : List Int) : repR [] false ack l = [] := by
  induction l with
  | nil => rfl
  | cons n l ih => simp [repR, ih]
theorem left_none (ack : Int) (l : List Int) : leftR [] false ack l = l := by
  induction l with
  | nil => rfl
  | cons n l ih => simp [leftR, ih]

/-- The numbers that are named lie among those that were made. -/
theorem out_eq (r : RefS) (ack : Int) (mask : Nat) : outR r (namedR ack mask 32) = true ↔ (ack < r.own ∨ r.next ≤ ack ∨ earlyB ack r.own mask = true) := by
  unfold outR
  simp only [List.any_eq_true, Bool.or_eq_true, decide_eq_true_eq, namedR_mem]
  constructor
  · rintro ⟨x, h | ⟨i, h1, h2, h3⟩, h4⟩
    · subst h; rcases h4 with h | h
      · exact .inl h
      · exact .inr (.inl h)
    · by_cases ha : ack < r.own
      · exact .inl ha
      by_cases hb : r.next ≤ ack
      · exact .inr (.inl hb)
      refine .inr (.inr ((early_iff _ _ _ (by omega)).2 ⟨x, by omega, by rcases h4 with h | h <;> omega, ?_⟩))
      unfold named
      rw [show (ack - 1 - x).toNat = i by omega, h2]
      simp; omega
  · rintro (h | h | h)
    · exact ⟨ack, .inl rfl, .inl h⟩
    · exact ⟨ack, .inl rfl, .inr h⟩
    · by_cases ha : ack < r.own
      · exact ⟨ack, .inl rfl, .inl ha⟩
      obtain ⟨n, h1, h2, h3⟩ := (early_iff _ _ _ (by omega)).1 h
      exact ⟨n, by rw [← namedR_mem ack mask 32, ← List.contains_iff_mem, named_eq]; exact h3, .inl h2⟩

theorem drop_two (l : List UInt8) (i : Nat) (h : i + 2 ≤ l.length) : (l.drop i).take 2 = [l.getD i 0, l.getD (i + 1) 0] := by
  rw [List.drop_eq_getElem_cons (by omega), List.drop_eq_getElem_cons (by omega)]
  simp only [List.take_succ_cons, List.take_zero, List.getD_eq_getElem?_getD]
  rw [List.getElem?_eq_getElem (by omega), List.getElem?_eq_getElem (by omega)]
  rfl
theorem drop_four (l : List UInt8) (i : Nat) (h : i + 4 ≤ l.length) : (l.drop i).take 4 = [l.getD i 0, l.getD (i + 1) 0, l.getD (i + 2) 0, l.getD (i + 3) 0] := by
  rw [List.drop_eq_getElem_cons (by omega), List.drop_eq_getElem_cons (by omega), List.drop_eq_getElem_cons (by omega), List.drop_eq_getElem_cons (by omega)]
  simp only [List.take_succ_cons, List.take_zero, List.getD_eq_getElem?_getD]
  rw [List.getElem?_eq_getElem (by omega), List.getElem?_eq_getElem (by omega), List.getElem?_eq_getElem (by omega), List.getElem?_eq_getElem (by omega)]
  rfl
theorem byteR_succ (c : UInt8) (t : List UInt8) (i : Nat) : byteR (c :: t) (i + 1) = byteR t i := rfl
theorem num_be (t : List UInt8) (i : Nat) (h : i + 2 ≤ t.length) : numR t i = (beNum ((t.drop i).take 2) : Int) := by
  rw [drop_two t i h]; simp [beNum, numR, byteR]
theorem msk_be (t : List UInt8) (i : Nat) (h : i + 4 ≤ t.length) : mskR t i = beNum ((t.drop i).take 4) := by
  rw [drop_four t i h]; simp [beNum, mskR, byteR]; omega
theorem numR_cons (c : UInt8) (t : List UInt8) (i : Nat) : numR (c :: t) (i + 1) = numR t i := rfl
theorem mskR_cons (c : UInt8) (t : List UInt8) (i : Nat) : mskR (c :: t) (i + 1) = mskR t i := rfl

theorem tail_bad {r : RefS} {hb ha : Bool} {nu ack : Int} {m : Nat} {body : List UInt8} (h : badR r hb nu body = true) : refTail r hb ha nu ack m body = (r, [], [], 190) := by unfold refTail; rw [if_pos h]

/-- The reference reads what the program reads. -/
theorem parse_ref (r : RefS) (xs : List UInt8) : refRecv r xs = match parseP xs with
    | none => (r, [], [], 190)
    | some (f, nu, ak, mk, body) => refTail r (decide (f % 2 = 1)) (decide (f / 2 % 2 = 1)) (if f % 2 = 1 then near (newestR r.other r.got) nu else 0) (if f / 2 % 2 = 1 then near (r.next - 1) ak else 0) (if f / 2 % 2 = 1 then mk else 0) body := by
  cases xs with
  | nil => rfl
  | cons c t =>
    obtain ⟨f, hf⟩ : ∃ f, f = c.toNat := ⟨_, rfl⟩
    have h0 : byteR (c :: t) 0 = f := by rw [hf]; rfl
    unfold refRecv refRecv1 refRecv2
    simp only [parseP, ← hf, h0, hbR, haR, at1R, at2R, List.length_cons]
    by_cases hbad : f < 1 ∨ 3 < f
    · rw [if_pos (.inr hbad), if_pos (by rcases hbad with h | h <;> simp [h])]
    · rw [if_neg (by omega)]
      rcases (show f = 1 ∨ f = 2 ∨ f = 3 by omega) with rfl | rfl | rfl
      · simp only [Nat.reduceMod, Nat.reduceDiv, if_true, decide_true, true_and, Nat.reduceLeDiff, decide_false, if_false, Nat.reduceAdd, Nat.reduceEqDiff, Bool.false_eq_true, false_and, Nat.reduceSub, Nat.zero_mod, Nat.lt_irrefl, Nat.reduceLT, false_or, Nat.add_zero]
        by_cases h1 : t.length < 2
        · rw [if_pos (by omega), if_pos (.inl h1)]
        · rw [if_neg (by omega)]
          have hn : numR (c :: t) 1 = (beNum (List.take 2 t) : Int) := by rw [numR_cons, num_be t 0 (by omega)]; rfl
          have hl : (List.drop 3 (c :: t)).length = t.length - 2 := by simp
          by_cases h2 : 1191 < t.length - 2 ∨ (0 < t.length - 2) ≠ True
          · rw [if_pos (.inr h2)]
            refine tail_bad ?_
            unfold badR
            rw [hl]
            rcases h2 with h | h
            · simp [h]
            · have : ¬ 0 < t.length - 2 := fun h' => h (by simp [h'])
              simp [this]
          · rw [if_neg (by rintro (h | h); exact h1 h; exact h2 h)]
            simp only [Nat.reduceMod, Nat.reduceDiv, if_true, decide_true, Nat.reduceEqDiff, decide_false, if_false, Nat.zero_mod, hn]
            rfl
      · simp only [Nat.reduceMod, Nat.reduceDiv, if_true, decide_true, true_and, Nat.reduceLeDiff, decide_false, if_false, Nat.reduceAdd, Nat.reduceEqDiff, Bool.false_eq_true, false_and, Nat.reduceSub, Nat.reduceLT, false_or, Nat.zero_add]
        by_cases h1 : t.length < 6
        · rw [if_pos (by omega), if_pos (.inl h1)]
        · rw [if_neg (by omega)]
          have hn : numR (c :: t) 1 = (beNum (List.take 2 t) : Int) := by rw [numR_cons, num_be t 0 (by omega)]; rfl
          have hm : mskR (c :: t) 3 = beNum (List.take 4 (List.drop 2 t)) := by rw [mskR_cons, msk_be t 2 (by omega)]
          have hl : (List.drop 7 (c :: t)).length = t.length - 6 := by simp
          by_cases h2 : 1191 < t.length - 6 ∨ (0 < t.length - 6) ≠ False
          · rw [if_pos (.inr h2)]
            refine tail_bad ?_
            unfold badR
            rw [hl]
            rcases h2 with h | h
            · simp [h]
            · have : 0 < t.length - 6 := Classical.byContradiction fun h' => h (by simp [h'])
              simp [this]
          · rw [if_neg (by rintro (h | h); exact h1 h; exact h2 h)]
            simp only [Nat.reduceMod, Nat.reduceDiv, if_true, decide_true, Nat.reduceEqDiff, decide_false, if_false, hn, hm]
            rfl
      · simp only [Nat.reduceMod, Nat.reduceDiv, if_true, decide_true, true_and, Nat.reduceLeDiff, Nat.reduceAdd, Nat.reduceSub, Nat.lt_irrefl, Nat.reduceLT, false_or]
        by_cases h0 : t.length < 2
        · rw [if_pos (by omega), if_pos (.inl (by omega))]
        · rw [if_neg (by omega)]
          by_cases h1 : t.length < 8
          · rw [if_pos (by omega), if_pos (.inl h1)]
          · rw [if_neg (by omega)]
            have hn : numR (c :: t) 1 = (beNum (List.take 2 t) : Int) := by rw [numR_cons, num_be t 0 (by omega)]; rfl
            have ha : numR (c :: t) 3 = (beNum (List.take 2 (List.drop 2 t)) : Int) := by rw [numR_cons, num_be t 2 (by omega)]
            have hm : mskR (c :: t) 5 = beNum (List.take 4 (List.drop 4 t)) := by rw [mskR_cons, msk_be t 4 (by omega)]
            have hl : (List.drop 9 (c :: t)).length = t.length - 8 := by simp
            by_cases h2 : 1191 < t.length - 8 ∨ (0 < t.length - 8) ≠ True
            · rw [if_pos (.inr h2)]
              refine tail_bad ?_
              unfold badR
              rw [hl]
              rcases h2 with h | h
              · simp [h]
              · have : ¬ 0 < t.length - 8 := fun h' => h (by simp [h'])
                simp [this]
            · rw [if_neg (by rintro (h | h); exact h1 h; exact h2 h)]
              simp only [Nat.reduceMod, Nat.reduceDiv, if_true, decide_true, hn, ha, hm]
              rfl
end Go.Proofs.Ythjjipcbpmdfnaa

/- PLAIN LAW: the reference's End and the program's answer alike (Receive, Make, Only). -/
namespace Go.Proofs.Ythjjipcbpmdfnaa

theorem contains_app (l : List Int) (x y : Int) : (l ++ [y]).contains x = (l.contains x || (y == x)) := contains_snoc l x y

theorem acc_rel {s : EndS} {r : RefS} (hr : RefRel s r) (n : Int) (hn : r.other ≤ n) :
    (n < newestR r.other r.got - 32 → accept s (n - s.newest) = (s, 191)) ∧
    (¬ n < newestR r.other r.got - 32 → r.got.contains n = true → accept s (n - s.newest) = (s, 192)) ∧
    (¬ n < newestR r.other r.got - 32 → r.got.contains n = false → (accept s (n - s.newest)).2 = 0 ∧ RefRel (accept s (n - s.newest)).1 { r with got := r.got ++ [n] }) := by
  obtain ⟨h1, h2, h3, h4, h5, h6, h7⟩ := hr
  obtain ⟨N, hN⟩ : ∃ N, N = newestR r.other r.got := ⟨_, rfl⟩
  rw [← hN] at h5 h7 ⊢
  refine ⟨fun h => ?_, fun h hc => ?_, fun h hc => ?_⟩
  · unfold accept; rw [if_pos (by omega)]
  · have hmem : n ∈ r.got := List.contains_iff_mem.1 hc
    have hle : n ≤ N := by rw [hN]; exact newestR_ge hmem
    have hg : r.got ≠ [] := fun e => by rw [e] at hmem; cases hmem
    unfold accept
    rw [if_neg (by omega)]
    by_cases h0 : n = N
    · rw [if_pos (by omega)]
    · rw [if_neg (by omega), if_pos (by omega)]
      have hb : s.mask.testBit (-(n - s.newest) - 1).toNat = true := by
        rw [h7, if_neg hg, maskR_bit]
        rw [show N - 1 - (((-(n - s.newest) - 1).toNat : Nat) : Int) = n by omega, hc]
        simp; omega
      rw [if_pos hb]
  · have hne : n ≠ N := fun e => by
      have hm : newestR r.other r.got ∈ r.got := newestR_mem (by omega)
      rw [← hN, ← e] at hm
      rw [List.contains_iff_mem.2 hm] at hc; cases hc
    unfold accept
    rw [if_neg (by omega), if_neg (by omega)]
    by_cases hlt : n < N
    · have hg : r.got ≠ [] := h6.1 (by omega)
      rw [if_pos (by omega)]
      obtain ⟨i, hi⟩ : ∃ i : Nat, (-(n - s.newest) - 1).toNat = i := ⟨_, rfl⟩
      have hi2 : N - 1 - (i : Int) = n := by omega
      have hi32 : i < 32 := by omega
      rw [hi]
      have hb : s.mask.testBit i = false := by rw [h7, if_neg hg, maskR_bit, hi2, hc]; simp
      rw [if_neg (by rw [hb]; decide)]
      have hnw : newestR r.other (r.got ++ [n]) = N := by rw [newestR_snoc, ← hN]; omega
      refine ⟨rfl, ⟨h1, h2, h3, h4, by rw [hnw]; exact h5, ⟨fun _ => by simp, fun _ => by simp only; omega⟩, ?_⟩⟩
      simp only
      rw [if_neg (by simp), hnw, h7, if_neg hg]
      apply Nat.eq_of_testBit_eq
      intro j
      rw [Nat.testBit_or, maskR_bit, maskR_bit, Nat.testBit_two_pow, contains_app]
      by_cases hj : j < 32
      · rw [decide_eq_true hj]
        simp only [Bool.true_and]
        congr 1
        rw [Bool.eq_iff_iff]
        simp only [decide_eq_true_eq, beq_iff_eq]
        omega
      · rw [decide_eq_false hj, decide_eq_false (show ¬ i = j by omega)]; rfl
    · rw [if_neg (by omega)]
      obtain ⟨d, hd⟩ : ∃ d : Nat, (n - s.newest) = (d : Int) := ⟨(n - s.newest).toNat, by omega⟩
      have hd1 : 1 ≤ d := by omega
      have hnw : newestR r.other (r.got ++ [n]) = n := by rw [newestR_snoc, ← hN]; omega
      refine ⟨rfl, ⟨h1, h2, h3, h4, by rw [hnw]; simp only; omega, ⟨fun _ => by simp, fun _ => by simp only; omega⟩, ?_⟩⟩
      have hmk : (if r.got ++ [n] = [] then 0 else maskR (newestR r.other (r.got ++ [n])) (r.got ++ [n]) 32) = maskR n (r.got ++ [n]) 32 := by rw [if_neg (by simp), hnw]
      simp only
      rw [hmk, hd, Int.toNat_natCast, show ((d : Int) - 1).toNat = d - 1 by omega]
      have hm0 : s.mask = if r.got = [] then 0 else maskR N r.got 32 := h7
      apply Nat.eq_of_testBit_eq
      intro j
      rw [maskR_bit, contains_app]
      by_cases hj : j < 32
      · have hnb := new_bit s.mask d j (decide (s.other ≤ s.newest)) hj hd1
        have e : (if s.other ≤ s.newest then 2 ^ min (d - 1) 32 % 4294967296 else 0) = (if decide (s.other ≤ s.newest) = true then 2 ^ min (d - 1) 32 % 4294967296 else 0) := by
          by_cases h : s.other ≤ s.newest <;> simp [h]
        rw [e, hnb, decide_eq_true hj]
        simp only [Bool.true_and]
        have e2 : (n == n - 1 - (j : Int)) = false := by simp; omega
        rw [e2, Bool.or_false]
        by_cases hg : r.got = []
        · rw [hg] at h6
          have h6' : ¬ s.other ≤ s.newest := fun h => h6.1 h rfl
          rw [hm0, if_pos hg, hg, decide_eq_false h6']
          simp
        · have h6' : s.other ≤ s.newest := h6.2 hg
          rw [hm0, if_neg hg, decide_eq_true h6', maskR_bit]
          simp only [Bool.true_and]
          rcases Nat.lt_trichotomy (j + 1) d with h | h | h
          · rw [decide_eq_false (show ¬ d ≤ j by omega), decide_eq_false (show ¬ j = d - 1 by omega)]
            simp only [Bool.false_and, Bool.or_false]
            have : ¬ (n - 1 - (j : Int)) ∈ r.got := fun hm => by have := newestR_ge (other := r.other) hm; rw [← hN] at this; omega
            rw [← List.contains_iff_mem] at this
            simpa using this
          · rw [decide_eq_false (show ¬ d ≤ j by omega), decide_eq_true (show j = d - 1 by omega)]
            simp only [Bool.false_and, Bool.or_true]
            have : (n - 1 - (j : Int)) = newestR r.other r.got := by rw [← hN]; omega
            rw [this]
            exact (List.contains_iff_mem.2 (newestR_mem (by rw [← hN]; omega))).symm
          · rw [decide_eq_true (show d ≤ j by omega), decide_eq_false (show ¬ j = d - 1 by omega)]
            simp only [Bool.true_and, Bool.or_false]
            rw [decide_eq_true (show j - d < 32 by omega), Bool.true_and, show N - 1 - ((j - d : Nat) : Int) = n - 1 - (j : Int) by omega]
      · rw [decide_eq_false hj]
        have hlt : s.mask * 2 ^ min d 32 % 4294967296 ||| (if s.other ≤ s.newest then 2 ^ min (d - 1) 32 % 4294967296 else 0) < 2 ^ 32 := by
          refine Nat.or_lt_two_pow (Nat.mod_lt _ (by decide)) ?_
          split
          · exact Nat.mod_lt _ (by decide)
          · decide
        rw [Nat.testBit_lt_two_pow (Nat.lt_of_lt_of_le hlt (Nat.pow_le_pow_right (by omega) (by omega)))]
        rfl

theorem RefRel.pended {s : EndS} {r : RefS} (h : RefRel s r) {l m : List Int} (e : l = m) : RefRel { s with pend := l } { r with pend := m } := ⟨h.own, h.next, h.other, e, h.newest, h.some, h.mask⟩

/-- Behind the header: a packet with a body or without. -/
theorem recv_tail {s : EndS} {r : RefS} (hr : RefRel s r) (hb : Bool) (nm : List Int) (ha : Bool) (ack num : Int) (body : List UInt8) (l : List Int) (rs : List (Int × Bool)) (hl : l = leftR nm ha ack r.pend) (hrs : rs = repR nm ha ack r.pend) (hnum : hb = true → r.other ≤ num) :
    RefRel (if hb = true then ((accept { s with pend := l } (num - s.newest)).1, if (accept { s with pend := l } (num - s.newest)).2 = 0 then body else [], rs, (accept { s with pend := l } (num - s.newest)).2) else ({ s with pend := l }, [], rs, 0)).1
      (if hb = false then ({ r with pend := leftR nm ha ack r.pend }, ([] : List UInt8), repR nm ha ack r.pend, (0 : Int)) else if num < newestR r.other r.got - 32 then ({ r with pend := leftR nm ha ack r.pend }, [], repR nm ha ack r.pend, 191)
        else if r.got.contains num = true then ({ r with pend := leftR nm ha ack r.pend }, [], repR nm ha ack r.pend, 192) else ({ r with pend := leftR nm ha ack r.pend, got := r.got ++ [num] }, body, repR nm ha ack r.pend, 0)).1 ∧
    (if hb = true then ((accept { s with pend := l } (num - s.newest)).1, if (accept { s with pend := l } (num - s.newest)).2 = 0 then body else [], rs, (accept { s with pend := l } (num - s.newest)).2) else ({ s with pend := l }, [], rs, 0)).2 =
      (if hb = false then ({ r with pend := leftR nm ha ack r.pend }, ([] : List UInt8), repR nm ha ack r.pend, (0 : Int)) else if num < newestR r.other r.got - 32 then ({ r with pend := leftR nm ha ack r.pend }, [], repR nm ha ack r.pend, 191)
        else if r.got.contains num = true then ({ r with pend := leftR nm ha ack r.pend }, [], repR nm ha ack r.pend, 192) else ({ r with pend := leftR nm ha ack r.pend, got := r.got ++ [num] }, body, repR nm ha ack r.pend, 0)).2 := by
  subst hl; subst hrs
  have h1 := hr.pended (l := leftR nm ha ack r.pend) rfl
  cases hb with
  | false => exact ⟨h1, rfl⟩
  | true =>
    have ha' := acc_rel h1 num (hnum rfl)
    simp only [if_true, Bool.true_eq_false, if_false] at ha' ⊢
    obtain ⟨a1, a2, a3⟩ := ha'
    by_cases c1 : num < newestR r.other r.got - 32
    · rw [if_pos c1, a1 c1]; exact ⟨h1, rfl⟩
    · rw [if_neg c1]
      cases c2 : r.got.contains num with
      | true => rw [if_pos rfl, a2 c1 c2]; exact ⟨h1, rfl⟩
      | false =>
        rw [if_neg (by decide)]
        obtain ⟨b1, b2⟩ := a3 c1 c2
        rw [b1]
        exact ⟨b2, rfl⟩

/-- Receive. -/
theorem recv_ref {s : EndS} {r : RefS} (hr : RefRel s r) (xs : List UInt8) : RefRel (recvP s xs).1 (refRecv r xs).1 ∧ (recvP s xs).2 = (refRecv r xs).2 := by
  rw [parse_ref]
  unfold recvP
  cases hp : parseP xs with
  | none => exact ⟨hr, rfl⟩
  | some q =>
    obtain ⟨f, nu, ak, mk, body⟩ := q
    obtain ⟨f1, f3, -, -, -, hb1, hb2⟩ := parse_bd hp
    obtain ⟨so, sn, st, sw, sm, sp⟩ := s
    obtain ⟨ro, rt, rn, rp, rg⟩ := r
    have hr' := hr
    obtain ⟨e1, e2, e3, e4, e5, -, -⟩ := hr'
    simp only at e1 e2 e3 e4 e5
    subst e1; subst e2; subst e3; subst e4; subst e5
    simp only
    unfold refTail
    have hbad : ∀ num : Int, badR ⟨so, st, sn, sp, rg⟩ (decide (f % 2 = 1)) num body = true ↔ (f % 2 = 1 ∧ num < st) := fun num => by
      unfold badR
      have e : decide (0 < body.length) = decide (f % 2 = 1) := decide_eq_decide.2 hb2
      rw [e, decide_eq_false (show ¬ 1191 < body.length by omega)]
      simp
    by_cases c1 : f % 2 = 1
    · by_cases c3 : near (newestR st rg) nu < st
      · rw [if_pos ⟨c1, c3⟩, if_pos ((hbad _).2 ⟨c1, by rw [if_pos c1]; exact c3⟩)]
        exact ⟨hr, rfl⟩
      · rw [if_neg (show ¬ (f % 2 = 1 ∧ near (newestR st rg) nu < st) from fun h => c3 h.2), if_neg (show ¬ badR ⟨so, st, sn, sp, rg⟩ (decide (f % 2 = 1)) (if f % 2 = 1 then near (newestR st rg) nu else 0) body = true from fun h => c3 (by have := ((hbad _).1 h).2; rwa [if_pos c1] at this))]
        by_cases c2 : f / 2 % 2 = 1
        · simp only [c1, c2, if_true, decide_true, true_and, nmR]
          by_cases c4 : outR ⟨so, st, sn, sp, rg⟩ (namedR (near (sn - 1) ak) mk 32) = true
          · rw [if_pos c4, if_pos ((out_eq _ _ _).1 c4)]
            exact ⟨hr, rfl⟩
          · rw [if_neg c4, if_neg (fun h => c4 ((out_eq _ _ _).2 h))]
            exact recv_tail hr true (namedR (near (sn - 1) ak) mk 32) true (near (sn - 1) ak) (near (newestR st rg) nu) body (ackL (near (sn - 1) ak) mk sp) (ackR (near (sn - 1) ak) mk sp) (by rw [left_eq]) (by rw [rep_eq]) (fun _ => by simp only; omega)
        · have c2' : decide (f / 2 % 2 = 1) = false := by simpa using c2
          simp only [c1, c2, if_true, if_false, decide_true, decide_false, false_and, nmR, Bool.false_eq_true]
          rw [if_neg (show ¬ outR ⟨so, st, sn, sp, rg⟩ [] = true by unfold outR; simp)]
          exact recv_tail hr true [] false 0 (near (newestR st rg) nu) body sp [] (by rw [left_none]) (by rw [rep_none]) (fun _ => by simp only; omega)
    · have c2 : f / 2 % 2 = 1 := by omega
      have c1' : decide (f % 2 = 1) = false := by simpa using c1
      rw [if_neg (show ¬ (f % 2 = 1 ∧ near (newestR st rg) nu < st) from fun h => c1 h.1), if_neg (show ¬ badR ⟨so, st, sn, sp, rg⟩ (decide (f % 2 = 1)) (if f % 2 = 1 then near (newestR st rg) nu else 0) body = true from fun h => c1 ((hbad _).1 h).1)]
      simp only [c1, c2, if_true, if_false, decide_true, decide_false, true_and, nmR]
      by_cases c4 : outR ⟨so, st, sn, sp, rg⟩ (namedR (near (sn - 1) ak) mk 32) = true
      · rw [if_pos c4, if_pos ((out_eq _ _ _).1 c4)]
        exact ⟨hr, rfl⟩
      · rw [if_neg c4, if_neg (fun h => c4 ((out_eq _ _ _).2 h))]
        exact recv_tail hr false (namedR (near (sn - 1) ak) mk 32) true (near (sn - 1) ak) 0 body (ackL (near (sn - 1) ak) mk sp) (ackR (near (sn - 1) ak) mk sp) (by rw [left_eq]) (by rw [rep_eq]) (fun h => by cases h)

/-- Make. -/
theorem make_ref {s : EndS} {r : RefS} (hr : RefRel s r) (xs : List UInt8) (h0 : 0 ≤ s.next) : RefRel (makeS s) (refMakeS r) ∧ packP (makeS s) s.next xs = refBytes r r.next xs ∧ lostP s = refLost r := by
  obtain ⟨so, sn, st, sw, sm, sp⟩ := s
  obtain ⟨ro, rt, rn, rp, rg⟩ := r
  have hr' := hr
  obtain ⟨e1, e2, e3, e4, e5, e6, e7⟩ := hr'
  simp only at e1 e2 e3 e4 e5 e6 e7 h0
  subst e1; subst e2; subst e3; subst e4; subst e5
  refine ⟨⟨rfl, rfl, rfl, rfl, rfl, e6, e7⟩, ?_, rfl⟩
  unfold packP refBytes makeS
  simp only
  rw [if_pos h0, if_pos h0]
  by_cases hg : rg = []
  · rw [if_neg (fun h => e6.1 h hg), if_pos hg, if_pos hg, bytesOf_one]; simp
  · rw [if_pos (e6.2 hg), if_neg hg, if_neg hg, bytesOf_one, e7, if_neg hg]; simp

/-- Only. -/
theorem only_ref {s : EndS} {r : RefS} (hr : RefRel s r) (hg : r.got ≠ []) : ackP s = refBytes r (-1) [] := by
  unfold ackP refBytes
  rw [if_neg (show ¬ (0 : Int) ≤ -1 by decide), if_neg (show ¬ (0 : Int) ≤ -1 by decide), if_neg hg, if_neg hg, bytesOf_one, hr.newest, hr.mask, if_neg hg]
  simp
/-- At the beginning. -/
theorem new_ref (own other : Int) : RefRel ⟨own, own, other, other - 1, 0, []⟩ ⟨own, other, own, [], []⟩ :=
  ⟨rfl, rfl, rfl, rfl, rfl, ⟨fun h => by simp only at h; omega, fun h => absurd rfl h⟩, rfl⟩
end Go.Proofs.Ythjjipcbpmdfnaa

/- PLAIN LAW of ChannelTells: the model of the reference's Channel, and that the Channel's model answers as it does; no program in sight. -/
namespace Go.Proofs.Ythjjipcbpmdfnaa

/-- A message of the reference: its bytes, whether it is done, its packets with their ticks. -/
structure RMsg where
  b : List UInt8
  done : Bool
  ps : List (Int × Int)
/-- The reference's Channel; box: what was received, by numbers. -/
structure RCh where
  e : RefS
  out : List RMsg
  box : List (Option (List UInt8))
  next : Nat
  tick : Int
  owes : Bool

def rNew (own other : Int) : RCh := ⟨⟨own, other, own, [], []⟩, [], [], 0, 0, false⟩
def rWait (l : List RMsg) : Nat := (l.filter fun m => !m.done).length
def rSend (c : RCh) (b : List UInt8) : RCh × Int :=
  if 1024 < b.length then (c, 3) else if 256 ≤ rWait c.out then (c, 4) else ({ c with out := c.out ++ [⟨b, false, []⟩] }, 0)
def rFirst : List RMsg → Nat
  | [] => 0
  | m :: l => if m.done = true then rFirst l + 1 else 0
def rDue (l : List RMsg) (n : Nat) (tick : Int) : Bool :=
  match l[n]? with
  | none => false
  | some m => !m.done && decide (n < rFirst l + 64) && m.ps.all fun q => decide (q.2 ≤ tick - 8)
def rStep (l : List RMsg) (tick : Int) (k : Nat) (a : List UInt8 × List Nat) : List UInt8 × List Nat :=
  match l[k]? with
  | none => a
  | some m => if rDue l k tick = true ∧ a.1.length + 4 + m.b.length ≤ 1191 then (a.1 ++ hdrB k m.b.length ++ m.b, a.2 ++ [k]) else a
def rBodyG (l : List RMsg) (tick : Int) : Nat → List UInt8 × List Nat
  | 0 => ([], [])
  | k + 1 => rStep l tick k (rBodyG l tick k)
def rBody (l : List RMsg) (tick : Int) : List UInt8 × List Nat := rBodyG l tick l.length
def rMark1 (number tick : Int) (out : List RMsg) (n : Nat) : List RMsg :=
  match out[n]? with
  | none => out
  | some m => out.set n { m with ps := m.ps ++ [(number, tick)] }
def rMark (number tick : Int) (out : List RMsg) (l : List Nat) : List RMsg := l.foldl (rMark1 number tick) out
def rDec1 (r : Int × Bool) (m : RMsg) : RMsg := ⟨m.b, m.done || (r.2 && m.ps.any fun q => q.1 == r.1), m.ps.filter fun q => q.1 != r.1⟩
def rDecR (out : List RMsg) (r : Int × Bool) : List RMsg := out.map (rDec1 r)
def rDec (out : List RMsg) (rs : List (Int × Bool)) : List RMsg := rs.foldl rDecR out
def rFlush (c : RCh) (tick : Int) : RCh × List UInt8 × Int :=
  if tick < c.tick then (c, [], 2)
  else
    let b := (rBody c.out tick).1
    let l := (rBody c.out tick).2
    if 0 < l.length then ({ c with tick := tick, e := refMakeS c.e, out := rDec (rMark c.e.next tick c.out l) (refLost c.e), owes := false }, refBytes c.e c.e.next b, 0)
    else if c.owes = true then ({ c with tick := tick, owes := false }, if c.e.got = [] then [] else refBytes c.e (-1) [], 0)
    else ({ c with tick := tick }, [], 0)
def rPad (box : List (Option (List UInt8))) (n : Nat) : List (Option (List UInt8)) := box ++ List.replicate (n + 1 - box.length) none
def rFill (box : List (Option (List UInt8))) (p : Nat × List UInt8) : List (Option (List UInt8)) :=
  if (rPad box p.1)[p.1]? = some none then (rPad box p.1).set p.1 (some p.2) else rPad box p.1
def rOut (box : List (Option (List UInt8))) : Nat → Nat → List (List UInt8)
  | 0, _ => []
  | k + 1, n => match box[n]? with
    | some (some b) => b :: rOut box k (n + 1)
    | _ => []
def rReceive (c : RCh) (xs : List UInt8) : RCh × List (List UInt8) × Int :=
  let R := refRecv c.e xs
  if R.2.2.2 = 190 then (c, [], 190)
  else
    let c1 := { c with e := R.1, out := rDec c.out R.2.2.1 }
    if R.2.2.2 = 0 ∧ R.2.1 = [] then (c1, [], 0)
    else if R.2.2.2 ≠ 0 then ({ c1 with owes := true }, [], R.2.2.2)
    else match parseC c.next R.2.1.length R.2.1 with
      | none => ({ c1 with owes := true }, [], 200)
      | some l =>
        let box := l.foldl rFill c.box
        let out := rOut box box.length c.next
        ({ c1 with owes := true, box := box, next := c.next + out.length }, out, 0)

/-! ### one message, its packets -/
/-- What a message that is not done is in both. -/
structure MRel (tick nx : Int) (pk : Int → Option (List Nat)) (n : Nat) (x : OutM) (m : RMsg) : Prop where
  b : x.b = m.b
  live : 0 ≤ x.packet → (x.packet, x.tick) ∈ m.ps ∧ x.tick ≤ tick ∧ ∀ q ∈ m.ps, (q.1 = x.packet → q.2 = x.tick) ∧ (q.1 ≠ x.packet → q.2 ≤ x.tick - 8)
  dead : x.packet < 0 → ∀ q ∈ m.ps, q.2 ≤ tick - 8
  pk : ∀ p, (∃ t, (p, t) ∈ m.ps) ↔ ∃ l, pk p = some l ∧ n ∈ l
  pos : ∀ q ∈ m.ps, 0 ≤ q.1 ∧ q.1 < nx
/-- The messages in both. -/
structure ORel (tick nx : Int) (pk : Int → Option (List Nat)) (out : Nat → Option OutM) (l : List RMsg) : Prop where
  none_ : ∀ n, l.length ≤ n → out n = none
  done : ∀ n m, l[n]? = some m → (m.done = true ↔ out n = none)
  msg : ∀ n m x, l[n]? = some m → out n = some x → MRel tick nx pk n x m
  pkn : ∀ p l, pk p = some l → p < nx

structure BRel (next : Nat) (early : Nat → Option (List UInt8)) (box : List (Option (List UInt8))) : Prop where
  old : ∀ n, n < next → (∃ b, box[n]? = some (some b)) ∧ early n = none
  new : ∀ n, next ≤ n → ∀ b, early n = some b ↔ box[n]? = some (some b)
structure CRel (s : ChS) (c : RCh) : Prop where
  e : RefRel s.e c.e
  len : s.sent = c.out.length
  next : s.next = c.next
  tick : s.tick = c.tick
  owes : s.owes = c.owes
  fle : s.first ≤ s.sent
  flo : ∀ n, n < s.first → s.out n = none
  hot : s.first < s.sent → s.out s.first ≠ none
  out : ORel s.tick s.e.next s.packets s.out c.out
  box : BRel s.next s.early c.box
  own : s.owes = true → s.e.other ≤ s.e.newest

theorem rel_new (own other : Int) : CRel (chNew own other) (rNew own other) :=
  ⟨new_ref own other, rfl, rfl, rfl, rfl, Nat.le_refl _, fun n h => rfl, fun h => absurd h (Nat.lt_irrefl _), ⟨fun _ _ => rfl, fun n m h => (by cases h), fun n m x h => (by cases h), fun p l h => (by cases h)⟩, ⟨fun n h => absurd h (Nat.not_lt_zero _), fun n _ b => ⟨fun h => (by cases h), fun h => (by cases h)⟩⟩, fun h => (by cases h)⟩

/-! ### waiting, the first one -/
theorem wait_rel {out : Nat → Option OutM} : ∀ {l : List RMsg}, (∀ n m, l[n]? = some m → (m.done = true ↔ out n = none)) → cntN out l.length = rWait l := by
  intro l
  suffices h : ∀ k, k ≤ l.length → (∀ n m, l[n]? = some m → (m.done = true ↔ out n = none)) → cntN out k = rWait (l.take k) by
    intro hd
    have := h l.length (Nat.le_refl _) hd
    rwa [List.take_length] at this
  intro k
  induction k with
  | zero => intro _ _; simp [cntN, rWait]
  | succ k ih =>
    intro hk hd
    have e : l[k]? = some l[k] := List.getElem?_eq_getElem (by omega)
    rw [cntN_succ, ih (by omega) hd, List.take_succ_eq_append_getElem (by omega)]
    unfold rWait
    rw [List.filter_append, List.length_append]
    congr 1
    have h1 := hd k _ e
    cases hb : l[k].done with
    | true => rw [h1.1 hb]; simp [hb]
    | false =>
      cases hx : out k with
      | none => rw [h1.2 hx] at hb; cases hb
      | some x => simp [hb]
theorem CRel.wait {s : ChS} {c : RCh} (h : CRel s c) : waitS s = rWait c.out := by
  unfold waitS; rw [h.len]; exact wait_rel h.out.done
theorem rFirst_eq : ∀ {l : List RMsg} {k : Nat}, k ≤ l.length → (∀ n m, n < k → l[n]? = some m → m.done = true) → (∀ m, l[k]? = some m → m.done = false) → rFirst l = k
  | [], k, h, _, _ => by simp at h; rw [h]; rfl
  | m :: l, 0, _, _, h0 => by
    have := h0 m rfl
    simp only [rFirst]
    rw [if_neg (by rw [this]; decide)]
  | m :: l, k + 1, h, h1, h0 => by
    have := h1 0 m (Nat.succ_pos k) rfl
    simp only [rFirst]
    rw [if_pos this, rFirst_eq (l := l) (k := k) (by simpa using h) (fun n x hn hx => h1 (n + 1) x (by omega) (by simpa using hx)) (fun x hx => h0 x (by simpa using hx))]
theorem CRel.first {s : ChS} {c : RCh} (h : CRel s c) : rFirst c.out = s.first := by
  refine rFirst_eq (by rw [← h.len]; exact h.fle) (fun n m hn hm => (h.out.done n m hm).2 (h.flo n hn)) (fun m hm => ?_)
  have hlt : s.first < s.sent := by rw [h.len]; exact (List.getElem?_eq_some_iff.1 hm).1
  cases hb : m.done with
  | false => rfl
  | true => exact absurd ((h.out.done _ _ hm).1 hb) (h.hot hlt)

/-! ### Send -/
theorem ORel.clock {tick tick' nx : Int} {pk : Int → Option (List Nat)} {out : Nat → Option OutM} {l : List RMsg} (h : ORel tick nx pk out l) (ht : tick ≤ tick') : ORel tick' nx pk out l :=
  ⟨h.none_, h.done, fun n m x hm hx => by
    obtain ⟨q1, q2, q3, q4, q5⟩ := h.msg n m x hm hx
    exact ⟨q1, fun hp => ⟨(q2 hp).1, by have := (q2 hp).2.1; omega, (q2 hp).2.2⟩, fun hp q hq => by have := q3 hp q hq; omega, q4, q5⟩, h.pkn⟩
theorem send_rel {s : ChS} {c : RCh} (h : CRel s c) (hf : s.Fit) (b : List UInt8) : CRel (sendS s b).1 (rSend c b).1 ∧ (sendS s b).2 = (rSend c b).2 := by
  unfold sendS rSend
  by_cases h1 : 1024 < b.length
  · rw [if_pos h1, if_pos h1]; exact ⟨h, rfl⟩
  rw [if_neg h1, if_neg h1, h.wait]
  by_cases h2 : 256 ≤ rWait c.out
  · rw [if_pos h2, if_pos h2]; exact ⟨h, rfl⟩
  rw [if_neg h2, if_neg h2]
  refine ⟨⟨h.e, ?_, h.next, h.tick, h.owes, ?_, ?_, ?_, ⟨?_, ?_, ?_, h.out.pkn⟩, h.box, h.own⟩, rfl⟩
  · show s.sent + 1 = (c.out ++ [_]).length
    rw [List.length_append, h.len]; rfl
  · show s.first ≤ s.sent + 1
    have := h.fle; omega
  · intro n hn
    show (if n = s.sent then _ else s.out n) = none
    have := h.fle
    have hn' : n < s.first := hn
    rw [if_neg (by omega)]; exact h.flo n hn'
  · intro _
    show (if s.first = s.sent then some _ else s.out s.first) ≠ none
    by_cases e : s.first = s.sent
    · rw [if_pos e]; simp
    · rw [if_neg e]; have := h.fle; exact h.hot (by omega)
  · intro n hn
    rw [List.length_append] at hn
    simp only [List.length_singleton] at hn
    show (if n = s.sent then _ else s.out n) = none
    rw [h.len, if_neg (by omega)]; exact h.out.none_ n (by omega)
  · intro n m hm
    show m.done = true ↔ (if n = s.sent then some _ else s.out n) = none
    rw [h.len]
    rcases Nat.lt_or_ge n c.out.length with h3 | h3
    · rw [List.getElem?_append_left h3] at hm
      rw [if_neg (by omega)]; exact h.out.done n m hm
    · have hl := (List.getElem?_eq_some_iff.1 hm).1
      rw [List.length_append] at hl
      simp only [List.length_singleton] at hl
      obtain rfl : n = c.out.length := by omega
      rw [List.getElem?_append_right (Nat.le_refl _)] at hm
      simp only [Nat.sub_self, List.getElem?_cons_zero, Option.some.injEq] at hm
      subst hm
      simp
  · intro n m x hm hx
    have hx' : (if n = s.sent then some (⟨b, -1, 0⟩ : OutM) else s.out n) = some x := hx
    rw [h.len] at hx'
    rcases Nat.lt_or_ge n c.out.length with h3 | h3
    · rw [List.getElem?_append_left h3] at hm
      rw [if_neg (by omega)] at hx'
      exact h.out.msg n m x hm hx'
    · have hl := (List.getElem?_eq_some_iff.1 hm).1
      rw [List.length_append] at hl
      simp only [List.length_singleton] at hl
      obtain rfl : n = c.out.length := by omega
      rw [List.getElem?_append_right (Nat.le_refl _)] at hm
      simp only [Nat.sub_self, List.getElem?_cons_zero, Option.some.injEq] at hm
      subst hm
      rw [if_pos rfl] at hx'
      injection hx' with hx'; subst hx'
      refine ⟨rfl, fun hp => by simp at hp, fun _ q hq => (by cases hq), fun p => ⟨fun ⟨t, ht⟩ => (by cases ht), fun ⟨l, hl, hn⟩ => ?_⟩, fun q hq => (by cases hq)⟩
      have := (hf.pk p l hl).2 _ hn
      have := h.len; omega

/-! ### due, the body -/
theorem due_rel {s : ChS} {c : RCh} (h : CRel s c) {tick : Int} (ht : s.tick ≤ tick) {n : Nat} (_h0 : s.first ≤ n) (h1 : n < s.first + 64) : rDue c.out n tick = dueS { s with tick := tick } n := by
  unfold rDue dueS
  show _ = match s.out n with | none => false | some m => decide (m.packet < 0) || decide (8 ≤ tick - m.tick)
  cases hm : c.out[n]? with
  | none => rw [h.out.none_ n (by rw [List.getElem?_eq_none_iff] at hm; exact hm)]
  | some m =>
    simp only
    cases hx : s.out n with
    | none => rw [(h.out.done n m hm).2 hx]; rfl
    | some x =>
      have hd : m.done = false := by
        cases hb : m.done with
        | false => rfl
        | true => rw [(h.out.done n m hm).1 hb] at hx; cases hx
      obtain ⟨-, q2, q3, -, -⟩ := h.out.msg n m x hm hx
      rw [hd, h.first, decide_eq_true h1]
      simp only [Bool.not_false, Bool.true_and]
      rw [Bool.eq_iff_iff]
      simp only [List.all_eq_true, decide_eq_true_eq, Bool.or_eq_true]
      by_cases hp : x.packet < 0
      · exact ⟨fun _ => .inl hp, fun _ q hq => by have := q3 hp q hq; omega⟩
      · obtain ⟨p1, p2, p3⟩ := q2 (by omega)
        constructor
        · intro ha
          have := ha _ p1
          simp only at this
          exact .inr (by omega)
        · rintro (ha | ha) q hq
          · omega
          · by_cases he : q.1 = x.packet
            · have := (p3 q hq).1 he; omega
            · have := (p3 q hq).2 he; omega
theorem rstep_not {l : List RMsg} {tick : Int} {k : Nat} {a : List UInt8 × List Nat} (h : rDue l k tick = false) : rStep l tick k a = a := by
  unfold rStep
  cases l[k]? with
  | none => rfl
  | some m => simp only [h]; rw [if_neg (by simp)]
theorem due_far {l : List RMsg} {n : Nat} {tick : Int} (h : rFirst l + 64 ≤ n) : rDue l n tick = false := by
  unfold rDue
  cases l[n]? with
  | none => rfl
  | some m => simp only; rw [decide_eq_false (by omega)]; simp
theorem body_low {s : ChS} {c : RCh} (h : CRel s c) {tick : Int} : ∀ k, k ≤ s.first → rBodyG c.out tick k = ([], [])
  | 0, _ => rfl
  | k + 1, hk => by
    rw [rBodyG, body_low h k (by omega)]
    refine rstep_not ?_
    unfold rDue
    cases hm : c.out[k]? with
    | none => rfl
    | some m => simp only [(h.out.done k m hm).2 (h.flo k (by omega)), Bool.not_true, Bool.false_and]
theorem body_mid {s : ChS} {c : RCh} (h : CRel s c) {tick : Int} (ht : s.tick ≤ tick) : ∀ j, j ≤ 64 → s.first + j ≤ s.sent → rBodyG c.out tick (s.first + j) = bodyG { s with tick := tick } j
  | 0, _, _ => body_low h _ (Nat.le_refl _)
  | j + 1, hj, hs => by
    rw [show s.first + (j + 1) = (s.first + j) + 1 by omega, rBodyG, body_mid h ht j (by omega) (by omega)]
    show _ = bodyStep { s with tick := tick } (s.first + j) _
    generalize bodyG { s with tick := tick } j = a
    unfold rStep bodyStep
    show _ = match s.out (s.first + j) with | none => a | some m => _
    have hlt : s.first + j < c.out.length := by rw [← h.len]; omega
    have hm : c.out[s.first + j]? = some c.out[s.first + j] := List.getElem?_eq_getElem hlt
    have hdue := due_rel h ht (n := s.first + j) (by omega) (by omega)
    rw [hm]
    simp only
    cases hx : s.out (s.first + j) with
    | none =>
      simp only
      rw [if_neg]
      rintro ⟨hd, -⟩
      rw [hdue] at hd
      have : dueS { s with tick := tick } (s.first + j) = false := by unfold dueS; show (match s.out (s.first + j) with | none => false | some m => _) = false; rw [hx]
      rw [this] at hd; cases hd
    | some x =>
      simp only
      rw [hdue, (h.out.msg _ _ _ hm hx).b]
theorem body_high {l : List RMsg} {tick : Int} {k : Nat} (hk : rFirst l + 64 ≤ k) : ∀ j, rBodyG l tick (k + j) = rBodyG l tick k
  | 0 => rfl
  | j + 1 => by rw [show k + (j + 1) = (k + j) + 1 by omega, rBodyG, rstep_not (due_far (by omega)), body_high hk j]
theorem body_rel {s : ChS} {c : RCh} (h : CRel s c) {tick : Int} (ht : s.tick ≤ tick) : rBody c.out tick = bodyS { s with tick := tick } := by
  unfold rBody bodyS
  show _ = bodyG { s with tick := tick } (min s.sent (s.first + 64) - s.first)
  have hle := h.fle
  rcases Nat.le_total s.sent (s.first + 64) with h1 | h1
  · rw [Nat.min_eq_left h1, ← body_mid h ht (s.sent - s.first) (by omega) (by omega), show s.first + (s.sent - s.first) = c.out.length by rw [← h.len]; omega]
  · rw [Nat.min_eq_right h1, show s.first + 64 - s.first = 64 by omega, ← body_mid h ht 64 (Nat.le_refl _) h1, ← h.len, show s.sent = (s.first + 64) + (s.sent - (s.first + 64)) by omega]
    exact body_high (by rw [h.first]; exact Nat.le_refl _) _

/-! ### a packet is made -/
theorem rmark_at (number tick : Int) : ∀ (l : List Nat) (out : List RMsg) (n : Nat), l.Nodup → (rMark number tick out l)[n]? = if n ∈ l then (out[n]?).map fun m => { m with ps := m.ps ++ [(number, tick)] } else out[n]?
  | [], out, n, _ => by simp [rMark]
  | a :: l, out, n, hd => by
    have hd' := List.nodup_cons.1 hd
    show (rMark number tick (rMark1 number tick out a) l)[n]? = _
    rw [rmark_at number tick l _ n hd'.2]
    have e : (rMark1 number tick out a)[n]? = if n = a then (out[n]?).map fun m => { m with ps := m.ps ++ [(number, tick)] } else out[n]? := by
      unfold rMark1
      cases ha : out[a]? with
      | none =>
        simp only
        by_cases hn : n = a
        · subst hn; rw [if_pos rfl, ha]; rfl
        · rw [if_neg hn]
      | some m =>
        simp only
        rw [List.getElem?_set]
        by_cases hn : n = a
        · subst hn
          rw [if_pos rfl, if_pos rfl, if_pos (List.getElem?_eq_some_iff.1 ha).1, ha]; rfl
        · rw [if_neg (fun e => hn e.symm), if_neg hn]
    rw [e]
    by_cases hn : n = a
    · subst hn
      rw [if_neg hd'.1, if_pos rfl, if_pos List.mem_cons_self]
    · rw [if_neg hn]
      by_cases hl : n ∈ l
      · rw [if_pos hl, if_pos (List.mem_cons_of_mem _ hl)]
      · rw [if_neg hl, if_neg (fun hc => (List.mem_cons.1 hc).elim hn hl)]
theorem rmark_len (number tick : Int) : ∀ (l : List Nat) (out : List RMsg), (rMark number tick out l).length = out.length
  | [], _ => rfl
  | a :: l, out => by
    show (rMark number tick (rMark1 number tick out a) l).length = _
    rw [rmark_len number tick l]
    unfold rMark1
    split
    · rfl
    · rw [List.length_set]
theorem bodyG_sorted (s : ChS) : ∀ j, (bodyG s j).2.Pairwise (· < ·)
  | 0 => List.Pairwise.nil
  | j + 1 => by
    have ih := bodyG_sorted s j
    rw [show bodyG s (j + 1) = bodyStep s (s.first + j) (bodyG s j) from rfl]
    unfold bodyStep
    split
    · exact ih
    · split
      · rw [List.pairwise_append]
        refine ⟨ih, List.pairwise_singleton _ _, fun x hx y hy => ?_⟩
        rw [List.mem_singleton.1 hy]
        exact (bodyG_mem s j x hx).2.1
      · exact ih
theorem bodyS_nodup (s : ChS) : (bodyS s).2.Nodup := (bodyG_sorted s _).imp fun h => Nat.ne_of_lt h
theorem mark_rel {tick nx : Int} {pk : Int → Option (List Nat)} {out : Nat → Option OutM} {l : List RMsg} (h : ORel tick nx pk out l) (_h0 : 0 ≤ nx) {L : List Nat} (hL : L.Nodup)
    (hd : ∀ n ∈ L, ∃ x m, out n = some x ∧ l[n]? = some m ∧ ∀ q ∈ m.ps, q.2 ≤ tick - 8) : ORel tick (nx + 1) (updI pk nx (some L)) (markS out nx tick L) (rMark nx tick l L) := by
  have hpn : pk nx = none := by
    cases hp : pk nx with
    | none => rfl
    | some q => have := h.pkn nx q hp; omega
  refine ⟨fun n hn => ?_, fun n m hm => ?_, fun n m x hm hx => ?_, fun p q hp => ?_⟩
  · rw [rmark_len] at hn
    rw [markS_at, h.none_ n hn]; split <;> rfl
  · rw [rmark_at nx tick L l n hL] at hm
    rw [markS_at]
    by_cases hn : n ∈ L
    · rw [if_pos hn] at hm ⊢
      cases h1 : l[n]? with
      | none => rw [h1] at hm; cases hm
      | some m0 =>
        rw [h1] at hm
        simp only [Option.map_some, Option.some.injEq] at hm
        subst hm
        have := h.done n m0 h1
        simp only
        rw [this]
        cases out n <;> simp
    · rw [if_neg hn] at hm ⊢
      exact h.done n m hm
  · rw [rmark_at nx tick L l n hL] at hm
    rw [markS_at] at hx
    by_cases hn : n ∈ L
    · rw [if_pos hn] at hm hx
      obtain ⟨x0, m0, hx0, hm0, h8⟩ := hd n hn
      rw [hx0] at hx; rw [hm0] at hm
      simp only [Option.map_some, Option.some.injEq] at hm hx
      obtain ⟨q1, q2, q3, q4, q5⟩ := h.msg n m0 x0 hm0 hx0
      subst hm; subst hx
      refine ⟨q1, fun _ => ⟨List.mem_append_right _ (List.mem_singleton.2 rfl), Int.le_refl _, fun q hq => ?_⟩, fun hp => ?_, fun p => ?_, fun q hq => ?_⟩
      · rcases List.mem_append.1 hq with hq | hq
        · have := q5 q hq
          exact ⟨fun e => by simp only at e; omega, fun _ => h8 q hq⟩
        · rw [List.mem_singleton.1 hq]
          exact ⟨fun _ => rfl, fun e => absurd rfl e⟩
      · simp only at hp; omega
      · by_cases hp : p = nx
        · subst hp
          exact ⟨fun _ => ⟨L, by simp [updI], hn⟩, fun _ => ⟨tick, List.mem_append_right _ (List.mem_singleton.2 rfl)⟩⟩
        · have e : updI pk nx (some L) p = pk p := by simp [updI, hp]
          rw [e, ← q4 p]
          constructor
          · rintro ⟨t, ht⟩
            rcases List.mem_append.1 ht with ht | ht
            · exact ⟨t, ht⟩
            · have := List.mem_singleton.1 ht
              injection this with this _
              exact absurd this hp
          · rintro ⟨t, ht⟩
            exact ⟨t, List.mem_append_left _ ht⟩
      · rcases List.mem_append.1 hq with hq | hq
        · have := q5 q hq; omega
        · rw [List.mem_singleton.1 hq]; simp only; omega
    · rw [if_neg hn] at hm hx
      obtain ⟨q1, q2, q3, q4, q5⟩ := h.msg n m x hm hx
      refine ⟨q1, q2, q3, fun p => ?_, fun q hq => by have := q5 q hq; omega⟩
      by_cases hp : p = nx
      · subst hp
        have e : updI pk p (some L) p = some L := by simp [updI]
        rw [q4 p, e, hpn]
        constructor
        · rintro ⟨_, h1, _⟩; cases h1
        · rintro ⟨_, h1, h2⟩
          injection h1 with h1; subst h1; exact absurd h2 hn
      · have e : updI pk nx (some L) p = pk p := by simp [updI, hp]
        rw [e, q4 p]
  · simp only [updI] at hp
    split at hp
    · omega
    · have := h.pkn p q hp; omega

/-! ### reports -/
/-- What a report does to a message that its packet contains. -/
def d1 (r : Int × Bool) : Option OutM → Option OutM
  | none => none
  | some x => if r.2 = true then none else if x.packet = r.1 then some { x with packet := -1 } else some x
theorem dec1_self (r : Int × Bool) (out : Nat → Option OutM) (n : Nat) : dec1 r out n n = d1 r (out n) := by
  cases hx : out n with
  | none => simp only [dec1, hx, d1]
  | some x =>
    by_cases hr : r.2 = true
    · simp [dec1, hx, hr, d1, updN]
    · by_cases hp : x.packet = r.1
      · simp [dec1, hx, hr, hp, d1, updN]
      · simp [dec1, hx, hr, hp, d1]
theorem dec1_farR {r : Int × Bool} {out : Nat → Option OutM} {m i : Nat} (h : i ≠ m) : dec1 r out m i = out i := by
  cases hx : out m with
  | none => simp [dec1, hx]
  | some x =>
    by_cases hr : r.2 = true
    · simp [dec1, hx, hr, updN, h]
    · by_cases hp : x.packet = r.1
      · simp [dec1, hx, hr, hp, updN, h]
      · simp [dec1, hx, hr, hp]
theorem d1_twice (r : Int × Bool) (o : Option OutM) : d1 r (d1 r o) = d1 r o := by
  cases o with
  | none => rfl
  | some x =>
    by_cases hr : r.2 = true
    · simp [d1, hr]
    · by_cases hp : x.packet = r.1
      · simp [d1, hr, hp]
      · simp [d1, hr, hp]
theorem fold1_at {r : Int × Bool} : ∀ {L : List Nat} {out : Nat → Option OutM} {n : Nat}, L.foldl (dec1 r) out n = if n ∈ L then d1 r (out n) else out n
  | [], _, _ => by simp
  | a :: L, out, n => by
    rw [List.foldl_cons, fold1_at (L := L)]
    by_cases hn : n = a
    · subst hn
      rw [if_pos List.mem_cons_self, dec1_self, d1_twice]
      split <;> rfl
    · rw [dec1_farR hn]
      by_cases hl : n ∈ L
      · rw [if_pos hl, if_pos (List.mem_cons_of_mem _ hl)]
      · rw [if_neg hl, if_neg (fun hc => (List.mem_cons.1 hc).elim hn hl)]
theorem dec_rel {tick nx : Int} {s : ChS} {l : List RMsg} (h : ORel tick nx s.packets s.out l) (r : Int × Bool) (hr : 0 ≤ r.1) : ORel tick nx (decR s r).packets (decR s r).out (rDecR l r) := by
  have hout : ∀ n, (decR s r).out n = if n ∈ (s.packets r.1).getD [] then d1 r (s.out n) else s.out n := fun n => fold1_at
  have hpk : ∀ p, (decR s r).packets p = if p = r.1 then none else s.packets p := fun p => rfl
  have hat : ∀ n, (rDecR l r)[n]? = (l[n]?).map (rDec1 r) := fun n => by unfold rDecR; rw [List.getElem?_map]
  have hmem : ∀ n m x, l[n]? = some m → s.out n = some x → (n ∈ (s.packets r.1).getD [] ↔ (m.ps.any fun q => q.1 == r.1) = true) := by
    intro n m x hm hx
    have := (h.msg n m x hm hx).pk r.1
    rw [List.any_eq_true]
    constructor
    · intro hn
      cases hp : s.packets r.1 with
      | none => rw [hp] at hn; cases hn
      | some L =>
        rw [hp] at hn
        obtain ⟨t, ht⟩ := this.2 ⟨L, hp, hn⟩
        exact ⟨(r.1, t), ht, by simp⟩
    · rintro ⟨q, hq, he⟩
      have he' : q.1 = r.1 := by simpa using he
      obtain ⟨L, hL, hn⟩ := this.1 ⟨q.2, by rw [← he']; exact hq⟩
      rw [hL]; exact hn
  have hstay : ∀ n, s.out n = none → (decR s r).out n = none := by
    intro n hx
    rw [hout, hx]
    split <;> rfl
  refine ⟨fun n hn => hstay n (h.none_ n (by unfold rDecR at hn; rwa [List.length_map] at hn)), fun n m hm => ?_, fun n m x hm hx => ?_, fun p q hp => ?_⟩
  · rw [hat] at hm
    cases h1 : l[n]? with
    | none => rw [h1] at hm; cases hm
    | some m0 =>
      rw [h1] at hm
      simp only [Option.map_some, Option.some.injEq] at hm
      subst hm
      have hd := h.done n m0 h1
      cases hx : s.out n with
      | none => rw [hstay n hx]; simp [rDec1, hd.2 hx]
      | some x =>
        have hd0 : m0.done = false := by
          cases hb : m0.done with
          | false => rfl
          | true => rw [hd.1 hb] at hx; cases hx
        have hm' := hmem n m0 x h1 hx
        rw [hout]
        show (m0.done || (r.2 && m0.ps.any fun q => q.1 == r.1)) = true ↔ _
        rw [hd0]
        by_cases hn : n ∈ (s.packets r.1).getD []
        · rw [if_pos hn, hm'.1 hn, hx]
          cases hb : r.2 with
          | true => simp [d1, hb]
          | false =>
            by_cases hp : x.packet = r.1
            · simp [d1, hb, hp]
            · simp [d1, hb, hp]
        · rw [if_neg hn, hx]
          have : (m0.ps.any fun q => q.1 == r.1) = false := by
            cases hb : (m0.ps.any fun q => q.1 == r.1) with
            | false => rfl
            | true => exact absurd (hm'.2 hb) hn
          rw [this]; simp
  · rw [hat] at hm
    cases h1 : l[n]? with
    | none => rw [h1] at hm; cases hm
    | some m0 =>
      rw [h1] at hm
      simp only [Option.map_some, Option.some.injEq] at hm
      subst hm
      cases hx0 : s.out n with
      | none => rw [hstay n hx0] at hx; cases hx
      | some x0 =>
        obtain ⟨q1, q2, q3, q4, q5⟩ := h.msg n m0 x0 h1 hx0
        have hm' := hmem n m0 x0 h1 hx0
        have hfil : ∀ q, q ∈ (rDec1 r m0).ps ↔ q ∈ m0.ps ∧ q.1 ≠ r.1 := by
          intro q
          show q ∈ m0.ps.filter _ ↔ _
          rw [List.mem_filter]; simp
        -- what became of the message itself
        have hcase : x = x0 ∧ (0 ≤ x0.packet → x0.packet ≠ r.1) ∨ (x = { x0 with packet := -1 } ∧ x0.packet = r.1) := by
          rw [hout] at hx
          by_cases hn : n ∈ (s.packets r.1).getD []
          · rw [if_pos hn, hx0] at hx
            simp only [d1] at hx
            split at hx
            · cases hx
            · split at hx
              · rename_i he
                injection hx with hx
                exact .inr ⟨hx.symm, he⟩
              · rename_i he
                injection hx with hx
                exact .inl ⟨hx.symm, fun _ => he⟩
          · rw [if_neg hn, hx0] at hx
            injection hx with hx
            refine .inl ⟨hx.symm, fun h0 he => hn ?_⟩
            rw [hm', List.any_eq_true]
            exact ⟨_, (q2 h0).1, by simp [he]⟩
        have hpkk : ∀ p, (∃ t, (p, t) ∈ (rDec1 r m0).ps) ↔ ∃ L, (decR s r).packets p = some L ∧ n ∈ L := by
          intro p
          rw [hpk]
          by_cases hp : p = r.1
          · rw [if_pos hp]
            exact ⟨fun ⟨t, ht⟩ => absurd hp ((hfil _).1 ht).2, fun ⟨L, hL, _⟩ => (by cases hL)⟩
          · rw [if_neg hp, ← q4 p]
            exact ⟨fun ⟨t, ht⟩ => ⟨t, ((hfil _).1 ht).1⟩, fun ⟨t, ht⟩ => ⟨t, (hfil _).2 ⟨ht, hp⟩⟩⟩
        rcases hcase with ⟨hxx, hne⟩ | ⟨hxx, he⟩
        · subst hxx
          refine ⟨q1, fun h0 => ⟨(hfil _).2 ⟨(q2 h0).1, hne h0⟩, (q2 h0).2.1, fun q hq => (q2 h0).2.2 q ((hfil q).1 hq).1⟩, fun h0 q hq => q3 h0 q ((hfil q).1 hq).1, hpkk, fun q hq => q5 q ((hfil q).1 hq).1⟩
        · subst hxx
          refine ⟨q1, fun h0 => ?_, fun _ q hq => ?_, hpkk, fun q hq => q5 q ((hfil q).1 hq).1⟩
          · simp only at h0; omega
          · have h0 := q2 (by omega)
            have hq' := (hfil q).1 hq
            have := (h0.2.2 q hq'.1).2 (by rw [he]; exact hq'.2)
            omega
  · rw [hpk] at hp
    split at hp
    · cases hp
    · exact h.pkn p q hp
theorem decs_rel {tick nx : Int} : ∀ (rs : List (Int × Bool)) {s : ChS} {l : List RMsg}, ORel tick nx s.packets s.out l → (∀ r ∈ rs, 0 ≤ r.1) → ORel tick nx (rs.foldl decR s).packets (rs.foldl decR s).out (rDec l rs)
  | [], _, _, h, _ => h
  | r :: rs, _, _, h, hr => decs_rel rs (dec_rel h r (hr r List.mem_cons_self)) fun q hq => hr q (List.mem_cons_of_mem _ hq)
theorem rdec_len : ∀ (rs : List (Int × Bool)) (l : List RMsg), (rDec l rs).length = l.length
  | [], _ => rfl
  | r :: rs, l => by show (rDec (rDecR l r) rs).length = _; rw [rdec_len rs]; unfold rDecR; rw [List.length_map]
/-- What 'decide' leaves. -/
theorem decS_rel {s : ChS} {c : RCh} (he : RefRel s.e c.e) (hl : s.sent = c.out.length) (hn : s.next = c.next) (ht : s.tick = c.tick) (hw : s.owes = c.owes) (hfl : s.first ≤ s.sent) (hlo : ∀ n, n < s.first → s.out n = none)
    (ho : ORel s.tick s.e.next s.packets s.out c.out) (hb : BRel s.next s.early c.box) (hown : s.owes = true → s.e.other ≤ s.e.newest) (rs : List (Int × Bool)) (hr : ∀ r ∈ rs, 0 ≤ r.1) : CRel (decS s rs) { c with out := rDec c.out rs } := by
  have h := decs_rel rs ho hr
  obtain ⟨out, pk, hform, hsub, hpk⟩ := foldR_form rs s
  rw [hform] at h
  simp only at h
  obtain ⟨q1, q2, q3, q4⟩ := adv_spec out s.sent (s.sent - s.first) s.first hfl (Nat.le_refl _)
  have hd : decS s rs = { s with out := out, packets := pk, first := adv out s.sent (s.sent - s.first) s.first } := by
    unfold decS; rw [hform]
  rw [hd]
  refine ⟨he, ?_, hn, ht, hw, q2, fun n hn' => ?_, q4, h, hb, hown⟩
  · show s.sent = (rDec c.out rs).length
    rw [rdec_len]; exact hl
  · rcases Nat.lt_or_ge n s.first with h1 | h1
    · show out n = none
      cases hx : out n with
      | none => rfl
      | some x =>
        obtain ⟨y, hy, -⟩ := hsub n x hx
        rw [hlo n h1] at hy; cases hy
    · exact q3 n h1 hn'

/-! ### Flush -/
theorem flush_rel {s : ChS} {c : RCh} (h : CRel s c) (hf : s.Fit) (tick : Int) : CRel (flushS s tick).1 (rFlush c tick).1 ∧ (flushS s tick).2 = (rFlush c tick).2 := by
  by_cases hlt : tick < s.tick
  · have e : flushS s tick = (s, [], 2) := by unfold flushS; rw [if_pos hlt]
    have e2 : rFlush c tick = (c, [], 2) := by unfold rFlush; rw [if_pos (by rw [← h.tick]; exact hlt)]
    rw [e, e2]; exact ⟨h, rfl⟩
  have ht : s.tick ≤ tick := by omega
  have hb := body_rel h ht
  obtain ⟨s1, hs1⟩ : ∃ s1 : ChS, s1 = { s with tick := tick } := ⟨_, rfl⟩
  rw [← hs1] at hb
  have hB := body_rel h ht
  unfold rFlush
  rw [if_neg (by rw [← h.tick]; exact hlt), hb]
  simp only
  have hs0 : 0 ≤ s.e.next := by have h1 := hf.e.own0; have h2 := hf.e.own1; omega
  have hnx : s.e.next = c.e.next := h.e.next
  by_cases hL : 0 < (bodyS s1).2.length
  · rw [flushS_send hlt hs1 hL, if_pos hL]
    have q0 : s1.e = s.e := by rw [hs1]
    have q1 : s1.out = s.out := by rw [hs1]
    have q2 : s1.packets = s.packets := by rw [hs1]
    have q3 : s1.first = s.first := by rw [hs1]
    have q4 : s1.sent = s.sent := by rw [hs1]
    obtain ⟨m1, m2, m3⟩ := make_ref h.e (bodyS s1).1 hs0
    have hmk := mark_rel (h.out.clock ht) hs0 (L := (bodyS s1).2) (bodyS_nodup s1) (fun n hn => by
      obtain ⟨b1, b2, b3, b4⟩ := bodyS_mem hn
      rw [q3] at b1 b3
      rw [q4] at b2
      obtain ⟨x, hx⟩ := dueS_some b4
      rw [q1] at hx
      have hlt2 : n < c.out.length := by rw [← h.len]; exact b2
      refine ⟨x, _, hx, List.getElem?_eq_getElem hlt2, ?_⟩
      have hd := due_rel h ht (n := n) b1 b3
      rw [← hs1, b4] at hd
      unfold rDue at hd
      rw [List.getElem?_eq_getElem hlt2] at hd
      simp only [Bool.and_eq_true, List.all_eq_true, decide_eq_true_eq] at hd
      exact hd.2)
    have hlost : ∀ r ∈ lostP s.e, 0 ≤ r.1 := by
      intro r hr
      unfold lostP at hr
      split at hr
      · cases hr
      · rename_i hlen
        rw [List.mem_singleton.1 hr]
        cases hp : s.e.pend with
        | nil => rw [hp] at hlen; simp at hlen
        | cons a l =>
          have := hf.e.mem a (by rw [hp]; exact List.mem_cons_self)
          have := hf.e.own0
          simp; omega
    rw [q0, q1, q2, m2, m3, ← hnx]
    refine ⟨?_, by rw [hnx]⟩
    rw [← m3]
    have hD := decS_rel (s := { s1 with e := makeS s.e, out := markS s.out s.e.next tick (bodyS s1).2, packets := updI s.packets s.e.next (some (bodyS s1).2) }) (c := { c with tick := tick, e := refMakeS c.e, out := rMark s.e.next tick c.out (bodyS s1).2, owes := s1.owes })
      m1 (by show s1.sent = (rMark s.e.next tick c.out (bodyS s1).2).length; rw [rmark_len, q4]; exact h.len) (by show s1.next = c.next; rw [hs1]; exact h.next) (by show s1.tick = tick; rw [hs1]) rfl (by show s1.first ≤ s1.sent; rw [q3, q4]; exact h.fle)
      (fun n hn => by
        have hn' : n < s.first := by rw [← q3]; exact hn
        show markS s.out s.e.next tick (bodyS s1).2 n = none
        rw [markS_at, h.flo n hn']; split <;> rfl)
      (by show ORel s1.tick (s.e.next + 1) _ _ _; rw [show s1.tick = tick by rw [hs1]]; exact hmk) (by show BRel s1.next s1.early c.box; rw [hs1]; exact h.box) (by show s1.owes = true → s.e.other ≤ s.e.newest; rw [hs1]; exact h.own) (lostP s.e) hlost
    exact ⟨hD.e, hD.len, hD.next, hD.tick, rfl, hD.fle, hD.flo, hD.hot, hD.out, hD.box, fun hc => by cases hc⟩
  · rw [flushS_none hlt hs1 (by omega), if_neg hL]
    have how : s1.owes = c.owes := by rw [hs1]; exact h.owes
    rw [how]
    cases hb2 : c.owes with
    | false =>
      rw [if_neg (by decide), if_neg (by decide), hs1]
      refine ⟨?_, rfl⟩
      exact ⟨h.e, h.len, h.next, rfl, h.owes.trans hb2, h.fle, h.flo, h.hot, h.out.clock ht, h.box, h.own⟩
    | true =>
      have hown := h.own (by rw [h.owes]; exact hb2)
      have hgot : c.e.got ≠ [] := h.e.some.1 hown
      rw [if_pos rfl, if_pos rfl, if_pos (by rw [hs1]; exact hown), if_neg hgot, hs1]
      refine ⟨⟨h.e, h.len, h.next, rfl, rfl, h.fle, h.flo, h.hot, h.out.clock ht, h.box, fun hc => by cases hc⟩, ?_⟩
      rw [only_ref h.e hgot]

/-! ### Receive -/
theorem pad_get (box : List (Option (List UInt8))) (n m : Nat) : (rPad box n)[m]? = if m < box.length then box[m]? else if m ≤ n then some none else none := by
  unfold rPad
  by_cases h : m < box.length
  · rw [if_pos h, List.getElem?_append_left h]
  · rw [if_neg h, List.getElem?_append_right (by omega), List.getElem?_replicate]
    by_cases h2 : m ≤ n
    · rw [if_pos h2, if_pos (by omega)]
    · rw [if_neg h2, if_neg (by omega)]
theorem pad_some (box : List (Option (List UInt8))) (n m : Nat) (b : List UInt8) : (rPad box n)[m]? = some (some b) ↔ box[m]? = some (some b) := by
  rw [pad_get]
  by_cases h : m < box.length
  · rw [if_pos h]
  · rw [if_neg h, List.getElem?_eq_none (by omega)]
    split <;> simp
theorem fill_rel {next : Nat} {early : Nat → Option (List UInt8)} {box : List (Option (List UInt8))} (h : BRel next early box) (p : Nat × List UInt8) : BRel next (keep1 next early p) (rFill box p) := by
  have hpad : BRel next early (rPad box p.1) := ⟨fun n hn => by
    obtain ⟨⟨b, hb⟩, he⟩ := h.old n hn
    exact ⟨⟨b, (pad_some _ _ _ _).2 hb⟩, he⟩, fun n hn b => by rw [pad_some]; exact h.new n hn b⟩
  unfold rFill keep1
  by_cases hn : next ≤ p.1
  · have hin : (rPad box p.1)[p.1]? ≠ none := by
      rw [pad_get]
      split
      · rw [List.getElem?_eq_getElem (by assumption)]; simp
      · simp
    by_cases he : early p.1 = none
    · rw [if_pos ⟨hn, he⟩]
      have hz : (rPad box p.1)[p.1]? = some none := by
        cases hx : (rPad box p.1)[p.1]? with
        | none => exact absurd hx hin
        | some v =>
          cases v with
          | none => rfl
          | some b => rw [(hpad.new p.1 hn b).2 hx] at he; cases he
      rw [if_pos hz]
      have hlt := (List.getElem?_eq_some_iff.1 hz).1
      refine ⟨fun n hn' => ?_, fun n hn' b => ?_⟩
      · obtain ⟨⟨b, hb⟩, he'⟩ := hpad.old n hn'
        refine ⟨⟨b, ?_⟩, ?_⟩
        · rw [List.getElem?_set, if_neg (by omega)]; exact hb
        · unfold updN; rw [if_neg (by omega)]; exact he'
      · unfold updN
        rw [List.getElem?_set]
        by_cases e : n = p.1
        · subst e
          rw [if_pos rfl, if_pos rfl, if_pos hlt]
          simp
        · rw [if_neg e, if_neg (fun e' => e e'.symm)]
          exact hpad.new n hn' b
    · rw [if_neg (fun hc => he hc.2)]
      have hz : (rPad box p.1)[p.1]? ≠ some none := by
        cases hx : early p.1 with
        | none => exact absurd hx he
        | some b => rw [(hpad.new p.1 hn b).1 hx]; simp
      rw [if_neg hz]
      exact hpad
  · rw [if_neg (fun hc => hn hc.1)]
    obtain ⟨⟨b, hb⟩, -⟩ := hpad.old p.1 (by omega)
    rw [if_neg (by rw [hb]; simp)]
    exact hpad
theorem fills_rel {next : Nat} : ∀ {l : List (Nat × List UInt8)} {early : Nat → Option (List UInt8)} {box : List (Option (List UInt8))}, BRel next early box → BRel next (keepS next early l) (l.foldl rFill box)
  | [], _, _, h => h
  | p :: l, _, _, h => fills_rel (l := l) (fill_rel h p)
theorem run_rel {early : Nat → Option (List UInt8)} {box : List (Option (List UInt8))} : ∀ (k k' n : Nat), (∀ m, n ≤ m → ∀ b, early m = some b ↔ box[m]? = some (some b)) → (∀ m, n + k ≤ m → early m = none) → box.length ≤ n + k' → dlv early k n = rOut box k' n
  | 0, k', n, h, h0, _ => by
    have e : early n = none := h0 n (by omega)
    cases k' with
    | zero => rfl
    | succ k' =>
      rw [dlv, rOut]
      split
      · rename_i b hb
        rw [(h n (Nat.le_refl _) b).2 hb] at e; cases e
      · rfl
  | k + 1, k', n, h, h0, hl => by
    rw [dlv]
    cases he : early n with
    | none =>
      simp only
      cases k' with
      | zero => rfl
      | succ k' =>
        rw [rOut]
        split
        · rename_i b hb
          rw [(h n (Nat.le_refl _) b).2 hb] at he; cases he
        · rfl
    | some b =>
      simp only
      have hb := (h n (Nat.le_refl _) b).1 he
      have hlt := (List.getElem?_eq_some_iff.1 hb).1
      obtain ⟨k2, rfl⟩ : ∃ k2, k' = k2 + 1 := ⟨k' - 1, by omega⟩
      rw [rOut, hb]
      simp only
      rw [run_rel k k2 (n + 1) (fun m hm => h m (by omega)) (fun m hm => h0 m (by omega)) (by omega)]
theorem dlv_has {early : Nat → Option (List UInt8)} : ∀ {k n i : Nat}, i < (dlv early k n).length → ∃ b, early (n + i) = some b := by
  intro k n i h
  exact ⟨_, dlv_get (List.getElem?_eq_getElem h)⟩
theorem drop_rel {next k : Nat} {early : Nat → Option (List UInt8)} {box : List (Option (List UInt8))} (h : BRel next early box) : BRel (next + (dlv early k next).length) (dropN early next (dlv early k next).length) box := by
  refine ⟨fun n hn => ?_, fun n hn b => ?_⟩
  · rcases Nat.lt_or_ge n next with h1 | h1
    · refine ⟨(h.old n h1).1, ?_⟩
      unfold dropN; rw [if_neg (by omega)]; exact (h.old n h1).2
    · obtain ⟨b, hb⟩ := dlv_has (early := early) (k := k) (n := next) (i := n - next) (by omega)
      rw [show next + (n - next) = n by omega] at hb
      refine ⟨⟨b, (h.new n h1 b).1 hb⟩, ?_⟩
      unfold dropN; rw [if_pos ⟨h1, hn⟩]
  · unfold dropN; rw [if_neg (by omega)]; exact h.new n (by omega) b
theorem keep1_far {next : Nat} {early : Nat → Option (List UInt8)} {p : Nat × List UInt8} {N : Nat} (h : ∀ m, N ≤ m → early m = none) (hp : p.1 < N) : ∀ m, N ≤ m → keep1 next early p m = none := by
  intro m hm
  unfold keep1
  split
  · unfold updN; rw [if_neg (by omega)]; exact h m hm
  · exact h m hm
theorem keepS_far {next N : Nat} : ∀ {l : List (Nat × List UInt8)} {early : Nat → Option (List UInt8)}, (∀ m, N ≤ m → early m = none) → (∀ p ∈ l, p.1 < N) → ∀ m, N ≤ m → keepS next early l m = none
  | [], _, h, _ => h
  | p :: l, _, h, hp => keepS_far (l := l) (keep1_far h (hp p List.mem_cons_self)) fun q hq => hp q (List.mem_cons_of_mem _ hq)
theorem accept_heardP {s : EndS} {d : Int} (h : s.other ≤ s.newest + d) : (accept s d).1.other ≤ (accept s d).1.newest := by
  unfold accept
  split
  · simp only; omega
  split
  · simp only; omega
  split
  · split
    · simp only; omega
    · simp only; omega
  · simp only; exact h
theorem recvP_heard {s : EndS} {xs : List UInt8} (h1 : (recvP s xs).2.2.2 ≠ 190) (h2 : ¬ ((recvP s xs).2.2.2 = 0 ∧ (recvP s xs).2.1 = [])) : (recvP s xs).1.other ≤ (recvP s xs).1.newest := by
  unfold recvP at h1 h2 ⊢
  cases hp : parseP xs with
  | none => rw [hp] at h1; exact absurd rfl h1
  | some q =>
    obtain ⟨f, nu, ak, mk, body⟩ := q
    rw [hp] at h1 h2
    simp only at h1 h2 ⊢
    by_cases c1 : f % 2 = 1 ∧ near s.newest nu < s.other
    · rw [if_pos c1] at h1; exact absurd rfl h1
    · rw [if_neg c1] at h1 h2 ⊢
      by_cases c2 : f / 2 % 2 = 1 ∧ (near (s.next - 1) ak < s.own ∨ s.next ≤ near (s.next - 1) ak ∨ earlyB (near (s.next - 1) ak) s.own mk = true)
      · rw [if_pos c2] at h1; exact absurd rfl h1
      · rw [if_neg c2] at h1 h2 ⊢
        by_cases c3 : f % 2 = 1
        · rw [if_pos c3]
          simp only
          have hge : s.other ≤ near s.newest nu := by
            rcases Int.lt_or_le (near s.newest nu) s.other with h | h
            · exact absurd ⟨c3, h⟩ c1
            · exact h
          by_cases c4 : f / 2 % 2 = 1
          · rw [if_pos c4]
            exact accept_heardP (by show s.other ≤ s.newest + (near s.newest nu - s.newest); omega)
          · rw [if_neg c4]
            exact accept_heardP (by omega)
        · rw [if_neg c3] at h2
          exact absurd ⟨rfl, rfl⟩ h2
theorem accept_mono {s : EndS} {d : Int} (h : s.other ≤ s.newest) : (accept s d).1.other ≤ (accept s d).1.newest := by
  unfold accept
  split
  · exact h
  split
  · exact h
  split
  · split
    · exact h
    · exact h
  · simp only; omega
theorem recvP_mono {s : EndS} (xs : List UInt8) (h : s.other ≤ s.newest) : (recvP s xs).1.other ≤ (recvP s xs).1.newest := by
  unfold recvP
  cases parseP xs with
  | none => exact h
  | some q =>
    obtain ⟨f, nu, ak, mk, body⟩ := q
    simp only
    split
    · exact h
    · split
      · exact h
      · split
        · simp only
          refine accept_mono ?_
          split
          · exact h
          · exact h
        · simp only
          split
          · exact h
          · exact h
theorem recvP_repsR {s : EndS} (hf : s.Fit) (xs : List UInt8) : ∀ r ∈ (recvP s xs).2.2.1, 0 ≤ r.1 := by
  have hsub : ∀ (ack : Int) (mask : Nat) (l : List Int), ∀ r ∈ ackR ack mask l, r.1 ∈ l := by
    intro ack mask l
    induction l with
    | nil => intro r hr; cases hr
    | cons n l ih =>
      intro r hr
      simp only [ackR] at hr
      split at hr
      · rcases List.mem_cons.1 hr with rfl | hr
        · exact List.mem_cons_self
        · exact List.mem_cons_of_mem _ (ih r hr)
      · split at hr
        · rcases List.mem_cons.1 hr with rfl | hr
          · exact List.mem_cons_self
          · exact List.mem_cons_of_mem _ (ih r hr)
        · exact List.mem_cons_of_mem _ (ih r hr)
  intro r hr
  have hm : r.1 ∈ s.pend := by
    unfold recvP at hr
    cases hp : parseP xs with
    | none => rw [hp] at hr; cases hr
    | some q =>
      obtain ⟨f, nu, ak, mk, body⟩ := q
      rw [hp] at hr
      simp only at hr
      split at hr
      · cases hr
      · split at hr
        · cases hr
        · split at hr
          · simp only at hr
            split at hr
            · exact hsub _ _ _ r hr
            · cases hr
          · simp only at hr
            split at hr
            · exact hsub _ _ _ r hr
            · cases hr
  have h1 := hf.mem _ hm
  have h2 := hf.own0
  omega
theorem parse_lt {next : Nat} : ∀ (k : Nat) (xs : List UInt8) (l : List (Nat × List UInt8)), parseC next k xs = some l → ∀ p ∈ l, p.1 < next + 64
  | 0, _, _, h => by simp only [parseC, Option.some.injEq] at h; subst h; intro p hp; cases hp
  | k + 1, xs, l, h => by
    simp only [parseC] at h
    split at h
    · injection h with h; subst h; intro p hp; cases hp
    · split at h
      · cases h
      · split at h
        · cases h
        · rename_i hb
          cases hq : parseC next k (List.drop (4 + beNum ((xs.drop 2).take 2)) xs) with
          | none => rw [hq] at h; cases h
          | some l2 =>
            rw [hq] at h
            simp only [Option.map_some, Option.some.injEq] at h
            subst h
            intro p hp
            rcases List.mem_cons.1 hp with rfl | hp
            · simp only; omega
            · exact parse_lt k _ l2 hq p hp
theorem receive_rel {s : ChS} {c : RCh} (h : CRel s c) (hf : s.Fit) (xs : List UInt8) : CRel (recvS s xs).1 (rReceive c xs).1 ∧ (recvS s xs).2 = (rReceive c xs).2 := by
  obtain ⟨r1, r2⟩ := recv_ref h.e xs
  have hrep := recvP_repsR hf.e xs
  have hheard := @recvP_heard s.e xs
  have hmono := @recvP_mono s.e xs
  have hnx : (recvP s.e xs).1.next = s.e.next := by
    unfold recvP
    cases parseP xs with
    | none => rfl
    | some q =>
      obtain ⟨f, nu, ak, mk, body⟩ := q
      have ha : ∀ (s : EndS) d, (accept s d).1.next = s.next := fun s d => by unfold accept; (repeat' split) <;> rfl
      simp only
      split
      · rfl
      · split
        · rfl
        · split
          · simp only; rw [ha]; split <;> rfl
          · simp only; split <;> rfl
  unfold recvS rReceive
  simp only
  rw [← r2]
  generalize recvP s.e xs = R at r1 hrep hheard hmono hnx ⊢
  generalize refRecv c.e xs = R' at r1 ⊢
  by_cases h1 : R.2.2.2 = 190
  · rw [if_pos h1, if_pos h1]; exact ⟨h, rfl⟩
  rw [if_neg h1, if_neg h1]
  -- behind the reports, the debt b
  have hD : ∀ b : Bool, (b = true → R.1.other ≤ R.1.newest) → CRel { decS { s with e := R.1 } R.2.2.1 with owes := b } { c with e := R'.1, out := rDec c.out R.2.2.1, owes := b } := by
    intro b hb
    have hd := decS_rel (s := { s with e := R.1, owes := b }) (c := { c with e := R'.1, owes := b }) r1 h.len h.next h.tick rfl h.fle h.flo (by show ORel s.tick R.1.next s.packets s.out c.out; rw [hnx]; exact h.out) h.box hb R.2.2.1 hrep
    have e : decS { s with e := R.1, owes := b } R.2.2.1 = { decS { s with e := R.1 } R.2.2.1 with owes := b } := by
      have hfold : ∀ (rs : List (Int × Bool)) (s : ChS), rs.foldl decR { s with owes := b } = { rs.foldl decR s with owes := b } := by
        intro rs
        induction rs with
        | nil => intro s; rfl
        | cons r rs ih => intro s; rw [List.foldl_cons, List.foldl_cons, ← ih]; rfl
      unfold decS
      have := hfold R.2.2.1 { s with e := R.1 }
      simp only at this ⊢
      rw [this]
    rw [← e]; exact hd
  have hDn : (decS { s with e := R.1 } R.2.2.1).early = s.early := (decS_e (s := { s with e := R.1 }) h.fle R.2.2.1).2.2.2.2.2
  have hDx : (decS { s with e := R.1 } R.2.2.1).owes = s.owes := (decS_e (s := { s with e := R.1 }) h.fle R.2.2.1).2.2.2.2.1
  generalize decS { s with e := R.1 } R.2.2.1 = D at hD hDn hDx ⊢
  by_cases h2 : R.2.2.2 = 0 ∧ R.2.1 = []
  · rw [if_pos h2, if_pos h2]
    refine ⟨?_, rfl⟩
    have := hD s.owes (fun hc => hmono (h.own hc))
    rw [h.owes] at this
    have e1 : ({ D with owes := c.owes } : ChS) = D := by rw [← h.owes, ← hDx]
    rw [e1] at this
    exact this
  rw [if_neg h2, if_neg h2]
  have hown := hheard h1 h2
  have hB := hD true (fun _ => hown)
  by_cases h3 : R.2.2.2 ≠ 0
  · rw [if_pos h3, if_pos h3]
    exact ⟨hB, rfl⟩
  rw [if_neg h3, if_neg h3, h.next]
  cases hp : parseC c.next R.2.1.length R.2.1 with
  | none =>
    dsimp only
    exact ⟨hB, rfl⟩
  | some l =>
    dsimp only
    have hfill := fills_rel (l := l) h.box
    rw [h.next] at hfill
    have hfar : ∀ m, c.next + 64 ≤ m → keepS c.next s.early l m = none := keepS_far (fun m hm => by
      cases he : s.early m with
      | none => rfl
      | some b => have := hf.el m b he; rw [h.next] at this; omega) (parse_lt _ _ _ hp)
    have hrun := run_rel 64 (l.foldl rFill c.box).length c.next hfill.new hfar (by omega)
    rw [← hrun]
    have hdr := drop_rel (k := 64) hfill
    refine ⟨⟨hB.e, hB.len, ?_, hB.tick, rfl, hB.fle, hB.flo, hB.hot, hB.out, hdr, hB.own⟩, rfl⟩
    rfl
end Go.Proofs.Ythjjipcbpmdfnaa
