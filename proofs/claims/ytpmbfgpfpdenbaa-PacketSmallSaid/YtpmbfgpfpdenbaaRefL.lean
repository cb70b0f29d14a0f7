/-
  PLAIN LAW: the reference's End and the program's answer alike.
-/
import Derived.Test.YtpmbfgpfpdenbaaRefE
import Derived.Test.YtpmbfgpfpdenbaaRefM
import Derived.Test.YtpmbfgpfpdenbaaRefB
import Derived.Test.YtpmbfgpfpdenbaaLinkC
namespace Go.Proofs.Ytpmbfgpfpdenbaa

theorem newestR_cases (l : List Int) (a : Int) : l.foldl max a = a ∨ l.foldl max a ∈ l := by
  induction l generalizing a with
  | nil => exact .inl rfl
  | cons x l ih =>
    simp only [List.foldl_cons]
    rcases ih (max a x) with h | h
    · rw [h]
      rcases Int.le_total a x with h1 | h1
      · rw [Int.max_eq_right h1]; exact .inr (by simp)
      · rw [Int.max_eq_left h1]; exact .inl rfl
    · exact .inr (List.mem_cons_of_mem _ h)
theorem foldl_max_ge (l : List Int) (a : Int) : a ≤ l.foldl max a ∧ ∀ x ∈ l, x ≤ l.foldl max a := by
  induction l generalizing a with
  | nil => exact ⟨Int.le_refl _, fun x h => by cases h⟩
  | cons y l ih =>
    simp only [List.foldl_cons]
    obtain ⟨h1, h2⟩ := ih (max a y)
    refine ⟨by omega, fun x hx => ?_⟩
    rcases List.mem_cons.1 hx with rfl | hx
    · omega
    · exact h2 x hx
theorem newestR_mem {other : Int} {got : List Int} (h : other ≤ newestR other got) : newestR other got ∈ got := by
  rcases newestR_cases got (other - 1) with h1 | h1
  · unfold newestR at h; omega
  · exact h1
theorem newestR_ge {other : Int} {got : List Int} {x : Int} (h : x ∈ got) : x ≤ newestR other got := (foldl_max_ge got (other - 1)).2 x h

theorem maskR_bit (n : Int) (got : List Int) (k i : Nat) : (maskR n got k).testBit i = (decide (i < k) && got.contains (n - 1 - (i : Int))) := by
  induction k with
  | zero => simp [maskR]
  | succ k ih =>
    have hlt := maskR_lt n got k
    simp only [maskR]
    by_cases hc : got.contains (n - 1 - (k : Int)) = true
    · rw [if_pos hc, Nat.add_comm]
      rcases Nat.lt_trichotomy i k with h | h | h
      · rw [Nat.testBit_two_pow_add_gt h, ih, decide_eq_true h, decide_eq_true (show i < k + 1 by omega)]
      · subst h
        rw [Nat.testBit_two_pow_add_eq, Nat.testBit_lt_two_pow hlt, hc, decide_eq_true (show i < i + 1 by omega)]; rfl
      · rw [Nat.testBit_lt_two_pow, decide_eq_false (show ¬ i < k + 1 by omega)]; rfl
        have h1 : 2 ^ (k + 1) ≤ 2 ^ i := Nat.pow_le_pow_right (by omega) (by omega)
        have h2 : 2 ^ (k + 1) = 2 ^ k + 2 ^ k := by rw [Nat.pow_succ]; omega
        omega
    · rw [if_neg hc, Nat.add_zero, ih]
      by_cases h : i < k
      · rw [decide_eq_true h, decide_eq_true (show i < k + 1 by omega)]
      · by_cases h2 : i = k
        · subst h2
          have : got.contains (n - 1 - (i : Int)) = false := by simpa using hc
          rw [this]; simp
        · rw [decide_eq_false h, decide_eq_false (show ¬ i < k + 1 by omega)]

/-- What a named number is. -/
theorem namedR_mem (ack : Int) (mask k : Nat) (x : Int) : x ∈ namedR ack mask k ↔ x = ack ∨ ∃ i, i < k ∧ mask.testBit i = true ∧ x = ack - 1 - (i : Int) := by
  induction k with
  | zero => simp [namedR]
  | succ k ih =>
    simp only [namedR, List.mem_append, ih]
    constructor
    · rintro ((h | ⟨i, h1, h2, h3⟩) | h)
      · exact .inl h
      · exact .inr ⟨i, by omega, h2, h3⟩
      · by_cases hb : mask.testBit k = true
        · rw [if_pos hb] at h
          exact .inr ⟨k, by omega, hb, by simpa using h⟩
        · rw [if_neg hb] at h; simp at h
    · rintro (h | ⟨i, h1, h2, h3⟩)
      · exact .inl (.inl h)
      · by_cases hk : i = k
        · subst hk
          rw [if_pos h2]; exact .inr (by simpa using h3)
        · exact .inl (.inr ⟨i, by omega, h2, h3⟩)
theorem named_eq (ack : Int) (mask : Nat) (n : Int) : (namedR ack mask 32).contains n = named ack mask n := by
  rw [Bool.eq_iff_iff, List.contains_iff_mem, namedR_mem]
  unfold named
  simp only [Bool.or_eq_true, beq_iff_eq, Bool.and_eq_true, decide_eq_true_eq]
  constructor
  · rintro (h | ⟨i, h1, h2, h3⟩)
    · exact .inl h
    · refine .inr ⟨⟨by omega, by omega⟩, ?_⟩
      rw [show (ack - 1 - n).toNat = i by omega]; exact h2
  · rintro (h | ⟨⟨h1, h2⟩, h3⟩)
    · exact .inl h
    · exact .inr ⟨(ack - 1 - n).toNat, by omega, h3, by omega⟩

theorem rep_eq (ack : Int) (mask : Nat) (l : List Int) : repR (namedR ack mask 32) true ack l = ackR ack mask l := by
  induction l with
  | nil => rfl
  | cons n l ih =>
    simp only [repR, ackR, ih, named_eq, true_and]
theorem left_eq (ack : Int) (mask : Nat) (l : List Int) : leftR (namedR ack mask 32) true ack l = ackL ack mask l := by
  induction l with
  | nil => rfl
  | cons n l ih =>
    simp only [leftR, ackL, ih, named_eq, true_and]
theorem rep_none (ack : Int) (l : List Int) : repR [] false ack l = [] := by
  induction l with
  | nil => rfl
  | cons n l ih => simp [repR, ih]
theorem left_none (ack : Int) (l : List Int) : leftR [] false ack l = l := by
  induction l with
  | nil => rfl
  | cons n l ih => simp [leftR, ih]

/-- The numbers that are named lie among those that were made. -/
theorem out_eq (r : RefS) (ack : Int) (mask : Nat) : outR r (namedR ack mask 32) = true ↔ (ack < r.own ∨ r.next ≤ ack ∨ earlyB ack r.own mask = true) := by
  unfold outR
  simp only [List.any_eq_true, Bool.or_eq_true, decide_eq_true_eq, namedR_mem]
  constructor
  · rintro ⟨x, h | ⟨i, h1, h2, h3⟩, h4⟩
    · subst h; rcases h4 with h | h
      · exact .inl h
      · exact .inr (.inl h)
    · by_cases ha : ack < r.own
      · exact .inl ha
      by_cases hb : r.next ≤ ack
      · exact .inr (.inl hb)
      refine .inr (.inr ((early_iff _ _ _ (by omega)).2 ⟨x, by omega, by rcases h4 with h | h <;> omega, ?_⟩))
      unfold named
      rw [show (ack - 1 - x).toNat = i by omega, h2]
      simp; omega
  · rintro (h | h | h)
    · exact ⟨ack, .inl rfl, .inl h⟩
    · exact ⟨ack, .inl rfl, .inr h⟩
    · by_cases ha : ack < r.own
      · exact ⟨ack, .inl rfl, .inl ha⟩
      obtain ⟨n, h1, h2, h3⟩ := (early_iff _ _ _ (by omega)).1 h
      exact ⟨n, by rw [← namedR_mem ack mask 32, ← List.contains_iff_mem, named_eq]; exact h3, .inl h2⟩

theorem drop_two (l : List UInt8) (i : Nat) (h : i + 2 ≤ l.length) : (l.drop i).take 2 = [l.getD i 0, l.getD (i + 1) 0] := by
  rw [List.drop_eq_getElem_cons (by omega), List.drop_eq_getElem_cons (by omega)]
  simp only [List.take_succ_cons, List.take_zero, List.getD_eq_getElem?_getD]
  rw [List.getElem?_eq_getElem (by omega), List.getElem?_eq_getElem (by omega)]
  rfl
theorem drop_four (l : List UInt8) (i : Nat) (h : i + 4 ≤ l.length) : (l.drop i).take 4 = [l.getD i 0, l.getD (i + 1) 0, l.getD (i + 2) 0, l.getD (i + 3) 0] := by
  rw [List.drop_eq_getElem_cons (by omega), List.drop_eq_getElem_cons (by omega), List.drop_eq_getElem_cons (by omega), List.drop_eq_getElem_cons (by omega)]
  simp only [List.take_succ_cons, List.take_zero, List.getD_eq_getElem?_getD]
  rw [List.getElem?_eq_getElem (by omega), List.getElem?_eq_getElem (by omega), List.getElem?_eq_getElem (by omega), List.getElem?_eq_getElem (by omega)]
  rfl
theorem byteR_succ (c : UInt8) (t : List UInt8) (i : Nat) : byteR (c :: t) (i + 1) = byteR t i := rfl
theorem num_be (t : List UInt8) (i : Nat) (h : i + 2 ≤ t.length) : numR t i = (beNum ((t.drop i).take 2) : Int) := by
  rw [drop_two t i h]; simp [beNum, numR, byteR]
theorem msk_be (t : List UInt8) (i : Nat) (h : i + 4 ≤ t.length) : mskR t i = beNum ((t.drop i).take 4) := by
  rw [drop_four t i h]; simp [beNum, mskR, byteR]; omega
theorem numR_cons (c : UInt8) (t : List UInt8) (i : Nat) : numR (c :: t) (i + 1) = numR t i := rfl
theorem mskR_cons (c : UInt8) (t : List UInt8) (i : Nat) : mskR (c :: t) (i + 1) = mskR t i := rfl

theorem tail_bad {r : RefS} {hb ha : Bool} {nu ack : Int} {m : Nat} {body : List UInt8} (h : badR r hb nu body = true) : refTail r hb ha nu ack m body = (r, [], [], 190) := by unfold refTail; rw [if_pos h]

/-- The reference reads what the program reads. -/
theorem parse_ref (r : RefS) (xs : List UInt8) : refRecv r xs = match parseP xs with
    | none => (r, [], [], 190)
    | some (f, nu, ak, mk, body) => refTail r (decide (f % 2 = 1)) (decide (f / 2 % 2 = 1)) (if f % 2 = 1 then near (newestR r.other r.got) nu else 0) (if f / 2 % 2 = 1 then near (r.next - 1) ak else 0) (if f / 2 % 2 = 1 then mk else 0) body := by
  cases xs with
  | nil => rfl
  | cons c t =>
    obtain ⟨f, hf⟩ : ∃ f, f = c.toNat := ⟨_, rfl⟩
    have h0 : byteR (c :: t) 0 = f := by rw [hf]; rfl
    unfold refRecv refRecv1 refRecv2
    simp only [parseP, ← hf, h0, hbR, haR, at1R, at2R, List.length_cons]
    by_cases hbad : f < 1 ∨ 3 < f
    · rw [if_pos (.inr hbad), if_pos (by rcases hbad with h | h <;> simp [h])]
    · rw [if_neg (by omega)]
      rcases (show f = 1 ∨ f = 2 ∨ f = 3 by omega) with rfl | rfl | rfl
      · simp only [Nat.reduceMod, Nat.reduceDiv, if_true, decide_true, true_and, Nat.reduceLeDiff, decide_false, if_false, Nat.reduceAdd, Nat.reduceEqDiff, Bool.false_eq_true, false_and, Nat.reduceSub, Nat.zero_mod, Nat.lt_irrefl, Nat.reduceLT, false_or, Nat.add_zero]
        by_cases h1 : t.length < 2
        · rw [if_pos (by omega), if_pos (.inl h1)]
        · rw [if_neg (by omega)]
          have hn : numR (c :: t) 1 = (beNum (List.take 2 t) : Int) := by rw [numR_cons, num_be t 0 (by omega)]; rfl
          have hl : (List.drop 3 (c :: t)).length = t.length - 2 := by simp
          by_cases h2 : 1191 < t.length - 2 ∨ (0 < t.length - 2) ≠ True
          · rw [if_pos (.inr h2)]
            refine tail_bad ?_
            unfold badR
            rw [hl]
            rcases h2 with h | h
            · simp [h]
            · have : ¬ 0 < t.length - 2 := fun h' => h (by simp [h'])
              simp [this]
          · rw [if_neg (by rintro (h | h); exact h1 h; exact h2 h)]
            simp only [Nat.reduceMod, Nat.reduceDiv, if_true, decide_true, Nat.reduceEqDiff, decide_false, if_false, Nat.zero_mod, hn]
            rfl
      · simp only [Nat.reduceMod, Nat.reduceDiv, if_true, decide_true, true_and, Nat.reduceLeDiff, decide_false, if_false, Nat.reduceAdd, Nat.reduceEqDiff, Bool.false_eq_true, false_and, Nat.reduceSub, Nat.reduceLT, false_or, Nat.zero_add]
        by_cases h1 : t.length < 6
        · rw [if_pos (by omega), if_pos (.inl h1)]
        · rw [if_neg (by omega)]
          have hn : numR (c :: t) 1 = (beNum (List.take 2 t) : Int) := by rw [numR_cons, num_be t 0 (by omega)]; rfl
          have hm : mskR (c :: t) 3 = beNum (List.take 4 (List.drop 2 t)) := by rw [mskR_cons, msk_be t 2 (by omega)]
          have hl : (List.drop 7 (c :: t)).length = t.length - 6 := by simp
          by_cases h2 : 1191 < t.length - 6 ∨ (0 < t.length - 6) ≠ False
          · rw [if_pos (.inr h2)]
            refine tail_bad ?_
            unfold badR
            rw [hl]
            rcases h2 with h | h
            · simp [h]
            · have : 0 < t.length - 6 := Classical.byContradiction fun h' => h (by simp [h'])
              simp [this]
          · rw [if_neg (by rintro (h | h); exact h1 h; exact h2 h)]
            simp only [Nat.reduceMod, Nat.reduceDiv, if_true, decide_true, Nat.reduceEqDiff, decide_false, if_false, hn, hm]
            rfl
      · simp only [Nat.reduceMod, Nat.reduceDiv, if_true, decide_true, true_and, Nat.reduceLeDiff, Nat.reduceAdd, Nat.reduceSub, Nat.lt_irrefl, Nat.reduceLT, false_or]
        by_cases h0 : t.length < 2
        · rw [if_pos (by omega), if_pos (.inl (by omega))]
        · rw [if_neg (by omega)]
          by_cases h1 : t.length < 8
          · rw [if_pos (by omega), if_pos (.inl h1)]
          · rw [if_neg (by omega)]
            have hn : numR (c :: t) 1 = (beNum (List.take 2 t) : Int) := by rw [numR_cons, num_be t 0 (by omega)]; rfl
            have ha : numR (c :: t) 3 = (beNum (List.take 2 (List.drop 2 t)) : Int) := by rw [numR_cons, num_be t 2 (by omega)]
            have hm : mskR (c :: t) 5 = beNum (List.take 4 (List.drop 4 t)) := by rw [mskR_cons, msk_be t 4 (by omega)]
            have hl : (List.drop 9 (c :: t)).length = t.length - 8 := by simp
            by_cases h2 : 1191 < t.length - 8 ∨ (0 < t.length - 8) ≠ True
            · rw [if_pos (.inr h2)]
              refine tail_bad ?_
              unfold badR
              rw [hl]
              rcases h2 with h | h
              · simp [h]
              · have : ¬ 0 < t.length - 8 := fun h' => h (by simp [h'])
                simp [this]
            · rw [if_neg (by rintro (h | h); exact h1 h; exact h2 h)]
              simp only [Nat.reduceMod, Nat.reduceDiv, if_true, decide_true, hn, ha, hm]
              rfl
end Go.Proofs.Ytpmbfgpfpdenbaa
