/-
  PLAIN LAWS for BudgetOrder: the scores as they are summed up, the places as they are counted.
-/
import Derived.Test.YtkiknbjokknemaaBudA
namespace Go.Proofs.Ytkiknbjokknemaa

/-- The score of an ID, summed up. -/
def sumOf (l : List It) (id : Int) : Int := (l.map fun x => if x.id = id then x.sc else 0).sum

theorem sumOf_snoc (l : List It) (x : It) (id : Int) : sumOf (l ++ [x]) id = sumOf l id + if x.id = id then x.sc else 0 := by
  simp [sumOf]
theorem sumOf_none {l : List It} {id : Int} (h : ∀ x ∈ l, x.id ≠ id) : sumOf l id = 0 := by
  induction l with
  | nil => rfl
  | cons a l ih =>
    have := ih fun x hx => h x (by simp [hx])
    unfold sumOf at *
    rw [List.map_cons, List.sum_cons, this, if_neg (h a (by simp))]; rfl
theorem sumOf_scoreOf {l : List It} (hp : l.Pairwise fun a b => a.id < b.id) (id : Int) : sumOf l id = scoreOf l id := by
  induction l with
  | nil => rfl
  | cons a l ih =>
    rw [List.pairwise_cons] at hp
    have ih := ih hp.2
    rw [scoreOf_cons]
    have e : sumOf (a :: l) id = (if a.id = id then a.sc else 0) + sumOf l id := by simp [sumOf]
    rw [e]
    by_cases c : a.id = id
    · rw [if_pos c, if_pos c, sumOf_none fun x hx => by have := hp.1 x hx; omega]; omega
    · rw [if_neg c, if_neg c, ih]; omega
theorem sumOf_bd {l : List It} {B : Int} (hB : 0 ≤ B) (hp : l.Pairwise fun a b => a.id < b.id) (h : ∀ x ∈ l, 0 ≤ x.sc ∧ x.sc ≤ B) (id : Int) : 0 ≤ sumOf l id ∧ sumOf l id ≤ B := by
  rw [sumOf_scoreOf hp]
  clear hp
  induction l with
  | nil => exact ⟨Int.le_refl _, hB⟩
  | cons a l ih =>
    rw [scoreOf_cons]
    split
    · exact h a (by simp)
    · exact ih fun x hx => h x (by simp [hx])

/-- The place of n among those that are sent: 0 if it is not. -/
def plc (p : List Nat) (n : Nat) : Nat := if n ∈ p then p.idxOf n + 1 else 0

theorem plc_nil (n : Nat) : plc [] n = 0 := rfl
theorem plc_snoc {p : List Nat} {i : Nat} (hi : i ∉ p) (n : Nat) : plc (p ++ [i]) n = plc p n + if n = i then p.length + 1 else 0 := by
  unfold plc
  by_cases c : n = i
  · subst c
    rw [if_pos (by simp), if_neg hi, if_pos rfl, List.idxOf_append, if_neg hi]
    first | done | simp
  · rw [if_neg c]
    by_cases h : n ∈ p
    · rw [if_pos (by simp [h]), if_pos h, List.idxOf_append, if_pos h]
    · rw [if_neg (by simp [h, c]), if_neg h]
theorem plc_le (p : List Nat) (n : Nat) : plc p n ≤ p.length := by
  unfold plc
  split
  · rename_i h; exact List.idxOf_lt_length_of_mem h
  · omega
theorem plc_pos {p : List Nat} {n : Nat} : 0 < plc p n ↔ n ∈ p := by unfold plc; split <;> simp_all
theorem plc_get {p : List Nat} {n : Nat} (h : n ∈ p) : p[plc p n - 1]? = some n := by
  unfold plc
  rw [if_pos h, Nat.add_sub_cancel, List.getElem?_eq_getElem (List.idxOf_lt_length_of_mem h), List.getElem_idxOf]

theorem places_ord (l : List It) (ws : List (Int × Int)) (k : Nat) : (places l ws k).Pairwise fun i j => before (outs l ws) i j = true :=
  (order_before _).sublist (List.take_sublist _ _)

/-- Nobody who comes first is behind. -/
theorem order_ok {l : List It} {ws : List (Int × Int)} (k : Nat) {n m : Nat} {x y : Int × Int} (hn : ws[n]? = some x) (hm : ws[m]? = some y)
    (h : (gitm l y).sc < (gitm l x).sc ∨ ((gitm l x).sc = (gitm l y).sc ∧ n < m)) :
    ¬ (plc (places l ws k) n = 0 ∧ 0 < plc (places l ws k) m) ∧ ¬ (plc (places l ws k) m < plc (places l ws k) n ∧ 0 < plc (places l ws k) m) := by
  refine ⟨fun ⟨h1, h2⟩ => ?_, fun ⟨h1, h2⟩ => ?_⟩
  · have := places_before hn hm (plc_pos.1 h2) h
    rw [← plc_pos] at this; omega
  · have hm' := plc_pos.1 h2
    have hn' := plc_pos.1 (Nat.lt_of_le_of_lt (Nat.zero_le _) h1)
    have a := plc_get hm'; have b := plc_get hn'
    have ho := places_ord l ws k
    rw [List.pairwise_iff_getElem] at ho
    obtain ⟨la, ea⟩ := List.getElem?_eq_some_iff.1 a
    obtain ⟨lb, eb⟩ := List.getElem?_eq_some_iff.1 b
    have := ho _ _ la lb (by omega)
    rw [ea, eb, before_iff, outs_getD hn, outs_getD hm] at this
    omega

/-- The score of a want as long as nothing is cut. -/
theorem gitm_plain {l : List It} {B : Int} (hB : B ≤ 100000) (hl : ∀ x ∈ l, 0 ≤ x.sc ∧ x.sc ≤ B) {x : Int × Int} (hx : 1 ≤ x.2 ∧ x.2 ≤ 16) (hB0 : 0 ≤ B) : (gitm l x).sc = x.2 + scoreOf l x.1 ∧ 0 ≤ (gitm l x).sc ∧ (gitm l x).sc ≤ B + 16 := by
  have : 0 ≤ scoreOf l x.1 ∧ scoreOf l x.1 ≤ B := by
    induction l with
    | nil => exact ⟨Int.le_refl _, hB0⟩
    | cons a l ih =>
      rw [scoreOf_cons]
      split
      · exact hl a (by simp)
      · exact ih fun x hx => hl x (by simp [hx])
  rw [gitm_sc]
  unfold topScore
  omega

theorem stepM_low {l : List It} {ws : List (Int × Int)} {B : Int} (hB : B ≤ 100000) (hB0 : 0 ≤ B) (hl : ∀ x ∈ l, 0 ≤ x.sc ∧ x.sc ≤ B) (hw : RightP ws) (k : Nat) : ∀ x ∈ (stepM l ws k).1, 0 ≤ x.sc ∧ x.sc ≤ B + 16 := by
  intro x hx
  obtain ⟨i, h1⟩ := List.mem_iff_getElem?.1 hx
  have hi : i < ws.length := by have := (List.getElem?_eq_some_iff.1 h1).1; rwa [stepM_len] at this
  have hy := hw.2.1 ws[i] (List.getElem_mem hi)
  rw [stepM_get l ws k i (List.getElem?_eq_getElem hi)] at h1
  rw [← Option.some.inj h1]
  have := gitm_plain hB hl (x := ws[i]) hy.2.2 hB0
  split
  · exact ⟨Int.le_refl _, by simp only; omega⟩
  · exact this.2

/-- How many of the first are sent. -/
def cntU (p : List Nat) (n : Nat) : Nat := ((List.range n).filter fun i => decide (i ∈ p)).length
theorem cntU_succ (p : List Nat) (n : Nat) : cntU p (n + 1) = cntU p n + if n ∈ p then 1 else 0 := by
  unfold cntU
  rw [List.range_succ, List.filter_append, List.length_append]
  by_cases h : n ∈ p <;> simp [h]
theorem cntU_le (p : List Nat) (n : Nat) : cntU p n ≤ n := by
  unfold cntU
  have := List.length_filter_le (fun i => decide (i ∈ p)) (List.range n)
  simpa using this
theorem cntU_all {p : List Nat} {n : Nat} (hp : p.Nodup) (h : ∀ i ∈ p, i < n) : cntU p n = p.length := by
  unfold cntU
  refine List.Perm.length_eq ?_
  rw [List.perm_iff_count]
  intro a
  by_cases ha : a ∈ p
  · rw [hp.count, if_pos ha]
    have hf : ((List.range n).filter fun i => decide (i ∈ p)).Nodup := List.nodup_range.sublist List.filter_sublist
    rw [hf.count, if_pos (List.mem_filter.2 ⟨List.mem_range.2 (h a ha), by simpa using ha⟩)]
  · rw [List.count_eq_zero_of_not_mem ha]
    exact List.count_eq_zero_of_not_mem fun hh => ha (by simpa using (List.mem_filter.1 hh).2)

/-- Who is sent, by its ID. -/
theorem sent_get {l : List It} {ws : List (Int × Int)} {k j : Nat} {i : Nat} (h : (places l ws k)[j]? = some i) : ∃ x, ws[i]? = some x ∧ (stepM l ws k).2[j]? = some x.1 := by
  have hi := mem_places (List.mem_of_getElem? h)
  refine ⟨ws[i], List.getElem?_eq_getElem hi, ?_⟩
  show ((places l ws k).map fun i => ((outs l ws).getD i default).id)[j]? = _
  rw [List.getElem?_map, h]
  simp only [Option.map_some]
  rw [outs_getD (List.getElem?_eq_getElem hi)]; rfl
theorem id_inj {ws : List (Int × Int)} (hp : ws.Pairwise fun a b => a.1 < b.1) {i j : Nat} {x y : Int × Int} (hi : ws[i]? = some x) (hj : ws[j]? = some y) : x.1 = y.1 ↔ i = j := by
  rw [List.pairwise_iff_getElem] at hp
  obtain ⟨li, ei⟩ := List.getElem?_eq_some_iff.1 hi
  obtain ⟨lj, ej⟩ := List.getElem?_eq_some_iff.1 hj
  constructor
  · intro h
    rcases Nat.lt_trichotomy i j with c | c | c
    · have := hp i j li lj c; rw [ei, ej] at this; omega
    · exact c
    · have := hp j i lj li c; rw [ei, ej] at this; omega
  · rintro rfl
    rw [hi] at hj; injection hj with hj; rw [hj]
end Go.Proofs.Ytkiknbjokknemaa
