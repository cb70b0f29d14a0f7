/-
  THE PLAIN MODEL OF A STEP of package budget, and its laws; no program in sight.
-/
namespace Go.Proofs.YtkiknbjokknemaaGreat

structure It where
  id : Int
  wt : Int
  sc : Int
  deriving DecidableEq, Inhabited

/-- The score that an ID has in a list of items: 0 if there is none. -/
def scoreOf (l : List It) (id : Int) : Int := match l with
  | [] => 0
  | x :: l => if x.id = id then x.sc else scoreOf l id

def topScore : Int := 1073741824
def gitm (l : List It) (w : Int × Int) : It := ⟨w.1, w.2, min (scoreOf l w.1 + w.2) topScore⟩
def outs (l : List It) (ws : List (Int × Int)) : List It := ws.map (gitm l)

/-- Is place i chosen before place j? -/
def before (out : List It) (i j : Nat) : Bool := decide ((out.getD j default).sc < (out.getD i default).sc) || (decide ((out.getD i default).sc = (out.getD j default).sc) && decide (i < j))
def order (out : List It) : List Nat := (List.range out.length).mergeSort fun i j => !before out j i
def zeroAt (out : List It) (p : List Nat) : List It := out.mapIdx fun i x => if i ∈ p then { x with sc := 0 } else x

/-- Who is sent: the places. -/
def places (l : List It) (ws : List (Int × Int)) (k : Nat) : List Nat := (order (outs l ws)).take k
def stepM (l : List It) (ws : List (Int × Int)) (k : Nat) : List It × List Int :=
  (zeroAt (outs l ws) (places l ws k), (places l ws k).map fun i => ((outs l ws).getD i default).id)

theorem before_iff (out : List It) (i j : Nat) : before out i j = true ↔ (out.getD j default).sc < (out.getD i default).sc ∨ ((out.getD i default).sc = (out.getD j default).sc ∧ i < j) := by
  simp [before]
theorem before_false (out : List It) (i j : Nat) : before out i j = false ↔ ¬ ((out.getD j default).sc < (out.getD i default).sc ∨ ((out.getD i default).sc = (out.getD j default).sc ∧ i < j)) := by
  rw [← before_iff]; simp

theorem order_perm (out : List It) : (order out).Perm (List.range out.length) := List.mergeSort_perm _ _
theorem order_len (out : List It) : (order out).length = out.length := by simpa using (order_perm out).length_eq
theorem order_nodup (out : List It) : (order out).Nodup := (order_perm out).nodup_iff.2 List.nodup_range
theorem mem_order {out : List It} {i : Nat} : i ∈ order out ↔ i < out.length := by rw [(order_perm out).mem_iff, List.mem_range]

theorem order_sorted (out : List It) : (order out).Pairwise fun i j => before out j i = false := by
  have h := List.pairwise_mergeSort (le := fun i j => !before out j i) (fun a b c h1 h2 => by
    simp only [Bool.not_eq_eq_eq_not, Bool.not_true, before_false] at *; omega) (fun a b => by
    cases h1 : before out b a
    · simp
    · cases h2 : before out a b
      · simp
      · rw [before_iff] at h1 h2; omega) (List.range out.length)
  exact h.imp (fun h => by simpa using h)

/-- In the list of those that are chosen each one comes before whatever is chosen later. -/
theorem order_before (out : List It) : (order out).Pairwise fun i j => before out i j = true := by
  have h1 := order_sorted out
  have h2 : (order out).Pairwise (· ≠ ·) := order_nodup out
  refine (h1.and h2).imp ?_
  rintro i j ⟨h, hne⟩
  rw [before_iff]; rw [before_false] at h; omega

/-- Whoever comes before one that is sent is sent. -/
theorem take_before {out : List It} {k i j : Nat} (hi : i < out.length) (hj : j ∈ (order out).take k) (h : before out i j = true) : i ∈ (order out).take k := by
  have hs := order_before out
  have hm : i ∈ order out := mem_order.2 hi
  rw [← List.take_append_drop k (order out)] at hs hm
  rcases List.mem_append.1 hm with h1 | h1
  · exact h1
  · have := (List.pairwise_append.1 hs).2.2 j hj i h1
    rw [before_iff] at this h; omega

theorem take_len (out : List It) (k : Nat) : ((order out).take k).length = min k out.length := by rw [List.length_take, order_len]

theorem outs_len (l : List It) (ws : List (Int × Int)) : (outs l ws).length = ws.length := by simp [outs]
theorem zeroAt_len (out : List It) (p : List Nat) : (zeroAt out p).length = out.length := by simp [zeroAt]
theorem stepM_len (l : List It) (ws : List (Int × Int)) (k : Nat) : (stepM l ws k).1.length = ws.length := by simp [stepM, zeroAt_len, outs_len]
theorem sent_len (l : List It) (ws : List (Int × Int)) (k : Nat) : (stepM l ws k).2.length = min k ws.length := by
  simp [stepM, places, order_len, outs_len]

theorem zeroAt_get (out : List It) (p : List Nat) (i : Nat) : (zeroAt out p)[i]? = out[i]?.map fun x => if i ∈ p then { x with sc := 0 } else x := by
  simp [zeroAt]

theorem gitm_sc {l : List It} {w : Int × Int} : (gitm l w).sc = min (scoreOf l w.1 + w.2) topScore := rfl

/-- A list of wants that is valid. -/
def RightP (ws : List (Int × Int)) : Prop := ws.length ≤ 64 ∧ (∀ x ∈ ws, 0 ≤ x.1 ∧ x.1 ≤ 65536 ∧ 1 ≤ x.2 ∧ x.2 ≤ 16) ∧ ws.Pairwise fun a b => a.1 < b.1
def ValidP (l : List It) : Prop := RightP (l.map fun x => (x.id, x.wt)) ∧ ∀ x ∈ l, 0 ≤ x.sc ∧ x.sc ≤ topScore

theorem scoreOf_nil (id : Int) : scoreOf [] id = 0 := rfl
theorem scoreOf_cons (x : It) (l : List It) (id : Int) : scoreOf (x :: l) id = if x.id = id then x.sc else scoreOf l id := rfl

theorem scoreOf_bd {l : List It} (h : ∀ x ∈ l, 0 ≤ x.sc ∧ x.sc ≤ topScore) (id : Int) : 0 ≤ scoreOf l id ∧ scoreOf l id ≤ topScore := by
  induction l with
  | nil => exact ⟨by simp [scoreOf], by simp [scoreOf, topScore]⟩
  | cons a l ih =>
    rw [scoreOf_cons]
    split
    · exact h a (by simp)
    · exact ih fun x hx => h x (by simp [hx])

theorem scoreOf_mem {l : List It} (hp : l.Pairwise fun a b => a.id < b.id) {x : It} (hx : x ∈ l) : scoreOf l x.id = x.sc := by
  induction l with
  | nil => cases hx
  | cons a l ih =>
    rw [scoreOf_cons]
    rw [List.pairwise_cons] at hp
    rcases List.mem_cons.1 hx with rfl | h
    · simp
    · rw [if_neg (by have := hp.1 x h; omega)]
      exact ih hp.2 h

theorem scoreOf_none {l : List It} {id : Int} (h : ∀ x ∈ l, x.id ≠ id) : scoreOf l id = 0 := by
  induction l with
  | nil => rfl
  | cons a l ih => rw [scoreOf_cons, if_neg (h a (by simp))]; exact ih fun x hx => h x (by simp [hx])

theorem outs_bd {l : List It} {ws : List (Int × Int)} (hl : ∀ x ∈ l, 0 ≤ x.sc ∧ x.sc ≤ topScore) (hw : RightP ws) : ∀ x ∈ outs l ws, 0 ≤ x.sc ∧ x.sc ≤ topScore := by
  intro x hx
  obtain ⟨y, hy, rfl⟩ := List.mem_map.1 hx
  have := scoreOf_bd hl y.1
  have := hw.2.1 y hy
  rw [gitm_sc]; unfold topScore at *; omega

theorem stepM_bd {l : List It} {ws : List (Int × Int)} (hl : ∀ x ∈ l, 0 ≤ x.sc ∧ x.sc ≤ topScore) (hw : RightP ws) (k : Nat) : ∀ x ∈ (stepM l ws k).1, 0 ≤ x.sc ∧ x.sc ≤ topScore := by
  intro x hx
  obtain ⟨i, h1⟩ := List.mem_iff_getElem?.1 hx
  rw [show (stepM l ws k).1 = zeroAt (outs l ws) (places l ws k) from rfl, zeroAt_get] at h1
  cases h2 : (outs l ws)[i]? with
  | none => rw [h2] at h1; cases h1
  | some y =>
    rw [h2] at h1
    simp only [Option.map_some, Option.some.injEq] at h1
    rw [← h1]
    have := outs_bd hl hw y (List.mem_of_getElem? h2)
    split
    · exact ⟨Int.le_refl _, by simp [topScore]⟩
    · exact this

/-- IDs and weights behind a step are those of the wants. -/
theorem stepM_ids (l : List It) (ws : List (Int × Int)) (k : Nat) : (stepM l ws k).1.map (fun x => (x.id, x.wt)) = ws := by
  apply List.ext_getElem?
  intro i
  rw [List.getElem?_map]
  rw [show (stepM l ws k).1 = zeroAt (outs l ws) (places l ws k) from rfl, zeroAt_get, outs, List.getElem?_map]
  cases ws[i]? with
  | none => rfl
  | some y => simp only [Option.map_some]; split <;> rfl

theorem stepM_valid {l : List It} {ws : List (Int × Int)} (hl : ValidP l) (hw : RightP ws) (k : Nat) : ValidP (stepM l ws k).1 :=
  ⟨by rw [stepM_ids]; exact hw, stepM_bd hl.2 hw k⟩

theorem ids_sorted {l : List It} (h : ValidP l) : l.Pairwise fun a b => a.id < b.id := by
  have := h.1.2.2
  rw [List.pairwise_map] at this
  exact this

/-- The item of the i-th want behind a step. -/
theorem stepM_get (l : List It) (ws : List (Int × Int)) (k i : Nat) {w : Int × Int} (hi : ws[i]? = some w) : (stepM l ws k).1[i]? = some (if i ∈ places l ws k then ⟨w.1, w.2, 0⟩ else gitm l w) := by
  rw [show (stepM l ws k).1 = zeroAt (outs l ws) (places l ws k) from rfl, zeroAt_get, outs, List.getElem?_map, hi]
  simp only [Option.map_some]
  split <;> rfl

theorem score_step {l : List It} {ws : List (Int × Int)} (hl : ValidP l) (hw : RightP ws) (k i : Nat) {w : Int × Int} (hi : ws[i]? = some w) : scoreOf (stepM l ws k).1 w.1 = if i ∈ places l ws k then 0 else (gitm l w).sc := by
  have h1 := stepM_get l ws k i hi
  have hs := ids_sorted (stepM_valid hl hw k)
  have hm := List.mem_of_getElem? h1
  by_cases c : i ∈ places l ws k
  · rw [if_pos c] at h1 hm ⊢; exact scoreOf_mem hs hm
  · rw [if_neg c] at h1 hm ⊢; exact scoreOf_mem hs hm

theorem mem_places {l : List It} {ws : List (Int × Int)} {k i : Nat} (h : i ∈ places l ws k) : i < ws.length := by
  have := mem_order.1 (List.mem_of_mem_take h)
  rwa [outs_len] at this

theorem outs_getD {l : List It} {ws : List (Int × Int)} {i : Nat} {w : Int × Int} (hi : ws[i]? = some w) : (outs l ws).getD i default = gitm l w := by
  rw [List.getD_eq_getElem?_getD, outs, List.getElem?_map, hi]; rfl

theorem places_before {l : List It} {ws : List (Int × Int)} {k i j : Nat} {w v : Int × Int} (hi : ws[i]? = some w) (hj : ws[j]? = some v) (hp : j ∈ places l ws k) (h : (gitm l v).sc < (gitm l w).sc ∨ ((gitm l w).sc = (gitm l v).sc ∧ i < j)) : i ∈ places l ws k := by
  refine take_before (out := outs l ws) (j := j) ?_ hp ?_
  · rw [outs_len]; exact (List.getElem?_eq_some_iff.1 hi).1
  · rw [before_iff, outs_getD hi, outs_getD hj]; exact h

theorem places_nodup (l : List It) (ws : List (Int × Int)) (k : Nat) : (places l ws k).Nodup := (order_nodup _).sublist (List.take_sublist _ _)
theorem places_len (l : List It) (ws : List (Int × Int)) (k : Nat) : (places l ws k).length = min k ws.length := by rw [places, take_len, outs_len]
end Go.Proofs.YtkiknbjokknemaaGreat
