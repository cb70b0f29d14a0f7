/-
  THE PLAIN MODEL of rating's teams and tickets. No program in sight.
-/
import Derived.Test.YtkceefheeicmbaaRatD
namespace Go.Proofs.Ytkceefheeicmbaa

/-! teams -/
def sumM (l : List Int) : Int := l.foldl (fun a x => a + x) 0
theorem sumM_snoc {l : List Int} {i : Nat} {x : Int} (h : l[i]? = some x) : sumM (l.take (i + 1)) = sumM (l.take i) + x := by
  rw [List.take_add_one, h]; simp [sumM, List.foldl_append]
def teamOk (xs ys : List Int) (s k : Int) : Bool := decide (xs.length = ys.length) && decide (1 ≤ xs.length) && decide (xs.length ≤ 8) && xs.all inR && ys.all inR && isSc s && isWt k
def teamX (xs ys : List Int) : Int := expM (Int.tdiv (sumM xs - sumM ys) xs.length)
def gainsM (xs ys : List Int) (s k : Int) : List Int := List.zipWith (fun a b => exchM a b s (teamX xs ys) k) xs ys
def matchX (xs ys : List Int) (s k : Int) : List Int := List.zipWith (fun a g => a + g) xs (gainsM xs ys s k)
def matchY (xs ys : List Int) (s k : Int) : List Int := List.zipWith (fun a g => a - g) ys (gainsM xs ys s k)
theorem sum_bd {l : List Int} (h : l.all inR = true) : 0 ≤ sumM l ∧ sumM l ≤ 4000 * l.length := by
  have key : ∀ (l : List Int) (a : Int), l.all inR = true → a ≤ l.foldl (fun a x => a + x) a ∧ l.foldl (fun a x => a + x) a ≤ a + 4000 * l.length := by
    intro l
    induction l with
    | nil => intro a _; simp
    | cons x l ih =>
      intro a h
      rw [List.all_cons, Bool.and_eq_true] at h
      have hx := inR_iff.1 h.1
      have := ih (a + x) h.2
      rw [List.foldl_cons, List.length_cons]
      omega
  have := key l 0 h
  unfold sumM
  omega
theorem len_gains (xs ys : List Int) (s k : Int) (h : xs.length = ys.length) : (gainsM xs ys s k).length = xs.length := by simp [gainsM]; omega
theorem gains_get {xs ys : List Int} {i : Nat} {a b : Int} (s k : Int) (h1 : xs[i]? = some a) (h2 : ys[i]? = some b) : (gainsM xs ys s k)[i]? = some (exchM a b s (teamX xs ys) k) := by
  unfold gainsM; rw [List.getElem?_zipWith, h1, h2]

/-! tickets -/
structure Tk where
  id : Int
  rt : Int
  si : Int
structure Key where
  d : Int
  s : Int
  a : Int
  b : Int
instance : Inhabited Tk := ⟨⟨0, 0, 0⟩⟩
instance : Inhabited Key := ⟨⟨0, 0, 0, 0⟩⟩
theorem Key.ext' {x y : Key} (h1 : x.d = y.d) (h2 : x.s = y.s) (h3 : x.a = y.a) (h4 : x.b = y.b) : x = y := by
  cases x; cases y; simp only at h1 h2 h3 h4; subst h1 h2 h3 h4; rfl

def ltK (x y : Key) : Bool := decide (x.d < y.d) || (decide (x.d = y.d) && (decide (x.s < y.s) || (decide (x.s = y.s) && (decide (x.a < y.a) || (decide (x.a = y.a) && decide (x.b < y.b))))))
theorem ltK_iff {x y : Key} : ltK x y = true ↔ x.d < y.d ∨ (x.d = y.d ∧ (x.s < y.s ∨ (x.s = y.s ∧ (x.a < y.a ∨ (x.a = y.a ∧ x.b < y.b))))) := by
  unfold ltK; simp only [Bool.or_eq_true, Bool.and_eq_true, decide_eq_true_eq]
theorem ltK_false {x y : Key} : ltK x y = false ↔ ¬ (x.d < y.d ∨ (x.d = y.d ∧ (x.s < y.s ∨ (x.s = y.s ∧ (x.a < y.a ∨ (x.a = y.a ∧ x.b < y.b)))))) := by
  rw [← ltK_iff]; simp
theorem ltK_tot {x y : Key} (h1 : ltK x y = false) (h2 : ltK y x = false) : x = y := by
  rw [ltK_false] at h1 h2
  exact Key.ext' (by omega) (by omega) (by omega) (by omega)

def diffT (x y : Tk) : Int := max (x.rt - y.rt) (y.rt - x.rt)
def keyT (x y : Tk) : Key := ⟨diffT x y, x.si + y.si, min x.id y.id, max x.id y.id⟩
def mayT (t : Int) (x y : Tk) : Bool := decide (diffT x y ≤ min (winM x.si t) (winM y.si t))
def mtgOf (t : Int) (x : Tk) (l : List Tk) : List Key := (l.filter (mayT t x)).map (keyT x)
def mtgs (t : Int) : List Tk → List Key
  | [] => []
  | x :: l => mtgOf t x l ++ mtgs t l
def mtgsTo (t : Int) (l : List Tk) : Nat → List Key
  | 0 => []
  | i + 1 => mtgsTo t l i ++ mtgOf t (l.getD i default) (l.drop (i + 1))
theorem mtgsTo_cons (t : Int) (x : Tk) (l : List Tk) : ∀ i, mtgsTo t (x :: l) (i + 1) = mtgOf t x l ++ mtgsTo t l i
  | 0 => by simp [mtgsTo]
  | i + 1 => by
    rw [mtgsTo, mtgsTo_cons t x l i, mtgsTo, List.append_assoc]
    simp
theorem mtgsTo_all (t : Int) (l : List Tk) : mtgsTo t l l.length = mtgs t l := by
  induction l with
  | nil => rfl
  | cons x l ih => rw [List.length_cons, mtgsTo_cons, ih]; rfl
theorem mtgOf_snoc (t : Int) (x : Tk) (l : List Tk) (j : Nat) (y : Tk) (h : l[j]? = some y) : mtgOf t x (l.take (j + 1)) = if mayT t x y = true then mtgOf t x (l.take j) ++ [keyT x y] else mtgOf t x (l.take j) := by
  unfold mtgOf
  rw [List.take_add_one, h, List.filter_append, List.map_append]
  cases hm : mayT t x y <;> simp [hm]
theorem mtgOf_len (t : Int) (x : Tk) (l : List Tk) : (mtgOf t x l).length ≤ l.length := by
  unfold mtgOf; rw [List.length_map]; exact List.length_filter_le _ _
theorem mtgsTo_len (t : Int) (l : List Tk) : ∀ i, (mtgsTo t l i).length ≤ i * l.length
  | 0 => by simp [mtgsTo]
  | i + 1 => by
    have h1 := mtgsTo_len t l i
    have h2 := mtgOf_len t (l.getD i default) (l.drop (i + 1))
    rw [List.length_drop] at h2
    rw [mtgsTo, List.length_append, Nat.succ_mul]
    omega

def greedy : List Int → List Key → List (Int × Int)
  | _, [] => []
  | t, m :: r => if m.a ∈ t ∨ m.b ∈ t then greedy t r else (m.a, m.b) :: greedy (m.a :: m.b :: t) r
def sortK (l : List Key) : List Key := l.mergeSort fun x y => !ltK y x
def pairsM (l : List Tk) (t : Int) : List (Int × Int) := greedy [] (sortK (mtgs t l))
def okT (x : Tk) : Bool := decide (1 ≤ x.id) && decide (x.id ≤ 65536) && inR x.rt && decide (0 ≤ x.si) && decide (x.si ≤ 1073741824)
/-- All tickets are right, and no ID stands twice: in the order in which the program asks. -/
def okTo (l : List Tk) : Nat → Bool
  | 0 => true
  | i + 1 => okTo l i && okT (l.getD i default) && !((l.take i).any fun u => u.id == (l.getD i default).id)
def pairsOk (l : List Tk) (t : Int) : Bool := decide (l.length ≤ 64) && decide (0 ≤ t) && decide (t ≤ 1073741824) && okTo l l.length

/-! the sort, by hand -/
def insK (x : Key) : List Key → List Key
  | [] => [x]
  | y :: l => if ltK y x = true then y :: insK x l else x :: y :: l
def isortK : List Key → List Key
  | [] => []
  | x :: l => insK x (isortK l)
theorem insK_perm (x : Key) (l : List Key) : (insK x l).Perm (x :: l) := by
  induction l with
  | nil => exact List.Perm.refl _
  | cons y l ih =>
    unfold insK
    split
    · exact (List.Perm.cons y ih).trans (List.Perm.swap x y l)
    · exact List.Perm.refl _
theorem isortK_perm (l : List Key) : (isortK l).Perm l := by
  induction l with
  | nil => exact List.Perm.refl _
  | cons x l ih => exact (insK_perm x _).trans (ih.cons x)
def leK (x y : Key) : Prop := ltK y x = false
theorem leK_trans {x y z : Key} (h1 : leK x y) (h2 : leK y z) : leK x z := by
  unfold leK at *; rw [ltK_false] at *; omega
theorem leK_of_lt {x y : Key} (h : ltK x y = true) : leK x y := by unfold leK; rw [ltK_false]; rw [ltK_iff] at h; omega
theorem insK_sorted (x : Key) (l : List Key) (h : l.Pairwise leK) : (insK x l).Pairwise leK := by
  induction l with
  | nil => simp [insK]
  | cons y l ih =>
    rw [List.pairwise_cons] at h
    unfold insK
    split
    · rename_i hlt
      rw [List.pairwise_cons]
      refine ⟨fun z hz => ?_, ih h.2⟩
      rcases List.mem_cons.1 ((insK_perm x l).mem_iff.1 hz) with rfl | hz
      · exact leK_of_lt hlt
      · exact h.1 z hz
    · rename_i hlt
      have hxy : leK x y := by unfold leK; simpa using hlt
      rw [List.pairwise_cons]
      refine ⟨fun z hz => ?_, List.pairwise_cons.2 h⟩
      rcases List.mem_cons.1 hz with rfl | hz
      · exact hxy
      · exact leK_trans hxy (h.1 z hz)
theorem isortK_sorted (l : List Key) : (isortK l).Pairwise leK := by
  induction l with
  | nil => exact List.Pairwise.nil
  | cons x l ih => exact insK_sorted x _ ih
theorem sorted_unique {l m : List Key} (hp : l.Perm m) (hl : l.Pairwise leK) (hm : m.Pairwise leK) : l = m :=
  hp.eq_of_pairwise (le := leK) (fun _ _ _ _ h1 h2 => ltK_tot h2 h1) hl hm
theorem sortK_perm (l : List Key) : (sortK l).Perm l := List.mergeSort_perm _ _
theorem sortK_sorted (l : List Key) : (sortK l).Pairwise leK := by
  have h := List.pairwise_mergeSort (le := fun x y => !ltK y x) (fun a b c h1 h2 => by
    simp only [Bool.not_eq_true'] at *; exact leK_trans h1 h2) (fun a b => by
    simp only [Bool.or_eq_true, Bool.not_eq_true']
    cases h : ltK b a
    · exact .inl rfl
    · exact .inr (leK_of_lt h)) l
  exact h.imp fun h => by simpa [leK] using h
theorem sortK_eq (l : List Key) : sortK l = isortK l :=
  sorted_unique ((sortK_perm l).trans (isortK_perm l).symm) (sortK_sorted l) (isortK_sorted l)
theorem sortK_of_perm {l m : List Key} (h : l.Perm m) : sortK l = sortK m :=
  sorted_unique ((sortK_perm l).trans (h.trans (sortK_perm m).symm)) (sortK_sorted l) (sortK_sorted m)
end Go.Proofs.Ytkceefheeicmbaa
