/-
  THE PLAIN MODEL of rating's players and games, and the laws of Play. No program in sight.
-/
import Derived.Test.YtkceefheeicmbaaRatA
import Derived.Test.YtkceefheeicmbaaBase
namespace Go.Proofs.Ytkceefheeicmbaa

structure Pl where
  id : Int
  rt : Int
deriving DecidableEq
structure Gm where
  a : Int
  b : Int
  s : Int
instance : Inhabited Pl := ⟨⟨0, 0⟩⟩
instance : Inhabited Gm := ⟨⟨0, 0, 0⟩⟩

def okP (x : Pl) : Bool := inR x.rt && decide (1 ≤ x.id) && decide (x.id ≤ 65536)
/-- The first players are right, in the order in which the program asks. -/
def okPs (l : List Pl) : Nat → Bool
  | 0 => true
  | i + 1 => okPs l i && okP (l.getD i default) && (decide (i = 0) || decide ((l.getD (i - 1) default).id < (l.getD i default).id))
def playOk (l : List Pl) (m : Nat) (k : Int) : Bool := decide (l.length ≤ 200) && decide (m ≤ 1000) && isWt k && okPs l l.length

/-- Where an ID stands. -/
def findP (l : List Pl) (id : Int) : Option Nat := l.findIdx? fun x => x.id == id
def gainG (x y : Pl) (s k : Int) : Int := exchM x.rt y.rt s (expM (x.rt - y.rt)) k
/-- Two players after a game. -/
def putG (l : List Pl) (i j : Nat) (x y : Pl) (n : Int) : List Pl := (l.set i ⟨x.id, x.rt + n⟩).set j ⟨y.id, y.rt - n⟩
def stepG (k : Int) (l : List Pl) (g : Gm) : Option (List Pl) :=
  match findP l g.a, findP l g.b with
  | some i, some j => if i ≠ j ∧ isSc g.s = true then some (putG l i j (l.getD i default) (l.getD j default) (gainG (l.getD i default) (l.getD j default) g.s k)) else none
  | _, _ => none
def runG (k : Int) : List Pl → List Gm → Option (List Pl)
  | l, [] => some l
  | l, g :: gs => (stepG k l g).bind fun l' => runG k l' gs
theorem runG_append (k : Int) (gs hs : List Gm) : ∀ l, runG k l (gs ++ hs) = (runG k l gs).bind fun l' => runG k l' hs := by
  induction gs with
  | nil => intro l; rfl
  | cons g gs ih =>
    intro l
    rw [List.cons_append, runG, runG]
    cases h : stepG k l g with
    | none => rfl
    | some l' => simp only [Option.bind_some]; exact ih l'
theorem runG_snoc {k : Int} {l : List Pl} {gs : List Gm} {i : Nat} {g : Gm} (h : gs[i]? = some g) : runG k l (gs.take (i + 1)) = (runG k l (gs.take i)).bind fun l' => stepG k l' g := by
  rw [List.take_add_one, h, runG_append]
  congr 1
  funext l'
  simp only [Option.toList_some, runG]
  cases stepG k l' g <;> rfl

theorem runG_none {k : Int} {l : List Pl} {gs : List Gm} {i : Nat} (h : runG k l (gs.take i) = none) : runG k l gs = none := by
  conv => lhs; rw [← List.take_append_drop i gs]
  rw [runG_append, h]; rfl
theorem runG_stop {k : Int} {l l' : List Pl} {gs : List Gm} {i : Nat} {g : Gm} (hg : gs[i]? = some g) (h : runG k l (gs.take i) = some l') (hn : stepG k l' g = none) : runG k l gs = none :=
  runG_none (i := i + 1) (by rw [runG_snoc hg, h]; exact hn)
theorem okPs_succ {l : List Pl} {i : Nat} {x : Pl} (hx : l[i]? = some x) : okPs l (i + 1) = (okPs l i && okP x && (decide (i = 0) || decide ((l.getD (i - 1) default).id < x.id))) := by
  rw [okPs, List.getD_eq_getElem?_getD (i := i), hx]; rfl
theorem okPs_mono {l : List Pl} : ∀ {n k : Nat}, okPs l n = true → k ≤ n → okPs l k = true
  | 0, k, h, hk => by obtain rfl : k = 0 := (by omega); exact h
  | n + 1, k, h, hk => by
    by_cases hkn : k = n + 1
    · rw [hkn]; exact h
    · rw [okPs, Bool.and_eq_true, Bool.and_eq_true] at h
      exact okPs_mono h.1.1 (by omega)
theorem findP_some {l : List Pl} {id : Int} {i : Nat} (h : findP l id = some i) : ∃ x, l[i]? = some x ∧ x.id = id := by
  unfold findP at h
  rw [List.findIdx?_eq_some_iff_getElem] at h
  obtain ⟨hi, h1, -⟩ := h
  exact ⟨l[i], List.getElem?_eq_getElem hi, by simpa using h1⟩
theorem findP_none {l : List Pl} {id : Int} (h : findP l id = none) : ∀ x ∈ l, x.id ≠ id := by
  unfold findP at h
  rw [List.findIdx?_eq_none_iff] at h
  intro x hx
  simpa using h x hx

/-- Sorted, and right. -/
def RightP (l : List Pl) : Prop := (∀ x ∈ l, okP x = true) ∧ l.Pairwise fun x y => x.id < y.id
theorem okPs_iff {l : List Pl} : ∀ {n : Nat}, n ≤ l.length → (okPs l n = true ↔ RightP (l.take n))
  | 0, _ => by simp [okPs, RightP]
  | n + 1, hn => by
    obtain ⟨x, hx⟩ : ∃ x, l[n]? = some x := ⟨_, List.getElem?_eq_getElem (by omega)⟩
    have ih := okPs_iff (l := l) (n := n) (by omega)
    rw [okPs, List.getD_eq_getElem?_getD, hx, Bool.and_eq_true, Bool.and_eq_true, ih, List.take_add_one, hx]
    unfold RightP
    simp only [Option.getD_some, Option.toList_some, List.mem_append, List.mem_singleton, List.pairwise_append, List.pairwise_cons, List.not_mem_nil, false_implies, implies_true, List.Pairwise.nil, and_true, true_and, Bool.or_eq_true, decide_eq_true_eq]
    constructor
    · rintro ⟨⟨⟨h1, h2⟩, h3⟩, h4⟩
      refine ⟨?_, h2, ?_⟩
      · rintro y (hy | rfl)
        · exact h1 y hy
        · exact h3
      · rintro y hy z rfl
        rcases h4 with h4 | h4
        · subst h4; simp at hy
        · obtain ⟨j, hj⟩ := List.getElem?_of_mem hy
          have hjn : j < n := by have := (List.getElem?_eq_some_iff.1 hj).1; rw [List.length_take] at this; omega
          obtain ⟨p, hp⟩ : ∃ p, l[n - 1]? = some p := ⟨_, List.getElem?_eq_getElem (by omega)⟩
          rw [List.getD_eq_getElem?_getD, hp, Option.getD_some] at h4
          by_cases e : j = n - 1
          · rw [List.getElem?_take_of_lt hjn, e, hp] at hj
            injection hj with hj; subst hj; exact h4
          · have hp' : (l.take n)[n - 1]? = some p := by rw [List.getElem?_take_of_lt (by omega), hp]
            obtain ⟨l1, e1⟩ := List.getElem?_eq_some_iff.1 hj
            obtain ⟨l2, e2⟩ := List.getElem?_eq_some_iff.1 hp'
            have := List.pairwise_iff_getElem.1 h2 j (n - 1) l1 l2 (by omega)
            rw [e1, e2] at this
            omega
    · rintro ⟨h1, h2, h3⟩
      refine ⟨⟨⟨fun y hy => h1 y (.inl hy), h2⟩, h1 x (.inr rfl)⟩, ?_⟩
      by_cases h0 : n = 0
      · exact .inl h0
      · right
        obtain ⟨p, hp⟩ : ∃ p, l[n - 1]? = some p := ⟨_, List.getElem?_eq_getElem (by omega)⟩
        rw [List.getD_eq_getElem?_getD, hp, Option.getD_some]
        exact h3 p (List.mem_of_getElem? (i := n - 1) (by rw [List.getElem?_take_of_lt (by omega), hp])) x rfl
theorem okPs_all {l : List Pl} : okPs l l.length = true ↔ RightP l := by rw [okPs_iff (Nat.le_refl _), List.take_length]
theorem playOk_iff {l : List Pl} {m : Nat} {k : Int} : playOk l m k = true ↔ l.length ≤ 200 ∧ m ≤ 1000 ∧ isWt k = true ∧ RightP l := by
  unfold playOk
  rw [Bool.and_eq_true, Bool.and_eq_true, Bool.and_eq_true, decide_eq_true_eq, decide_eq_true_eq, okPs_all, and_assoc, and_assoc]
theorem okP_iff {x : Pl} : okP x = true ↔ 0 ≤ x.rt ∧ x.rt ≤ 4000 ∧ 1 ≤ x.id ∧ x.id ≤ 65536 := by
  unfold okP; rw [Bool.and_eq_true, Bool.and_eq_true, inR_iff, decide_eq_true_eq, decide_eq_true_eq, and_assoc, and_assoc]

/-! one game -/
theorem putG_ids {l : List Pl} {i j : Nat} {x y : Pl} {n : Int} (hx : l[i]? = some x) (hy : l[j]? = some y) : (putG l i j x y n).map Pl.id = l.map Pl.id := by
  unfold putG
  rw [List.map_set, List.map_set]
  have e1 : (l.map Pl.id)[i]? = some x.id := by rw [List.getElem?_map, hx]; rfl
  have e2 : (l.map Pl.id)[j]? = some y.id := by rw [List.getElem?_map, hy]; rfl
  obtain ⟨a1, b1⟩ := List.getElem?_eq_some_iff.1 e1
  obtain ⟨a2, b2⟩ := List.getElem?_eq_some_iff.1 e2
  have s1 : (l.map Pl.id).set i x.id = l.map Pl.id := by rw [← b1, List.set_getElem_self]
  have s2 : (l.map Pl.id).set j y.id = l.map Pl.id := by rw [← b2, List.set_getElem_self]
  rw [s1, s2]
theorem putG_len (l : List Pl) (i j : Nat) (x y : Pl) (n : Int) : (putG l i j x y n).length = l.length := by simp [putG]
theorem putG_get {l : List Pl} {i j : Nat} {x y : Pl} {n : Int} (hij : i ≠ j) (hx : l[i]? = some x) (hy : l[j]? = some y) (m : Nat) :
    (putG l i j x y n)[m]? = if m = i then some ⟨x.id, x.rt + n⟩ else if m = j then some ⟨y.id, y.rt - n⟩ else l[m]? := by
  have hi := (List.getElem?_eq_some_iff.1 hx).1
  have hj := (List.getElem?_eq_some_iff.1 hy).1
  unfold putG
  rw [List.getElem?_set, List.getElem?_set]
  by_cases e1 : j = m
  · subst e1
    rw [if_pos rfl, if_pos (by rw [List.length_set]; exact hj), if_neg (Ne.symm hij), if_pos rfl]
  · rw [if_neg e1]
    by_cases e2 : i = m
    · subst e2; rw [if_pos rfl, if_pos hi, if_pos rfl]
    · rw [if_neg e2, if_neg (Ne.symm e2), if_neg (Ne.symm e1)]

def sumP (l : List Pl) : Int := l.foldl (fun n x => n + x.rt) 0
theorem sum_from (l : List Pl) : ∀ a : Int, l.foldl (fun n x => n + x.rt) a = a + sumP l := by
  induction l with
  | nil => intro a; simp [sumP]
  | cons x l ih =>
    intro a
    have e : sumP (x :: l) = 0 + x.rt + sumP l := by unfold sumP; rw [List.foldl_cons]; exact ih (0 + x.rt)
    rw [List.foldl_cons, ih, e]
    omega
theorem sumP_cons (x : Pl) (l : List Pl) : sumP (x :: l) = x.rt + sumP l := by
  have e : sumP (x :: l) = 0 + x.rt + sumP l := by unfold sumP; rw [List.foldl_cons]; exact sum_from l (0 + x.rt)
  omega
theorem sumP_set {l : List Pl} : ∀ {i : Nat} {x y : Pl}, l[i]? = some x → sumP (l.set i y) = sumP l - x.rt + y.rt := by
  induction l with
  | nil => intro i x y h; simp at h
  | cons z l ih =>
    intro i x y h
    cases i with
    | zero =>
      rw [List.getElem?_cons_zero] at h; injection h with h; subst h
      rw [List.set_cons_zero, sumP_cons, sumP_cons]; omega
    | succ i =>
      rw [List.getElem?_cons_succ] at h
      rw [List.set_cons_succ, sumP_cons, sumP_cons, ih h]; omega
theorem sumP_put {l : List Pl} {i j : Nat} {x y : Pl} {n : Int} (hij : i ≠ j) (hx : l[i]? = some x) (hy : l[j]? = some y) : sumP (putG l i j x y n) = sumP l := by
  unfold putG
  rw [sumP_set (x := y) (by rw [List.getElem?_set_ne hij]; exact hy), sumP_set hx]
  simp only
  omega
theorem sumP_snoc {l : List Pl} {i : Nat} {x : Pl} (h : l[i]? = some x) : sumP (l.take (i + 1)) = sumP (l.take i) + x.rt := by
  rw [List.take_add_one, h]; unfold sumP; simp [List.foldl_append]

/-- What one game leaves. -/
structure Kept (l l' : List Pl) : Prop where
  len : l'.length = l.length
  ids : l'.map Pl.id = l.map Pl.id
  sum : sumP l' = sumP l
  inr : (∀ x ∈ l, inR x.rt = true) → ∀ x ∈ l', inR x.rt = true
theorem Kept.refl (l : List Pl) : Kept l l := ⟨rfl, rfl, rfl, fun h => h⟩
theorem Kept.trans {l m r : List Pl} (h : Kept l m) (k : Kept m r) : Kept l r := ⟨k.len.trans h.len, k.ids.trans h.ids, k.sum.trans h.sum, fun hl => k.inr (h.inr hl)⟩
theorem Kept.right {l l' : List Pl} (h : Kept l l') (hl : RightP l) : RightP l' := by
  have hid : ∀ (i : Nat) y, l'[i]? = some y → ∃ x, l[i]? = some x ∧ x.id = y.id := fun i y hy => by
    have e := congrArg (fun z => z[i]?) h.ids
    simp only [List.getElem?_map, hy, Option.map_some] at e
    cases hx : l[i]? with
    | none => rw [hx] at e; simp at e
    | some x => rw [hx] at e; simp only [Option.map_some, Option.some.injEq] at e; exact ⟨x, rfl, e.symm⟩
  refine ⟨fun y hy => ?_, ?_⟩
  · have h1 := h.inr (fun x hx => by have := okP_iff.1 (hl.1 x hx); rw [inR_iff]; omega) y hy
    obtain ⟨i, hi⟩ := List.getElem?_of_mem hy
    obtain ⟨x, hx, e⟩ := hid i y hi
    have h2 := okP_iff.1 (hl.1 x (List.mem_of_getElem? hx))
    rw [inR_iff] at h1
    rw [okP_iff]; omega
  · rw [List.pairwise_iff_getElem]
    intro i j hi hj hij
    obtain ⟨x, hx, ex⟩ := hid i _ (List.getElem?_eq_getElem hi)
    obtain ⟨y, hy, ey⟩ := hid j _ (List.getElem?_eq_getElem hj)
    obtain ⟨l1, e1⟩ := List.getElem?_eq_some_iff.1 hx
    obtain ⟨l2, e2⟩ := List.getElem?_eq_some_iff.1 hy
    have := List.pairwise_iff_getElem.1 hl.2 i j l1 l2 hij
    rw [e1, e2] at this
    omega
theorem gainG_fair {x y : Pl} {s k : Int} (hx : inR x.rt = true) (hy : inR y.rt = true) (hs : isSc s = true) (hk : isWt k = true) :
    0 ≤ x.rt + gainG x y s k ∧ x.rt + gainG x y s k ≤ 4000 ∧ 0 ≤ y.rt - gainG x y s k ∧ y.rt - gainG x y s k ≤ 4000 ∧ -64 ≤ gainG x y s k ∧ gainG x y s k ≤ 64 := by
  have hk' := isWt_iff.1 hk
  obtain ⟨-, h1, h2, h3, h4, h5, h6⟩ := exch_fair (inR_iff.1 hx) (inR_iff.1 hy) hk' (isSc_iff.1 hs) (expM_bd (x.rt - y.rt))
  unfold gainG
  exact ⟨h1, h2, h3, h4, by omega, by omega⟩
theorem stepG_some {k : Int} {l l' : List Pl} {g : Gm} (h : stepG k l g = some l') :
    ∃ i j x y, findP l g.a = some i ∧ findP l g.b = some j ∧ l[i]? = some x ∧ l[j]? = some y ∧ x.id = g.a ∧ y.id = g.b ∧ i ≠ j ∧ isSc g.s = true ∧ l' = putG l i j x y (gainG x y g.s k) := by
  unfold stepG at h
  cases h1 : findP l g.a with
  | none => rw [h1] at h; simp at h
  | some i =>
    cases h2 : findP l g.b with
    | none => rw [h1, h2] at h; simp at h
    | some j =>
      rw [h1, h2] at h
      simp only at h
      by_cases hc : i ≠ j ∧ isSc g.s = true
      · rw [if_pos hc] at h
        injection h with h
        obtain ⟨x, hx, ex⟩ := findP_some h1
        obtain ⟨y, hy, ey⟩ := findP_some h2
        rw [List.getD_eq_getElem?_getD, List.getD_eq_getElem?_getD, hx, hy, Option.getD_some, Option.getD_some] at h
        exact ⟨i, j, x, y, rfl, rfl, hx, hy, ex, ey, hc.1, hc.2, h.symm⟩
      · rw [if_neg hc] at h; simp at h
theorem stepG_of {k : Int} {l : List Pl} {g : Gm} {i j : Nat} {x y : Pl} (h1 : findP l g.a = some i) (h2 : findP l g.b = some j) (hx : l[i]? = some x) (hy : l[j]? = some y) (hij : i ≠ j) (hs : isSc g.s = true) :
    stepG k l g = some (putG l i j x y (gainG x y g.s k)) := by
  unfold stepG
  rw [h1, h2]
  simp only
  rw [if_pos ⟨hij, hs⟩, List.getD_eq_getElem?_getD, List.getD_eq_getElem?_getD, hx, hy, Option.getD_some, Option.getD_some]
theorem stepG_kept {k : Int} {l l' : List Pl} {g : Gm} (hk : isWt k = true) (hl : ∀ x ∈ l, inR x.rt = true) (h : stepG k l g = some l') : Kept l l' := by
  obtain ⟨i, j, x, y, -, -, hx, hy, -, -, hij, hs, rfl⟩ := stepG_some h
  refine ⟨putG_len _ _ _ _ _ _, putG_ids hx hy, sumP_put hij hx hy, fun _ z hz => ?_⟩
  obtain ⟨m, hm⟩ := List.getElem?_of_mem hz
  obtain ⟨f1, f2, f3, f4, -, -⟩ := gainG_fair (hl x (List.mem_of_getElem? hx)) (hl y (List.mem_of_getElem? hy)) hs hk
  rw [putG_get hij hx hy] at hm
  split at hm
  · injection hm with hm; subst hm; rw [inR_iff]; exact ⟨f1, f2⟩
  · split at hm
    · injection hm with hm; subst hm; rw [inR_iff]; exact ⟨f3, f4⟩
    · exact hl z (List.mem_of_getElem? hm)
theorem runG_kept {k : Int} (hk : isWt k = true) (gs : List Gm) : ∀ {l l' : List Pl}, (∀ x ∈ l, inR x.rt = true) → runG k l gs = some l' → Kept l l' := by
  induction gs with
  | nil => intro l l' _ h; injection h with h; subst h; exact Kept.refl _
  | cons g gs ih =>
    intro l l' hl h
    rw [runG] at h
    cases h1 : stepG k l g with
    | none => rw [h1] at h; simp at h
    | some m =>
      rw [h1, Option.bind_some] at h
      have k1 := stepG_kept hk hl h1
      exact k1.trans (ih (k1.inr hl) h)
/-- Who does not play keeps the rating. -/
theorem runG_idle {k : Int} (gs : List Gm) : ∀ {l l' : List Pl}, runG k l gs = some l' → ∀ {m : Nat} {x : Pl}, l[m]? = some x → (∀ g ∈ gs, g.a ≠ x.id ∧ g.b ≠ x.id) → l'[m]? = some x := by
  induction gs with
  | nil => intro l l' h m x hx _; injection h with h; subst h; exact hx
  | cons g gs ih =>
    intro l l' h m x hx hg
    rw [runG] at h
    cases h1 : stepG k l g with
    | none => rw [h1] at h; simp at h
    | some q =>
      rw [h1, Option.bind_some] at h
      refine ih h ?_ (fun g' h' => hg g' (List.mem_cons_of_mem _ h'))
      obtain ⟨i, j, y, z, -, -, hy, hz, ey, ez, hij, hs, rfl⟩ := stepG_some h1
      have hne := hg g (by simp)
      rw [putG_get hij hy hz]
      by_cases e1 : m = i
      · subst e1; rw [hx] at hy; injection hy with hy; subst hy; exact absurd ey.symm hne.1
      · rw [if_neg e1]
        by_cases e2 : m = j
        · subst e2; rw [hx] at hz; injection hz with hz; subst hz; exact absurd ez.symm hne.2
        · rw [if_neg e2]; exact hx
theorem Kept.id_at {l l' : List Pl} (h : Kept l l') {i : Nat} {x : Pl} (hx : l[i]? = some x) : ∃ y, l'[i]? = some y ∧ y.id = x.id := by
  have e := congrArg (fun z => z[i]?) h.ids
  simp only [List.getElem?_map, hx, Option.map_some] at e
  cases hy : l'[i]? with
  | none => rw [hy] at e; simp at e
  | some y => rw [hy] at e; simp only [Option.map_some, Option.some.injEq] at e; exact ⟨y, rfl, e⟩

abbrev pls (l : List Pl) : List Value := l.flatMap fun x => [.int .i64 x.id, .int .i64 x.rt]
abbrev gms (l : List Gm) : List Value := l.flatMap fun x => [.int .i64 x.a, .int .i64 x.b, .int .i64 x.s]

theorem pls_set (l : List Pl) : ∀ (i : Nat) (x : Pl) (v : Int), l[i]? = some x → (pls l).set (i * 2 + 1) (.int .i64 v) = pls (l.set i ⟨x.id, v⟩) := by
  induction l with
  | nil => intro i x v h; simp at h
  | cons y l ih =>
    intro i x v h
    cases i with
    | zero => simp at h; subst h; rfl
    | succ i =>
      have e := ih i x v (by simpa using h)
      rw [List.set_cons_succ, pls, List.flatMap_cons, List.set_append_right _ _ (by simp; omega)]
      simp only [List.length_cons, List.length_nil]
      rw [show (i + 1) * 2 + 1 - (0 + 1 + 1) = i * 2 + 1 by omega]
      rw [show (List.flatMap (fun x => [Value.int .i64 x.id, Value.int .i64 x.rt]) l).set (i * 2 + 1) (.int .i64 v) = pls (l.set i ⟨x.id, v⟩) from e]
      rfl

/-! the search -/
/-- Where an ID would stand in a sorted list. -/
def posP (l : List Pl) (id : Int) : Nat := (l.takeWhile fun x => decide (x.id < id)).length
theorem find_at {l : List Pl} (hs : l.Pairwise fun x y => x.id < y.id) {i : Nat} {x : Pl} (hx : l[i]? = some x) : findP l x.id = some i := by
  unfold findP
  obtain ⟨hi, e⟩ := List.getElem?_eq_some_iff.1 hx
  rw [List.findIdx?_eq_some_iff_getElem]
  refine ⟨hi, by rw [e]; simp, fun j hj => ?_⟩
  have := List.pairwise_iff_getElem.1 hs j i (by omega) hi hj
  rw [e] at this
  simp only [beq_iff_eq]
  omega
/-- What a binary search comes to: i is the first index whose ID is not less. -/
theorem find_bin {l : List Pl} (hs : l.Pairwise fun x y => x.id < y.id) {id : Int} {i : Nat} (hlt : ∀ j x, j < i → l[j]? = some x → x.id < id) (hge : ∀ j x, i ≤ j → l[j]? = some x → id ≤ x.id) :
    findP l id = match l[i]? with | some x => if x.id = id then some i else none | none => none := by
  cases hx : l[i]? with
  | none =>
    simp only
    unfold findP
    rw [List.findIdx?_eq_none_iff]
    intro y hy
    obtain ⟨j, hj⟩ := List.getElem?_of_mem hy
    have hjl := (List.getElem?_eq_some_iff.1 hj).1
    have hil : l.length ≤ i := by simpa using hx
    have := hlt j y (by omega) hj
    simp only [beq_eq_false_iff_ne]; omega
  | some x =>
    simp only
    by_cases e : x.id = id
    · rw [if_pos e, ← e]; exact find_at hs hx
    · rw [if_neg e]
      unfold findP
      rw [List.findIdx?_eq_none_iff]
      intro y hy
      obtain ⟨j, hj⟩ := List.getElem?_of_mem hy
      obtain ⟨hjl, ej⟩ := List.getElem?_eq_some_iff.1 hj
      obtain ⟨hil, ei⟩ := List.getElem?_eq_some_iff.1 hx
      have hg := hge i x (Nat.le_refl _) hx
      simp only [beq_eq_false_iff_ne]
      by_cases h1 : j < i
      · have := hlt j y h1 hj; omega
      · by_cases h2 : j = i
        · subst h2; rw [hx] at hj; injection hj with hj; subst hj; exact e
        · have := List.pairwise_iff_getElem.1 hs i j hil hjl (by omega)
          rw [ei, ej] at this; omega
end Go.Proofs.Ytkceefheeicmbaa
