/-
  PLAIN LAWS of what is wrong; contracts that tell the error alone.
-/
import Derived.Test.YtkceefheeicmbaaRatKD
import Derived.Test.YtkceefheeicmbaaRatX
namespace Go.Proofs.Ytkceefheeicmbaa
open Go.RowKit Go.Sort

theorem play_e (w : World) (A : Option Addr) (n c : Nat) (l : List Pl) (hS : Sl w (fun _ => 0) 0 2 A n c (pls l)) (G : Option Addr) (m d : Nat) (gs : List Gm) (hT : Sl w (fun _ => 0) 0 3 G m d (gms gs)) (k : Int) :
    Calls Try.prog 32 #[.slice A n c, .slice G m d, .int .i64 k] w fun e w' => ∃ A' n' c' E, e = .returned (.tuple #[.slice A' n' c', .int .i64 E]) ∧ Below w.heap.size w w' ∧ (E = 0 → playOk l gs.length k = true ∧ ∃ l', runG k l gs = some l') := by
  refine (Play_any w A n c l hS G m d gs hT k).mono ?_
  rintro e w' (⟨h, he, hb⟩ | ⟨-, h, he, hb⟩ | ⟨hok, l2, A', c', o', h, he, hst, hr⟩)
  · exact ⟨_, _, _, _, he, hb, fun h => by cases h⟩
  · exact ⟨_, _, _, _, he, hb, fun h => by cases h⟩
  · exact ⟨_, _, _, _, he, hst.to_below (by simp), fun _ => ⟨hok, l2, h⟩⟩
theorem pairs_e (w : World) (A : Option Addr) (n c : Nat) (l : List Tk) (t : Int) (hS : Sl w (fun _ => 0) 0 3 A n c (tks l)) :
    Calls Try.prog 26 #[.slice A n c, .int .i64 t] w fun e w' => ∃ A' n' c' E, e = .returned (.tuple #[.slice A' n' c', .int .i64 E]) ∧ Below w.heap.size w w' ∧ (E = 0 → pairsOk l t = true) := by
  cases h : pairsOk l t
  · refine (Pairs_bad w A n c l t hS h).mono ?_
    rintro e w' ⟨he, hb⟩
    exact ⟨_, _, _, _, he, hb, fun h => by cases h⟩
  · refine (pairs0 w A n c l t hS h _ rfl).mono ?_
    rintro e w' ⟨A', c', he, hb, -⟩
    exact ⟨_, _, _, _, he, hb, fun _ => rfl⟩

theorem bool_not {b : Bool} (h : ¬ b = true) : b = false := by cases b <;> simp_all
theorem wrong0 {x y : Pl} {l : List Pl} (h : RightP (x :: y :: l)) (m : Nat) (k : Int) : playOk (y :: x :: l) m k = false := bool_not (by
  rw [playOk_iff]
  rintro ⟨-, -, -, -, h2⟩
  have h1 := h.2
  rw [List.pairwise_cons] at h1 h2
  have a := h1.1 y (by simp); have b := h2.1 x (by simp)
  omega)
theorem wrong1 {x y : Pl} {l : List Pl} (h : RightP (x :: y :: l)) (m : Nat) (k : Int) : playOk (x :: ⟨y.id, 4001 + y.rt⟩ :: l) m k = false := bool_not (by
  rw [playOk_iff]
  rintro ⟨-, -, -, h2, -⟩
  have a := okP_iff.1 (h.1 y (by simp)); have b := okP_iff.1 (h2 ⟨y.id, 4001 + y.rt⟩ (by simp))
  simp only at b
  omega)
theorem wrong2 (k : Int) (l : List Pl) (a s : Int) (gs : List Gm) : runG k l (⟨a, a, s⟩ :: gs) = none := by
  rw [runG]
  have : stepG k l ⟨a, a, s⟩ = none := by
    unfold stepG
    simp only
    cases findP l a with
    | none => rfl
    | some i => simp
  rw [this]; rfl
theorem wrong3 {k : Int} {l l' : List Pl} {gs : List Gm} {i : Nat} {g : Gm} (hrun : runG k l gs = some l') (hi : gs.length = i + 1) : runG k l (gs.set i ⟨g.a, g.b, 100⟩) = none := by
  have hlt : i < gs.length := by omega
  have hg2 : (gs.set i ⟨g.a, g.b, 100⟩)[i]? = some ⟨g.a, g.b, 100⟩ := by rw [List.getElem?_set_self hlt]
  have htk : (gs.set i ⟨g.a, g.b, 100⟩).take i = gs.take i := by rw [List.take_set_of_le (Nat.le_refl i)]
  cases h : runG k l (gs.take i) with
  | none => rw [runG_none h] at hrun; cases hrun
  | some m =>
    refine runG_stop hg2 (by rw [htk]; exact h) ?_
    unfold stepG
    simp only
    cases findP m g.a with
    | none => rfl
    | some a =>
      cases findP m g.b with
      | none => rfl
      | some b => simp only; rw [if_neg]; rintro ⟨-, h⟩; revert h; decide
theorem wrong4 {l : List Pl} (h : RightP l) (k b s : Int) (gs : List Gm) : runG k l (⟨0, b, s⟩ :: gs) = none := by
  rw [runG]
  have : stepG k l ⟨0, b, s⟩ = none := by
    unfold stepG
    simp only
    have hf : findP l 0 = none := by
      cases hf : findP l 0 with
      | none => rfl
      | some i =>
        obtain ⟨x, hx, e⟩ := findP_some hf
        have := okP_iff.1 (h.1 x (List.mem_of_getElem? hx))
        omega
    rw [hf]
  rw [this]; rfl
theorem wrong5 (x : Tk) (l : List Tk) (t : Int) : pairsOk (x :: l ++ [x]) t = false := bool_not (by
  rw [pairsOk_iff]
  rintro ⟨-, -, -, -, h⟩
  rw [List.cons_append, List.pairwise_cons] at h
  exact h.1 x (by simp) rfl)
theorem wrong6 (x : Tk) (l : List Tk) (t : Int) : pairsOk (⟨x.id, -1, x.si⟩ :: l) t = false := bool_not (by
  rw [pairsOk_iff]
  rintro ⟨-, -, -, h, -⟩
  have := okT_iff.1 (h ⟨x.id, -1, x.si⟩ (by simp))
  simp only at this
  omega)
theorem wrong7 (x : Tk) (l : List Tk) (t : Int) : pairsOk (⟨0, x.rt, x.si⟩ :: l) t = false := bool_not (by
  rw [pairsOk_iff]
  rintro ⟨-, -, -, h, -⟩
  have := okT_iff.1 (h ⟨0, x.rt, x.si⟩ (by simp))
  simp only at this
  omega)
theorem gms_set (l : List Gm) : ∀ (i : Nat) (x : Gm) (v : Int), l[i]? = some x → (gms l).set (i * 3 + 2) (.int .i64 v) = gms (l.set i ⟨x.a, x.b, v⟩) := by
  induction l with
  | nil => intro i x v h; simp at h
  | cons y l ih =>
    intro i x v h
    cases i with
    | zero => simp at h; subst h; rfl
    | succ i =>
      have e := ih i x v (by simpa using h)
      rw [List.set_cons_succ, gms, List.flatMap_cons, List.set_append_right _ _ (by simp; omega)]
      simp only [List.length_cons, List.length_nil]
      rw [show (i + 1) * 3 + 2 - (0 + 1 + 1 + 1) = i * 3 + 2 by omega]
      rw [show (List.flatMap (fun x => [Value.int .i64 x.a, Value.int .i64 x.b, Value.int .i64 x.s]) l).set (i * 3 + 2) (.int .i64 v) = gms (l.set i ⟨x.a, x.b, v⟩) from e]
      rfl
theorem one_gms (l : List Gm) : ∀ u ∈ gms l, u.oneCell' = true := by
  intro u hu
  obtain ⟨x, -, h⟩ := List.mem_flatMap.1 hu
  simp only [List.mem_cons, List.not_mem_nil, or_false] at h
  rcases h with rfl | rfl | rfl <;> rfl
theorem list_two {α : Type} {l : List α} (h : 2 ≤ l.length) : ∃ x y r, l = x :: y :: r := by
  match l, h with
  | x :: y :: r, _ => exact ⟨x, y, r, rfl⟩
theorem list_one {α : Type} {l : List α} (h : 1 ≤ l.length) : ∃ x r, l = x :: r := by
  match l, h with
  | x :: r, _ => exact ⟨x, r, rfl⟩
end Go.Proofs.Ytkceefheeicmbaa
