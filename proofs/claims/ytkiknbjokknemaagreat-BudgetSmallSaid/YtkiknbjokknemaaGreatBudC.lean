/-
  WALKS of Right and Valid.
-/
import Derived.Test.YtkiknbjokknemaaGreatBase
import Derived.Test.YtkiknbjokknemaaGreatBudB
namespace Go.Proofs.YtkiknbjokknemaaGreat
open Go.RowKit

/-- Wants and items as cells. -/
abbrev wnts (l : List (Int × Int)) : List Value := l.flatMap fun x => [Value.int .i64 x.1, Value.int .i64 x.2]
abbrev itms (l : List It) : List Value := l.flatMap fun x => [Value.int .i64 x.id, Value.int .i64 x.wt, Value.int .i64 x.sc]
theorem len_wnts (l : List (Int × Int)) : (wnts l).length = l.length * 2 := by
  induction l with
  | nil => rfl
  | cons a l ih => simp only [wnts, List.flatMap_cons, List.length_append, List.length_cons, List.length_nil] at ih ⊢; omega
theorem len_itms (l : List It) : (itms l).length = l.length * 3 := by
  induction l with
  | nil => rfl
  | cons a l ih => simp only [itms, List.flatMap_cons, List.length_append, List.length_cons, List.length_nil] at ih ⊢; omega
theorem one_wnts (l : List (Int × Int)) : ∀ u ∈ wnts l, u.oneCell' = true := by
  intro u hu
  obtain ⟨r, _, hr⟩ := List.mem_flatMap.1 hu
  simp at hr
  rcases hr with rfl | rfl <;> rfl
theorem one_itms (l : List It) : ∀ u ∈ itms l, u.oneCell' = true := by
  intro u hu
  obtain ⟨r, _, hr⟩ := List.mem_flatMap.1 hu
  simp at hr
  rcases hr with rfl | rfl | rfl <;> rfl
theorem wnts_get (l : List (Int × Int)) (k : Nat) (x : Int × Int) (h : l[k]? = some x) : (wnts l)[k * 2]? = some (.int .i64 x.1) ∧ (wnts l)[k * 2 + 1]? = some (.int .i64 x.2) := by
  induction l generalizing k with
  | nil => simp at h
  | cons a l ih =>
    cases k with
    | zero => simp at h; subst h; exact ⟨rfl, rfl⟩
    | succ k =>
      rw [List.getElem?_cons_succ] at h
      have := ih k h
      simp only [wnts, List.flatMap_cons, List.cons_append, List.nil_append] at this ⊢
      rw [show (k + 1) * 2 = k * 2 + 1 + 1 by omega]
      exact this
theorem itms_get (l : List It) (k : Nat) (x : It) (h : l[k]? = some x) : (itms l)[k * 3]? = some (.int .i64 x.id) ∧ (itms l)[k * 3 + 1]? = some (.int .i64 x.wt) ∧ (itms l)[k * 3 + 2]? = some (.int .i64 x.sc) := by
  induction l generalizing k with
  | nil => simp at h
  | cons a l ih =>
    cases k with
    | zero => simp at h; subst h; exact ⟨rfl, rfl, rfl⟩
    | succ k =>
      rw [List.getElem?_cons_succ] at h
      have := ih k h
      simp only [itms, List.flatMap_cons, List.cons_append, List.nil_append] at this ⊢
      rw [show (k + 1) * 3 = k * 3 + 1 + 1 + 1 by omega]
      exact this

/-- 'sound', from a last ID on. -/
def soundB (last : Int) : List (Int × Int) → Bool
  | [] => true
  | x :: r => decide (last < x.1) && decide (x.1 ≤ 65536) && decide (1 ≤ x.2) && decide (x.2 ≤ 16) && soundB x.1 r
def rightB (ws : List (Int × Int)) : Bool := soundB (-1) ws && decide (ws.length ≤ 64)
def wantsOf (l : List It) : List (Int × Int) := l.map fun x => (x.id, x.wt)
def scoresB (l : List It) : Bool := l.all fun x => decide (0 ≤ x.sc) && decide (x.sc ≤ topScore)
def validB (l : List It) : Bool := rightB (wantsOf l) && scoresB l

theorem soundB_iff (last : Int) (ws : List (Int × Int)) : soundB last ws = true ↔ (∀ x ∈ ws, last < x.1 ∧ x.1 ≤ 65536 ∧ 1 ≤ x.2 ∧ x.2 ≤ 16) ∧ ws.Pairwise fun a b => a.1 < b.1 := by
  induction ws generalizing last with
  | nil => simp [soundB]
  | cons a ws ih =>
    simp only [soundB, Bool.and_eq_true, decide_eq_true_eq, ih, List.mem_cons, forall_eq_or_imp, List.pairwise_cons]
    constructor
    · rintro ⟨⟨⟨⟨h1, h2⟩, h3⟩, h4⟩, h5, h6⟩
      exact ⟨⟨⟨h1, h2, h3, h4⟩, fun x hx => by have := h5 x hx; omega⟩, fun x hx => (h5 x hx).1, h6⟩
    · rintro ⟨⟨⟨h1, h2, h3, h4⟩, h5⟩, h6, h7⟩
      exact ⟨⟨⟨⟨h1, h2⟩, h3⟩, h4⟩, fun x hx => by have := h5 x hx; have := h6 x hx; omega, h7⟩
theorem rightB_iff (ws : List (Int × Int)) : rightB ws = true ↔ RightP ws := by
  unfold rightB RightP
  rw [Bool.and_eq_true, soundB_iff, decide_eq_true_eq]
  constructor
  · rintro ⟨⟨h1, h2⟩, h3⟩; exact ⟨h3, fun x hx => by have := h1 x hx; omega, h2⟩
  · rintro ⟨h1, h2, h3⟩; exact ⟨⟨fun x hx => by have := h2 x hx; omega, h3⟩, h1⟩
theorem validB_iff (l : List It) : validB l = true ↔ ValidP l := by
  unfold validB ValidP scoresB wantsOf
  rw [Bool.and_eq_true, rightB_iff, List.all_eq_true]
  simp only [Bool.and_eq_true, decide_eq_true_eq]

/-- What a function comes to that answers a Bool and leaves old memory alone. -/
def SaysTo (w : World) (b : Bool) (e : Ending) (w' : World) : Prop := e = .returned (.bool b) ∧ Below w.heap.size w w'

set_option maxHeartbeats 400000 in
theorem right1_any (w : World) (a b : Int) : Calls Tryz.prog 34 #[.agg #[.int .i64 a, .int .i64 b]] w fun e w' => e = .returned (.agg #[.int .i64 a, .int .i64 b]) ∧ Below w.heap.size w w' := by
  go_enter Tryz.func34, Tryz.ntmps34
  go_wp2
  refine bodyPost_ret (v := .agg #[.int .i64 a, .int .i64 b]) (by simp [results, Tryz.results34, go_sem]) rfl ⟨rfl, ?_⟩
  exact ((Below.refl _ _).alloc (Nat.le_refl _) _).alloc (by simp) _

set_option maxHeartbeats 400000 in
theorem valid1_any (w : World) (a b c : Int) : Calls Tryz.prog 36 #[.agg #[.int .i64 a, .int .i64 b, .int .i64 c]] w fun e w' => e = .returned (.agg #[.int .i64 a, .int .i64 b]) ∧ Below w.heap.size w w' := by
  go_enter Tryz.func36, Tryz.ntmps36
  go_wp2
  refine bodyPost_ret (v := .agg #[.int .i64 a, .int .i64 b]) (by simp [results, Tryz.results36, go_sem]) rfl ⟨rfl, ?_⟩
  exact ((Below.refl _ _).alloc (Nat.le_refl _) _).alloc (by simp) _

theorem below3 {w wr w1 : World} {ob ob' : Obj} (h : Below w.heap.size w wr) (h1 : Below (wr.alloc ob).heap.size (wr.alloc ob) w1) : Below w.heap.size w (w1.alloc ob') := by
  have hs := h.size
  have hs1 := h1.size
  rw [World.size_alloc] at hs1
  exact ((h.alloc hs ob).trans (h1.mono (by rw [World.size_alloc]; omega))).alloc (by omega) ob'

set_option maxRecDepth 100000 in
set_option maxHeartbeats 2000000 in
theorem soundW_any (w : World) (o : Own) (τ : Nat) (A : Option Addr) (n c : Nat) (xs : List (Int × Int)) (hS : Sl w o τ 2 A n c (wnts xs)) :
    Calls Tryz.prog 33 #[.slice A n c, .func (Fn.func 34) #[] #[]] w (SaysTo w (rightB ( xs))) := by
  have hl : xs.length = n := by have := hS.1; rw [len_wnts] at this; omega
  have hnm : n ≤ 9223372036854775807 := by have h1 := hS.2.1; have h2 := hS.2.2.1; unfold maxLen at h2; omega
  obtain ⟨R, hR⟩ : ∃ R : Bool, R = rightB ( xs) := ⟨_, rfl⟩
  rw [← hR]
  have HR := Lib.hid hR; have HL := Lib.hid hl; have HS := Lib.hid hS; clear hR hl hS
  go_enter Tryz.func33, Tryz.ntmps33
  go_wp2_with fail
  go_loopw [5, 11] (fun l i wr => ∃ (k : Nat) (last : Int), k ≤ n ∧ i = .int .i64 k ∧ l = .int .i64 last ∧ Below w.heap.size w wr ∧ Hid (soundB (-1) ( xs) = soundB last (( xs).drop k)) ∧ -1 ≤ last ∧ last ≤ 65536) (fun _ i _ => n - (intOf i).toNat)
  case atStart => exact ⟨0, -1, Nat.zero_le _, rfl, rfl, Below.refl _ _, Lib.hid (by simp), by omega, by omega⟩
  case round =>
    obtain ⟨k, last, hk, rfl, rfl, hB, hT, hl0, hl1⟩ := hrel
    by_cases hlt : k < n
    · obtain ⟨x, hx⟩ : ∃ x, xs[k]? = some x := ⟨_, List.getElem?_eq_getElem (by rw [HL.out]; exact hlt)⟩
      obtain ⟨g, off, hA, -, hg, hc⟩ := HS.out.2.2.2 (by omega)
      have hget := wnts_get xs k x hx
      have hdrop : ( xs).drop k = x :: ( xs).drop (k + 1) := by
        rw [List.drop_eq_getElem_cons (by rw [HL.out]; exact hlt)]
        congr 1
        exact (List.getElem?_eq_some_iff.1 hx).2
      rw [hdrop] at hT
      subst hA
      have c0 := (hB.cell (p := ⟨g, off + k * 2, none⟩) hg).trans (hc _ _ hget.1)
      have c1 := (hB.cell (p := ⟨g, off + (k * 2 + 1), none⟩) hg).trans (hc _ _ hget.2)
      rw [← Nat.add_assoc] at c1
      obtain ⟨a, b⟩ := x
      simp only at c0 c1
      have HB := Lib.hid hB; have HD := Lib.hid hdrop; have HX := Lib.hid hx
      clear hB hc hget hdrop hx
      simp only [soundB] at hT
      have hcase : a ≤ last ∨ 65536 < a ∨ b < 1 ∨ 16 < b ∨ (last < a ∧ a ≤ 65536 ∧ 1 ≤ b ∧ b ≤ 16) := by omega
      have bad : (a ≤ last ∨ 65536 < a ∨ b < 1 ∨ 16 < b) → R = false := by
        intro h
        rw [HR.out, rightB, hT.out]
        have : (decide (last < a) && decide (a ≤ 65536) && decide (1 ≤ b) && decide (b ≤ 16)) = false := by
          rcases h with h | h | h | h
          · rw [show decide (last < a) = false by simp; omega]; rfl
          · rw [show decide (a ≤ 65536) = false by simp; omega]; simp
          · rw [show decide (1 ≤ b) = false by simp; omega]; simp
          · rw [show decide (b ≤ 16) = false by simp; omega]; simp
        rw [this]; rfl
      have BAD := Lib.hid bad; clear bad
      by_cases c01 : a ≤ last
      · go_wp2_with (go_at_call 34; refine (right1_any _ _ _).mono ?_; rintro e w1 ⟨rfl, hb1⟩; have HB1 := Lib.hid hb1; clear hb1)
        go_ret
        exact ⟨by rw [BAD.out (by omega)]; rfl, below3 HB.out HB1.out⟩
      by_cases c02 : 65536 < a
      · go_wp2_with (go_at_call 34; refine (right1_any _ _ _).mono ?_; rintro e w1 ⟨rfl, hb1⟩; have HB1 := Lib.hid hb1; clear hb1)
        go_ret
        exact ⟨by rw [BAD.out (by omega)]; rfl, below3 HB.out HB1.out⟩
      by_cases c03 : b < 1
      · go_wp2_with (go_at_call 34; refine (right1_any _ _ _).mono ?_; rintro e w1 ⟨rfl, hb1⟩; have HB1 := Lib.hid hb1; clear hb1)
        go_ret
        exact ⟨by rw [BAD.out (by omega)]; rfl, below3 HB.out HB1.out⟩
      by_cases c04 : 16 < b
      · go_wp2_with (go_at_call 34; refine (right1_any _ _ _).mono ?_; rintro e w1 ⟨rfl, hb1⟩; have HB1 := Lib.hid hb1; clear hb1)
        go_ret
        exact ⟨by rw [BAD.out (by omega)]; rfl, below3 HB.out HB1.out⟩
      go_wp2_with (go_at_call 34; refine (right1_any _ _ _).mono ?_; rintro e w1 ⟨rfl, hb1⟩; have HB1 := Lib.hid hb1; clear hb1)
      go_roundw
      case rel =>
        refine ⟨k + 1, a, by omega, by go_num, rfl, below3 HB.out HB1.out, Lib.hid ?_, by omega, by omega⟩
        rw [hT.out]
        rw [show decide (last < a) = true by simp; omega, show decide (a ≤ 65536) = true by simp; omega, show decide (1 ≤ b) = true by simp; omega, show decide (b ≤ 16) = true by simp; omega]
        rfl
      case measure => simp [intOf]; omega
    · obtain rfl : n = k := by omega
      have hT2 : soundB (-1) xs = true := by
        have := hT.out
        rw [List.drop_of_length_le (by rw [HL.out]; exact Nat.le_refl _)] at this
        exact this
      have HT2 := Lib.hid hT2; clear hT2
      go_wp2_with fail
      go_ret
      refine ⟨?_, hB⟩
      rw [HR.out, rightB, HT2.out]
      show Ending.returned (.bool (decide ((n : Int) ≤ 64))) = Ending.returned (.bool (true && decide (xs.length ≤ 64)))
      have hl2 : xs.length = n := by exact HL.out
      rw [hl2, Bool.true_and]
      congr 2; simp only [decide_eq_decide]; omega

end Go.Proofs.YtkiknbjokknemaaGreat
