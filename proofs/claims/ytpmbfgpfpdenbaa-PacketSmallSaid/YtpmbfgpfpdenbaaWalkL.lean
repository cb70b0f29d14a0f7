/-
  step, whatever the op; the invariant holds behind it.
-/
import Derived.Test.YtpmbfgpfpdenbaaWalkK
namespace Go.Proofs.Ytpmbfgpfpdenbaa
open Go.RowKit

theorem step_side (w : World) (o : Own) (l s s' τ2 : Nat) (hs : s < 2) (hs' : s' = 1 - s) (own other : Int) (X Y : ASide) (v u : SideV) (cells : Array Value) (hL : LinkS w o l s s' own other X Y v u cells) (hI : LinkInv X Y) (hI' : LinkInv Y X)
    (hown : 0 ≤ own) (hown' : own ≤ 1099511627776) (hot : 0 ≤ other) (hot' : other ≤ 1099511627776) (hz : Sized X Y 900)
    (K S T : Nat) (hK : K < 256) (hS : S < 256) (hT : T < 256) (hSs : S % 2 = s) (BA : Option Addr) (bn bc : Nat) (ys : List UInt8) (hB : Sl w o τ2 1 BA bn bc (byts ys)) (hbn : bn ≤ 9223372036854775807) :
    Calls Try.prog 12 #[.pointer (some ⟨l, 0, none⟩), .agg (opCells K S T BA bn bc)] w (StepTo w o l s s' own other (stepS X Y K T ys)) := by
  unfold stepS
  by_cases h1 : K % 6 = 0 ∨ K % 6 = 1
  · rw [if_pos h1]
    exact step_makes w o l s s' τ2 hs hs' own other X Y v u cells hL hI hI' hown hown' hot hot' hz K S T hK hS hT hSs BA bn bc ys hB hbn h1
  · rw [if_neg h1]
    by_cases h2 : K % 6 = 2
    · rw [if_pos h2]
      exact step_only w o l s s' hs hs' own other X Y v u cells hL hI hI' hown hown' hot hot' hz K S T hK hS hT hSs BA bn bc h2
    · rw [if_neg h2]
      by_cases h3 : K % 6 = 3 ∨ K % 6 = 4
      · rw [if_pos h3]
        cases hp : Y.made[Y.made.length - 1 - T % Y.made.length]? with
        | none =>
          have h0 : Y.made = [] := by
            cases hm : Y.made with
            | nil => rfl
            | cons a r => rw [hm, List.getElem?_eq_none_iff] at hp; simp at hp; omega
          exact step_takes_none w o l s s' hs hs' own other X Y v u cells hL hI hI' hown hown' hot hot' hz K S T hK hS hT hSs BA bn bc h3 h0
        | some p => exact step_takes_some w o l s s' hs hs' own other X Y v u cells hL hI hI' hown hown' hot hot' hz K S T hK hS hT hSs BA bn bc h3 p hp
      · rw [if_neg h3]
        exact step_none w o l s s' hs hs' own other X Y v u cells hL K S T hK hS hT hSs BA bn bc (by omega)

theorem stepS_inv {X Y : ASide} (h : LinkInv X Y) (h' : LinkInv Y X) (K T : Nat) (ys : List UInt8) : LinkInv (stepS X Y K T ys).1 (stepS X Y K T ys).2 ∧ LinkInv (stepS X Y K T ys).2 (stepS X Y K T ys).1 := by
  unfold stepS
  by_cases h1 : K % 6 = 0 ∨ K % 6 = 1
  · rw [if_pos h1]
    exact make_inv h h' (by rw [h.n]; exact markB_ok _ _)
  · rw [if_neg h1]
    by_cases h2 : K % 6 = 2
    · rw [if_pos h2]; exact only_inv h h'
    · rw [if_neg h2]
      by_cases h3 : K % 6 = 3 ∨ K % 6 = 4
      · rw [if_pos h3]
        cases hp : Y.made[Y.made.length - 1 - T % Y.made.length]? with
        | none => exact ⟨h, h'⟩
        | some p =>
          obtain ⟨a, b, -⟩ := take_inv h h' (h'.pkts p (List.mem_of_getElem? hp))
          exact ⟨a, b⟩
      · rw [if_neg h3]; exact ⟨h, h'⟩

theorem given_len (Y : ASide) (a : AEnd) (p : APkt) : (Y.given a p).bodies.length = Y.bodies.length ∧ (Y.given a p).made = Y.made := by
  unfold ASide.given
  cases p.body with
  | none => exact ⟨rfl, rfl⟩
  | some q =>
    obtain ⟨k, xs⟩ := q
    simp only
    split
    · simp
    · exact ⟨rfl, rfl⟩

theorem stepS_sized {X Y : ASide} {m : Nat} (h : Sized X Y m) (K T : Nat) (ys : List UInt8) : Sized (stepS X Y K T ys).1 (stepS X Y K T ys).2 (m + 1) := by
  obtain ⟨b1, b2, b3, b4⟩ := h
  unfold stepS
  by_cases h1 : K % 6 = 0 ∨ K % 6 = 1
  · rw [if_pos h1]
    refine ⟨?_, by show Y.bodies.length ≤ _; omega, ?_, by show Y.made.length ≤ _; omega⟩
    · show (X.bodies ++ [0]).length ≤ _; simp; omega
    · show (X.made ++ [_]).length ≤ _; simp; omega
  · rw [if_neg h1]
    by_cases h2 : K % 6 = 2
    · rw [if_pos h2]
      refine ⟨?_, by show Y.bodies.length ≤ _; omega, ?_, by show Y.made.length ≤ _; omega⟩
      · show X.only.bodies.length ≤ _; unfold ASide.only; split <;> (show X.bodies.length ≤ _; omega)
      · show X.only.made.length ≤ _; unfold ASide.only; split
        · show (X.made ++ [_]).length ≤ _; simp; omega
        · omega
    · rw [if_neg h2]
      by_cases h3 : K % 6 = 3 ∨ K % 6 = 4
      · rw [if_pos h3]
        cases hp : Y.made[Y.made.length - 1 - T % Y.made.length]? with
        | none => exact ⟨by show X.bodies.length ≤ _; omega, by show Y.bodies.length ≤ _; omega, by show X.made.length ≤ _; omega, by show Y.made.length ≤ _; omega⟩
        | some p =>
          have := given_len Y X.e p
          exact ⟨by show X.bodies.length ≤ _; omega, by show (Y.given X.e p).bodies.length ≤ _; omega, by show X.made.length ≤ _; omega, by show (Y.given X.e p).made.length ≤ _; rw [this.2]; omega⟩
      · rw [if_neg h3]
        exact ⟨by show X.bodies.length ≤ _; omega, by show Y.bodies.length ≤ _; omega, by show X.made.length ≤ _; omega, by show Y.made.length ≤ _; omega⟩

/-- A step of a script. -/
structure OpV where
  K : Nat
  S : Nat
  T : Nat
  B : List UInt8

def stepA (X Y : ASide) (p : OpV) : ASide × ASide := if p.S % 2 = 0 then stepS X Y p.K p.T p.B else ((stepS Y X p.K p.T p.B).2, (stepS Y X p.K p.T p.B).1)

theorem Sized.swap {X Y : ASide} {m : Nat} (h : Sized X Y m) : Sized Y X m := ⟨h.bY, h.bx, h.my, h.mx⟩
theorem stepA_inv {X Y : ASide} (h : LinkInv X Y) (h' : LinkInv Y X) (p : OpV) : LinkInv (stepA X Y p).1 (stepA X Y p).2 ∧ LinkInv (stepA X Y p).2 (stepA X Y p).1 := by
  unfold stepA
  split
  · exact stepS_inv h h' _ _ _
  · exact (stepS_inv h' h _ _ _).symm
theorem stepA_sized {X Y : ASide} {m : Nat} (h : Sized X Y m) (p : OpV) : Sized (stepA X Y p).1 (stepA X Y p).2 (m + 1) := by
  unfold stepA
  split
  · exact stepS_sized h _ _ _
  · exact (stepS_sized h.swap _ _ _).swap

/-- A link as it lies, with its invariant. -/
structure LinkOk (w : World) (o : Own) (l : Nat) (own other : Int) (X Y : ASide) (m : Nat) : Prop where
  at_ : ∃ v u cells, LinkS w o l 0 1 own other X Y v u cells
  inv : LinkInv X Y
  inv' : LinkInv Y X
  sized : Sized X Y m
  o0 : 0 ≤ own
  o1 : own ≤ 1099511627776
  p0 : 0 ≤ other
  p1 : other ≤ 1099511627776

theorem LinkOk.step {w w' : World} {o o' : Own} {l : Nat} {own other : Int} {X Y : ASide} {m : Nat} {ts : List Nat} (h : LinkOk w o l own other X Y m) (hst : Step ts w o w' o') (h1 : ∀ t ∈ ts, t = 0 ∨ 11 ≤ t) : LinkOk w' o' l own other X Y m := by
  obtain ⟨⟨v, u, cells, hl⟩, a, b, c, d, e, f, g⟩ := h
  exact ⟨⟨v, u, cells, hl.step hst h1 (by omega) (by omega)⟩, a, b, c, d, e, f, g⟩

theorem step_any (w : World) (o : Own) (l τ2 : Nat) (own other : Int) (X Y : ASide) (m : Nat) (hL : LinkOk w o l own other X Y m) (hm : m ≤ 900)
    (K S T : Nat) (hK : K < 256) (hS : S < 256) (hT : T < 256) (BA : Option Addr) (bn bc : Nat) (ys : List UInt8) (hB : Sl w o τ2 1 BA bn bc (byts ys)) (hbn : bn ≤ 9223372036854775807) :
    Calls Try.prog 12 #[.pointer (some ⟨l, 0, none⟩), .agg (opCells K S T BA bn bc)] w fun e w' => e = .returned (.bool true) ∧
      ∃ o', Step linkTags w o w' o' ∧ LinkOk w' o' l own other (stepA X Y ⟨K, S, T, ys⟩).1 (stepA X Y ⟨K, S, T, ys⟩).2 (m + 1) := by
  obtain ⟨⟨v, u, cells, hl⟩, a, b, c, d, e, f, g⟩ := hL
  have c' : Sized X Y 900 := ⟨by have := c.bx; omega, by have := c.bY; omega, by have := c.mx; omega, by have := c.my; omega⟩
  have i1 := stepA_inv a b ⟨K, S, T, ys⟩
  have i2 := stepA_sized c ⟨K, S, T, ys⟩
  by_cases hs : S % 2 = 0
  · refine (step_side w o l 0 1 τ2 (by omega) rfl own other X Y v u cells hl a b d e f g c' K S T hK hS hT hs BA bn bc ys hB hbn).mono ?_
    rintro e' w' ⟨he, o', v', u', cells', hst, hl'⟩
    have e1 : stepA X Y ⟨K, S, T, ys⟩ = stepS X Y K T ys := by unfold stepA; rw [if_pos hs]
    rw [e1] at i1 i2 ⊢
    exact ⟨he, o', hst, ⟨v', u', cells', hl'⟩, i1.1, i1.2, i2, d, e, f, g⟩
  · refine (step_side w o l 1 0 τ2 (by omega) rfl other own Y X u v cells hl.swap b a f g d e c'.swap K S T hK hS hT (by omega) BA bn bc ys hB hbn).mono ?_
    rintro e' w' ⟨he, o', v', u', cells', hst, hl'⟩
    have e1 : stepA X Y ⟨K, S, T, ys⟩ = ((stepS Y X K T ys).2, (stepS Y X K T ys).1) := by unfold stepA; rw [if_neg hs]
    rw [e1] at i1 i2 ⊢
    exact ⟨he, o', hst, ⟨u', v', cells', hl'.swap⟩, i1.1, i1.2, i2, d, e, f, g⟩

theorem side0_inv : LinkInv side0 side0 := by
  refine ⟨rfl, rfl, Nat.le_refl _, by decide, ?_, fun _ _ => (by simp [side0]), ?_, ?_, fun _ => (by simp [side0]), List.Pairwise.nil, fun _ h => (by cases h), by decide, fun _ => (by simp [side0]), fun _ h => (by cases h)⟩
  · intro i h; simp [side0] at h
  · intro k h; simp [side0] at h
  · intro k h; simp [side0] at h

/-- 'linked', with its invariant. -/
theorem linked_ok (w : World) (o : Own) (own other : Int) (h0 : 0 ≤ own) (h1 : own ≤ 1099511627776) (h2 : 0 ≤ other) (h3 : other ≤ 1099511627776) :
    Calls Try.prog 11 #[.int .i64 own, .int .i64 other] w fun e w' => ∃ l o', e = .returned (.tuple #[.pointer (some ⟨l, 0, none⟩), .bool true]) ∧ Step [] w o w' o' ∧ LinkOk w' o' l own other side0 side0 0 := by
  refine (linked_any w o own other h0 h1 h2 h3).mono ?_
  rintro e w' ⟨l, o', he, hst, hl⟩
  exact ⟨l, o', he, hst, LinkS.of_at hl, side0_inv, side0_inv, ⟨Nat.le_refl _, Nat.le_refl _, Nat.le_refl _, Nat.le_refl _⟩, h0, h1, h2, h3⟩
end Go.Proofs.Ytpmbfgpfpdenbaa
