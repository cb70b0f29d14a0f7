/-
  WALK of (*Channel).parse.
-/
import Derived.Test.YthjjipcbpmdfnaaChI
namespace Go.Proofs.Ythjjipcbpmdfnaa
open Go.RowKit

/-! ### the plain parse -/
theorem parseC_nil (next k : Nat) : parseC next k [] = some [] := by cases k <;> simp [parseC]
theorem parseC_fuel (next : Nat) : ∀ (k : Nat) (xs : List UInt8), xs.length ≤ k → parseC next k xs = parseC next xs.length xs
  | 0, xs, h => by
    have : xs = [] := List.length_eq_zero_iff.1 (by omega)
    rw [this]; rfl
  | k + 1, xs, h => by
    cases xs with
    | nil => rfl
    | cons x xs =>
      show parseC next (k + 1) (x :: xs) = parseC next (xs.length + 1) (x :: xs)
      unfold parseC
      split
      · rfl
      · split
        · rfl
        · simp only
          split
          · rfl
          · rename_i h2
            simp only [not_or] at h2
            have hl : ((x :: xs).drop (4 + beNum (((x :: xs).drop 2).take 2))).length ≤ xs.length := by
              rw [List.length_drop]; simp only [List.length_cons]; omega
            rw [parseC_fuel next k _ (by simp only [List.length_cons] at h; omega), parseC_fuel next xs.length _ hl]
/-- The parse of a body. -/
def parseP' (next : Nat) (xs : List UInt8) : Option (List (Nat × List UInt8)) := parseC next xs.length xs
/-- Is the head of a body no message? -/
def badHead (next : Nat) (n : Int) (size len : Nat) : Prop := 1024 < size ∨ len < 4 + size ∨ n < 0 ∨ (next : Int) + 64 ≤ n ∨ n + 30000 < (next : Int)
instance (next : Nat) (n : Int) (size len : Nat) : Decidable (badHead next n size len) := by unfold badHead; infer_instance
theorem parse_short {next : Nat} {xs : List UInt8} (h0 : xs ≠ []) (h : xs.length < 4) : parseP' next xs = none := by
  cases xs with
  | nil => exact absurd rfl h0
  | cons x xs => unfold parseP'; show parseC next (xs.length + 1) (x :: xs) = _; unfold parseC; rw [if_neg h0, if_pos h]
theorem parse_bad {next : Nat} {xs : List UInt8} (h : 4 ≤ xs.length) (hb : badHead next (near next (beNum (xs.take 2))) (beNum ((xs.drop 2).take 2)) xs.length) : parseP' next xs = none := by
  cases xs with
  | nil => simp at h
  | cons x xs =>
    unfold parseP'; show parseC next (xs.length + 1) (x :: xs) = _; unfold parseC
    rw [if_neg (by simp), if_neg (by omega)]
    exact if_pos hb
theorem parse_good {next : Nat} {xs : List UInt8} (h : 4 ≤ xs.length) (hb : ¬ badHead next (near next (beNum (xs.take 2))) (beNum ((xs.drop 2).take 2)) xs.length) :
    parseP' next xs = (parseP' next (xs.drop (4 + beNum ((xs.drop 2).take 2)))).map fun l => ((near next (beNum (xs.take 2))).toNat, (xs.drop 4).take (beNum ((xs.drop 2).take 2))) :: l := by
  cases xs with
  | nil => simp at h
  | cons x xs =>
    unfold parseP'; show parseC next (xs.length + 1) (x :: xs) = _
    conv => lhs; unfold parseC
    rw [if_neg (by simp), if_neg (by omega)]
    refine (if_neg hb).trans ?_
    rw [parseC_fuel next xs.length]
    rw [List.length_drop]; simp only [List.length_cons]; omega

/-- A message in a body, in memory. -/
structure IncV where
  n : Nat
  A : Option Addr
  ln : Nat
  c : Nat
  b : List UInt8
def IncV.cells (e : IncV) : List Value := [.int .i64 (e.n : Int), .slice e.A e.ln e.c]
abbrev incCells (l : List IncV) : List Value := l.flatMap IncV.cells
def IncV.pair (e : IncV) : Nat × List UInt8 := (e.n, e.b)
theorem incCells_len (l : List IncV) : (incCells l).length = l.length * 2 := by
  induction l with
  | nil => rfl
  | cons a l ih => simp only [incCells, List.flatMap_cons, List.length_append, List.length_cons] at ih ⊢; rw [ih]; simp only [IncV.cells, List.length_cons, List.length_nil]; omega
theorem one_inc (l : List IncV) : ∀ u ∈ incCells l, u.oneCell' = true := by
  intro u hu
  obtain ⟨e, -, he⟩ := List.mem_flatMap.1 hu
  simp only [IncV.cells, List.mem_cons, List.not_mem_nil, or_false] at he
  rcases he with rfl | rfl <;> rfl
theorem el_inc : Elem Try.prog 124 128 2 32 (.agg #[.int .i64 0, .slice none 0 0]) := ⟨Try.underlying124, by kernel_rfl, rfl, by decide⟩

theorem run_tailC (P : Program) (t e : TypeId) (z : Value) (sz b : Nat) (hu : P.underlying t = some (.slice e)) (hs : (P.info? e).map (fun i => (i.zero, i.size, i.bytes)) = some (some z, sz, b)) (A : Option Addr) (n c k : Nat) (hk : k ≤ n) (hc : n ≤ c) :
    ∃ B, (∀ W, (Instr.slice t (.slice A n c) (some (.int .i64 (k : Int))) none none).run P W = .ok (.slice B (n - k) (c - k)) W) ∧ (k < n → ∀ g off, A = some ⟨g, off, none⟩ → B = some ⟨g, off + k * sz, none⟩) := by
  cases A with
  | none =>
    obtain ⟨i, h1, h2, h3, h4⟩ := info_parts hs
    refine ⟨none, fun W => ?_, fun _ _ _ h => by cases h⟩
    simp [Instr.slice, Instr.sliceBounds, Instr.sliceBound, asIntOf, run_underlying hu, sizeOf, typeInfo, h1, hk]
  | some a =>
    obtain ⟨i, h1, h2, h3, h4⟩ := info_parts hs
    refine ⟨if c = k then some a else some (a.add (k * sz)), fun W => ?_, fun h g off e => ?_⟩
    · simp [Instr.slice, Instr.sliceBounds, Instr.sliceBound, asIntOf, run_underlying hu, sizeOf, typeInfo, h1, hk, h3]
    · injection e with e; subst e
      rw [if_neg (by omega)]
      unfold Addr.add
      by_cases h0 : k * sz = 0
      · simp [h0]
      · rw [if_neg h0]
theorem run_midC (P : Program) (t e : TypeId) (z : Value) (sz b : Nat) (hu : P.underlying t = some (.slice e)) (hs : (P.info? e).map (fun i => (i.zero, i.size, i.bytes)) = some (some z, sz, b)) (A : Option Addr) (n c k m : Nat) (hk : k ≤ m) (hc : m ≤ c) :
    ∃ B, (∀ W, (Instr.slice t (.slice A n c) (some (.int .i64 (k : Int))) (some (.int .i64 (m : Int))) none).run P W = .ok (.slice B (m - k) (c - k)) W) ∧ (k < m → ∀ g off, A = some ⟨g, off, none⟩ → B = some ⟨g, off + k * sz, none⟩) := by
  cases A with
  | none =>
    obtain ⟨i, h1, h2, h3, h4⟩ := info_parts hs
    refine ⟨none, fun W => ?_, fun _ _ _ h => by cases h⟩
    simp [Instr.slice, Instr.sliceBounds, Instr.sliceBound, asIntOf, run_underlying hu, sizeOf, typeInfo, h1, hk, hc]
  | some a =>
    obtain ⟨i, h1, h2, h3, h4⟩ := info_parts hs
    refine ⟨if c = k then some a else some (a.add (k * sz)), fun W => ?_, fun h g off e => ?_⟩
    · simp [Instr.slice, Instr.sliceBounds, Instr.sliceBound, asIntOf, run_underlying hu, sizeOf, typeInfo, h1, hk, hc, h3]
    · injection e with e; subst e
      rw [if_neg (by omega)]
      unfold Addr.add
      by_cases h0 : k * sz = 0
      · simp [h0]
      · rw [if_neg h0]
theorem be_two (x y : UInt8) : beNum [x, y] = x.toNat * 256 + y.toNat := by simp [beNum]
theorem or_bytes (x y : Nat) (_hx : x < 256) (hy : y < 256) : x * 256 ||| y = x * 256 + y := by
  have := Nat.two_pow_add_eq_or_of_lt (i := 8) (b := y) (by omega) x
  rw [Nat.mul_comm, show (2 : Nat) ^ 8 = 256 from rfl] at this
  omega
end Go.Proofs.Ythjjipcbpmdfnaa
