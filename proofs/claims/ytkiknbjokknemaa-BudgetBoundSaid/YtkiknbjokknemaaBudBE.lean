/-
  CONTRACTS of made and Step whose results are rows; the ledger of BudgetBound in memory.
-/
import Derived.Test.YtkiknbjokknemaaBudBC
import Derived.Test.YtkiknbjokknemaaBudAC
import Derived.Test.YtkiknbjokknemaaBudR
namespace Go.Proofs.Ytkiknbjokknemaa
open Go.RowKit

theorem Row.old0 {w : World} {o : Own} {τ : Nat} {e : TypeId} {sz n c : Nat} {A : Option Addr} {xs : List Value} (h : Row w o τ e sz A n c xs) : Row w (fun _ => 0) 0 e sz A n c xs := ⟨h.1, fun _ _ => rfl⟩
theorem Row.up {w w' : World} {e : TypeId} {sz n c : Nat} {A : Option Addr} {xs : List Value} (h : Row w (fun _ => 0) 0 e sz A n c xs) (hb : Below w.heap.size w w') : Row w' (fun _ => 0) 0 e sz A n c xs := (h.step ((Step.refl [] w _).below hb 5) (by simp)).old0
/-- One block apart from all others. -/
def own1 (g : Nat) : Own := fun b => if b = g then 40 else 0
theorem own1_at (g : Nat) : own1 g g = 40 := by simp [own1]
theorem Row.apart {w : World} {e t : TypeId} {sz n c g : Nat} {A : Option Addr} {xs : List Value} {cs : Array Value} (h : Row w (fun _ => 0) 0 e sz A n c xs) (hb : Blk w g t cs) (hne : e ≠ t) : Row w (own1 g) 0 e sz A n c xs :=
  ⟨h.1, fun ad ha => by have := h.ne_blk hb hne ad ha; unfold own1; rw [if_neg this]⟩

theorem made2 (w : World) (bits weights k : Int) (hb0 : 0 ≤ bits) (hb1 : bits ≤ 65535) (hw0 : 0 ≤ weights) (hw1 : weights ≤ 18446744073709551615) (hk0 : 0 ≤ k) (hk1 : k ≤ 255) :
    Calls Try.prog 16 #[.agg #[.int .u16 bits, .int .u64 weights, .int .u8 k]] w fun e w' => ∃ A c, e = .returned (.tuple #[.slice A (madeTo bits.toNat weights.toNat 16).length c, .int .i64 (1 + k % 4)]) ∧ Below w.heap.size w w' ∧ Row w' (fun _ => 0) 0 46 2 A (madeTo bits.toNat weights.toNat 16).length c (wnts (madeTo bits.toNat weights.toNat 16)) := by
  refine (made_any w (fun _ => 0) 20 bits weights k hb0 hb1 hw0 hw1 hk0 hk1 (fun _ _ => by decide) (by decide)).mono ?_
  rintro e w' ⟨A, n, c, o', rfl, hst, hr⟩
  have hn : n = (madeTo bits.toNat weights.toNat 16).length := by have := hr.len; rw [len_wnts] at this; omega
  subst hn
  exact ⟨A, c, rfl, hst.to_below (by simp), hr.old0⟩

theorem step2 (w : World) (A : Option Addr) (n c : Nat) (l : List It) (hA : Sl w (fun _ => 0) 0 3 A n c (itms l)) (B : Option Addr) (m d : Nat) (ws : List (Int × Int)) (hB : Sl w (fun _ => 0) 0 2 B m d (wnts ws)) (hv : ValidP l) (hr : RightP ws) (k : Nat) (hk : k ≤ 64) :
    Calls Try.prog 17 #[.slice A n c, .slice B m d, .int .i64 k] w fun e w' => ∃ A' SA sc, e = .returned (.tuple #[.slice A' ws.length ws.length, .slice SA (stepM l ws k).2.length sc, .int .i64 0]) ∧ Below w.heap.size w w' ∧
      Row w' (fun _ => 0) 0 50 3 A' ws.length ws.length (itms (stepM l ws k).1) ∧ Row w' (fun _ => 0) 0 3 1 SA (stepM l ws k).2.length sc (ints (stepM l ws k).2) := by
  refine (Step_any w (fun _ => 0) 0 0 A n c l hA B m d ws hB hv hr k (by omega)).mono ?_
  rintro e w' ⟨ob, SA, sc, o', rfl, hb, -, -, h1, h2⟩
  exact ⟨_, SA, sc, rfl, hb, h1.old0, h2.old0⟩

/-- The ledger in memory: a block of sixteen records. -/
def WtsAt (w : World) (g : Nat) (f : Nat → Wt) : Prop := ∃ cs : Array Value, Blk w g 34 cs ∧ cs.size = 80 ∧ ∀ i, i < 16 → cs[i * 5]? = some (.int .i64 ((f i).s : Int)) ∧ cs[i * 5 + 1]? = some (.int .i64 (f i).least) ∧ cs[i * 5 + 2]? = some (.int .i64 ((f i).n : Int)) ∧ cs[i * 5 + 3]? = some (.int .i64 (f i).most) ∧ cs[i * 5 + 4]? = some (.int .i64 ((f i).k : Int))

theorem WtsAt.step {w w' : World} {o o' : Own} {ts : List Nat} {g : Nat} {f : Nat → Wt} (h : WtsAt w g f) (hs : Step ts w o w' o') (hg : o g ∉ ts) : WtsAt w' g f := by
  obtain ⟨cs, h1, h2, h3⟩ := h
  exact ⟨cs, h1.step hs hg, h2, h3⟩
theorem WtsAt.get {w : World} {g : Nat} {f : Nat → Wt} (h : WtsAt w g f) {i : Nat} (hi : i < 16) : w.cell? ⟨g, i * 5, none⟩ = some (.int .i64 ((f i).s : Int)) ∧ w.cell? ⟨g, i * 5 + 1, none⟩ = some (.int .i64 (f i).least) ∧ w.cell? ⟨g, i * 5 + 2, none⟩ = some (.int .i64 ((f i).n : Int)) ∧ w.cell? ⟨g, i * 5 + 3, none⟩ = some (.int .i64 (f i).most) ∧ w.cell? ⟨g, i * 5 + 4, none⟩ = some (.int .i64 ((f i).k : Int)) := by
  obtain ⟨cs, h1, h2, h3⟩ := h
  obtain ⟨a, b, c, d, e⟩ := h3 i hi
  exact ⟨(h1.cell _).trans a, (h1.cell _).trans b, (h1.cell _).trans c, (h1.cell _).trans d, (h1.cell _).trans e⟩
theorem WtsAt.frozen {w : World} {g : Nat} {f : Nat → Wt} (h : WtsAt w g f) (i : Nat) : w.frozen? ⟨g, i, none⟩ = false := by
  obtain ⟨cs, h1, -⟩ := h; exact h1.frozen i
theorem WtsAt.lt {w : World} {g : Nat} {f : Nat → Wt} (h : WtsAt w g f) : g < w.heap.size := by
  obtain ⟨cs, h1, -⟩ := h; exact h1.lt

/-- One record anew. -/
def put5 (w : World) (g i : Nat) (a b c d e : Int) : World :=
  ((((w.setCell ⟨g, i * 5, none⟩ (.int .i64 a)).setCell ⟨g, i * 5 + 1, none⟩ (.int .i64 b)).setCell ⟨g, i * 5 + 2, none⟩ (.int .i64 c)).setCell ⟨g, i * 5 + 3, none⟩ (.int .i64 d)).setCell ⟨g, i * 5 + 4, none⟩ (.int .i64 e)

theorem WtsAt.put {w : World} {g : Nat} {f : Nat → Wt} (h : WtsAt w g f) {i : Nat} (hi : i < 16) (x : Wt) : WtsAt (put5 w g i x.s x.least x.n x.most x.k) g (fun j => if j = i then x else f j) := by
  obtain ⟨cs, h1, h2, h3⟩ := h
  refine ⟨_, ((((h1.set_ _ _).set_ _ _).set_ _ _).set_ _ _).set_ _ _, by simp [h2], fun j hj => ?_⟩
  obtain ⟨a, b, c, d, e⟩ := h3 j hj
  by_cases hji : j = i
  · subst hji
    simp only [if_true]
    refine ⟨?_, ?_, ?_, ?_, ?_⟩ <;> simp [Array.getElem?_setIfInBounds, h2] <;> omega
  · simp only [if_neg hji]
    refine ⟨?_, ?_, ?_, ?_, ?_⟩
    · rw [Array.getElem?_setIfInBounds, if_neg (by omega), Array.getElem?_setIfInBounds, if_neg (by omega), Array.getElem?_setIfInBounds, if_neg (by omega), Array.getElem?_setIfInBounds, if_neg (by omega), Array.getElem?_setIfInBounds, if_neg (by omega)]; exact a
    · rw [Array.getElem?_setIfInBounds, if_neg (by omega), Array.getElem?_setIfInBounds, if_neg (by omega), Array.getElem?_setIfInBounds, if_neg (by omega), Array.getElem?_setIfInBounds, if_neg (by omega), Array.getElem?_setIfInBounds, if_neg (by omega)]; exact b
    · rw [Array.getElem?_setIfInBounds, if_neg (by omega), Array.getElem?_setIfInBounds, if_neg (by omega), Array.getElem?_setIfInBounds, if_neg (by omega), Array.getElem?_setIfInBounds, if_neg (by omega), Array.getElem?_setIfInBounds, if_neg (by omega)]; exact c
    · rw [Array.getElem?_setIfInBounds, if_neg (by omega), Array.getElem?_setIfInBounds, if_neg (by omega), Array.getElem?_setIfInBounds, if_neg (by omega), Array.getElem?_setIfInBounds, if_neg (by omega), Array.getElem?_setIfInBounds, if_neg (by omega)]; exact d
    · rw [Array.getElem?_setIfInBounds, if_neg (by omega), Array.getElem?_setIfInBounds, if_neg (by omega), Array.getElem?_setIfInBounds, if_neg (by omega), Array.getElem?_setIfInBounds, if_neg (by omega), Array.getElem?_setIfInBounds, if_neg (by omega)]; exact e
theorem Step.put5 {w0 w : World} {o0 o : Own} {ts : List Nat} (h : Step ts w0 o0 w o) {g : Nat} (hg : o g ∈ ts) (i : Nat) (a b c d e : Int) : Step ts w0 o0 (put5 w g i a b c d e) o :=
  (((((h.setCell (.inr hg) _).setCell (.inr hg) _).setCell (.inr hg) _).setCell (.inr hg) _).setCell (.inr hg) _)

theorem run_min2 {P : Program} (W : World) (ts : Array TypeId) (t : TypeId) (a b m : Int) (hm : m = min a b) : (Builtin.min_ ts t #[.int .i64 a, .int .i64 b]).run P W = .ok (.int .i64 m) W := by
  have e : ∀ x y : Int, (if y < x then y else x) = min x y := by
    intro x y; rw [Int.min_def]; split <;> split <;> omega
  subst hm
  simp [Builtin.min_, Builtin.min2, e]
theorem run_max2 {P : Program} (W : World) (ts : Array TypeId) (t : TypeId) (a b m : Int) (hm : m = max a b) : (Builtin.max_ ts t #[.int .i64 a, .int .i64 b]).run P W = .ok (.int .i64 m) W := by
  have e : ∀ x y : Int, (if y > x then y else x) = max x y := by
    intro x y; rw [Int.max_def]; split <;> split <;> omega
  subst hm
  simp [Builtin.max_, Builtin.max2, e]

theorem next_pos (X : Wt) (wt : Int) (N : Nat) (M : Int) (κ : Nat) : 0 < (X.next wt N M κ).s := by unfold Wt.next; split <;> simp
/-- What Bound is asked, and what it answers. -/
theorem next_ok {l : Nat → List It} {ws : Nat → List (Int × Int)} {ks : Nat → Nat} {d : Int} {t : Nat} {Y : Wt} (h : WInv l ws ks d t Y) (h0 : ∀ j, ValidP (l j)) (ht : t ≤ 200) (hs : 0 < Y.s) (W : World) :
    (Calls Try.prog 11 #[.int .i64 Y.n, .int .i64 Y.k, .int .i64 Y.least, .int .i64 Y.most] W fun e w' => e = .returned (.tuple #[.int .i64 (boundI Y.n Y.k Y.least Y.most), .int .i64 0]) ∧ w' = W) ∧ ¬ boundI Y.n Y.k Y.least Y.most < (Y.s : Int) := by
  obtain ⟨n1, n2, n3, n4, n5, n6, n7⟩ := h.bd hs
  refine ⟨Bound_ok W Y.n Y.k Y.least Y.most (by omega) (by omega) (by omega) (by omega) n1 n2 n3, ?_⟩
  have := h.bound h0 ht hs
  unfold boundI
  exact Int.not_lt.2 this
theorem next_zero {xs : Nat} (h : xs = 0) (xl : Int) (xn : Nat) (xm : Int) (xk : Nat) (wt : Int) (N : Nat) (M : Int) (κ : Nat) : (Wt.mk xs xl xn xm xk).next wt N M κ = ⟨1, wt, N, M, κ⟩ := by unfold Wt.next; rw [if_pos h]
theorem next_more {xs : Nat} (h : ¬ xs = 0) (xl : Int) (xn : Nat) (xm : Int) (xk : Nat) (wt : Int) (N : Nat) (M : Int) (κ : Nat) : (Wt.mk xs xl xn xm xk).next wt N M κ = ⟨xs + 1, min xl wt, max xn N, max xm M, min xk κ⟩ := by unfold Wt.next; rw [if_neg h]
theorem cast_max (a b : Nat) : ((max a b : Nat) : Int) = max (a : Int) (b : Int) := by omega
theorem cast_min (a b : Nat) : ((min a b : Nat) : Int) = min (a : Int) (b : Int) := by omega
end Go.Proofs.Ytkiknbjokknemaa
