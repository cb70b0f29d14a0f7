/-
  THE CONTRACTS IN THE PLAINEST WORDS.
-/
import Derived.Test.YtkiknbjokknemaaBudAB
namespace Go.Proofs.Ytkiknbjokknemaa
open Go.RowKit

/-! Contracts in the plainest words: nothing old has changed. -/
theorem Sl.up {w w' : World} {sz n c : Nat} {A : Option Addr} {xs : List Value} (h : Sl w (fun _ => 0) 0 sz A n c xs) (hb : Below w.heap.size w w') : Sl w' (fun _ => 0) 0 sz A n c xs := (h.step ((Step.refl [] w _).below hb 5) (by simp)).old0
theorem ListsAt.old0 {w : World} {o : Own} {τ τ2 : Nat} {A : Option Addr} {n c : Nat} {ls : List (List Int)} (h : ListsAt w o τ τ2 A n c ls) : ListsAt w (fun _ => 0) 0 0 A n c ls := by
  obtain ⟨vs, hr, hl, hv⟩ := h
  refine ⟨vs, ⟨hr.1, fun _ _ => rfl⟩, hl, fun i v hi => ?_⟩
  obtain ⟨S, len, cap, x, a, b, d, e⟩ := hv i v hi
  exact ⟨S, len, cap, x, a, b, d, e.old0⟩
theorem ListsAt.up {w w' : World} {A : Option Addr} {n c : Nat} {ls : List (List Int)} (h : ListsAt w (fun _ => 0) 0 0 A n c ls) (hb : Below w.heap.size w w') : ListsAt w' (fun _ => 0) 0 0 A n c ls := (h.step ((Step.refl [] w _).below hb 5) (by simp) (by simp)).old0
theorem Blk.up {w w' : World} {g : Nat} {t : TypeId} {cs : Array Value} (h : Blk w g t cs) (hb : Below w.heap.size w w') : Blk w' g t cs := h.below hb h.lt
theorem below_then {w w1 w2 : World} (h : Below w.heap.size w w1) (h2 : Below w1.heap.size w1 w2) : Below w.heap.size w w2 := h.trans (h2.mono h.size)

theorem made0 (w : World) (bits weights k : Int) (hb0 : 0 ≤ bits) (hb1 : bits ≤ 65535) (hw0 : 0 ≤ weights) (hw1 : weights ≤ 18446744073709551615) (hk0 : 0 ≤ k) (hk1 : k ≤ 255) :
    Calls Try.prog 16 #[.agg #[.int .u16 bits, .int .u64 weights, .int .u8 k]] w fun e w' => ∃ A c, e = .returned (.tuple #[.slice A (madeTo bits.toNat weights.toNat 16).length c, .int .i64 (1 + k % 4)]) ∧ Below w.heap.size w w' ∧ Sl w' (fun _ => 0) 0 2 A (madeTo bits.toNat weights.toNat 16).length c (wnts (madeTo bits.toNat weights.toNat 16)) := by
  refine (made_any w (fun _ => 0) 20 bits weights k hb0 hb1 hw0 hw1 hk0 hk1 (fun _ _ => by decide) (by decide)).mono ?_
  rintro e w' ⟨A, n, c, o', rfl, hst, hr⟩
  have hn : n = (madeTo bits.toNat weights.toNat 16).length := by have := hr.len; rw [len_wnts] at this; omega
  subst hn
  exact ⟨A, c, rfl, hst.to_below (by simp), hr.sl.old0⟩

theorem step0 (w : World) (A : Option Addr) (n c : Nat) (l : List It) (hA : Sl w (fun _ => 0) 0 3 A n c (itms l)) (B : Option Addr) (m d : Nat) (ws : List (Int × Int)) (hB : Sl w (fun _ => 0) 0 2 B m d (wnts ws)) (hv : ValidP l) (hr : RightP ws) (k : Nat) (hk : k ≤ 64) :
    Calls Try.prog 17 #[.slice A n c, .slice B m d, .int .i64 k] w fun e w' => ∃ A' SA sc, e = .returned (.tuple #[.slice A' ws.length ws.length, .slice SA (stepM l ws k).2.length sc, .int .i64 0]) ∧ Below w.heap.size w w' ∧
      Sl w' (fun _ => 0) 0 3 A' ws.length ws.length (itms (stepM l ws k).1) ∧ Sl w' (fun _ => 0) 0 1 SA (stepM l ws k).2.length sc (ints (stepM l ws k).2) := by
  refine (Step_any w (fun _ => 0) 0 0 A n c l hA B m d ws hB hv hr k (by omega)).mono ?_
  rintro e w' ⟨ob, SA, sc, o', rfl, hb, -, -, h1, h2⟩
  exact ⟨_, SA, sc, rfl, hb, h1.sl.old0, h2.sl.old0⟩

theorem run0 (w : World) (A : Option Addr) (n c : Nat) (l : List It) (hA : Sl w (fun _ => 0) 0 3 A n c (itms l)) (B : Option Addr) (m d : Nat) (ws : List (Int × Int)) (hB : Sl w (fun _ => 0) 0 2 B m d (wnts ws)) (hv : ValidP l) (hr : RightP ws) (k : Nat) (hk : k ≤ 64) (s : Nat) (hs : s ≤ 10000) :
    Calls Try.prog 19 #[.slice A n c, .slice B m d, .int .i64 k, .int .i64 s] w fun e w' => ∃ A' c' LA lc, e = .returned (.tuple #[.slice A' (runM l ws k s).1.length c', .slice LA s lc, .int .i64 0]) ∧ Below w.heap.size w w' ∧
      Sl w' (fun _ => 0) 0 3 A' (runM l ws k s).1.length c' (itms (runM l ws k s).1) ∧ ListsAt w' (fun _ => 0) 0 0 LA s lc (runM l ws k s).2 := by
  refine (Run_any w (fun _ => 0) 0 0 A n c l hA B m d ws hB hv hr k (by omega) s hs).mono ?_
  rintro e w' ⟨A', n', c', LA, lc, o', rfl, hst, rfl, h1, h2⟩
  exact ⟨A', c', LA, lc, rfl, hst.to_below (by simp), h1.old0, h2.old0⟩

theorem items0 (w : World) (A : Option Addr) (n c : Nat) (l : List It) (hA : Sl w (fun _ => 0) 0 3 A n c (itms l)) (hn : n ≤ 1000) :
    Calls Try.prog 21 #[.slice A n c] w fun e w' => ∃ B d, e = .returned (.slice B n d) ∧ Below w.heap.size w w' ∧ Sl w' (fun _ => 0) 0 3 B n d (itms l) := by
  refine (items_any w (fun _ => 0) 0 A n c l hA hn).mono ?_
  rintro e w' ⟨B, d, o', rfl, hst, hr⟩
  exact ⟨B, d, rfl, hst.to_below (by simp), hr.sl.old0⟩

theorem same0 (w : World) (A B : Option Addr) (n c m d : Nat) (ls : List It) (hS : Sl w (fun _ => 0) 0 3 A n c (itms ls)) (hT : Sl w (fun _ => 0) 0 3 B m d (itms ls)) :
    Calls Try.prog 20 #[.slice A n c, .slice B m d] w fun e w' => e = .returned (.bool true) ∧ Below w.heap.size w w' := by
  refine (same_any w (fun _ => 0) (fun _ => 0) 0 0 A B n c m d ls ls hS hT).mono ?_
  rintro e w' ⟨he, k, rfl⟩
  exact ⟨by rw [he]; simp, Below.drewK (Below.refl _ _) k⟩

theorem lists0 (w : World) (A B : Option Addr) (n c m d : Nat) (ls ms : List (List Int)) (h : ls = ms) (hS : ListsAt w (fun _ => 0) 0 0 A n c ls) {o : Own} {τ τ2 : Nat} (hT : ListsAt w o τ τ2 B m d ms) :
    Calls Try.prog 22 #[.slice A n c, .slice B m d] w fun e w' => e = .returned (.bool true) ∧ Below w.heap.size w w' := by
  refine (sameLists_any w (fun _ => 0) o 0 0 τ τ2 A B n c m d ls ms hS hT).mono ?_
  rintro e w' ⟨he, k, rfl⟩
  exact ⟨by rw [he, h]; simp, Below.drewK (Below.refl _ _) k⟩

theorem ints0 (w : World) (A B : Option Addr) (n c m d : Nat) (ls : List Int) (hS : Sl w (fun _ => 0) 0 1 A n c (ints ls)) (hT : Sl w (fun _ => 0) 0 1 B m d (ints ls)) :
    Calls Try.prog 23 #[.slice A n c, .slice B m d] w fun e w' => e = .returned (.bool true) ∧ Below w.heap.size w w' := by
  refine (SameInts_any w (fun _ => 0) (fun _ => 0) 0 0 A B n c m d ls ls hS hT).mono ?_
  rintro e w' ⟨he, k, rfl⟩
  exact ⟨by rw [he]; simp, Below.drewK (Below.refl _ _) k⟩
end Go.Proofs.Ytkiknbjokknemaa
