/-
  math/big.NewInt.
-/
import Derived.Test.YtkiknbjokknemaaBudTH
namespace Go.Proofs.Ytkiknbjokknemaa
open Go.RowKit

/-- A new number lies in memory. -/
theorem BigIs.new0 (w : World) (t : TypeId) : BigIs (w.alloc (.cells #[.bool false, .slice none 0 0] t)) w.heap.size 0 := by
  have b := Blk.new w t #[.bool false, .slice none 0 0]
  exact ⟨none, 0, 0, by rw [b.cell]; rfl, by rw [b.cell]; rfl, .inl ⟨rfl, rfl⟩, Nat.le_refl _, by decide⟩
theorem BigIs.new1 (w : World) (t t' : TypeId) (z : Int) (c : Nat) (hz : z ≠ 0) (hc : 1 ≤ c) (hm : z.natAbs ≤ 18446744073709551615) (neg : Bool) (hn : neg = decide (z < 0)) (m : Int) (hmz : m = (z.natAbs : Int)) :
    BigIs ((w.alloc (.cells #[.int .u64 m] t)).alloc (.cells #[.bool neg, .slice (some ⟨w.heap.size, 0, none⟩) 1 c] t')) (w.heap.size + 1) z := by
  have b1 := Blk.new w t #[.int .u64 m]
  have b2 := Blk.new (w.alloc (.cells #[.int .u64 m] t)) t' #[.bool neg, .slice (some ⟨w.heap.size, 0, none⟩) 1 c]
  rw [World.size_alloc] at b2
  have hb := (Below.refl (w.alloc (.cells #[.int .u64 m] t)).heap.size (w.alloc (.cells #[.int .u64 m] t))).alloc (Nat.le_refl _) (.cells #[.bool neg, .slice (some ⟨w.heap.size, 0, none⟩) 1 c] t')
  refine ⟨some ⟨w.heap.size, 0, none⟩, 1, c, by rw [b2.cell, hn]; rfl, by rw [b2.cell]; rfl, .inr ⟨hz, rfl, w.heap.size, 0, rfl, ?_⟩, hc, hm⟩
  rw [hb.cell (by rw [World.size_alloc]; exact Nat.lt_succ_self _), b1.cell, hmz]
  rfl

def NewTo (w : World) (z : Int) (e : Ending) (w' : World) : Prop := ∃ b, e = .returned (.pointer (some ⟨b, 0, none⟩)) ∧ w.heap.size ≤ b ∧ Below w.heap.size w w' ∧ BigIs w' b z

set_option maxRecDepth 100000 in
set_option maxHeartbeats 800000 in
theorem NewInt_any (w : World) (z : Int) (h1 : -9223372036854775808 ≤ z) (h2 : z ≤ 9223372036854775807) :
    Calls Try.prog 85 #[.int .i64 z] w (NewTo w z) := by
  rcases Int.lt_trichotomy z 0 with hz | rfl | hz
  · obtain ⟨m, hm⟩ : ∃ m : Int, m = -z := ⟨_, rfl⟩
    have hm1 : 1 ≤ m := by omega
    have hm2 : m ≤ 9223372036854775808 := by omega
    obtain ⟨u, hu⟩ : ∃ u : Int, u = z + 18446744073709551616 := ⟨_, rfl⟩
    have hw1 : IntKind.u64.wrap z = u := by unfold IntKind.wrap; simp [IntKind.signed, IntKind.bits]; omega
    have hw2 : IntKind.u64.wrap (-u) = m := by unfold IntKind.wrap; simp [IntKind.signed, IntKind.bits]; omega
    have hfin := Lib.hid (fun t t' c (hc : 1 ≤ c) => BigIs.new1 w t t' z c (by omega) hc (by omega) true (by simp; omega) m (by omega))
    clear hu hm
    go_enter Try.func85, Try.ntmps85
    go_wp2_with fail
    go_ret
    exact ⟨w.heap.size + 1, rfl, by omega, ((Below.refl _ _).alloc (Nat.le_refl _) _).alloc (by rw [World.size_alloc]; omega) _, hfin.out _ _ 1 (by decide)⟩
  · go_enter Try.func85, Try.ntmps85
    go_wp2_with fail
    go_ret
    exact ⟨w.heap.size, rfl, Nat.le_refl _, (Below.refl _ _).alloc (Nat.le_refl _) _, BigIs.new0 w _⟩
  · have hw1 : IntKind.u64.wrap z = z := by unfold IntKind.wrap; simp [IntKind.signed, IntKind.bits]; omega
    have hfin := Lib.hid (fun t t' c (hc : 1 ≤ c) => BigIs.new1 w t t' z c (by omega) hc (by omega) (decide (z < 0)) rfl z (by omega))
    go_enter Try.func85, Try.ntmps85
    go_wp2_with fail
    go_ret
    exact ⟨w.heap.size + 1, rfl, by omega, ((Below.refl _ _).alloc (Nat.le_refl _) _).alloc (by rw [World.size_alloc]; omega) _, hfin.out _ _ 1 (by decide)⟩
end Go.Proofs.Ytkiknbjokknemaa
