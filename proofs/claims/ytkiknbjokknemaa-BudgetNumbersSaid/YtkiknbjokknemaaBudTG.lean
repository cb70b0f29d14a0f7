/-
  A NUMBER OF math/big WITH ONE LIMB AT MOST: how it lies in memory; Sign, low64, Int64.
-/
import Derived.Test.YtkiknbjokknemaaBudR
namespace Go.Proofs.Ytkiknbjokknemaa
open Go.RowKit

/-- A big number: its sign and its limb. -/
def BigIs (w : World) (b : Nat) (z : Int) : Prop := ∃ (A : Option Addr) (n c : Nat), w.cell? ⟨b, 0, none⟩ = some (.bool (decide (z < 0))) ∧ w.cell? ⟨b, 1, none⟩ = some (.slice A n c) ∧
  ((z = 0 ∧ n = 0) ∨ (z ≠ 0 ∧ n = 1 ∧ ∃ g off, A = some ⟨g, off, none⟩ ∧ w.cell? ⟨g, off, none⟩ = some (.int .u64 (z.natAbs : Int)))) ∧ n ≤ c ∧ z.natAbs ≤ 18446744073709551615

def signI (z : Int) : Int := if z = 0 then 0 else if z < 0 then -1 else 1

set_option maxRecDepth 100000 in
set_option maxHeartbeats 800000 in
theorem Sign_any (w : World) (b : Nat) (z : Int) (h : BigIs w b z) :
    Calls Try.prog 52 #[.pointer (some ⟨b, 0, none⟩)] w fun e w' => e = .returned (.int .i64 (signI z)) ∧ w' = w := by
  obtain ⟨A, n, c, h1, h2, h3, h4, h5⟩ := h
  rcases h3 with ⟨rfl, rfl⟩ | ⟨hz, rfl, -⟩
  · have hv := Lib.hid (show signI 0 = 0 from rfl)
    go_enter Try.func52, Try.ntmps52
    go_wp2_with fail
    go_ret
    exact ⟨by rw [hv.out]; rfl, rfl⟩
  · by_cases hn : z < 0
    · have hv := Lib.hid (show signI z = -1 by unfold signI; rw [if_neg hz, if_pos hn])
      rw [decide_eq_true hn] at h1
      go_enter Try.func52, Try.ntmps52
      go_wp2_with fail
      go_ret
      exact ⟨by rw [hv.out]; rfl, rfl⟩
    · have hv := Lib.hid (show signI z = 1 by unfold signI; rw [if_neg hz, if_neg hn])
      rw [decide_eq_false hn] at h1
      go_enter Try.func52, Try.ntmps52
      go_wp2_with fail
      go_ret
      exact ⟨by rw [hv.out]; rfl, rfl⟩

/-- The limb of a slice of one limb at most. -/
def LimbAt (w : World) (A : Option Addr) (n c : Nat) (m : Nat) : Prop := ((m = 0 ∧ n = 0) ∨ (m ≠ 0 ∧ n = 1 ∧ ∃ g off, A = some ⟨g, off, none⟩ ∧ w.cell? ⟨g, off, none⟩ = some (.int .u64 (m : Int)))) ∧ n ≤ c

set_option maxRecDepth 100000 in
set_option maxHeartbeats 800000 in
theorem low64_any (w : World) (A : Option Addr) (n c m : Nat) (h : LimbAt w A n c m) :
    Calls Try.prog 73 #[.slice A n c] w fun e w' => e = .returned (.int .u64 (m : Int)) ∧ w' = w := by
  obtain ⟨⟨rfl, rfl⟩ | ⟨hm, rfl, g, off, rfl, h1⟩, h2⟩ := h
  · go_enter Try.func73, Try.ntmps73
    go_wp2_with fail
    go_ret
    exact ⟨rfl, rfl⟩
  · go_enter Try.func73, Try.ntmps73
    go_wp2_with fail
    go_ret
    exact ⟨rfl, rfl⟩

theorem BigIs.limb {w : World} {b : Nat} {z : Int} (h : BigIs w b z) (hz : 0 ≤ z) : ∃ (A : Option Addr) (n c : Nat), w.cell? ⟨b, 0, none⟩ = some (.bool false) ∧ w.cell? ⟨b, 1, none⟩ = some (.slice A n c) ∧ n ≤ 1 ∧ LimbAt w A n c z.toNat := by
  obtain ⟨A, n, c, h1, h2, h3, h4, h5⟩ := h
  refine ⟨A, n, c, by rw [h1, decide_eq_false (by omega)], h2, by omega, ?_, h4⟩
  rcases h3 with ⟨h, h'⟩ | ⟨h, h', g, off, ha, hc⟩
  · exact .inl ⟨by omega, h'⟩
  · exact .inr ⟨by omega, h', g, off, ha, by rw [hc, show z.natAbs = z.toNat by omega]⟩

set_option maxRecDepth 100000 in
set_option maxHeartbeats 800000 in
theorem Int64_pos (w : World) (b : Nat) (z : Int) (hz : 0 ≤ z) (hz2 : z ≤ 9223372036854775807) (h : BigIs w b z) :
    Calls Try.prog 51 #[.pointer (some ⟨b, 0, none⟩)] w fun e w' => e = .returned (.int .i64 z) ∧ w' = w := by
  obtain ⟨m, rfl⟩ := Int.eq_ofNat_of_zero_le hz
  obtain ⟨A, n, c, h1, h2, -, h3⟩ := h.limb hz
  rw [Int.toNat_natCast] at h3
  have hl := Lib.hid (low64_any w A n c m h3)
  clear h h3
  go_enter Try.func51, Try.ntmps51
  go_wp2_with fail
  refine hl.out.mono ?_
  rintro e w1 ⟨rfl, rfl⟩
  go_wp2_with fail
  go_ret
  exact ⟨rfl, rfl⟩

set_option maxRecDepth 100000 in
set_option maxHeartbeats 800000 in
theorem IsInt64_pos (w : World) (b : Nat) (z : Int) (hz : 0 ≤ z) (h : BigIs w b z) :
    Calls Try.prog 50 #[.pointer (some ⟨b, 0, none⟩)] w fun e w' => e = .returned (.bool (decide (z ≤ 9223372036854775807))) ∧ w' = w := by
  obtain ⟨m, rfl⟩ := Int.eq_ofNat_of_zero_le hz
  have hmax : m ≤ 18446744073709551615 := by obtain ⟨A, n, c, -, -, -, -, h5⟩ := h; omega
  obtain ⟨A, n, c, h1, h2, hn, h3⟩ := h.limb hz
  rw [Int.toNat_natCast] at h3
  have hl := Lib.hid (low64_any w A n c m h3)
  clear h h3
  by_cases hle : m ≤ 9223372036854775807
  · have hv := Lib.hid (show decide ((m : Int) ≤ 9223372036854775807) = true by simp; omega)
    go_enter Try.func50, Try.ntmps50
    go_wp2_with fail
    refine hl.out.mono ?_
    rintro e w1 ⟨rfl, rfl⟩
    go_wp2_with fail
    go_ret
    exact ⟨by rw [hv.out]; rfl, rfl⟩
  · have hv := Lib.hid (show decide ((m : Int) ≤ 9223372036854775807) = false by simp; omega)
    have hw : IntKind.i64.wrap (m : Int) = (m : Int) - 18446744073709551616 := by unfold IntKind.wrap; simp [IntKind.signed, IntKind.bits]; omega
    obtain ⟨v, hvv⟩ : ∃ v, v = (m : Int) - 18446744073709551616 := ⟨_, rfl⟩
    rw [← hvv] at hw
    have hv0 : v < 0 := by omega
    have hd : decide (v ≥ 0) = false := by simp; omega
    clear hvv
    go_enter Try.func50, Try.ntmps50
    go_wp2_with fail
    refine hl.out.mono ?_
    rintro e w1 ⟨rfl, rfl⟩
    go_wp2_with fail
    go_ret
    exact ⟨by rw [hv.out]; rfl, rfl⟩
end Go.Proofs.Ytkiknbjokknemaa
