/-
  Joined: BudTG, BudTH, BudTI, BudTJ, BudTK, BudTL, BudTM, BudTN, BudTO, BudTOB, BudTOC, BudTOD, BudTP.
-/
import Derived.Test.YtkiknbjokknemaaGreatBudR
import Derived.Test.YtkiknbjokknemaaGreatBudF
import Derived.Laws.Externs
import Derived.Laws.Twins
import Derived.Laws.IdiomCopy
import Derived.LaidEqlPtr

/- A NUMBER OF math/big WITH ONE LIMB AT MOST: how it lies in memory; Sign, low64, Int64. -/
namespace Go.Proofs.YtkiknbjokknemaaGreat
open Go.RowKit

/-- A big number: its sign and its limb. -/
def BigIs (w : World) (b : Nat) (z : Int) : Prop := ∃ (A : Option Addr) (n c : Nat), w.cell? ⟨b, 0, none⟩ = some (.bool (decide (z < 0))) ∧ w.cell? ⟨b, 1, none⟩ = some (.slice A n c) ∧
  ((z = 0 ∧ n = 0) ∨ (z ≠ 0 ∧ n = 1 ∧ ∃ g off, A = some ⟨g, off, none⟩ ∧ w.cell? ⟨g, off, none⟩ = some (.int .u64 (z.natAbs : Int)))) ∧ n ≤ c ∧ z.natAbs ≤ 18446744073709551615

def signI (z : Int) : Int := if z = 0 then 0 else if z < 0 then -1 else 1

set_option maxRecDepth 100000 in
set_option maxHeartbeats 800000 in
theorem Sign_any (w : World) (b : Nat) (z : Int) (h : BigIs w b z) :
    Calls Tryz.prog 110 #[.pointer (some ⟨b, 0, none⟩)] w fun e w' => e = .returned (.int .i64 (signI z)) ∧ w' = w := by
  obtain ⟨A, n, c, h1, h2, h3, h4, h5⟩ := h
  rcases h3 with ⟨rfl, rfl⟩ | ⟨hz, rfl, -⟩
  · have hv := Lib.hid (show signI 0 = 0 from rfl)
    go_enter Tryz.func110, Tryz.ntmps110
    go_wp2_with fail
    go_ret
    exact ⟨by rw [hv.out]; rfl, rfl⟩
  · by_cases hn : z < 0
    · have hv := Lib.hid (show signI z = -1 by unfold signI; rw [if_neg hz, if_pos hn])
      rw [decide_eq_true hn] at h1
      go_enter Tryz.func110, Tryz.ntmps110
      go_wp2_with fail
      go_ret
      exact ⟨by rw [hv.out]; rfl, rfl⟩
    · have hv := Lib.hid (show signI z = 1 by unfold signI; rw [if_neg hz, if_neg hn])
      rw [decide_eq_false hn] at h1
      go_enter Tryz.func110, Tryz.ntmps110
      go_wp2_with fail
      go_ret
      exact ⟨by rw [hv.out]; rfl, rfl⟩

/-- The limb of a slice of one limb at most. -/
def LimbAt (w : World) (A : Option Addr) (n c : Nat) (m : Nat) : Prop := ((m = 0 ∧ n = 0) ∨ (m ≠ 0 ∧ n = 1 ∧ ∃ g off, A = some ⟨g, off, none⟩ ∧ w.cell? ⟨g, off, none⟩ = some (.int .u64 (m : Int)))) ∧ n ≤ c

set_option maxRecDepth 100000 in
set_option maxHeartbeats 800000 in
theorem low64_any (w : World) (A : Option Addr) (n c m : Nat) (h : LimbAt w A n c m) :
    Calls Tryz.prog 133 #[.slice A n c] w fun e w' => e = .returned (.int .u64 (m : Int)) ∧ w' = w := by
  obtain ⟨⟨rfl, rfl⟩ | ⟨hm, rfl, g, off, rfl, h1⟩, h2⟩ := h
  · go_enter Tryz.func133, Tryz.ntmps133
    go_wp2_with fail
    go_ret
    exact ⟨rfl, rfl⟩
  · go_enter Tryz.func133, Tryz.ntmps133
    go_wp2_with fail
    go_ret
    exact ⟨rfl, rfl⟩

theorem BigIs.limb {w : World} {b : Nat} {z : Int} (h : BigIs w b z) (hz : 0 ≤ z) : ∃ (A : Option Addr) (n c : Nat), w.cell? ⟨b, 0, none⟩ = some (.bool false) ∧ w.cell? ⟨b, 1, none⟩ = some (.slice A n c) ∧ n ≤ 1 ∧ LimbAt w A n c z.toNat := by
  obtain ⟨A, n, c, h1, h2, h3, h4, h5⟩ := h
  refine ⟨A, n, c, by rw [h1, decide_eq_false (by omega)], h2, by omega, ?_, h4⟩
  rcases h3 with ⟨h, h'⟩ | ⟨h, h', g, off, ha, hc⟩
  · exact .inl ⟨by omega, h'⟩
  · exact .inr ⟨by omega, h', g, off, ha, by rw [hc, show z.natAbs = z.toNat by omega]⟩

set_option maxRecDepth 100000 in
set_option maxHeartbeats 800000 in
theorem Int64_pos (w : World) (b : Nat) (z : Int) (hz : 0 ≤ z) (hz2 : z ≤ 9223372036854775807) (h : BigIs w b z) :
    Calls Tryz.prog 109 #[.pointer (some ⟨b, 0, none⟩)] w fun e w' => e = .returned (.int .i64 z) ∧ w' = w := by
  obtain ⟨m, rfl⟩ := Int.eq_ofNat_of_zero_le hz
  obtain ⟨A, n, c, h1, h2, -, h3⟩ := h.limb hz
  rw [Int.toNat_natCast] at h3
  have hl := Lib.hid (low64_any w A n c m h3)
  clear h h3
  go_enter Tryz.func109, Tryz.ntmps109
  go_wp2_with fail
  refine hl.out.mono ?_
  rintro e w1 ⟨rfl, rfl⟩
  go_wp2_with fail
  go_ret
  exact ⟨rfl, rfl⟩

set_option maxRecDepth 100000 in
set_option maxHeartbeats 800000 in
theorem IsInt64_pos (w : World) (b : Nat) (z : Int) (hz : 0 ≤ z) (h : BigIs w b z) :
    Calls Tryz.prog 108 #[.pointer (some ⟨b, 0, none⟩)] w fun e w' => e = .returned (.bool (decide (z ≤ 9223372036854775807))) ∧ w' = w := by
  obtain ⟨m, rfl⟩ := Int.eq_ofNat_of_zero_le hz
  have hmax : m ≤ 18446744073709551615 := by obtain ⟨A, n, c, -, -, -, -, h5⟩ := h; omega
  obtain ⟨A, n, c, h1, h2, hn, h3⟩ := h.limb hz
  rw [Int.toNat_natCast] at h3
  have hl := Lib.hid (low64_any w A n c m h3)
  clear h h3
  by_cases hle : m ≤ 9223372036854775807
  · have hv := Lib.hid (show decide ((m : Int) ≤ 9223372036854775807) = true by simp; omega)
    go_enter Tryz.func108, Tryz.ntmps108
    go_wp2_with fail
    refine hl.out.mono ?_
    rintro e w1 ⟨rfl, rfl⟩
    go_wp2_with fail
    go_ret
    exact ⟨by rw [hv.out]; rfl, rfl⟩
  · have hv := Lib.hid (show decide ((m : Int) ≤ 9223372036854775807) = false by simp; omega)
    have hw : IntKind.i64.wrap (m : Int) = (m : Int) - 18446744073709551616 := by unfold IntKind.wrap; simp [IntKind.signed, IntKind.bits]; omega
    obtain ⟨v, hvv⟩ : ∃ v, v = (m : Int) - 18446744073709551616 := ⟨_, rfl⟩
    rw [← hvv] at hw
    have hv0 : v < 0 := by omega
    have hd : decide (v ≥ 0) = false := by simp; omega
    clear hvv
    go_enter Tryz.func108, Tryz.ntmps108
    go_wp2_with fail
    refine hl.out.mono ?_
    rintro e w1 ⟨rfl, rfl⟩
    go_wp2_with fail
    go_ret
    exact ⟨by rw [hv.out]; rfl, rfl⟩
end Go.Proofs.YtkiknbjokknemaaGreat

/- math/big.NewInt, Sat of the reference. -/
namespace Go.Proofs.YtkiknbjokknemaaGreat
open Go.RowKit

/-- The reference's Sat of a number that is not negative. -/
theorem Sat_pos (w : World) (b : Nat) (z : Int) (hz : 0 ≤ z) (h : BigIs w b z) :
    Calls Tryz.prog 69 #[.pointer (some ⟨b, 0, none⟩)] w fun e w' => e = .returned (.int .i64 (min z 9223372036854775807)) ∧ w' = w := by
  have hI := Lib.hid (IsInt64_pos w b z hz h)
  by_cases hle : z ≤ 9223372036854775807
  · have hv := Lib.hid (show min z 9223372036854775807 = z by omega)
    rw [decide_eq_true hle] at hI
    have hJ := Lib.hid (Int64_pos w b z hz hle h)
    clear h
    go_enter Tryz.func69, Tryz.ntmps69
    go_wp2_with fail
    refine hI.out.mono ?_
    rintro e w1 ⟨rfl, rfl⟩
    go_wp2_with fail
    refine hJ.out.mono ?_
    rintro e w1 ⟨rfl, rfl⟩
    go_wp2_with fail
    go_ret
    exact ⟨by rw [hv.out]; rfl, rfl⟩
  · have hv := Lib.hid (show min z 9223372036854775807 = 9223372036854775807 by omega)
    rw [decide_eq_false hle] at hI
    have hS := Sign_any w b z h
    rw [show signI z = 1 by unfold signI; rw [if_neg (by omega), if_neg (by omega)]] at hS
    have hJ := Lib.hid hS
    clear h hS
    go_enter Tryz.func69, Tryz.ntmps69
    go_wp2_with fail
    refine hI.out.mono ?_
    rintro e w1 ⟨rfl, rfl⟩
    go_wp2_with fail
    refine hJ.out.mono ?_
    rintro e w1 ⟨rfl, rfl⟩
    go_wp2_with fail
    go_ret
    exact ⟨by rw [hv.out]; rfl, rfl⟩
end Go.Proofs.YtkiknbjokknemaaGreat

/- math/big.NewInt. -/
namespace Go.Proofs.YtkiknbjokknemaaGreat
open Go.RowKit

/-- A new number lies in memory. -/
theorem BigIs.new0 (w : World) (t : TypeId) : BigIs (w.alloc (.cells #[.bool false, .slice none 0 0] t)) w.heap.size 0 := by
  have b := Blk.new w t #[.bool false, .slice none 0 0]
  exact ⟨none, 0, 0, by rw [b.cell]; rfl, by rw [b.cell]; rfl, .inl ⟨rfl, rfl⟩, Nat.le_refl _, by decide⟩
theorem BigIs.new1 (w : World) (t t' : TypeId) (z : Int) (c : Nat) (hz : z ≠ 0) (hc : 1 ≤ c) (hm : z.natAbs ≤ 18446744073709551615) (neg : Bool) (hn : neg = decide (z < 0)) (m : Int) (hmz : m = (z.natAbs : Int)) :
    BigIs ((w.alloc (.cells #[.int .u64 m] t)).alloc (.cells #[.bool neg, .slice (some ⟨w.heap.size, 0, none⟩) 1 c] t')) (w.heap.size + 1) z := by
  have b1 := Blk.new w t #[.int .u64 m]
  have b2 := Blk.new (w.alloc (.cells #[.int .u64 m] t)) t' #[.bool neg, .slice (some ⟨w.heap.size, 0, none⟩) 1 c]
  rw [World.size_alloc] at b2
  have hb := (Below.refl (w.alloc (.cells #[.int .u64 m] t)).heap.size (w.alloc (.cells #[.int .u64 m] t))).alloc (Nat.le_refl _) (.cells #[.bool neg, .slice (some ⟨w.heap.size, 0, none⟩) 1 c] t')
  refine ⟨some ⟨w.heap.size, 0, none⟩, 1, c, by rw [b2.cell, hn]; rfl, by rw [b2.cell]; rfl, .inr ⟨hz, rfl, w.heap.size, 0, rfl, ?_⟩, hc, hm⟩
  rw [hb.cell (by rw [World.size_alloc]; exact Nat.lt_succ_self _), b1.cell, hmz]
  rfl

def NewTo (w : World) (z : Int) (e : Ending) (w' : World) : Prop := ∃ b, e = .returned (.pointer (some ⟨b, 0, none⟩)) ∧ w.heap.size ≤ b ∧ Below w.heap.size w w' ∧ BigIs w' b z

set_option maxRecDepth 100000 in
set_option maxHeartbeats 800000 in
theorem NewInt_any (w : World) (z : Int) (h1 : -9223372036854775808 ≤ z) (h2 : z ≤ 9223372036854775807) :
    Calls Tryz.prog 141 #[.int .i64 z] w (NewTo w z) := by
  rcases Int.lt_trichotomy z 0 with hz | rfl | hz
  · obtain ⟨m, hm⟩ : ∃ m : Int, m = -z := ⟨_, rfl⟩
    have hm1 : 1 ≤ m := by omega
    have hm2 : m ≤ 9223372036854775808 := by omega
    obtain ⟨u, hu⟩ : ∃ u : Int, u = z + 18446744073709551616 := ⟨_, rfl⟩
    have hw1 : IntKind.u64.wrap z = u := by unfold IntKind.wrap; simp [IntKind.signed, IntKind.bits]; omega
    have hw2 : IntKind.u64.wrap (-u) = m := by unfold IntKind.wrap; simp [IntKind.signed, IntKind.bits]; omega
    have hfin := Lib.hid (fun t t' c (hc : 1 ≤ c) => BigIs.new1 w t t' z c (by omega) hc (by omega) true (by simp; omega) m (by omega))
    clear hu hm
    go_enter Tryz.func141, Tryz.ntmps141
    go_wp2_with fail
    go_ret
    exact ⟨w.heap.size + 1, rfl, by omega, ((Below.refl _ _).alloc (Nat.le_refl _) _).alloc (by rw [World.size_alloc]; omega) _, hfin.out _ _ 1 (by decide)⟩
  · go_enter Tryz.func141, Tryz.ntmps141
    go_wp2_with fail
    go_ret
    exact ⟨w.heap.size, rfl, Nat.le_refl _, (Below.refl _ _).alloc (Nat.le_refl _) _, BigIs.new0 w _⟩
  · have hw1 : IntKind.u64.wrap z = z := by unfold IntKind.wrap; simp [IntKind.signed, IntKind.bits]; omega
    have hfin := Lib.hid (fun t t' c (hc : 1 ≤ c) => BigIs.new1 w t t' z c (by omega) hc (by omega) (decide (z < 0)) rfl z (by omega))
    go_enter Tryz.func141, Tryz.ntmps141
    go_wp2_with fail
    go_ret
    exact ⟨w.heap.size + 1, rfl, by omega, ((Below.refl _ _).alloc (Nat.le_refl _) _).alloc (by rw [World.size_alloc]; omega) _, hfin.out _ _ 1 (by decide)⟩
end Go.Proofs.YtkiknbjokknemaaGreat

/- math/big: the comparison of two limbs. -/
namespace Go.Proofs.YtkiknbjokknemaaGreat
open Go.RowKit

set_option maxRecDepth 100000 in
set_option maxHeartbeats 4000000 in
theorem natCmp_any (w : World) (A B : Option Addr) (n c n' c' m m' : Nat) (h : LimbAt w A n c m) (h' : LimbAt w B n' c' m') :
    Calls Tryz.prog 137 #[.slice A n c, .slice B n' c'] w fun e w' => e = .returned (.int .i64 (ordI m m')) ∧ ∃ k, w' = w.drewN k := by
  obtain ⟨⟨rfl, rfl⟩ | ⟨hm, rfl, g, off, rfl, h1⟩, h2⟩ := h
  · obtain ⟨⟨rfl, rfl⟩ | ⟨hm', rfl, g', off', rfl, h1'⟩, h2'⟩ := h'
    · go_enter Tryz.func137, Tryz.ntmps137
      go_wp2_with fail
      go_ret
      exact ⟨rfl, 0, rfl⟩
    · have hv := Lib.hid (show ordI ((0 : Nat) : Int) m' = -1 by unfold ordI; rw [if_pos (by omega)])
      go_enter Tryz.func137, Tryz.ntmps137
      go_wp2_with fail
      go_ret
      exact ⟨by rw [hv.out]; rfl, 0, rfl⟩
  · obtain ⟨⟨rfl, rfl⟩ | ⟨hm', rfl, g', off', rfl, h1'⟩, h2'⟩ := h'
    · have hv := Lib.hid (show ordI m ((0 : Nat) : Int) = 1 by unfold ordI; rw [if_neg (by omega), if_pos (by omega)])
      go_enter Tryz.func137, Tryz.ntmps137
      go_wp2_with fail
      go_ret
      exact ⟨by rw [hv.out]; rfl, 0, rfl⟩
    · rcases Nat.lt_trichotomy m m' with q | q | q
      · have hv := Lib.hid (show ordI m m' = -1 by unfold ordI; rw [if_pos (by omega)])
        have hd : decide ((m : Int) < (m' : Int)) = true := by simp; omega
        go_enter Tryz.func137, Tryz.ntmps137
        go_wp2_with fail
        refine wp_loop_rounds 1 ?_
        rw [rounds_succ]
        go_wp2_with fail
        go_quiet (fail)
        go_wp2_with fail
        go_quiet (fail)
        go_wp2_with fail
        go_ret
        exact ⟨by rw [hv.out]; rfl, _, by simp only [World.drewN_drewN]; rfl⟩
      · subst q
        have hv := Lib.hid (show ordI m m = 0 by unfold ordI; rw [if_neg (by omega), if_neg (by omega)])
        have hd : decide ((m : Int) < (m : Int)) = false := by simp
        go_enter Tryz.func137, Tryz.ntmps137
        go_wp2_with fail
        refine wp_loop_rounds 1 ?_
        rw [rounds_succ]
        go_wp2_with fail
        go_quiet (fail)
        go_wp2_with fail
        go_quiet (fail)
        go_wp2_with fail
        go_quiet (fail)
        go_wp2_with fail
        go_ret
        exact ⟨by rw [hv.out]; rfl, _, by simp only [World.drewN_drewN]; rfl⟩
      · have hv := Lib.hid (show ordI m m' = 1 by unfold ordI; rw [if_neg (by omega), if_pos (by omega)])
        have hd : decide ((m : Int) < (m' : Int)) = false := by simp; omega
        have hd2 : decide ((m' : Int) < (m : Int)) = true := by simp; omega
        go_enter Tryz.func137, Tryz.ntmps137
        go_wp2_with fail
        refine wp_loop_rounds 1 ?_
        rw [rounds_succ]
        go_wp2_with fail
        go_quiet (fail)
        go_wp2_with fail
        go_quiet (fail)
        go_wp2_with fail
        go_quiet (fail)
        go_wp2_with fail
        go_ret
        exact ⟨by rw [hv.out]; rfl, _, by simp only [World.drewN_drewN]; rfl⟩
end Go.Proofs.YtkiknbjokknemaaGreat

/- math/big: norm of one limb, and of two of which the upper one is 0. -/
namespace Go.Proofs.YtkiknbjokknemaaGreat
open Go.RowKit

set_option maxRecDepth 100000 in
set_option maxHeartbeats 4000000 in
theorem norm_one (w : World) (g off c m : Nat) (hm : m ≠ 0) (hc : 1 ≤ c) (hc2 : c ≤ 1000) (h : w.cell? ⟨g, off, none⟩ = some (.int .u64 (m : Int))) :
    Calls Tryz.prog 146 #[.slice (some ⟨g, off, none⟩) 1 c] w fun e w' => e = .returned (.slice (some ⟨g, off, none⟩) 1 c) ∧ ∃ k, w' = w.drewN k := by
  go_enter Tryz.func146, Tryz.ntmps146
  go_wp2_with fail
  refine wp_loop_rounds 1 ?_
  rw [rounds_succ]
  go_wp2_with fail
  go_ret
  exact ⟨rfl, 0, rfl⟩

set_option maxRecDepth 100000 in
set_option maxHeartbeats 4000000 in
theorem norm_two (w : World) (g off c m : Nat) (hm : m ≠ 0) (hc : 2 ≤ c) (hc2 : c ≤ 1000) (h : w.cell? ⟨g, off, none⟩ = some (.int .u64 (m : Int))) (h' : w.cell? ⟨g, off + 1, none⟩ = some (.int .u64 0)) :
    Calls Tryz.prog 146 #[.slice (some ⟨g, off, none⟩) 2 c] w fun e w' => e = .returned (.slice (some ⟨g, off, none⟩) 1 c) ∧ ∃ k, w' = w.drewN k := by
  go_enter Tryz.func146, Tryz.ntmps146
  go_wp2_with fail
  refine wp_loop_rounds 2 ?_
  rw [rounds_succ]
  go_wp2_with fail
  rw [rounds_succ]
  go_wp2_with fail
  go_ret
  exact ⟨rfl, 0, rfl⟩
end Go.Proofs.YtkiknbjokknemaaGreat

/- math/big: make of one limb and of two, out of nothing. -/
namespace Go.Proofs.YtkiknbjokknemaaGreat
open Go.RowKit

set_option maxRecDepth 100000 in
set_option maxHeartbeats 4000000 in
theorem natMake_one (w : World) :
    Calls Tryz.prog 143 #[.slice none 0 0, .int .i64 1] w fun e w' => e = .returned (.slice (some ⟨w.heap.size, 0, none⟩) 1 1) ∧ w' = w.alloc (.cells #[.int .u64 0] 253) := by
  have hmk : ∀ W, (Instr.makeSlice 243 (.int .i64 1) (.int .i64 1)).run Tryz.prog W = .ok (.slice (some ⟨W.heap.size, 0, none⟩) 1 1) (W.alloc (.cells #[.int .u64 0] 253)) := fun W => by kernel_rfl
  go_enter Tryz.func143, Tryz.ntmps143
  go_wp2_with fail
  go_ret
  exact ⟨rfl, rfl⟩

set_option maxRecDepth 100000 in
set_option maxHeartbeats 4000000 in
theorem natMake_two (w : World) :
    Calls Tryz.prog 143 #[.slice none 0 0, .int .i64 2] w fun e w' => e = .returned (.slice (some ⟨w.heap.size, 0, none⟩) 2 6) ∧ w' = w.alloc (.cells #[.int .u64 0, .int .u64 0, .int .u64 0, .int .u64 0, .int .u64 0, .int .u64 0] 253) := by
  have hmk : ∀ W, (Instr.makeSlice 243 (.int .i64 2) (.int .i64 6)).run Tryz.prog W = .ok (.slice (some ⟨W.heap.size, 0, none⟩) 2 6) (W.alloc (.cells #[.int .u64 0, .int .u64 0, .int .u64 0, .int .u64 0, .int .u64 0, .int .u64 0] 253)) := fun W => by kernel_rfl
  go_enter Tryz.func143, Tryz.ntmps143
  go_wp2_with fail
  go_ret
  exact ⟨rfl, rfl⟩
end Go.Proofs.YtkiknbjokknemaaGreat

/- math/big: set, the sum and the difference of numbers of one limb. -/
namespace Go.Proofs.YtkiknbjokknemaaGreat
open Go.RowKit

theorem add64_any (x y : Nat) (h : x + y ≤ 18446744073709551615) (w : World) : (callFunc 152 #[.int .u64 (x : Int), .int .u64 (y : Int), .int .u64 0]).run Tryz.prog w = .ok (.value (.tuple #[.int .u64 ((x : Int) + y), .int .u64 0])) w := by
  rw [run_callFunc_extern Tryz.func152 (by kernel_rfl) (by kernel_rfl) (by kernel_rfl) (e := add64Entry) (by kernel_rfl), run_add64 x y 0 (by omega) (by omega) (by omega) (by omega)]
  have e1 : ((x : Int) + y + 0) % 18446744073709551616 = (x : Int) + y := by omega
  have e2 : ((x : Int) + y + 0) / 18446744073709551616 = 0 := by omega
  rw [e1, e2]
  rfl

theorem sub64_any (x y : Nat) (h : y ≤ x) (hx : x ≤ 18446744073709551615) (w : World) : (callFunc 154 #[.int .u64 (x : Int), .int .u64 (y : Int), .int .u64 0]).run Tryz.prog w = .ok (.value (.tuple #[.int .u64 ((x : Int) - y), .int .u64 0])) w := by
  obtain ⟨e, he⟩ : ∃ e, Extern.find Tryz.f154 = some e := Option.isSome_iff_exists.1 (by kernel_rfl)
  rw [run_callFunc_extern Tryz.func154 (by kernel_rfl) (by kernel_rfl) (by kernel_rfl) he]
  have hk : (Extern.find Tryz.f154).map (fun e => (e #[.int .u64 (x : Int), .int .u64 (y : Int), .int .u64 0]).run Tryz.prog w) = some (.ok (.tuple #[.int .u64 (((x + 18446744073709551616 - y - 0) % 18446744073709551616 : Nat) : Int), .int .u64 ((if x < y + 0 then 1 else 0 : Nat) : Int)]) w) := by kernel_rfl
  rw [he, Option.map_some] at hk
  rw [Option.some.inj hk, if_neg (by omega)]
  rw [show (((x + 18446744073709551616 - y - 0) % 18446744073709551616 : Nat) : Int) = (x : Int) - y by omega]
  rfl

theorem addVV_enters (args : Array Value) (w : World) : (callFunc 144 args).run Tryz.prog w = .ok (.enter 127 args) w :=
  run_callFunc_twin (twin := "math/big.addVV_g") Tryz.func144 (by kernel_rfl) (by kernel_rfl) (by kernel_rfl) (by kernel_rfl) Tryz.func127 (by kernel_rfl) (by kernel_rfl) (by kernel_rfl) args w
theorem subVV_enters (args : Array Value) (w : World) : (callFunc 148 args).run Tryz.prog w = .ok (.enter 128 args) w :=
  run_callFunc_twin (twin := "math/big.subVV_g") Tryz.func148 (by kernel_rfl) (by kernel_rfl) (by kernel_rfl) (by kernel_rfl) Tryz.func128 (by kernel_rfl) (by kernel_rfl) (by kernel_rfl) args w

theorem copy_one (W : World) (b g off c : Nat) (m u : Int) (h : W.cell? ⟨g, off, none⟩ = some (.int .u64 m)) (hb : W.cell? ⟨b, 0, none⟩ = some (.int .u64 u)) (hf : W.frozen? ⟨b, 0, none⟩ = false) (ty : TypeId) :
    (Builtin.copy_ #[243, 243] ty #[.slice (some ⟨b, 0, none⟩) 1 1, .slice (some ⟨g, off, none⟩) 1 c]).run Tryz.prog W = .ok (goInt 1) (W.setCell ⟨b, 0, none⟩ (.int .u64 m)) := by
  refine run_copy_cells W _ _ ty 253 b 0 1 1 ⟨g, off, none⟩ 1 c [.int .u64 m] Tryz.underlying243 (by kernel_rfl) rfl ?_ ?_ ?_ ?_
  · intro j v hj
    cases j with
    | zero => simp only [List.getElem?_cons_zero, Option.some.injEq] at hj; subst hj; simpa [Addr.add] using h
    | succ j => simp at hj
  · intro j hj
    obtain rfl : j = 0 := by simpa using hj
    simp [hb]
  · intro j hj
    obtain rfl : j = 0 := by simpa using hj
    exact hf
  · intro v hv
    simp only [List.mem_singleton] at hv; subst hv; rfl

/-- A slice that is a limb in new memory. -/
def NewLimb (w : World) (m : Nat) (e : Ending) (w' : World) : Prop := ∃ (A : Option Addr) (n c : Nat), e = .returned (.slice A n c) ∧ n ≤ 1 ∧ c ≤ 1000 ∧ Below w.heap.size w w' ∧ LimbAt w' A n c m

set_option maxRecDepth 100000 in
set_option maxHeartbeats 4000000 in
theorem natSet_one (w : World) (g off c m : Nat) (hm : m ≠ 0) (h : w.cell? ⟨g, off, none⟩ = some (.int .u64 (m : Int))) :
    Calls Tryz.prog 142 #[.slice none 0 0, .slice (some ⟨g, off, none⟩) 1 c] w (NewLimb w m) := by
  have hl := Lib.hid (natMake_one w)
  have hg := World.block_lt_of_cell? w _ h
  have b := Blk.new w 253 #[.int .u64 0]
  have c0 := b.cell 0; have f0 := b.frozen 0
  have h' : (w.alloc (.cells #[.int .u64 0] 253)).cell? ⟨g, off, none⟩ = some (.int .u64 (m : Int)) := by rw [World.cell?_alloc_past _ _ _ hg]; exact h
  simp only [List.getElem?_toArray, List.getElem?_cons_zero] at c0
  have hcp := copy_one _ _ _ _ c _ _ h' c0 f0
  have hfin : NewLimb w m (.returned (.slice (some ⟨w.heap.size, 0, none⟩) 1 1)) (w.alloc (.cells #[.int .u64 (m : Int)] 253)) := by
    refine ⟨_, _, _, rfl, by decide, by decide, (Below.refl _ _).alloc (Nat.le_refl _) _, .inr ⟨hm, rfl, _, _, rfl, ?_⟩, by decide⟩
    rw [(Blk.new w 253 #[.int .u64 (m : Int)]).cell]; rfl
  have HF := Lib.hid hfin
  clear b hfin
  go_enter Tryz.func142, Tryz.ntmps142
  go_wp2_with fail
  refine hl.out.mono ?_
  rintro e w1 ⟨rfl, rfl⟩
  go_wp2_with fail
  go_ret
  exact HF.out

set_option maxRecDepth 100000 in
set_option maxHeartbeats 1000000 in
theorem bitsAdd_any (w : World) (x y : Nat) (h : x + y ≤ 18446744073709551615) : Calls Tryz.prog 147 #[.int .u64 (x : Int), .int .u64 (y : Int), .int .u64 0] w fun e w' => e = .returned (.tuple #[.int .u64 ((x : Int) + y), .int .u64 0]) ∧ w' = w := by
  have ha := add64_any x y h
  go_enter Tryz.func147, Tryz.ntmps147
  go_wp2_with fail
  go_ret2
  exact ⟨rfl, rfl⟩
set_option maxRecDepth 100000 in
set_option maxHeartbeats 1000000 in
theorem bitsSub_any (w : World) (x y : Nat) (h : y ≤ x) (hx : x ≤ 18446744073709551615) : Calls Tryz.prog 150 #[.int .u64 (x : Int), .int .u64 (y : Int), .int .u64 0] w fun e w' => e = .returned (.tuple #[.int .u64 ((x : Int) - y), .int .u64 0]) ∧ w' = w := by
  have ha := sub64_any x y h hx
  go_enter Tryz.func150, Tryz.ntmps150
  go_wp2_with fail
  go_ret2
  exact ⟨rfl, rfl⟩

set_option maxRecDepth 100000 in
set_option maxHeartbeats 4000000 in
theorem addVV_one (w : World) (b cz g off c1 g' off' c2 x y u : Nat) (h : x + y ≤ 18446744073709551615) (hz : w.cell? ⟨b, 0, none⟩ = some (.int .u64 (u : Int))) (hf : w.frozen? ⟨b, 0, none⟩ = false) (hx : w.cell? ⟨g, off, none⟩ = some (.int .u64 (x : Int))) (hy : w.cell? ⟨g', off', none⟩ = some (.int .u64 (y : Int))) :
    Calls Tryz.prog 127 #[.slice (some ⟨b, 0, none⟩) 1 cz, .slice (some ⟨g, off, none⟩) 1 c1, .slice (some ⟨g', off', none⟩) 1 c2] w fun e w' => e = .returned (.int .u64 0) ∧ ∃ k, w' = (w.setCell ⟨b, 0, none⟩ (.int .u64 ((x : Int) + y))).drewN k := by
  have hb := Lib.hid (fun W => bitsAdd_any W x y h)
  go_enter Tryz.func127, Tryz.ntmps127
  go_wp2_with fail
  refine wp_loop_rounds 2 ?_
  rw [rounds_succ]
  go_wp2_with fail
  go_quiet ((go_at_call 147; with_reducible exact Calls.quiet_of_same (hb.out _)))
  go_wp2_with fail
  rw [rounds_succ]
  go_wp2_with fail
  go_ret
  exact ⟨rfl, _, rfl⟩

set_option maxRecDepth 100000 in
set_option maxHeartbeats 4000000 in
theorem subVV_one (w : World) (b cz g off c1 g' off' c2 x y u : Nat) (h : y ≤ x) (hx0 : x ≤ 18446744073709551615) (hz : w.cell? ⟨b, 0, none⟩ = some (.int .u64 (u : Int))) (hf : w.frozen? ⟨b, 0, none⟩ = false) (hx : w.cell? ⟨g, off, none⟩ = some (.int .u64 (x : Int))) (hy : w.cell? ⟨g', off', none⟩ = some (.int .u64 (y : Int))) :
    Calls Tryz.prog 128 #[.slice (some ⟨b, 0, none⟩) 1 cz, .slice (some ⟨g, off, none⟩) 1 c1, .slice (some ⟨g', off', none⟩) 1 c2] w fun e w' => e = .returned (.int .u64 0) ∧ ∃ k, w' = (w.setCell ⟨b, 0, none⟩ (.int .u64 ((x : Int) - y))).drewN k := by
  have hb := Lib.hid (fun W => bitsSub_any W x y h hx0)
  go_enter Tryz.func128, Tryz.ntmps128
  go_wp2_with fail
  refine wp_loop_rounds 2 ?_
  rw [rounds_succ]
  go_wp2_with fail
  go_quiet ((go_at_call 150; with_reducible exact Calls.quiet_of_same (hb.out _)))
  go_wp2_with fail
  rw [rounds_succ]
  go_wp2_with fail
  go_ret
  exact ⟨rfl, _, rfl⟩
end Go.Proofs.YtkiknbjokknemaaGreat

/- math/big: nat.add, nat.sub of numbers of one limb. -/
namespace Go.Proofs.YtkiknbjokknemaaGreat
open Go.RowKit

theorem drewK_ {n : Nat} {w w' : World} (h : Below n w w') (k : Nat) : Below n w (w'.drewN k) := ⟨h.os, h.tape, h.output, h.size, h.block⟩
theorem run_headN (A : Option Addr) (n c k : Nat) (hk : k ≤ c) (W : World) : (Instr.slice 243 (.slice A n c) none (some (.int .i64 (k : Int))) none).run Tryz.prog W = .ok (.slice A k c) W := by
  obtain ⟨i, h1, h2, h3, h4⟩ := info_parts (P := Tryz.prog) (e := 253) (z := .int .u64 0) (size := 1) (bytes := 8) (by kernel_rfl)
  have ha : A.map (fun a : Addr => a.add 0) = A := by cases A <;> rfl
  simp [Instr.slice, Instr.sliceBounds, Instr.sliceBound, asIntOf, run_underlying Tryz.underlying243, sizeOf, typeInfo, h1, hk]
  intro _; exact ha
theorem run_head1 (A : Option Addr) (n c : Nat) (hk : 1 ≤ c) (W : World) : (Instr.slice 243 (.slice A n c) none (some (.int .i64 1)) none).run Tryz.prog W = .ok (.slice A 1 c) W := run_headN A n c 1 hk W

set_option maxRecDepth 100000 in
set_option maxHeartbeats 4000000 in
theorem norm_zero (w : World) (g off c : Nat) (hc : 1 ≤ c) (hc2 : c ≤ 1000) (h : w.cell? ⟨g, off, none⟩ = some (.int .u64 ((0 : Nat) : Int))) :
    Calls Tryz.prog 146 #[.slice (some ⟨g, off, none⟩) 1 c] w fun e w' => e = .returned (.slice (some ⟨g, off, none⟩) 0 c) ∧ ∃ k, w' = w.drewN k := by
  go_enter Tryz.func146, Tryz.ntmps146
  go_wp2_with fail
  refine wp_loop_rounds 2 ?_
  rw [rounds_succ]
  go_wp2_with fail
  rw [rounds_succ]
  go_wp2_with fail
  go_ret
  exact ⟨rfl, 0, rfl⟩

set_option maxRecDepth 100000 in
set_option maxHeartbeats 4000000 in
theorem natAdd_two (w : World) (g off c1 g' off' c2 x y : Nat) (h0 : x ≠ 0) (hc1 : 1 ≤ c1) (hc2 : 1 ≤ c2) (h : x + y ≤ 18446744073709551615) (hx : w.cell? ⟨g, off, none⟩ = some (.int .u64 (x : Int))) (hy : w.cell? ⟨g', off', none⟩ = some (.int .u64 (y : Int))) :
    Calls Tryz.prog 139 #[.slice none 0 0, .slice (some ⟨g, off, none⟩) 1 c1, .slice (some ⟨g', off', none⟩) 1 c2] w (NewLimb w (x + y)) := by
  have hl := Lib.hid (natMake_two w)
  have hg := World.block_lt_of_cell? w _ hx
  have hg' := World.block_lt_of_cell? w _ hy
  obtain ⟨W1, hW1⟩ : ∃ W1, W1 = (w.alloc (.cells #[.int .u64 0, .int .u64 0, .int .u64 0, .int .u64 0, .int .u64 0, .int .u64 0] 253)) := ⟨_, rfl⟩
  have b1 : Blk W1 w.heap.size 253 #[.int .u64 0, .int .u64 0, .int .u64 0, .int .u64 0, .int .u64 0, .int .u64 0] := by rw [hW1]; exact Blk.new w _ _
  have hb1 : Below w.heap.size w W1 := by rw [hW1]; exact (Below.refl _ _).alloc (Nat.le_refl _) _
  have hx1 : W1.drew.cell? ⟨g, off, none⟩ = some (.int .u64 (x : Int)) := (hb1.drew.cell hg).trans hx
  have hy1 : W1.drew.cell? ⟨g', off', none⟩ = some (.int .u64 (y : Int)) := (hb1.drew.cell hg').trans hy
  have ha := fun (cz : Nat) => addVV_one W1.drew w.heap.size cz g off c1 g' off' c2 x y 0 h (b1.drew.cell 0) (b1.drew.frozen 0) hx1 hy1
  rw [← hW1] at hl
  have HA := Lib.hid ha; have HB1 := Lib.hid hb1; have BL1 := Lib.hid b1
  have hen := addVV_enters
  have hh1 := run_head1 (some ⟨g, off, none⟩) 1 c1 hc1
  have hh2 := run_head1 (some ⟨g', off', none⟩) 1 c2 hc2
  clear ha hb1 b1 hx1 hy1 hx hy hW1
  go_enter Tryz.func139, Tryz.ntmps139
  go_wp2_with fail
  refine hl.out.mono ?_
  rintro e w1 ⟨rfl, rfl⟩
  go_wp2_with fail
  go_still_tail 9, (by kernel_rfl)
  change wpList _ _ _ _ _ (World.drew _)
  go_wp2_with fail
  refine (HA.out _).mono ?_
  rintro e w2 ⟨rfl, k2, rfl⟩
  have hB2 : Blk _ w.heap.size 253 _ := (((BL1.out.drew).set_ 0 (.int .u64 ((x : Int) + y))).drewN k2)
  have hbel := drewK_ ((HB1.out.drew).setCell (p := ⟨w.heap.size, 0, none⟩) (Nat.le_refl _) (.int .u64 ((x : Int) + y))) k2
  simp only [List.setIfInBounds_toArray, List.set_cons_zero] at hB2
  generalize ((World.drew w1).setCell ⟨w.heap.size, 0, none⟩ (.int .u64 ((x : Int) + y))).drewN k2 = W2 at hB2 hbel ⊢
  have c1 := hB2.cell 1; have f1 := hB2.frozen 1
  simp only [List.getElem?_toArray, List.getElem?_cons_zero, List.getElem?_cons_succ] at c1
  have hB3 := hB2.set_ 1 (.int .u64 0)
  have hbel3 := hbel.setCell (p := ⟨w.heap.size, 1, none⟩) (Nat.le_refl _) (.int .u64 0)
  obtain ⟨W3, hW3⟩ : ∃ W3, W3 = W2.setCell ⟨w.heap.size, 1, none⟩ (.int .u64 0) := ⟨_, rfl⟩
  rw [← hW3] at hB3 hbel3
  have d0 := hB3.cell 0; have d1 := hB3.cell 1
  simp only [List.setIfInBounds_toArray, List.set_cons_succ, List.set_cons_zero, List.getElem?_toArray, List.getElem?_cons_zero, List.getElem?_cons_succ] at d0 d1
  have hno := norm_two W3 w.heap.size 0 6 (x + y) (by omega) (by decide) (by decide) (by rw [d0]; push_cast; rfl) d1
  have HNO := Lib.hid hno; have HD0 := Lib.hid d0; have HBE := Lib.hid hbel3
  clear hno d0 d1 hbel3 hB3 hB2 hbel HA HB1 BL1
  go_wp2_with fail
  rw [← hW3]
  clear hW3
  refine HNO.out.mono ?_
  rintro e w4 ⟨rfl, k4, rfl⟩
  go_wp2_with fail
  go_ret
  exact ⟨_, _, _, rfl, by decide, by decide, drewK_ HBE.out k4, .inr ⟨by omega, rfl, _, _, rfl, by rw [World.cell?_drewN, HD0.out]; push_cast; rfl⟩, by decide⟩

set_option maxRecDepth 100000 in
set_option maxHeartbeats 4000000 in
theorem natSub_two (w : World) (g off c1 g' off' c2 x y : Nat) (hc1 : 1 ≤ c1) (hc2 : 1 ≤ c2) (h : y ≤ x) (hx0 : x ≤ 18446744073709551615) (hx : w.cell? ⟨g, off, none⟩ = some (.int .u64 (x : Int))) (hy : w.cell? ⟨g', off', none⟩ = some (.int .u64 (y : Int))) :
    Calls Tryz.prog 140 #[.slice none 0 0, .slice (some ⟨g, off, none⟩) 1 c1, .slice (some ⟨g', off', none⟩) 1 c2] w (NewLimb w (x - y)) := by
  have hl := Lib.hid (natMake_one w)
  have hg := World.block_lt_of_cell? w _ hx
  have hg' := World.block_lt_of_cell? w _ hy
  obtain ⟨W1, hW1⟩ : ∃ W1, W1 = (w.alloc (.cells #[.int .u64 0] 253)) := ⟨_, rfl⟩
  have b1 : Blk W1 w.heap.size 253 #[.int .u64 0] := by rw [hW1]; exact Blk.new w _ _
  have hb1 : Below w.heap.size w W1 := by rw [hW1]; exact (Below.refl _ _).alloc (Nat.le_refl _) _
  have hx1 : W1.drew.cell? ⟨g, off, none⟩ = some (.int .u64 (x : Int)) := (hb1.drew.cell hg).trans hx
  have hy1 : W1.drew.cell? ⟨g', off', none⟩ = some (.int .u64 (y : Int)) := (hb1.drew.cell hg').trans hy
  have ha := fun (cz : Nat) => subVV_one W1.drew w.heap.size cz g off c1 g' off' c2 x y 0 h hx0 (b1.drew.cell 0) (b1.drew.frozen 0) hx1 hy1
  rw [← hW1] at hl
  have HA := Lib.hid ha; have HB1 := Lib.hid hb1; have BL1 := Lib.hid b1
  have hen := subVV_enters
  have hh1 := run_head1 (some ⟨g, off, none⟩) 1 c1 hc1
  have hh2 := run_head1 (some ⟨g', off', none⟩) 1 c2 hc2
  clear ha hb1 b1 hx1 hy1 hx hy hW1
  go_enter Tryz.func140, Tryz.ntmps140
  go_wp2_with fail
  refine hl.out.mono ?_
  rintro e w1 ⟨rfl, rfl⟩
  go_wp2_with fail
  go_still_tail 9, (by kernel_rfl)
  change wpList _ _ _ _ _ (World.drew _)
  go_wp2_with fail
  refine (HA.out _).mono ?_
  rintro e w2 ⟨rfl, k2, rfl⟩
  have hB2 : Blk _ w.heap.size 253 _ := (((BL1.out.drew).set_ 0 (.int .u64 ((x : Int) - y))).drewN k2)
  have hbel := drewK_ ((HB1.out.drew).setCell (p := ⟨w.heap.size, 0, none⟩) (Nat.le_refl _) (.int .u64 ((x : Int) - y))) k2
  simp only [List.setIfInBounds_toArray, List.set_cons_zero] at hB2
  generalize ((World.drew w1).setCell ⟨w.heap.size, 0, none⟩ (.int .u64 ((x : Int) - y))).drewN k2 = W2 at hB2 hbel ⊢
  have d0 := hB2.cell 0
  simp only [List.getElem?_toArray, List.getElem?_cons_zero, ← Int.ofNat_sub h] at d0
  have hno : Calls Tryz.prog 146 #[.slice (some ⟨w.heap.size, 0, none⟩) 1 1] W2 (NewLimb w (x - y)) := by
    by_cases hz : x - y = 0
    · rw [hz] at d0
      refine (norm_zero W2 w.heap.size 0 1 (by decide) (by decide) d0).mono ?_
      rintro e w' ⟨rfl, k, rfl⟩
      exact ⟨_, _, _, rfl, by decide, by decide, drewK_ hbel k, .inl ⟨hz, rfl⟩, by decide⟩
    · refine (norm_one W2 w.heap.size 0 1 (x - y) hz (by decide) (by decide) d0).mono ?_
      rintro e w' ⟨rfl, k, rfl⟩
      exact ⟨_, _, _, rfl, by decide, by decide, drewK_ hbel k, .inr ⟨hz, rfl, _, _, rfl, d0⟩, by decide⟩
  have HNO := Lib.hid hno
  clear hno d0 hB2 hbel HA HB1 BL1
  go_wp2_with fail
  refine HNO.out.mono ?_
  rintro e w' ⟨A, n, c, rfl, r1, r2, r3, r4⟩
  have HR := Lib.hid (And.intro r3 r4)
  clear r3 r4 HNO
  go_wp2_with fail
  go_ret
  exact ⟨A, n, c, rfl, r1, r2, HR.out.1, HR.out.2⟩

theorem NewLimb.zero (w : World) : NewLimb w 0 (.returned (.slice none 0 0)) w := ⟨none, 0, 0, rfl, by decide, by decide, Below.refl _ _, .inl ⟨rfl, rfl⟩, Nat.le_refl _⟩

set_option maxRecDepth 100000 in
set_option maxHeartbeats 4000000 in
theorem natSub_any (w : World) (A B : Option Addr) (n c n' c' x y : Nat) (hA : LimbAt w A n c x) (hB : LimbAt w B n' c' y) (h : y ≤ x) (hx0 : x ≤ 18446744073709551615) :
    Calls Tryz.prog 140 #[.slice none 0 0, .slice A n c, .slice B n' c'] w (NewLimb w (x - y)) := by
  obtain ⟨⟨rfl, rfl⟩ | ⟨hm, rfl, g, off, rfl, h1⟩, h2⟩ := hA
  · obtain ⟨⟨rfl, rfl⟩ | ⟨hm', -⟩, h2'⟩ := hB
    · have HZ := Lib.hid (NewLimb.zero w)
      go_enter Tryz.func140, Tryz.ntmps140
      go_wp2_with fail
      go_ret
      exact HZ.out
    · omega
  · obtain ⟨⟨rfl, rfl⟩ | ⟨hm', rfl, g', off', rfl, h1'⟩, h2'⟩ := hB
    · have hl := Lib.hid (natSet_one w g off c x hm h1)
      rw [Nat.sub_zero]
      go_enter Tryz.func140, Tryz.ntmps140
      go_wp2_with fail
      refine hl.out.mono ?_
      rintro e w' ⟨A, n, c, rfl, r1, r2, r3, r4⟩
      have HR := Lib.hid (And.intro r3 r4)
      clear r3 r4
      go_wp2_with fail
      go_ret
      exact ⟨A, n, c, rfl, r1, r2, HR.out.1, HR.out.2⟩
    · exact natSub_two w g off c g' off' c' x y h2 h2' h hx0 h1 h1'

set_option maxRecDepth 100000 in
set_option maxHeartbeats 4000000 in
theorem natAdd_zero (w : World) (A : Option Addr) (n c x : Nat) (hA : LimbAt w A n c x) (hx : x ≠ 0) (B : Option Addr) (c' : Nat) :
    Calls Tryz.prog 139 #[.slice none 0 0, .slice A n c, .slice B 0 c'] w (NewLimb w x) := by
  obtain ⟨⟨rfl, rfl⟩ | ⟨hm, rfl, g, off, rfl, h1⟩, h2⟩ := hA
  · exact absurd rfl hx
  · have hl := Lib.hid (natSet_one w g off c x hm h1)
    go_enter Tryz.func139, Tryz.ntmps139
    go_wp2_with fail
    refine hl.out.mono ?_
    rintro e w' ⟨A, n, c, rfl, r1, r2, r3, r4⟩
    have HR := Lib.hid (And.intro r3 r4)
    clear r3 r4
    go_wp2_with fail
    go_ret
    exact ⟨A, n, c, rfl, r1, r2, HR.out.1, HR.out.2⟩

set_option maxRecDepth 100000 in
set_option maxHeartbeats 4000000 in
theorem natAdd_any (w : World) (A B : Option Addr) (n c n' c' x y : Nat) (hA : LimbAt w A n c x) (hB : LimbAt w B n' c' y) (h : x + y ≤ 18446744073709551615) :
    Calls Tryz.prog 139 #[.slice none 0 0, .slice A n c, .slice B n' c'] w (NewLimb w (x + y)) := by
  have hA' := hA
  have hB' := hB
  obtain ⟨⟨rfl, rfl⟩ | ⟨hm, rfl, g, off, rfl, h1⟩, h2⟩ := hA
  · obtain ⟨⟨rfl, rfl⟩ | ⟨hm', rfl, g', off', rfl, h1'⟩, h2'⟩ := hB
    · have HZ := Lib.hid (NewLimb.zero w)
      clear hA' hB'
      go_enter Tryz.func139, Tryz.ntmps139
      go_wp2_with fail
      go_ret
      exact HZ.out
    · have hl := Lib.hid (natAdd_zero w _ _ _ _ hB' hm' A c)
      clear hA' hB'
      rw [Nat.zero_add]
      go_enter Tryz.func139, Tryz.ntmps139
      go_wp2_with fail
      refine hl.out.mono ?_
      rintro e w' ⟨A, n, c, rfl, r1, r2, r3, r4⟩
      have HR := Lib.hid (And.intro r3 r4)
      clear r3 r4
      go_wp2_with fail
      go_ret
      exact ⟨A, n, c, rfl, r1, r2, HR.out.1, HR.out.2⟩
  · obtain ⟨⟨rfl, rfl⟩ | ⟨hm', rfl, g', off', rfl, h1'⟩, h2'⟩ := hB
    · exact natAdd_zero w _ _ _ _ hA' hm B c'
    · exact natAdd_two w g off c g' off' c' x y hm h2 h2' h h1 h1'
end Go.Proofs.YtkiknbjokknemaaGreat

/- math/big: Int.Sub of numbers of one limb. -/
namespace Go.Proofs.YtkiknbjokknemaaGreat
open Go.RowKit

/-- A number keeps where its blocks lie as they lay. -/
theorem BigIs.below {w w' : World} {b : Nat} {z : Int} (h : BigIs w b z) (hb : Below w.heap.size w w') : BigIs w' b z := by
  obtain ⟨A, n, c, h1, h2, h3, h4, h5⟩ := h
  have up : ∀ (a : Addr) (v : Value), w.cell? a = some v → w'.cell? a = some v := fun a v h => (hb.cell (World.block_lt_of_cell? w a h)).trans h
  refine ⟨A, n, c, up _ _ h1, up _ _ h2, ?_, h4, h5⟩
  rcases h3 with h | ⟨h, h', g, off, ha, hc⟩
  · exact .inl h
  · exact .inr ⟨h, h', g, off, ha, up _ _ hc⟩
theorem BigIs.limbs {w : World} {b : Nat} {z : Int} (h : BigIs w b z) : ∃ (A : Option Addr) (n c : Nat), w.cell? ⟨b, 0, none⟩ = some (.bool (decide (z < 0))) ∧ w.cell? ⟨b, 1, none⟩ = some (.slice A n c) ∧ LimbAt w A n c z.natAbs := by
  obtain ⟨A, n, c, h1, h2, h3, h4, h5⟩ := h
  refine ⟨A, n, c, h1, h2, ?_, h4⟩
  rcases h3 with ⟨h, h'⟩ | ⟨h, h', g, off, ha, hc⟩
  · exact .inl ⟨by omega, h'⟩
  · exact .inr ⟨by omega, h', g, off, ha, hc⟩
/-- What Sub comes to: the number at bz. -/
def SubTo (w : World) (bz : Nat) (z : Int) (e : Ending) (w' : World) : Prop := e = .returned (.pointer (some ⟨bz, 0, none⟩)) ∧ Below bz w w' ∧ BigIs w' bz z ∧ ∃ cs, Blk w' bz 245 cs
/-- The end of Sub: the limb is laid down, then the sign. -/
theorem sub_end {w w3 : World} {bz : Nat} {z : Int} {A : Option Addr} {n c : Nat} {m : Nat} (hz : Blk w bz 245 #[.bool false, .slice none 0 0]) (hb : Below w.heap.size w w3) (hl : LimbAt w3 A n c m) (hm : m = z.natAbs) (hm2 : m ≤ 18446744073709551615) (neg : Bool) (hneg : neg = decide (z < 0)) :
    SubTo w bz z (.returned (.pointer (some ⟨bz, 0, none⟩))) ((w3.setCell ⟨bz, 1, none⟩ (.slice A n c)).setCell ⟨bz, 0, none⟩ (.bool neg)) := by
  have b3 : Blk w3 bz 245 #[.bool false, .slice none 0 0] := hz.below hb hz.lt
  have b5 := (b3.set_ 1 (.slice A n c)).set_ 0 (.bool neg)
  simp only [List.setIfInBounds_toArray, List.set_cons_zero, List.set_cons_succ] at b5
  refine ⟨rfl, ((hb.mono (Nat.le_of_lt hz.lt)).setCell (p := ⟨bz, 1, none⟩) (Nat.le_refl _) _).setCell (p := ⟨bz, 0, none⟩) (Nat.le_refl _) _, ⟨A, n, c, ?_, ?_, ?_, hl.2, by omega⟩, _, b5⟩
  · rw [b5.cell, hneg]; rfl
  · rw [b5.cell]; rfl
  · rcases hl.1 with ⟨h1, h2⟩ | ⟨h1, h2, g, off, h3, h4⟩
    · exact .inl ⟨by omega, h2⟩
    · refine .inr ⟨by omega, h2, g, off, h3, ?_⟩
      have hne : g ≠ bz := by
        rintro rfl
        rw [b3.cell] at h4
        rcases off with _ | _ | off
        · simp at h4
        · simp at h4
        · simp at h4
      rw [World.cell?_setCell_far _ _ _ _ (by exact hne.symm), World.cell?_setCell_far _ _ _ _ (by exact hne.symm), h4, hm]

set_option maxRecDepth 100000 in
set_option maxHeartbeats 4000000 in
theorem IntSub_np (w : World) (bz bx by_ : Nat) (x y : Int) (hz : Blk w bz 245 #[.bool false, .slice none 0 0]) (hX : BigIs w bx x) (hY : BigIs w by_ y) (hx : x < 0) (hy : 0 ≤ y) (hm : y - x ≤ 18446744073709551615) :
    Calls Tryz.prog 134 #[.pointer (some ⟨bz, 0, none⟩), .pointer (some ⟨bx, 0, none⟩), .pointer (some ⟨by_, 0, none⟩)] w (SubTo w bz (x - y)) := by
  have hxm : x.natAbs ≤ 18446744073709551615 := by obtain ⟨_, _, _, -, -, -, -, h⟩ := hX; exact h
  have hym : y.natAbs ≤ 18446744073709551615 := by obtain ⟨_, _, _, -, -, -, -, h⟩ := hY; exact h
  obtain ⟨A, n, c, x1, x2, x3⟩ := hX.limbs
  obtain ⟨B, n', c', y1, y2, y3⟩ := hY.limbs
  rw [show decide (x < 0) = true by simp; omega] at x1
  rw [show decide (y < 0) = false by simp; omega] at y1
  have z0 := hz.cell 0; have z1 := hz.cell 1; have f0 := hz.frozen 0; have f1 := hz.frozen 1
  simp only [List.getElem?_toArray, List.getElem?_cons_zero, List.getElem?_cons_succ] at z0 z1
  have HXM := Lib.hid hxm; have HYM := Lib.hid hym
  clear hxm hym
  go_enter Tryz.func134, Tryz.ntmps134
  go_wp2_with fail
  go_quiet (fail)
  go_wp2_with fail
  generalize hwq : World.drewN w _ = wq
  have q0 : wq.cell? ⟨bz, 1, none⟩ = some (.slice none 0 0) := by rw [← hwq]; exact z1
  have q1 : wq.cell? ⟨bx, 1, none⟩ = some (.slice A n c) := by rw [← hwq]; exact x2
  have q2 : wq.cell? ⟨by_, 1, none⟩ = some (.slice B n' c') := by rw [← hwq]; exact y2
  have hzq : Blk wq bz 245 #[.bool false, .slice none 0 0] := by rw [← hwq]; exact hz
  have HA := Lib.hid (natAdd_any wq.drew A B n c n' c' x.natAbs y.natAbs (by rw [← hwq]; exact x3) (by rw [← hwq]; exact y3) (by omega))
  have hF := fun (w3 : World) (hb : Below wq.drew.heap.size wq.drew w3) => show w3.cell? ⟨bz, 1, none⟩ = some (.slice none 0 0) ∧ w3.frozen? ⟨bz, 1, none⟩ = false from
    ⟨by rw [((hzq.drew).below hb hzq.lt).cell]; rfl, ((hzq.drew).below hb hzq.lt).frozen 1⟩
  have F := Lib.hid hF; have HQ := Lib.hid hwq
  clear hF hzq hwq
  go_region_with (go_at_call 139; refine HA.out.mono ?_; rintro e w3 ⟨A3, n3, c3, rfl, r1, r2, r3, r4⟩; obtain ⟨F1, F2⟩ := F.out w3 r3)
  all_goals
    have r3' : Below w.heap.size w w3 := (show Below w.heap.size w wq.drew from by rw [← HQ.out]; exact drewK_ (Below.refl _ _) _ |>.drew).trans (r3.mono (by rw [← HQ.out]; exact Nat.le_refl _))
    have hn3 : n3 = 1 := by
      rcases r4.1 with ⟨h, -⟩ | ⟨-, h, -⟩
      · omega
      · exact h
    subst hn3
    have e0 := ((hz.below r3' hz.lt).set_ 1 (.slice A3 1 c3)).cell 0
    have e1 := ((hz.below r3' hz.lt).set_ 1 (.slice A3 1 c3)).cell 1
    have e2 := ((hz.below r3' hz.lt).set_ 1 (.slice A3 1 c3)).frozen 0
    simp only [List.setIfInBounds_toArray, List.set_cons_zero, List.set_cons_succ, List.getElem?_toArray, List.getElem?_cons_zero, List.getElem?_cons_succ] at e0 e1
    have HE := Lib.hid (sub_end (z := x - y) hz r3' r4 (by omega) (by have := HXM.out; have := HYM.out; omega) true (by simp; omega))
    generalize w3.setCell ⟨bz, 1, none⟩ (.slice A3 1 c3) = w4 at e0 e1 e2 HE ⊢
    clear r3' r3 r4 F1 F2 HA F
    go_wp2_with fail
    go_ret
    exact HE.out

set_option maxRecDepth 100000 in
set_option maxHeartbeats 4000000 in
theorem IntSub_pn (w : World) (bz bx by_ : Nat) (x y : Int) (hz : Blk w bz 245 #[.bool false, .slice none 0 0]) (hX : BigIs w bx x) (hY : BigIs w by_ y) (hx : 0 ≤ x) (hy : y < 0) (hm : x - y ≤ 18446744073709551615) :
    Calls Tryz.prog 134 #[.pointer (some ⟨bz, 0, none⟩), .pointer (some ⟨bx, 0, none⟩), .pointer (some ⟨by_, 0, none⟩)] w (SubTo w bz (x - y)) := by
  have hxm : x.natAbs ≤ 18446744073709551615 := by obtain ⟨_, _, _, -, -, -, -, h⟩ := hX; exact h
  have hym : y.natAbs ≤ 18446744073709551615 := by obtain ⟨_, _, _, -, -, -, -, h⟩ := hY; exact h
  obtain ⟨A, n, c, x1, x2, x3⟩ := hX.limbs
  obtain ⟨B, n', c', y1, y2, y3⟩ := hY.limbs
  rw [show decide (x < 0) = false by simp; omega] at x1
  rw [show decide (y < 0) = true by simp; omega] at y1
  have z0 := hz.cell 0; have z1 := hz.cell 1; have f0 := hz.frozen 0; have f1 := hz.frozen 1
  simp only [List.getElem?_toArray, List.getElem?_cons_zero, List.getElem?_cons_succ] at z0 z1
  have HXM := Lib.hid hxm; have HYM := Lib.hid hym
  clear hxm hym
  go_enter Tryz.func134, Tryz.ntmps134
  go_wp2_with fail
  go_quiet (fail)
  go_wp2_with fail
  generalize hwq : World.drewN w _ = wq
  have q0 : wq.cell? ⟨bz, 1, none⟩ = some (.slice none 0 0) := by rw [← hwq]; exact z1
  have q1 : wq.cell? ⟨bx, 1, none⟩ = some (.slice A n c) := by rw [← hwq]; exact x2
  have q2 : wq.cell? ⟨by_, 1, none⟩ = some (.slice B n' c') := by rw [← hwq]; exact y2
  have hzq : Blk wq bz 245 #[.bool false, .slice none 0 0] := by rw [← hwq]; exact hz
  have HA := Lib.hid (natAdd_any wq.drew A B n c n' c' x.natAbs y.natAbs (by rw [← hwq]; exact x3) (by rw [← hwq]; exact y3) (by omega))
  have hF := fun (w3 : World) (hb : Below wq.drew.heap.size wq.drew w3) => show w3.cell? ⟨bz, 1, none⟩ = some (.slice none 0 0) ∧ w3.frozen? ⟨bz, 1, none⟩ = false from
    ⟨by rw [((hzq.drew).below hb hzq.lt).cell]; rfl, ((hzq.drew).below hb hzq.lt).frozen 1⟩
  have F := Lib.hid hF; have HQ := Lib.hid hwq
  clear hF hzq hwq
  go_region_with (go_at_call 139; refine HA.out.mono ?_; rintro e w3 ⟨A3, n3, c3, rfl, r1, r2, r3, r4⟩; obtain ⟨F1, F2⟩ := F.out w3 r3)
  all_goals
    have r3' : Below w.heap.size w w3 := (show Below w.heap.size w wq.drew from by rw [← HQ.out]; exact drewK_ (Below.refl _ _) _ |>.drew).trans (r3.mono (by rw [← HQ.out]; exact Nat.le_refl _))
    have hn3 : n3 = 1 := by
      rcases r4.1 with ⟨h, -⟩ | ⟨-, h, -⟩
      · omega
      · exact h
    subst hn3
    have e0 := ((hz.below r3' hz.lt).set_ 1 (.slice A3 1 c3)).cell 0
    have e1 := ((hz.below r3' hz.lt).set_ 1 (.slice A3 1 c3)).cell 1
    have e2 := ((hz.below r3' hz.lt).set_ 1 (.slice A3 1 c3)).frozen 0
    simp only [List.setIfInBounds_toArray, List.set_cons_zero, List.set_cons_succ, List.getElem?_toArray, List.getElem?_cons_zero, List.getElem?_cons_succ] at e0 e1
    have HE := Lib.hid (sub_end (z := x - y) hz r3' r4 (by omega) (by have := HXM.out; have := HYM.out; omega) false (by simp; omega))
    generalize w3.setCell ⟨bz, 1, none⟩ (.slice A3 1 c3) = w4 at e0 e1 e2 HE ⊢
    clear r3' r3 r4 F1 F2 HA F
    go_wp2_with fail
    go_ret
    exact HE.out

end Go.Proofs.YtkiknbjokknemaaGreat

/- math/big: Int.Sub of numbers of one limb, neither negative. -/
namespace Go.Proofs.YtkiknbjokknemaaGreat
open Go.RowKit

set_option maxRecDepth 100000 in
set_option maxHeartbeats 4000000 in
theorem IntSub_pp_ge (w : World) (bz bx by_ : Nat) (x y : Int) (hz : Blk w bz 245 #[.bool false, .slice none 0 0]) (hX : BigIs w bx x) (hY : BigIs w by_ y) (hx : 0 ≤ x) (hy : 0 ≤ y) (hge : y.natAbs ≤ x.natAbs) :
    Calls Tryz.prog 134 #[.pointer (some ⟨bz, 0, none⟩), .pointer (some ⟨bx, 0, none⟩), .pointer (some ⟨by_, 0, none⟩)] w (SubTo w bz (x - y)) := by
  have hxm : x.natAbs ≤ 18446744073709551615 := by obtain ⟨_, _, _, -, -, -, -, h⟩ := hX; exact h
  have hym : y.natAbs ≤ 18446744073709551615 := by obtain ⟨_, _, _, -, -, -, -, h⟩ := hY; exact h
  obtain ⟨A, n, c, x1, x2, x3⟩ := hX.limbs
  obtain ⟨B, n', c', y1, y2, y3⟩ := hY.limbs
  rw [show decide (x < 0) = false by simp; omega] at x1
  rw [show decide (y < 0) = false by simp; omega] at y1
  have z0 := hz.cell 0; have z1 := hz.cell 1; have f0 := hz.frozen 0; have f1 := hz.frozen 1
  simp only [List.getElem?_toArray, List.getElem?_cons_zero, List.getElem?_cons_succ] at z0 z1
  have HXM := Lib.hid hxm; have HYM := Lib.hid hym
  clear hxm hym
  go_enter Tryz.func134, Tryz.ntmps134
  go_wp2_with fail
  go_quiet (fail)
  go_wp2_with fail
  generalize hw1 : World.drewN w _ = w1
  have p0 : w1.cell? ⟨bz, 1, none⟩ = some (.slice none 0 0) := by rw [← hw1]; exact z1
  have p1 : w1.cell? ⟨bx, 1, none⟩ = some (.slice A n c) := by rw [← hw1]; exact x2
  have p2 : w1.cell? ⟨by_, 1, none⟩ = some (.slice B n' c') := by rw [← hw1]; exact y2
  have hc := fun q => natCmp_any (w1.drewN q) A B n c n' c' x.natAbs y.natAbs (by rw [← hw1]; exact x3) (by rw [← hw1]; exact y3)
  obtain ⟨O, hO, hO0⟩ : ∃ O : Int, ordI (x.natAbs : Int) (y.natAbs : Int) = O ∧ 0 ≤ O := ⟨_, rfl, by unfold ordI; rw [if_neg (by omega)]; split <;> decide⟩
  rw [hO] at hc
  clear hO
  have HC := Lib.hid hc
  clear hc
  have HW1 := Lib.hid hw1
  clear hw1
  go_quiet ((go_at_call 137; with_reducible exact Calls.quiet_of (HC.out _)))
  go_wp2_with fail
  generalize hwq' : World.drewN w1 _ = wq
  obtain ⟨kq, hwq⟩ : ∃ k, World.drewN w k = wq := ⟨_, by rw [← hwq', ← HW1.out, World.drewN_drewN]⟩
  clear hwq' HW1 p0 p1 p2 HC
  have q0 : wq.cell? ⟨bz, 1, none⟩ = some (.slice none 0 0) := by rw [← hwq]; exact z1
  have q1 : wq.cell? ⟨bx, 1, none⟩ = some (.slice A n c) := by rw [← hwq]; exact x2
  have q2 : wq.cell? ⟨by_, 1, none⟩ = some (.slice B n' c') := by rw [← hwq]; exact y2
  have hzq : Blk wq bz 245 #[.bool false, .slice none 0 0] := by rw [← hwq]; exact hz
  have HA := Lib.hid (natSub_any wq.drew A B n c n' c' x.natAbs y.natAbs (by rw [← hwq]; exact x3) (by rw [← hwq]; exact y3) (by omega) (by have := HXM.out; have := HYM.out; omega))
  have hF := fun (w3 : World) (hb : Below wq.drew.heap.size wq.drew w3) => show w3.cell? ⟨bz, 1, none⟩ = some (.slice none 0 0) ∧ w3.frozen? ⟨bz, 1, none⟩ = false from
    ⟨by rw [((hzq.drew).below hb hzq.lt).cell]; rfl, ((hzq.drew).below hb hzq.lt).frozen 1⟩
  have F := Lib.hid hF; have HQ := Lib.hid hwq
  clear hF hzq hwq
  go_region_with (go_at_call 140; refine HA.out.mono ?_; rintro e w3 ⟨A3, n3, c3, rfl, r1, r2, r3, r4⟩; obtain ⟨F1, F2⟩ := F.out w3 r3)
  all_goals
    have r3' : Below w.heap.size w w3 := (show Below w.heap.size w wq.drew from by rw [← HQ.out]; exact drewK_ (Below.refl _ _) _ |>.drew).trans (r3.mono (by rw [← HQ.out]; exact Nat.le_refl _))
    rcases Nat.eq_zero_or_pos n3 with hn3 | hn3
    · subst hn3
      have hm0 : x.natAbs - y.natAbs = 0 := by
        rcases r4.1 with ⟨h, -⟩ | ⟨-, h, -⟩
        · exact h
        · omega
      have e0 := ((hz.below r3' hz.lt).set_ 1 (.slice A3 0 c3)).cell 0
      have e1 := ((hz.below r3' hz.lt).set_ 1 (.slice A3 0 c3)).cell 1
      have e2 := ((hz.below r3' hz.lt).set_ 1 (.slice A3 0 c3)).frozen 0
      simp only [List.setIfInBounds_toArray, List.set_cons_zero, List.set_cons_succ, List.getElem?_toArray, List.getElem?_cons_zero, List.getElem?_cons_succ] at e0 e1
      have HE := Lib.hid (sub_end (z := x - y) hz r3' r4 (by omega) (by have := HXM.out; have := HYM.out; omega) false (by simp; omega))
      generalize w3.setCell ⟨bz, 1, none⟩ (.slice A3 0 c3) = w4 at e0 e1 e2 HE ⊢
      clear r3' r3 r4 F1 F2 HA F
      go_wp2_with fail
      go_ret
      exact HE.out
    · obtain rfl : n3 = 1 := by omega
      have hm0 : x.natAbs - y.natAbs ≠ 0 := by
        rcases r4.1 with ⟨-, h⟩ | ⟨h, -⟩
        · omega
        · exact h
      have e0 := ((hz.below r3' hz.lt).set_ 1 (.slice A3 1 c3)).cell 0
      have e1 := ((hz.below r3' hz.lt).set_ 1 (.slice A3 1 c3)).cell 1
      have e2 := ((hz.below r3' hz.lt).set_ 1 (.slice A3 1 c3)).frozen 0
      simp only [List.setIfInBounds_toArray, List.set_cons_zero, List.set_cons_succ, List.getElem?_toArray, List.getElem?_cons_zero, List.getElem?_cons_succ] at e0 e1
      have HE := Lib.hid (sub_end (z := x - y) hz r3' r4 (by omega) (by have := HXM.out; have := HYM.out; omega) false (by simp; omega))
      generalize w3.setCell ⟨bz, 1, none⟩ (.slice A3 1 c3) = w4 at e0 e1 e2 HE ⊢
      clear r3' r3 r4 F1 F2 HA F
      go_wp2_with fail
      go_ret
      exact HE.out

set_option maxRecDepth 100000 in
set_option maxHeartbeats 4000000 in
theorem IntSub_pp_lt (w : World) (bz bx by_ : Nat) (x y : Int) (hz : Blk w bz 245 #[.bool false, .slice none 0 0]) (hX : BigIs w bx x) (hY : BigIs w by_ y) (hx : 0 ≤ x) (hy : 0 ≤ y) (hge : x.natAbs < y.natAbs) :
    Calls Tryz.prog 134 #[.pointer (some ⟨bz, 0, none⟩), .pointer (some ⟨bx, 0, none⟩), .pointer (some ⟨by_, 0, none⟩)] w (SubTo w bz (x - y)) := by
  have hxm : x.natAbs ≤ 18446744073709551615 := by obtain ⟨_, _, _, -, -, -, -, h⟩ := hX; exact h
  have hym : y.natAbs ≤ 18446744073709551615 := by obtain ⟨_, _, _, -, -, -, -, h⟩ := hY; exact h
  obtain ⟨A, n, c, x1, x2, x3⟩ := hX.limbs
  obtain ⟨B, n', c', y1, y2, y3⟩ := hY.limbs
  rw [show decide (x < 0) = false by simp; omega] at x1
  rw [show decide (y < 0) = false by simp; omega] at y1
  have z0 := hz.cell 0; have z1 := hz.cell 1; have f0 := hz.frozen 0; have f1 := hz.frozen 1
  simp only [List.getElem?_toArray, List.getElem?_cons_zero, List.getElem?_cons_succ] at z0 z1
  have HXM := Lib.hid hxm; have HYM := Lib.hid hym
  clear hxm hym
  go_enter Tryz.func134, Tryz.ntmps134
  go_wp2_with fail
  go_quiet (fail)
  go_wp2_with fail
  generalize hw1 : World.drewN w _ = w1
  have p0 : w1.cell? ⟨bz, 1, none⟩ = some (.slice none 0 0) := by rw [← hw1]; exact z1
  have p1 : w1.cell? ⟨bx, 1, none⟩ = some (.slice A n c) := by rw [← hw1]; exact x2
  have p2 : w1.cell? ⟨by_, 1, none⟩ = some (.slice B n' c') := by rw [← hw1]; exact y2
  have hc := fun q => natCmp_any (w1.drewN q) A B n c n' c' x.natAbs y.natAbs (by rw [← hw1]; exact x3) (by rw [← hw1]; exact y3)
  rw [show ordI (x.natAbs : Int) (y.natAbs : Int) = -1 by unfold ordI; rw [if_pos (by omega)]] at hc
  have HC := Lib.hid hc
  clear hc
  have HW1 := Lib.hid hw1
  clear hw1
  go_quiet ((go_at_call 137; with_reducible exact Calls.quiet_of (HC.out _)))
  go_wp2_with fail
  generalize hwq' : World.drewN w1 _ = wq
  obtain ⟨kq, hwq⟩ : ∃ k, World.drewN w k = wq := ⟨_, by rw [← hwq', ← HW1.out, World.drewN_drewN]⟩
  clear hwq' HW1 p0 p1 p2 HC
  have q0 : wq.cell? ⟨bz, 1, none⟩ = some (.slice none 0 0) := by rw [← hwq]; exact z1
  have q1 : wq.cell? ⟨bx, 1, none⟩ = some (.slice A n c) := by rw [← hwq]; exact x2
  have q2 : wq.cell? ⟨by_, 1, none⟩ = some (.slice B n' c') := by rw [← hwq]; exact y2
  have hzq : Blk wq bz 245 #[.bool false, .slice none 0 0] := by rw [← hwq]; exact hz
  have HA := Lib.hid (natSub_any wq.drew B A n' c' n c y.natAbs x.natAbs (by rw [← hwq]; exact y3) (by rw [← hwq]; exact x3) (by omega) (by have := HXM.out; have := HYM.out; omega))
  have hF := fun (w3 : World) (hb : Below wq.drew.heap.size wq.drew w3) => show w3.cell? ⟨bz, 1, none⟩ = some (.slice none 0 0) ∧ w3.frozen? ⟨bz, 1, none⟩ = false from
    ⟨by rw [((hzq.drew).below hb hzq.lt).cell]; rfl, ((hzq.drew).below hb hzq.lt).frozen 1⟩
  have F := Lib.hid hF; have HQ := Lib.hid hwq
  clear hF hzq hwq
  go_region_with (go_at_call 140; refine HA.out.mono ?_; rintro e w3 ⟨A3, n3, c3, rfl, r1, r2, r3, r4⟩; obtain ⟨F1, F2⟩ := F.out w3 r3)
  all_goals
    have r3' : Below w.heap.size w w3 := (show Below w.heap.size w wq.drew from by rw [← HQ.out]; exact drewK_ (Below.refl _ _) _ |>.drew).trans (r3.mono (by rw [← HQ.out]; exact Nat.le_refl _))
    have hn3 : n3 = 1 := by
      rcases r4.1 with ⟨h, -⟩ | ⟨-, h, -⟩
      · omega
      · exact h
    subst hn3
    have e0 := ((hz.below r3' hz.lt).set_ 1 (.slice A3 1 c3)).cell 0
    have e1 := ((hz.below r3' hz.lt).set_ 1 (.slice A3 1 c3)).cell 1
    have e2 := ((hz.below r3' hz.lt).set_ 1 (.slice A3 1 c3)).frozen 0
    simp only [List.setIfInBounds_toArray, List.set_cons_zero, List.set_cons_succ, List.getElem?_toArray, List.getElem?_cons_zero, List.getElem?_cons_succ] at e0 e1
    have HE := Lib.hid (sub_end (z := x - y) hz r3' r4 (by omega) (by have := HXM.out; have := HYM.out; omega) true (by simp; omega))
    generalize w3.setCell ⟨bz, 1, none⟩ (.slice A3 1 c3) = w4 at e0 e1 e2 HE ⊢
    clear r3' r3 r4 F1 F2 HA F
    go_wp2_with fail
    go_ret
    exact HE.out

end Go.Proofs.YtkiknbjokknemaaGreat

/- math/big: Int.Sub of numbers of one limb, both negative. -/
namespace Go.Proofs.YtkiknbjokknemaaGreat
open Go.RowKit

set_option maxRecDepth 100000 in
set_option maxHeartbeats 4000000 in
theorem IntSub_nn_ge (w : World) (bz bx by_ : Nat) (x y : Int) (hz : Blk w bz 245 #[.bool false, .slice none 0 0]) (hX : BigIs w bx x) (hY : BigIs w by_ y) (hx : x < 0) (hy : y < 0) (hge : y.natAbs ≤ x.natAbs) :
    Calls Tryz.prog 134 #[.pointer (some ⟨bz, 0, none⟩), .pointer (some ⟨bx, 0, none⟩), .pointer (some ⟨by_, 0, none⟩)] w (SubTo w bz (x - y)) := by
  have hxm : x.natAbs ≤ 18446744073709551615 := by obtain ⟨_, _, _, -, -, -, -, h⟩ := hX; exact h
  have hym : y.natAbs ≤ 18446744073709551615 := by obtain ⟨_, _, _, -, -, -, -, h⟩ := hY; exact h
  obtain ⟨A, n, c, x1, x2, x3⟩ := hX.limbs
  obtain ⟨B, n', c', y1, y2, y3⟩ := hY.limbs
  rw [show decide (x < 0) = true by simp; omega] at x1
  rw [show decide (y < 0) = true by simp; omega] at y1
  have z0 := hz.cell 0; have z1 := hz.cell 1; have f0 := hz.frozen 0; have f1 := hz.frozen 1
  simp only [List.getElem?_toArray, List.getElem?_cons_zero, List.getElem?_cons_succ] at z0 z1
  have HXM := Lib.hid hxm; have HYM := Lib.hid hym
  clear hxm hym
  go_enter Tryz.func134, Tryz.ntmps134
  go_wp2_with fail
  go_quiet (fail)
  go_wp2_with fail
  generalize hw1 : World.drewN w _ = w1
  have p0 : w1.cell? ⟨bz, 1, none⟩ = some (.slice none 0 0) := by rw [← hw1]; exact z1
  have p1 : w1.cell? ⟨bx, 1, none⟩ = some (.slice A n c) := by rw [← hw1]; exact x2
  have p2 : w1.cell? ⟨by_, 1, none⟩ = some (.slice B n' c') := by rw [← hw1]; exact y2
  have hc := fun q => natCmp_any (w1.drewN q) A B n c n' c' x.natAbs y.natAbs (by rw [← hw1]; exact x3) (by rw [← hw1]; exact y3)
  obtain ⟨O, hO, hO0⟩ : ∃ O : Int, ordI (x.natAbs : Int) (y.natAbs : Int) = O ∧ 0 ≤ O := ⟨_, rfl, by unfold ordI; rw [if_neg (by omega)]; split <;> decide⟩
  rw [hO] at hc
  clear hO
  have HC := Lib.hid hc
  clear hc
  have HW1 := Lib.hid hw1
  clear hw1
  go_quiet ((go_at_call 137; with_reducible exact Calls.quiet_of (HC.out _)))
  go_wp2_with fail
  generalize hwq' : World.drewN w1 _ = wq
  obtain ⟨kq, hwq⟩ : ∃ k, World.drewN w k = wq := ⟨_, by rw [← hwq', ← HW1.out, World.drewN_drewN]⟩
  clear hwq' HW1 p0 p1 p2 HC
  have q0 : wq.cell? ⟨bz, 1, none⟩ = some (.slice none 0 0) := by rw [← hwq]; exact z1
  have q1 : wq.cell? ⟨bx, 1, none⟩ = some (.slice A n c) := by rw [← hwq]; exact x2
  have q2 : wq.cell? ⟨by_, 1, none⟩ = some (.slice B n' c') := by rw [← hwq]; exact y2
  have hzq : Blk wq bz 245 #[.bool false, .slice none 0 0] := by rw [← hwq]; exact hz
  have HA := Lib.hid (natSub_any wq.drew A B n c n' c' x.natAbs y.natAbs (by rw [← hwq]; exact x3) (by rw [← hwq]; exact y3) (by omega) (by have := HXM.out; have := HYM.out; omega))
  have hF := fun (w3 : World) (hb : Below wq.drew.heap.size wq.drew w3) => show w3.cell? ⟨bz, 1, none⟩ = some (.slice none 0 0) ∧ w3.frozen? ⟨bz, 1, none⟩ = false from
    ⟨by rw [((hzq.drew).below hb hzq.lt).cell]; rfl, ((hzq.drew).below hb hzq.lt).frozen 1⟩
  have F := Lib.hid hF; have HQ := Lib.hid hwq
  clear hF hzq hwq
  go_region_with (go_at_call 140; refine HA.out.mono ?_; rintro e w3 ⟨A3, n3, c3, rfl, r1, r2, r3, r4⟩; obtain ⟨F1, F2⟩ := F.out w3 r3)
  all_goals
    have r3' : Below w.heap.size w w3 := (show Below w.heap.size w wq.drew from by rw [← HQ.out]; exact drewK_ (Below.refl _ _) _ |>.drew).trans (r3.mono (by rw [← HQ.out]; exact Nat.le_refl _))
    rcases Nat.eq_zero_or_pos n3 with hn3 | hn3
    · subst hn3
      have hm0 : x.natAbs - y.natAbs = 0 := by
        rcases r4.1 with ⟨h, -⟩ | ⟨-, h, -⟩
        · exact h
        · omega
      have e0 := ((hz.below r3' hz.lt).set_ 1 (.slice A3 0 c3)).cell 0
      have e1 := ((hz.below r3' hz.lt).set_ 1 (.slice A3 0 c3)).cell 1
      have e2 := ((hz.below r3' hz.lt).set_ 1 (.slice A3 0 c3)).frozen 0
      simp only [List.setIfInBounds_toArray, List.set_cons_zero, List.set_cons_succ, List.getElem?_toArray, List.getElem?_cons_zero, List.getElem?_cons_succ] at e0 e1
      have HE := Lib.hid (sub_end (z := x - y) hz r3' r4 (by omega) (by have := HXM.out; have := HYM.out; omega) false (by simp; omega))
      generalize w3.setCell ⟨bz, 1, none⟩ (.slice A3 0 c3) = w4 at e0 e1 e2 HE ⊢
      clear r3' r3 r4 F1 F2 HA F
      go_wp2_with fail
      go_ret
      exact HE.out
    · obtain rfl : n3 = 1 := by omega
      have hm0 : x.natAbs - y.natAbs ≠ 0 := by
        rcases r4.1 with ⟨-, h⟩ | ⟨h, -⟩
        · omega
        · exact h
      have e0 := ((hz.below r3' hz.lt).set_ 1 (.slice A3 1 c3)).cell 0
      have e1 := ((hz.below r3' hz.lt).set_ 1 (.slice A3 1 c3)).cell 1
      have e2 := ((hz.below r3' hz.lt).set_ 1 (.slice A3 1 c3)).frozen 0
      simp only [List.setIfInBounds_toArray, List.set_cons_zero, List.set_cons_succ, List.getElem?_toArray, List.getElem?_cons_zero, List.getElem?_cons_succ] at e0 e1
      have HE := Lib.hid (sub_end (z := x - y) hz r3' r4 (by omega) (by have := HXM.out; have := HYM.out; omega) true (by simp; omega))
      generalize w3.setCell ⟨bz, 1, none⟩ (.slice A3 1 c3) = w4 at e0 e1 e2 HE ⊢
      clear r3' r3 r4 F1 F2 HA F
      go_wp2_with fail
      go_ret
      exact HE.out

set_option maxRecDepth 100000 in
set_option maxHeartbeats 4000000 in
theorem IntSub_nn_lt (w : World) (bz bx by_ : Nat) (x y : Int) (hz : Blk w bz 245 #[.bool false, .slice none 0 0]) (hX : BigIs w bx x) (hY : BigIs w by_ y) (hx : x < 0) (hy : y < 0) (hge : x.natAbs < y.natAbs) :
    Calls Tryz.prog 134 #[.pointer (some ⟨bz, 0, none⟩), .pointer (some ⟨bx, 0, none⟩), .pointer (some ⟨by_, 0, none⟩)] w (SubTo w bz (x - y)) := by
  have hxm : x.natAbs ≤ 18446744073709551615 := by obtain ⟨_, _, _, -, -, -, -, h⟩ := hX; exact h
  have hym : y.natAbs ≤ 18446744073709551615 := by obtain ⟨_, _, _, -, -, -, -, h⟩ := hY; exact h
  obtain ⟨A, n, c, x1, x2, x3⟩ := hX.limbs
  obtain ⟨B, n', c', y1, y2, y3⟩ := hY.limbs
  rw [show decide (x < 0) = true by simp; omega] at x1
  rw [show decide (y < 0) = true by simp; omega] at y1
  have z0 := hz.cell 0; have z1 := hz.cell 1; have f0 := hz.frozen 0; have f1 := hz.frozen 1
  simp only [List.getElem?_toArray, List.getElem?_cons_zero, List.getElem?_cons_succ] at z0 z1
  have HXM := Lib.hid hxm; have HYM := Lib.hid hym
  clear hxm hym
  go_enter Tryz.func134, Tryz.ntmps134
  go_wp2_with fail
  go_quiet (fail)
  go_wp2_with fail
  generalize hw1 : World.drewN w _ = w1
  have p0 : w1.cell? ⟨bz, 1, none⟩ = some (.slice none 0 0) := by rw [← hw1]; exact z1
  have p1 : w1.cell? ⟨bx, 1, none⟩ = some (.slice A n c) := by rw [← hw1]; exact x2
  have p2 : w1.cell? ⟨by_, 1, none⟩ = some (.slice B n' c') := by rw [← hw1]; exact y2
  have hc := fun q => natCmp_any (w1.drewN q) A B n c n' c' x.natAbs y.natAbs (by rw [← hw1]; exact x3) (by rw [← hw1]; exact y3)
  rw [show ordI (x.natAbs : Int) (y.natAbs : Int) = -1 by unfold ordI; rw [if_pos (by omega)]] at hc
  have HC := Lib.hid hc
  clear hc
  have HW1 := Lib.hid hw1
  clear hw1
  go_quiet ((go_at_call 137; with_reducible exact Calls.quiet_of (HC.out _)))
  go_wp2_with fail
  generalize hwq' : World.drewN w1 _ = wq
  obtain ⟨kq, hwq⟩ : ∃ k, World.drewN w k = wq := ⟨_, by rw [← hwq', ← HW1.out, World.drewN_drewN]⟩
  clear hwq' HW1 p0 p1 p2 HC
  have q0 : wq.cell? ⟨bz, 1, none⟩ = some (.slice none 0 0) := by rw [← hwq]; exact z1
  have q1 : wq.cell? ⟨bx, 1, none⟩ = some (.slice A n c) := by rw [← hwq]; exact x2
  have q2 : wq.cell? ⟨by_, 1, none⟩ = some (.slice B n' c') := by rw [← hwq]; exact y2
  have hzq : Blk wq bz 245 #[.bool false, .slice none 0 0] := by rw [← hwq]; exact hz
  have HA := Lib.hid (natSub_any wq.drew B A n' c' n c y.natAbs x.natAbs (by rw [← hwq]; exact y3) (by rw [← hwq]; exact x3) (by omega) (by have := HXM.out; have := HYM.out; omega))
  have hF := fun (w3 : World) (hb : Below wq.drew.heap.size wq.drew w3) => show w3.cell? ⟨bz, 1, none⟩ = some (.slice none 0 0) ∧ w3.frozen? ⟨bz, 1, none⟩ = false from
    ⟨by rw [((hzq.drew).below hb hzq.lt).cell]; rfl, ((hzq.drew).below hb hzq.lt).frozen 1⟩
  have F := Lib.hid hF; have HQ := Lib.hid hwq
  clear hF hzq hwq
  go_region_with (go_at_call 140; refine HA.out.mono ?_; rintro e w3 ⟨A3, n3, c3, rfl, r1, r2, r3, r4⟩; obtain ⟨F1, F2⟩ := F.out w3 r3)
  all_goals
    have r3' : Below w.heap.size w w3 := (show Below w.heap.size w wq.drew from by rw [← HQ.out]; exact drewK_ (Below.refl _ _) _ |>.drew).trans (r3.mono (by rw [← HQ.out]; exact Nat.le_refl _))
    have hn3 : n3 = 1 := by
      rcases r4.1 with ⟨h, -⟩ | ⟨-, h, -⟩
      · omega
      · exact h
    subst hn3
    have e0 := ((hz.below r3' hz.lt).set_ 1 (.slice A3 1 c3)).cell 0
    have e1 := ((hz.below r3' hz.lt).set_ 1 (.slice A3 1 c3)).cell 1
    have e2 := ((hz.below r3' hz.lt).set_ 1 (.slice A3 1 c3)).frozen 0
    simp only [List.setIfInBounds_toArray, List.set_cons_zero, List.set_cons_succ, List.getElem?_toArray, List.getElem?_cons_zero, List.getElem?_cons_succ] at e0 e1
    have HE := Lib.hid (sub_end (z := x - y) hz r3' r4 (by omega) (by have := HXM.out; have := HYM.out; omega) false (by simp; omega))
    generalize w3.setCell ⟨bz, 1, none⟩ (.slice A3 1 c3) = w4 at e0 e1 e2 HE ⊢
    clear r3' r3 r4 F1 F2 HA F
    go_wp2_with fail
    go_ret
    exact HE.out

end Go.Proofs.YtkiknbjokknemaaGreat

/- math/big: Int.Sub of numbers of one limb. -/
namespace Go.Proofs.YtkiknbjokknemaaGreat
open Go.RowKit

theorem IntSub_any (w : World) (bz bx by_ : Nat) (x y : Int) (hz : Blk w bz 245 #[.bool false, .slice none 0 0]) (hX : BigIs w bx x) (hY : BigIs w by_ y) (hm : (x - y).natAbs ≤ 18446744073709551615) :
    Calls Tryz.prog 134 #[.pointer (some ⟨bz, 0, none⟩), .pointer (some ⟨bx, 0, none⟩), .pointer (some ⟨by_, 0, none⟩)] w (SubTo w bz (x - y)) := by
  rcases Int.lt_or_le x 0 with h1 | h1 <;> rcases Int.lt_or_le y 0 with h2 | h2
  · rcases Nat.lt_or_ge x.natAbs y.natAbs with h | h
    · exact IntSub_nn_lt w bz bx by_ x y hz hX hY h1 h2 h
    · exact IntSub_nn_ge w bz bx by_ x y hz hX hY h1 h2 h
  · exact IntSub_np w bz bx by_ x y hz hX hY h1 h2 (by omega)
  · exact IntSub_pn w bz bx by_ x y hz hX hY h1 h2 (by omega)
  · rcases Nat.lt_or_ge x.natAbs y.natAbs with h | h
    · exact IntSub_pp_lt w bz bx by_ x y hz hX hY h1 h2 h
    · exact IntSub_pp_ge w bz bx by_ x y hz hX hY h1 h2 h
end Go.Proofs.YtkiknbjokknemaaGreat

/- The reference's distance: diff, Abs, Cmp, Far, Dist. -/
namespace Go.Proofs.YtkiknbjokknemaaGreat
open Go.RowKit

set_option maxRecDepth 100000 in
set_option maxHeartbeats 1000000 in
theorem Big_any (w : World) (z : Int) (h1 : -9223372036854775808 ≤ z) (h2 : z ≤ 9223372036854775807) :
    Calls Tryz.prog 135 #[.int .i64 z] w (NewTo w z) := by
  have hl := Lib.hid (NewInt_any w z h1 h2)
  go_enter Tryz.func135, Tryz.ntmps135
  go_wp2_with fail
  refine hl.out.mono ?_
  rintro e w' ⟨b, rfl, r1, r2, r3⟩
  have HR := Lib.hid (And.intro r2 r3)
  clear r2 r3
  go_wp2_with fail
  go_ret
  exact ⟨b, rfl, r1, HR.out.1, HR.out.2⟩

/-- A number in a new block. -/
def DiffTo (w : World) (z : Int) (e : Ending) (w' : World) : Prop := ∃ b, e = .returned (.pointer (some ⟨b, 0, none⟩)) ∧ w.heap.size ≤ b ∧ Below w.heap.size w w' ∧ BigIs w' b z ∧ ∃ cs, Blk w' b 245 cs

set_option maxRecDepth 100000 in
set_option maxHeartbeats 1000000 in
theorem diff_any (w : World) (a b : Int) (ha : -9223372036854775808 ≤ a ∧ a ≤ 9223372036854775807) (hb : -9223372036854775808 ≤ b ∧ b ≤ 9223372036854775807) :
    Calls Tryz.prog 111 #[.int .i64 a, .int .i64 b] w (DiffTo w (b - a)) := by
  have hz := Blk.new w 245 #[.bool false, .slice none 0 0]
  have hb0 : Below w.heap.size w (w.alloc (.cells #[.bool false, .slice none 0 0] 245)) := (Below.refl _ _).alloc (Nat.le_refl _) _
  have h1 := Lib.hid (fun W => Big_any W b hb.1 hb.2)
  have h2 := Lib.hid (fun W => Big_any W a ha.1 ha.2)
  have H0 := Lib.hid (And.intro hz hb0)
  clear hz hb0
  go_enter Tryz.func111, Tryz.ntmps111
  go_wp2_with fail
  refine (h1.out _).mono ?_
  rintro e w1 ⟨bb, rfl, r1, r2, r3⟩
  have H1 := Lib.hid (And.intro r2 r3)
  clear r1 r2 r3
  go_wp2_with fail
  refine (h2.out _).mono ?_
  rintro e w2 ⟨ba, rfl, r1, r2, r3⟩
  have hs := IntSub_any w2 w.heap.size bb ba b a ((H0.out.1.below H1.out.1 H0.out.1.lt).below r2 (H0.out.1.below H1.out.1 H0.out.1.lt).lt) (H1.out.2.below r2) r3 (by omega)
  have HS := Lib.hid hs
  have hbel : Below w.heap.size w w2 := (H0.out.2.trans (H1.out.1.mono H0.out.2.size)).trans (r2.mono (Nat.le_trans H0.out.2.size H1.out.1.size))
  have HB := Lib.hid hbel
  clear hs hbel r1 r2 r3
  go_wp2_with fail
  refine HS.out.mono ?_
  rintro e w3 ⟨rfl, r1, r2⟩
  have HR := Lib.hid (And.intro r1 r2)
  clear r1 r2
  go_wp2_with fail
  go_ret
  exact ⟨w.heap.size, rfl, Nat.le_refl _, HB.out.trans (HR.out.1), HR.out.2⟩

theorem BigIs.abs {w : World} {b : Nat} {z : Int} (h : BigIs w b z) : BigIs (w.setCell ⟨b, 0, none⟩ (.bool false)) b (z.natAbs : Int) := by
  obtain ⟨A, n, c, h1, h2, h3, h4, h5⟩ := h
  refine ⟨A, n, c, ?_, ?_, ?_, h4, by omega⟩
  · rw [World.cell?_setCell_same _ _ _ h1, show decide ((z.natAbs : Int) < 0) = false by simp]
  · rw [World.cell?_setCell_other _ _ _ _ (by simp), h2]
  · rcases h3 with ⟨h, h'⟩ | ⟨h, h', g, off, ha, hc⟩
    · exact .inl ⟨by omega, h'⟩
    · refine .inr ⟨by omega, h', g, off, ha, ?_⟩
      rw [World.cell?_setCell_other _ _ _ _ ?_, hc]
      · rfl
      · intro e
        rw [← e, h1] at hc
        cases hc
theorem BigIs.far {w : World} {b b' : Nat} {z : Int} (h : BigIs w b z) (hne : b ≠ b') {u v : Bool} (hu : w.cell? ⟨b', 0, none⟩ = some (.bool u)) : BigIs (w.setCell ⟨b', 0, none⟩ (.bool v)) b z := by
  obtain ⟨A, n, c, h1, h2, h3, h4, h5⟩ := h
  refine ⟨A, n, c, ?_, ?_, ?_, h4, h5⟩
  · rw [World.cell?_setCell_far _ _ _ _ (by exact hne.symm), h1]
  · rw [World.cell?_setCell_far _ _ _ _ (by exact hne.symm), h2]
  · rcases h3 with ⟨h, h'⟩ | ⟨h, h', g, off, ha, hc⟩
    · exact .inl ⟨h, h'⟩
    · refine .inr ⟨h, h', g, off, ha, ?_⟩
      rw [World.cell?_setCell_other _ _ _ _ ?_, hc]
      intro e
      rw [← e, hu] at hc
      cases hc

theorem run_neq_same {P : Program} (w : World) {tp te : TypeId} {j : TypeInfo} (a : Addr) (hp : P.underlying tp = some (.pointer te)) (hte : P.info? te = some j) :
    (binOp .neq tp (.pointer (some a)) (.pointer (some a))).run P w = .ok (.bool false) w := by
  have h : ∀ d : Nat, (Op.equalIn (d + 1) tp (.pointer (some a)) (.pointer (some a))).run P w = .ok true w := fun d => by
    simp [Op.equalIn, run_underlying hp, sizeOf, typeInfo, hte, run_sameAddr_same]
  simp only [binOp]
  simp [Op.equal, Op.maxDepth, h 9999]

set_option maxRecDepth 100000 in
set_option maxHeartbeats 1000000 in
theorem Abs_any (w : World) (b : Nat) (z : Int) (h : BigIs w b z) (cs : Array Value) (hbl : Blk w b 245 cs) :
    Calls Tryz.prog 112 #[.pointer (some ⟨b, 0, none⟩), .pointer (some ⟨b, 0, none⟩)] w fun e w' => e = .returned (.pointer (some ⟨b, 0, none⟩)) ∧ w' = w.setCell ⟨b, 0, none⟩ (.bool false) := by
  obtain ⟨A, n, c, h1, -⟩ := h
  have hf := hbl.frozen 0
  have hpe := fun W => run_neq_same (P := Tryz.prog) W (tp := 136) (te := 245) (j := (Tryz.prog.info? 245).get (by decide +kernel)) ⟨b, 0, none⟩ Tryz.underlying136 (by simp)
  go_enter Tryz.func112, Tryz.ntmps112
  go_wp2
  go_ret
  exact ⟨rfl, rfl⟩

set_option maxRecDepth 100000 in
set_option maxHeartbeats 1000000 in
theorem Cmp_any (w : World) (b b' : Nat) (x y : Int) (hne : b ≠ b') (cs cs' : Array Value) (hbl : Blk w b 245 cs) (hbl' : Blk w b' 245 cs') (hx : BigIs w b x) (hy : BigIs w b' y) (hx0 : 0 ≤ x) (hy0 : 0 ≤ y) :
    Calls Tryz.prog 113 #[.pointer (some ⟨b, 0, none⟩), .pointer (some ⟨b', 0, none⟩)] w fun e w' => e = .returned (.int .i64 (ordI x y)) ∧ ∃ k, w' = w.drewN k := by
  obtain ⟨A, n, c, x1, x2, x3⟩ := hx.limbs
  obtain ⟨B, n', c', y1, y2, y3⟩ := hy.limbs
  rw [decide_eq_false (by omega)] at x1 y1
  have hc := fun W (hW : ∃ q, W = w.drewN q) => natCmp_any W A B n c n' c' x.natAbs y.natAbs (by obtain ⟨q, rfl⟩ := hW; exact x3) (by obtain ⟨q, rfl⟩ := hW; exact y3)
  rw [show ordI (x.natAbs : Int) (y.natAbs : Int) = ordI x y by rw [show (x.natAbs : Int) = x by omega, show (y.natAbs : Int) = y by omega]] at hc
  have hpe := run_eql_ptr_other (P := Tryz.prog) w (tp := 136) (te := 245) (a := ⟨b, 0, none⟩) (b := ⟨b', 0, none⟩) (j := (Tryz.prog.info? 245).get (by decide +kernel)) Tryz.underlying136 (by simp) (by decide +kernel) (by intro e; injection e with e1; exact hne e1) hbl hbl'
  obtain ⟨O, hO⟩ : ∃ O, O = ordI x y := ⟨_, rfl⟩
  rw [← hO] at hc ⊢
  have HC := Lib.hid hc
  clear hc hO
  go_enter Tryz.func113, Tryz.ntmps113
  go_wp2_with fail
  go_quiet (fail)
  go_wp2_with fail
  generalize hw1 : World.drewN w _ = w1
  have p1 : w1.cell? ⟨b, 1, none⟩ = some (.slice A n c) := by rw [← hw1]; exact x2
  have p2 : w1.cell? ⟨b', 1, none⟩ = some (.slice B n' c') := by rw [← hw1]; exact y2
  have p3 : w1.cell? ⟨b, 0, none⟩ = some (.bool false) := by rw [← hw1]; exact x1
  have hc2 := fun q => HC.out (w1.drewN q) (by rw [← hw1, World.drewN_drewN]; exact ⟨_, rfl⟩)
  have HC2 := Lib.hid hc2; have HW1 := Lib.hid hw1
  clear hc2 hw1 HC
  go_quiet ((go_at_call 137; with_reducible exact Calls.quiet_of (HC2.out _)))
  go_wp2_with fail
  go_ret
  exact ⟨rfl, _, by rw [← HW1.out, World.drewN_drewN]⟩

/-- The distance. -/
def farI (ax ay bx by_ : Int) : Int := max ((bx - ax).natAbs : Int) ((by_ - ay).natAbs : Int)

theorem BigIs.draws {w : World} {b : Nat} {z : Int} (h : BigIs w b z) (k : Nat) : BigIs (w.drewN k) b z := h
/-- Two numbers that lie apart, in new blocks. -/
def PairAt (w w' : World) (g1 g2 : Nat) (x y : Int) : Prop := (Below w.heap.size w w' ∧ w.heap.size ≤ g1 ∧ w.heap.size ≤ g2) ∧ g1 ≠ g2 ∧ BigIs w' g1 x ∧ BigIs w' g2 y ∧ (∃ cs, Blk w' g1 245 cs) ∧ ∃ cs, Blk w' g2 245 cs
theorem PairAt.swap {w w' : World} {g1 g2 : Nat} {x y : Int} (h : PairAt w w' g1 g2 x y) : PairAt w w' g2 g1 y x := ⟨⟨h.1.1, h.1.2.2, h.1.2.1⟩, h.2.1.symm, h.2.2.2.1, h.2.2.1, h.2.2.2.2.2, h.2.2.2.2.1⟩
theorem PairAt.of {w w0 w1 w2 : World} {g1 g2 : Nat} {x y : Int} (h0 : Below w.heap.size w w0) (a0 : w0.heap.size ≤ g1) (a1 : Below w0.heap.size w0 w1) (a2 : BigIs w1 g1 x) (a3 : ∃ cs, Blk w1 g1 245 cs) (b0 : w1.heap.size ≤ g2) (b1 : Below w1.heap.size w1 w2) (b2 : BigIs w2 g2 y) (b3 : ∃ cs, Blk w2 g2 245 cs) : PairAt w w2 g1 g2 x y := by
  obtain ⟨cs, hk⟩ := a3
  have hlt := hk.lt
  have hs0 := h0.size; have hs1 := a1.size
  exact ⟨⟨(h0.trans (a1.mono hs0)).trans (b1.mono (by omega)), by omega, by omega⟩, by omega, a2.below b1, b2, ⟨cs, hk.below b1 hlt⟩, b3⟩

/-- The two points in their boxes. -/
def S4 (W : World) (b : Nat) (ax ay bx by_ : Int) : Prop := W.cell? ⟨b, 0, none⟩ = some (.int .i64 ax) ∧ W.cell? ⟨b, 1, none⟩ = some (.int .i64 ay) ∧ W.cell? ⟨b + 1, 0, none⟩ = some (.int .i64 bx) ∧ W.cell? ⟨b + 1, 1, none⟩ = some (.int .i64 by_)
theorem S4.up {W W' : World} {b : Nat} {ax ay bx by_ : Int} (h : S4 W b ax ay bx by_) (hb : Below W.heap.size W W') : S4 W' b ax ay bx by_ := by
  have up : ∀ (a : Addr) (v : Value), W.cell? a = some v → W'.cell? a = some v := fun a v h => (hb.cell (World.block_lt_of_cell? W a h)).trans h
  exact ⟨up _ _ h.1, up _ _ h.2.1, up _ _ h.2.2.1, up _ _ h.2.2.2⟩

def FarTo (w : World) (z : Int) (e : Ending) (w' : World) : Prop := ∃ b, e = .returned (.pointer (some ⟨b, 0, none⟩)) ∧ Below w.heap.size w w' ∧ BigIs w' b z

set_option maxRecDepth 100000 in
set_option maxHeartbeats 4000000 in
theorem Far_any (w : World) (ax ay bx by_ : Int) (h1 : -9223372036854775808 ≤ ax ∧ ax ≤ 9223372036854775807) (h2 : -9223372036854775808 ≤ ay ∧ ay ≤ 9223372036854775807) (h3 : -9223372036854775808 ≤ bx ∧ bx ≤ 9223372036854775807) (h4 : -9223372036854775808 ≤ by_ ∧ by_ ≤ 9223372036854775807) :
    Calls Tryz.prog 70 #[.agg #[.int .i64 ax, .int .i64 ay], .agg #[.int .i64 bx, .int .i64 by_]] w (FarTo w (farI ax ay bx by_)) := by
  have d1 := Lib.hid (fun W => diff_any W ax bx h1 h3)
  have d2 := Lib.hid (fun W => diff_any W ay by_ h2 h4)
  clear h1 h2 h3 h4
  have k1 := (Blk.new w 34 #[.int .i64 ax, .int .i64 ay]).alloc (.cells #[.int .i64 bx, .int .i64 by_] 34)
  have k2 := Blk.new (w.alloc (.cells #[.int .i64 ax, .int .i64 ay] 34)) 34 #[.int .i64 bx, .int .i64 by_]
  rw [World.size_alloc] at k2
  have hb0 : Below w.heap.size w ((w.alloc (.cells #[.int .i64 ax, .int .i64 ay] 34)).alloc (.cells #[.int .i64 bx, .int .i64 by_] 34)) := ((Below.refl _ _).alloc (Nat.le_refl _) _).alloc (by rw [World.size_alloc]; omega) _
  have C0 : S4 (World.drew ((w.alloc (.cells #[.int .i64 ax, .int .i64 ay] 34)).alloc (.cells #[.int .i64 bx, .int .i64 by_] 34))) w.heap.size ax ay bx by_ := ⟨by rw [k1.drew.cell]; rfl, by rw [k1.drew.cell]; rfl, by rw [k2.drew.cell]; rfl, by rw [k2.drew.cell]; rfl⟩
  have UP := Lib.hid (fun W W' (h : S4 W w.heap.size ax ay bx by_) (hb : Below W.heap.size W W') => h.up hb)
  have HB0 := Lib.hid hb0.drew
  clear k1 k2 hb0
  unfold S4 at C0 UP
  go_enter Tryz.func70, Tryz.ntmps70
  go_wp2_with fail
  go_region_held3 (fun W => W.cell? ⟨w.heap.size, 0, none⟩ = some (.int .i64 ax) ∧ W.cell? ⟨w.heap.size, 1, none⟩ = some (.int .i64 ay) ∧ W.cell? ⟨w.heap.size + 1, 0, none⟩ = some (.int .i64 bx) ∧ W.cell? ⟨w.heap.size + 1, 1, none⟩ = some (.int .i64 by_))
    (first | with_reducible exact C0 | with_reducible exact CX | with_reducible exact CY)
    (first
      | (go_at_call_of 111 (Value.int .i64 ax); refine (d1.out _).mono ?_; rintro e wx ⟨gx, rfl, rx1, rx2, rx3⟩; have CX := UP.out _ _ (by first | exact C0 | exact CY) rx2; have HX := Lib.hid (And.intro rx1 (And.intro rx2 rx3)); clear rx1 rx2 rx3)
      | (go_at_call_of 111 (Value.int .i64 ay); refine (d2.out _).mono ?_; rintro e wy ⟨gy, rfl, ry1, ry2, ry3⟩; have CY := UP.out _ _ (by first | exact C0 | exact CX) ry2; have HY := Lib.hid (And.intro ry1 (And.intro ry2 ry3)); clear ry1 ry2 ry3))
  have hp := PairAt.of HB0.out HX.out.1 HX.out.2.1 HX.out.2.2.1 HX.out.2.2.2 HY.out.1 HY.out.2.1 HY.out.2.2.1 HY.out.2.2.2
  obtain ⟨hb, hne, hbx, hby, ⟨cs, hkx⟩, ⟨cs', hky⟩⟩ := hp
  clear HX HY CX CY C0
  generalize wy = W at hb hbx hby hkx hky ⊢
  clear UP d1 d2 HB0
  obtain ⟨dx, hdx⟩ : ∃ d, d = bx - ax := ⟨_, rfl⟩
  obtain ⟨dy, hdy⟩ : ∃ d, d = by_ - ay := ⟨_, rfl⟩
  rw [← hdx] at hbx
  rw [← hdy] at hby
  have hfar : farI ax ay bx by_ = max (dx.natAbs : Int) (dy.natAbs : Int) := by rw [hdx, hdy]; rfl
  clear hdx hdy
  obtain ⟨M, O, hM, hO, hcase⟩ : ∃ M O : Int, max (dx.natAbs : Int) (dy.natAbs : Int) = M ∧ ordI (dx.natAbs : Int) (dy.natAbs : Int) = O ∧ ((O = 1 ∧ M = dx.natAbs) ∨ (decide (0 < O) = false ∧ M = dy.natAbs)) := by
    refine ⟨_, _, rfl, rfl, ?_⟩
    by_cases hgt : (dy.natAbs : Int) < (dx.natAbs : Int)
    · left
      exact ⟨by unfold ordI; rw [if_neg (by omega), if_pos (by omega)], by omega⟩
    · right
      refine ⟨?_, by omega⟩
      unfold ordI
      split
      · decide
      · decide
  rw [hM] at hfar
  have HFAR := Lib.hid hfar
  clear hfar
  have a1 := Abs_any W gx dx hbx cs hkx
  have hbx1 := hbx.abs
  obtain ⟨u1, hu1⟩ : ∃ u, W.cell? ⟨gx, 0, none⟩ = some (.bool u) := by obtain ⟨_, _, _, h, -⟩ := hbx; exact ⟨_, h⟩
  have hby1 := hby.far hne.symm (v := false) hu1
  have hkx1 := hkx.set_ 0 (.bool false)
  have hky1 := hky.far (p := ⟨gx, 0, none⟩) hne.symm (.bool false)
  have hW1 : Below w.heap.size w (W.setCell ⟨gx, 0, none⟩ (.bool false)) := hb.1.setCell (p := ⟨gx, 0, none⟩) hb.2.1 _
  obtain ⟨W1, hw1⟩ : ∃ W1, W1 = W.setCell ⟨gx, 0, none⟩ (.bool false) := ⟨_, rfl⟩
  rw [← hw1] at a1 hbx1 hby1 hkx1 hky1 hW1
  have a2 := Abs_any W1 gy dy hby1 _ hky1
  have hby2 := hby1.abs
  obtain ⟨u2, hu2⟩ : ∃ u, W1.cell? ⟨gy, 0, none⟩ = some (.bool u) := by obtain ⟨_, _, _, h, -⟩ := hby1; exact ⟨_, h⟩
  have hbx2 := hbx1.far hne (v := false) hu2
  have hky2 := hky1.set_ 0 (.bool false)
  have hkx2 := hkx1.far (p := ⟨gy, 0, none⟩) hne (.bool false)
  have hW2 : Below w.heap.size w (W1.setCell ⟨gy, 0, none⟩ (.bool false)) := hW1.setCell (p := ⟨gy, 0, none⟩) hb.2.2 _
  obtain ⟨W2, hw2⟩ : ∃ W2, W2 = W1.setCell ⟨gy, 0, none⟩ (.bool false) := ⟨_, rfl⟩
  rw [← hw2] at a2 hby2 hbx2 hky2 hkx2 hW2
  have a3 := Cmp_any W2 gx gy (dx.natAbs : Int) (dy.natAbs : Int) hne _ _ hkx2 hky2 hbx2 hby2 (by omega) (by omega)
  rw [hO] at a3
  have A1 := Lib.hid a1; have A2 := Lib.hid a2; have A3 := Lib.hid a3; have HE := Lib.hid (And.intro hW2 (And.intro hbx2 hby2))
  clear a1 a2 a3 hM hO hbx hby hkx hky hbx1 hby1 hkx1 hky1 hbx2 hby2 hkx2 hky2 hu1 hu2 hW1 hW2 hw1 hw2 hb
  go_wp2_with fail
  refine A1.out.mono ?_
  rintro e _ ⟨rfl, rfl⟩
  go_wp2_with fail
  refine A2.out.mono ?_
  rintro e _ ⟨rfl, rfl⟩
  go_wp2_with fail
  refine A3.out.mono ?_
  rintro e _ ⟨rfl, kk, rfl⟩
  rcases hcase with ⟨rfl, rfl⟩ | ⟨hd, rfl⟩
  · go_wp2_with fail
    go_ret
    exact ⟨gx, rfl, drewK_ HE.out.1 kk, by rw [HFAR.out]; exact HE.out.2.1.draws kk⟩
  · go_wp2_with fail
    go_ret
    exact ⟨gy, rfl, drewK_ HE.out.1 kk, by rw [HFAR.out]; exact HE.out.2.2.draws kk⟩

set_option maxRecDepth 100000 in
set_option maxHeartbeats 1000000 in
theorem RDist_any (w : World) (ax ay bx by_ : Int) (h1 : -9223372036854775808 ≤ ax ∧ ax ≤ 9223372036854775807) (h2 : -9223372036854775808 ≤ ay ∧ ay ≤ 9223372036854775807) (h3 : -9223372036854775808 ≤ bx ∧ bx ≤ 9223372036854775807) (h4 : -9223372036854775808 ≤ by_ ∧ by_ ≤ 9223372036854775807) :
    Calls Tryz.prog 42 #[.agg #[.int .i64 ax, .int .i64 ay], .agg #[.int .i64 bx, .int .i64 by_]] w fun e w' => e = .returned (.int .i64 (min (farI ax ay bx by_) 9223372036854775807)) ∧ Below w.heap.size w w' := by
  have hf := Lib.hid (fun W => Far_any W ax ay bx by_ h1 h2 h3 h4)
  have h0 : 0 ≤ farI ax ay bx by_ := by unfold farI; omega
  have hs := Lib.hid (fun W b (h : BigIs W b (farI ax ay bx by_)) => Sat_pos W b _ h0 h)
  have hb0 := Lib.hid (show Below w.heap.size w ((w.alloc (.cells #[.int .i64 ax, .int .i64 ay] 34)).alloc (.cells #[.int .i64 bx, .int .i64 by_] 34)) from ((Below.refl _ _).alloc (Nat.le_refl _) _).alloc (by rw [World.size_alloc]; omega) _)
  clear h1 h2 h3 h4 h0
  go_enter Tryz.func42, Tryz.ntmps42
  go_wp2_with fail
  refine (hf.out _).mono ?_
  rintro e w1 ⟨b, rfl, r1, r2⟩
  have HR := Lib.hid (And.intro (hb0.out.trans (r1.mono hb0.out.size)) (hs.out _ _ r2))
  clear r1 r2
  go_wp2_with fail
  refine HR.out.2.mono ?_
  rintro e w2 ⟨rfl, rfl⟩
  go_wp2_with fail
  go_ret
  exact ⟨rfl, HR.out.1⟩
end Go.Proofs.YtkiknbjokknemaaGreat
