/-
  WALK of made: the wants of a turn.
-/
import Derived.Test.YtkiknbjokknemaaGreatBudO
import Derived.Test.YtkiknbjokknemaaGreatBudC
import Derived.Laws.BitsAllLaws
namespace Go.Proofs.YtkiknbjokknemaaGreat
open Go.RowKit

theorem el_want : Elem Tryz.prog 23 26 2 16 (.agg #[.int .i64 0, .int .i64 0]) := ⟨Tryz.underlying23, by kernel_rfl, rfl, by decide⟩

theorem bit_u16 (bits : Int) (j : Nat) (h0 : 0 ≤ bits) (h1 : bits ≤ 65535) : Go.bits .and .u16 (bits / 2 ^ j) 1 = ((bits.toNat / 2 ^ j % 2 : Nat) : Int) := by
  obtain ⟨n, rfl⟩ := Int.eq_ofNat_of_zero_le h0
  have e : ((n : Int) / 2 ^ j) = ((n / 2 ^ j : Nat) : Int) := by simp
  have hlt : n / 2 ^ j < 65536 := Nat.lt_of_le_of_lt (Nat.div_le_self _ _) (by omega)
  rw [e, show (1 : Int) = ((1 : Nat) : Int) from rfl, u16_and_nat _ _ hlt (by omega), Nat.and_one_is_mod]
  simp
theorem nib_u64 (x : Int) (j : Nat) (h0 : 0 ≤ x) (h1 : x ≤ 18446744073709551615) : Go.bits .and .u64 (x / 2 ^ j) 15 = ((x.toNat / 2 ^ j % 16 : Nat) : Int) := by
  obtain ⟨n, rfl⟩ := Int.eq_ofNat_of_zero_le h0
  have e : ((n : Int) / 2 ^ j) = ((n / 2 ^ j : Nat) : Int) := by simp
  have hlt : n / 2 ^ j < 18446744073709551616 := Nat.lt_of_le_of_lt (Nat.div_le_self _ _) (by omega)
  rw [e, show (15 : Int) = ((15 : Nat) : Int) from rfl, u64_and_nat _ _ hlt (by omega), show (15 : Nat) = 2 ^ 4 - 1 from rfl, Nat.and_two_pow_sub_one_eq_mod]
  simp

theorem laidW {w : World} {o : Own} {σ : Nat} {A : Option Addr} {n c : Nat} {vs : List Value} (h : Row w o σ 26 2 A n c vs) (a b : Int) :
    ∃ oW, Step [] w o (w.alloc (.cells #[.int .i64 a, .int .i64 b] 26)) oW ∧ Row (w.alloc (.cells #[.int .i64 a, .int .i64 b] 26)) oW σ 26 2 A n c vs ∧ Sl (w.alloc (.cells #[.int .i64 a, .int .i64 b] 26)) oW 5 2 (some ⟨w.heap.size, 0, none⟩) 1 1 [.int .i64 a, .int .i64 b] := by
  have st := (Step.refl [] w o).alloc (.cells #[.int .i64 a, .int .i64 b] 26) 5
  have b' := Blk.new w 26 #[.int .i64 a, .int .i64 b]
  refine ⟨_, st, h.step st (by simp), ⟨rfl, Nat.le_refl _, by decide, fun _ => ⟨w.heap.size, 0, rfl, ext_ge (Nat.le_refl _), b'.lt, fun j u hj => ?_⟩⟩⟩
  rw [Nat.zero_add, b'.cell]
  simpa using hj

end Go.Proofs.YtkiknbjokknemaaGreat
