/-
  THERE: channel.New of a number out of range; the greater of two ints.
-/
import Derived.Test.YthjjipcbpmdfnaaChNilA
namespace Go.Proofs.Ythjjipcbpmdfnaa
open Go.RowKit
theorem madeZ (n : Nat) : (Go.madeCells (Value.int .u8 0).cells (n * 1)) = (byts (List.replicate n 0)).toArray := by
  apply Array.ext
  · simp [size_madeCells, byts]
  · intro i h1 h2
    simp [Go.madeCells, Value.cells, byts, Nat.mod_one]
theorem make_bytesZ (m : Nat) (hm : m ≤ 4000) : ∃ cs : Array Value, cs = (byts (List.replicate m 0)).toArray ∧ ∀ W, (Instr.makeSlice 41 (.int .i64 (m : Int)) (.int .i64 (m : Int))).run Try.prog W = .ok (.slice (some ⟨W.heap.size, 0, none⟩) m m) (W.alloc (.cells cs 5)) := by
  have hi : (Try.prog.info? 5).map (fun i => (i.zero, i.size, i.bytes)) = some (some (.int .u8 0), 1, 1) := by kernel_rfl
  obtain ⟨i, h1, h2, h3, h4⟩ := info_parts hi
  refine ⟨_, (madeZ m), fun W => ?_⟩
  have h := run_makeSlice (P := Try.prog) W 41 5 i (.int .u8 0) Try.underlying41 h1 h2 .i64 .i64 (m : Int) (m : Int) (by omega) (by omega) (by rw [h3, Int.toNat_natCast]; omega) (by rw [h4]; omega) (by omega)
  rw [h3, Int.toNat_natCast] at h
  exact h
theorem run_maxI {P : Program} (W : World) (ts : Array TypeId) (t : TypeId) (a b m : Int) (hm : m = max a b) : (Builtin.max_ ts t #[.int .i64 a, .int .i64 b]).run P W = .ok (.int .i64 m) W := by
  have e : ∀ x y : Int, (if x < y then y else x) = max x y := by
    intro x y; rw [Int.max_def]; split <;> split <;> omega
  subst hm
  simp [Builtin.max_, Builtin.max2, e]
end Go.Proofs.Ythjjipcbpmdfnaa
