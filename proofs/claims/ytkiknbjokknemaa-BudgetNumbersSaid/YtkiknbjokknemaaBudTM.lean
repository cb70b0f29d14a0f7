/-
  math/big: set, the sum and the difference of numbers of one limb.
-/
import Derived.Test.YtkiknbjokknemaaBudTL
import Derived.Laws.Externs
import Derived.Laws.Twins
import Derived.Laws.IdiomCopy
namespace Go.Proofs.Ytkiknbjokknemaa
open Go.RowKit

theorem add64_any (x y : Nat) (h : x + y ≤ 18446744073709551615) (w : World) : (callFunc 97 #[.int .u64 (x : Int), .int .u64 (y : Int), .int .u64 0]).run Try.prog w = .ok (.value (.tuple #[.int .u64 ((x : Int) + y), .int .u64 0])) w := by
  rw [run_callFunc_extern Try.func97 (by kernel_rfl) (by kernel_rfl) (by kernel_rfl) (e := add64Entry) (by kernel_rfl), run_add64 x y 0 (by omega) (by omega) (by omega) (by omega)]
  have e1 : ((x : Int) + y + 0) % 18446744073709551616 = (x : Int) + y := by omega
  have e2 : ((x : Int) + y + 0) / 18446744073709551616 = 0 := by omega
  rw [e1, e2]
  rfl

theorem sub64_any (x y : Nat) (h : y ≤ x) (hx : x ≤ 18446744073709551615) (w : World) : (callFunc 99 #[.int .u64 (x : Int), .int .u64 (y : Int), .int .u64 0]).run Try.prog w = .ok (.value (.tuple #[.int .u64 ((x : Int) - y), .int .u64 0])) w := by
  obtain ⟨e, he⟩ : ∃ e, Extern.find Try.f99 = some e := Option.isSome_iff_exists.1 (by kernel_rfl)
  rw [run_callFunc_extern Try.func99 (by kernel_rfl) (by kernel_rfl) (by kernel_rfl) he]
  have hk : (Extern.find Try.f99).map (fun e => (e #[.int .u64 (x : Int), .int .u64 (y : Int), .int .u64 0]).run Try.prog w) = some (.ok (.tuple #[.int .u64 (((x + 18446744073709551616 - y - 0) % 18446744073709551616 : Nat) : Int), .int .u64 ((if x < y + 0 then 1 else 0 : Nat) : Int)]) w) := by kernel_rfl
  rw [he, Option.map_some] at hk
  rw [Option.some.inj hk, if_neg (by omega)]
  rw [show (((x + 18446744073709551616 - y - 0) % 18446744073709551616 : Nat) : Int) = (x : Int) - y by omega]
  rfl

theorem addVV_enters (args : Array Value) (w : World) : (callFunc 89 args).run Try.prog w = .ok (.enter 67 args) w :=
  run_callFunc_twin (twin := "math/big.addVV_g") Try.func89 (by kernel_rfl) (by kernel_rfl) (by kernel_rfl) (by kernel_rfl) Try.func67 (by kernel_rfl) (by kernel_rfl) (by kernel_rfl) args w
theorem subVV_enters (args : Array Value) (w : World) : (callFunc 93 args).run Try.prog w = .ok (.enter 68 args) w :=
  run_callFunc_twin (twin := "math/big.subVV_g") Try.func93 (by kernel_rfl) (by kernel_rfl) (by kernel_rfl) (by kernel_rfl) Try.func68 (by kernel_rfl) (by kernel_rfl) (by kernel_rfl) args w

theorem copy_one (W : World) (b g off c : Nat) (m u : Int) (h : W.cell? ⟨g, off, none⟩ = some (.int .u64 m)) (hb : W.cell? ⟨b, 0, none⟩ = some (.int .u64 u)) (hf : W.frozen? ⟨b, 0, none⟩ = false) (ty : TypeId) :
    (Builtin.copy_ #[117, 117] ty #[.slice (some ⟨b, 0, none⟩) 1 1, .slice (some ⟨g, off, none⟩) 1 c]).run Try.prog W = .ok (goInt 1) (W.setCell ⟨b, 0, none⟩ (.int .u64 m)) := by
  refine run_copy_cells W _ _ ty 130 b 0 1 1 ⟨g, off, none⟩ 1 c [.int .u64 m] Try.underlying117 (by kernel_rfl) rfl ?_ ?_ ?_ ?_
  · intro j v hj
    cases j with
    | zero => simp only [List.getElem?_cons_zero, Option.some.injEq] at hj; subst hj; simpa [Addr.add] using h
    | succ j => simp at hj
  · intro j hj
    obtain rfl : j = 0 := by simpa using hj
    simp [hb]
  · intro j hj
    obtain rfl : j = 0 := by simpa using hj
    exact hf
  · intro v hv
    simp only [List.mem_singleton] at hv; subst hv; rfl

/-- A slice that is a limb in new memory. -/
def NewLimb (w : World) (m : Nat) (e : Ending) (w' : World) : Prop := ∃ (A : Option Addr) (n c : Nat), e = .returned (.slice A n c) ∧ n ≤ 1 ∧ c ≤ 1000 ∧ Below w.heap.size w w' ∧ LimbAt w' A n c m

set_option maxRecDepth 100000 in
set_option maxHeartbeats 4000000 in
theorem natSet_one (w : World) (g off c m : Nat) (hm : m ≠ 0) (h : w.cell? ⟨g, off, none⟩ = some (.int .u64 (m : Int))) :
    Calls Try.prog 86 #[.slice none 0 0, .slice (some ⟨g, off, none⟩) 1 c] w (NewLimb w m) := by
  have hl := Lib.hid (natMake_one w)
  have hg := World.block_lt_of_cell? w _ h
  have b := Blk.new w 130 #[.int .u64 0]
  have c0 := b.cell 0; have f0 := b.frozen 0
  have h' : (w.alloc (.cells #[.int .u64 0] 130)).cell? ⟨g, off, none⟩ = some (.int .u64 (m : Int)) := by rw [World.cell?_alloc_past _ _ _ hg]; exact h
  simp only [List.getElem?_toArray, List.getElem?_cons_zero] at c0
  have hcp := copy_one _ _ _ _ c _ _ h' c0 f0
  have hfin : NewLimb w m (.returned (.slice (some ⟨w.heap.size, 0, none⟩) 1 1)) (w.alloc (.cells #[.int .u64 (m : Int)] 130)) := by
    refine ⟨_, _, _, rfl, by decide, by decide, (Below.refl _ _).alloc (Nat.le_refl _) _, .inr ⟨hm, rfl, _, _, rfl, ?_⟩, by decide⟩
    rw [(Blk.new w 130 #[.int .u64 (m : Int)]).cell]; rfl
  have HF := Lib.hid hfin
  clear b hfin
  go_enter Try.func86, Try.ntmps86
  go_wp2_with fail
  refine hl.out.mono ?_
  rintro e w1 ⟨rfl, rfl⟩
  go_wp2_with fail
  go_ret
  exact HF.out

set_option maxRecDepth 100000 in
set_option maxHeartbeats 1000000 in
theorem bitsAdd_any (w : World) (x y : Nat) (h : x + y ≤ 18446744073709551615) : Calls Try.prog 92 #[.int .u64 (x : Int), .int .u64 (y : Int), .int .u64 0] w fun e w' => e = .returned (.tuple #[.int .u64 ((x : Int) + y), .int .u64 0]) ∧ w' = w := by
  have ha := add64_any x y h
  go_enter Try.func92, Try.ntmps92
  go_wp2_with fail
  go_ret2
  exact ⟨rfl, rfl⟩
set_option maxRecDepth 100000 in
set_option maxHeartbeats 1000000 in
theorem bitsSub_any (w : World) (x y : Nat) (h : y ≤ x) (hx : x ≤ 18446744073709551615) : Calls Try.prog 95 #[.int .u64 (x : Int), .int .u64 (y : Int), .int .u64 0] w fun e w' => e = .returned (.tuple #[.int .u64 ((x : Int) - y), .int .u64 0]) ∧ w' = w := by
  have ha := sub64_any x y h hx
  go_enter Try.func95, Try.ntmps95
  go_wp2_with fail
  go_ret2
  exact ⟨rfl, rfl⟩

set_option maxRecDepth 100000 in
set_option maxHeartbeats 4000000 in
theorem addVV_one (w : World) (b cz g off c1 g' off' c2 x y u : Nat) (h : x + y ≤ 18446744073709551615) (hz : w.cell? ⟨b, 0, none⟩ = some (.int .u64 (u : Int))) (hf : w.frozen? ⟨b, 0, none⟩ = false) (hx : w.cell? ⟨g, off, none⟩ = some (.int .u64 (x : Int))) (hy : w.cell? ⟨g', off', none⟩ = some (.int .u64 (y : Int))) :
    Calls Try.prog 67 #[.slice (some ⟨b, 0, none⟩) 1 cz, .slice (some ⟨g, off, none⟩) 1 c1, .slice (some ⟨g', off', none⟩) 1 c2] w fun e w' => e = .returned (.int .u64 0) ∧ ∃ k, w' = (w.setCell ⟨b, 0, none⟩ (.int .u64 ((x : Int) + y))).drewN k := by
  have hb := Lib.hid (fun W => bitsAdd_any W x y h)
  go_enter Try.func67, Try.ntmps67
  go_wp2_with fail
  refine wp_loop_rounds 2 ?_
  rw [rounds_succ]
  go_wp2_with fail
  go_quiet ((go_at_call 92; with_reducible exact Calls.quiet_of_same (hb.out _)))
  go_wp2_with fail
  rw [rounds_succ]
  go_wp2_with fail
  go_ret
  exact ⟨rfl, _, rfl⟩

set_option maxRecDepth 100000 in
set_option maxHeartbeats 4000000 in
theorem subVV_one (w : World) (b cz g off c1 g' off' c2 x y u : Nat) (h : y ≤ x) (hx0 : x ≤ 18446744073709551615) (hz : w.cell? ⟨b, 0, none⟩ = some (.int .u64 (u : Int))) (hf : w.frozen? ⟨b, 0, none⟩ = false) (hx : w.cell? ⟨g, off, none⟩ = some (.int .u64 (x : Int))) (hy : w.cell? ⟨g', off', none⟩ = some (.int .u64 (y : Int))) :
    Calls Try.prog 68 #[.slice (some ⟨b, 0, none⟩) 1 cz, .slice (some ⟨g, off, none⟩) 1 c1, .slice (some ⟨g', off', none⟩) 1 c2] w fun e w' => e = .returned (.int .u64 0) ∧ ∃ k, w' = (w.setCell ⟨b, 0, none⟩ (.int .u64 ((x : Int) - y))).drewN k := by
  have hb := Lib.hid (fun W => bitsSub_any W x y h hx0)
  go_enter Try.func68, Try.ntmps68
  go_wp2_with fail
  refine wp_loop_rounds 2 ?_
  rw [rounds_succ]
  go_wp2_with fail
  go_quiet ((go_at_call 95; with_reducible exact Calls.quiet_of_same (hb.out _)))
  go_wp2_with fail
  rw [rounds_succ]
  go_wp2_with fail
  go_ret
  exact ⟨rfl, _, rfl⟩
end Go.Proofs.Ytkiknbjokknemaa
