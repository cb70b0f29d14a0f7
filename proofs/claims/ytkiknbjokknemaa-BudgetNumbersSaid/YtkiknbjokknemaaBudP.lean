/-
  WALK of made: the wants of a turn.
-/
import Derived.Test.YtkiknbjokknemaaBudO
import Derived.Test.YtkiknbjokknemaaBudC
import Derived.Laws.BitsAllLaws
namespace Go.Proofs.Ytkiknbjokknemaa
open Go.RowKit

theorem el_want : Elem Try.prog 35 46 2 16 (.agg #[.int .i64 0, .int .i64 0]) := ⟨Try.underlying35, by kernel_rfl, rfl, by decide⟩

theorem bit_u16 (bits : Int) (j : Nat) (h0 : 0 ≤ bits) (h1 : bits ≤ 65535) : Go.bits .and .u16 (bits / 2 ^ j) 1 = ((bits.toNat / 2 ^ j % 2 : Nat) : Int) := by
  obtain ⟨n, rfl⟩ := Int.eq_ofNat_of_zero_le h0
  have e : ((n : Int) / 2 ^ j) = ((n / 2 ^ j : Nat) : Int) := by simp
  have hlt : n / 2 ^ j < 65536 := Nat.lt_of_le_of_lt (Nat.div_le_self _ _) (by omega)
  rw [e, show (1 : Int) = ((1 : Nat) : Int) from rfl, u16_and_nat _ _ hlt (by omega), Nat.and_one_is_mod]
  simp
theorem nib_u64 (x : Int) (j : Nat) (h0 : 0 ≤ x) (h1 : x ≤ 18446744073709551615) : Go.bits .and .u64 (x / 2 ^ j) 15 = ((x.toNat / 2 ^ j % 16 : Nat) : Int) := by
  obtain ⟨n, rfl⟩ := Int.eq_ofNat_of_zero_le h0
  have e : ((n : Int) / 2 ^ j) = ((n / 2 ^ j : Nat) : Int) := by simp
  have hlt : n / 2 ^ j < 18446744073709551616 := Nat.lt_of_le_of_lt (Nat.div_le_self _ _) (by omega)
  rw [e, show (15 : Int) = ((15 : Nat) : Int) from rfl, u64_and_nat _ _ hlt (by omega), show (15 : Nat) = 2 ^ 4 - 1 from rfl, Nat.and_two_pow_sub_one_eq_mod]
  simp

theorem laidW {w : World} {o : Own} {σ : Nat} {A : Option Addr} {n c : Nat} {vs : List Value} (h : Row w o σ 46 2 A n c vs) (a b : Int) :
    ∃ oW, Step [] w o (w.alloc (.cells #[.int .i64 a, .int .i64 b] 46)) oW ∧ Row (w.alloc (.cells #[.int .i64 a, .int .i64 b] 46)) oW σ 46 2 A n c vs ∧ Sl (w.alloc (.cells #[.int .i64 a, .int .i64 b] 46)) oW 5 2 (some ⟨w.heap.size, 0, none⟩) 1 1 [.int .i64 a, .int .i64 b] := by
  have st := (Step.refl [] w o).alloc (.cells #[.int .i64 a, .int .i64 b] 46) 5
  have b' := Blk.new w 46 #[.int .i64 a, .int .i64 b]
  refine ⟨_, st, h.step st (by simp), ⟨rfl, Nat.le_refl _, by decide, fun _ => ⟨w.heap.size, 0, rfl, ext_ge (Nat.le_refl _), b'.lt, fun j u hj => ?_⟩⟩⟩
  rw [Nat.zero_add, b'.cell]
  simpa using hj

set_option maxRecDepth 100000 in
set_option maxHeartbeats 1000000 in
theorem made_any (w : World) (o : Own) (σ : Nat) (bits weights k : Int) (hb0 : 0 ≤ bits) (hb1 : bits ≤ 65535) (hw0 : 0 ≤ weights) (hw1 : weights ≤ 18446744073709551615) (hk0 : 0 ≤ k) (hk1 : k ≤ 255) (hσ : ∀ b, b < w.heap.size → o b ≠ σ) (hσ5 : σ ≠ 5) :
    Calls Try.prog 16 #[.agg #[.int .u16 bits, .int .u64 weights, .int .u8 k]] w fun e w' => ∃ A n c o', e = .returned (.tuple #[.slice A n c, .int .i64 (1 + k % 4)]) ∧ Step [] w o w' o' ∧ Row w' o' σ 46 2 A n c (wnts (madeTo bits.toNat weights.toNat 16)) := by
  go_enter Try.func16, Try.ntmps16
  go_wp2_with fail
  obtain ⟨W, hW⟩ : ∃ W, W = w.alloc (.cells #[.int .u16 bits, .int .u64 weights, .int .u8 k] 41) := ⟨_, rfl⟩
  have hB : Blk W w.heap.size 41 #[.int .u16 bits, .int .u64 weights, .int .u8 k] := by rw [hW]; exact Blk.new _ _ _
  have hS : Step [] w o W (ext o w.heap.size 5) := by rw [hW]; exact (Step.refl [] w o).alloc _ 5
  rw [← hW]
  have HB := Lib.hid hB; have HS := Lib.hid hS
  clear hW hB hS
  go_loopw [5, 4] (fun i s wr => ∃ (j : Nat) (A : Option Addr) (n c : Nat) (o' : Own), j ≤ 16 ∧ i = .int .i64 j ∧ s = .slice A n c ∧ Hid (Step [σ] W (ext o w.heap.size 5) wr o' ∧ Row wr o' σ 46 2 A n c (wnts (madeTo bits.toNat weights.toNat j)))) (fun i _ _ => 16 - (intOf i).toNat)
  case atStart => exact ⟨0, none, 0, 0, _, by omega, rfl, rfl, Lib.hid ⟨Step.refl _ _ _, Row.nil_ _ _ _ _ _⟩⟩
  case round =>
    obtain ⟨j, A, n, c, o', hj, rfl, rfl, HJ⟩ := hrel
    have hb := HB.out.step HJ.out.1 (by rw [ext_ge (Nat.le_refl _)]; simpa using hσ5.symm)
    have c0 := hb.cell 0; have c1 := hb.cell 1; have c2 := hb.cell 2
    simp only [List.getElem?_toArray, List.getElem?_cons_zero, List.getElem?_cons_succ] at c0 c1 c2
    clear hb
    by_cases hlt : j < 16
    · have e1 := bit_u16 bits j hb0 hb1
      have e2 := nib_u64 weights (4 * j) hw0 hw1
      have hsucc := madeTo_succ bits.toNat weights.toNat j
      by_cases hbit : bits.toNat / 2 ^ j % 2 = 1
      · obtain ⟨v, hv⟩ : ∃ v : Nat, v = weights.toNat / 2 ^ (4 * j) % 16 := ⟨_, rfl⟩
        have hv15 : v < 16 := by omega
        rw [hbit] at e1
        rw [← hv] at e2
        rw [show madeAt bits.toNat weights.toNat j = some (2 * (j : Int), 1 + (v : Int)) by unfold madeAt; rw [if_pos hbit, hv]] at hsucc
        obtain ⟨oW, hstW, hrowW, hslW⟩ := laidW HJ.out.2 (2 * (j : Int)) (1 + (v : Int))
        have HSTW := Lib.hid hstW; have HROWW := Lib.hid hrowW; have HSLW := Lib.hid hslW; have HSU := Lib.hid hsucc
        have hn : n = (madeTo bits.toNat weights.toNat j).length := by have := HJ.out.2.len; rw [len_wnts] at this; omega
        have hn2 := madeTo_len bits.toNat weights.toNat j
        rw [← hn] at hn2
        clear hstW hrowW hslW hv hbit hsucc hn
        have e1' : (Go.bits .and .u16 (bits / 2 ^ j) 1 == 1) = true := by rw [e1]; rfl
        clear e1
        go_wp2_with (at_builtin; refine wpList_append_row _ rfl (.tmp 16) (.tmp 28) _ rfl el_want oW σ A n c _ rfl HROWW.out oW 5 _ 1 1 [.int .i64 (2 * (j : Int)), .int .i64 (1 + (v : Int))] rfl HSLW.out (by simp [Value.oneCell']) (by omega) (by simp only [maxLen]; omega) ?_; intro A' c' w6 hR6 hg6 hat6; have HR6 := Lib.hid hR6; have HG6 := Lib.hid hg6; clear hR6 hg6 hat6)
        go_roundw
        case rel =>
          have st6 := Step.append HROWW.out HG6.out σ
          refine ⟨j + 1, A', n + 1, c', _, by omega, by go_num, rfl, Lib.hid ⟨HJ.out.1.trans (HSTW.out.nil.trans st6), ?_⟩⟩
          rw [HSU.out]
          simpa [wnts] using HR6.out
        case measure => simp [intOf]; omega
      · have h0 : bits.toNat / 2 ^ j % 2 = 0 := by omega
        rw [h0] at e1
        rw [show madeAt bits.toNat weights.toNat j = none by unfold madeAt; rw [if_neg hbit]] at hsucc
        have HSU := Lib.hid hsucc
        have e1' : (Go.bits .and .u16 (bits / 2 ^ j) 1 == 1) = false := by rw [e1]; rfl
        clear hsucc e1 e2 hbit h0
        go_wp2_with fail
        go_roundw
        case rel => exact ⟨j + 1, A, n, c, o', by omega, by go_num, rfl, Lib.hid ⟨HJ.out.1, by rw [HSU.out]; simpa using HJ.out.2⟩⟩
        case measure => simp [intOf]; omega
    · obtain rfl : j = 16 := by omega
      go_wp2_with fail
      go_quiet (fail)
      go_wp2_with fail
      go_ret2
      refine ⟨A, n, c, o', rfl, ?_, HJ.out.2⟩
      exact ((HS.out.nil (ts := [σ])).trans HJ.out.1).forget (ts' := []) (fun t ht _ k hk => by simp at ht; subst ht; exact hσ k hk) |>.drewN _
end Go.Proofs.Ytkiknbjokknemaa
