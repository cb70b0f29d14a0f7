/-
  Channels that are nil, or that New did not return; what keeps the bounds when a packet comes; numbers of a closed start.
-/
import Derived.Test.YthjjipcbpmdfnaaChM
namespace Go.Proofs.Ythjjipcbpmdfnaa
open Go.RowKit

set_option maxRecDepth 100000 in
set_option maxHeartbeats 400000 in
theorem Flush_none (w : World) (t : Int) : Calls Try.prog 20 #[.pointer none, .int .i64 t] w fun e w' => e = .returned (.tuple #[.slice none 0 0, .int .i64 1]) ∧ w = w' := by
  go_enter Try.func20, Try.ntmps20
  go_wp2_with (go_at_call 41; refine (there_none _).mono ?_; rintro e w' ⟨rfl, rfl⟩)
  go_ret2
  exact ⟨rfl, rfl⟩
set_option maxRecDepth 100000 in
set_option maxHeartbeats 400000 in
theorem Flush_zero {b : Nat} (w : World) (t : Int) (h5 : w.cell? ⟨b, 5, none⟩ = some (.pointer none)) : Calls Try.prog 20 #[.pointer (some ⟨b, 0, none⟩), .int .i64 t] w fun e w' => e = .returned (.tuple #[.slice none 0 0, .int .i64 1]) ∧ w = w' := by
  go_enter Try.func20, Try.ntmps20
  go_wp2_with (go_at_call 41; refine (there_zero h5).mono ?_; rintro e w' ⟨rfl, rfl⟩)
  go_ret2
  exact ⟨rfl, rfl⟩
set_option maxRecDepth 100000 in
set_option maxHeartbeats 400000 in
theorem Receive_none (w : World) (v : Value) : Calls Try.prog 24 #[.pointer none, v] w fun e w' => e = .returned (.tuple #[.slice none 0 0, .int .i64 1]) ∧ w = w' := by
  go_enter Try.func24, Try.ntmps24
  go_wp2_with (go_at_call 41; refine (there_none _).mono ?_; rintro e w' ⟨rfl, rfl⟩)
  go_ret2
  exact ⟨rfl, rfl⟩
set_option maxRecDepth 100000 in
set_option maxHeartbeats 400000 in
theorem Receive_zero {b : Nat} (w : World) (v : Value) (h5 : w.cell? ⟨b, 5, none⟩ = some (.pointer none)) : Calls Try.prog 24 #[.pointer (some ⟨b, 0, none⟩), v] w fun e w' => e = .returned (.tuple #[.slice none 0 0, .int .i64 1]) ∧ w = w' := by
  go_enter Try.func24, Try.ntmps24
  go_wp2_with (go_at_call 41; refine (there_zero h5).mono ?_; rintro e w' ⟨rfl, rfl⟩)
  go_ret2
  exact ⟨rfl, rfl⟩
set_option maxHeartbeats 400000 in
theorem Send_none (w : World) (v : Value) : Calls Try.prog 16 #[.pointer none, v] w fun e w' => e = .returned (.int .i64 1) ∧ w = w' := by
  go_enter Try.func16, Try.ntmps16
  go_wp2_with (go_at_call 41; refine (there_none _).mono ?_; rintro e w' ⟨rfl, rfl⟩)
  go_ret
  exact ⟨rfl, rfl⟩
set_option maxHeartbeats 400000 in
theorem Send_zero {b : Nat} (w : World) (v : Value) (h5 : w.cell? ⟨b, 5, none⟩ = some (.pointer none)) : Calls Try.prog 16 #[.pointer (some ⟨b, 0, none⟩), v] w fun e w' => e = .returned (.int .i64 1) ∧ w = w' := by
  go_enter Try.func16, Try.ntmps16
  go_wp2_with (go_at_call 41; refine (there_zero h5).mono ?_; rintro e w' ⟨rfl, rfl⟩)
  go_ret
  exact ⟨rfl, rfl⟩
set_option maxHeartbeats 400000 in
theorem Waiting_none (w : World) : Calls Try.prog 31 #[.pointer none] w fun e w' => e = .returned (.int .i64 0) ∧ w = w' := by
  go_enter Try.func31, Try.ntmps31
  go_wp2_with (go_at_call 41; refine (there_none _).mono ?_; rintro e w' ⟨rfl, rfl⟩)
  go_ret
  exact ⟨rfl, rfl⟩
set_option maxHeartbeats 400000 in
theorem Waiting_zero {b : Nat} (w : World) (h5 : w.cell? ⟨b, 5, none⟩ = some (.pointer none)) : Calls Try.prog 31 #[.pointer (some ⟨b, 0, none⟩)] w fun e w' => e = .returned (.int .i64 0) ∧ w = w' := by
  go_enter Try.func31, Try.ntmps31
  go_wp2_with (go_at_call 41; refine (there_zero h5).mono ?_; rintro e w' ⟨rfl, rfl⟩)
  go_ret
  exact ⟨rfl, rfl⟩
set_option maxHeartbeats 400000 in
theorem Delivered_none (w : World) : Calls Try.prog 36 #[.pointer none] w fun e w' => e = .returned (.int .i64 0) ∧ w = w' := by
  go_enter Try.func36, Try.ntmps36
  go_wp2_with (go_at_call 41; refine (there_none _).mono ?_; rintro e w' ⟨rfl, rfl⟩)
  go_ret
  exact ⟨rfl, rfl⟩
set_option maxHeartbeats 400000 in
theorem Delivered_zero {b : Nat} (w : World) (h5 : w.cell? ⟨b, 5, none⟩ = some (.pointer none)) : Calls Try.prog 36 #[.pointer (some ⟨b, 0, none⟩)] w fun e w' => e = .returned (.int .i64 0) ∧ w = w' := by
  go_enter Try.func36, Try.ntmps36
  go_wp2_with (go_at_call 41; refine (there_zero h5).mono ?_; rintro e w' ⟨rfl, rfl⟩)
  go_ret
  exact ⟨rfl, rfl⟩

/-! ### bounds when a packet comes -/
theorem keepS_bound (next : Nat) : ∀ (l : List (Nat × List UInt8)) (early : Nat → Option (List UInt8)), (∀ n b, early n = some b → next ≤ n ∧ n < next + 64 ∧ b.length ≤ 1024) → (∀ p ∈ l, p.1 < next + 64 ∧ p.2.length ≤ 1024) → ∀ n b, keepS next early l n = some b → next ≤ n ∧ n < next + 64 ∧ b.length ≤ 1024
  | [], early, h, _, n, b, hb => h n b hb
  | p :: l, early, h, hl, n, b, hb => by
    refine keepS_bound next l (keep1 next early p) (fun n b hb => ?_) (fun q hq => hl q (List.mem_cons_of_mem _ hq)) n b hb
    unfold keep1 at hb
    split at hb
    · rename_i hc
      unfold updN at hb
      split at hb
      · next e =>
        injection hb with hb; subst hb; subst e
        exact ⟨hc.1, (hl p List.mem_cons_self).1, (hl p List.mem_cons_self).2⟩
      · exact h n b hb
    · exact h n b hb
theorem dlv_len (early : Nat → Option (List UInt8)) : ∀ k n, (dlv early k n).length ≤ k
  | 0, _ => Nat.le_refl _
  | k + 1, n => by
    unfold dlv
    split
    · exact Nat.zero_le _
    · simp only [List.length_cons]; have := dlv_len early k (n + 1); omega
theorem recvS_fit {s : ChS} (h : s.Fit) (xs : List UInt8) (hn : s.next + 64 ≤ 1000000000) (hw : s.e.newest ≤ 1999999900000) : (recvS s xs).1.Fit := by
  have hf := recv_fit h.e xs hw
  have h1 := decS_fit (h.ofe hf.1) (recvP s.e xs).2.2.1
  obtain ⟨f, out, pk, q, -⟩ := decS_form { s with e := (recvP s.e xs).1 } (recvP s.e xs).2.2.1 h.fs
  unfold recvS
  simp only
  split
  · exact h
  · split
    · exact h1
    · split
      · exact h1.owe true
      · split
        · exact h1.owe true
        · rename_i l hp
          have hb := parseC_bound _ _ _ _ hp
          have hk := keepS_bound s.next l s.early h.el hb
          have hl := dlv_len (keepS s.next s.early l) 64 s.next
          have h2 := h1.owe true
          refine ⟨h2.e, h2.fs, h2.sl, by show s.next + _ ≤ _; omega, h2.t0, h2.t1, h2.lo, h2.msg, fun n b hb' => ?_, h2.pk⟩
          simp only [dropN] at hb'
          split at hb'
          · cases hb'
          · rename_i hc
            have := hk n b hb'
            refine ⟨?_, ?_, this.2.2⟩
            · show s.next + _ ≤ n; omega
            · show n < s.next + _ + 64; omega
end Go.Proofs.Ythjjipcbpmdfnaa
