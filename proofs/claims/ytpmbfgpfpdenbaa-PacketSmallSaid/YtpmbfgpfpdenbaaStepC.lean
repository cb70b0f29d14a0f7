/-
  PLAIN FACTS for makes: what Make does in numbers that count from the beginning.
-/
import Derived.Test.YtpmbfgpfpdenbaaStepB
namespace Go.Proofs.Ytpmbfgpfpdenbaa
open Go.RowKit

theorem el_sl : Elem Try.prog 33 27 1 24 (.slice none 0 0) := ⟨Try.underlying33, by kernel_rfl, rfl, by decide⟩

theorem conc_make (own other : Int) (a : AEnd) : makeS (a.conc own other) = a.make.conc own other := by
  unfold makeS AEnd.make AEnd.conc
  simp only [List.length_map]
  by_cases h : a.pend.length < 256
  · simp only [if_pos h]
    simp
    omega
  · simp only [if_neg h]
    simp
    omega

theorem conc_lost (own other : Int) (a : AEnd) : lostP (a.conc own other) = movR own a.lost := by
  unfold lostP AEnd.lost AEnd.conc movR
  simp only [List.length_map]
  by_cases h : a.pend.length < 256
  · simp only [if_pos h]; rfl
  · simp only [if_neg h]
    cases a.pend with
    | nil => simp
    | cons x l => simp

theorem conc_pack (own other : Int) (a : AEnd) (xs : List UInt8) : packP (makeS (a.conc own other)) (a.conc own other).next xs = APkt.enc own other ⟨some (a.n, xs), a.note⟩ := by
  rw [conc_make]
  unfold packP AEnd.note APkt.enc
  by_cases h : 0 < a.heard
  · rw [if_pos (show (a.make.conc own other).other ≤ (a.make.conc own other).newest by simp only [AEnd.conc, AEnd.make]; omega), if_pos h]
    simp only [AEnd.conc, AEnd.make]
    rw [show other + (a.heard : Int) - 1 = other + ((a.heard - 1 : Nat) : Int) by omega]
  · rw [if_neg (show ¬ (a.make.conc own other).other ≤ (a.make.conc own other).newest by simp only [AEnd.conc, AEnd.make]; omega), if_neg h]
    simp only [AEnd.conc]

theorem nats_snoc (l : List Nat) : nats l ++ [Value.int .i64 0] = nats (l ++ [0]) := by simp
theorem markB_len (k : Nat) (xs : List UInt8) : 1 ≤ (markB k xs).length ∧ (markB k xs).length ≤ 22 := by simp [markB]; omega
end Go.Proofs.Ytpmbfgpfpdenbaa
