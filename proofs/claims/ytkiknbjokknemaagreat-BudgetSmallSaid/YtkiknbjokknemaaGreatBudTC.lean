/-
  WALK of the reference's Right.
-/
import Derived.Test.YtkiknbjokknemaaGreatBudE
import Derived.Lib.QuietBelow
namespace Go.Proofs.YtkiknbjokknemaaGreat
open Go.RowKit

theorem Below.drewR {n : Nat} {w w' : World} (h : Below n w w') (k : Nat) : Below n w (w'.drewN k) := ⟨h.os, h.tape, h.output, h.size, h.block⟩

set_option maxRecDepth 100000 in
set_option maxHeartbeats 20000000 in
theorem RRight_any (w : World) (o : Own) (τ : Nat) (A : Option Addr) (n c : Nat) (xs : List (Int × Int)) (hS : Sl w o τ 2 A n c (wnts xs)) :
    Calls Tryz.prog 16 #[.slice A n c] w (SaysTo w (rightB xs)) := by
  have hl : xs.length = n := by have := hS.1; rw [len_wnts] at this; omega
  have hnm : n ≤ 9223372036854775807 := by have h1 := hS.2.1; have h2 := hS.2.2.1; unfold maxLen at h2; omega
  obtain ⟨R, hR⟩ : ∃ R : Bool, R = rightB xs := ⟨_, rfl⟩
  rw [← hR]
  have HR := Lib.hid hR; have HL := Lib.hid hl; have HS := Lib.hid hS; clear hR hl hS
  go_enter Tryz.func16, Tryz.ntmps16
  by_cases h64 : 64 < n
  · go_wp2_with fail
    go_ret
    refine ⟨?_, Below.refl _ _⟩
    rw [HR.out, rightB, show decide (xs.length ≤ 64) = false by rw [HL.out]; simp; omega, Bool.and_false]
    rfl
  go_wp2_with fail
  go_loopw [3] (fun i wr => ∃ (k : Nat) (last : Int), k ≤ n ∧ i = .int .i64 k ∧ Below w.heap.size w wr ∧ Hid (soundB (-1) xs = soundB last (xs.drop k)) ∧ Hid (k = 0 → last = -1) ∧ Hid (0 < k → 0 ≤ last ∧ ∃ b, xs[k - 1]? = some (last, b))) (fun i _ => n - (intOf i).toNat)
  case atStart => exact ⟨0, -1, Nat.zero_le _, rfl, Below.refl _ _, Lib.hid (by simp), Lib.hid fun _ => rfl, Lib.hid fun h => absurd h (by omega)⟩
  case round =>
    obtain ⟨k, last, hk, rfl, hB, hT, hl0, hl1⟩ := hrel
    by_cases hlt : k < n
    · obtain ⟨x, hx⟩ : ∃ x, xs[k]? = some x := ⟨_, List.getElem?_eq_getElem (by rw [HL.out]; exact hlt)⟩
      obtain ⟨g, off, hA, -, hg, hc⟩ := HS.out.2.2.2 (by omega)
      have hget := wnts_get xs k x hx
      have hdrop : xs.drop k = x :: xs.drop (k + 1) := by
        rw [List.drop_eq_getElem_cons (by rw [HL.out]; exact hlt)]
        congr 1
        exact (List.getElem?_eq_some_iff.1 hx).2
      rw [hdrop] at hT
      subst hA
      have c0 := (hB.cell (p := ⟨g, off + k * 2, none⟩) hg).trans (hc _ _ hget.1)
      have c1 := (hB.cell (p := ⟨g, off + (k * 2 + 1), none⟩) hg).trans (hc _ _ hget.2)
      rw [← Nat.add_assoc] at c1
      obtain ⟨a, b⟩ := x
      simp only at c0 c1
      have hlm : -1 ≤ last := by
        rcases Nat.eq_zero_or_pos k with q | q
        · rw [hl0.out q]; exact Int.le_refl _
        · have := (hl1.out q).1; omega
      have hprev : 0 < k → 0 ≤ last ∧ wr.cell? ⟨g, off + (k - 1) * 2, none⟩ = some (.int .i64 last) := by
        intro q
        obtain ⟨q1, b', q2⟩ := hl1.out q
        exact ⟨q1, (hB.cell (p := ⟨g, off + (k - 1) * 2, none⟩) hg).trans (hc _ _ (wnts_get xs (k - 1) _ q2).1)⟩
      have HB := Lib.hid hB; have HD := Lib.hid hdrop; have HX := Lib.hid hx; have HP := Lib.hid hprev; have HLM := Lib.hid hlm
      clear hB hc hget hdrop hx hl1 hprev hlm
      simp only [soundB] at hT
      have bad : (a ≤ last ∨ 65536 < a ∨ b < 1 ∨ 16 < b) → R = false := by
        intro h
        rw [HR.out, rightB, hT.out]
        have : (decide (last < a) && decide (a ≤ 65536) && decide (1 ≤ b) && decide (b ≤ 16)) = false := by
          rcases h with h | h | h | h
          · rw [show decide (last < a) = false by simp; omega]; rfl
          · rw [show decide (a ≤ 65536) = false by simp; omega]; simp
          · rw [show decide (1 ≤ b) = false by simp; omega]; simp
          · rw [show decide (b ≤ 16) = false by simp; omega]; simp
        rw [this]; rfl
      have BAD := Lib.hid bad; clear bad
      have fin : ∀ dq osq, (a ≤ last ∨ 65536 < a ∨ b < 1 ∨ 16 < b) → SaysTo w R (.returned (.bool false)) (Go.Sort.grow (redrawn wr dq) osq) := fun dq osq h => ⟨by rw [BAD.out h], HB.out.trans ((below_regrown wr dq osq).mono HB.out.size)⟩
      have FIN := Lib.hid fin; clear fin
      have nxt : last < a → a ≤ 65536 → 1 ≤ b → b ≤ 16 → Hid (soundB (-1) xs = soundB a (xs.drop (k + 1))) := fun hla c02 c03 c04 => Lib.hid (by
        rw [hT.out]
        rw [show decide (last < a) = true by simp; omega, show decide (a ≤ 65536) = true by simp; omega, show decide (1 ≤ b) = true by simp; omega, show decide (b ≤ 16) = true by simp; omega]
        rfl)
      have NXT := Lib.hid nxt; clear nxt
      have v0 := cell_regrown c0; have v1 := cell_regrown c1
      have VP := Lib.hid (fun (q : 0 < k) => cell_regrown (HP.out q).2)
      have HL0 := Lib.hid hl0.out
      clear hl0 c0 c1 hT
      go_wp2_with fail
      refine wp_region_quiet_below (by kernel_rfl) (by kernel_rfl) ?_
      by_cases c01 : a < 0
      · have d1 := decide_eq_true c01
        repeat (go_big_quiet_step (fail))
        refine wpQuiet_nil ?_
        intro _ hw'
        obtain ⟨⟨dq, osq⟩, hw''⟩ := hw'
        have HF := Lib.hid (FIN.out dq osq (.inl (by have := HLM.out; omega)))
        subst hw''
        clear v0 v1
        go_wp2_with fail
        go_ret
        exact HF.out
      have d1 : decide (a < 0) = false := by simp; omega
      by_cases c02 : 65536 < a
      · have d2 := decide_eq_true c02
        repeat (go_big_quiet_step (fail))
        refine wpQuiet_nil ?_
        intro _ hw'
        obtain ⟨⟨dq, osq⟩, hw''⟩ := hw'
        have HF := Lib.hid (FIN.out dq osq (by omega))
        subst hw''
        clear v0 v1
        go_wp2_with fail
        go_ret
        exact HF.out
      have d2 : decide (65536 < a) = false := by simp; omega
      by_cases c03 : b < 1
      · have d3 := decide_eq_true c03
        repeat (go_big_quiet_step (fail))
        refine wpQuiet_nil ?_
        intro _ hw'
        obtain ⟨⟨dq, osq⟩, hw''⟩ := hw'
        have HF := Lib.hid (FIN.out dq osq (by omega))
        subst hw''
        clear v0 v1
        go_wp2_with fail
        go_ret
        exact HF.out
      have d3 : decide (b < 1) = false := by simp; omega
      by_cases c04 : 16 < b
      · have d4 := decide_eq_true c04
        repeat (go_big_quiet_step (fail))
        refine wpQuiet_nil ?_
        intro _ hw'
        obtain ⟨⟨dq, osq⟩, hw''⟩ := hw'
        have HF := Lib.hid (FIN.out dq osq (by omega))
        subst hw''
        clear v0 v1
        go_wp2_with fail
        go_ret
        exact HF.out
      have d4 : decide (16 < b) = false := by simp; omega
      have NX := Lib.hid (fun h => NXT.out h (by omega) (by omega) (by omega))
      by_cases c05 : k = 0
      · have hla : last < a := by rw [HL0.out c05]; omega
        have hz : decide (0 < k) = false := by simp; omega
        have C05 := Lib.hid c05; clear c05
        repeat (go_big_quiet_step (fail))
        refine wpQuiet_nil ?_
        intro _ hw'
        obtain ⟨⟨dq, osq⟩, hw''⟩ := hw'
        have HF := Lib.hid (HB.out.trans ((below_regrown wr dq osq).mono HB.out.size))
        subst hw''
        clear v0 v1
        go_wp2_with fail
        go_roundw
        case rel =>
          have e5 := C05.out
          clear hz
          subst e5
          exact ⟨0 + 1, a, by omega, by go_num, HF.out, NX.out hla, Lib.hid fun h => absurd h (by omega), Lib.hid fun _ => ⟨by omega, b, HX.out⟩⟩
        case measure => simp [intOf]; omega
      · have vp := VP.out (by omega)
        obtain ⟨k1, rfl⟩ : ∃ k1, k = k1 + 1 := ⟨k - 1, by omega⟩
        rw [Nat.add_sub_cancel] at vp
        have hp1 : (((k1 + 1 : Nat) : Int)) - 1 = (k1 : Int) := by omega
        have hp2 : IntKind.i64.wrap ((k1 : Int) + 1 - 1) = (k1 : Int) := by simp only [IntKind.wrap_i64]; omega
        have hp3 : IntKind.i64.wrap (k1 : Int) = (k1 : Int) := by simp only [IntKind.wrap_i64]; omega
        have hp4 : decide (0 < (k1 : Int) + 1) = true := by simp
        by_cases c06 : a ≤ last
        · have d6 := decide_eq_true c06
          repeat (go_big_quiet_step (fail))
          refine wpQuiet_nil ?_
          intro _ hw'
          obtain ⟨⟨dq, osq⟩, hw''⟩ := hw'
          have HF := Lib.hid (FIN.out dq osq (by omega))
          subst hw''
          clear v0 v1 vp
          go_wp2_with fail
          go_ret
          exact HF.out
        · have d6 : decide (a ≤ last) = false := by simp; omega
          have hla : last < a := by omega
          repeat (go_big_quiet_step (fail))
          refine wpQuiet_nil ?_
          intro _ hw'
          obtain ⟨⟨dq, osq⟩, hw''⟩ := hw'
          have HF := Lib.hid (HB.out.trans ((below_regrown wr dq osq).mono HB.out.size))
          subst hw''
          clear v0 v1 vp
          go_wp2_with fail
          go_roundw
          case rel =>
            exact ⟨k1 + 1 + 1, a, by omega, by go_num, HF.out, NX.out hla, Lib.hid fun h => absurd h (by omega), Lib.hid fun _ => ⟨by omega, b, HX.out⟩⟩
          case measure => simp [intOf]; omega
    · obtain rfl : n = k := by omega
      have hT2 : soundB (-1) xs = true := by
        have := hT.out
        rw [List.drop_of_length_le (by rw [HL.out]; exact Nat.le_refl _)] at this
        exact this
      have HT2 := Lib.hid hT2; clear hT2
      go_wp2_with fail
      go_ret
      refine ⟨?_, hB⟩
      rw [HR.out, rightB, HT2.out, show decide (xs.length ≤ 64) = true by rw [HL.out]; simp; omega, Bool.true_and]
      rfl

end Go.Proofs.YtkiknbjokknemaaGreat
