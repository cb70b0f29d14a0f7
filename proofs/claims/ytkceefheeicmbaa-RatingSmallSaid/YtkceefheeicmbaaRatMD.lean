/-
  WALK of waiting. (Printed by wip/gen/gen_waiting.py from wip/src/XRatMD.base.)
-/
import Derived.Test.YtkceefheeicmbaaKitI
import Derived.Test.YtkceefheeicmbaaOrders
import Derived.Lib.QuietBelow
import Derived.BigQuiet
import Derived.Deep.CutBlock
namespace Go.Proofs.Ytkceefheeicmbaa
open Go.RowKit Go.Sort

set_option maxRecDepth 100000 in
set_option maxHeartbeats 4000000 in
theorem waiting_any (w : World) : Calls Try.prog 31 #[] w (SaysTo w true) := by
  go_enter Try.func31, Try.ntmps31
  go_wp2_with fail
  go_loopw [1] (fun s wr => ∃ (i : Nat) (o : Own), i ≤ 5000 ∧ s = .int .i64 i ∧ Hid (Step [] w (fun _ => 0) wr o)) (fun s _ => 5000 - (intOf s).toNat)
  case atStart => exact ⟨0, _, Nat.zero_le _, rfl, Lib.hid (Step.refl _ _ _)⟩
  case round => as_aux_lemma =>
    obtain ⟨i, o, hi, rfl, HS⟩ := hrel
    by_cases hlt : i < 5000
    ·
      have di : decide ((i : Int) < 5000) = true := by simp; omega
      go_wp2_with fail
      go_loopw [3, 4, 2] (fun s3 s4 s2 wr => ∃ (k m : Nat) (A : Option Addr) (c : Nat) (o : Own), k ≤ 4 ∧ m ≤ 5000 ∧ s3 = .int .i64 k ∧ s4 = .int .i64 m ∧ s2 = .slice A k c ∧ Hid (TI w wr o k A c)) (fun s3 _ _ _ => 4 - (intOf s3).toNat)
      case atStart => exact ⟨0, i, none, 0, o, by omega, by omega, rfl, rfl, rfl, Lib.hid (TI.start HS.out)⟩
      case round => as_aux_lemma =>
        obtain ⟨k, m, A, c, o, hk, hm, rfl, rfl, rfl, HI⟩ := hrel
        by_cases hlk : k < 4
        · obtain ⟨j5, h5, hj5⟩ : ∃ j5 : Nat, (m : Int).tmod 5 = (j5 : Int) ∧ j5 < 5 := ⟨m % 5, by rw [Int.tmod_eq_emod_of_nonneg (by omega)]; omega, by omega⟩
          obtain ⟨j4, h4, hj4⟩ : ∃ j4 : Nat, ((k : Int) + (i : Int)).tmod 4 = (j4 : Int) ∧ j4 < 4 := ⟨(k + i) % 4, by rw [Int.tmod_eq_emod_of_nonneg (by omega)]; omega, by omega⟩
          have hw1 : IntKind.i64.wrap ((k : Int) + (i : Int)) = (k : Int) + (i : Int) := IntWalk.i64_in _ (by omega)
          have hjz5 : (j5 : Int) < 5 := by omega
          have hjz4 : (j4 : Int) < 4 := by omega
          obtain ⟨Z5, hZ5⟩ : ∃ Z : List Int, Z = [1000, 1000, 1040, 1050, 1101] := ⟨_, rfl⟩
          obtain ⟨Z4, hZ4⟩ : ∃ Z : List Int, Z = [0, 3, 25, 26] := ⟨_, rfl⟩
          obtain ⟨x5, hx5⟩ : ∃ x, Z5[j5]? = some x := ⟨_, List.getElem?_eq_getElem (by rw [hZ5]; exact hj5)⟩
          obtain ⟨x4, hx4⟩ : ∃ x, Z4[j4]? = some x := ⟨_, List.getElem?_eq_getElem (by rw [hZ4]; exact hj4)⟩
          have HZ5 := Lib.hid hZ5; have HZ4 := Lib.hid hZ4; have HX5 := Lib.hid hx5; have HX4 := Lib.hid hx4
          clear hZ5 hZ4 hx5 hx4
          go_upto_region 8 with fail
          obtain ⟨W0, hW0⟩ : ∃ W, W = wr.drew := ⟨_, rfl⟩
          obtain ⟨o0, HI0⟩ : ∃ o0, Hid (TI w W0 o0 k A c) := ⟨o, Lib.hid (by rw [hW0]; exact HI.out.step (Step.refl [] wr o).drew)⟩
          refine wp_region_till (S0 := fun _ => True) (st := 16) (by kernel_rfl) ?_
          change wpAnyG _ _ _ _ _ _ _ _ _ (World.drew _)
          rw [← hW0]
          clear hW0 HI
          refine wpAnyG_take (i := 0) (v := ?_) rfl (by kernel_rfl) (by kernel_rfl) (by kernel_rfl) (by kernel_rfl) (fun _ _ _ h => h) (Or.inl ⟨by rfl, ?_⟩) ((.inr trivial)) ?_
          rotate_left
          · intro w' _; go_simp; try with_reducible rfl
          try simp only [Act.put, List.getElem_toArray, List.getElem_cons_zero, List.setIfInBounds_toArray, List.set_cons_zero, List.set_cons_succ]
          refine wpAnyG_take (i := 1) (v := ?_) rfl (by kernel_rfl) (by kernel_rfl) (by kernel_rfl) (by kernel_rfl) (fun _ _ _ h => h) (Or.inl ⟨by rfl, ?_⟩) ((.inr trivial)) ?_
          rotate_left
          · intro w' _; go_simp; try with_reducible rfl
          try simp only [Act.put, List.getElem_toArray, List.getElem_cons_zero, List.getElem_cons_succ, List.setIfInBounds_toArray, List.set_cons_zero, List.set_cons_succ]
          refine wpAnyG_take (i := 2) (v := ?_) rfl (by kernel_rfl) (by kernel_rfl) (by kernel_rfl) (by kernel_rfl) (fun _ _ _ h => h) (Or.inl ⟨by rfl, ?_⟩) ((.inr trivial)) ?_
          rotate_left
          · intro w' _; go_simp; try with_reducible rfl
          try simp only [Act.put, List.getElem_toArray, List.getElem_cons_zero, List.getElem_cons_succ, List.setIfInBounds_toArray, List.set_cons_zero, List.set_cons_succ]
          refine wpAnyG_take (i := 3) (v := ?_) rfl (by kernel_rfl) (by kernel_rfl) (by kernel_rfl) (by kernel_rfl) (fun _ _ _ h => h) (Or.inl ⟨by rfl, ?_⟩) ((.inr trivial)) ?_
          rotate_left
          · intro w' _; go_simp; try with_reducible rfl
          try simp only [Act.put, List.getElem_toArray, List.getElem_cons_zero, List.getElem_cons_succ, List.setIfInBounds_toArray, List.set_cons_zero, List.set_cons_succ]
          refine wpAnyG_take (i := 5) (v := ?_) rfl (by kernel_rfl) (by kernel_rfl) (by kernel_rfl) (by kernel_rfl) (fun _ _ _ h => h) (Or.inl ⟨by rfl, ?_⟩) ((.inr trivial)) ?_
          rotate_left
          · intro w' _; go_simp; try with_reducible rfl
          try simp only [Act.put, List.getElem_toArray, List.getElem_cons_zero, List.getElem_cons_succ, List.setIfInBounds_toArray, List.set_cons_zero, List.set_cons_succ]
          refine wpAnyG_take (i := 6) (v := ?_) rfl (by kernel_rfl) (by kernel_rfl) (by kernel_rfl) (by kernel_rfl) (fun _ _ _ h => h) (Or.inl ⟨by rfl, ?_⟩) ((.inr trivial)) ?_
          rotate_left
          · intro w' _; go_simp; try with_reducible rfl
          try simp only [Act.put, List.getElem_toArray, List.getElem_cons_zero, List.getElem_cons_succ, List.setIfInBounds_toArray, List.set_cons_zero, List.set_cons_succ]
          refine wpAnyG_take (i := 10) (v := ?_) rfl (by kernel_rfl) (by kernel_rfl) (by kernel_rfl) (by kernel_rfl) (fun _ _ _ h => h) (Or.inl ⟨by rfl, ?_⟩) ((.inr trivial)) ?_
          rotate_left
          · intro w' _; go_simp; try with_reducible rfl
          try simp only [Act.put, List.getElem_toArray, List.getElem_cons_zero, List.getElem_cons_succ, List.setIfInBounds_toArray, List.set_cons_zero, List.set_cons_succ]
          refine wpAnyG_take (i := 11) (v := ?_) rfl (by kernel_rfl) (by kernel_rfl) (by kernel_rfl) (by kernel_rfl) (fun _ _ _ h => h) (Or.inl ⟨by rfl, ?_⟩) ((.inr trivial)) ?_
          rotate_left
          · intro w' _; go_simp; try with_reducible rfl
          try simp only [Act.put, List.getElem_toArray, List.getElem_cons_zero, List.getElem_cons_succ, List.setIfInBounds_toArray, List.set_cons_zero, List.set_cons_succ]
          refine wpAnyG_take (i := 12) (v := ?_) rfl (by kernel_rfl) (by kernel_rfl) (by kernel_rfl) (by kernel_rfl) (fun _ _ _ h => h) (Or.inl ⟨by rfl, ?_⟩) ((.inr trivial)) ?_
          rotate_left
          · intro w' _; go_simp; try with_reducible rfl
          try simp only [Act.put, List.getElem_toArray, List.getElem_cons_zero, List.getElem_cons_succ, List.setIfInBounds_toArray, List.set_cons_zero, List.set_cons_succ]
          refine wpAnyG_take (i := 13) (v := ?_) rfl (by kernel_rfl) (by kernel_rfl) (by kernel_rfl) (by kernel_rfl) (fun _ _ _ h => h) (Or.inl ⟨by rfl, ?_⟩) ((.inr trivial)) ?_
          rotate_left
          · intro w' _; go_simp; try with_reducible rfl
          try simp only [Act.put, List.getElem_toArray, List.getElem_cons_zero, List.getElem_cons_succ, List.setIfInBounds_toArray, List.set_cons_zero, List.set_cons_succ]
          refine wpAnyG_ready (rs := [4, 9]) (by kernel_rfl) (by simp) ?_
          refine AllReadyG.cons rfl (fun K hK => ?_) ?_
          · skip
            refine step_flat rfl 32 3 5 _ rfl .i64 Z5 Try.underlying32 (by kernel_rfl) (by kernel_rfl) (by rw [HZ5.out]; rfl) (by decide) (by decide) (by rw [HZ5.out]; rfl) ?_
            refine hK.out _ _ (.inr trivial) ?_
            clear hK K
            obtain ⟨g5, W1, o1, hg, hW, h2, cc5, hb⟩ := HI0.out.flat Z5 j5 x5 HX5.out
            rw [← hg, ← hW]
            have HI1 := Lib.hid h2; have CC5 := Lib.hid cc5
            clear hg hW h2 cc5 hb HI0
            refine wpAnyG_take (i := 7) (v := ?_) rfl (by kernel_rfl) (by kernel_rfl) (by kernel_rfl) (by kernel_rfl) (fun _ _ _ h => h) (Or.inl ⟨by rfl, ?_⟩) ((.inr trivial)) ?_
            rotate_left
            · intro w' _; go_simp; try with_reducible rfl
            try simp only [Act.put, List.getElem_toArray, List.getElem_cons_zero, List.getElem_cons_succ, List.setIfInBounds_toArray, List.set_cons_zero, List.set_cons_succ]
            refine wpAnyG_ready (rs := [8, 9]) (by kernel_rfl) (by simp) ?_
            refine AllReadyG.cons rfl (fun K hK => ?_) ?_
            · skip
              refine step_load rfl 3 (.tmp 28) rfl ⟨g5, j5, none⟩ rfl (.int .i64 x5) CC5.out Try.underlying3 ?_
              refine hK.out _ _ (.inr trivial) ?_
              clear hK K CC5
              refine wpAnyG_ready (rs := [9]) (by kernel_rfl) (by simp) ?_
              refine AllReadyG.cons rfl (fun K hK => ?_) AllReadyG.nil
              refine step_flat rfl 32 3 4 _ rfl .i64 Z4 Try.underlying32 (by kernel_rfl) (by kernel_rfl) (by rw [HZ4.out]; rfl) (by decide) (by decide) (by rw [HZ4.out]; rfl) ?_
              refine hK.out _ _ (.inr trivial) ?_
              clear hK K
              obtain ⟨g4, W2, o2, hg, hW, h2, cc4, hb⟩ := HI1.out.flat Z4 j4 x4 HX4.out
              rw [← hg, ← hW]
              have HI2 := Lib.hid h2; have CC4 := Lib.hid cc4
              clear hg hW h2 cc4 hb HI1
              refine wpAnyG_take (i := 14) (v := ?_) rfl (by kernel_rfl) (by kernel_rfl) (by kernel_rfl) (by kernel_rfl) (fun _ _ _ h => h) (Or.inl ⟨by rfl, ?_⟩) ((.inr trivial)) ?_
              rotate_left
              · intro w' _; go_simp; try with_reducible rfl
              try simp only [Act.put, List.getElem_toArray, List.getElem_cons_zero, List.getElem_cons_succ, List.setIfInBounds_toArray, List.set_cons_zero, List.set_cons_succ]
              refine wpAnyG_ready (rs := [15]) (by kernel_rfl) (by simp) ?_
              refine AllReadyG.cons rfl (fun K hK => ?_) AllReadyG.nil
              refine step_load rfl 3 (.tmp 35) rfl ⟨g4, j4, none⟩ rfl (.int .i64 x4) CC4.out Try.underlying3 ?_
              refine hK.out _ _ (.inr trivial) ?_
              clear hK K CC4
              refine wpAnyG_ready (rs := [16]) (by kernel_rfl) (by simp) ?_
              refine AllReadyG.cons rfl (fun K hK => ?_) AllReadyG.nil
              go_simp
              refine hK.out _ _ (.inl rfl) ?_
              clear hK K
              refine wpAnyG_ready (rs := [17]) (by kernel_rfl) (by simp) ?_
              refine AllReadyG.cons rfl (fun K hK => ?_) AllReadyG.nil
              go_simp
              refine hK.out _ _ (.inl rfl) ?_
              clear hK K
              have s1 := fun a b s => (Step.refl [] W2 o2).alloc (.cells #[.int .i64 a, .int .i64 b, .int .i64 s] 24) 5
              obtain ⟨xs, hxs⟩ := HI2.out.2
              have HR := Lib.hid (fun a b s => hxs.step (s1 a b s) (by simp)); have HG := Lib.hid (fun a b s => HI2.out.step (s1 a b s)); have HN := Lib.hid (tk_new W2 o2)
              clear s1 hxs HI2
              refine wpAnyG_ready (rs := [18]) (by kernel_rfl) (by simp) ?_
              refine AllReadyG.cons rfl (fun K hK => ?_) AllReadyG.nil
              refine step_append_row rfl (.tmp 21) (.tmp 38) _ rfl el_tk (ext o2 W2.heap.size 5) 61 A k c (ints xs) rfl (HR.out _ _ _) (ext o2 W2.heap.size 5) 5 _ 1 1 [.int .i64 _, .int .i64 _, .int .i64 _] rfl (HN.out _ _ _) (by simp [Value.oneCell']) (by omega) (by simp only [maxLen]; omega) ?_
              intro A9 c9 W9 hr9 hg9 hat9
              have HI9 := Lib.hid ((HG.out _ _ _).app (Step.append (HR.out _ _ _) hg9 61) hr9)
              clear hr9 hg9 hat9 HR HG HN
              refine hK.out _ _ (.inl rfl) ?_
              clear hK K
              refine wpAnyG_ready (rs := [19]) (by kernel_rfl) (by simp) ?_
              refine AllReadyG.cons rfl (fun K hK => ?_) AllReadyG.nil
              go_simp
              refine hK.out _ _ (.inl rfl) ?_
              clear hK K
              refine wpAnyG_done (by kernel_rfl) ?_ _
              clear HX5 HX4 HZ5 HZ4 h5 h4 hw1
              go_wp2_with fail
              go_roundw
              case rel => exact ⟨k + 1, m / 5, A9, c9, _, by omega, by omega, by go_num, by go_num, rfl, HI9⟩
              case measure => simp [intOf]; omega
            refine AllReadyG.cons rfl (fun K hK => ?_) AllReadyG.nil
            refine step_flat rfl 32 3 4 _ rfl .i64 Z4 Try.underlying32 (by kernel_rfl) (by kernel_rfl) (by rw [HZ4.out]; rfl) (by decide) (by decide) (by rw [HZ4.out]; rfl) ?_
            refine hK.out _ _ (.inr trivial) ?_
            clear hK K
            obtain ⟨g4, W2, o2, hg, hW, h2, cc4, hb⟩ := HI1.out.flat Z4 j4 x4 HX4.out
            rw [← hg, ← hW]
            have HI2 := Lib.hid h2; have CC4 := Lib.hid cc4
            have CC5 := Lib.hid (cell_up hb CC5.out)
            clear hg hW h2 cc4 hb HI1
            refine wpAnyG_take (i := 14) (v := ?_) rfl (by kernel_rfl) (by kernel_rfl) (by kernel_rfl) (by kernel_rfl) (fun _ _ _ h => h) (Or.inl ⟨by rfl, ?_⟩) ((.inr trivial)) ?_
            rotate_left
            · intro w' _; go_simp; try with_reducible rfl
            try simp only [Act.put, List.getElem_toArray, List.getElem_cons_zero, List.getElem_cons_succ, List.setIfInBounds_toArray, List.set_cons_zero, List.set_cons_succ]
            refine wpAnyG_ready (rs := [8, 15]) (by kernel_rfl) (by simp) ?_
            refine AllReadyG.cons rfl (fun K hK => ?_) ?_
            · skip
              refine step_load rfl 3 (.tmp 28) rfl ⟨g5, j5, none⟩ rfl (.int .i64 x5) CC5.out Try.underlying3 ?_
              refine hK.out _ _ (.inr trivial) ?_
              clear hK K CC5
              refine wpAnyG_ready (rs := [15]) (by kernel_rfl) (by simp) ?_
              refine AllReadyG.cons rfl (fun K hK => ?_) AllReadyG.nil
              refine step_load rfl 3 (.tmp 35) rfl ⟨g4, j4, none⟩ rfl (.int .i64 x4) CC4.out Try.underlying3 ?_
              refine hK.out _ _ (.inr trivial) ?_
              clear hK K CC4
              refine wpAnyG_ready (rs := [16]) (by kernel_rfl) (by simp) ?_
              refine AllReadyG.cons rfl (fun K hK => ?_) AllReadyG.nil
              go_simp
              refine hK.out _ _ (.inl rfl) ?_
              clear hK K
              refine wpAnyG_ready (rs := [17]) (by kernel_rfl) (by simp) ?_
              refine AllReadyG.cons rfl (fun K hK => ?_) AllReadyG.nil
              go_simp
              refine hK.out _ _ (.inl rfl) ?_
              clear hK K
              have s1 := fun a b s => (Step.refl [] W2 o2).alloc (.cells #[.int .i64 a, .int .i64 b, .int .i64 s] 24) 5
              obtain ⟨xs, hxs⟩ := HI2.out.2
              have HR := Lib.hid (fun a b s => hxs.step (s1 a b s) (by simp)); have HG := Lib.hid (fun a b s => HI2.out.step (s1 a b s)); have HN := Lib.hid (tk_new W2 o2)
              clear s1 hxs HI2
              refine wpAnyG_ready (rs := [18]) (by kernel_rfl) (by simp) ?_
              refine AllReadyG.cons rfl (fun K hK => ?_) AllReadyG.nil
              refine step_append_row rfl (.tmp 21) (.tmp 38) _ rfl el_tk (ext o2 W2.heap.size 5) 61 A k c (ints xs) rfl (HR.out _ _ _) (ext o2 W2.heap.size 5) 5 _ 1 1 [.int .i64 _, .int .i64 _, .int .i64 _] rfl (HN.out _ _ _) (by simp [Value.oneCell']) (by omega) (by simp only [maxLen]; omega) ?_
              intro A9 c9 W9 hr9 hg9 hat9
              have HI9 := Lib.hid ((HG.out _ _ _).app (Step.append (HR.out _ _ _) hg9 61) hr9)
              clear hr9 hg9 hat9 HR HG HN
              refine hK.out _ _ (.inl rfl) ?_
              clear hK K
              refine wpAnyG_ready (rs := [19]) (by kernel_rfl) (by simp) ?_
              refine AllReadyG.cons rfl (fun K hK => ?_) AllReadyG.nil
              go_simp
              refine hK.out _ _ (.inl rfl) ?_
              clear hK K
              refine wpAnyG_done (by kernel_rfl) ?_ _
              clear HX5 HX4 HZ5 HZ4 h5 h4 hw1
              go_wp2_with fail
              go_roundw
              case rel => exact ⟨k + 1, m / 5, A9, c9, _, by omega, by omega, by go_num, by go_num, rfl, HI9⟩
              case measure => simp [intOf]; omega
            refine AllReadyG.cons rfl (fun K hK => ?_) AllReadyG.nil
            refine step_load rfl 3 (.tmp 35) rfl ⟨g4, j4, none⟩ rfl (.int .i64 x4) CC4.out Try.underlying3 ?_
            refine hK.out _ _ (.inr trivial) ?_
            clear hK K CC4
            refine wpAnyG_ready (rs := [8]) (by kernel_rfl) (by simp) ?_
            refine AllReadyG.cons rfl (fun K hK => ?_) AllReadyG.nil
            refine step_load rfl 3 (.tmp 28) rfl ⟨g5, j5, none⟩ rfl (.int .i64 x5) CC5.out Try.underlying3 ?_
            refine hK.out _ _ (.inr trivial) ?_
            clear hK K CC5
            refine wpAnyG_ready (rs := [16]) (by kernel_rfl) (by simp) ?_
            refine AllReadyG.cons rfl (fun K hK => ?_) AllReadyG.nil
            go_simp
            refine hK.out _ _ (.inl rfl) ?_
            clear hK K
            refine wpAnyG_ready (rs := [17]) (by kernel_rfl) (by simp) ?_
            refine AllReadyG.cons rfl (fun K hK => ?_) AllReadyG.nil
            go_simp
            refine hK.out _ _ (.inl rfl) ?_
            clear hK K
            have s1 := fun a b s => (Step.refl [] W2 o2).alloc (.cells #[.int .i64 a, .int .i64 b, .int .i64 s] 24) 5
            obtain ⟨xs, hxs⟩ := HI2.out.2
            have HR := Lib.hid (fun a b s => hxs.step (s1 a b s) (by simp)); have HG := Lib.hid (fun a b s => HI2.out.step (s1 a b s)); have HN := Lib.hid (tk_new W2 o2)
            clear s1 hxs HI2
            refine wpAnyG_ready (rs := [18]) (by kernel_rfl) (by simp) ?_
            refine AllReadyG.cons rfl (fun K hK => ?_) AllReadyG.nil
            refine step_append_row rfl (.tmp 21) (.tmp 38) _ rfl el_tk (ext o2 W2.heap.size 5) 61 A k c (ints xs) rfl (HR.out _ _ _) (ext o2 W2.heap.size 5) 5 _ 1 1 [.int .i64 _, .int .i64 _, .int .i64 _] rfl (HN.out _ _ _) (by simp [Value.oneCell']) (by omega) (by simp only [maxLen]; omega) ?_
            intro A9 c9 W9 hr9 hg9 hat9
            have HI9 := Lib.hid ((HG.out _ _ _).app (Step.append (HR.out _ _ _) hg9 61) hr9)
            clear hr9 hg9 hat9 HR HG HN
            refine hK.out _ _ (.inl rfl) ?_
            clear hK K
            refine wpAnyG_ready (rs := [19]) (by kernel_rfl) (by simp) ?_
            refine AllReadyG.cons rfl (fun K hK => ?_) AllReadyG.nil
            go_simp
            refine hK.out _ _ (.inl rfl) ?_
            clear hK K
            refine wpAnyG_done (by kernel_rfl) ?_ _
            clear HX5 HX4 HZ5 HZ4 h5 h4 hw1
            go_wp2_with fail
            go_roundw
            case rel => exact ⟨k + 1, m / 5, A9, c9, _, by omega, by omega, by go_num, by go_num, rfl, HI9⟩
            case measure => simp [intOf]; omega
          refine AllReadyG.cons rfl (fun K hK => ?_) AllReadyG.nil
          refine step_flat rfl 32 3 4 _ rfl .i64 Z4 Try.underlying32 (by kernel_rfl) (by kernel_rfl) (by rw [HZ4.out]; rfl) (by decide) (by decide) (by rw [HZ4.out]; rfl) ?_
          refine hK.out _ _ (.inr trivial) ?_
          clear hK K
          obtain ⟨g4, W1, o1, hg, hW, h2, cc4, hb⟩ := HI0.out.flat Z4 j4 x4 HX4.out
          rw [← hg, ← hW]
          have HI1 := Lib.hid h2; have CC4 := Lib.hid cc4
          clear hg hW h2 cc4 hb HI0
          refine wpAnyG_take (i := 14) (v := ?_) rfl (by kernel_rfl) (by kernel_rfl) (by kernel_rfl) (by kernel_rfl) (fun _ _ _ h => h) (Or.inl ⟨by rfl, ?_⟩) ((.inr trivial)) ?_
          rotate_left
          · intro w' _; go_simp; try with_reducible rfl
          try simp only [Act.put, List.getElem_toArray, List.getElem_cons_zero, List.getElem_cons_succ, List.setIfInBounds_toArray, List.set_cons_zero, List.set_cons_succ]
          refine wpAnyG_ready (rs := [4, 15]) (by kernel_rfl) (by simp) ?_
          refine AllReadyG.cons rfl (fun K hK => ?_) ?_
          · skip
            refine step_flat rfl 32 3 5 _ rfl .i64 Z5 Try.underlying32 (by kernel_rfl) (by kernel_rfl) (by rw [HZ5.out]; rfl) (by decide) (by decide) (by rw [HZ5.out]; rfl) ?_
            refine hK.out _ _ (.inr trivial) ?_
            clear hK K
            obtain ⟨g5, W2, o2, hg, hW, h2, cc5, hb⟩ := HI1.out.flat Z5 j5 x5 HX5.out
            rw [← hg, ← hW]
            have HI2 := Lib.hid h2; have CC5 := Lib.hid cc5
            have CC4 := Lib.hid (cell_up hb CC4.out)
            clear hg hW h2 cc5 hb HI1
            refine wpAnyG_take (i := 7) (v := ?_) rfl (by kernel_rfl) (by kernel_rfl) (by kernel_rfl) (by kernel_rfl) (fun _ _ _ h => h) (Or.inl ⟨by rfl, ?_⟩) ((.inr trivial)) ?_
            rotate_left
            · intro w' _; go_simp; try with_reducible rfl
            try simp only [Act.put, List.getElem_toArray, List.getElem_cons_zero, List.getElem_cons_succ, List.setIfInBounds_toArray, List.set_cons_zero, List.set_cons_succ]
            refine wpAnyG_ready (rs := [8, 15]) (by kernel_rfl) (by simp) ?_
            refine AllReadyG.cons rfl (fun K hK => ?_) ?_
            · skip
              refine step_load rfl 3 (.tmp 28) rfl ⟨g5, j5, none⟩ rfl (.int .i64 x5) CC5.out Try.underlying3 ?_
              refine hK.out _ _ (.inr trivial) ?_
              clear hK K CC5
              refine wpAnyG_ready (rs := [15]) (by kernel_rfl) (by simp) ?_
              refine AllReadyG.cons rfl (fun K hK => ?_) AllReadyG.nil
              refine step_load rfl 3 (.tmp 35) rfl ⟨g4, j4, none⟩ rfl (.int .i64 x4) CC4.out Try.underlying3 ?_
              refine hK.out _ _ (.inr trivial) ?_
              clear hK K CC4
              refine wpAnyG_ready (rs := [16]) (by kernel_rfl) (by simp) ?_
              refine AllReadyG.cons rfl (fun K hK => ?_) AllReadyG.nil
              go_simp
              refine hK.out _ _ (.inl rfl) ?_
              clear hK K
              refine wpAnyG_ready (rs := [17]) (by kernel_rfl) (by simp) ?_
              refine AllReadyG.cons rfl (fun K hK => ?_) AllReadyG.nil
              go_simp
              refine hK.out _ _ (.inl rfl) ?_
              clear hK K
              have s1 := fun a b s => (Step.refl [] W2 o2).alloc (.cells #[.int .i64 a, .int .i64 b, .int .i64 s] 24) 5
              obtain ⟨xs, hxs⟩ := HI2.out.2
              have HR := Lib.hid (fun a b s => hxs.step (s1 a b s) (by simp)); have HG := Lib.hid (fun a b s => HI2.out.step (s1 a b s)); have HN := Lib.hid (tk_new W2 o2)
              clear s1 hxs HI2
              refine wpAnyG_ready (rs := [18]) (by kernel_rfl) (by simp) ?_
              refine AllReadyG.cons rfl (fun K hK => ?_) AllReadyG.nil
              refine step_append_row rfl (.tmp 21) (.tmp 38) _ rfl el_tk (ext o2 W2.heap.size 5) 61 A k c (ints xs) rfl (HR.out _ _ _) (ext o2 W2.heap.size 5) 5 _ 1 1 [.int .i64 _, .int .i64 _, .int .i64 _] rfl (HN.out _ _ _) (by simp [Value.oneCell']) (by omega) (by simp only [maxLen]; omega) ?_
              intro A9 c9 W9 hr9 hg9 hat9
              have HI9 := Lib.hid ((HG.out _ _ _).app (Step.append (HR.out _ _ _) hg9 61) hr9)
              clear hr9 hg9 hat9 HR HG HN
              refine hK.out _ _ (.inl rfl) ?_
              clear hK K
              refine wpAnyG_ready (rs := [19]) (by kernel_rfl) (by simp) ?_
              refine AllReadyG.cons rfl (fun K hK => ?_) AllReadyG.nil
              go_simp
              refine hK.out _ _ (.inl rfl) ?_
              clear hK K
              refine wpAnyG_done (by kernel_rfl) ?_ _
              clear HX5 HX4 HZ5 HZ4 h5 h4 hw1
              go_wp2_with fail
              go_roundw
              case rel => exact ⟨k + 1, m / 5, A9, c9, _, by omega, by omega, by go_num, by go_num, rfl, HI9⟩
              case measure => simp [intOf]; omega
            refine AllReadyG.cons rfl (fun K hK => ?_) AllReadyG.nil
            refine step_load rfl 3 (.tmp 35) rfl ⟨g4, j4, none⟩ rfl (.int .i64 x4) CC4.out Try.underlying3 ?_
            refine hK.out _ _ (.inr trivial) ?_
            clear hK K CC4
            refine wpAnyG_ready (rs := [8]) (by kernel_rfl) (by simp) ?_
            refine AllReadyG.cons rfl (fun K hK => ?_) AllReadyG.nil
            refine step_load rfl 3 (.tmp 28) rfl ⟨g5, j5, none⟩ rfl (.int .i64 x5) CC5.out Try.underlying3 ?_
            refine hK.out _ _ (.inr trivial) ?_
            clear hK K CC5
            refine wpAnyG_ready (rs := [16]) (by kernel_rfl) (by simp) ?_
            refine AllReadyG.cons rfl (fun K hK => ?_) AllReadyG.nil
            go_simp
            refine hK.out _ _ (.inl rfl) ?_
            clear hK K
            refine wpAnyG_ready (rs := [17]) (by kernel_rfl) (by simp) ?_
            refine AllReadyG.cons rfl (fun K hK => ?_) AllReadyG.nil
            go_simp
            refine hK.out _ _ (.inl rfl) ?_
            clear hK K
            have s1 := fun a b s => (Step.refl [] W2 o2).alloc (.cells #[.int .i64 a, .int .i64 b, .int .i64 s] 24) 5
            obtain ⟨xs, hxs⟩ := HI2.out.2
            have HR := Lib.hid (fun a b s => hxs.step (s1 a b s) (by simp)); have HG := Lib.hid (fun a b s => HI2.out.step (s1 a b s)); have HN := Lib.hid (tk_new W2 o2)
            clear s1 hxs HI2
            refine wpAnyG_ready (rs := [18]) (by kernel_rfl) (by simp) ?_
            refine AllReadyG.cons rfl (fun K hK => ?_) AllReadyG.nil
            refine step_append_row rfl (.tmp 21) (.tmp 38) _ rfl el_tk (ext o2 W2.heap.size 5) 61 A k c (ints xs) rfl (HR.out _ _ _) (ext o2 W2.heap.size 5) 5 _ 1 1 [.int .i64 _, .int .i64 _, .int .i64 _] rfl (HN.out _ _ _) (by simp [Value.oneCell']) (by omega) (by simp only [maxLen]; omega) ?_
            intro A9 c9 W9 hr9 hg9 hat9
            have HI9 := Lib.hid ((HG.out _ _ _).app (Step.append (HR.out _ _ _) hg9 61) hr9)
            clear hr9 hg9 hat9 HR HG HN
            refine hK.out _ _ (.inl rfl) ?_
            clear hK K
            refine wpAnyG_ready (rs := [19]) (by kernel_rfl) (by simp) ?_
            refine AllReadyG.cons rfl (fun K hK => ?_) AllReadyG.nil
            go_simp
            refine hK.out _ _ (.inl rfl) ?_
            clear hK K
            refine wpAnyG_done (by kernel_rfl) ?_ _
            clear HX5 HX4 HZ5 HZ4 h5 h4 hw1
            go_wp2_with fail
            go_roundw
            case rel => exact ⟨k + 1, m / 5, A9, c9, _, by omega, by omega, by go_num, by go_num, rfl, HI9⟩
            case measure => simp [intOf]; omega
          refine AllReadyG.cons rfl (fun K hK => ?_) AllReadyG.nil
          refine step_load rfl 3 (.tmp 35) rfl ⟨g4, j4, none⟩ rfl (.int .i64 x4) CC4.out Try.underlying3 ?_
          refine hK.out _ _ (.inr trivial) ?_
          clear hK K CC4
          refine wpAnyG_ready (rs := [4]) (by kernel_rfl) (by simp) ?_
          refine AllReadyG.cons rfl (fun K hK => ?_) AllReadyG.nil
          refine step_flat rfl 32 3 5 _ rfl .i64 Z5 Try.underlying32 (by kernel_rfl) (by kernel_rfl) (by rw [HZ5.out]; rfl) (by decide) (by decide) (by rw [HZ5.out]; rfl) ?_
          refine hK.out _ _ (.inr trivial) ?_
          clear hK K
          obtain ⟨g5, W2, o2, hg, hW, h2, cc5, hb⟩ := HI1.out.flat Z5 j5 x5 HX5.out
          rw [← hg, ← hW]
          have HI2 := Lib.hid h2; have CC5 := Lib.hid cc5
          clear hg hW h2 cc5 hb HI1
          refine wpAnyG_take (i := 7) (v := ?_) rfl (by kernel_rfl) (by kernel_rfl) (by kernel_rfl) (by kernel_rfl) (fun _ _ _ h => h) (Or.inl ⟨by rfl, ?_⟩) ((.inr trivial)) ?_
          rotate_left
          · intro w' _; go_simp; try with_reducible rfl
          try simp only [Act.put, List.getElem_toArray, List.getElem_cons_zero, List.getElem_cons_succ, List.setIfInBounds_toArray, List.set_cons_zero, List.set_cons_succ]
          refine wpAnyG_ready (rs := [8]) (by kernel_rfl) (by simp) ?_
          refine AllReadyG.cons rfl (fun K hK => ?_) AllReadyG.nil
          refine step_load rfl 3 (.tmp 28) rfl ⟨g5, j5, none⟩ rfl (.int .i64 x5) CC5.out Try.underlying3 ?_
          refine hK.out _ _ (.inr trivial) ?_
          clear hK K CC5
          refine wpAnyG_ready (rs := [16]) (by kernel_rfl) (by simp) ?_
          refine AllReadyG.cons rfl (fun K hK => ?_) AllReadyG.nil
          go_simp
          refine hK.out _ _ (.inl rfl) ?_
          clear hK K
          refine wpAnyG_ready (rs := [17]) (by kernel_rfl) (by simp) ?_
          refine AllReadyG.cons rfl (fun K hK => ?_) AllReadyG.nil
          go_simp
          refine hK.out _ _ (.inl rfl) ?_
          clear hK K
          have s1 := fun a b s => (Step.refl [] W2 o2).alloc (.cells #[.int .i64 a, .int .i64 b, .int .i64 s] 24) 5
          obtain ⟨xs, hxs⟩ := HI2.out.2
          have HR := Lib.hid (fun a b s => hxs.step (s1 a b s) (by simp)); have HG := Lib.hid (fun a b s => HI2.out.step (s1 a b s)); have HN := Lib.hid (tk_new W2 o2)
          clear s1 hxs HI2
          refine wpAnyG_ready (rs := [18]) (by kernel_rfl) (by simp) ?_
          refine AllReadyG.cons rfl (fun K hK => ?_) AllReadyG.nil
          refine step_append_row rfl (.tmp 21) (.tmp 38) _ rfl el_tk (ext o2 W2.heap.size 5) 61 A k c (ints xs) rfl (HR.out _ _ _) (ext o2 W2.heap.size 5) 5 _ 1 1 [.int .i64 _, .int .i64 _, .int .i64 _] rfl (HN.out _ _ _) (by simp [Value.oneCell']) (by omega) (by simp only [maxLen]; omega) ?_
          intro A9 c9 W9 hr9 hg9 hat9
          have HI9 := Lib.hid ((HG.out _ _ _).app (Step.append (HR.out _ _ _) hg9 61) hr9)
          clear hr9 hg9 hat9 HR HG HN
          refine hK.out _ _ (.inl rfl) ?_
          clear hK K
          refine wpAnyG_ready (rs := [19]) (by kernel_rfl) (by simp) ?_
          refine AllReadyG.cons rfl (fun K hK => ?_) AllReadyG.nil
          go_simp
          refine hK.out _ _ (.inl rfl) ?_
          clear hK K
          refine wpAnyG_done (by kernel_rfl) ?_ _
          clear HX5 HX4 HZ5 HZ4 h5 h4 hw1
          go_wp2_with fail
          go_roundw
          case rel => exact ⟨k + 1, m / 5, A9, c9, _, by omega, by omega, by go_num, by go_num, rfl, HI9⟩
          case measure => simp [intOf]; omega
        · have dk : decide ((k : Int) < 4) = false := by simp; omega
          go_wp2_with fail
          refine (HI.out.pairs (by omega) _).mono ?_
          rintro e w6 ⟨rfl, hb6⟩
          have HS6 := Lib.hid (HI.out.1.trans ((Step.refl [] wr o).below hb6 5))
          clear hb6 HI
          go_wp2_with fail
          go_roundw
          case rel => exact ⟨i + 1, _, by omega, by go_num, HS6⟩
          case measure => simp [intOf]; omega
    · have di : decide ((i : Int) < 5000) = false := by simp; omega
      go_wp2_with fail
      go_loopw [6, 5] (fun s6 s5 wr => ∃ (k : Nat) (A : Option Addr) (c : Nat) (o : Own), k ≤ 65 ∧ s6 = .int .i64 k ∧ s5 = .slice A k c ∧ Hid (TI w wr o k A c)) (fun s6 _ _ => 65 - (intOf s6).toNat)
      case atStart => exact ⟨0, none, 0, o, by omega, rfl, rfl, Lib.hid (TI.start HS.out)⟩
      case round => as_aux_lemma =>
        clear HS
        obtain ⟨k, A, c, o, hk, rfl, rfl, HI⟩ := hrel
        by_cases hlk : k < 65
        ·
          have s1 := fun a b s => (Step.refl [] wr o).alloc (.cells #[.int .i64 a, .int .i64 b, .int .i64 s] 24) 5
          obtain ⟨xs, hxs⟩ := HI.out.2
          have HR := Lib.hid (fun a b s => hxs.step (s1 a b s) (by simp)); have HG := Lib.hid (fun a b s => HI.out.step (s1 a b s)); have HN := Lib.hid (tk_new wr o)
          clear s1 hxs HI
          go_upto_region 16 with (at_builtin; refine wpList_append_row _ rfl (.tmp 50) (.tmp 58) _ rfl el_tk (ext o wr.heap.size 5) 61 A k c (ints xs) rfl (HR.out _ _ _) (ext o wr.heap.size 5) 5 _ 1 1 [.int .i64 _, .int .i64 _, .int .i64 _] rfl (HN.out _ _ _) (by simp [Value.oneCell']) (by omega) (by simp only [maxLen]; omega) ?_; intro A3 c3 w3 hr3 hg3 hat3; have HI3 := Lib.hid ((HG.out _ _ _).app (Step.append (HR.out _ _ _) hg3 61) hr3); clear hr3 hg3 hat3 HR HG HN)
          obtain ⟨o3, HI4⟩ : ∃ o3, Hid (TI w w3 o3 (k + 1) A3 c3) := ⟨_, HI3⟩
          clear HI3
          by_cases h62 : 62 ≤ k
          · have d0 : decide ((62 : Int) ≤ (k : Int)) = true := by simp; omega
            clear h62
            go_wp2_with fail
            refine (HI4.out.pairs (by omega) _).mono ?_
            rintro e w6 ⟨rfl, hb6⟩
            have HI6 := Lib.hid (HI4.out.step ((Step.refl [] w3 o3).below hb6 5))
            clear hb6 HI4
            go_wp2_with fail
            go_roundw
            case rel => exact ⟨k + 1, A3, c3, _, by omega, by go_num, rfl, HI6⟩
            case measure => simp [intOf]; omega
          · have d0 : decide ((62 : Int) ≤ (k : Int)) = false := by simp; omega
            clear h62
            go_wp2_with fail
            go_roundw
            case rel => exact ⟨k + 1, A3, c3, o3, by omega, by go_num, rfl, HI4⟩
            case measure => simp [intOf]; omega
        · have dk : decide ((k : Int) < 65) = false := by simp; omega
          have HS2 := Lib.hid HI.out.1
          clear HI
          go_wp2_with fail
          go_loopw [7] (fun s wr => ∃ (j : Nat) (o : Own), j ≤ 12 ∧ s = .int .i64 j ∧ Hid (Step [] w (fun _ => 0) wr o)) (fun s _ => 12 - (intOf s).toNat)
          case atStart => exact ⟨0, o, by omega, rfl, HS2⟩
          case round => as_aux_lemma =>
            clear HS2
            obtain ⟨j, o, hj, rfl, HS⟩ := hrel
            by_cases hlj : j < 12
            · have hrT := Row.made (w := wr) o 61 24 3 #[.int .i64 1, .int .i64 0, .int .i64 0, .int .i64 2, .int .i64 4000, .int .i64 0] 2 rfl (by decide) 2 (Nat.le_refl _)
              have sT := (Step.refl [] wr o).alloc (.cells #[.int .i64 1, .int .i64 0, .int .i64 0, .int .i64 2, .int .i64 4000, .int .i64 0] 24) 61
              have HT : Hid (TI w _ _ 2 (some ⟨wr.heap.size, 0, none⟩) 2) := Lib.hid ⟨HS.out.trans sT, RowI.of hrT (zs := [1, 0, 0, 2, 4000, 0]) rfl⟩
              obtain ⟨g, hg⟩ : ∃ g, g = wr.heap.size := ⟨_, rfl⟩
              obtain ⟨o4, ho4⟩ : ∃ o', o' = ext o wr.heap.size 61 := ⟨_, rfl⟩
              obtain ⟨W4, hW4⟩ : ∃ W, W = wr.alloc (.cells #[.int .i64 1, .int .i64 0, .int .i64 0, .int .i64 2, .int .i64 4000, .int .i64 0] 24) := ⟨_, rfl⟩
              rw [← ho4, ← hg, ← hW4] at HT
              have HGE := Lib.hid hg; have HWE := Lib.hid hW4
              clear sT hrT ho4 hg hW4 HS
              go_upto_block 8 with (refine wpList_two_tk rfl (.tmp 71) (.tmp 72) rfl 1 0 0 2 4000 0 rfl rfl ?_)
              rw [← HWE.out, ← HGE.out]
              clear HWE HGE
              go_cut [8, 9] (fun s8 s9 wx => ∃ (B : Option Addr) (tt : Int) (o' : Own), s8 = .slice B 2 2 ∧ s9 = .int .i64 tt ∧ Hid (TI w wx o' 2 B 2))
              case first => as_aux_lemma =>
                by_cases hv : j = 0
                · have d1 : ((j : Int) == 1) = false := by simp; omega
                  have d2 : ((j : Int) == 2) = false := by simp; omega
                  have d3 : ((j : Int) == 3) = false := by simp; omega
                  have d4 : ((j : Int) == 4) = false := by simp; omega
                  have d5 : ((j : Int) == 5) = false := by simp; omega
                  have d6 : ((j : Int) == 6) = false := by simp; omega
                  have d7 : ((j : Int) == 7) = false := by simp; omega
                  have d8 : ((j : Int) == 8) = false := by simp; omega
                  have d9 : ((j : Int) == 9) = false := by simp; omega
                  have d10 : ((j : Int) == 10) = false := by simp; omega
                  have d11 : ((j : Int) == 11) = false := by simp; omega
                  clear hv
                  go_wp2_with fail
                  go_meet
                  exact ⟨_, _, o4, rfl, rfl, Lib.hid HT.out⟩
                by_cases hv : j = 1
                · have d1 : ((j : Int) == 1) = true := by simp; omega
                  clear hv
                  go_wp2_with fail
                  go_meet
                  exact ⟨_, _, o4, rfl, rfl, Lib.hid HT.out⟩
                by_cases hv : j = 2
                · have d1 : ((j : Int) == 1) = false := by simp; omega
                  have d2 : ((j : Int) == 2) = true := by simp; omega
                  clear hv
                  obtain ⟨x1, e1, f1⟩ := HT.out.2.cell 0 (by omega)
                  go_wp2_with fail
                  go_meet
                  exact ⟨_, _, o4, rfl, rfl, Lib.hid (HT.out.set (by omega) _ _)⟩
                by_cases hv : j = 3
                · have d1 : ((j : Int) == 1) = false := by simp; omega
                  have d2 : ((j : Int) == 2) = false := by simp; omega
                  have d3 : ((j : Int) == 3) = true := by simp; omega
                  clear hv
                  obtain ⟨x1, e1, f1⟩ := HT.out.2.cell 0 (by omega)
                  go_wp2_with fail
                  go_meet
                  exact ⟨_, _, o4, rfl, rfl, Lib.hid (HT.out.set (by omega) _ _)⟩
                by_cases hv : j = 4
                · have d1 : ((j : Int) == 1) = false := by simp; omega
                  have d2 : ((j : Int) == 2) = false := by simp; omega
                  have d3 : ((j : Int) == 3) = false := by simp; omega
                  have d4 : ((j : Int) == 4) = true := by simp; omega
                  clear hv
                  obtain ⟨x1, e1, f1⟩ := HT.out.2.cell 0 (by omega)
                  go_wp2_with fail
                  go_meet
                  exact ⟨_, _, o4, rfl, rfl, Lib.hid (HT.out.set (by omega) _ _)⟩
                by_cases hv : j = 5
                · have d1 : ((j : Int) == 1) = false := by simp; omega
                  have d2 : ((j : Int) == 2) = false := by simp; omega
                  have d3 : ((j : Int) == 3) = false := by simp; omega
                  have d4 : ((j : Int) == 4) = false := by simp; omega
                  have d5 : ((j : Int) == 5) = true := by simp; omega
                  clear hv
                  obtain ⟨x1, e1, f1⟩ := HT.out.2.cell 4 (by omega)
                  go_wp2_with fail
                  go_meet
                  exact ⟨_, _, o4, rfl, rfl, Lib.hid (HT.out.set (by omega) _ _)⟩
                by_cases hv : j = 6
                · have d1 : ((j : Int) == 1) = false := by simp; omega
                  have d2 : ((j : Int) == 2) = false := by simp; omega
                  have d3 : ((j : Int) == 3) = false := by simp; omega
                  have d4 : ((j : Int) == 4) = false := by simp; omega
                  have d5 : ((j : Int) == 5) = false := by simp; omega
                  have d6 : ((j : Int) == 6) = true := by simp; omega
                  clear hv
                  obtain ⟨x1, e1, f1⟩ := HT.out.2.cell 2 (by omega)
                  go_wp2_with fail
                  go_meet
                  exact ⟨_, _, o4, rfl, rfl, Lib.hid (HT.out.set (by omega) _ _)⟩
                by_cases hv : j = 7
                · have d1 : ((j : Int) == 1) = false := by simp; omega
                  have d2 : ((j : Int) == 2) = false := by simp; omega
                  have d3 : ((j : Int) == 3) = false := by simp; omega
                  have d4 : ((j : Int) == 4) = false := by simp; omega
                  have d5 : ((j : Int) == 5) = false := by simp; omega
                  have d6 : ((j : Int) == 6) = false := by simp; omega
                  have d7 : ((j : Int) == 7) = true := by simp; omega
                  clear hv
                  obtain ⟨x1, e1, f1⟩ := HT.out.2.cell 2 (by omega)
                  go_wp2_with fail
                  go_meet
                  exact ⟨_, _, o4, rfl, rfl, Lib.hid (HT.out.set (by omega) _ _)⟩
                by_cases hv : j = 8
                · have d1 : ((j : Int) == 1) = false := by simp; omega
                  have d2 : ((j : Int) == 2) = false := by simp; omega
                  have d3 : ((j : Int) == 3) = false := by simp; omega
                  have d4 : ((j : Int) == 4) = false := by simp; omega
                  have d5 : ((j : Int) == 5) = false := by simp; omega
                  have d6 : ((j : Int) == 6) = false := by simp; omega
                  have d7 : ((j : Int) == 7) = false := by simp; omega
                  have d8 : ((j : Int) == 8) = true := by simp; omega
                  clear hv
                  go_wp2_with fail
                  go_meet
                  exact ⟨_, _, o4, rfl, rfl, Lib.hid HT.out⟩
                by_cases hv : j = 9
                · have d1 : ((j : Int) == 1) = false := by simp; omega
                  have d2 : ((j : Int) == 2) = false := by simp; omega
                  have d3 : ((j : Int) == 3) = false := by simp; omega
                  have d4 : ((j : Int) == 4) = false := by simp; omega
                  have d5 : ((j : Int) == 5) = false := by simp; omega
                  have d6 : ((j : Int) == 6) = false := by simp; omega
                  have d7 : ((j : Int) == 7) = false := by simp; omega
                  have d8 : ((j : Int) == 8) = false := by simp; omega
                  have d9 : ((j : Int) == 9) = true := by simp; omega
                  clear hv
                  go_wp2_with fail
                  go_meet
                  exact ⟨_, _, o4, rfl, rfl, Lib.hid HT.out⟩
                by_cases hv : j = 10
                · have d1 : ((j : Int) == 1) = false := by simp; omega
                  have d2 : ((j : Int) == 2) = false := by simp; omega
                  have d3 : ((j : Int) == 3) = false := by simp; omega
                  have d4 : ((j : Int) == 4) = false := by simp; omega
                  have d5 : ((j : Int) == 5) = false := by simp; omega
                  have d6 : ((j : Int) == 6) = false := by simp; omega
                  have d7 : ((j : Int) == 7) = false := by simp; omega
                  have d8 : ((j : Int) == 8) = false := by simp; omega
                  have d9 : ((j : Int) == 9) = false := by simp; omega
                  have d10 : ((j : Int) == 10) = true := by simp; omega
                  clear hv
                  go_wp2_with fail
                  go_meet
                  exact ⟨_, _, o4, rfl, rfl, Lib.hid HT.out⟩
                have hv : j = 11 := by omega
                have d1 : ((j : Int) == 1) = false := by simp; omega
                have d2 : ((j : Int) == 2) = false := by simp; omega
                have d3 : ((j : Int) == 3) = false := by simp; omega
                have d4 : ((j : Int) == 4) = false := by simp; omega
                have d5 : ((j : Int) == 5) = false := by simp; omega
                have d6 : ((j : Int) == 6) = false := by simp; omega
                have d7 : ((j : Int) == 7) = false := by simp; omega
                have d8 : ((j : Int) == 8) = false := by simp; omega
                have d9 : ((j : Int) == 9) = false := by simp; omega
                have d10 : ((j : Int) == 10) = false := by simp; omega
                have d11 : ((j : Int) == 11) = true := by simp; omega
                clear hv
                obtain ⟨x1, e1, f1⟩ := HT.out.2.cell 2 (by omega)
                go_wp2_with fail
                go_meet
                exact ⟨_, _, o4, rfl, rfl, Lib.hid (HT.out.set (by omega) _ _)⟩
              case rest => as_aux_lemma =>
                obtain ⟨B, tt, o', rfl, rfl, HQ⟩ := hcut
                clear HT
                go_wp2_with fail
                refine (HQ.out.pairs (by omega) tt).mono ?_
                rintro e w6 ⟨rfl, hb6⟩
                have HS6 := Lib.hid (HQ.out.1.trans ((Step.refl [] _ o').below hb6 5))
                clear hb6 HQ
                go_wp2_with fail
                go_roundw
                case rel => exact ⟨j + 1, _, by omega, by go_num, HS6⟩
                case measure => simp [intOf]; omega
            · have HB := Lib.hid (HS.out.to_below (by simp))
              have dj : decide ((j : Int) < 12) = false := by simp; omega
              clear HS
              go_wp2_with fail
              go_ret
              exact ⟨rfl, HB.out⟩
end Go.Proofs.Ytkceefheeicmbaa
