/-
  WALKS of the law's wants and of the reference's Valid. (Printed by wip/gen/gen_refvalid.py.)
-/
import Derived.Test.YtkiknbjokknemaaGreatBudTU
import Derived.Test.YtkiknbjokknemaaGreatBudTC
namespace Go.Proofs.YtkiknbjokknemaaGreat
open Go.RowKit

theorem el_rwant : Elem Tryz.prog 46 71 2 16 (.agg #[.int .i64 0, .int .i64 0]) := ⟨Tryz.underlying46, by kernel_rfl, rfl, by decide⟩

set_option maxRecDepth 100000 in
set_option maxHeartbeats 1000000 in
theorem wants_any (w : World) (o : Own) (τ : Nat) (A : Option Addr) (n c : Nat) (l : List (Int × Int)) (hS : Sl w o τ 2 A n c (wnts l)) (hn80 : n ≤ 1000) :
    Calls Tryz.prog 13 #[.slice A n c] w fun e w' => ∃ B d o', e = .returned (.slice B n d) ∧ Step [] w (fun _ => 0) w' o' ∧ Row w' o' 40 71 2 B n d (wnts l) := by
  have hl : l.length = n := by have := hS.1; rw [len_wnts] at this; omega
  have HS := Lib.hid hS; have HL := Lib.hid hl
  clear hS hl
  go_enter Tryz.func13, Tryz.ntmps13
  go_wp2_with fail
  go_loopw [4, 3] (fun i s wr => ∃ (j : Nat) (B : Option Addr) (d : Nat) (o' : Own), j ≤ n ∧ i = .int .i64 j ∧ s = .slice B j d ∧ Hid (Step [] w (fun _ => 0) wr o' ∧ Row wr o' 40 71 2 B j d (wnts (l.take j)))) (fun i _ _ => n - (intOf i).toNat)
  case atStart => exact ⟨0, none, 0, _, Nat.zero_le _, rfl, rfl, Lib.hid ⟨Step.refl _ _ _, by simpa [wnts] using Row.nil_ w (fun _ => 0) 40 71 2⟩⟩
  case round => as_aux_lemma =>
    obtain ⟨j, B, d, o', hj, rfl, rfl, HJ⟩ := hrel
    by_cases hlt : j < n
    · obtain ⟨x, hx⟩ : ∃ x, l[j]? = some x := ⟨_, List.getElem?_eq_getElem (by rw [HL.out]; exact hlt)⟩
      obtain ⟨g, off, hAe, -, hg, hc⟩ := (HS.out.old0.step HJ.out.1 (by simp)).2.2.2 (by omega)
      subst hAe
      obtain ⟨i0, i1⟩ := wnts_get l j x hx
      have c0 := hc _ _ i0; have c1 := hc _ _ i1
      rw [← Nat.add_assoc] at c1
      clear hc i0 i1
      obtain ⟨a, b⟩ := x
      simp only at c0 c1
      go_wp2_with fail
      have lk : wr.drew.cell? ⟨g, off + j * 2, none⟩ = some (.int .i64 a) ∧ wr.drew.cell? ⟨g, off + j * 2 + 1, none⟩ = some (.int .i64 b) := ⟨c0, c1⟩
      refine wp_region_till (S0 := fun w' => w'.cell? ⟨g, off + j * 2, none⟩ = some (.int .i64 a) ∧ w'.cell? ⟨g, off + j * 2 + 1, none⟩ = some (.int .i64 b)) (st := 11) (by kernel_rfl) ?_
      change wpAnyG _ _ _ _ _ _ _ _ _ (World.drew _)
      refine wpAnyG_take (i := 0) (v := ?_) rfl (by kernel_rfl) (by kernel_rfl) (by kernel_rfl) (by kernel_rfl) (fun _ _ _ h => h) (Or.inl ⟨by rfl, ?_⟩) (.inr lk) ?_
      rotate_left
      · intro w' _; go_simp; try with_reducible rfl
      try simp only [Act.put, List.getElem_toArray, List.getElem_cons_zero, List.setIfInBounds_toArray, List.set_cons_zero, List.set_cons_succ]
      refine wpAnyG_take (i := 1) (v := ?_) rfl (by kernel_rfl) (by kernel_rfl) (by kernel_rfl) (by kernel_rfl) (fun _ _ _ h => h) (Or.inl ⟨by rfl, ?_⟩) (.inr lk) ?_
      rotate_left
      · intro w' _; go_simp; try with_reducible rfl
      try simp only [Act.put, List.getElem_toArray, List.getElem_cons_zero, List.getElem_cons_succ, List.setIfInBounds_toArray, List.set_cons_zero, List.set_cons_succ]
      refine wpAnyG_take (i := 2) (v := ?_) rfl (by kernel_rfl) (by kernel_rfl) (by kernel_rfl) (by kernel_rfl) (fun _ _ _ h => h) (Or.inl ⟨by rfl, ?_⟩) (.inr lk) ?_
      rotate_left
      · intro w' _; go_simp; try with_reducible rfl
      try simp only [Act.put, List.getElem_toArray, List.getElem_cons_zero, List.getElem_cons_succ, List.setIfInBounds_toArray, List.set_cons_zero, List.set_cons_succ]
      refine wpAnyG_take (i := 3) (v := ?_) rfl (by kernel_rfl) (by kernel_rfl) (by kernel_rfl) (by kernel_rfl) (fun _ _ _ h => h) (Or.inl ⟨by rfl, ?_⟩) (.inr lk) ?_
      rotate_left
      · intro w' _; go_simp; try with_reducible rfl
      try simp only [Act.put, List.getElem_toArray, List.getElem_cons_zero, List.getElem_cons_succ, List.setIfInBounds_toArray, List.set_cons_zero, List.set_cons_succ]
      refine wpAnyG_take (i := 4) (v := ?_) rfl (by kernel_rfl) (by kernel_rfl) (by kernel_rfl) (by kernel_rfl) (fun _ _ _ h => h) (Or.inl ⟨by rfl, ?_⟩) (.inr lk) ?_
      rotate_left
      · intro w' _; go_simp; try with_reducible rfl
      try simp only [Act.put, List.getElem_toArray, List.getElem_cons_zero, List.getElem_cons_succ, List.setIfInBounds_toArray, List.set_cons_zero, List.set_cons_succ]
      refine wpAnyG_load (i := 5) (v := ?_) rfl rfl (by kernel_rfl) (by kernel_rfl) (by kernel_rfl) (by kernel_rfl) (by kernel_rfl) (by kernel_rfl) (fun _ _ _ h => h) (Or.inl ⟨by rfl, ?_⟩) lk ?_
      rotate_left
      · intro w' hSw; obtain ⟨s0, s1⟩ := hSw; go_simp; try with_reducible rfl
      try simp only [Act.put, List.getElem_toArray, List.getElem_cons_zero, List.getElem_cons_succ, List.setIfInBounds_toArray, List.set_cons_zero, List.set_cons_succ]
      refine wpAnyG_take (i := 6) (v := ?_) rfl (by kernel_rfl) (by kernel_rfl) (by kernel_rfl) (by kernel_rfl) (fun _ _ _ h => h) (Or.inl ⟨by rfl, ?_⟩) (.inr lk) ?_
      rotate_left
      · intro w' _; go_simp; try with_reducible rfl
      try simp only [Act.put, List.getElem_toArray, List.getElem_cons_zero, List.getElem_cons_succ, List.setIfInBounds_toArray, List.set_cons_zero, List.set_cons_succ]
      refine wpAnyG_take (i := 7) (v := ?_) rfl (by kernel_rfl) (by kernel_rfl) (by kernel_rfl) (by kernel_rfl) (fun _ _ _ h => h) (Or.inl ⟨by rfl, ?_⟩) (.inr lk) ?_
      rotate_left
      · intro w' _; go_simp; try with_reducible rfl
      try simp only [Act.put, List.getElem_toArray, List.getElem_cons_zero, List.getElem_cons_succ, List.setIfInBounds_toArray, List.set_cons_zero, List.set_cons_succ]
      refine wpAnyG_take (i := 8) (v := ?_) rfl (by kernel_rfl) (by kernel_rfl) (by kernel_rfl) (by kernel_rfl) (fun _ _ _ h => h) (Or.inl ⟨by rfl, ?_⟩) (.inr lk) ?_
      rotate_left
      · intro w' _; go_simp; try with_reducible rfl
      try simp only [Act.put, List.getElem_toArray, List.getElem_cons_zero, List.getElem_cons_succ, List.setIfInBounds_toArray, List.set_cons_zero, List.set_cons_succ]
      refine wpAnyG_take (i := 9) (v := ?_) rfl (by kernel_rfl) (by kernel_rfl) (by kernel_rfl) (by kernel_rfl) (fun _ _ _ h => h) (Or.inl ⟨by rfl, ?_⟩) (.inr lk) ?_
      rotate_left
      · intro w' _; go_simp; try with_reducible rfl
      try simp only [Act.put, List.getElem_toArray, List.getElem_cons_zero, List.getElem_cons_succ, List.setIfInBounds_toArray, List.set_cons_zero, List.set_cons_succ]
      refine wpAnyG_load (i := 10) (v := ?_) rfl rfl (by kernel_rfl) (by kernel_rfl) (by kernel_rfl) (by kernel_rfl) (by kernel_rfl) (by kernel_rfl) (fun _ _ _ h => h) (Or.inl ⟨by rfl, ?_⟩) lk ?_
      rotate_left
      · intro w' hSw; obtain ⟨s0, s1⟩ := hSw; go_simp; try with_reducible rfl
      try simp only [Act.put, List.getElem_toArray, List.getElem_cons_zero, List.getElem_cons_succ, List.setIfInBounds_toArray, List.set_cons_zero, List.set_cons_succ]
      refine wpAnyG_ready (rs := [11]) (by kernel_rfl) (by simp) ?_
      refine AllReadyG.cons rfl (fun K hK => ?_) AllReadyG.nil
      go_simp
      refine hK.out _ _ (.inl rfl) ?_
      clear hK K
      obtain ⟨W2, hW2⟩ : ∃ W2, W2 = wr.drew := ⟨_, rfl⟩
      have stD : Step [] wr o' W2 o' := by rw [hW2]; exact (Step.refl [] wr o').drew
      rw [← hW2]
      obtain ⟨oW, stW, rwW, slW, -⟩ := laidI (HJ.out.2.step stD (by simp)) #[.int .i64 a, .int .i64 b] 2 rfl (by omega) 71
      have RW := Lib.hid rwW; have SW := Lib.hid slW; have ST := Lib.hid ((HJ.out.1.trans stD).trans stW); have HX := Lib.hid hx
      clear rwW slW stW stD hW2 c0 c1 hx lk
      refine wpAnyG_ready (rs := [12]) (by kernel_rfl) (by simp) ?_
      refine AllReadyG.cons rfl (fun K hK => ?_) AllReadyG.nil
      go_simp
      refine hK.out _ _ (.inl rfl) ?_
      clear hK K
      refine wpAnyG_ready (rs := [13]) (by kernel_rfl) (by simp) ?_
      refine AllReadyG.cons rfl (fun K hK => ?_) AllReadyG.nil
      refine step_append_row rfl (.tmp 11) (.tmp 23) _ rfl el_rwant oW 40 B j d _ rfl RW.out oW 5 _ 1 1 [.int .i64 a, .int .i64 b] rfl SW.out (by simp [Value.oneCell']) (by omega) (by simp only [maxLen]; omega) ?_
      intro B' d' w6 hR6 hg6 hat6
      have HR6 := Lib.hid hR6; have HG6 := Lib.hid hg6; clear hR6 hg6 hat6
      refine hK.out _ _ (.inl rfl) ?_
      clear hK K
      refine wpAnyG_ready (rs := [14]) (by kernel_rfl) (by simp) ?_
      refine AllReadyG.cons rfl (fun K hK => ?_) AllReadyG.nil
      go_simp
      refine hK.out _ _ (.inl rfl) ?_
      clear hK K
      refine wpAnyG_done (by kernel_rfl) ?_ _
      go_wp2_with fail
      go_roundw
      case rel =>
        have st6 := Step.append RW.out HG6.out 40
        refine ⟨j + 1, B', d', _, by omega, by go_num, rfl, Lib.hid ⟨((ST.out.nil (ts := [40])).trans st6).forget (ts' := []) (fun t ht _ k hk => by simp at ht; subst ht; simp), ?_⟩⟩
        rw [List.take_add_one, HX.out, wnts_app]
        exact HR6.out
      case measure => simp [intOf]; omega
    · obtain rfl : n = j := by omega
      go_wp2_with fail
      go_ret
      refine ⟨B, d, o', rfl, HJ.out.1, ?_⟩
      have := HJ.out.2
      rw [List.take_of_length_le (by rw [HL.out]; exact Nat.le_refl _)] at this
      exact this

theorem scores_all {l : List It} {j : Nat} {x : It} (h : l[j]? = some x) (hb : ¬ (0 ≤ x.sc ∧ x.sc ≤ topScore)) : validB l = false := by
  unfold validB
  have : scoresB l = false := by
    unfold scoresB
    rw [List.all_eq_false]
    exact ⟨x, List.mem_of_getElem? h, by simp only [Bool.and_eq_true, decide_eq_true_eq]; exact hb⟩
  rw [this]
  simp

set_option maxRecDepth 100000 in
set_option maxHeartbeats 1000000 in
theorem RValid_any (w : World) (o : Own) (τ : Nat) (A : Option Addr) (n c : Nat) (l : List It) (hS : Sl w o τ 3 A n c (itms l)) (hn80 : n ≤ 1000) :
    Calls Tryz.prog 18 #[.slice A n c] w (SaysTo w (validB l)) := by
  have hl : l.length = n := by have := hS.1; rw [len_itms] at this; omega
  obtain ⟨R, hR⟩ : ∃ R, R = validB l := ⟨_, rfl⟩
  rw [← hR]
  have HS := Lib.hid hS; have HL := Lib.hid hl; have HR := Lib.hid hR
  clear hS hl hR
  go_enter Tryz.func18, Tryz.ntmps18
  go_wp2_with fail
  go_loopw [4, 3] (fun i s wr => ∃ (j : Nat) (B : Option Addr) (d : Nat) (o' : Own), j ≤ n ∧ i = .int .i64 j ∧ s = .slice B j d ∧ Hid (scoresB (l.take j) = true) ∧ Hid (Step [] w (fun _ => 0) wr o' ∧ Row wr o' 40 71 2 B j d (wnts ((l.take j).map fun x => (x.id, x.wt))))) (fun i _ _ => n - (intOf i).toNat)
  case atStart => exact ⟨0, none, 0, _, Nat.zero_le _, rfl, rfl, Lib.hid (by simp [scoresB]), Lib.hid ⟨Step.refl _ _ _, by simpa [wnts] using Row.nil_ w (fun _ => 0) 40 71 2⟩⟩
  case round => as_aux_lemma =>
    obtain ⟨j, B, d, o', hj, rfl, rfl, HT, HJ⟩ := hrel
    by_cases hlt : j < n
    · obtain ⟨x, hx⟩ : ∃ x, l[j]? = some x := ⟨_, List.getElem?_eq_getElem (by rw [HL.out]; exact hlt)⟩
      obtain ⟨g, off, hAe, -, hg, hc⟩ := (HS.out.old0.step HJ.out.1 (by simp)).2.2.2 (by omega)
      subst hAe
      obtain ⟨i0, i1, i2⟩ := itms_get l j x hx
      have c0 := hc _ _ i0; have c1 := hc _ _ i1; have c2 := hc _ _ i2
      rw [← Nat.add_assoc] at c1 c2
      clear hc i0 i1 i2
      have hst := scores_take hx
      rw [HT.out, Bool.true_and] at hst
      have hbad := scores_all hx
      obtain ⟨a, b, s⟩ := x
      simp only at c0 c1 c2 hst hbad
      unfold topScore at hst hbad
      by_cases s1 : s < 0
      · have hv := Lib.hid (show R = false by rw [HR.out]; exact hbad (by omega))
        have HF := Lib.hid (HJ.out.1.to_below (fun _ _ => by simp))
        clear hst hbad
        go_wp2_with fail
        go_ret
        exact ⟨by rw [hv.out]; rfl, HF.out⟩
      by_cases s2 : 1073741824 < s
      · have hv := Lib.hid (show R = false by rw [HR.out]; exact hbad (by omega))
        have HF := Lib.hid (HJ.out.1.to_below (fun _ _ => by simp))
        have d2 := decide_eq_true s2
        clear hst hbad
        go_wp2_with fail
        go_ret
        exact ⟨by rw [hv.out]; rfl, HF.out⟩
      rw [show decide (0 ≤ s) = true by simp; omega, show decide (s ≤ 1073741824) = true by simp; omega, Bool.and_true] at hst
      have d2 : decide (1073741824 < s) = false := by simp; omega
      have HST := Lib.hid hst
      clear hst hbad
      go_wp2_with fail
      clear c2 d2 s1 s2
      have lk : wr.drew.cell? ⟨g, off + j * 3, none⟩ = some (.int .i64 a) ∧ wr.drew.cell? ⟨g, off + j * 3 + 1, none⟩ = some (.int .i64 b) := ⟨c0, c1⟩
      refine wp_region_till (S0 := fun w' => w'.cell? ⟨g, off + j * 3, none⟩ = some (.int .i64 a) ∧ w'.cell? ⟨g, off + j * 3 + 1, none⟩ = some (.int .i64 b)) (st := 11) (by kernel_rfl) ?_
      change wpAnyG _ _ _ _ _ _ _ _ _ (World.drew _)
      refine wpAnyG_take (i := 0) (v := ?_) rfl (by kernel_rfl) (by kernel_rfl) (by kernel_rfl) (by kernel_rfl) (fun _ _ _ h => h) (Or.inl ⟨by rfl, ?_⟩) (.inr lk) ?_
      rotate_left
      · intro w' _; go_simp; try with_reducible rfl
      try simp only [Act.put, List.getElem_toArray, List.getElem_cons_zero, List.setIfInBounds_toArray, List.set_cons_zero, List.set_cons_succ]
      refine wpAnyG_take (i := 1) (v := ?_) rfl (by kernel_rfl) (by kernel_rfl) (by kernel_rfl) (by kernel_rfl) (fun _ _ _ h => h) (Or.inl ⟨by rfl, ?_⟩) (.inr lk) ?_
      rotate_left
      · intro w' _; go_simp; try with_reducible rfl
      try simp only [Act.put, List.getElem_toArray, List.getElem_cons_zero, List.getElem_cons_succ, List.setIfInBounds_toArray, List.set_cons_zero, List.set_cons_succ]
      refine wpAnyG_take (i := 2) (v := ?_) rfl (by kernel_rfl) (by kernel_rfl) (by kernel_rfl) (by kernel_rfl) (fun _ _ _ h => h) (Or.inl ⟨by rfl, ?_⟩) (.inr lk) ?_
      rotate_left
      · intro w' _; go_simp; try with_reducible rfl
      try simp only [Act.put, List.getElem_toArray, List.getElem_cons_zero, List.getElem_cons_succ, List.setIfInBounds_toArray, List.set_cons_zero, List.set_cons_succ]
      refine wpAnyG_take (i := 3) (v := ?_) rfl (by kernel_rfl) (by kernel_rfl) (by kernel_rfl) (by kernel_rfl) (fun _ _ _ h => h) (Or.inl ⟨by rfl, ?_⟩) (.inr lk) ?_
      rotate_left
      · intro w' _; go_simp; try with_reducible rfl
      try simp only [Act.put, List.getElem_toArray, List.getElem_cons_zero, List.getElem_cons_succ, List.setIfInBounds_toArray, List.set_cons_zero, List.set_cons_succ]
      refine wpAnyG_take (i := 4) (v := ?_) rfl (by kernel_rfl) (by kernel_rfl) (by kernel_rfl) (by kernel_rfl) (fun _ _ _ h => h) (Or.inl ⟨by rfl, ?_⟩) (.inr lk) ?_
      rotate_left
      · intro w' _; go_simp; try with_reducible rfl
      try simp only [Act.put, List.getElem_toArray, List.getElem_cons_zero, List.getElem_cons_succ, List.setIfInBounds_toArray, List.set_cons_zero, List.set_cons_succ]
      refine wpAnyG_load (i := 5) (v := ?_) rfl rfl (by kernel_rfl) (by kernel_rfl) (by kernel_rfl) (by kernel_rfl) (by kernel_rfl) (by kernel_rfl) (fun _ _ _ h => h) (Or.inl ⟨by rfl, ?_⟩) lk ?_
      rotate_left
      · intro w' hSw; obtain ⟨s0, s1⟩ := hSw; go_simp; try with_reducible rfl
      try simp only [Act.put, List.getElem_toArray, List.getElem_cons_zero, List.getElem_cons_succ, List.setIfInBounds_toArray, List.set_cons_zero, List.set_cons_succ]
      refine wpAnyG_take (i := 6) (v := ?_) rfl (by kernel_rfl) (by kernel_rfl) (by kernel_rfl) (by kernel_rfl) (fun _ _ _ h => h) (Or.inl ⟨by rfl, ?_⟩) (.inr lk) ?_
      rotate_left
      · intro w' _; go_simp; try with_reducible rfl
      try simp only [Act.put, List.getElem_toArray, List.getElem_cons_zero, List.getElem_cons_succ, List.setIfInBounds_toArray, List.set_cons_zero, List.set_cons_succ]
      refine wpAnyG_take (i := 7) (v := ?_) rfl (by kernel_rfl) (by kernel_rfl) (by kernel_rfl) (by kernel_rfl) (fun _ _ _ h => h) (Or.inl ⟨by rfl, ?_⟩) (.inr lk) ?_
      rotate_left
      · intro w' _; go_simp; try with_reducible rfl
      try simp only [Act.put, List.getElem_toArray, List.getElem_cons_zero, List.getElem_cons_succ, List.setIfInBounds_toArray, List.set_cons_zero, List.set_cons_succ]
      refine wpAnyG_take (i := 8) (v := ?_) rfl (by kernel_rfl) (by kernel_rfl) (by kernel_rfl) (by kernel_rfl) (fun _ _ _ h => h) (Or.inl ⟨by rfl, ?_⟩) (.inr lk) ?_
      rotate_left
      · intro w' _; go_simp; try with_reducible rfl
      try simp only [Act.put, List.getElem_toArray, List.getElem_cons_zero, List.getElem_cons_succ, List.setIfInBounds_toArray, List.set_cons_zero, List.set_cons_succ]
      refine wpAnyG_take (i := 9) (v := ?_) rfl (by kernel_rfl) (by kernel_rfl) (by kernel_rfl) (by kernel_rfl) (fun _ _ _ h => h) (Or.inl ⟨by rfl, ?_⟩) (.inr lk) ?_
      rotate_left
      · intro w' _; go_simp; try with_reducible rfl
      try simp only [Act.put, List.getElem_toArray, List.getElem_cons_zero, List.getElem_cons_succ, List.setIfInBounds_toArray, List.set_cons_zero, List.set_cons_succ]
      refine wpAnyG_load (i := 10) (v := ?_) rfl rfl (by kernel_rfl) (by kernel_rfl) (by kernel_rfl) (by kernel_rfl) (by kernel_rfl) (by kernel_rfl) (fun _ _ _ h => h) (Or.inl ⟨by rfl, ?_⟩) lk ?_
      rotate_left
      · intro w' hSw; obtain ⟨s0, s1⟩ := hSw; go_simp; try with_reducible rfl
      try simp only [Act.put, List.getElem_toArray, List.getElem_cons_zero, List.getElem_cons_succ, List.setIfInBounds_toArray, List.set_cons_zero, List.set_cons_succ]
      refine wpAnyG_ready (rs := [11]) (by kernel_rfl) (by simp) ?_
      refine AllReadyG.cons rfl (fun K hK => ?_) AllReadyG.nil
      go_simp
      refine hK.out _ _ (.inl rfl) ?_
      clear hK K
      obtain ⟨W2, hW2⟩ : ∃ W2, W2 = wr.drew := ⟨_, rfl⟩
      have stD : Step [] wr o' W2 o' := by rw [hW2]; exact (Step.refl [] wr o').drew
      rw [← hW2]
      obtain ⟨oW, stW, rwW, slW, -⟩ := laidI (HJ.out.2.step stD (by simp)) #[.int .i64 a, .int .i64 b] 2 rfl (by omega) 71
      have RW := Lib.hid rwW; have SW := Lib.hid slW; have ST := Lib.hid ((HJ.out.1.trans stD).trans stW); have HX := Lib.hid hx
      clear rwW slW stW stD hW2 c0 c1 hx lk
      refine wpAnyG_ready (rs := [12]) (by kernel_rfl) (by simp) ?_
      refine AllReadyG.cons rfl (fun K hK => ?_) AllReadyG.nil
      go_simp
      refine hK.out _ _ (.inl rfl) ?_
      clear hK K
      refine wpAnyG_ready (rs := [13]) (by kernel_rfl) (by simp) ?_
      refine AllReadyG.cons rfl (fun K hK => ?_) AllReadyG.nil
      refine step_append_row rfl (.tmp 25) (.tmp 37) _ rfl el_rwant oW 40 B j d _ rfl RW.out oW 5 _ 1 1 [.int .i64 a, .int .i64 b] rfl SW.out (by simp [Value.oneCell']) (by omega) (by simp only [maxLen]; omega) ?_
      intro B' d' w6 hR6 hg6 hat6
      have HR6 := Lib.hid hR6; have HG6 := Lib.hid hg6; clear hR6 hg6 hat6
      refine hK.out _ _ (.inl rfl) ?_
      clear hK K
      refine wpAnyG_ready (rs := [14]) (by kernel_rfl) (by simp) ?_
      refine AllReadyG.cons rfl (fun K hK => ?_) AllReadyG.nil
      go_simp
      refine hK.out _ _ (.inl rfl) ?_
      clear hK K
      refine wpAnyG_done (by kernel_rfl) ?_ _
      go_wp2_with fail
      go_roundw
      case rel =>
        have st6 := Step.append RW.out HG6.out 40
        refine ⟨j + 1, B', d', _, by omega, by go_num, rfl, Lib.hid HST.out, Lib.hid ⟨((ST.out.nil (ts := [40])).trans st6).forget (ts' := []) (fun t ht _ k hk => by simp at ht; subst ht; simp), ?_⟩⟩
        rw [List.take_add_one, HX.out, Option.toList_some, List.map_append, wnts_app]
        exact HR6.out
      case measure => simp [intOf]; omega
    · obtain rfl : n = j := by omega
      have hr := HJ.out.2
      have ht := HT.out
      rw [List.take_of_length_le (by rw [HL.out]; exact Nat.le_refl _)] at hr ht
      have hrr := RRight_any wr _ 40 B n d _ hr.sl
      have hvv : validB l = rightB (l.map fun x => (x.id, x.wt)) := by unfold validB wantsOf; rw [ht]; simp
      rw [← hvv, ← HR.out] at hrr
      have HRR := Lib.hid hrr; have HB := Lib.hid (HJ.out.1.to_below (fun _ _ => by simp))
      clear hr ht hrr hvv
      go_wp2_with fail
      refine HRR.out.mono ?_
      rintro e w1 ⟨rfl, hb⟩
      have HF := Lib.hid (HB.out.trans (hb.mono HB.out.size))
      clear hb
      go_wp2_with fail
      go_ret
      exact ⟨rfl, HF.out⟩
end Go.Proofs.YtkiknbjokknemaaGreat
