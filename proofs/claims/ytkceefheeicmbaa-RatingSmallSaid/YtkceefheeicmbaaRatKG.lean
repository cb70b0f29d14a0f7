/-
  WALKS of given, the reference's find.
-/
import Derived.Test.YtkceefheeicmbaaRatKE
namespace Go.Proofs.Ytkceefheeicmbaa
open Go.RowKit Go.Sort

theorem el_rpl : Elem Try.prog 93 99 2 16 (.agg #[.int .i64 0, .int .i64 0]) := ⟨Try.underlying93, by kernel_rfl, rfl, by decide⟩
theorem el_rgm : Elem Try.prog 94 117 3 24 (.agg #[.int .i64 0, .int .i64 0, .int .i64 0]) := ⟨Try.underlying94, by kernel_rfl, rfl, by decide⟩
theorem pls_snoc {l : List Pl} {i : Nat} {x : Pl} (h : l[i]? = some x) : pls (l.take (i + 1)) = pls (l.take i) ++ [.int .i64 x.id, .int .i64 x.rt] := by
  rw [List.take_add_one, h]; simp [pls]
theorem gms_snoc {l : List Gm} {i : Nat} {x : Gm} (h : l[i]? = some x) : gms (l.take (i + 1)) = gms (l.take i) ++ [.int .i64 x.a, .int .i64 x.b, .int .i64 x.s] := by
  rw [List.take_add_one, h]; simp [gms]

def GivenTo (w : World) (l : List Pl) (gs : List Gm) (e : Ending) (w' : World) : Prop := ∃ A c B d o', e = .returned (.tuple #[.slice A l.length c, .slice B gs.length d]) ∧ Step [] w (fun _ => 0) w' o' ∧ Row w' o' 75 99 2 A l.length c (pls l) ∧ Row w' o' 76 117 3 B gs.length d (gms gs)
set_option maxRecDepth 100000 in
set_option maxHeartbeats 4000000 in
theorem given_any (w : World) (A : Option Addr) (n c : Nat) (l : List Pl) (hS : Sl w (fun _ => 0) 0 2 A n c (pls l)) (G : Option Addr) (m d : Nat) (gs : List Gm) (hT : Sl w (fun _ => 0) 0 3 G m d (gms gs)) (hn : n ≤ 300) (hm : m ≤ 2000) :
    Calls Try.prog 56 #[.slice A n c, .slice G m d] w (GivenTo w l gs) := by
  have hl : l.length = n := by have := hS.1; rw [len_pls] at this; omega
  have hlm : gs.length = m := by have := hT.1; rw [len_gms] at this; omega
  have HS := Lib.hid hS; have HT := Lib.hid hT; have HL := Lib.hid hl; have HM := Lib.hid hlm
  clear hS hT hl hlm
  go_enter Try.func56, Try.ntmps56
  go_wp2_with fail
  go_loopw [8, 6] (fun s t wr => ∃ (i : Nat) (Ai : Option Addr) (ci : Nat) (oi : Own), i ≤ n ∧ s = .int .i64 i ∧ t = .slice Ai i ci ∧ Hid (Step [] w (fun _ => 0) wr oi ∧ Row wr oi 75 99 2 Ai i ci (pls (l.take i)))) (fun s _ _ => n - (intOf s).toNat)
  case atStart => exact ⟨0, none, 0, _, Nat.zero_le _, rfl, rfl, Lib.hid ⟨Step.refl _ _ _, Row.nil_ _ _ _ _ _⟩⟩
  case round => as_aux_lemma =>
    obtain ⟨i, Ai, ci, oi, hi, rfl, rfl, HJ⟩ := hrel
    by_cases hlt : i < n
    · obtain ⟨x, hx⟩ : ∃ x, l[i]? = some x := ⟨_, List.getElem?_eq_getElem (by rw [HL.out]; exact hlt)⟩
      obtain ⟨g, off, rfl, -, hg, c0, c1⟩ := (HS.out.step HJ.out.1 (by simp)).pl hx
      have HX := Lib.hid (pls_snoc hx)
      have hi1 : (i : Int) < (n : Int) := by omega
      clear hx
      go_wp2_with fail
      have lk : wr.drew.cell? ⟨g, off + i * 2, none⟩ = some (.int .i64 x.id) ∧ wr.drew.cell? ⟨g, off + i * 2 + 1, none⟩ = some (.int .i64 x.rt) := ⟨c0, c1⟩
      obtain ⟨W2, hW2⟩ : ∃ W2, W2 = wr.drew := ⟨_, rfl⟩
      have stD : Step [] wr oi W2 oi := by rw [hW2]; exact (Step.refl [] wr oi).drew
      refine wp_region_till (S0 := fun w' => w'.cell? ⟨g, off + i * 2, none⟩ = some (.int .i64 x.id) ∧ w'.cell? ⟨g, off + i * 2 + 1, none⟩ = some (.int .i64 x.rt)) (st := 11) (by kernel_rfl) ?_
      change wpAnyG _ _ _ _ _ _ _ _ _ (World.drew _)
      rw [← hW2] at lk ⊢
      have HST := Lib.hid (HJ.out.1.trans stD); have HR := Lib.hid (HJ.out.2.step stD (by simp))
      clear hW2 stD
      refine wpAnyG_take (i := 0) (v := ?_) rfl (by kernel_rfl) (by kernel_rfl) (by kernel_rfl) (by kernel_rfl) (fun _ _ _ h => h) (Or.inl ⟨by rfl, ?_⟩) ((.inr lk)) ?_
      rotate_left
      · intro w' _; go_simp; try with_reducible rfl
      try simp only [Act.put, List.getElem_toArray, List.getElem_cons_zero, List.setIfInBounds_toArray, List.set_cons_zero, List.set_cons_succ]
      refine wpAnyG_take (i := 1) (v := ?_) rfl (by kernel_rfl) (by kernel_rfl) (by kernel_rfl) (by kernel_rfl) (fun _ _ _ h => h) (Or.inl ⟨by rfl, ?_⟩) ((.inr lk)) ?_
      rotate_left
      · intro w' _; go_simp; try with_reducible rfl
      try simp only [Act.put, List.getElem_toArray, List.getElem_cons_zero, List.getElem_cons_succ, List.setIfInBounds_toArray, List.set_cons_zero, List.set_cons_succ]
      refine wpAnyG_take (i := 2) (v := ?_) rfl (by kernel_rfl) (by kernel_rfl) (by kernel_rfl) (by kernel_rfl) (fun _ _ _ h => h) (Or.inl ⟨by rfl, ?_⟩) ((.inr lk)) ?_
      rotate_left
      · intro w' _; go_simp; try with_reducible rfl
      try simp only [Act.put, List.getElem_toArray, List.getElem_cons_zero, List.getElem_cons_succ, List.setIfInBounds_toArray, List.set_cons_zero, List.set_cons_succ]
      refine wpAnyG_take (i := 3) (v := ?_) rfl (by kernel_rfl) (by kernel_rfl) (by kernel_rfl) (by kernel_rfl) (fun _ _ _ h => h) (Or.inl ⟨by rfl, ?_⟩) ((.inr lk)) ?_
      rotate_left
      · intro w' _; go_simp; try with_reducible rfl
      try simp only [Act.put, List.getElem_toArray, List.getElem_cons_zero, List.getElem_cons_succ, List.setIfInBounds_toArray, List.set_cons_zero, List.set_cons_succ]
      refine wpAnyG_take (i := 4) (v := ?_) rfl (by kernel_rfl) (by kernel_rfl) (by kernel_rfl) (by kernel_rfl) (fun _ _ _ h => h) (Or.inl ⟨by rfl, ?_⟩) ((.inr lk)) ?_
      rotate_left
      · intro w' _; go_simp; try with_reducible rfl
      try simp only [Act.put, List.getElem_toArray, List.getElem_cons_zero, List.getElem_cons_succ, List.setIfInBounds_toArray, List.set_cons_zero, List.set_cons_succ]
      refine wpAnyG_load (i := 5) (v := ?_) rfl rfl (by kernel_rfl) (by kernel_rfl) (by kernel_rfl) (by kernel_rfl) (by kernel_rfl) (by kernel_rfl) (fun _ _ _ h => h) (Or.inl ⟨by rfl, ?_⟩) (lk) ?_
      rotate_left
      · intro w' hSw; obtain ⟨s0, s1⟩ := hSw; go_simp; try with_reducible rfl
      try simp only [Act.put, List.getElem_toArray, List.getElem_cons_zero, List.getElem_cons_succ, List.setIfInBounds_toArray, List.set_cons_zero, List.set_cons_succ]
      refine wpAnyG_take (i := 6) (v := ?_) rfl (by kernel_rfl) (by kernel_rfl) (by kernel_rfl) (by kernel_rfl) (fun _ _ _ h => h) (Or.inl ⟨by rfl, ?_⟩) ((.inr lk)) ?_
      rotate_left
      · intro w' _; go_simp; try with_reducible rfl
      try simp only [Act.put, List.getElem_toArray, List.getElem_cons_zero, List.getElem_cons_succ, List.setIfInBounds_toArray, List.set_cons_zero, List.set_cons_succ]
      refine wpAnyG_take (i := 7) (v := ?_) rfl (by kernel_rfl) (by kernel_rfl) (by kernel_rfl) (by kernel_rfl) (fun _ _ _ h => h) (Or.inl ⟨by rfl, ?_⟩) ((.inr lk)) ?_
      rotate_left
      · intro w' _; go_simp; try with_reducible rfl
      try simp only [Act.put, List.getElem_toArray, List.getElem_cons_zero, List.getElem_cons_succ, List.setIfInBounds_toArray, List.set_cons_zero, List.set_cons_succ]
      refine wpAnyG_take (i := 8) (v := ?_) rfl (by kernel_rfl) (by kernel_rfl) (by kernel_rfl) (by kernel_rfl) (fun _ _ _ h => h) (Or.inl ⟨by rfl, ?_⟩) ((.inr lk)) ?_
      rotate_left
      · intro w' _; go_simp; try with_reducible rfl
      try simp only [Act.put, List.getElem_toArray, List.getElem_cons_zero, List.getElem_cons_succ, List.setIfInBounds_toArray, List.set_cons_zero, List.set_cons_succ]
      refine wpAnyG_take (i := 9) (v := ?_) rfl (by kernel_rfl) (by kernel_rfl) (by kernel_rfl) (by kernel_rfl) (fun _ _ _ h => h) (Or.inl ⟨by rfl, ?_⟩) ((.inr lk)) ?_
      rotate_left
      · intro w' _; go_simp; try with_reducible rfl
      try simp only [Act.put, List.getElem_toArray, List.getElem_cons_zero, List.getElem_cons_succ, List.setIfInBounds_toArray, List.set_cons_zero, List.set_cons_succ]
      refine wpAnyG_load (i := 10) (v := ?_) rfl rfl (by kernel_rfl) (by kernel_rfl) (by kernel_rfl) (by kernel_rfl) (by kernel_rfl) (by kernel_rfl) (fun _ _ _ h => h) (Or.inl ⟨by rfl, ?_⟩) (lk) ?_
      rotate_left
      · intro w' hSw; obtain ⟨s0, s1⟩ := hSw; go_simp; try with_reducible rfl
      try simp only [Act.put, List.getElem_toArray, List.getElem_cons_zero, List.getElem_cons_succ, List.setIfInBounds_toArray, List.set_cons_zero, List.set_cons_succ]
      refine wpAnyG_ready (rs := [11]) (by kernel_rfl) (by simp) ?_
      refine AllReadyG.cons rfl (fun K hK => ?_) AllReadyG.nil
      go_simp
      refine hK.out _ _ (.inl rfl) ?_
      clear hK K
      refine wpAnyG_ready (rs := [12]) (by kernel_rfl) (by simp) ?_
      refine AllReadyG.cons rfl (fun K hK => ?_) AllReadyG.nil
      go_simp
      refine hK.out _ _ (.inl rfl) ?_
      clear hK K lk c0 c1
      have sN := (Step.refl [] W2 oi).alloc (.cells #[.int .i64 x.id, .int .i64 x.rt] 99) 5
      have HSN := Lib.hid (HST.out.trans sN); have HRN := Lib.hid (HR.out.step sN (by simp))
      have HN := Lib.hid (Row.made (w := W2) oi 5 99 2 #[.int .i64 x.id, .int .i64 x.rt] 1 rfl (by decide) 1 (Nat.le_refl _)).sl
      clear sN HST HR
      refine wpAnyG_ready (rs := [13]) (by kernel_rfl) (by simp) ?_
      refine AllReadyG.cons rfl (fun K hK => ?_) AllReadyG.nil
      refine step_append_row rfl (.tmp 16) (.tmp 28) _ rfl el_rpl _ 75 Ai i ci _ rfl HRN.out _ 5 _ 1 1 [.int .i64 x.id, .int .i64 x.rt] rfl HN.out (by simp [Value.oneCell']) (by omega) (by simp only [maxLen]; omega) ?_
      intro A2 c2 w6 hr6 hg6 hat6
      have HST6 := Lib.hid ((HSN.out.nil.trans (Step.append HRN.out hg6 75)).forget (ts' := []) (fun t ht _ k _ => by simp at ht; subst ht; simp))
      have HR6 := Lib.hid hr6
      clear hr6 hg6 hat6
      refine hK.out _ _ (.inl rfl) ?_
      clear hK K
      refine wpAnyG_ready (rs := [14]) (by kernel_rfl) (by simp) ?_
      refine AllReadyG.cons rfl (fun K hK => ?_) AllReadyG.nil
      go_simp
      refine hK.out _ _ (.inl rfl) ?_
      clear hK K
      refine wpAnyG_done (by kernel_rfl) ?_ _
      go_wp2_with fail
      go_roundw
      case rel => exact ⟨i + 1, A2, c2, _, by omega, by go_num, rfl, Lib.hid ⟨HST6.out, by rw [HX.out]; exact HR6.out⟩⟩
      case measure => simp [intOf]; omega
    · obtain rfl : n = i := by omega
      obtain ⟨wr, hwr⟩ : ∃ W, W = wr := ⟨_, rfl⟩
      rw [← hwr] at HJ ⊢
      clear hwr
      rw [List.take_of_length_le (by rw [HL.out]; exact Nat.le_refl _)] at HJ
      go_wp2_with fail
      go_loopw [9, 7] (fun s t wr => ∃ (i : Nat) (Bi : Option Addr) (di : Nat) (oj : Own), i ≤ m ∧ s = .int .i64 i ∧ t = .slice Bi i di ∧ Hid (Step [] w (fun _ => 0) wr oj ∧ Row wr oj 75 99 2 Ai n ci (pls l) ∧ Row wr oj 76 117 3 Bi i di (gms (gs.take i)))) (fun s _ _ => m - (intOf s).toNat)
      case atStart => exact ⟨0, none, 0, _, Nat.zero_le _, rfl, rfl, Lib.hid ⟨HJ.out.1, HJ.out.2, Row.nil_ _ _ _ _ _⟩⟩
      case round => as_aux_lemma =>
        clear HJ
        obtain ⟨i, Bi, di, oj, hi, rfl, rfl, HJ⟩ := hrel
        by_cases hlt : i < m
        · obtain ⟨x, hx⟩ : ∃ x, gs[i]? = some x := ⟨_, List.getElem?_eq_getElem (by rw [HM.out]; exact hlt)⟩
          obtain ⟨g, off, rfl, -, hg, c0, c1, c2⟩ := (HT.out.step HJ.out.1 (by simp)).gm hx
          have HX := Lib.hid (gms_snoc hx)
          have hi1 : (i : Int) < (m : Int) := by omega
          clear hx
          go_wp2_with fail
          have lk : wr.drew.cell? ⟨g, off + i * 3, none⟩ = some (.int .i64 x.a) ∧ wr.drew.cell? ⟨g, off + i * 3 + 1, none⟩ = some (.int .i64 x.b) ∧ wr.drew.cell? ⟨g, off + i * 3 + 2, none⟩ = some (.int .i64 x.s) := ⟨c0, c1, c2⟩
          obtain ⟨W2, hW2⟩ : ∃ W2, W2 = wr.drew := ⟨_, rfl⟩
          have stD : Step [] wr oj W2 oj := by rw [hW2]; exact (Step.refl [] wr oj).drew
          refine wp_region_till (S0 := fun w' => w'.cell? ⟨g, off + i * 3, none⟩ = some (.int .i64 x.a) ∧ w'.cell? ⟨g, off + i * 3 + 1, none⟩ = some (.int .i64 x.b) ∧ w'.cell? ⟨g, off + i * 3 + 2, none⟩ = some (.int .i64 x.s)) (st := 16) (by kernel_rfl) ?_
          change wpAnyG _ _ _ _ _ _ _ _ _ (World.drew _)
          rw [← hW2] at lk ⊢
          have HST := Lib.hid (HJ.out.1.trans stD); have HR := Lib.hid (HJ.out.2.2.step stD (by simp)); have HP := Lib.hid (HJ.out.2.1.step stD (by simp))
          clear hW2 stD HJ
          refine wpAnyG_take (i := 0) (v := ?_) rfl (by kernel_rfl) (by kernel_rfl) (by kernel_rfl) (by kernel_rfl) (fun _ _ _ h => h) (Or.inl ⟨by rfl, ?_⟩) ((.inr lk)) ?_
          rotate_left
          · intro w' _; go_simp; try with_reducible rfl
          try simp only [Act.put, List.getElem_toArray, List.getElem_cons_zero, List.setIfInBounds_toArray, List.set_cons_zero, List.set_cons_succ]
          refine wpAnyG_take (i := 1) (v := ?_) rfl (by kernel_rfl) (by kernel_rfl) (by kernel_rfl) (by kernel_rfl) (fun _ _ _ h => h) (Or.inl ⟨by rfl, ?_⟩) ((.inr lk)) ?_
          rotate_left
          · intro w' _; go_simp; try with_reducible rfl
          try simp only [Act.put, List.getElem_toArray, List.getElem_cons_zero, List.getElem_cons_succ, List.setIfInBounds_toArray, List.set_cons_zero, List.set_cons_succ]
          refine wpAnyG_take (i := 2) (v := ?_) rfl (by kernel_rfl) (by kernel_rfl) (by kernel_rfl) (by kernel_rfl) (fun _ _ _ h => h) (Or.inl ⟨by rfl, ?_⟩) ((.inr lk)) ?_
          rotate_left
          · intro w' _; go_simp; try with_reducible rfl
          try simp only [Act.put, List.getElem_toArray, List.getElem_cons_zero, List.getElem_cons_succ, List.setIfInBounds_toArray, List.set_cons_zero, List.set_cons_succ]
          refine wpAnyG_take (i := 3) (v := ?_) rfl (by kernel_rfl) (by kernel_rfl) (by kernel_rfl) (by kernel_rfl) (fun _ _ _ h => h) (Or.inl ⟨by rfl, ?_⟩) ((.inr lk)) ?_
          rotate_left
          · intro w' _; go_simp; try with_reducible rfl
          try simp only [Act.put, List.getElem_toArray, List.getElem_cons_zero, List.getElem_cons_succ, List.setIfInBounds_toArray, List.set_cons_zero, List.set_cons_succ]
          refine wpAnyG_take (i := 4) (v := ?_) rfl (by kernel_rfl) (by kernel_rfl) (by kernel_rfl) (by kernel_rfl) (fun _ _ _ h => h) (Or.inl ⟨by rfl, ?_⟩) ((.inr lk)) ?_
          rotate_left
          · intro w' _; go_simp; try with_reducible rfl
          try simp only [Act.put, List.getElem_toArray, List.getElem_cons_zero, List.getElem_cons_succ, List.setIfInBounds_toArray, List.set_cons_zero, List.set_cons_succ]
          refine wpAnyG_load (i := 5) (v := ?_) rfl rfl (by kernel_rfl) (by kernel_rfl) (by kernel_rfl) (by kernel_rfl) (by kernel_rfl) (by kernel_rfl) (fun _ _ _ h => h) (Or.inl ⟨by rfl, ?_⟩) (lk) ?_
          rotate_left
          · intro w' hSw; obtain ⟨s0, s1, s2⟩ := hSw; go_simp; try with_reducible rfl
          try simp only [Act.put, List.getElem_toArray, List.getElem_cons_zero, List.getElem_cons_succ, List.setIfInBounds_toArray, List.set_cons_zero, List.set_cons_succ]
          refine wpAnyG_take (i := 6) (v := ?_) rfl (by kernel_rfl) (by kernel_rfl) (by kernel_rfl) (by kernel_rfl) (fun _ _ _ h => h) (Or.inl ⟨by rfl, ?_⟩) ((.inr lk)) ?_
          rotate_left
          · intro w' _; go_simp; try with_reducible rfl
          try simp only [Act.put, List.getElem_toArray, List.getElem_cons_zero, List.getElem_cons_succ, List.setIfInBounds_toArray, List.set_cons_zero, List.set_cons_succ]
          refine wpAnyG_take (i := 7) (v := ?_) rfl (by kernel_rfl) (by kernel_rfl) (by kernel_rfl) (by kernel_rfl) (fun _ _ _ h => h) (Or.inl ⟨by rfl, ?_⟩) ((.inr lk)) ?_
          rotate_left
          · intro w' _; go_simp; try with_reducible rfl
          try simp only [Act.put, List.getElem_toArray, List.getElem_cons_zero, List.getElem_cons_succ, List.setIfInBounds_toArray, List.set_cons_zero, List.set_cons_succ]
          refine wpAnyG_take (i := 8) (v := ?_) rfl (by kernel_rfl) (by kernel_rfl) (by kernel_rfl) (by kernel_rfl) (fun _ _ _ h => h) (Or.inl ⟨by rfl, ?_⟩) ((.inr lk)) ?_
          rotate_left
          · intro w' _; go_simp; try with_reducible rfl
          try simp only [Act.put, List.getElem_toArray, List.getElem_cons_zero, List.getElem_cons_succ, List.setIfInBounds_toArray, List.set_cons_zero, List.set_cons_succ]
          refine wpAnyG_take (i := 9) (v := ?_) rfl (by kernel_rfl) (by kernel_rfl) (by kernel_rfl) (by kernel_rfl) (fun _ _ _ h => h) (Or.inl ⟨by rfl, ?_⟩) ((.inr lk)) ?_
          rotate_left
          · intro w' _; go_simp; try with_reducible rfl
          try simp only [Act.put, List.getElem_toArray, List.getElem_cons_zero, List.getElem_cons_succ, List.setIfInBounds_toArray, List.set_cons_zero, List.set_cons_succ]
          refine wpAnyG_load (i := 10) (v := ?_) rfl rfl (by kernel_rfl) (by kernel_rfl) (by kernel_rfl) (by kernel_rfl) (by kernel_rfl) (by kernel_rfl) (fun _ _ _ h => h) (Or.inl ⟨by rfl, ?_⟩) (lk) ?_
          rotate_left
          · intro w' hSw; obtain ⟨s0, s1, s2⟩ := hSw; go_simp; try with_reducible rfl
          try simp only [Act.put, List.getElem_toArray, List.getElem_cons_zero, List.getElem_cons_succ, List.setIfInBounds_toArray, List.set_cons_zero, List.set_cons_succ]
          refine wpAnyG_take (i := 11) (v := ?_) rfl (by kernel_rfl) (by kernel_rfl) (by kernel_rfl) (by kernel_rfl) (fun _ _ _ h => h) (Or.inl ⟨by rfl, ?_⟩) ((.inr lk)) ?_
          rotate_left
          · intro w' _; go_simp; try with_reducible rfl
          try simp only [Act.put, List.getElem_toArray, List.getElem_cons_zero, List.getElem_cons_succ, List.setIfInBounds_toArray, List.set_cons_zero, List.set_cons_succ]
          refine wpAnyG_take (i := 12) (v := ?_) rfl (by kernel_rfl) (by kernel_rfl) (by kernel_rfl) (by kernel_rfl) (fun _ _ _ h => h) (Or.inl ⟨by rfl, ?_⟩) ((.inr lk)) ?_
          rotate_left
          · intro w' _; go_simp; try with_reducible rfl
          try simp only [Act.put, List.getElem_toArray, List.getElem_cons_zero, List.getElem_cons_succ, List.setIfInBounds_toArray, List.set_cons_zero, List.set_cons_succ]
          refine wpAnyG_take (i := 13) (v := ?_) rfl (by kernel_rfl) (by kernel_rfl) (by kernel_rfl) (by kernel_rfl) (fun _ _ _ h => h) (Or.inl ⟨by rfl, ?_⟩) ((.inr lk)) ?_
          rotate_left
          · intro w' _; go_simp; try with_reducible rfl
          try simp only [Act.put, List.getElem_toArray, List.getElem_cons_zero, List.getElem_cons_succ, List.setIfInBounds_toArray, List.set_cons_zero, List.set_cons_succ]
          refine wpAnyG_take (i := 14) (v := ?_) rfl (by kernel_rfl) (by kernel_rfl) (by kernel_rfl) (by kernel_rfl) (fun _ _ _ h => h) (Or.inl ⟨by rfl, ?_⟩) ((.inr lk)) ?_
          rotate_left
          · intro w' _; go_simp; try with_reducible rfl
          try simp only [Act.put, List.getElem_toArray, List.getElem_cons_zero, List.getElem_cons_succ, List.setIfInBounds_toArray, List.set_cons_zero, List.set_cons_succ]
          refine wpAnyG_load (i := 15) (v := ?_) rfl rfl (by kernel_rfl) (by kernel_rfl) (by kernel_rfl) (by kernel_rfl) (by kernel_rfl) (by kernel_rfl) (fun _ _ _ h => h) (Or.inl ⟨by rfl, ?_⟩) (lk) ?_
          rotate_left
          · intro w' hSw; obtain ⟨s0, s1, s2⟩ := hSw; go_simp; try with_reducible rfl
          try simp only [Act.put, List.getElem_toArray, List.getElem_cons_zero, List.getElem_cons_succ, List.setIfInBounds_toArray, List.set_cons_zero, List.set_cons_succ]
          refine wpAnyG_ready (rs := [16]) (by kernel_rfl) (by simp) ?_
          refine AllReadyG.cons rfl (fun K hK => ?_) AllReadyG.nil
          go_simp
          refine hK.out _ _ (.inl rfl) ?_
          clear hK K
          refine wpAnyG_ready (rs := [17]) (by kernel_rfl) (by simp) ?_
          refine AllReadyG.cons rfl (fun K hK => ?_) AllReadyG.nil
          go_simp
          refine hK.out _ _ (.inl rfl) ?_
          clear hK K lk c0 c1 c2
          have sN := (Step.refl [] W2 oj).alloc (.cells #[.int .i64 x.a, .int .i64 x.b, .int .i64 x.s] 117) 5
          have HSN := Lib.hid (HST.out.trans sN); have HRN := Lib.hid (HR.out.step sN (by simp)); have HPN := Lib.hid (HP.out.step sN (by simp))
          have HN := Lib.hid (Row.made (w := W2) oj 5 117 3 #[.int .i64 x.a, .int .i64 x.b, .int .i64 x.s] 1 rfl (by decide) 1 (Nat.le_refl _)).sl
          clear sN HST HR HP
          refine wpAnyG_ready (rs := [18]) (by kernel_rfl) (by simp) ?_
          refine AllReadyG.cons rfl (fun K hK => ?_) AllReadyG.nil
          refine step_append_row rfl (.tmp 36) (.tmp 53) _ rfl el_rgm _ 76 Bi i di _ rfl HRN.out _ 5 _ 1 1 [.int .i64 x.a, .int .i64 x.b, .int .i64 x.s] rfl HN.out (by simp [Value.oneCell']) (by omega) (by simp only [maxLen]; omega) ?_
          intro A2 c2 w6 hr6 hg6 hat6
          have sA := Step.append HRN.out hg6 76
          have HST6 := Lib.hid ((HSN.out.nil.trans sA).forget (ts' := []) (fun t ht _ k _ => by simp at ht; subst ht; simp))
          have HR6 := Lib.hid hr6; have HP6 := Lib.hid (HPN.out.step sA (by decide))
          clear hr6 hg6 hat6 sA
          refine hK.out _ _ (.inl rfl) ?_
          clear hK K
          refine wpAnyG_ready (rs := [19]) (by kernel_rfl) (by simp) ?_
          refine AllReadyG.cons rfl (fun K hK => ?_) AllReadyG.nil
          go_simp
          refine hK.out _ _ (.inl rfl) ?_
          clear hK K
          refine wpAnyG_done (by kernel_rfl) ?_ _
          go_wp2_with fail
          go_roundw
          case rel => exact ⟨i + 1, A2, c2, _, by omega, by go_num, rfl, Lib.hid ⟨HST6.out, HP6.out, by rw [HX.out]; exact HR6.out⟩⟩
          case measure => simp [intOf]; omega
        · obtain rfl : m = i := by omega
          go_wp2_with fail
          go_ret2
          have h3 := HJ.out.2.2
          rw [List.take_of_length_le (by rw [HM.out]; exact Nat.le_refl _)] at h3
          exact ⟨Ai, ci, Bi, di, oj, by rw [HL.out, HM.out]; rfl, HJ.out.1, by rw [HL.out]; exact HJ.out.2.1, by rw [HM.out]; exact h3⟩
end Go.Proofs.Ytkceefheeicmbaa
