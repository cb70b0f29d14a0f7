/-
  WALKS of pairs, RatingPairs.
-/
import Derived.Test.YtkceefheeicmbaaRatLC
namespace Go.Proofs.Ytkceefheeicmbaa
open Go.RowKit Go.Sort

def pairsR (l : List Tk) (t : Int) : List (Int × Int) := if pairsOk l t = true then pairsM l t else []
def pairsE (l : List Tk) (t : Int) : Int := if pairsOk l t = true then 0 else 2
theorem pairs_u (w : World) (A : Option Addr) (n c : Nat) (l : List Tk) (t : Int) (hS : Sl w (fun _ => 0) 0 3 A n c (tks l)) (R : List (Int × Int)) (hR : R = pairsR l t) (E : Int) (hE : E = pairsE l t) :
    Calls Try.prog 26 #[.slice A n c, .int .i64 t] w fun e w' => ∃ A' c', e = .returned (.tuple #[.slice A' R.length c', .int .i64 E]) ∧ Below w.heap.size w w' ∧ Sl w' (fun _ => 0) 0 2 A' R.length c' (prs R) := by
  cases h : pairsOk l t
  · have e1 : R = [] := by rw [hR, pairsR, h]; rfl
    have e2 : E = 2 := by rw [hE, pairsE, h]; rfl
    subst e1 e2
    refine (Pairs_bad w A n c l t hS h).mono ?_
    rintro e w' ⟨he, hb⟩
    exact ⟨none, 0, he, hb, Sl.nil_ _ _ _ _ _ _ (Nat.zero_le _)⟩
  · have e1 : R = pairsM l t := by rw [hR, pairsR, h]; rfl
    have e2 : E = 0 := by rw [hE, pairsE, h]; rfl
    subst e2
    exact pairs0 w A n c l t hS h R e1
theorem refPairs_u (w : World) (A : Option Addr) (n c : Nat) (l : List Tk) (t : Int) (hS : Sl w (fun _ => 0) 0 3 A n c (tks l)) (R : List (Int × Int)) (hR : R = pairsR l t) (E : Int) (hE : E = pairsE l t) :
    Calls Try.prog 41 #[.slice A n c, .int .i64 t] w fun e w' => ∃ A' c', e = .returned (.tuple #[.slice A' R.length c', .int .i64 E]) ∧ Below w.heap.size w w' ∧ Sl w' (fun _ => 0) 0 2 A' R.length c' (prs R) := by
  refine (refPairs_any w A n c l t hS).mono ?_
  rintro e w' (⟨h, he, hb⟩ | ⟨h, A', c', o', he, hst, hr⟩)
  · have e1 : R = [] := by rw [hR, pairsR, h]; rfl
    have e2 : E = 2 := by rw [hE, pairsE, h]; rfl
    subst e1 e2
    exact ⟨none, 0, he, hb, Sl.nil_ _ _ _ _ _ _ (Nat.zero_le _)⟩
  · have e1 : R = pairsM l t := by rw [hR, pairsR, h]; rfl
    have e2 : E = 0 := by rw [hE, pairsE, h]; rfl
    subst e1 e2
    exact ⟨A', c', he, hst.to_below (by simp), hr.sl.old0⟩
theorem pairsM_few (l : List Tk) (t : Int) (h : l.length ≤ 64) : (pairsM l t).length ≤ 4096 := by
  have h1 := gfold_len (sortK (mtgs t l))
  rw [gfold_all, sortK_len] at h1
  have h2 := mtgs_len t l
  have h3 : l.length * l.length ≤ 64 * 64 := Nat.mul_le_mul h h
  unfold pairsM
  omega
theorem tks_snoc {l : List Tk} {i : Nat} {x : Tk} (h : l[i]? = some x) : tks (l.take (i + 1)) = tks (l.take i) ++ [.int .i64 x.id, .int .i64 x.rt, .int .i64 x.si] := by
  rw [List.take_add_one, h]; simp [tks]

set_option maxRecDepth 100000 in
set_option maxHeartbeats 8000000 in
theorem pairs_any (w : World) (A : Option Addr) (n c : Nat) (l : List Tk) (t : Int) (hS : Sl w (fun _ => 0) 0 3 A n c (tks l)) (hn : n ≤ 70) :
    Calls Try.prog 21 #[.slice A n c, .int .i64 t] w (SaysTo w true) := by
  have hl : l.length = n := by have := hS.1; rw [len_tks] at this; omega
  have sE := (Step.refl [] w (fun _ => 0)).alloc (.cells #[] 24) 80
  have HR0 := Lib.hid (Row.made (w := w) (fun _ => 0) 80 24 3 #[] 0 rfl (Nat.zero_le _) 0 (Nat.le_refl _))
  have HSE := Lib.hid sE; have HS4 := Lib.hid (hS.step sE (by simp))
  have HL := Lib.hid hl
  obtain ⟨R, hR⟩ : ∃ R, R = pairsR l t := ⟨_, rfl⟩
  obtain ⟨E, hE⟩ : ∃ E, E = pairsE l t := ⟨_, rfl⟩
  have HRE := Lib.hid hR; have HEE := Lib.hid hE
  clear sE hS hl hR hE
  go_enter Try.func21, Try.ntmps21
  go_wp2_with (at_builtin; refine wpList_append_row _ rfl (.tmp 13) (.tmp 14) _ rfl el_tk _ 80 _ 0 0 [] rfl HR0.out _ 0 A n c (tks l) rfl HS4.out (one_tks l) (by omega) (by simp only [maxLen]; omega) ?_; intro A2 c2 w3 hr3 hg3 hat3; have sA := Step.append HR0.out hg3 80; simp only [Nat.zero_add, List.nil_append] at hr3; have HB3 := Lib.hid (((HSE.out.nil.trans sA).forget (ts' := []) (fun t ht _ k _ => by simp at ht; subst ht; simp)).to_below (by simp)); have HS3 := Lib.hid (HS4.out.step sA (by decide)).old0; have HI3 := Lib.hid hr3.sl.old0; clear hr3 hg3 hat3 sA HSE HR0 HS4)
  refine (pairs_u w3 A2 n c2 l t HI3.out R HRE.out E HEE.out).mono ?_
  rintro e w4 ⟨A4, c4, rfl, hb4, hp4⟩
  have HB4 := Lib.hid (below_then HB3.out hb4); have HS5 := Lib.hid (HS3.out.up hb4); have HI5 := Lib.hid (HI3.out.up hb4); have HP5 := Lib.hid hp4
  clear hb4 hp4 HB3 HS3 HI3
  have hRl : R.length ≤ 4096 := by
    rw [HRE.out]; unfold pairsR
    split
    · rename_i h; exact pairsM_few l t (pairsOk_iff.1 h).1
    · simp
  go_wp2_with fail
  go_loopw [9, 8] (fun s u wr => ∃ (i : Nat) (Ai : Option Addr) (ci : Nat) (oi : Own), i ≤ n ∧ s = .int .i64 i ∧ u = .slice Ai i ci ∧ Hid (Step [] w4 (fun _ => 0) wr oi ∧ Row wr oi 95 29 3 Ai i ci (tks (l.take i)))) (fun s _ _ => n - (intOf s).toNat)
  case atStart => exact ⟨0, none, 0, _, Nat.zero_le _, rfl, rfl, Lib.hid ⟨Step.refl _ _ _, Row.nil_ _ _ _ _ _⟩⟩
  case round => as_aux_lemma =>
    obtain ⟨i, Ai, ci, oi, hi, rfl, rfl, HJ⟩ := hrel
    by_cases hlt : i < n
    · obtain ⟨x, hx⟩ : ∃ x, l[i]? = some x := ⟨_, List.getElem?_eq_getElem (by rw [HL.out]; exact hlt)⟩
      obtain ⟨g, off, rfl, -, hg, c0, c1, c2'⟩ := (HS5.out.step HJ.out.1 (by simp)).tk hx
      obtain ⟨gi, oi2, rfl, -, hgi, d0, d1, d2⟩ := (HI5.out.step HJ.out.1 (by simp)).tk hx
      have HX := Lib.hid (tks_snoc hx)
      have hi1 : (i : Int) < (n : Int) := by omega
      clear hx
      go_wp2_with fail
      go_quiet (fail)
      obtain ⟨w6, hw6⟩ : ∃ W, W = wr.drewN nq := ⟨_, rfl⟩
      have hst6 : Step [] w4 (fun _ => 0) w6 oi := by rw [hw6]; exact HJ.out.1.drewN nq
      have hr6 : Row w6 oi 95 29 3 Ai i ci (tks (l.take i)) := by rw [hw6]; exact HJ.out.2.drewN nq
      have lk : w6.drew.cell? ⟨g, off + i * 3, none⟩ = some (.int .i64 x.id) ∧ w6.drew.cell? ⟨g, off + i * 3 + 1, none⟩ = some (.int .i64 x.rt) ∧ w6.drew.cell? ⟨g, off + i * 3 + 2, none⟩ = some (.int .i64 x.si) := by rw [hw6]; exact ⟨c0, c1, c2'⟩
      rw [← hw6]
      have HS6 := Lib.hid hst6; have HR6 := Lib.hid hr6
      clear hst6 hr6 hw6 HJ c0 c1 c2' d0 d1 d2
      go_wp2_with fail
      obtain ⟨W2, hW2⟩ : ∃ W2, W2 = w6.drew := ⟨_, rfl⟩
      have stD : Step [] w6 oi W2 oi := by rw [hW2]; exact (Step.refl [] w6 oi).drew
      refine wp_region_till (S0 := fun w' => w'.cell? ⟨g, off + i * 3, none⟩ = some (.int .i64 x.id) ∧ w'.cell? ⟨g, off + i * 3 + 1, none⟩ = some (.int .i64 x.rt) ∧ w'.cell? ⟨g, off + i * 3 + 2, none⟩ = some (.int .i64 x.si)) (st := 16) (by kernel_rfl) ?_
      change wpAnyG _ _ _ _ _ _ _ _ _ (World.drew _)
      rw [← hW2] at lk ⊢
      have HST := Lib.hid (HS6.out.trans stD); have HR := Lib.hid (HR6.out.step stD (by simp))
      clear hW2 stD HS6 HR6
      refine wpAnyG_take (i := 0) (v := ?_) rfl (by kernel_rfl) (by kernel_rfl) (by kernel_rfl) (by kernel_rfl) (fun _ _ _ h => h) (Or.inl ⟨by rfl, ?_⟩) ((.inr lk)) ?_
      rotate_left
      · intro w' _; go_simp; try with_reducible rfl
      try simp only [Act.put, List.getElem_toArray, List.getElem_cons_zero, List.setIfInBounds_toArray, List.set_cons_zero, List.set_cons_succ]
      refine wpAnyG_take (i := 1) (v := ?_) rfl (by kernel_rfl) (by kernel_rfl) (by kernel_rfl) (by kernel_rfl) (fun _ _ _ h => h) (Or.inl ⟨by rfl, ?_⟩) ((.inr lk)) ?_
      rotate_left
      · intro w' _; go_simp; try with_reducible rfl
      try simp only [Act.put, List.getElem_toArray, List.getElem_cons_zero, List.getElem_cons_succ, List.setIfInBounds_toArray, List.set_cons_zero, List.set_cons_succ]
      refine wpAnyG_take (i := 2) (v := ?_) rfl (by kernel_rfl) (by kernel_rfl) (by kernel_rfl) (by kernel_rfl) (fun _ _ _ h => h) (Or.inl ⟨by rfl, ?_⟩) ((.inr lk)) ?_
      rotate_left
      · intro w' _; go_simp; try with_reducible rfl
      try simp only [Act.put, List.getElem_toArray, List.getElem_cons_zero, List.getElem_cons_succ, List.setIfInBounds_toArray, List.set_cons_zero, List.set_cons_succ]
      refine wpAnyG_take (i := 3) (v := ?_) rfl (by kernel_rfl) (by kernel_rfl) (by kernel_rfl) (by kernel_rfl) (fun _ _ _ h => h) (Or.inl ⟨by rfl, ?_⟩) ((.inr lk)) ?_
      rotate_left
      · intro w' _; go_simp; try with_reducible rfl
      try simp only [Act.put, List.getElem_toArray, List.getElem_cons_zero, List.getElem_cons_succ, List.setIfInBounds_toArray, List.set_cons_zero, List.set_cons_succ]
      refine wpAnyG_take (i := 4) (v := ?_) rfl (by kernel_rfl) (by kernel_rfl) (by kernel_rfl) (by kernel_rfl) (fun _ _ _ h => h) (Or.inl ⟨by rfl, ?_⟩) ((.inr lk)) ?_
      rotate_left
      · intro w' _; go_simp; try with_reducible rfl
      try simp only [Act.put, List.getElem_toArray, List.getElem_cons_zero, List.getElem_cons_succ, List.setIfInBounds_toArray, List.set_cons_zero, List.set_cons_succ]
      refine wpAnyG_load (i := 5) (v := ?_) rfl rfl (by kernel_rfl) (by kernel_rfl) (by kernel_rfl) (by kernel_rfl) (by kernel_rfl) (by kernel_rfl) (fun _ _ _ h => h) (Or.inl ⟨by rfl, ?_⟩) (lk) ?_
      rotate_left
      · intro w' hSw; obtain ⟨s0, s1, s2⟩ := hSw; go_simp; try with_reducible rfl
      try simp only [Act.put, List.getElem_toArray, List.getElem_cons_zero, List.getElem_cons_succ, List.setIfInBounds_toArray, List.set_cons_zero, List.set_cons_succ]
      refine wpAnyG_take (i := 6) (v := ?_) rfl (by kernel_rfl) (by kernel_rfl) (by kernel_rfl) (by kernel_rfl) (fun _ _ _ h => h) (Or.inl ⟨by rfl, ?_⟩) ((.inr lk)) ?_
      rotate_left
      · intro w' _; go_simp; try with_reducible rfl
      try simp only [Act.put, List.getElem_toArray, List.getElem_cons_zero, List.getElem_cons_succ, List.setIfInBounds_toArray, List.set_cons_zero, List.set_cons_succ]
      refine wpAnyG_take (i := 7) (v := ?_) rfl (by kernel_rfl) (by kernel_rfl) (by kernel_rfl) (by kernel_rfl) (fun _ _ _ h => h) (Or.inl ⟨by rfl, ?_⟩) ((.inr lk)) ?_
      rotate_left
      · intro w' _; go_simp; try with_reducible rfl
      try simp only [Act.put, List.getElem_toArray, List.getElem_cons_zero, List.getElem_cons_succ, List.setIfInBounds_toArray, List.set_cons_zero, List.set_cons_succ]
      refine wpAnyG_take (i := 8) (v := ?_) rfl (by kernel_rfl) (by kernel_rfl) (by kernel_rfl) (by kernel_rfl) (fun _ _ _ h => h) (Or.inl ⟨by rfl, ?_⟩) ((.inr lk)) ?_
      rotate_left
      · intro w' _; go_simp; try with_reducible rfl
      try simp only [Act.put, List.getElem_toArray, List.getElem_cons_zero, List.getElem_cons_succ, List.setIfInBounds_toArray, List.set_cons_zero, List.set_cons_succ]
      refine wpAnyG_take (i := 9) (v := ?_) rfl (by kernel_rfl) (by kernel_rfl) (by kernel_rfl) (by kernel_rfl) (fun _ _ _ h => h) (Or.inl ⟨by rfl, ?_⟩) ((.inr lk)) ?_
      rotate_left
      · intro w' _; go_simp; try with_reducible rfl
      try simp only [Act.put, List.getElem_toArray, List.getElem_cons_zero, List.getElem_cons_succ, List.setIfInBounds_toArray, List.set_cons_zero, List.set_cons_succ]
      refine wpAnyG_load (i := 10) (v := ?_) rfl rfl (by kernel_rfl) (by kernel_rfl) (by kernel_rfl) (by kernel_rfl) (by kernel_rfl) (by kernel_rfl) (fun _ _ _ h => h) (Or.inl ⟨by rfl, ?_⟩) (lk) ?_
      rotate_left
      · intro w' hSw; obtain ⟨s0, s1, s2⟩ := hSw; go_simp; try with_reducible rfl
      try simp only [Act.put, List.getElem_toArray, List.getElem_cons_zero, List.getElem_cons_succ, List.setIfInBounds_toArray, List.set_cons_zero, List.set_cons_succ]
      refine wpAnyG_take (i := 11) (v := ?_) rfl (by kernel_rfl) (by kernel_rfl) (by kernel_rfl) (by kernel_rfl) (fun _ _ _ h => h) (Or.inl ⟨by rfl, ?_⟩) ((.inr lk)) ?_
      rotate_left
      · intro w' _; go_simp; try with_reducible rfl
      try simp only [Act.put, List.getElem_toArray, List.getElem_cons_zero, List.getElem_cons_succ, List.setIfInBounds_toArray, List.set_cons_zero, List.set_cons_succ]
      refine wpAnyG_take (i := 12) (v := ?_) rfl (by kernel_rfl) (by kernel_rfl) (by kernel_rfl) (by kernel_rfl) (fun _ _ _ h => h) (Or.inl ⟨by rfl, ?_⟩) ((.inr lk)) ?_
      rotate_left
      · intro w' _; go_simp; try with_reducible rfl
      try simp only [Act.put, List.getElem_toArray, List.getElem_cons_zero, List.getElem_cons_succ, List.setIfInBounds_toArray, List.set_cons_zero, List.set_cons_succ]
      refine wpAnyG_take (i := 13) (v := ?_) rfl (by kernel_rfl) (by kernel_rfl) (by kernel_rfl) (by kernel_rfl) (fun _ _ _ h => h) (Or.inl ⟨by rfl, ?_⟩) ((.inr lk)) ?_
      rotate_left
      · intro w' _; go_simp; try with_reducible rfl
      try simp only [Act.put, List.getElem_toArray, List.getElem_cons_zero, List.getElem_cons_succ, List.setIfInBounds_toArray, List.set_cons_zero, List.set_cons_succ]
      refine wpAnyG_take (i := 14) (v := ?_) rfl (by kernel_rfl) (by kernel_rfl) (by kernel_rfl) (by kernel_rfl) (fun _ _ _ h => h) (Or.inl ⟨by rfl, ?_⟩) ((.inr lk)) ?_
      rotate_left
      · intro w' _; go_simp; try with_reducible rfl
      try simp only [Act.put, List.getElem_toArray, List.getElem_cons_zero, List.getElem_cons_succ, List.setIfInBounds_toArray, List.set_cons_zero, List.set_cons_succ]
      refine wpAnyG_load (i := 15) (v := ?_) rfl rfl (by kernel_rfl) (by kernel_rfl) (by kernel_rfl) (by kernel_rfl) (by kernel_rfl) (by kernel_rfl) (fun _ _ _ h => h) (Or.inl ⟨by rfl, ?_⟩) (lk) ?_
      rotate_left
      · intro w' hSw; obtain ⟨s0, s1, s2⟩ := hSw; go_simp; try with_reducible rfl
      try simp only [Act.put, List.getElem_toArray, List.getElem_cons_zero, List.getElem_cons_succ, List.setIfInBounds_toArray, List.set_cons_zero, List.set_cons_succ]
      refine wpAnyG_ready (rs := [16]) (by kernel_rfl) (by simp) ?_
      refine AllReadyG.cons rfl (fun K hK => ?_) AllReadyG.nil
      go_simp
      refine hK.out _ _ (.inl rfl) ?_
      clear hK K
      refine wpAnyG_ready (rs := [17]) (by kernel_rfl) (by simp) ?_
      refine AllReadyG.cons rfl (fun K hK => ?_) AllReadyG.nil
      go_simp
      refine hK.out _ _ (.inl rfl) ?_
      clear hK K lk
      have sN := (Step.refl [] W2 oi).alloc (.cells #[.int .i64 x.id, .int .i64 x.rt, .int .i64 x.si] 29) 5
      have HSN := Lib.hid (HST.out.trans sN); have HRN := Lib.hid (HR.out.step sN (by simp))
      have HN := Lib.hid (Row.made (w := W2) oi 5 29 3 #[.int .i64 x.id, .int .i64 x.rt, .int .i64 x.si] 1 rfl (by decide) 1 (Nat.le_refl _)).sl
      clear sN HST HR
      refine wpAnyG_ready (rs := [18]) (by kernel_rfl) (by simp) ?_
      refine AllReadyG.cons rfl (fun K hK => ?_) AllReadyG.nil
      refine step_append_row rfl (.tmp 37) (.tmp 54) _ rfl el_rtk _ 95 Ai i ci _ rfl HRN.out _ 5 _ 1 1 [.int .i64 x.id, .int .i64 x.rt, .int .i64 x.si] rfl HN.out (by simp [Value.oneCell']) (by omega) (by simp only [maxLen]; omega) ?_
      intro A7 c7 w7 hr7 hg7 hat7
      have HST7 := Lib.hid ((HSN.out.nil.trans (Step.append HRN.out hg7 95)).forget (ts' := []) (fun t ht _ k _ => by simp at ht; subst ht; simp))
      have HR7 := Lib.hid hr7
      clear hr7 hg7 hat7
      refine hK.out _ _ (.inl rfl) ?_
      clear hK K
      refine wpAnyG_ready (rs := [19]) (by kernel_rfl) (by simp) ?_
      refine AllReadyG.cons rfl (fun K hK => ?_) AllReadyG.nil
      go_simp
      refine hK.out _ _ (.inl rfl) ?_
      clear hK K
      refine wpAnyG_done (by kernel_rfl) ?_ _
      go_wp2_with fail
      go_roundw
      case rel => exact ⟨i + 1, A7, c7, _, by omega, by go_num, rfl, Lib.hid ⟨HST7.out, by rw [HX.out]; exact HR7.out⟩⟩
      case measure => simp [intOf]; omega
    · obtain rfl : n = i := by omega
      obtain ⟨wr, hwr⟩ : ∃ W, W = wr := ⟨_, rfl⟩
      rw [← hwr] at HJ ⊢
      clear hwr
      rw [List.take_of_length_le (by rw [HL.out]; exact Nat.le_refl _)] at HJ
      have hb5 := HJ.out.1.to_below (by simp)
      have HB5 := Lib.hid (below_then HB4.out hb5); have HP6 := Lib.hid (HP5.out.up hb5); have HT6 := Lib.hid HJ.out.2.sl.old0
      clear hb5 HJ HB4 HP5 HS5 HI5
      go_wp2_with fail
      refine (refPairs_u wr Ai n ci l t HT6.out R HRE.out E HEE.out).mono ?_
      rintro e w8 ⟨A8, c8, rfl, hb8, hp8⟩
      have HB8 := Lib.hid (below_then HB5.out hb8); have HP8 := Lib.hid (HP6.out.up hb8); have HW8 := Lib.hid hp8
      clear hb8 hp8 HB5 HP6 HT6
      have hee : (E != E) = false := by simp
      have hrr : ((R.length : Int) != (R.length : Int)) = false := by simp
      go_wp2_with fail
      go_loopw [12] (fun s wr => ∃ i : Nat, i ≤ R.length ∧ s = .int .i64 i ∧ Hid (Below w.heap.size w wr ∧ Sl wr (fun _ => 0) 0 2 A4 R.length c4 (prs R) ∧ Sl wr (fun _ => 0) 0 2 A8 R.length c8 (prs R))) (fun s _ => R.length - (intOf s).toNat)
      case atStart => exact ⟨0, Nat.zero_le _, rfl, Lib.hid ⟨HB8.out, HP8.out, HW8.out⟩⟩
      case round => as_aux_lemma =>
        obtain ⟨i, hi, rfl, HI⟩ := hrel
        by_cases hlt : i < R.length
        · obtain ⟨p, hp⟩ : ∃ p, R[i]? = some p := ⟨_, List.getElem?_eq_getElem hlt⟩
          obtain ⟨ga, oa, rfl, hga, a1, a2⟩ := HI.out.2.1.pr hp
          obtain ⟨gb, ob, rfl, hgb, b1, b2⟩ := HI.out.2.2.pr hp
          have hi1 : (i : Int) < (R.length : Int) := by omega
          have hp1 : (p.1 != p.1) = false := by simp
          have hp2 : (p.2 != p.2) = false := by simp
          have HIN : Hid (∀ q, Below w.heap.size w (wr.drewN q) ∧ Sl (wr.drewN q) (fun _ => 0) 0 2 (some ⟨ga, oa, none⟩) R.length c4 (prs R) ∧ Sl (wr.drewN q) (fun _ => 0) 0 2 (some ⟨gb, ob, none⟩) R.length c8 (prs R)) :=
            Lib.hid (fun q => ⟨below_then HI.out.1 (below_drewN' _ _), HI.out.2.1.up (below_drewN' _ _), HI.out.2.2.up (below_drewN' _ _)⟩)
          clear hp
          go_wp2_with fail
          go_quiet (fail)
          go_wp2_with fail
          go_roundw
          case rel => exact ⟨i + 1, by omega, by go_num, Lib.hid (HIN.out _)⟩
          case measure => simp [intOf]; omega
        · obtain rfl : i = R.length := by omega
          go_wp2_with fail
          go_ret
          exact ⟨rfl, HI.out.1⟩

set_option maxRecDepth 100000 in
set_option maxHeartbeats 2000000 in
theorem RatingPairs_walk (w : World) (A : Option Addr) (n c : Nat) (l : List Tk) (hS : Sl w (fun _ => 0) 0 3 A n c (tks l)) (t : Int) :
    Calls Try.prog 5 #[.slice A n c, .int .i64 t] w (SaysTo w true) := by
  have hb : n ≤ 9223372036854775807 := by have h1 := hS.2.1; have h2 := hS.2.2.1; unfold maxLen at h2; omega
  have h1 := fun (a : n ≤ 20) => pairs_any w A n c l t hS (by omega)
  have H1 := Lib.hid h1
  clear h1 hS
  by_cases c1 : 20 < n
  · have d1 : decide (20 < (n : Int)) = true := by simp; omega
    go_enter Try.func5, Try.ntmps5
    go_wp2_with fail
    refine (awake_any _).mono ?_
    rintro e w1 ⟨rfl, hb⟩
    go_wp2_with fail
    go_ret
    exact ⟨rfl, hb⟩
  · have d1 : decide (20 < (n : Int)) = false := by simp; omega
    have H2 := Lib.hid (H1.out (by omega))
    clear H1
    go_enter Try.func5, Try.ntmps5
    go_wp2_with fail
    refine H2.out.mono ?_
    rintro e w1 ⟨rfl, hb⟩
    have HB := Lib.hid hb; clear hb
    go_wp2_with fail
    refine (awake_any _).mono ?_
    rintro e w2 ⟨rfl, hb2⟩
    have HB2 := Lib.hid (below_then HB.out hb2); clear hb2
    go_wp2_with fail
    go_ret
    exact ⟨rfl, HB2.out⟩
end Go.Proofs.Ytkceefheeicmbaa
