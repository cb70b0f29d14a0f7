/-
  WALK of RatingOrder. (Printed by wip/gen/gen_order.py from wip/src/XRatBD.base.)
-/
import Derived.Test.YtkceefheeicmbaaRatBC
import Derived.Test.YtkceefheeicmbaaRatX
import Derived.Lib.QuietBelow
import Derived.BigQuiet
namespace Go.Proofs.Ytkceefheeicmbaa
open Go.RowKit Go.Sort

theorem pairsM_len (l : List Tk) (t : Int) (h : l.length ≤ 64) : (pairsM l t).length ≤ 4096 := by
  have h1 := gfold_len (sortK (mtgs t l))
  rw [gfold_all, sortK_len] at h1
  have h2 := mtgs_len t l
  have h3 : l.length * l.length ≤ 64 * 64 := Nat.mul_le_mul h h
  unfold pairsM
  omega

set_option maxRecDepth 100000 in
set_option maxHeartbeats 8000000 in
theorem RatingOrder_walk (w : World) (A : Option Addr) (n c : Nat) (l : List Tk) (hS : Sl w (fun _ => 0) 0 3 A n c (tks l)) (t m : Int) :
    Calls Try.prog 9 #[.slice A n c, .int .i64 t, .int .i64 m] w (SaysTo w true) := by
  have hl : l.length = n := by have := hS.1; rw [len_tks] at this; omega
  have hb : n ≤ c ∧ c ≤ 9223372036854775807 := by have h1 := hS.2.1; have h2 := hS.2.2.1; unfold maxLen at h2; omega
  obtain ⟨hnc, hcb⟩ := hb
  have HL := Lib.hid hl; have HS := Lib.hid hS
  clear hl hS
  go_enter Try.func9, Try.ntmps9
  go_wp2_with fail
  refine (awake_any _).mono ?_
  rintro e w1 ⟨rfl, hb1⟩
  have HB := Lib.hid hb1; have HS1 := Lib.hid (HS.out.up hb1)
  clear hb1 HS
  obtain ⟨ok, hok⟩ : ∃ ok, ok = pairsOk l t := ⟨_, rfl⟩
  cases ok
  · have hbad := Pairs_bad w1 A n c l t HS1.out hok.symm
    have HBAD := Lib.hid hbad
    clear hbad hok
    go_wp2_with fail
    refine HBAD.out.mono ?_
    rintro e w2 ⟨rfl, hb2⟩
    have HB2 := Lib.hid (below_then HB.out hb2)
    clear hb2 HBAD HB HS1
    go_wp2_with fail
    go_ret
    exact ⟨rfl, HB2.out⟩
  · have hok' := hok.symm
    obtain ⟨P, hP⟩ : ∃ P, P = pairsM l t := ⟨_, rfl⟩
    have hp := pairs0 w1 A n c l t HS1.out hok' P hP
    have hn64 : n ≤ 64 := by have := (pairsOk_iff.1 hok').1; have := HL.out; omega
    have hq : P.length ≤ 4096 := by rw [hP]; exact pairsM_len l t (pairsOk_iff.1 hok').1
    have HP := Lib.hid hp; have HPE := Lib.hid hP; have HOK := Lib.hid hok'
    clear hp hP hok hok'
    go_wp2_with fail
    refine HP.out.mono ?_
    rintro e w2 ⟨A2, c2, rfl, hb2, hp2⟩
    have HB2 := Lib.hid (below_then HB.out hb2); have HS2 := Lib.hid (HS1.out.up hb2); have HP2 := Lib.hid hp2
    clear hb2 hp2 HP HB HS1
    by_cases hn0 : n = 0
    · have d0 : ((n : Int) == 0) = true := by simp; omega
      go_wp2_with fail
      go_ret
      exact ⟨rfl, HB2.out⟩
    have d0 : ((n : Int) == 0) = false := by simp; omega
    go_wp2_with fail
    refine (Pick_any w2 m n (by omega) (by omega)).mono ?_
    rintro e w3 ⟨R, hR0, hR1, rfl, h3⟩
    subst w3
    obtain ⟨k, rfl⟩ : ∃ k : Nat, R = k := ⟨R.toNat, by omega⟩
    have hkn : k < n := by omega
    obtain ⟨x, hx⟩ : ∃ x, l[k]? = some x := ⟨_, List.getElem?_eq_getElem (by rw [HL.out]; exact hkn)⟩
    obtain ⟨g, off, rfl, -, hg, x0, x1, x2⟩ := HS2.out.tk hx
    obtain ⟨B, hB⟩ : ∃ B : Option Addr, B = if c = k + 1 then some ⟨g, off, none⟩ else some ⟨g, off + (k + 1) * 3, none⟩ := ⟨_, rfl⟩
    have hBe : k + 1 < n → B = some ⟨g, off + (k + 1) * 3, none⟩ := fun h => by rw [hB, if_neg (by omega)]
    have hkc : k ≤ c := by omega
    have hk0 : (0 : Int) ≤ (k : Int) + 1 := by omega
    have hk1 : (k : Int) + 1 ≤ (n : Int) := by omega
    have hw1 : IntKind.i64.wrap ((k : Int) + 1) = (k : Int) + 1 := IntWalk.i64_in _ (by omega)
    have htn : ((k : Int) + 1).toNat = k + 1 := by omega
    have HSZ := Lib.hid (show 1 + (k + (n - (k + 1))) = n by omega)
    have HW1 := Lib.hid hw1; have HTN := Lib.hid htn
    clear hw1 htn
    have HSA := Lib.hid (HS2.out.ahead (k := k) (by omega)); have HSB := Lib.hid (HS2.out.behind (k := k + 1) (by omega) hBe)
    have HX := Lib.hid hx; have HCB := Lib.hid hB; have HG := Lib.hid hg
    have hx0 := Lib.hid x0; have hx1 := Lib.hid x1; have hx2 := Lib.hid x2
    clear hx hB hBe d0 hn0 hg x0 x1 x2
    go_upto_region 7 with (fail)
    go_cut [10] (fun s10 wx => ∃ AF cF, s10 = .slice AF n cF ∧ Hid (Below w2.heap.size w2 wx) ∧ Hid (Sl wx (fun _ => 0) 0 3 AF n cF (tks ([x] ++ (l.take k ++ l.drop (k + 1))))))
    case first =>
      go_wp2_with fail
      have PK : OS w2 w2.drew nilT nilT := (OS.nil_ w2).drew
      obtain ⟨WW, hWW⟩ : ∃ W, W = w2.drew := ⟨_, rfl⟩
      refine wp_region_till (S0 := fun w' => Below w2.heap.size w2 w') (st := 4) (by kernel_rfl) ?_
      change wpAnyG _ _ _ _ _ _ _ _ _ (World.drew _)
      rw [← hWW] at PK ⊢
      clear hWW
      refine wpAnyG_take (i := 0) (v := ?_) rfl (by kernel_rfl) (by kernel_rfl) (by kernel_rfl) (by kernel_rfl) (fun _ _ _ h => h) (Or.inl ⟨by rfl, ?_⟩) ((.inr PK.below)) ?_
      rotate_left
      · intro w' _; go_simp; try with_reducible rfl
      try simp only [Act.put, List.getElem_toArray, List.getElem_cons_zero, List.setIfInBounds_toArray, List.set_cons_zero, List.set_cons_succ]
      refine wpAnyG_take (i := 1) (v := ?_) rfl (by kernel_rfl) (by kernel_rfl) (by kernel_rfl) (by kernel_rfl) (fun _ _ _ h => h) (Or.inl ⟨by rfl, ?_⟩) ((.inr PK.below)) ?_
      rotate_left
      · intro w' _; go_simp; try with_reducible rfl
      try simp only [Act.put, List.getElem_toArray, List.getElem_cons_zero, List.getElem_cons_succ, List.setIfInBounds_toArray, List.set_cons_zero, List.set_cons_succ]
      refine wpAnyG_take (i := 2) (v := ?_) rfl (by kernel_rfl) (by kernel_rfl) (by kernel_rfl) (by kernel_rfl) (fun _ _ _ h => h) (Or.inl ⟨by rfl, ?_⟩) ((.inr PK.below)) ?_
      rotate_left
      · intro w' _; go_simp; try with_reducible rfl
      try simp only [Act.put, List.getElem_toArray, List.getElem_cons_zero, List.getElem_cons_succ, List.setIfInBounds_toArray, List.set_cons_zero, List.set_cons_succ]
      refine wpAnyG_load (i := 3) (v := ?_) rfl rfl (by kernel_rfl) (by kernel_rfl) (by kernel_rfl) (by kernel_rfl) (by kernel_rfl) (by kernel_rfl) (fun _ _ _ h => h) (Or.inl ⟨by rfl, ?_⟩) (PK.below) ?_
      rotate_left
      · intro w' hSw; have z0 := (hSw.cell HG.out).trans hx0.out; have z1 := (hSw.cell HG.out).trans hx1.out; have z2 := (hSw.cell HG.out).trans hx2.out; go_simp; try with_reducible rfl
      try simp only [Act.put, List.getElem_toArray, List.getElem_cons_zero, List.getElem_cons_succ, List.setIfInBounds_toArray, List.set_cons_zero, List.set_cons_succ]
      have hw1 := HW1.out; have htn := HTN.out
      refine wpAnyG_take (i := 6) (v := ?_) rfl (by kernel_rfl) (by kernel_rfl) (by kernel_rfl) (by kernel_rfl) (fun _ _ _ h => h) (Or.inl ⟨by rfl, ?_⟩) ((.inr PK.below)) ?_
      rotate_left
      · intro w' _; go_simp; try with_reducible rfl
      try simp only [Act.put, List.getElem_toArray, List.getElem_cons_zero, List.getElem_cons_succ, List.setIfInBounds_toArray, List.set_cons_zero, List.set_cons_succ]
      refine wpAnyG_take (i := 7) (v := ?_) rfl (by kernel_rfl) (by kernel_rfl) (by kernel_rfl) (by kernel_rfl) (fun _ _ _ h => h) (Or.inl ⟨by rfl, ?_⟩) ((.inr PK.below)) ?_
      rotate_left
      · intro w' _; go_simp; try with_reducible rfl
      try simp only [Act.put, List.getElem_toArray, List.getElem_cons_zero, List.getElem_cons_succ, List.setIfInBounds_toArray, List.set_cons_zero, List.set_cons_succ]
      refine wpAnyG_take (i := 8) (v := ?_) rfl (by kernel_rfl) (by kernel_rfl) (by kernel_rfl) (by kernel_rfl) (fun _ _ _ h => h) (Or.inl ⟨by rfl, ?_⟩) ((.inr PK.below)) ?_
      rotate_left
      · intro w' _; go_simp; try with_reducible rfl
      try simp only [Act.put, List.getElem_toArray, List.getElem_cons_zero, List.getElem_cons_succ, List.setIfInBounds_toArray, List.set_cons_zero, List.set_cons_succ]
      refine wpAnyG_take (i := 10) (v := ?_) rfl (by kernel_rfl) (by kernel_rfl) (by kernel_rfl) (by kernel_rfl) (fun _ _ _ h => h) (Or.inl ⟨by rfl, ?_⟩) ((.inr PK.below)) ?_
      rotate_left
      · intro w' _; go_simp; try with_reducible rfl
      try simp only [Act.put, List.getElem_toArray, List.getElem_cons_zero, List.getElem_cons_succ, List.setIfInBounds_toArray, List.set_cons_zero, List.set_cons_succ]
      refine wpAnyG_take (i := 11) (v := ?_) rfl (by kernel_rfl) (by kernel_rfl) (by kernel_rfl) (by kernel_rfl) (fun _ _ _ h => h) (Or.inl ⟨by rfl, ?_⟩) ((.inr PK.below)) ?_
      rotate_left
      · intro w' _; go_simp; try with_reducible rfl
      try simp only [Act.put, List.getElem_toArray, List.getElem_cons_zero, List.getElem_cons_succ, List.setIfInBounds_toArray, List.set_cons_zero, List.set_cons_succ]
      refine wpAnyG_take (i := 12) (v := ?_) rfl (by kernel_rfl) (by kernel_rfl) (by kernel_rfl) (by kernel_rfl) (fun _ _ _ h => h) (Or.inl ⟨by rfl, ?_⟩) ((.inr PK.below)) ?_
      rotate_left
      · intro w' _; go_simp; try with_reducible rfl
      try simp only [Act.put, List.getElem_toArray, List.getElem_cons_zero, List.getElem_cons_succ, List.setIfInBounds_toArray, List.set_cons_zero, List.set_cons_succ]
      refine wpAnyG_take (i := 13) (v := .slice B (n - (k + 1)) (c - (k + 1))) rfl (by kernel_rfl) (by kernel_rfl) (by kernel_rfl) (by kernel_rfl) (fun _ _ _ h => h) (Or.inl ⟨by rfl, ?_⟩) (.inr PK.below) ?_
      · intro w' _; go_simp; rw [HCB.out]
      try simp only [Act.put, List.getElem_toArray, List.getElem_cons_zero, List.getElem_cons_succ, List.setIfInBounds_toArray, List.set_cons_zero, List.set_cons_succ]
      clear hw1 htn
      refine wpAnyG_ready (rs := [4, 5]) (by kernel_rfl) (by simp) ?_
      refine AllReadyG.cons rfl (fun K hK => ?_) ?_
      · skip
        go_simp
        have PK := PK.f x
        refine hK.out _ _ (.inl rfl) ?_
        clear hK K
        obtain ⟨gF, hgF⟩ : ∃ g, g = WW.heap.size := ⟨_, rfl⟩
        rw [← hgF] at PK ⊢
        obtain ⟨WW, hWW⟩ : ∃ W, W = WW.alloc (.cells (tC x) 24) := ⟨_, rfl⟩
        rw [← hWW] at PK ⊢
        clear hgF hWW
        refine wpAnyG_ready (rs := [5]) (by kernel_rfl) (by simp) ?_
        refine AllReadyG.cons rfl (fun K hK => ?_) AllReadyG.nil
        go_simp
        have PK := PK.e
        refine hK.out _ _ (.inl rfl) ?_
        clear hK K
        obtain ⟨gE, hgE⟩ : ∃ g, g = WW.heap.size := ⟨_, rfl⟩
        rw [← hgE] at PK ⊢
        obtain ⟨WW, hWW⟩ : ∃ W, W = WW.alloc (.cells #[] 24) := ⟨_, rfl⟩
        rw [← hWW] at PK ⊢
        clear hgE hWW
        refine wpAnyG_ready (rs := [9]) (by kernel_rfl) (by simp) ?_
        refine AllReadyG.cons rfl (fun K hK => ?_) AllReadyG.nil
        have hs := (HSA.out.up PK.below)
        obtain ⟨o, p1, p2, p3⟩ := PK
        refine step_append_row rfl (.tmp 43) (.tmp 46) _ rfl el_tk o 51 (some ⟨gE, 0, none⟩) 0 0 (tks []) rfl p3 (fun _ => 0) 0 (some ⟨g, off, none⟩) k c (tks (l.take k)) rfl hs (one_tks _) (by omega) (by simp only [maxLen]; omega) ?_
        intro A1 c1 WN hr hg hat
        have PK := OS.grow p1 p2 p3 hr hg
        simp only [Nat.zero_add, List.nil_append] at PK ⊢
        clear hr hg hat p1 p2 p3 hs
        refine hK.out _ _ (.inl rfl) ?_
        clear hK K
        obtain ⟨WW, hWW⟩ : ∃ W, W = WN := ⟨_, rfl⟩
        rw [← hWW] at PK ⊢
        clear hWW
        refine wpAnyG_ready (rs := [14]) (by kernel_rfl) (by simp) ?_
        refine AllReadyG.cons rfl (fun K hK => ?_) AllReadyG.nil
        have hs := (HSB.out.up PK.below)
        obtain ⟨o, p1, p2, p3⟩ := PK
        refine step_append_row rfl (.tmp 47) (.tmp 51) _ rfl el_tk o 51 A1 k c1 (tks (l.take k)) rfl p3 (fun _ => 0) 0 B (n - (k + 1)) (c - (k + 1)) (tks (l.drop (k + 1))) rfl hs (one_tks _) (by omega) (by simp only [maxLen]; omega) ?_
        intro A3 c3 WN hr hg hat
        have PK := OS.grow p1 p2 p3 hr hg
        clear hr hg hat p1 p2 p3 hs
        refine hK.out _ _ (.inl rfl) ?_
        clear hK K
        obtain ⟨WW, hWW⟩ : ∃ W, W = WN := ⟨_, rfl⟩
        rw [← hWW] at PK ⊢
        clear hWW
        refine wpAnyG_ready (rs := [15]) (by kernel_rfl) (by simp) ?_
        refine AllReadyG.cons rfl (fun K hK => ?_) AllReadyG.nil
        obtain ⟨o, p1, p2, p3⟩ := PK
        refine step_append_row rfl (.tmp 42) (.tmp 52) _ rfl el_tk o 52 (some ⟨gF, 0, none⟩) 1 1 (tks [x]) rfl p2 o 51 A3 (k + (n - (k + 1))) c3 (tks (l.take k ++ l.drop (k + 1))) rfl p3.sl (one_tks _) (by omega) (by simp only [maxLen]; omega) ?_
        intro A5 c5 W5 hr hg hat
        obtain ⟨hb5, hs5⟩ := OS.last p1 p2 hr hg
        have HB5 := Lib.hid hb5; have HS5 := Lib.hid hs5
        clear hr hg hat p1 p2 p3 hb5 hs5
        refine hK.out _ _ (.inl rfl) ?_
        clear hK K
        refine wpAnyG_ready (rs := [16]) (by kernel_rfl) (by simp) ?_
        refine AllReadyG.cons rfl (fun K hK => ?_) AllReadyG.nil
        go_simp
        refine hK.out _ _ (.inl rfl) ?_
        clear hK K
        refine wpAnyG_done (by kernel_rfl) ?_ _
        go_wp2_with fail
        go_meet
        exact ⟨A5, c5, by rw [HSZ.out], HB5, Lib.hid (by have := HS5.out; rwa [HSZ.out] at this)⟩
      refine AllReadyG.cons rfl (fun K hK => ?_) AllReadyG.nil
      go_simp
      have PK := PK.e
      refine hK.out _ _ (.inr PK.below) ?_
      clear hK K
      obtain ⟨gE, hgE⟩ : ∃ g, g = WW.heap.size := ⟨_, rfl⟩
      rw [← hgE] at PK ⊢
      obtain ⟨WW, hWW⟩ : ∃ W, W = WW.alloc (.cells #[] 24) := ⟨_, rfl⟩
      rw [← hWW] at PK ⊢
      clear hgE hWW
      refine wpAnyG_ready (rs := [4, 9]) (by kernel_rfl) (by simp) ?_
      refine AllReadyG.cons rfl (fun K hK => ?_) ?_
      · skip
        go_simp
        have PK := PK.f x
        refine hK.out _ _ (.inl rfl) ?_
        clear hK K
        obtain ⟨gF, hgF⟩ : ∃ g, g = WW.heap.size := ⟨_, rfl⟩
        rw [← hgF] at PK ⊢
        obtain ⟨WW, hWW⟩ : ∃ W, W = WW.alloc (.cells (tC x) 24) := ⟨_, rfl⟩
        rw [← hWW] at PK ⊢
        clear hgF hWW
        refine wpAnyG_ready (rs := [9]) (by kernel_rfl) (by simp) ?_
        refine AllReadyG.cons rfl (fun K hK => ?_) AllReadyG.nil
        have hs := (HSA.out.up PK.below)
        obtain ⟨o, p1, p2, p3⟩ := PK
        refine step_append_row rfl (.tmp 43) (.tmp 46) _ rfl el_tk o 51 (some ⟨gE, 0, none⟩) 0 0 (tks []) rfl p3 (fun _ => 0) 0 (some ⟨g, off, none⟩) k c (tks (l.take k)) rfl hs (one_tks _) (by omega) (by simp only [maxLen]; omega) ?_
        intro A1 c1 WN hr hg hat
        have PK := OS.grow p1 p2 p3 hr hg
        simp only [Nat.zero_add, List.nil_append] at PK ⊢
        clear hr hg hat p1 p2 p3 hs
        refine hK.out _ _ (.inl rfl) ?_
        clear hK K
        obtain ⟨WW, hWW⟩ : ∃ W, W = WN := ⟨_, rfl⟩
        rw [← hWW] at PK ⊢
        clear hWW
        refine wpAnyG_ready (rs := [14]) (by kernel_rfl) (by simp) ?_
        refine AllReadyG.cons rfl (fun K hK => ?_) AllReadyG.nil
        have hs := (HSB.out.up PK.below)
        obtain ⟨o, p1, p2, p3⟩ := PK
        refine step_append_row rfl (.tmp 47) (.tmp 51) _ rfl el_tk o 51 A1 k c1 (tks (l.take k)) rfl p3 (fun _ => 0) 0 B (n - (k + 1)) (c - (k + 1)) (tks (l.drop (k + 1))) rfl hs (one_tks _) (by omega) (by simp only [maxLen]; omega) ?_
        intro A3 c3 WN hr hg hat
        have PK := OS.grow p1 p2 p3 hr hg
        clear hr hg hat p1 p2 p3 hs
        refine hK.out _ _ (.inl rfl) ?_
        clear hK K
        obtain ⟨WW, hWW⟩ : ∃ W, W = WN := ⟨_, rfl⟩
        rw [← hWW] at PK ⊢
        clear hWW
        refine wpAnyG_ready (rs := [15]) (by kernel_rfl) (by simp) ?_
        refine AllReadyG.cons rfl (fun K hK => ?_) AllReadyG.nil
        obtain ⟨o, p1, p2, p3⟩ := PK
        refine step_append_row rfl (.tmp 42) (.tmp 52) _ rfl el_tk o 52 (some ⟨gF, 0, none⟩) 1 1 (tks [x]) rfl p2 o 51 A3 (k + (n - (k + 1))) c3 (tks (l.take k ++ l.drop (k + 1))) rfl p3.sl (one_tks _) (by omega) (by simp only [maxLen]; omega) ?_
        intro A5 c5 W5 hr hg hat
        obtain ⟨hb5, hs5⟩ := OS.last p1 p2 hr hg
        have HB5 := Lib.hid hb5; have HS5 := Lib.hid hs5
        clear hr hg hat p1 p2 p3 hb5 hs5
        refine hK.out _ _ (.inl rfl) ?_
        clear hK K
        refine wpAnyG_ready (rs := [16]) (by kernel_rfl) (by simp) ?_
        refine AllReadyG.cons rfl (fun K hK => ?_) AllReadyG.nil
        go_simp
        refine hK.out _ _ (.inl rfl) ?_
        clear hK K
        refine wpAnyG_done (by kernel_rfl) ?_ _
        go_wp2_with fail
        go_meet
        exact ⟨A5, c5, by rw [HSZ.out], HB5, Lib.hid (by have := HS5.out; rwa [HSZ.out] at this)⟩
      refine AllReadyG.cons rfl (fun K hK => ?_) AllReadyG.nil
      have hs := (HSA.out.up PK.below)
      obtain ⟨o, p1, p2, p3⟩ := PK
      refine step_append_row rfl (.tmp 43) (.tmp 46) _ rfl el_tk o 51 (some ⟨gE, 0, none⟩) 0 0 (tks []) rfl p3 (fun _ => 0) 0 (some ⟨g, off, none⟩) k c (tks (l.take k)) rfl hs (one_tks _) (by omega) (by simp only [maxLen]; omega) ?_
      intro A1 c1 WN hr hg hat
      have PK := OS.grow p1 p2 p3 hr hg
      simp only [Nat.zero_add, List.nil_append] at PK ⊢
      clear hr hg hat p1 p2 p3 hs
      refine hK.out _ _ (.inr PK.below) ?_
      clear hK K
      obtain ⟨WW, hWW⟩ : ∃ W, W = WN := ⟨_, rfl⟩
      rw [← hWW] at PK ⊢
      clear hWW
      refine wpAnyG_ready (rs := [4, 14]) (by kernel_rfl) (by simp) ?_
      refine AllReadyG.cons rfl (fun K hK => ?_) ?_
      · skip
        go_simp
        have PK := PK.f x
        refine hK.out _ _ (.inl rfl) ?_
        clear hK K
        obtain ⟨gF, hgF⟩ : ∃ g, g = WW.heap.size := ⟨_, rfl⟩
        rw [← hgF] at PK ⊢
        obtain ⟨WW, hWW⟩ : ∃ W, W = WW.alloc (.cells (tC x) 24) := ⟨_, rfl⟩
        rw [← hWW] at PK ⊢
        clear hgF hWW
        refine wpAnyG_ready (rs := [14]) (by kernel_rfl) (by simp) ?_
        refine AllReadyG.cons rfl (fun K hK => ?_) AllReadyG.nil
        have hs := (HSB.out.up PK.below)
        obtain ⟨o, p1, p2, p3⟩ := PK
        refine step_append_row rfl (.tmp 47) (.tmp 51) _ rfl el_tk o 51 A1 k c1 (tks (l.take k)) rfl p3 (fun _ => 0) 0 B (n - (k + 1)) (c - (k + 1)) (tks (l.drop (k + 1))) rfl hs (one_tks _) (by omega) (by simp only [maxLen]; omega) ?_
        intro A3 c3 WN hr hg hat
        have PK := OS.grow p1 p2 p3 hr hg
        clear hr hg hat p1 p2 p3 hs
        refine hK.out _ _ (.inl rfl) ?_
        clear hK K
        obtain ⟨WW, hWW⟩ : ∃ W, W = WN := ⟨_, rfl⟩
        rw [← hWW] at PK ⊢
        clear hWW
        refine wpAnyG_ready (rs := [15]) (by kernel_rfl) (by simp) ?_
        refine AllReadyG.cons rfl (fun K hK => ?_) AllReadyG.nil
        obtain ⟨o, p1, p2, p3⟩ := PK
        refine step_append_row rfl (.tmp 42) (.tmp 52) _ rfl el_tk o 52 (some ⟨gF, 0, none⟩) 1 1 (tks [x]) rfl p2 o 51 A3 (k + (n - (k + 1))) c3 (tks (l.take k ++ l.drop (k + 1))) rfl p3.sl (one_tks _) (by omega) (by simp only [maxLen]; omega) ?_
        intro A5 c5 W5 hr hg hat
        obtain ⟨hb5, hs5⟩ := OS.last p1 p2 hr hg
        have HB5 := Lib.hid hb5; have HS5 := Lib.hid hs5
        clear hr hg hat p1 p2 p3 hb5 hs5
        refine hK.out _ _ (.inl rfl) ?_
        clear hK K
        refine wpAnyG_ready (rs := [16]) (by kernel_rfl) (by simp) ?_
        refine AllReadyG.cons rfl (fun K hK => ?_) AllReadyG.nil
        go_simp
        refine hK.out _ _ (.inl rfl) ?_
        clear hK K
        refine wpAnyG_done (by kernel_rfl) ?_ _
        go_wp2_with fail
        go_meet
        exact ⟨A5, c5, by rw [HSZ.out], HB5, Lib.hid (by have := HS5.out; rwa [HSZ.out] at this)⟩
      refine AllReadyG.cons rfl (fun K hK => ?_) AllReadyG.nil
      have hs := (HSB.out.up PK.below)
      obtain ⟨o, p1, p2, p3⟩ := PK
      refine step_append_row rfl (.tmp 47) (.tmp 51) _ rfl el_tk o 51 A1 k c1 (tks (l.take k)) rfl p3 (fun _ => 0) 0 B (n - (k + 1)) (c - (k + 1)) (tks (l.drop (k + 1))) rfl hs (one_tks _) (by omega) (by simp only [maxLen]; omega) ?_
      intro A3 c3 WN hr hg hat
      have PK := OS.grow p1 p2 p3 hr hg
      clear hr hg hat p1 p2 p3 hs
      refine hK.out _ _ (.inr PK.below) ?_
      clear hK K
      obtain ⟨WW, hWW⟩ : ∃ W, W = WN := ⟨_, rfl⟩
      rw [← hWW] at PK ⊢
      clear hWW
      refine wpAnyG_ready (rs := [4]) (by kernel_rfl) (by simp) ?_
      refine AllReadyG.cons rfl (fun K hK => ?_) AllReadyG.nil
      go_simp
      have PK := PK.f x
      refine hK.out _ _ (.inl rfl) ?_
      clear hK K
      obtain ⟨gF, hgF⟩ : ∃ g, g = WW.heap.size := ⟨_, rfl⟩
      rw [← hgF] at PK ⊢
      obtain ⟨WW, hWW⟩ : ∃ W, W = WW.alloc (.cells (tC x) 24) := ⟨_, rfl⟩
      rw [← hWW] at PK ⊢
      clear hgF hWW
      refine wpAnyG_ready (rs := [15]) (by kernel_rfl) (by simp) ?_
      refine AllReadyG.cons rfl (fun K hK => ?_) AllReadyG.nil
      obtain ⟨o, p1, p2, p3⟩ := PK
      refine step_append_row rfl (.tmp 42) (.tmp 52) _ rfl el_tk o 52 (some ⟨gF, 0, none⟩) 1 1 (tks [x]) rfl p2 o 51 A3 (k + (n - (k + 1))) c3 (tks (l.take k ++ l.drop (k + 1))) rfl p3.sl (one_tks _) (by omega) (by simp only [maxLen]; omega) ?_
      intro A5 c5 W5 hr hg hat
      obtain ⟨hb5, hs5⟩ := OS.last p1 p2 hr hg
      have HB5 := Lib.hid hb5; have HS5 := Lib.hid hs5
      clear hr hg hat p1 p2 p3 hb5 hs5
      refine hK.out _ _ (.inl rfl) ?_
      clear hK K
      refine wpAnyG_ready (rs := [16]) (by kernel_rfl) (by simp) ?_
      refine AllReadyG.cons rfl (fun K hK => ?_) AllReadyG.nil
      go_simp
      refine hK.out _ _ (.inl rfl) ?_
      clear hK K
      refine wpAnyG_done (by kernel_rfl) ?_ _
      go_wp2_with fail
      go_meet
      exact ⟨A5, c5, by rw [HSZ.out], HB5, Lib.hid (by have := HS5.out; rwa [HSZ.out] at this)⟩
    case rest => as_aux_lemma =>
      obtain ⟨AF, cF, rfl, HBF, HSF⟩ := hcut
      clear hx0 hx1 hx2
      obtain ⟨gF, oF, rfl, -, hgF, -⟩ := HSF.out.2.2.2 (by omega)
      have hcF : n ≤ cF ∧ cF ≤ 9223372036854775807 := by have h1 := HSF.out.2.1; have h2 := HSF.out.2.2.1; unfold maxLen at h2; omega
      obtain ⟨hcF1, hcF2⟩ := hcF
      have hfo := front_ok HX.out HOK.out
      have hf1 := pairs0 _ (some ⟨gF, oF, none⟩) n cF (frontT l k x) t HSF.out hfo.1 P (by rw [front_pairs HX.out]; exact HPE.out)
      have HF1 := Lib.hid hf1; have HFO := Lib.hid hfo.2
      clear hf1 hfo hgF
      go_wp2_with fail
      refine HF1.out.mono ?_
      rintro e w4 ⟨A4, c4, rfl, hb4, hp4⟩
      have HB4 := Lib.hid (below_then HBF.out hb4); have HSF4 := Lib.hid (HSF.out.up hb4); have HP4 := Lib.hid hp4
      clear hb4 hp4 HF1 HBF HSF
      obtain ⟨BF, hBF, hBFe⟩ := run_tail Try.prog 34 24 _ 3 24 Try.underlying34 el_tk.info gF oF n cF 1 (by omega) hcF1
      rw [show ((1 : Nat) : Int) = 1 from rfl] at hBF
      have HBFE := Lib.hid hBFe
      clear hBFe
      obtain ⟨Q, hQ⟩ : ∃ Q, Q = pairsM (l.take k ++ l.drop (k + 1)) t := ⟨_, rfl⟩
      have hsl := HSF4.out.behind (k := 1) (by omega) HBFE.out
      rw [show List.drop 1 ([x] ++ (l.take k ++ l.drop (k + 1))) = l.take k ++ l.drop (k + 1) from rfl] at hsl
      have hf2 := pairs0 w4 BF (n - 1) (cF - 1) _ t hsl HFO.out Q hQ
      have HF2 := Lib.hid hf2; have HQ := Lib.hid hQ
      clear hsl hf2 hQ HFO HBFE HSF4
      have hQl : Q.length ≤ 4096 := by rw [HQ.out]; exact pairsM_len _ t (by have := HL.out; rw [List.length_append, List.length_take, List.length_drop]; omega)
      go_wp2_with fail
      refine HF2.out.mono ?_
      rintro e w5 ⟨A5, c5, rfl, hb5, hp5⟩
      have HB5 := Lib.hid (below_then HB4.out hb5); have HP5 := Lib.hid (HP4.out.up hb5); have HQ5 := Lib.hid hp5
      clear hb5 hp5 HF2 HB4 HP4 hBF
      have HX5 := Lib.hid (HS2.out.up HB5.out); have HP6 := Lib.hid (HP2.out.up HB5.out); have HBW := Lib.hid (below_then HB2.out HB5.out)
      clear HS2 HP2 HB2 HB5
      have okx := okT_iff.1 ((pairsOk_iff.1 HOK.out).2.2.2.1 x (List.mem_of_getElem? HX.out))
      obtain ⟨ox1, ox2, ox3, ox4, ox5, ox6⟩ := okx
      go_wp2_with fail
      go_loopw [16, 15, 17] (fun s a _ wr => ∃ (i : Nat) (al : Bool), i ≤ n ∧ s = .int .i64 i ∧ a = .bool al ∧ Hid (al = aloneTo l t x k i) ∧ Hid (Below w5.heap.size w5 wr)) (fun s _ _ _ => n - (intOf s).toNat)
      case atStart => exact ⟨0, true, Nat.zero_le _, rfl, rfl, Lib.hid rfl, Lib.hid (Below.refl _ _)⟩
      case round => as_aux_lemma =>
        obtain ⟨i, al, hi, rfl, rfl, HAL, HI⟩ := hrel
        by_cases hlt : i < n
        · obtain ⟨y, hy⟩ : ∃ y, l[i]? = some y := ⟨_, List.getElem?_eq_getElem (by rw [HL.out]; exact hlt)⟩
          have oky := okT_iff.1 ((pairsOk_iff.1 HOK.out).2.2.2.1 y (List.mem_of_getElem? hy))
          obtain ⟨oy1, oy2, oy3, oy4, oy5, oy6⟩ := oky
          obtain ⟨g', off', hgg, -, -, ca, cb, cc⟩ := (HX5.out.up HI.out).tk hy
          injection hgg with hgg; injection hgg with hg1 hg2; subst hg1 hg2
          obtain ⟨g', off', hgg, -, -, cd, ce, cf⟩ := (HX5.out.up HI.out).tk HX.out
          injection hgg with hgg; injection hgg with hg1 hg2; subst hg1 hg2
          obtain ⟨D, hD⟩ : ∃ D, D = diffT y x := ⟨_, rfl⟩
          have hDb : 0 ≤ D ∧ D ≤ 4000 := by rw [hD]; unfold diffT; omega
          obtain ⟨hD0, hD1⟩ := hDb
          have hsn := aloneTo_snoc (t := t) (x := x) (k := k) hy
          have hmay : mayT t y x = (decide (D ≤ winM y.si t) && decide (D ≤ winM x.si t)) := by
            rw [Bool.eq_iff_iff, mayT_iff, Bool.and_eq_true, decide_eq_true_eq, decide_eq_true_eq, hD]
          obtain ⟨WY, hWY⟩ : ∃ W, W = winM y.si t := ⟨_, rfl⟩
          obtain ⟨WX, hWX⟩ : ∃ W, W = winM x.si t := ⟨_, rfl⟩
          rw [← hWY, ← hWX] at hmay
          have cdiff : ∀ dd os, Calls Try.prog 27 #[.agg #[.int .i64 y.id, .int .i64 y.rt, .int .i64 y.si], .agg #[.int .i64 x.id, .int .i64 x.rt, .int .i64 x.si]] (grow (redrawn wr dd) os) fun e w'' => e = .returned (.int .i64 D) ∧ ∃ p : Regrown, w'' = grow (redrawn wr p.d) p.os :=
            fun dd os => Calls.regrown_of (difference_any _ y x D hD ⟨oy3, oy4⟩ ⟨ox3, ox4⟩)
          have cwy := fun W => Window_any W y.id y.rt y.si t WY hWY
          have cwx := fun W => Window_any W x.id x.rt x.si t WX hWX
          rw [hmay] at hsn
          have HCD := Lib.hid cdiff; have HCY := Lib.hid cwy; have HCX := Lib.hid cwx; have HSN := Lib.hid hsn
          clear cdiff cwy cwx hsn hmay hD hWY hWX hy
          have hi1 : (i : Int) < (n : Int) := by omega
          have hi2 : (k : Int) < (n : Int) := by omega
          go_wp2_with fail
          refine wp_region_quiet_below (by kernel_rfl) (by kernel_rfl) ?_
          have v1 := cell_regrown ca; have v2 := cell_regrown cb; have v3 := cell_regrown cc; have v4 := cell_regrown cd; have v5 := cell_regrown ce; have v6 := cell_regrown cf
          repeat (go_big_quiet_step (with_reducible exact HCD.out _ _))
          refine wpQuiet_nil ?_
          intro wz hw'
          obtain ⟨⟨dq, osq⟩, hw''⟩ := hw'
          have hbq := below_regrown wr dq osq
          obtain ⟨w9, hw9⟩ : ∃ w9, w9 = grow (redrawn wr dq) osq := ⟨_, rfl⟩
          rw [← hw9] at hbq
          have hw10 := hw''.trans hw9.symm
          subst hw10
          clear v1 v2 v3 v4 v5 v6 hw'' hw9
          have HIZ := Lib.hid (below_then HI.out hbq)
          have u1 := cell_up hbq ca; have u2 := cell_up hbq cb; have u3 := cell_up hbq cc; have u4 := cell_up hbq cd; have u5 := cell_up hbq ce; have u6 := cell_up hbq cf
          clear hbq ca cb cc cd ce cf HCD
          by_cases hik : i = k
          · have d1 : ((i : Int) != (k : Int)) = false := by simp [hik]
            have hal : aloneTo l t x k (i + 1) = al := by rw [HSN.out, hik, decide_eq_true rfl, Bool.true_or, Bool.and_true, HAL.out, hik]
            have HA2 := Lib.hid hal.symm
            clear hal hik
            go_wp2_with fail
            go_roundw
            case rel => exact ⟨i + 1, al, by omega, by go_num, rfl, HA2, HIZ⟩
            case measure => simp [intOf]; omega
          · have d1 : ((i : Int) != (k : Int)) = true := by simp; omega
            have d0 : decide (i = k) = false := by simp [hik]
            clear hik
            by_cases h1 : D ≤ WY
            · have d2 : decide (D ≤ WY) = true := by simpa using h1
              by_cases h2 : D ≤ WX
              · have d3 : decide (D ≤ WX) = true := by simpa using h2
                have HA2 : Hid (false = aloneTo l t x k (i + 1)) := Lib.hid (by rw [HSN.out, d0, d2, d3]; simp)
                clear h1 h2 d0
                go_wp2_with fail
                refine (HCY.out _).mono ?_
                rintro e wa ⟨rfl, hba⟩
                have y4 := cell_up hba u4; have y5 := cell_up hba u5; have y6 := cell_up hba u6
                have HIA := Lib.hid (below_then HIZ.out hba)
                clear hba u1 u2 u3 u4 u5 u6
                go_wp2_with fail
                refine (HCX.out _).mono ?_
                rintro e wb ⟨rfl, hbb⟩
                have HIB := Lib.hid (below_then HIA.out hbb)
                clear hbb y4 y5 y6
                go_wp2_with fail
                go_roundw
                case rel => exact ⟨i + 1, false, by omega, by go_num, rfl, HA2, HIB⟩
                case measure => simp [intOf]; omega
              · have d3 : decide (D ≤ WX) = false := by simpa using h2
                have HA2 : Hid (al = aloneTo l t x k (i + 1)) := Lib.hid (by rw [HSN.out, d0, d2, d3, HAL.out]; simp)
                clear h1 h2 d0
                go_wp2_with fail
                refine (HCY.out _).mono ?_
                rintro e wa ⟨rfl, hba⟩
                have y4 := cell_up hba u4; have y5 := cell_up hba u5; have y6 := cell_up hba u6
                have HIA := Lib.hid (below_then HIZ.out hba)
                clear hba u1 u2 u3 u4 u5 u6
                go_wp2_with fail
                refine (HCX.out _).mono ?_
                rintro e wb ⟨rfl, hbb⟩
                have HIB := Lib.hid (below_then HIA.out hbb)
                clear hbb y4 y5 y6
                go_wp2_with fail
                go_roundw
                case rel => exact ⟨i + 1, al, by omega, by go_num, rfl, HA2, HIB⟩
                case measure => simp [intOf]; omega
            · have d2 : decide (D ≤ WY) = false := by simpa using h1
              have HA2 : Hid (al = aloneTo l t x k (i + 1)) := Lib.hid (by rw [HSN.out, d0, d2, HAL.out]; simp)
              clear h1 d0
              go_wp2_with fail
              refine (HCY.out _).mono ?_
              rintro e wa ⟨rfl, hba⟩
              have HIA := Lib.hid (below_then HIZ.out hba)
              clear hba u1 u2 u3 u4 u5 u6
              go_wp2_with fail
              go_roundw
              case rel => exact ⟨i + 1, al, by omega, by go_num, rfl, HA2, HIA⟩
              case measure => simp [intOf]; omega
        · obtain rfl : n = i := by omega
          have HOUT := Lib.hid (HP6.out.up HI.out); have HAG := Lib.hid (HP5.out.up HI.out); have HLE := Lib.hid (HQ5.out.up HI.out); have HBI := Lib.hid (below_then HBW.out HI.out)
          have hal : al = true → Q = P := fun h => by
            rw [HQ.out, HPE.out]
            exact front_alone HX.out (fun j y hj hjk => aloneTo_get (by rw [← HAL.out]; exact h) j y (by have := (List.getElem?_eq_some_iff.1 hj).1; have := HL.out; omega) hj hjk)
          have HALN := Lib.hid hal
          clear hal HX5 HP6 HP5 HQ5 HBW HI HAL
          have d1 : ((P.length : Int) != (P.length : Int)) = false := by simp
          cases al
          · go_wp2_with fail
            go_loopw [18] (fun s wr => ∃ i : Nat, i ≤ P.length ∧ s = .int .i64 i ∧ Hid (Below w5.heap.size w5 w5 ∧ Below w.heap.size w wr ∧ Sl wr (fun _ => 0) 0 2 A2 P.length c2 (prs P) ∧ Sl wr (fun _ => 0) 0 2 A4 P.length c4 (prs P))) (fun s _ => P.length - (intOf s).toNat)
            case atStart => exact ⟨0, Nat.zero_le _, rfl, Lib.hid ⟨Below.refl _ _, HBI.out, HOUT.out, HAG.out⟩⟩
            case round => as_aux_lemma =>
              obtain ⟨i, hi, rfl, HI⟩ := hrel
              by_cases hlt : i < P.length
              · obtain ⟨p, hp⟩ : ∃ p, P[i]? = some p := ⟨_, List.getElem?_eq_getElem hlt⟩
                obtain ⟨ga, oa, rfl, hga, a1, a2⟩ := HI.out.2.2.1.pr hp
                obtain ⟨gb, ob, rfl, hgb, b1, b2⟩ := HI.out.2.2.2.pr hp
                have hi1 : (i : Int) < (P.length : Int) := by omega
                have HIN : Hid (∀ q, Below w.heap.size w (wr.drewN q) ∧ Sl (wr.drewN q) (fun _ => 0) 0 2 (some ⟨ga, oa, none⟩) P.length c2 (prs P) ∧ Sl (wr.drewN q) (fun _ => 0) 0 2 (some ⟨gb, ob, none⟩) P.length c4 (prs P)) :=
                  Lib.hid (fun q => ⟨below_then HI.out.2.1 (below_drewN' _ _), HI.out.2.2.1.up (below_drewN' _ _), HI.out.2.2.2.up (below_drewN' _ _)⟩)
                clear hp
                go_wp2_with fail
                go_quiet (fail)
                go_wp2_with fail
                go_roundw
                case rel => exact ⟨i + 1, by omega, by go_num, Lib.hid ⟨Below.refl _ _, HIN.out _⟩⟩
                case measure => simp [intOf]; omega
              · obtain rfl : i = P.length := by omega
                go_wp2_with fail
                go_ret
                exact ⟨rfl, HI.out.2.1⟩
          · obtain rfl : Q = P := HALN.out rfl
            go_wp2_with fail
            go_loopw [18] (fun s wr => ∃ i : Nat, i ≤ Q.length ∧ s = .int .i64 i ∧ Hid (Sl wr (fun _ => 0) 0 2 A5 Q.length c5 (prs Q) ∧ Below w.heap.size w wr ∧ Sl wr (fun _ => 0) 0 2 A2 Q.length c2 (prs Q) ∧ Sl wr (fun _ => 0) 0 2 A4 Q.length c4 (prs Q))) (fun s _ => Q.length - (intOf s).toNat)
            case atStart => exact ⟨0, Nat.zero_le _, rfl, Lib.hid ⟨HLE.out, HBI.out, HOUT.out, HAG.out⟩⟩
            case round => as_aux_lemma =>
              obtain ⟨i, hi, rfl, HI⟩ := hrel
              by_cases hlt : i < Q.length
              · obtain ⟨p, hp⟩ : ∃ p, Q[i]? = some p := ⟨_, List.getElem?_eq_getElem hlt⟩
                obtain ⟨ga, oa, rfl, hga, a1, a2⟩ := HI.out.2.2.1.pr hp
                obtain ⟨gb, ob, rfl, hgb, b1, b2⟩ := HI.out.2.2.2.pr hp
                obtain ⟨gc, oc, rfl, hgc, c1', c2'⟩ := HI.out.1.pr hp
                have hi1 : (i : Int) < (Q.length : Int) := by omega
                have HIN : Hid (∀ q, Sl (wr.drewN q) (fun _ => 0) 0 2 (some ⟨gc, oc, none⟩) Q.length c5 (prs Q) ∧ Below w.heap.size w (wr.drewN q) ∧ Sl (wr.drewN q) (fun _ => 0) 0 2 (some ⟨ga, oa, none⟩) Q.length c2 (prs Q) ∧ Sl (wr.drewN q) (fun _ => 0) 0 2 (some ⟨gb, ob, none⟩) Q.length c4 (prs Q)) :=
                  Lib.hid (fun q => ⟨HI.out.1.up (below_drewN' _ _), below_then HI.out.2.1 (below_drewN' _ _), HI.out.2.2.1.up (below_drewN' _ _), HI.out.2.2.2.up (below_drewN' _ _)⟩)
                clear hp
                go_wp2_with fail
                go_quiet (fail)
                go_wp2_with fail
                go_roundw
                case rel => exact ⟨i + 1, by omega, by go_num, Lib.hid (HIN.out _)⟩
                case measure => simp [intOf]; omega
              · obtain rfl : i = Q.length := by omega
                go_wp2_with fail
                go_ret
                exact ⟨rfl, HI.out.2.1⟩
end Go.Proofs.Ytkceefheeicmbaa
