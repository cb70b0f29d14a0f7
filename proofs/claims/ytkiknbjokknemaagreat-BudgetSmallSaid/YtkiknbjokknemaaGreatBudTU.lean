/-
  ROWS of structs; WALKS of items and same.
-/
import Derived.Test.YtkiknbjokknemaaGreatBudTD
import Derived.Test.YtkiknbjokknemaaGreatBudN
import Derived.Test.YtkiknbjokknemaaGreatKitF
import Derived.Lib.QuietBelow
namespace Go.Proofs.YtkiknbjokknemaaGreat
open Go.RowKit

theorem Row.setG {w : World} {o : Own} {τ : Nat} {e : TypeId} {sz h n c k : Nat} {xs : List Value} (hR : Row w o τ e sz (some ⟨h, 0, none⟩) n c xs) (hn : 0 < n) (u : Value) : Row (w.setCell ⟨h, k, none⟩ u) o τ e sz (some ⟨h, 0, none⟩) n c (xs.set k u) := by
  have hl := hR.len
  obtain ⟨g, cur, hA, ho, hb, hnc, hm, hsz, ht⟩ := hR.form hn
  injection hA with hA; injection hA with hA; subst hA
  refine ⟨⟨by simpa using hl, .inr ⟨h, c, cur.setIfInBounds k u, rfl, Nat.zero_le _, hb.set_ k u, hnc, hm, by simpa using hsz, ?_⟩⟩, fun ad ha => by injection ha with ha; subst ha; exact ho⟩
  rw [← ht, Array.toList_setIfInBounds, List.take_set]
theorem Row.cellG {w : World} {o : Own} {τ : Nat} {e : TypeId} {sz n c : Nat} {A : Option Addr} {xs : List Value} (hR : Row w o τ e sz A n c xs) {k : Nat} {u : Value} (hk : xs[k]? = some u) (hn : 0 < n) : ∃ h, A = some ⟨h, 0, none⟩ ∧ o h = τ ∧ h < w.heap.size ∧ w.cell? ⟨h, k, none⟩ = some u ∧ w.frozen? ⟨h, k, none⟩ = false := by
  obtain ⟨g, cur, hA, ho, hb, hnc, hm, hsz, ht⟩ := hR.form hn
  refine ⟨g, hA, ho, hb.lt, ?_, hb.frozen k⟩
  rw [hb.cell]
  rw [← ht, List.getElem?_take] at hk
  split at hk
  · simpa using hk
  · cases hk

theorem laidI {w : World} {o : Own} {e : TypeId} {σ sz n c : Nat} {A : Option Addr} {vs : List Value} (h : Row w o σ e sz A n c vs) (cs : Array Value) (m : Nat) (hcs : cs.size = m) (_hm : m ≤ 9) (t : TypeId) :
    ∃ oW, Step [] w o (w.alloc (.cells cs t)) oW ∧ Row (w.alloc (.cells cs t)) oW σ e sz A n c vs ∧ Sl (w.alloc (.cells cs t)) oW 5 m (some ⟨w.heap.size, 0, none⟩) 1 1 cs.toList ∧ ∀ {sz' n' c' : Nat} {τ' : Nat} {A' : Option Addr} {e' : TypeId} {vs' : List Value}, Row w o τ' e' sz' A' n' c' vs' → Row (w.alloc (.cells cs t)) oW τ' e' sz' A' n' c' vs' := by
  have st := (Step.refl [] w o).alloc (.cells cs t) 5
  have b' := Blk.new w t cs
  refine ⟨_, st, h.step st (by simp), ⟨by simp [hcs], Nat.le_refl _, by decide, fun _ => ⟨w.heap.size, 0, rfl, ext_ge (Nat.le_refl _), b'.lt, fun j u hj => ?_⟩⟩, fun hr => hr.step st (by simp)⟩
  rw [Nat.zero_add, b'.cell]
  simpa using hj

theorem wnts_app (l m : List (Int × Int)) : wnts (l ++ m) = wnts l ++ wnts m := by simp [wnts]
theorem itms_app (l m : List It) : itms (l ++ m) = itms l ++ itms m := by simp [itms]
theorem el_ritem : Elem Tryz.prog 42 72 3 24 (.agg #[.int .i64 0, .int .i64 0, .int .i64 0]) := ⟨Tryz.underlying42, by kernel_rfl, rfl, by decide⟩

set_option maxRecDepth 100000 in
set_option maxHeartbeats 1000000 in
theorem items_any (w : World) (o : Own) (τ : Nat) (A : Option Addr) (n c : Nat) (l : List It) (hS : Sl w o τ 3 A n c (itms l)) (hn80 : n ≤ 1000) :
    Calls Tryz.prog 12 #[.slice A n c] w fun e w' => ∃ B d o', e = .returned (.slice B n d) ∧ Step [] w (fun _ => 0) w' o' ∧ Row w' o' 40 72 3 B n d (itms l) := by
  have hl : l.length = n := by have := hS.1; rw [len_itms] at this; omega
  have HS := Lib.hid hS; have HL := Lib.hid hl
  clear hS hl
  go_enter Tryz.func12, Tryz.ntmps12
  go_wp2_with fail
  go_loopw [4, 3] (fun i s wr => ∃ (j : Nat) (B : Option Addr) (d : Nat) (o' : Own), j ≤ n ∧ i = .int .i64 j ∧ s = .slice B j d ∧ Hid (Step [] w (fun _ => 0) wr o' ∧ Row wr o' 40 72 3 B j d (itms (l.take j)))) (fun i _ _ => n - (intOf i).toNat)
  case atStart => exact ⟨0, none, 0, _, Nat.zero_le _, rfl, rfl, Lib.hid ⟨Step.refl _ _ _, by simpa [itms] using Row.nil_ w (fun _ => 0) 40 72 3⟩⟩
  case round => as_aux_lemma =>
    obtain ⟨j, B, d, o', hj, rfl, rfl, HJ⟩ := hrel
    by_cases hlt : j < n
    · obtain ⟨x, hx⟩ : ∃ x, l[j]? = some x := ⟨_, List.getElem?_eq_getElem (by rw [HL.out]; exact hlt)⟩
      obtain ⟨g, off, hAe, -, hg, hc⟩ := (HS.out.old0.step HJ.out.1 (by simp)).2.2.2 (by omega)
      subst hAe
      obtain ⟨i0, i1, i2⟩ := itms_get l j x hx
      have c0 := hc _ _ i0; have c1 := hc _ _ i1; have c2 := hc _ _ i2
      rw [← Nat.add_assoc] at c1 c2
      clear hc i0 i1 i2
      obtain ⟨a, b, s⟩ := x
      simp only at c0 c1 c2
      go_wp2_with fail
      have lk : wr.drew.cell? ⟨g, off + j * 3, none⟩ = some (.int .i64 a) ∧ wr.drew.cell? ⟨g, off + j * 3 + 1, none⟩ = some (.int .i64 b) ∧ wr.drew.cell? ⟨g, off + j * 3 + 2, none⟩ = some (.int .i64 s) := ⟨c0, c1, c2⟩
      refine wp_region_till (S0 := fun w' => w'.cell? ⟨g, off + j * 3, none⟩ = some (.int .i64 a) ∧ w'.cell? ⟨g, off + j * 3 + 1, none⟩ = some (.int .i64 b) ∧ w'.cell? ⟨g, off + j * 3 + 2, none⟩ = some (.int .i64 s)) (st := 16) (by kernel_rfl) ?_
      change wpAnyG _ _ _ _ _ _ _ _ _ (World.drew _)
      refine wpAnyG_take (i := 0) (v := ?_) rfl (by kernel_rfl) (by kernel_rfl) (by kernel_rfl) (by kernel_rfl) (fun _ _ _ h => h) (Or.inl ⟨by rfl, ?_⟩) (.inr lk) ?_
      rotate_left
      · intro w' _; go_simp; try with_reducible rfl
      try simp only [Act.put, List.getElem_toArray, List.getElem_cons_zero, List.setIfInBounds_toArray, List.set_cons_zero, List.set_cons_succ]
      refine wpAnyG_take (i := 1) (v := ?_) rfl (by kernel_rfl) (by kernel_rfl) (by kernel_rfl) (by kernel_rfl) (fun _ _ _ h => h) (Or.inl ⟨by rfl, ?_⟩) (.inr lk) ?_
      rotate_left
      · intro w' _; go_simp; try with_reducible rfl
      try simp only [Act.put, List.getElem_toArray, List.getElem_cons_zero, List.getElem_cons_succ, List.setIfInBounds_toArray, List.set_cons_zero, List.set_cons_succ]
      refine wpAnyG_take (i := 2) (v := ?_) rfl (by kernel_rfl) (by kernel_rfl) (by kernel_rfl) (by kernel_rfl) (fun _ _ _ h => h) (Or.inl ⟨by rfl, ?_⟩) (.inr lk) ?_
      rotate_left
      · intro w' _; go_simp; try with_reducible rfl
      try simp only [Act.put, List.getElem_toArray, List.getElem_cons_zero, List.getElem_cons_succ, List.setIfInBounds_toArray, List.set_cons_zero, List.set_cons_succ]
      refine wpAnyG_take (i := 3) (v := ?_) rfl (by kernel_rfl) (by kernel_rfl) (by kernel_rfl) (by kernel_rfl) (fun _ _ _ h => h) (Or.inl ⟨by rfl, ?_⟩) (.inr lk) ?_
      rotate_left
      · intro w' _; go_simp; try with_reducible rfl
      try simp only [Act.put, List.getElem_toArray, List.getElem_cons_zero, List.getElem_cons_succ, List.setIfInBounds_toArray, List.set_cons_zero, List.set_cons_succ]
      refine wpAnyG_take (i := 4) (v := ?_) rfl (by kernel_rfl) (by kernel_rfl) (by kernel_rfl) (by kernel_rfl) (fun _ _ _ h => h) (Or.inl ⟨by rfl, ?_⟩) (.inr lk) ?_
      rotate_left
      · intro w' _; go_simp; try with_reducible rfl
      try simp only [Act.put, List.getElem_toArray, List.getElem_cons_zero, List.getElem_cons_succ, List.setIfInBounds_toArray, List.set_cons_zero, List.set_cons_succ]
      refine wpAnyG_load (i := 5) (v := ?_) rfl rfl (by kernel_rfl) (by kernel_rfl) (by kernel_rfl) (by kernel_rfl) (by kernel_rfl) (by kernel_rfl) (fun _ _ _ h => h) (Or.inl ⟨by rfl, ?_⟩) lk ?_
      rotate_left
      · intro w' hSw; obtain ⟨s0, s1, s2⟩ := hSw; go_simp; try with_reducible rfl
      try simp only [Act.put, List.getElem_toArray, List.getElem_cons_zero, List.getElem_cons_succ, List.setIfInBounds_toArray, List.set_cons_zero, List.set_cons_succ]
      refine wpAnyG_take (i := 6) (v := ?_) rfl (by kernel_rfl) (by kernel_rfl) (by kernel_rfl) (by kernel_rfl) (fun _ _ _ h => h) (Or.inl ⟨by rfl, ?_⟩) (.inr lk) ?_
      rotate_left
      · intro w' _; go_simp; try with_reducible rfl
      try simp only [Act.put, List.getElem_toArray, List.getElem_cons_zero, List.getElem_cons_succ, List.setIfInBounds_toArray, List.set_cons_zero, List.set_cons_succ]
      refine wpAnyG_take (i := 7) (v := ?_) rfl (by kernel_rfl) (by kernel_rfl) (by kernel_rfl) (by kernel_rfl) (fun _ _ _ h => h) (Or.inl ⟨by rfl, ?_⟩) (.inr lk) ?_
      rotate_left
      · intro w' _; go_simp; try with_reducible rfl
      try simp only [Act.put, List.getElem_toArray, List.getElem_cons_zero, List.getElem_cons_succ, List.setIfInBounds_toArray, List.set_cons_zero, List.set_cons_succ]
      refine wpAnyG_take (i := 8) (v := ?_) rfl (by kernel_rfl) (by kernel_rfl) (by kernel_rfl) (by kernel_rfl) (fun _ _ _ h => h) (Or.inl ⟨by rfl, ?_⟩) (.inr lk) ?_
      rotate_left
      · intro w' _; go_simp; try with_reducible rfl
      try simp only [Act.put, List.getElem_toArray, List.getElem_cons_zero, List.getElem_cons_succ, List.setIfInBounds_toArray, List.set_cons_zero, List.set_cons_succ]
      refine wpAnyG_take (i := 9) (v := ?_) rfl (by kernel_rfl) (by kernel_rfl) (by kernel_rfl) (by kernel_rfl) (fun _ _ _ h => h) (Or.inl ⟨by rfl, ?_⟩) (.inr lk) ?_
      rotate_left
      · intro w' _; go_simp; try with_reducible rfl
      try simp only [Act.put, List.getElem_toArray, List.getElem_cons_zero, List.getElem_cons_succ, List.setIfInBounds_toArray, List.set_cons_zero, List.set_cons_succ]
      refine wpAnyG_load (i := 10) (v := ?_) rfl rfl (by kernel_rfl) (by kernel_rfl) (by kernel_rfl) (by kernel_rfl) (by kernel_rfl) (by kernel_rfl) (fun _ _ _ h => h) (Or.inl ⟨by rfl, ?_⟩) lk ?_
      rotate_left
      · intro w' hSw; obtain ⟨s0, s1, s2⟩ := hSw; go_simp; try with_reducible rfl
      try simp only [Act.put, List.getElem_toArray, List.getElem_cons_zero, List.getElem_cons_succ, List.setIfInBounds_toArray, List.set_cons_zero, List.set_cons_succ]
      refine wpAnyG_take (i := 11) (v := ?_) rfl (by kernel_rfl) (by kernel_rfl) (by kernel_rfl) (by kernel_rfl) (fun _ _ _ h => h) (Or.inl ⟨by rfl, ?_⟩) (.inr lk) ?_
      rotate_left
      · intro w' _; go_simp; try with_reducible rfl
      try simp only [Act.put, List.getElem_toArray, List.getElem_cons_zero, List.getElem_cons_succ, List.setIfInBounds_toArray, List.set_cons_zero, List.set_cons_succ]
      refine wpAnyG_take (i := 12) (v := ?_) rfl (by kernel_rfl) (by kernel_rfl) (by kernel_rfl) (by kernel_rfl) (fun _ _ _ h => h) (Or.inl ⟨by rfl, ?_⟩) (.inr lk) ?_
      rotate_left
      · intro w' _; go_simp; try with_reducible rfl
      try simp only [Act.put, List.getElem_toArray, List.getElem_cons_zero, List.getElem_cons_succ, List.setIfInBounds_toArray, List.set_cons_zero, List.set_cons_succ]
      refine wpAnyG_take (i := 13) (v := ?_) rfl (by kernel_rfl) (by kernel_rfl) (by kernel_rfl) (by kernel_rfl) (fun _ _ _ h => h) (Or.inl ⟨by rfl, ?_⟩) (.inr lk) ?_
      rotate_left
      · intro w' _; go_simp; try with_reducible rfl
      try simp only [Act.put, List.getElem_toArray, List.getElem_cons_zero, List.getElem_cons_succ, List.setIfInBounds_toArray, List.set_cons_zero, List.set_cons_succ]
      refine wpAnyG_take (i := 14) (v := ?_) rfl (by kernel_rfl) (by kernel_rfl) (by kernel_rfl) (by kernel_rfl) (fun _ _ _ h => h) (Or.inl ⟨by rfl, ?_⟩) (.inr lk) ?_
      rotate_left
      · intro w' _; go_simp; try with_reducible rfl
      try simp only [Act.put, List.getElem_toArray, List.getElem_cons_zero, List.getElem_cons_succ, List.setIfInBounds_toArray, List.set_cons_zero, List.set_cons_succ]
      refine wpAnyG_load (i := 15) (v := ?_) rfl rfl (by kernel_rfl) (by kernel_rfl) (by kernel_rfl) (by kernel_rfl) (by kernel_rfl) (by kernel_rfl) (fun _ _ _ h => h) (Or.inl ⟨by rfl, ?_⟩) lk ?_
      rotate_left
      · intro w' hSw; obtain ⟨s0, s1, s2⟩ := hSw; go_simp; try with_reducible rfl
      try simp only [Act.put, List.getElem_toArray, List.getElem_cons_zero, List.getElem_cons_succ, List.setIfInBounds_toArray, List.set_cons_zero, List.set_cons_succ]
      refine wpAnyG_ready (rs := [16]) (by kernel_rfl) (by simp) ?_
      refine AllReadyG.cons rfl (fun K hK => ?_) AllReadyG.nil
      go_simp
      refine hK.out _ _ (.inl rfl) ?_
      clear hK K
      obtain ⟨W2, hW2⟩ : ∃ W2, W2 = wr.drew := ⟨_, rfl⟩
      have stD : Step [] wr o' W2 o' := by rw [hW2]; exact (Step.refl [] wr o').drew
      rw [← hW2]
      obtain ⟨oW, stW, rwW, slW, -⟩ := laidI (HJ.out.2.step stD (by simp)) #[.int .i64 a, .int .i64 b, .int .i64 s] 3 rfl (by omega) 72
      have RW := Lib.hid rwW; have SW := Lib.hid slW; have ST := Lib.hid ((HJ.out.1.trans stD).trans stW); have HX := Lib.hid hx
      clear rwW slW stW stD hW2 c0 c1 c2 hx lk
      refine wpAnyG_ready (rs := [17]) (by kernel_rfl) (by simp) ?_
      refine AllReadyG.cons rfl (fun K hK => ?_) AllReadyG.nil
      go_simp
      refine hK.out _ _ (.inl rfl) ?_
      clear hK K
      refine wpAnyG_ready (rs := [18]) (by kernel_rfl) (by simp) ?_
      refine AllReadyG.cons rfl (fun K hK => ?_) AllReadyG.nil
      refine step_append_row rfl (.tmp 11) (.tmp 28) _ rfl el_ritem oW 40 B j d _ rfl RW.out oW 5 _ 1 1 [.int .i64 a, .int .i64 b, .int .i64 s] rfl SW.out (by simp [Value.oneCell']) (by omega) (by simp only [maxLen]; omega) ?_
      intro B' d' w6 hR6 hg6 hat6
      have HR6 := Lib.hid hR6; have HG6 := Lib.hid hg6; clear hR6 hg6 hat6
      refine hK.out _ _ (.inl rfl) ?_
      clear hK K
      refine wpAnyG_ready (rs := [19]) (by kernel_rfl) (by simp) ?_
      refine AllReadyG.cons rfl (fun K hK => ?_) AllReadyG.nil
      go_simp
      refine hK.out _ _ (.inl rfl) ?_
      clear hK K
      refine wpAnyG_done (by kernel_rfl) ?_ _
      go_wp2_with fail
      go_roundw
      case rel =>
        have st6 := Step.append RW.out HG6.out 40
        refine ⟨j + 1, B', d', _, by omega, by go_num, rfl, Lib.hid ⟨((ST.out.nil (ts := [40])).trans st6).forget (ts' := []) (fun t ht _ k hk => by simp at ht; subst ht; simp), ?_⟩⟩
        rw [List.take_add_one, HX.out, itms_app]
        exact HR6.out
      case measure => simp [intOf]; omega
    · obtain rfl : n = j := by omega
      go_wp2_with fail
      go_ret
      refine ⟨B, d, o', rfl, HJ.out.1, ?_⟩
      have := HJ.out.2
      rw [List.take_of_length_le (by rw [HL.out]; exact Nat.le_refl _)] at this
      exact this

set_option maxRecDepth 100000 in
set_option maxHeartbeats 1000000 in
theorem same_any (w : World) (o oB : Own) (τ τ2 : Nat) (A B : Option Addr) (n c m d : Nat) (ls ms : List It) (hS : Sl w o τ 3 A n c (itms ls)) (hT : Sl w oB τ2 3 B m d (itms ms)) :
    Calls Tryz.prog 19 #[.slice A n c, .slice B m d] w fun e w' => e = .returned (.bool (decide (ls = ms))) ∧ ∃ k, w' = w.drewN k := by
  have hl1 : ls.length = n := by have := hS.1; rw [len_itms] at this; omega
  have hl2 : ms.length = m := by have := hT.1; rw [len_itms] at this; omega
  have hb : n ≤ 9223372036854775807 ∧ m ≤ 9223372036854775807 := by have h1 := hS.2.1; have h2 := hS.2.2.1; have h3 := hT.2.1; have h4 := hT.2.2.1; unfold maxLen at h2 h4; omega
  obtain ⟨hb1, hb2⟩ := hb
  obtain ⟨R, hR⟩ : ∃ R : Bool, R = decide (ls = ms) := ⟨_, rfl⟩
  rw [← hR]
  have HR := Lib.hid hR; have HS := Lib.hid hS; have HT := Lib.hid hT; have HL1 := Lib.hid hl1; have HL2 := Lib.hid hl2
  clear hR hS hT hl1 hl2
  by_cases hnm : n = m
  · subst hnm
    go_enter Tryz.func19, Tryz.ntmps19
    go_wp2
    go_loopw [5] (fun i wr => ∃ k q : Nat, k ≤ n ∧ i = .int .i64 k ∧ wr = w.drewN q ∧ Hid (ls.take k = ms.take k)) (fun i _ => n - (intOf i).toNat)
    case atStart => exact ⟨0, 0, Nat.zero_le _, rfl, rfl, Lib.hid (by simp)⟩
    case round => as_aux_lemma =>
      obtain ⟨k, q, hk, rfl, rfl, hTK⟩ := hrel
      by_cases hlt : k < n
      · obtain ⟨⟨a, b, s⟩, hx⟩ : ∃ x, ls[k]? = some x := ⟨_, List.getElem?_eq_getElem (by rw [HL1.out]; exact hlt)⟩
        obtain ⟨⟨a', b', s'⟩, hy⟩ : ∃ x, ms[k]? = some x := ⟨_, List.getElem?_eq_getElem (by rw [HL2.out]; exact hlt)⟩
        obtain ⟨g, off, hAe, -, hg, hc⟩ := HS.out.2.2.2 (by omega)
        obtain ⟨g2, off2, hBe, -, hg2, hc2⟩ := HT.out.2.2.2 (by omega)
        subst hAe; subst hBe
        obtain ⟨i0, i1, i2⟩ := itms_get ls k _ hx
        obtain ⟨j0, j1, j2⟩ := itms_get ms k _ hy
        have c0 := hc _ _ i0; have c1 := hc _ _ i1; have c2 := hc _ _ i2; have d0 := hc2 _ _ j0; have d1 := hc2 _ _ j1; have d2 := hc2 _ _ j2
        rw [← Nat.add_assoc] at c1 c2 d1 d2
        simp only at c0 c1 c2 d0 d1 d2
        have HX := Lib.hid hx; have HY := Lib.hid hy
        have bad : (a = a' ∧ b = b' ∧ s = s') ∨ R = false := by
          by_cases c : a = a' ∧ b = b' ∧ s = s'
          · exact .inl c
          · right
            rw [HR.out]
            simp only [decide_eq_false_iff_not]
            intro h
            rw [h, hy] at hx
            injection hx with hx
            injection hx with h1 h2 h3
            exact c ⟨h1.symm, h2.symm, h3.symm⟩
        clear hc hc2 i0 i1 i2 j0 j1 j2 hx hy
        by_cases ha : a = a'
        · subst ha
          by_cases hb : b = b'
          · subst hb
            by_cases hs : s = s'
            · subst hs
              clear bad
              have e0 : (a != a) = false := by simp
              have e1 : (b != b) = false := by simp
              have e2 : (s != s) = false := by simp
              go_wp2
              go_quiet (fail)
              go_wp2
              go_roundw
              case rel => exact ⟨k + 1, q + nq, by omega, by go_num, by first | rfl | rw [World.drewN_drewN], Lib.hid (by rw [List.take_add_one, List.take_add_one, hTK.out, HX.out, HY.out])⟩
              case measure => simp [intOf]; omega
            · have HB := Lib.hid (bad.resolve_left fun h => hs h.2.2)
              have e0 : (a != a) = false := by simp
              have e1 : (b != b) = false := by simp
              have e2 : (s != s') = true := by simpa using hs
              clear bad hs
              go_wp2
              go_quiet (fail)
              go_wp2
              go_ret
              exact ⟨by rw [HB.out]; rfl, q + nq, by first | rfl | rw [World.drewN_drewN]⟩
          · have HB := Lib.hid (bad.resolve_left fun h => hb h.2.1)
            have e0 : (a != a) = false := by simp
            have e1 : (b != b') = true := by simpa using hb
            clear bad hb
            go_wp2
            go_quiet (fail)
            go_wp2
            go_ret
            exact ⟨by rw [HB.out]; rfl, q + nq, by first | rfl | rw [World.drewN_drewN]⟩
        · have HB := Lib.hid (bad.resolve_left fun h => ha h.1)
          have e0 : (a != a') = true := by simpa using ha
          clear bad ha
          go_wp2
          go_quiet (fail)
          go_wp2
          go_ret
          exact ⟨by rw [HB.out]; rfl, q + nq, by first | rfl | rw [World.drewN_drewN]⟩
      · obtain rfl : n = k := by omega
        have hd : R = true := by
          have := hTK.out
          rw [List.take_of_length_le (by rw [HL1.out]; exact Nat.le_refl _), List.take_of_length_le (by rw [HL2.out]; exact Nat.le_refl _)] at this
          rw [HR.out]; simpa using this
        have HD := Lib.hid hd; clear hd
        go_wp2
        go_ret
        exact ⟨by rw [HD.out]; rfl, q, rfl⟩
  · have hd : R = false := by
      rw [HR.out]
      simp only [decide_eq_false_iff_not]
      rintro rfl
      exact hnm (HL1.out.symm.trans HL2.out)
    have HD := Lib.hid hd; clear hd
    have hne : ((n : Int) == (m : Int)) = false := by simp; omega
    have hne2 : ((n : Int) != (m : Int)) = true := by simp; omega
    go_enter Tryz.func19, Tryz.ntmps19
    go_wp2
    go_ret
    exact ⟨by rw [HD.out]; rfl, 0, rfl⟩
end Go.Proofs.YtkiknbjokknemaaGreat
