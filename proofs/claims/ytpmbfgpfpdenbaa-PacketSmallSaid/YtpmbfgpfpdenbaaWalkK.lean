/-
  WALK of step, the kind that makes an acknowledgement. (Printed by wip/gen/gen_only.py.)
-/
import Derived.Test.YtpmbfgpfpdenbaaWalkJ
namespace Go.Proofs.Ytpmbfgpfpdenbaa
open Go.RowKit

theorem conc_ack (own other : Int) (a : AEnd) (h : 0 < a.heard) : ackP (a.conc own other) = APkt.enc own other ⟨none, a.note⟩ := by
  unfold ackP AEnd.note APkt.enc
  rw [if_pos h]
  simp only [AEnd.conc]
  rw [show other + (a.heard : Int) - 1 = other + ((a.heard - 1 : Nat) : Int) by omega]

theorem CellsAt.only {cells : Array Value} {s : Nat} {v : SideV} {own : Int} (h : CellsAt cells s v own) (hc : cells.size = 10) (hs : s < 2) (A : Option Addr) (n c : Nat) : CellsAt (cells.setIfInBounds (s * 5 + 1) (.slice A n c)) s { v with mA := A, mn := n, mc := c } own := by
  refine ⟨?_, ?_, ?_, ?_, ?_⟩
  · rw [Array.getElem?_setIfInBounds_ne (by omega)]; exact h.c0
  · rw [Array.getElem?_setIfInBounds_self, if_pos (by omega)]
  · rw [Array.getElem?_setIfInBounds_ne (by omega)]; exact h.c2
  · rw [Array.getElem?_setIfInBounds_ne (by omega)]; exact h.c3
  · rw [Array.getElem?_setIfInBounds_ne (by omega)]; exact h.c4
theorem CellsAt.only_far {cells : Array Value} {s s' : Nat} {u : SideV} {own : Int} (h : CellsAt cells s' u own) (hs : s < 2) (hs' : s' = 1 - s) (x : Value) : CellsAt (cells.setIfInBounds (s * 5 + 1) x) s' u own := by
  refine ⟨?_, ?_, ?_, ?_, ?_⟩
  all_goals rw [Array.getElem?_setIfInBounds_ne (by omega)]
  · exact h.c0
  · exact h.c1
  · exact h.c2
  · exact h.c3
  · exact h.c4

set_option maxRecDepth 100000 in
set_option maxHeartbeats 2000000 in
theorem step_only (w : World) (o : Own) (l s s' : Nat) (hs : s < 2) (hs' : s' = 1 - s) (own other : Int) (X Y : ASide) (v u : SideV) (cells : Array Value) (hL : LinkS w o l s s' own other X Y v u cells) (hI : LinkInv X Y) (_hI' : LinkInv Y X)
    (hown : 0 ≤ own) (hown' : own ≤ 1099511627776) (hot : 0 ≤ other) (hot' : other ≤ 1099511627776) (hz : Sized X Y 900)
    (K S T : Nat) (hK : K < 256) (hS : S < 256) (_hT : T < 256) (hSs : S % 2 = s) (BA : Option Addr) (bn bc : Nat) (hk : K % 6 = 2) :
    Calls Try.prog 12 #[.pointer (some ⟨l, 0, none⟩), .agg (opCells K S T BA bn bc)] w (StepTo w o l s s' own other (X.only, Y)) := by
  have hsb : s' < 2 := by omega
  have st := (Step.refl [] w o).alloc (.cells (opCells K S T BA bn bc) 29) 12
  have hm := hL.step st (by simp) hs hsb
  have hs2 : (S : Int) % 2 = (s : Int) := by omega
  have hk1 : (K : Int) % 6 = 2 := by omega
  have m0 := (hm.b.cell (s * 5)).trans hm.cx.c0
  obtain ⟨W, hW⟩ : ∃ W, W = w.alloc (.cells (opCells K S T BA bn bc) 29) := ⟨_, rfl⟩
  obtain ⟨oW, hoW⟩ : ∃ oW, oW = ext o w.heap.size 12 := ⟨_, rfl⟩
  rw [← hW, ← hoW] at hm st
  have hfit : (X.e.conc own other).Fit := conc_fit hI hown hown' hot hot' (by have := hz.bx; omega) (by have := hz.bY; omega)
  have hmb := hz.mx
  by_cases hh : 0 < X.e.heard
  · have hcon := Only_ok W oW (2 + s) 10 v.e _ hm.x.e hfit (by simp only [AEnd.conc]; omega)
    rw [conc_ack own other X.e hh] at hcon
    obtain ⟨P, hP⟩ : ∃ P, P = APkt.enc own other ⟨none, X.e.note⟩ := ⟨_, rfl⟩
    rw [← hP] at hcon
    have hPl : P.length ≤ 7 := by
      rw [hP]; unfold APkt.enc AEnd.note
      rw [if_pos hh]; simp [bytesOf_len]
    have HM := Lib.hid hm; have HST := Lib.hid st; have HW := Lib.hid hW; have HCON := Lib.hid hcon; have HP := Lib.hid hP; have HH := Lib.hid hh; have HS' := Lib.hid hs'
    clear hm st hL hSs hk hW hoW hI hz hcon hP hfit hh hs'
    go_enter Try.func12, Try.ntmps12
    go_wp2_with fail
    rw [← HW.out]
    refine HCON.out.mono ?_
    rintro e w1 ⟨PA, pc, o1, rfl, st1, hr1⟩
    have hm1 := HM.out.step st1 (by simp) hs hsb
    have lk := (hm1.b.cell (s * 5 + 1)).trans hm1.cx.c1
    obtain ⟨vs, hvr, hvl, hvp⟩ := hm1.x.made
    have hmnv : v.mn ≤ 900 := by have := hvr.len; simp at hvl; omega
    have HM1 := Lib.hid hm1; have ST1 := Lib.hid st1; have HR1 := Lib.hid hr1; have HVR := Lib.hid hvr; have HVL := Lib.hid hvl; have HVP := Lib.hid hvp
    clear hm1 st1 hr1 hvr hvl hvp m0
    have hsI0 : (0 : Int) ≤ (s : Int) := by omega
    have hsI1 : (s : Int) < 2 := by omega
    go_wp2_with fail
    refine wp_region_till (S0 := fun w' => w'.cell? ⟨l, s * 5 + 1, none⟩ = some (.slice v.mA v.mn v.mc)) (st := 14) (by kernel_rfl) ?_
    change wpAnyG _ _ _ _ _ _ _ _ _ (World.drew _)
    refine wpAnyG_take (i := 0) (v := ?_) rfl (by kernel_rfl) (by kernel_rfl) (by kernel_rfl) (by kernel_rfl) (fun _ _ _ h => h) (Or.inl ⟨by rfl, ?_⟩) (.inr lk) ?_
    rotate_left
    · intro w' _; go_simp; try with_reducible rfl
    try simp only [Act.put, List.getElem_toArray, List.getElem_cons_zero, List.setIfInBounds_toArray, List.set_cons_zero, List.set_cons_succ]
    refine wpAnyG_take (i := 1) (v := ?_) rfl (by kernel_rfl) (by kernel_rfl) (by kernel_rfl) (by kernel_rfl) (fun _ _ _ h => h) (Or.inl ⟨by rfl, ?_⟩) (.inr lk) ?_
    rotate_left
    · intro w' _; go_simp; try with_reducible rfl
    try simp only [Act.put, List.getElem_toArray, List.getElem_cons_zero, List.getElem_cons_succ, List.setIfInBounds_toArray, List.set_cons_zero, List.set_cons_succ]
    refine wpAnyG_take (i := 2) (v := ?_) rfl (by kernel_rfl) (by kernel_rfl) (by kernel_rfl) (by kernel_rfl) (fun _ _ _ h => h) (Or.inl ⟨by rfl, ?_⟩) (.inr lk) ?_
    rotate_left
    · intro w' _; go_simp; try with_reducible rfl
    try simp only [Act.put, List.getElem_toArray, List.getElem_cons_zero, List.getElem_cons_succ, List.setIfInBounds_toArray, List.set_cons_zero, List.set_cons_succ]
    refine wpAnyG_take (i := 3) (v := ?_) rfl (by kernel_rfl) (by kernel_rfl) (by kernel_rfl) (by kernel_rfl) (fun _ _ _ h => h) (Or.inl ⟨by rfl, ?_⟩) (.inr lk) ?_
    rotate_left
    · intro w' _; go_simp; try with_reducible rfl
    try simp only [Act.put, List.getElem_toArray, List.getElem_cons_zero, List.getElem_cons_succ, List.setIfInBounds_toArray, List.set_cons_zero, List.set_cons_succ]
    refine wpAnyG_take (i := 4) (v := ?_) rfl (by kernel_rfl) (by kernel_rfl) (by kernel_rfl) (by kernel_rfl) (fun _ _ _ h => h) (Or.inl ⟨by rfl, ?_⟩) (.inr lk) ?_
    rotate_left
    · intro w' _; go_simp; try with_reducible rfl
    try simp only [Act.put, List.getElem_toArray, List.getElem_cons_zero, List.getElem_cons_succ, List.setIfInBounds_toArray, List.set_cons_zero, List.set_cons_succ]
    refine wpAnyG_take (i := 5) (v := ?_) rfl (by kernel_rfl) (by kernel_rfl) (by kernel_rfl) (by kernel_rfl) (fun _ _ _ h => h) (Or.inl ⟨by rfl, ?_⟩) (.inr lk) ?_
    rotate_left
    · intro w' _; go_simp; try with_reducible rfl
    try simp only [Act.put, List.getElem_toArray, List.getElem_cons_zero, List.getElem_cons_succ, List.setIfInBounds_toArray, List.set_cons_zero, List.set_cons_succ]
    refine wpAnyG_take (i := 6) (v := ?_) rfl (by kernel_rfl) (by kernel_rfl) (by kernel_rfl) (by kernel_rfl) (fun _ _ _ h => h) (Or.inl ⟨by rfl, ?_⟩) (.inr lk) ?_
    rotate_left
    · intro w' _; go_simp; try with_reducible rfl
    try simp only [Act.put, List.getElem_toArray, List.getElem_cons_zero, List.getElem_cons_succ, List.setIfInBounds_toArray, List.set_cons_zero, List.set_cons_succ]
    refine wpAnyG_load (i := 7) (v := ?_) rfl rfl (by kernel_rfl) (by kernel_rfl) (by kernel_rfl) (by kernel_rfl) (by kernel_rfl) (by kernel_rfl) (fun _ _ _ h => h) (Or.inl ⟨by rfl, ?_⟩) lk ?_
    rotate_left
    · intro w' hSw; go_simp; try with_reducible rfl
    try simp only [Act.put, List.getElem_toArray, List.getElem_cons_zero, List.getElem_cons_succ, List.setIfInBounds_toArray, List.set_cons_zero, List.set_cons_succ]
    refine wpAnyG_take (i := 8) (v := ?_) rfl (by kernel_rfl) (by kernel_rfl) (by kernel_rfl) (by kernel_rfl) (fun _ _ _ h => h) (Or.inl ⟨by rfl, ?_⟩) (.inr lk) ?_
    rotate_left
    · intro w' _; go_simp; try with_reducible rfl
    try simp only [Act.put, List.getElem_toArray, List.getElem_cons_zero, List.getElem_cons_succ, List.setIfInBounds_toArray, List.set_cons_zero, List.set_cons_succ]
    refine wpAnyG_take (i := 11) (v := ?_) rfl (by kernel_rfl) (by kernel_rfl) (by kernel_rfl) (by kernel_rfl) (fun _ _ _ h => h) (Or.inl ⟨by rfl, ?_⟩) (.inr lk) ?_
    rotate_left
    · intro w' _; go_simp; try with_reducible rfl
    try simp only [Act.put, List.getElem_toArray, List.getElem_cons_zero, List.getElem_cons_succ, List.setIfInBounds_toArray, List.set_cons_zero, List.set_cons_succ]
    refine wpAnyG_ready (rs := [9]) (by kernel_rfl) (by simp) ?_
    refine AllReadyG.cons rfl (fun K hK => ?_) AllReadyG.nil
    go_simp
    have sta := (Step.refl [] w1 o1).alloc (.cells #[.slice PA P.length pc] 27) 11
    have hma := HM1.out.step sta (by simp) hs hsb
    have lka := (hma.b.cell (s * 5 + 1)).trans hma.cx.c1
    refine hK.out _ _ (.inr lka) ?_
    clear hK K
    have hvra := HVR.out.step (sta.drew) (by simp)
    have hsl := (Row.made (w := w1) o1 11 27 1 #[.slice PA P.length pc] 1 rfl (by decide) 1 (Nat.le_refl _)).sl.step ((Step.refl [] _ _).drew) (by simp)
    obtain ⟨wa, hwa⟩ : ∃ wa, wa = (w1.alloc (.cells #[.slice PA P.length pc] 27)).drew := ⟨_, rfl⟩
    obtain ⟨oa, hoa⟩ : ∃ oa, oa = ext o1 w1.heap.size 11 := ⟨_, rfl⟩
    have stb := sta.drew
    rw [← hwa, ← hoa] at stb hvra hsl
    rw [← hwa]
    have hmb2 := HM1.out.step stb (by simp) hs hsb
    have HWA := Lib.hid hwa; have HMB := Lib.hid hmb2; have STB := Lib.hid stb; have HVRA := Lib.hid hvra; have HSL := Lib.hid hsl
    clear hwa hoa sta hma lka hmb2 stb hvra hsl
    refine wpAnyG_ready (rs := [10]) (by kernel_rfl) (by simp) ?_
    refine AllReadyG.cons rfl (fun K hK => ?_) AllReadyG.nil
    refine step_append_row rfl (.tmp 46) (.tmp 48) _ rfl el_sl oa (4 + s) v.mA v.mn v.mc vs rfl HVRA.out oa 11 (some ⟨w1.heap.size, 0, none⟩) 1 1 [.slice PA P.length pc] rfl HSL.out (by simp [Value.oneCell']) (by omega) (by simp only [maxLen]; omega) ?_
    intro AM cM wb hr hg hat
    have stc := Step.append HVRA.out hg (4 + s)
    have hbl : Blk wb l 94 cells := HMB.out.b.step stc (by rw [HMB.out.ol]; simp; omega)
    have k1 := (hbl.cell (s * 5 + 1)).trans HM1.out.cx.c1
    have f1 := hbl.frozen (s * 5 + 1)
    refine hK.out _ _ (.inr k1) ?_
    clear hK K
    have HBL := Lib.hid hbl; have HR := Lib.hid hr; have STC := Lib.hid stc
    clear hbl hr stc hg hat
    refine wpAnyG_ready (rs := [12]) (by kernel_rfl) (by simp) ?_
    refine AllReadyG.cons rfl (fun K hK => ?_) AllReadyG.nil
    go_simp
    refine hK.out _ _ (.inr k1) ?_
    clear hK K
    refine wpAnyG_ready (rs := [13]) (by kernel_rfl) (by simp) ?_
    refine AllReadyG.cons rfl (fun K hK => ?_) AllReadyG.nil
    go_simp
    refine hK.out _ _ (.inr k1) ?_
    clear hK K
    refine wpAnyG_ready (rs := [14]) (by kernel_rfl) (by simp) ?_
    refine AllReadyG.cons rfl (fun K hK => ?_) AllReadyG.nil
    go_simp
    refine hK.out _ _ (.inl rfl) ?_
    clear hK K
    refine wpAnyG_done (by kernel_rfl) ?_ _
    go_wp2_with fail
    go_ret
    have hoc := STC.out.own l HMB.out.b.lt
    have hol : ext oa wa.heap.size (4 + s) l = 1 := hoc.trans HMB.out.ol
    have std : Step [1] wb (ext oa wa.heap.size (4 + s)) (wb.setCell ⟨l, s * 5 + 1, none⟩ (.slice AM (v.mn + 1) cM)) (ext oa wa.heap.size (4 + s)) := (Step.refl [1] _ _).setCell (.inr (by rw [show (⟨l, s * 5 + 1, none⟩ : Addr).block = l from rfl, hol]; simp)) _
    have hs' := HS'.out
    refine ⟨rfl, ext oa wa.heap.size (4 + s), { v with mA := AM, mn := v.mn + 1, mc := cM }, u, cells.setIfInBounds (s * 5 + 1) (.slice AM (v.mn + 1) cM), ?_, ?_⟩
    · exact ((((HST.out.trans ST1.out).trans STB.out).mono (by simp)).trans (STC.out.mono (by intro t ht; simp at ht ⊢; omega))).trans (std.mono (by simp))
    · have sl : ∀ {t}, t ∉ [4 + s] → t ∉ [1] → ∀ {A' : Option Addr} {n' c' sz : Nat} {ys : List Value}, Sl wa oa t sz A' n' c' ys → Sl (wb.setCell ⟨l, s * 5 + 1, none⟩ (.slice AM (v.mn + 1) cM)) (ext oa wa.heap.size (4 + s)) t sz A' n' c' ys := fun a b _ _ _ _ _ h => (h.step STC.out a).step std b
      have ho : X.only = { X with made := X.made ++ [⟨none, X.e.note⟩] } := by unfold ASide.only; rw [if_pos HH.out]
      rw [ho]
      refine ⟨HBL.out.set_ _ _, hol, by simp [HM1.out.size], HM1.out.cx.only HM1.out.size hs _ _ _, HM1.out.cy.only_far hs hs' _, ⟨?_, ?_, ?_, ?_⟩, ?_⟩
      · exact (HMB.out.x.e.step STC.out (by simp <;> omega)).step std (by simp <;> omega)
      · refine ⟨vs ++ [.slice PA P.length pc], HR.out.step std (by simp <;> omega), ?_, ?_⟩
        · have := HVL.out
          simp at this ⊢
          exact this
        · intro i q hi
          rw [List.map_append, List.map_cons, List.map_nil, List.getElem?_append] at hi
          rw [List.getElem?_append]
          by_cases hlt : i < (X.made.map (APkt.enc own other)).length
          · rw [if_pos hlt] at hi
            rw [if_pos (by rw [HVL.out]; exact hlt)]
            obtain ⟨A', n', c', h1, h2⟩ := HVP.out i q hi
            exact ⟨A', n', c', h1, sl (by simp; omega) (by simp) (h2.step STB.out (by simp))⟩
          · rw [if_neg hlt] at hi
            rw [if_neg (by rw [HVL.out]; exact hlt), HVL.out]
            generalize i - (X.made.map (APkt.enc own other)).length = j at hi ⊢
            cases j with
            | succ j => simp at hi
            | zero =>
              simp only [List.getElem?_cons_zero, Option.some.injEq] at hi ⊢
              refine ⟨PA, P.length, pc, rfl, ?_⟩
              rw [← hi, ← HP.out]
              exact sl (by simp; omega) (by simp) (HR1.out.sl.step STB.out (by simp))
      · exact (HMB.out.x.bodies.step STC.out (by simp <;> omega)).step std (by simp <;> omega)
      · exact (HMB.out.x.reports.step STC.out (by simp <;> omega)).step std (by simp <;> omega)
      · exact (HMB.out.y.step STC.out (by simp <;> omega) (by simp <;> omega) (by simp <;> omega) (by simp <;> omega) (by simp <;> omega)).step std (by simp <;> omega) (by simp <;> omega) (by simp <;> omega) (by simp <;> omega) (by simp <;> omega)
  · have hcon := Only_none W oW (2 + s) v.e _ hm.x.e (by simp only [AEnd.conc]; omega)
    have HM := Lib.hid hm; have HST := Lib.hid st; have HW := Lib.hid hW; have HCON := Lib.hid hcon; have HH := Lib.hid hh
    clear hm st hL hSs hk hW hoW hI hz hcon hfit hh hs'
    go_enter Try.func12, Try.ntmps12
    go_wp2_with fail
    rw [← HW.out]
    refine HCON.out.mono ?_
    rintro e w1 ⟨rfl, k, hw1⟩
    have st1 := (Step.refl [] W oW).drewN k
    rw [← hw1] at st1
    have ST1 := Lib.hid st1
    clear st1 hw1
    go_wp2_with fail
    go_ret
    refine ⟨rfl, oW, v, u, cells, (HST.out.trans ST1.out).nil, ?_⟩
    have ho : X.only = X := by unfold ASide.only; rw [if_neg HH.out]
    rw [ho]
    exact HM.out.step ST1.out (by simp) hs hsb
end Go.Proofs.Ytpmbfgpfpdenbaa
