/-
  WALK of ChannelTells at beginnings out of range; ChannelTells whole. (Printed by gen/gen_chux.py.)
-/
import Derived.Test.YthjjipcbpmdfnaaChUD
namespace Go.Proofs.Ythjjipcbpmdfnaa
open Go.RowKit

/-- Two sides that could not be made. -/
structure UB (w W : World) (o : Own) (b : Nat) : Prop where
  bl : Below w.heap.size w W
  old : ∀ j, j < w.heap.size → o j = 40
  b0 : Blk W b 24 #[.pointer none, .pointer none]
  th : W.there (b + 1) 0 22
  lt : b + 1 < W.heap.size
  t0 : o b = 21
  t1 : o (b + 1) = 22
section
variable {w W W' : World} {o o' : Own} {b k : Nat}
theorem UI.bad {bs : Nat → Nat} {ow ot : Nat → Int} (h : UI w W o b 0 bs ow ot) : UB w W o b := ⟨h.bl, h.old, h.b0, h.th, h.lt, h.t0, h.t1⟩
theorem UB.below (h : UB w W o b) {ts : List Nat} (hs : Step ts W o W' o') (h40 : 40 ∉ ts) : Below w.heap.size w W' ∧ ∀ j, j < w.heap.size → o' j = 40 :=
  ⟨h.bl.trans ⟨hs.os, hs.tape, hs.output, hs.size, fun j hj => hs.block j (Nat.lt_of_lt_of_le hj h.bl.size) (by rw [h.old j hj]; exact h40)⟩, fun j hj => (hs.own j (Nat.lt_of_lt_of_le hj h.bl.size)).trans (h.old j hj)⟩
theorem UB.step (h : UB w W o b) {ts : List Nat} (hs : Step ts W o W' o') (ht : ∀ t ∈ ts, 36 ≤ t ∧ t ≤ 39) : UB w W' o' b := by
  have n0 : o b ∉ ts := fun e => by rw [h.t0] at e; have := ht _ e; omega
  have n1 : o (b + 1) ∉ ts := fun e => by rw [h.t1] at e; have := ht _ e; omega
  obtain ⟨hb, ho⟩ := h.below hs (fun e => by have := ht _ e; omega)
  exact ⟨hb, ho, h.b0.step hs n0, there_step hs h.th h.lt n1, Nat.lt_of_lt_of_le h.lt hs.size, (hs.own _ h.b0.lt).trans h.t0, (hs.own _ h.lt).trans h.t1⟩
theorem UB.put (h : UB w W o b) (hk : k < 2) (r : RCh) (v : RV) : UB w ((W.setCell ⟨b, k, none⟩ (.pointer none)).setCells (b + 1) (k * 11) (rcells r v).toList) o b := by
  have s1 : Step [21] W o (W.setCell ⟨b, k, none⟩ (.pointer none)) o := (Step.refl _ _ _).setCell (.inr (by show o b ∈ [21]; rw [h.t0]; simp)) _
  have b0 := h.b0.set_ k (.pointer none)
  have n1 : o (b + 1) ∉ [21] := by rw [h.t1]; simp
  have th := there_step s1 h.th h.lt n1
  have lt : b + 1 < (W.setCell ⟨b, k, none⟩ (.pointer none)).heap.size := Nat.lt_of_lt_of_le h.lt s1.size
  obtain ⟨k1, k2⟩ := h.below s1 (by simp)
  generalize W.setCell ⟨b, k, none⟩ (.pointer none) = W1 at s1 b0 th lt k1 ⊢
  have sC : Step [22] W1 o (W1.setCells (b + 1) (k * 11) (rcells r v).toList) o := by have := setCells_step (b + 1) o (rcells r v).toList (k * 11) W1; rwa [h.t1] at this
  refine ⟨k1.trans ⟨sC.os, sC.tape, sC.output, sC.size, fun j hj => sC.block j (Nat.lt_of_lt_of_le hj k1.size) (by rw [h.old j hj]; simp)⟩, h.old, ?_, World.there_setCells th _ _ _, Nat.lt_of_lt_of_le lt sC.size, h.t0, h.t1⟩
  have := b0.step sC (by rw [h.t0]; simp)
  rcases (show k = 0 ∨ k = 1 by omega) with rfl | rfl
  · exact this
  · exact this
end

set_option maxRecDepth 100000 in
set_option maxHeartbeats 4000000 in
theorem ChannelTells_bad (w : World) (own oth tick : Int) (h : own < 0 ∨ 1099511627776 < own ∨ oth < 0 ∨ 1099511627776 < oth) (A : Option Addr) (n c : Nat) :
    Calls Try.prog 3 #[.int .i64 own, .int .i64 oth, .int .i64 tick, .slice A n c] w fun e w' => e = .returned (.bool true) ∧ Below w.heap.size w w' := by
  have h' : oth < 0 ∨ 1099511627776 < oth ∨ own < 0 ∨ 1099511627776 < own := by omega
  have HN := Lib.hid h; have HN' := Lib.hid h'
  clear h h'
  go_enter Try.func3, Try.ntmps3
  go_wp2_with fail
  obtain ⟨w0, o0, hw0, hU0⟩ := UI.start w (fun _ => 0) (fun _ => 0) (fun _ => 0)
  rw [show w.heap.size + 1 + 1 = w.heap.size + 2 from rfl]
  unfold zero22 at hw0
  rw [hw0]
  have HU := Lib.hid hU0.bad
  clear hw0 hU0
  refine wp_loop_rounds 3 ?_
  rw [rounds_succ]
  go_wp2_with fail
  refine (ChNew_bad w0 own oth HN.out).mono ?_
  rintro e w1 ⟨rfl, rfl⟩
  go_wp2_with fail
  refine (rNew_bad _ own oth HN.out).mono ?_
  rintro e w2 ⟨rfl, hb⟩
  have hst := (Step.refl [] w0 o0).below hb 36
  have hU2 := HU.out.step hst (by simp)
  have stA := (Step.refl [] w2 (ext o0 w0.heap.size 36)).alloc (.cells zero11 32) 36
  have hz := Blk.new w2 32 zero11
  have hU3 := hU2.step stA (by simp)
  have hzo : ext (ext o0 w0.heap.size 36) w2.heap.size 36 w2.heap.size = 36 := ext_ge (Nat.le_refl _)
  have HZ := Lib.hid hz; have HZO := Lib.hid hzo; have HU3 := Lib.hid hU3
  clear hst hU2 stA hz hU3 hzo hb HU
  generalize ext (ext o0 w0.heap.size 36) w2.heap.size 36 = o3 at HZO HU3
  go_upto_region 9 with (refine wpList_store_rc (c := rNew 0 0) (v := rv0) rfl (.tmp 15) (.tmp 53) rfl rfl rfl HZ.out rfl ?_)
  have hz := HZ.out.setRow (rcells (rNew 0 0) rv0)
  have stz := step_setRow (W := w2.alloc (.cells zero11 32)) HZO.out (rcells (rNew 0 0) rv0)
  have hU4 := HU3.out.step stz (by simp)
  obtain ⟨w4, hw4⟩ : ∃ w4, w4 = (w2.alloc (.cells zero11 32)).setRow w2.heap.size (rcells (rNew 0 0) rv0) := ⟨_, rfl⟩
  rw [← hw4] at hz stz hU4
  unfold zero11 at hw4
  rw [← hw4]
  generalize w2.heap.size = g at hz HZO ⊢
  have HZ := Lib.hid hz; have HU4 := Lib.hid hU4
  clear hz stz hU4 HU3 hw4
  go_upto_region 11 with fail
  have hU5 := HU4.out.step ((Step.refl [] w4 o3).drew) (by simp)
  have LK0 : w4.drew.rangeAt g 0 (rcells (rNew 0 0) rv0).toList := HZ.out.drew.range
  refine wp_region_tillK (S0 := fun w' => w'.rangeAt g 0 (rcells (rNew 0 0) rv0).toList) (st := 7) (by kernel_rfl) (fun _ _ _ _ _ h => h) ?_
  intro KQ HQ HKN
  obtain ⟨w5, hw5⟩ : ∃ w5, w5 = w4.drew := ⟨_, rfl⟩
  have hlg : g < w5.heap.size := by rw [hw5]; exact HZ.out.lt
  rw [← hw5] at hU5 LK0 ⊢
  have LK := LK0
  clear LK0 hw5
  refine wpAnyG_take (i := 0) (v := ?_) rfl (by kernel_rfl) (by kernel_rfl) (by kernel_rfl) (by kernel_rfl) (fun _ _ _ h => HQ.out _ _ _ _ _ h) (Or.inl ⟨by rfl, ?_⟩) (.inr LK) ?_
  rotate_left
  · intro w' _; go_simp; try with_reducible rfl
  simp only [Act.put, List.getElem_toArray, List.getElem_cons_zero, List.setIfInBounds_toArray, List.set_cons_zero, List.set_cons_succ]
  refine wpAnyG_take (i := 1) (v := ?_) rfl (by kernel_rfl) (by kernel_rfl) (by kernel_rfl) (by kernel_rfl) (fun _ _ _ h => HQ.out _ _ _ _ _ h) (Or.inl ⟨by rfl, ?_⟩) (.inr LK) ?_
  rotate_left
  · intro w' _; go_simp; try with_reducible rfl
  simp only [Act.put, List.getElem_toArray, List.getElem_cons_zero, List.getElem_cons_succ, List.setIfInBounds_toArray, List.set_cons_zero, List.set_cons_succ]
  refine wpAnyG_take (i := 2) (v := ?_) rfl (by kernel_rfl) (by kernel_rfl) (by kernel_rfl) (by kernel_rfl) (fun _ _ _ h => HQ.out _ _ _ _ _ h) (Or.inl ⟨by rfl, ?_⟩) (.inr LK) ?_
  rotate_left
  · intro w' _; go_simp; try with_reducible rfl
  simp only [Act.put, List.getElem_toArray, List.getElem_cons_zero, List.getElem_cons_succ, List.setIfInBounds_toArray, List.set_cons_zero, List.set_cons_succ]
  refine wpAnyG_load (i := 3) (v := .agg (rcells (rNew 0 0) rv0)) rfl rfl (by kernel_rfl) (by kernel_rfl) (by kernel_rfl) (by kernel_rfl) (by kernel_rfl) (by kernel_rfl) (fun _ _ _ h => HQ.out _ _ _ _ _ h) (yields_rc (by rfl) (.tmp 15) rfl g 0 rfl _ _ (fun _ h => h)) LK ?_
  simp only [Act.put, List.getElem_toArray, List.getElem_cons_zero, List.getElem_cons_succ, List.setIfInBounds_toArray, List.set_cons_zero, List.set_cons_succ]
  refine wpAnyG_take (i := 4) (v := ?_) rfl (by kernel_rfl) (by kernel_rfl) (by kernel_rfl) (by kernel_rfl) (fun _ _ _ h => HQ.out _ _ _ _ _ h) (Or.inl ⟨by rfl, ?_⟩) (.inr LK) ?_
  rotate_left
  · intro w' _; go_simp; try with_reducible rfl
  simp only [Act.put, List.getElem_toArray, List.getElem_cons_zero, List.getElem_cons_succ, List.setIfInBounds_toArray, List.set_cons_zero, List.set_cons_succ]
  have z0 : w5.cell? ⟨w.heap.size, 0, none⟩ = some (.pointer none) := (hU5.b0.cell 0).trans rfl
  have z1 := hU5.b0.frozen 0
  have sP : Step [21] w5 o3 (w5.setCell ⟨w.heap.size, 0, none⟩ (.pointer none)) o3 := (Step.refl _ _ _).setCell (.inr (by show o3 w.heap.size ∈ [21]; rw [hU5.t0]; simp)) _
  have LK6 := rangeAt_step sP LK hlg (by rw [HZO.out]; decide)
  have th6 := there_step sP hU5.th hU5.lt (by rw [hU5.t1]; decide)
  have TH6 : Hid ((w5.setCell ⟨w.heap.size, 0, none⟩ (.pointer none)).there (w.heap.size + 1) 0 11) := Lib.hid (fun j hj => by
    have := th6 (0 + j) (by omega)
    rwa [Nat.zero_add] at this)
  have HP1 := Lib.hid (hU5.put (k := 0) (by decide) (rNew 0 0) rv0)
  have hbl := hU5.b0.lt
  refine wpAnyG_ready (rs := [5]) (by kernel_rfl) (by simp) ?_
  refine AllReadyG.cons rfl (fun K hK => ?_) AllReadyG.nil
  go_simp
  refine hK.out _ _ (.inr LK6) ?_
  clear hK K
  refine wpAnyG_ready (rs := [6]) (by kernel_rfl) (by simp) ?_
  refine AllReadyG.cons rfl (fun K hK => ?_) AllReadyG.nil
  go_simp
  refine hK.out _ _ (.inr LK6) ?_
  clear hK K
  refine wpAnyG_ready (rs := [7]) (by kernel_rfl) (by simp) ?_
  refine AllReadyG.cons rfl (fun K hK => ?_) AllReadyG.nil
  simp only [Act.put, List.getElem_toArray, List.getElem_cons_zero, List.getElem_cons_succ]
  rw [if_pos (by rfl)]
  refine wp_store_rcm (.tmp 70) (.tmp 68) rfl (w.heap.size + 1) 0 (rNew 0 0) rv0 rfl rfl TH6.out ?_
  refine hK.out _ _ (.inl rfl) ?_
  clear hK K
  refine wpAnyG_done (by kernel_rfl) (HKN.out _ _ ?_) _
  clear HKN HQ KQ z0 z1 sP LK6 th6 TH6 hbl LK hU5 hlg HZ HZO HU4
  obtain ⟨wB, hwB⟩ : ∃ wB, wB = (w5.setCell ⟨w.heap.size, 0, none⟩ (.pointer none)).setCells (w.heap.size + 1) 0 (rcells (rNew 0 0) rv0).toList := ⟨_, rfl⟩
  rw [← hwB]
  have HU1 : Hid (UB w wB o3 w.heap.size) := Lib.hid (by rw [hwB]; exact HP1.out)
  clear hwB HP1
  generalize o3 = oB at HU1
  go_wp2_with fail
  rw [rounds_succ]
  go_wp2_with fail
  refine (ChNew_bad wB oth own HN'.out).mono ?_
  rintro e w1 ⟨rfl, rfl⟩
  go_wp2_with fail
  refine (rNew_bad _ oth own HN'.out).mono ?_
  rintro e w2 ⟨rfl, hb⟩
  have hst := (Step.refl [] wB oB).below hb 36
  have hU2 := HU1.out.step hst (by simp)
  have stA := (Step.refl [] w2 (ext oB wB.heap.size 36)).alloc (.cells zero11 32) 36
  have hz := Blk.new w2 32 zero11
  have hU3 := hU2.step stA (by simp)
  have hzo : ext (ext oB wB.heap.size 36) w2.heap.size 36 w2.heap.size = 36 := ext_ge (Nat.le_refl _)
  have HZ := Lib.hid hz; have HZO := Lib.hid hzo; have HU3 := Lib.hid hU3
  clear hst hU2 stA hz hU3 hzo hb HU1
  generalize ext (ext oB wB.heap.size 36) w2.heap.size 36 = o3 at HZO HU3
  go_upto_region 9 with (refine wpList_store_rc (c := rNew 0 0) (v := rv0) rfl (.tmp 15) (.tmp 53) rfl rfl rfl HZ.out rfl ?_)
  have hz := HZ.out.setRow (rcells (rNew 0 0) rv0)
  have stz := step_setRow (W := w2.alloc (.cells zero11 32)) HZO.out (rcells (rNew 0 0) rv0)
  have hU4 := HU3.out.step stz (by simp)
  obtain ⟨w4, hw4⟩ : ∃ w4, w4 = (w2.alloc (.cells zero11 32)).setRow w2.heap.size (rcells (rNew 0 0) rv0) := ⟨_, rfl⟩
  rw [← hw4] at hz stz hU4
  unfold zero11 at hw4
  rw [← hw4]
  generalize w2.heap.size = g at hz HZO ⊢
  have HZ := Lib.hid hz; have HU4 := Lib.hid hU4
  clear hz stz hU4 HU3 hw4
  go_upto_region 11 with fail
  have hU5 := HU4.out.step ((Step.refl [] w4 o3).drew) (by simp)
  have LK0 : w4.drew.rangeAt g 0 (rcells (rNew 0 0) rv0).toList := HZ.out.drew.range
  refine wp_region_tillK (S0 := fun w' => w'.rangeAt g 0 (rcells (rNew 0 0) rv0).toList) (st := 7) (by kernel_rfl) (fun _ _ _ _ _ h => h) ?_
  intro KQ HQ HKN
  obtain ⟨w5, hw5⟩ : ∃ w5, w5 = w4.drew := ⟨_, rfl⟩
  have hlg : g < w5.heap.size := by rw [hw5]; exact HZ.out.lt
  rw [← hw5] at hU5 LK0 ⊢
  have LK := LK0
  clear LK0 hw5
  refine wpAnyG_take (i := 0) (v := ?_) rfl (by kernel_rfl) (by kernel_rfl) (by kernel_rfl) (by kernel_rfl) (fun _ _ _ h => HQ.out _ _ _ _ _ h) (Or.inl ⟨by rfl, ?_⟩) (.inr LK) ?_
  rotate_left
  · intro w' _; go_simp; try with_reducible rfl
  simp only [Act.put, List.getElem_toArray, List.getElem_cons_zero, List.setIfInBounds_toArray, List.set_cons_zero, List.set_cons_succ]
  refine wpAnyG_take (i := 1) (v := ?_) rfl (by kernel_rfl) (by kernel_rfl) (by kernel_rfl) (by kernel_rfl) (fun _ _ _ h => HQ.out _ _ _ _ _ h) (Or.inl ⟨by rfl, ?_⟩) (.inr LK) ?_
  rotate_left
  · intro w' _; go_simp; try with_reducible rfl
  simp only [Act.put, List.getElem_toArray, List.getElem_cons_zero, List.getElem_cons_succ, List.setIfInBounds_toArray, List.set_cons_zero, List.set_cons_succ]
  refine wpAnyG_take (i := 2) (v := ?_) rfl (by kernel_rfl) (by kernel_rfl) (by kernel_rfl) (by kernel_rfl) (fun _ _ _ h => HQ.out _ _ _ _ _ h) (Or.inl ⟨by rfl, ?_⟩) (.inr LK) ?_
  rotate_left
  · intro w' _; go_simp; try with_reducible rfl
  simp only [Act.put, List.getElem_toArray, List.getElem_cons_zero, List.getElem_cons_succ, List.setIfInBounds_toArray, List.set_cons_zero, List.set_cons_succ]
  refine wpAnyG_load (i := 3) (v := .agg (rcells (rNew 0 0) rv0)) rfl rfl (by kernel_rfl) (by kernel_rfl) (by kernel_rfl) (by kernel_rfl) (by kernel_rfl) (by kernel_rfl) (fun _ _ _ h => HQ.out _ _ _ _ _ h) (yields_rc (by rfl) (.tmp 15) rfl g 0 rfl _ _ (fun _ h => h)) LK ?_
  simp only [Act.put, List.getElem_toArray, List.getElem_cons_zero, List.getElem_cons_succ, List.setIfInBounds_toArray, List.set_cons_zero, List.set_cons_succ]
  refine wpAnyG_take (i := 4) (v := ?_) rfl (by kernel_rfl) (by kernel_rfl) (by kernel_rfl) (by kernel_rfl) (fun _ _ _ h => HQ.out _ _ _ _ _ h) (Or.inl ⟨by rfl, ?_⟩) (.inr LK) ?_
  rotate_left
  · intro w' _; go_simp; try with_reducible rfl
  simp only [Act.put, List.getElem_toArray, List.getElem_cons_zero, List.getElem_cons_succ, List.setIfInBounds_toArray, List.set_cons_zero, List.set_cons_succ]
  have z0 : w5.cell? ⟨w.heap.size, 1, none⟩ = some (.pointer none) := (hU5.b0.cell 1).trans rfl
  have z1 := hU5.b0.frozen 1
  have sP : Step [21] w5 o3 (w5.setCell ⟨w.heap.size, 1, none⟩ (.pointer none)) o3 := (Step.refl _ _ _).setCell (.inr (by show o3 w.heap.size ∈ [21]; rw [hU5.t0]; simp)) _
  have LK6 := rangeAt_step sP LK hlg (by rw [HZO.out]; decide)
  have th6 := there_step sP hU5.th hU5.lt (by rw [hU5.t1]; decide)
  have TH6 : Hid ((w5.setCell ⟨w.heap.size, 1, none⟩ (.pointer none)).there (w.heap.size + 1) 11 11) := Lib.hid (fun j hj => by
    have := th6 (11 + j) (by omega)
    rwa [Nat.zero_add] at this)
  have HP1 := Lib.hid (hU5.put (k := 1) (by decide) (rNew 0 0) rv0)
  have hbl := hU5.b0.lt
  refine wpAnyG_ready (rs := [5]) (by kernel_rfl) (by simp) ?_
  refine AllReadyG.cons rfl (fun K hK => ?_) AllReadyG.nil
  go_simp
  refine hK.out _ _ (.inr LK6) ?_
  clear hK K
  refine wpAnyG_ready (rs := [6]) (by kernel_rfl) (by simp) ?_
  refine AllReadyG.cons rfl (fun K hK => ?_) AllReadyG.nil
  go_simp
  refine hK.out _ _ (.inr LK6) ?_
  clear hK K
  refine wpAnyG_ready (rs := [7]) (by kernel_rfl) (by simp) ?_
  refine AllReadyG.cons rfl (fun K hK => ?_) AllReadyG.nil
  simp only [Act.put, List.getElem_toArray, List.getElem_cons_zero, List.getElem_cons_succ]
  rw [if_pos (by rfl)]
  refine wp_store_rcm (.tmp 70) (.tmp 68) rfl (w.heap.size + 1) 11 (rNew 0 0) rv0 rfl rfl TH6.out ?_
  refine hK.out _ _ (.inl rfl) ?_
  clear hK K
  refine wpAnyG_done (by kernel_rfl) (HKN.out _ _ ?_) _
  clear HKN HQ KQ z0 z1 sP LK6 th6 TH6 hbl LK hU5 hlg HZ HZO HU4
  obtain ⟨wD, hwB⟩ : ∃ wB, wB = (w5.setCell ⟨w.heap.size, 1, none⟩ (.pointer none)).setCells (w.heap.size + 1) 11 (rcells (rNew 0 0) rv0).toList := ⟨_, rfl⟩
  rw [← hwB]
  have HU2 : Hid (UB w wD o3 w.heap.size) := Lib.hid (by rw [hwB]; exact HP1.out)
  clear hwB HP1
  generalize o3 = oD at HU2
  go_wp2_with fail
  rw [rounds_succ]
  have c0 : wD.cell? ⟨w.heap.size, 0, none⟩ = some (.pointer none) := (HU2.out.b0.cell 0).trans rfl
  go_wp2_with fail
  refine (awake_any _).mono ?_
  rintro e w9 ⟨rfl, hb9⟩
  go_wp2_with fail
  go_ret
  exact ⟨rfl, HU2.out.bl.trans (hb9.mono HU2.out.bl.size)⟩
/-- ChannelTells, whatever the beginnings, the tick and the script. -/
theorem ChannelTells_walk (w : World) (own oth tick : Int) (ht0 : -9223372036854775808 ≤ tick) (ht1 : tick ≤ 9223372036854775807) (A : Option Addr) (n c : Nat) (ps : List OpV) (hP : OpsAt w (fun _ => 0) 0 A n c ps) :
    Calls Try.prog 3 #[.int .i64 own, .int .i64 oth, .int .i64 tick, .slice A n c] w fun e w' => e = .returned (.bool true) ∧ Below w.heap.size w w' := by
  by_cases h : own < 0 ∨ 1099511627776 < own ∨ oth < 0 ∨ 1099511627776 < oth
  · exact ChannelTells_bad w own oth tick h A n c
  · exact ChannelTells_good w own oth tick (by omega) (by omega) (by omega) (by omega) ht0 ht1 A n c ps hP
end Go.Proofs.Ythjjipcbpmdfnaa
