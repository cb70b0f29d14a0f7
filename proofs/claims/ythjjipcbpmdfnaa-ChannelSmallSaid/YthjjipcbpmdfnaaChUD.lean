/-
  WALK of ChannelTells, good beginnings.
-/
import Derived.Test.YthjjipcbpmdfnaaChUY
namespace Go.Proofs.Ythjjipcbpmdfnaa
open Go.RowKit

theorem setCells_new {ts : List Nat} {w : World} {o : Own} {z : Nat} {oW : Own} : ∀ {W : World}, Step ts w o W oW → w.heap.size ≤ z → ∀ (vs : List Value) (off : Nat), Step ts w o (W.setCells z off vs) oW
  | _W, h, _hz, [], _off => h
  | W, h, hz, u :: vs, off => setCells_new (W := W.setCell ⟨z, off, none⟩ u) (h.setCell (.inl hz) u) hz vs (off + 1)
theorem madeC_snoc {w w' : World} {o o' : Own} {τ π n' c' m d : Nat} {A' B : Option Addr} {vs : List Value} {ps : List (List UInt8)} {q : List UInt8} {ts : List Nat} (hl : vs.length = ps.length)
    (hp : ∀ (i : Nat) (p : List UInt8), ps[i]? = some p → ∃ A' c', vs[i]? = some (.slice A' p.length c') ∧ Sl w o π 1 A' p.length c' (byts p)) (hs : Step ts w o w' o') (h10 : π ∉ ts) (hm : m = q.length)
    (hr : Row w' o' τ 41 1 A' n' c' (vs ++ [.slice B m d])) (hB : Sl w' o' π 1 B m d (byts q)) : MadeC w' o' τ π A' n' c' (ps ++ [q]) := by
  subst hm
  refine ⟨_, hr, by simp [hl], fun i p hi => ?_⟩
  rcases Nat.lt_or_ge i ps.length with h | h
  · rw [List.getElem?_append_left h] at hi
    obtain ⟨A2, c2, h1, h2⟩ := hp i p hi
    exact ⟨A2, c2, by rw [List.getElem?_append_left (by omega)]; exact h1, h2.step hs h10⟩
  · rw [List.getElem?_append_right h] at hi
    have hi0 : i - ps.length = 0 := by
      rcases Nat.eq_zero_or_pos (i - ps.length) with h0 | h0
      · exact h0
      · rw [List.getElem?_eq_none (by simp <;> omega)] at hi; cases hi
    rw [hi0] at hi
    simp only [List.getElem?_cons_zero, Option.some.injEq] at hi
    subst hi
    exact ⟨B, d, by rw [List.getElem?_append_right (by omega), show i - vs.length = 0 by omega]; rfl, hB⟩
theorem updU_twice (v : Nat → UV) (s : Nat) (u u2 : UV) : updU (updU v s u) s u2 = updU v s u2 := by
  funext i
  unfold updU
  split <;> rfl
theorem setRow_new {ts : List Nat} {w W : World} {o oW : Own} {z : Nat} (h : Step ts w o W oW) (hz : w.heap.size ≤ z) (cs : Array Value) : Step ts w o (W.setRow z cs) oW :=
  ⟨h.os, h.tape, h.output, by simpa using h.size, h.own, fun k hk hn => (setRow_other W z k cs (by omega)).trans (h.block k hk hn)⟩
/-- What the reference's step has left: its answer stands in a cell of its own. -/
def M42 (w : World) (o : Own) (W : World) (z : Nat) (r : RCh) (v : RV) : Prop := ∃ oz, Step [] w o W oz ∧ Blk W z 32 (rcells r v) ∧ oz z = 39 ∧ RChIn W oz 40 40 r v
theorem ch_row2 : ∃ d, Try.prog.underlying 32 = some d ∧ d.isRow = true ∧ (Try.prog.info? 32).map (·.size) = some 11 := ch_row
theorem yields_rc {ops : Array Oper} {S : World → Prop} {op : Oper} {a : Act} (hw : Region.wanted op (yielded ops a.tmps) = true) (x : Operand) (ho : op.op = .load 32 x) (b o : Nat) (hx : a.eval x = .pointer (some ⟨b, o, none⟩)) (c : RCh) (v : RV) (hS : ∀ w, S w → w.rangeAt b o (rcells c v).toList) : YieldsIf Try.prog ops S op (.agg (rcells c v)) a := by
  obtain ⟨d, h1, h2, h3⟩ := ch_row
  have := yieldsIf_load_mid (P := Try.prog) hw 32 x ho b o hx (rcells c v).toList d hS h1 h2 h3
  simpa using this
theorem wp_store_rcm {op : Oper} {a : Act} {w : World} {K : Act → World → Prop} {Q : Exit → Act → World → Prop} (x y : Operand) (ho : op.op = .store 32 x y) (b o : Nat) (c : RCh) (v : RV) (hx : a.eval x = .pointer (some ⟨b, o, none⟩)) (hy : a.eval y = .agg (rcells c v)) (ht : w.there b o 11)
    (h : K (a.put op.dst undef) (w.setCells b o (rcells c v).toList)) : op.wp Try.prog a w K Q := by
  obtain ⟨d, -, -, h3⟩ := ch_row
  exact wp_store_mid 32 x y ho b o (rcells c v) hx hy ht h3 (by simp [rcells, Value.oneCell']) h

theorem wpList_store_rcm {ops : Array Oper} {rest : List Oper} {op : Oper} {a : Act} {w : World} {Q : Exit → Act → World → Prop} (hgd : op.guard = none) (x y : Operand) (ho : op.op = .store 32 x y) (b o : Nat) (c : RCh) (v : RV) (hx : a.eval x = .pointer (some ⟨b, o, none⟩)) (hy : a.eval y = .agg (rcells c v)) (ht : w.there b o 11)
    (h : wpList Try.prog ops Q rest (a.put op.dst undef) (w.setCells b o (rcells c v).toList)) : wpList Try.prog ops Q (op :: rest) a w :=
  wpList_plain hgd fun _ hK => wp_store_rcm x y ho b o c v hx hy ht (hK _ _ h)
theorem Blk.setCells_ {g : Nat} {t : TypeId} : ∀ (vs : List Value) (off : Nat) (W : World) (cs : Array Value), Blk W g t cs → off + vs.length ≤ cs.size → ∃ ds : Array Value, Blk (W.setCells g off vs) g t ds ∧ ds.size = cs.size ∧ (∀ j, j < off → ds[j]? = cs[j]?) ∧ ∀ j, j < vs.length → ds[off + j]? = vs[j]?
  | [], off, W, cs, h, _ => ⟨cs, h, rfl, fun _ _ => rfl, fun j hj => absurd hj (Nat.not_lt_zero _)⟩
  | u :: vs, off, W, cs, h, hl => by
    simp only [List.length_cons] at hl
    obtain ⟨ds, h1, h2, h3, h4⟩ := Blk.setCells_ vs (off + 1) (W.setCell ⟨g, off, none⟩ u) (cs.setIfInBounds off u) (h.set_ off u) (by rw [Array.size_setIfInBounds]; omega)
    rw [Array.size_setIfInBounds] at h2
    refine ⟨ds, h1, h2, fun j hj => ?_, fun j hj => ?_⟩
    · rw [h3 j (by omega), Array.getElem?_setIfInBounds_ne (by omega)]
    · cases j with
      | zero => rw [Nat.add_zero, h3 off (by omega), Array.getElem?_setIfInBounds_self_of_lt (by omega)]; rfl
      | succ j =>
        have := h4 j (by simpa using hj)
        rw [show off + (j + 1) = off + 1 + j by omega, this]; rfl
theorem Blk.store11 {W : World} {g : Nat} {t : TypeId} {cs : Array Value} (h : Blk W g t cs) (hs : cs.size = 11) (c : RCh) (v : RV) : Blk (W.setCells g 0 (rcells c v).toList) g t (rcells c v) := by
  obtain ⟨ds, h1, h2, -, h4⟩ := Blk.setCells_ (rcells c v).toList 0 W cs h (by rw [hs]; exact Nat.le_refl 11)
  have : ds = rcells c v := by
    apply Array.ext_getElem?
    intro j
    rcases Nat.lt_or_ge j 11 with hj | hj
    · have := h4 j hj
      rw [Nat.zero_add] at this
      rw [this]; simp
    · rw [Array.getElem?_eq_none (by omega), Array.getElem?_eq_none (by show 11 ≤ j; exact hj)]
  rw [← this]; rw [← this] at h1; exact h1
theorem blk_setCells {g z : Nat} {t : TypeId} {cs : Array Value} : ∀ {W : World}, Blk W g t cs → g ≠ z → ∀ (vs : List Value) (off : Nat), Blk (W.setCells z off vs) g t cs
  | W, h, hne, vs, off => by
    have st := setCells_step z (fun k => if k = z then 1 else 0) vs off W
    exact h.step st (by simp [hne])
theorem Blk.there11 {W : World} {g : Nat} {t : TypeId} {cs : Array Value} (h : Blk W g t cs) (hs : cs.size = 11) : W.there g 0 11 := fun j hj => ⟨by rw [Nat.zero_add, h.cell, Array.getElem?_eq_getElem (by omega)]; rfl, h.frozen _⟩

set_option maxRecDepth 100000 in
set_option maxHeartbeats 40000000 in
theorem ChannelTells_good (w : World) (own oth tick : Int) (ho0 : 0 ≤ own) (ho1 : own ≤ 1099511627776) (hp0 : 0 ≤ oth) (hp1 : oth ≤ 1099511627776) (ht0 : -9223372036854775808 ≤ tick) (ht1 : tick ≤ 9223372036854775807) (A : Option Addr) (n c : Nat) (ps : List OpV) (hP : OpsAt w (fun _ => 0) 0 A n c ps) :
    Calls Try.prog 3 #[.int .i64 own, .int .i64 oth, .int .i64 tick, .slice A n c] w fun e w' => e = .returned (.bool true) ∧ Below w.heap.size w w' := by
  have hc1 := hP.2.1; have hc2 := hP.2.2.1
  unfold maxLen at hc2
  have hlen : ps.length = n := hP.1
  have hAn : A = none → n = 0 := by
    intro h
    rcases Nat.eq_zero_or_pos n with h0 | h0
    · exact h0
    · obtain ⟨g, off, hA, -⟩ := hP.2.2.2 h0; rw [h] at hA; cases hA
  obtain ⟨m0, hm0'⟩ : ∃ m0 : Nat, m0 = min n 90 := ⟨_, rfl⟩
  have hmn : m0 ≤ n := by omega
  have hm2 : m0 ≤ 90 := by omega
  have hmin : min (n : Int) 90 = (m0 : Int) := by omega
  clear hm0'
  have HP := Lib.hid hP; have HLN := Lib.hid hlen; have HAN := Lib.hid hAn
  clear hP hlen hAn
  go_enter Try.func3, Try.ntmps3
  go_wp2_with fail
  obtain ⟨w0, o0, hw0, hU0⟩ := UI.start w (fun _ => 0) (fun i => if i = 0 then own else oth) (fun i => if i = 0 then oth else own)
  rw [show w.heap.size + 1 + 1 = w.heap.size + 2 from rfl]
  unfold zero22 at hw0
  rw [hw0]
  have HU := Lib.hid hU0
  clear hw0 hU0
  refine wp_loop_rounds 3 ?_
  rw [rounds_succ]
  go_wp2_with fail
  refine (ChNew_ok w0 o0 (TU 0) (TU_ok (by decide)) own oth ho0 ho1 hp0 hp1).mono ?_
  rintro e w1 ⟨e0, o1, rfl, hst, hC⟩
  have HC := Lib.hid hC
  have HU1' := Lib.hid ((HU.out.re (bs' := fun _ => e0) (fun i hi => absurd hi (Nat.not_lt_zero _))).step hst (by simp) (by decide))
  clear hst hC HU
  go_wp2_with fail
  refine (rNew_any w1 own oth ho0 ho1 hp0 hp1).mono ?_
  rintro e w2 ⟨rfl, hb⟩
  have hst := (Step.refl [] w1 o1).below hb 36
  have hC2 := HC.out.step hst (by simp) (by simp) (by simp) (by simp)
  have hU2 := HU1'.out.step hst (by simp) (by decide)
  have stA := (Step.refl [] w2 (ext o1 w1.heap.size 36)).alloc (.cells zero11 32) 36
  have hz := Blk.new w2 32 zero11
  have hC3 := hC2.step stA (by simp) (by simp) (by simp) (by simp)
  have hU3 := hU2.step stA (by simp) (by decide)
  have hzo : ext (ext o1 w1.heap.size 36) w2.heap.size 36 w2.heap.size = 36 := ext_ge (Nat.le_refl _)
  have HZ := Lib.hid hz; have HZO := Lib.hid hzo; have HC3 := Lib.hid hC3; have HU3 := Lib.hid hU3
  clear hst hC2 hU2 stA hz hC3 hU3 hzo HC HU1' hb
  generalize ext (ext o1 w1.heap.size 36) w2.heap.size 36 = o3 at HZO HC3 HU3
  go_upto_region 9 with (refine wpList_store_rc (c := rNew own oth) (v := rv0) rfl (.tmp 15) (.tmp 53) rfl rfl rfl HZ.out rfl ?_)
  have hz := HZ.out.setRow (rcells (rNew own oth) rv0)
  have stz := step_setRow (W := w2.alloc (.cells zero11 32)) HZO.out (rcells (rNew own oth) rv0)
  have hC4 := HC3.out.step stz (by show 1 + 10 * 0 ∉ _; decide) (by show 2 + 10 * 0 ∉ _; decide) (by show 3 + 10 * 0 ∉ _; decide) (fun n _ => by show 1000 + 2 * n + 0 ∉ _; simp; omega)
  have hU4 := HU3.out.step stz (by simp) (by decide)
  obtain ⟨w4, hw4⟩ : ∃ w4, w4 = (w2.alloc (.cells zero11 32)).setRow w2.heap.size (rcells (rNew own oth) rv0) := ⟨_, rfl⟩
  rw [← hw4] at hz stz hC4 hU4
  unfold zero11 at hw4
  rw [← hw4]
  generalize w2.heap.size = g at hz HZO ⊢
  have HZ := Lib.hid hz; have HC4 := Lib.hid hC4; have HU4 := Lib.hid hU4
  clear hz stz hC4 hU4 HC3 HU3 hw4
  go_upto_region 11 with fail
  have hU5 := HU4.out.step ((Step.refl [] w4 o3).drew) (by simp) (by decide)
  have hC5 := HC4.out.step ((Step.refl [] w4 o3).drew) (by simp) (by simp) (by simp) (by simp)
  have LK0 : w4.drew.rangeAt g 0 (rcells (rNew own oth) rv0).toList := HZ.out.drew.range
  have hgz : g ≠ w.heap.size := fun e => Blk.ne_ (show Blk w4.drew g _ _ from HZ.out) hU5.b0 (by decide) e
  refine wp_region_tillK (S0 := fun w' => w'.rangeAt g 0 (rcells (rNew own oth) rv0).toList) (st := 7) (by kernel_rfl) (fun _ _ _ _ _ h => h) ?_
  intro KQ HQ HKN
  obtain ⟨w5, hw5⟩ : ∃ w5, w5 = w4.drew := ⟨_, rfl⟩
  have hlg : g < w5.heap.size := by rw [hw5]; exact HZ.out.lt
  rw [← hw5] at hU5 hC5 LK0 ⊢
  have LK := LK0
  clear LK0 hw5
  refine wpAnyG_take (i := 0) (v := ?_) rfl (by kernel_rfl) (by kernel_rfl) (by kernel_rfl) (by kernel_rfl) (fun _ _ _ h => HQ.out _ _ _ _ _ h) (Or.inl ⟨by rfl, ?_⟩) (.inr LK) ?_
  rotate_left
  · intro w' _; go_simp; try with_reducible rfl
  simp only [Act.put, List.getElem_toArray, List.getElem_cons_zero, List.setIfInBounds_toArray, List.set_cons_zero, List.set_cons_succ]
  refine wpAnyG_take (i := 1) (v := ?_) rfl (by kernel_rfl) (by kernel_rfl) (by kernel_rfl) (by kernel_rfl) (fun _ _ _ h => HQ.out _ _ _ _ _ h) (Or.inl ⟨by rfl, ?_⟩) (.inr LK) ?_
  rotate_left
  · intro w' _; go_simp; try with_reducible rfl
  simp only [Act.put, List.getElem_toArray, List.getElem_cons_zero, List.getElem_cons_succ, List.setIfInBounds_toArray, List.set_cons_zero, List.set_cons_succ]
  refine wpAnyG_take (i := 2) (v := ?_) rfl (by kernel_rfl) (by kernel_rfl) (by kernel_rfl) (by kernel_rfl) (fun _ _ _ h => HQ.out _ _ _ _ _ h) (Or.inl ⟨by rfl, ?_⟩) (.inr LK) ?_
  rotate_left
  · intro w' _; go_simp; try with_reducible rfl
  simp only [Act.put, List.getElem_toArray, List.getElem_cons_zero, List.getElem_cons_succ, List.setIfInBounds_toArray, List.set_cons_zero, List.set_cons_succ]
  refine wpAnyG_load (i := 3) (v := .agg (rcells (rNew own oth) rv0)) rfl rfl (by kernel_rfl) (by kernel_rfl) (by kernel_rfl) (by kernel_rfl) (by kernel_rfl) (by kernel_rfl) (fun _ _ _ h => HQ.out _ _ _ _ _ h) (yields_rc (by rfl) (.tmp 15) rfl g 0 rfl _ _ (fun _ h => h)) LK ?_
  simp only [Act.put, List.getElem_toArray, List.getElem_cons_zero, List.getElem_cons_succ, List.setIfInBounds_toArray, List.set_cons_zero, List.set_cons_succ]
  refine wpAnyG_take (i := 4) (v := ?_) rfl (by kernel_rfl) (by kernel_rfl) (by kernel_rfl) (by kernel_rfl) (fun _ _ _ h => HQ.out _ _ _ _ _ h) (Or.inl ⟨by rfl, ?_⟩) (.inr LK) ?_
  rotate_left
  · intro w' _; go_simp; try with_reducible rfl
  simp only [Act.put, List.getElem_toArray, List.getElem_cons_zero, List.getElem_cons_succ, List.setIfInBounds_toArray, List.set_cons_zero, List.set_cons_succ]
  have z0 : w5.cell? ⟨w.heap.size, 0, none⟩ = some (.pointer none) := (hU5.b0.cell 0).trans rfl
  have z1 := hU5.b0.frozen 0
  have sP : Step [21] w5 o3 (w5.setCell ⟨w.heap.size, 0, none⟩ (.pointer (some ⟨e0, 0, none⟩))) o3 := (Step.refl _ _ _).setCell (.inr (by show o3 w.heap.size ∈ [21]; rw [hU5.t0]; simp)) _
  have LK6 := rangeAt_step sP LK hlg (by rw [HZO.out]; decide)
  have th6 := there_step sP hU5.th hU5.lt (by rw [hU5.t1]; decide)
  have TH6 : Hid ((w5.setCell ⟨w.heap.size, 0, none⟩ (.pointer (some ⟨e0, 0, none⟩))).there (w.heap.size + 1) 0 11) := Lib.hid (fun j hj => by
    have := th6 (0 + j) (by omega)
    rwa [Nat.zero_add] at this)
  have hP := hU5.put (by decide) hC5
  have HP1 := Lib.hid hP
  have hbl := hU5.b0.lt
  refine wpAnyG_ready (rs := [5]) (by kernel_rfl) (by simp) ?_
  refine AllReadyG.cons rfl (fun K hK => ?_) AllReadyG.nil
  go_simp
  refine hK.out _ _ (.inr LK6) ?_
  clear hK K
  refine wpAnyG_ready (rs := [6]) (by kernel_rfl) (by simp) ?_
  refine AllReadyG.cons rfl (fun K hK => ?_) AllReadyG.nil
  go_simp
  refine hK.out _ _ (.inr LK6) ?_
  clear hK K
  refine wpAnyG_ready (rs := [7]) (by kernel_rfl) (by simp) ?_
  refine AllReadyG.cons rfl (fun K hK => ?_) AllReadyG.nil
  simp only [Act.put, List.getElem_toArray, List.getElem_cons_zero, List.getElem_cons_succ]
  rw [if_pos (by rfl)]
  refine wp_store_rcm (.tmp 70) (.tmp 68) rfl (w.heap.size + 1) 0 (rNew own oth) rv0 rfl rfl TH6.out ?_
  refine hK.out _ _ (.inl rfl) ?_
  clear hK K
  refine wpAnyG_done (by kernel_rfl) (HKN.out _ _ ?_) _
  clear HKN HQ KQ z0 z1 sP LK6 th6 TH6 hP hbl LK hU5 hC5 hgz hlg HZ HZO HC4 HU4
  obtain ⟨wB, hwB⟩ : ∃ wB, wB = (w5.setCell ⟨w.heap.size, 0, none⟩ (.pointer (some ⟨e0, 0, none⟩))).setCells (w.heap.size + 1) 0 (rcells (rNew own oth) rv0).toList := ⟨_, rfl⟩
  rw [← hwB]
  have HU1 : Hid (UI w wB o3 w.heap.size 1 (fun _ => e0) (fun i => if i = 0 then own else oth) (fun i => if i = 0 then oth else own)) := Lib.hid (by rw [hwB]; exact HP1.out)
  clear hwB HP1
  generalize o3 = oB at HU1
  go_wp2_with fail
  rw [rounds_succ]
  go_wp2_with fail
  refine (ChNew_ok wB oB (TU 1) (TU_ok (by decide)) oth own hp0 hp1 ho0 ho1).mono ?_
  rintro e w1 ⟨e1, o1, rfl, hst, hC⟩
  have HC := Lib.hid hC
  have HU1' := Lib.hid ((HU1.out.re (bs' := fun i => if i = 0 then e0 else e1) (fun i (hi : i < 1) => by obtain rfl := Nat.lt_one_iff.1 hi; rfl)).step hst (by simp) (by decide))
  clear hst hC HU1
  go_wp2_with fail
  refine (rNew_any w1 oth own hp0 hp1 ho0 ho1).mono ?_
  rintro e w2 ⟨rfl, hb⟩
  have hst := (Step.refl [] w1 o1).below hb 36
  have hC2 := HC.out.step hst (by simp) (by simp) (by simp) (by simp)
  have hU2 := HU1'.out.step hst (by simp) (by decide)
  have stA := (Step.refl [] w2 (ext o1 w1.heap.size 36)).alloc (.cells zero11 32) 36
  have hz := Blk.new w2 32 zero11
  have hC3 := hC2.step stA (by simp) (by simp) (by simp) (by simp)
  have hU3 := hU2.step stA (by simp) (by decide)
  have hzo : ext (ext o1 w1.heap.size 36) w2.heap.size 36 w2.heap.size = 36 := ext_ge (Nat.le_refl _)
  have HZ := Lib.hid hz; have HZO := Lib.hid hzo; have HC3 := Lib.hid hC3; have HU3 := Lib.hid hU3
  clear hst hC2 hU2 stA hz hC3 hU3 hzo HC HU1' hb
  generalize ext (ext o1 w1.heap.size 36) w2.heap.size 36 = o3 at HZO HC3 HU3
  go_upto_region 9 with (refine wpList_store_rc (c := rNew oth own) (v := rv0) rfl (.tmp 15) (.tmp 53) rfl rfl rfl HZ.out rfl ?_)
  have hz := HZ.out.setRow (rcells (rNew oth own) rv0)
  have stz := step_setRow (W := w2.alloc (.cells zero11 32)) HZO.out (rcells (rNew oth own) rv0)
  have hC4 := HC3.out.step stz (by show 1 + 10 * 1 ∉ _; decide) (by show 2 + 10 * 1 ∉ _; decide) (by show 3 + 10 * 1 ∉ _; decide) (fun n _ => by show 1000 + 2 * n + 1 ∉ _; simp; omega)
  have hU4 := HU3.out.step stz (by simp) (by decide)
  obtain ⟨w4, hw4⟩ : ∃ w4, w4 = (w2.alloc (.cells zero11 32)).setRow w2.heap.size (rcells (rNew oth own) rv0) := ⟨_, rfl⟩
  rw [← hw4] at hz stz hC4 hU4
  unfold zero11 at hw4
  rw [← hw4]
  generalize w2.heap.size = g at hz HZO ⊢
  have HZ := Lib.hid hz; have HC4 := Lib.hid hC4; have HU4 := Lib.hid hU4
  clear hz stz hC4 hU4 HC3 HU3 hw4
  go_upto_region 11 with fail
  have hU5 := HU4.out.step ((Step.refl [] w4 o3).drew) (by simp) (by decide)
  have hC5 := HC4.out.step ((Step.refl [] w4 o3).drew) (by simp) (by simp) (by simp) (by simp)
  have LK0 : w4.drew.rangeAt g 0 (rcells (rNew oth own) rv0).toList := HZ.out.drew.range
  have hgz : g ≠ w.heap.size := fun e => Blk.ne_ (show Blk w4.drew g _ _ from HZ.out) hU5.b0 (by decide) e
  refine wp_region_tillK (S0 := fun w' => w'.rangeAt g 0 (rcells (rNew oth own) rv0).toList) (st := 7) (by kernel_rfl) (fun _ _ _ _ _ h => h) ?_
  intro KQ HQ HKN
  obtain ⟨w5, hw5⟩ : ∃ w5, w5 = w4.drew := ⟨_, rfl⟩
  have hlg : g < w5.heap.size := by rw [hw5]; exact HZ.out.lt
  rw [← hw5] at hU5 hC5 LK0 ⊢
  have LK := LK0
  clear LK0 hw5
  refine wpAnyG_take (i := 0) (v := ?_) rfl (by kernel_rfl) (by kernel_rfl) (by kernel_rfl) (by kernel_rfl) (fun _ _ _ h => HQ.out _ _ _ _ _ h) (Or.inl ⟨by rfl, ?_⟩) (.inr LK) ?_
  rotate_left
  · intro w' _; go_simp; try with_reducible rfl
  simp only [Act.put, List.getElem_toArray, List.getElem_cons_zero, List.setIfInBounds_toArray, List.set_cons_zero, List.set_cons_succ]
  refine wpAnyG_take (i := 1) (v := ?_) rfl (by kernel_rfl) (by kernel_rfl) (by kernel_rfl) (by kernel_rfl) (fun _ _ _ h => HQ.out _ _ _ _ _ h) (Or.inl ⟨by rfl, ?_⟩) (.inr LK) ?_
  rotate_left
  · intro w' _; go_simp; try with_reducible rfl
  simp only [Act.put, List.getElem_toArray, List.getElem_cons_zero, List.getElem_cons_succ, List.setIfInBounds_toArray, List.set_cons_zero, List.set_cons_succ]
  refine wpAnyG_take (i := 2) (v := ?_) rfl (by kernel_rfl) (by kernel_rfl) (by kernel_rfl) (by kernel_rfl) (fun _ _ _ h => HQ.out _ _ _ _ _ h) (Or.inl ⟨by rfl, ?_⟩) (.inr LK) ?_
  rotate_left
  · intro w' _; go_simp; try with_reducible rfl
  simp only [Act.put, List.getElem_toArray, List.getElem_cons_zero, List.getElem_cons_succ, List.setIfInBounds_toArray, List.set_cons_zero, List.set_cons_succ]
  refine wpAnyG_load (i := 3) (v := .agg (rcells (rNew oth own) rv0)) rfl rfl (by kernel_rfl) (by kernel_rfl) (by kernel_rfl) (by kernel_rfl) (by kernel_rfl) (by kernel_rfl) (fun _ _ _ h => HQ.out _ _ _ _ _ h) (yields_rc (by rfl) (.tmp 15) rfl g 0 rfl _ _ (fun _ h => h)) LK ?_
  simp only [Act.put, List.getElem_toArray, List.getElem_cons_zero, List.getElem_cons_succ, List.setIfInBounds_toArray, List.set_cons_zero, List.set_cons_succ]
  refine wpAnyG_take (i := 4) (v := ?_) rfl (by kernel_rfl) (by kernel_rfl) (by kernel_rfl) (by kernel_rfl) (fun _ _ _ h => HQ.out _ _ _ _ _ h) (Or.inl ⟨by rfl, ?_⟩) (.inr LK) ?_
  rotate_left
  · intro w' _; go_simp; try with_reducible rfl
  simp only [Act.put, List.getElem_toArray, List.getElem_cons_zero, List.getElem_cons_succ, List.setIfInBounds_toArray, List.set_cons_zero, List.set_cons_succ]
  have z0 : w5.cell? ⟨w.heap.size, 1, none⟩ = some (.pointer none) := (hU5.b0.cell 1).trans rfl
  have z1 := hU5.b0.frozen 1
  have sP : Step [21] w5 o3 (w5.setCell ⟨w.heap.size, 1, none⟩ (.pointer (some ⟨e1, 0, none⟩))) o3 := (Step.refl _ _ _).setCell (.inr (by show o3 w.heap.size ∈ [21]; rw [hU5.t0]; simp)) _
  have LK6 := rangeAt_step sP LK hlg (by rw [HZO.out]; decide)
  have th6 := there_step sP hU5.th hU5.lt (by rw [hU5.t1]; decide)
  have TH6 : Hid ((w5.setCell ⟨w.heap.size, 1, none⟩ (.pointer (some ⟨e1, 0, none⟩))).there (w.heap.size + 1) 11 11) := Lib.hid (fun j hj => by
    have := th6 (11 + j) (by omega)
    rwa [Nat.zero_add] at this)
  have hP := hU5.put (by decide) hC5
  have HP1 := Lib.hid hP
  have hbl := hU5.b0.lt
  refine wpAnyG_ready (rs := [5]) (by kernel_rfl) (by simp) ?_
  refine AllReadyG.cons rfl (fun K hK => ?_) AllReadyG.nil
  go_simp
  refine hK.out _ _ (.inr LK6) ?_
  clear hK K
  refine wpAnyG_ready (rs := [6]) (by kernel_rfl) (by simp) ?_
  refine AllReadyG.cons rfl (fun K hK => ?_) AllReadyG.nil
  go_simp
  refine hK.out _ _ (.inr LK6) ?_
  clear hK K
  refine wpAnyG_ready (rs := [7]) (by kernel_rfl) (by simp) ?_
  refine AllReadyG.cons rfl (fun K hK => ?_) AllReadyG.nil
  simp only [Act.put, List.getElem_toArray, List.getElem_cons_zero, List.getElem_cons_succ]
  rw [if_pos (by rfl)]
  refine wp_store_rcm (.tmp 70) (.tmp 68) rfl (w.heap.size + 1) 11 (rNew oth own) rv0 rfl rfl TH6.out ?_
  refine hK.out _ _ (.inl rfl) ?_
  clear hK K
  refine wpAnyG_done (by kernel_rfl) (HKN.out _ _ ?_) _
  clear HKN HQ KQ z0 z1 sP LK6 th6 TH6 hP hbl LK hU5 hC5 hgz hlg HZ HZO HC4 HU4
  obtain ⟨wD, hwB⟩ : ∃ wB, wB = (w5.setCell ⟨w.heap.size, 1, none⟩ (.pointer (some ⟨e1, 0, none⟩))).setCells (w.heap.size + 1) 11 (rcells (rNew oth own) rv0).toList := ⟨_, rfl⟩
  rw [← hwB]
  have HU2 : Hid (UI w wD o3 w.heap.size 2 (fun i => if i = 0 then e0 else e1) (fun i => if i = 0 then own else oth) (fun i => if i = 0 then oth else own)) := Lib.hid (by rw [hwB]; exact HP1.out)
  clear hwB HP1
  generalize o3 = oD at HU2
  go_wp2_with fail
  rw [rounds_succ]
  have c0 : wD.cell? ⟨w.heap.size, 0, none⟩ = some (.pointer (some ⟨e0, 0, none⟩)) := (HU2.out.b0.cell 0).trans rfl
  go_upto_region 16 with fail
  clear c0
  have HT := Lib.hid (HU2.out.done (fun s hs => by
    rcases (show s = 0 ∨ s = 1 by omega) with rfl | rfl
    · exact ⟨ho0, ho1, hp0, hp1⟩
    · exact ⟨hp0, hp1, ho0, ho1⟩))
  clear HU2
  go_cut [82, 83, 84] (fun s82 s83 s84 wx => s82 = .slice A m0 c ∧ s83 = .int .i64 m0 ∧ s84 = .int .i64 0 ∧ wx = wD)
  case first =>
    cases A with
    | none =>
      obtain rfl := HAN.out rfl
      obtain rfl : m0 = 0 := by omega
      go_wp2_with fail
      go_meet
      exact ⟨rfl, rfl, rfl, rfl⟩
    | some ad =>
      clear HAN
      go_wp2_with fail
      go_meet
      exact ⟨rfl, rfl, rfl, rfl⟩
  case rest =>
    obtain ⟨rfl, rfl, rfl, rfl⟩ := hcut
    go_wp2_with fail
    go_loopw [84, 2] (fun s84 s2 wr => ∃ (k : Nat) (ok : Own) (v : Nat → UV) (t : Int), k ≤ m0 ∧ s84 = .int .i64 k ∧ s2 = .int .i64 t ∧ -9223372036854775808 ≤ t ∧ t ≤ 9223372036854775807 ∧ Hid (US w wr ok w.heap.size v k)) (fun s84 _ _ => m0 - (intOf s84).toNat)
    case atStart => exact ⟨0, _, _, tick, Nat.zero_le _, rfl, rfl, ht0, ht1, HT⟩
    case round => as_aux_lemma =>
      obtain ⟨k, ok, v, t, hk, rfl, rfl, htl, hth, HK⟩ := hrel
      clear HT
      by_cases hlt : k < m0
      · obtain ⟨x, hx⟩ : ∃ x, ps[k]? = some x := ⟨_, List.getElem?_eq_getElem (by rw [HLN.out]; omega)⟩
        obtain ⟨g, off, hA, -, hg, hpp⟩ := HP.out.2.2.2 (by omega)
        obtain ⟨a1, a2, a3, BA, bn, bc, b0, b1, b2, b3, b4, b5⟩ := hpp k x hx
        subst hA
        obtain ⟨K, S, T, B⟩ := x
        simp only at a1 a2 a3 b0 b1 b2 b3 b4
        have b0 := (HK.out.bl.cell (p := ⟨g, off + k * 4, none⟩) hg).trans b0
        have b1 := (HK.out.bl.cell (p := ⟨g, off + k * 4 + 1, none⟩) hg).trans b1
        have b2 := (HK.out.bl.cell (p := ⟨g, off + k * 4 + 2, none⟩) hg).trans b2
        have b3 := (HK.out.bl.cell (p := ⟨g, off + k * 4 + 3, none⟩) hg).trans b3
        have b4 := (b4.re (o' := ok) (τ' := 40) (fun j hj _ => HK.out.ow j hj)).below HK.out.bl
        obtain ⟨s, hs⟩ : ∃ s, s = S % 2 := ⟨_, rfl⟩
        have hs2 : s < 2 := by omega
        have HB := Lib.hid b4; have HBN := Lib.hid b5
        clear b4 b5 hpp hx hg
        go_upto_region 20 with fail
        rw [show ((S : Int) % 2) = (s : Int) by omega]
        clear hs
        have sta := (Step.refl [] wr ok).alloc (.cells (opCells K S T BA bn bc) 43) 39
        have hx0 := Blk.new wr 43 (opCells K S T BA bn bc)
        have hxo : ext ok wr.heap.size 39 wr.heap.size = 39 := ext_ge (Nat.le_refl _)
        have hk1 := HK.out.step sta (by simp)
        have hB1 := HB.out.step sta (by simp)
        have st1 : Step [] (wr.alloc (.cells (opCells K S T BA bn bc) 43)) (ext ok wr.heap.size 39) (wr.alloc (.cells (opCells K S T BA bn bc) 43)).drew (ext ok wr.heap.size 39) := (Step.refl [] _ _).drew
        have hk1 := hk1.step st1 (by simp)
        have hB1 := hB1.step st1 (by simp)
        have hx1 := hx0.step st1 (by simp)
        have HX := Lib.hid hx1; have HXO := Lib.hid hxo; have HK1 := Lib.hid hk1; have HB1 := Lib.hid hB1
        clear b0 b1 b2 b3 HK HB sta hx0 hxo hk1 hB1 hx1 st1
        refine wp_region_tillK (S0 := fun w' => w'.cell? ⟨w.heap.size, s, none⟩ = some (.pointer (some ⟨(v s).b, 0, none⟩)) ∧ w'.rangeAt (w.heap.size + 1) (s * 11) (v s).cells) (st := 8) (by kernel_rfl) (fun _ _ _ _ _ h => h) ?_
        intro KQ HQ HKN
        obtain ⟨w1, hw1⟩ : ∃ w1, w1 = (wr.alloc (.cells (opCells K S T BA bn bc) 43)).drew := ⟨_, rfl⟩
        change wpAnyG _ _ _ _ _ _ _ _ _ (World.drew (wr.alloc (.cells (opCells K S T BA bn bc) 43)))
        rw [← hw1] at HX HK1 HB1 ⊢
        clear hw1
        generalize wr.heap.size = gx at HX HXO HK1 HB1 ⊢
        generalize ext ok gx 39 = o1 at HXO HK1 HB1
        have LK := And.intro (HK1.out.endc hs2) (HK1.out.b1 s hs2)
        have hsI : (s : Int) < 2 := by omega
        have hs0 : (0 : Int) ≤ (s : Int) := by omega
        refine wpAnyG_take (i := 0) (v := ?_) rfl (by kernel_rfl) (by kernel_rfl) (by kernel_rfl) (by kernel_rfl) (fun _ _ _ h => HQ.out _ _ _ _ _ h) (Or.inl ⟨by rfl, ?_⟩) (.inr LK) ?_
        rotate_left
        · intro w' _; go_simp; try with_reducible rfl
        simp only [Act.put, List.getElem_toArray, List.getElem_cons_zero, List.setIfInBounds_toArray, List.set_cons_zero, List.set_cons_succ]
        refine wpAnyG_take (i := 1) (v := ?_) rfl (by kernel_rfl) (by kernel_rfl) (by kernel_rfl) (by kernel_rfl) (fun _ _ _ h => HQ.out _ _ _ _ _ h) (Or.inl ⟨by rfl, ?_⟩) (.inr LK) ?_
        rotate_left
        · intro w' _; go_simp; try with_reducible rfl
        simp only [Act.put, List.getElem_toArray, List.getElem_cons_zero, List.getElem_cons_succ, List.setIfInBounds_toArray, List.set_cons_zero, List.set_cons_succ]
        refine wpAnyG_load (i := 2) (v := ?_) rfl rfl (by kernel_rfl) (by kernel_rfl) (by kernel_rfl) (by kernel_rfl) (by kernel_rfl) (by kernel_rfl) (fun _ _ _ h => HQ.out _ _ _ _ _ h) (Or.inl ⟨by rfl, ?_⟩) LK ?_
        rotate_left
        · intro w' hSw; obtain ⟨z0, z1⟩ := hSw; go_simp; try with_reducible rfl
        simp only [Act.put, List.getElem_toArray, List.getElem_cons_zero, List.getElem_cons_succ, List.setIfInBounds_toArray, List.set_cons_zero, List.set_cons_succ]
        refine wpAnyG_take (i := 3) (v := ?_) rfl (by kernel_rfl) (by kernel_rfl) (by kernel_rfl) (by kernel_rfl) (fun _ _ _ h => HQ.out _ _ _ _ _ h) (Or.inl ⟨by rfl, ?_⟩) (.inr LK) ?_
        rotate_left
        · intro w' _; go_simp; try with_reducible rfl
        simp only [Act.put, List.getElem_toArray, List.getElem_cons_zero, List.getElem_cons_succ, List.setIfInBounds_toArray, List.set_cons_zero, List.set_cons_succ]
        refine wpAnyG_take (i := 4) (v := ?_) rfl (by kernel_rfl) (by kernel_rfl) (by kernel_rfl) (by kernel_rfl) (fun _ _ _ h => HQ.out _ _ _ _ _ h) (Or.inl ⟨by rfl, ?_⟩) (.inr LK) ?_
        rotate_left
        · intro w' _; go_simp; try with_reducible rfl
        simp only [Act.put, List.getElem_toArray, List.getElem_cons_zero, List.getElem_cons_succ, List.setIfInBounds_toArray, List.set_cons_zero, List.set_cons_succ]
        refine wpAnyG_load (i := 5) (v := .agg (rcells (v s).r (v s).v)) rfl rfl (by kernel_rfl) (by kernel_rfl) (by kernel_rfl) (by kernel_rfl) (by kernel_rfl) (by kernel_rfl) (fun _ _ _ h => HQ.out _ _ _ _ _ h) (yields_rc (by rfl) (.tmp 96) rfl (w.heap.size + 1) (s * 11) rfl _ _ (fun _ h => h.2)) LK ?_
        simp only [Act.put, List.getElem_toArray, List.getElem_cons_zero, List.getElem_cons_succ, List.setIfInBounds_toArray, List.set_cons_zero, List.set_cons_succ]
        have stA := (Step.refl [] w1 o1).alloc (.cells zero11 32) 39
        have hz := Blk.new w1 32 zero11
        have hzo : ext o1 w1.heap.size 39 w1.heap.size = 39 := ext_ge (Nat.le_refl _)
        have hkA := HK1.out.step stA (by simp)
        have LKA := And.intro (hkA.endc hs2) (hkA.b1 s hs2)
        have thA := hz.there11 rfl
        refine wpAnyG_ready (rs := [6]) (by kernel_rfl) (by simp) ?_
        refine AllReadyG.cons rfl (fun K hK => ?_) AllReadyG.nil
        go_simp
        refine hK.out _ _ (.inr LKA) ?_
        clear hK K
        refine wpAnyG_ready (rs := [7]) (by kernel_rfl) (by simp) ?_
        refine AllReadyG.cons rfl (fun K hK => ?_) AllReadyG.nil
        go_simp
        refine hK.out _ _ (.inr LKA) ?_
        clear hK K
        refine wpAnyG_ready (rs := [8]) (by kernel_rfl) (by simp) ?_
        refine AllReadyG.cons rfl (fun K hK => ?_) AllReadyG.nil
        simp only [Act.put, List.getElem_toArray, List.getElem_cons_zero, List.getElem_cons_succ]
        rw [if_pos (by rfl)]
        refine wp_store_rcm (.tmp 21) (.tmp 97) rfl w1.heap.size 0 (v s).r (v s).v rfl rfl thA ?_
        refine hK.out _ _ (.inl rfl) ?_
        clear hK K
        refine wpAnyG_done (by kernel_rfl) (HKN.out _ _ ?_) _
        have hz2 := hz.store11 rfl (v s).r (v s).v
        have st2 : Step [39] (w1.alloc (.cells zero11 32)) (ext o1 w1.heap.size 39) ((w1.alloc (.cells zero11 32)).setCells w1.heap.size 0 (rcells (v s).r (v s).v).toList) (ext o1 w1.heap.size 39) := by
          have := setCells_step w1.heap.size (ext o1 w1.heap.size 39) (rcells (v s).r (v s).v).toList 0 (w1.alloc (.cells zero11 32))
          rwa [hzo] at this
        have hk2 := hkA.step st2 (fun t ht => by simp at ht; subst ht; exact .inl (by omega))
        have hX2 := blk_setCells (HX.out.step stA (by simp)) (show gx ≠ w1.heap.size from Nat.ne_of_lt HX.out.lt) (rcells (v s).r (v s).v).toList 0
        have hB2 := (HB1.out.step stA (by simp)).step st2 (by simp)
        have hXO2 := (stA.own _ HX.out.lt).trans HXO.out
        obtain ⟨w2, hw2⟩ : ∃ w2, w2 = (w1.alloc (.cells zero11 32)).setCells w1.heap.size 0 (rcells (v s).r (v s).v).toList := ⟨_, rfl⟩
        rw [← hw2] at hz2 hk2 hX2 hB2
        unfold zero11 at hw2
        rw [← hw2]
        have HR2 := Lib.hid hz2; have HRO := Lib.hid hzo; have HK2 := Lib.hid hk2; have HX2 := Lib.hid hX2; have HB2 := Lib.hid hB2; have HXO2 := Lib.hid hXO2
        clear hw2 hz2 hk2 hX2 hB2 hXO2 hzo st2 stA hz hkA LKA thA LK HKN HQ KQ HX HXO HK1 HB1 hsI hs0
        generalize ext o1 w1.heap.size 39 = o2 at HRO HK2 HB2 HXO2
        generalize w1.heap.size = gr at HR2 HRO ⊢
        obtain ⟨κ, hκ⟩ : ∃ κ, κ = K % 6 := ⟨_, rfl⟩
        have hκ6 : κ < 6 := by omega
        have k0 : w2.cell? ⟨gx, 0, none⟩ = some (.int .u8 K) := HX2.out.cell 0
        go_upto_block 4 with fail
        rw [show ((K : Int) % 6) = (κ : Int) by omega]
        clear k0
        have HKK := Lib.hid hκ
        clear hκ
        go_cut [2] (fun s2 wx => ∃ (u : UV) (o5 : Own) (t2 : Int), s2 = .int .i64 t2 ∧ -9223372036854775808 ≤ t2 ∧ t2 ≤ 9223372036854775807 ∧ Hid (US w wx o5 w.heap.size (updU v s u) (k + 1)))
        case first => as_aux_lemma =>
          rcases (show κ ≤ 1 ∨ κ = 2 ∨ 3 ≤ κ by omega) with hκ1 | rfl | hκ3
          · have hS := HK2.out.S s hs2
            obtain ⟨xl, hxl⟩ : ∃ xl, xl = (B.take 1100).length := ⟨_, rfl⟩
            obtain ⟨X, hX⟩ : ∃ X, X = B.take 1100 := ⟨_, rfl⟩
            have hxm : xl ≤ 1100 := by rw [hxl, List.length_take]; omega
            have HBODY := Lib.hid (fun W (hb : Below w2.heap.size w2 W) => opbody_any W o2 40 K S T BA bn bc B (HB2.out.below hb))
            have HBX := Lib.hid (fun W (hb : Below w2.heap.size w2 W) => (HB2.out.below hb).body20)
            rw [← hxl] at HBODY
            rw [← hxl, ← hX] at HBX
            rw [← hX] at hxl
            obtain ⟨hbo, hcd⟩ := hS.bo.send (by omega) X
            obtain ⟨R, hR⟩ : ∃ R, R = rSend (v s).r X := ⟨_, rfl⟩
            rw [← hR] at hbo hcd
            obtain ⟨r1, code⟩ := R
            have HBO2 := Lib.hid hbo; have HCD := Lib.hid hcd; have HRR := Lib.hid hR; have HXL := Lib.hid hxl; have HXX := Lib.hid hX
            clear hS hX hxl hbo hcd hR
            go_upto_if 158 with fail
            go_cut [158, 160] (fun s158 s160 wx => s158 = .bool true ∧ w2 = wx)
            case first =>
              rcases (show κ = 0 ∨ κ = 1 by omega) with rfl | rfl
              all_goals
                go_wp2_with fail
                go_meet
                exact ⟨rfl, rfl⟩
            case rest =>
              obtain ⟨rfl, rfl⟩ := hcut
              have k0 : w2.cell? ⟨gx, 0, none⟩ = some (.int .u8 K) := HX2.out.cell 0
              have k1 : w2.cell? ⟨gx, 1, none⟩ = some (.int .u8 S) := HX2.out.cell 1
              have k2 : w2.cell? ⟨gx, 2, none⟩ = some (.int .u8 T) := HX2.out.cell 2
              have k3 : w2.cell? ⟨gx, 3, none⟩ = some (.slice BA bn bc) := HX2.out.cell 3
              go_wp2_with fail
              refine (HBODY.out _ (Below.refl _ _)).mono ?_
              rintro e w3 ⟨rfl, hb3⟩
              have hst3 := (Step.refl [] w2 o2).below hb3 37
              have HB3 := Lib.hid hb3; have HQ3 := Lib.hid (HB2.out.step hst3 (by simp))
              have HK3 := Lib.hid (HK2.out.step hst3 (by simp))
              have HX3 := Lib.hid (HX2.out.step hst3 (by simp)); have HR3 := Lib.hid (HR2.out.step hst3 (by simp)); have HRO3 := Lib.hid ((hst3.own _ HR2.out.lt).trans HRO.out); have HXO3 := Lib.hid ((hst3.own _ HX2.out.lt).trans HXO2.out)
              clear hst3 hb3 k0 k1 k2 k3
              generalize ext o2 w2.heap.size 37 = o3 at HK3 HRO3 HXO3 HQ3
              go_wp2_with fail
              refine (LentBytes_any w3 o2 40 BA xl bc X (HBX.out w3 HB3.out) (by omega)).mono ?_
              rintro e w4 ⟨gi, ci, rfl, hb4, hgi, hr4⟩
              have hst4 := (Step.refl [] w3 o3).below hb4 38
              have HQ4 := Lib.hid (HQ3.out.step hst4 (by simp))
              have HI4 := Lib.hid (hr4.tagged o3 38)
              have HK4 := Lib.hid (HK3.out.step hst4 (by simp))
              have HX4 := Lib.hid (HX3.out.step hst4 (by simp)); have HR4 := Lib.hid (HR3.out.step hst4 (by simp)); have HRO4 := Lib.hid ((hst4.own _ HR3.out.lt).trans HRO3.out); have HXO4 := Lib.hid ((hst4.own _ HX3.out.lt).trans HXO3.out)
              have HB4 := Lib.hid (HB3.out.trans (hb4.mono HB3.out.size))
              clear hst4 hb4 hgi hr4 HK3 HX3 HR3 HRO3 HXO3 HB3 HQ3
              generalize ext o3 w3.heap.size 38 = o4 at HI4 HK4 HRO4 HXO4 HQ4
              have hif : Row w4 o4 38 5 1 (some ⟨gi, 0, none⟩) xl ci (byts X) := by
                have h := HI4.out.first xl (by omega) (by omega)
                have e : (byts (X ++ mkB 1 12)).take (xl * 1) = byts X := by rw [Nat.mul_one, HXL.out]; simp [byts]
                rwa [e] at h
              have HIF := Lib.hid hif
              clear hif
              go_wp2_with fail
              refine (Send_any (HK4.out.S s hs2).C (HK4.out.S s hs2).bo.fit (TU_ok hs2) 38 (some ⟨gi, 0, none⟩) xl ci X HIF.out.sl).mono ?_
              intro e w5 hsd
              obtain ⟨o5, he, hst5, hC5⟩ := hsd.out
              rw [HCD.out] at he
              subst he
              have hst5 : Step [1 + 10 * s] w4 o4 w5 o5 := hst5
              have HST5 := Lib.hid hst5; have HC5 := Lib.hid hC5
              have HI5 := Lib.hid (HI4.out.step hst5 (by simp <;> omega))
              have hR5 := (HK4.out.S s hs2).R.step hst5 (by simp <;> omega) (by simp <;> omega)
              have HR5 := Lib.hid (HR4.out.step hst5 (by rw [HRO4.out]; simp <;> omega)); have HX5 := Lib.hid (HX4.out.step hst5 (by rw [HXO4.out]; simp <;> omega))
              have hQ5 := HQ4.out.step hst5 (by simp <;> omega)
              have HBO := Lib.hid (show ∀ W oW, Step [] w5 o5 W oW → Calls Try.prog 15 #[.agg #[.int .u8 K, .int .u8 S, .int .u8 T, .slice BA bn bc]] W fun e w' => e = .returned (.slice BA xl bc) ∧ Below W.heap.size W w' from fun W oW hs => by rw [HXL.out, HXX.out]; exact opbody_any W oW 40 K S T BA bn bc B (hQ5.step hs (by simp)))
              have HXB := Lib.hid (show ∀ W oW, Step [] w5 o5 W oW → Sl W oW 40 1 BA xl bc (byts X) from fun W oW hs => by rw [HXL.out, HXX.out]; exact (hQ5.step hs (by simp)).body20)
              have hbd := (HK4.out.S s hs2).bo.bd (by omega)
              have HSO := Lib.hid (show ∀ W oW, Step [] w5 o5 W oW → Calls Try.prog 17 #[.agg (rcells (v s).r (v s).v), .slice BA xl bc] W fun e w' => ∃ v6, e = .returned (.tuple #[.agg (rcells r1 v6), .int .i64 code]) ∧ Below W.heap.size W w' ∧ RChIn w' (ext oW W.heap.size 40) 40 40 r1 v6 from fun W oW hs => by
                have := rSend_any (hR5.step hs (by simp) (by simp)) hbd BA xl bc X (HXB.out W oW hs) (by omega)
                rw [← HRR.out] at this
                exact this)
              have HCC := Lib.hid (fun W oW (hs : Step [] w5 o5 W oW) => (HR5.out.step hs (by simp)).range)
              have HCX := Lib.hid (fun W oW (hs : Step [] w5 o5 W oW) => And.intro ((HX5.out.step hs (by simp)).cell 0) (And.intro ((HX5.out.step hs (by simp)).cell 1) (And.intro ((HX5.out.step hs (by simp)).cell 2) ((HX5.out.step hs (by simp)).cell 3))))
              have HXO5 := Lib.hid ((hst5.own _ HX4.out.lt).trans HXO4.out)
              clear hsd hst5 hC5 hR5 hQ5 hbd HIF HI4 HX4 HR4 HRO4 HXO4 HQ4 HBODY HBX HB4
              go_upto_region 42 with fail
              go_cut [24, 25] (fun s24 s25 wx => ∃ (z : Nat) (v6 : RV), s24 = .pointer (some ⟨z, 0, none⟩) ∧ s25 = .int .i64 code ∧ Hid (M42 w5 o5 wx z r1 v6))
              case first => as_aux_lemma =>
                refine wp_region_tillK (S0 := fun w' => ∃ oo, Step [] w5 o5 w' oo) (st := 8) (by kernel_rfl) (fun _ _ _ _ _ h => h) ?_
                intro KQ HQ HKN
                have hs6 : Step [] w5 o5 w5.drew o5 := (Step.refl _ _ _).drew
                generalize World.drew _ = w6 at hs6 ⊢
                have LK : ∃ oo, Step [] w5 o5 w6 oo := ⟨_, hs6⟩
                have HS6 := Lib.hid hs6
                clear hs6
                refine wpAnyG_load (i := 0) (v := .agg (rcells (v s).r (v s).v)) rfl rfl (by kernel_rfl) (by kernel_rfl) (by kernel_rfl) (by kernel_rfl) (by kernel_rfl) (by kernel_rfl) (fun _ _ _ h => HQ.out _ _ _ _ _ h) (yields_rc (by rfl) (.tmp 21) rfl gr 0 rfl _ _ (fun _ h => by obtain ⟨oo, h⟩ := h; exact HCC.out _ _ h)) LK ?_
                simp only [Act.put, List.getElem_toArray, List.getElem_cons_zero, List.setIfInBounds_toArray, List.set_cons_zero, List.set_cons_succ]
                refine wpAnyG_load (i := 1) (v := ?_) rfl rfl (by kernel_rfl) (by kernel_rfl) (by kernel_rfl) (by kernel_rfl) (by kernel_rfl) (by kernel_rfl) (fun _ _ _ h => HQ.out _ _ _ _ _ h) (Or.inl ⟨by rfl, ?_⟩) LK ?_
                rotate_left
                · intro w' hSw; obtain ⟨oo, hSw⟩ := hSw; obtain ⟨z0, z1, z2, z3⟩ := HCX.out _ _ hSw; go_simp; try with_reducible rfl
                simp only [Act.put, List.getElem_toArray, List.getElem_cons_zero, List.getElem_cons_succ, List.setIfInBounds_toArray, List.set_cons_zero, List.set_cons_succ]
                clear LK
                refine wpAnyG_ready (rs := [2, 7]) (by kernel_rfl) (by simp) ?_
                refine AllReadyG.cons rfl (fun K hK => ?_) (AllReadyG.cons rfl (fun K hK => ?_) AllReadyG.nil)
                · go_simp
                  refine (HBO.out _ _ HS6.out).mono ?_
                  rintro e W1a ⟨rfl, hbN⟩
                  try go_simp
                  have HS1 := Lib.hid (HS6.out.below hbN 37)
                  refine hK.out _ _ (.inr ⟨_, HS1.out⟩) ?_
                  clear hK K hbN
                  generalize ext o5 w6.heap.size 37 = O1a at HS1
                  refine wpAnyG_ready (rs := [3, 7]) (by kernel_rfl) (by simp) ?_
                  refine AllReadyG.cons rfl (fun K hK => ?_) (AllReadyG.cons rfl (fun K hK => ?_) AllReadyG.nil)
                  · go_simp
                    refine (HSO.out _ _ HS1.out).mono ?_
                    rintro e W2a ⟨v6, rfl, hbN, hRN⟩
                    try go_simp
                    have HS2 := Lib.hid (HS1.out.below hbN 40)
                    have HR2 := Lib.hid hRN
                    refine hK.out _ _ (.inr ⟨_, HS2.out⟩) ?_
                    clear hK K hbN hRN
                    generalize ext O1a W1a.heap.size 40 = O2a at HS2 HR2
                    refine wpAnyG_take (i := 4) (v := ?_) rfl (by kernel_rfl) (by kernel_rfl) (by kernel_rfl) (by kernel_rfl) (fun _ _ _ h => HQ.out _ _ _ _ _ h) (Or.inl ⟨by rfl, ?_⟩) (.inr ⟨_, HS2.out⟩) ?_
                    rotate_left
                    · intro w' _; go_simp; try with_reducible rfl
                    simp only [Act.put, List.getElem_toArray, List.getElem_cons_zero, List.getElem_cons_succ, List.setIfInBounds_toArray, List.set_cons_zero, List.set_cons_succ]
                    refine wpAnyG_take (i := 5) (v := ?_) rfl (by kernel_rfl) (by kernel_rfl) (by kernel_rfl) (by kernel_rfl) (fun _ _ _ h => HQ.out _ _ _ _ _ h) (Or.inl ⟨by rfl, ?_⟩) (.inr ⟨_, HS2.out⟩) ?_
                    rotate_left
                    · intro w' _; go_simp; try with_reducible rfl
                    simp only [Act.put, List.getElem_toArray, List.getElem_cons_zero, List.getElem_cons_succ, List.setIfInBounds_toArray, List.set_cons_zero, List.set_cons_succ]
                    refine wpAnyG_take (i := 6) (v := ?_) rfl (by kernel_rfl) (by kernel_rfl) (by kernel_rfl) (by kernel_rfl) (fun _ _ _ h => HQ.out _ _ _ _ _ h) (Or.inl ⟨by rfl, ?_⟩) (.inr ⟨_, HS2.out⟩) ?_
                    rotate_left
                    · intro w' _; go_simp; try with_reducible rfl
                    simp only [Act.put, List.getElem_toArray, List.getElem_cons_zero, List.getElem_cons_succ, List.setIfInBounds_toArray, List.set_cons_zero, List.set_cons_succ]
                    refine wpAnyG_ready (rs := [7]) (by kernel_rfl) (by simp) ?_
                    refine AllReadyG.cons rfl (fun K hK => ?_) AllReadyG.nil
                    go_simp
                    have HS3 := Lib.hid (HS2.out.alloc (.cells zero11 32) 39)
                    have HZ3 := Lib.hid (Blk.new W2a 32 zero11)
                    have HZO3 : Hid (ext O2a W2a.heap.size 39 W2a.heap.size = 39) := Lib.hid (ext_ge (Nat.le_refl _))
                    have HZS3 : Hid (w5.heap.size ≤ W2a.heap.size) := Lib.hid HS2.out.size
                    have HR3 := Lib.hid (HR2.out.step ((Step.refl [] W2a O2a).alloc (.cells zero11 32) 39) (by simp) (by simp))
                    refine hK.out _ _ (.inr ⟨_, HS3.out⟩) ?_
                    clear hK K
                    obtain ⟨W3a, hWN⟩ : ∃ W, W = W2a.alloc (.cells zero11 32) := ⟨_, rfl⟩
                    rw [← hWN] at HS3 HZ3 HR3
                    unfold zero11 at hWN
                    rw [← hWN]
                    clear hWN
                    generalize ext O2a W2a.heap.size 39 = O3a at HS3 HZO3 HR3
                    generalize W2a.heap.size = z at HZ3 HZO3 HZS3 ⊢
                    refine wpAnyG_ready (rs := [8]) (by kernel_rfl) (by simp) ?_
                    refine AllReadyG.cons rfl (fun K hK => ?_) AllReadyG.nil
                    simp only [Act.put, List.getElem_toArray, List.getElem_cons_zero, List.getElem_cons_succ]
                    rw [if_pos (by rfl)]
                    refine wp_store_rcm (.tmp 24) (.tmp 172) rfl z 0 r1 v6 rfl rfl (HZ3.out.there11 rfl) ?_
                    refine hK.out _ _ (.inl rfl) ?_
                    clear hK K
                    have hz9 := HZ3.out.store11 rfl r1 v6
                    have st9 : Step [39] W3a O3a (W3a.setCells z 0 (rcells r1 v6).toList) O3a := by
                      have := setCells_step z O3a (rcells r1 v6).toList 0 W3a
                      rwa [HZO3.out] at this
                    have HM := Lib.hid (show M42 w5 o5 (W3a.setCells z 0 (rcells r1 v6).toList) z r1 v6 from ⟨O3a, setCells_new HS3.out HZS3.out _ _, hz9, HZO3.out, HR3.out.step st9 (by simp) (by simp)⟩)
                    clear hz9 st9
                    refine wpAnyG_ready (rs := [9]) (by kernel_rfl) (by simp) ?_
                    refine AllReadyG.cons rfl (fun K hK => ?_) AllReadyG.nil
                    go_simp
                    refine hK.out _ _ (.inl rfl) ?_
                    clear hK K
                    refine wpAnyG_done (by kernel_rfl) (HKN.out _ _ ?_) _
                    clear HKN HQ KQ
                    go_wp2_with fail
                    go_meet
                    exact ⟨z, v6, rfl, rfl, HM⟩
                  · go_simp
                    have HS2 := Lib.hid (HS1.out.alloc (.cells zero11 32) 39)
                    have HZ2 := Lib.hid (Blk.new W1a 32 zero11)
                    have HZO2 : Hid (ext O1a W1a.heap.size 39 W1a.heap.size = 39) := Lib.hid (ext_ge (Nat.le_refl _))
                    have HZS2 : Hid (w5.heap.size ≤ W1a.heap.size) := Lib.hid HS1.out.size
                    refine hK.out _ _ (.inr ⟨_, HS2.out⟩) ?_
                    clear hK K
                    obtain ⟨W2a, hWN⟩ : ∃ W, W = W1a.alloc (.cells zero11 32) := ⟨_, rfl⟩
                    rw [← hWN] at HS2 HZ2
                    unfold zero11 at hWN
                    rw [← hWN]
                    clear hWN
                    generalize ext O1a W1a.heap.size 39 = O2a at HS2 HZO2
                    generalize W1a.heap.size = z at HZ2 HZO2 HZS2 ⊢
                    refine wpAnyG_ready (rs := [3]) (by kernel_rfl) (by simp) ?_
                    refine AllReadyG.cons rfl (fun K hK => ?_) AllReadyG.nil
                    go_simp
                    refine (HSO.out _ _ HS2.out).mono ?_
                    rintro e W3a ⟨v6, rfl, hbN, hRN⟩
                    try go_simp
                    have HS3 := Lib.hid (HS2.out.below hbN 40)
                    have HR3 := Lib.hid hRN
                    have HZ3 := Lib.hid (HZ2.out.below hbN HZ2.out.lt)
                    have HZO3 := Lib.hid ((ext_lt HZ2.out.lt : ext O2a W2a.heap.size 40 _ = _).trans HZO2.out)
                    refine hK.out _ _ (.inr ⟨_, HS3.out⟩) ?_
                    clear hK K hbN hRN
                    generalize ext O2a W2a.heap.size 40 = O3a at HS3 HR3 HZO3
                    refine wpAnyG_take (i := 4) (v := ?_) rfl (by kernel_rfl) (by kernel_rfl) (by kernel_rfl) (by kernel_rfl) (fun _ _ _ h => HQ.out _ _ _ _ _ h) (Or.inl ⟨by rfl, ?_⟩) (.inr ⟨_, HS3.out⟩) ?_
                    rotate_left
                    · intro w' _; go_simp; try with_reducible rfl
                    simp only [Act.put, List.getElem_toArray, List.getElem_cons_zero, List.getElem_cons_succ, List.setIfInBounds_toArray, List.set_cons_zero, List.set_cons_succ]
                    refine wpAnyG_take (i := 5) (v := ?_) rfl (by kernel_rfl) (by kernel_rfl) (by kernel_rfl) (by kernel_rfl) (fun _ _ _ h => HQ.out _ _ _ _ _ h) (Or.inl ⟨by rfl, ?_⟩) (.inr ⟨_, HS3.out⟩) ?_
                    rotate_left
                    · intro w' _; go_simp; try with_reducible rfl
                    simp only [Act.put, List.getElem_toArray, List.getElem_cons_zero, List.getElem_cons_succ, List.setIfInBounds_toArray, List.set_cons_zero, List.set_cons_succ]
                    refine wpAnyG_take (i := 6) (v := ?_) rfl (by kernel_rfl) (by kernel_rfl) (by kernel_rfl) (by kernel_rfl) (fun _ _ _ h => HQ.out _ _ _ _ _ h) (Or.inl ⟨by rfl, ?_⟩) (.inr ⟨_, HS3.out⟩) ?_
                    rotate_left
                    · intro w' _; go_simp; try with_reducible rfl
                    simp only [Act.put, List.getElem_toArray, List.getElem_cons_zero, List.getElem_cons_succ, List.setIfInBounds_toArray, List.set_cons_zero, List.set_cons_succ]
                    refine wpAnyG_ready (rs := [8]) (by kernel_rfl) (by simp) ?_
                    refine AllReadyG.cons rfl (fun K hK => ?_) AllReadyG.nil
                    simp only [Act.put, List.getElem_toArray, List.getElem_cons_zero, List.getElem_cons_succ]
                    rw [if_pos (by rfl)]
                    refine wp_store_rcm (.tmp 24) (.tmp 172) rfl z 0 r1 v6 rfl rfl (HZ3.out.there11 rfl) ?_
                    refine hK.out _ _ (.inl rfl) ?_
                    clear hK K
                    have hz9 := HZ3.out.store11 rfl r1 v6
                    have st9 : Step [39] W3a O3a (W3a.setCells z 0 (rcells r1 v6).toList) O3a := by
                      have := setCells_step z O3a (rcells r1 v6).toList 0 W3a
                      rwa [HZO3.out] at this
                    have HM := Lib.hid (show M42 w5 o5 (W3a.setCells z 0 (rcells r1 v6).toList) z r1 v6 from ⟨O3a, setCells_new HS3.out HZS2.out _ _, hz9, HZO3.out, HR3.out.step st9 (by simp) (by simp)⟩)
                    clear hz9 st9
                    refine wpAnyG_ready (rs := [9]) (by kernel_rfl) (by simp) ?_
                    refine AllReadyG.cons rfl (fun K hK => ?_) AllReadyG.nil
                    go_simp
                    refine hK.out _ _ (.inl rfl) ?_
                    clear hK K
                    refine wpAnyG_done (by kernel_rfl) (HKN.out _ _ ?_) _
                    clear HKN HQ KQ
                    go_wp2_with fail
                    go_meet
                    exact ⟨z, v6, rfl, rfl, HM⟩
                · go_simp
                  have HS1 := Lib.hid (HS6.out.alloc (.cells zero11 32) 39)
                  have HZ1 := Lib.hid (Blk.new w6 32 zero11)
                  have HZO1 : Hid (ext o5 w6.heap.size 39 w6.heap.size = 39) := Lib.hid (ext_ge (Nat.le_refl _))
                  have HZS1 : Hid (w5.heap.size ≤ w6.heap.size) := Lib.hid HS6.out.size
                  refine hK.out _ _ (.inr ⟨_, HS1.out⟩) ?_
                  clear hK K
                  obtain ⟨W1a, hWN⟩ : ∃ W, W = w6.alloc (.cells zero11 32) := ⟨_, rfl⟩
                  rw [← hWN] at HS1 HZ1
                  unfold zero11 at hWN
                  rw [← hWN]
                  clear hWN
                  generalize ext o5 w6.heap.size 39 = O1a at HS1 HZO1
                  generalize w6.heap.size = z at HZ1 HZO1 HZS1 ⊢
                  refine wpAnyG_ready (rs := [2]) (by kernel_rfl) (by simp) ?_
                  refine AllReadyG.cons rfl (fun K hK => ?_) AllReadyG.nil
                  go_simp
                  refine (HBO.out _ _ HS1.out).mono ?_
                  rintro e W2a ⟨rfl, hbN⟩
                  try go_simp
                  have HS2 := Lib.hid (HS1.out.below hbN 37)
                  have HZ2 := Lib.hid (HZ1.out.below hbN HZ1.out.lt)
                  have HZO2 := Lib.hid ((ext_lt HZ1.out.lt : ext O1a W1a.heap.size 37 _ = _).trans HZO1.out)
                  refine hK.out _ _ (.inr ⟨_, HS2.out⟩) ?_
                  clear hK K hbN
                  generalize ext O1a W1a.heap.size 37 = O2a at HS2 HZO2
                  refine wpAnyG_ready (rs := [3]) (by kernel_rfl) (by simp) ?_
                  refine AllReadyG.cons rfl (fun K hK => ?_) AllReadyG.nil
                  go_simp
                  refine (HSO.out _ _ HS2.out).mono ?_
                  rintro e W3a ⟨v6, rfl, hbN, hRN⟩
                  try go_simp
                  have HS3 := Lib.hid (HS2.out.below hbN 40)
                  have HR3 := Lib.hid hRN
                  have HZ3 := Lib.hid (HZ2.out.below hbN HZ2.out.lt)
                  have HZO3 := Lib.hid ((ext_lt HZ2.out.lt : ext O2a W2a.heap.size 40 _ = _).trans HZO2.out)
                  refine hK.out _ _ (.inr ⟨_, HS3.out⟩) ?_
                  clear hK K hbN hRN
                  generalize ext O2a W2a.heap.size 40 = O3a at HS3 HR3 HZO3
                  refine wpAnyG_take (i := 4) (v := ?_) rfl (by kernel_rfl) (by kernel_rfl) (by kernel_rfl) (by kernel_rfl) (fun _ _ _ h => HQ.out _ _ _ _ _ h) (Or.inl ⟨by rfl, ?_⟩) (.inr ⟨_, HS3.out⟩) ?_
                  rotate_left
                  · intro w' _; go_simp; try with_reducible rfl
                  simp only [Act.put, List.getElem_toArray, List.getElem_cons_zero, List.getElem_cons_succ, List.setIfInBounds_toArray, List.set_cons_zero, List.set_cons_succ]
                  refine wpAnyG_take (i := 5) (v := ?_) rfl (by kernel_rfl) (by kernel_rfl) (by kernel_rfl) (by kernel_rfl) (fun _ _ _ h => HQ.out _ _ _ _ _ h) (Or.inl ⟨by rfl, ?_⟩) (.inr ⟨_, HS3.out⟩) ?_
                  rotate_left
                  · intro w' _; go_simp; try with_reducible rfl
                  simp only [Act.put, List.getElem_toArray, List.getElem_cons_zero, List.getElem_cons_succ, List.setIfInBounds_toArray, List.set_cons_zero, List.set_cons_succ]
                  refine wpAnyG_take (i := 6) (v := ?_) rfl (by kernel_rfl) (by kernel_rfl) (by kernel_rfl) (by kernel_rfl) (fun _ _ _ h => HQ.out _ _ _ _ _ h) (Or.inl ⟨by rfl, ?_⟩) (.inr ⟨_, HS3.out⟩) ?_
                  rotate_left
                  · intro w' _; go_simp; try with_reducible rfl
                  simp only [Act.put, List.getElem_toArray, List.getElem_cons_zero, List.getElem_cons_succ, List.setIfInBounds_toArray, List.set_cons_zero, List.set_cons_succ]
                  refine wpAnyG_ready (rs := [8]) (by kernel_rfl) (by simp) ?_
                  refine AllReadyG.cons rfl (fun K hK => ?_) AllReadyG.nil
                  simp only [Act.put, List.getElem_toArray, List.getElem_cons_zero, List.getElem_cons_succ]
                  rw [if_pos (by rfl)]
                  refine wp_store_rcm (.tmp 24) (.tmp 172) rfl z 0 r1 v6 rfl rfl (HZ3.out.there11 rfl) ?_
                  refine hK.out _ _ (.inl rfl) ?_
                  clear hK K
                  have hz9 := HZ3.out.store11 rfl r1 v6
                  have st9 : Step [39] W3a O3a (W3a.setCells z 0 (rcells r1 v6).toList) O3a := by
                    have := setCells_step z O3a (rcells r1 v6).toList 0 W3a
                    rwa [HZO3.out] at this
                  have HM := Lib.hid (show M42 w5 o5 (W3a.setCells z 0 (rcells r1 v6).toList) z r1 v6 from ⟨O3a, setCells_new HS3.out HZS1.out _ _, hz9, HZO3.out, HR3.out.step st9 (by simp) (by simp)⟩)
                  clear hz9 st9
                  refine wpAnyG_ready (rs := [9]) (by kernel_rfl) (by simp) ?_
                  refine AllReadyG.cons rfl (fun K hK => ?_) AllReadyG.nil
                  go_simp
                  refine hK.out _ _ (.inl rfl) ?_
                  clear hK K
                  refine wpAnyG_done (by kernel_rfl) (HKN.out _ _ ?_) _
                  clear HKN HQ KQ
                  go_wp2_with fail
                  go_meet
                  exact ⟨z, v6, rfl, rfl, HM⟩
              case rest => as_aux_lemma =>
                obtain ⟨z, v6, rfl, rfl, HM⟩ := hcut
                generalize wc = w6 at HM ⊢
                obtain ⟨o6, hs6, hz6, hzo6, hr6⟩ := HM.out
                clear HM
                have HR6 := Lib.hid hr6; have HZ6 := Lib.hid hz6; have HZO6 := Lib.hid hzo6; have HS6 := Lib.hid hs6
                have HI6 := Lib.hid (HI5.out.step hs6 (by simp)); have HX6 := Lib.hid (HX5.out.step hs6 (by simp)); have HC6 := Lib.hid (HC5.out.step hs6 (by simp) (by simp) (by simp) (by simp))
                have x0 := HX6.out.cell 0; have x1 := HX6.out.cell 1; have x2 := HX6.out.cell 2; have x3 := HX6.out.cell 3
                have hcc : (code != code) = false := by simp
                clear hs6 hz6 hzo6 hr6 HI5 HX5 HC5 HR5 HSO HCC HCX
                go_wp2_with fail
                refine (HBO.out _ _ HS6.out).mono ?_
                rintro e w7 ⟨rfl, hb7⟩
                have hs7 := (Step.refl [] w6 o6).below hb7 37
                have HS7 := Lib.hid (HS6.out.below hb7 37)
                have HI7 := Lib.hid (HI6.out.step hs7 (by simp)); have HC7 := Lib.hid (HC6.out.step hs7 (by simp) (by simp) (by simp) (by simp)); have HR7 := Lib.hid (HR6.out.step hs7 (by simp) (by simp))
                have HZ7 := Lib.hid (HZ6.out.step hs7 (by simp)); have HZO7 := Lib.hid ((hs7.own _ HZ6.out.lt).trans HZO6.out)
                have HXB7 := Lib.hid (HXB.out _ _ HS7.out)
                clear hs7 hb7 HS6 HI6 HX6 HC6 HR6 HZ6 HZO6 x0 x1 x2 x3 HBO HXB
                generalize ext o6 w6.heap.size 37 = o7 at HS7 HI7 HC7 HR7 HZO7 HXB7
                go_wp2_with fail
                refine (KeptBytes_any w7 o7 o7 38 40 gi ci BA xl bc X HI7.out.sl HXB7.out (by omega)).mono ?_
                rintro e w8 ⟨rfl, q8, hw8⟩
                have hs8 : Step [] w7 o7 w8 o7 := by rw [hw8]; exact (Step.refl [] w7 o7).drewN q8
                have HS8 := Lib.hid (HS7.out.trans hs8)
                have HI8 := Lib.hid (HI7.out.step hs8 (by simp)); have HC8 := Lib.hid (HC7.out.step hs8 (by simp) (by simp) (by simp) (by simp)); have HR8 := Lib.hid (HR7.out.step hs8 (by simp) (by simp)); have HZ8 := Lib.hid (HZ7.out.step hs8 (by simp))
                have HST8 := Lib.hid (HST5.out.trans HS8.out.nil)
                have th8 := there_step HST8.out HK4.out.th HK4.out.lt (by rw [HK4.out.t1]; simp; omega)
                have TH8 : Hid (w8.there (w.heap.size + 1) (s * 11) 11) := Lib.hid (fun j hj => by
                  have := th8 (s * 11 + j) (by omega)
                  rwa [Nat.zero_add] at this)
                have hput := HK4.out.put hs2 HST8.out (fun t ht => by simp at ht; exact .inl ht) HC8.out HR8.out HBO2.out (by rw [(sendS_keep (HK4.out.S s hs2).bo.fit X (by have := (HK4.out.S s hs2).bo.sn; omega)).2.2.2.2]; exact Nat.le_refl _)
                have HPUT := Lib.hid hput
                have hstC : Step [22] w8 o7 (w8.setCells (w.heap.size + 1) (s * 11) (rcells r1 v6).toList) o7 := by
                  have := setCells_step (w.heap.size + 1) o7 (rcells r1 v6).toList (s * 11) w8
                  rwa [show o7 (w.heap.size + 1) = 22 from (HST8.out.own _ HK4.out.lt).trans HK4.out.t1] at this
                have HI9 := Lib.hid (HI8.out.step hstC (by simp))
                clear hw8 hs8 th8 hput hstC HS7 HI7 HC7 HR7 HZ7 HZO7 HXB7 HS8 HI8 HC8 HR8 HST5
                have hsI : (s : Int) < 2 := by omega
                have hs0 : (0 : Int) ≤ (s : Int) := by omega
                go_upto_region 46 with (first | (refine wpList_load_rc rfl (.tmp 24) rfl rfl HZ8.out ?_) | (refine wpList_store_rcm rfl (.tmp 186) (.tmp 185) rfl (w.heap.size + 1) (s * 11) r1 v6 rfl rfl TH8.out ?_))
                obtain ⟨w9, hw9⟩ : ∃ w9, w9 = w8.setCells (w.heap.size + 1) (s * 11) (rcells r1 v6).toList := ⟨_, rfl⟩
                rw [← hw9] at HPUT HI9 ⊢
                clear hw9 hsI hs0 TH8 HZ8
                have hif : Row w9 o7 38 5 1 (some ⟨gi, 0, none⟩) xl ci (byts X) := by
                  have h := HI9.out.first xl (by omega) (by omega)
                  have e : (byts (X ++ mkB 1 12)).take (xl * 1) = byts X := by rw [Nat.mul_one, HXL.out]; simp [byts]
                  rwa [e] at h
                have HIF := Lib.hid hif
                clear hif
                go_wp2_with fail
                refine (OverBytes_row w9 o7 38 (some ⟨gi, 0, none⟩) xl ci _ HIF.out (by omega)).mono ?_
                rintro e w10 ⟨rfl, hst10⟩
                have HQ10 := Lib.hid (HPUT.out.step hst10 (fun t ht => by simp at ht; subst ht; exact .inl (by omega)))
                clear hst10 HIF HPUT HI9
                go_wp2_with fail
                go_meet
                exact ⟨_, o7, t, rfl, htl, hth, HQ10⟩
          · obtain ⟨dt, hdt⟩ : ∃ dt : Nat, dt = T % 10 := ⟨_, rfl⟩
            have hd10 : dt < 10 := by omega
            obtain ⟨tk, htk⟩ : ∃ tk, tk = IntKind.i64.wrap (t + (dt : Int)) := ⟨_, rfl⟩
            have htkr : -9223372036854775808 ≤ tk ∧ tk ≤ 9223372036854775807 := by rw [htk]; simp [IntKind.wrap, IntKind.bits, IntKind.signed]; omega
            have htw : IntKind.i64.wrap tk = tk := IntWalk.i64_in _ (by omega)
            have hTd : ((T : Int) % 10) = (dt : Int) := by omega
            have hwt : IntKind.i64.wrap (t + (dt : Int)) = tk := htk.symm
            have k2 : w2.cell? ⟨gx, 2, none⟩ = some (.int .u8 T) := HX2.out.cell 2
            obtain ⟨hk1, hk2⟩ := htkr
            clear htk hdt
            go_upto_region 49 with fail
            have hS := HK2.out.S s hs2
            obtain ⟨hbo, hcd, hql⟩ := hS.bo.flush (by omega) tk hk2
            obtain ⟨R, hR⟩ : ∃ R, R = rFlush (v s).r tk := ⟨_, rfl⟩
            rw [← hR] at hbo hcd hql
            obtain ⟨r1, q, code⟩ := R
            have hkp := flushS_keep hS.bo.fit hk2 (by have := hS.bo.nx; omega)
            have hfl := Flush_any hS.C hS.bo.fit (TU_ok hs2) 37 (by show 37 ≠ 1 + 10 * s; omega) (by show 37 ≠ 2 + 10 * s; omega) tk hk2 (by have := hS.bo.nx; omega)
            have hrf := fun W oW (hs : Step [1 + 10 * s, 2 + 10 * s] w2 o2 W oW) => rFlush_any (hS.R.step hs (by simp <;> omega) (by simp <;> omega)) (hS.bo.bd (by omega)) (hS.bo.rfit (by omega)) hS.bo.pend tk hk2 hS.bo.tick
            rw [← hR] at hrf
            obtain ⟨ql, hqlen⟩ : ∃ ql, ql = q.length := ⟨_, rfl⟩
            have HBO2 := Lib.hid hbo; have HCD := Lib.hid hcd; have HQL := Lib.hid hqlen; have HRF := Lib.hid hrf; have HNX := Lib.hid (show (flushS (v s).c tk).1.next = (v s).c.next from hkp.2.2.2)
            have hql2 : ql ≤ 2000 := by rw [hqlen]; exact hql
            have HFL := Lib.hid hfl
            clear hS hbo hcd hql hR hkp hfl hrf hqlen k2
            go_wp2_with fail
            refine HFL.out.mono ?_
            intro e w3 hsd
            obtain ⟨o3, A3, c3, he, hst3, hC3, hrow3⟩ := hsd.out
            rw [HCD.out] at he hrow3
            simp only at he hrow3
            rw [← HQL.out] at he hrow3
            subst he
            have hst3 : Step [1 + 10 * s, 2 + 10 * s] w2 o2 w3 o3 := hst3
            have HST3 := Lib.hid hst3; have HC3 := Lib.hid hC3; have HROW3 := Lib.hid hrow3
            have HR3 := Lib.hid (HR2.out.step hst3 (by rw [HRO.out]; simp <;> omega))
            clear hsd hst3 hC3 hrow3 HFL
            go_upto_region 50 with fail
            have hrf3 := HRF.out _ _ HST3.out
            unfold RFlushTo at hrf3
            simp only at hrf3
            rw [← HQL.out] at hrf3
            have HRF3 := Lib.hid hrf3
            clear hrf3 HRF
            go_upto_region 51 with (first | (refine wpList_load_rc rfl (.tmp 21) rfl rfl HR3.out ?_) | (go_at_call 21; refine HRF3.out.mono ?_; rintro e w4 ⟨v6, A6, c6, rfl, hb4, hr4, hq4, hl4⟩; have HB4 := Lib.hid hb4; have HR4 := Lib.hid hr4; have HQ4 := Lib.hid hq4; have HL4 := Lib.hid hl4; have HZ := Lib.hid (Blk.new w4 32 zero11); clear hb4 hr4 hq4 hl4) | (refine wpList_store_rc (c := r1) (v := v6) rfl (.tmp 28) (.tmp 207) rfl rfl rfl HZ.out rfl ?_))
            have st4 := (Step.refl [] w3 o3).below HB4.out 40
            have qs4 := HQ4.out.tag' HL4.out o3 40
            have stA := st4.alloc (.cells zero11 32) 39
            have st5 := setRow_new stA HB4.out.size (rcells r1 v6)
            have s45 : Step [39] w4 (ext o3 w3.heap.size 40) ((w4.alloc (.cells zero11 32)).setRow w4.heap.size (rcells r1 v6)) (ext (ext o3 w3.heap.size 40) w4.heap.size 39) := ((Step.refl [39] w4 _).alloc (.cells zero11 32) 39).trans (step_setRow (ext_ge (Nat.le_refl _)) _)
            have r5 := HR4.out.step s45 (by simp) (by simp)
            have q5 := qs4.step s45 (by simp)
            have z5 := HZ.out.setRow (rcells r1 v6)
            obtain ⟨w5, hw5⟩ : ∃ w5, w5 = (w4.alloc (.cells zero11 32)).setRow w4.heap.size (rcells r1 v6) := ⟨_, rfl⟩
            rw [← hw5] at st5 r5 q5 z5
            unfold zero11 at hw5
            rw [← hw5]
            generalize w4.heap.size = z at z5 ⊢
            generalize ext (ext o3 w3.heap.size 40) _ 39 = o5 at st5 r5 q5
            have HR5 := Lib.hid r5; have HQ5 := Lib.hid q5; have HZ5 := Lib.hid z5
            have HC5 := Lib.hid (HC3.out.step st5 (by simp) (by simp) (by simp) (by simp)); have HROW5 := Lib.hid (HROW3.out.step st5 (by simp))
            have HST5 := Lib.hid (HST3.out.trans st5.nil)
            have hcc : (code != code) = false := by simp
            clear st4 qs4 stA st5 s45 r5 q5 z5 hw5 HB4 HR4 HQ4 HL4 HZ HC3 HROW3 HST3 HR3 HRF3
            go_wp2_with fail
            refine (SameBytes_eq w5 o5 o5 37 40 A3 A6 ql ql c3 c6 q HROW5.out.sl HQ5.out).mono ?_
            rintro e w6 ⟨rfl, q6, hw6⟩
            have hs6 : Step [] w5 o5 w6 o5 := by rw [hw6]; exact (Step.refl [] w5 o5).drewN q6
            have HST6 := Lib.hid (HST5.out.trans hs6.nil)
            have HC6 := Lib.hid (HC5.out.step hs6 (by simp) (by simp) (by simp) (by simp)); have HR6 := Lib.hid (HR5.out.step hs6 (by simp) (by simp)); have HQ6 := Lib.hid (HQ5.out.step hs6 (by simp)); have HROW6 := Lib.hid (HROW5.out.step hs6 (by simp)); have HZ6 := Lib.hid (HZ5.out.step hs6 (by simp))
            have th6 := there_step HST6.out HK2.out.th HK2.out.lt (by rw [HK2.out.t1]; simp; omega)
            have TH6 : Hid (w6.there (w.heap.size + 1) (s * 11) 11) := Lib.hid (fun j hj => by
              have := th6 (s * 11 + j) (by omega)
              rwa [Nat.zero_add] at this)
            have HPUT := Lib.hid (HK2.out.put hs2 HST6.out (fun t ht => by simp at ht; omega) HC6.out HR6.out HBO2.out (by rw [HNX.out]; exact Nat.le_refl _))
            have hstC : Step [22] w6 o5 (w6.setCells (w.heap.size + 1) (s * 11) (rcells r1 v6).toList) o5 := by
              have := setCells_step (w.heap.size + 1) o5 (rcells r1 v6).toList (s * 11) w6
              rwa [show o5 (w.heap.size + 1) = 22 from (HST6.out.own _ HK2.out.lt).trans HK2.out.t1] at this
            have HQ7 := Lib.hid (HQ6.out.step hstC (by simp)); have HROW7 := Lib.hid (HROW6.out.step hstC (by simp))
            clear hw6 hs6 th6 hstC HST5 HC5 HR5 HQ5 HROW5 HZ5 HC6 HR6 HQ6 HROW6 HST6
            have hsI : (s : Int) < 2 := by omega
            have hs0 : (0 : Int) ≤ (s : Int) := by omega
            go_upto_region 54 with (first | (refine wpList_load_rc rfl (.tmp 28) rfl rfl HZ6.out ?_) | (refine wpList_store_rcm rfl (.tmp 221) (.tmp 220) rfl (w.heap.size + 1) (s * 11) r1 v6 rfl rfl TH6.out ?_))
            obtain ⟨w7, hw7⟩ : ∃ w7, w7 = w6.setCells (w.heap.size + 1) (s * 11) (rcells r1 v6).toList := ⟨_, rfl⟩
            rw [← hw7] at HPUT HQ7 HROW7 ⊢
            clear hw7 TH6 HZ6
            rcases Nat.eq_zero_or_pos ql with h0 | h0
            · subst h0
              go_wp2_with fail
              go_meet
              exact ⟨_, o5, tk, rfl, hk1, hk2, HPUT⟩
            · have hqd : decide ((0 : Int) < (ql : Int)) = true := decide_eq_true (by omega)
              obtain ⟨u, hu⟩ : ∃ u : UV, u = { v s with c := (flushS (v s).c tk).1, r := r1, v := v6 } := ⟨_, rfl⟩
              have hput := HPUT.out
              rw [← hu] at hput
              have hm := hput.S s hs2
              have m2 := hput.madec hs2
              have f2 := hput.b2.frozen s
              rw [updU_same] at hm m2
              obtain ⟨vs, hrow, hvl, hpp⟩ := hm.m
              have hmn : u.mn = u.ps.length := by have := hrow.len; omega
              have hpn := hm.pn
              have hpn2 : u.ps.length ≤ k := by rw [hu]; exact (HK2.out.S s hs2).pn
              obtain ⟨mn, hmn2⟩ : ∃ x, x = u.mn := ⟨_, rfl⟩
              rw [← hmn2] at hrow m2 hmn
              have stA := (Step.refl [] w7 o5).alloc (.cells #[.slice A6 ql c6] 41) 36
              have SLA := Lib.hid (Row.made (w := w7) o5 36 41 1 #[.slice A6 ql c6] 1 rfl (by decide) 1 (Nat.le_refl _)).sl
              have HRW := Lib.hid (hrow.step stA (by simp)); have HPA := Lib.hid (hput.step stA (by simp)); have STA := Lib.hid stA; have HVL := Lib.hid hvl; have HPP := Lib.hid hpp; have HMN := Lib.hid hmn; have HPN := Lib.hid hpn2; have HU := Lib.hid hu
              have hmnb : mn ≤ 1000 := by omega
              clear hput hm hrow hvl hpp hpn hpn2 hmn hmn2 hu stA HPUT
              go_upto_region 56 with (at_builtin; refine wpList_append_row _ rfl (.tmp 228) (.tmp 230) _ rfl el_bss (ext o5 w7.heap.size 36) (24 + s) u.MA mn u.mc _ rfl HRW.out (ext o5 w7.heap.size 36) 36 _ 1 1 [.slice A6 ql c6] rfl SLA.out (by simp [Value.oneCell']) (by omega) (by unfold maxLen; omega) ?_; intro A8 c8 w8 hr8 hg8 hat8; have HR8 := Lib.hid hr8; have HST8 := Lib.hid (Step.append HRW.out hg8 (24 + s)); have b28 := HPA.out.b2.step HST8.out (by rw [HPA.out.t2]; simp; omega); have z28 : w8.cell? ⟨w.heap.size + 2, s, none⟩ = (#[Value.slice (updU v s u 0).MA (updU v s u 0).mn (updU v s u 0).mc, .slice (updU v s u 1).MA (updU v s u 1).mn (updU v s u 1).mc] : Array Value)[s]? := b28.cell s; have z28' : ∃ x, w8.cell? ⟨w.heap.size + 2, s, none⟩ = some x := ⟨_, z28.trans (Array.getElem?_eq_getElem (by show s < 2; exact hs2))⟩; obtain ⟨x28, z28⟩ := z28'; have f28 := b28.frozen s; have l28 := b28.lt; clear hr8 hg8 hat8 b28)
              have st8 := (STA.out.nil (ts := [24 + s])).trans HST8.out
              have hm8 := madeC_snoc (A' := A8) (c' := c8) HVL.out HPP.out st8 (by simp; omega) HQL.out HR8.out (HQ7.out.step st8 (by simp; omega))
              have hmore := HPA.out.more hs2 HST8.out (A' := A8) (n' := mn + 1) (c' := c8) (q := q) (by rw [updU_same]; exact hm8) ⟨by have := HQL.out; omega, by have := HQL.out; omega⟩ (by rw [updU_same]; have := HPN.out; omega)
              rw [updU_twice] at hmore
              have stC : Step [23] w8 (ext (ext o5 w7.heap.size 36) (w7.alloc (.cells #[.slice A6 ql c6] 41)).heap.size (24 + s)) (w8.setCell ⟨w.heap.size + 2, s, none⟩ (.slice A8 (mn + 1) c8)) (ext (ext o5 w7.heap.size 36) (w7.alloc (.cells #[.slice A6 ql c6] 41)).heap.size (24 + s)) := (Step.refl _ _ _).setCell (.inr (by
                show ext _ _ _ (w.heap.size + 2) ∈ [23]
                rw [HST8.out.own _ HPA.out.b2.lt, HPA.out.t2]; simp)) _
              have hrw9 := (HROW7.out.step st8 (by simp; omega)).step stC (by simp)
              have HM9 := Lib.hid hmore; have HRW9 := Lib.hid hrw9
              clear st8 hm8 hmore stC hrw9 HROW7 HQ7 HR8 HST8 HRW HPA STA SLA z28 f28 l28 m2 f2
              obtain ⟨w9, hw9⟩ : ∃ w9, w9 = w8.setCell ⟨w.heap.size + 2, s, none⟩ (.slice A8 (mn + 1) c8) := ⟨_, rfl⟩
              rw [← hw9] at HM9 HRW9 ⊢
              clear hw9
              generalize ext (ext o5 w7.heap.size 36) _ (24 + s) = o9 at HM9 HRW9
              go_wp2_with fail
              refine (OverBytes_row w9 o9 37 A3 ql c3 _ HRW9.out (by omega)).mono ?_
              rintro e w10 ⟨rfl, hst10⟩
              have HQ10 := Lib.hid (HM9.out.step hst10 (fun t ht => by simp at ht; subst ht; exact .inl (by omega)))
              clear hst10 HRW9 HM9
              go_wp2_with fail
              go_meet
              exact ⟨_, o9, tk, rfl, hk1, hk2, HQ10⟩
          · obtain ⟨s', hs'⟩ : ∃ s', s' = 1 - s := ⟨_, rfl⟩
            have hs'2 : s' < 2 := by omega
            have hsub : (1 : Int) - (s : Int) = (s' : Int) := by omega
            clear hs'
            have d0 : ((κ : Int) == 0) = false := by simp; omega
            have d1 : ((κ : Int) == 1) = false := by simp; omega
            have d2 : ((κ : Int) == 2) = false := by simp; omega
            go_upto_region 22 with fail
            clear d0 d1 d2
            have HCH := Lib.hid (fun W oW (hs : Step [] w2 o2 W oW) => chosen_one (w := W) (o := oW) (S := S) a1 a3 (HB2.out.step hs (by simp)) HBN.out (τ := 24 + s') (by omega) ((HK2.out.S s' hs'2).m.step hs (by simp) (by simp)) (HK2.out.S s' hs'2).pl (by have := (HK2.out.S s' hs'2).pn; omega))
            have HCX := Lib.hid (fun W oW (hs : Step [] w2 o2 W oW) => And.intro ((HX2.out.step hs (by simp)).cell 0) (And.intro ((HX2.out.step hs (by simp)).cell 1) (And.intro ((HX2.out.step hs (by simp)).cell 2) ((HX2.out.step hs (by simp)).cell 3))))
            have HMC := Lib.hid (fun W oW (hs : Step [] w2 o2 W oW) => (HK2.out.step hs (by simp)).madec hs'2)
            have hwr : IntKind.i64.wrap ((1 : Int) - (s : Int)) = (s' : Int) := by rw [hsub]; exact IntWalk.i64_in _ (by omega)
            have hwr2 : IntKind.i64.wrap (s' : Int) = (s' : Int) := IntWalk.i64_in _ (by omega)
            have hs'0 : (0 : Int) ≤ (s' : Int) := by omega
            have hs'1 : (s' : Int) < 2 := by omega
            have hsz : (0 : Int) ≤ (1 : Int) - (s : Int) := by omega
            have hsz1 : (1 : Int) - (s : Int) < 2 := by omega
            refine wp_region_tillK (S0 := fun w' => ∃ oo, Step [] w2 o2 w' oo) (st := 9) (by kernel_rfl) (fun _ _ _ _ _ h => h) ?_
            intro KQ HQ HKN
            have hs3 : Step [] w2 o2 w2.drew o2 := (Step.refl _ _ _).drew
            generalize World.drew _ = w3 at hs3 ⊢
            have LK : ∃ oo, Step [] w2 o2 w3 oo := ⟨_, hs3⟩
            have HS3 := Lib.hid hs3
            clear hs3
            refine wpAnyG_load (i := 0) (v := ?_) rfl rfl (by kernel_rfl) (by kernel_rfl) (by kernel_rfl) (by kernel_rfl) (by kernel_rfl) (by kernel_rfl) (fun _ _ _ h => HQ.out _ _ _ _ _ h) (Or.inl ⟨by rfl, ?_⟩) LK ?_
            rotate_left
            · intro w' hSw; obtain ⟨oo, hSw⟩ := hSw; obtain ⟨z0, z1, z2, z3⟩ := HCX.out _ _ hSw; go_simp; try with_reducible rfl
            simp only [Act.put, List.getElem_toArray, List.getElem_cons_zero, List.setIfInBounds_toArray, List.set_cons_zero, List.set_cons_succ]
            refine wpAnyG_take (i := 1) (v := ?_) rfl (by kernel_rfl) (by kernel_rfl) (by kernel_rfl) (by kernel_rfl) (fun _ _ _ h => HQ.out _ _ _ _ _ h) (Or.inl ⟨by rfl, ?_⟩) (.inr LK) ?_
            rotate_left
            · intro w' _; go_simp; try with_reducible rfl
            simp only [Act.put, List.getElem_toArray, List.getElem_cons_zero, List.getElem_cons_succ, List.setIfInBounds_toArray, List.set_cons_zero, List.set_cons_succ]
            refine wpAnyG_take (i := 2) (v := ?_) rfl (by kernel_rfl) (by kernel_rfl) (by kernel_rfl) (by kernel_rfl) (fun _ _ _ h => HQ.out _ _ _ _ _ h) (Or.inl ⟨by rfl, ?_⟩) (.inr LK) ?_
            rotate_left
            · intro w' _; go_simp; try with_reducible rfl
            simp only [Act.put, List.getElem_toArray, List.getElem_cons_zero, List.getElem_cons_succ, List.setIfInBounds_toArray, List.set_cons_zero, List.set_cons_succ]
            refine wpAnyG_take (i := 3) (v := ?_) rfl (by kernel_rfl) (by kernel_rfl) (by kernel_rfl) (by kernel_rfl) (fun _ _ _ h => HQ.out _ _ _ _ _ h) (Or.inl ⟨by rfl, ?_⟩) (.inr LK) ?_
            rotate_left
            · intro w' _; go_simp; try with_reducible rfl
            simp only [Act.put, List.getElem_toArray, List.getElem_cons_zero, List.getElem_cons_succ, List.setIfInBounds_toArray, List.set_cons_zero, List.set_cons_succ]
            refine wpAnyG_load (i := 4) (v := ?_) rfl rfl (by kernel_rfl) (by kernel_rfl) (by kernel_rfl) (by kernel_rfl) (by kernel_rfl) (by kernel_rfl) (fun _ _ _ h => HQ.out _ _ _ _ _ h) (Or.inl ⟨by rfl, ?_⟩) LK ?_
            rotate_left
            · intro w' hSw; obtain ⟨oo, hSw⟩ := hSw; have z0 := HMC.out _ _ hSw; go_simp; try with_reducible rfl
            simp only [Act.put, List.getElem_toArray, List.getElem_cons_zero, List.getElem_cons_succ, List.setIfInBounds_toArray, List.set_cons_zero, List.set_cons_succ]
            refine wpAnyG_ready (rs := [5]) (by kernel_rfl) (by simp) ?_
            refine AllReadyG.cons rfl (fun K hK => ?_) AllReadyG.nil
            go_simp
            refine (HCH.out _ _ HS3.out).mono ?_
            rintro e w4 ⟨p, pl, pA, pc, ok, rfl, hpl, hpm, hb4, hps⟩
            have HST4 := Lib.hid (HS3.out.below hb4 40)
            have HPL := Lib.hid hpl; have HPS := Lib.hid hps
            clear hpl hb4 hps
            try go_simp
            have LK4 : ∃ oo, Step [] w2 o2 w4 oo := ⟨_, HST4.out⟩
            refine hK.out _ _ (.inr LK4) ?_
            clear hK K
            refine wpAnyG_take (i := 6) (v := ?_) rfl (by kernel_rfl) (by kernel_rfl) (by kernel_rfl) (by kernel_rfl) (fun _ _ _ h => HQ.out _ _ _ _ _ h) (Or.inl ⟨by rfl, ?_⟩) (.inr LK4) ?_
            rotate_left
            · intro w' _; go_simp; try with_reducible rfl
            simp only [Act.put, List.getElem_toArray, List.getElem_cons_zero, List.getElem_cons_succ, List.setIfInBounds_toArray, List.set_cons_zero, List.set_cons_succ]
            refine wpAnyG_take (i := 7) (v := ?_) rfl (by kernel_rfl) (by kernel_rfl) (by kernel_rfl) (by kernel_rfl) (fun _ _ _ h => HQ.out _ _ _ _ _ h) (Or.inl ⟨by rfl, ?_⟩) (.inr LK4) ?_
            rotate_left
            · intro w' _; go_simp; try with_reducible rfl
            simp only [Act.put, List.getElem_toArray, List.getElem_cons_zero, List.getElem_cons_succ, List.setIfInBounds_toArray, List.set_cons_zero, List.set_cons_succ]
            refine wpAnyG_take (i := 8) (v := ?_) rfl (by kernel_rfl) (by kernel_rfl) (by kernel_rfl) (by kernel_rfl) (fun _ _ _ h => HQ.out _ _ _ _ _ h) (Or.inl ⟨by rfl, ?_⟩) (.inr LK4) ?_
            rotate_left
            · intro w' _; go_simp; try with_reducible rfl
            simp only [Act.put, List.getElem_toArray, List.getElem_cons_zero, List.getElem_cons_succ, List.setIfInBounds_toArray, List.set_cons_zero, List.set_cons_succ]
            refine wpAnyG_ready (rs := [9]) (by kernel_rfl) (by simp) ?_
            refine AllReadyG.cons rfl (fun K hK => ?_) AllReadyG.nil
            go_simp
            refine hK.out _ _ (.inl rfl) ?_
            clear hK K
            refine wpAnyG_ready (rs := [10]) (by kernel_rfl) (by simp) ?_
            refine AllReadyG.cons rfl (fun K hK => ?_) AllReadyG.nil
            go_simp
            refine hK.out _ _ (.inl rfl) ?_
            clear hK K
            refine wpAnyG_done (by kernel_rfl) (HKN.out _ _ ?_) _
            clear HKN HQ KQ LK LK4 HCH HCX HMC hwr hwr2 hs'0 hs'1 hsz hsz1 hsub HS3
            generalize ext o2 w3.heap.size 40 = o4 at HST4 HPS
            have HK4 := Lib.hid (HK2.out.step HST4.out (by simp))
            cases ok
            · clear HK2 HPS HPL HST4
              go_wp2_with fail
              exact ⟨⟨k + 1, _, v, t, by omega, by go_num, rfl, htl, hth, Lib.hid HK4.out.up⟩, by simp [intOf]; omega⟩
            · have HR4 := Lib.hid (HR2.out.step HST4.out (by simp)); have HRO4 := Lib.hid ((HST4.out.own _ HR2.out.lt).trans HRO.out)
              clear HK2 HR2 HRO HX2 HXO2 HB2 HST4
              go_wp2_with fail
              refine (LentBytes_any w4 o4 40 pA pl pc p HPS.out hpm).mono ?_
              rintro e w5 ⟨gi, ci, rfl, hb5, hgi, hr5⟩
              have hst5 := (Step.refl [] w4 o4).below hb5 38
              have HP5 := Lib.hid (HPS.out.step hst5 (by simp)); have HI5 := Lib.hid (hr5.tagged o4 38)
              have HK5 := Lib.hid (HK4.out.step hst5 (by simp))
              have HR5 := Lib.hid (HR4.out.step hst5 (by simp)); have HRO5 := Lib.hid ((hst5.own _ HR4.out.lt).trans HRO4.out)
              clear hst5 hb5 hgi hr5 HK4 HR4 HRO4 HPS
              generalize ext o4 w4.heap.size 38 = o5 at HP5 HI5 HK5 HR5 HRO5
              have hif : Row w5 o5 38 5 1 (some ⟨gi, 0, none⟩) pl ci (byts p) := by
                have h := HI5.out.first pl (by omega) (by omega)
                have e : (byts (p ++ mkB 1 12)).take (pl * 1) = byts p := by rw [Nat.mul_one, HPL.out]; simp [byts]
                rwa [e] at h
              have hS := HK5.out.S s hs2
              obtain ⟨hbo, hcd⟩ := hS.bo.receive (by omega) p
              obtain ⟨R, hR⟩ : ∃ R, R = rReceive (v s).r p := ⟨_, rfl⟩
              rw [← hR] at hbo hcd
              have hno := recvS_out hS.bo.fit p
              rw [hcd] at hno
              have hkp := (recvS_keep hS.bo.fit p (by have := hS.bo.nn; omega) (by have := hS.bo.nw; omega)).2.2.2.2
              have hrc := Receive_ch hS.C hS.bo.fit (TU_ok hs2) 36 (by show 36 ≠ 1 + 10 * s; omega) (by show 36 ≠ 2 + 10 * s; omega) (by show 36 ≠ 3 + 10 * s; omega) (fun n => by show 1000 + 2 * n + s ≠ 36; omega) (fun n => by show 1000 + 2 * n + s ≠ 3 + 10 * s; omega) 38 (by show 38 ≠ 2 + 10 * s; omega) (some ⟨gi, 0, none⟩) pl ci p hif.sl (by omega) (by have := hS.bo.nw; omega)
              have hrf := fun W oW (hs : Step [1 + 10 * s, 2 + 10 * s, 36] w5 o5 W oW) => rReceive_any (hS.R.step hs (by simp <;> omega) (by simp <;> omega)) (hS.bo.bd (by omega)) (hS.bo.rfit (by omega)) hS.bo.nb pA pl pc p (HP5.out.step hs (by simp <;> omega)) (by omega)
              rw [← hR] at hrf
              obtain ⟨r1, ms, code⟩ := R
              have HBO2 := Lib.hid hbo; have HCD := Lib.hid hcd; have HRF := Lib.hid hrf; have HNO := Lib.hid hno; have HNX := Lib.hid hkp; have HRC := Lib.hid hrc
              clear hS hbo hcd hR hno hkp hrc hrf hif
              go_wp2_with fail
              refine HRC.out.mono ?_
              intro e w6 hsd
              obtain ⟨o6, GA, gm, gc, vs, he, hst6, hC6, hM6⟩ := hsd.out
              rw [HCD.out] at he hM6
              simp only at he hM6
              subst he
              have hst6 : Step [1 + 10 * s, 2 + 10 * s, 36] w5 o5 w6 o6 := hst6
              have HST6 := Lib.hid hst6; have HC6 := Lib.hid hC6; have HM6 := Lib.hid hM6
              have HR6 := Lib.hid (HR5.out.step hst6 (by rw [HRO5.out]; simp <;> omega))
              have HP6 := Lib.hid (HP5.out.step hst6 (by simp <;> omega)); have HI6 := Lib.hid (HI5.out.step hst6 (by simp <;> omega))
              have hrf6 := HRF.out _ _ HST6.out
              unfold RReceiveTo at hrf6
              simp only at hrf6
              have HRF6 := Lib.hid hrf6
              have hgm : gm ≤ 64 := by have h1 : ms.length ≤ 64 := HNO.out.2.1; have h2 : ms.length = gm := hM6.len; omega
              clear hsd hst6 hC6 hM6 HRC HR5 HRO5 HP5 HI5 HRF hrf6
              go_upto_region 26 with fail
              go_upto_region 27 with (first | (refine wpList_load_rc rfl (.tmp 21) rfl rfl HR6.out ?_) | (go_at_call 25; refine HRF6.out.mono ?_; rintro e w7 ⟨v7, A7, n7, c7, rfl, hb7, hr7, hbs7⟩; have HB7 := Lib.hid hb7; have HR7 := Lib.hid hr7; have HBS7 := Lib.hid hbs7; have HZ := Lib.hid (Blk.new w7 32 zero11); clear hb7 hr7 hbs7) | (refine wpList_store_rc (c := r1) (v := v7) rfl (.tmp 36) (.tmp 124) rfl rfl rfl HZ.out rfl ?_))
              have st7 := (Step.refl [] w6 o6).below HB7.out 40
              have stA := st7.alloc (.cells zero11 32) 39
              have st8 := setRow_new stA HB7.out.size (rcells r1 v7)
              have s78 : Step [39] w7 (ext o6 w6.heap.size 40) ((w7.alloc (.cells zero11 32)).setRow w7.heap.size (rcells r1 v7)) (ext (ext o6 w6.heap.size 40) w7.heap.size 39) := ((Step.refl [39] w7 _).alloc (.cells zero11 32) 39).trans (step_setRow (ext_ge (Nat.le_refl _)) _)
              have r8 := HR7.out.step s78 (by simp) (by simp)
              have q8 := HBS7.out.step s78 (by simp) (by simp)
              have z8 := HZ.out.setRow (rcells r1 v7)
              obtain ⟨w8, hw8⟩ : ∃ w8, w8 = (w7.alloc (.cells zero11 32)).setRow w7.heap.size (rcells r1 v7) := ⟨_, rfl⟩
              rw [← hw8] at st8 r8 q8 z8
              unfold zero11 at hw8
              rw [← hw8]
              generalize w7.heap.size = z at z8 ⊢
              generalize ext (ext o6 w6.heap.size 40) _ 39 = o8 at st8 r8 q8
              have HR8 := Lib.hid r8; have HQ8 := Lib.hid q8; have HZ8 := Lib.hid z8
              have HC8 := Lib.hid (HC6.out.step st8 (by simp) (by simp) (by simp) (by simp)); have HM8 := Lib.hid (HM6.out.step st8 (by simp) (by simp))
              have HP8 := Lib.hid (HP6.out.step st8 (by simp)); have HI8 := Lib.hid (HI6.out.step st8 (by simp))
              have HST8 := Lib.hid (HST6.out.trans st8.nil)
              have hcc : (code != code) = false := by simp
              clear st7 stA st8 s78 r8 q8 z8 hw8 HB7 HR7 HBS7 HZ HC6 HM6 HST6 HR6 HRF6 HP6 HI6
              go_wp2_with fail
              refine (KeptBytes_any w8 o8 o8 38 40 gi ci pA pl pc p HI8.out.sl HP8.out hpm).mono ?_
              rintro e w9 ⟨rfl, q9, hw9⟩
              have hs9 : Step [] w8 o8 w9 o8 := by rw [hw9]; exact (Step.refl [] w8 o8).drewN q9
              have HST9 := Lib.hid (HST8.out.trans hs9.nil)
              have HC9 := Lib.hid (HC8.out.step hs9 (by simp) (by simp) (by simp) (by simp)); have HR9 := Lib.hid (HR8.out.step hs9 (by simp) (by simp)); have HQ9 := Lib.hid (HQ8.out.step hs9 (by simp) (by simp)); have HM9 := Lib.hid (HM8.out.step hs9 (by simp) (by simp)); have HZ9 := Lib.hid (HZ8.out.step hs9 (by simp)); have HI9 := Lib.hid (HI8.out.step hs9 (by simp))
              have th9 := there_step HST9.out HK5.out.th HK5.out.lt (by rw [HK5.out.t1]; simp; omega)
              have TH9 : Hid (w9.there (w.heap.size + 1) (s * 11) 11) := Lib.hid (fun j hj => by
                have := th9 (s * 11 + j) (by omega)
                rwa [Nat.zero_add] at this)
              have hput := HK5.out.put hs2 HST9.out (fun t ht => by simp at ht; omega) HC9.out HR9.out HBO2.out HNX.out
              have hstC : Step [22] w9 o8 (w9.setCells (w.heap.size + 1) (s * 11) (rcells r1 v7).toList) o8 := by
                have := setCells_step (w.heap.size + 1) o8 (rcells r1 v7).toList (s * 11) w9
                rwa [show o8 (w.heap.size + 1) = 22 from (HST9.out.own _ HK5.out.lt).trans HK5.out.t1] at this
              have HQ10 := Lib.hid (HQ9.out.step hstC (by simp) (by simp)); have HM10 := Lib.hid (HM9.out.step hstC (by simp) (fun i => by show 1000 + 2 * i + s ∉ _; simp; omega)); have HI10 := Lib.hid (HI9.out.step hstC (by simp))
              obtain ⟨u, hu⟩ : ∃ u : UV, u = { v s with c := (recvS (v s).c p).1, r := r1, v := v7 } := ⟨_, rfl⟩
              have hun : (v s).c.next + gm ≤ u.c.next := by
                rw [hu]
                have := HNO.out.1; have h2 := HM9.out.len
                rw [← h2]; exact this
              rw [← hu] at hput
              have HPUT := Lib.hid hput; have HUN := Lib.hid hun
              clear hw9 hs9 th9 hput hstC hu hun HST8 HC8 HR8 HQ8 HM8 HZ8 HI8 HC9 HR9 HQ9 HM9 HI9 HST9 HP8 HBO2 HNX HK5
              have hsI : (s : Int) < 2 := by omega
              have hs0 : (0 : Int) ≤ (s : Int) := by omega
              go_upto_region 30 with (first | (refine wpList_load_rc rfl (.tmp 36) rfl rfl HZ9.out ?_) | (refine wpList_store_rcm rfl (.tmp 138) (.tmp 137) rfl (w.heap.size + 1) (s * 11) r1 v7 rfl rfl TH9.out ?_))
              obtain ⟨w10, hw10⟩ : ∃ w10, w10 = w9.setCells (w.heap.size + 1) (s * 11) (rcells r1 v7).toList := ⟨_, rfl⟩
              rw [← hw10] at HPUT HQ10 HM10 HI10 ⊢
              clear hw10 hsI hs0 TH9 HZ9
              have hif : Row w10 o8 38 5 1 (some ⟨gi, 0, none⟩) pl ci (byts p) := by
                have h := HI10.out.first pl (by omega) (by omega)
                have e : (byts (p ++ mkB 1 12)).take (pl * 1) = byts p := by rw [Nat.mul_one, HPL.out]; simp [byts]
                rwa [e] at h
              have HIF := Lib.hid hif
              clear hif HI10
              go_wp2_with fail
              refine (OverBytes_row w10 o8 38 (some ⟨gi, 0, none⟩) pl ci _ HIF.out (by omega)).mono ?_
              rintro e w11 ⟨rfl, hst11⟩
              have HPUT11 := Lib.hid (HPUT.out.step hst11 (fun t ht => by simp at ht; subst ht; exact .inl (by omega))); have HQ11 := Lib.hid (HQ10.out.step hst11 (by simp) (by simp)); have HM11 := Lib.hid (HM10.out.step hst11 (by simp) (fun i => by show 1000 + 2 * i + s ∉ _; simp; omega))
              clear hst11 HPUT HQ10 HM10 HIF
              have hn7 : ms.length = n7 := by obtain ⟨_, _, h, _⟩ := HQ11.out; exact h
              have hmg : ms.length = gm := HM11.out.len
              obtain rfl : n7 = gm := by omega
              have HML := Lib.hid hmg
              clear hn7 hmg
              go_wp2_with fail
              refine (texts_any HM11.out.bs (by omega)).mono ?_
              rintro e w12 ⟨TA, tc, rfl, hb12, hs12⟩
              have hst12 := (Step.refl [] w11 o8).below hb12 36
              have HPUT12 := Lib.hid (HPUT11.out.step hst12 (by simp)); have HQ12 := Lib.hid (HQ11.out.step hst12 (by simp) (by simp)); have HM12 := Lib.hid (HM11.out.step hst12 (by simp) (by simp)); have HT12 := Lib.hid hs12
              clear hst12 hb12 hs12 HPUT11 HQ11 HM11
              generalize ext o8 w11.heap.size 36 = o12 at HPUT12 HQ12 HM12
              go_wp2_with fail
              refine (texts_any HQ12.out.at_ (by omega)).mono ?_
              rintro e w13 ⟨TB, td, rfl, hb13, hs13⟩
              have hst13 := (Step.refl [] w12 o12).below hb13 36
              have HPUT13 := Lib.hid (HPUT12.out.step hst13 (by simp)); have HM13 := Lib.hid (HM12.out.step hst13 (by simp) (by simp)); have HT13 := Lib.hid (HT12.out.below hb13); have HU13 := Lib.hid hs13
              clear hst13 hb13 hs13 HPUT12 HQ12 HM12 HT12
              generalize ext o12 w12.heap.size 36 = o13 at HPUT13 HM13
              go_wp2_with fail
              refine (SameTexts_eq w13 (fun _ => 0) (fun _ => 0) 0 0 TA TB _ tc td ms HT13.out HU13.out).mono ?_
              rintro e w14 ⟨rfl, q14, hw14⟩
              have hst14 : Step [] w13 o13 w14 o13 := by rw [hw14]; exact (Step.refl [] w13 o13).drewN q14
              have HPUT14 := Lib.hid (HPUT13.out.step hst14 (by simp)); have HF14 := Lib.hid (HM13.out.step hst14 (by simp) (by simp)).from_
              clear hst14 hw14 HPUT13 HM13 HT13 HU13
              go_wp2_with fail
              go_loopw [149] (fun s149 wr => ∃ (j : Nat) (oj : Own), j ≤ n7 ∧ s149 = .int .i64 j ∧ Hid (US w wr oj w.heap.size (updU v s u) (k + 1)) ∧ Hid (MsgsFrom wr oj 36 (TU s).ε (v s).c.next GA n7 gc vs ms j)) (fun s149 _ => n7 - (intOf s149).toNat)
              case atStart => exact ⟨0, _, Nat.zero_le _, rfl, HPUT14, HF14⟩
              case round => as_aux_lemma =>
                obtain ⟨j, oj, hj, rfl, HP, HF⟩ := hrel
                clear HPUT14 HF14
                by_cases hlt2 : j < n7
                · obtain ⟨x, hx⟩ : ∃ x, ms[j]? = some x := ⟨_, List.getElem?_eq_getElem (by rw [HML.out]; omega)⟩
                  obtain ⟨XA, xl, xc, q1, q2⟩ := HF.out.el j x (Nat.le_refl _) hx
                  obtain ⟨g2, off2, hA2, -, -, hc2⟩ := HF.out.row.sl.2.2.2 (by omega)
                  subst hA2
                  have c0 := hc2 j _ q1
                  have hxl : xl ≤ 1024 := by
                    have := HNO.out.2.2 x (List.mem_of_getElem? hx)
                    have h2 := q2.len
                    simp at h2; omega
                  have HX := Lib.hid q2
                  clear q1 q2 hx hc2
                  go_wp2_with fail
                  refine (OverBytes_row wr oj ((TU s).ε ((v s).c.next + j)) XA xl xc _ HX.out (by omega)).mono ?_
                  rintro e w15 ⟨rfl, hst15⟩
                  have HP15 := Lib.hid (HP.out.step hst15 (fun t ht => by
                    rw [List.mem_singleton] at ht
                    subst ht
                    refine .inr ⟨s, (v s).c.next + j, hs2, rfl, ?_⟩
                    rw [updU_same]
                    have := HUN.out; omega))
                  have HF15 := Lib.hid (HF.out.next hst15 (by show 1000 + 2 * _ + s ≠ 36; omega) (fun a b (h : 1000 + 2 * a + s = 1000 + 2 * b + s) => by omega))
                  clear hst15 HX HP HF c0
                  go_wp2_with fail
                  go_roundw
                  case rel => exact ⟨j + 1, oj, by omega, by go_num, HP15, HF15⟩
                  case measure => simp [intOf]; omega
                · obtain rfl : n7 = j := by omega
                  go_wp2_with fail
                  go_meet
                  exact ⟨u, oj, t, rfl, htl, hth, HP⟩
        case rest => as_aux_lemma =>
          obtain ⟨u, o5, t2, rfl, ht2l, ht2h, HQ⟩ := hcut
          obtain ⟨v2, hv2⟩ : ∃ v2, v2 = updU v s u := ⟨_, rfl⟩
          rw [← hv2] at HQ
          have HQ2 := HQ
          clear hv2 HQ HK2 HX2 HR2 HB2 HXO2 HRO
          have hsI : (s : Int) < 2 := by omega
          have hs0 : (0 : Int) ≤ (s : Int) := by omega
          go_upto_region 57 with fail
          have hq := HQ2.out.step ((Step.refl [] _ o5).drew) (by simp)
          clear HQ2
          refine wp_region_tillK (S0 := fun w' => w'.cell? ⟨w.heap.size, s, none⟩ = some (.pointer (some ⟨(v2 s).b, 0, none⟩)) ∧ w'.rangeAt (w.heap.size + 1) (s * 11) (v2 s).cells) (st := 6) (by kernel_rfl) (fun _ _ _ _ _ h => h) ?_
          intro KQ HQ HKN
          generalize World.drew _ = w3 at hq ⊢
          have LK := And.intro (hq.endc hs2) (hq.b1 s hs2)
          have HS := hq.S s hs2
          have HSM := Lib.hid (same_any HS.C HS.R (by have := HS.bo.out; omega) HS.bo.rel)
          have HQ3 := Lib.hid hq
          clear hq HS
          refine wpAnyG_take (i := 0) (v := ?_) rfl (by kernel_rfl) (by kernel_rfl) (by kernel_rfl) (by kernel_rfl) (fun _ _ _ h => HQ.out _ _ _ _ _ h) (Or.inl ⟨by rfl, ?_⟩) (.inr LK) ?_
          rotate_left
          · intro w' _; go_simp; try with_reducible rfl
          simp only [Act.put, List.getElem_toArray, List.getElem_cons_zero, List.setIfInBounds_toArray, List.set_cons_zero, List.set_cons_succ]
          refine wpAnyG_take (i := 1) (v := ?_) rfl (by kernel_rfl) (by kernel_rfl) (by kernel_rfl) (by kernel_rfl) (fun _ _ _ h => HQ.out _ _ _ _ _ h) (Or.inl ⟨by rfl, ?_⟩) (.inr LK) ?_
          rotate_left
          · intro w' _; go_simp; try with_reducible rfl
          simp only [Act.put, List.getElem_toArray, List.getElem_cons_zero, List.getElem_cons_succ, List.setIfInBounds_toArray, List.set_cons_zero, List.set_cons_succ]
          refine wpAnyG_load (i := 2) (v := ?_) rfl rfl (by kernel_rfl) (by kernel_rfl) (by kernel_rfl) (by kernel_rfl) (by kernel_rfl) (by kernel_rfl) (fun _ _ _ h => HQ.out _ _ _ _ _ h) (Or.inl ⟨by rfl, ?_⟩) LK ?_
          rotate_left
          · intro w' hSw; obtain ⟨z0, z1⟩ := hSw; go_simp; try with_reducible rfl
          simp only [Act.put, List.getElem_toArray, List.getElem_cons_zero, List.getElem_cons_succ, List.setIfInBounds_toArray, List.set_cons_zero, List.set_cons_succ]
          refine wpAnyG_take (i := 3) (v := ?_) rfl (by kernel_rfl) (by kernel_rfl) (by kernel_rfl) (by kernel_rfl) (fun _ _ _ h => HQ.out _ _ _ _ _ h) (Or.inl ⟨by rfl, ?_⟩) (.inr LK) ?_
          rotate_left
          · intro w' _; go_simp; try with_reducible rfl
          simp only [Act.put, List.getElem_toArray, List.getElem_cons_zero, List.getElem_cons_succ, List.setIfInBounds_toArray, List.set_cons_zero, List.set_cons_succ]
          refine wpAnyG_take (i := 4) (v := ?_) rfl (by kernel_rfl) (by kernel_rfl) (by kernel_rfl) (by kernel_rfl) (fun _ _ _ h => HQ.out _ _ _ _ _ h) (Or.inl ⟨by rfl, ?_⟩) (.inr LK) ?_
          rotate_left
          · intro w' _; go_simp; try with_reducible rfl
          simp only [Act.put, List.getElem_toArray, List.getElem_cons_zero, List.getElem_cons_succ, List.setIfInBounds_toArray, List.set_cons_zero, List.set_cons_succ]
          refine wpAnyG_load (i := 5) (v := .agg (rcells (v2 s).r (v2 s).v)) rfl rfl (by kernel_rfl) (by kernel_rfl) (by kernel_rfl) (by kernel_rfl) (by kernel_rfl) (by kernel_rfl) (fun _ _ _ h => HQ.out _ _ _ _ _ h) (yields_rc (by rfl) (.tmp 239) rfl (w.heap.size + 1) (s * 11) rfl _ _ (fun _ h => h.2)) LK ?_
          simp only [Act.put, List.getElem_toArray, List.getElem_cons_zero, List.getElem_cons_succ, List.setIfInBounds_toArray, List.set_cons_zero, List.set_cons_succ]
          refine wpAnyG_ready (rs := [6]) (by kernel_rfl) (by simp) ?_
          refine AllReadyG.cons rfl (fun K hK => ?_) AllReadyG.nil
          go_simp
          refine HSM.out.mono ?_
          rintro e w4 ⟨rfl, hb4⟩
          try go_simp
          refine hK.out _ _ (.inl rfl) ?_
          clear hK K
          refine wpAnyG_ready (rs := [7]) (by kernel_rfl) (by simp) ?_
          refine AllReadyG.cons rfl (fun K hK => ?_) AllReadyG.nil
          go_simp
          refine hK.out _ _ (.inl rfl) ?_
          clear hK K
          refine wpAnyG_done (by kernel_rfl) (HKN.out _ _ ?_) _
          have HK9 := Lib.hid (HQ3.out.step ((Step.refl [] w3 o5).below hb4 39) (by simp))
          clear HKN HQ KQ LK HSM HQ3 hb4
          go_wp2_with fail
          go_roundw
          case rel => exact ⟨k + 1, _, _, t2, by omega, by go_num, rfl, ht2l, ht2h, HK9⟩
          case measure => simp [intOf]; omega
      · obtain rfl : m0 = k := by omega
        go_wp2_with fail
        refine (awake_any _).mono ?_
        rintro e w9 ⟨rfl, hb9⟩
        go_wp2_with fail
        go_ret
        exact ⟨rfl, HK.out.bl.trans (hb9.mono HK.out.bl.size)⟩
end Go.Proofs.Ythjjipcbpmdfnaa
