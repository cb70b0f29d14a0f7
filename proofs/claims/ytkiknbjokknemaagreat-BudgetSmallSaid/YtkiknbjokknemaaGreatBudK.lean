/-
  WALK of budget.Step.
-/
import Derived.Test.YtkiknbjokknemaaGreatBudJ
import Derived.Test.YtkiknbjokknemaaGreatBudE
namespace Go.Proofs.YtkiknbjokknemaaGreat
open Go.RowKit Go.Maps

theorem keyI : Keyed Tryz.prog 3 := int_keyed Tryz.underlying3
theorem zeroI (w : World) : (zeroValue 3).run Tryz.prog w = .ok (.int .i64 0) w := by kernel_rfl

theorem wf_i64 {x : Int} (h : -9223372036854775808 ≤ x) (h' : x ≤ 9223372036854775807) : (Lit.int .i64 x).wf = true := by
  simp only [Lit.wf, Bool.and_eq_true, decide_eq_true_eq]
  have e1 : IntKind.i64.min = -9223372036854775808 := by decide +kernel
  have e2 : IntKind.i64.max = 9223372036854775807 := by decide +kernel
  rw [e1, e2]
  exact ⟨h, h'⟩

theorem make_of (t e : TypeId) (z : Value) (size bytes : Nat) (ht : Tryz.prog.underlying t = some (.slice e)) (hi : (Tryz.prog.info? e).map (fun i => (i.zero, i.size, i.bytes)) = some (some z, size, bytes)) (hb : bytes ≤ 1000) (m : Nat) (hm : m ≤ 64) (hs : size ≤ 1000) :
    ∃ cs : Array Value, cs.size = m * size ∧ ∀ W, (Instr.makeSlice t (.int .i64 (m : Int)) (.int .i64 (m : Int))).run Tryz.prog W = .ok (.slice (some ⟨W.heap.size, 0, none⟩) m m) (W.alloc (.cells cs e)) := by
  obtain ⟨i, h1, h2, h3, h4⟩ := info_parts hi
  have hb64 : m * size ≤ 64 * 1000 := Nat.mul_le_mul hm hs
  have hbm : bytes * m ≤ 1000 * 64 := Nat.mul_le_mul hb hm
  refine ⟨madeCells z.cells (m * size), size_madeCells _ _, fun W => ?_⟩
  have h := run_makeSlice (P := Tryz.prog) W t e i z ht h1 h2 .i64 .i64 (m : Int) (m : Int) (by omega) (by omega) (by rw [h3, Int.toNat_natCast]; omega) (by rw [h4]; have := Int.ofNat_le.2 hbm; rw [Int.natCast_mul] at this; omega) (by omega)
  rw [h3, Int.toNat_natCast] at h
  exact h

theorem make_item (m : Nat) (hm : m ≤ 64) : ∃ cs : Array Value, cs.size = m * 3 ∧ ∀ W, (Instr.makeSlice 24 (.int .i64 (m : Int)) (.int .i64 (m : Int))).run Tryz.prog W = .ok (.slice (some ⟨W.heap.size, 0, none⟩) m m) (W.alloc (.cells cs 28)) :=
  make_of 24 28 (.agg #[.int .i64 0, .int .i64 0, .int .i64 0]) 3 24 Tryz.underlying24 (by kernel_rfl) (by decide) m hm (by decide)
theorem make_entry (m : Nat) (hm : m ≤ 64) : ∃ cs : Array Value, cs.size = m * 2 ∧ ∀ W, (Instr.makeSlice 63 (.int .i64 (m : Int)) (.int .i64 (m : Int))).run Tryz.prog W = .ok (.slice (some ⟨W.heap.size, 0, none⟩) m m) (W.alloc (.cells cs 66)) :=
  make_of 63 66 (.agg #[.pointer none, .int .i64 0]) 2 16 Tryz.underlying63 (by kernel_rfl) (by decide) m hm (by decide)

/-- Inside Step's second loop: i items and entries are laid. -/
structure Fill (w0 wr : World) (o or : Own) (mb ob qb n m : Nat) (l : List It) (ws : List (Int × Int)) (i : Nat) : Prop where
  st : Step [] w0 o wr or
  map : wr.ownsMap Tryz.prog 3 (plainElem (H := Unit) Tryz.prog 3) mb n (mapD l)
  out : ∃ C, Blk wr ob 28 C ∧ C.size = m * 3 ∧ ∀ j x, j < i → (outs l ws)[j]? = some x → C[j * 3]? = some (.int .i64 x.id) ∧ C[j * 3 + 1]? = some (.int .i64 x.wt) ∧ C[j * 3 + 2]? = some (.int .i64 x.sc)
  que : ∃ Q, Blk wr qb 66 Q ∧ Q.size = m * 2 ∧ ∀ j, j < i → Q[j * 2]? = some (.pointer (some ⟨ob, j * 3, none⟩)) ∧ Q[j * 2 + 1]? = some (.int .i64 (j : Int))
  to : or ob = 2
  tq : or qb = 3
  lo : w0.heap.size ≤ ob
  lq : w0.heap.size ≤ qb
  ne : ob ≠ qb
  nm : mb ≠ ob ∧ mb ≠ qb

theorem ownsMap_heap {w w' : World} {P : Program} {k : TypeId} {R : Value → Option (DataW Unit × List MemPlace)} {b n : Nat} {D : DataW Unit} (h : w.ownsMap P k R b n D) (hh : w'.heap[b]? = w.heap[b]?) : w'.ownsMap P k R b n D := by
  obtain ⟨es, clock, h1, h2⟩ := h
  exact ⟨es, clock, hh.trans h1, h2⟩

theorem arr_ne {C : Array Value} {i j : Nat} (v : Value) (h : i ≠ j) : (C.setIfInBounds i v)[j]? = C[j]? := Array.getElem?_setIfInBounds_ne h
theorem arr_eq {C : Array Value} {i : Nat} (v : Value) (h : i < C.size) : (C.setIfInBounds i v)[i]? = some v := by
  rw [Array.getElem?_setIfInBounds_self, if_pos h]

theorem Fill.next {w0 wr : World} {o oi : Own} {mb ob qb n m : Nat} {l : List It} {ws : List (Int × Int)} {i : Nat} (h : Fill w0 wr o oi mb ob qb n m l ws i) (hi : i < m) {a b : Int} (hx : ws[i]? = some (a, b)) (X : Obj) {y : Int} (hy : y = min (scoreOf l a + b) topScore) :
    ∃ o', Fill w0 ((((((wr.setCell ⟨ob, i * 3, none⟩ (.int .i64 a)).setCell ⟨ob, i * 3 + 1, none⟩ (.int .i64 b)).setCell ⟨ob, i * 3 + 2, none⟩ (.int .i64 y)).setCell ⟨qb, i * 2, none⟩ (.pointer (some ⟨ob, i * 3, none⟩))).setCell ⟨qb, i * 2 + 1, none⟩ (.int .i64 (i : Int))).alloc X) o o' mb ob qb n m l ws (i + 1) := by
  obtain ⟨st, hmap, ⟨C, hCb, hCs, hCc⟩, ⟨Q, hQb, hQs, hQc⟩, to_, tq, lo, lq, ne, nm1, nm2⟩ := h
  have st1 := ((((st.setCell (p := ⟨ob, i * 3, none⟩) (.inl lo) (.int .i64 a)).setCell (p := ⟨ob, i * 3 + 1, none⟩) (.inl lo) (.int .i64 b)).setCell (p := ⟨ob, i * 3 + 2, none⟩) (.inl lo) (.int .i64 y)).setCell (p := ⟨qb, i * 2, none⟩) (.inl lq) (.pointer (some ⟨ob, i * 3, none⟩))).setCell (p := ⟨qb, i * 2 + 1, none⟩) (.inl lq) (.int .i64 (i : Int))
  have cb1 := ((((hCb.set_ (i * 3) (.int .i64 a)).set_ (i * 3 + 1) (.int .i64 b)).set_ (i * 3 + 2) (.int .i64 y)).far (p := ⟨qb, i * 2, none⟩) ne (.pointer (some ⟨ob, i * 3, none⟩))).far (p := ⟨qb, i * 2 + 1, none⟩) ne (.int .i64 (i : Int))
  have qb1 := ((((hQb.far (p := ⟨ob, i * 3, none⟩) ne.symm (.int .i64 a)).far (p := ⟨ob, i * 3 + 1, none⟩) ne.symm (.int .i64 b)).far (p := ⟨ob, i * 3 + 2, none⟩) ne.symm (.int .i64 y)).set_ (i * 2) (.pointer (some ⟨ob, i * 3, none⟩))).set_ (i * 2 + 1) (.int .i64 (i : Int))
  have hh : ∀ (W : World) (k : Nat) (v : Value) (g : Nat), mb ≠ g → (W.setCell ⟨g, k, none⟩ v).heap[mb]? = W.heap[mb]? := fun W k v g hg => Below.heap_setCell W ⟨g, k, none⟩ v mb hg
  have hm1 := ((((ownsMap_heap hmap (hh _ (i * 3) (.int .i64 a) ob nm1) |> fun z => ownsMap_heap z (hh _ (i * 3 + 1) (.int .i64 b) ob nm1)) |> fun z => ownsMap_heap z (hh _ (i * 3 + 2) (.int .i64 y) ob nm1)) |> fun z => ownsMap_heap z (hh _ (i * 2) (.pointer (some ⟨ob, i * 3, none⟩)) qb nm2)) |> fun z => ownsMap_heap z (hh _ (i * 2 + 1) (.int .i64 (i : Int)) qb nm2))
  have l1 := cb1.lt
  have l2 := qb1.lt
  refine ⟨_, st1.alloc X 5, hm1.alloc X, ⟨_, cb1.alloc X, by simp [hCs], fun j x hj hxj => ?_⟩, ⟨_, qb1.alloc X, by simp [hQs], fun j hj => ?_⟩, by rw [ext_lt l1]; exact to_, by rw [ext_lt l2]; exact tq, lo, lq, ne, nm1, nm2⟩
  · by_cases hji : j = i
    · subst hji
      have he : x = gitm l (a, b) := by
        unfold outs at hxj
        rw [List.getElem?_map, hx] at hxj
        exact (Option.some.inj hxj).symm
      subst he
      refine ⟨?_, ?_, ?_⟩
      · rw [arr_ne _ (by omega), arr_ne _ (by omega), arr_eq _ (by omega)]; rfl
      · rw [arr_ne _ (by omega), arr_eq _ (by simp; omega)]; rfl
      · rw [arr_eq _ (by simp; omega), hy]; rfl
    · obtain ⟨k1, k2, k3⟩ := hCc j x (by omega) hxj
      refine ⟨?_, ?_, ?_⟩
      · rw [arr_ne _ (by omega), arr_ne _ (by omega), arr_ne _ (by omega)]; exact k1
      · rw [arr_ne _ (by omega), arr_ne _ (by omega), arr_ne _ (by omega)]; exact k2
      · rw [arr_ne _ (by omega), arr_ne _ (by omega), arr_ne _ (by omega)]; exact k3
  · by_cases hji : j = i
    · subst hji
      refine ⟨?_, ?_⟩
      · rw [arr_ne _ (by omega), arr_eq _ (by omega)]
      · rw [arr_eq _ (by simp; omega)]
    · obtain ⟨k1, k2⟩ := hQc j (by omega)
      refine ⟨?_, ?_⟩
      · rw [arr_ne _ (by omega), arr_ne _ (by omega)]; exact k1
      · rw [arr_ne _ (by omega), arr_ne _ (by omega)]; exact k2

/-- Inside Step's third loop: j IDs are sent. -/
structure Sent (w0 w5 wt : World) (or : Own) (ob qb m : Nat) (out : List It) (ord : List Nat) (SA : Option Addr) (sc j : Nat) : Prop where
  st : Step [] w0 (fun _ => 0) wt or
  row : Row wt or 4 3 1 SA j sc (ints ((ord.take j).map fun i => (out.getD i default).id))
  out : ∃ C, Blk wt ob 28 C ∧ C.size = m * 3 ∧ ∀ i x, out[i]? = some x → C[i * 3]? = some (.int .i64 x.id) ∧ C[i * 3 + 1]? = some (.int .i64 x.wt) ∧ C[i * 3 + 2]? = some (.int .i64 (if i ∈ ord.take j then 0 else x.sc))
  que : wt.heap[qb]? = w5.heap[qb]?
  to : or ob = 2
  tq : or qb = 3
  lo : w0.heap.size ≤ ob
  lq : w0.heap.size ≤ qb
  ne : ob ≠ qb
  lt : qb < wt.heap.size

theorem laid2 {w0 w5 wt : World} {oj : Own} {ob qb m : Nat} {out : List It} {ord : List Nat} {SA : Option Addr} {sc j : Nat} (h : Sent w0 w5 wt oj ob qb m out ord SA sc j) (E : Obj) (id : Int) :
    ∃ oW, Step [] wt oj ((wt.alloc E).alloc (.cells #[.int .i64 id] 3)) oW ∧ Row ((wt.alloc E).alloc (.cells #[.int .i64 id] 3)) oW 4 3 1 SA j sc (ints ((ord.take j).map fun i => (out.getD i default).id)) ∧
      Sl ((wt.alloc E).alloc (.cells #[.int .i64 id] 3)) oW 5 1 (some ⟨wt.heap.size + 1, 0, none⟩) 1 1 [.int .i64 id] ∧ oW wt.heap.size = 5 := by
  have e1 : (wt.alloc E).heap.size = wt.heap.size + 1 := World.size_alloc _ _
  have st := ((Step.refl [] wt oj).alloc E 5).alloc (.cells #[.int .i64 id] 3) 5
  have b := Blk.new (wt.alloc E) 3 #[.int .i64 id]
  rw [e1] at st b
  refine ⟨_, st, h.row.step st (by simp), ⟨rfl, Nat.le_refl _, by decide, fun _ => ⟨wt.heap.size + 1, 0, rfl, ext_ge (Nat.le_refl _), b.lt, fun j u hj => ?_⟩⟩, ?_⟩
  · rw [Nat.zero_add, b.cell]
    simpa using hj
  · rw [ext_lt (by omega), ext_ge (Nat.le_refl _)]

theorem laid3 {w0 w5 wt w6 : World} {oj oW : Own} {ob qb m : Nat} {out : List It} {ord : List Nat} {SA : Option Addr} {sc j p : Nat} {xs : List Value} (h : Sent w0 w5 wt oj ob qb m out ord SA sc j) {cs : Array Value} {t : TypeId} {X : Obj}
    (hst : Step [] wt oj ((wt.alloc (.cells cs t)).alloc X) oW) (hrow : Row ((wt.alloc (.cells cs t)).alloc X) oW 4 3 1 SA j sc xs) (ho : oW wt.heap.size = 5) (hp : p < m) (hg : ((wt.alloc (.cells cs t)).alloc X).grownBy w6 (Value.slice SA j sc).ownBlock) :
    Step [4] ((wt.alloc (.cells cs t)).alloc X) oW w6 (ext oW ((wt.alloc (.cells cs t)).alloc X).heap.size 4) ∧ w6.cell? ⟨wt.heap.size, 0, none⟩ = cs[0]? ∧ ∃ v, w6.cell? ⟨ob, p * 3 + 2, none⟩ = some v ∧ w6.frozen? ⟨ob, p * 3 + 2, none⟩ = false := by
  have st6 := Step.append hrow hg 4
  obtain ⟨C, hCb, hCs, -⟩ := h.out
  have b1 := ((Blk.new wt t cs).alloc X).step st6 (by rw [ho]; simp)
  have b2 := (hCb.step hst (by simp)).step st6 (by rw [hst.own _ hCb.lt, h.to]; simp)
  exact ⟨st6, b1.cell 0, C[p * 3 + 2]'(by omega), (b2.cell _).trans (Array.getElem?_eq_getElem (by omega)), b2.frozen _⟩

theorem Sent.next {w0 w5 wt w6 : World} {oj oW o6 : Own} {ob qb m : Nat} {out : List It} {ord : List Nat} {SA A' : Option Addr} {sc c' j p : Nat} {x : It} (h : Sent w0 w5 wt oj ob qb m out ord SA sc j) (hx : out[p]? = some x) (hp : ord[j]? = some p) (hpm : p < m) {E X : Obj}
    (hst : Step [] wt oj ((wt.alloc E).alloc X) oW) (st6 : Step [4] ((wt.alloc E).alloc X) oW w6 o6) (hrow : Row w6 o6 4 3 1 A' (j + 1) c' (ints ((ord.take j).map fun i => (out.getD i default).id) ++ [.int .i64 x.id])) :
    Sent w0 w5 (w6.setCell ⟨ob, p * 3 + 2, none⟩ (.int .i64 0)) o6 ob qb m out ord A' c' (j + 1) := by
  obtain ⟨st, row, ⟨C, hCb, hCs, hCc⟩, que, to_, tq, lo, lq, ne, lt⟩ := h
  have hl2 : ob < ((wt.alloc E).alloc X).heap.size := Nat.lt_of_lt_of_le hCb.lt hst.size
  have hq2 : qb < ((wt.alloc E).alloc X).heap.size := Nat.lt_of_lt_of_le lt hst.size
  have oWb : oW ob = 2 := (hst.own _ hCb.lt).trans to_
  have oWq : oW qb = 3 := (hst.own _ lt).trans tq
  have o6b : o6 ob = 2 := (st6.own _ hl2).trans oWb
  have o6q : o6 qb = 3 := (st6.own _ hq2).trans oWq
  have stA := (((st.trans hst).nil (ts := [4])).trans st6).forget (ts' := []) (fun t ht _ k hk => by simp at ht; subst ht; simp)
  have stS := (Step.refl [2] w6 o6).setCell (p := ⟨ob, p * 3 + 2, none⟩) (.inr (by simp [o6b])) (.int .i64 0)
  have b2 := ((hCb.step hst (by simp)).step st6 (by rw [oWb]; simp)).set_ (p * 3 + 2) (.int .i64 0)
  refine ⟨stA.setCell (.inl lo) _, ?_, ⟨_, b2, by simp [hCs], fun i x' hx' => ?_⟩, ?_, o6b, o6q, lo, lq, ne, ?_⟩
  · have hr := hrow.step stS (by simp)
    have e : (ord.take (j + 1)).map (fun i => (out.getD i default).id) = (ord.take j).map (fun i => (out.getD i default).id) ++ [x.id] := by
      rw [List.take_add_one, hp, List.map_append]
      simp [List.getD, hx]
    rw [e]
    simpa [ints] using hr
  · obtain ⟨k0, k1, k2⟩ := hCc i x' hx'
    have hmem : i ∈ ord.take (j + 1) ↔ i ∈ ord.take j ∨ i = p := by
      rw [List.take_add_one, hp]; simp
    refine ⟨by rw [arr_ne _ (by omega)]; exact k0, by rw [arr_ne _ (by omega)]; exact k1, ?_⟩
    by_cases hip : i = p
    · subst hip
      rw [arr_eq _ (by omega), if_pos (hmem.2 (.inr rfl))]
    · rw [arr_ne _ (by omega), k2]
      have : (i ∈ ord.take (j + 1)) = (i ∈ ord.take j) := propext ⟨fun h => (hmem.1 h).resolve_right hip, fun h => hmem.2 (.inl h)⟩
      simp only [this]
  · rw [Below.heap_setCell w6 ⟨ob, p * 3 + 2, none⟩ _ qb ne.symm, st6.block qb hq2 (by rw [oWq]; simp), hst.block qb lt (by simp)]
    exact que
  · have := st6.size
    simp only [World.setCell]
    simp
    omega

theorem itms_inv {l : List It} {j : Nat} {u : Value} (h : (itms l)[j]? = some u) : ∃ x, l[j / 3]? = some x ∧ ((j % 3 = 0 ∧ u = .int .i64 x.id) ∨ (j % 3 = 1 ∧ u = .int .i64 x.wt) ∨ (j % 3 = 2 ∧ u = .int .i64 x.sc)) := by
  have hlt := (List.getElem?_eq_some_iff.1 h).1
  rw [len_itms] at hlt
  obtain ⟨x, hx⟩ : ∃ x, l[j / 3]? = some x := ⟨_, List.getElem?_eq_getElem (by omega)⟩
  obtain ⟨i0, i1, i2⟩ := itms_get l (j / 3) x hx
  refine ⟨x, hx, ?_⟩
  have hr : j % 3 = 0 ∨ j % 3 = 1 ∨ j % 3 = 2 := by omega
  rcases hr with hr | hr | hr
  · left; rw [show j / 3 * 3 = j by omega, h] at i0; exact ⟨hr, Option.some.inj i0⟩
  · right; left; rw [show j / 3 * 3 + 1 = j by omega, h] at i1; exact ⟨hr, Option.some.inj i1⟩
  · right; right; rw [show j / 3 * 3 + 2 = j by omega, h] at i2; exact ⟨hr, Option.some.inj i2⟩

theorem el_int : Elem Tryz.prog 30 3 1 8 (.int .i64 0) := ⟨Tryz.underlying30, by kernel_rfl, rfl, by decide⟩

theorem order_lt {out : List It} {p : Nat} (h : p ∈ order out) : p < out.length := by
  unfold order at h
  rw [List.mem_mergeSort] at h
  simpa using h

theorem sortS {w0 wr : World} {oi : Own} {mb ob qb n m : Nat} {l : List It} {ws : List (Int × Int)} (h : Fill w0 wr (fun _ => 0) oi mb ob qb n m l ws m) (hm : m = ws.length) (hm64 : m ≤ 64) :
    Calls Tryz.prog 28 #[.slice (some ⟨qb, 0, none⟩) m m, .func (.func 29) #[] #[]] wr fun e w' => e = .returned (.tuple #[]) ∧
      ∃ o', Step [3] wr oi w' o' ∧ ∀ j p, (order (outs l ws))[j]? = some p → w'.cell? ⟨qb, j * 2, none⟩ = some (.pointer (some ⟨ob, p * 3, none⟩)) ∧ w'.cell? ⟨qb, j * 2 + 1, none⟩ = some (.int .i64 (p : Int)) := by
  obtain ⟨st, hmap, ⟨C, hCb, hCs, hCc⟩, ⟨Q, hQb, hQs, hQc⟩, to_, tq, lo, lq, ne, nm1, nm2⟩ := h
  have hol : (outs l ws).length = m := by simp [outs, hm]
  rcases Nat.eq_zero_or_pos m with h0 | h0
  · subst h0
    refine (AnyF.slices_SortFunc_none Tryz.sortEntry (some ⟨qb, 0, none⟩) 0 _ wr).mono ?_
    rintro e w' ⟨he, rfl⟩
    have hor : order (outs l ws) = [] := by
      have : outs l ws = [] := List.length_eq_zero_iff.1 hol
      rw [this]; simp [order]
    exact ⟨he, oi, Step.refl _ _ _, fun j p hj => by rw [hor] at hj; cases hj⟩
  · refine (sortE_any wr oi 3 ob qb m m h0 (outs l ws) hol hCb.lt hQb.lt ne tq hm64 (fun i hi => ?_) (fun i hi => ?_) (fun k => hQb.frozen k)).mono ?_
    · obtain ⟨x, hx⟩ : ∃ x, (outs l ws)[i]? = some x := ⟨_, List.getElem?_eq_getElem (by omega)⟩
      rw [hCb.cell, (hCc i x hi hx).2.2]
      simp [scAt, List.getD, hx]
    · obtain ⟨k1, k2⟩ := hQc i hi
      exact ⟨(hQb.cell _).trans k1, (hQb.cell _).trans k2⟩
    · rintro e w' ⟨he, hs, hc⟩
      exact ⟨he, _, hs, hc⟩

theorem list_eq_of {α : Type} {xs ys : List α} (hl : xs.length = ys.length) (h : ∀ (j : Nat) u, ys[j]? = some u → xs[j]? = some u) : xs = ys := by
  refine List.ext_getElem? fun j => ?_
  cases hy : ys[j]? with
  | some u => exact h j u hy
  | none => rw [List.getElem?_eq_none_iff] at hy ⊢; omega

theorem Row.view {w : World} {o o2 : Own} {τ τ2 : Nat} {e : TypeId} {sz n c : Nat} {A : Option Addr} {xs : List Value} (h : Row w o τ e sz A n c xs) (ha : ∀ ad, A = some ad → o2 ad.block = τ2) : Row w o2 τ2 e sz A n c xs := ⟨h.1, ha⟩

/-- What Step comes to. -/
def StepTo (w : World) (l : List It) (ws : List (Int × Int)) (k : Nat) (e : Ending) (w' : World) : Prop := ∃ ob SA sc o',
  e = .returned (.tuple #[.slice (some ⟨ob, 0, none⟩) ws.length ws.length, .slice SA (stepM l ws k).2.length sc, .int .i64 0]) ∧ Below w.heap.size w w' ∧ w.heap.size ≤ ob ∧ (∀ ad, SA = some ad → w.heap.size ≤ ad.block) ∧
    Row w' o' 2 28 3 (some ⟨ob, 0, none⟩) ws.length ws.length (itms (stepM l ws k).1) ∧ Row w' o' 4 3 1 SA (stepM l ws k).2.length sc (ints (stepM l ws k).2)

theorem Sent.fin {w0 w5 wt : World} {or : Own} {ob qb m q k : Nat} {l : List It} {ws : List (Int × Int)} {SA : Option Addr} {sc : Nat} (h : Sent w0 w5 wt or ob qb m (outs l ws) (order (outs l ws)) SA sc q) (hq : min (k : Int) (m : Int) = (q : Int)) (hm : m = ws.length) (hm64 : m ≤ 64) :
    StepTo w0 l ws k (.returned (.tuple #[.slice (some ⟨ob, 0, none⟩) m m, .slice SA q sc, .int .i64 0])) wt := by
  obtain ⟨st, row, ⟨C, hCb, hCs, hCc⟩, -, to_, -, lo, -, -, -⟩ := h
  have hol : (order (outs l ws)).length = m := by simp [order, outs, hm]
  have htk : (order (outs l ws)).take q = places l ws k := by
    unfold places
    by_cases hkm : k ≤ m
    · have : q = k := by omega
      rw [this]
    · have : q = m := by omega
      rw [List.take_of_length_le (by omega), List.take_of_length_le (by omega)]
  have hpl : (stepM l ws k).2.length = q := by
    simp only [stepM, List.length_map, ← htk, List.length_take]
    omega
  have hzl : (stepM l ws k).1.length = m := by simp [stepM, zeroAt, outs, hm]
  have hnew : ∀ ad, SA = some ad → w0.heap.size ≤ ad.block := fun ad had => by
    have h4 := row.2 ad had
    rcases Nat.lt_or_ge ad.block w0.heap.size with hlt | hge
    · have := st.own _ hlt; rw [h4] at this; cases this
    · exact hge
  refine ⟨ob, SA, sc, or, by rw [hpl, hm], st.to_below (by simp), lo, hnew, ⟨⟨by rw [len_itms, hzl, hm], .inr ⟨ob, ws.length, C, rfl, Nat.zero_le _, hCb, Nat.le_refl _, by unfold maxLen; omega, by rw [hCs, hm], ?_⟩⟩, fun ad had => by injection had with had; subst had; exact to_⟩, ?_⟩
  · rw [List.take_of_length_le (by rw [Array.length_toList, hCs, hm]; exact Nat.le_refl _)]
    refine list_eq_of (by rw [len_itms, hzl, Array.length_toList, hCs]) fun j u hj => ?_
    rw [Array.getElem?_toList]
    obtain ⟨x, hx, hu⟩ := itms_inv hj
    simp only [stepM, zeroAt, List.getElem?_mapIdx, Option.map_eq_some_iff] at hx
    obtain ⟨x0, hx0, hxe⟩ := hx
    obtain ⟨k0, k1, k2⟩ := hCc (j / 3) x0 hx0
    rw [htk] at k2
    rcases hu with ⟨hr, rfl⟩ | ⟨hr, rfl⟩ | ⟨hr, rfl⟩
    · rw [show j / 3 * 3 = j by omega] at k0
      rw [k0, ← hxe]; split <;> rfl
    · rw [show j / 3 * 3 + 1 = j by omega] at k1
      rw [k1, ← hxe]; split <;> rfl
    · rw [show j / 3 * 3 + 2 = j by omega] at k2
      rw [k2, ← hxe]; split <;> rfl
  · rw [hpl]
    have e : (stepM l ws k).2 = ((order (outs l ws)).take q).map fun i => ((outs l ws).getD i default).id := by rw [htk]; rfl
    rw [e]
    exact row

set_option maxRecDepth 100000 in
set_option maxHeartbeats 2000000 in
theorem Step_any (w : World) (o : Own) (τ τ2 : Nat) (A : Option Addr) (n c : Nat) (l : List It) (hA : Sl w o τ 3 A n c (itms l)) (B : Option Addr) (m d : Nat) (ws : List (Int × Int)) (hB : Sl w o τ2 2 B m d (wnts ws)) (hv : ValidP l) (hr : RightP ws) (k : Nat) (hk : k ≤ 9223372036854775807) :
    Calls Tryz.prog 10 #[.slice A n c, .slice B m d, .int .i64 k] w (StepTo w l ws k) := by
  have hn : n = l.length := by have := hA.1; rw [len_itms] at this; omega
  have hm : m = ws.length := by have := hB.1; rw [len_wnts] at this; omega
  have hn64 : n ≤ 64 := by have := hv.1.1; simp at this; omega
  have hm64 : m ≤ 64 := by have := hr.1; omega
  have hval : ∀ w1, Below w.heap.size w w1 → Calls Tryz.prog 17 #[.slice A n c] w1 (SaysTo w1 true) := fun w1 hb => by
    have := Valid_any w1 _ τ A n c l (hA.step ((Step.refl [] w o).below hb 5) (by simp)); rwa [(validB_iff l).2 hv] at this
  have hrgt : ∀ w1, Below w.heap.size w w1 → Calls Tryz.prog 15 #[.slice B m d] w1 (SaysTo w1 true) := fun w1 hb => by
    have := Right_any w1 _ τ2 B m d ws (hB.step ((Step.refl [] w o).below hb 5) (by simp)); rwa [(rightB_iff ws).2 hr] at this
  have hmm := @run_makeMap Tryz.prog
  have HA := Lib.hid hA; have HB := Lib.hid hB; have HN := Lib.hid hn; have HM := Lib.hid hm; have HV := Lib.hid hv; have HR := Lib.hid hr; have HVAL := Lib.hid hval; have HRGT := Lib.hid hrgt
  clear hA hB hn hm hv hr hval hrgt
  have hk0 : decide ((k : Int) < 0) = false := by simp
  go_enter Tryz.func10, Tryz.ntmps10
  go_upto_region 4 with (first
    | (go_at_call 17; refine (HVAL.out w (Below.refl _ w)).mono ?_; rintro e w1 ⟨rfl, hb1⟩; have HB1 := Lib.hid hb1; clear hb1)
    | (go_at_call 15; refine (HRGT.out w1 HB1.out).mono ?_; rintro e w2 ⟨rfl, hb2⟩; have HB2 := Lib.hid (HB1.out.trans (hb2.mono HB1.out.size)); clear hb2))
  go_wp2_with fail
  have hst0 : Step [] w (fun _ => 0) (w2.alloc (.map #[] 0)) (ext (ext (fun _ => 0) w.heap.size 5) w2.heap.size 1) := ((Step.refl [] w (fun _ => 0)).below HB2.out 5).alloc _ 1
  have hmb : w.heap.size ≤ w2.heap.size := HB2.out.size
  have HST0 := Lib.hid hst0; have HMB := Lib.hid hmb; clear hst0 hmb HVAL HRGT HB1
  go_loopw [34] (fun i wr => ∃ (j : Nat) (or : Own), j ≤ n ∧ i = .int .i64 j ∧ Hid (Step [] w (fun _ => 0) wr or ∧ wr.ownsMap Tryz.prog 3 (plainElem (H := Unit) Tryz.prog 3) w2.heap.size j (mapD (l.take j)))) (fun i _ => n - (intOf i).toNat)
  case atStart => exact ⟨0, _, Nat.zero_le _, rfl, Lib.hid ⟨HST0.out, World.ownsMap_made _ _ _ _⟩⟩
  case round => as_aux_lemma =>
    obtain ⟨j, or, hj, rfl, HK⟩ := hrel
    by_cases hlt : j < n
    · obtain ⟨x, hx⟩ : ∃ x, l[j]? = some x := ⟨_, List.getElem?_eq_getElem (by have := HN.out; omega)⟩
      obtain ⟨g, off, hAe, -, hg, hc⟩ := (HA.out.step ((Step.refl [] w o).below (HK.out.1.to_below (by simp)) 5) (by simp)).2.2.2 (by omega)
      subst hAe
      obtain ⟨i0, i1, i2⟩ := itms_get l j x hx
      have c0 := hc _ _ i0; have c1 := hc _ _ i1; have c2 := hc _ _ i2
      rw [← Nat.add_assoc] at c1 c2
      have hxv := HV.out.1.2.1 (x.id, x.wt) (List.mem_map.2 ⟨x, List.mem_of_getElem? hx, rfl⟩)
      have hxs := HV.out.2 x (List.mem_of_getElem? hx)
      have hw1 : (Lit.int .i64 x.id).wf = true := wf_i64 (by have := hxv.1; simp only at this; omega) (by have := hxv.2.1; simp only at this; omega)
      have hw2 : (Lit.int .i64 x.sc).wf = true := wf_i64 (by omega) (by have := hxs.2; unfold topScore at this; omega)
      have hkey : keyOf Tryz.prog 3 (.int .i64 x.id) = some (.int .i64 x.id) := keyOf_int_mk Tryz.underlying3 hw1
      have HX := Lib.hid hx
      clear i0 i1 i2 hc hx hg hxv hxs
      go_wp2_with (first
        | (at_mapUpdate; refine wpList_mapUpdate_own _ rfl _ _ _ 62 rfl 3 3 keyI Tryz.underlying62 _ w2.heap.size j _ rfl (HK.out.2.alloc _) (by unfold maxLen; omega) _ _ _ rfl rfl hkey _ [] (plainElem_int Tryz.underlying3 hw2) ?_; intro w4 hown hgrow; have HOW := Lib.hid hown; have HGR := Lib.hid hgrow; clear hown hgrow)
        | go_in)
      go_roundw
      case rel => exact ⟨j + 1, _, by omega, by go_num, Lib.hid ⟨(HK.out.1.alloc _ 5).grown HGR.out (fun g hg => by injection hg with hg; subst hg; exact .inl HMB.out) 5, by rw [mapD_snoc HX.out]; exact HOW.out⟩⟩
      case measure => simp [intOf]; omega
    · obtain rfl : n = j := by omega
      obtain ⟨C0, hC0, hmk1⟩ := make_item m hm64
      obtain ⟨Q0, hQ0, hmk2⟩ := make_entry m hm64
      go_wp2_with fail
      have hF0 : Fill w ((wr.alloc (.cells C0 28)).alloc (.cells Q0 66)) (fun _ => 0) (ext (ext or wr.heap.size 2) (wr.heap.size + 1) 3) w2.heap.size wr.heap.size (wr.heap.size + 1) n m l ws 0 := by
        have hl : l.take n = l := List.take_of_length_le (by have := HN.out; omega)
        have hst := HK.out.1
        have hmp := HK.out.2
        rw [hl] at hmp
        have b1 := Blk.new wr 28 C0
        have b2 := Blk.new (wr.alloc (.cells C0 28)) 66 Q0
        have e1 : (wr.alloc (.cells C0 28)).heap.size = wr.heap.size + 1 := World.size_alloc _ _
        have st2 := (hst.alloc (.cells C0 28) 2).alloc (.cells Q0 66) 3
        rw [e1] at b2 st2
        have hsz := hst.size
        refine ⟨st2, (hmp.alloc _).alloc _, ⟨C0, b1.alloc _, hC0, fun j x hj => absurd hj (Nat.not_lt_zero _)⟩, ⟨Q0, b2, hQ0, fun j hj => absurd hj (Nat.not_lt_zero _)⟩, ?_, ?_, hsz, by omega, by omega, by have := hmp.lt; omega⟩
        · rw [ext_lt (by omega), ext_ge (Nat.le_refl _)]
        · rw [ext_ge (Nat.le_refl _)]
      obtain ⟨ob, hob⟩ : ∃ ob, ob = wr.heap.size := ⟨_, rfl⟩
      rw [← hob] at hF0 ⊢
      have HF0 := Lib.hid hF0; have HOB := Lib.hid hob
      clear hF0 hC0 hQ0 hob hmk1 hmk2
      go_loopw [52] (fun i wt => ∃ (j : Nat) (or : Own), j ≤ m ∧ i = .int .i64 j ∧ Hid (Fill w wt (fun _ => 0) or w2.heap.size ob (ob + 1) n m l ws j)) (fun i _ => m - (intOf i).toNat)
      case atStart => exact ⟨0, _, Nat.zero_le _, rfl, HF0⟩
      case round => as_aux_lemma =>
        obtain ⟨i, oi, hi, rfl, HF⟩ := hrel
        by_cases hlt : i < m
        · obtain ⟨⟨a, b⟩, hx⟩ : ∃ x, ws[i]? = some x := ⟨_, List.getElem?_eq_getElem (by have := HM.out; omega)⟩
          obtain ⟨g, off, hBe, -, hg, hc⟩ := (HB.out.step ((Step.refl [] w o).below (HF.out.st.to_below (by simp)) 5) (by simp)).2.2.2 (by omega)
          subst hBe
          obtain ⟨i0, i1⟩ := wnts_get ws i (a, b) hx
          have c0 := hc _ _ i0; have c1 := hc _ _ i1
          rw [← Nat.add_assoc] at c1
          simp only at c0 c1
          have hab := HR.out.2.1 (a, b) (List.mem_of_getElem? hx)
          simp only at hab
          obtain ⟨ha0, ha1, hb0, hb1⟩ := hab
          obtain ⟨S, hS⟩ : ∃ S, S = scoreOf l a := ⟨_, rfl⟩
          have hSb : 0 ≤ S ∧ S ≤ 1073741824 := by rw [hS]; exact scoreOf_bd HV.out.2 a
          obtain ⟨hS0, hS1⟩ := hSb
          have hkey : keyOf Tryz.prog 3 (.int .i64 a) = some (.int .i64 a) := keyOf_int_mk Tryz.underlying3 (wf_i64 (by omega) (by omega))
          obtain ⟨C, hCb, hCs, hCc⟩ := HF.out.out
          obtain ⟨Q, hQb, hQs, hQc⟩ := HF.out.que
          obtain ⟨v0, hv0⟩ : ∃ v, C[i * 3]? = some v := ⟨_, Array.getElem?_eq_getElem (by omega)⟩
          obtain ⟨v1, hv1⟩ : ∃ v, C[i * 3 + 1]? = some v := ⟨_, Array.getElem?_eq_getElem (by omega)⟩
          obtain ⟨v2, hv2⟩ : ∃ v, C[i * 3 + 2]? = some v := ⟨_, Array.getElem?_eq_getElem (by omega)⟩
          obtain ⟨q0, hq0⟩ : ∃ v, Q[i * 2]? = some v := ⟨_, Array.getElem?_eq_getElem (by omega)⟩
          obtain ⟨q1, hq1⟩ : ∃ v, Q[i * 2 + 1]? = some v := ⟨_, Array.getElem?_eq_getElem (by omega)⟩
          have u0 := (hCb.cell (i * 3)).trans hv0; have u1 := (hCb.cell (i * 3 + 1)).trans hv1; have u2 := (hCb.cell (i * 3 + 2)).trans hv2
          have t0 := (hQb.cell (i * 2)).trans hq0; have t1 := (hQb.cell (i * 2 + 1)).trans hq1
          have f0 := hCb.frozen (i * 3); have f1 := hCb.frozen (i * 3 + 1); have f2 := hCb.frozen (i * 3 + 2); have g0 := hQb.frozen (i * 2); have g1 := hQb.frozen (i * 2 + 1)
          have hlo := hCb.lt; have hlq := hQb.lt
          have HX := Lib.hid hx; have HS := Lib.hid hS
          clear hx hc i0 i1 hS hCb hCs hCc hQb hQs hQc hv0 hv1 hv2 hq0 hq1 hg
          go_wp2_with (first
            | (at_lookup; refine wpList_lookup_own_int _ rfl _ _ 62 rfl 3 3 .i64 keyI Tryz.underlying62 Tryz.underlying3 (zeroI _) w2.heap.size n (mapD l) rfl (HF.out.map.alloc _) _ _ rfl hkey ?_; intro c hat hwc; rw [mapD_at (ids_sorted HV.out)] at hat; have hcS : c = S := (by have e := hat; simp only [DataW.lit.injEq, Lit.int.injEq, true_and] at e; exact e.symm.trans HS.out.symm); subst hcS; clear hat hwc)
            | go_in)
          go_roundw
          case rel =>
            obtain ⟨o', hF'⟩ := HF.out.next hlt HX.out (.cells #[.int .i64 a, .int .i64 b] 26) (y := min (c + b) 1073741824) (by rw [HS.out]; rfl)
            exact ⟨i + 1, o', by omega, by go_num, Lib.hid hF'⟩
          case measure => simp [intOf]; omega
        · obtain rfl : m = i := by omega
          have hsrt := sortS HF.out HM.out hm64
          have HSRT := Lib.hid hsrt; clear hsrt
          go_upto_region 18 with (go_at_call 28; refine HSRT.out.mono ?_; rintro e w5 ⟨rfl, o5, hst5, hq5⟩; have HST5 := Lib.hid hst5; have HQ5 := Lib.hid hq5; clear hst5 hq5)
          obtain ⟨q, hq⟩ : ∃ q : Nat, min (k : Int) (m : Int) = (q : Int) := ⟨min k m, by omega⟩
          have hqm : q ≤ m ∧ q ≤ k := by omega
          obtain ⟨hqm1, hqm2⟩ := hqm
          have hS0 : Sent w w5 w5 o5 ob (ob + 1) m (outs l ws) (order (outs l ws)) none 0 0 := by
            obtain ⟨st, hmap, ⟨C, hCb, hCs, hCc⟩, ⟨Q, hQb, hQs, hQc⟩, to_, tq, lo, lq, ne, nm1, nm2⟩ := HF.out
            have st5 := (st.nil.trans HST5.out).forget (ts' := []) (fun t ht _ k hk => by simp at ht; subst ht; simp)
            refine ⟨st5, Row.nil_ _ _ _ _ _, ⟨C, hCb.step HST5.out (by rw [to_]; simp), hCs, fun i x hx => ?_⟩, rfl, (HST5.out.own _ hCb.lt).trans to_, (HST5.out.own _ hQb.lt).trans tq, lo, lq, ne, Nat.lt_of_lt_of_le hQb.lt HST5.out.size⟩
            have him : i < m := by have h1 := (List.getElem?_eq_some_iff.1 hx).1; have h2 := HM.out; simp [outs] at h1; omega
            have := hCc i x him hx
            simpa using this
          have HS0 := Lib.hid hS0
          clear hS0 HSRT
          have hol : (order (outs l ws)).length = m := by have := HM.out; simp [order, outs]; omega
          have HOL := Lib.hid hol; clear hol
          go_wp2_with fail
          go_loopw [91, 16] (fun i sv wt => ∃ (j : Nat) (or : Own) (SA : Option Addr) (sc : Nat), j ≤ q ∧ i = .int .i64 j ∧ sv = .slice SA j sc ∧ Hid (Sent w w5 wt or ob (ob + 1) m (outs l ws) (order (outs l ws)) SA sc j)) (fun i _ _ => q - (intOf i).toNat)
          case atStart => exact ⟨0, _, none, 0, Nat.zero_le _, rfl, rfl, HS0⟩
          case round => as_aux_lemma =>
            obtain ⟨j, oj, SA, sc, hj, rfl, rfl, HJ⟩ := hrel
            by_cases hlt : j < q
            · obtain ⟨p, hp⟩ : ∃ p, (order (outs l ws))[j]? = some p := ⟨_, List.getElem?_eq_getElem (by rw [HOL.out]; omega)⟩
              have hpm : p < m := by have h1 := order_lt (List.mem_of_getElem? hp); have h2 := HM.out; simp [outs] at h1; omega
              obtain ⟨x, hx⟩ : ∃ x, (outs l ws)[p]? = some x := ⟨_, List.getElem?_eq_getElem (by have h2 := HM.out; simp [outs]; omega)⟩
              obtain ⟨C, hCb, hCs, hCc⟩ := HJ.out.out
              obtain ⟨k0, k1, k2⟩ := hCc p x hx
              obtain ⟨q0, q1⟩ := HQ5.out j p hp
              have d0 := (World.cell?_of_block (w := w5) (a := ⟨ob + 1, j * 2, none⟩) HJ.out.que).trans q0
              have d1 := (World.cell?_of_block (w := w5) (a := ⟨ob + 1, j * 2 + 1, none⟩) HJ.out.que).trans q1
              have c0 := (hCb.cell (p * 3)).trans k0
              have hlo := hCb.lt; have hlq := HJ.out.lt
              have HX := Lib.hid hx; have HP := Lib.hid hp
              obtain ⟨id, hid⟩ : ∃ id, id = x.id := ⟨_, rfl⟩
              rw [← hid] at c0
              have HID := Lib.hid hid
              have hpq := laid2 HJ.out (.cells #[.pointer (some ⟨ob, p * 3, none⟩), .int .i64 (p : Int)] 66) id
              obtain ⟨oW, hstW, hrowW, hslW, hoW⟩ := hpq
              have HSTW := Lib.hid hstW; have HROWW := Lib.hid hrowW; have HSLW := Lib.hid hslW; have HOW := Lib.hid hoW
              clear hx hp hCb hCs hCc k0 k1 k2 q0 q1 hid hstW hrowW hslW hoW
              go_wp2_with (at_builtin; refine wpList_append_row _ rfl (.tmp 95) (.tmp 101) _ rfl el_int oW 4 SA j sc _ rfl HROWW.out oW 5 _ 1 1 [.int .i64 id] rfl HSLW.out (by simp [Value.oneCell']) (by omega) (by simp only [maxLen]; omega) ?_; intro A' c' w6 hR6 hg6 hat6; obtain ⟨st6, e0, v2, u2, f2⟩ := laid3 HJ.out HSTW.out HROWW.out HOW.out hpm hg6; have HR6 := Lib.hid hR6; have HST6 := Lib.hid st6; clear hR6 hg6 hat6 st6)
              go_roundw
              case rel => exact ⟨j + 1, _, A', c', by omega, by go_num, rfl, Lib.hid (HJ.out.next HX.out HP.out hpm HSTW.out HST6.out (by rw [← HID.out]; exact HR6.out))⟩
              case measure => simp [intOf]; omega
            · obtain rfl : q = j := by omega
              go_wp2_with fail
              go_ret3
              exact HJ.out.fin hq HM.out hm64
end Go.Proofs.YtkiknbjokknemaaGreat
