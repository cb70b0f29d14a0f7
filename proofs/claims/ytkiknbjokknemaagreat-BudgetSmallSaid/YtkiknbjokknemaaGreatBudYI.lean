/-
  Plain laws for tells; the list of all lists that were sent.
-/
import Derived.Test.YtkiknbjokknemaaGreatBudYG
namespace Go.Proofs.YtkiknbjokknemaaGreat
open Go.RowKit Go.Maps

theorem runU_len {l : List It} {ws : List (Int × Int)} {k s : Int} (h : s ≤ 60 ∨ 10000 < s) : (runU l ws k s).2.1.length ≤ 60 := by
  unfold runU
  split
  · simp only; rw [runM_len]; omega
  · exact Nat.zero_le _
theorem stepU_len {l : List It} {ws : List (Int × Int)} {k : Int} : (stepU l ws k).2.1.length ≤ 64 := by
  unfold stepU
  split
  · rename_i h
    have hr := ((rightB_iff ws).1 h.2.1).1
    simp only [stepM, List.length_map, places, List.length_take, order_len, outs_len]
    omega
  · exact Nat.zero_le _
theorem runM_each {l : List It} {ws : List (Int × Int)} (hr : ws.length ≤ 64) (k : Nat) : ∀ s, ∀ x ∈ (runM l ws k s).2, x.length ≤ 64
  | 0 => fun x hx => by cases hx
  | s + 1 => fun x hx => by
    have e : (runM l ws k (s + 1)).2 = (runM l ws k s).2 ++ [(stepM (runM l ws k s).1 ws k).2] := rfl
    rw [e, List.mem_append] at hx
    rcases hx with hx | hx
    · exact runM_each hr k s x hx
    · rw [List.mem_singleton] at hx
      subst hx
      simp only [stepM, List.length_map, places, List.length_take, order_len, outs_len]
      omega
theorem runU_each {l : List It} {ws : List (Int × Int)} {k s : Int} : ∀ x ∈ (runU l ws k s).2.1, x.length ≤ 64 := by
  unfold runU
  split
  · rename_i h
    exact runM_each ((rightB_iff ws).1 h.2.1).1 _ _
  · intro x hx; cases hx

/-- An append whose guard holds. -/
theorem wpList_append_rowW {P : Program} (w : World) {ops : Array Oper} {rest : List Oper} {o : Oper} {a : Act} {Q : Exit → Act → World → Prop} (s x : Operand) (t : TypeId)
    (ho : o.op = .call { callee := .builtin .append, args := #[s, x], argTypes := #[t, t] })
    {e : TypeId} {sz bytes : Nat} {z : Value} (he : Elem P t e sz bytes z) (ow : Own) (τ : Nat)
    (A : Option Addr) (n c : Nat) (xs : List Value) (hs : a.eval s = .slice A n c) (hR : Row w ow τ e sz A n c xs) (o2 : Own) (τ2 : Nat) (B : Option Addr) (m d : Nat) (news : List Value) (hx : a.eval x = .slice B m d) (hS : Sl w o2 τ2 sz B m d news)
    (h1 : ∀ u ∈ news, u.oneCell' = true) (hbytes : (n + m) * bytes ≤ 140737488355328) (h63 : n + m ≤ maxLen) (hw : Region.wanted o (yielded ops a.tmps) = true)
    (h : ∀ A' c' w', Row w' (ext ow w.heap.size τ) τ e sz A' (n + m) c' (xs ++ news) → w.grownBy w' (Value.slice A n c).ownBlock → (∀ ad, A' = some ad → (∃ ad0, A = some ad0 ∧ ad.block = ad0.block) ∨ ad.block = w.heap.size) →
      wpList P ops Q rest (a.put o.dst (.slice A' (n + m) c')) w') : wpList P ops Q (o :: rest) a w := by
  refine wpList_step fun K hK => ?_
  rw [if_pos hw]
  obtain ⟨A', c', w', hrun, h2, h3, h4⟩ := run_append_row (P := P) w o.type he ow τ hR hS h1 hbytes h63
  unfold Oper.wp execOp
  simp only [ho, resolve, invoke, builtin, Sem.run_bind, Sem.run_pure, Result.andThen_ok, List.map_toArray, List.map_cons, List.map_nil, hs, hx, hrun]
  exact hK _ _ (h A' c' w' h2 h3 h4)

theorem row_lit1 (w : World) (o : Own) (τ : Nat) (e : TypeId) (v : Value) : Row (w.alloc (.cells #[v] e)) (ext o w.heap.size τ) τ e 1 (some ⟨w.heap.size, 0, none⟩) 1 1 [v] :=
  ⟨⟨rfl, .inr ⟨w.heap.size, 1, #[v], rfl, Nat.zero_le _, Blk.new w e #[v], Nat.le_refl _, by decide, rfl, rfl⟩⟩, fun ad had => by injection had with had; subst had; exact ext_ge (Nat.le_refl _)⟩
/-- The list of all lists that were sent. -/
theorem last_list {w w6 wd wf : World} {xA uA A' : Option Addr} {xn xc un uc c' : Nat} {xs : List Int} {us : List (List Int)} (hbw : Below w.heap.size w wd) (hw6 : w.heap.size ≤ w6.heap.size)
    (hx : Row wd (fun _ => 0) 0 3 1 xA xn xc (ints xs)) (hxq : ∀ p, xA = some p → w.heap.size ≤ p.block ∧ p.block < w6.heap.size) (hxn : xs.length ≤ 64) (hus : us.length ≤ 60) (hun : ∀ x ∈ us, x.length ≤ 64) (L : List Rw)
    (ha : Row wd (fun _ => 0) 0 30 1 uA un uc (L.map Rw.v)) (hb : L.length = us.length) (hc : ∀ (i : Nat) (r : Rw), L[i]? = some r → ∃ x, us[i]? = some x ∧ r.n = x.length ∧ Row wd (fun _ => 0) 0 3 1 r.S r.n r.c (ints x))
    (hd : L.Pairwise fun a b => ∀ p q, a.S = some p → b.S = some q → p.block ≠ q.block) (hf : ∀ r ∈ L, ∀ p, r.S = some p → w6.heap.size ≤ p.block)
    (hR : Row wf (ext (ext (fun _ => 0) wd.heap.size 7) (wd.alloc (.cells #[.slice xA xn xc] 30)).heap.size 7) 7 30 1 A' (1 + un) c' ([.slice xA xn xc] ++ L.map Rw.v)) (hg : (wd.alloc (.cells #[.slice xA xn xc] 30)).grownBy wf (Value.slice (some ⟨wd.heap.size, 0, none⟩) 1 1).ownBlock) :
    Calls Tryz.prog 22 #[.slice A' (1 + un) c'] wf fun e w' => e = .returned (.bool true) ∧ Below w.heap.size w w' := by
  have st := Step.append (row_lit1 wd (fun _ => 0) 7 30 (.slice xA xn xc)) hg 7
  have s0 : Step [] wd (fun _ => 0) (wd.alloc (.cells #[.slice xA xn xc] 30)) (ext (fun _ => 0) wd.heap.size 7) := (Step.refl [] wd (fun _ => 0)).alloc _ 7
  have hbf : Below wd.heap.size wd wf := (((s0.nil (ts := [7])).trans st).forget (ts' := []) (fun t ht _ k hk => by simp at ht; subst ht; simp)).to_below (fun _ _ => by simp)
  have hunl : L.length = un := by have := ha.len; simp at this; omega
  have hxl : xs.length = xn := by have := hx.len; simpa using this
  obtain ⟨o, h1, h2, h3⟩ := rws_of (W := wf) (L := ⟨xA, xn, xc⟩ :: L) (X := fun k => match k with | 0 => xs | k + 1 => us.getD k []) (LA := A') (N := 1 + un) (lc := c') (fun k r hr => by
      cases k with
      | zero =>
        simp only [List.getElem?_cons_zero, Option.some.injEq] at hr
        subst hr
        exact hx.up0 hbf
      | succ k =>
        rw [List.getElem?_cons_succ] at hr
        obtain ⟨x, e1, e2, e3⟩ := hc k r hr
        simp only [List.getD_eq_getElem?_getD, e1, Option.getD_some]
        exact e3.up0 hbf) (by
      rw [List.pairwise_cons]
      refine ⟨fun r hr p q hp hq => ?_, hd⟩
      have := (hxq p hp).2
      have := hf r hr q hq
      omega) hR.any0 w.heap.size (fun r hr p hp => by
      rcases List.mem_cons.1 hr with rfl | hr
      · exact (hxq p hp).1
      · have := hf r hr p hp; omega)
  refine (ApartInts_any wf o A' (1 + un) c' _ _ (by omega) h2 (by simp [hunl]; omega) h1 (fun r hr => ?_)).mono ?_
  · rcases List.mem_cons.1 hr with rfl | hr
    · simp only; omega
    · obtain ⟨i, hi⟩ := List.mem_iff_getElem?.1 hr
      obtain ⟨x, e1, e2, -⟩ := hc i r hi
      have := hun x (List.mem_of_getElem? e1)
      omega
  · rintro e w' ⟨rfl, o', hs⟩
    refine ⟨rfl, ⟨hs.os.trans (hbf.os.trans hbw.os), hs.tape.trans (hbf.tape.trans hbw.tape), hs.output.trans (hbf.output.trans hbw.output), ?_, fun k hk => ?_⟩⟩
    · exact Nat.le_trans hbw.size (Nat.le_trans hbf.size hs.size)
    · have hs1 := hbw.size
      have hs2 := hbf.size
      refine (hs.block k (by omega) ?_).trans ((hbf.block k (by omega)).trans (hbw.block k hk))
      rcases h3 k hk with q | q
      · rw [q]; simp [tgA, tgs, List.mem_range'_1]
      · rw [q]; simp [tgA, tgs, List.mem_range'_1]

theorem neq_want (W : World) (a b : Int) : (binOp .neq 26 (.agg #[.int .i64 a, .int .i64 b]) (.agg #[.int .i64 a, .int .i64 b])).run Tryz.prog W = .ok (.bool false) W := by
  rw [run_neq_struct, run_equalIn_struct W 9999 26 _ _ (by kernel_rfl) (by kernel_rfl)]
  simp [go_sem, Tryz.underlying26]

end Go.Proofs.YtkiknbjokknemaaGreat
