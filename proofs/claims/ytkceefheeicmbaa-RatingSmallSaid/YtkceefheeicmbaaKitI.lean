/-
  A slice literal of integers and a load, where a region draws its order; a row of tickets that a call fills.
-/
import Derived.Test.YtkceefheeicmbaaRatMB
import Derived.Test.YtkceefheeicmbaaKitH
import Derived.Great.BuildSlice
namespace Go.Proofs.Ytkceefheeicmbaa
open Go.RowKit

theorem step_flat {P : Program} {w : World} {ops : Array Oper} {o : Oper} {a : Act} {K : Act → World → Prop} {Q : Exit → Act → World → Prop} {E : Prop} (hg : o.guard = none) (t e : TypeId) (len : Nat) (parts : Array (Nat × Operand)) (ho : o.op = .buildSlice t len parts)
    (k : IntKind) (zs : List Int) (hu : P.underlying t = some (.slice e)) (hsz : (P.info? e).map (·.size) = some 1) (hz : ((P.info? e).bind (·.zero)).isSome = true)
    (hlen : len = zs.length) (hpos : 0 < len) (hsmall : len ≤ 2 ^ 24) (hparts : parts.toList = (zs.zipIdx 0).map fun x => (x.2, Operand.const (Value.int k x.1)))
    (h : K (a.put o.dst (.slice (some ⟨w.heap.size, 0, none⟩) len len)) (w.alloc (.cells (zs.map (Value.int k)).toArray e))) : if Region.wanted o (yielded ops a.tmps) = true then Oper.wp P o a w K Q else E := by
  have hw : Region.wanted o (yielded ops a.tmps) = true := by simp [Region.wanted, hg]
  rw [if_pos hw]
  cases hie : P.info? e with
  | none => simp [hie] at hsz
  | some ie =>
    simp only [hie, Option.map_some, Option.some.injEq, Option.bind_some] at hsz hz
    obtain ⟨z, hzz⟩ := Option.isSome_iff_exists.1 hz
    refine wp_buildSlice t e len parts ho _ ie z hu hie hzz (by rw [hsz]; omega) (by rw [hsz]; omega) ?_ h
    rw [parts_eval a parts k zs hparts, hsz]
    exact Great.fill_flat _ _ (fun v hv => by obtain ⟨n, _, rfl⟩ := List.mem_map.1 hv; rfl) (by simp [hlen])
theorem step_load {P : Program} {w : World} {ops : Array Oper} {o : Oper} {a : Act} {K : Act → World → Prop} {Q : Exit → Act → World → Prop} {E : Prop} (hg : o.guard = none) (ty : TypeId) (x : Operand) (ho : o.op = .load ty x)
    (ad : Addr) (hx : a.eval x = .pointer (some ad)) (v : Value) {q : IntKind} (hc : w.cell? ad = some v) (hu : P.underlying ty = some (.int q))
    (h : K (a.put o.dst v) w) : if Region.wanted o (yielded ops a.tmps) = true then Oper.wp P o a w K Q else E := by
  have hw : Region.wanted o (yielded ops a.tmps) = true := by simp [Region.wanted, hg]
  rw [if_pos hw]
  unfold Oper.wp execOp
  simp only [ho, hx, Instr.loadAt, Instr.sureAddr, Sem.run_bind, Sem.run_pure, Result.andThen_ok, run_loadVar_int w ad ty v hc hu]
  exact h

/-- A row of tickets. -/
def TI (w W : World) (o : Own) (n : Nat) (A : Option Addr) (c : Nat) : Prop := Step [] w (fun _ => 0) W o ∧ RowI W o 61 24 3 A n c
section
variable {w W W' : World} {o o' : Own} {n c n' c' : Nat} {A A' : Option Addr}
theorem TI.start (h : Step [] w (fun _ => 0) W o) : TI w W o 0 none 0 := ⟨h, RowI.nil_ _ _ _ _ _⟩
theorem TI.step (h : TI w W o n A c) (k : Step [] W o W' o') : TI w W' o' n A c := ⟨h.1.trans k, h.2.step k (by simp)⟩
theorem TI.app {xs : List Int} {a b s : Int} (h : TI w W o n A c) (k : Step [61] W o W' o') (hr : Row W' o' 61 24 3 A' n' c' (ints xs ++ [.int .i64 a, .int .i64 b, .int .i64 s])) : TI w W' o' n' A' c' :=
  ⟨step_old h.1 k (by decide), RowI.of hr (zs := xs ++ [a, b, s]) (by simp [ints])⟩
theorem TI.set {g : Nat} (h : TI w W o n (some ⟨g, 0, none⟩) c) (hn : 0 < n) (j : Nat) (x : Int) : TI w (W.setCell ⟨g, j, none⟩ (.int .i64 x)) o n (some ⟨g, 0, none⟩) c := by
  obtain ⟨g', hg, ho⟩ := h.2.form hn
  injection hg with hg; injection hg with hg; subst hg
  have k := (Step.refl [61] W o).setCell (p := ⟨g, j, none⟩) (.inr (by rw [ho]; simp)) (.int .i64 x)
  exact ⟨step_old h.1 k (by decide), h.2.set hn j x⟩
theorem TI.pairs (h : TI w W o n A c) (hn : n ≤ 70) (t : Int) : Calls Try.prog 21 #[.slice A n c, .int .i64 t] W (SaysTo W true) := by
  obtain ⟨l, hl⟩ := h.2.tks (Nat.le_refl _)
  exact pairs_any W A n c l t hl hn
/-- Behind a literal of integers. -/
theorem TI.flat (h : TI w W o n A c) (Z : List Int) (j : Nat) (x : Int) (hx : Z[j]? = some x) :
    ∃ (g : Nat) (WN : World) (oN : Own), g = W.heap.size ∧ WN = W.alloc (.cells (Z.map (Value.int .i64)).toArray 3) ∧ TI w WN oN n A c ∧ WN.cell? ⟨g, j, none⟩ = some (.int .i64 x) ∧ Below W.heap.size W WN := by
  have s1 := (Step.refl [] W o).alloc (.cells (Z.map (Value.int .i64)).toArray 3) 5
  refine ⟨_, _, _, rfl, rfl, h.step s1, ?_, (Below.refl _ _).alloc (Nat.le_refl _) _⟩
  rw [(Blk.new W 3 (Z.map (Value.int .i64)).toArray).cell, List.getElem?_toArray, List.getElem?_map, hx]; rfl
end
theorem tk_new (w : World) (o : Own) (a b s : Int) : Sl (w.alloc (.cells #[.int .i64 a, .int .i64 b, .int .i64 s] 24)) (ext o w.heap.size 5) 5 3 (some ⟨w.heap.size, 0, none⟩) 1 1 [.int .i64 a, .int .i64 b, .int .i64 s] :=
  ⟨rfl, Nat.le_refl _, by decide, fun _ => ⟨w.heap.size, 0, rfl, ext_ge (Nat.le_refl _), (Blk.new w 24 #[.int .i64 a, .int .i64 b, .int .i64 s]).lt, fun i u hi => by rw [Nat.zero_add, (Blk.new w 24 #[.int .i64 a, .int .i64 b, .int .i64 s]).cell]; simpa using hi⟩⟩
end Go.Proofs.Ytkceefheeicmbaa
