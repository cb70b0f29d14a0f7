/-
  Loads and stores of one cell, at the operation.
-/
import Derived.Laws.IdiomCopy
import Derived.Great.BuildSlice
import Derived.Test.YtkceefheeicmbaaBase
namespace Go.Proofs.Ytkceefheeicmbaa

section
variable {P : Program}
theorem run_storeVar_cell (w : World) (b k : Nat) (ty : TypeId) (v old : Value) (hc : w.cell? ⟨b, k, none⟩ = some old) (hf : w.frozen? ⟨b, k, none⟩ = false) (hi : (P.info? ty).map (·.size) = some 1)
    (h1 : v.oneCell' = true) : (storeVar ty ⟨b, k, none⟩ v).run P w = .ok () (w.setCell ⟨b, k, none⟩ v) := by
  have := run_storeCells_cells (P := P) b k [v] 0 w (fun j hj => by obtain rfl : j = 0 := by simpa using hj
                                                                    simp [hc]) (fun j hj => by obtain rfl : j = 0 := by simpa using hj
                                                                                               simp [hf]) (fun x hx => by simp at hx; subst hx; exact h1)
  have hv : v.cells = #[v] := by cases v <;> first | rfl | cases h1
  cases hq : P.info? ty with
  | none => simp [hq] at hi
  | some i =>
    have hs : i.size = 1 := by simpa [hq] using hi
    simp [storeVar, sizeOf, typeInfo, hq, hv, hs, this]
    rfl
/-- A store of one cell. -/
theorem wpList_store_cell {ops : Array Oper} {rest : List Oper} {o : Oper} {a : Act} {w : World} {Q : Exit → Act → World → Prop} (hgd : o.guard = none) (ty : TypeId) (x y : Operand) (ho : o.op = .store ty x y)
    (b k : Nat) (hx : a.eval x = .pointer (some ⟨b, k, none⟩)) (v old : Value) (hy : a.eval y = v) (h1 : v.oneCell' = true)
    (hc : w.cell? ⟨b, k, none⟩ = some old) (hf : w.frozen? ⟨b, k, none⟩ = false) (hi : (P.info? ty).map (·.size) = some 1)
    (h : wpList P ops Q rest (a.put o.dst undef) (w.setCell ⟨b, k, none⟩ v)) : wpList P ops Q (o :: rest) a w := by
  subst hy
  refine wpList_plain hgd fun _ hK => ?_
  unfold Oper.wp execOp
  simp only [ho, hx, Instr.storeAt, Instr.sureAddr, Sem.run_bind, Sem.run_pure, Result.andThen_ok, run_storeVar_cell w b k ty _ old hc hf hi h1]
  exact hK _ _ h
theorem run_loadVar_int (w : World) (ad : Addr) (ty : TypeId) (v : Value) {q : IntKind} (hc : w.cell? ad = some v) (hu : P.underlying ty = some (.int q)) : (loadVar ty ad).run P w = .ok v w := by
  have hagg : (isAgg ty).run P w = .ok false w := by
    unfold isAgg
    rw [Sem.run_bind, run_underlying hu w]
    rfl
  simp [loadVar, Sem.run_bind, hagg, hc]
/-- A load of one integer. -/
theorem wpList_load_int {ops : Array Oper} {rest : List Oper} {o : Oper} {a : Act} {w : World} {Q : Exit → Act → World → Prop} (hgd : o.guard = none) (ty : TypeId) (x : Operand) (ho : o.op = .load ty x)
    (ad : Addr) (hx : a.eval x = .pointer (some ad)) (v : Value) {q : IntKind} (hc : w.cell? ad = some v) (hu : P.underlying ty = some (.int q))
    (h : wpList P ops Q rest (a.put o.dst v) w) : wpList P ops Q (o :: rest) a w := by
  refine wpList_plain hgd fun _ hK => ?_
  unfold Oper.wp execOp
  simp only [ho, hx, Instr.loadAt, Instr.sureAddr, Sem.run_bind, Sem.run_pure, Result.andThen_ok, run_loadVar_int w ad ty v hc hu]
  exact hK _ _ h
end
end Go.Proofs.Ytkceefheeicmbaa
