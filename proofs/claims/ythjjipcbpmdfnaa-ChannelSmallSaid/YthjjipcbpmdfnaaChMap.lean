/-
  A map from int, whatever its elements, as a function: what a look-up gives, what a store and a delete turn, its length.
-/
import Derived.Test.YthjjipcbpmdfnaaPackJ
import Derived.Maps.Own
import Derived.Maps.OwnOps
import Derived.Maps.OwnSet
import Derived.Maps.Views
namespace Go.Proofs.Ythjjipcbpmdfnaa
open Go.RowKit Go.Maps

theorem keyI : Keyed Try.prog 3 := int_keyed Try.underlying3
/-- Every element reads as itself. -/
def rdV (v : Value) : Option (DataW Value × List MemPlace) := some (.held v, [])
abbrev keyL (id : Int) : Lit := .int .i64 id
theorem keyL_is (id : Int) : WideAt.IsKeyLit (keyL id) := trivial
theorem keyL_ne {a b : Int} (h : a ≠ b) : keyL a ≠ keyL b := by intro e; injection e with _ e; exact h e
def I64 (id : Int) : Prop := -9223372036854775808 ≤ id ∧ id ≤ 9223372036854775807
theorem keyOf64 {id : Int} (h : I64 id) : keyOf Try.prog 3 (.int .i64 id) = some (keyL id) := keyOf_int_mk Try.underlying3 (WalkArith.wf_i64 h)

/-- Block b is a map from int; the key id stands for f id; it has cnt keys. -/
def MapV (W : World) (b cnt : Nat) (f : Int → Option Value) : Prop :=
  ∃ D : DataW Value, W.ownsMap Try.prog 3 rdV b cnt D ∧ Maps.size D = cnt ∧ (∀ id, Maps.has D (keyL id) = (f id).isSome) ∧ ∀ id zd, D.atKey (keyL id) zd = (f id).elim zd .held

theorem ownsMap_exact {W : World} {P : Program} {k : TypeId} {R : Value → Option (DataW Value × List MemPlace)} {b n : Nat} {D : DataW Value} (h : W.ownsMap P k R b n D) : W.ownsMap P k R b (Maps.size D) D := by
  obtain ⟨es, clock, h1, h2, h3, rfl⟩ := h
  exact ⟨es, clock, h1, h2, by simp [Maps.size, length_sorted], rfl⟩
theorem ownsMap_block {W W' : World} {P : Program} {k : TypeId} {R : Value → Option (DataW Value × List MemPlace)} {b n : Nat} {D : DataW Value} (h : W.ownsMap P k R b n D) (hb : W'.heap[b]? = W.heap[b]?) : W'.ownsMap P k R b n D := by
  obtain ⟨es, clock, h1, h2⟩ := h
  exact ⟨es, clock, hb.trans h1, h2⟩

section
variable {W W' : World} {b cnt : Nat} {f : Int → Option Value}
theorem MapV.made (W : World) : MapV (W.alloc (.map #[] 0)) W.heap.size 0 fun _ => none :=
  ⟨_, World.ownsMap_made (H := Value) W Try.prog 3 rdV, rfl, fun _ => rfl, fun _ _ => rfl⟩
theorem MapV.lt (h : MapV W b cnt f) : b < W.heap.size := by obtain ⟨D, h1, -⟩ := h; exact h1.lt
theorem MapV.heap (h : MapV W b cnt f) (hb : W'.heap[b]? = W.heap[b]?) : MapV W' b cnt f := by obtain ⟨D, h1, h2⟩ := h; exact ⟨D, ownsMap_block h1 hb, h2⟩
theorem MapV.step {ts : List Nat} {o o' : Own} (h : MapV W b cnt f) (hs : Step ts W o W' o') (hτ : o b ∉ ts) : MapV W' b cnt f := h.heap (hs.block b h.lt hτ)
theorem MapV.below {B : Nat} (h : MapV W b cnt f) (hb : Below B W W') (hl : b < B) : MapV W' b cnt f := h.heap (hb.block b hl)
theorem MapV.alloc (h : MapV W b cnt f) (ob : Obj) : MapV (W.alloc ob) b cnt f := h.heap (Below.heap_alloc W ob b h.lt)
theorem MapV.far (h : MapV W b cnt f) {p : Addr} (hp : b ≠ p.block) (u : Value) : MapV (W.setCell p u) b cnt f := h.heap (Below.heap_setCell W p u b hp)
theorem MapV.grown {row : Option Nat} (h : MapV W b cnt f) (hb : W.grownBy W' row) (hg : some b ≠ row) : MapV W' b cnt f := h.heap (hb.block b h.lt hg)
theorem MapV.drewN (h : MapV W b cnt f) (k : Nat) : MapV (W.drewN k) b cnt f := h.heap rfl
theorem MapV.congr {g : Int → Option Value} (h : MapV W b cnt f) (hg : ∀ id, g id = f id) : MapV W b cnt g := by rw [show g = f from funext hg]; exact h
/-- A map is no row of cells. -/
theorem MapV.ne_blk {g : Nat} {t : TypeId} {cs : Array Value} (h : MapV W b cnt f) (hB : Blk W g t cs) : b ≠ g := by
  rintro rfl
  obtain ⟨D, ⟨es, clock, h1, -⟩, -⟩ := h
  unfold Blk at hB
  rw [hB] at h1
  cases h1

/-- The look-up, with and without 'ok', as equations. -/
theorem MapV.look_some {t e : TypeId} (h : MapV W b cnt f) (ht : Try.prog.underlying t = some (.map 3 e)) {z : Value} (hz : (zeroValue e).run Try.prog W = .ok z W) {id : Int} (hid : I64 id) {v : Value} (hf : f id = some v) :
    (Instr.lookup t (.map (some b)) (.int .i64 id) false).run Try.prog W = .ok v W := by
  obtain ⟨D, h1, -, -, h3⟩ := h
  obtain ⟨v', ps, hrun, hat⟩ := h1.lookup keyI ht hz (zd := .held z) (zp := []) rfl (keyOf64 hid)
  rw [h3, hf] at hat
  simp only [rdV, Option.elim_some, Option.some.injEq, Prod.mk.injEq, DataW.held.injEq] at hat
  rw [← hat.1]; exact hrun
theorem MapV.look_none {t e : TypeId} (h : MapV W b cnt f) (ht : Try.prog.underlying t = some (.map 3 e)) {z : Value} (hz : (zeroValue e).run Try.prog W = .ok z W) {id : Int} (hid : I64 id) (hf : f id = none) :
    (Instr.lookup t (.map (some b)) (.int .i64 id) false).run Try.prog W = .ok z W := by
  obtain ⟨D, h1, -, -, h3⟩ := h
  obtain ⟨v', ps, hrun, hat⟩ := h1.lookup keyI ht hz (zd := .held z) (zp := []) rfl (keyOf64 hid)
  rw [h3, hf] at hat
  simp only [rdV, Option.elim_none, Option.some.injEq, Prod.mk.injEq, DataW.held.injEq] at hat
  rw [← hat.1]; exact hrun
theorem MapV.ok_some {t e : TypeId} (h : MapV W b cnt f) (ht : Try.prog.underlying t = some (.map 3 e)) {z : Value} (hz : (zeroValue e).run Try.prog W = .ok z W) {id : Int} (hid : I64 id) {v : Value} (hf : f id = some v) :
    (Instr.lookup t (.map (some b)) (.int .i64 id) true).run Try.prog W = .ok (.tuple #[v, .bool true]) W := by
  obtain ⟨D, h1, -, h2, h3⟩ := h
  obtain ⟨v', ps, hrun, hat⟩ := h1.look_ok keyI ht hz (zd := .held z) (zp := []) rfl (keyOf64 hid)
  rw [h3, hf] at hat
  rw [h2, hf] at hrun
  simp only [rdV, Option.elim_some, Option.some.injEq, Prod.mk.injEq, DataW.held.injEq] at hat
  rw [← hat.1]; exact hrun
theorem MapV.ok_none {t e : TypeId} (h : MapV W b cnt f) (ht : Try.prog.underlying t = some (.map 3 e)) {z : Value} (hz : (zeroValue e).run Try.prog W = .ok z W) {id : Int} (hid : I64 id) (hf : f id = none) :
    (Instr.lookup t (.map (some b)) (.int .i64 id) true).run Try.prog W = .ok (.tuple #[z, .bool false]) W := by
  obtain ⟨D, h1, -, h2, h3⟩ := h
  obtain ⟨v', ps, hrun, hat⟩ := h1.look_ok keyI ht hz (zd := .held z) (zp := []) rfl (keyOf64 hid)
  rw [h3, hf] at hat
  rw [h2, hf] at hrun
  simp only [rdV, Option.elim_none, Option.some.injEq, Prod.mk.injEq, DataW.held.injEq] at hat
  rw [← hat.1]; exact hrun
/-- Its length. -/
theorem MapV.len {t e : TypeId} (h : MapV W b cnt f) (ht : Try.prog.underlying t = some (.map 3 e)) (ty : TypeId) : (Builtin.len_ #[t] ty #[.map (some b)]).run Try.prog W = .ok (.int .i64 cnt) W := by
  obtain ⟨D, h1, h2, -⟩ := h
  have := h1.len ht ty
  rw [h2] at this
  exact this
/-- The store. -/
theorem MapV.store {t e : TypeId} (h : MapV W b cnt f) (ht : Try.prog.underlying t = some (.map 3 e)) (hn : cnt < maxLen) {id : Int} (hid : I64 id) (v : Value) :
    ∃ W', (Instr.mapUpdate t (.map (some b)) (.int .i64 id) v).run Try.prog W = .ok () W' ∧ MapV W' b (if (f id).isSome then cnt else cnt + 1) (fun i => if i = id then some v else f i) ∧ W.grownBy W' (some b) ∧ W'.heap.size = W.heap.size := by
  obtain ⟨D, h1, h2, h3, h4⟩ := h
  obtain ⟨W', hrun, r1, r2⟩ := h1.store keyI ht hn (keyOf64 hid) (val := v) (d := .held v) (ps := []) rfl
  have hsz := size_put (h1.tidy keyI) (k := keyL id) (.held v)
  rw [h3, h2] at hsz
  have hz : W'.heap.size = W.heap.size := by obtain ⟨es, clock, es', clock', hb, rfl⟩ := r2; simp [ChangeMaps.setBlock]
  refine ⟨W', hrun, ⟨D.put (keyL id) (.held v), ?_, hsz, fun i => ?_, fun i zd => ?_⟩, r2.grown, hz⟩
  · have := ownsMap_exact r1
    rwa [hsz] at this
  · simp only []
    by_cases e1 : i = id
    · subst e1; rw [has_put_same h1.isMap (keyL_is _), if_pos rfl]; rfl
    · rw [has_put_other (keyL_ne e1), h3, if_neg e1]
  · simp only []
    by_cases e1 : i = id
    · subst e1; rw [atKey_put_same h1.isMap (keyL_is _), if_pos rfl]; rfl
    · rw [atKey_put_other (keyL_ne e1), h4, if_neg e1]
/-- The delete. -/
theorem MapV.drop {t e : TypeId} (h : MapV W b cnt f) (ht : Try.prog.underlying t = some (.map 3 e)) {id : Int} (hid : I64 id) (ty : TypeId) :
    ∃ W', (Builtin.delete_ #[t, 3] ty #[.map (some b), .int .i64 id]).run Try.prog W = .ok (.tuple #[]) W' ∧ MapV W' b (if (f id).isSome then cnt - 1 else cnt) (fun i => if i = id then none else f i) ∧ W.grownBy W' (some b) ∧ W'.heap.size = W.heap.size := by
  obtain ⟨D, h1, h2, h3, h4⟩ := h
  obtain ⟨W', hrun, r1, r2⟩ := h1.drop keyI ht (keyOf64 hid) ty
  have hsz : Maps.size (D.del (keyL id)) = if (f id).isSome then cnt - 1 else cnt := by
    have := size_del (h1.tidy keyI) (k := keyL id)
    rw [h3, h2] at this
    split
    · rename_i e1; rw [if_pos e1] at this; omega
    · rename_i e1; rw [if_neg e1] at this; omega
  have hz : W'.heap.size = W.heap.size := by obtain ⟨es, clock, es', clock', hb, rfl⟩ := r2; simp [ChangeMaps.setBlock]
  refine ⟨W', hrun, ⟨D.del (keyL id), ?_, hsz, fun i => ?_, fun i zd => ?_⟩, r2.grown, hz⟩
  · have := ownsMap_exact r1
    rwa [hsz] at this
  · simp only []
    by_cases e1 : i = id
    · subst e1; rw [has_del_same, if_pos rfl]; rfl
    · rw [has_del_other (keyL_ne e1), h3, if_neg e1]
  · simp only []
    by_cases e1 : i = id
    · subst e1; rw [atKey_del_same, if_pos rfl]; rfl
    · rw [atKey_del_other (keyL_ne e1), h4, if_neg e1]
end

section
variable {P : Program} (w : World) {ops : Array Oper} {rest : List Oper} {o : Oper} {a : Act} {Q : Exit → Act → World → Prop}
theorem wpList_putV (hP : P = Try.prog) (hg : o.guard = none) (m x v : Operand) (t : TypeId) (hop : o.op = Op.mapUpdate t m x v) (e : TypeId) (ht : Try.prog.underlying t = some (.map 3 e)) (b cnt : Nat) (f : Int → Option Value)
    (hm : a.eval m = .map (some b)) (h : MapV w b cnt f) (hn : cnt < maxLen) (id : Int) (val : Value) (hx : a.eval x = .int .i64 id) (hv : a.eval v = val) (hid : I64 id)
    (hK : ∀ w', MapV w' b (if (f id).isSome then cnt else cnt + 1) (fun i => if i = id then some val else f i) → w.grownBy w' (some b) → w'.heap.size = w.heap.size → wpList P ops Q rest (a.put o.dst undef) w') : wpList P ops Q (o :: rest) a w := by
  subst hP
  refine wpList_plain hg fun K' hK' => ?_
  obtain ⟨w', hrun, r1, r2, r3⟩ := h.store ht hn hid val
  unfold Oper.wp
  simp [execOp, hop, hm, hx, hv, hrun, Result.andThen]
  exact hK' _ _ (hK w' r1 r2 r3)
theorem wpList_dropV (hP : P = Try.prog) (hg : o.guard = none) (m x : Operand) (t : TypeId) (hop : o.op = Op.call { callee := Callee.builtin Builtin.delete, args := #[m, x], argTypes := #[t, 3] }) (e : TypeId) (ht : Try.prog.underlying t = some (.map 3 e)) (b cnt : Nat) (f : Int → Option Value)
    (hm : a.eval m = .map (some b)) (h : MapV w b cnt f) (id : Int) (hx : a.eval x = .int .i64 id) (hid : I64 id)
    (hK : ∀ w', MapV w' b (if (f id).isSome then cnt - 1 else cnt) (fun i => if i = id then none else f i) → w.grownBy w' (some b) → w'.heap.size = w.heap.size → wpList P ops Q rest (a.put o.dst (.tuple #[])) w') : wpList P ops Q (o :: rest) a w := by
  subst hP
  refine wpList_plain hg fun K' hK' => ?_
  obtain ⟨w', hrun, r1, r2, r3⟩ := h.drop ht hid o.type
  unfold Oper.wp
  simp [execOp, hop, resolve, invoke, builtin, hm, hx, hrun, Result.andThen]
  exact hK' _ _ (hK w' r1 r2 r3)
end
end Go.Proofs.Ythjjipcbpmdfnaa
