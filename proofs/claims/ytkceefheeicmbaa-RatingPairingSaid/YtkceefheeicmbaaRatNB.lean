/-
  An entry of a map that is found or made first and stored behind it, as one store.
-/
import Derived.Test.YtkceefheeicmbaaRatNA
import Derived.WideKeyEntry
namespace Go.Proofs.Ytkceefheeicmbaa
open Go.RowKit Go.Shelf Go.Maps Go.ChangeMaps Go.MapKept
open Go.WideElems (Fit findIdx_born findIdx_arr modify_last set_self)

section
variable {H : Type} {P : Program} {w : World} {t k e : TypeId} {R : Value → Option (DataW H × List MemPlace)} {b : Nat} {es : Array MapEntry} {clock : Nat}
/-- The entry, then the store into it: what 'm[k] = v' does. -/
theorem entry_store (K : Keyed P k) (ht : P.underlying t = some (.map k e)) {z : Value} (hz : ∀ u : World, (zeroValue e).run P u = .ok z u) (hb : w.heap[b]? = some (.map es clock)) (F : Fit P k R es clock)
    {key : Value} {kl : Lit} (hkey : keyOf P k key = some kl) :
    ∃ (v0 : Value) (st : Nat) (es1 : Array MapEntry) (c1 : Nat), (Instr.mapEntry t (.map (some b)) key).run P w = .ok (.tuple #[v0, .int .i64 st]) (setBlock w b (.map es1 c1)) ∧
      ∀ (w2 : World) (val : Value), w2.heap[b]? = some (.map es1 c1) → ∃ es' c', (Instr.entryStore t (.map (some b)) (.int .i64 st) val).run P w2 = .ok () (setBlock w2 b (.map es' c')) ∧
        (Instr.mapUpdate t (.map (some b)) key val).run P w = .ok () (setBlock w b (.map es' c')) := by
  obtain ⟨s1, s2, -⟩ := F.stamped
  have hst : ∀ (es1 : Array MapEntry) (j : Nat) (x : MapEntry), (es1.toList.map (·.born)).Nodup → es1.toList[j]? = some x → ∀ (c1 : Nat) (w2 : World) (val : Value), w2.heap[b]? = some (.map es1 c1) →
      (Instr.entryStore t (.map (some b)) (.int .i64 x.born) val).run P w2 = .ok () (setBlock w2 b (.map (es1.modify j fun e' => { e' with val := val }) c1)) := by
    intro es1 j x hn hx c1 w2 val hw2
    have hidx : es1.findIdx? (fun e => ((e.born : Nat) : Int) == ((x.born : Nat) : Int)) = some j := by rw [findIdx_arr]; exact findIdx_born hn hx
    simp [Instr.entryStore, MapKept.run_getObj_map hw2, asInt, asIntOf, hidx, MapKept.run_setObj_map _ hw2, Result.andThen, setBlock]
  rcases K.find w hkey es.toList F.keys with ⟨h1, -⟩ | ⟨j, x, h1, h2, h3⟩
  · refine ⟨z, clock, es.push ⟨key, z, clock⟩, clock + 1, ?_, fun w2 val hw2 => ⟨_, _, hst _ es.size ⟨key, z, clock⟩ ?_ (by simp) _ w2 val hw2, ?_⟩⟩
    · simp [Instr.mapEntry, run_underlying ht, MapKept.run_getObj_map hb, K.check w false hkey, h1, hz, MapKept.run_setObj_map _ hb, Result.andThen, setBlock, goInt]
    · rw [Array.toList_push, List.map_append, List.map_cons, List.map_nil]
      refine List.nodup_append.2 ⟨s2, by simp, fun a ha c hc e1 => ?_⟩
      rw [List.mem_singleton] at hc
      obtain ⟨y, hy, rfl⟩ := List.mem_map.1 ha
      have h9 := s1 y hy
      have e2 : y.born = clock := e1.trans hc
      omega
    · have hm : (es.push ⟨key, z, clock⟩).modify es.size (fun e => { e with val := val }) = es.push ⟨key, val, clock⟩ := by
        apply Array.ext'
        rw [Array.toList_modify, Array.toList_push, Array.toList_push, ← Array.length_toList, modify_last]
      rw [hm]
      simp [Instr.mapUpdate, run_underlying ht, MapKept.run_getObj_map hb, K.check w false hkey, h1, MapKept.run_setObj_map _ hb, Result.andThen, setBlock]
  · have hj : es[j]? = some x := by simpa using h2
    have hkeep : es.modify j (fun e => { e with key := key }) = es := by
      apply Array.ext'
      rw [Array.toList_modify, modify_eq_set _ _ _ _ h2, show ({ x with key := key } : MapEntry) = x by rw [← h3]]
      exact set_self _ _ _ h2
    refine ⟨x.val, x.born, es, clock, ?_, fun w2 val hw2 => ⟨_, _, hst es j x s2 h2 _ w2 val hw2, ?_⟩⟩
    · simp [Instr.mapEntry, run_underlying ht, MapKept.run_getObj_map hb, K.check w false hkey, h1, hj, h3, K.stays w hkey, hkeep, MapKept.run_setObj_map _ hb, Result.andThen, setBlock, goInt]
    · have hm : es.modify j (fun e => { e with val := val }) = es.modify j (fun e' => { e' with key := key, val := val }) := by
        apply Array.ext'
        rw [Array.toList_modify, Array.toList_modify, modify_eq_set _ _ _ _ h2, modify_eq_set _ _ _ _ h2, ← h3]
      rw [hm]
      simp [Instr.mapUpdate, run_underlying ht, MapKept.run_getObj_map hb, K.check w false hkey, h1, hj, h3, K.stays w hkey, MapKept.run_setObj_map _ hb, Result.andThen, setBlock]
end

theorem grown_setBlock {w : World} {b : Nat} {es : Array MapEntry} {clock : Nat} {o' : Obj} (hb : w.heap[b]? = some (.map es clock)) : w.grownBy (setBlock w b o') (some b) := ⟨rfl, rfl, rfl, by simp [setBlock], fun _ _ hi => heap_setBlock_other hb _ (fun e => hi (by rw [e]))⟩

/-- An entry and the store into it. -/
theorem MapIs.entry {W : World} {b cnt : Nat} {f : Int → Int} (h : MapIs W b cnt f) (hn : cnt < maxLen) (key val : Int) (hid : -9223372036854775808 ≤ key ∧ key ≤ 9223372036854775807) (hvl : -9223372036854775808 ≤ val ∧ val ≤ 9223372036854775807) :
    ∃ (v0 : Value) (st : Nat) (W1 W2 : World), (Instr.mapEntry 46 (.map (some b)) (.int .i64 key)).run Try.prog W = .ok (.tuple #[v0, .int .i64 st]) W1 ∧ W.grownBy W1 (some b) ∧
      (Instr.entryStore 46 (.map (some b)) (.int .i64 st) (.int .i64 val)).run Try.prog W1 = .ok () W2 ∧ MapIs W2 b (cnt + 1) (fun id => if id = key then val else f id) ∧ W.grownBy W2 (some b) := by
  obtain ⟨D, h1, h2, h3⟩ := h
  obtain ⟨w', hrun, hown, hgr⟩ := h1.update keyI Try.underlying46 hn (keyI64 hid) (plainElem_int Try.underlying3 (wf_i64 hvl.1 hvl.2))
  obtain ⟨es, clock, hb, F, -, -⟩ := h1
  obtain ⟨v0, st, es1, c1, r1, r2⟩ := entry_store keyI Try.underlying46 (fun u => zeroI u) hb F (keyI64 hid)
  obtain ⟨es', c', r3, r4⟩ := r2 (setBlock W b (.map es1 c1)) (.int .i64 val) (heap_setBlock_same hb _)
  have e : w' = setBlock W b (.map es' c') := by
    have := hrun.symm.trans r4
    simpa using this
  have e2 : setBlock (setBlock W b (.map es1 c1)) b (.map es' c') = setBlock W b (.map es' c') := by simp [setBlock]
  rw [e2, ← e] at r3
  refine ⟨v0, st, _, w', r1, grown_setBlock hb, r3, ⟨_, hown, isMap_put h2 _ _, fun id => ?_⟩, hgr⟩
  show _ = litD (if id = key then val else f id)
  by_cases e : id = key
  · subst e
    rw [if_pos rfl]
    exact atKey_put_same h2 (show WideAt.IsKeyLit (.int .i64 id) from trivial) _ _
  · rw [if_neg e, atKey_put_other (by intro e2; injection e2 with _ e2; exact e e2), h3]
end Go.Proofs.Ytkceefheeicmbaa
