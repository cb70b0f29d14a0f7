/-
  Slice literals of structs of integers, at the operation.
-/
import Derived.Great.BuildSlice
import Derived.Test.YtkceefheeicmbaaBase
namespace Go.Proofs.Ytkceefheeicmbaa

theorem wpList_two_gm {ops : Array Oper} {rest : List Oper} {o : Oper} {a : Act} {w : World} {Q : Exit → Act → World → Prop} (hg : o.guard = none) (x y : Operand) (ho : o.op = .buildSlice 52 2 #[(0, x), (1, y)])
    (a1 b1 s1 a2 b2 s2 : Int) (hx : a.eval x = .agg #[.int .i64 a1, .int .i64 b1, .int .i64 s1]) (hy : a.eval y = .agg #[.int .i64 a2, .int .i64 b2, .int .i64 s2])
    (h : wpList Try.prog ops Q rest (a.put o.dst (.slice (some ⟨w.heap.size, 0, none⟩) 2 2)) (w.alloc (.cells #[.int .i64 a1, .int .i64 b1, .int .i64 s1, .int .i64 a2, .int .i64 b2, .int .i64 s2] 59))) :
    wpList Try.prog ops Q (o :: rest) a w := by
  have hi : ∃ i, Try.prog.info? 59 = some i ∧ i.zero = some (.agg #[.int .i64 0, .int .i64 0, .int .i64 0]) ∧ i.size = 3 := by
    have hs : (Try.prog.info? 59).map (fun i => (i.zero, i.size)) = some (some (.agg #[.int .i64 0, .int .i64 0, .int .i64 0]), 3) := by kernel_rfl
    cases hq : Try.prog.info? 59 with
    | none => rw [hq] at hs; cases hs
    | some i =>
      rw [hq] at hs
      simp only [Option.map_some, Option.some.injEq, Prod.mk.injEq] at hs
      exact ⟨i, rfl, hs.1, hs.2⟩
  obtain ⟨i, hi, hz, hsz⟩ := hi
  refine wpList_buildSlice hg _ 59 2 _ ho _ i _ Try.underlying52 hi hz (by rw [hsz]; decide) (by rw [hsz]; decide) ?_ h
  rw [hsz]
  have e : (Array.map (fun x : Nat × Operand => (x.1, a.eval x.2)) #[(0, x), (1, y)]).toList = [(0, .agg #[.int .i64 a1, .int .i64 b1, .int .i64 s1]), (1, .agg #[.int .i64 a2, .int .i64 b2, .int .i64 s2])] := by
    rw [Array.toList_map]
    simp only [List.map_cons, List.map_nil, hx, hy]
  refine Eq.trans (congrArg _ e) ?_
  rw [show Array.range (2 * 3) = #[0, 1, 2, 3, 4, 5] by decide]
  simp [Instr.fill, Value.cells]
theorem wpList_two_tk {ops : Array Oper} {rest : List Oper} {o : Oper} {a : Act} {w : World} {Q : Exit → Act → World → Prop} (hg : o.guard = none) (x y : Operand) (ho : o.op = .buildSlice 34 2 #[(0, x), (1, y)])
    (a1 b1 s1 a2 b2 s2 : Int) (hx : a.eval x = .agg #[.int .i64 a1, .int .i64 b1, .int .i64 s1]) (hy : a.eval y = .agg #[.int .i64 a2, .int .i64 b2, .int .i64 s2])
    (h : wpList Try.prog ops Q rest (a.put o.dst (.slice (some ⟨w.heap.size, 0, none⟩) 2 2)) (w.alloc (.cells #[.int .i64 a1, .int .i64 b1, .int .i64 s1, .int .i64 a2, .int .i64 b2, .int .i64 s2] 24))) :
    wpList Try.prog ops Q (o :: rest) a w := by
  have hi : ∃ i, Try.prog.info? 24 = some i ∧ i.zero = some (.agg #[.int .i64 0, .int .i64 0, .int .i64 0]) ∧ i.size = 3 := by
    have hs : (Try.prog.info? 24).map (fun i => (i.zero, i.size)) = some (some (.agg #[.int .i64 0, .int .i64 0, .int .i64 0]), 3) := by kernel_rfl
    cases hq : Try.prog.info? 24 with
    | none => rw [hq] at hs; cases hs
    | some i =>
      rw [hq] at hs
      simp only [Option.map_some, Option.some.injEq, Prod.mk.injEq] at hs
      exact ⟨i, rfl, hs.1, hs.2⟩
  obtain ⟨i, hi, hz, hsz⟩ := hi
  refine wpList_buildSlice hg _ 24 2 _ ho _ i _ Try.underlying34 hi hz (by rw [hsz]; decide) (by rw [hsz]; decide) ?_ h
  rw [hsz]
  have e : (Array.map (fun x : Nat × Operand => (x.1, a.eval x.2)) #[(0, x), (1, y)]).toList = [(0, .agg #[.int .i64 a1, .int .i64 b1, .int .i64 s1]), (1, .agg #[.int .i64 a2, .int .i64 b2, .int .i64 s2])] := by
    rw [Array.toList_map]
    simp only [List.map_cons, List.map_nil, hx, hy]
  refine Eq.trans (congrArg _ e) ?_
  rw [show Array.range (2 * 3) = #[0, 1, 2, 3, 4, 5] by decide]
  simp [Instr.fill, Value.cells]
end Go.Proofs.Ytkceefheeicmbaa
