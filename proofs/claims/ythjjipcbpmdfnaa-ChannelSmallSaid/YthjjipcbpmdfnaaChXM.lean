/-
  Joined: ChXA, ChXS.
-/
import Derived.Test.YthjjipcbpmdfnaaChWX
import Derived.Test.YthjjipcbpmdfnaaKitY
import Derived.Great.BuildSlice
import Derived.Test.YthjjipcbpmdfnaaChUY
import Derived.Deep.CutBlock
import Derived.Deep.DeepCutAuto

/- For ChannelSmall: literals of scripts and of bytes, packetOf, a Channel that only sends. -/
namespace Go.Proofs.Ythjjipcbpmdfnaa
open Go.RowKit

theorem OpsAt.plain {w : World} {o : Own} {τ : Nat} {A : Option Addr} {n c : Nat} {ps : List OpV} (h : OpsAt w o τ A n c ps) : OpsAt w (fun _ => 0) 0 A n c ps := by
  obtain ⟨h1, h2, h3, h4⟩ := h
  refine ⟨h1, h2, h3, fun hn => ?_⟩
  obtain ⟨g, off, hA, -, hg, hp⟩ := h4 hn
  refine ⟨g, off, hA, rfl, hg, fun i p hi => ?_⟩
  obtain ⟨a1, a2, a3, BA, bn, bc, b0, b1, b2, b3, b4, b5⟩ := hp i p hi
  exact ⟨a1, a2, a3, BA, bn, bc, b0, b1, b2, b3, b4.plain, b5⟩
theorem OpsAt.below {w w' : World} {o : Own} {τ : Nat} {A : Option Addr} {n c : Nat} {ps : List OpV} (h : OpsAt w o τ A n c ps) (hb : Below w.heap.size w w') : OpsAt w' o τ A n c ps := by
  obtain ⟨h1, h2, h3, h4⟩ := h
  refine ⟨h1, h2, h3, fun hn => ?_⟩
  obtain ⟨g, off, hA, ho, hg, hp⟩ := h4 hn
  refine ⟨g, off, hA, ho, Nat.lt_of_lt_of_le hg hb.size, fun i p hi => ?_⟩
  obtain ⟨a1, a2, a3, BA, bn, bc, b0, b1, b2, b3, b4, b5⟩ := hp i p hi
  exact ⟨a1, a2, a3, BA, bn, bc, (hb.cell (p := ⟨g, _, none⟩) hg).trans b0, (hb.cell (p := ⟨g, _, none⟩) hg).trans b1, (hb.cell (p := ⟨g, _, none⟩) hg).trans b2, (hb.cell (p := ⟨g, _, none⟩) hg).trans b3, b4.below hb, b5⟩

/-- An op as it lies in a literal. -/
structure OpL where
  K : Nat
  S : Nat
  T : Nat
  A : Option Addr
  n : Nat
  c : Nat
def OpL.cells (u : OpL) : List Value := [.int .u8 u.K, .int .u8 u.S, .int .u8 u.T, .slice u.A u.n u.c]
def OpL.Ok (W : World) (u : OpL) : Prop := u.K < 256 ∧ u.S < 256 ∧ u.T < 256 ∧ u.n ≤ 9223372036854775807 ∧ ∃ B, Sl W (fun _ => 0) 0 1 u.A u.n u.c (byts B)
theorem OpL.Ok.below {W W' : World} {u : OpL} (h : u.Ok W) (hb : Below W.heap.size W W') : u.Ok W' := by
  obtain ⟨h1, h2, h3, h4, B, h5⟩ := h
  exact ⟨h1, h2, h3, h4, B, h5.below hb⟩
abbrev opsCells (us : List OpL) : List Value := us.flatMap OpL.cells
theorem opsCells_len (us : List OpL) : (opsCells us).length = us.length * 4 := by
  induction us with
  | nil => rfl
  | cons u us ih => simp only [opsCells, List.flatMap_cons, List.length_append] at ih ⊢; rw [ih]; simp only [OpL.cells, List.length_cons, List.length_nil]; omega
theorem opsCells_get : ∀ (us : List OpL) (i j : Nat) (u : OpL), us[i]? = some u → j < 4 → (opsCells us)[i * 4 + j]? = u.cells[j]?
  | [], i, j, u, h, _ => by simp at h
  | x :: us, 0, j, u, h, hj => by
    simp only [List.getElem?_cons_zero, Option.some.injEq] at h
    subst h
    rw [opsCells, List.flatMap_cons, Nat.zero_mul, Nat.zero_add, List.getElem?_append_left (by simpa [OpL.cells] using hj)]
  | x :: us, i + 1, j, u, h, hj => by
    have ih := opsCells_get us i j u (by simpa using h) hj
    rw [opsCells, List.flatMap_cons, List.getElem?_append_right (by simp [OpL.cells]; omega)]
    rw [← ih]
    congr 1
    simp only [OpL.cells, List.length_cons, List.length_nil]
    omega
theorem one_ops (us : List OpL) : ∀ v ∈ opsCells us, v.oneCell' = true := by
  intro v hv
  obtain ⟨u, -, hu⟩ := List.mem_flatMap.1 hv
  simp only [OpL.cells, List.mem_cons, List.not_mem_nil, or_false] at hu
  rcases hu with rfl | rfl | rfl | rfl <;> rfl

/-- A slice of ops is a script. -/
theorem ops_of {W : World} {A : Option Addr} {n c : Nat} {us : List OpL} (h : Sl W (fun _ => 0) 0 4 A n c (opsCells us)) (hu : ∀ u ∈ us, u.Ok W) : ∃ ps, OpsAt W (fun _ => 0) 0 A n c ps := by
  have hb : ∀ u : OpL, ∃ B : List UInt8, u ∈ us → Sl W (fun _ => 0) 0 1 u.A u.n u.c (byts B) := fun u => by
    rcases Classical.em (u ∈ us) with hm | hm
    · obtain ⟨-, -, -, -, B, h5⟩ := hu u hm; exact ⟨B, fun _ => h5⟩
    · exact ⟨[], fun h => absurd h hm⟩
  obtain ⟨f, hf⟩ := Classical.axiomOfChoice hb
  refine ⟨us.map fun u => ⟨u.K, u.S, u.T, f u⟩, ?_, h.2.1, h.2.2.1, fun hn => ?_⟩
  · have := h.1; rw [opsCells_len] at this; simp; omega
  · obtain ⟨g, off, hA, -, hg, hc⟩ := h.2.2.2 hn
    refine ⟨g, off, hA, rfl, hg, fun i p hi => ?_⟩
    rw [List.getElem?_map] at hi
    obtain ⟨u, hui, rfl⟩ := Option.map_eq_some_iff.1 hi
    have hm := List.mem_of_getElem? hui
    obtain ⟨k1, k2, k3, k4, -⟩ := hu u hm
    have q : ∀ j v, j < 4 → u.cells[j]? = some v → W.cell? ⟨g, off + i * 4 + j, none⟩ = some v := fun j v hj hv => by
      rw [Nat.add_assoc]; exact hc _ v ((opsCells_get us i j u hui hj).trans hv)
    exact ⟨k1, k2, k3, u.A, u.n, u.c, q 0 _ (by omega) rfl, q 1 _ (by omega) rfl, q 2 _ (by omega) rfl, q 3 _ (by omega) rfl, hf u hm, k4⟩
theorem el_op : Elem Try.prog 22 43 4 32 (.agg #[.int .u8 0, .int .u8 0, .int .u8 0, .slice none 0 0]) := ⟨Try.underlying22, by kernel_rfl, rfl, by decide⟩
theorem nil_body (W : World) (K S T : Nat) (hK : K < 256) (hS : S < 256) (hT : T < 256) : OpL.Ok W ⟨K, S, T, none, 0, 0⟩ := ⟨hK, hS, hT, by show 0 ≤ _; omega, [], Sl.nil_ _ _ _ _ _ _ (Nat.zero_le _)⟩
def OpL.val (u : OpL) : Value := .agg u.cells.toArray
theorem flatten_ops : ∀ us : List OpL, (us.map OpL.val).flatMap (fun v => v.cells.toList) = opsCells us
  | [] => rfl
  | u :: us => by rw [List.map_cons, List.flatMap_cons, flatten_ops us]; rfl
/-- A slice literal of ops. -/
theorem wpList_ops_lit {w : World} {ops : Array Oper} {rest : List Oper} {o : Oper} {a : Act} {Q : Exit → Act → World → Prop} (hg : o.guard = none) (len : Nat) (parts : Array (Nat × Operand)) (ho : o.op = .buildSlice 22 len parts) (us : List OpL) (hlen : us.length = len) (h0 : 0 < len) (hm : len ≤ 100)
    (hparts : (parts.map fun (i, x) => (i, a.eval x)).toList = ((us.map OpL.val).zipIdx 0).map fun x => (x.2, x.1))
    (h : wpList Try.prog ops Q rest (a.put o.dst (.slice (some ⟨w.heap.size, 0, none⟩) len len)) (w.alloc (.cells (opsCells us).toArray 43))) : wpList Try.prog ops Q (o :: rest) a w := by
  obtain ⟨ie, hi, hz0, hz1, hz2⟩ := info_parts el_op.info
  refine wpList_buildSlice hg _ _ len parts ho _ ie _ el_op.under hi hz0 (by rw [hz1]; omega) (by rw [hz1]; omega) ?_ h
  rw [hparts, hz1]
  have := Great.fill_whole (s := 4) (by decide) (us.map OpL.val) ((Array.range (len * 4)).map ((Value.agg #[Value.int .u8 0, Value.int .u8 0, Value.int .u8 0, Value.slice none 0 0]).cells[· % (Value.agg #[Value.int .u8 0, Value.int .u8 0, Value.int .u8 0, Value.slice none 0 0]).cells.size]!)) (fun v hv => by
    obtain ⟨u, -, rfl⟩ := List.mem_map.1 hv; rfl) (by simp [hlen])
  rw [flatten_ops] at this
  exact this
/-- A cell of a slice whose address is known. -/
theorem Sl.cell_at {w : World} {o : Own} {τ sz n c g : Nat} {xs : List Value} (h : Sl w o τ sz (some ⟨g, 0, none⟩) n c xs) (hn : 0 < n) {j : Nat} {u : Value} (hj : xs[j]? = some u) : w.cell? ⟨g, j, none⟩ = some u := by
  obtain ⟨g', off, hA, -, -, hc⟩ := h.2.2.2 hn
  injection hA with hA; injection hA with h1 h2; subst h1; subst h2
  have := hc j u hj
  rwa [Nat.zero_add] at this
theorem madeZ (n : Nat) : (Go.madeCells (Value.int .u8 0).cells (n * 1)) = (byts (List.replicate n 0)).toArray := by
  apply Array.ext
  · simp [size_madeCells, byts]
  · intro i h1 h2
    simp [Go.madeCells, Value.cells, byts, Nat.mod_one]
theorem make_bytesZ (m : Nat) (hm : m ≤ 4000) : ∃ cs : Array Value, cs = (byts (List.replicate m 0)).toArray ∧ ∀ W, (Instr.makeSlice 41 (.int .i64 (m : Int)) (.int .i64 (m : Int))).run Try.prog W = .ok (.slice (some ⟨W.heap.size, 0, none⟩) m m) (W.alloc (.cells cs 5)) := by
  have hi : (Try.prog.info? 5).map (fun i => (i.zero, i.size, i.bytes)) = some (some (.int .u8 0), 1, 1) := by kernel_rfl
  obtain ⟨i, h1, h2, h3, h4⟩ := info_parts hi
  refine ⟨_, (madeZ m), fun W => ?_⟩
  have h := run_makeSlice (P := Try.prog) W 41 5 i (.int .u8 0) Try.underlying41 h1 h2 .i64 .i64 (m : Int) (m : Int) (by omega) (by omega) (by rw [h3, Int.toNat_natCast]; omega) (by rw [h4]; omega) (by omega)
  rw [h3, Int.toNat_natCast] at h
  exact h
def pktB (n : Nat) (xs : List UInt8) : List UInt8 := [1, UInt8.ofNat (n / 256), UInt8.ofNat n] ++ xs

set_option maxRecDepth 100000 in
set_option maxHeartbeats 1000000 in
theorem packetOf_any (w : World) {o : Own} {τ : Nat} {A : Option Addr} {k c : Nat} {xs : List UInt8} (hS : Sl w o τ 1 A k c (byts xs)) (hk : k ≤ 100000) (n : Nat) (hn : n < 256) :
    Calls Try.prog 29 #[.int .i64 n, .slice A k c] w fun e w' => ∃ A' c', e = .returned (.slice A' (3 + k) c') ∧ Below w.heap.size w w' ∧ Sl w' (fun _ => 0) 0 1 A' (3 + k) c' (byts (pktB n xs)) := by
  have q1 : (n : Int) / 256 % 256 = 0 := by omega
  have q2 : IntKind.u8.wrap ((n : Int) / 256) = 0 := by simp [IntKind.wrap, IntKind.bits, IntKind.signed]; omega
  have q3 : IntKind.u8.wrap (n : Int) = n := by simp [IntKind.wrap, IntKind.bits, IntKind.signed]; omega
  have hns := (NS.refl w).alloc (.cells #[.int .u8 1, .int .u8 0, .int .u8 (n : Int)] 5)
  have hr0 := NRow.made (B := w.heap.size) (w := w) (cs := #[.int .u8 1, .int .u8 0, .int .u8 (n : Int)]) (Nat.le_refl _) 5 1 3 rfl (by decide) 3 (Nat.le_refl _)
  have hs1 := hS.below (w' := w.alloc (.cells #[.int .u8 1, .int .u8 0, .int .u8 (n : Int)] 5)) ((Below.refl _ _).alloc (Nat.le_refl _) _)
  have HNS := Lib.hid hns; have HR0 := Lib.hid hr0; have HS1 := Lib.hid hs1
  clear hns hr0 hs1 hS
  go_enter Try.func29, Try.ntmps29
  go_wp2_with (at_builtin; refine wpList_append_new _ rfl (.tmp 10) (.tmp 11) _ rfl el_byte HNS.out _ 3 3 _ rfl HR0.out A k c _ rfl HS1.out (one_byts _) (by omega) (by unfold maxLen; omega) ?_; intro A5 c5 w5 hr5 hk5 _ _; have HR5 := Lib.hid hr5; have HK5 := Lib.hid hk5; clear hr5 hk5)
  go_ret
  refine ⟨A5, c5, rfl, HK5.out.fin, ?_⟩
  have e1 : (UInt8.ofNat (n / 256)).toNat = 0 := by rw [show n / 256 = 0 by omega]; rfl
  have e2 : (UInt8.ofNat n).toNat = n := by simp; omega
  have hb : byts (pktB n xs) = #[Value.int .u8 1, .int .u8 0, .int .u8 (n : Int)].toList ++ byts xs := by
    unfold pktB
    simp only [byts, List.map_append, List.map_cons, List.map_nil, e1, e2]
    rfl
  rw [hb]
  exact HR5.out.sl.plain

/-! ### literals of bytes -/
def litVals : Nat → List (List UInt8) → List Value
  | _, [] => []
  | n, l :: ls => .slice (some ⟨n, 0, none⟩) l.length l.length :: litVals (n + 1) ls
def allocs : World → List (List UInt8) → World
  | w, [] => w
  | w, l :: ls => allocs (w.alloc (.cells (byts l).toArray 5)) ls
theorem allocs_ok : ∀ (ls : List (List UInt8)) (w : World), (∀ l ∈ ls, l.length ≤ maxLen) → Below w.heap.size w (allocs w ls) ∧ (allocs w ls).heap.size = w.heap.size + ls.length ∧ (litVals w.heap.size ls).length = ls.length ∧
    ∀ (i : Nat) x, ls[i]? = some x → ∃ g, (litVals w.heap.size ls)[i]? = some (.slice (some ⟨g, 0, none⟩) x.length x.length) ∧ Sl (allocs w ls) (fun _ => 0) 0 1 (some ⟨g, 0, none⟩) x.length x.length (byts x)
  | [], w, _ => ⟨Below.refl _ _, rfl, rfl, fun i x h => by simp at h⟩
  | l :: ls, w, hl => by
    have hz : (w.alloc (.cells (byts l).toArray 5)).heap.size = w.heap.size + 1 := World.size_alloc ..
    obtain ⟨h1, h2, h3, h4⟩ := allocs_ok ls (w.alloc (.cells (byts l).toArray 5)) (fun x hx => hl x (List.mem_cons_of_mem _ hx))
    rw [hz] at h2 h3 h4
    have hb := (Below.refl w.heap.size w).alloc (Nat.le_refl _) (.cells (byts l).toArray 5)
    refine ⟨hb.trans (h1.mono (by rw [hz]; omega)), by show (allocs _ ls).heap.size = _; rw [h2]; simp only [List.length_cons]; omega, by simp only [litVals, List.length_cons]; rw [h3], fun i x hx => ?_⟩
    cases i with
    | zero =>
      simp only [List.getElem?_cons_zero, Option.some.injEq] at hx
      subst hx
      have hs := (Sl.fresh w 5 1 l.length (byts l) (by simp [byts]) (hl l List.mem_cons_self)).below h1
      exact ⟨_, rfl, hs⟩
    | succ i =>
      obtain ⟨g, q1, q2⟩ := h4 i x (by simpa using hx)
      exact ⟨g, by simpa [litVals] using q1, q2⟩
/-- A literal of slices of bytes. -/
theorem lits_ok (ls : List (List UInt8)) (w : World) (hl : ∀ l ∈ ls, l.length ≤ maxLen) (hm : ls.length ≤ maxLen) {W : World} {g : Nat} (hW : W = (allocs w ls).alloc (.cells (litVals w.heap.size ls).toArray 41)) (hg : g = (allocs w ls).heap.size) :
    Below w.heap.size w W ∧ Sl W (fun _ => 0) 0 1 (some ⟨g, 0, none⟩) ls.length ls.length (litVals w.heap.size ls) ∧ ∀ (i : Nat) x, ls[i]? = some x → ∃ g, (litVals w.heap.size ls)[i]? = some (.slice (some ⟨g, 0, none⟩) x.length x.length) ∧ Sl W (fun _ => 0) 0 1 (some ⟨g, 0, none⟩) x.length x.length (byts x) := by
  obtain ⟨h1, h2, h3, h4⟩ := allocs_ok ls w hl
  subst hW; subst hg
  have hb := (Below.refl (allocs w ls).heap.size (allocs w ls)).alloc (Nat.le_refl _) (.cells (litVals w.heap.size ls).toArray 41)
  refine ⟨h1.trans (hb.mono h1.size), ?_, fun i x hx => ?_⟩
  · exact Sl.fresh (allocs w ls) 41 1 ls.length (litVals w.heap.size ls) (by rw [h3, Nat.mul_one]) hm
  · obtain ⟨g, q1, q2⟩ := h4 i x hx
    exact ⟨g, q1, q2.below hb⟩
/-- An op whose body is one byte, or none. -/
def IsOne (W : World) (u : OpL) : Prop := (∃ (g : Nat) (b : UInt8), u = ⟨0, 0, 0, some ⟨g, 0, none⟩, 1, 1⟩ ∧ Blk W g 5 #[.int .u8 (b.toNat : Int)]) ∨ ∃ K S T, u = ⟨K, S, T, none, 0, 0⟩ ∧ K < 256 ∧ S < 256 ∧ T < 256
theorem one_ok {W : World} {g : Nat} {b : UInt8} (hb : Blk W g 5 #[.int .u8 (b.toNat : Int)]) : OpL.Ok W ⟨0, 0, 0, some ⟨g, 0, none⟩, 1, 1⟩ :=
  ⟨(show 0 < 256 by decide), (show 0 < 256 by decide), (show 0 < 256 by decide), (show 1 ≤ 9223372036854775807 by decide), [b], rfl, Nat.le_refl _, (show 1 ≤ maxLen by decide), fun _ => ⟨g, 0, rfl, rfl, hb.lt, fun j u hj => by
    rw [Nat.zero_add, hb.cell, ← hj]
    simp [byts]⟩⟩
theorem IsOne.ok {W : World} {u : OpL} (h : IsOne W u) : u.Ok W := by
  rcases h with ⟨g, b, rfl, hb⟩ | ⟨K, S, T, rfl, h1, h2, h3⟩
  · exact one_ok hb
  · exact nil_body _ _ _ _ h1 h2 h3
theorem IsOne.keep {W W' : World} {u : OpL} {e : TypeId} (h : IsOne W u) (hk : ∀ (g : Nat) (tt : TypeId) (cs : Array Value), Blk W g tt cs → e ≠ tt → Blk W' g tt cs) (he : e ≠ 5) : IsOne W' u := by
  rcases h with ⟨g, b, rfl, hb⟩ | h
  · exact .inl ⟨g, b, rfl, hk g _ _ hb he⟩
  · exact .inr h
theorem IsOne.alloc {W : World} {u : OpL} (h : IsOne W u) (ob : Obj) : IsOne (W.alloc ob) u := by
  rcases h with ⟨g, b, rfl, hb⟩ | h
  · exact .inl ⟨g, b, rfl, hb.alloc ob⟩
  · exact .inr h
theorem opsAt_nil (w : World) : OpsAt w (fun _ => 0) 0 none 0 0 [] := ⟨rfl, Nat.le_refl _, Nat.zero_le _, fun h => absurd h (Nat.lt_irrefl _)⟩

/-! ### a Channel that only sends -/
def smX (m : Nat) : ChS := { chNew 0 0 with out := fun n => if n < m then some ⟨[UInt8.ofNat n], -1, 0⟩ else none, sent := m }
theorem smX_wait (m : Nat) : waitS (smX m) = m := by
  show ((List.range m).filter fun n => ((smX m).out n).isSome).length = m
  rw [List.filter_eq_self.2 (fun n hn => by
    have := List.mem_range.1 hn
    show (if n < m then some _ else none).isSome = true
    rw [if_pos this]; rfl), List.length_range]
theorem smX_send (k : Nat) : sendS (smX (min k 256)) [UInt8.ofNat k] = (smX (min (k + 1) 256), if k < 256 then 0 else 4) := by
  unfold sendS
  rw [if_neg (by simp), smX_wait]
  by_cases h : k < 256
  · rw [if_neg (by omega), if_pos h, show min k 256 = k by omega, show min (k + 1) 256 = k + 1 by omega]
    have e : updN (smX k).out (smX k).sent (some ⟨[UInt8.ofNat k], -1, 0⟩) = (smX (k + 1)).out := by
      funext n
      show (if n = k then _ else if n < k then _ else none) = if n < k + 1 then _ else none
      by_cases e : n = k
      · subst e; rw [if_pos rfl, if_pos (by omega)]
      · rw [if_neg e]
        by_cases hn : n < k
        · rw [if_pos hn, if_pos (by omega)]
        · rw [if_neg hn, if_neg (by omega)]
    rw [e]; rfl
  · rw [if_pos (by omega), if_neg h, show min k 256 = 256 by omega, show min (k + 1) 256 = 256 by omega]
theorem smX_flush : (flushS (smX 256) 0).2.1.length = 323 ∧ (flushS (smX 256) 0).2.2 = 0 := by decide +kernel
theorem smX_zero : smX 0 = chNew 0 0 := by
  unfold smX chNew
  congr 1
end Go.Proofs.Ythjjipcbpmdfnaa

/- WALK of ChannelSmall, behind a contract of ChannelTells. (Printed by gen/gen_chxs.py.) -/
namespace Go.Proofs.Ythjjipcbpmdfnaa
open Go.RowKit

def lits17 : List (List UInt8) := [[0], [0, 0, 0], [0, 0, 0, 0], [0, 0, 0, 1], [0, 0, 0, 1, 9], [0, 0, 0, 1, 9, 0], [0, 0, 0, 0, 0, 1, 0, 0], [0, 1, 0, 0, 0, 0, 0, 0], [0, 0, 0, 1, 5, 0, 0, 0, 1, 6], [0, 63, 0, 0], [0, 64, 0, 0], [255, 255, 0, 0], [0, 2, 0, 1, 7, 0, 0, 0, 1, 8, 0, 1, 0, 1, 9], [128, 0, 0, 0], [127, 255, 0, 0], [0, 0, 4, 0], [0, 0, 4, 1]]
theorem lits17_len {x : List UInt8} (h : x ∈ lits17) : x.length ≤ 15 := by
  have : ∀ x ∈ lits17, x.length ≤ 15 := by decide
  exact this x h
theorem heads17 (w : World) : ∃ W, (((((((((((((((((w.alloc (.cells #[.int .u8 0] 5)).alloc (.cells #[.int .u8 0, .int .u8 0, .int .u8 0] 5)).alloc (.cells #[.int .u8 0, .int .u8 0, .int .u8 0, .int .u8 0] 5)).alloc (.cells #[.int .u8 0, .int .u8 0, .int .u8 0, .int .u8 1] 5)).alloc (.cells #[.int .u8 0, .int .u8 0, .int .u8 0, .int .u8 1, .int .u8 9] 5)).alloc (.cells #[.int .u8 0, .int .u8 0, .int .u8 0, .int .u8 1, .int .u8 9, .int .u8 0] 5)).alloc (.cells #[.int .u8 0, .int .u8 0, .int .u8 0, .int .u8 0, .int .u8 0, .int .u8 1, .int .u8 0, .int .u8 0] 5)).alloc (.cells #[.int .u8 0, .int .u8 1, .int .u8 0, .int .u8 0, .int .u8 0, .int .u8 0, .int .u8 0, .int .u8 0] 5)).alloc (.cells #[.int .u8 0, .int .u8 0, .int .u8 0, .int .u8 1, .int .u8 5, .int .u8 0, .int .u8 0, .int .u8 0, .int .u8 1, .int .u8 6] 5)).alloc (.cells #[.int .u8 0, .int .u8 63, .int .u8 0, .int .u8 0] 5)).alloc (.cells #[.int .u8 0, .int .u8 64, .int .u8 0, .int .u8 0] 5)).alloc (.cells #[.int .u8 255, .int .u8 255, .int .u8 0, .int .u8 0] 5)).alloc (.cells #[.int .u8 0, .int .u8 2, .int .u8 0, .int .u8 1, .int .u8 7, .int .u8 0, .int .u8 0, .int .u8 0, .int .u8 1, .int .u8 8, .int .u8 0, .int .u8 1, .int .u8 0, .int .u8 1, .int .u8 9] 5)).alloc (.cells #[.int .u8 128, .int .u8 0, .int .u8 0, .int .u8 0] 5)).alloc (.cells #[.int .u8 127, .int .u8 255, .int .u8 0, .int .u8 0] 5)).alloc (.cells #[.int .u8 0, .int .u8 0, .int .u8 4, .int .u8 0] 5)).alloc (.cells #[.int .u8 0, .int .u8 0, .int .u8 4, .int .u8 1] 5)).alloc (.cells #[.slice (some ⟨w.heap.size, 0, none⟩) 1 1, .slice (some ⟨w.heap.size + 1, 0, none⟩) 3 3, .slice (some ⟨w.heap.size + 1 + 1, 0, none⟩) 4 4, .slice (some ⟨w.heap.size + 1 + 1 + 1, 0, none⟩) 4 4, .slice (some ⟨w.heap.size + 1 + 1 + 1 + 1, 0, none⟩) 5 5, .slice (some ⟨w.heap.size + 1 + 1 + 1 + 1 + 1, 0, none⟩) 6 6, .slice (some ⟨w.heap.size + 1 + 1 + 1 + 1 + 1 + 1, 0, none⟩) 8 8, .slice (some ⟨w.heap.size + 1 + 1 + 1 + 1 + 1 + 1 + 1, 0, none⟩) 8 8, .slice (some ⟨w.heap.size + 1 + 1 + 1 + 1 + 1 + 1 + 1 + 1, 0, none⟩) 10 10, .slice (some ⟨w.heap.size + 1 + 1 + 1 + 1 + 1 + 1 + 1 + 1 + 1, 0, none⟩) 4 4, .slice (some ⟨w.heap.size + 1 + 1 + 1 + 1 + 1 + 1 + 1 + 1 + 1 + 1, 0, none⟩) 4 4, .slice (some ⟨w.heap.size + 1 + 1 + 1 + 1 + 1 + 1 + 1 + 1 + 1 + 1 + 1, 0, none⟩) 4 4, .slice (some ⟨w.heap.size + 1 + 1 + 1 + 1 + 1 + 1 + 1 + 1 + 1 + 1 + 1 + 1, 0, none⟩) 15 15, .slice (some ⟨w.heap.size + 1 + 1 + 1 + 1 + 1 + 1 + 1 + 1 + 1 + 1 + 1 + 1 + 1, 0, none⟩) 4 4, .slice (some ⟨w.heap.size + 1 + 1 + 1 + 1 + 1 + 1 + 1 + 1 + 1 + 1 + 1 + 1 + 1 + 1, 0, none⟩) 4 4, .slice (some ⟨w.heap.size + 1 + 1 + 1 + 1 + 1 + 1 + 1 + 1 + 1 + 1 + 1 + 1 + 1 + 1 + 1, 0, none⟩) 4 4, .slice (some ⟨w.heap.size + 1 + 1 + 1 + 1 + 1 + 1 + 1 + 1 + 1 + 1 + 1 + 1 + 1 + 1 + 1 + 1, 0, none⟩) 4 4] 41) = W ∧ Below w.heap.size w W ∧ Sl W (fun _ => 0) 0 1 (some ⟨w.heap.size + 1 + 1 + 1 + 1 + 1 + 1 + 1 + 1 + 1 + 1 + 1 + 1 + 1 + 1 + 1 + 1 + 1, 0, none⟩) 17 17 (litVals w.heap.size lits17) ∧
    ∀ (i : Nat) x, lits17[i]? = some x → ∃ g, (litVals w.heap.size lits17)[i]? = some (.slice (some ⟨g, 0, none⟩) x.length x.length) ∧ Sl W (fun _ => 0) 0 1 (some ⟨g, 0, none⟩) x.length x.length (byts x) := by
  have hz := (allocs_ok lits17 w (fun l hl => by have := lits17_len hl; unfold maxLen; omega)).2.1
  exact ⟨_, rfl, lits_ok lits17 w (fun l hl => by have := lits17_len hl; unfold maxLen; omega) (by decide) rfl (by rw [hz]; rfl)⟩
/-- A contract of ChannelTells. -/
def TellsC : Prop := ∀ (w : World) (own oth tick : Int), -9223372036854775808 ≤ tick → tick ≤ 9223372036854775807 → ∀ (A : Option Addr) (n c : Nat) (ps : List OpV), OpsAt w (fun _ => 0) 0 A n c ps →
  Calls Try.prog 3 #[.int .i64 own, .int .i64 oth, .int .i64 tick, .slice A n c] w fun e w' => e = .returned (.bool true) ∧ Below w.heap.size w w'
theorem packetOf_m (w : World) {o : Own} {τ : Nat} {A : Option Addr} {k c : Nat} {xs : List UInt8} (hS : Sl w o τ 1 A k c (byts xs)) (hk : k ≤ 100000) (n : Nat) (hn : n < 256) (m : Nat) (hm : m = 3 + k) :
    Calls Try.prog 29 #[.int .i64 n, .slice A k c] w fun e w' => ∃ A' c', e = .returned (.slice A' m c') ∧ Below w.heap.size w w' ∧ Sl w' (fun _ => 0) 0 1 A' m c' (byts (pktB n xs)) := by
  subst hm; exact packetOf_any w hS hk n hn
theorem lit5 (W : World) (a b : UInt8) (x y : Int) (hx : (a.toNat : Int) = x) (hy : (b.toNat : Int) = y) : Sl (W.alloc (.cells #[.int .u8 0, .int .u8 x, .int .u8 0, .int .u8 1, .int .u8 y] 5)) (fun _ => 0) 0 1 (some ⟨W.heap.size, 0, none⟩) 5 5 (byts [0, a, 0, 1, b]) := by
  subst hx; subst hy
  exact Sl.fresh W 5 1 5 (byts [0, a, 0, 1, b]) rfl (by decide)
/-- 'load' of a whole Channel behind a guard that lets it pass. -/
theorem wpList_load_rcG {ops : Array Oper} {rest : List Oper} {op : Oper} {a : Act} {w : World} {Q : Exit → Act → World → Prop} (hw : Region.wanted op (yielded ops a.tmps) = true) (x : Operand) (ho : op.op = .load 32 x)
    {b : Nat} {t : TypeId} {c : RCh} {v : RV} (hx : a.eval x = .pointer (some ⟨b, 0, none⟩)) (hb : Blk w b t (rcells c v))
    (h : wpList Try.prog ops Q rest (a.put op.dst (.agg (rcells c v))) w) : wpList Try.prog ops Q (op :: rest) a w :=
  wpList_step fun K hK => by
    rw [if_pos hw]
    obtain ⟨d, h1, h2, h3⟩ := ch_row
    exact wp_load_mid _ x ho b 0 hx (rcells c v).toList d (fun j u hu => by rw [Nat.zero_add, hb.cell]; simpa using hu) h1 h2 h3 (hK _ _ (by simpa using h))
theorem setRow_newS {ts : List Nat} {w W : World} {o oW : Own} {z : Nat} (h : Step ts w o W oW) (hz : w.heap.size ≤ z) (cs : Array Value) : Step ts w o (W.setRow z cs) oW :=
  ⟨h.os, h.tape, h.output, by simpa using h.size, h.own, fun k hk hn => (setRow_other W z k cs (by omega)).trans (h.block k hk hn)⟩
/-- A Channel that has sent k messages, and the reference's. -/
structure CSm (w W : World) (o : Own) (e bx m : Nat) (r : RCh) (v : RV) (k : Nat) : Prop where
  st : Step [1, 2, 39] w o40 W o
  C : ChAt W o (TU 0) e (smX m)
  bo : Both (smX m) r k
  bb : Blk W bx 32 (rcells r v)
  ob : o bx = 39
  R : RChIn W o 40 40 r v
theorem CSm.step {w W W' : World} {o o' : Own} {e bx m k : Nat} {r : RCh} {v : RV} (h : CSm w W o e bx m r v k) (hs : Step [] W o W' o') : CSm w W' o' e bx m r v k :=
  ⟨h.st.trans hs.nil, h.C.step hs (by simp) (by simp) (by simp) (by simp), h.bo, h.bb.step hs (by simp), (hs.own _ h.bb.lt).trans h.ob, h.R.step hs (by simp) (by simp)⟩
abbrev nineL : List Value := [.int .i64 0, .int .i64 1, .int .i64 583, .int .i64 584, .int .i64 587, .int .i64 588, .int .i64 1023, .int .i64 1024, .int .i64 1025]
theorem nine_at {k : Nat} (h : k < 9) : ∃ n : Nat, n ≤ 1025 ∧ nineL[k]? = some (.int .i64 n) := by
  rcases (show k = 0 ∨ k = 1 ∨ k = 2 ∨ k = 3 ∨ k = 4 ∨ k = 5 ∨ k = 6 ∨ k = 7 ∨ k = 8 by omega) with rfl | rfl | rfl | rfl | rfl | rfl | rfl | rfl | rfl
  · exact ⟨0, by omega, rfl⟩
  · exact ⟨1, by omega, rfl⟩
  · exact ⟨583, by omega, rfl⟩
  · exact ⟨584, by omega, rfl⟩
  · exact ⟨587, by omega, rfl⟩
  · exact ⟨588, by omega, rfl⟩
  · exact ⟨1023, by omega, rfl⟩
  · exact ⟨1024, by omega, rfl⟩
  · exact ⟨1025, by omega, rfl⟩
abbrev fiveT : List Value := [.int .i64 (-9223372036854775808), .int .i64 (-1), .int .i64 0, .int .i64 1, .int .i64 9223372036854775788]
theorem fiveT_at {k : Nat} (h : k < 5) : ∃ t : Int, -9223372036854775808 ≤ t ∧ t ≤ 9223372036854775807 ∧ fiveT[k]? = some (.int .i64 t) := by
  rcases (show k = 0 ∨ k = 1 ∨ k = 2 ∨ k = 3 ∨ k = 4 by omega) with rfl | rfl | rfl | rfl | rfl <;> exact ⟨_, by decide, by decide, rfl⟩

set_option maxRecDepth 100000 in
set_option maxHeartbeats 40000000 in
theorem ChannelSmall_of (hT : TellsC) (w : World) : Calls Try.prog 4 #[] w fun e w' => e = .returned (.bool true) ∧ Below w.heap.size w w' := by
  have HT := Lib.hid hT
  clear hT
  go_enter Try.func4, Try.ntmps4
  go_upto_block 0 with fail
  obtain ⟨W1, hW, hb1, hs1, hl1⟩ := heads17 w
  rw [hW]
  have HB1 := Lib.hid hb1; have HS1 := Lib.hid hs1; have HL1 := Lib.hid hl1
  clear hW hb1 hs1 hl1
  generalize w.heap.size + 1 + 1 + 1 + 1 + 1 + 1 + 1 + 1 + 1 + 1 + 1 + 1 + 1 + 1 + 1 + 1 + 1 = g0 at HS1 ⊢
  generalize Value.slice (some ⟨w.heap.size + 1 + 1 + 1 + 1 + 1 + 1 + 1 + 1 + 1 + 1 + 1 + 1 + 1 + 1 + 1 + 1, 0, none⟩) 4 4 = y16
  generalize Value.slice (some ⟨w.heap.size + 1 + 1 + 1 + 1 + 1 + 1 + 1 + 1 + 1 + 1 + 1 + 1 + 1 + 1 + 1, 0, none⟩) 4 4 = y15
  generalize Value.slice (some ⟨w.heap.size + 1 + 1 + 1 + 1 + 1 + 1 + 1 + 1 + 1 + 1 + 1 + 1 + 1 + 1, 0, none⟩) 4 4 = y14
  generalize Value.slice (some ⟨w.heap.size + 1 + 1 + 1 + 1 + 1 + 1 + 1 + 1 + 1 + 1 + 1 + 1 + 1, 0, none⟩) 4 4 = y13
  generalize Value.slice (some ⟨w.heap.size + 1 + 1 + 1 + 1 + 1 + 1 + 1 + 1 + 1 + 1 + 1 + 1, 0, none⟩) 15 15 = y12
  generalize Value.slice (some ⟨w.heap.size + 1 + 1 + 1 + 1 + 1 + 1 + 1 + 1 + 1 + 1 + 1, 0, none⟩) 4 4 = y11
  generalize Value.slice (some ⟨w.heap.size + 1 + 1 + 1 + 1 + 1 + 1 + 1 + 1 + 1 + 1, 0, none⟩) 4 4 = y10
  generalize Value.slice (some ⟨w.heap.size + 1 + 1 + 1 + 1 + 1 + 1 + 1 + 1 + 1, 0, none⟩) 4 4 = y9
  generalize Value.slice (some ⟨w.heap.size + 1 + 1 + 1 + 1 + 1 + 1 + 1 + 1, 0, none⟩) 10 10 = y8
  generalize Value.slice (some ⟨w.heap.size + 1 + 1 + 1 + 1 + 1 + 1 + 1, 0, none⟩) 8 8 = y7
  generalize Value.slice (some ⟨w.heap.size + 1 + 1 + 1 + 1 + 1 + 1, 0, none⟩) 8 8 = y6
  generalize Value.slice (some ⟨w.heap.size + 1 + 1 + 1 + 1 + 1, 0, none⟩) 6 6 = y5
  generalize Value.slice (some ⟨w.heap.size + 1 + 1 + 1 + 1, 0, none⟩) 5 5 = y4
  generalize Value.slice (some ⟨w.heap.size + 1 + 1 + 1, 0, none⟩) 4 4 = y3
  generalize Value.slice (some ⟨w.heap.size + 1 + 1, 0, none⟩) 4 4 = y2
  generalize Value.slice (some ⟨w.heap.size + 1, 0, none⟩) 3 3 = y1
  generalize Value.slice (some ⟨w.heap.size, 0, none⟩) 1 1 = y0
  generalize w.heap.size = z0 at HS1 HL1
  go_cut [] (fun wx => Hid (Below W1.heap.size W1 wx))
  case first =>
   go_wp2_with fail
   go_loopw [43] (fun i wr => ∃ k : Nat, k ≤ 17 ∧ i = .int .i64 k ∧ Hid (Below W1.heap.size W1 wr)) (fun i _ => 17 - (intOf i).toNat)
   case atStart => exact ⟨0, by omega, rfl, Lib.hid (Below.refl _ _)⟩
   case round =>
     obtain ⟨k, hk, rfl, HK⟩ := hrel
     by_cases hlt : k < 17
     · have hd : decide ((k : Int) < 17) = true := by simp; omega
       obtain ⟨x, hx⟩ : ∃ x, lits17[k]? = some x := ⟨_, List.getElem?_eq_getElem hlt⟩
       have hxl := lits17_len (List.mem_of_getElem? hx)
       obtain ⟨gx, q1, q2⟩ := HL1.out k x hx
       have cx := (HS1.out.below HK.out).cell_at (by omega) q1
       have HX0 := Lib.hid (q2.below HK.out)
       obtain ⟨n, hn⟩ : ∃ n, n = x.length := ⟨_, rfl⟩
       rw [← hn] at cx HX0 hxl
       obtain ⟨nn, hnn⟩ : ∃ nn, nn = 3 + n := ⟨_, rfl⟩
       have HNN := Lib.hid hnn
       have hn2 : nn ≤ 18 := by omega
       clear q1 q2 hx hn hnn
       go_upto_region 4 with fail
       clear cx hd
       have hk1 : (k : Int) % 256 = k := by omega
       have hk2 : IntKind.u8.wrap (k : Int) = k := by simp [IntKind.wrap, IntKind.bits, IntKind.signed]; omega
       have HC0 := Lib.hid (Below.refl wr.heap.size wr)
       go_wp2_with fail
       refine (packetOf_m _ HX0.out (by omega) 0 (by decide) nn HNN.out).mono ?_
       rintro e v1 ⟨A1, c1, rfl, hb1, hs1⟩
       have hbb1 := hb1
       have HS1_1 := Lib.hid hs1
       have HX1 := Lib.hid (HX0.out.below hbb1)
       have HC1 := Lib.hid (HC0.out.trans (hbb1.mono HC0.out.size))
       clear hb1 hs1 hbb1 HX0 HC0
       go_wp2_with fail
       refine (packetOf_m _ (lit5 v1 1 3 1 3 rfl rfl) (by decide) 1 (by decide) 8 rfl).mono ?_
       rintro e v2 ⟨A2, c2, rfl, hb2, hs2⟩
       have hal2 := (Below.refl v1.heap.size v1).alloc (Nat.le_refl _) (.cells #[.int .u8 0, .int .u8 1, .int .u8 0, .int .u8 1, .int .u8 3] 5)
       have hbb2 := hal2.trans (hb2.mono hal2.size)
       have HS2_2 := Lib.hid hs2
       have HS1_2 := Lib.hid (HS1_1.out.below hbb2)
       have HX2 := Lib.hid (HX1.out.below hbb2)
       have HC2 := Lib.hid (HC1.out.trans (hbb2.mono HC1.out.size))
       clear hb2 hs2 hbb2 HX1 HC1 hal2 HS1_1
       go_wp2_with fail
       refine (packetOf_m _ (lit5 v2 0 4 0 4 rfl rfl) (by decide) 2 (by decide) 8 rfl).mono ?_
       rintro e v3 ⟨A3, c3, rfl, hb3, hs3⟩
       have hal3 := (Below.refl v2.heap.size v2).alloc (Nat.le_refl _) (.cells #[.int .u8 0, .int .u8 0, .int .u8 0, .int .u8 1, .int .u8 4] 5)
       have hbb3 := hal3.trans (hb3.mono hal3.size)
       have HS3_3 := Lib.hid hs3
       have HS1_3 := Lib.hid (HS1_2.out.below hbb3)
       have HS2_3 := Lib.hid (HS2_2.out.below hbb3)
       have HX3 := Lib.hid (HX2.out.below hbb3)
       have HC3 := Lib.hid (HC2.out.trans (hbb3.mono HC2.out.size))
       clear hb3 hs3 hbb3 HX2 HC2 hal3 HS1_2 HS2_2
       go_wp2_with fail
       refine (packetOf_m _ (lit5 v3 1 3 1 3 rfl rfl) (by decide) 1 (by decide) 8 rfl).mono ?_
       rintro e v4 ⟨A4, c4, rfl, hb4, hs4⟩
       have hal4 := (Below.refl v3.heap.size v3).alloc (Nat.le_refl _) (.cells #[.int .u8 0, .int .u8 1, .int .u8 0, .int .u8 1, .int .u8 3] 5)
       have hbb4 := hal4.trans (hb4.mono hal4.size)
       have HS4_4 := Lib.hid hs4
       have HS1_4 := Lib.hid (HS1_3.out.below hbb4)
       have HS2_4 := Lib.hid (HS2_3.out.below hbb4)
       have HS3_4 := Lib.hid (HS3_3.out.below hbb4)
       have HX4 := Lib.hid (HX3.out.below hbb4)
       have HC4 := Lib.hid (HC3.out.trans (hbb4.mono HC3.out.size))
       clear hb4 hs4 hbb4 HX3 HC3 hal4 HS1_3 HS2_3 HS3_3
       go_wp2_with fail
       refine (packetOf_m _ HX4.out (by omega) 40 (by decide) nn HNN.out).mono ?_
       rintro e v5 ⟨A5, c5, rfl, hb5, hs5⟩
       have hbb5 := hb5
       have HS5_5 := Lib.hid hs5
       have HS1_5 := Lib.hid (HS1_4.out.below hbb5)
       have HS2_5 := Lib.hid (HS2_4.out.below hbb5)
       have HS3_5 := Lib.hid (HS3_4.out.below hbb5)
       have HS4_5 := Lib.hid (HS4_4.out.below hbb5)
       have HX5 := Lib.hid (HX4.out.below hbb5)
       have HC5 := Lib.hid (HC4.out.trans (hbb5.mono HC4.out.size))
       clear hb5 hs5 hbb5 HX4 HC4 HS1_4 HS2_4 HS3_4 HS4_4
       go_wp2_with fail
       refine (packetOf_m _ HX5.out (by omega) 7 (by decide) nn HNN.out).mono ?_
       rintro e v6 ⟨A6, c6, rfl, hb6, hs6⟩
       have hbb6 := hb6
       have HS6_6 := Lib.hid hs6
       have HS1_6 := Lib.hid (HS1_5.out.below hbb6)
       have HS2_6 := Lib.hid (HS2_5.out.below hbb6)
       have HS3_6 := Lib.hid (HS3_5.out.below hbb6)
       have HS4_6 := Lib.hid (HS4_5.out.below hbb6)
       have HS5_6 := Lib.hid (HS5_5.out.below hbb6)
       have HX6 := Lib.hid (HX5.out.below hbb6)
       have HC6 := Lib.hid (HC5.out.trans (hbb6.mono HC5.out.size))
       clear hb6 hs6 hbb6 HX5 HC5 HS1_5 HS2_5 HS3_5 HS4_5 HS5_5
       obtain ⟨us, hus⟩ : ∃ us : List OpL, us = [⟨5, 0, 0, A1, nn, c1⟩, ⟨5, 0, 0, A2, 8, c2⟩, ⟨5, 0, 0, A3, 8, c3⟩, ⟨2, 0, k, none, 0, 0⟩, ⟨2, 0, 0, none, 0, 0⟩, ⟨5, 0, 0, A4, 8, c4⟩, ⟨2, 0, 0, none, 0, 0⟩, ⟨5, 0, 0, A5, nn, c5⟩, ⟨5, 0, 0, A6, nn, c6⟩, ⟨2, 0, 0, none, 0, 0⟩] := ⟨_, rfl⟩
       have hbo := (Below.refl v6.heap.size v6).alloc (Nat.le_refl _) (.cells (opsCells us).toArray 43)
       have hok : ∀ u ∈ us, u.Ok (v6.alloc (.cells (opsCells us).toArray 43)) := by
         intro u hu
         refine OpL.Ok.below ?_ hbo
         rw [hus] at hu
         simp only [List.mem_cons, List.not_mem_nil, or_false] at hu
         rcases hu with rfl | rfl | rfl | rfl | rfl | rfl | rfl | rfl | rfl | rfl
         · exact ⟨(show 5 < 256 by decide), (show 0 < 256 by decide), (show 0 < 256 by decide), by show nn ≤ _; omega, _, HS1_6.out⟩
         · exact ⟨(show 5 < 256 by decide), (show 0 < 256 by decide), (show 0 < 256 by decide), by show 8 ≤ _; omega, _, HS2_6.out⟩
         · exact ⟨(show 5 < 256 by decide), (show 0 < 256 by decide), (show 0 < 256 by decide), by show 8 ≤ _; omega, _, HS3_6.out⟩
         · exact nil_body _ _ _ _ (by omega) (by omega) (by omega)
         · exact nil_body _ _ _ _ (by omega) (by omega) (by omega)
         · exact ⟨(show 5 < 256 by decide), (show 0 < 256 by decide), (show 0 < 256 by decide), by show 8 ≤ _; omega, _, HS4_6.out⟩
         · exact nil_body _ _ _ _ (by omega) (by omega) (by omega)
         · exact ⟨(show 5 < 256 by decide), (show 0 < 256 by decide), (show 0 < 256 by decide), by show nn ≤ _; omega, _, HS5_6.out⟩
         · exact ⟨(show 5 < 256 by decide), (show 0 < 256 by decide), (show 0 < 256 by decide), by show nn ≤ _; omega, _, HS6_6.out⟩
         · exact nil_body _ _ _ _ (by omega) (by omega) (by omega)
       have hul : us.length = 10 := by rw [hus]; rfl
       obtain ⟨ps, hP⟩ := ops_of (Sl.fresh v6 43 4 10 (opsCells us) (by rw [opsCells_len, hul]) (by decide)) hok
       have hQ := HK.out.trans ((HC6.out.trans (hbo.mono HC6.out.size)).mono HK.out.size)
       simp only [hus, opsCells, List.flatMap_cons, List.flatMap_nil, OpL.cells, List.cons_append, List.nil_append, List.append_nil] at hP hQ
       have HP := Lib.hid hP; have HQ := Lib.hid hQ
       clear hok hP hQ hbo hul hus us HS1_6 HS2_6 HS3_6 HS4_6 HS5_6 HS6_6 HX6 HC6
       go_wp2_with fail
       refine (HT.out _ 0 0 k (by omega) (by omega) _ 10 10 ps HP.out).mono ?_
       rintro e w2 ⟨rfl, hb2⟩
       have HK2 := Lib.hid (HQ.out.trans (hb2.mono HQ.out.size))
       clear hb2 HP HQ
       go_wp2_with fail
       go_roundw
       case rel => exact ⟨k + 1, by omega, by go_num, HK2⟩
       case measure => simp [intOf]; omega
     · have hd : decide ((k : Int) < 17) = false := by simp; omega
       go_wp2_with fail
       go_meet
       exact HK
  have HB2 : Hid (Below w.heap.size w wc) := Lib.hid (HB1.out.trans (hcut.out.mono HB1.out.size))
  clear hcut HS1 HL1 HB1
  go_upto_block 2 with fail
  obtain ⟨W5, hW5⟩ : ∃ W5, W5 = wc.alloc (.cells #[.int .i64 0, .int .i64 1, .int .i64 583, .int .i64 584, .int .i64 587, .int .i64 588, .int .i64 1023, .int .i64 1024, .int .i64 1025] 3) := ⟨_, rfl⟩
  have hS5 : Sl W5 (fun _ => 0) 0 1 (some ⟨wc.heap.size, 0, none⟩) 9 9 nineL := by rw [hW5]; exact Sl.fresh wc 3 1 9 nineL rfl (by decide)
  have hb5 : Below w.heap.size w W5 := by rw [hW5]; exact HB2.out.alloc HB2.out.size _
  rw [← hW5]
  have HS5 := Lib.hid hS5; have HB5 := Lib.hid hb5
  clear hS5 hb5 hW5 HB2
  generalize wc.heap.size = g5 at HS5 ⊢
  go_cut [] (fun wx => Hid (Below W5.heap.size W5 wx))
  case first =>
   go_wp2_with fail
   go_loopw [80] (fun i wr => ∃ k : Nat, k ≤ 9 ∧ i = .int .i64 k ∧ Hid (Below W5.heap.size W5 wr)) (fun i _ => 9 - (intOf i).toNat)
   case atStart => exact ⟨0, by omega, rfl, Lib.hid (Below.refl _ _)⟩
   case round =>
     obtain ⟨k, hk, rfl, HK⟩ := hrel
     by_cases hlt9 : k < 9
     · obtain ⟨n, hn, hx⟩ := nine_at hlt9
       have cx := (HS5.out.below HK.out).cell_at (by omega) hx
       obtain ⟨CS, hCS, hmk⟩ := make_bytesZ n (by omega)
       have HCS := Lib.hid hCS
       have hd0 : decide ((k : Int) < 9) = true := by simp; omega
       clear hx hCS
       obtain ⟨W6, rfl⟩ : ∃ W6, W6 = wr := ⟨_, rfl⟩
       go_upto_region 12 with fail
       obtain ⟨W7, hW7⟩ : ∃ W7, W7 = W6.alloc (.cells CS 5) := ⟨_, rfl⟩
       have hz : Sl W7 (fun _ => 0) 0 1 (some ⟨W6.heap.size, 0, none⟩) n n (byts (List.replicate n 0)) := by
         rw [hW7, HCS.out]; exact Sl.fresh W6 5 1 n (byts (List.replicate n 0)) (by simp [byts]) (by unfold maxLen; omega)
       have hb7 : Below W5.heap.size W5 W7 := by rw [hW7]; exact HK.out.alloc HK.out.size _
       rw [← hW7]
       have HZ := Lib.hid hz; have HB7 := Lib.hid hb7
       clear hz hb7 hW7 cx hmk HCS hd0
       generalize W6.heap.size = gz at HZ ⊢
       obtain ⟨hi, hhi⟩ : ∃ x : Nat, x = n / 256 := ⟨_, rfl⟩
       obtain ⟨lo, hlo⟩ : ∃ x : Nat, x = n % 256 := ⟨_, rfl⟩
       have e1 : (n : Int) / 256 % 256 = (hi : Int) := by omega
       have e2 : (n : Int) % 256 = (lo : Int) := by omega
       have e3 : IntKind.u8.wrap ((n : Int) / 256) = (hi : Int) := by simp [IntKind.wrap, IntKind.bits, IntKind.signed]; omega
       have e4 : IntKind.u8.wrap (n : Int) = (lo : Int) := by simp [IntKind.wrap, IntKind.bits, IntKind.signed]; omega
       have H0 := Lib.hid ((NS.refl W7).alloc (.cells #[.int .u8 0, .int .u8 0, .int .u8 (hi : Int), .int .u8 (lo : Int)] 5))
       have r0 := NRow.made (w := W7) (B := W7.heap.size) (Nat.le_refl _) 5 1 4 (cs := #[.int .u8 0, .int .u8 0, .int .u8 (hi : Int), .int .u8 (lo : Int)]) rfl (by decide) 4 (Nat.le_refl _)
       have R0 := Lib.hid r0
       have HZ8 := Lib.hid (HZ.out.below ((Below.refl W7.heap.size W7).alloc (Nat.le_refl _) (.cells #[.int .u8 0, .int .u8 0, .int .u8 (hi : Int), .int .u8 (lo : Int)] 5)))
       have HI := Lib.hid hhi; have LO := Lib.hid hlo
       clear r0 hhi hlo
       go_upto_region 13 with (at_builtin; refine wpList_append_new _ rfl (.tmp 91) (.tmp 92) _ rfl el_byte H0.out _ 4 4 _ rfl R0.out _ n n _ rfl HZ8.out (one_byts _) (by omega) (by unfold maxLen; omega) ?_; intro A1 c1 w1 hr1 hk1 _ _; have R1 := Lib.hid hr1; have H1 := Lib.hid hk1; clear hr1 hk1)
       have hR1 : Sl w1 (fun _ => 0) 0 1 A1 (4 + n) c1 (byts ([0, 0, UInt8.ofNat hi, UInt8.ofNat lo] ++ List.replicate n 0)) := by
         have e : byts ([0, 0, UInt8.ofNat hi, UInt8.ofNat lo] ++ List.replicate n 0) = #[Value.int .u8 0, .int .u8 0, .int .u8 (hi : Int), .int .u8 (lo : Int)].toList.take (4 * 1) ++ byts (List.replicate n 0) := by
           have h1 : (UInt8.ofNat hi).toNat = hi := by have := HI.out; simp; omega
           have h2 : (UInt8.ofNat lo).toNat = lo := by have := LO.out; simp; omega
           simp only [byts, List.map_append, List.map_cons, List.map_nil, h1, h2]
           rfl
         rw [e]; exact R1.out.sl.plain
       have hb1 := H1.out.fin
       have HR1 := Lib.hid hR1
       have HZ1 := Lib.hid (HZ.out.below hb1); have HB8 := Lib.hid (HB7.out.trans (hb1.mono HB7.out.size))
       clear hR1 hb1 R1 H1 R0 H0 HZ8 HZ HB7 HK e1 e2 e3 e4 HI LO
       obtain ⟨m2, hm2'⟩ : ∃ m2, m2 = 3 + (4 + n) := ⟨_, rfl⟩
       have HM2 := Lib.hid hm2'
       have hm3 : m2 ≤ 1032 := by omega
       clear hm2'
       have hal := (Below.refl w1.heap.size w1).alloc (Nat.le_refl _) (.cells #[.int .u8 1] 5)
       have hB1 : Blk (w1.alloc (.cells #[.int .u8 1] 5)) w1.heap.size 5 #[.int .u8 (((1 : UInt8).toNat : Nat) : Int)] := Blk.new _ _ _
       go_wp2_with fail
       refine (packetOf_m _ (HR1.out.below hal) (by omega) 0 (by decide) m2 HM2.out).mono ?_
       rintro e w2 ⟨A2, c2, rfl, hb2, hs2⟩
       have hb12 := hal.trans (hb2.mono hal.size)
       have hB2 : Blk w2 w1.heap.size 5 #[.int .u8 (((1 : UInt8).toNat : Nat) : Int)] := hB1.below hb2 (by simp)
       generalize w1.heap.size = g1 at hB2 ⊢
       obtain ⟨us, hus⟩ : ∃ us : List OpL, us = [⟨0, 0, 0, some ⟨gz, 0, none⟩, n, n⟩, ⟨0, 0, 0, some ⟨gz, 0, none⟩, n, n⟩, ⟨0, 0, 0, some ⟨g1, 0, none⟩, 1, 1⟩, ⟨2, 0, 0, none, 0, 0⟩, ⟨2, 0, 0, none, 0, 0⟩, ⟨2, 0, 0, none, 0, 0⟩, ⟨3, 1, 0, none, 0, 0⟩, ⟨3, 1, 1, none, 0, 0⟩, ⟨2, 1, 0, none, 0, 0⟩, ⟨3, 0, 0, none, 0, 0⟩, ⟨5, 0, 0, A2, m2, c2⟩, ⟨2, 0, 0, none, 0, 0⟩] := ⟨_, rfl⟩
       have hbo := (Below.refl w2.heap.size w2).alloc (Nat.le_refl _) (.cells (opsCells us).toArray 43)
       have hz2 := HZ1.out.below hb12
       have hok : ∀ u ∈ us, u.Ok (w2.alloc (.cells (opsCells us).toArray 43)) := by
         intro u hu
         refine OpL.Ok.below ?_ hbo
         rw [hus] at hu
         simp only [List.mem_cons, List.not_mem_nil, or_false] at hu
         rcases hu with rfl | rfl | rfl | rfl | rfl | rfl | rfl | rfl | rfl | rfl | rfl | rfl
         · exact ⟨(show 0 < 256 by decide), (show 0 < 256 by decide), (show 0 < 256 by decide), by show n ≤ _; omega, _, hz2⟩
         · exact ⟨(show 0 < 256 by decide), (show 0 < 256 by decide), (show 0 < 256 by decide), by show n ≤ _; omega, _, hz2⟩
         · exact one_ok hB2
         · exact nil_body _ _ _ _ (by omega) (by omega) (by omega)
         · exact nil_body _ _ _ _ (by omega) (by omega) (by omega)
         · exact nil_body _ _ _ _ (by omega) (by omega) (by omega)
         · exact nil_body _ _ _ _ (by omega) (by omega) (by omega)
         · exact nil_body _ _ _ _ (by omega) (by omega) (by omega)
         · exact nil_body _ _ _ _ (by omega) (by omega) (by omega)
         · exact nil_body _ _ _ _ (by omega) (by omega) (by omega)
         · exact ⟨(show 5 < 256 by decide), (show 0 < 256 by decide), (show 0 < 256 by decide), by show m2 ≤ _; omega, _, hs2⟩
         · exact nil_body _ _ _ _ (by omega) (by omega) (by omega)
       have hul : us.length = 12 := by rw [hus]; rfl
       obtain ⟨ps, hP⟩ := ops_of (Sl.fresh w2 43 4 12 (opsCells us) (by rw [opsCells_len, hul]) (by decide)) hok
       have hq := HB8.out.trans (hb12.mono HB8.out.size)
       have hQ := hq.trans (hbo.mono hq.size)
       simp only [hus, opsCells, List.flatMap_cons, List.flatMap_nil, OpL.cells, List.cons_append, List.nil_append, List.append_nil] at hP hQ
       have HP := Lib.hid hP; have HQ := Lib.hid hQ
       clear hok hP hQ hbo hul hus us hz2 hB1 hB2 hs2 hb12 hb2 hal hq HZ1 HB8 HR1 HM2
       go_wp2_with fail
       refine (HT.out _ 5 0 0 (by omega) (by omega) _ 12 12 ps HP.out).mono ?_
       rintro e w3 ⟨rfl, hb3⟩
       have HK2 := Lib.hid (HQ.out.trans (hb3.mono HQ.out.size))
       clear hb3 HP HQ
       go_wp2_with fail
       go_roundw
       case rel => exact ⟨k + 1, by omega, by go_num, HK2⟩
       case measure => simp [intOf]; omega
     · have hd0 : decide ((k : Int) < 9) = false := by simp; omega
       go_wp2_with fail
       go_meet
       exact HK
  have HB6 : Hid (Below w.heap.size w wc) := Lib.hid (HB5.out.trans (hcut.out.mono HB5.out.size))
  clear hcut HS5 HB5
  go_upto_block 4 with fail
  obtain ⟨W8, hW8⟩ : ∃ W8, W8 = wc.alloc (.cells #[.int .i64 (-9223372036854775808), .int .i64 (-1), .int .i64 0, .int .i64 1, .int .i64 9223372036854775788] 3) := ⟨_, rfl⟩
  have hS8 : Sl W8 (fun _ => 0) 0 1 (some ⟨wc.heap.size, 0, none⟩) 5 5 fiveT := by rw [hW8]; exact Sl.fresh wc 3 1 5 fiveT rfl (by decide)
  have hb8 : Below w.heap.size w W8 := by rw [hW8]; exact HB6.out.alloc HB6.out.size _
  rw [← hW8]
  have HS8 := Lib.hid hS8; have HB8 := Lib.hid hb8
  clear hS8 hb8 hW8 HB6
  generalize wc.heap.size = g8 at HS8 ⊢
  go_cut [] (fun wx => Hid (Below W8.heap.size W8 wx))
  case first =>
   go_wp2_with fail
   go_loopw [117] (fun i wr => ∃ k : Nat, k ≤ 5 ∧ i = .int .i64 k ∧ Hid (Below W8.heap.size W8 wr)) (fun i _ => 5 - (intOf i).toNat)
   case atStart => exact ⟨0, by omega, rfl, Lib.hid (Below.refl _ _)⟩
   case round =>
     obtain ⟨k, hk, rfl, HK⟩ := hrel
     by_cases hlt5 : k < 5
     · have hd5 : decide ((k : Int) < 5) = true := by simp; omega
       obtain ⟨t, ht0, ht1, hx⟩ := fiveT_at hlt5
       have ca := (HS8.out.below HK.out).cell_at (by omega) hx
       clear hx
       go_upto_region 19 with fail
       clear ca hd5
       have hal := (Below.refl wr.heap.size wr).alloc (Nat.le_refl _) (.cells #[.int .u8 1] 5)
       have hB1 : Blk (wr.alloc (.cells #[.int .u8 1] 5)) wr.heap.size 5 #[.int .u8 (((1 : UInt8).toNat : Nat) : Int)] := Blk.new _ _ _
       have hz1 : (wr.alloc (.cells #[.int .u8 1] 5)).heap.size = wr.heap.size + 1 := World.size_alloc ..
       obtain ⟨us, hus⟩ : ∃ us : List OpL, us = [⟨0, 0, 0, some ⟨wr.heap.size, 0, none⟩, 1, 1⟩, ⟨2, 0, 0, none, 0, 0⟩, ⟨2, 0, 7, none, 0, 0⟩, ⟨2, 0, 1, none, 0, 0⟩, ⟨3, 1, 0, none, 0, 0⟩, ⟨2, 1, 0, none, 0, 0⟩, ⟨3, 0, 0, none, 0, 0⟩, ⟨2, 0, 9, none, 0, 0⟩] := ⟨_, rfl⟩
       have hbo := (Below.refl (wr.alloc (.cells #[.int .u8 1] 5)).heap.size (wr.alloc (.cells #[.int .u8 1] 5))).alloc (Nat.le_refl _) (.cells (opsCells us).toArray 43)
       have hok : ∀ u ∈ us, u.Ok ((wr.alloc (.cells #[.int .u8 1] 5)).alloc (.cells (opsCells us).toArray 43)) := by
         intro u hu
         refine OpL.Ok.below ?_ hbo
         rw [hus] at hu
         simp only [List.mem_cons, List.not_mem_nil, or_false] at hu
         rcases hu with rfl | rfl | rfl | rfl | rfl | rfl | rfl | rfl
         · exact one_ok hB1
         · exact nil_body _ _ _ _ (by omega) (by omega) (by omega)
         · exact nil_body _ _ _ _ (by omega) (by omega) (by omega)
         · exact nil_body _ _ _ _ (by omega) (by omega) (by omega)
         · exact nil_body _ _ _ _ (by omega) (by omega) (by omega)
         · exact nil_body _ _ _ _ (by omega) (by omega) (by omega)
         · exact nil_body _ _ _ _ (by omega) (by omega) (by omega)
         · exact nil_body _ _ _ _ (by omega) (by omega) (by omega)
       have hul : us.length = 8 := by rw [hus]; rfl
       have hsl := Sl.fresh (wr.alloc (.cells #[.int .u8 1] 5)) 43 4 8 (opsCells us) (by rw [opsCells_len, hul]) (by decide)
       rw [hz1] at hsl
       obtain ⟨ps, hP⟩ := ops_of hsl hok
       have hQ := HK.out.trans ((hal.trans (hbo.mono hal.size)).mono HK.out.size)
       simp only [hus, opsCells, List.flatMap_cons, List.flatMap_nil, OpL.cells, List.cons_append, List.nil_append, List.append_nil] at hP hQ
       have HP := Lib.hid hP; have HQ := Lib.hid hQ
       clear hok hP hQ hbo hul hus us hB1 hal hsl hz1
       go_wp2_with fail
       refine (HT.out _ 1099511627776 0 t ht0 ht1 _ 8 8 ps HP.out).mono ?_
       rintro e w2 ⟨rfl, hb2⟩
       have HK2 := Lib.hid (HQ.out.trans (hb2.mono HQ.out.size))
       clear hb2 HP HQ HK
       go_wp2_with fail
       refine (HT.out _ t 0 0 (by omega) (by omega) _ 0 0 [] (opsAt_nil _)).mono ?_
       rintro e w3 ⟨rfl, hb3⟩
       have HK3 := Lib.hid (HK2.out.trans (hb3.mono HK2.out.size))
       clear hb3 HK2
       go_wp2_with fail
       go_roundw
       case rel => exact ⟨k + 1, by omega, by go_num, HK3⟩
       case measure => simp [intOf]; omega
     · have hd5 : decide ((k : Int) < 5) = false := by simp; omega
       go_wp2_with fail
       go_meet
       exact HK
  have HB10 : Hid (Below w.heap.size w wc) := Lib.hid (HB8.out.trans (hcut.out.mono HB8.out.size))
  clear hcut HS8 HB8
  go_upto_block 6 with fail
  go_cut [] (fun wx => Hid (Below w.heap.size w wx))
  case first =>
   go_wp2_with fail
   go_loopw [140] (fun i wr => ∃ L : Nat, L ≤ 4 ∧ i = .int .i64 L ∧ Hid (Below w.heap.size w wr)) (fun i _ => 4 - (intOf i).toNat)
   case atStart => exact ⟨0, by omega, rfl, HB10⟩
   case round =>
     obtain ⟨L, hL1, rfl, HL⟩ := hrel
     by_cases hltL : L < 4
     · have hdL : decide ((L : Int) < 4) = true := by simp; omega
       obtain ⟨W2, rfl⟩ : ∃ W, W = wr := ⟨_, rfl⟩
       go_wp2_with fail
       go_loopw [11, 143] (fun l i wr => ∃ (j : Nat) (A : Option Addr) (c : Nat) (us : List OpL), j ≤ 36 ∧ i = .int .i64 j ∧ l = .slice A (2 * j) c ∧ Hid (NS W2.heap.size W2 wr) ∧ Hid (NRow W2.heap.size wr 43 4 A (2 * j) c (opsCells us)) ∧ Hid (∀ u ∈ us, IsOne wr u)) (fun _ i _ => 36 - (intOf i).toNat)
       case atStart => exact ⟨0, none, 0, [], by omega, rfl, rfl, Lib.hid (NS.refl _), Lib.hid (Row.nil_ _ _ _ _ _), Lib.hid (by simp)⟩
       case round =>
         obtain ⟨j, A, c, us2, hj, rfl, rfl, HN, HR, HU⟩ := hrel
         by_cases hltj : j < 36
         · have hdj : decide ((j : Int) < 36) = true := by simp; omega
           have hj1 : (j : Int) % 256 = j := by omega
           have hj2 : IntKind.u8.wrap (j : Int) = j := by simp [IntKind.wrap, IntKind.bits, IntKind.signed]; omega
           obtain ⟨W3, rfl⟩ : ∃ W, W = wr := ⟨_, rfl⟩
           obtain ⟨cs, hcs⟩ : ∃ cs : Array Value, cs = #[.int .u8 0, .int .u8 0, .int .u8 0, .slice (some ⟨W3.heap.size, 0, none⟩) 1 1, .int .u8 2, .int .u8 0, .int .u8 0, .slice none 0 0] := ⟨_, rfl⟩
           have hce : (opsCells [⟨0, 0, 0, some ⟨W3.heap.size, 0, none⟩, 1, 1⟩, ⟨2, 0, 0, none, 0, 0⟩]).toArray = cs := by rw [hcs]; rfl
           have hb1 : (((UInt8.ofNat j).toNat : Nat) : Int) = j := by simp; omega
           have hz1 : (W3.alloc (.cells #[.int .u8 (j : Int)] 5)).heap.size = W3.heap.size + 1 := World.size_alloc ..
           have hN4 := (HN.out.alloc (.cells #[.int .u8 (j : Int)] 5)).alloc (.cells cs 43)
           have hR4 := (HR.out.alloc HN.out.le' (.cells #[.int .u8 (j : Int)] 5)).alloc (HN.out.alloc _).le' (.cells cs 43)
           have hS4 := Sl.fresh (W3.alloc (.cells #[.int .u8 (j : Int)] 5)) 43 4 2 (opsCells [⟨0, 0, 0, some ⟨W3.heap.size, 0, none⟩, 1, 1⟩, ⟨2, 0, 0, none, 0, 0⟩]) rfl (by decide)
           rw [hce, hz1] at hS4
           have hU4 : ∀ u ∈ us2 ++ [⟨0, 0, 0, some ⟨W3.heap.size, 0, none⟩, 1, 1⟩, ⟨2, 0, 0, none, 0, 0⟩], IsOne ((W3.alloc (.cells #[.int .u8 (j : Int)] 5)).alloc (.cells cs 43)) u := by
             intro u hu
             rcases List.mem_append.1 hu with hu | hu
             · exact ((HU.out u hu).alloc _).alloc _
             · simp only [List.mem_cons, List.not_mem_nil, or_false] at hu
               rcases hu with rfl | rfl
               · exact .inl ⟨_, UInt8.ofNat j, rfl, by rw [hb1]; exact (Blk.new W3 5 #[.int .u8 (j : Int)]).alloc _⟩
               · exact .inr ⟨2, 0, 0, rfl, by omega, by omega, by omega⟩
           rw [hcs] at hN4 hR4 hS4 hU4
           have HN4 := Lib.hid hN4; have HR4 := Lib.hid hR4; have HS4 := Lib.hid hS4; have HU4 := Lib.hid hU4
           clear hN4 hR4 hS4 hU4 hcs hce cs hz1 hb1
           go_wp2_with (at_builtin; refine wpList_append_new _ rfl (.tmp 146) (.tmp 152) _ rfl el_op HN4.out A (2 * j) c _ rfl HR4.out _ 2 2 _ rfl HS4.out (one_ops _) (by omega) (by unfold maxLen; omega) ?_; intro A5 c5 w5 hr5 hk5 _ hb5; have HR5 := Lib.hid hr5; have HK5 := Lib.hid hk5; have HU5 := Lib.hid (fun u hu => (HU4.out u hu).keep hb5 (by decide)); clear hr5 hk5 hb5)
           have HR6 : Hid (NRow W2.heap.size w5 43 4 A5 (2 * (j + 1)) c5 (opsCells (us2 ++ [⟨0, 0, 0, some ⟨W3.heap.size, 0, none⟩, 1, 1⟩, ⟨2, 0, 0, none, 0, 0⟩]))) := Lib.hid (by rw [opsCells, List.flatMap_append, show 2 * (j + 1) = 2 * j + 2 by omega]; exact HR5.out)
           clear HR5 HN4 HR4 HS4 HU4 HN HR HU
           go_roundw
           case rel => exact ⟨j + 1, A5, c5, _, by omega, by go_num, by rw [show 2 * (j + 1) = 2 * j + 2 by omega], HK5, HR6, HU5⟩
           case measure => simp [intOf]; omega
         · obtain rfl : j = 36 := by omega
           have hL2 : (L : Int) % 256 = L := by omega
           have hL3 : IntKind.u8.wrap (L : Int) = L := by simp [IntKind.wrap, IntKind.bits, IntKind.signed]; omega
           obtain ⟨W3, rfl⟩ : ∃ W, W = wr := ⟨_, rfl⟩
           obtain ⟨us7, hus7⟩ : ∃ us : List OpL, us = [⟨3, 1, L, none, 0, 0⟩, ⟨2, 1, 0, none, 0, 0⟩, ⟨3, 0, 0, none, 0, 0⟩, ⟨2, 0, 1, none, 0, 0⟩, ⟨2, 0, 6, none, 0, 0⟩, ⟨2, 0, 1, none, 0, 0⟩, ⟨2, 0, 0, none, 0, 0⟩] := ⟨_, rfl⟩
           obtain ⟨cs, hcs⟩ : ∃ cs : Array Value, cs = #[.int .u8 3, .int .u8 1, .int .u8 L, .slice none 0 0, .int .u8 2, .int .u8 1, .int .u8 0, .slice none 0 0, .int .u8 3, .int .u8 0, .int .u8 0, .slice none 0 0, .int .u8 2, .int .u8 0, .int .u8 1, .slice none 0 0, .int .u8 2, .int .u8 0, .int .u8 6, .slice none 0 0, .int .u8 2, .int .u8 0, .int .u8 1, .slice none 0 0, .int .u8 2, .int .u8 0, .int .u8 0, .slice none 0 0] := ⟨_, rfl⟩
           have hce : (opsCells us7).toArray = cs := by rw [hcs, hus7]; rfl
           have hN4 := HN.out.alloc (.cells cs 43)
           have hR4 := HR.out.alloc HN.out.le' (.cells cs 43)
           have hS4 := Sl.fresh W3 43 4 7 (opsCells us7) (by rw [hus7]; rfl) (by decide)
           rw [hce] at hS4
           have hU4 := fun u hu => (HU.out u hu).alloc (.cells cs 43)
           rw [hcs] at hN4 hR4 hS4 hU4
           have HN4 := Lib.hid hN4; have HR4 := Lib.hid hR4; have HS4 := Lib.hid hS4; have HU4 := Lib.hid hU4; have HUS := Lib.hid hus7
           clear hN4 hR4 hS4 hU4 hcs hce cs hus7
           go_upto_region 32 with (at_builtin; refine wpList_append_new _ rfl (.tmp 155) (.tmp 165) _ rfl el_op HN4.out A 72 c _ rfl HR4.out _ 7 7 _ rfl HS4.out (one_ops _) (by omega) (by unfold maxLen; omega) ?_; intro A5 c5 w5 hr5 hk5 _ hb5; have HR5 := Lib.hid hr5; have HK5 := Lib.hid hk5; have HU5 := Lib.hid (fun u hu => (HU4.out u hu).keep hb5 (by decide)); clear hr5 hk5 hb5)
           have hsl : Sl w5 (fun _ => 0) 0 4 A5 79 c5 (opsCells (us2 ++ us7)) := by rw [opsCells, List.flatMap_append]; exact HR5.out.sl.plain
           obtain ⟨ps, hP⟩ := ops_of hsl (fun u hu => by
             rcases List.mem_append.1 hu with hu | hu
             · exact (HU5.out u hu).ok
             · rw [HUS.out] at hu
               simp only [List.mem_cons, List.not_mem_nil, or_false] at hu
               rcases hu with rfl | rfl | rfl | rfl | rfl | rfl | rfl <;> exact nil_body _ _ _ _ (by omega) (by omega) (by omega))
           have HP := Lib.hid hP
           clear hsl hP
           go_wp2_with fail
           refine (HT.out _ 0 0 0 (by omega) (by omega) _ _ _ ps HP.out).mono ?_
           rintro e w6 ⟨rfl, hb6⟩
           have HL2 : Hid (Below w.heap.size w w6) := Lib.hid ((HL.out.trans (HK5.out.fin.mono HL.out.size)).trans (hb6.mono (Nat.le_trans HL.out.size HK5.out.fin.size)))
           clear HP hb6 HU5 HR5 HK5 HN4 HR4 HS4 HU4 HN HR HU HUS
           go_wp2_with fail
           go_roundw
           case rel => exact ⟨L + 1, by omega, by go_num, HL2⟩
           case measure => simp [intOf]; omega
     · have hdL : decide ((L : Int) < 4) = false := by simp; omega
       go_wp2_with fail
       go_meet
       exact HL
  have HB11 : Hid (Below w.heap.size w wc) := hcut
  clear hcut HB10
  go_wp2_with fail
  refine (ChNew_ok wc o40 (TU 0) (TU_ok (by decide)) 0 0 (by decide) (by decide) (by decide) (by decide)).mono ?_
  rintro e w1 ⟨e0, o1, rfl, hst, hC⟩
  have HST1 := Lib.hid hst; have HC1 := Lib.hid hC
  clear hst hC
  go_wp2_with fail
  refine (rNew_any w1 0 0 (by decide) (by decide) (by decide) (by decide)).mono ?_
  rintro e w2 ⟨rfl, hb⟩
  have st2 := (Step.refl [] w1 o1).below hb 36
  have stA := st2.alloc (.cells zero11 32) 39
  have stz := setRow_newS stA hb.size (rcells (rNew 0 0) rv0)
  have HZ := Lib.hid (Blk.new w2 32 zero11)
  have hzo : ext (ext o1 w1.heap.size 36) w2.heap.size 39 w2.heap.size = 39 := ext_ge (Nat.le_refl _)
  have HSZ := Lib.hid stz; have HZO := Lib.hid hzo
  clear st2 stA stz hzo hb
  go_upto_region 37 with (refine wpList_store_rc (c := rNew 0 0) (v := rv0) rfl (.tmp 15) (.tmp 177) rfl rfl rfl HZ.out rfl ?_)
  have hz := HZ.out.setRow (rcells (rNew 0 0) rv0)
  obtain ⟨w4, hw4⟩ : ∃ w4, w4 = (w2.alloc (.cells zero11 32)).setRow w2.heap.size (rcells (rNew 0 0) rv0) := ⟨_, rfl⟩
  have hsz := HSZ.out
  rw [← hw4] at hz hsz
  unfold zero11 at hw4
  rw [← hw4]
  have hzo := HZO.out
  clear HZ HSZ HZO hw4
  generalize ext (ext o1 w1.heap.size 36) w2.heap.size 39 = o4 at hsz hzo
  generalize w2.heap.size = bx at hz hzo ⊢
  have HSM : Hid (CSm wc w4 o4 e0 bx (min 0 256) (rNew 0 0) rv0 0) := Lib.hid (by
    have hc := HC1.out.step hsz (by simp) (by simp) (by simp) (by simp)
    refine ⟨(HST1.out.mono (by simp)).trans hsz.nil, ?_, ?_, hz, hzo, rch_new _ _ _ _ _ _⟩
    · rw [show min 0 256 = 0 from rfl, smX_zero]; exact hc
    · rw [show min 0 256 = 0 from rfl, smX_zero]; exact Both.new (by decide) (by decide) (by decide) (by decide))
  clear HST1 HC1 hz hsz hzo
  go_upto_block 10 with fail
  go_cut [] (fun wx => ∃ (ok : Own) (r : RCh) (v : RV), Hid (CSm wc wx ok e0 bx 256 r v 258))
  case first =>
   go_wp2_with fail
   go_loopw [179] (fun i wr => ∃ (k : Nat) (ok : Own) (r : RCh) (v : RV), k ≤ 258 ∧ i = .int .i64 k ∧ Hid (CSm wc wr ok e0 bx (min k 256) r v k)) (fun i _ => 258 - (intOf i).toNat)
   case atStart => exact ⟨0, o4, _, _, by omega, rfl, HSM⟩
   case round =>
     obtain ⟨k, ok, r, v, hk, rfl, HS⟩ := hrel
     clear HSM
     by_cases hlt : k < 258
     · have hd : decide ((k : Int) < 258) = true := by simp; omega
       have hst1 := (Step.refl [] wr ok).alloc (.cells #[.int .u8 ((k : Int) % 256)] 5) 37
       have e2 : byts [UInt8.ofNat k] = [.int .u8 ((k : Int) % 256)] := by simp [byts]
       have hx1 : Sl (wr.alloc (.cells #[.int .u8 ((k : Int) % 256)] 5)) (ext ok wr.heap.size 37) 37 1 (some ⟨wr.heap.size, 0, none⟩) 1 1 (byts [UInt8.ofNat k]) := by
         rw [e2]; exact (Row.made (w := wr) ok 37 5 1 #[.int .u8 ((k : Int) % 256)] 1 rfl (by decide) 1 (Nat.le_refl _)).sl
       have hS1 := HS.out.step hst1
       obtain ⟨cd, hcd0⟩ : ∃ cd : Int, cd = if k < 256 then 0 else 4 := ⟨_, rfl⟩
       obtain ⟨b1, hb1⟩ : ∃ b1, b1 = [UInt8.ofNat k] := ⟨_, rfl⟩
       have hsm := smX_send k
       rw [← hcd0, ← hb1] at hsm
       rw [← hb1] at hx1 e2
       have HX1 := Lib.hid hx1; have HS1 := Lib.hid hS1; have HSM := Lib.hid hsm; have HCD := Lib.hid hcd0; have HE2 := Lib.hid e2
       clear hst1 hx1 hS1 hcd0 e2 hsm hb1
       go_wp2_with fail
       generalize wr.alloc (.cells #[.int .u8 ((k : Int) % 256)] 5) = W1 at HX1 HS1 ⊢
       generalize ext ok wr.heap.size 37 = o1 at HX1 HS1
       generalize wr.heap.size = gx at HX1 ⊢
       refine (Send_any HS1.out.C HS1.out.bo.fit (TU_ok (by decide)) 37 (some ⟨gx, 0, none⟩) 1 1 b1 HX1.out).mono ?_
       intro e w2 hsd
       obtain ⟨o2, he, hst2, hC2⟩ := hsd.out
       rw [HSM.out] at he hC2
       simp only at he hC2
       subst he
       have hst2 : Step [1] W1 o1 w2 o2 := hst2
       obtain ⟨hbo, hcd⟩ := HS1.out.bo.send (by omega) b1
       obtain ⟨R, hR⟩ : ∃ R, R = rSend r b1 := ⟨_, rfl⟩
       rw [HSM.out, ← hR] at hbo hcd
       have hal := (Step.refl [] w2 o2).alloc (.cells #[.int .u8 ((k : Int) % 256)] 5) 38
       have hx2 : Sl (w2.alloc (.cells #[.int .u8 ((k : Int) % 256)] 5)) (fun _ => 0) 0 1 (some ⟨w2.heap.size, 0, none⟩) 1 1 (byts b1) := by
         rw [HE2.out]; exact Sl.fresh w2 5 1 1 [.int .u8 ((k : Int) % 256)] rfl (by decide)
       have hR2 := HS1.out.R.step hst2 (by simp) (by simp)
       have hrs := rSend_any (hR2.step hal (by simp) (by simp)) (HS1.out.bo.bd (by omega)) (some ⟨w2.heap.size, 0, none⟩) 1 1 b1 hx2 (by decide)
       rw [← hR] at hrs
       obtain ⟨r1, code⟩ := R
       simp only at hbo hcd
       subst hcd
       unfold RSendTo at hrs
       simp only at hrs
       have HRS := Lib.hid hrs; have HBO := Lib.hid hbo; have HAL := Lib.hid hal
       have HB2 := Lib.hid (HS1.out.bb.step hst2 (by rw [HS1.out.ob]; decide)); have HO2 := Lib.hid ((hst2.own _ HS1.out.bb.lt).trans HS1.out.ob); have HC2 := Lib.hid hC2
       have HST2 := Lib.hid (HS1.out.st.trans (hst2.mono (by simp)))
       clear hrs hbo hal hR hR2 hx2 hC2 hst2 hsd HS1 HX1 HS HSM HE2
       go_upto_region 41 with fail
       go_upto_region 42 with (first | (refine wpList_load_rc rfl (.tmp 15) rfl rfl HB2.out ?_) | (go_at_call 17; refine HRS.out.mono ?_; rintro e w3 ⟨v6, rfl, hb3, hr3⟩; have HB3 := Lib.hid hb3; have HR3 := Lib.hid hr3; have HZ := Lib.hid (Blk.new w3 32 zero11); clear hb3 hr3) | (refine wpList_store_rc (c := r1) (v := v6) rfl (.tmp 19) (.tmp 193) rfl rfl rfl HZ.out rfl ?_))
       have st3 := HAL.out.below HB3.out 40
       have stA := st3.alloc (.cells zero11 32) 39
       have st5 := setRow_newS stA st3.size (rcells r1 v6)
       have s45 : Step [39] w3 _ ((w3.alloc (.cells zero11 32)).setRow w3.heap.size (rcells r1 v6)) _ := ((Step.refl [39] w3 (ext (ext o2 w2.heap.size 38) (w2.alloc (.cells #[.int .u8 ((k : Int) % 256)] 5)).heap.size 40)).alloc (.cells zero11 32) 39).trans (step_setRow (ext_ge (Nat.le_refl _)) _)
       have r5 := HR3.out.step s45 (by simp) (by simp)
       have z5 := HZ.out.setRow (rcells r1 v6)
       obtain ⟨w5, hw5⟩ : ∃ w5, w5 = (w3.alloc (.cells zero11 32)).setRow w3.heap.size (rcells r1 v6) := ⟨_, rfl⟩
       rw [← hw5] at st5 r5 z5
       unfold zero11 at hw5
       rw [← hw5]
       generalize w3.heap.size = z at z5 st5 r5 ⊢
       generalize ext (ext (ext o2 w2.heap.size 38) _ 40) z 39 = o5 at st5 r5
       have HZ5 := Lib.hid z5; have HB5 := Lib.hid (HB2.out.step st5 (by simp))
       have hO5 := (st5.own _ HB2.out.lt).trans HO2.out
       have hC5 := HC2.out.step st5 (by simp) (by simp) (by simp) (by simp)
       have st6 : Step [39] w5 o5 (w5.setRow bx (rcells r1 v6)) o5 := step_setRow hO5 _
       have HS6 : Hid (CSm wc (w5.setRow bx (rcells r1 v6)) o5 e0 bx (min (k + 1) 256) r1 v6 (k + 1)) := Lib.hid ⟨(HST2.out.trans st5.nil).trans (st6.mono (by simp)), hC5.step st6 (by decide) (by decide) (by decide) (fun n _ => by show 1000 + 2 * n + 0 ∉ _; simp; omega), HBO.out, HB5.out.setRow (rcells r1 v6), hO5, r5.step st6 (by simp) (by simp)⟩
       clear st3 stA st5 s45 r5 z5 hw5 hO5 hC5 st6 HB3 HR3 HZ HRS HBO HAL HB2 HO2 HC2 HST2
       go_upto_region 43 with (first | (refine wpList_load_rc rfl (.tmp 19) rfl rfl HZ5.out ?_) | (refine wpList_store_rc (c := r1) (v := v6) rfl (.tmp 15) (.tmp 195) rfl rfl rfl HB5.out rfl ?_))
       obtain ⟨w6, hw6⟩ : ∃ w6, w6 = w5.setRow bx (rcells r1 v6) := ⟨_, rfl⟩
       rw [← hw6] at HS6 ⊢
       clear hw6 HZ5 HB5
       have hcc := HCD.out
       clear HCD
       rcases Nat.lt_or_ge k 256 with hk2 | hk2
       · obtain rfl : cd = 0 := by rw [hcc, if_pos hk2]
         have hc2 : decide ((256 : Int) ≤ (k : Int)) = false := by simp; omega
         clear hcc
         go_wp2_with fail
         go_roundw
         case rel => exact ⟨k + 1, o5, r1, v6, by omega, by go_num, HS6⟩
         case measure => simp [intOf]; omega
       · obtain rfl : cd = 4 := by rw [hcc, if_neg (by omega)]
         have hc2 : decide ((256 : Int) ≤ (k : Int)) = true := by simp; omega
         clear hcc
         go_wp2_with fail
         go_roundw
         case rel => exact ⟨k + 1, o5, r1, v6, by omega, by go_num, HS6⟩
         case measure => simp [intOf]; omega
     · obtain rfl : k = 258 := by omega
       go_wp2_with fail
       go_meet
       exact ⟨ok, r, v, HS⟩
  obtain ⟨ok, r, v, HS⟩ := hcut
  clear HSM
  generalize wc = w1 at HS ⊢
  have hS := HS.out
  obtain ⟨hbo, hcd, -⟩ := hS.bo.flush (by omega) 0 (by decide)
  obtain ⟨hl, hc0⟩ := smX_flush
  obtain ⟨R, hR⟩ : ∃ R, R = rFlush r 0 := ⟨_, rfl⟩
  rw [← hR] at hbo hcd
  rw [hcd] at hl hc0
  have hfl := Flush_any hS.C hS.bo.fit (TU_ok (by decide)) 37 (by decide) (by decide) 0 (by decide) (by have := hS.bo.nx; omega)
  have hrf := fun W oW (hs : Step [1, 2] w1 ok W oW) => rFlush_any (hS.R.step hs (by simp) (by simp)) (hS.bo.bd (by omega)) (hS.bo.rfit (by omega)) hS.bo.pend 0 (by decide) hS.bo.tick
  rw [← hR] at hrf
  obtain ⟨r1, q, code⟩ := R
  simp only at hl hc0 hbo
  subst hc0
  have HBO := Lib.hid hbo; have HCD := Lib.hid hcd; have HQL := Lib.hid hl; have HRF := Lib.hid hrf; have HFL := Lib.hid hfl
  have hbb := hS.bb; have hob := hS.ob
  have HB1 := Lib.hid hbb; have HO1 := Lib.hid hob; have HST1 := Lib.hid hS.st
  clear hS hbo hcd hl hrf hfl hR hbb hob HS
  go_wp2_with fail
  refine HFL.out.mono ?_
  intro e w3 hsd
  obtain ⟨o3, A3, c3, he, hst3, hC3, hrow3⟩ := hsd.out
  rw [HCD.out] at he hrow3
  simp only at he hrow3
  rw [HQL.out] at he hrow3
  subst he
  have hst3 : Step [1, 2] w1 ok w3 o3 := hst3
  have HC3 := Lib.hid hC3; have HROW3 := Lib.hid hrow3
  have HB3 := Lib.hid (HB1.out.step hst3 (by rw [HO1.out]; decide)); have HO3 := Lib.hid ((hst3.own _ HB1.out.lt).trans HO1.out)
  have hrf3 := HRF.out _ _ hst3
  unfold RFlushTo at hrf3
  simp only at hrf3
  rw [HQL.out] at hrf3
  have HRF3 := Lib.hid hrf3
  have HST3 := Lib.hid (HST1.out.trans (hst3.mono (by simp)))
  clear hsd hst3 hC3 hrow3 hrf3 HFL HRF HB1 HO1 HST1 HCD
  go_upto_region 47 with fail
  go_upto_region 48 with (first | (refine wpList_load_rc rfl (.tmp 15) rfl rfl HB3.out ?_) | (go_at_call 21; refine HRF3.out.mono ?_; rintro e w4 ⟨v6, A6, c6, rfl, hb4, hr4, hq4, hl4⟩; have HB4 := Lib.hid (HB3.out.below hb4 HB3.out.lt); have HK4 := Lib.hid hb4; have HR4 := Lib.hid hr4; have HQ4 := Lib.hid hq4; have HL4 := Lib.hid hl4; clear hb4 hr4 hq4 hl4) | (refine wpList_store_rc (c := r1) (v := v6) rfl (.tmp 15) (.tmp 219) rfl rfl rfl HB4.out rfl ?_))
  have st4 := (Step.refl [] w3 o3).below HK4.out 40
  have hob4 := (st4.own _ HB3.out.lt).trans HO3.out
  have st5 : Step [39] w4 (ext o3 w3.heap.size 40) (w4.setRow bx (rcells r1 v6)) (ext o3 w3.heap.size 40) := step_setRow hob4 _
  have z5 := HB4.out.setRow (rcells r1 v6)
  have q5 := (HQ4.out.tag' HL4.out o3 40).step st5 (by simp)
  have r5 := HR4.out.step st5 (by simp) (by simp)
  have p5 := (HROW3.out.step st4 (by simp)).step st5 (by simp)
  have c5 := (HC3.out.step st4 (by simp) (by simp) (by simp) (by simp)).step st5 (by decide) (by decide) (by decide) (fun n _ => by show 1000 + 2 * n + 0 ∉ _; simp; omega)
  have hst5 := (HST3.out.trans st4.nil).trans (st5.mono (by simp))
  obtain ⟨w5, hw5⟩ : ∃ w5, w5 = w4.setRow bx (rcells r1 v6) := ⟨_, rfl⟩
  rw [← hw5] at z5 q5 r5 p5 c5 hst5 ⊢
  generalize ext o3 w3.heap.size 40 = o5 at q5 r5 p5 c5 hst5
  have HZ5 := Lib.hid z5; have HQ5 := Lib.hid q5; have HR5 := Lib.hid r5; have HP5 := Lib.hid p5; have HC5 := Lib.hid c5; have HST5 := Lib.hid hst5
  clear hw5 st4 hob4 st5 z5 q5 r5 p5 c5 hst5 HB4 HK4 HR4 HQ4 HL4 HB3 HO3 HRF3 HST3 HC3 HROW3
  go_wp2_with fail
  refine (SameBytes_eq w5 o5 o5 37 40 A3 A6 323 323 c3 c6 q HP5.out.sl HQ5.out).mono ?_
  rintro e w6 ⟨rfl, q6, hw6⟩
  have hs6 : Step [] w5 o5 w6 o5 := by rw [hw6]; exact (Step.refl [] w5 o5).drewN q6
  have HZ6 := Lib.hid (HZ5.out.step hs6 (by simp)); have HR6 := Lib.hid (HR5.out.step hs6 (by simp) (by simp)); have HC6 := Lib.hid (HC5.out.step hs6 (by simp) (by simp) (by simp) (by simp)); have HST6 := Lib.hid (HST5.out.trans hs6.nil)
  clear hw6 hs6 HZ5 HR5 HC5 HST5 HP5 HQ5
  go_wp2_with (refine wpList_load_rcG (by rfl) (.tmp 15) rfl rfl HZ6.out ?_)
  refine (same_any HC6.out HR6.out (by have := HBO.out.out; omega) HBO.out.rel).mono ?_
  rintro e w7 ⟨rfl, hb7⟩
  go_wp2_with fail
  refine (awake_any w7).mono ?_
  rintro e w8 ⟨rfl, hb8⟩
  go_wp2_with fail
  go_ret
  have h1 := HB11.out.trans ((HST6.out.to_below (fun k _ => by simp [o40])).mono HB11.out.size)
  have h2 := h1.trans (hb7.mono h1.size)
  exact ⟨rfl, h2.trans (hb8.mono h2.size)⟩
end Go.Proofs.Ythjjipcbpmdfnaa
