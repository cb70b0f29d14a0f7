/-
  Joined: ChRB, ChRC, ChRD, ChRK.
-/
import Derived.Test.YthjjipcbpmdfnaaChRX
import Derived.Test.YthjjipcbpmdfnaaKitY
import Derived.Deep.CutBlock
import Derived.Deep.DeepCutAuto
import Derived.Deep.MidRow
import Derived.BigQuiet

/- THE REFERENCE's CHANNEL IN MEMORY; WALKS of first, Waiting, due (marchesref20). -/
namespace Go.Proofs.Ythjjipcbpmdfnaa
open Go.RowKit

/-- A message as it lies in memory. -/
structure M4 where
  b : List UInt8
  done : Bool
  pks : List Int
  tks : List Int
def RMsg.m4 (m : RMsg) : M4 := ⟨m.b, m.done, m.ps.map Prod.fst, m.ps.map Prod.snd⟩
structure MV where
  bA : Option Addr
  bc : Nat
  pA : Option Addr
  pc : Nat
  tA : Option Addr
  tc : Nat
def mCells (m : M4) (v : MV) : List Value := [.slice v.bA m.b.length v.bc, .bool m.done, .slice v.pA m.pks.length v.pc, .slice v.tA m.tks.length v.tc]
def msCells : List M4 → List MV → List Value
  | m :: ms, v :: vs => mCells m v ++ msCells ms vs
  | _, _ => []
theorem msCells_len : ∀ {ms : List M4} {vs : List MV}, vs.length = ms.length → (msCells ms vs).length = ms.length * 4
  | [], [], _ => rfl
  | m :: ms, v :: vs, h => by
    simp only [msCells, List.length_append, mCells, List.length_cons, List.length_nil]
    rw [msCells_len (ms := ms) (vs := vs) (by simpa using h)]; omega
  | [], _ :: _, h => by simp at h
  | _ :: _, [], h => by simp at h
theorem msCells_at : ∀ {ms : List M4} {vs : List MV} {i : Nat} {m : M4} {v : MV}, ms[i]? = some m → vs[i]? = some v → ∀ j, j < 4 → (msCells ms vs)[i * 4 + j]? = (mCells m v)[j]?
  | m0 :: ms, v0 :: vs, 0, m, v, hm, hv, j, hj => by
    simp only [List.getElem?_cons_zero, Option.some.injEq] at hm hv
    subst hm; subst hv
    rw [msCells, List.getElem?_append_left (by simp [mCells]; omega), Nat.zero_mul, Nat.zero_add]
  | m0 :: ms, v0 :: vs, i + 1, m, v, hm, hv, j, hj => by
    rw [msCells, List.getElem?_append_right (by simp [mCells]; omega)]
    rw [← msCells_at (ms := ms) (vs := vs) (i := i) (by simpa using hm) (by simpa using hv) j hj]
    congr 1
    simp [mCells]; omega
  | [], _, _, _, _, hm, _, _, _ => by simp at hm
  | _ :: _, [], _, _, _, _, hv, _, _ => by simp at hv
theorem msCells_set : ∀ {ms : List M4} {vs : List MV} {i : Nat} {m m' : M4} {v v' : MV} {u : Value} {j : Nat}, ms[i]? = some m → vs[i]? = some v → j < 4 → (mCells m v).set j u = mCells m' v' → (msCells ms vs).set (i * 4 + j) u = msCells (ms.set i m') (vs.set i v')
  | m0 :: ms, v0 :: vs, 0, m, m', v, v', u, j, hm, hv, hj, h => by
    simp only [List.getElem?_cons_zero, Option.some.injEq] at hm hv
    subst hm; subst hv
    rw [Nat.zero_mul, Nat.zero_add]
    simp only [msCells, List.set_cons_zero]
    rw [List.set_append_left _ _ (by simp [mCells]; omega), h]
  | m0 :: ms, v0 :: vs, i + 1, m, m', v, v', u, j, hm, hv, hj, h => by
    simp only [msCells, List.set_cons_succ]
    rw [← msCells_set (ms := ms) (vs := vs) (i := i) (by simpa using hm) (by simpa using hv) hj h, List.set_append_right _ _ (by simp [mCells]; omega)]
    congr 2
    simp [mCells]; omega
  | [], _, _, _, _, _, _, _, _, hm, _, _, _ => by simp at hm
  | _ :: _, [], _, _, _, _, _, _, _, _, hv, _, _ => by simp at hv
theorem msCells_append : ∀ {ms : List M4} {vs : List MV} {m : M4} {v : MV}, vs.length = ms.length → msCells (ms ++ [m]) (vs ++ [v]) = msCells ms vs ++ mCells m v
  | [], [], m, v, _ => by simp [msCells]
  | m0 :: ms, v0 :: vs, m, v, h => by
    simp only [List.cons_append, msCells]
    rw [msCells_append (ms := ms) (vs := vs) (by simpa using h), List.append_assoc]
  | [], _ :: _, _, _, h => by simp at h
  | _ :: _, [], _, _, h => by simp at h

structure MIn (w : World) (o : Own) (σ : Nat) (m : M4) (v : MV) : Prop where
  b : Sl w o σ 1 v.bA m.b.length v.bc (byts m.b)
  p : Sl w o σ 1 v.pA m.pks.length v.pc (ints m.pks)
  t : Sl w o σ 1 v.tA m.tks.length v.tc (ints m.tks)
structure MsIn (w : World) (o : Own) (σ : Nat) (ms : List M4) (vs : List MV) : Prop where
  len : vs.length = ms.length
  el : ∀ (i : Nat) (m : M4) (v : MV), ms[i]? = some m → vs[i]? = some v → MIn w o σ m v
structure BoxIn (w : World) (o : Own) (σ : Nat) (box : List (Option (List UInt8))) (IA : Option Addr) (ic : Nat) (ivs : List Value) (SA : Option Addr) (sc : Nat) : Prop where
  inn : Sl w o σ 1 IA box.length ic ivs
  som : Sl w o σ 1 SA box.length sc (box.map fun x => .bool x.isSome)
  one : ∀ u ∈ ivs, u.oneCell' = true
  el : ∀ (i : Nat) (b : List UInt8), box[i]? = some (some b) → ∃ (xA : Option Addr) (xc : Nat), ivs[i]? = some (.slice xA b.length xc) ∧ Sl w o σ 1 xA b.length xc (byts b)
/-- Where the parts of the reference's Channel lie. -/
structure RV where
  PA : Option Addr
  pc : Nat
  GA : Option Addr
  gc : Nat
  OA : Option Addr
  oc : Nat
  mvs : List MV
  IA : Option Addr
  ic : Nat
  ivs : List Value
  SA : Option Addr
  sc : Nat
def rcells (c : RCh) (v : RV) : Array Value :=
  #[.int .i64 c.e.own, .int .i64 c.e.other, .int .i64 c.e.next, .slice v.PA c.e.pend.length v.pc, .slice v.GA c.e.got.length v.gc, .slice v.OA c.out.length v.oc, .slice v.IA c.box.length v.ic, .slice v.SA c.box.length v.sc, .int .i64 c.next, .int .i64 c.tick, .bool c.owes]
/-- The reference's Channel in memory: τ: the row of its messages, σ: all else. -/
structure RChIn (w : World) (o : Own) (τ σ : Nat) (c : RCh) (v : RV) : Prop where
  pend : Sl w o σ 1 v.PA c.e.pend.length v.pc (ints c.e.pend)
  got : Sl w o σ 1 v.GA c.e.got.length v.gc (ints c.e.got)
  out : Sl w o τ 4 v.OA c.out.length v.oc (msCells (c.out.map RMsg.m4) v.mvs)
  ms : MsIn w o σ (c.out.map RMsg.m4) v.mvs
  box : BoxIn w o σ c.box v.IA v.ic v.ivs v.SA v.sc

section
variable {w w' : World} {o o' : Own} {τ σ τ' σ' : Nat}
/-- Whatever carries slices over. -/
theorem Sl.re {sz n c : Nat} {A : Option Addr} {xs : List Value} (h : Sl w o τ sz A n c xs) (ho : ∀ k, k < w.heap.size → o k = τ → o' k = τ') : Sl w o' τ' sz A n c xs := by
  refine ⟨h.1, h.2.1, h.2.2.1, fun hn => ?_⟩
  obtain ⟨g, off, hA, hg, hl, hc⟩ := h.2.2.2 hn
  exact ⟨g, off, hA, ho g hl hg, hl, hc⟩
theorem MIn.step {m : M4} {v : MV} {ts : List Nat} (h : MIn w o σ m v) (hs : Step ts w o w' o') (h1 : σ ∉ ts) : MIn w' o' σ m v := ⟨h.b.step hs h1, h.p.step hs h1, h.t.step hs h1⟩
theorem MsIn.step {ms : List M4} {vs : List MV} {ts : List Nat} (h : MsIn w o σ ms vs) (hs : Step ts w o w' o') (h1 : σ ∉ ts) : MsIn w' o' σ ms vs := ⟨h.len, fun i m v hm hv => (h.el i m v hm hv).step hs h1⟩
theorem BoxIn.step {box : List (Option (List UInt8))} {IA SA : Option Addr} {ic sc : Nat} {ivs : List Value} {ts : List Nat} (h : BoxIn w o σ box IA ic ivs SA sc) (hs : Step ts w o w' o') (h1 : σ ∉ ts) : BoxIn w' o' σ box IA ic ivs SA sc :=
  ⟨h.inn.step hs h1, h.som.step hs h1, h.one, fun i b hb => by obtain ⟨xA, xc, q1, q2⟩ := h.el i b hb; exact ⟨xA, xc, q1, q2.step hs h1⟩⟩
theorem RChIn.step {c : RCh} {v : RV} {ts : List Nat} (h : RChIn w o τ σ c v) (hs : Step ts w o w' o') (h1 : τ ∉ ts) (h2 : σ ∉ ts) : RChIn w' o' τ σ c v := ⟨h.pend.step hs h2, h.got.step hs h2, h.out.step hs h1, h.ms.step hs h2, h.box.step hs h2⟩
theorem MIn.re {m : M4} {v : MV} (h : MIn w o σ m v) (ho : ∀ k, k < w.heap.size → o k = σ → o' k = σ') : MIn w o' σ' m v := ⟨h.b.re ho, h.p.re ho, h.t.re ho⟩
theorem MsIn.re {ms : List M4} {vs : List MV} (h : MsIn w o σ ms vs) (ho : ∀ k, k < w.heap.size → o k = σ → o' k = σ') : MsIn w o' σ' ms vs := ⟨h.len, fun i m v hm hv => (h.el i m v hm hv).re ho⟩
theorem BoxIn.re {box : List (Option (List UInt8))} {IA SA : Option Addr} {ic sc : Nat} {ivs : List Value} (h : BoxIn w o σ box IA ic ivs SA sc) (ho : ∀ k, k < w.heap.size → o k = σ → o' k = σ') : BoxIn w o' σ' box IA ic ivs SA sc :=
  ⟨h.inn.re ho, h.som.re ho, h.one, fun i b hb => by obtain ⟨xA, xc, q1, q2⟩ := h.el i b hb; exact ⟨xA, xc, q1, q2.re ho⟩⟩
theorem RChIn.re {c : RCh} {v : RV} (h : RChIn w o τ σ c v) (ho : ∀ k, k < w.heap.size → o k = σ → o' k = σ') (ht : ∀ k, k < w.heap.size → o k = τ → o' k = τ') : RChIn w o' τ' σ' c v := ⟨h.pend.re ho, h.got.re ho, h.out.re ht, h.ms.re ho, h.box.re ho⟩
theorem RChIn.below {c : RCh} {v : RV} (h : RChIn w o τ σ c v) (hb : Below w.heap.size w w') : RChIn w' o τ σ c v :=
  ⟨h.pend.below hb, h.got.below hb, h.out.below hb, ⟨h.ms.len, fun i m v hm hv => ⟨(h.ms.el i m v hm hv).b.below hb, (h.ms.el i m v hm hv).p.below hb, (h.ms.el i m v hm hv).t.below hb⟩⟩, ⟨h.box.inn.below hb, h.box.som.below hb, h.box.one, fun i b hb' => by obtain ⟨xA, xc, q1, q2⟩ := h.box.el i b hb'; exact ⟨xA, xc, q1, q2.below hb⟩⟩⟩
/-- Message i: where it lies, its cells, its slices. -/
theorem RChIn.at_ {c : RCh} {v : RV} (h : RChIn w o τ σ c v) {i : Nat} {m : RMsg} (hm : c.out[i]? = some m) : ∃ g off x, v.OA = some ⟨g, off, none⟩ ∧ g < w.heap.size ∧ v.mvs[i]? = some x ∧ MIn w o σ m.m4 x ∧ o g = τ ∧
    w.cell? ⟨g, off + i * 4, none⟩ = some (.slice x.bA m.b.length x.bc) ∧ w.cell? ⟨g, off + i * 4 + 1, none⟩ = some (.bool m.done) ∧ w.cell? ⟨g, off + i * 4 + 2, none⟩ = some (.slice x.pA m.ps.length x.pc) ∧ w.cell? ⟨g, off + i * 4 + 3, none⟩ = some (.slice x.tA m.ps.length x.tc) := by
  have hlt := (List.getElem?_eq_some_iff.1 hm).1
  have hm4 : (c.out.map RMsg.m4)[i]? = some m.m4 := by rw [List.getElem?_map, hm]; rfl
  have hvl : i < v.mvs.length := by rw [h.ms.len, List.length_map]; exact hlt
  have hv : v.mvs[i]? = some v.mvs[i] := List.getElem?_eq_getElem hvl
  obtain ⟨g, off, hA, hg, hl, hc⟩ := h.out.2.2.2 (by omega)
  have c0 := hc (i * 4 + 0) _ ((msCells_at hm4 hv 0 (by decide)).trans rfl)
  have c1 := hc (i * 4 + 1) _ ((msCells_at hm4 hv 1 (by decide)).trans rfl)
  have c2 := hc (i * 4 + 2) _ ((msCells_at hm4 hv 2 (by decide)).trans rfl)
  have c3 := hc (i * 4 + 3) _ ((msCells_at hm4 hv 3 (by decide)).trans rfl)
  rw [← Nat.add_assoc] at c0 c1 c2 c3
  rw [show m.m4.pks.length = m.ps.length by simp [RMsg.m4]] at c2
  rw [show m.m4.tks.length = m.ps.length by simp [RMsg.m4]] at c3
  exact ⟨g, off, _, hA, hl, hv, h.ms.el i _ _ hm4 hv, hg, c0, c1, c2, c3⟩
theorem RChIn.olen {c : RCh} {v : RV} (h : RChIn w o τ σ c v) : c.out.length ≤ 9223372036854775807 := by have h1 := h.out.2.1; have h2 := h.out.2.2.1; unfold maxLen at h2; omega
end

theorem box11 {W : World} {b : Nat} {t : TypeId} {c : RCh} {v : RV} (h : Blk W b t (rcells c v)) :
    W.cell? ⟨b, 0, none⟩ = some (.int .i64 c.e.own) ∧ W.cell? ⟨b, 1, none⟩ = some (.int .i64 c.e.other) ∧ W.cell? ⟨b, 2, none⟩ = some (.int .i64 c.e.next) ∧ W.cell? ⟨b, 3, none⟩ = some (.slice v.PA c.e.pend.length v.pc) ∧ W.cell? ⟨b, 4, none⟩ = some (.slice v.GA c.e.got.length v.gc) ∧
    W.cell? ⟨b, 5, none⟩ = some (.slice v.OA c.out.length v.oc) ∧ W.cell? ⟨b, 6, none⟩ = some (.slice v.IA c.box.length v.ic) ∧ W.cell? ⟨b, 7, none⟩ = some (.slice v.SA c.box.length v.sc) ∧ W.cell? ⟨b, 8, none⟩ = some (.int .i64 c.next) ∧ W.cell? ⟨b, 9, none⟩ = some (.int .i64 c.tick) ∧ W.cell? ⟨b, 10, none⟩ = some (.bool c.owes) :=
  ⟨h.cell 0, h.cell 1, h.cell 2, h.cell 3, h.cell 4, h.cell 5, h.cell 6, h.cell 7, h.cell 8, h.cell 9, h.cell 10⟩

theorem rFirst_le : ∀ (l : List RMsg), rFirst l ≤ l.length
  | [] => Nat.le_refl _
  | m :: l => by simp only [rFirst]; split; have := rFirst_le l; simp; omega; simp
theorem rFirst_lt : ∀ {l : List RMsg} {i : Nat}, i < rFirst l → ∃ m, l[i]? = some m ∧ m.done = true
  | [], _, h => by simp [rFirst] at h
  | m :: l, 0, h => by
    simp only [rFirst] at h
    split at h
    · exact ⟨m, rfl, by assumption⟩
    · omega
  | m :: l, i + 1, h => by
    simp only [rFirst] at h
    split at h
    · obtain ⟨x, hx, hd⟩ := rFirst_lt (l := l) (i := i) (by omega)
      exact ⟨x, by simpa using hx, hd⟩
    · omega
theorem rFirst_at : ∀ {l : List RMsg} {m : RMsg}, l[rFirst l]? = some m → m.done = false
  | [], _, h => by simp [rFirst] at h
  | a :: l, m, h => by
    simp only [rFirst] at h
    split at h
    · exact rFirst_at (l := l) (by simpa using h)
    · rename_i hd
      simp only [List.getElem?_cons_zero, Option.some.injEq] at h
      subst h
      cases hb : a.done with
      | false => rfl
      | true => exact absurd hb hd

set_option maxRecDepth 100000 in
set_option maxHeartbeats 1000000 in
theorem first_any {w : World} {o : Own} {τ σ : Nat} {c : RCh} {v : RV} (h : RChIn w o τ σ c v) :
    Calls Try.prog 64 #[.agg (rcells c v)] w fun e w' => e = .returned (.int .i64 (rFirst c.out)) ∧ Below w.heap.size w w' := by
  have hbx := Blk.new w 32 (rcells c v)
  have hb1 : Below w.heap.size w (w.alloc (.cells (rcells c v) 32)) := (Below.refl _ _).alloc (Nat.le_refl _) _
  have H := Lib.hid (h.below hb1)
  obtain ⟨-, -, -, -, -, q5, -⟩ := box11 hbx
  have hol := h.olen
  have HBL := Lib.hid hb1
  obtain ⟨N, hN⟩ : ∃ N, N = c.out.length := ⟨_, rfl⟩
  have hfl := rFirst_le c.out
  have hfa := fun i (hi : i < rFirst c.out) => rFirst_lt hi
  have hfs := fun m => rFirst_at (l := c.out) (m := m)
  obtain ⟨F, hF⟩ : ∃ F, F = rFirst c.out := ⟨_, rfl⟩
  rw [← hF] at hfl hfa hfs ⊢
  have HFA := Lib.hid hfa; have HFS := Lib.hid hfs
  rw [← hN] at q5 hol hfl
  have HN := Lib.hid hN
  clear hbx hb1 h hfa hfs hF hN
  go_enter Try.func64, Try.ntmps64
  go_upto_region 1 with fail
  generalize w.alloc (.cells (rcells c v) 32) = w1 at q5 H HBL ⊢
  generalize w.heap.size = gb at q5 ⊢
  go_wp2_with fail
  go_loopw [3] (fun iv wx => ∃ i : Nat, i ≤ F ∧ iv = .int .i64 i ∧ wx = w1) (fun iv _ => F - (intOf iv).toNat)
  case atStart => exact ⟨0, Nat.zero_le _, rfl, rfl⟩
  case round => as_aux_lemma =>
    obtain ⟨i, hi, rfl, rfl⟩ := hrel
    by_cases hlt : i < F
    · obtain ⟨m, hm, hmd⟩ := HFA.out i hlt
      obtain ⟨g, off, x, hA, hg, -, -, -, -, c1, -, -⟩ := H.out.at_ hm
      rw [hmd] at c1
      rw [hA] at q5
      have hiN : (i : Int) < (N : Int) := by omega
      have hd : decide ((i : Int) < (N : Int)) = true := decide_eq_true hiN
      clear hm hmd hA
      go_wp2_with fail
      go_roundw
      case rel => exact ⟨i + 1, by omega, by go_num, by trivial⟩
      case measure => simp [intOf]; omega
    · obtain rfl : i = F := by omega
      by_cases hiN : i < N
      · have hm : c.out[i]? = some c.out[i] := List.getElem?_eq_getElem (by rw [← HN.out]; exact hiN)
        have hmd := HFS.out _ hm
        obtain ⟨g, off, x, hA, hg, -, -, -, -, c1, -, -⟩ := H.out.at_ hm
        rw [hmd] at c1
        rw [hA] at q5
        have hiI : (i : Int) < (N : Int) := by omega
        have hd : decide ((i : Int) < (N : Int)) = true := decide_eq_true hiI
        clear hm hmd hA
        go_wp2_with fail
        go_ret
        exact ⟨rfl, HBL.out⟩
      · have hd : decide ((i : Int) < (N : Int)) = false := decide_eq_false (by omega)
        go_wp2_with fail
        go_ret
        exact ⟨rfl, HBL.out⟩

def cntU (l : List RMsg) (k : Nat) : Nat := rWait (l.take k)
theorem cntU_succ {l : List RMsg} {k : Nat} {m : RMsg} (h : l[k]? = some m) : cntU l (k + 1) = cntU l k + if m.done = true then 0 else 1 := by
  obtain ⟨hk, he⟩ := List.getElem?_eq_some_iff.1 h
  unfold cntU
  rw [List.take_succ_eq_append_getElem hk, he]
  unfold rWait
  rw [List.filter_append, List.length_append]
  congr 1
  by_cases hb : m.done = true <;> simp [hb]
theorem cntU_le (l : List RMsg) (k : Nat) : cntU l k ≤ k := by
  unfold cntU rWait
  exact Nat.le_trans (List.length_filter_le _ _) (List.length_take_le _ _)
set_option maxRecDepth 100000 in
set_option maxHeartbeats 1000000 in
theorem rWaiting_any {w : World} {o : Own} {τ σ : Nat} {c : RCh} {v : RV} (h : RChIn w o τ σ c v) (hlen : c.out.length ≤ 1000000000) :
    Calls Try.prog 43 #[.agg (rcells c v)] w fun e w' => e = .returned (.int .i64 (rWait c.out)) ∧ Below w.heap.size w w' := by
  have hbx := Blk.new w 32 (rcells c v)
  have hb1 : Below w.heap.size w (w.alloc (.cells (rcells c v) 32)) := (Below.refl _ _).alloc (Nat.le_refl _) _
  have H := Lib.hid (h.below hb1)
  obtain ⟨-, -, -, -, -, q5, -⟩ := box11 hbx
  have HBL := Lib.hid hb1
  obtain ⟨N, hN⟩ : ∃ N, N = c.out.length := ⟨_, rfl⟩
  rw [← hN] at q5 hlen
  have HN := Lib.hid hN
  clear hbx hb1 h hN
  go_enter Try.func43, Try.ntmps43
  go_upto_region 1 with fail
  generalize w.alloc (.cells (rcells c v) 32) = w1 at q5 H HBL ⊢
  generalize w.heap.size = gb at q5 ⊢
  go_wp2_with fail
  go_loopw [4, 3] (fun iv nv wx => ∃ i k : Nat, i ≤ N ∧ k ≤ i ∧ iv = .int .i64 i ∧ nv = .int .i64 k ∧ wx = w1 ∧ Hid (k = cntU c.out i)) (fun iv _ _ => N - (intOf iv).toNat)
  case atStart => exact ⟨0, 0, Nat.zero_le _, Nat.le_refl _, rfl, rfl, rfl, Lib.hid (by simp [cntU, rWait])⟩
  case round => as_aux_lemma =>
    obtain ⟨i, k, hi, hki, rfl, rfl, rfl, HK⟩ := hrel
    by_cases hlt : i < N
    · have hm : c.out[i]? = some c.out[i] := List.getElem?_eq_getElem (by rw [← HN.out]; exact hlt)
      obtain ⟨g, off, x, hA, hg, -, -, -, -, c1, -, -⟩ := H.out.at_ hm
      have hc := cntU_succ hm
      rw [hA] at q5
      have hiN : (i : Int) < (N : Int) := by omega
      have hd : decide ((i : Int) < (N : Int)) = true := decide_eq_true hiN
      obtain ⟨dn, hdn⟩ : ∃ b, b = c.out[i].done := ⟨_, rfl⟩
      rw [← hdn] at c1 hc
      clear hm hA hdn
      cases dn with
      | true =>
        have HK2 : Hid (k = cntU c.out (i + 1)) := Lib.hid (by rw [hc, HK.out]; simp)
        clear hc
        go_wp2_with fail
        go_roundw
        case rel => exact ⟨i + 1, k, by omega, by omega, by go_num, rfl, by trivial, HK2⟩
        case measure => simp [intOf]; omega
      | false =>
        have HK2 : Hid (k + 1 = cntU c.out (i + 1)) := Lib.hid (by rw [hc, HK.out]; simp)
        clear hc
        go_wp2_with fail
        go_roundw
        case rel => exact ⟨i + 1, k + 1, by omega, by omega, by go_num, by go_num, by trivial, HK2⟩
        case measure => simp [intOf]; omega
    · obtain rfl : i = N := by omega
      have hd : decide ((i : Int) < (i : Int)) = false := decide_eq_false (by omega)
      have he : k = rWait c.out := by rw [HK.out, HN.out]; unfold cntU; rw [List.take_length]
      go_wp2_with fail
      go_ret
      exact ⟨by rw [← he]; rfl, HBL.out⟩

theorem all_take {l : List (Int × Int)} {f : Int × Int → Bool} {k : Nat} {x : Int × Int} (h : l[k]? = some x) : (l.take (k + 1)).all f = ((l.take k).all f && f x) := by
  obtain ⟨hk, he⟩ := List.getElem?_eq_some_iff.1 h
  rw [List.take_succ_eq_append_getElem hk, he, List.all_append]; simp
set_option maxRecDepth 100000 in
set_option maxHeartbeats 1000000 in
theorem rdue_any {w : World} {o : Own} {τ σ : Nat} {c : RCh} {v : RV} (h : RChIn w o τ σ c v) (hlen : c.out.length ≤ 1000000000) {n : Nat} {m : RMsg} (hm : c.out[n]? = some m) (tick : Int) (ht : 0 ≤ tick) (ht2 : tick ≤ 9223372036854775807) :
    Calls Try.prog 49 #[.agg (rcells c v), .int .i64 n, .int .i64 tick] w fun e w' => e = .returned (.bool (rDue c.out n tick)) ∧ Below w.heap.size w w' := by
  have hbx := Blk.new w 32 (rcells c v)
  have hb1 : Below w.heap.size w (w.alloc (.cells (rcells c v) 32)) := (Below.refl _ _).alloc (Nat.le_refl _) _
  have hlt := (List.getElem?_eq_some_iff.1 hm).1
  obtain ⟨g, off, x, hA, hg, -, hin, -, c0, c1, c2, c3⟩ := (h.below hb1).at_ hm
  obtain ⟨q0, q1, q2, q3, q4, q5, q6, q7, q8, q9, q10⟩ := box11 hbx
  rw [hA] at q5
  have hF := rFirst_le c.out
  have hdue : rDue c.out n tick = (!m.done && decide (n < rFirst c.out + 64) && m.ps.all fun q => decide (q.2 ≤ tick - 8)) := by unfold rDue; rw [hm]
  obtain ⟨R, hR⟩ : ∃ R, R = rDue c.out n tick := ⟨_, rfl⟩
  rw [← hR] at hdue ⊢
  obtain ⟨F, hFF⟩ : ∃ F, F = rFirst c.out := ⟨_, rfl⟩
  have hfi := fun W (hb : Below w.heap.size w W) => first_any (h.below hb)
  rw [← hFF] at hdue hF
  rw [← hFF] at hfi
  have H := Lib.hid h; have HFI := Lib.hid hfi; have HD := Lib.hid hdue; have HB1 := Lib.hid hb1; have HIN := Lib.hid hin; have HBX := Lib.hid hbx
  obtain ⟨N, hN⟩ : ∃ N, N = c.out.length := ⟨_, rfl⟩
  have HN := Lib.hid hN
  rw [← hN] at q5 hlen hlt hF
  obtain ⟨pn, hpn⟩ : ∃ k, k = m.ps.length := ⟨_, rfl⟩
  rw [← hpn] at c2 c3
  obtain ⟨bn, hbn⟩ : ∃ k, k = m.b.length := ⟨_, rfl⟩
  rw [← hbn] at c0
  have HPN := Lib.hid hpn
  obtain ⟨dn, hdn⟩ : ∃ b, b = m.done := ⟨_, rfl⟩
  rw [← hdn] at c1
  have HDN := Lib.hid hdn
  have hpn64 : pn ≤ 9223372036854775807 := by
    have h1 := hin.p.2.1; have h2 := hin.p.2.2.1
    rw [show m.m4.pks.length = pn by rw [hpn]; simp [RMsg.m4]] at h1
    unfold maxLen at h2; omega
  clear hbx hb1 h hN hm hA hin hR hdue hFF hfi hpn hbn hdn
  go_enter Try.func49, Try.ntmps49
  go_upto_region 2 with fail
  have hbx2 := (Blk.new w 32 (rcells c v)).alloc (.cells #[.slice x.bA bn x.bc, .bool dn, .slice x.pA pn x.pc, .slice x.tA pn x.tc] 107)
  have hmx := Blk.new (w.alloc (.cells (rcells c v) 32)) 107 #[.slice x.bA bn x.bc, .bool dn, .slice x.pA pn x.pc, .slice x.tA pn x.tc]
  rw [World.size_alloc] at hmx
  have hb2 := HB1.out.alloc (by rw [World.size_alloc]; omega) (.cells #[.slice x.bA bn x.bc, .bool dn, .slice x.pA pn x.pc, .slice x.tA pn x.tc] 107)
  have hb12 : Below (w.alloc (.cells (rcells c v) 32)).heap.size (w.alloc (.cells (rcells c v) 32)) ((w.alloc (.cells (rcells c v) 32)).alloc (.cells #[.slice x.bA bn x.bc, .bool dn, .slice x.pA pn x.pc, .slice x.tA pn x.tc] 107)) := (Below.refl _ _).alloc (Nat.le_refl _) _
  have htt := HIN.out.t.below hb12
  generalize (w.alloc (.cells (rcells c v) 32)).alloc (.cells #[.slice x.bA bn x.bc, .bool dn, .slice x.pA pn x.pc, .slice x.tA pn x.tc] 107) = w2 at hbx2 hmx hb2 htt ⊢
  clear hb12 q0 q1 q2 q3 q4 q5 q6 q7 q8 q9 q10 c0 c1 c2 c3 HB1 HBX
  obtain ⟨q0, q1, q2, q3, q4, q5, q6, q7, q8, q9, q10⟩ := box11 hbx2
  have m1 := hmx.cell 1; have m3 := hmx.cell 3
  simp only [List.getElem?_toArray, List.getElem?_cons_zero, List.getElem?_cons_succ] at m1 m3
  have hgm := hmx.lt
  generalize w.heap.size + 1 = gm at hmx m1 m3 hgm ⊢
  have HB2 := Lib.hid hb2; have HTT := Lib.hid htt
  clear hbx2 hmx hb2 htt
  cases dn with
  | true =>
    have hRf : R = false := by rw [HD.out, ← HDN.out]; rfl
    clear q0 q1 q2 q3 q4 q5 q6 q7 q8 q9 q10 m3
    go_wp2_with fail
    go_ret
    exact ⟨by first | (rw [hRf]; rfl) | rfl, HB2.out⟩
  | false =>
    have CF0 := HFI.out w2 HB2.out
    unfold rcells at CF0
    have CF := Lib.hid CF0
    clear CF0
    by_cases hnf : F + 64 ≤ n
    · have hd : decide ((F : Int) + 64 ≤ (n : Int)) = true := decide_eq_true (by omega)
      have hRf : R = false := by rw [HD.out, ← HDN.out, decide_eq_false (by omega)]; rfl
      go_wp2_with (go_at_call 64; refine CF.out.mono ?_; rintro e w3 ⟨rfl, hb⟩; have HB3 := Lib.hid (HB2.out.trans (hb.mono HB2.out.size)); clear hb)
      go_ret
      exact ⟨by first | (rw [hRf]; rfl) | rfl, HB3.out⟩
    · have hd : decide ((F : Int) + 64 ≤ (n : Int)) = false := decide_eq_false (by omega)
      have hRf : R = m.ps.all fun q => decide (q.2 ≤ tick - 8) := by rw [HD.out, ← HDN.out, decide_eq_true (by omega)]; rfl
      have HRF := Lib.hid hRf
      clear hRf
      go_upto_region 4 with (go_at_call 64; refine CF.out.mono ?_; rintro e w3 ⟨rfl, hb⟩; have HB23 := Lib.hid hb; have HB3 := Lib.hid (HB2.out.trans (hb.mono HB2.out.size)); clear hb)
      have m3' := (HB23.out.cell (p := ⟨gm, 3, none⟩) hgm).trans m3
      have HT3 := Lib.hid (HTT.out.below HB23.out)
      clear q0 q1 q2 q3 q4 q5 q6 q7 q8 q9 q10 m1 m3 CF HTT
      go_wp2_with fail
      go_loopw [8] (fun iv wx => ∃ i : Nat, i ≤ pn ∧ iv = .int .i64 i ∧ wx = w3 ∧ Hid ((m.ps.take i).all (fun q => decide (q.2 ≤ tick - 8)) = true)) (fun iv _ => pn - (intOf iv).toNat)
      case atStart => exact ⟨0, Nat.zero_le _, rfl, rfl, Lib.hid (by simp)⟩
      case round => as_aux_lemma =>
        obtain ⟨i, hi, rfl, rfl, HA⟩ := hrel
        by_cases hlti : i < pn
        · have hm : m.ps[i]? = some m.ps[i] := List.getElem?_eq_getElem (by rw [← HPN.out]; exact hlti)
          have hat := all_take (f := fun q => decide (q.2 ≤ tick - 8)) hm
          rw [HA.out, Bool.true_and] at hat
          obtain ⟨gt, ot, hTA, -, hgt, hct⟩ := HT3.out.2.2.2 (by rw [show m.m4.tks.length = pn by rw [HPN.out]; simp [RMsg.m4]]; omega)
          have ct := hct i (.int .i64 m.ps[i].2) (by simp [RMsg.m4, hm])
          rw [hTA] at m3'
          have hiI : (i : Int) < (pn : Int) := by omega
          have hdi : decide ((i : Int) < (pn : Int)) = true := decide_eq_true hiI
          have hw8 : IntKind.i64.wrap (tick - 8) = tick - 8 := IntWalk.i64_in _ (by omega)
          obtain ⟨y, hy⟩ : ∃ y, y = m.ps[i].2 := ⟨_, rfl⟩
          rw [← hy] at ct hat
          have HAT := Lib.hid hat
          have HM := Lib.hid hm; have HY := Lib.hid hy
          clear hct hm hTA hat hy
          by_cases hyt : y ≤ tick - 8
          · have hyd : decide (tick - 8 < y) = false := decide_eq_false (by omega)
            have HA2 : Hid ((m.ps.take (i + 1)).all (fun q => decide (q.2 ≤ tick - 8)) = true) := Lib.hid (by rw [HAT.out, decide_eq_true hyt])
            go_wp2_with fail
            go_roundw
            case rel => exact ⟨i + 1, by omega, by go_num, by trivial, HA2⟩
            case measure => simp [intOf]; omega
          · have hyd : decide (tick - 8 < y) = true := decide_eq_true (by omega)
            have hRf : R = false := by
              rw [HRF.out]
              cases hall : m.ps.all (fun q => decide (q.2 ≤ tick - 8)) with
              | false => rfl
              | true =>
                have := List.all_eq_true.1 hall _ (List.mem_of_getElem? HM.out)
                rw [← HY.out] at this
                exact absurd (of_decide_eq_true this) hyt
            go_wp2_with fail
            go_ret
            exact ⟨by first | (rw [hRf]; rfl) | rfl, HB3.out⟩
        · obtain rfl : i = pn := by omega
          have hdi : decide ((i : Int) < (i : Int)) = false := decide_eq_false (by omega)
          have hRt : R = true := by
            have := HA.out
            rw [HPN.out, List.take_length] at this
            rw [HRF.out, this]
          go_wp2_with fail
          go_ret
          exact ⟨by first | (rw [hRt]; rfl) | rfl, HB3.out⟩
end Go.Proofs.Ythjjipcbpmdfnaa

/- WALK of marchesref20.copied. -/
namespace Go.Proofs.Ythjjipcbpmdfnaa
open Go.RowKit

theorem Row.setG {w : World} {o : Own} {τ : Nat} {e : TypeId} {sz h n c k : Nat} {xs : List Value} (hR : Row w o τ e sz (some ⟨h, 0, none⟩) n c xs) (hn : 0 < n) (u : Value) : Row (w.setCell ⟨h, k, none⟩ u) o τ e sz (some ⟨h, 0, none⟩) n c (xs.set k u) := by
  have hl := hR.len
  obtain ⟨g, cur, hA, ho, hb, hnc, hm, hsz, ht⟩ := hR.form hn
  injection hA with hA; injection hA with hA; subst hA
  refine ⟨⟨by simpa using hl, .inr ⟨h, c, cur.setIfInBounds k u, rfl, Nat.zero_le _, hb.set_ k u, hnc, hm, by simpa using hsz, ?_⟩⟩, fun ad ha => by injection ha with ha; subst ha; exact ho⟩
  rw [← ht, Array.toList_setIfInBounds, List.take_set]
theorem Row.cellG {w : World} {o : Own} {τ : Nat} {e : TypeId} {sz n c : Nat} {A : Option Addr} {xs : List Value} (hR : Row w o τ e sz A n c xs) {k : Nat} {u : Value} (hk : xs[k]? = some u) (hn : 0 < n) : ∃ h, A = some ⟨h, 0, none⟩ ∧ o h = τ ∧ h < w.heap.size ∧ w.cell? ⟨h, k, none⟩ = some u ∧ w.frozen? ⟨h, k, none⟩ = false := by
  obtain ⟨g, cur, hA, ho, hb, hnc, hm, hsz, ht⟩ := hR.form hn
  refine ⟨g, hA, ho, hb.lt, ?_, hb.frozen k⟩
  rw [hb.cell]
  rw [← ht, List.getElem?_take] at hk
  split at hk
  · simpa using hk
  · cases hk
theorem Row.stored {w : World} {o : Own} {τ : Nat} {e : TypeId} {sz h n c : Nat} {xs : List Value} (hR : Row w o τ e sz (some ⟨h, 0, none⟩) n c xs) (k : Nat) (u : Value) : Step [τ] w o (w.setCell ⟨h, k, none⟩ u) o :=
  (Step.refl [τ] w o).setCell (.inr (by simp [hR.2 _ rfl])) u
theorem Row.re {w : World} {o o' : Own} {τ τ' : Nat} {e : TypeId} {sz n c : Nat} {A : Option Addr} {xs : List Value} (h : Row w o τ e sz A n c xs) (ho : ∀ k, o k = τ → o' k = τ') : Row w o' τ' e sz A n c xs := ⟨h.1, fun ad ha => ho _ (h.2 ad ha)⟩

theorem el_msg : Elem Try.prog 28 107 4 80 (.agg #[.slice none 0 0, .bool false, .slice none 0 0, .slice none 0 0]) := ⟨Try.underlying28, by kernel_rfl, rfl, by decide⟩
theorem el_bss : Elem Try.prog 29 41 1 24 (.slice none 0 0) := ⟨Try.underlying29, by kernel_rfl, rfl, by decide⟩
theorem el_bool : Elem Try.prog 30 4 1 1 (.bool false) := ⟨Try.underlying30, by kernel_rfl, rfl, by decide⟩
theorem one_msgs : ∀ (ms : List M4) (vs : List MV), ∀ u ∈ msCells ms vs, u.oneCell' = true
  | m :: ms, v :: vs, u, h => by
    simp only [msCells, List.mem_append] at h
    rcases h with h | h
    · simp only [mCells, List.mem_cons, List.not_mem_nil, or_false] at h
      rcases h with rfl | rfl | rfl | rfl <;> rfl
    · exact one_msgs ms vs u h
  | [], _, u, h => by simp [msCells] at h
  | _ :: _, [], u, h => by simp [msCells] at h
theorem one_bools (l : List (Option (List UInt8))) : ∀ u ∈ l.map (fun x => Value.bool x.isSome), u.oneCell' = true := by
  intro u hu
  obtain ⟨x, -, rfl⟩ := List.mem_map.1 hu; rfl
theorem set_same {α : Type} {l : List α} {i : Nat} {x : α} (h : l[i]? = some x) : l.set i x = l := by
  apply List.ext_getElem?
  intro j
  rw [List.getElem?_set]
  by_cases hj : i = j
  · subst hj
    rw [if_pos rfl, if_pos (List.getElem?_eq_some_iff.1 h).1, h]
  · rw [if_neg hj]
theorem MsIn.set {w : World} {o : Own} {σ : Nat} {ms : List M4} {vs : List MV} (h : MsIn w o σ ms vs) (i : Nat) {m' : M4} {v' : MV} (hi : MIn w o σ m' v') : MsIn w o σ (ms.set i m') (vs.set i v') := by
  refine ⟨by rw [List.length_set, List.length_set]; exact h.len, fun j m v hm hv => ?_⟩
  rw [List.getElem?_set] at hm hv
  by_cases hj : i = j
  · subst hj
    rw [if_pos rfl] at hm hv
    split at hm
    · injection hm with hm
      split at hv
      · injection hv with hv; subst hm; subst hv; exact hi
      · cases hv
    · cases hm
  · rw [if_neg hj] at hm hv
    exact h.el j m v hm hv

/-- A call that has boxed a Channel at b and made its result's cell at b + 1. -/
structure RS (tb tz : Nat) (w : World) (oI : Own) (W : World) (o : Own) (b : Nat) (cb cz : Array Value) : Prop where
  st : Step [tb, tz, 4] w oI W o
  bb : Blk W b 32 cb
  bz : Blk W (b + 1) 32 cz
  ob : o b = tb
  oz : o (b + 1) = tz
section
variable {tb tz : Nat} {w : World} {oI : Own} {W W' : World} {o o' : Own} {b : Nat} {cb cz : Array Value}
theorem RS.start (tb tz : Nat) (w : World) (oI : Own) (cb cz : Array Value) : RS tb tz w oI ((w.alloc (.cells cb 32)).alloc (.cells cz 32)) (ext (ext oI w.heap.size tb) (w.alloc (.cells cb 32)).heap.size tz) w.heap.size cb cz := by
  have hz := Blk.new (w.alloc (.cells cb 32)) 32 cz
  rw [World.size_alloc] at hz
  refine ⟨((Step.refl _ w oI).alloc _ tb).alloc _ tz, (Blk.new w 32 cb).alloc _, hz, ?_, ?_⟩
  · rw [ext_lt (by rw [World.size_alloc]; omega), ext_ge (Nat.le_refl _)]
  · rw [ext_ge (by rw [World.size_alloc]; omega)]
theorem RS.step (h : RS tb tz w oI W o b cb cz) {ts : List Nat} (k : Step ts W o W' o') (hs : ∀ t ∈ ts, t = 4) (h1 : tb ≠ 4) (h2 : tz ≠ 4) : RS tb tz w oI W' o' b cb cz :=
  ⟨h.st.trans (k.mono fun t ht => by rw [hs t ht]; simp), h.bb.step k (by rw [h.ob]; exact fun hm => h1 (hs _ hm)), h.bz.step k (by rw [h.oz]; exact fun hm => h2 (hs _ hm)), (k.own _ h.bb.lt).trans h.ob, (k.own _ h.bz.lt).trans h.oz⟩
theorem RS.setb (h : RS tb tz w oI W o b cb cz) (i : Nat) (u : Value) {cb' : Array Value} (hc : cb.setIfInBounds i u = cb') : RS tb tz w oI (W.setCell ⟨b, i, none⟩ u) o b cb' cz :=
  ⟨h.st.setCell (.inr (by rw [h.ob]; simp)) u, hc ▸ h.bb.set_ i u, h.bz.far (by show b + 1 ≠ b; omega) u, h.ob, h.oz⟩
theorem RS.setbStep (h : RS tb tz w oI W o b cb cz) (i : Nat) (u : Value) : Step [tb] W o (W.setCell ⟨b, i, none⟩ u) o := (Step.refl [tb] W o).setCell (.inr (by rw [h.ob]; simp)) u
end
theorem Blk.setRow {W : World} {g : Nat} {t : TypeId} {cs : Array Value} (h : Blk W g t cs) (ds : Array Value) : Blk (W.setRow g ds) g t ds := setRow_heap W g cs ds t (0, 0) h
theorem step_setRow {W : World} {o : Own} {g t : Nat} (h : o g = t) (ds : Array Value) : Step [t] W o (W.setRow g ds) o :=
  ⟨rfl, rfl, rfl, by simp, fun _ _ => rfl, fun k _ hn => setRow_other W g k ds (fun e => hn (by rw [e, h]; simp))⟩
theorem ch_row : ∃ d, Try.prog.underlying 32 = some d ∧ d.isRow = true ∧ (Try.prog.info? 32).map (·.size) = some 11 := by
  have h1 : (Try.prog.underlying 32).map (·.isRow) = some true := by kernel_rfl
  have h2 : (Try.prog.info? 32).map (·.size) = some 11 := by kernel_rfl
  cases hq : Try.prog.underlying 32 with
  | none => rw [hq] at h1; cases h1
  | some d =>
    rw [hq] at h1
    simp only [Option.map_some, Option.some.injEq] at h1
    exact ⟨d, rfl, h1, h2⟩
/-- The whole Channel is loaded. -/
theorem wpList_load_rc {ops : Array Oper} {rest : List Oper} {op : Oper} {a : Act} {w : World} {Q : Exit → Act → World → Prop} (hgd : op.guard = none) (x : Operand) (ho : op.op = .load 32 x)
    {b : Nat} {t : TypeId} {c : RCh} {v : RV} (hx : a.eval x = .pointer (some ⟨b, 0, none⟩)) (hb : Blk w b t (rcells c v))
    (h : wpList Try.prog ops Q rest (a.put op.dst (.agg (rcells c v))) w) : wpList Try.prog ops Q (op :: rest) a w := by
  obtain ⟨d, h1, h2, h3⟩ := ch_row
  exact wpList_load_mid hgd _ x ho b 0 hx (rcells c v).toList d (fun j u hu => by rw [Nat.zero_add, hb.cell]; simpa using hu) h1 h2 h3 (by simpa using h)
/-- The whole Channel is stored. -/
theorem wpList_store_rc {ops : Array Oper} {rest : List Oper} {op : Oper} {a : Act} {w : World} {Q : Exit → Act → World → Prop} (hgd : op.guard = none) (x y : Operand) (ho : op.op = .store 32 x y)
    {b : Nat} {t : TypeId} {old : Array Value} {c : RCh} {v : RV} (hx : a.eval x = .pointer (some ⟨b, 0, none⟩)) (hy : a.eval y = .agg (rcells c v)) (hb : Blk w b t old) (h11 : old.size = 11)
    (h : wpList Try.prog ops Q rest (a.put op.dst undef) (w.setRow b (rcells c v))) : wpList Try.prog ops Q (op :: rest) a w := by
  obtain ⟨d, -, -, h3⟩ := ch_row
  exact wpList_store_row hgd _ x y ho b (rcells c v) hx hy t old hb h3 h11 (by simp [rcells, Value.oneCell']) h
def zero11 : Array Value := #[.int .i64 0, .int .i64 0, .int .i64 0, .slice none 0 0, .slice none 0 0, .slice none 0 0, .slice none 0 0, .slice none 0 0, .int .i64 0, .int .i64 0, .bool false]

/-- The parts of message i of a copy: its bytes, and two rows of its own. -/
structure MRow (w : World) (o : Own) (i : Nat) (m : M4) (v : MV) : Prop where
  b : Sl w o 1 1 v.bA m.b.length v.bc (byts m.b)
  p : Row w o (100 + 2 * i) 3 1 v.pA m.pks.length v.pc (ints m.pks)
  t : Row w o (101 + 2 * i) 3 1 v.tA m.tks.length v.tc (ints m.tks)
/-- The first k messages are copied, those from l on are not. -/
structure MsX (w : World) (o : Own) (k l : Nat) (ms : List M4) (vs : List MV) : Prop where
  len : vs.length = ms.length
  new : ∀ (i : Nat) (m : M4) (v : MV), i < k → ms[i]? = some m → vs[i]? = some v → MRow w o i m v
  old : ∀ (i : Nat) (m : M4) (v : MV), l ≤ i → ms[i]? = some m → vs[i]? = some v → MIn w o 1 m v
structure BoxR (w : World) (o : Own) (box : List (Option (List UInt8))) (IA : Option Addr) (ic : Nat) (ivs : List Value) (SA : Option Addr) (sc : Nat) : Prop where
  inn : Row w o 10 41 1 IA box.length ic ivs
  som : Row w o 11 4 1 SA box.length sc (box.map fun x => .bool x.isSome)
  one : ∀ u ∈ ivs, u.oneCell' = true
  el : ∀ (i : Nat) (b : List UInt8), box[i]? = some (some b) → ∃ (xA : Option Addr) (xc : Nat), ivs[i]? = some (.slice xA b.length xc) ∧ Sl w o 1 1 xA b.length xc (byts b)
/-- A copied Channel: rows of its own. -/
structure RChR (w : World) (o : Own) (c : RCh) (v : RV) : Prop where
  pend : Sl w o 1 1 v.PA c.e.pend.length v.pc (ints c.e.pend)
  got : Sl w o 1 1 v.GA c.e.got.length v.gc (ints c.e.got)
  out : Row w o 4 107 4 v.OA c.out.length v.oc (msCells (c.out.map RMsg.m4) v.mvs)
  ms : MsX w o c.out.length c.out.length (c.out.map RMsg.m4) v.mvs
  box : BoxR w o c.box v.IA v.ic v.ivs v.SA v.sc
section
variable {w w' : World} {o o' : Own}
theorem MRow.step {i : Nat} {m : M4} {v : MV} {ts : List Nat} (h : MRow w o i m v) (hs : Step ts w o w' o') (h1 : ∀ t ∈ ts, t ≠ 1 ∧ t ≠ 100 + 2 * i ∧ t ≠ 101 + 2 * i) : MRow w' o' i m v :=
  ⟨h.b.step hs (fun hm => (h1 1 hm).1 rfl), h.p.step hs (fun hm => (h1 _ hm).2.1 rfl), h.t.step hs (fun hm => (h1 _ hm).2.2 rfl)⟩
theorem MsX.step {k l : Nat} {ms : List M4} {vs : List MV} {ts : List Nat} (h : MsX w o k l ms vs) (hs : Step ts w o w' o') (h1 : ∀ t ∈ ts, t ≠ 1 ∧ t < 100) : MsX w' o' k l ms vs :=
  ⟨h.len, fun i m v hi hm hv => (h.new i m v hi hm hv).step hs (fun t ht => by have := h1 t ht; omega), fun i m v hi hm hv => (h.old i m v hi hm hv).step hs (fun hm => (h1 1 hm).1 rfl)⟩
theorem MsX.none {ms : List M4} {vs : List MV} (h : MsIn w o 1 ms vs) : MsX w o 0 0 ms vs := ⟨h.len, fun _ _ _ hi => absurd hi (Nat.not_lt_zero _), fun i m v _ hm hv => h.el i m v hm hv⟩
theorem MsX.open_ {k : Nat} {ms : List M4} {vs : List MV} (h : MsX w o k k ms vs) : MsX w o k (k + 1) ms vs := ⟨h.len, h.new, fun i m v hi => h.old i m v (by omega)⟩
theorem MsX.set {k : Nat} {ms : List M4} {vs : List MV} (h : MsX w o k (k + 1) ms vs) (m' : M4) (v' : MV) : MsX w o k (k + 1) (ms.set k m') (vs.set k v') := by
  refine ⟨by rw [List.length_set, List.length_set]; exact h.len, fun i m v hi hm hv => ?_, fun i m v hi hm hv => ?_⟩
  · rw [List.getElem?_set_ne (by omega)] at hm hv; exact h.new i m v hi hm hv
  · rw [List.getElem?_set_ne (by omega)] at hm hv; exact h.old i m v hi hm hv
theorem MsX.close {k : Nat} {ms : List M4} {vs : List MV} (h : MsX w o k (k + 1) ms vs) {m' : M4} {v' : MV} (hi : MRow w o k m' v') : MsX w o (k + 1) (k + 1) (ms.set k m') (vs.set k v') := by
  refine ⟨by rw [List.length_set, List.length_set]; exact h.len, fun i m v hik hm hv => ?_, fun i m v hi hm hv => ?_⟩
  · by_cases hj : k = i
    · subst hj
      rw [List.getElem?_set, if_pos rfl] at hm hv
      split at hm
      · injection hm with hm
        split at hv
        · injection hv with hv; subst hm; subst hv; exact hi
        · cases hv
      · cases hm
    · rw [List.getElem?_set_ne hj] at hm hv; exact h.new i m v (by omega) hm hv
  · rw [List.getElem?_set_ne (by omega)] at hm hv; exact h.old i m v hi hm hv
theorem BoxR.step {box : List (Option (List UInt8))} {IA SA : Option Addr} {ic sc : Nat} {ivs : List Value} {ts : List Nat} (h : BoxR w o box IA ic ivs SA sc) (hs : Step ts w o w' o') (h1 : ∀ t ∈ ts, t ≠ 1 ∧ t ≠ 10 ∧ t ≠ 11) : BoxR w' o' box IA ic ivs SA sc :=
  ⟨h.inn.step hs (fun hm => (h1 _ hm).2.1 rfl), h.som.step hs (fun hm => (h1 _ hm).2.2 rfl), h.one, fun i b hb => by obtain ⟨xA, xc, q1, q2⟩ := h.el i b hb; exact ⟨xA, xc, q1, q2.step hs (fun hm => (h1 _ hm).1 rfl)⟩⟩
theorem RChR.step {c : RCh} {v : RV} {ts : List Nat} (h : RChR w o c v) (hs : Step ts w o w' o') (h1 : ∀ t ∈ ts, t ≠ 1 ∧ t ≠ 4 ∧ t ≠ 10 ∧ t ≠ 11 ∧ t < 100) : RChR w' o' c v :=
  ⟨h.pend.step hs (fun hm => (h1 1 hm).1 rfl), h.got.step hs (fun hm => (h1 1 hm).1 rfl), h.out.step hs (fun hm => (h1 4 hm).2.1 rfl), h.ms.step hs (fun t ht => ⟨(h1 t ht).1, (h1 t ht).2.2.2.2⟩), h.box.step hs (fun t ht => ⟨(h1 t ht).1, (h1 t ht).2.2.1, (h1 t ht).2.2.2.1⟩)⟩
/-- All that is above 9 becomes memory that nobody writes. -/
def calmR (o : Own) : Own := fun k => if o k ≤ 9 then o k else 1
theorem calmR_low {k t : Nat} (h : o k = t) (h4 : t ≤ 9) : calmR o k = t := by unfold calmR; rw [if_pos (by omega), h]
theorem calmR_in {k t : Nat} (h : o k = t) (h4 : 9 < t) : calmR o k = 1 := by unfold calmR; rw [if_neg (by omega)]
theorem MRow.calm {i : Nat} {m : M4} {v : MV} (h : MRow w o i m v) : MIn w (calmR o) 1 m v :=
  ⟨h.b.re (fun k _ hk => calmR_low hk (by decide)), h.p.sl.re (fun k _ hk => calmR_in hk (by omega)), h.t.sl.re (fun k _ hk => calmR_in hk (by omega))⟩
theorem MsX.calm {k l : Nat} {ms : List M4} {vs : List MV} (h : MsX w o k l ms vs) (hl : ∀ i, i < k ∨ l ≤ i ∨ ms.length ≤ i) : MsIn w (calmR o) 1 ms vs :=
  ⟨h.len, fun i m v hm hv => by
    rcases hl i with hi | hi | hi
    · exact (h.new i m v hi hm hv).calm
    · exact (h.old i m v hi hm hv).re (fun k _ hk => calmR_low hk (by decide))
    · rw [List.getElem?_eq_none hi] at hm; cases hm⟩
theorem BoxR.calm {box : List (Option (List UInt8))} {IA SA : Option Addr} {ic sc : Nat} {ivs : List Value} (h : BoxR w o box IA ic ivs SA sc) : BoxIn w (calmR o) 1 box IA ic ivs SA sc :=
  ⟨h.inn.sl.re (fun k _ hk => calmR_in hk (by omega)), h.som.sl.re (fun k _ hk => calmR_in hk (by omega)), h.one, fun i b hb => by obtain ⟨xA, xc, q1, q2⟩ := h.el i b hb; exact ⟨xA, xc, q1, q2.re (fun k _ hk => calmR_low hk (by decide))⟩⟩
theorem RChR.calm {c : RCh} {v : RV} (h : RChR w o c v) : RChIn w (calmR o) 4 1 c v :=
  ⟨h.pend.re (fun k _ hk => calmR_low hk (by decide)), h.got.re (fun k _ hk => calmR_low hk (by decide)), h.out.sl.re (fun k _ hk => calmR_low hk (by decide)), h.ms.calm (fun i => by rw [List.length_map]; omega), h.box.calm⟩
theorem Step.calmR_ {w w' : World} {o o' : Own} {ts : List Nat} (h : Step ts w o w' o') (hl : ∀ k, k < w.heap.size → o k ≤ 9) : Step ts w o w' (calmR o') :=
  ⟨h.os, h.tape, h.output, h.size, fun k hk => calmR_low (h.own k hk) (hl k hk), h.block⟩
end
/-- What copied comes to: rows of their own. -/
def CopiedR (w : World) (o : Own) (c : RCh) (e : Ending) (w' : World) : Prop := ∃ (v' : RV) (o' : Own), e = .returned (.agg (rcells c v')) ∧ Step [] w o w' o' ∧ RChR w' o' c v'
/-- What copied comes to: the row of its messages is the caller's (tag 4). -/
def CopiedTo (w : World) (o : Own) (c : RCh) (e : Ending) (w' : World) : Prop := ∃ (v' : RV) (o' : Own), e = .returned (.agg (rcells c v')) ∧ Step [] w o w' o' ∧ Row w' o' 4 107 4 v'.OA c.out.length v'.oc (msCells (c.out.map RMsg.m4) v'.mvs) ∧ RChIn w' o' 4 1 c v'

set_option maxRecDepth 100000 in
set_option maxHeartbeats 20000000 in
theorem copied_rows {w : World} {o : Own} {c : RCh} {v : RV} (h : RChIn w o 1 1 c v) (hlen : c.out.length ≤ 1000000000) (hbox : c.box.length ≤ 1000000000) (htl : ∀ m ∈ c.out, m.ps.length ≤ 1000000000) (h4 : ∀ k, k < w.heap.size → o k ≠ 4 ∧ o k ≤ 9) :
    Calls Try.prog 44 #[.agg (rcells c v)] w (CopiedR w o c) := by
  obtain ⟨P, hP⟩ : ∃ P, P = CopiedR w o c := ⟨_, rfl⟩
  rw [← hP]
  have HP := Lib.hid hP
  clear hP
  have hrs := RS.start 12 13 w o (rcells c v) zero11
  have HRS := Lib.hid hrs
  clear hrs
  obtain ⟨N, hN⟩ : ∃ N, N = c.out.length := ⟨_, rfl⟩
  obtain ⟨M, hM⟩ : ∃ M, M = c.box.length := ⟨_, rfl⟩
  have htl2 : ∀ (i : Nat) (m : M4), (c.out.map RMsg.m4)[i]? = some m → m.pks.length ≤ 1000000000 ∧ m.tks.length ≤ 1000000000 := fun i m hm => by
    obtain ⟨m0, hm0, rfl⟩ := List.mem_map.1 (List.mem_of_getElem? hm)
    have := htl m0 hm0
    simp only [RMsg.m4, List.length_map]; omega
  have HTL := Lib.hid htl2
  clear htl htl2
  have HN := Lib.hid hN; have HM := Lib.hid hM; have H := Lib.hid h; have H4 := Lib.hid h4
  rw [← hN] at hlen; rw [← hM] at hbox
  clear hN hM h h4
  go_enter Try.func44, Try.ntmps44
  go_upto_region 1 with fail
  have hrs := HRS.out
  clear HRS
  unfold zero11 at hrs
  generalize (w.alloc (.cells (rcells c v) 32)).alloc (.cells _ 32) = w1 at hrs ⊢
  generalize ext (ext o _ 12) _ 13 = o1 at hrs
  generalize w.heap.size = b at hrs ⊢
  obtain ⟨q0, q1, q2, q3, q4, q5, q6, q7, q8, q9, q10⟩ := box11 hrs.bb
  rw [← HN.out] at q5
  have hbl := hrs.bb.lt
  have H1 := Lib.hid (H.out.step hrs.st (by simp) (by simp))
  have RS1 := Lib.hid hrs
  have hrow0 := NRow.made (w := w1) (B := w1.heap.size) (Nat.le_refl _) 107 4 0 (cs := #[]) rfl (by decide) 0 (Nat.le_refl _)
  have hns0 := (NS.refl w1).alloc (.cells #[] 107)
  have hsl0 := H1.out.out.below ((Below.refl w1.heap.size w1).alloc (Nat.le_refl _) (.cells #[] 107))
  rw [← HN.out] at hsl0
  have HR0 := Lib.hid hrow0; have HS0 := Lib.hid hns0; have HL0 := Lib.hid hsl0
  clear hrs hrow0 hns0 hsl0
  go_upto_region 2 with (at_builtin; refine wpList_append_new _ rfl (.tmp 5) (.tmp 7) _ rfl el_msg HS0.out _ 0 0 _ rfl HR0.out v.OA N v.oc _ rfl HL0.out (one_msgs _ _) (by omega) (by unfold maxLen; omega) ?_; intro A1 c1 w2 hr2 hk2 _ _; have HR2 := Lib.hid hr2; have HK2 := Lib.hid hk2; clear hr2 hk2)
  have hb2 := HK2.out.fin
  have st2 := (Step.refl [] w1 o1).below hb2 4
  have RS2 := Lib.hid (RS1.out.step st2 (by simp) (by decide) (by decide))
  have H2 := Lib.hid (H1.out.step st2 (by simp) (by simp))
  have hrow := (HR2.out.re (o' := ext o1 w1.heap.size 4) (τ' := 4) (fun k hk => by
    unfold Nw ext at hk
    unfold ext
    split at hk
    · cases hk
    · rename_i hge; rw [if_neg hge]))
  rw [Nat.zero_add] at hrow
  rw [show (List.take (0 * 4) (#[] : Array Value).toList) ++ msCells (c.out.map RMsg.m4) v.mvs = msCells (c.out.map RMsg.m4) v.mvs from rfl] at hrow
  have ROW := Lib.hid hrow
  generalize ext o1 w1.heap.size 4 = o2 at RS2 H2 ROW st2
  clear hrow st2 hb2 HR2 HK2 HR0 HS0 HL0 RS1 H1 q0 q1 q2 q3 q4 q5 q6 q7 q8 q9 q10 hbl
  have HJ0 : Hid (∃ oo vs, RS 12 13 w o w2 oo b (rcells c v) zero11 ∧ Row w2 oo 4 107 4 A1 N c1 (msCells (c.out.map RMsg.m4) vs) ∧ MsX w2 oo 0 0 (c.out.map RMsg.m4) vs ∧ RChIn w2 oo 1 1 c v) := Lib.hid ⟨o2, v.mvs, RS2.out, ROW.out, .none H2.out.ms, H2.out⟩
  clear RS2 H2 ROW
  go_wp2_with fail
  go_loopw [4] (fun iv wx => ∃ i : Nat, i ≤ N ∧ iv = .int .i64 i ∧ Hid (∃ oo vs, RS 12 13 w o wx oo b (rcells c v) zero11 ∧ Row wx oo 4 107 4 A1 N c1 (msCells (c.out.map RMsg.m4) vs) ∧ MsX wx oo i i (c.out.map RMsg.m4) vs ∧ RChIn wx oo 1 1 c v)) (fun iv _ => N - (intOf iv).toNat)
  case atStart => exact ⟨0, Nat.zero_le _, rfl, HJ0⟩
  case round => as_aux_lemma =>
    clear HJ0
    obtain ⟨i, hi, rfl, HJ⟩ := hrel
    obtain ⟨oo, vs, hrs, hrow, hms, hch⟩ := HJ.out
    clear HJ
    by_cases hlt : i < N
    · have hml : i < (c.out.map RMsg.m4).length := by rw [List.length_map, ← HN.out]; exact hlt
      obtain ⟨m, hm⟩ : ∃ m, (c.out.map RMsg.m4)[i]? = some m := ⟨_, List.getElem?_eq_getElem hml⟩
      obtain ⟨x, hv⟩ : ∃ x, vs[i]? = some x := ⟨_, List.getElem?_eq_getElem (by rw [hms.len]; exact hml)⟩
      have hin := hms.old i m x (Nat.le_refl _) hm hv
      obtain ⟨h, hA, hoh, hhl, k2, f2⟩ := hrow.cellG ((msCells_at hm hv 2 (by decide)).trans rfl) (by omega)
      subst hA
      obtain ⟨pn, hpn⟩ : ∃ k, k = m.pks.length := ⟨_, rfl⟩
      rw [← hpn] at k2
      have hpl := hin.p
      rw [← hpn] at hpl
      have hiN : (i : Int) < (N : Int) := by omega
      have hi0 : (0 : Int) ≤ (i : Int) := by omega
      have hd : decide ((i : Int) < (N : Int)) = true := decide_eq_true hiN
      have hpb : pn * 8 ≤ 140737488355328 := by have := HTL.out i m hm; omega
      have HRS := Lib.hid hrs; have HROW := Lib.hid hrow; have HMS := Lib.hid hms.open_; have HCH := Lib.hid hch; have HIN := Lib.hid hin; have HPN := Lib.hid hpn; have HHM := Lib.hid hm; have HHV := Lib.hid hv
      have HR0 := Lib.hid (NRow.made (w := wr) (B := wr.heap.size) (Nat.le_refl _) 3 1 0 (cs := #[]) rfl (by decide) 0 (Nat.le_refl _))
      have HS0 := Lib.hid ((NS.refl wr).alloc (.cells #[] 3))
      have HL0 := Lib.hid (hpl.below ((Below.refl wr.heap.size wr).alloc (Nat.le_refl _) (.cells #[] 3)))
      clear hrs hrow hms hch hin hpn hm hv hpl hml hoh
      go_upto_region 6 with (at_builtin; refine wpList_append_new _ rfl (.tmp 17) (.tmp 22) _ rfl el_int HS0.out _ 0 0 _ rfl HR0.out x.pA pn x.pc _ rfl HL0.out (one_ints _) (by omega) (by unfold maxLen; omega) ?_; intro A5 c5 w5 hr5 hk5 _ _; have HR5 := Lib.hid hr5; have HK5 := Lib.hid hk5; clear hr5 hk5; obtain ⟨g5, e5, -, hl5, k5, f5⟩ := (HROW.out.step ((Step.refl [] wr oo).below HK5.out.fin 1) (by simp)).cellG ((msCells_at HHM.out HHV.out 2 (by decide)).trans rfl) (by omega); injection e5 with e5; injection e5 with e5 _; subst e5)
      have st5 := (Step.refl [] wr oo).below HK5.out.fin (100 + 2 * i)
      have hsl5 := HR5.out.tagged oo (100 + 2 * i)
      rw [Nat.zero_add] at hsl5
      rw [show (List.take (0 * 1) (#[] : Array Value).toList) ++ ints m.pks = ints m.pks from rfl] at hsl5
      have hrow5 := HROW.out.step st5 (by simp)
      have hin5 := HIN.out.step st5 (by simp)
      have stS := hrow5.stored (i * 4 + 2) (.slice A5 pn c5)
      have hrow6 := hrow5.setG (by omega) (k := i * 4 + 2) (.slice A5 pn c5)
      rw [msCells_set HHM.out HHV.out (by decide) (m' := m) (v' := { x with pA := A5, pc := c5 }) (by rw [HPN.out]; rfl), set_same HHM.out] at hrow6
      have hms6 := ((HMS.out.step st5 (by simp)).set m { x with pA := A5, pc := c5 }).step stS (by simp)
      rw [set_same HHM.out] at hms6
      have hv6 : (vs.set i { x with pA := A5, pc := c5 })[i]? = some { x with pA := A5, pc := c5 } := by rw [List.getElem?_set, if_pos rfl, if_pos (List.getElem?_eq_some_iff.1 HHV.out).1]
      have hrs6 := (HRS.out.step st5 (by simp) (by decide) (by decide)).step stS (by simp) (by decide) (by decide)
      have hch6 := (HCH.out.step st5 (by simp) (by simp)).step stS (by simp) (by simp)
      have hin7 := hin5.step stS (by simp)
      have hrp6 := hsl5.step stS (by simp; omega)
      have hm := HHM.out
      obtain ⟨x6, hx6⟩ : ∃ x6 : MV, x6 = { x with pA := A5, pc := c5 } := ⟨_, rfl⟩
      have hb7 := hin7.b
      have ht7 := hin7.t
      rw [show x.bA = x6.bA by rw [hx6], show x.bc = x6.bc by rw [hx6]] at hb7
      rw [show x.tA = x6.tA by rw [hx6], show x.tc = x6.tc by rw [hx6]] at ht7
      have hrp7 : Row (w5.setCell ⟨h, i * 4 + 2, none⟩ (.slice A5 pn c5)) (ext oo wr.heap.size (100 + 2 * i)) (100 + 2 * i) 3 1 x6.pA m.pks.length x6.pc (ints m.pks) := by
        rw [hx6, ← HPN.out]; exact hrp6
      rw [← hx6] at hv6 hrow6 hms6
      clear HRS HROW HMS HCH HIN HR0 HS0 HL0 HR5 HK5 HPN hpb st5 hsl5 hrow5 hin5 hin7 hrp6 stS hx6 k2 f2 k5 f5 hhl hl5
      obtain ⟨W6, hW6⟩ : ∃ W6, W6 = w5.setCell ⟨h, i * 4 + 2, none⟩ (.slice A5 pn c5) := ⟨_, rfl⟩
      rw [← hW6] at hrow6 hms6 hrs6 hch6 hb7 ht7 hrp7 ⊢
      generalize ext oo wr.heap.size (100 + 2 * i) = o6 at hrow6 hms6 hrs6 hch6 hb7 ht7 hrp7
      generalize vs.set i x6 = vs6 at hrow6 hms6 hv6
      clear hW6
      obtain ⟨h6, hA6, -, hhl, k3, f3⟩ := hrow6.cellG ((msCells_at hm hv6 3 (by decide)).trans rfl) (by omega)
      injection hA6 with hA6; injection hA6 with hA6 _; subst hA6
      obtain ⟨tn, htn⟩ : ∃ k, k = m.tks.length := ⟨_, rfl⟩
      rw [← htn] at k3
      have htl := ht7
      rw [← htn] at htl
      have htb : tn * 8 ≤ 140737488355328 := by have := HTL.out i m hm; omega
      have HRS := Lib.hid hrs6; have HROW := Lib.hid hrow6; have HMS := Lib.hid hms6; have HCH := Lib.hid hch6; have HB7 := Lib.hid hb7; have HRP := Lib.hid hrp7; have HTN := Lib.hid htn; have HHV := Lib.hid hv6
      have HR0 := Lib.hid (NRow.made (w := W6) (B := W6.heap.size) (Nat.le_refl _) 3 1 0 (cs := #[]) rfl (by decide) 0 (Nat.le_refl _))
      have HS0 := Lib.hid ((NS.refl W6).alloc (.cells #[] 3))
      have HL0 := Lib.hid (htl.below ((Below.refl W6.heap.size W6).alloc (Nat.le_refl _) (.cells #[] 3)))
      clear hrs6 hrow6 hms6 hch6 hb7 ht7 hrp7 htn hv6 htl hm
      go_upto_region 4 with (at_builtin; refine wpList_append_new _ rfl (.tmp 28) (.tmp 33) _ rfl el_int HS0.out _ 0 0 _ rfl HR0.out x6.tA tn x6.tc _ rfl HL0.out (one_ints _) (by omega) (by unfold maxLen; omega) ?_; intro A7 c7 w7 hr7 hk7 _ _; have HR7 := Lib.hid hr7; have HK7 := Lib.hid hk7; clear hr7 hk7; obtain ⟨g7, e7, -, hl7, k7, f7⟩ := (HROW.out.step ((Step.refl [] W6 o6).below HK7.out.fin 1) (by simp)).cellG ((msCells_at HHM.out HHV.out 3 (by decide)).trans rfl) (by omega); injection e7 with e7; injection e7 with e7 _; subst e7)
      have st7 := (Step.refl [] W6 o6).below HK7.out.fin (101 + 2 * i)
      have hsl7 := HR7.out.tagged o6 (101 + 2 * i)
      rw [Nat.zero_add] at hsl7
      rw [show (List.take (0 * 1) (#[] : Array Value).toList) ++ ints m.tks = ints m.tks from rfl] at hsl7
      have hrow7 := HROW.out.step st7 (by simp)
      have hb8 := HB7.out.step st7 (by simp)
      have hrp8 := HRP.out.step st7 (by simp)
      have stS := hrow7.stored (i * 4 + 3) (.slice A7 tn c7)
      have hrow8 := hrow7.setG (by omega) (k := i * 4 + 3) (.slice A7 tn c7)
      rw [msCells_set HHM.out HHV.out (by decide) (m' := m) (v' := { x6 with tA := A7, tc := c7 }) (by rw [HTN.out]; rfl), set_same HHM.out] at hrow8
      have hin8 : MRow _ _ i m { x6 with tA := A7, tc := c7 } := ⟨hb8.step stS (by simp), hrp8.step stS (by simp; omega), by rw [← HTN.out]; exact hsl7.step stS (by simp; omega)⟩
      have hms8 := ((HMS.out.step st7 (by simp)).step stS (by simp)).close hin8
      rw [set_same HHM.out] at hms8
      have hrs8 := (HRS.out.step st7 (by simp) (by decide) (by decide)).step stS (by simp) (by decide) (by decide)
      have hch8 := (HCH.out.step st7 (by simp) (by simp)).step stS (by simp) (by simp)
      have HJ2 : Hid (∃ oo vs, RS 12 13 w o (w7.setCell ⟨h, i * 4 + 3, none⟩ (.slice A7 tn c7)) oo b (rcells c v) zero11 ∧ Row (w7.setCell ⟨h, i * 4 + 3, none⟩ (.slice A7 tn c7)) oo 4 107 4 (some ⟨h, 0, none⟩) N c1 (msCells (c.out.map RMsg.m4) vs) ∧ MsX (w7.setCell ⟨h, i * 4 + 3, none⟩ (.slice A7 tn c7)) oo (i + 1) (i + 1) (c.out.map RMsg.m4) vs ∧ RChIn (w7.setCell ⟨h, i * 4 + 3, none⟩ (.slice A7 tn c7)) oo 1 1 c v) := Lib.hid ⟨_, _, hrs8, hrow8, hms8, hch8⟩
      clear HRS HROW HMS HCH HB7 HRP HHV HR0 HS0 HL0 HR7 HK7 HTN htb st7 hsl7 hrow7 hb8 hrp8 stS hin8 hms8 hrs8 hch8 hrow8 k3 f3 k7 f7 hhl hl7
      go_wp2_with fail
      go_roundw
      case rel => exact ⟨i + 1, by omega, by go_num, HJ2⟩
      case measure => simp [intOf]; omega
    · obtain rfl : i = N := by omega
      have hd : decide ((i : Int) < (i : Int)) = false := decide_eq_false (by omega)
      obtain ⟨q0, q1, q2, q3, q4, q5, q6, q7, q8, q9, q10⟩ := box11 hrs.bb
      have f5 := hrs.bb.frozen 5
      have HRS := Lib.hid hrs; have HROW := Lib.hid hrow; have HMS := Lib.hid hms; have HCH := Lib.hid hch
      clear hrs hrow hms hch
      go_upto_region 8 with fail
      have hrs2 := HRS.out.setb 5 (.slice A1 i c1) (cb' := rcells c { v with OA := A1, oc := c1 }) (by rw [HN.out]; rfl)
      have st2 := HRS.out.setbStep 5 (.slice A1 i c1)
      have hrow2 := HROW.out.step st2 (by simp)
      have hms2 := HMS.out.step st2 (by simp)
      have hch2 := HCH.out.step st2 (by simp) (by simp)
      clear HRS HROW HMS HCH q0 q1 q2 q3 q4 q5 q6 q7 q8 q9 q10 f5 st2
      obtain ⟨W2, hW2⟩ : ∃ W2, W2 = wr.setCell ⟨b, 5, none⟩ (.slice A1 i c1) := ⟨_, rfl⟩
      rw [← hW2] at hrs2 hrow2 hms2 hch2 ⊢
      clear hW2
      obtain ⟨q0, q1, q2, q3, q4, q5, q6, q7, q8, q9, q10⟩ := box11 hrs2.bb
      have fz := hrs2.bb.frozen 6
      have hbl := hrs2.bb.lt
      rw [← HM.out] at q6
      have HRS := Lib.hid hrs2; have HROW := Lib.hid hrow2; have HMS := Lib.hid hms2; have HCH := Lib.hid hch2
      have HR0 := Lib.hid (NRow.made (w := W2) (B := W2.heap.size) (Nat.le_refl _) 41 1 0 (cs := #[]) rfl (by decide) 0 (Nat.le_refl _))
      have HS0 := Lib.hid ((NS.refl W2).alloc (.cells #[] 41))
      have hl0 := hch2.box.inn.below ((Below.refl W2.heap.size W2).alloc (Nat.le_refl _) (.cells #[] 41))
      rw [← HM.out] at hl0
      have HL0 := Lib.hid hl0
      clear hrs2 hrow2 hms2 hch2 hl0
      go_upto_region 9 with (at_builtin; refine wpList_append_new _ rfl (.tmp 39) (.tmp 41) _ rfl el_bss HS0.out _ 0 0 _ rfl HR0.out v.IA M v.ic _ rfl HL0.out HCH.out.box.one (by omega) (by unfold maxLen; omega) ?_; intro A8 c8 w8 hr8 hk8 _ _; have HR8 := Lib.hid hr8; have HK8 := Lib.hid hk8; clear hr8 hk8; obtain ⟨q0, q1, q2, q3, q4, q5, q6, q7, q8, q9, q10⟩ := box11 (HRS.out.step ((Step.refl [] W2 oo).below HK8.out.fin 1) (by simp) (by decide) (by decide)).bb; have fz := (HRS.out.step ((Step.refl [] W2 oo).below HK8.out.fin 1) (by simp) (by decide) (by decide)).bb.frozen 6; have hbl := (HRS.out.step ((Step.refl [] W2 oo).below HK8.out.fin 1) (by simp) (by decide) (by decide)).bb.lt)
      have st8 := (Step.refl [] W2 oo).below HK8.out.fin 10
      have hsl8 := HR8.out.tagged oo 10
      rw [Nat.zero_add] at hsl8
      rw [show (List.take (0 * 1) (#[] : Array Value).toList) ++ v.ivs = v.ivs from rfl] at hsl8
      have hrsA := HRS.out.step st8 (by simp) (by decide) (by decide)
      have stS := hrsA.setbStep 6 (.slice A8 M c8)
      have hrs3 := hrsA.setb 6 (.slice A8 M c8) (cb' := rcells c { v with OA := A1, oc := c1, IA := A8, ic := c8 }) (by rw [HM.out]; rfl)
      have hrow3 := (HROW.out.step st8 (by simp)).step stS (by simp)
      have hms3 := (HMS.out.step st8 (by simp)).step stS (by simp)
      have hch3 := (HCH.out.step st8 (by simp) (by simp)).step stS (by simp) (by simp)
      have hsl8 := hsl8.step stS (by simp)
      clear HRS HROW HMS HCH HR0 HS0 HL0 HR8 HK8 hrsA q0 q1 q2 q3 q4 q5 q6 q7 q8 q9 q10 fz hbl 
      obtain ⟨W3, hWn⟩ : ∃ W, W = w8.setCell ⟨b, 6, none⟩ (.slice A8 M c8) := ⟨_, rfl⟩
      rw [← hWn] at hrs3 hrow3 hms3 hch3 hsl8 ⊢
      generalize ext oo W2.heap.size 10 = oo at hrs3 hrow3 hms3 hch3 hsl8
      clear hWn st8 stS
      obtain ⟨q0, q1, q2, q3, q4, q5, q6, q7, q8, q9, q10⟩ := box11 hrs3.bb
      have fz := hrs3.bb.frozen 7
      have hbl := hrs3.bb.lt
      rw [← HM.out] at q7
      have HRS := Lib.hid hrs3; have HROW := Lib.hid hrow3; have HMS := Lib.hid hms3; have HCH := Lib.hid hch3; have HSL8 := Lib.hid hsl8
      have HR0 := Lib.hid (NRow.made (w := W3) (B := W3.heap.size) (Nat.le_refl _) 4 1 0 (cs := #[]) rfl (by decide) 0 (Nat.le_refl _))
      have HS0 := Lib.hid ((NS.refl W3).alloc (.cells #[] 4))
      have hl0 := hch3.box.som.below ((Below.refl W3.heap.size W3).alloc (Nat.le_refl _) (.cells #[] 4))
      rw [← HM.out] at hl0
      have HL0 := Lib.hid hl0
      clear hrs3 hrow3 hms3 hch3 hl0 hsl8
      go_upto_region 10 with (at_builtin; refine wpList_append_new _ rfl (.tmp 44) (.tmp 46) _ rfl el_bool HS0.out _ 0 0 _ rfl HR0.out v.SA M v.sc _ rfl HL0.out (one_bools _) (by omega) (by unfold maxLen; omega) ?_; intro A9 c9 w9 hr9 hk9 _ _; have HR9 := Lib.hid hr9; have HK9 := Lib.hid hk9; clear hr9 hk9; obtain ⟨q0, q1, q2, q3, q4, q5, q6, q7, q8, q9, q10⟩ := box11 (HRS.out.step ((Step.refl [] W3 oo).below HK9.out.fin 1) (by simp) (by decide) (by decide)).bb; have fz := (HRS.out.step ((Step.refl [] W3 oo).below HK9.out.fin 1) (by simp) (by decide) (by decide)).bb.frozen 7; have hbl := (HRS.out.step ((Step.refl [] W3 oo).below HK9.out.fin 1) (by simp) (by decide) (by decide)).bb.lt)
      have st9 := (Step.refl [] W3 oo).below HK9.out.fin 11
      have hsl9 := HR9.out.tagged oo 11
      rw [Nat.zero_add] at hsl9
      rw [show (List.take (0 * 1) (#[] : Array Value).toList) ++ (c.box.map fun x => Value.bool x.isSome) = (c.box.map fun x => Value.bool x.isSome) from rfl] at hsl9
      have hrsA := HRS.out.step st9 (by simp) (by decide) (by decide)
      have stS := hrsA.setbStep 7 (.slice A9 M c9)
      have hrs4 := hrsA.setb 7 (.slice A9 M c9) (cb' := rcells c { v with OA := A1, oc := c1, IA := A8, ic := c8, SA := A9, sc := c9 }) (by rw [HM.out]; rfl)
      have hrow4 := (HROW.out.step st9 (by simp)).step stS (by simp)
      have hms4 := (HMS.out.step st9 (by simp)).step stS (by simp)
      have hch4 := (HCH.out.step st9 (by simp) (by simp)).step stS (by simp) (by simp)
      have hsl9 := hsl9.step stS (by simp)
      have hsl8 := (HSL8.out.step st9 (by simp)).step stS (by simp)
      clear HRS HROW HMS HCH HR0 HS0 HL0 HR9 HK9 hrsA q0 q1 q2 q3 q4 q5 q6 q7 q8 q9 q10 fz hbl HSL8
      obtain ⟨W4, hWn⟩ : ∃ W, W = w9.setCell ⟨b, 7, none⟩ (.slice A9 M c9) := ⟨_, rfl⟩
      rw [← hWn] at hrs4 hrow4 hms4 hch4 hsl9 hsl8 ⊢
      generalize ext oo W3.heap.size 11 = oo at hrs4 hrow4 hms4 hch4 hsl9 hsl8
      clear hWn st9 stS
      have hbox : BoxR W4 oo c.box A8 c8 v.ivs A9 c9 := ⟨by rw [← HM.out]; exact hsl8, by rw [← HM.out]; exact hsl9, hch4.box.one, hch4.box.el⟩
      have hfin : RChR W4 oo c { v with OA := A1, oc := c1, mvs := vs, IA := A8, ic := c8, SA := A9, sc := c9 } := ⟨hch4.pend, hch4.got, by rw [← HN.out]; exact hrow4, by rw [← HN.out]; exact hms4, hbox⟩
      have HRS := Lib.hid hrs4; have HROW := Lib.hid hrow4; have HFIN := Lib.hid hfin
      clear hrs4 hrow4 hfin hms4 hch4 hbox hsl8 hsl9
      go_wp2_with (first | (refine wpList_load_rc rfl (.tmp 1) rfl rfl HRS.out.bb ?_) | (refine wpList_store_rc rfl (.tmp 2) (.tmp 49) rfl rfl rfl HRS.out.bz rfl ?_))
      have hz := HRS.out.bz.setRow (rcells c { v with OA := A1, oc := c1, IA := A8, ic := c8, SA := A9, sc := c9 })
      have stz := step_setRow (W := W4) HRS.out.oz (rcells c { v with OA := A1, oc := c1, IA := A8, ic := c8, SA := A9, sc := c9 })
      generalize W4.setRow (b + 1) (rcells c { v with OA := A1, oc := c1, IA := A8, ic := c8, SA := A9, sc := c9 }) = W9 at hz stz ⊢
      have hz2 : Blk W9 (b + 1) 32 (rcells c { v with OA := A1, oc := c1, mvs := vs, IA := A8, ic := c8, SA := A9, sc := c9 }) := hz
      obtain ⟨r0, r1, r2, r3, r4, r5, r6, r7, r8, r9, r10⟩ := box11 hz2
      refine bodyPost_ret (v := .agg (rcells c { v with OA := A1, oc := c1, mvs := vs, IA := A8, ic := c8, SA := A9, sc := c9 })) (by simp [results, Try.results44, go_sem, r0, r1, r2, r3, r4, r5, r6, r7, r8, r9, r10, rcells]) rfl ?_
      rw [HP.out]
      refine ⟨{ v with OA := A1, oc := c1, mvs := vs, IA := A8, ic := c8, SA := A9, sc := c9 }, oo, rfl, ((HRS.out.st.mono (by simp)).trans (stz.mono (ts' := [12, 13, 4]) (by simp))).forget (fun t ht _ k hk => ?_), HFIN.out.step stz (by simp)⟩
      have := H4.out k hk
      simp at ht
      omega
theorem copied_any {w : World} {o : Own} {c : RCh} {v : RV} (h : RChIn w o 1 1 c v) (hlen : c.out.length ≤ 1000000000) (hbox : c.box.length ≤ 1000000000) (htl : ∀ m ∈ c.out, m.ps.length ≤ 1000000000) (h4 : ∀ k, k < w.heap.size → o k ≠ 4 ∧ o k ≤ 9) :
    Calls Try.prog 44 #[.agg (rcells c v)] w (CopiedTo w o c) := by
  refine (copied_rows h hlen hbox htl h4).mono ?_
  rintro e w' ⟨v', o', rfl, st, hr⟩
  exact ⟨v', calmR o', rfl, st.calmR_ (fun k hk => (h4 k hk).2), hr.out.re (fun k hk => calmR_low hk (by decide)), hr.calm⟩
end Go.Proofs.Ythjjipcbpmdfnaa

/- WALK of marchesref20.decided. -/
namespace Go.Proofs.Ythjjipcbpmdfnaa
open Go.RowKit

def midL (q : Int × Bool) (L : List RMsg) (n : Nat) : List RMsg := (L.take n).map (rDec1 q) ++ L.drop n
theorem midL_zero (q : Int × Bool) (L : List RMsg) : midL q L 0 = L := by simp [midL]
theorem midL_all (q : Int × Bool) (L : List RMsg) : midL q L L.length = rDecR L q := by simp [midL, rDecR]
theorem midL_len (q : Int × Bool) (L : List RMsg) (n : Nat) : (midL q L n).length = L.length := by simp [midL]; omega
theorem midL_at {q : Int × Bool} {L : List RMsg} {n : Nat} {m : RMsg} (h : L[n]? = some m) : (midL q L n)[n]? = some m := by
  have hn := (List.getElem?_eq_some_iff.1 h).1
  unfold midL
  rw [List.getElem?_append_right (by simp; omega), List.getElem?_drop]
  simp only [List.length_map, List.length_take]
  rw [show n + (n - min n L.length) = n by omega]; exact h
theorem midL_next {q : Int × Bool} {L : List RMsg} {n : Nat} {m : RMsg} (h : L[n]? = some m) : midL q L (n + 1) = (midL q L n).set n (rDec1 q m) := by
  obtain ⟨hn, he⟩ := List.getElem?_eq_some_iff.1 h
  unfold midL
  rw [List.take_succ_eq_append_getElem hn, he, List.map_append, List.append_assoc, List.set_append_right _ _ (by simp; omega)]
  congr 1
  have hd := List.drop_eq_getElem_cons hn
  rw [he] at hd
  simp [hd, Nat.min_eq_left (Nat.le_of_lt hn)]
theorem rDec_snoc {l : List RMsg} {rs : List (Int × Bool)} {r : Nat} {q : Int × Bool} (h : rs[r]? = some q) : rDec l (rs.take (r + 1)) = rDecR (rDec l (rs.take r)) q := by
  obtain ⟨hn, he⟩ := List.getElem?_eq_some_iff.1 h
  unfold rDec
  rw [List.take_succ_eq_append_getElem hn, he, List.foldl_append]; rfl

theorem rdec_ps {B : Nat} : ∀ (rs : List (Int × Bool)) {l : List RMsg}, (∀ m ∈ l, m.ps.length ≤ B) → ∀ m ∈ rDec l rs, m.ps.length ≤ B
  | [], _, h => h
  | r :: rs, l, h => by
    show ∀ m ∈ rDec (rDecR l r) rs, m.ps.length ≤ B
    refine rdec_ps rs fun m hm => ?_
    obtain ⟨m0, hm0, rfl⟩ := List.mem_map.1 hm
    exact Nat.le_trans (List.length_filter_le _ _) (h m0 hm0)
def keepP (num : Int) (ps : List (Int × Int)) : List (Int × Int) := ps.filter fun q => q.1 != num
def hitP (num : Int) (ps : List (Int × Int)) : Bool := ps.any fun q => q.1 == num
theorem keepP_succ {num : Int} {ps : List (Int × Int)} {i : Nat} {x : Int × Int} (h : ps[i]? = some x) : keepP num (ps.take (i + 1)) = keepP num (ps.take i) ++ if x.1 != num then [x] else [] := by
  obtain ⟨hk, he⟩ := List.getElem?_eq_some_iff.1 h
  unfold keepP
  rw [List.take_succ_eq_append_getElem hk, he, List.filter_append]
  cases hx : (x.1 != num) <;> simp [hx]
theorem hitP_succ {num : Int} {ps : List (Int × Int)} {i : Nat} {x : Int × Int} (h : ps[i]? = some x) : hitP num (ps.take (i + 1)) = (hitP num (ps.take i) || (x.1 == num)) := by
  obtain ⟨hk, he⟩ := List.getElem?_eq_some_iff.1 h
  unfold hitP
  rw [List.take_succ_eq_append_getElem hk, he, List.any_append]
  simp
/-- A message of which i packets were looked at. -/
def midM (num : Int) (ack : Bool) (m : RMsg) (i : Nat) : M4 := ⟨m.b, m.done || (ack && hitP num (m.ps.take i)), m.ps.map Prod.fst, m.ps.map Prod.snd⟩
theorem midM_zero (num : Int) (ack : Bool) (m : RMsg) : midM num ack m 0 = m.m4 := by simp [midM, hitP, RMsg.m4]

section
variable {tb tz : Nat} {w : World} {oI : Own} {W W' : World} {o o' : Own} {b : Nat} {cb cz : Array Value}
theorem RS.stepN (h : RS tb tz w oI W o b cb cz) {ts : List Nat} (k : Step ts W o W' o') (hs : ∀ t ∈ ts, (t = 4 ∨ ∀ j, j < w.heap.size → oI j ≠ t) ∧ t ≠ tb ∧ t ≠ tz) : RS tb tz w oI W' o' b cb cz := by
  refine ⟨⟨k.os.trans h.st.os, k.tape.trans h.st.tape, k.output.trans h.st.output, Nat.le_trans h.st.size k.size, fun i hi => (k.own i (Nat.lt_of_lt_of_le hi h.st.size)).trans (h.st.own i hi), fun i hi hn => ?_⟩, h.bb.step k (by rw [h.ob]; exact fun hm => (hs _ hm).2.1 rfl), h.bz.step k (by rw [h.oz]; exact fun hm => (hs _ hm).2.2 rfl), (k.own _ h.bb.lt).trans h.ob, (k.own _ h.bz.lt).trans h.oz⟩
  refine (k.block i (Nat.lt_of_lt_of_le hi h.st.size) (fun hm => ?_)).trans (h.st.block i hi hn)
  rw [h.st.own i hi] at hm
  rcases (hs _ hm).1 with e | e
  · exact hn (by rw [e]; simp)
  · exact e i hi rfl
theorem RS.reown (h : RS tb tz w oI W o b cb cz) (h1 : ∀ k, k < w.heap.size → o' k = o k) (h2 : o' b = tb) (h3 : o' (b + 1) = tz) : RS tb tz w oI W o' b cb cz :=
  ⟨⟨h.st.os, h.st.tape, h.st.output, h.st.size, fun i hi => (h1 i hi).trans (h.st.own i hi), h.st.block⟩, h.bb, h.bz, h2, h3⟩
end
/-- The rows 5 and 6 become memory that nobody writes. -/
def calm56 (o : Own) : Own := fun k => if o k = 5 ∨ o k = 6 then 1 else o k
theorem calm56_ne {o : Own} {k t : Nat} (h : o k = t) (h5 : t ≠ 5) (h6 : t ≠ 6) : calm56 o k = t := by
  unfold calm56; rw [if_neg (by rw [h]; omega), h]
theorem calm56_in {o : Own} {k : Nat} (h : o k = 5 ∨ o k = 6) : calm56 o k = 1 := by
  unfold calm56; rw [if_pos h]

/-- The state of decided between its statements. -/
structure DS (w : World) (oI : Own) (wr : World) (oo : Own) (b : Nat) (cb : Array Value) (A : Option Addr) (N c : Nat) (L : List M4) (vs : List MV) (RA : Option Addr) (rn rc : Nat) (rs : List (Int × Bool)) : Prop where
  rz : RS 22 23 w oI wr oo b cb zero11
  row : Row wr oo 4 107 4 A N c (msCells L vs)
  ms : MsIn wr oo 1 L vs
  rep : Sl wr oo 1 2 RA rn rc (reps rs)
theorem DS.stepN {w : World} {oI : Own} {wr wr' : World} {oo oo' : Own} {b : Nat} {cb : Array Value} {A : Option Addr} {N c : Nat} {L : List M4} {vs : List MV} {RA : Option Addr} {rn rc : Nat} {rs : List (Int × Bool)} (h : DS w oI wr oo b cb A N c L vs RA rn rc rs)
    (h4 : ∀ k, k < w.heap.size → oI k ≠ 5 ∧ oI k ≠ 6 ∧ oI k ≠ 7) {ts : List Nat} (k : Step ts wr oo wr' oo') (hs : ∀ t ∈ ts, t = 5 ∨ t = 6 ∨ t = 7) : DS w oI wr' oo' b cb A N c L vs RA rn rc rs := by
  have n4 : 4 ∉ ts := fun hm => by have := hs _ hm; omega
  have n1 : 1 ∉ ts := fun hm => by have := hs _ hm; omega
  refine ⟨h.rz.stepN k fun t ht => ⟨.inr fun j hj => ?_, ?_, ?_⟩, h.row.step k n4, h.ms.step k n1, h.rep.step k n1⟩
  · have := h4 j hj
    rcases hs t ht with e | e | e <;> rw [e]
    · exact this.1
    · exact this.2.1
    · exact this.2.2
  · have := hs t ht; omega
  · have := hs t ht; omega

/-- What the walk reads of a message and a report. -/
theorem DS.facts {w : World} {oI : Own} {wr : World} {oo : Own} {b : Nat} {cb : Array Value} {A : Option Addr} {N c : Nat} {L : List M4} {vs : List MV} {RA : Option Addr} {rn rc : Nat} {rs : List (Int × Bool)} (h : DS w oI wr oo b cb A N c L vs RA rn rc rs)
    {n : Nat} (hn : n < N) {m : M4} (hm : L[n]? = some m) {x : MV} (hv : vs[n]? = some x) :
    ∃ g, A = some ⟨g, 0, none⟩ ∧ oo g = 4 ∧ g < wr.heap.size ∧ wr.cell? ⟨g, n * 4 + 1, none⟩ = some (.bool m.done) ∧ wr.cell? ⟨g, n * 4 + 2, none⟩ = some (.slice x.pA m.pks.length x.pc) ∧ wr.cell? ⟨g, n * 4 + 3, none⟩ = some (.slice x.tA m.tks.length x.tc) ∧
      wr.frozen? ⟨g, n * 4 + 1, none⟩ = false ∧ wr.frozen? ⟨g, n * 4 + 2, none⟩ = false ∧ wr.frozen? ⟨g, n * 4 + 3, none⟩ = false := by
  obtain ⟨g, hA, ho, hl, k1, f1⟩ := h.row.cellG ((msCells_at hm hv 1 (by decide)).trans rfl) (by omega)
  obtain ⟨g2, hA2, -, -, k2, f2⟩ := h.row.cellG ((msCells_at hm hv 2 (by decide)).trans rfl) (by omega)
  obtain ⟨g3, hA3, -, -, k3, f3⟩ := h.row.cellG ((msCells_at hm hv 3 (by decide)).trans rfl) (by omega)
  rw [hA] at hA2 hA3
  injection hA2 with hA2; injection hA2 with hA2 _; subst hA2
  injection hA3 with hA3; injection hA3 with hA3 _; subst hA3
  exact ⟨g, hA, ho, hl, k1, k2, k3, f1, f2, f3⟩
theorem Sl.intAt {w : World} {o : Own} {τ n c : Nat} {A : Option Addr} {l : List Int} (h : Sl w o τ 1 A n c (ints l)) {i : Nat} {y : Int} (hy : l[i]? = some y) (hi : i < n) : ∃ g off, A = some ⟨g, off, none⟩ ∧ g < w.heap.size ∧ w.cell? ⟨g, off + i, none⟩ = some (.int .i64 y) := by
  obtain ⟨g, off, hA, -, hg, hc⟩ := h.2.2.2 (by omega)
  exact ⟨g, off, hA, hg, hc i _ (by simp [ints, hy])⟩

/-- What decided comes to: the Channel's own cells are the same; its messages have changed in place. -/
def DecidedTo (w : World) (o : Own) (c : RCh) (v : RV) (rs : List (Int × Bool)) (e : Ending) (w' : World) : Prop := ∃ (vs : List MV) (o' : Own), e = .returned (.agg (rcells c v)) ∧ Step [4] w o w' o' ∧ Row w' o' 4 107 4 v.OA c.out.length v.oc (msCells ((rDec c.out rs).map RMsg.m4) vs) ∧ MsIn w' o' 1 ((rDec c.out rs).map RMsg.m4) vs

set_option maxRecDepth 100000 in
set_option maxHeartbeats 20000000 in
theorem decided_any {w : World} {o : Own} {c : RCh} {v : RV} (hrow : Row w o 4 107 4 v.OA c.out.length v.oc (msCells (c.out.map RMsg.m4) v.mvs)) (hms : MsIn w o 1 (c.out.map RMsg.m4) v.mvs) (hlen : c.out.length ≤ 1000000000) (htl : ∀ m ∈ c.out, m.ps.length ≤ 1000000000)
    {RA : Option Addr} {rn rc : Nat} {rs : List (Int × Bool)} (hR : Sl w o 1 2 RA rn rc (reps rs)) (h4 : ∀ k, k < w.heap.size → o k ≠ 22 ∧ o k ≠ 23 ∧ o k ≠ 5 ∧ o k ≠ 6 ∧ o k ≠ 7) :
    Calls Try.prog 51 #[.agg (rcells c v), .slice RA rn rc] w (DecidedTo w o c v rs) := by
  obtain ⟨P, hP⟩ : ∃ P, P = DecidedTo w o c v rs := ⟨_, rfl⟩
  rw [← hP]
  have HP := Lib.hid hP
  clear hP
  have hrs := RS.start 22 23 w o (rcells c v) zero11
  have stI := ((Step.refl [] w o).alloc (.cells (rcells c v) 32) 22).alloc (.cells zero11 32) 23
  have hds : DS w o _ _ w.heap.size (rcells c v) v.OA c.out.length v.oc ((rDec c.out (rs.take 0)).map RMsg.m4) v.mvs RA rn rc rs := ⟨hrs, hrow.step stI (by simp), hms.step stI (by simp), hR.step stI (by simp)⟩
  have hrl : rs.length = rn := by have := hR.1; rw [len_reps] at this; omega
  have hrb : rn ≤ 9223372036854775807 := by have h1 := hR.2.1; have h2 := hR.2.2.1; unfold maxLen at h2; omega
  obtain ⟨N, hN⟩ : ∃ N, N = c.out.length := ⟨_, rfl⟩
  rw [← hN] at hlen
  rw [← hN] at hds
  have H5 := Lib.hid (fun k (hk : k < w.heap.size) => And.intro (h4 k hk).2.2.1 (And.intro (h4 k hk).2.2.2.1 (h4 k hk).2.2.2.2))
  have HDS := Lib.hid hds; have HN := Lib.hid hN; have H4 := Lib.hid h4; have HTL := Lib.hid htl; have HRL := Lib.hid hrl
  clear hrs stI hds hN h4 htl hrow hms hR hrl
  go_enter Try.func51, Try.ntmps51
  go_upto_region 1 with fail
  have hds := HDS.out
  clear HDS
  unfold zero11 at hds
  generalize (w.alloc (.cells (rcells c v) 32)).alloc (.cells _ 32) = w1 at hds ⊢
  generalize ext (ext o _ 22) _ 23 = o1 at hds
  generalize w.heap.size = b at hds ⊢
  have HJ0 : Hid (∃ oo vs, DS w o w1 oo b (rcells c v) v.OA N v.oc ((rDec c.out (rs.take 0)).map RMsg.m4) vs RA rn rc rs) := Lib.hid ⟨o1, v.mvs, hds⟩
  clear hds
  go_wp2_with fail
  go_loopw [5] (fun rv wx => ∃ r : Nat, r ≤ rn ∧ rv = .int .i64 r ∧ Hid (∃ oo vs, DS w o wx oo b (rcells c v) v.OA N v.oc ((rDec c.out (rs.take r)).map RMsg.m4) vs RA rn rc rs)) (fun rv _ => rn - (intOf rv).toNat)
  case atStart => exact ⟨0, Nat.zero_le _, rfl, HJ0⟩
  case round => as_aux_lemma =>
    clear HJ0
    obtain ⟨r, hr, rfl, HJ⟩ := hrel
    by_cases hlt : r < rn
    · have hrI : (r : Int) < (rn : Int) := by omega
      have hd : decide ((r : Int) < (rn : Int)) = true := decide_eq_true hrI
      obtain ⟨⟨num, ack⟩, hq⟩ : ∃ q, rs[r]? = some q := ⟨_, List.getElem?_eq_getElem (by rw [HRL.out]; exact hlt)⟩
      obtain ⟨L, hL⟩ : ∃ L, L = rDec c.out (rs.take r) := ⟨_, rfl⟩
      have hLn : L.length = N := by rw [hL, rdec_len, HN.out]
      have hLt : ∀ m ∈ L, m.ps.length ≤ 1000000000 := by rw [hL]; exact rdec_ps _ HTL.out
      have HJ1 : Hid (∃ oo vs, DS w o wr oo b (rcells c v) v.OA N v.oc ((midL (num, ack) L 0).map RMsg.m4) vs RA rn rc rs) := Lib.hid (by rw [midL_zero, hL]; exact HJ.out)
      have HNX : Hid (rDec c.out (rs.take (r + 1)) = midL (num, ack) L N) := Lib.hid (by rw [rDec_snoc hq, ← hL, ← midL_all, hLn])
      have HQ := Lib.hid hq; have HLN := Lib.hid hLn; have HLT := Lib.hid hLt
      clear hq hL hLn hLt HJ
      go_wp2_with fail
      go_loopw [6] (fun nv wx => ∃ n : Nat, n ≤ N ∧ nv = .int .i64 n ∧ Hid (∃ oo vs, DS w o wx oo b (rcells c v) v.OA N v.oc ((midL (num, ack) L n).map RMsg.m4) vs RA rn rc rs)) (fun nv _ => N - (intOf nv).toNat)
      case atStart => exact ⟨0, Nat.zero_le _, rfl, HJ1⟩
      case round => as_aux_lemma =>
        clear HJ1
        obtain ⟨n, hn, rfl, HJ⟩ := hrel
        obtain ⟨oo, vs, hds⟩ := HJ.out
        clear HJ
        obtain ⟨-, -, -, -, -, q5, -⟩ := box11 hds.rz.bb
        rw [← HN.out] at q5
        by_cases hnN : n < N
        · obtain ⟨m, hm⟩ : ∃ m, L[n]? = some m := ⟨_, List.getElem?_eq_getElem (by rw [HLN.out]; exact hnN)⟩
          have hm4 : ((midL (num, ack) L n).map RMsg.m4)[n]? = some m.m4 := by rw [List.getElem?_map, midL_at hm]; rfl
          obtain ⟨x, hv⟩ : ∃ x, vs[n]? = some x := ⟨_, List.getElem?_eq_getElem (by rw [hds.ms.len, List.length_map, midL_len, HLN.out]; exact hnN)⟩
          have hin := hds.ms.el n _ x hm4 hv
          obtain ⟨h, hA, hoh, hhl, -, k2, -, -, -, -⟩ := hds.facts hnN hm4 hv
          have hpl : m.ps.length ≤ 1000000000 := HLT.out m (List.mem_of_getElem? hm)
          obtain ⟨pl, hple⟩ : ∃ k, k = m.ps.length := ⟨_, rfl⟩
          rw [← hple] at hpl
          obtain ⟨Lm, hLm⟩ : ∃ Lm, Lm = (midL (num, ack) L n).map RMsg.m4 := ⟨_, rfl⟩
          have HNX2 : Hid ((midL (num, ack) L (n + 1)).map RMsg.m4 = Lm.set n (rDec1 (num, ack) m).m4) := Lib.hid (by rw [midL_next hm, List.map_set, hLm])
          rw [← hLm] at hds hm4
          have hds0 : DS w o wr oo b (rcells c v) v.OA N v.oc (Lm.set n (midM num ack m 0)) vs RA rn rc rs := by rw [midM_zero, set_same hm4]; exact hds
          have hLl : n < Lm.length := (List.getElem?_eq_some_iff.1 hm4).1
          have HJ3 : Hid (∃ oo, DS w o wr oo b (rcells c v) v.OA N v.oc (Lm.set n (midM num ack m 0)) vs RA rn rc rs ∧ Row wr oo 5 3 1 none 0 0 (ints ((keepP num (m.ps.take 0)).map Prod.fst)) ∧ Row wr oo 6 3 1 none 0 0 (ints ((keepP num (m.ps.take 0)).map Prod.snd))) :=
            Lib.hid ⟨oo, hds0, Row.nil_ _ _ _ _ _, Row.nil_ _ _ _ _ _⟩
          have hnI : (n : Int) < (N : Int) := by omega
          have hdn : decide ((n : Int) < (N : Int)) = true := decide_eq_true hnI
          have hn0 : (0 : Int) ≤ (n : Int) := by omega
          have hr0 : (0 : Int) ≤ (r : Int) := by omega
          have HPL := Lib.hid hple; have HHV := Lib.hid hv; have HLL := Lib.hid hLl; have HHA := Lib.hid hA
          clear hds hds0 hin hm hm4 hv hple hLm hLl hoh hhl k2 hA
          go_wp2_with fail
          go_loopw [9, 7, 8] (fun iv pv tv wx => ∃ (i k : Nat) (PA : Option Addr) (pc : Nat) (TA : Option Addr) (tc : Nat), i ≤ pl ∧ k ≤ i ∧ iv = .int .i64 i ∧ pv = .slice PA k pc ∧ tv = .slice TA k tc ∧
            Hid (∃ oo, DS w o wx oo b (rcells c v) v.OA N v.oc (Lm.set n (midM num ack m i)) vs RA rn rc rs ∧ Row wx oo 5 3 1 PA k pc (ints ((keepP num (m.ps.take i)).map Prod.fst)) ∧ Row wx oo 6 3 1 TA k tc (ints ((keepP num (m.ps.take i)).map Prod.snd)))) (fun iv _ _ _ => pl - (intOf iv).toNat)
          case atStart => exact ⟨0, 0, none, 0, none, 0, Nat.zero_le _, Nat.le_refl _, rfl, rfl, rfl, HJ3⟩
          case round => as_aux_lemma =>
            clear HJ3
            obtain ⟨i, k, PA, pc, TA, tc, hi, hki, rfl, rfl, rfl, HJ⟩ := hrel
            obtain ⟨oo, hds, hrp, hrt⟩ := HJ.out
            clear HJ q5
            obtain ⟨-, -, -, -, -, q5, -⟩ := box11 hds.rz.bb
            rw [← HN.out, HHA.out] at q5
            have hm4 : (Lm.set n (midM num ack m i))[n]? = some (midM num ack m i) := by rw [List.getElem?_set, if_pos rfl, if_pos HLL.out]
            have hin := hds.ms.el n _ x hm4 HHV.out
            obtain ⟨h', hA', hoh, hhl, k1, k2, k3, f1, f2, f3⟩ := hds.facts hnN hm4 HHV.out
            rw [HHA.out] at hA'
            injection hA' with hA'; injection hA' with hA' _; subst hA'
            rw [show (midM num ack m i).pks.length = pl by rw [HPL.out]; simp [midM]] at k2
            rw [show (midM num ack m i).tks.length = pl by rw [HPL.out]; simp [midM]] at k3
            by_cases hip : i < pl
            · obtain ⟨⟨p1, t1⟩, hp⟩ : ∃ q, m.ps[i]? = some q := ⟨_, List.getElem?_eq_getElem (by rw [← HPL.out]; exact hip)⟩
              have hml : i < (midM num ack m i).pks.length ∧ i < (midM num ack m i).tks.length := by rw [HPL.out] at hip; simp [midM]; exact hip
              obtain ⟨gp, op, hPA, hgp, cp⟩ := hin.p.intAt (show (midM num ack m i).pks[i]? = some p1 by simp [midM, hp]) hml.1
              obtain ⟨gt, ot, hTA, hgt, ct⟩ := hin.t.intAt (show (midM num ack m i).tks[i]? = some t1 by simp [midM, hp]) hml.2
              obtain ⟨e1, e2⟩ := reps_getC rs r num ack HQ.out
              obtain ⟨gr, orr, hRA, -, hgr, hcr⟩ := hds.rep.2.2.2 (by omega)
              have c1 := hcr _ _ e1
              have c2 := hcr _ _ e2
              rw [← Nat.add_assoc] at c2
              subst hRA
              have k2' := k2; have k3' := k3
              rw [hPA] at k2; rw [hTA] at k3
              have hiI : (i : Int) < (pl : Int) := by omega
              have hi0 : (0 : Int) ≤ (i : Int) := by omega
              have hdi : decide ((i : Int) < (pl : Int)) = true := decide_eq_true hiI
              have hxk := keepP_succ (num := num) hp
              have hxh := hitP_succ (num := num) hp
              have HDS := Lib.hid hds; have HRP := Lib.hid hrp; have HRT := Lib.hid hrt; have HXK := Lib.hid hxk; have HXH := Lib.hid hxh; have HP1 := Lib.hid hp; have HM4 := Lib.hid hm4; have HPA := Lib.hid hPA; have HTA := Lib.hid hTA
              clear hds hrp hrt hxk hxh hp hm4 hin hml hcr e1 e2 hPA hTA k2' k3' hoh
              go_upto_region 11 with fail
              go_quiet (fail)
              have st2 := (Step.refl [] wr oo).drewN nq
              have hds2 := HDS.out.stepN H5.out st2 (by simp)
              have hrp2 := HRP.out.step st2 (by simp)
              have hrt2 := HRT.out.step st2 (by simp)
              have q5' : (wr.drewN nq).cell? ⟨b, 5, none⟩ = some (.slice (some ⟨h, 0, none⟩) N v.oc) := q5
              have k1' : (wr.drewN nq).cell? ⟨h, n * 4 + 1, none⟩ = some (.bool (midM num ack m i).done) := k1
              have k2' : (wr.drewN nq).cell? ⟨h, n * 4 + 2, none⟩ = some (.slice (some ⟨gp, op, none⟩) pl x.pc) := k2
              have k3' : (wr.drewN nq).cell? ⟨h, n * 4 + 3, none⟩ = some (.slice (some ⟨gt, ot, none⟩) pl x.tc) := k3
              have cp' : (wr.drewN nq).cell? ⟨gp, op + i, none⟩ = some (.int .i64 p1) := cp
              have ct' : (wr.drewN nq).cell? ⟨gt, ot + i, none⟩ = some (.int .i64 t1) := ct
              have c2' : (wr.drewN nq).cell? ⟨gr, orr + r * 2 + 1, none⟩ = some (.bool ack) := c2
              have f1' : (wr.drewN nq).frozen? ⟨h, n * 4 + 1, none⟩ = false := f1
              have l1 : gp < (wr.drewN nq).heap.size := hgp
              have l2 : h < (wr.drewN nq).heap.size := hhl
              have l3 := hds2.rz.bb.lt
              generalize wr.drewN nq = w2 at hds2 hrp2 hrt2 q5' k1' k2' k3' cp' ct' c2' f1' l1 l2 l3 ⊢
              clear q5 k1 k2 k3 cp ct c1 c2 f1 f2 f3 hgp hgt hgr hhl HDS HRP HRT st2
              have HDS := Lib.hid hds2; have HRP := Lib.hid hrp2; have HRT := Lib.hid hrt2
              clear hds2 hrp2 hrt2
              by_cases hpn : p1 = num
              · have hpb : (p1 != num) = false := by simp [hpn]
                have HKP : Hid (keepP num (m.ps.take (i + 1)) = keepP num (m.ps.take i)) := Lib.hid (by rw [HXK.out, hpb]; simp)
                cases ack with
                | true =>
                  have hdone : (midM num true m (i + 1)).done = true := by simp [midM, HXH.out, hpn]
                  have hrow := HDS.out.row
                  rw [HHA.out] at hrow
                  have hin := HDS.out.ms.el n _ x HM4.out HHV.out
                  have stS := hrow.stored (n * 4 + 1) (.bool true)
                  have hrow6 := hrow.setG (by omega) (k := n * 4 + 1) (.bool true)
                  rw [msCells_set HM4.out HHV.out (by decide) (m' := midM num true m (i + 1)) (v' := x) (by show _ = mCells _ x; unfold mCells; rw [hdone]; rfl), List.set_set, set_same HHV.out, ← HHA.out] at hrow6
                  have hms6 := (HDS.out.ms.set n (m' := midM num true m (i + 1)) (v' := x) ⟨hin.b, hin.p, hin.t⟩).step stS (by simp)
                  rw [List.set_set, set_same HHV.out] at hms6
                  have HJ2 : Hid (∃ oo, DS w o (w2.setCell ⟨h, n * 4 + 1, none⟩ (.bool true)) oo b (rcells c v) v.OA N v.oc (Lm.set n (midM num true m (i + 1))) vs (some ⟨gr, orr, none⟩) rn rc rs ∧ Row (w2.setCell ⟨h, n * 4 + 1, none⟩ (.bool true)) oo 5 3 1 PA k pc (ints ((keepP num (m.ps.take (i + 1))).map Prod.fst)) ∧ Row (w2.setCell ⟨h, n * 4 + 1, none⟩ (.bool true)) oo 6 3 1 TA k tc (ints ((keepP num (m.ps.take (i + 1))).map Prod.snd))) :=
                    Lib.hid ⟨oo, ⟨HDS.out.rz.step stS (by simp) (by decide) (by decide), hrow6, hms6, HDS.out.rep.step stS (by simp)⟩, by rw [HKP.out]; exact HRP.out.step stS (by simp), by rw [HKP.out]; exact HRT.out.step stS (by simp)⟩
                  clear HDS HRP HRT HXK HXH HKP hpn hdone hrow hin stS hrow6 hms6
                  go_wp2_with fail
                  go_roundw
                  case rel => exact ⟨i + 1, k, PA, pc, TA, tc, by omega, by omega, by go_num, rfl, rfl, HJ2⟩
                  case measure => simp [intOf]; omega
                | false =>
                  have HMM : Hid (midM num false m (i + 1) = midM num false m i) := Lib.hid (by simp [midM])
                  have HJ2 : Hid (∃ oo, DS w o w2 oo b (rcells c v) v.OA N v.oc (Lm.set n (midM num false m (i + 1))) vs (some ⟨gr, orr, none⟩) rn rc rs ∧ Row w2 oo 5 3 1 PA k pc (ints ((keepP num (m.ps.take (i + 1))).map Prod.fst)) ∧ Row w2 oo 6 3 1 TA k tc (ints ((keepP num (m.ps.take (i + 1))).map Prod.snd))) := Lib.hid ⟨oo, by rw [HMM.out]; exact HDS.out, by rw [HKP.out]; exact HRP.out, by rw [HKP.out]; exact HRT.out⟩
                  clear HDS HRP HRT HXK HXH HKP hpn
                  go_wp2_with fail
                  go_roundw
                  case rel => exact ⟨i + 1, k, PA, pc, TA, tc, by omega, by omega, by go_num, rfl, rfl, HJ2⟩
                  case measure => simp [intOf]; omega
              · have hpb : (p1 != num) = true := by simp [hpn]
                have HKP : Hid (keepP num (m.ps.take (i + 1)) = keepP num (m.ps.take i) ++ [(p1, t1)]) := Lib.hid (by rw [HXK.out, hpb]; simp)
                have HMM : Hid (midM num ack m (i + 1) = midM num ack m i) := Lib.hid (by
                  have e : (p1 == num) = false := by simpa using hpn
                  unfold midM; rw [HXH.out]; simp only [e, Bool.or_false])
                have stA := (Step.refl [] w2 oo).alloc (.cells #[.int .i64 p1] 3) 7
                have hdsA := HDS.out.stepN H5.out stA (by simp)
                have hrpA := HRP.out.step stA (by simp)
                have hrtA := HRT.out.step stA (by simp)
                have slA := (Row.made (w := w2) oo 7 3 1 #[.int .i64 p1] 1 rfl (by decide) 1 (Nat.le_refl _)).sl
                generalize ext oo w2.heap.size 7 = oA at stA hdsA hrpA hrtA slA
                have HDA := Lib.hid hdsA; have HRPA := Lib.hid hrpA; have HRTA := Lib.hid hrtA; have SLA := Lib.hid slA
                clear stA hdsA hrpA hrtA slA HDS HRP HRT
                go_upto_region 13 with (at_builtin; refine wpList_append_row _ rfl (.tmp 49) (.tmp 59) _ rfl el_int oA 5 PA k pc _ rfl HRPA.out oA 7 _ 1 1 [.int .i64 p1] rfl SLA.out (by simp [Value.oneCell']) (by omega) (by unfold maxLen; omega) ?_; intro A5 c5 w5 hr5 hg5 hat5; have HR5 := Lib.hid hr5; have HG5 := Lib.hid hg5; clear hr5 hg5 hat5)
                have st5 := Step.append HRPA.out HG5.out 5
                have hds5 := HDA.out.stepN H5.out st5 (by simp)
                have hrt5 := HRTA.out.step st5 (by simp)
                have hrp5 := HR5.out
                rw [show ints ((keepP num (m.ps.take i)).map Prod.fst) ++ [Value.int .i64 p1] = ints ((keepP num (m.ps.take (i + 1))).map Prod.fst) by rw [HKP.out]; simp [ints]] at hrp5
                generalize ext oA (w2.alloc (.cells #[.int .i64 p1] 3)).heap.size 5 = o5 at st5 hds5 hrt5 hrp5
                clear st5 HRPA HDA HRTA SLA HR5 HG5 q5' k1' k2' k3' cp' ct' c2' f1' l1 l2 l3
                obtain ⟨-, -, -, -, -, q5, -⟩ := box11 hds5.rz.bb
                rw [← HN.out, HHA.out] at q5
                obtain ⟨h5, hA5, -, l2, -, -, k3, -, -, -⟩ := hds5.facts hnN HM4.out HHV.out
                rw [HHA.out] at hA5
                injection hA5 with hA5; injection hA5 with hA5 _; subst hA5
                rw [show (midM num ack m i).tks.length = pl by rw [HPL.out]; simp [midM], HTA.out] at k3
                have hin5 := hds5.ms.el n _ x HM4.out HHV.out
                obtain ⟨gt5, ot5, hTA5, l1, ct⟩ := hin5.t.intAt (show (midM num ack m i).tks[i]? = some t1 by simp [midM, HP1.out]) (by rw [show (midM num ack m i).tks.length = pl by rw [HPL.out]; simp [midM]]; exact hip)
                rw [HTA.out] at hTA5
                injection hTA5 with hTA5; injection hTA5 with e5 e6 _; subst e5; subst e6
                have l3 := hds5.rz.bb.lt
                have stB := (Step.refl [] w5 o5).alloc (.cells #[.int .i64 t1] 3) 7
                have hdsB := hds5.stepN H5.out stB (by simp)
                have hrpB := hrp5.step stB (by simp)
                have hrtB := hrt5.step stB (by simp)
                have slB := (Row.made (w := w5) o5 7 3 1 #[.int .i64 t1] 1 rfl (by decide) 1 (Nat.le_refl _)).sl
                generalize ext o5 w5.heap.size 7 = oB at stB hdsB hrpB hrtB slB
                have HDB := Lib.hid hdsB; have HRPB := Lib.hid hrpB; have HRTB := Lib.hid hrtB; have SLB := Lib.hid slB
                clear stB hdsB hrpB hrtB slB hds5 hrp5 hrt5 hin5
                go_upto_region 10 with (at_builtin; refine wpList_append_row _ rfl (.tmp 61) (.tmp 71) _ rfl el_int oB 6 TA k tc _ rfl HRTB.out oB 7 _ 1 1 [.int .i64 t1] rfl SLB.out (by simp [Value.oneCell']) (by omega) (by unfold maxLen; omega) ?_; intro A7 c7 w7 hr7 hg7 hat7; have HR7 := Lib.hid hr7; have HG7 := Lib.hid hg7; clear hr7 hg7 hat7)
                have st7 := Step.append HRTB.out HG7.out 6
                have hds7 := HDB.out.stepN H5.out st7 (by simp)
                have hrp7 := HRPB.out.step st7 (by simp)
                have hrt7 := HR7.out
                rw [show ints ((keepP num (m.ps.take i)).map Prod.snd) ++ [Value.int .i64 t1] = ints ((keepP num (m.ps.take (i + 1))).map Prod.snd) by rw [HKP.out]; simp [ints]] at hrt7
                have HJ2 : Hid (∃ oo, DS w o w7 oo b (rcells c v) v.OA N v.oc (Lm.set n (midM num ack m (i + 1))) vs (some ⟨gr, orr, none⟩) rn rc rs ∧ Row w7 oo 5 3 1 A5 (k + 1) c5 (ints ((keepP num (m.ps.take (i + 1))).map Prod.fst)) ∧ Row w7 oo 6 3 1 A7 (k + 1) c7 (ints ((keepP num (m.ps.take (i + 1))).map Prod.snd))) := Lib.hid ⟨_, by rw [HMM.out]; exact hds7, hrp7, hrt7⟩
                clear HDB HRPB HRTB SLB HR7 HG7 st7 hds7 hrp7 hrt7 HXK HXH HKP HMM q5 k3 ct l1 l2 l3
                go_wp2_with fail
                go_roundw
                case rel => exact ⟨i + 1, k + 1, A5, c5, A7, c7, by omega, by omega, by go_num, rfl, rfl, HJ2⟩
                case measure => simp [intOf]; omega
            · obtain rfl : i = pl := by omega
              have hdi : decide ((i : Int) < (i : Int)) = false := decide_eq_false (by omega)
              have hfull : m.ps.take i = m.ps := List.take_of_length_le (by rw [HPL.out]; exact Nat.le_refl _)
              rw [hfull] at hrp hrt
              have hl3 := hds.rz.bb.lt
              have HDS := Lib.hid hds; have HRP := Lib.hid hrp; have HRT := Lib.hid hrt; have HM4 := Lib.hid hm4; have HFU := Lib.hid hfull; have HIN := Lib.hid hin
              clear hds hrp hrt hm4 hfull hin k1 f1
              go_upto_region 16 with fail
              go_region
              have hk : k = (keepP num m.ps).length := by have := HRP.out.len; simp [ints] at this; omega
              have hrow := HDS.out.row.re (o' := calm56 oo) (τ' := 4) (fun k hk => calm56_ne hk (by decide) (by decide))
              rw [HHA.out] at hrow
              have st1 := hrow.stored (n * 4 + 2) (.slice PA k pc)
              have hrow1 := hrow.setG (by omega) (k := n * 4 + 2) (.slice PA k pc)
              rw [msCells_set HM4.out HHV.out (by decide) (m' := ⟨m.b, m.done || (ack && hitP num m.ps), (keepP num m.ps).map Prod.fst, m.ps.map Prod.snd⟩) (v' := { x with pA := PA, pc := pc }) (by unfold midM; rw [HFU.out]; simp [mCells, hk])] at hrow1
              have st2 := hrow1.stored (n * 4 + 3) (.slice TA k tc)
              have hrow2 := hrow1.setG (by omega) (k := n * 4 + 3) (.slice TA k tc)
              have hl1 : ((Lm.set n (midM num ack m i)).set n ⟨m.b, m.done || (ack && hitP num m.ps), (keepP num m.ps).map Prod.fst, m.ps.map Prod.snd⟩)[n]? = some ⟨m.b, m.done || (ack && hitP num m.ps), (keepP num m.ps).map Prod.fst, m.ps.map Prod.snd⟩ := by rw [List.set_set, List.getElem?_set, if_pos rfl, if_pos HLL.out]
              have hl2 : (vs.set n { x with pA := PA, pc := pc })[n]? = some { x with pA := PA, pc := pc } := by rw [List.getElem?_set, if_pos rfl, if_pos (List.getElem?_eq_some_iff.1 HHV.out).1]
              rw [msCells_set hl1 hl2 (by decide) (m' := (rDec1 (num, ack) m).m4) (v' := { x with pA := PA, pc := pc, tA := TA, tc := tc }) (by simp [mCells, hk, RMsg.m4, rDec1, keepP, hitP]), List.set_set, List.set_set, List.set_set] at hrow2
              have stT := (st1.trans st2).drew
              have hmin : MIn wr (calm56 oo) 1 (rDec1 (num, ack) m).m4 { x with pA := PA, pc := pc, tA := TA, tc := tc } := ⟨HIN.out.b.re (fun k _ hk => calm56_ne hk (by decide) (by decide)), by
                  have := HRP.out.sl.re (o' := calm56 oo) (τ' := 1) (fun k _ hk => calm56_in (.inl hk))
                  rw [hk] at this
                  simpa [RMsg.m4, rDec1, keepP] using this, by
                  have := HRT.out.sl.re (o' := calm56 oo) (τ' := 1) (fun k _ hk => calm56_in (.inr hk))
                  rw [hk] at this
                  simpa [RMsg.m4, rDec1, keepP] using this⟩
              have hms2 := ((HDS.out.ms.re (o' := calm56 oo) (σ' := 1) (fun k _ hk => calm56_ne hk (by decide) (by decide))).set n hmin).step stT (by simp)
              rw [List.set_set] at hms2
              have hrep2 := (HDS.out.rep.re (o' := calm56 oo) (τ' := 1) (fun k _ hk => calm56_ne hk (by decide) (by decide))).step stT (by simp)
              have hrz2 := (HDS.out.rz.reown (o' := calm56 oo) (fun k hk => by
                have h1 := HDS.out.rz.st.own k hk
                have h2 := H5.out k hk
                exact calm56_ne rfl (by rw [h1]; exact h2.1) (by rw [h1]; exact h2.2.1)) (calm56_ne HDS.out.rz.ob (by decide) (by decide)) (calm56_ne HDS.out.rz.oz (by decide) (by decide))).step stT (by simp) (by decide) (by decide)
              rw [← HHA.out] at hrow2
              obtain ⟨W9, hW9⟩ : ∃ W9, W9 = ((wr.setCell ⟨h, n * 4 + 2, none⟩ (.slice PA k pc)).setCell ⟨h, n * 4 + 3, none⟩ (.slice TA k tc)).drew := ⟨_, rfl⟩
              rw [← hW9] at hms2 hrep2 hrz2 ⊢
              have hrow3 : Row W9 (calm56 oo) 4 107 4 v.OA N v.oc (msCells (Lm.set n (rDec1 (num, ack) m).m4) (vs.set n { x with pA := PA, pc := pc, tA := TA, tc := tc })) := by rw [hW9]; exact hrow2
              have HJ2 : Hid (∃ oo vs, DS w o W9 oo b (rcells c v) v.OA N v.oc ((midL (num, ack) L (n + 1)).map RMsg.m4) vs RA rn rc rs) := Lib.hid ⟨calm56 oo, _, by rw [HNX2.out]; exact ⟨hrz2, hrow3, hms2, hrep2⟩⟩
              clear hk hrow st1 hrow1 st2 hrow2 hl1 hl2 stT hmin hms2 hrep2 hrz2 hrow3 hW9 HDS HRP HRT HM4 HFU HIN k2 k3 f2 f3 hhl hl3 hoh q5
              go_wp2_with fail
              go_roundw
              case rel => exact ⟨n + 1, by omega, by go_num, HJ2⟩
              case measure => simp [intOf]; omega
        · obtain rfl : n = N := by omega
          have hdn : decide ((n : Int) < (n : Int)) = false := decide_eq_false (by omega)
          have HJ2 : Hid (∃ oo vs, DS w o wr oo b (rcells c v) v.OA n v.oc ((rDec c.out (rs.take (r + 1))).map RMsg.m4) vs RA rn rc rs) := Lib.hid ⟨oo, vs, by rw [HNX.out]; exact hds⟩
          clear hds
          go_wp2_with fail
          go_roundw
          case rel => exact ⟨r + 1, by omega, by go_num, HJ2⟩
          case measure => simp [intOf]; omega
    · obtain rfl : r = rn := by omega
      have hd : decide ((r : Int) < (r : Int)) = false := decide_eq_false (by omega)
      obtain ⟨oo, vs, hds⟩ := HJ.out
      have HDS := Lib.hid hds
      clear hds HJ
      go_wp2_with (first | (refine wpList_load_rc rfl (.tmp 2) rfl rfl HDS.out.rz.bb ?_) | (refine wpList_store_rc rfl (.tmp 4) (.tmp 95) rfl rfl rfl HDS.out.rz.bz rfl ?_))
      have hz := HDS.out.rz.bz.setRow (rcells c v)
      have stz := step_setRow (W := wr) HDS.out.rz.oz (rcells c v)
      generalize wr.setRow (b + 1) (rcells c v) = W9 at hz stz ⊢
      obtain ⟨r0, r1, r2, r3, r4, r5, r6, r7, r8, r9, r10⟩ := box11 hz
      refine bodyPost_ret (v := .agg (rcells c v)) (by simp [results, Try.results51, go_sem, r0, r1, r2, r3, r4, r5, r6, r7, r8, r9, r10, rcells]) rfl ?_
      rw [HP.out]
      have hfull : rDec c.out (rs.take r) = rDec c.out rs := by rw [List.take_of_length_le (by rw [HRL.out]; exact Nat.le_refl _)]
      have hrow := HDS.out.row.step stz (by simp)
      have hms := HDS.out.ms.step stz (by simp)
      rw [hfull, HN.out] at hrow
      rw [hfull] at hms
      refine ⟨vs, oo, rfl, ((HDS.out.rz.st.mono (by simp)).trans (stz.mono (ts' := [22, 23, 4]) (by simp))).forget (fun t ht ht4 k hk => ?_), hrow, hms⟩
      have := H4.out k hk
      simp at ht ht4
      rcases ht with rfl | rfl | rfl
      · exact this.1
      · exact this.2.1
      · exact absurd rfl ht4
end Go.Proofs.Ythjjipcbpmdfnaa

/- WALK of marchesref20.Number (turned from RefA's near). -/
namespace Go.Proofs.Ythjjipcbpmdfnaa
open Go.RowKit

set_option maxHeartbeats 1000000 in
theorem rNumber_any (w : World) (base rest : Int) (h0 : -100000 ≤ base) (h1 : base ≤ 4000000000000) (r0 : 0 ≤ rest) (r1 : rest ≤ 65535) :
    Calls Try.prog 74 #[.int .i64 base, .int .i64 rest] w fun e w' => e = .returned (.int .i64 (near base rest)) ∧ w = w' := by
  obtain ⟨N, hN⟩ : ∃ N, N = near base rest := ⟨_, rfl⟩
  have hN0 : base - 32768 ≤ N := by rw [hN]; unfold near; omega
  have hN1 : N ≤ base + 32767 := by rw [hN]; unfold near; omega
  have hNm : (N - rest) % 65536 = 0 := by rw [hN]; unfold near; omega
  have hlow : ∀ x : Int, base - 32768 ≤ x → x < N → (x - rest) % 65536 ≠ 0 := by
    intro x hx1 hx2 hx3
    omega
  rw [← hN]
  have HM := Lib.hid hNm; have HLO := Lib.hid hlow
  clear hN hNm hlow
  go_enter Try.func74, Try.ntmps74
  go_wp2_with fail
  go_loop [5] (fun s => ∃ x : Int, base - 32768 ≤ x ∧ x ≤ N ∧ s = .int .i64 x) (fun s => (N - intOf s).toNat)
  case atStart => exact ⟨base - 32768, by omega, hN0, rfl⟩
  case round =>
    obtain ⟨x, hx0, hx1, rfl⟩ := hrel
    by_cases hlt : x < N
    · obtain ⟨D, hD⟩ : ∃ D, (x - rest).tmod 65536 = D := ⟨_, rfl⟩
      have hD0 : (D == 0) = false := by
        have := HLO.out x hx0 hlt
        simp only [beq_eq_false_iff_ne, ne_eq]
        intro e
        rw [e] at hD
        exact this (Int.emod_eq_zero_of_dvd (Int.dvd_of_tmod_eq_zero hD))
      have hD1 : (D != 0) = true := by simpa using hD0
      go_wp2_with fail
      go_round
      case rel => exact ⟨x + 1, by omega, by omega, rfl⟩
      case measure => simp [intOf]; omega
    · obtain rfl : x = N := by omega
      have hD : (x - rest).tmod 65536 = 0 := Int.tmod_eq_zero_of_dvd (Int.dvd_of_emod_eq_zero HM.out)
      go_wp2_with fail
      go_ret
      exact ⟨rfl, rfl⟩
end Go.Proofs.Ythjjipcbpmdfnaa
