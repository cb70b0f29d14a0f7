/-
  THE REFERENCE's Receive (packet): RefD once more, and its reports lie in new memory.
-/
import Derived.Test.YthjjipcbpmdfnaaRefY
import Derived.Test.YthjjipcbpmdfnaaRefM
import Derived.Lib.QuietBelow
import Derived.Deep.CutBlock
namespace Go.Proofs.Ythjjipcbpmdfnaa
open Go.RowKit Go.Sort

theorem run_tailA (P : Program) (t e : TypeId) (z : Value) (sz b : Nat) (hu : P.underlying t = some (.slice e)) (hs : (P.info? e).map (fun i => (i.zero, i.size, i.bytes)) = some (some z, sz, b)) (A : Option Addr) (n c k : Nat) (hk : k ≤ n) (hc : n ≤ c) :
    ∃ B, (∀ W, (Instr.slice t (.slice A n c) (some (.int .i64 (k : Int))) none none).run P W = .ok (.slice B (n - k) (c - k)) W) ∧ (k < n → ∀ g off, A = some ⟨g, off, none⟩ → B = some ⟨g, off + k * sz, none⟩) := by
  cases A with
  | none =>
    obtain ⟨i, h1, h2, h3, h4⟩ := info_parts hs
    refine ⟨none, fun W => ?_, fun _ _ _ h => by cases h⟩
    simp [Instr.slice, Instr.sliceBounds, Instr.sliceBound, asIntOf, run_underlying hu, sizeOf, typeInfo, h1, hk]
  | some a =>
    obtain ⟨i, h1, h2, h3, h4⟩ := info_parts hs
    refine ⟨if c = k then some a else some (a.add (k * sz)), fun W => ?_, fun h g off e => ?_⟩
    · simp [Instr.slice, Instr.sliceBounds, Instr.sliceBound, asIntOf, run_underlying hu, sizeOf, typeInfo, h1, hk, h3]
    · injection e with e; subst e
      rw [if_neg (by omega)]
      unfold Addr.add
      by_cases h0 : k * sz = 0
      · simp [h0]
      · simp [h0]

/-- What Receive comes to. -/
def RRecvTo (w : World) (oB : Own) (τB : Nat) (PA0 : Option Addr) (pn0 : Nat) (GA0 : Option Addr) (gn0 : Nat) (R : RefS × List UInt8 × List (Int × Bool) × Int) (e : Ending) (w' : World) : Prop :=
  ∃ PA pn pc GA gn gc BA bc RA rc, e = .returned (.tuple #[R.1.val PA pn pc GA gn gc, .slice BA R.2.1.length bc, .slice RA R.2.2.1.length rc, .int .i64 R.2.2.2]) ∧ Below w.heap.size w w' ∧
    Sl w' (fun _ => 0) 0 1 PA pn pc (ints R.1.pend) ∧ Sl w' (fun _ => 0) 0 1 GA gn gc (ints R.1.got) ∧ Sl w' oB τB 1 BA R.2.1.length bc (byts R.2.1) ∧ Sl w' (fun _ => 0) 0 2 RA R.2.2.1.length rc (reps R.2.2.1) ∧
    ((PA = PA0 ∧ pn = pn0) ∨ (0 < pn → ∀ ad, PA = some ad → w.heap.size ≤ ad.block)) ∧ ((GA = GA0 ∧ gn = gn0) ∨ (0 < gn → ∀ ad, GA = some ad → w.heap.size ≤ ad.block)) ∧ (0 < R.2.2.1.length → ∀ ad, RA = some ad → w.heap.size ≤ ad.block)

theorem RRecvTo.bad {w w' : World} {oB : Own} {τB : Nat} {own other next : Int} {pend got : List Int} {PA : Option Addr} {pn pc : Nat} {GA : Option Addr} {gn gc : Nat} {R : RefS × List UInt8 × List (Int × Bool) × Int} (hR : R = (⟨own, other, next, pend, got⟩, [], [], 190)) (hb : Below w.heap.size w w')
    (hP : Sl w (fun _ => 0) 0 1 PA pn pc (ints pend)) (hG : Sl w (fun _ => 0) 0 1 GA gn gc (ints got)) :
    RRecvTo w oB τB PA pn GA gn R (.returned (.tuple #[.agg #[.int .i64 own, .int .i64 other, .int .i64 next, .slice PA pn pc, .slice GA gn gc], .slice none 0 0, .slice none 0 0, .int .i64 190])) w' := by
  subst hR
  exact ⟨PA, pn, pc, GA, gn, gc, none, 0, none, 0, rfl, hb, hP.below hb, hG.below hb, Sl.nil_ _ _ _ _ _ _ (Nat.zero_le _), Sl.nil_ _ _ _ _ _ _ (Nat.zero_le _), .inl ⟨rfl, rfl⟩, .inl ⟨rfl, rfl⟩, fun h => absurd h (Nat.lt_irrefl 0)⟩

theorem RRecvTo.mk_ {w w' : World} {o oB : Own} {τB : Nat} {ts : List Nat} {own other next : Int} {pend got : List Int} {body : List UInt8} {rs : List (Int × Bool)} {code : Int} {PA0 : Option Addr} {pn0 : Nat} {GA0 : Option Addr} {gn0 : Nat} {PA : Option Addr} {pn pc : Nat} {GA : Option Addr} {gn gc : Nat} {BA : Option Addr} {bn bc : Nat} {RA : Option Addr} {rn rc : Nat} {R : RefS × List UInt8 × List (Int × Bool) × Int}
    (hR : R = (⟨own, other, next, pend, got⟩, body, rs, code)) (hb : Step ts w (fun _ => 0) w' o ∧ Below w.heap.size w w') (hP : Sl w' o 7 1 PA pn pc (ints pend)) (hG : Sl w' (fun _ => 0) 0 1 GA gn gc (ints got) ∧ ((GA = GA0 ∧ gn = gn0) ∨ (0 < gn → ∀ ad, GA = some ad → w.heap.size ≤ ad.block))) (hB : Sl w' oB τB 1 BA bn bc (byts body)) (hS : Sl w' o 6 2 RA rn rc (reps rs)) :
    RRecvTo w oB τB PA0 pn0 GA0 gn0 R (.returned (.tuple #[.agg #[.int .i64 own, .int .i64 other, .int .i64 next, .slice PA pn pc, .slice GA gn gc], .slice BA bn bc, .slice RA rn rc, .int .i64 code])) w' := by
  subst hR
  have h1 : body.length = bn := by have := hB.1; simpa using this
  have h2 : rs.length = rn := by have := hS.1; rw [len_reps] at this; omega
  subst h1; subst h2
  exact ⟨PA, pn, pc, GA, gn, gc, BA, bc, RA, rc, rfl, hb.2, hP.plain, hG.1, hB, hS.plain, .inr (hP.fresh_of hb.1 (by decide)), hG.2, hS.fresh_of hb.1 (by decide)⟩

/-- The state of Receive: its box (b), its result (b + 1). -/
structure RcSt (w W : World) (o : Own) (b : Nat) (cb cz : Array Value) : Prop where
  st : Step [2, 3, 5, 6, 7] w (fun _ => 0) W o
  bb : Blk W b 27 cb
  bz : Blk W (b + 1) 27 cz
  ob : o b = 2
  oz : o (b + 1) = 3
section
variable {w W W' : World} {o o' : Own} {b : Nat} {cb cz cs : Array Value}
theorem RcSt.step (h : RcSt w W o b cb cz) {ts : List Nat} (k : Step ts W o W' o') (hs : ∀ t ∈ ts, t = 5 ∨ t = 6 ∨ t = 7) : RcSt w W' o' b cb cz := by
  have n2 : 2 ∉ ts := fun h => by have := hs 2 h; omega
  have n3 : 3 ∉ ts := fun h => by have := hs 3 h; omega
  exact ⟨h.st.trans (k.mono fun t ht => by rcases hs t ht with h | h | h <;> simp [h]), h.bb.step k (by rw [h.ob]; exact n2), h.bz.step k (by rw [h.oz]; exact n3), (k.own _ h.bb.lt).trans h.ob, (k.own _ h.bz.lt).trans h.oz⟩
theorem RcSt.setb (h : RcSt w W o b cb cz) (i : Nat) (u : Value) (hc : cb.setIfInBounds i u = cs) : RcSt w (W.setCell ⟨b, i, none⟩ u) o b cs cz :=
  ⟨h.st.setCell (.inr (by rw [h.ob]; simp)) u, h.bb.setw i u hc, h.bz.far (by simp only; omega) u, h.ob, h.oz⟩
theorem RcSt.setz (h : RcSt w W o b cb cz) (i : Nat) (u : Value) (hc : cz.setIfInBounds i u = cs) : RcSt w (W.setCell ⟨b + 1, i, none⟩ u) o b cb cs :=
  ⟨h.st.setCell (.inr (by rw [h.oz]; simp)) u, h.bb.far (by simp only; omega) u, h.bz.setw i u hc, h.ob, h.oz⟩
theorem RcSt.cb5 {a0 a1 a2 a3 a4 : Value} (h : RcSt w W o b #[a0, a1, a2, a3, a4] cz) : (W.cell? ⟨b, 0, none⟩ = some a0 ∧ W.cell? ⟨b, 1, none⟩ = some a1 ∧ W.cell? ⟨b, 2, none⟩ = some a2 ∧ W.cell? ⟨b, 3, none⟩ = some a3 ∧ W.cell? ⟨b, 4, none⟩ = some a4) ∧ b < W.heap.size ∧ b + 1 < W.heap.size ∧
    W.frozen? ⟨b, 3, none⟩ = false ∧ W.frozen? ⟨b, 4, none⟩ = false := ⟨box5 h.bb, h.bb.lt, h.bz.lt, h.bb.frozen 3, h.bb.frozen 4⟩
theorem RcSt.cz5 {a0 a1 a2 a3 a4 : Value} (h : RcSt w W o b cb #[a0, a1, a2, a3, a4]) : (W.cell? ⟨b + 1, 0, none⟩ = some a0 ∧ W.cell? ⟨b + 1, 1, none⟩ = some a1 ∧ W.cell? ⟨b + 1, 2, none⟩ = some a2 ∧ W.cell? ⟨b + 1, 3, none⟩ = some a3 ∧ W.cell? ⟨b + 1, 4, none⟩ = some a4) ∧
    W.frozen? ⟨b + 1, 0, none⟩ = false ∧ W.frozen? ⟨b + 1, 1, none⟩ = false ∧ W.frozen? ⟨b + 1, 2, none⟩ = false ∧ W.frozen? ⟨b + 1, 3, none⟩ = false ∧ W.frozen? ⟨b + 1, 4, none⟩ = false := ⟨box5 h.bz, h.bz.frozen 0, h.bz.frozen 1, h.bz.frozen 2, h.bz.frozen 3, h.bz.frozen 4⟩
theorem RcSt.setz5 {a0 a1 a2 a3 a4 : Value} (h : RcSt w W o b cb #[a0, a1, a2, a3, a4]) (u0 u1 u2 u3 u4 : Value) :
    RcSt w (((((W.setCell ⟨b + 1, 0, none⟩ u0).setCell ⟨b + 1, 1, none⟩ u1).setCell ⟨b + 1, 2, none⟩ u2).setCell ⟨b + 1, 3, none⟩ u3).setCell ⟨b + 1, 4, none⟩ u4) o b cb #[u0, u1, u2, u3, u4] ∧
    Step [3] W o (((((W.setCell ⟨b + 1, 0, none⟩ u0).setCell ⟨b + 1, 1, none⟩ u1).setCell ⟨b + 1, 2, none⟩ u2).setCell ⟨b + 1, 3, none⟩ u3).setCell ⟨b + 1, 4, none⟩ u4) o :=
  ⟨((((h.setz 0 u0 rfl).setz 1 u1 rfl).setz 2 u2 rfl).setz 3 u3 rfl).setz 4 u4 rfl, (((((Step.refl [3] W o).setCell (.inr (by rw [h.oz]; simp)) u0).setCell (.inr (by rw [h.oz]; simp)) u1).setCell (.inr (by rw [h.oz]; simp)) u2).setCell (.inr (by rw [h.oz]; simp)) u3).setCell (.inr (by rw [h.oz]; simp)) u4⟩
theorem RcSt.below (h : RcSt w W o b cb cz) : Below w.heap.size w W := h.st.to_below (by simp)
theorem RcSt.start (w : World) (cb cz : Array Value) : ∃ o, RcSt w ((w.alloc (.cells cb 27)).alloc (.cells cz 27)) o w.heap.size cb cz := by
  have z0 := Blk.new (w.alloc (.cells cb 27)) 27 cz
  simp only [World.size_alloc] at z0
  refine ⟨_, ((Step.refl [2, 3, 5, 6, 7] w (fun _ => 0)).alloc (.cells cb 27) 2).alloc (.cells cz 27) 3, (Blk.new w 27 cb).alloc _, z0, ?_, ?_⟩
  · rw [ext_lt (by simp), ext_ge (Nat.le_refl _)]
  · rw [ext_ge (by simp)]
end

theorem below_drewN {B : Nat} {w w' : World} (h : Below B w w') (n : Nat) : Below B w (w'.drewN n) := ⟨h.os, h.tape, h.output, h.size, h.block⟩
theorem Sl.byte_at {w : World} {o : Own} {τ n c : Nat} {A : Option Addr} {xs : List UInt8} (h : Sl w o τ 1 A n c (byts xs)) (hn : 0 < n) : ∃ g off, A = some ⟨g, off, none⟩ ∧ g < w.heap.size ∧ ∀ i, i < n → w.cell? ⟨g, off + i, none⟩ = some (.int .u8 (byteR xs i)) := by
  obtain ⟨g, off, hA, -, hg, hc⟩ := h.2.2.2 hn
  refine ⟨g, off, hA, hg, fun i hi => hc i _ ?_⟩
  have hl : i < xs.length := by have := h.1; simp at this; omega
  simp [byts, byteR, hl]

set_option maxRecDepth 100000 in
set_option maxHeartbeats 8000000 in
theorem RRecv_any (w : World) (o τ' : Own) (τ τ2 : Nat) (r : RefS) (hf : r.Fit) (PA : Option Addr) (pn pc : Nat) (GA : Option Addr) (gn gc : Nat) (hP : Sl w o τ 1 PA pn pc (ints r.pend)) (hG : Sl w o τ 1 GA gn gc (ints r.got))
    (A : Option Addr) (n c : Nat) (xs : List UInt8) (hS : Sl w τ' τ2 1 A n c (byts xs)) (hn : n ≤ 140737488355328) :
    Calls Try.prog 55 #[r.val PA pn pc GA gn gc, .slice A n c] w (RRecvTo w τ' τ2 PA pn GA gn (refRecv r xs)) := by
  have hx0 := hf.x0; have hx1 := hf.x1; have ho0 := hf.o0; have ho1 := hf.o1
  have hlo := hf.lo; have hn1 := hf.n1
  have hlen : xs.length = n := by have := hS.1; simpa using this
  obtain ⟨R, hR⟩ : ∃ R, R = refRecv r xs := ⟨_, rfl⟩
  rw [← hR]
  obtain ⟨N, hN⟩ : ∃ N, N = newestR r.other r.got := ⟨_, rfl⟩
  rw [← hN] at hlo hn1
  have HNW := Lib.hid (fun W (hb : Below w.heap.size w W) (PA : Option Addr) (pn pc : Nat) => Newest_any W o τ r PA pn pc GA gn gc (hG.below hb) hf.o0 hf.o1)
  rw [← hN] at HNW
  have hpn : pn ≤ 100000 := by have := hP.int_len; have := hf.pl; omega
  have hgn : gn ≤ 100000 := by have := hG.int_len; have := hf.gl; omega
  obtain ⟨own, other, next, pend, got⟩ := r
  simp only at hx0 hx1 ho0 ho1 hP hG HNW hN
  have HP := Lib.hid hP.plain; have HG := Lib.hid hG.plain; have HS := Lib.hid hS; have HR := Lib.hid hR; have HN := Lib.hid hN; have HLN := Lib.hid hlen
  have hc1 := hS.2.1; have hc2 := hS.2.2.1
  unfold maxLen at hc2
  clear hP hG hS hR hN hf hlen
  go_enter Try.func55, Try.ntmps55
  go_upto_region 1 with fail
  obtain ⟨o0, hm0⟩ := RcSt.start w #[.int .i64 own, .int .i64 other, .int .i64 next, .slice PA pn pc, .slice GA gn gc] #[.int .i64 0, .int .i64 0, .int .i64 0, .slice none 0 0, .slice none 0 0]
  obtain ⟨W0, hW0⟩ : ∃ W0, W0 = (w.alloc (.cells #[.int .i64 own, .int .i64 other, .int .i64 next, .slice PA pn pc, .slice GA gn gc] 27)).alloc (.cells #[.int .i64 0, .int .i64 0, .int .i64 0, .slice none 0 0, .slice none 0 0] 27) := ⟨_, rfl⟩
  obtain ⟨b, hb⟩ : ∃ b, b = w.heap.size := ⟨_, rfl⟩
  rw [← hW0, ← hb] at hm0 ⊢
  obtain ⟨⟨q0, q1, q2, q3, q4⟩, l0, l1, f3, f4⟩ := hm0.cb5
  obtain ⟨⟨z0, z1, z2, z3, z4⟩, y0, y1, y2, y3, y4⟩ := hm0.cz5
  have M0 := Lib.hid hm0
  clear hm0 hW0 hb
  rcases Nat.eq_zero_or_pos n with h0 | h0
  · subst h0
    have HBAD : Hid (R = (⟨own, other, next, pend, got⟩, [], [], 190)) := Lib.hid (by rw [HR.out]; unfold refRecv; rw [if_pos (.inl HLN.out)])
    go_wp2_with fail
    obtain ⟨m9, s9⟩ := M0.out.setz5 (.int .i64 own) (.int .i64 other) (.int .i64 next) (.slice PA pn pc) (.slice GA gn gc)
    obtain ⟨W9, hW9⟩ : ∃ W9, W9 = ((((W0.setCell ⟨b + 1, 0, none⟩ (.int .i64 own)).setCell ⟨b + 1, 1, none⟩ (.int .i64 other)).setCell ⟨b + 1, 2, none⟩ (.int .i64 next)).setCell ⟨b + 1, 3, none⟩ (.slice PA pn pc)).setCell ⟨b + 1, 4, none⟩ (.slice GA gn gc) := ⟨_, rfl⟩
    rw [← hW9] at m9 s9 ⊢
    obtain ⟨⟨r0, r1, r2, r3, r4⟩, -⟩ := m9.cz5
    refine bodyPost_ret (v := .tuple #[.agg #[.int .i64 own, .int .i64 other, .int .i64 next, .slice PA pn pc, .slice GA gn gc], .slice none 0 0, .slice none 0 0, .int .i64 190]) (by simp [results, Try.results55, go_sem, r0, r1, r2, r3, r4]) rfl ?_
    exact RRecvTo.bad HBAD.out m9.below HP.out HG.out
  · obtain ⟨gA, offA, hA, hgA, hby⟩ := (HS.out.below M0.out.below).byte_at h0
    subst hA
    have HBY := Lib.hid hby
    have k0 := hby 0 h0
    rw [Nat.add_zero] at k0
    obtain ⟨B0, hB0⟩ : ∃ B0, B0 = byteR xs 0 := ⟨_, rfl⟩
    rw [← hB0] at k0
    have hB : B0 < 256 := by rw [hB0]; exact byteR_lt _ _
    have HB0 := Lib.hid hB0
    have hnz : ((n : Int) == 0) = false := by simp; omega
    have hni : (0 : Int) < (n : Int) := by omega
    clear hby hB0
    by_cases hf0 : B0 < 1
    · have hd : decide ((B0 : Int) < 1) = true := by simp; omega
      have HBAD : Hid (R = (⟨own, other, next, pend, got⟩, [], [], 190)) := Lib.hid (by rw [HR.out]; unfold refRecv; rw [if_pos (.inr (.inl (by rw [← HB0.out]; exact hf0)))])
      go_wp2_with fail
      obtain ⟨m9, s9⟩ := M0.out.setz5 (.int .i64 own) (.int .i64 other) (.int .i64 next) (.slice PA pn pc) (.slice GA gn gc)
      obtain ⟨W9, hW9⟩ : ∃ W9, W9 = ((((W0.setCell ⟨b + 1, 0, none⟩ (.int .i64 own)).setCell ⟨b + 1, 1, none⟩ (.int .i64 other)).setCell ⟨b + 1, 2, none⟩ (.int .i64 next)).setCell ⟨b + 1, 3, none⟩ (.slice PA pn pc)).setCell ⟨b + 1, 4, none⟩ (.slice GA gn gc) := ⟨_, rfl⟩
      rw [← hW9] at m9 s9 ⊢
      obtain ⟨⟨r0, r1, r2, r3, r4⟩, -⟩ := m9.cz5
      refine bodyPost_ret (v := .tuple #[.agg #[.int .i64 own, .int .i64 other, .int .i64 next, .slice PA pn pc, .slice GA gn gc], .slice none 0 0, .slice none 0 0, .int .i64 190]) (by simp [results, Try.results55, go_sem, r0, r1, r2, r3, r4]) rfl ?_
      exact RRecvTo.bad HBAD.out m9.below HP.out HG.out
    by_cases hf3 : 3 < B0
    · have hd : decide ((B0 : Int) < 1) = false := by simp; omega
      have hd2 : decide ((3 : Int) < (B0 : Int)) = true := by simp; omega
      have HBAD : Hid (R = (⟨own, other, next, pend, got⟩, [], [], 190)) := Lib.hid (by rw [HR.out]; unfold refRecv; rw [if_pos (.inr (.inr (by rw [← HB0.out]; exact hf3)))])
      go_wp2_with fail
      obtain ⟨m9, s9⟩ := M0.out.setz5 (.int .i64 own) (.int .i64 other) (.int .i64 next) (.slice PA pn pc) (.slice GA gn gc)
      obtain ⟨W9, hW9⟩ : ∃ W9, W9 = ((((W0.setCell ⟨b + 1, 0, none⟩ (.int .i64 own)).setCell ⟨b + 1, 1, none⟩ (.int .i64 other)).setCell ⟨b + 1, 2, none⟩ (.int .i64 next)).setCell ⟨b + 1, 3, none⟩ (.slice PA pn pc)).setCell ⟨b + 1, 4, none⟩ (.slice GA gn gc) := ⟨_, rfl⟩
      rw [← hW9] at m9 s9 ⊢
      obtain ⟨⟨r0, r1, r2, r3, r4⟩, -⟩ := m9.cz5
      refine bodyPost_ret (v := .tuple #[.agg #[.int .i64 own, .int .i64 other, .int .i64 next, .slice PA pn pc, .slice GA gn gc], .slice none 0 0, .slice none 0 0, .int .i64 190]) (by simp [results, Try.results55, go_sem, r0, r1, r2, r3, r4]) rfl ?_
      exact RRecvTo.bad HBAD.out m9.below HP.out HG.out
    have hd : decide ((B0 : Int) < 1) = false := by simp; omega
    have hd2 : decide ((3 : Int) < (B0 : Int)) = false := by simp; omega
    have hR2 : R = refRecv1 ⟨own, other, next, pend, got⟩ xs := by rw [HR.out]; unfold refRecv; rw [if_neg (by rw [HLN.out, ← HB0.out]; omega)]
    obtain ⟨hb, hhb⟩ : ∃ hb, hb = hbR xs := ⟨_, rfl⟩
    obtain ⟨ha, hha⟩ : ∃ ha, ha = haR xs := ⟨_, rfl⟩
    have e5 : ((B0 : Int) % 2 == 1) = hb := by rw [hhb, hbR, ← HB0.out]; simp only [Bool.beq_eq_decide_eq]; congr 1; simp; omega
    have e6 : decide ((2 : Int) ≤ (B0 : Int)) = ha := by rw [hha, haR, ← HB0.out]; simp; omega
    unfold refRecv1 at hR2
    rw [← hhb, HLN.out] at hR2
    have HR2 := Lib.hid hR2; have HHB := Lib.hid hhb; have HHA := Lib.hid hha
    clear hR2 hhb hha
    go_wp2_with fail
    go_quiet (fail)
    have M1 := Lib.hid (M0.out.step ((Step.refl [] W0 o0).drewN nq) (by simp))
    have k1 : (W0.drewN nq).cell? ⟨gA, offA, none⟩ = some (.int .u8 B0) := k0
    have hby1 : ∀ i, i < n → (W0.drewN nq).cell? ⟨gA, offA + i, none⟩ = some (.int .u8 (byteR xs i)) := HBY.out
    obtain ⟨W1, hW1⟩ : ∃ W1, W1 = W0.drewN nq := ⟨_, rfl⟩
    rw [← hW1] at M1 hby1 k1 ⊢
    have hgA1 : gA < W1.heap.size := by rw [hW1]; exact hgA
    have HB1 := Lib.hid hby1
    have HNW1 := Lib.hid (fun dd os => Calls.regrown_of (w := W1) (d := dd) (os := os) (HNW.out _ (M1.out.below.trans ((below_regrown W1 dd os).mono M1.out.below.size)) PA pn pc))
    clear hby1 hW1 HBY k0 e5 e6 hd hd2 q0 q1 q2 q3 q4 l0 l1 f3 f4 z0 z1 z2 z3 z4 y0 y1 y2 y3 y4 M0 hgA
    obtain ⟨a1, ha1⟩ : ∃ a1, a1 = at1R xs := ⟨_, rfl⟩
    obtain ⟨nu, hnu⟩ : ∃ nu, nu = if hb = true then near N (numR xs 1) else 0 := ⟨_, rfl⟩
    have HA1 := Lib.hid ha1; have HNU := Lib.hid hnu
    clear ha1 hnu
    go_upto_if 47 with (fail)
    go_cut [8, 9] (fun s8 s9 wx => s8 = .int .i64 (a1 : Nat) ∧ s9 = .int .i64 nu ∧ Hid (a1 ≤ n ∧ R = refRecv2 ⟨own, other, next, pend, got⟩ xs) ∧ Hid (Below W1.heap.size W1 wx))
    case first => as_aux_lemma =>
      cases hb with
      | false =>
        go_wp2_with fail
        go_meet
        refine ⟨?_, ?_, Lib.hid ⟨?_, ?_⟩, Lib.hid (Below.refl _ _)⟩
        · rw [HA1.out, at1R, ← HHB.out]; rfl
        · rw [HNU.out]; rfl
        · rw [HA1.out, at1R, ← HHB.out]; exact h0
        · rw [HR2.out]; rfl
      | true =>
        by_cases hn3 : n < 3
        · have hd : decide ((n : Int) < 3) = true := by simp; omega
          have HBAD : Hid (R = (⟨own, other, next, pend, got⟩, [], [], 190)) := Lib.hid (by rw [HR2.out, if_pos ⟨rfl, hn3⟩])
          obtain ⟨⟨q0, q1, q2, q3, q4⟩, l0, l1, f3, f4⟩ := M1.out.cb5
          obtain ⟨⟨z0, z1, z2, z3, z4⟩, y0, y1, y2, y3, y4⟩ := M1.out.cz5
          go_wp2_with fail
          obtain ⟨m9, s9⟩ := M1.out.setz5 (.int .i64 own) (.int .i64 other) (.int .i64 next) (.slice PA pn pc) (.slice GA gn gc)
          obtain ⟨W9, hW9⟩ : ∃ W9, W9 = ((((W1.setCell ⟨b + 1, 0, none⟩ (.int .i64 own)).setCell ⟨b + 1, 1, none⟩ (.int .i64 other)).setCell ⟨b + 1, 2, none⟩ (.int .i64 next)).setCell ⟨b + 1, 3, none⟩ (.slice PA pn pc)).setCell ⟨b + 1, 4, none⟩ (.slice GA gn gc) := ⟨_, rfl⟩
          rw [← hW9] at m9 s9 ⊢
          obtain ⟨⟨r0, r1, r2, r3, r4⟩, -⟩ := m9.cz5
          refine bodyPost_ret (v := .tuple #[.agg #[.int .i64 own, .int .i64 other, .int .i64 next, .slice PA pn pc, .slice GA gn gc], .slice none 0 0, .slice none 0 0, .int .i64 190]) (by simp [results, Try.results55, go_sem, r0, r1, r2, r3, r4]) rfl ?_
          exact RRecvTo.bad HBAD.out m9.below HP.out HG.out
        · have hd : decide ((n : Int) < 3) = false := by simp; omega
          have hn1i : (1 : Int) < (n : Int) := by omega
          have hn2i : (2 : Int) < (n : Int) := by omega
          obtain ⟨⟨q0, q1, q2, q3, q4⟩, l0, l1, f3, f4⟩ := M1.out.cb5
          have k2 := HB1.out 1 (by omega); have k3 := HB1.out 2 (by omega)
          obtain ⟨B1, hB1⟩ : ∃ B1, B1 = byteR xs 1 := ⟨_, rfl⟩
          obtain ⟨B2, hB2⟩ : ∃ B2, B2 = byteR xs 2 := ⟨_, rfl⟩
          have h1 : B1 < 256 := by rw [hB1]; exact byteR_lt _ _
          have h2 : B2 < 256 := by rw [hB2]; exact byteR_lt _ _
          rw [← hB1] at k2
          rw [← hB2] at k3
          have hw1 : IntKind.i64.wrap ((B1 : Int) * 256) = (B1 : Int) * 256 := IntWalk.i64_in _ (by omega)
          have hw2 : IntKind.i64.wrap ((B1 : Int) * 256 + (B2 : Int)) = (B1 : Int) * 256 + (B2 : Int) := IntWalk.i64_in _ (by omega)
          have hnr := fun W => rnear_any W N ((B1 : Int) * 256 + (B2 : Int)) (by omega) (by omega) (by omega) (by omega)
          have HNR := Lib.hid (fun dd os => Calls.regrown_of (w := W1) (d := dd) (os := os) ((hnr _).mono fun e w' h => ⟨h.1, by rw [← h.2]; exact Below.refl _ _⟩))
          have HE1 := Lib.hid hB1; have HE2 := Lib.hid hB2
          clear hB1 hB2 hnr
          go_wp2_with fail
          refine wp_region_quiet_below (by kernel_rfl) (by kernel_rfl) ?_
          have v0 := cell_regrown q0; have v1 := cell_regrown q1; have v2 := cell_regrown q2; have v3 := cell_regrown q3; have v4 := cell_regrown q4; have v5 := cell_regrown k2; have v6 := cell_regrown k3
          clear q0 q1 q2 q3 q4 k2 k3 k1
          repeat (go_big_quiet_step (first | (with_reducible exact HNW1.out _ _) | (with_reducible exact HNR.out _ _)))
          refine wpQuiet_nil ?_
          intro wz hw'
          obtain ⟨⟨dq, osq⟩, hw''⟩ := hw'
          have hbq := below_regrown W1 dq osq
          obtain ⟨w9, hw9⟩ : ∃ w9, w9 = grow (redrawn W1 dq) osq := ⟨_, rfl⟩
          rw [← hw9] at hbq
          have hw10 := hw''.trans hw9.symm
          subst hw10
          have HBQ := Lib.hid hbq
          clear hw'' hw9 hbq v0 v1 v2 v3 v4 v5 v6 HNR HNW1 hw1 hw2
          go_wp2_with fail
          go_meet
          refine ⟨?_, ?_, Lib.hid ⟨?_, ?_⟩, HBQ⟩
          · rw [HA1.out, at1R, ← HHB.out]; rfl
          · rw [show nu = near N (numR xs 1) by rw [HNU.out]; rfl, numR, ← HE1.out, ← HE2.out]
          · rw [HA1.out, at1R, ← HHB.out]; simp; omega
          · rw [HR2.out, if_neg (fun h => hn3 h.2)]
    case rest => as_aux_lemma =>
      obtain ⟨rfl, rfl, HR3, HW2⟩ := hcut
      generalize wc = W2 at HW2 ⊢
      have st2 := (Step.refl [] W1 o0).below HW2.out 0
      have M2 := Lib.hid (M1.out.step st2 (by simp))
      obtain ⟨o2, ho2⟩ : ∃ o2, o2 = ext o0 W1.heap.size 0 := ⟨_, rfl⟩
      rw [← ho2] at M2
      have hby2 : ∀ i, i < n → W2.cell? ⟨gA, offA + i, none⟩ = some (.int .u8 (byteR xs i)) := fun i hi => (HW2.out.cell (p := ⟨gA, offA + i, none⟩) hgA1).trans (HB1.out i hi)
      have hgA2 : gA < W2.heap.size := Nat.lt_of_lt_of_le hgA1 HW2.out.size
      have HB2 := Lib.hid hby2
      obtain ⟨ha1n, hR3⟩ := HR3.out
      unfold refRecv2 at hR3
      rw [← HA1.out, ← HHA.out, ← HHB.out, HLN.out, ← HN.out, ← HNU.out] at hR3
      obtain ⟨a2, ha2⟩ : ∃ a2, a2 = at2R xs := ⟨_, rfl⟩
      obtain ⟨ack, hack⟩ : ∃ ack, ack = if ha = true then near (next - 1) (numR xs a1) else 0 := ⟨_, rfl⟩
      obtain ⟨msk, hmsk⟩ : ∃ msk, msk = if ha = true then mskR xs (a1 + 2) else 0 := ⟨_, rfl⟩
      simp only at hR3
      rw [← ha2, ← hack, ← hmsk] at hR3
      have HR4 := Lib.hid hR3; have HA2 := Lib.hid ha2; have HACK := Lib.hid hack; have HMSK := Lib.hid hmsk
      clear hby2 ho2 st2 HB1 k1 hgA1 M1 HW2 HNW1 hR3 ha2 hack hmsk HR2 HR3
      go_upto_if 72 with (fail)
      go_cut [8, 10, 11] (fun s8 s10 s11 wx => s8 = .int .i64 (a2 : Nat) ∧ s10 = .int .i64 ack ∧ s11 = .int .u32 (msk : Nat) ∧ Hid (a2 ≤ n ∧ R = refTail ⟨own, other, next, pend, got⟩ hb ha nu ack msk (xs.drop a2)) ∧ Hid (Below W2.heap.size W2 wx))
      case first => as_aux_lemma =>
        obtain ⟨⟨q0, q1, q2, q3, q4⟩, l0, l1, f3, f4⟩ := M2.out.cb5
        cases ha with
        | false =>
          go_wp2_with fail
          go_meet
          have e2 : a2 = a1 := by rw [HA2.out, at2R, ← HHA.out, HA1.out]; rfl
          refine ⟨by rw [e2], ?_, ?_, Lib.hid ⟨by omega, ?_⟩, Lib.hid (Below.refl _ _)⟩
          · rw [HACK.out]; rfl
          · rw [HMSK.out]; rfl
          · have := HR4.out; rw [if_neg (by simp)] at this; exact this
        | true =>
          have e2 : a2 = a1 + 6 := by rw [HA2.out, at2R, ← HHA.out, HA1.out]; rfl
          by_cases hn3 : n < a1 + 6
          · have hd : decide ((n : Int) < (a1 : Int) + 6) = true := by simp; omega
            have HBAD : Hid (R = (⟨own, other, next, pend, got⟩, [], [], 190)) := Lib.hid (by have := HR4.out; rw [if_pos ⟨rfl, hn3⟩] at this; exact this)
            obtain ⟨⟨z0, z1, z2, z3, z4⟩, y0, y1, y2, y3, y4⟩ := M2.out.cz5
            clear e2
            go_wp2_with fail
            obtain ⟨m9, s9⟩ := M2.out.setz5 (.int .i64 own) (.int .i64 other) (.int .i64 next) (.slice PA pn pc) (.slice GA gn gc)
            obtain ⟨W9, hW9⟩ : ∃ W9, W9 = ((((W2.setCell ⟨b + 1, 0, none⟩ (.int .i64 own)).setCell ⟨b + 1, 1, none⟩ (.int .i64 other)).setCell ⟨b + 1, 2, none⟩ (.int .i64 next)).setCell ⟨b + 1, 3, none⟩ (.slice PA pn pc)).setCell ⟨b + 1, 4, none⟩ (.slice GA gn gc) := ⟨_, rfl⟩
            rw [← hW9] at m9 s9 ⊢
            obtain ⟨⟨r0, r1, r2, r3, r4⟩, -⟩ := m9.cz5
            refine bodyPost_ret (v := .tuple #[.agg #[.int .i64 own, .int .i64 other, .int .i64 next, .slice PA pn pc, .slice GA gn gc], .slice none 0 0, .slice none 0 0, .int .i64 190]) (by simp [results, Try.results55, go_sem, r0, r1, r2, r3, r4]) rfl ?_
            exact RRecvTo.bad HBAD.out m9.below HP.out HG.out
          · have hd : decide ((n : Int) < (a1 : Int) + 6) = false := by simp; omega
            have HR5 : Hid (R = refTail ⟨own, other, next, pend, got⟩ hb true nu ack msk (xs.drop a2)) := Lib.hid (by have := HR4.out; rw [if_neg (fun h => hn3 h.2)] at this; exact this)
            have p0 := HB2.out a1 (by omega); have p1 := HB2.out (a1 + 1) (by omega); have p2 := HB2.out (a1 + 2) (by omega); have p3 := HB2.out (a1 + 3) (by omega); have p4 := HB2.out (a1 + 4) (by omega); have p5 := HB2.out (a1 + 5) (by omega)
            obtain ⟨C0, hC0⟩ : ∃ C, C = byteR xs a1 := ⟨_, rfl⟩
            obtain ⟨C1, hC1⟩ : ∃ C, C = byteR xs (a1 + 1) := ⟨_, rfl⟩
            obtain ⟨C2, hC2⟩ : ∃ C, C = byteR xs (a1 + 2) := ⟨_, rfl⟩
            obtain ⟨C3, hC3⟩ : ∃ C, C = byteR xs (a1 + 3) := ⟨_, rfl⟩
            obtain ⟨C4, hC4⟩ : ∃ C, C = byteR xs (a1 + 4) := ⟨_, rfl⟩
            obtain ⟨C5, hC5⟩ : ∃ C, C = byteR xs (a1 + 5) := ⟨_, rfl⟩
            have h0 : C0 < 256 := by rw [hC0]; exact byteR_lt _ _
            have h1 : C1 < 256 := by rw [hC1]; exact byteR_lt _ _
            have h2 : C2 < 256 := by rw [hC2]; exact byteR_lt _ _
            have h3 : C3 < 256 := by rw [hC3]; exact byteR_lt _ _
            have h4 : C4 < 256 := by rw [hC4]; exact byteR_lt _ _
            have h5 : C5 < 256 := by rw [hC5]; exact byteR_lt _ _
            rw [← hC0] at p0
            rw [← hC1] at p1
            rw [← hC2] at p2
            rw [← hC3] at p3
            rw [← hC4] at p4
            rw [← hC5] at p5
            have hE : Hid (numR xs a1 = (C0 : Int) * 256 + (C1 : Int)) := Lib.hid (by rw [hC0, hC1]; rfl)
            have hM : Hid (mskR xs (a1 + 2) = C2 * 16777216 + C3 * 65536 + C4 * 256 + C5) := Lib.hid (by rw [hC2, hC3, hC4, hC5]; rfl)
            clear hC0 hC1 hC2 hC3 hC4 hC5 HB2 HR4
            have P2 := Lib.hid p2; have P3 := Lib.hid p3; have P4 := Lib.hid p4; have P5 := Lib.hid p5
            have hnr := fun q => (rnear_any (W2.drewN q) (next - 1) ((C0 : Int) * 256 + (C1 : Int)) (by omega) (by omega) (by omega) (by omega)).mono (fun e w' h => (⟨h.1, h.2.symm⟩ : e = _ ∧ w' = W2.drewN q))
            have HNR := Lib.hid hnr
            have i0 : (0 : Int) ≤ (a1 : Int) := by omega
            have i1 : (0 : Int) ≤ (a1 : Int) + 1 := by omega
            have j0 : (a1 : Int) < (n : Int) := by omega
            have j1 : (a1 : Int) + 1 < (n : Int) := by omega
            have t1 : ((a1 : Int) + 1).toNat = a1 + 1 := by omega
            have hb96 : (a1 : Int) + 6 ≤ 140737488355328 := by omega
            have u0 : IntKind.i64.wrap (a1 : Int) = (a1 : Int) := IntWalk.i64_in _ (by omega)
            have u1 : IntKind.i64.wrap ((a1 : Int) + 1) = (a1 : Int) + 1 := IntWalk.i64_in _ (by omega)
            have w1 : IntKind.i64.wrap ((C0 : Int) * 256) = (C0 : Int) * 256 := IntWalk.i64_in _ (by omega)
            have w2 : IntKind.i64.wrap ((C0 : Int) * 256 + (C1 : Int)) = (C0 : Int) * 256 + (C1 : Int) := IntWalk.i64_in _ (by omega)
            have w3 : IntKind.i64.wrap (next - 1) = next - 1 := IntWalk.i64_in _ (by omega)
            clear hnr p2 p3 p4 p5 HNW HP HG HS HR
            go_upto_region 14 with fail
            go_quiet ((go_at_call 71; with_reducible exact Calls.quiet_of_same (HNR.out _)))
            clear u0 u1 w1 w2 w3 t1 p0 p1 j1 i1 HNR
            obtain ⟨W3, hW3⟩ : ∃ W3, W3 = W2.drewN nq := ⟨_, rfl⟩
            have r2 : W3.cell? ⟨gA, offA + (a1 + 2), none⟩ = some (.int .u8 C2) := by rw [hW3]; exact P2.out
            have r3 : W3.cell? ⟨gA, offA + (a1 + 3), none⟩ = some (.int .u8 C3) := by rw [hW3]; exact P3.out
            have r4 : W3.cell? ⟨gA, offA + (a1 + 4), none⟩ = some (.int .u8 C4) := by rw [hW3]; exact P4.out
            have r5 : W3.cell? ⟨gA, offA + (a1 + 5), none⟩ = some (.int .u8 C5) := by rw [hW3]; exact P5.out
            have HB3 : Hid (Below W2.heap.size W2 W3) := Lib.hid (by rw [hW3]; exact below_drewN (Below.refl _ _) _)
            rw [← hW3]
            have i2 : (0 : Int) ≤ (a1 : Int) + 2 := by omega
            have i3 : (0 : Int) ≤ (a1 : Int) + 3 := by omega
            have i4 : (0 : Int) ≤ (a1 : Int) + 4 := by omega
            have i5 : (0 : Int) ≤ (a1 : Int) + 5 := by omega
            have j2 : (a1 : Int) + 2 < (n : Int) := by omega
            have j3 : (a1 : Int) + 3 < (n : Int) := by omega
            have j4 : (a1 : Int) + 4 < (n : Int) := by omega
            have j5 : (a1 : Int) + 5 < (n : Int) := by omega
            have t2 : ((a1 : Int) + 2).toNat = a1 + 2 := by omega
            have t3 : ((a1 : Int) + 3).toNat = a1 + 3 := by omega
            have t4 : ((a1 : Int) + 4).toNat = a1 + 4 := by omega
            have t5 : ((a1 : Int) + 5).toNat = a1 + 5 := by omega
            have u2 : IntKind.i64.wrap ((a1 : Int) + 2) = (a1 : Int) + 2 := IntWalk.i64_in _ (by omega)
            have u3 : IntKind.i64.wrap ((a1 : Int) + 3) = (a1 : Int) + 3 := IntWalk.i64_in _ (by omega)
            have u4 : IntKind.i64.wrap ((a1 : Int) + 4) = (a1 : Int) + 4 := IntWalk.i64_in _ (by omega)
            have u5 : IntKind.i64.wrap ((a1 : Int) + 5) = (a1 : Int) + 5 := IntWalk.i64_in _ (by omega)
            clear hW3 q0 q1 q2 q3 q4 P2 P3 P4 P5 f3 f4 l0 l1
            go_wp2_with fail
            go_quiet (fail)
            have HB4 := Lib.hid (below_drewN HB3.out nq)
            clear u2 u3 u4 u5 t2 t3 t4 t5 i2 i3 i4 i5 j2 j3 j4 j5 r2 r3 r4 r5 HB3
            go_wp2_with fail
            go_meet
            refine ⟨by rw [e2]; go_num, ?_, ?_, Lib.hid ⟨by omega, HR5.out⟩, HB4⟩
            · rw [show ack = near (next - 1) (numR xs a1) by rw [HACK.out]; rfl, hE.out]
            · rw [show msk = mskR xs (a1 + 2) by rw [HMSK.out]; rfl, hM.out]; go_num
      case rest => as_aux_lemma =>
        obtain ⟨rfl, rfl, rfl, HR6, HW3⟩ := hcut
        generalize wc = W3 at HW3 ⊢
        have st3 := (Step.refl [] W2 o2).below HW3.out 0
        have M3 := Lib.hid (M2.out.step st3 (by simp))
        obtain ⟨o3, ho3⟩ : ∃ o3, o3 = ext o2 W2.heap.size 0 := ⟨_, rfl⟩
        rw [← ho3] at M3
        clear ho3 st3
        obtain ⟨ha2n, hR6⟩ := HR6.out
        have hm32 : msk < 4294967296 := by rw [HMSK.out]; split; exact mskR_lt _ _; omega
        have hab : -100000 ≤ ack ∧ ack ≤ 4000000000000 := by
          rw [HACK.out]; split
          · have := near_bd (next - 1) (numR xs a1); omega
          · omega
        obtain ⟨hab0, hab1⟩ := hab
        obtain ⟨B, hB1, hB2⟩ := run_tailA Try.prog 41 5 (.int .u8 0) 1 1 Try.underlying41 (by kernel_rfl) (some ⟨gA, offA, none⟩) n c a2 ha2n hc1
        have hbody : Sl w τ' τ2 1 B (n - a2) (c - a2) (byts (xs.drop a2)) := by
          have := HS.out.cut (i := a2) (j := n) ha2n (Nat.le_refl _) B (fun g off e h => hB2 h g off e)
          rw [Nat.mul_one, Nat.mul_one] at this
          have e : List.take (n - a2) (List.drop a2 (byts xs)) = byts (xs.drop a2) := by
            rw [List.take_of_length_le (by simp; have := HLN.out; omega)]
            simp [byts]
          rwa [e] at this
        obtain ⟨bn, hbn⟩ : ∃ bn, bn = n - a2 := ⟨_, rfl⟩
        obtain ⟨bc, hbc⟩ : ∃ bc, bc = c - a2 := ⟨_, rfl⟩
        obtain ⟨body, hbd⟩ : ∃ body, body = xs.drop a2 := ⟨_, rfl⟩
        rw [← hbn, ← hbc] at hB1
        rw [← hbn, ← hbc, ← hbd] at hbody
        rw [← hbd] at hR6
        have hblen : body.length = bn := by have := hbody.1; simpa using this
        have hbn2 : bn ≤ n := by omega
        have HRA := Lib.hid hR6; have HBO := Lib.hid hbody; have HBL := Lib.hid hblen
        clear hbn hbc hbd hB2 hbody hR6 HR6 hblen HA1 HNU HA2 HACK HMSK HB2 hgA2 HHB HHA HB0 hB ha2n M2 HW3
        obtain ⟨⟨q0, q1, q2, q3, q4⟩, l0, l1, f3, f4⟩ := M3.out.cb5
        go_upto_region 18 with fail
        obtain ⟨bad, hbad⟩ : ∃ bad, bad = badR ⟨own, other, next, pend, got⟩ hb nu body := ⟨_, rfl⟩
        have HBD := Lib.hid hbad
        clear hbad
        obtain ⟨b1, hb1⟩ : ∃ b, b = decide ((0 : Int) < (bn : Int)) := ⟨_, rfl⟩
        obtain ⟨b2, hb2⟩ : ∃ b, b = decide ((1191 : Int) < (bn : Int)) := ⟨_, rfl⟩
        obtain ⟨b3, hb3⟩ : ∃ b, b = decide (nu < other) := ⟨_, rfl⟩
        have hbv : bad = ((hb != b1) || b2 || (hb && b3)) := by
          have e : decide ((1191 : Int) < (bn : Int)) = decide (1191 < bn) := decide_eq_decide.2 (by omega)
          rw [HBD.out, badR, HBL.out, hb1, hb2, hb3, e]
          simp
        have HBV := Lib.hid hbv
        have HE1 := Lib.hid hb1; have HE2 := Lib.hid hb2
        have e1 := hb1.symm; have e2 := hb2.symm; have e3 := hb3.symm
        clear hbv hb1 hb2 hb3
        go_cut [14, 149] (fun s14 s149 wx => s14 = .slice B bn bc ∧ s149 = .bool bad ∧ wx = W3)
        case first => as_aux_lemma =>
          have hb1c : (b1 = true ∧ 0 < bn) ∨ (b1 = false ∧ ¬ 0 < bn) := by
            by_cases h : 0 < bn
            · exact .inl ⟨by rw [HE1.out]; simp; omega, h⟩
            · exact .inr ⟨by rw [HE1.out]; simp; omega, h⟩
          clear e1
          rcases hb1c with ⟨rfl, g1⟩ | ⟨rfl, g1⟩ <;> cases hb <;> cases b2 <;> cases b3
          all_goals first
            | (exfalso; have g1 := HE1.out; have g2 := HE2.out; simp only [Bool.false_eq, Bool.true_eq, decide_eq_false_iff_not, decide_eq_true_eq] at g1 g2; omega)
            | (go_wp2_with fail
               go_meet
               exact ⟨by first | rfl | rw [show bn = 0 by have h := HE1.out; simp at h; omega], by rw [HBV.out]; rfl, rfl⟩)
        case rest => as_aux_lemma =>
          obtain ⟨rfl, rfl, rfl⟩ := hcut
          clear HE1 HE2
          generalize wc = W3 at M3 q0 q1 q2 q3 q4 l0 l1 f3 f4 ⊢
          cases bad with
          | true =>
            have HBAD : Hid (R = (⟨own, other, next, pend, got⟩, [], [], 190)) := Lib.hid (by rw [HRA.out]; unfold refTail; rw [if_pos HBD.out.symm])
            obtain ⟨⟨z0, z1, z2, z3, z4⟩, y0, y1, y2, y3, y4⟩ := M3.out.cz5
            go_wp2_with fail
            obtain ⟨m9, s9⟩ := M3.out.setz5 (.int .i64 own) (.int .i64 other) (.int .i64 next) (.slice PA pn pc) (.slice GA gn gc)
            obtain ⟨W9, hW9⟩ : ∃ W9, W9 = ((((W3.setCell ⟨b + 1, 0, none⟩ (.int .i64 own)).setCell ⟨b + 1, 1, none⟩ (.int .i64 other)).setCell ⟨b + 1, 2, none⟩ (.int .i64 next)).setCell ⟨b + 1, 3, none⟩ (.slice PA pn pc)).setCell ⟨b + 1, 4, none⟩ (.slice GA gn gc) := ⟨_, rfl⟩
            rw [← hW9] at m9 s9 ⊢
            obtain ⟨⟨r0, r1, r2, r3, r4⟩, -⟩ := m9.cz5
            refine bodyPost_ret (v := .tuple #[.agg #[.int .i64 own, .int .i64 other, .int .i64 next, .slice PA pn pc, .slice GA gn gc], .slice none 0 0, .slice none 0 0, .int .i64 190]) (by simp [results, Try.results55, go_sem, r0, r1, r2, r3, r4]) rfl ?_
            exact RRecvTo.bad HBAD.out m9.below HP.out HG.out
          | false =>
            have HBDF := HBD
            clear HBD HBV e1 e2 e3 b1 b2 b3
            go_upto_if 151 with (fail)
            go_cut [15] (fun s15 wx => ∃ (o5 : Own) (A5 : Option Addr) (n5 c5 : Nat), s15 = .slice A5 n5 c5 ∧ n5 ≤ 33 ∧ Hid (RcSt w wx o5 b #[.int .i64 own, .int .i64 other, .int .i64 next, .slice PA pn pc, .slice GA gn gc] #[.int .i64 0, .int .i64 0, .int .i64 0, .slice none 0 0, .slice none 0 0] ∧ Row wx o5 5 3 1 A5 n5 c5 (ints (nmR ha ack msk))))
            case first => as_aux_lemma =>
              cases ha with
              | false =>
                go_wp2_with fail
                go_meet
                exact ⟨o3, none, 0, 0, rfl, by omega, Lib.hid ⟨M3.out, Row.nil_ _ _ _ _ _⟩⟩
              | true =>
                have sA := (Step.refl [] W3 o3).alloc (.cells #[.int .i64 ack] 3) 0
                go_upto_region 24 with (at_builtin; refine wpList_append_row _ rfl (.tmp 152) (.tmp 154) _ rfl el_int (ext o3 W3.heap.size 0) 5 none 0 0 [] rfl (Row.nil_ _ _ _ _ _) _ _ _ 1 1 _ rfl (Sl.fresh W3 3 1 1 [.int .i64 ack] rfl (by decide)) (by simp [Value.oneCell']) (by omega) (by simp only [maxLen]; omega) ?_; intro A5 c5 w5 hr5 hg5 hat5; have st5 := Step.append (Row.nil_ (W3.alloc (.cells #[.int .i64 ack] 3)) (ext o3 W3.heap.size 0) 5 3 1) hg5 5; have M5 := Lib.hid ((M3.out.step sA (by simp)).step st5 (by simp)); have R5 := Lib.hid hr5; clear hr5 hg5 hat5 st5 q0 q1 q2 q3 q4 l0 l1 f3 f4)
                obtain ⟨o5, ho5⟩ : ∃ o5, o5 = ext (ext o3 W3.heap.size 0) (W3.alloc (.cells #[.int .i64 ack] 3)).heap.size 5 := ⟨_, rfl⟩
                rw [← ho5] at M5 R5
                clear ho5 sA M3
                go_loopw [15, 16] (fun s15 s16 wr => ∃ (k : Nat) (o' : Own) (A' : Option Addr) (n' c' : Nat), k ≤ 32 ∧ s16 = .int .i64 k ∧ s15 = .slice A' n' c' ∧ n' ≤ k + 1 ∧ Hid (RcSt w wr o' b #[.int .i64 own, .int .i64 other, .int .i64 next, .slice PA pn pc, .slice GA gn gc] #[.int .i64 0, .int .i64 0, .int .i64 0, .slice none 0 0, .slice none 0 0] ∧ Row wr o' 5 3 1 A' n' c' (ints (namedR ack msk k)))) (fun _ s16 _ => 32 - (intOf s16).toNat)
                case atStart => exact ⟨0, o5, A5, 1, c5, by omega, rfl, rfl, by omega, Lib.hid ⟨M5.out, R5.out⟩⟩
                case round => as_aux_lemma =>
                  clear M5 R5
                  obtain ⟨k, o', A', n', c', hk, rfl, rfl, hn', HI⟩ := hrel
                  by_cases hlt : k < 32
                  · have hbit := bit_u32 msk k hm32
                    have hdk : decide ((k : Int) < 32) = true := by simp; omega
                    obtain ⟨bt, hbt⟩ : ∃ bt, bt = msk.testBit k := ⟨_, rfl⟩
                    rw [← hbt] at hbit
                    have HBT := Lib.hid hbt
                    clear hbt
                    cases bt with
                    | false =>
                      go_wp2_with fail
                      go_roundw
                      case rel => exact ⟨k + 1, o', A', n', c', by omega, by go_num, rfl, by omega, Lib.hid ⟨HI.out.1, by have := HI.out.2; simp only [namedR]; rw [← HBT.out]; simpa using this⟩⟩
                      case measure => simp [intOf]; omega
                    | true =>
                      have sA := (Step.refl [] wr o').alloc (.cells #[.int .i64 (ack - 1 - (k : Int))] 3) 0
                      have MA := Lib.hid (HI.out.1.step sA (by simp)); have RA := Lib.hid (HI.out.2.step sA (by simp))
                      clear sA
                      go_wp2_with (at_builtin; refine wpList_append_row _ rfl (.tmp 165) (.tmp 170) _ rfl el_int (ext o' wr.heap.size 0) 5 A' n' c' _ rfl RA.out _ _ _ 1 1 _ rfl (Sl.fresh wr 3 1 1 [.int .i64 (ack - 1 - (k : Int))] rfl (by decide)) (by simp [Value.oneCell']) (by omega) (by simp only [maxLen]; omega) ?_; intro A5 c5 w5 hr5 hg5 hat5; have st5 := Step.append RA.out hg5 5; have M5 := Lib.hid (MA.out.step st5 (by simp)); have R5 := Lib.hid hr5; clear hr5 hg5 hat5 st5)
                      go_roundw
                      case rel => exact ⟨k + 1, _, A5, n' + 1, c5, by omega, by go_num, rfl, by omega, Lib.hid ⟨M5.out, by have := R5.out; simp only [namedR]; rw [← HBT.out]; simpa [ints] using this⟩⟩
                      case measure => simp [intOf]; omega
                  · obtain rfl : k = 32 := by omega
                    go_wp2_with fail
                    go_meet
                    exact ⟨o', A', n', c', rfl, by omega, HI⟩
            case rest => as_aux_lemma =>
              obtain ⟨o5, A5, n5, c5, rfl, hn5, HQ⟩ := hcut
              generalize wc = W5 at HQ ⊢
              obtain ⟨nm, hnm⟩ : ∃ nm, nm = nmR ha ack msk := ⟨_, rfl⟩
              rw [← hnm] at HQ
              have HNM := Lib.hid hnm
              have hbv := HBDF.out
              have hRA2 := HRA.out
              unfold refTail at hRA2
              rw [if_neg (by rw [← hbv]; decide), ← hnm] at hRA2
              have HRB := Lib.hid hRA2
              have M5 := Lib.hid HQ.out.1; have R5 := Lib.hid HQ.out.2
              clear hnm hbv hRA2 HRA M3 q0 q1 q2 q3 q4 l0 l1 f3 f4 HQ HBDF
              obtain ⟨⟨q0, q1, q2, q3, q4⟩, l0, l1, f3, f4⟩ := M5.out.cb5
              obtain ⟨⟨z0, z1, z2, z3, z4⟩, y0, y1, y2, y3, y4⟩ := M5.out.cz5
              go_wp2_with fail
              go_loopw [17] (fun s17 wr => ∃ (i q : Nat), i ≤ n5 ∧ s17 = .int .i64 i ∧ wr = W5.drewN q ∧ Hid (outR ⟨own, other, next, pend, got⟩ (nm.take i) = false)) (fun s17 _ => n5 - (intOf s17).toNat)
              case atStart => exact ⟨0, 0, Nat.zero_le _, rfl, rfl, Lib.hid rfl⟩
              case round => as_aux_lemma =>
                obtain ⟨i, q, hi, rfl, rfl, HI⟩ := hrel
                by_cases hlt : i < n5
                ·
                  obtain ⟨g5, off5, x, hA5, hg5, hx, hc5⟩ := R5.out.sl.int_at hlt
                  subst hA5
                  have hout : outR ⟨own, other, next, pend, got⟩ (nm.take (i + 1)) = (decide (x < own) || decide (next ≤ x)) := by
                    rw [List.take_add_one, hx]
                    unfold outR at *
                    rw [List.any_append, HI.out]
                    simp
                  have hall : outR ⟨own, other, next, pend, got⟩ (nm.take (i + 1)) = true → outR ⟨own, other, next, pend, got⟩ nm = true := by
                    unfold outR
                    intro h
                    rw [← List.take_append_drop (i + 1) nm, List.any_append, h]; rfl
                  have HOUT := Lib.hid hout; have HALL := Lib.hid hall
                  have hi0 : (0 : Int) ≤ (i : Int) := by omega
                  have hii : (i : Int) < (n5 : Int) := by omega
                  have hwi : IntKind.i64.wrap (i : Int) = (i : Int) := IntWalk.i64_in _ (by omega)
                  clear hx hout hall
                  by_cases hx1 : x < own
                  · have d1 : decide (x < own) = true := by simpa using hx1
                    have HBAD : Hid (R = (⟨own, other, next, pend, got⟩, [], [], 190)) := Lib.hid (by rw [HRB.out, if_pos (HALL.out (by rw [HOUT.out, d1]; rfl))])
                    go_wp2_with fail
                    go_quiet (fail)
                    have M6 := Lib.hid (M5.out.step (((Step.refl [] W5 o5).drewN q).drewN nq) (by simp))
                    obtain ⟨W6, hW6⟩ : ∃ W6, W6 = (W5.drewN q).drewN nq := ⟨_, rfl⟩
                    rw [← hW6] at M6 ⊢
                    clear hW6 q0 q1 q2 q3 q4 l0 l1 f3 f4 z0 z1 z2 z3 z4 y0 y1 y2 y3 y4
                    obtain ⟨⟨q0, q1, q2, q3, q4⟩, l0, l1, f3, f4⟩ := M6.out.cb5
                    obtain ⟨⟨z0, z1, z2, z3, z4⟩, y0, y1, y2, y3, y4⟩ := M6.out.cz5
                    go_wp2_with fail
                    obtain ⟨m9, s9⟩ := M6.out.setz5 (.int .i64 own) (.int .i64 other) (.int .i64 next) (.slice PA pn pc) (.slice GA gn gc)
                    obtain ⟨W9, hW9⟩ : ∃ W9, W9 = ((((W6.setCell ⟨b + 1, 0, none⟩ (.int .i64 own)).setCell ⟨b + 1, 1, none⟩ (.int .i64 other)).setCell ⟨b + 1, 2, none⟩ (.int .i64 next)).setCell ⟨b + 1, 3, none⟩ (.slice PA pn pc)).setCell ⟨b + 1, 4, none⟩ (.slice GA gn gc) := ⟨_, rfl⟩
                    rw [← hW9] at m9 s9 ⊢
                    obtain ⟨⟨r0, r1, r2, r3, r4⟩, -⟩ := m9.cz5
                    refine bodyPost_ret (v := .tuple #[.agg #[.int .i64 own, .int .i64 other, .int .i64 next, .slice PA pn pc, .slice GA gn gc], .slice none 0 0, .slice none 0 0, .int .i64 190]) (by simp [results, Try.results55, go_sem, r0, r1, r2, r3, r4]) rfl ?_
                    exact RRecvTo.bad HBAD.out m9.below HP.out HG.out
                  by_cases hx2 : next ≤ x
                  · have d1 : decide (x < own) = false := by simpa using hx1
                    have d2 : decide (next ≤ x) = true := by simpa using hx2
                    have HBAD : Hid (R = (⟨own, other, next, pend, got⟩, [], [], 190)) := Lib.hid (by rw [HRB.out, if_pos (HALL.out (by rw [HOUT.out, d1, d2]; rfl))])
                    go_wp2_with fail
                    go_quiet (fail)
                    have M6 := Lib.hid (M5.out.step (((Step.refl [] W5 o5).drewN q).drewN nq) (by simp))
                    obtain ⟨W6, hW6⟩ : ∃ W6, W6 = (W5.drewN q).drewN nq := ⟨_, rfl⟩
                    rw [← hW6] at M6 ⊢
                    clear hW6 q0 q1 q2 q3 q4 l0 l1 f3 f4 z0 z1 z2 z3 z4 y0 y1 y2 y3 y4
                    obtain ⟨⟨q0, q1, q2, q3, q4⟩, l0, l1, f3, f4⟩ := M6.out.cb5
                    obtain ⟨⟨z0, z1, z2, z3, z4⟩, y0, y1, y2, y3, y4⟩ := M6.out.cz5
                    go_wp2_with fail
                    obtain ⟨m9, s9⟩ := M6.out.setz5 (.int .i64 own) (.int .i64 other) (.int .i64 next) (.slice PA pn pc) (.slice GA gn gc)
                    obtain ⟨W9, hW9⟩ : ∃ W9, W9 = ((((W6.setCell ⟨b + 1, 0, none⟩ (.int .i64 own)).setCell ⟨b + 1, 1, none⟩ (.int .i64 other)).setCell ⟨b + 1, 2, none⟩ (.int .i64 next)).setCell ⟨b + 1, 3, none⟩ (.slice PA pn pc)).setCell ⟨b + 1, 4, none⟩ (.slice GA gn gc) := ⟨_, rfl⟩
                    rw [← hW9] at m9 s9 ⊢
                    obtain ⟨⟨r0, r1, r2, r3, r4⟩, -⟩ := m9.cz5
                    refine bodyPost_ret (v := .tuple #[.agg #[.int .i64 own, .int .i64 other, .int .i64 next, .slice PA pn pc, .slice GA gn gc], .slice none 0 0, .slice none 0 0, .int .i64 190]) (by simp [results, Try.results55, go_sem, r0, r1, r2, r3, r4]) rfl ?_
                    exact RRecvTo.bad HBAD.out m9.below HP.out HG.out
                  have d1 : decide (x < own) = false := by simpa using hx1
                  have d2 : decide (next ≤ x) = false := by simpa using hx2
                  go_wp2_with fail
                  go_quiet (fail)
                  go_wp2_with fail
                  go_roundw
                  case rel => exact ⟨i + 1, q + nq, by omega, by go_num, by first | rfl | rw [World.drewN_drewN], Lib.hid (by rw [HOUT.out, d1, d2]; rfl)⟩
                  case measure => simp [intOf]; omega
                · obtain rfl : i = n5 := by omega
                  have hno : outR ⟨own, other, next, pend, got⟩ nm = false := by
                    have := HI.out
                    rwa [List.take_of_length_le (by have := R5.out.len; simp only [ints, List.length_map, Nat.mul_one] at this; omega)] at this
                  have hR7 := HRB.out
                  rw [if_neg (by rw [hno]; decide)] at hR7
                  have HRC := Lib.hid hR7
                  have st6 := (Step.refl [] W5 o5).drewN q
                  have M6 := Lib.hid (M5.out.step st6 (by simp)); have R6 := Lib.hid (R5.out.step st6 (by simp))
                  obtain ⟨W6, hW6⟩ : ∃ W6, W6 = W5.drewN q := ⟨_, rfl⟩
                  rw [← hW6] at M6 R6 ⊢
                  clear hno hR7 HRB HI st6 hW6 M5 R5 q0 q1 q2 q3 q4 l0 l1 f3 f4 z0 z1 z2 z3 z4 y0 y1 y2 y3 y4
                  go_wp2_with fail
                  go_loopw [18, 19, 20] (fun s18 s19 s20 wr => ∃ (k : Nat) (o' : Own) (RA : Option Addr) (rn rc : Nat) (LA : Option Addr) (ln lc : Nat), k ≤ pn ∧ s20 = .int .i64 k ∧ s18 = .slice RA rn rc ∧ s19 = .slice LA ln lc ∧ rn ≤ k ∧ ln ≤ k ∧ Hid (RcSt w wr o' b #[.int .i64 own, .int .i64 other, .int .i64 next, .slice PA pn pc, .slice GA gn gc] #[.int .i64 0, .int .i64 0, .int .i64 0, .slice none 0 0, .slice none 0 0] ∧ Row wr o' 5 3 1 A5 i c5 (ints nm) ∧
                      Row wr o' 6 144 2 RA rn rc (reps (repR nm ha ack (pend.take k))) ∧ Row wr o' 7 3 1 LA ln lc (ints (leftR nm ha ack (pend.take k))))) (fun _ _ s20 _ => pn - (intOf s20).toNat)
                  case atStart => exact ⟨0, o5, none, 0, 0, none, 0, 0, Nat.zero_le _, rfl, rfl, rfl, Nat.le_refl _, Nat.le_refl _, Lib.hid ⟨M6.out, R6.out, Row.nil_ _ _ _ _ _, Row.nil_ _ _ _ _ _⟩⟩
                  case round => as_aux_lemma =>
                    clear M6 R6
                    obtain ⟨k, o', RA, rn, rc, LA, ln, lc, hk, rfl, rfl, rfl, hrn, hln, HI⟩ := hrel
                    by_cases hlt3 : k < pn
                    ·
                      have hP' := HP.out.below HI.out.1.below
                      obtain ⟨gp, offp, x, hPA, hgp, hx, hcp⟩ := hP'.int_at hlt3
                      have hsr := repR_snoc nm ha ack (pend.take k) x
                      have hsl := leftR_snoc nm ha ack (pend.take k) x
                      rw [show pend.take k ++ [x] = pend.take (k + 1) by rw [List.take_add_one, hx]; rfl] at hsr hsl
                      subst hPA
                      obtain ⟨⟨q0, q1, q2, q3, q4⟩, l0, l1, f3, f4⟩ := HI.out.1.cb5
                      have hha := has_any wr o' 5 A5 i c5 nm x HI.out.2.1.sl
                      obtain ⟨bt, hbt⟩ : ∃ bt, bt = nm.contains x := ⟨_, rfl⟩
                      rw [← hbt] at hha hsr hsl
                      obtain ⟨b2, hb2⟩ : ∃ b2, b2 = decide (x < ack - 32) := ⟨_, rfl⟩
                      have e2 := hb2.symm
                      have HB2 := Lib.hid hb2
                      have HHA := Lib.hid hha
                      have hkz : (0 : Int) ≤ (k : Int) := by omega
                      have hki : (k : Int) < (pn : Int) := by omega
                      clear hP' hx hha hbt hb2
                      cases bt with
                      | true =>
                        rw [if_pos rfl] at hsr hsl
                        have HSR := Lib.hid hsr; have HSL := Lib.hid hsl
                        clear hsr hsl
                        have sA := (Step.refl [] wr o').alloc (.cells #[.int .i64 x, .bool true] 144) 0
                        have MA := Lib.hid (HI.out.1.step sA (by simp)); have RA5 := Lib.hid (HI.out.2.1.step sA (by simp)); have RA6 := Lib.hid (HI.out.2.2.1.step sA (by simp)); have RA7 := Lib.hid (HI.out.2.2.2.step sA (by simp))
                        clear sA
                        go_wp2_with (first
                          | (go_at_call 73; refine HHA.out.mono ?_; rintro e w' ⟨rfl, rfl⟩)
                          | (at_builtin; refine wpList_append_row _ rfl (.tmp 210) (.tmp 213) _ rfl el_rrep (ext o' wr.heap.size 0) 6 RA rn rc _ rfl RA6.out _ _ _ 1 1 _ rfl (Sl.fresh wr 144 2 1 [.int .i64 x, .bool true] rfl (by decide)) (by simp [Value.oneCell']) (by omega) (by simp only [maxLen]; omega) ?_; intro A8 c8 w8 hr8 hg8 hat8; have st8 := Step.append RA6.out hg8 6; have M8 := Lib.hid (MA.out.step st8 (by simp)); have R85 := Lib.hid (RA5.out.step st8 (by decide)); have R86 := Lib.hid hr8; have R87 := Lib.hid (RA7.out.step st8 (by decide)); clear hr8 hg8 hat8 st8))
                        go_roundw
                        case rel => exact ⟨k + 1, _, A8, rn + 1, c8, LA, ln, lc, by omega, by go_num, rfl, rfl, by omega, by omega, Lib.hid ⟨M8.out, R85.out, by have := R86.out; rw [HSR.out]; simpa [reps] using this, by have := R87.out; rw [HSL.out]; simpa using this⟩⟩
                        case measure => simp [intOf]; omega
                      | false =>
                        rw [if_neg (by decide)] at hsr hsl
                        cases ha with
                        | false =>
                          rw [if_neg (fun h => by cases h.1)] at hsr hsl
                          have HSR := Lib.hid hsr; have HSL := Lib.hid hsl
                          clear hsr hsl
                          have sA := (Step.refl [] wr o').alloc (.cells #[.int .i64 x] 3) 0
                          have MA := Lib.hid (HI.out.1.step sA (by simp)); have RA5 := Lib.hid (HI.out.2.1.step sA (by simp)); have RA6 := Lib.hid (HI.out.2.2.1.step sA (by simp)); have RA7 := Lib.hid (HI.out.2.2.2.step sA (by simp))
                          clear sA
                          go_wp2_with (first
                            | (go_at_call 73; refine HHA.out.mono ?_; rintro e w' ⟨rfl, rfl⟩)
                            | (at_builtin; refine wpList_append_row _ rfl (.tmp 227) (.tmp 229) _ rfl el_int (ext o' wr.heap.size 0) 7 LA ln lc _ rfl RA7.out _ _ _ 1 1 _ rfl (Sl.fresh wr 3 1 1 [.int .i64 x] rfl (by decide)) (by simp [Value.oneCell']) (by omega) (by simp only [maxLen]; omega) ?_; intro A8 c8 w8 hr8 hg8 hat8; have st8 := Step.append RA7.out hg8 7; have M8 := Lib.hid (MA.out.step st8 (by simp)); have R85 := Lib.hid (RA5.out.step st8 (by decide)); have R87 := Lib.hid hr8; have R86 := Lib.hid (RA6.out.step st8 (by decide)); clear hr8 hg8 hat8 st8))
                          go_roundw
                          case rel => exact ⟨k + 1, _, RA, rn, rc, A8, ln + 1, c8, by omega, by go_num, rfl, rfl, by omega, by omega, Lib.hid ⟨M8.out, R85.out, by have := R86.out; rw [HSR.out]; simpa using this, by have := R87.out; rw [HSL.out]; simpa [ints] using this⟩⟩
                          case measure => simp [intOf]; omega
                        | true =>
                          cases b2 with
                          | true =>
                            rw [if_pos ⟨rfl, by have := HB2.out; simpa using this.symm⟩] at hsr hsl
                            have HSR := Lib.hid hsr; have HSL := Lib.hid hsl
                            clear hsr hsl
                            have sA := (Step.refl [] wr o').alloc (.cells #[.int .i64 x, .bool false] 144) 0
                            have MA := Lib.hid (HI.out.1.step sA (by simp)); have RA5 := Lib.hid (HI.out.2.1.step sA (by simp)); have RA6 := Lib.hid (HI.out.2.2.1.step sA (by simp)); have RA7 := Lib.hid (HI.out.2.2.2.step sA (by simp))
                            clear sA
                            go_wp2_with (first
                              | (go_at_call 73; refine HHA.out.mono ?_; rintro e w' ⟨rfl, rfl⟩)
                              | (at_builtin; refine wpList_append_row _ rfl (.tmp 222) (.tmp 225) _ rfl el_rrep (ext o' wr.heap.size 0) 6 RA rn rc _ rfl RA6.out _ _ _ 1 1 _ rfl (Sl.fresh wr 144 2 1 [.int .i64 x, .bool false] rfl (by decide)) (by simp [Value.oneCell']) (by omega) (by simp only [maxLen]; omega) ?_; intro A8 c8 w8 hr8 hg8 hat8; have st8 := Step.append RA6.out hg8 6; have M8 := Lib.hid (MA.out.step st8 (by simp)); have R85 := Lib.hid (RA5.out.step st8 (by decide)); have R86 := Lib.hid hr8; have R87 := Lib.hid (RA7.out.step st8 (by decide)); clear hr8 hg8 hat8 st8))
                            go_roundw
                            case rel => exact ⟨k + 1, _, A8, rn + 1, c8, LA, ln, lc, by omega, by go_num, rfl, rfl, by omega, by omega, Lib.hid ⟨M8.out, R85.out, by have := R86.out; rw [HSR.out]; simpa [reps] using this, by have := R87.out; rw [HSL.out]; simpa using this⟩⟩
                            case measure => simp [intOf]; omega
                          | false =>
                            rw [if_neg (fun h => by have h1 := HB2.out.symm; simp only [decide_eq_false_iff_not] at h1; exact h1 h.2)] at hsr hsl
                            have HSR := Lib.hid hsr; have HSL := Lib.hid hsl
                            clear hsr hsl
                            have sA := (Step.refl [] wr o').alloc (.cells #[.int .i64 x] 3) 0
                            have MA := Lib.hid (HI.out.1.step sA (by simp)); have RA5 := Lib.hid (HI.out.2.1.step sA (by simp)); have RA6 := Lib.hid (HI.out.2.2.1.step sA (by simp)); have RA7 := Lib.hid (HI.out.2.2.2.step sA (by simp))
                            clear sA
                            go_wp2_with (first
                              | (go_at_call 73; refine HHA.out.mono ?_; rintro e w' ⟨rfl, rfl⟩)
                              | (at_builtin; refine wpList_append_row _ rfl (.tmp 227) (.tmp 229) _ rfl el_int (ext o' wr.heap.size 0) 7 LA ln lc _ rfl RA7.out _ _ _ 1 1 _ rfl (Sl.fresh wr 3 1 1 [.int .i64 x] rfl (by decide)) (by simp [Value.oneCell']) (by omega) (by simp only [maxLen]; omega) ?_; intro A8 c8 w8 hr8 hg8 hat8; have st8 := Step.append RA7.out hg8 7; have M8 := Lib.hid (MA.out.step st8 (by simp)); have R85 := Lib.hid (RA5.out.step st8 (by decide)); have R87 := Lib.hid hr8; have R86 := Lib.hid (RA6.out.step st8 (by decide)); clear hr8 hg8 hat8 st8))
                            go_roundw
                            case rel => exact ⟨k + 1, _, RA, rn, rc, A8, ln + 1, c8, by omega, by go_num, rfl, rfl, by omega, by omega, Lib.hid ⟨M8.out, R85.out, by have := R86.out; rw [HSR.out]; simpa using this, by have := R87.out; rw [HSL.out]; simpa [ints] using this⟩⟩
                            case measure => simp [intOf]; omega
                    · obtain rfl : k = pn := by omega
                      have hI := HI.out
                      rw [List.take_of_length_le (by have := HP.out.int_len; omega)] at hI
                      have M7 := Lib.hid hI.1; have R76 := Lib.hid hI.2.2.1; have R77 := Lib.hid hI.2.2.2
                      clear hI HI
                      obtain ⟨⟨q0, q1, q2, q3, q4⟩, l0, l1, f3, f4⟩ := M7.out.cb5
                      go_upto_region 45 with fail
                      have M8 := Lib.hid (M7.out.setb 3 (.slice LA ln lc) rfl)
                      have k8 := (Step.refl [2] wr o').setCell (p := ⟨b, 3, none⟩) (.inr (by rw [M7.out.ob]; simp)) (.slice LA ln lc)
                      have R86 := Lib.hid (R76.out.sl.step k8 (by decide)); have R87 := Lib.hid (R77.out.sl.step k8 (by decide))
                      obtain ⟨W8, hW8⟩ : ∃ W8, W8 = wr.setCell ⟨b, 3, none⟩ (.slice LA ln lc) := ⟨_, rfl⟩
                      rw [← hW8] at M8 R86 R87 ⊢
                      clear hW8 k8 M7 R76 R77 q0 q1 q2 q3 q4 l0 l1 f3 f4
                      obtain ⟨⟨q0, q1, q2, q3, q4⟩, l0, l1, f3, f4⟩ := M8.out.cb5
                      cases hb with
                      | false =>
                        obtain ⟨⟨z0, z1, z2, z3, z4⟩, y0, y1, y2, y3, y4⟩ := M8.out.cz5
                        go_wp2_with fail
                        obtain ⟨m9, s9⟩ := M8.out.setz5 (.int .i64 own) (.int .i64 other) (.int .i64 next) (.slice LA ln lc) (.slice GA gn gc)
                        obtain ⟨W9, hW9⟩ : ∃ W9, W9 = ((((W8.setCell ⟨b + 1, 0, none⟩ (.int .i64 own)).setCell ⟨b + 1, 1, none⟩ (.int .i64 other)).setCell ⟨b + 1, 2, none⟩ (.int .i64 next)).setCell ⟨b + 1, 3, none⟩ (.slice LA ln lc)).setCell ⟨b + 1, 4, none⟩ (.slice GA gn gc) := ⟨_, rfl⟩
                        rw [← hW9] at m9 s9 ⊢
                        obtain ⟨⟨r0, r1, r2, r3, r4⟩, -⟩ := m9.cz5
                        refine bodyPost_ret (v := .tuple #[.agg #[.int .i64 own, .int .i64 other, .int .i64 next, .slice LA ln lc, .slice GA gn gc], .slice none 0 0, .slice RA rn rc, .int .i64 0]) (by simp [results, Try.results55, go_sem, r0, r1, r2, r3, r4]) rfl ?_
                        exact RRecvTo.mk_ (body := []) (by rw [HRC.out]; exact if_pos trivial) ⟨m9.st, m9.below⟩ (R87.out.step s9 (by decide)) ⟨HG.out.below m9.below, .inl ⟨rfl, rfl⟩⟩ (Sl.nil_ _ _ _ _ _ _ (Nat.zero_le _)) (R86.out.step s9 (by decide))
                      | true =>
                        go_wp2_with fail
                        refine (HNW.out _ M8.out.below LA ln lc).mono ?_
                        rintro e w9 ⟨rfl, hb9⟩
                        have k9 := (Step.refl [] W8 o').below hb9 0
                        have M9 := Lib.hid (M8.out.step k9 (by simp)); have R96 := Lib.hid (R86.out.step k9 (by simp)); have R97 := Lib.hid (R87.out.step k9 (by simp))
                        obtain ⟨o9, ho9⟩ : ∃ o9, o9 = ext o' W8.heap.size 0 := ⟨_, rfl⟩
                        rw [← ho9] at M9 R96 R97
                        clear hb9 k9 ho9 M8 R86 R87 q0 q1 q2 q3 q4 l0 l1 f3 f4
                        obtain ⟨⟨q0, q1, q2, q3, q4⟩, l0, l1, f3, f4⟩ := M9.out.cb5
                        obtain ⟨⟨z0, z1, z2, z3, z4⟩, y0, y1, y2, y3, y4⟩ := M9.out.cz5
                        by_cases hold : nu < N - 32
                        · have d1 : decide (nu < N - 32) = true := by simpa using hold
                          go_wp2_with fail
                          obtain ⟨m9, s9⟩ := M9.out.setz5 (.int .i64 own) (.int .i64 other) (.int .i64 next) (.slice LA ln lc) (.slice GA gn gc)
                          obtain ⟨W9, hW9⟩ : ∃ W9, W9 = ((((w9.setCell ⟨b + 1, 0, none⟩ (.int .i64 own)).setCell ⟨b + 1, 1, none⟩ (.int .i64 other)).setCell ⟨b + 1, 2, none⟩ (.int .i64 next)).setCell ⟨b + 1, 3, none⟩ (.slice LA ln lc)).setCell ⟨b + 1, 4, none⟩ (.slice GA gn gc) := ⟨_, rfl⟩
                          rw [← hW9] at m9 s9 ⊢
                          obtain ⟨⟨r0, r1, r2, r3, r4⟩, -⟩ := m9.cz5
                          refine bodyPost_ret (v := .tuple #[.agg #[.int .i64 own, .int .i64 other, .int .i64 next, .slice LA ln lc, .slice GA gn gc], .slice none 0 0, .slice RA rn rc, .int .i64 191]) (by simp [results, Try.results55, go_sem, r0, r1, r2, r3, r4]) rfl ?_
                          exact RRecvTo.mk_ (body := []) (by rw [HRC.out, if_neg (by decide), if_pos (by rw [← HN.out]; exact hold)]) ⟨m9.st, m9.below⟩ (R97.out.step s9 (by decide)) ⟨HG.out.below m9.below, .inl ⟨rfl, rfl⟩⟩ (Sl.nil_ _ _ _ _ _ _ (Nat.zero_le _)) (R96.out.step s9 (by decide))
                        · have d1 : decide (nu < N - 32) = false := by simpa using hold
                          have hha := has_any w9 (fun _ => 0) 0 GA gn gc got nu (HG.out.below M9.out.below)
                          obtain ⟨bt, hbt⟩ : ∃ bt, bt = got.contains nu := ⟨_, rfl⟩
                          rw [← hbt] at hha
                          have HHA := Lib.hid hha; have HBT := Lib.hid hbt
                          clear hha hbt
                          go_wp2_with fail
                          refine HHA.out.mono ?_
                          rintro e w' ⟨rfl, rfl⟩
                          clear HHA
                          cases bt with
                          | true =>
                            go_wp2_with fail
                            obtain ⟨m9, s9⟩ := M9.out.setz5 (.int .i64 own) (.int .i64 other) (.int .i64 next) (.slice LA ln lc) (.slice GA gn gc)
                            obtain ⟨W9, hW9⟩ : ∃ W9, W9 = ((((w9.setCell ⟨b + 1, 0, none⟩ (.int .i64 own)).setCell ⟨b + 1, 1, none⟩ (.int .i64 other)).setCell ⟨b + 1, 2, none⟩ (.int .i64 next)).setCell ⟨b + 1, 3, none⟩ (.slice LA ln lc)).setCell ⟨b + 1, 4, none⟩ (.slice GA gn gc) := ⟨_, rfl⟩
                            rw [← hW9] at m9 s9 ⊢
                            obtain ⟨⟨r0, r1, r2, r3, r4⟩, -⟩ := m9.cz5
                            refine bodyPost_ret (v := .tuple #[.agg #[.int .i64 own, .int .i64 other, .int .i64 next, .slice LA ln lc, .slice GA gn gc], .slice none 0 0, .slice RA rn rc, .int .i64 192]) (by simp [results, Try.results55, go_sem, r0, r1, r2, r3, r4]) rfl ?_
                            exact RRecvTo.mk_ (body := []) (by rw [HRC.out, if_neg (by decide), if_neg (by rw [← HN.out]; omega), if_pos HBT.out.symm]) ⟨m9.st, m9.below⟩ (R97.out.step s9 (by decide)) ⟨HG.out.below m9.below, .inl ⟨rfl, rfl⟩⟩ (Sl.nil_ _ _ _ _ _ _ (Nat.zero_le _)) (R96.out.step s9 (by decide))
                          | false =>
                            have s3 := (Step.refl [] w9 o9).alloc (.cells #[] 3) 5
                            have M3 := Lib.hid (M9.out.step s3 (by simp))
                            have R3 := Lib.hid (Row.made (w := w9) o9 5 3 1 #[] 0 rfl (by decide) 0 (Nat.le_refl _))
                            have R36 := Lib.hid (R96.out.step s3 (by simp)); have R37 := Lib.hid (R97.out.step s3 (by simp))
                            obtain ⟨o3', ho3⟩ : ∃ o3, o3 = ext o9 w9.heap.size 5 := ⟨_, rfl⟩
                            rw [← ho3] at M3 R3 R36 R37
                            have G3 := Lib.hid (HG.out.below M3.out.below)
                            clear s3 ho3 R96 R97
                            go_upto_region 52 with (first
                              | (at_builtin; refine wpList_append_row _ rfl (.tmp 250) (.tmp 252) _ rfl el_int o3' 5 _ 0 0 _ rfl R3.out _ _ GA gn gc (ints got) rfl G3.out (one_ints _) (by omega) (by simp only [maxLen]; omega) ?_; intro A4 c4 w4 hr4 hg4 hat4; have st4 := Step.append R3.out hg4 5; have M4 := Lib.hid (M3.out.step st4 (by simp)); rw [Nat.zero_add] at hr4; have R4 := Lib.hid hr4; have R46 := Lib.hid (R36.out.step st4 (by decide)); have R47 := Lib.hid (R37.out.step st4 (by decide)); clear hr4 hg4 hat4 st4 q0 q1 q2 q3 q4 l0 l1 f3 f4 z0 z1 z2 z3 z4 y0 y1 y2 y3 y4)
                              | (at_builtin; refine wpList_append_row _ rfl (.tmp 253) (.tmp 255) _ rfl el_int (ext (ext o3' (w9.alloc (.cells #[] 3)).heap.size 5) w4.heap.size 5) 5 A4 gn c4 _ rfl (R4.out.step ((Step.refl [] _ _).alloc (.cells #[.int .i64 nu] 3) 5) (by simp)) _ _ _ 1 1 _ rfl (Sl.fresh w4 3 1 1 [.int .i64 nu] rfl (by decide)) (by simp [Value.oneCell']) (by omega) (by simp only [maxLen]; omega) ?_; intro A7 c7 w7 hr7 hg7 hat7; have sB := (Step.refl [] w4 (ext o3' (w9.alloc (.cells #[] 3)).heap.size 5)).alloc (.cells #[.int .i64 nu] 3) 5; have st7 := (Step.append (R4.out.step sB (by simp)) hg7 5); have M7 := Lib.hid ((M4.out.step sB (by simp)).step st7 (by simp)); have R75 := Lib.hid hr7; have R76 := Lib.hid ((R46.out.step sB (by simp)).step st7 (by decide)); have R77 := Lib.hid ((R47.out.step sB (by simp)).step st7 (by decide)); clear hr7 hg7 hat7 st7 sB; obtain ⟨⟨q0, q1, q2, q3, q4⟩, l0, l1, f3, f4⟩ := M7.out.cb5))
                            obtain ⟨o7, ho7⟩ : ∃ o7, o7 = ext (ext (ext o3' (w9.alloc (.cells #[] 3)).heap.size 5) w4.heap.size 5) (w4.alloc (.cells #[.int .i64 nu] 3)).heap.size 5 := ⟨_, rfl⟩
                            rw [← ho7] at M7 R75 R76 R77
                            have M8 := Lib.hid (M7.out.setb 4 (.slice A7 (gn + 1) c7) rfl)
                            have k8 := (Step.refl [2] w7 o7).setCell (p := ⟨b, 4, none⟩) (.inr (by rw [M7.out.ob]; simp)) (.slice A7 (gn + 1) c7)
                            have R85 := Lib.hid (R75.out.sl.step k8 (by decide)); have R86 := Lib.hid (R76.out.step k8 (by decide)); have R87 := Lib.hid (R77.out.step k8 (by decide))
                            obtain ⟨W8', hW8⟩ : ∃ W8, W8 = w7.setCell ⟨b, 4, none⟩ (.slice A7 (gn + 1) c7) := ⟨_, rfl⟩
                            rw [← hW8] at M8 R85 R86 R87 ⊢
                            clear hW8 k8 M7 R75 R76 R77 ho7 q0 q1 q2 q3 q4 l0 l1 f3 f4 M4 R4 R46 R47 M3 R3 R36 R37 G3
                            obtain ⟨⟨q0, q1, q2, q3, q4⟩, l0, l1, f3, f4⟩ := M8.out.cb5
                            obtain ⟨⟨z0, z1, z2, z3, z4⟩, y0, y1, y2, y3, y4⟩ := M8.out.cz5
                            go_wp2_with fail
                            obtain ⟨m9, s9⟩ := M8.out.setz5 (.int .i64 own) (.int .i64 other) (.int .i64 next) (.slice LA ln lc) (.slice A7 (gn + 1) c7)
                            obtain ⟨W9, hW9⟩ : ∃ W9, W9 = ((((W8'.setCell ⟨b + 1, 0, none⟩ (.int .i64 own)).setCell ⟨b + 1, 1, none⟩ (.int .i64 other)).setCell ⟨b + 1, 2, none⟩ (.int .i64 next)).setCell ⟨b + 1, 3, none⟩ (.slice LA ln lc)).setCell ⟨b + 1, 4, none⟩ (.slice A7 (gn + 1) c7) := ⟨_, rfl⟩
                            rw [← hW9] at m9 s9 ⊢
                            obtain ⟨⟨r0, r1, r2, r3, r4⟩, -⟩ := m9.cz5
                            refine bodyPost_ret (v := .tuple #[.agg #[.int .i64 own, .int .i64 other, .int .i64 next, .slice LA ln lc, .slice A7 (gn + 1) c7], .slice B bn bc, .slice RA rn rc, .int .i64 0]) (by simp [results, Try.results55, go_sem, r0, r1, r2, r3, r4]) rfl ?_
                            exact RRecvTo.mk_ (by rw [HRC.out, if_neg (by decide), if_neg (by rw [← HN.out]; omega), if_neg (by rw [← HBT.out]; decide)]) ⟨m9.st, m9.below⟩ (R87.out.step s9 (by decide)) ⟨by have := (R85.out.step s9 (by decide)).plain; simpa [ints] using this, .inr ((R85.out.step s9 (by decide)).fresh_of m9.st (by decide))⟩ (HBO.out.below m9.below) (R86.out.step s9 (by decide))
end Go.Proofs.Ythjjipcbpmdfnaa
