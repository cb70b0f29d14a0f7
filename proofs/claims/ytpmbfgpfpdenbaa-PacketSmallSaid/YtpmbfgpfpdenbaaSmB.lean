/-
  WALK of PacketSmall.
-/
import Derived.Test.YtpmbfgpfpdenbaaSmM
import Derived.Test.YtpmbfgpfpdenbaaTelX
import Derived.Test.YtpmbfgpfpdenbaaKitB
import Derived.Lib.SlBytesConst
import Derived.Great.BuildSlice
namespace Go.Proofs.Ytpmbfgpfpdenbaa
open Go.RowKit Go.Sort

theorem madeZ (n : Nat) : (Go.madeCells (Value.int .u8 0).cells (n * 1)) = (byts (List.replicate n 0)).toArray := by
  apply Array.ext
  · simp [size_madeCells, byts]
  · intro i h1 h2
    simp [Go.madeCells, Value.cells, byts, Nat.mod_one]
theorem make_bytesZ (m : Nat) (hm : m ≤ 4000) : ∃ cs : Array Value, cs = (byts (List.replicate m 0)).toArray ∧ ∀ W, (Instr.makeSlice 27 (.int .i64 (m : Int)) (.int .i64 (m : Int))).run Try.prog W = .ok (.slice (some ⟨W.heap.size, 0, none⟩) m m) (W.alloc (.cells cs 5)) := by
  have hi : (Try.prog.info? 5).map (fun i => (i.zero, i.size, i.bytes)) = some (some (.int .u8 0), 1, 1) := by kernel_rfl
  obtain ⟨i, h1, h2, h3, h4⟩ := info_parts hi
  refine ⟨_, (madeZ m), fun W => ?_⟩
  have h := run_makeSlice (P := Try.prog) W 27 5 i (.int .u8 0) Try.underlying27 h1 h2 .i64 .i64 (m : Int) (m : Int) (by omega) (by omega) (by rw [h3, Int.toNat_natCast]; omega) (by rw [h4]; omega) (by omega)
  rw [h3, Int.toNat_natCast] at h
  exact h
abbrev fiveL : List Value := [.int .i64 0, .int .i64 1, .int .i64 1190, .int .i64 1191, .int .i64 1192]
theorem five_at {k : Nat} (h : k < 5) : ∃ n : Nat, n ≤ 1192 ∧ fiveL[k]? = some (.int .i64 n) := by
  rcases (show k = 0 ∨ k = 1 ∨ k = 2 ∨ k = 3 ∨ k = 4 by omega) with rfl | rfl | rfl | rfl | rfl
  · exact ⟨0, by omega, rfl⟩
  · exact ⟨1, by omega, rfl⟩
  · exact ⟨1190, by omega, rfl⟩
  · exact ⟨1191, by omega, rfl⟩
  · exact ⟨1192, by omega, rfl⟩
abbrev eightL : List Value := [.int .i64 (-1), .int .i64 0, .int .i64 0, .int .i64 (-1), .int .i64 1099511627776, .int .i64 1099511627776, .int .i64 1099511627777, .int .i64 0, .int .i64 0, .int .i64 1099511627777, .int .i64 (-9223372036854775808), .int .i64 9223372036854775807, .int .i64 65535, .int .i64 65536, .int .i64 32768, .int .i64 32767]
theorem eight_at {k : Nat} (h : k < 8) : ∃ a b : Int, eightL[k * 2]? = some (.int .i64 a) ∧ eightL[k * 2 + 1]? = some (.int .i64 b) := by
  rcases (show k = 0 ∨ k = 1 ∨ k = 2 ∨ k = 3 ∨ k = 4 ∨ k = 5 ∨ k = 6 ∨ k = 7 by omega) with rfl | rfl | rfl | rfl | rfl | rfl | rfl | rfl <;> exact ⟨_, _, rfl, rfl⟩
def OpL.val (u : OpL) : Value := .agg u.cells.toArray
theorem flatten_ops : ∀ us : List OpL, (us.map OpL.val).flatMap (fun v => v.cells.toList) = opsCells us
  | [] => rfl
  | u :: us => by rw [List.map_cons, List.flatMap_cons, flatten_ops us]; rfl
/-- A slice literal of ops. -/
theorem wpList_ops_lit {w : World} {ops : Array Oper} {rest : List Oper} {o : Oper} {a : Act} {Q : Exit → Act → World → Prop} (hg : o.guard = none) (len : Nat) (parts : Array (Nat × Operand)) (ho : o.op = .buildSlice 23 len parts) (us : List OpL) (hlen : us.length = len) (h0 : 0 < len) (hm : len ≤ 100)
    (hparts : (parts.map fun (i, x) => (i, a.eval x)).toList = ((us.map OpL.val).zipIdx 0).map fun x => (x.2, x.1))
    (h : wpList Try.prog ops Q rest (a.put o.dst (.slice (some ⟨w.heap.size, 0, none⟩) len len)) (w.alloc (.cells (opsCells us).toArray 29))) : wpList Try.prog ops Q (o :: rest) a w := by
  obtain ⟨ie, hi, hz0, hz1, hz2⟩ := info_parts el_op.info
  refine wpList_buildSlice hg _ _ len parts ho _ ie _ el_op.under hi hz0 (by rw [hz1]; omega) (by rw [hz1]; omega) ?_ h
  rw [hparts, hz1]
  have := Great.fill_whole (s := 4) (by decide) (us.map OpL.val) ((Array.range (len * 4)).map ((Value.agg #[Value.int .u8 0, Value.int .u8 0, Value.int .u8 0, Value.slice none 0 0]).cells[· % (Value.agg #[Value.int .u8 0, Value.int .u8 0, Value.int .u8 0, Value.slice none 0 0]).cells.size]!)) (fun v hv => by
    obtain ⟨u, -, rfl⟩ := List.mem_map.1 hv; rfl) (by simp [hlen])
  rw [flatten_ops] at this
  exact this
/-- The state of the last loop. -/
structure SmSt (w W : World) (o : Own) (e bx : Nat) (S : EndS) (r : RefS) (PA : Option Addr) (pn pc : Nat) (GA : Option Addr) (gn gc : Nat) (k : Nat) : Prop where
  st : Step [2, 3] w (fun _ => 0) W o
  E : EndAt W o 2 e S
  fit : S.Fit
  rel : RefRel S r
  bb : Blk W bx 53 #[.int .i64 r.own, .int .i64 r.other, .int .i64 r.next, .slice PA pn pc, .slice GA gn gc]
  ob : o bx = 3
  hP : Sl W o 10 1 PA pn pc (ints r.pend)
  hG : Sl W o 10 1 GA gn gc (ints r.got)
  len : S.pend.length = min k 256
  nx : S.next = 7 + k
  gl : r.got.length ≤ 0
  ot : S.other = 7
theorem SmSt.rfit {w W : World} {o : Own} {e bx : Nat} {S : EndS} {r : RefS} {PA GA : Option Addr} {pn pc gn gc k : Nat} (h : SmSt w W o e bx S r PA pn pc GA gn gc k) : r.Fit := h.rel.fit h.fit (by rw [h.ot]; decide) (by have := h.gl; omega)
theorem SmSt.step {w W W' : World} {o o' : Own} {e bx : Nat} {S : EndS} {r : RefS} {PA GA : Option Addr} {pn pc gn gc k : Nat} (h : SmSt w W o e bx S r PA pn pc GA gn gc k) (hs : Step [] W o W' o') : SmSt w W' o' e bx S r PA pn pc GA gn gc k :=
  ⟨h.st.trans hs.nil, h.E.step hs (by simp), h.fit, h.rel, h.bb.step hs (by simp), (hs.own _ h.bb.lt).trans h.ob, h.hP.step hs (by simp), h.hG.step hs (by simp), h.len, h.nx, h.gl, h.ot⟩
theorem blk_five {W : World} {bx : Nat} {t : TypeId} {a0 a1 a2 a3 a4 : Value} (h : Blk W bx t #[a0, a1, a2, a3, a4]) (u0 u1 u2 u3 u4 : Value) : Blk (((((W.setCell ⟨bx, 0, none⟩ u0).setCell ⟨bx, 1, none⟩ u1).setCell ⟨bx, 2, none⟩ u2).setCell ⟨bx, 3, none⟩ u3).setCell ⟨bx, 4, none⟩ u4) bx t #[u0, u1, u2, u3, u4] :=
  ((((h.setw 0 u0 rfl).setw 1 u1 rfl).setw 2 u2 rfl).setw 3 u3 rfl).setw 4 u4 rfl
theorem step_five {W : World} {o : Own} {bx τ : Nat} (h : o bx = τ) (u0 u1 u2 u3 u4 : Value) : Step [τ] W o (((((W.setCell ⟨bx, 0, none⟩ u0).setCell ⟨bx, 1, none⟩ u1).setCell ⟨bx, 2, none⟩ u2).setCell ⟨bx, 3, none⟩ u3).setCell ⟨bx, 4, none⟩ u4) o :=
  (((((Step.refl [τ] W o).setCell (.inr (by simp [h])) u0).setCell (.inr (by simp [h])) u1).setCell (.inr (by simp [h])) u2).setCell (.inr (by simp [h])) u3).setCell (.inr (by simp [h])) u4
theorem Sl.five {W : World} {o : Own} {bx τ sz n c : Nat} {A : Option Addr} {xs : List Value} (h : Sl W o τ sz A n c xs) (hp : 0 < n → ∀ ad, A = some ad → ad.block ≠ bx) (u0 u1 u2 u3 u4 : Value) : Sl (((((W.setCell ⟨bx, 0, none⟩ u0).setCell ⟨bx, 1, none⟩ u1).setCell ⟨bx, 2, none⟩ u2).setCell ⟨bx, 3, none⟩ u3).setCell ⟨bx, 4, none⟩ u4) o τ sz A n c xs :=
  ((((h.setCell_far (p := ⟨bx, 0, none⟩) hp u0).setCell_far (p := ⟨bx, 1, none⟩) hp u1).setCell_far (p := ⟨bx, 2, none⟩) hp u2).setCell_far (p := ⟨bx, 3, none⟩) hp u3).setCell_far (p := ⟨bx, 4, none⟩) hp u4
/-- A slice with a cell that is neither an int nor a slice does not lie in an End of the reference. -/
theorem Sl.off_end {W : World} {o : Own} {bx τ sz n cc : Nat} {t : TypeId} {a b c : Int} {P G A : Option Addr} {pn pc gn gc : Nat} {xs : List Value} (hb : Blk W bx t #[.int .i64 a, .int .i64 b, .int .i64 c, .slice P pn pc, .slice G gn gc]) (h : Sl W o τ sz A n cc xs)
    (hx : 0 < n → ∃ (j : Nat) (u : Value), xs[j]? = some u ∧ (∀ i, u ≠ .int .i64 i) ∧ ∀ A n c, u ≠ .slice A n c) : 0 < n → ∀ ad, A = some ad → ad.block ≠ bx := by
  intro hn ad ha e
  obtain ⟨j, u, hj, h1, h2⟩ := hx hn
  obtain ⟨g, off, hA, -, -, hc⟩ := h.2.2.2 hn
  rw [ha] at hA
  injection hA with hA; subst hA
  simp only at e; subst e
  have := hc j u hj
  rw [hb.cell] at this
  rcases (show off + j = 0 ∨ off + j = 1 ∨ off + j = 2 ∨ off + j = 3 ∨ off + j = 4 ∨ 5 ≤ off + j by omega) with q | q | q | q | q | q
  · rw [q] at this; injection this with this; exact h1 _ this.symm
  · rw [q] at this; injection this with this; exact h1 _ this.symm
  · rw [q] at this; injection this with this; exact h1 _ this.symm
  · rw [q] at this; injection this with this; exact h2 _ _ _ this.symm
  · rw [q] at this; injection this with this; exact h2 _ _ _ this.symm
  · rw [Array.getElem?_eq_none (by simp; omega)] at this; cases this
theorem byts_off {ys : List UInt8} (h : 0 < ys.length) : ∃ (j : Nat) (u : Value), (byts ys)[j]? = some u ∧ (∀ i, u ≠ .int .i64 i) ∧ ∀ A n c, u ≠ .slice A n c := by
  cases ys with
  | nil => cases h
  | cons y ys => exact ⟨0, _, rfl, (by intro i e; cases e), (by intro A n c e; cases e)⟩
theorem reps_off {rs : List (Int × Bool)} (h : 0 < rs.length) : ∃ (j : Nat) (u : Value), (reps rs)[j]? = some u ∧ (∀ i, u ≠ .int .i64 i) ∧ ∀ A n c, u ≠ .slice A n c := by
  cases rs with
  | nil => cases h
  | cons y ys => exact ⟨1, _, rfl, (by intro i e; cases e), (by intro A n c e; cases e)⟩
theorem make_pend_len (S : EndS) (k : Nat) (h : S.pend.length = min k 256) : (makeS S).pend.length = min (k + 1) 256 := by
  unfold makeS
  simp only
  split
  · simp; omega
  · simp; omega
theorem lost_len (S : EndS) (k : Nat) (h : S.pend.length = min k 256) : (lostP S).length = if k < 256 then 0 else 1 := by
  unfold lostP
  split
  · rw [if_pos (by omega)]; rfl
  · rw [if_neg (by omega)]; rfl
/-- An op with the body of one byte 7. -/
def IsSeven (W : World) (u : OpL) : Prop := ∃ g, u = ⟨0, 0, 0, some ⟨g, 0, none⟩, 1, 1⟩ ∧ Blk W g 5 #[.int .u8 7]
theorem IsSeven.ok {W : World} {u : OpL} (h : IsSeven W u) : u.Ok W := by
  obtain ⟨g, rfl, hb⟩ := h
  refine ⟨(show 0 < 256 by decide), (show 0 < 256 by decide), (show 0 < 256 by decide), (show 1 ≤ 9223372036854775807 by decide), [7], rfl, Nat.le_refl _, (show 1 ≤ maxLen by decide), fun _ => ⟨g, 0, rfl, rfl, hb.lt, fun j u hj => ?_⟩⟩
  rw [Nat.zero_add, hb.cell, ← hj]
  simp [byts]
theorem IsSeven.keep {W W' : World} {u : OpL} {e : TypeId} (h : IsSeven W u) (hk : ∀ (g : Nat) (tt : TypeId) (cs : Array Value), Blk W g tt cs → e ≠ tt → Blk W' g tt cs) (he : e ≠ 5) : IsSeven W' u := by
  obtain ⟨g, rfl, hb⟩ := h
  exact ⟨g, rfl, hk g _ _ hb he⟩
theorem IsSeven.alloc {W : World} {u : OpL} (h : IsSeven W u) (ob : Obj) : IsSeven (W.alloc ob) u := by
  obtain ⟨g, rfl, hb⟩ := h
  exact ⟨g, rfl, hb.alloc ob⟩
/-- A cell of a slice whose address is known. -/
theorem Sl.cell_at {w : World} {o : Own} {τ sz n c g : Nat} {xs : List Value} (h : Sl w o τ sz (some ⟨g, 0, none⟩) n c xs) (hn : 0 < n) {j : Nat} {u : Value} (hj : xs[j]? = some u) : w.cell? ⟨g, j, none⟩ = some u := by
  obtain ⟨g', off, hA, -, -, hc⟩ := h.2.2.2 hn
  injection hA with hA; injection hA with h1 h2; subst h1; subst h2
  have := hc j u hj
  rwa [Nat.zero_add] at this

set_option maxRecDepth 100000 in
set_option maxHeartbeats 40000000 in
theorem PacketSmall_walk (w : World) : Calls Try.prog 6 #[] w fun e w' => e = .returned (.bool true) ∧ Below w.heap.size w w' := by
  have kc := fun (w : World) (C : Array Value) (n c : Nat) => Lib.run_convert_bytes_const (P := Try.prog) w 27 5 C n c Try.underlying27 Try.underlying5
  have kd : ∀ (w : World) (C : Array Value) (N n c : Nat), w.heap.size = N → (convert 27 27 (.slice (some ⟨N, 0, none⟩) n c)).run Try.prog (w.alloc (.cells C 5)) = .ok (.slice (some ⟨N, 0, none⟩) n c) (w.alloc (.cells C 5 (C.size, C.size + 1))) := fun w C N n c h => by subst h; exact kc w C n c
  clear kc
  go_enter Try.func6, Try.ntmps6
  go_upto_region 2 with fail
  obtain ⟨W1, us, hW, hul, hb1, hs1, hu1⟩ := small_head w
  rw [hW]
  have HB1 := Lib.hid hb1; have HS1 := Lib.hid hs1; have HU1 := Lib.hid hu1; have HUL := Lib.hid hul
  clear hW hul hb1 hs1 hu1
  generalize w.heap.size + 1 + 1 + 1 + 1 = gh at HS1 ⊢
  have HPS := Lib.hid (fun W (hb : Below W1.heap.size W1 W) => ops_of (HS1.out.below hb) (fun u hu => (HU1.out u hu).below hb))
  clear kd
  go_upto_block 0 with fail
  go_cut [] (fun wx => Hid (Below W1.heap.size W1 wx))
  case first => as_aux_lemma =>
   go_wp2_with fail
   go_loopw [41] (fun i wr => ∃ f : Nat, f ≤ 6 ∧ i = .int .i64 f ∧ Hid (Below W1.heap.size W1 wr)) (fun i _ => 6 - (intOf i).toNat)
   case atStart => exact ⟨0, by omega, rfl, Lib.hid (Below.refl _ _)⟩
   case round =>
     obtain ⟨f, hf, rfl, HF⟩ := hrel
     by_cases hlt : f < 6
     · have hd6 : decide ((f : Int) < 6) = true := by simp; omega
       go_wp2_with fail
       go_loopw [44] (fun i wr => ∃ n : Nat, n ≤ 13 ∧ i = .int .i64 n ∧ Hid (Below W1.heap.size W1 wr)) (fun i _ => 13 - (intOf i).toNat)
       case atStart => exact ⟨0, by omega, rfl, HF⟩
       case round =>
         obtain ⟨n, hn, rfl, HN⟩ := hrel
         by_cases hlt2 : n < 13
         · obtain ⟨W2, rfl⟩ : ∃ W2, W2 = wr := ⟨_, rfl⟩
           have H0 := Lib.hid ((NS.refl W2).alloc (.cells #[.int .u8 f] 5))
           have r0 := NRow.made (w := W2) (B := W2.heap.size) (Nat.le_refl _) 5 1 1 (cs := #[.int .u8 f]) rfl (by decide) 1 (Nat.le_refl _)
           have R0 := Lib.hid r0
           clear r0
           go_upto_region 9 with (at_builtin; refine wpList_append_zeros _ rfl (.tmp 49) (.tmp 50) _ _ rfl el_byte Try.underlying3 H0.out _ 1 _ _ rfl R0.out (by omega) n rfl (by omega) ?_; intro A1 c1 w1 hk1 hr1; have H1 := Lib.hid hk1; have R1 := Lib.hid hr1; clear hk1 hr1)
           obtain ⟨bs0, hbs0⟩ : ∃ bs : List UInt8, byts bs = #[Value.int .u8 (f : Int)].toList.take (1 * 1) ++ List.replicate n (Value.int .u8 0) := by
             refine ⟨UInt8.ofNat f :: List.replicate n 0, ?_⟩
             simp [byts]; omega
           have R1' : Hid (NRow W2.heap.size w1 5 1 A1 (1 + n) c1 (byts bs0)) := Lib.hid (by rw [hbs0]; exact R1.out)
           have hc1 : 1 + n ≤ c1 := R1'.out.sl.2.1
           obtain ⟨gb, cb, hA1, -, -, -, -, -, -⟩ := R1'.out.form (by omega)
           subst hA1
           obtain ⟨BT, htl, -⟩ := run_tailA Try.prog 27 5 (.int .u8 0) 1 1 Try.underlying27 (by kernel_rfl) (some ⟨gb, 0, none⟩) (1 + n) c1 1 (by omega) hc1
           rw [show 1 + n - 1 = n by omega] at htl
           have htl1 : ∀ W, (Instr.slice 27 (.slice (some ⟨gb, 0, none⟩) (1 + n) c1) (some (.int .i64 1)) none none).run Try.prog W = .ok (.slice BT n (c1 - 1)) W := htl
           clear htl
           clear R1 R0 H0 hbs0
           go_wp2_with fail
           go_loopw [55] (fun i wt => ∃ (j : Nat) (bs : List UInt8), j ≤ n ∧ i = .int .i64 j ∧ Hid (NS W2.heap.size W2 wt ∧ NRow W2.heap.size wt 5 1 (some ⟨gb, 0, none⟩) (1 + n) c1 (byts bs))) (fun i _ => n - (intOf i).toNat)
           case atStart => exact ⟨0, bs0, by omega, rfl, Lib.hid ⟨H1.out, R1'.out⟩⟩
           case round =>
             obtain ⟨j, bs, hj, rfl, HJ⟩ := hrel
             by_cases hlt3 : j < n
             · obtain ⟨x, hx⟩ : ∃ x, bs[1 + j]? = some x := ⟨_, List.getElem?_eq_getElem (by have := HJ.out.2.len; simp at this; omega)⟩
               obtain ⟨cx, fx⟩ := HJ.out.2.cellAt (k := 1 + j) (u := .int .u8 (x.toNat : Int)) (by simp [byts, hx])
               have hgb := HJ.out.2.lt rfl
               have hj1 : (0 : Int) ≤ 1 + (j : Int) := by omega
               have hj2 : 1 + (j : Int) < (1 : Int) + (n : Int) := by omega
               have hw1 : IntKind.i64.wrap (1 + (j : Int)) = 1 + (j : Int) := IntWalk.i64_in _ (by omega)
               have hto : (1 + (j : Int)).toNat = 1 + j := by omega
               go_upto_region 13 with fail
               obtain ⟨v, hv⟩ : ∃ v : Int, v = wrap64 ((n : Int) * (j : Int)) % 4 * ((j : Int) % 2) % 256 := ⟨_, rfl⟩
               rw [← hv]
               obtain ⟨y, hy⟩ := u8_some v (by rw [hv]; exact Int.emod_nonneg _ (by decide)) (by rw [hv]; exact Int.emod_lt_of_pos _ (by decide))
               have hrow := HJ.out.2.set_ (k := 1 + j) (by omega) (.int .u8 v)
               have e : (byts bs).set (1 + j) (.int .u8 v) = byts (bs.set (1 + j) y) := by rw [hy]; simp [byts, List.map_set]
               rw [e] at hrow
               have HJ2 := Lib.hid (And.intro (HJ.out.1.setCell (p := ⟨gb, 1 + j, none⟩) (show W2.heap.size ≤ gb from HJ.out.2.new ⟨gb, 0, none⟩ rfl) (.int .u8 v)) hrow)
               clear cx fx hx hv hy hrow e hw1 hto
               go_wp2_with fail
               go_roundw
               case rel => exact ⟨j + 1, _, by omega, by go_num, HJ2⟩
               case measure => simp [intOf]; omega
             · obtain rfl : j = n := by omega
               have HN9 := Lib.hid HJ.out.2.sl.plain
               have HB9 := Lib.hid HJ.out.1.fin
               clear HJ H1 R1'
               obtain ⟨W4, rfl⟩ : ∃ W4, W4 = wr := ⟨_, rfl⟩
               have hs5 : ∀ W, (Instr.slice 23 (.slice (some ⟨gh, 0, none⟩) 5 5) none (some (.int .i64 5)) (some (.int .i64 5))).run Try.prog W = .ok (.slice (some ⟨gh, 0, none⟩) 5 5) W := fun W => by
                 have hi : (Try.prog.info? 29).map (fun i => (i.zero, i.size, i.bytes)) = some (some (.agg #[.int .u8 0, .int .u8 0, .int .u8 0, .slice none 0 0]), 4, 32) := by kernel_rfl
                 obtain ⟨i, h1, h2, h3, h4⟩ := info_parts hi
                 simp [Instr.slice, Instr.sliceBounds, Instr.sliceBound, asIntOf, run_underlying Try.underlying23, sizeOf, typeInfo, h1, Addr.add]
               have hsn := run_headA Try.prog 27 5 (.int .u8 0) 1 1 Try.underlying27 (by kernel_rfl) (some ⟨gb, 0, none⟩) (1 + j) c1 j (by omega)
               go_upto_region 14 with fail
               have hsl4 := HN9.out
               have hok : ∀ u ∈ ([⟨5, 0, 0, some ⟨gb, 0, none⟩, 1 + j, c1⟩, ⟨5, 0, 0, some ⟨gb, 0, none⟩, j, c1⟩, ⟨2, 0, 0, none, 0, 0⟩] : List OpL), u.Ok W4.drew := by
                 intro u hu
                 simp only [List.mem_cons, List.not_mem_nil, or_false] at hu
                 rcases hu with rfl | rfl | rfl
                 · exact ⟨(show 5 < 256 by decide), (show 0 < 256 by decide), (show 0 < 256 by decide), by show 1 + j ≤ _; omega, bs, hsl4⟩
                 · exact ⟨(show 5 < 256 by decide), (show 0 < 256 by decide), (show 0 < 256 by decide), by show j ≤ _; omega, bs.take j, hsl4.head j (by omega)⟩
                 · exact nil_body _ _ _ _ (by omega) (by omega) (by omega)
               have HOK := Lib.hid hok
               have HHD := Lib.hid (fun W (hb : Below W4.drew.heap.size W4.drew W) => HS1.out.below (HN.out.trans ((show Below W2.heap.size W2 W from HB9.out.drew.trans (hb.mono HB9.out.size)).mono HN.out.size)))
               have HHU := Lib.hid (fun W (hb : Below W4.drew.heap.size W4.drew W) u (hu : u ∈ us) => (HU1.out u hu).below (HN.out.trans ((show Below W2.heap.size W2 W from HB9.out.drew.trans (hb.mono HB9.out.size)).mono HN.out.size)))
               clear hsl4 hok
               refine wp_region_B (Vs14 gh gb j c1)
                 ⟨grows_eq _, grows_eq _, grows_eq _, grows_eq _, grows_eq _, grows_eq _, grows_eq _, grows_eq _, grows_eq _, grows_ops _, grows_script _, grows_eq _, grows_eq _, trivial⟩
                 [some 72, some 73, some 74, some 75, some 76, some 77, some 78, some 79, some 80, some 81, some 82, some 83, some 84] [[], [0], [], [2], [], [], [4, 5], [6], [], [3, 7, 8], [1, 9], [10], [11]] (by kernel_rfl) (by kernel_rfl) (fun a1 ha1 Q1 => obs14 hc1 HHD HHU HOK a1 (ha1 1) (ha1 3) (ha1 4) Q1) ?re14
               case re14 =>
                 intro vs w5 hb5 hv5
                 have h84 : vs 12 = .bool false := hv5 12 (by decide)
                 have HF5 := Lib.hid (HN.out.trans ((show Below W2.heap.size W2 w5 from HB9.out.drew.trans (hb5.mono HB9.out.size)).mono HN.out.size))
                 simp only [puts, if_true, Act.put, List.setIfInBounds_toArray, List.set_cons_zero, List.set_cons_succ]
                 rw [h84]
                 generalize vs 0 = v0; generalize vs 1 = v1; generalize vs 2 = v2; generalize vs 3 = v3; generalize vs 4 = v4; generalize vs 5 = v5; generalize vs 6 = v6; generalize vs 7 = v7; generalize vs 8 = v8; generalize vs 9 = v9; generalize vs 10 = v10; generalize vs 11 = v11
                 clear h84 hb5 hv5 HN9 HB9 HOK HHD HHU HN
                 go_wp2_with fail
                 go_roundw
                 case rel => exact ⟨j + 1, by omega, by go_num, HF5⟩
                 case measure => simp [intOf]; omega
         · obtain rfl : n = 13 := by omega
           go_wp2_with fail
           go_roundw
           case rel => exact ⟨f + 1, by omega, by go_num, HN⟩
           case measure => simp [intOf]; omega
     · have hd6 : decide ((f : Int) < 6) = false := by simp; omega
       go_wp2_with fail
       go_meet
       exact HF
  have HB4 : Hid (Below W1.heap.size W1 wc) := hcut
  clear hcut
  go_upto_block 6 with fail
  obtain ⟨W5, hW5⟩ : ∃ W5, W5 = wc.alloc (.cells #[.int .i64 0, .int .i64 1, .int .i64 1190, .int .i64 1191, .int .i64 1192] 3) := ⟨_, rfl⟩
  have hS5 : Sl W5 (fun _ => 0) 0 1 (some ⟨wc.heap.size, 0, none⟩) 5 5 fiveL := by rw [hW5]; exact Sl.fresh wc 3 1 5 fiveL rfl (by decide)
  have hb5 : Below W1.heap.size W1 W5 := by rw [hW5]; exact HB4.out.alloc HB4.out.size _
  rw [← hW5]
  have HS5 := Lib.hid hS5; have HB5 := Lib.hid hb5
  clear hS5 hb5 hW5
  generalize wc.heap.size = g5 at HS5 ⊢
  go_cut [] (fun wx => Hid (Below W5.heap.size W5 wx))
  case first => as_aux_lemma =>
   go_wp2_with fail
   go_loopw [89] (fun i wr => ∃ k : Nat, k ≤ 5 ∧ i = .int .i64 k ∧ Hid (Below W5.heap.size W5 wr)) (fun i _ => 5 - (intOf i).toNat)
   case atStart => exact ⟨0, by omega, rfl, Lib.hid (Below.refl _ _)⟩
   case round =>
     obtain ⟨k, hk, rfl, HK⟩ := hrel
     by_cases hlt5 : k < 5
     · obtain ⟨n, hn, hx⟩ := five_at hlt5
       have cx := (HS5.out.below HK.out).cell_at (by omega) hx
       obtain ⟨CS, hCS, hmk⟩ := make_bytesZ n (by omega)
       have HCS := Lib.hid hCS
       have hd0 : decide ((k : Int) < 5) = true := by simp; omega
       clear hx hCS
       obtain ⟨W6, rfl⟩ : ∃ W6, W6 = wr := ⟨_, rfl⟩
       go_upto_region 22 with fail
       obtain ⟨W7, hW7⟩ : ∃ W7, W7 = W6.alloc (.cells CS 5) := ⟨_, rfl⟩
       have hz : Sl W7 (fun _ => 0) 0 1 (some ⟨W6.heap.size, 0, none⟩) n n (byts (List.replicate n 0)) := by
         rw [hW7, HCS.out]; exact Sl.fresh W6 5 1 n (byts (List.replicate n 0)) (by simp [byts]) (by unfold maxLen; omega)
       have hb7 : Below W5.heap.size W5 W7 := by rw [hW7]; exact HK.out.alloc HK.out.size _
       rw [← hW7]
       have HZ := Lib.hid hz; have HB7 := Lib.hid hb7
       clear hz hb7 hW7 cx hmk
       generalize W6.heap.size = gz at HZ ⊢
       have H0 := Lib.hid ((NS.refl W7).alloc (.cells #[.int .u8 1, .int .u8 0, .int .u8 9] 5))
       have r0 := NRow.made (w := W7) (B := W7.heap.size) (Nat.le_refl _) 5 1 3 (cs := #[.int .u8 1, .int .u8 0, .int .u8 9]) rfl (by decide) 3 (Nat.le_refl _)
       have R0 := Lib.hid r0
       clear r0
       have hz8 := HZ.out.below ((Below.refl W7.heap.size W7).alloc (Nat.le_refl _) (.cells #[.int .u8 1, .int .u8 0, .int .u8 9] 5))
       have HZ8 := Lib.hid hz8
       clear hz8
       go_wp2_with (first | (at_builtin; refine wpList_append_new _ rfl (.tmp 98) (.tmp 99) _ rfl el_byte H0.out _ 3 3 _ rfl R0.out _ n n _ rfl HZ8.out (one_byts _) (by omega) (by unfold maxLen; omega) ?_; intro A1 c1 w1 hr1 hk1 _ _; have R1 := Lib.hid hr1; have H1 := Lib.hid hk1; clear hr1 hk1) | (refine wpList_ops_lit (o := ⟨some 102, _, _, _, _, _⟩) rfl 3 _ rfl [⟨0, 0, 0, some ⟨gz, 0, none⟩, n, n⟩, ⟨3, 1, 0, none, 0, 0⟩, ⟨5, 1, 0, A1, 3 + n, c1⟩] rfl (by decide) (by decide) ?_ ?_; (go_simp; exact ⟨rfl, rfl, rfl⟩)))
       have hR1 : Sl w1 (fun _ => 0) 0 1 A1 (3 + n) c1 (byts ([1, 0, 9] ++ List.replicate n 0)) := R1.out.sl.plain
       have hbo := (Below.refl w1.heap.size w1).alloc (Nat.le_refl _) (.cells (opsCells [⟨0, 0, 0, some ⟨gz, 0, none⟩, n, n⟩, ⟨3, 1, 0, none, 0, 0⟩, ⟨5, 1, 0, A1, 3 + n, c1⟩]).toArray 29)
       have hsl := Sl.fresh w1 29 4 3 (opsCells [⟨0, 0, 0, some ⟨gz, 0, none⟩, n, n⟩, ⟨3, 1, 0, none, 0, 0⟩, ⟨5, 1, 0, A1, 3 + n, c1⟩]) rfl (by decide)
       have hz1 := (HZ.out.below H1.out.fin).below hbo
       have hR2 := hR1.below hbo
       have hok : ∀ u ∈ ([⟨0, 0, 0, some ⟨gz, 0, none⟩, n, n⟩, ⟨3, 1, 0, none, 0, 0⟩, ⟨5, 1, 0, A1, 3 + n, c1⟩] : List OpL), u.Ok (w1.alloc (.cells (opsCells [⟨0, 0, 0, some ⟨gz, 0, none⟩, n, n⟩, ⟨3, 1, 0, none, 0, 0⟩, ⟨5, 1, 0, A1, 3 + n, c1⟩]).toArray 29)) := by
         intro u hu
         simp only [List.mem_cons, List.not_mem_nil, or_false] at hu
         rcases hu with rfl | rfl | rfl
         · exact ⟨(show 0 < 256 by decide), (show 0 < 256 by decide), (show 0 < 256 by decide), by show n ≤ _; omega, _, hz1⟩
         · exact nil_body _ _ _ _ (by omega) (by omega) (by omega)
         · exact ⟨(show 5 < 256 by decide), (show 1 < 256 by decide), (show 0 < 256 by decide), by show 3 + n ≤ _; omega, _, hR2⟩
       obtain ⟨ps, hP⟩ := ops_of hsl hok
       have HK1 := Lib.hid ((HB7.out.trans (H1.out.fin.mono HB7.out.size)).alloc (Nat.le_trans HB7.out.size H1.out.fin.size) (.cells (opsCells [⟨0, 0, 0, some ⟨gz, 0, none⟩, n, n⟩, ⟨3, 1, 0, none, 0, 0⟩, ⟨5, 1, 0, A1, 3 + n, c1⟩]).toArray 29))
       clear hR1 hbo hsl hz1 hR2 hok
       refine (PacketTells_walk _ 0 0 _ 3 3 ps hP).mono ?_
       rintro e w2 ⟨rfl, hb2⟩
       have HK2 : Hid (Below W5.heap.size W5 w2) := Lib.hid (HK1.out.trans (hb2.mono HK1.out.size))
       clear hP hb2 HK1 H1 R1 R0 H0 HZ HB7 HK
       go_wp2_with fail
       go_roundw
       case rel => exact ⟨k + 1, by omega, by go_num, HK2⟩
       case measure => simp [intOf]; omega
     · have hd0 : decide ((k : Int) < 5) = false := by simp; omega
       go_wp2_with fail
       go_meet
       exact HK
  have HB8 : Hid (Below W1.heap.size W1 wc) := Lib.hid (HB5.out.trans (hcut.out.mono HB5.out.size))
  clear hcut HB4 HS5 HB5
  go_upto_block 8 with fail
  obtain ⟨W8, hW8⟩ : ∃ W8, W8 = wc.alloc (.cells #[.int .i64 (-1), .int .i64 0, .int .i64 0, .int .i64 (-1), .int .i64 1099511627776, .int .i64 1099511627776, .int .i64 1099511627777, .int .i64 0, .int .i64 0, .int .i64 1099511627777, .int .i64 (-9223372036854775808), .int .i64 9223372036854775807, .int .i64 65535, .int .i64 65536, .int .i64 32768, .int .i64 32767] 78) := ⟨_, rfl⟩
  have hS8 : Sl W8 (fun _ => 0) 0 2 (some ⟨wc.heap.size, 0, none⟩) 8 8 eightL := by rw [hW8]; exact Sl.fresh wc 78 2 8 eightL rfl (by decide)
  have hb8 : Below W1.heap.size W1 W8 := by rw [hW8]; exact HB8.out.alloc HB8.out.size _
  rw [← hW8]
  have HS8 := Lib.hid hS8; have HB9 := Lib.hid hb8
  clear hS8 hb8 hW8 HB8
  generalize wc.heap.size = g8 at HS8 ⊢
  go_cut [] (fun wx => Hid (Below W8.heap.size W8 wx))
  case first => as_aux_lemma =>
   go_wp2_with fail
   go_loopw [116] (fun i wr => ∃ k : Nat, k ≤ 8 ∧ i = .int .i64 k ∧ Hid (Below W8.heap.size W8 wr)) (fun i _ => 8 - (intOf i).toNat)
   case atStart => exact ⟨0, by omega, rfl, Lib.hid (Below.refl _ _)⟩
   case round =>
     obtain ⟨k, hk, rfl, HK⟩ := hrel
     by_cases hlt8 : k < 8
     · have hd8 : decide ((k : Int) < 8) = true := by simp; omega
       obtain ⟨a, c, ha, hc⟩ := eight_at hlt8
       have ca := (HS8.out.below HK.out).cell_at (by omega) ha
       have cc := (HS8.out.below HK.out).cell_at (by omega) hc
       clear ha hc
       go_upto_region 28 with fail
       obtain ⟨W9, hW9⟩ : ∃ W9, W9 = wr.alloc (.cells #[.int .i64 a, .int .i64 c] 78) := ⟨_, rfl⟩
       have hB : Blk W9 wr.heap.size 78 #[.int .i64 a, .int .i64 c] := by rw [hW9]; exact Blk.new _ _ _
       have hb9 : Below W8.heap.size W8 W9 := by rw [hW9]; exact HK.out.alloc HK.out.size _
       rw [← hW9]
       have HK9 := Lib.hid hb9
       have e0 := hB.cell 0; have e1 := hB.cell 1
       simp only [List.getElem?_toArray, List.getElem?_cons_zero, List.getElem?_cons_succ] at e0 e1
       clear hB hb9 hW9 ca cc HK
       generalize wr.heap.size = g9 at e0 e1 ⊢
       obtain ⟨ps, hP⟩ := HPS.out W9 (HB9.out.trans (HK9.out.mono HB9.out.size))
       have HP := Lib.hid hP
       clear hP
       go_wp2_with fail
       refine (PacketTells_walk _ a c _ 5 5 ps HP.out).mono ?_
       rintro e w2 ⟨rfl, hb2⟩
       have HK2 : Hid (Below W8.heap.size W8 w2) := Lib.hid (HK9.out.trans (hb2.mono HK9.out.size))
       clear hb2 HP HK9 e0 e1
       go_wp2_with fail
       go_roundw
       case rel => exact ⟨k + 1, by omega, by go_num, HK2⟩
       case measure => simp [intOf]; omega
     · have hd8 : decide ((k : Int) < 8) = false := by simp; omega
       go_wp2_with fail
       go_meet
       exact HK
  have HB10 : Hid (Below W1.heap.size W1 wc) := Lib.hid (HB9.out.trans (hcut.out.mono HB9.out.size))
  clear hcut HS8 HB9
  go_upto_block 10 with fail
  go_cut [] (fun wx => Hid (Below W1.heap.size W1 wx))
  case first => as_aux_lemma =>
   go_wp2_with fail
   go_loopw [11] (fun i wr => ∃ L : Nat, 30 ≤ L ∧ L ≤ 36 ∧ i = .int .i64 L ∧ Hid (Below W1.heap.size W1 wr)) (fun i _ => 36 - (intOf i).toNat)
   case atStart => exact ⟨30, by omega, by omega, rfl, HB10⟩
   case round =>
     obtain ⟨L, hL0, hL1, rfl, HL⟩ := hrel
     by_cases hltL : L < 36
     · have hdL : decide ((L : Int) < 36) = true := by simp; omega
       obtain ⟨W2, rfl⟩ : ∃ W, W = wr := ⟨_, rfl⟩
       go_wp2_with fail
       go_loopw [12, 134] (fun l i wr => ∃ (j : Nat) (A : Option Addr) (c : Nat) (us : List OpL), j ≤ L + 1 ∧ i = .int .i64 j ∧ l = .slice A j c ∧ Hid (NS W2.heap.size W2 wr) ∧ Hid (NRow W2.heap.size wr 29 4 A j c (opsCells us)) ∧ Hid (∀ u ∈ us, IsSeven wr u)) (fun _ i _ => L + 1 - (intOf i).toNat)
       case atStart => exact ⟨0, none, 0, [], by omega, rfl, rfl, Lib.hid (NS.refl _), Lib.hid (Row.nil_ _ _ _ _ _), Lib.hid (by simp)⟩
       case round =>
         obtain ⟨j, A, c, us2, hj, rfl, rfl, HN, HR, HU⟩ := hrel
         by_cases hltj : j < L + 1
         · have hdj : decide ((j : Int) < (L : Int) + 1) = true := by simp; omega
           obtain ⟨W3, rfl⟩ : ∃ W, W = wr := ⟨_, rfl⟩
           have hN4 := (HN.out.alloc (.cells #[.int .u8 7] 5)).alloc (.cells (opsCells [⟨0, 0, 0, some ⟨W3.heap.size, 0, none⟩, 1, 1⟩]).toArray 29)
           have hR4 := (HR.out.alloc HN.out.le' (.cells #[.int .u8 7] 5)).alloc (HN.out.alloc _).le' (.cells (opsCells [⟨0, 0, 0, some ⟨W3.heap.size, 0, none⟩, 1, 1⟩]).toArray 29)
           have hS4 := Sl.fresh (W3.alloc (.cells #[.int .u8 7] 5)) 29 4 1 (opsCells [⟨0, 0, 0, some ⟨W3.heap.size, 0, none⟩, 1, 1⟩]) rfl (by decide)
           have hU4 : ∀ u ∈ us2 ++ [⟨0, 0, 0, some ⟨W3.heap.size, 0, none⟩, 1, 1⟩], IsSeven ((W3.alloc (.cells #[.int .u8 7] 5)).alloc (.cells (opsCells [⟨0, 0, 0, some ⟨W3.heap.size, 0, none⟩, 1, 1⟩]).toArray 29)) u := by
             intro u hu
             rcases List.mem_append.1 hu with hu | hu
             · exact ((HU.out u hu).alloc _).alloc _
             · rw [List.mem_singleton.1 hu]; exact ⟨_, rfl, (Blk.new W3 5 #[.int .u8 7]).alloc _⟩
           have HN4 := Lib.hid hN4; have HR4 := Lib.hid hR4; have HS4 := Lib.hid hS4; have HU4 := Lib.hid hU4
           clear hN4 hR4 hS4 hU4
           go_upto_region 37 with fail
           go_wp2_with (first | (at_builtin; refine wpList_append_new _ rfl (.tmp 136) (.tmp 139) _ rfl el_op HN4.out A j c _ rfl HR4.out _ 1 1 _ rfl HS4.out (one_ops _) (by omega) (by unfold maxLen; omega) ?_; intro A5 c5 w5 hr5 hk5 _ hb5; have HR5 := Lib.hid hr5; have HK5 := Lib.hid hk5; have HU5 := Lib.hid (fun u hu => (HU4.out u hu).keep hb5 (by decide)); clear hr5 hk5 hb5) | (refine wpList_ops_lit (o := ⟨some 139, _, _, _, _, _⟩) rfl 1 _ rfl [⟨0, 0, 0, some ⟨W3.heap.size, 0, none⟩, 1, 1⟩] rfl (by decide) (by decide) ?_ ?_; (go_simp; try rfl)))
           have HR6 : Hid (NRow W2.heap.size w5 29 4 A5 (j + 1) c5 (opsCells (us2 ++ [⟨0, 0, 0, some ⟨W3.heap.size, 0, none⟩, 1, 1⟩]))) := Lib.hid (by rw [opsCells, List.flatMap_append]; exact HR5.out)
           clear HR5 HN4 HR4 HS4 HU4 HN HR HU
           go_roundw
           case rel => exact ⟨j + 1, A5, c5, _, by omega, by go_num, rfl, HK5, HR6, HU5⟩
           case measure => simp [intOf]; omega
         · have hdj : decide ((j : Int) < (L : Int) + 1) = false := by simp; omega
           obtain ⟨W3, rfl⟩ : ∃ W, W = wr := ⟨_, rfl⟩
           have hN4 := HN.out.alloc (.cells (opsCells [⟨3, 1, 0, none, 0, 0⟩, ⟨3, 1, L, none, 0, 0⟩, ⟨3, 1, 1, none, 0, 0⟩, ⟨2, 1, 0, none, 0, 0⟩, ⟨3, 0, 0, none, 0, 0⟩]).toArray 29)
           have hR4 := HR.out.alloc HN.out.le' (.cells (opsCells [⟨3, 1, 0, none, 0, 0⟩, ⟨3, 1, L, none, 0, 0⟩, ⟨3, 1, 1, none, 0, 0⟩, ⟨2, 1, 0, none, 0, 0⟩, ⟨3, 0, 0, none, 0, 0⟩]).toArray 29)
           have hS4 := Sl.fresh W3 29 4 5 (opsCells [⟨3, 1, 0, none, 0, 0⟩, ⟨3, 1, L, none, 0, 0⟩, ⟨3, 1, 1, none, 0, 0⟩, ⟨2, 1, 0, none, 0, 0⟩, ⟨3, 0, 0, none, 0, 0⟩]) rfl (by decide)
           have HN4 := Lib.hid hN4; have HR4 := Lib.hid hR4; have HS4 := Lib.hid hS4
           have HU4 := Lib.hid (fun u hu => (HU.out u hu).alloc (.cells (opsCells [⟨3, 1, 0, none, 0, 0⟩, ⟨3, 1, L, none, 0, 0⟩, ⟨3, 1, 1, none, 0, 0⟩, ⟨2, 1, 0, none, 0, 0⟩, ⟨3, 0, 0, none, 0, 0⟩]).toArray 29))
           clear hN4 hR4 hS4
           go_wp2_with (first | (at_builtin; refine wpList_append_new _ rfl (.tmp 142) (.tmp 150) _ rfl el_op HN4.out A j c _ rfl HR4.out _ 5 5 _ rfl HS4.out (one_ops _) (by omega) (by unfold maxLen; omega) ?_; intro A5 c5 w5 hr5 hk5 _ hb5; have HR5 := Lib.hid hr5; have HK5 := Lib.hid hk5; have HU5 := Lib.hid (fun u hu => (HU4.out u hu).keep hb5 (by decide)); clear hr5 hk5 hb5) | (refine wpList_ops_lit (o := ⟨some 150, _, _, _, _, _⟩) rfl 5 _ rfl [⟨3, 1, 0, none, 0, 0⟩, ⟨3, 1, L, none, 0, 0⟩, ⟨3, 1, 1, none, 0, 0⟩, ⟨2, 1, 0, none, 0, 0⟩, ⟨3, 0, 0, none, 0, 0⟩] rfl (by decide) (by decide) ?_ ?_; (go_simp; exact ⟨rfl, rfl, rfl, rfl, rfl⟩)))
           have hsl : Sl w5 (fun _ => 0) 0 4 A5 (j + 5) c5 (opsCells (us2 ++ [⟨3, 1, 0, none, 0, 0⟩, ⟨3, 1, L, none, 0, 0⟩, ⟨3, 1, 1, none, 0, 0⟩, ⟨2, 1, 0, none, 0, 0⟩, ⟨3, 0, 0, none, 0, 0⟩])) := by rw [opsCells, List.flatMap_append]; exact HR5.out.sl.plain
           obtain ⟨ps, hP⟩ := ops_of hsl (fun u hu => by
             rcases List.mem_append.1 hu with hu | hu
             · exact (HU5.out u hu).ok
             · simp only [List.mem_cons, List.not_mem_nil, or_false] at hu
               rcases hu with rfl | rfl | rfl | rfl | rfl <;> exact nil_body _ _ _ _ (by omega) (by omega) (by omega))
           refine (PacketTells_walk _ 65500 0 _ _ _ ps hP).mono ?_
           rintro e w6 ⟨rfl, hb6⟩
           have HL2 : Hid (Below W1.heap.size W1 w6) := Lib.hid ((HL.out.trans (HK5.out.fin.mono HL.out.size)).trans (hb6.mono (Nat.le_trans HL.out.size HK5.out.fin.size)))
           clear hsl hP hb6 HU5 HR5 HK5 HN4 HR4 HS4 HU4 HN HR HU
           go_wp2_with fail
           go_roundw
           case rel => exact ⟨L + 1, by omega, by omega, by go_num, HL2⟩
           case measure => simp [intOf]; omega
     · have hdL : decide ((L : Int) < 36) = false := by simp; omega
       go_wp2_with fail
       go_meet
       exact HL
  have HB11 : Hid (Below w.heap.size w wc) := Lib.hid (HB1.out.trans (hcut.out.mono HB1.out.size))
  clear hcut HB10 HPS HS1 HU1 HUL HB1
  go_wp2_with fail
  refine (New_ok wc (fun _ => 0) 2 7 7 (by decide) (by decide) (by decide) (by decide)).mono ?_
  rintro e w2 ⟨rfl, hst, hE⟩
  go_wp2_with fail
  refine (RNew_ok w2 7 7 (by decide) (by decide) (by decide) (by decide)).mono ?_
  rintro e w3 ⟨rfl, hb3⟩
  have HST := Lib.hid hst; have HE := Lib.hid hE; have HB3 := Lib.hid hb3
  clear hst hE hb3
  generalize wc.heap.size = e at HST HE ⊢
  go_upto_block 14 with fail
  have hst4 := (HST.out.below HB3.out 10).alloc (.cells #[.int .i64 7, .int .i64 7, .int .i64 7, .slice none 0 0, .slice none 0 0] 53) 3
  have hE4 := (HE.out.step ((Step.refl [] _ _).below HB3.out 10) (by simp)).step ((Step.refl [] _ _).alloc (.cells #[.int .i64 7, .int .i64 7, .int .i64 7, .slice none 0 0, .slice none 0 0] 53) 3) (by simp)
  have hbb := Blk.new w3 53 #[.int .i64 7, .int .i64 7, .int .i64 7, .slice none 0 0, .slice none 0 0]
  obtain ⟨o4, ho4⟩ : ∃ o4, o4 = ext (ext (ext (fun _ => 0) e 2) w2.heap.size 10) w3.heap.size 3 := ⟨_, rfl⟩
  rw [← ho4] at hst4 hE4
  have hob : o4 w3.heap.size = 3 := by rw [ho4]; exact ext_ge (Nat.le_refl _)
  generalize w3.heap.size = bx at hbb hob ⊢
  generalize w3.alloc (.cells #[.int .i64 7, .int .i64 7, .int .i64 7, .slice none 0 0, .slice none 0 0] 53) = w4 at hst4 hE4 hbb ⊢
  have HSM : Hid (SmSt wc w4 o4 e bx ⟨7, 7, 7, 7 - 1, 0, []⟩ ⟨7, 7, 7, [], []⟩ none 0 0 none 0 0 0) := Lib.hid ⟨hst4.nil, hE4, ⟨by decide, by decide, by decide, by decide, by decide, by decide, by decide, by decide, fun n h => by cases h⟩, new_ref 7 7, hbb, hob, Sl.nil_ _ _ _ _ _ _ (Nat.zero_le _), Sl.nil_ _ _ _ _ _ _ (Nat.zero_le _), rfl, rfl, Nat.le_refl _, rfl⟩
  clear hst4 hE4 hbb hob ho4 HST HE HB3
  go_wp2_with fail
  go_loopw [163] (fun i wr => ∃ (k : Nat) (ok : Own) (S : EndS) (r : RefS) (PA : Option Addr) (pn pc : Nat) (GA : Option Addr) (gn gc : Nat), k ≤ 300 ∧ i = .int .i64 k ∧ Hid (SmSt wc wr ok e bx S r PA pn pc GA gn gc k)) (fun i _ => 300 - (intOf i).toNat)
  case atStart => exact ⟨0, o4, _, _, _, _, _, _, _, _, by omega, rfl, HSM⟩
  case round =>
    obtain ⟨k, ok, S, r, PA, pn, pc, GA, gn, gc, hk, rfl, HS⟩ := hrel
    by_cases hlt : k < 300
    · have hd : decide ((k : Int) < 300) = true := by simp; omega
      have hst1 := (Step.refl [] wr ok).alloc (.cells #[.int .u8 ((k : Int) % 256)] 5) 13
      have hx1 : Sl (wr.alloc (.cells #[.int .u8 ((k : Int) % 256)] 5)) (ext ok wr.heap.size 13) 13 1 (some ⟨wr.heap.size, 0, none⟩) 1 1 (byts [UInt8.ofNat k]) := by
        have := (Row.made (w := wr) ok 13 5 1 #[.int .u8 ((k : Int) % 256)] 1 rfl (by decide) 1 (Nat.le_refl _)).sl
        have e2 : byts [UInt8.ofNat k] = [.int .u8 ((k : Int) % 256)] := by simp [byts]
        rw [e2]; exact this
      have hS1 := HS.out.step hst1
      have HST1 := Lib.hid hst1; have HX1 := Lib.hid hx1; have HS1 := Lib.hid hS1
      clear hst1 hx1 hS1
      go_wp2_with fail
      obtain ⟨m1, m2, m3⟩ := make_ref HS1.out.rel [UInt8.ofNat k] (by rw [HS1.out.nx]; omega)
      generalize wr.alloc (.cells #[.int .u8 ((k : Int) % 256)] 5) = W1 at HX1 HS1 HST1 ⊢
      generalize ext ok wr.heap.size 13 = o1 at HX1 HS1 HST1
      generalize wr.heap.size = gx at HX1 ⊢
      obtain ⟨ys, hys⟩ : ∃ ys, ys = packP (makeS S) S.next [UInt8.ofNat k] := ⟨_, rfl⟩
      obtain ⟨rs, hrs⟩ : ∃ rs, rs = lostP S := ⟨_, rfl⟩
      obtain ⟨nm, hnm⟩ : ∃ nm, nm = S.next := ⟨_, rfl⟩
      have hmk := Make_any W1 o1 2 13 31 e S HS1.out.E HS1.out.fit (by decide) (by decide) ⟨gx, 0, none⟩ 1 1 _ HX1.out (by decide) (by decide) (by rw [HS1.out.nx]; omega)
      rw [← hys, ← hrs, ← hnm] at hmk
      have HRM := Lib.hid (fun W PA pn pc GA gn gc hP hG A c hx => RMake_main W (fun _ => 0) 0 0 r HS1.out.rfit PA pn pc GA gn gc hP hG (by rw [← HS1.out.rel.pend]; exact HS1.out.fit.len) A 1 c [UInt8.ofNat k] hx (by decide) (by decide))
      rw [← m2, ← m3, ← hys, ← hrs, ← HS1.out.rel.next, ← hnm] at HRM
      have hlen : rs.length = if k < 256 then 0 else 1 := by rw [hrs]; exact lost_len S k HS1.out.len
      have HM1 := Lib.hid m1; have HNM := Lib.hid hnm; have HLE := Lib.hid hlen
      clear m1 m2 m3 hys hrs hnm hlen
      refine hmk.mono ?_
      clear hmk
      rintro e2 w2 ⟨A2, c2, o2, LA2, lc2, rfl, hst2, hE2, hY2, hL2⟩
      obtain ⟨yl, hyl⟩ : ∃ yl, yl = ys.length := ⟨_, rfl⟩
      obtain ⟨rl, hrl⟩ : ∃ rl, rl = rs.length := ⟨_, rfl⟩
      rw [← hyl, ← hrl]
      have hbb2 := HS1.out.bb.step hst2 (by rw [HS1.out.ob]; decide)
      have hob2 := (hst2.own _ HS1.out.bb.lt).trans HS1.out.ob
      have hP2 := HS1.out.hP.step hst2 (by decide); have hG2 := HS1.out.hG.step hst2 (by decide)
      have l0 := hbb2.cell 0; have l1 := hbb2.cell 1; have l2 := hbb2.cell 2; have l3 := hbb2.cell 3; have l4 := hbb2.cell 4
      simp only [List.getElem?_toArray, List.getElem?_cons_zero, List.getElem?_cons_succ] at l0 l1 l2 l3 l4
      have HBB2 := Lib.hid hbb2; have HOB2 := Lib.hid hob2; have HP2 := Lib.hid hP2; have HG2 := Lib.hid hG2; have HST2 := Lib.hid hst2; have HE2 := Lib.hid hE2; have HY2 := Lib.hid hY2; have HL2 := Lib.hid hL2
      have HYL := Lib.hid hyl; have HRL := Lib.hid hrl
      clear hbb2 hob2 hP2 hG2 hst2 hE2 hY2 hL2 hyl hrl
      go_wp2_with fail
      have hal := (Below.refl w2.heap.size w2).alloc (Nat.le_refl _) (.cells #[.int .u8 ((k : Int) % 256)] 5)
      have hx2 : Sl (w2.alloc (.cells #[.int .u8 ((k : Int) % 256)] 5)) (fun _ => 0) 0 1 (some ⟨w2.heap.size, 0, none⟩) 1 1 (byts [UInt8.ofNat k]) := by
        have e2 : byts [UInt8.ofNat k] = [.int .u8 ((k : Int) % 256)] := by simp [byts]
        rw [e2]; exact Sl.fresh w2 5 1 1 [.int .u8 ((k : Int) % 256)] rfl (by decide)
      have hrm := HRM.out _ PA pn pc GA gn gc (HP2.out.below hal).plain (HG2.out.below hal).plain _ _ hx2
      refine hrm.mono ?_
      clear hrm hx2
      rintro e3 w3 ⟨PA3, pn3, pc3, BA3, bc3, LA3, lc3, rfl, hb3, hp3, hy3, hl3, hloc3, hfr3⟩
      rw [← HYL.out, ← HRL.out]
      have hb23 := hal.trans (hb3.mono hal.size)
      have hst3 := (Step.refl [] w2 o2).below hb23 10
      have HP3 := Lib.hid (hp3.place HP2.out (hloc3.imp id (fun h0 hn ad ha => Nat.le_trans (by simp) (h0 hn ad ha))))
      have hgot : (refMakeS r).got = r.got := rfl
      have hG3 := HG2.out.step hst3 (by simp)
      rw [← hgot] at hG3
      have hgl : (refMakeS r).got.length ≤ 0 := by rw [hgot]; exact HS1.out.gl
      simp only [RefS.val]
      generalize refMakeS r = r1 at HP3 HM1 hG3 hgl ⊢
      have hbb3 := HBB2.out.step hst3 (by simp)
      have hob3 := (hst3.own _ HBB2.out.lt).trans HOB2.out
      have hE3 := HE2.out.step hst3 (by simp); have hY3 := HY2.out.sl.step hst3 (by simp); have hL3 := HL2.out.step hst3 (by simp)
      have hst13 := ((HS1.out.st.trans (HST2.out.mono (ts' := [2, 3]) (by simp))).trans hst3.nil)
      generalize ext o2 w2.heap.size 10 = o3 at HP3 hG3 hob3 hE3 hY3 hL3 hst3 hst13
      have hbl3 := hbb3.lt
      go_upto_region 49 with fail
      obtain ⟨w4, hw4⟩ : ∃ w4, w4 = w3.alloc (.cells #[.int .i64 r1.own, .int .i64 r1.other, .int .i64 r1.next, .slice PA3 pn3 pc3, .slice GA gn gc] 53) := ⟨_, rfl⟩
      have hst4 : Step [] w3 o3 w4 (ext o3 w3.heap.size 10) := by rw [hw4]; exact (Step.refl [] w3 o3).alloc _ 10
      have hnb : Blk w4 w3.heap.size 53 #[.int .i64 r1.own, .int .i64 r1.other, .int .i64 r1.next, .slice PA3 pn3 pc3, .slice GA gn gc] := by rw [hw4]; exact Blk.new _ _ _
      rw [← hw4]
      have hbb4 := hbb3.step hst4 (by simp)
      have hob4 := (hst4.own _ hbl3).trans hob3
      have hE4 := hE3.step hst4 (by simp); have hY4 := hY3.step hst4 (by simp); have hL4 := hL3.step hst4 (by simp); have hP4 := HP3.out.step hst4 (by simp); have hG4 := hG3.step hst4 (by simp)
      have hst14 := hst13.trans hst4.nil
      have hy4 : Sl w4 (fun _ => 0) 0 1 BA3 ys.length bc3 (byts ys) := by rw [hw4]; exact hy3.below ((Below.refl _ _).alloc (Nat.le_refl _) _)
      have hl4 : Sl w4 (fun _ => 0) 0 2 LA3 rs.length lc3 (reps rs) := by rw [hw4]; exact hl3.below ((Below.refl _ _).alloc (Nat.le_refl _) _)
      have hne : w3.heap.size ≠ bx := by omega
      have q0 := hnb.cell 0; have q1 := hnb.cell 1; have q2 := hnb.cell 2; have q3 := hnb.cell 3; have q4 := hnb.cell 4
      have n0 := hbb4.cell 0; have n1 := hbb4.cell 1; have n2 := hbb4.cell 2; have n3 := hbb4.cell 3; have n4 := hbb4.cell 4
      have f0 := hbb4.frozen 0; have f1 := hbb4.frozen 1; have f2 := hbb4.frozen 2; have f3 := hbb4.frozen 3; have f4 := hbb4.frozen 4
      simp only [List.getElem?_toArray, List.getElem?_cons_zero, List.getElem?_cons_succ] at q0 q1 q2 q3 q4 n0 n1 n2 n3 n4
      have HBB4 := Lib.hid hbb4; have HOB4 := Lib.hid hob4; have HE4 := Lib.hid hE4; have HY4 := Lib.hid hY4; have HL4 := Lib.hid hL4; have HP4 := Lib.hid hP4; have HG4 := Lib.hid hG4; have HST14 := Lib.hid hst14; have HZ4 := Lib.hid hy4; have HM4 := Lib.hid hl4
      have HGL := Lib.hid hgl
      clear hw4 hst4 hnb hbb4 hob4 hE4 hY4 hL4 hP4 hG4 hst14 hy4 hl4 hbb3 hob3 hE3 hY3 hL3 hst3 hst13 hG3 HP3 hgot l0 l1 l2 l3 l4 hp3 hy3 hl3 hloc3 hfr3 hb3 hb23 hal HBB2 HOB2 HP2 HG2 HE2 HY2 HL2 hbl3 hgl
      generalize ext o3 w3.heap.size 10 = o4 at HOB4 HE4 HY4 HL4 HP4 HG4 HST14
      generalize w3.heap.size = gb at q0 q1 q2 q3 q4 hne ⊢
      go_wp2_with fail
      have h5 := step_five (W := w4) HOB4.out (.int .i64 r1.own) (.int .i64 r1.other) (.int .i64 r1.next) (.slice PA3 pn3 pc3) (.slice GA gn gc)
      have hb5 := blk_five HBB4.out (.int .i64 r1.own) (.int .i64 r1.other) (.int .i64 r1.next) (.slice PA3 pn3 pc3) (.slice GA gn gc)
      have hz5 := HZ4.out.five (HZ4.out.off_end HBB4.out byts_off) (.int .i64 r1.own) (.int .i64 r1.other) (.int .i64 r1.next) (.slice PA3 pn3 pc3) (.slice GA gn gc)
      have hm5 := HM4.out.five (HM4.out.off_end HBB4.out reps_off) (.int .i64 r1.own) (.int .i64 r1.other) (.int .i64 r1.next) (.slice PA3 pn3 pc3) (.slice GA gn gc)
      generalize ((((w4.setCell ⟨bx, 0, none⟩ (.int .i64 r1.own)).setCell ⟨bx, 1, none⟩ (.int .i64 r1.other)).setCell ⟨bx, 2, none⟩ (.int .i64 r1.next)).setCell ⟨bx, 3, none⟩ (.slice PA3 pn3 pc3)).setCell ⟨bx, 4, none⟩ (.slice GA gn gc) = w5 at h5 hb5 hz5 hm5 ⊢
      have hSM : SmSt wc w5 o4 e bx (makeS S) r1 PA3 pn3 pc3 GA gn gc (k + 1) := ⟨HST14.out.trans (h5.mono (by simp)), HE4.out.step h5 (by decide), make_fit HS1.out.fit (by rw [HS1.out.nx]; omega), HM1.out, hb5, HOB4.out, HP4.out.step h5 (by decide), HG4.out.step h5 (by decide), make_pend_len S k HS1.out.len, by show S.next + 1 = _; rw [HS1.out.nx]; omega, HGL.out, HS1.out.ot⟩
      have hy5 := HY4.out.step h5 (by decide); have hl5 := HL4.out.step h5 (by decide)
      rw [← HYL.out] at hy5 hz5; rw [← HRL.out] at hl5 hm5
      have HSM5 := Lib.hid hSM; have HY5 := Lib.hid hy5; have HL5 := Lib.hid hl5; have HZ5 := Lib.hid hz5; have HM5 := Lib.hid hm5
      clear hSM hy5 hl5 hz5 hm5 h5 hb5 HST14 HE4 HY4 HL4 HP4 HG4 HZ4 HM4 HBB4 HOB4 q0 q1 q2 q3 q4 n0 n1 n2 n3 n4 f0 f1 f2 f3 f4 hne
      refine (SameBytes_eq w5 o4 (fun _ => 0) 31 0 A2 BA3 yl yl c2 bc3 ys HY5.out HZ5.out).mono ?_
      rintro e7 w7 ⟨rfl, q7, hw7⟩
      have hst7 : Step [] w5 o4 w7 o4 := by rw [hw7]; exact (Step.refl [] w5 o4).drewN q7
      have HSM7 := Lib.hid (HSM5.out.step hst7); have HL7 := Lib.hid (HL5.out.step hst7 (by simp))
      have HM7 : Hid (Sl w7 (fun _ => 0) 0 2 LA3 rl lc3 (reps rs)) := Lib.hid (by rw [hw7]; exact HM5.out)
      clear hst7 hw7 HSM5 HL5 HM5 HY5 HZ5
      go_wp2_with fail
      refine (sameReports_eq w7 o4 (fun _ => 0) 31 0 LA2 LA3 rl rl lc2 lc3 rs HL7.out HM7.out).mono ?_
      rintro e8 w8 ⟨rfl, q8, hw8⟩
      have HSM8 := Lib.hid (HSM7.out.step (show Step [] w7 o4 w8 o4 by rw [hw8]; exact (Step.refl [] w7 o4).drewN q8))
      have hrk := HRL.out
      rw [HLE.out] at hrk
      rcases Nat.lt_or_ge k 256 with hk2 | hk2
      · obtain rfl : rl = 0 := by rw [if_pos hk2] at hrk; exact hrk
        have hc2 : decide ((256 : Int) ≤ (k : Int)) = false := by simp; omega
        clear hw8 HSM7 HL7 HM7 hrk
        go_wp2_with fail
        go_roundw
        case rel => exact ⟨k + 1, o4, _, r1, PA3, pn3, pc3, GA, gn, gc, by omega, by go_num, HSM8⟩
        case measure => simp [intOf]; omega
      · obtain rfl : rl = 1 := by rw [if_neg (by omega)] at hrk; exact hrk
        have hc2 : decide ((256 : Int) ≤ (k : Int)) = true := by simp; omega
        clear hw8 HSM7 HL7 HM7 hrk
        go_wp2_with fail
        go_roundw
        case rel => exact ⟨k + 1, o4, _, r1, PA3, pn3, pc3, GA, gn, gc, by omega, by go_num, HSM8⟩
        case measure => simp [intOf]; omega
    · have hd : decide ((k : Int) < 300) = false := by simp; omega
      have hbl := HS.out.bb
      have n0 := hbl.cell 0; have n1 := hbl.cell 1; have n2 := hbl.cell 2; have n3 := hbl.cell 3; have n4 := hbl.cell 4
      simp only [List.getElem?_toArray, List.getElem?_cons_zero, List.getElem?_cons_succ] at n0 n1 n2 n3 n4
      clear hbl
      go_wp2_with fail
      refine (same_eq wr ok ok 2 10 e S HS.out.E HS.out.fit r HS.out.rfit PA pn pc GA gn gc HS.out.hP HS.out.hG HS.out.rel).mono ?_
      rintro e5 w5 ⟨rfl, hb5⟩
      go_wp2_with fail
      refine (awake_any w5).mono ?_
      rintro e6 w6 ⟨rfl, hb6⟩
      go_wp2_with fail
      go_ret
      have h1 := HB11.out.trans ((HS.out.st.old (by decide)).mono HB11.out.size)
      have h2 := h1.trans (hb5.mono h1.size)
      exact ⟨rfl, h2.trans (hb6.mono h2.size)⟩
end Go.Proofs.Ytpmbfgpfpdenbaa
