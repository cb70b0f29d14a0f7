/-
  WALK of marchesref20.Receive.
-/
import Derived.Test.YthjjipcbpmdfnaaChRW
import Derived.Test.YthjjipcbpmdfnaaChRT
import Derived.Test.YthjjipcbpmdfnaaChO
namespace Go.Proofs.Ythjjipcbpmdfnaa
open Go.RowKit

/-- Slices of bytes: their row in one tag, their bytes in another. -/
def BsT (w : World) (o : Own) (τ1 τ2 : Nat) (A : Option Addr) (n c : Nat) (ms : List (List UInt8)) : Prop := ∃ vs, Sl w o τ1 1 A n c vs ∧ ms.length = n ∧ ∀ (i : Nat) x, ms[i]? = some x → ∃ XA xl xc, vs[i]? = some (.slice XA xl xc) ∧ Sl w o τ2 1 XA xl xc (byts x)
theorem BsT.nil_ (w : World) (o : Own) (τ1 τ2 : Nat) : BsT w o τ1 τ2 none 0 0 [] := ⟨[], Sl.nil_ _ _ _ _ _ _ (Nat.zero_le _), rfl, fun i x h => by simp at h⟩
theorem BsT.at_ {w : World} {o : Own} {τ1 τ2 : Nat} {A : Option Addr} {n c : Nat} {ms : List (List UInt8)} (h : BsT w o τ1 τ2 A n c ms) : BsAt w A n c ms := by
  obtain ⟨vs, h1, h2, h3⟩ := h
  exact ⟨o, τ1, vs, h1, h2, fun i x hx => by obtain ⟨XA, xl, xc, q1, q2⟩ := h3 i x hx; exact ⟨XA, xl, xc, τ2, q1, q2⟩⟩
theorem BsT.step {w w' : World} {o o' : Own} {ts : List Nat} {τ1 τ2 : Nat} {A : Option Addr} {n c : Nat} {ms : List (List UInt8)} (h : BsT w o τ1 τ2 A n c ms) (hs : Step ts w o w' o') (n1 : τ1 ∉ ts) (n2 : τ2 ∉ ts) : BsT w' o' τ1 τ2 A n c ms := by
  obtain ⟨vs, h1, h2, h3⟩ := h
  exact ⟨vs, h1.step hs n1, h2, fun i x hx => by obtain ⟨XA, xl, xc, q1, q2⟩ := h3 i x hx; exact ⟨XA, xl, xc, q1, q2.step hs n2⟩⟩
theorem BsT.fin {w w' : World} {o o' : Own} {τ τ1 τ2 : Nat} {ts : List Nat} {A : Option Addr} {n c : Nat} {ms : List (List UInt8)} (h : BsT w' o' τ1 τ2 A n c ms) (st : Step ts w (one01 o τ) w' o') (h1 : 1 ≤ τ1) (h2 : 1 ≤ τ2) : BsT w' (ext o w.heap.size τ) τ τ A n c ms := by
  obtain ⟨vs, q1, q2, q3⟩ := h
  exact ⟨vs, q1.re (fun k hk e => fin_re st (by omega) k hk e (by omega)), q2, fun i x hx => by obtain ⟨XA, xl, xc, p1, p2⟩ := q3 i x hx; exact ⟨XA, xl, xc, p1, p2.re (fun k hk e => fin_re st (by omega) k hk e (by omega))⟩⟩
/-- What Receive comes to. -/
def RReceiveTo (w : World) (o : Own) (τ : Nat) (R : RCh × List (List UInt8) × Int) (e : Ending) (w' : World) : Prop := ∃ (v' : RV) (A : Option Addr) (n ac : Nat), e = .returned (.tuple #[.agg (rcells R.1 v'), .slice A n ac, .int .i64 R.2.2]) ∧ Below w.heap.size w w' ∧ RChIn w' (ext o w.heap.size τ) τ τ R.1 v' ∧ BsT w' (ext o w.heap.size τ) τ τ A n ac R.2.1
theorem Sl.locE {w w' : World} {o : Own} {τ sz n c n0 c0 : Nat} {A A0 : Option Addr} {xs xs0 : List Value} (h : Sl w' (fun _ => 0) 0 sz A n c xs) (h0 : Sl w o τ sz A0 n0 c0 xs0) (hl : (A = A0 ∧ n = n0) ∨ (0 < n → ∀ ad, A = some ad → w.heap.size ≤ ad.block)) : Sl w' (ext o w.heap.size τ) τ sz A n c xs := by
  rcases hl with ⟨rfl, rfl⟩ | hl
  · exact h.loc h0 (.inl rfl) (fun hn => .inl hn)
  · exact h.tag' hl o τ
/-- All becomes memory that nobody writes, but for the call's own cells, the row of messages and the box. -/
def calmB (o : Own) : Own := fun k => if o k ≤ 4 ∨ o k = 10 ∨ o k = 11 then o k else 1
theorem calmB_low {o : Own} {k t : Nat} (h : o k = t) (h4 : t ≤ 4 ∨ t = 10 ∨ t = 11) : calmB o k = t := by unfold calmB; rw [if_pos (by rw [h]; exact h4), h]
theorem calmB_in {o : Own} {k t : Nat} (h : o k = t) (h4 : 12 ≤ t) : calmB o k = 1 := by unfold calmB; rw [if_neg (by omega)]
theorem calmB_tags (o : Own) (k : Nat) : calmB o k ≤ 4 ∨ calmB o k = 10 ∨ calmB o k = 11 := by
  unfold calmB; split
  · assumption
  · exact .inl (by decide)
theorem MRow.calmB_ {W : World} {o : Own} {i : Nat} {m : M4} {v : MV} (h : MRow W o i m v) : MIn W (calmB o) 1 m v :=
  ⟨h.b.re (fun k _ hk => calmB_low hk (by decide)), h.p.sl.re (fun k _ hk => calmB_in hk (by omega)), h.t.sl.re (fun k _ hk => calmB_in hk (by omega))⟩
theorem BoxR.calmB_ {W : World} {o : Own} {box : List (Option (List UInt8))} {IA SA : Option Addr} {ic sc : Nat} {ivs : List Value} (h : BoxR W o box IA ic ivs SA sc) : BoxR W (calmB o) box IA ic ivs SA sc :=
  ⟨h.inn.re (fun k hk => calmB_low hk (by decide)), h.som.re (fun k hk => calmB_low hk (by decide)), h.one, fun i b hb => by obtain ⟨xA, xc, q1, q2⟩ := h.el i b hb; exact ⟨xA, xc, q1, q2.re (fun k _ hk => calmB_low hk (by decide))⟩⟩
theorem RS.calmB_ {w W : World} {oI o : Own} {b : Nat} {cb cz : Array Value} (h : RS 2 3 w oI W o b cb cz) (hle : ∀ k, oI k ≤ 1) : RS 2 3 w oI W (calmB o) b cb cz :=
  h.reown (fun k hk => calmB_low rfl (.inl (by rw [h.st.own k hk]; have := hle k; omega))) (calmB_low h.ob (by decide)) (calmB_low h.oz (by decide))

theorem RB.chanE {w W W' : World} {o o' oI : Own} {b τ : Nat} {c : RCh} {v : RV} {cb : Array Value} (h : RB w oI W o' b cb c v c.box v.IA c.box.length v.ic v.ivs v.SA c.box.length v.sc (svsOf c.box)) (hoI : oI = one01 o τ) {o2 : Own} (k : Step [3] W o' W' o2) : RChIn W' (ext o w.heap.size τ) τ τ c v := by
  subst hoI; exact h.chan k
theorem RB.owing {w W : World} {oI o : Own} {b : Nat} {cb : Array Value} {c : RCh} {v : RV} {box : List (Option (List UInt8))} {IA SA : Option Addr} {il ic sl sc : Nat} {ivs svs : List Value} (h : RB w oI W o b cb c v box IA il ic ivs SA sl sc svs) (t : Bool) : RB w oI W o b cb { c with owes := t } v box IA il ic ivs SA sl sc svs := ⟨h.rs, ⟨h.par.pend, h.par.got, h.par.out, h.par.ms⟩, h.bx⟩
/-- The same Channel with another box and another next number. -/
theorem RB.boxed {w W : World} {oI o : Own} {b : Nat} {cb : Array Value} {c : RCh} {v v' : RV} {box : List (Option (List UInt8))} {IA SA : Option Addr} {il ic sl sc : Nat} {ivs svs : List Value} (h : RB w oI W o b cb c v box IA il ic ivs SA sl sc svs) (bx : List (Option (List UInt8))) (n : Nat) (hv : v'.PA = v.PA ∧ v'.pc = v.pc ∧ v'.GA = v.GA ∧ v'.gc = v.gc ∧ v'.OA = v.OA ∧ v'.oc = v.oc ∧ v'.mvs = v.mvs) : RB w oI W o b cb { c with box := bx, next := n } v' box IA il ic ivs SA sl sc svs := by
  obtain ⟨h1, h2, h3, h4, h5, h6, h7⟩ := hv
  exact ⟨h.rs, ⟨by rw [h1, h2]; exact h.par.pend, by rw [h3, h4]; exact h.par.got, by rw [h5, h6, h7]; exact h.par.out, by rw [h7]; exact h.par.ms⟩, h.bx⟩

/-- What the loop over a packet's messages has made: the Channel with this box; the messages of the packet. -/
structure RL (w : World) (oI : Own) (W : World) (o : Own) (b : Nat) (c : RCh) (bx : List (Option (List UInt8))) (k : Nat) (vv : RV) (es : List IncV) (NA : Option Addr) (nn nc : Nat) (MA : Option Addr) (mn mc : Nat) : Prop where
  rb : RB w oI W o b (rcells { c with box := bx, next := k } vv) { c with box := bx, next := k } vv bx vv.IA bx.length vv.ic vv.ivs vv.SA bx.length vv.sc (svsOf bx)
  num : Sl W o 9 1 NA nn nc (incNums es)
  msg : Sl W o 9 1 MA mn mc (incMsgs es)
  bs : ∀ e ∈ es, Sl W o 1 1 e.A e.ln e.c (byts e.b) ∧ e.ln = e.b.length
theorem RL.step {w W W' : World} {oI o o' : Own} {b k nn nc mn mc : Nat} {c : RCh} {bx : List (Option (List UInt8))} {vv : RV} {es : List IncV} {NA MA : Option Addr} {ts : List Nat} (h : RL w oI W o b c bx k vv es NA nn nc MA mn mc) (st : Step ts W o W' o') (hs : ∀ t ∈ ts, (FarTag t ∧ t ≠ 9) ∧ ∀ j, j < w.heap.size → oI j ≠ t) : RL w oI W' o' b c bx k vv es NA nn nc MA mn mc :=
  ⟨h.rb.step st (fun t ht => ⟨(hs t ht).1.1, (hs t ht).2⟩), h.num.step st (fun hm => (hs 9 hm).1.2 rfl), h.msg.step st (fun hm => (hs 9 hm).1.2 rfl), fun e he => ⟨(h.bs e he).1.step st (fun hm => (hs 1 hm).1.1.1 rfl), (h.bs e he).2⟩⟩
theorem RL.len {w W : World} {oI o : Own} {b k nn nc mn mc : Nat} {c : RCh} {bx : List (Option (List UInt8))} {vv : RV} {es : List IncV} {NA MA : Option Addr} (h : RL w oI W o b c bx k vv es NA nn nc MA mn mc) : vv.ivs.length = bx.length := by have := h.rb.bx.inn.len; omega
/-- The box's slices and the next number, in the call's own cells. -/
theorem RL.cells {w W : World} {oI o : Own} {b k nn nc mn mc : Nat} {c : RCh} {bx : List (Option (List UInt8))} {vv : RV} {es : List IncV} {NA MA : Option Addr} (h : RL w oI W o b c bx k vv es NA nn nc MA mn mc) :
    W.cell? ⟨b, 6, none⟩ = some (.slice vv.IA bx.length vv.ic) ∧ W.cell? ⟨b, 7, none⟩ = some (.slice vv.SA bx.length vv.sc) ∧ W.cell? ⟨b, 8, none⟩ = some (.int .i64 k) ∧ W.frozen? ⟨b, 6, none⟩ = false ∧ W.frozen? ⟨b, 7, none⟩ = false ∧ W.frozen? ⟨b, 8, none⟩ = false ∧ b < W.heap.size :=
  ⟨h.rb.rs.bb.cell 6, h.rb.rs.bb.cell 7, h.rb.rs.bb.cell 8, h.rb.rs.bb.frozen 6, h.rb.rs.bb.frozen 7, h.rb.rs.bb.frozen 8, h.rb.rs.bb.lt⟩
/-- One entry more. -/
theorem RL.pad {w W W5 W6 : World} {oI o o5 o6 : Own} {b k nn nc mn mc L c5 c6 : Nat} {c : RCh} {bx : List (Option (List UInt8))} {vv : RV} {es : List IncV} {NA MA A5 A6 : Option Addr} (h : RL w oI W o b c bx k vv es NA nn nc MA mn mc) (hle : ∀ k, oI k ≤ 1) (hL : L = bx.length)
    (st1 : Step [10] W o W5 o5) (hr1 : Row W5 o5 10 41 1 A5 (L + 1) c5 (vv.ivs ++ [.slice none 0 0]))
    (st2 : Step [11] (W5.setCell ⟨b, 6, none⟩ (.slice A5 (L + 1) c5)) o5 W6 o6) (hr2 : Row W6 o6 11 4 1 A6 (L + 1) c6 (svsOf bx ++ [.bool false])) :
    ∃ vv', RL w oI (W6.setCell ⟨b, 7, none⟩ (.slice A6 (L + 1) c6)) o6 b c (bx ++ [none]) k vv' es NA nn nc MA mn mc := by
  subst hL
  have h1 := h.rb.inn (box' := bx ++ [none]) hle st1 hr1 (one_snoc h.rb.bx.one rfl) (el_pad h.rb.bx.el h.len _)
  have sA := h1.rs.setbStep 6 (.slice A5 (bx.length + 1) c5)
  have h2 := h1.setb 6 (.slice A5 (bx.length + 1) c5) rfl
  have h3 := h2.som hle st2 hr2
  have sB := h3.rs.setbStep 7 (.slice A6 (bx.length + 1) c6)
  refine ⟨{ vv with IA := A5, ic := c5, ivs := vv.ivs ++ [.slice none 0 0], SA := A6, sc := c6 }, ?_, ?_, ?_, ?_⟩
  · have h4 := h3.setb (cb' := rcells { c with box := bx ++ [none], next := k } { vv with IA := A5, ic := c5, ivs := vv.ivs ++ [.slice none 0 0], SA := A6, sc := c6 }) 7 (.slice A6 (bx.length + 1) c6) (by simp [rcells])
    have h5 := h4.boxed (v' := { vv with IA := A5, ic := c5, ivs := vv.ivs ++ [.slice none 0 0], SA := A6, sc := c6 }) (bx ++ [none]) k ⟨rfl, rfl, rfl, rfl, rfl, rfl, rfl⟩
    rw [show svsOf (bx ++ [none]) = svsOf bx ++ [.bool false] by simp [svsOf], show (bx ++ [none] : List (Option (List UInt8))).length = bx.length + 1 by simp]
    exact h5
  · exact (((h.num.step st1 (by simp)).step sA (by simp)).step st2 (by simp)).step sB (by simp)
  · exact (((h.msg.step st1 (by simp)).step sA (by simp)).step st2 (by simp)).step sB (by simp)
  · exact fun e he => ⟨((((h.bs e he).1.step st1 (by simp)).step sA (by simp)).step st2 (by simp)).step sB (by simp), (h.bs e he).2⟩
/-- Entry n is filled: its body. -/
theorem RL.put {w W : World} {oI o : Own} {b k nn nc mn mc n hI hS : Nat} {c : RCh} {bx : List (Option (List UInt8))} {vv : RV} {es : List IncV} {NA MA : Option Addr} (h : RL w oI W o b c bx k vv es NA nn nc MA mn mc) (hle : ∀ k, oI k ≤ 1) (hn : n < bx.length)
    (hIA : vv.IA = some ⟨hI, 0, none⟩) (hSA : vv.SA = some ⟨hS, 0, none⟩) {e : IncV} (he : e ∈ es) :
    ∃ vv', RL w oI ((W.setCell ⟨hI, n, none⟩ (.slice e.A e.ln e.c)).setCell ⟨hS, n, none⟩ (.bool true)) o b c (bx.set n (some e.b)) k vv' es NA nn nc MA mn mc ∧ vv'.IA = vv.IA ∧ vv'.SA = vv.SA := by
  have hb := h.bs e he
  have hin := h.rb.bx.inn
  rw [hIA] at hin
  have s1 := hin.stored n (.slice e.A e.ln e.c)
  have r1 := hin.setG (by omega) (k := n) (.slice e.A e.ln e.c)
  have h1 := h.rb.inn (box' := bx.set n (some e.b)) hle s1 r1 (one_set h.rb.bx.one n rfl) (by have h9 := hb.1; rw [hb.2] at h9; rw [hb.2]; exact el_set (n := n) (yc := e.c) h.rb.bx.el h.len h9)
  have hso := h1.bx.som
  rw [hSA] at hso
  have s2 := hso.stored n (.bool true)
  have r2 := hso.setG (by omega) (k := n) (.bool true)
  have h2 := h1.som hle s2 r2
  refine ⟨{ vv with ivs := vv.ivs.set n (.slice e.A e.ln e.c) }, ⟨?_, ?_, ?_, ?_⟩, rfl, rfl⟩
  · have h5 := h2.boxed (v' := { vv with ivs := vv.ivs.set n (.slice e.A e.ln e.c) }) (bx.set n (some e.b)) k ⟨rfl, rfl, rfl, rfl, rfl, rfl, rfl⟩
    rw [show svsOf (bx.set n (some e.b)) = (svsOf bx).set n (.bool true) by simp [svsOf, List.map_set], show (bx.set n (some e.b)).length = bx.length by simp]
    have hc : rcells { c with box := bx.set n (some e.b), next := k } { vv with ivs := vv.ivs.set n (.slice e.A e.ln e.c) } = rcells { c with box := bx, next := k } vv := by simp [rcells]
    rw [hc]
    rw [← hIA, ← hSA] at h5
    exact h5
  · exact (h.num.step s1 (by simp)).step s2 (by simp)
  · exact (h.msg.step s1 (by simp)).step s2 (by simp)
  · exact fun e he => ⟨((h.bs e he).1.step s1 (by simp)).step s2 (by simp), (h.bs e he).2⟩
/-- The next number is one more. -/
theorem RL.next {w W : World} {oI o : Own} {b k nn nc mn mc : Nat} {c : RCh} {bx : List (Option (List UInt8))} {vv : RV} {es : List IncV} {NA MA : Option Addr} (h : RL w oI W o b c bx k vv es NA nn nc MA mn mc) :
    RL w oI (W.setCell ⟨b, 8, none⟩ (.int .i64 ((k : Int) + 1))) o b c bx (k + 1) vv es NA nn nc MA mn mc := by
  have s := h.rb.rs.setbStep 8 (.int .i64 ((k : Int) + 1))
  refine ⟨?_, h.num.step s (by simp), h.msg.step s (by simp), fun e he => ⟨(h.bs e he).1.step s (by simp), (h.bs e he).2⟩⟩
  have h4 := h.rb.setb (cb' := rcells { c with box := bx, next := k + 1 } vv) 8 (.int .i64 ((k : Int) + 1)) (by simp [rcells])
  exact h4.boxed bx (k + 1) ⟨rfl, rfl, rfl, rfl, rfl, rfl, rfl⟩
theorem RL.next_step {w W : World} {oI o : Own} {b k nn nc mn mc : Nat} {c : RCh} {bx : List (Option (List UInt8))} {vv : RV} {es : List IncV} {NA MA : Option Addr} (h : RL w oI W o b c bx k vv es NA nn nc MA mn mc) :
    Step [2] W o (W.setCell ⟨b, 8, none⟩ (.int .i64 ((k : Int) + 1))) o := h.rb.rs.setbStep 8 _
/-- How long the box is. -/
def lenAt (W : World) (b : Nat) : Nat := match W.cell? ⟨b, 6, none⟩ with | some (.slice _ m _) => m | _ => 0
theorem RL.lenAt {w W : World} {oI o : Own} {b k nn nc mn mc : Nat} {c : RCh} {bx : List (Option (List UInt8))} {vv : RV} {es : List IncV} {NA MA : Option Addr} (h : RL w oI W o b c bx k vv es NA nn nc MA mn mc) : lenAt W b = bx.length := by
  unfold Proofs.Ythjjipcbpmdfnaa.lenAt; rw [h.cells.1]
/-- Message i of the packet. -/
theorem RL.at_ {w W : World} {oI o : Own} {b k nn nc mn mc gN oN gM oM : Nat} {c : RCh} {bx : List (Option (List UInt8))} {vv : RV} {es : List IncV} (h : RL w oI W o b c bx k vv es (some ⟨gN, oN, none⟩) nn nc (some ⟨gM, oM, none⟩) mn mc) {i : Nat} {e : IncV} (he : es[i]? = some e) (h1 : 0 < nn) (h2 : 0 < mn) :
    W.cell? ⟨gN, oN + i, none⟩ = some (.int .i64 (e.n : Int)) ∧ W.cell? ⟨gM, oM + i, none⟩ = some (.slice e.A e.ln e.c) := by
  obtain ⟨g1, o1, e1, -, -, c1⟩ := h.num.2.2.2 h1
  obtain ⟨g2, o2, e2, -, -, c2⟩ := h.msg.2.2.2 h2
  injection e1 with e1; injection e1 with e1 e1'; subst e1; subst e1'
  injection e2 with e2; injection e2 with e2 e2'; subst e2; subst e2'
  exact ⟨c1 i _ (by simp [incNums, nats, ints, he]), c2 i _ (by simp [incMsgs, he])⟩
theorem RL.tagN {w W : World} {oI o : Own} {b k nn nc mn mc gN oN : Nat} {c : RCh} {bx : List (Option (List UInt8))} {vv : RV} {es : List IncV} {MA : Option Addr} (h : RL w oI W o b c bx k vv es (some ⟨gN, oN, none⟩) nn nc MA mn mc) (h1 : 0 < nn) : o gN = 9 ∧ gN < W.heap.size := by
  obtain ⟨g1, o1, e1, h2, h3, -⟩ := h.num.2.2.2 h1
  injection e1 with e1; injection e1 with e1 e1'; subst e1
  exact ⟨h2, h3⟩
/-- Entry n of the box: whether there is one. -/
theorem RL.some_ {w W : World} {oI o : Own} {b k nn nc mn mc n : Nat} {c : RCh} {bx : List (Option (List UInt8))} {vv : RV} {es : List IncV} {NA MA : Option Addr} (h : RL w oI W o b c bx k vv es NA nn nc MA mn mc) {x : Option (List UInt8)} (hx : bx[n]? = some x) :
    ∃ hS, vv.SA = some ⟨hS, 0, none⟩ ∧ W.cell? ⟨hS, n, none⟩ = some (.bool x.isSome) ∧ W.frozen? ⟨hS, n, none⟩ = false ∧ hS < W.heap.size ∧ o hS = 11 := by
  have hl := (List.getElem?_eq_some_iff.1 hx).1
  obtain ⟨hS, h1, h2, h3, h4, h5⟩ := h.rb.bx.som.cellG (k := n) (u := .bool x.isSome) (by simp [svsOf, hx]) (by omega)
  exact ⟨hS, h1, h4, h5, h3, h2⟩
theorem RL.inn_ {w W : World} {oI o : Own} {b k nn nc mn mc n : Nat} {c : RCh} {bx : List (Option (List UInt8))} {vv : RV} {es : List IncV} {NA MA : Option Addr} (h : RL w oI W o b c bx k vv es NA nn nc MA mn mc) (hn : n < bx.length) :
    ∃ hI u, vv.IA = some ⟨hI, 0, none⟩ ∧ vv.ivs[n]? = some u ∧ W.cell? ⟨hI, n, none⟩ = some u ∧ W.frozen? ⟨hI, n, none⟩ = false ∧ hI < W.heap.size ∧ o hI = 10 := by
  have hl := h.len
  obtain ⟨u, hu⟩ : ∃ u, vv.ivs[n]? = some u := ⟨_, List.getElem?_eq_getElem (by omega)⟩
  obtain ⟨hI, h1, h2, h3, h4, h5⟩ := h.rb.bx.inn.cellG hu (by omega)
  exact ⟨hI, u, h1, hu, h4, h5, h3, h2⟩
/-- While messages are delivered. -/
structure RDl (w : World) (oI : Own) (W : World) (o : Own) (b : Nat) (c : RCh) (bx : List (Option (List UInt8))) (nx : Nat) (vv : RV) (es : List IncV) (NA : Option Addr) (nn nc : Nat) (MA : Option Addr) (mn mc : Nat) (OA : Option Addr) (k oc : Nat) (vs : List Value) (outs : List (List UInt8)) : Prop where
  rl : RL w oI W o b c bx (nx + k) vv es NA nn nc MA mn mc
  row : Row W o 12 41 1 OA k oc vs
  len : outs.length = k
  el : ∀ (j : Nat) (x : List UInt8), outs[j]? = some x → ∃ (XA : Option Addr) (xc : Nat), vs[j]? = some (.slice XA x.length xc) ∧ Sl W o 1 1 XA x.length xc (byts x)
  run : rOut bx bx.length nx = outs ++ rOut bx (bx.length - k) (nx + k)
section
variable {w W W' : World} {oI o o' : Own} {b nx k nn nc mn mc oc : Nat} {c : RCh} {bx : List (Option (List UInt8))} {vv : RV} {es : List IncV} {NA MA OA : Option Addr} {vs : List Value} {outs : List (List UInt8)} {ts : List Nat}
theorem RDl.step (h : RDl w oI W o b c bx nx vv es NA nn nc MA mn mc OA k oc vs outs) (st : Step ts W o W' o') (hs : ∀ t ∈ ts, (FarTag t ∧ t ≠ 9 ∧ t ≠ 12) ∧ ∀ j, j < w.heap.size → oI j ≠ t) : RDl w oI W' o' b c bx nx vv es NA nn nc MA mn mc OA k oc vs outs :=
  ⟨h.rl.step st (fun t ht => ⟨⟨(hs t ht).1.1, (hs t ht).1.2.1⟩, (hs t ht).2⟩), h.row.step st (fun hm => (hs _ hm).1.2.2 rfl), h.len, fun j x hx => by obtain ⟨XA, xc, q1, q2⟩ := h.el j x hx; exact ⟨XA, xc, q1, q2.step st (fun hm => (hs 1 hm).1.1.1 rfl)⟩, h.run⟩
theorem RDl.more (h : RDl w oI W o b c bx nx vv es NA nn nc MA mn mc OA k oc vs outs) (hle : ∀ k, oI k ≤ 1) {x : List UInt8} (hx : bx[nx + k]? = some (some x)) {XA A' : Option Addr} {xc c' : Nat} (hs : Sl W o 1 1 XA x.length xc (byts x)) (st : Step [12] W o W' o') (hr : Row W' o' 12 41 1 A' (k + 1) c' (vs ++ [.slice XA x.length xc])) :
    RDl w oI (W'.setCell ⟨b, 8, none⟩ (.int .i64 (((nx + k : Nat) : Int) + 1))) o' b c bx nx vv es NA nn nc MA mn mc A' (k + 1) c' (vs ++ [.slice XA x.length xc]) (outs ++ [x]) := by
  have h1 := h.rl.step st (fun t ht => by simp at ht; subst ht; exact ⟨⟨by unfold FarTag; omega, by decide⟩, fun j _ => by have := hle j; omega⟩)
  have s2 := h1.next_step
  have hlt := (List.getElem?_eq_some_iff.1 hx).1
  have hvl : vs.length = k := by have := h.row.len; omega
  refine ⟨h1.next, hr.step s2 (by simp), by simp [h.len], fun j y hy => ?_, ?_⟩
  · rcases Nat.lt_or_ge j k with hj | hj
    · rw [List.getElem?_append_left (by rw [h.len]; exact hj)] at hy
      obtain ⟨YA, yc, q1, q2⟩ := h.el j y hy
      exact ⟨YA, yc, by rw [List.getElem?_append_left (by omega)]; exact q1, (q2.step st (by simp)).step s2 (by simp)⟩
    · rw [List.getElem?_append_right (by rw [h.len]; exact hj), h.len] at hy
      have hj0 : j - k = 0 := by
        have := (List.getElem?_eq_some_iff.1 hy).1
        simp at this; omega
      rw [hj0] at hy
      simp only [List.getElem?_cons_zero, Option.some.injEq] at hy
      subst hy
      exact ⟨XA, xc, by rw [List.getElem?_append_right (by omega), show j - vs.length = 0 by omega]; rfl, (hs.step st (by simp)).step s2 (by simp)⟩
  · rw [h.run, show bx.length - k = (bx.length - (k + 1)) + 1 by omega, rOut_in hx, List.append_assoc]; rfl
end
theorem rFill_none {bx : List (Option (List UInt8))} {p : Nat × List UInt8} (h : (rPad bx p.1)[p.1]? = some none) : rFill bx p = (rPad bx p.1).set p.1 (some p.2) := by unfold rFill; rw [if_pos h]
theorem rFill_some {bx : List (Option (List UInt8))} {p : Nat × List UInt8} (h : (rPad bx p.1)[p.1]? ≠ some none) : rFill bx p = rPad bx p.1 := by unfold rFill; rw [if_neg h]

set_option maxRecDepth 100000 in
set_option maxHeartbeats 8000000 in
theorem rReceive_any {w : World} {o : Own} {τ : Nat} {c : RCh} {v : RV} (h : RChIn w o τ τ c v) (hb : RBd c) (hf : c.e.Fit) (hnb : c.next ≤ c.box.length) (A : Option Addr) (n ac : Nat) (xs : List UInt8) (hS : Sl w o τ 1 A n ac (byts xs)) (hn : n ≤ 1000000) :
    Calls Try.prog 25 #[.agg (rcells c v), .slice A n ac] w (RReceiveTo w o τ (rReceive c xs)) := by
  obtain ⟨P, hP⟩ : ∃ P, P = RReceiveTo w o τ (rReceive c xs) := ⟨_, rfl⟩
  rw [← hP]
  have HP := Lib.hid hP
  clear hP
  have hnl : n = xs.length := by have := hS.1; simp at this; omega
  have hI := h.begin_
  obtain ⟨oI, hoI⟩ : ∃ oI, oI = one01 o τ := ⟨_, rfl⟩
  have hsl := hS.re (o' := oI) (τ' := 1) (fun k _ hk => by rw [hoI]; exact one01_in hk)
  rw [← hoI] at hI
  have hle : ∀ k, oI k ≤ 1 := fun k => by rw [hoI]; exact one01_le o τ k
  have hrs := RS.start 2 3 w oI (rcells c v) zero11
  have stI := ((Step.refl [] w oI).alloc (.cells (rcells c v) 32) 2).alloc (.cells zero11 32) 3
  have hch := hI.step stI (by simp) (by simp)
  have hsl := hsl.step stI (by simp)
  have ho1 : ∀ k, ext (ext oI w.heap.size 2) (w.alloc (.cells (rcells c v) 32)).heap.size 3 k ≤ 3 := fun k => by
    unfold ext; have := hle k; split <;> (try split) <;> omega
  have HO1 := Lib.hid ho1
  clear ho1
  have HRS := Lib.hid hrs; have HCH := Lib.hid hch; have HSL := Lib.hid hsl; have HB := Lib.hid hb; have HOI := Lib.hid hoI; have HLE := Lib.hid hle; have HNL := Lib.hid hnl; have HFT := Lib.hid hf; have HNB := Lib.hid hnb
  clear hrs stI hch hb hoI hle h hI hS hsl hnl hf hnb
  go_enter Try.func25, Try.ntmps25
  go_upto_region 1 with fail
  have hrs := HRS.out; have hch := HCH.out; have ho1 := HO1.out; have hsl := HSL.out
  clear HRS HCH HO1 HSL
  unfold zero11 at hrs hch hsl
  generalize (w.alloc (.cells (rcells c v) 32)).alloc (.cells _ 32) = w1 at hrs hch hsl ⊢
  generalize ext (ext oI _ 2) _ 3 = o1 at hrs hch ho1 hsl
  have HO1 := Lib.hid ho1
  clear ho1
  generalize w.heap.size = b at hrs ⊢
  obtain ⟨own, hown⟩ : ∃ x, x = c.e.own := ⟨_, rfl⟩
  obtain ⟨oth, hoth⟩ : ∃ x, x = c.e.other := ⟨_, rfl⟩
  obtain ⟨nxt, hnxt⟩ : ∃ x, x = c.e.next := ⟨_, rfl⟩
  obtain ⟨pl, hpl⟩ : ∃ x, x = c.e.pend.length := ⟨_, rfl⟩
  obtain ⟨gl, hgl⟩ : ∃ x, x = c.e.got.length := ⟨_, rfl⟩
  obtain ⟨r0, r1, r2, r3, r4, -⟩ := box11 hrs.bb
  rw [← hown] at r0; rw [← hoth] at r1; rw [← hnxt] at r2; rw [← hpl] at r3; rw [← hgl] at r4
  obtain ⟨R, hR⟩ : ∃ R, R = refRecv c.e xs := ⟨_, rfl⟩
  have hbody : R.2.1.length ≤ 1000000 := by rw [hR]; have := refRecv_body c.e xs; rw [← HNL.out] at this; omega
  have HON := Lib.hid (RRecv_any w1 o1 o1 1 1 c.e HFT.out v.PA pl v.pc v.GA gl v.gc (by rw [hpl]; exact hch.pend) (by rw [hgl]; exact hch.got) A n ac xs hsl (by omega))
  rw [show RefS.val c.e v.PA pl v.pc v.GA gl v.gc = .agg #[.int .i64 own, .int .i64 oth, .int .i64 nxt, .slice v.PA pl v.pc, .slice v.GA gl v.gc] by rw [hown, hoth, hnxt]] at HON
  rw [← hR] at HON
  obtain ⟨e7, body, rs, code⟩ := R
  simp only at HON hbody
  unfold RRecvTo at HON
  simp only at HON
  obtain ⟨bn, hbn⟩ : ∃ k, k = body.length := ⟨_, rfl⟩
  obtain ⟨rn, hrn⟩ : ∃ k, k = rs.length := ⟨_, rfl⟩
  rw [← hbn, ← hrn] at HON
  rw [← hbn] at hbody
  have HR := Lib.hid hR; have HRS := Lib.hid hrs; have HCH := Lib.hid hch; have HBN := Lib.hid hbn; have HRN := Lib.hid hrn
  have HPN : Hid (Sl w1 o1 1 1 v.PA pl v.pc (ints c.e.pend) ∧ Sl w1 o1 1 1 v.GA gl v.gc (ints c.e.got)) := Lib.hid (by rw [hpl, hgl]; exact ⟨hch.pend, hch.got⟩)
  clear hown hoth hnxt hpl hgl hrs hch hsl hR hbn hrn
  go_upto_region 2 with (go_at_call 55; refine HON.out.mono ?_; rintro e w2 ⟨PA7, pn7, pc7, GA7, gn7, gc7, BA, bc, RA, rc, rfl, hb, s1, s2, s3, s4, l1, l2, l3⟩; have HB2 := Lib.hid hb; have HS1 := Lib.hid s1; have HS2 := Lib.hid s2; have HS3 := Lib.hid s3; have HS4 := Lib.hid s4; have HL1 := Lib.hid l1; have HL2 := Lib.hid l2; have HL3 := Lib.hid l3; clear hb s1 s2 s3 s4 l1 l2 l3)
  have st2 := (Step.refl [] w1 o1).below HB2.out 1
  have p2 := HS1.out.locE HPN.out.1 HL1.out
  have g2 := HS2.out.locE HPN.out.2 HL2.out
  have b2 := HS3.out.re (o' := ext o1 w1.heap.size 1) (τ' := 1) (fun k _ hk => by unfold ext; split; exact hk; rfl)
  have q2 := HS4.out.tag' HL3.out o1 1
  have rs2 := HRS.out.step st2 (by simp) (by decide) (by decide)
  have ch2 := HCH.out.step st2 (by simp) (by simp)
  have ho2 : ∀ k, ext o1 w1.heap.size 1 k ≤ 3 := fun k => by unfold ext; have := HO1.out k; split <;> omega
  generalize ext o1 w1.heap.size 1 = o2 at p2 g2 b2 q2 rs2 ch2 ho2
  have n3 := Blk.new w2 27 #[.int .i64 e7.own, .int .i64 e7.other, .int .i64 e7.next, .slice PA7 pn7 pc7, .slice GA7 gn7 gc7]
  have st3 := (Step.refl [] w2 o2).alloc (.cells #[.int .i64 e7.own, .int .i64 e7.other, .int .i64 e7.next, .slice PA7 pn7 pc7, .slice GA7 gn7 gc7] 27) 9
  have p3 := p2.step st3 (by simp); have g3 := g2.step st3 (by simp); have b3 := b2.step st3 (by simp); have q3 := q2.step st3 (by simp)
  have rs3 := rs2.step st3 (by simp) (by decide) (by decide)
  have ch3 := ch2.step st3 (by simp) (by simp)
  have ho3 : ∀ k, ext o2 w2.heap.size 9 k ≤ 3 ∨ ext o2 w2.heap.size 9 k = 9 := fun k => by unfold ext; have := ho2 k; split <;> omega
  have hog3 : ext o2 w2.heap.size 9 w2.heap.size = 9 := ext_ge (Nat.le_refl _)
  generalize ext o2 w2.heap.size 9 = o3 at p3 g3 b3 q3 rs3 ch3 ho3 hog3
  generalize w2.alloc _ = w3 at n3 p3 g3 b3 q3 rs3 ch3 ⊢
  generalize w2.heap.size = g at n3 hog3 ⊢
  have RS3 := Lib.hid rs3; have CH3 := Lib.hid ch3; have HP3 := Lib.hid p3; have HG3 := Lib.hid g3; have HB3 := Lib.hid b3; have HQ3 := Lib.hid q3; have HN3 := Lib.hid n3; have HO3 := Lib.hid ho3; have HOG3 := Lib.hid hog3
  clear st2 st3 p2 g2 b2 q2 rs2 ch2 ho2 n3 p3 g3 b3 q3 rs3 ch3 ho3 hog3 HB2 HS1 HS2 HS3 HS4 HL1 HL2 HL3 HON HRS HCH HPN HO1 r0 r1 r2 r3 r4
  by_cases h190 : code = 190
  · subst h190
    go_wp2_with (first | (refine wpList_load_rc rfl (.tmp 2) rfl rfl RS3.out.bb ?_) | (refine wpList_store_rc rfl (.tmp 4) (.tmp 27) rfl rfl rfl RS3.out.bz rfl ?_))
    have hz := RS3.out.bz.setRow (rcells c v)
    have stz := step_setRow (W := w3) RS3.out.oz (rcells c v)
    obtain ⟨WZ, hWZ⟩ : ∃ WZ, WZ = w3.setRow (b + 1) (rcells c v) := ⟨_, rfl⟩
    rw [← hWZ] at hz stz ⊢
    obtain ⟨r0, r1, r2, r3, r4, r5, r6, r7, r8, r9, r10⟩ := box11 hz
    refine bodyPost_ret (v := .tuple #[.agg (rcells c v), .slice none 0 0, .int .i64 190]) (by simp [results, Try.results25, go_sem, r0, r1, r2, r3, r4, r5, r6, r7, r8, r9, r10, rcells]) rfl ?_
    have hst := (RS3.out.st.mono (ts' := [2, 3, 4]) (by simp)).trans (stz.mono (ts' := [2, 3, 4]) (by simp))
    have e : rReceive c xs = (c, [], 190) := by
      unfold rReceive; rw [← HR.out]; exact if_pos rfl
    rw [HP.out, e]
    rw [HOI.out] at hst
    exact ⟨v, _, _, _, rfl, hst.to_below (fun k _ => by have := one01_le o τ k; simp; omega), (CH3.out.step stz (by simp) (by simp)).fin hst (by decide) (by decide), BsT.nil_ _ _ _ _⟩
  · have hd190 : (code == 190) = false := by simpa using h190
    have CC := Lib.hid (copied_rows CH3.out (by have := HB.out.out; omega) (by have := HB.out.box; omega) (fun m hm => by have := HB.out.ps m hm; omega) (fun j hj => by have := HO3.out j; omega))
    go_upto_region 5 with (first | (refine wpList_load_rc rfl (.tmp 2) rfl rfl RS3.out.bb ?_) | (go_at_call 44; refine CC.out.mono ?_; rintro e w4 ⟨v4, o4, rfl, st4, ch4⟩; have ST4 := Lib.hid st4; have CH4 := Lib.hid ch4; clear st4 ch4) | (refine wpList_store_rc rfl (.tmp 2) (.tmp 30) rfl rfl rfl (RS3.out.step ST4.out (by simp) (by decide) (by decide)).bb rfl ?_))
    have rs4 := RS3.out.step ST4.out (by simp) (by decide) (by decide)
    have rs5 := rs4.setRowB (rcells c v4)
    have st5 := step_setRow (W := w4) rs4.ob (rcells c v4)
    have ch5 := CH4.out.step st5 (by simp)
    have p5 := (HP3.out.step ST4.out (by simp)).step st5 (by simp); have g5 := (HG3.out.step ST4.out (by simp)).step st5 (by simp); have b5 := (HB3.out.step ST4.out (by simp)).step st5 (by simp); have q5 := (HQ3.out.step ST4.out (by simp)).step st5 (by simp)
    have n5 := (HN3.out.step ST4.out (by simp)).step st5 (by rw [ST4.out.own _ HN3.out.lt, HOG3.out]; decide)
    generalize w4.setRow b (rcells c v4) = w5 at rs5 ch5 p5 g5 b5 q5 n5 ⊢
    obtain ⟨n0, n1, n2, n3, n4⟩ : w5.cell? ⟨g, 0, none⟩ = some (.int .i64 e7.own) ∧ w5.cell? ⟨g, 1, none⟩ = some (.int .i64 e7.other) ∧ w5.cell? ⟨g, 2, none⟩ = some (.int .i64 e7.next) ∧ w5.cell? ⟨g, 3, none⟩ = some (.slice PA7 pn7 pc7) ∧ w5.cell? ⟨g, 4, none⟩ = some (.slice GA7 gn7 gc7) := ⟨n5.cell 0, n5.cell 1, n5.cell 2, n5.cell 3, n5.cell 4⟩
    obtain ⟨b0, b1, b2, b3, b4, -⟩ := box11 rs5.bb
    have fz0 := rs5.bb.frozen 0; have fz1 := rs5.bb.frozen 1; have fz2 := rs5.bb.frozen 2; have fz3 := rs5.bb.frozen 3; have fz4 := rs5.bb.frozen 4
    have hbl := rs5.bb.lt
    have hgl := n5.lt
    have RS5 := Lib.hid rs5; have CH5 := Lib.hid ch5; have HP5 := Lib.hid p5; have HG5 := Lib.hid g5; have HB5 := Lib.hid b5; have HQ5 := Lib.hid q5
    clear rs4 rs5 st5 ch5 p5 g5 b5 q5 n5 CC ST4 CH4 RS3 CH3 HP3 HG3 HB3 HQ3 HN3 HO3 HOG3
    go_upto_region 6 with fail
    obtain ⟨c6, hc6⟩ : ∃ c6 : RCh, c6 = { c with e := e7 } := ⟨_, rfl⟩
    obtain ⟨v6, hv6⟩ : ∃ v6 : RV, v6 = { v4 with PA := PA7, pc := pc7, GA := GA7, gc := gc7 } := ⟨_, rfl⟩
    have hpn7 : pn7 = e7.pend.length := by have := HP5.out.1; simp at this; omega
    have hgn7 : gn7 = e7.got.length := by have := HG5.out.1; simp at this; omega
    have s1 := RS5.out.setb (cb' := (rcells c v4).setIfInBounds 0 (.int .i64 e7.own)) 0 (.int .i64 e7.own) rfl
    have s2 := s1.setb (cb' := ((rcells c v4).setIfInBounds 0 (.int .i64 e7.own)).setIfInBounds 1 (.int .i64 e7.other)) 1 (.int .i64 e7.other) rfl
    have s3 := s2.setb (cb' := (((rcells c v4).setIfInBounds 0 (.int .i64 e7.own)).setIfInBounds 1 (.int .i64 e7.other)).setIfInBounds 2 (.int .i64 e7.next)) 2 (.int .i64 e7.next) rfl
    have s4 := s3.setb (cb' := ((((rcells c v4).setIfInBounds 0 (.int .i64 e7.own)).setIfInBounds 1 (.int .i64 e7.other)).setIfInBounds 2 (.int .i64 e7.next)).setIfInBounds 3 (.slice PA7 pn7 pc7)) 3 (.slice PA7 pn7 pc7) rfl
    have s5 := s4.setb (cb' := rcells c6 v6) 4 (.slice GA7 gn7 gc7) (by rw [hc6, hv6, hgn7, hpn7]; simp [rcells])
    have st9 := ((((RS5.out.setbStep 0 (.int .i64 e7.own)).trans (s1.setbStep 1 (.int .i64 e7.other))).trans (s2.setbStep 2 (.int .i64 e7.next))).trans (s3.setbStep 3 (.slice PA7 pn7 pc7))).trans (s4.setbStep 4 (.slice GA7 gn7 gc7))
    obtain ⟨W6, hW6⟩ : ∃ W6, W6 = ((((w5.setCell ⟨b, 0, none⟩ (.int .i64 e7.own)).setCell ⟨b, 1, none⟩ (.int .i64 e7.other)).setCell ⟨b, 2, none⟩ (.int .i64 e7.next)).setCell ⟨b, 3, none⟩ (.slice PA7 pn7 pc7)).setCell ⟨b, 4, none⟩ (.slice GA7 gn7 gc7) := ⟨_, rfl⟩
    rw [← hW6] at s5 st9 ⊢
    have ch6 := CH5.out.step st9 (by simp)
    have p6 := (HP5.out.step st9 (by simp)).re (o' := calmB o4) (τ' := 1) (fun k _ hk => calmB_low hk (by decide))
    have g6 := (HG5.out.step st9 (by simp)).re (o' := calmB o4) (τ' := 1) (fun k _ hk => calmB_low hk (by decide))
    have b6 := (HB5.out.step st9 (by simp)).re (o' := calmB o4) (τ' := 1) (fun k _ hk => calmB_low hk (by decide))
    have q6 := (HQ5.out.step st9 (by simp)).re (o' := calmB o4) (τ' := 1) (fun k _ hk => calmB_low hk (by decide))
    have rs6 := s5.calmB_ HLE.out
    have row6 : Row W6 (calmB o4) 4 107 4 v6.OA c6.out.length v6.oc (msCells (c6.out.map RMsg.m4) v6.mvs) := by rw [hc6, hv6]; exact ch6.out.re (fun k hk => calmB_low hk (by decide))
    have ms6 : MsIn W6 (calmB o4) 1 (c6.out.map RMsg.m4) v6.mvs := by
      rw [hc6, hv6]
      exact ⟨ch6.ms.len, fun i m v hm hv => (ch6.ms.new i m v (by have := (List.getElem?_eq_some_iff.1 hm).1; rwa [List.length_map] at this) hm hv).calmB_⟩
    have box6 : BoxR W6 (calmB o4) c6.box v6.IA v6.ic v6.ivs v6.SA v6.sc := by rw [hc6, hv6]; exact ch6.box.calmB_
    have ho6 : ∀ k, calmB o4 k ≤ 4 ∨ calmB o4 k = 10 ∨ calmB o4 k = 11 := calmB_tags o4
    have CD := Lib.hid (decided_any row6 ms6 (by rw [hc6]; have := HB.out.out; show c.out.length ≤ _; omega) (by rw [hc6]; intro m hm; have := HB.out.ps m hm; omega) q6 (fun k _ => by have := ho6 k; omega))
    generalize calmB o4 = o6 at p6 g6 b6 q6 rs6 row6 ms6 box6 ho6 CD
    rw [hpn7] at p6; rw [hgn7] at g6
    have RS6 := Lib.hid rs6; have HP6 := Lib.hid p6; have HG6 := Lib.hid g6; have HB6 := Lib.hid b6; have HX6 := Lib.hid box6; have HC6 := Lib.hid hc6; have HV6 := Lib.hid hv6
    clear hc6 hv6 hpn7 hgn7 s1 s2 s3 s4 s5 st9 hW6 ch6 p6 g6 b6 q6 rs6 row6 ms6 box6 ho6 n0 n1 n2 n3 n4 b0 b1 b2 b3 b4 fz0 fz1 fz2 fz3 fz4 hbl hgl RS5 CH5 HP5 HG5 HB5 HQ5
    go_upto_region 7 with (first | (refine wpList_load_rc rfl (.tmp 2) rfl rfl RS6.out.bb ?_) | (go_at_call 51; refine CD.out.mono ?_; rintro e w7 ⟨vs7, o7, rfl, st7, row7, ms7⟩; have ST7 := Lib.hid st7; have ROW7 := Lib.hid row7; have MS7 := Lib.hid ms7; clear st7 row7 ms7) | (refine wpList_store_rc rfl (.tmp 2) (.tmp 35) rfl rfl rfl (RS6.out.step ST7.out (by simp) (by decide) (by decide)).bb rfl ?_))
    have rs7 := RS6.out.step ST7.out (by simp) (by decide) (by decide)
    have rs8 := rs7.setRowB (rcells c6 v6)
    have st8 := step_setRow (W := w7) rs7.ob (rcells c6 v6)
    obtain ⟨c8, hc8⟩ : ∃ c8 : RCh, c8 = { c with e := e7, out := rDec c.out rs } := ⟨_, rfl⟩
    obtain ⟨v8, hv8⟩ : ∃ v8 : RV, v8 = { v6 with mvs := vs7 } := ⟨_, rfl⟩
    have hcell : rcells c6 v6 = rcells c8 v8 := by rw [hc8, hv8, HC6.out]; simp [rcells, rdec_len]
    have p8 := (HP6.out.step ST7.out (by simp)).step st8 (by simp); have g8 := (HG6.out.step ST7.out (by simp)).step st8 (by simp); have b8 := (HB6.out.step ST7.out (by simp)).step st8 (by simp)
    have x8 := (HX6.out.step ST7.out (by simp)).step st8 (by simp)
    have row8 := ROW7.out.step st8 (by simp); have ms8 := MS7.out.step st8 (by simp)
    generalize w7.setRow b (rcells c6 v6) = w8 at rs8 p8 g8 b8 x8 row8 ms8 ⊢
    rw [hcell] at rs8
    have rb8 : RB w oI w8 o7 b (rcells c8 v8) c8 v8 c8.box v8.IA c8.box.length v8.ic v8.ivs v8.SA c8.box.length v8.sc (svsOf c8.box) := by
      refine ⟨rs8, ⟨?_, ?_, ?_, ?_⟩, ?_⟩
      · rw [hc8, hv8, HV6.out]; exact p8
      · rw [hc8, hv8, HV6.out]; exact g8
      · rw [hc8, hv8]; show Sl _ _ _ _ _ (rDec c.out rs).length _ _; rw [rdec_len]; rw [HC6.out] at row8; exact row8.sl
      · rw [hc8, hv8]; rw [HC6.out] at ms8; exact ms8
      · rw [hc8, hv8]; rw [HC6.out] at x8; exact ⟨x8.inn, x8.som, x8.one, x8.el⟩
    have RB8 := Lib.hid rb8; have RS8 := Lib.hid rs8; have HB8 := Lib.hid b8; have HC8 := Lib.hid hc8
    clear hcell rs7 rs8 st8 p8 g8 b8 x8 row8 ms8 rb8 hc8 hv8 CD ST7 ROW7 MS7 RS6 HP6 HG6 HB6 HX6 HC6 HV6
    by_cases h00 : code = 0 ∧ bn = 0
    · obtain ⟨rfl, rfl⟩ := h00
      go_wp2_with (first | (refine wpList_load_rc rfl (.tmp 2) rfl rfl RS8.out.bb ?_) | (refine wpList_store_rc rfl (.tmp 4) (.tmp 43) rfl rfl rfl RS8.out.bz rfl ?_))
      have hz := RS8.out.bz.setRow (rcells c8 v8)
      have stz := step_setRow (W := w8) RS8.out.oz (rcells c8 v8)
      obtain ⟨WZ, hWZ⟩ : ∃ WZ, WZ = w8.setRow (b + 1) (rcells c8 v8) := ⟨_, rfl⟩
      rw [← hWZ] at hz stz ⊢
      obtain ⟨r0, r1, r2, r3, r4, r5, r6, r7, r8, r9, r10⟩ := box11 hz
      refine bodyPost_ret (v := .tuple #[.agg (rcells c8 v8), .slice none 0 0, .int .i64 0]) (by simp [results, Try.results25, go_sem, r0, r1, r2, r3, r4, r5, r6, r7, r8, r9, r10, rcells]) rfl ?_
      have hst := (RS8.out.st.mono (ts' := [2, 3, 4]) (by simp)).trans (stz.mono (ts' := [2, 3, 4]) (by simp))
      have e : rReceive c xs = (c8, [], 0) := by
        unfold rReceive; rw [← HR.out]; refine (if_neg (show ¬ (0 : Int) = 190 by decide)).trans ?_; exact (if_pos ⟨rfl, List.length_eq_zero_iff.1 HBN.out.symm⟩).trans (by rw [HC8.out])
      rw [HP.out, e]
      rw [HOI.out] at hst
      exact ⟨v8, _, _, _, rfl, hst.to_below (fun k _ => by have := one01_le o τ k; simp; omega), RB8.out.chanE HOI.out stz, BsT.nil_ _ _ _ _⟩
    · have hRR : Hid (∀ c9 : RCh, c9 = { c8 with owes := true } → (code ≠ 0 → rReceive c xs = (c9, [], code)) ∧ (code = 0 → parseP' c.next body = none → rReceive c xs = (c9, [], 200)) ∧
          (code = 0 → ∀ l, parseP' c.next body = some l → rReceive c xs = ({ c9 with box := l.foldl rFill c9.box, next := c9.next + (rOut (l.foldl rFill c9.box) (l.foldl rFill c9.box).length c9.next).length }, rOut (l.foldl rFill c9.box) (l.foldl rFill c9.box).length c9.next, 0))) := Lib.hid (by
        intro c9 hc9
        have hn0 : ¬ (code = 0 ∧ body = []) := fun h => h00 ⟨h.1, by rw [HBN.out, h.2]; rfl⟩
        have e0 : rReceive c xs = (if code ≠ 0 then ({ c8 with owes := true }, [], code) else match parseC c.next body.length body with
            | none => ({ c8 with owes := true }, [], 200)
            | some l => ({ c8 with owes := true, box := l.foldl rFill c.box, next := c.next + (rOut (l.foldl rFill c.box) (l.foldl rFill c.box).length c.next).length }, rOut (l.foldl rFill c.box) (l.foldl rFill c.box).length c.next, 0)) := by
          unfold rReceive; rw [← HR.out]
          refine (if_neg h190).trans ?_
          refine (if_neg hn0).trans ?_
          rw [HC8.out]
          rfl
        refine ⟨fun h => ?_, fun h hp => ?_, fun h l hp => ?_⟩
        · rw [e0, if_pos h, hc9]
        · rw [e0, if_neg (by simpa using h)]
          have : parseC c.next body.length body = none := hp
          rw [this, hc9]
        · rw [e0, if_neg (by simpa using h)]
          have : parseC c.next body.length body = some l := hp
          rw [this, hc9, HC8.out])
      have fz := RS8.out.bb.frozen 10
      have z10 := (RS8.out.bb.cell 10).trans (show _ = some (.bool c8.owes) from rfl)
      have hg7 : ((code == 0) = true ∧ ((bn : Int) == 0) = false) ∨ (code == 0) = false := by
        by_cases h0 : code = 0
        · exact .inl ⟨by simpa using h0, by simp; omega⟩
        · exact .inr (by simpa using h0)
      have UP : Hid (∀ W, W = w8.setCell ⟨b, 10, none⟩ (.bool true) → ∀ c9 : RCh, c9 = { c8 with owes := true } → RB w oI W o7 b (rcells c9 v8) c9 v8 c9.box v8.IA c9.box.length v8.ic v8.ivs v8.SA c9.box.length v8.sc (svsOf c9.box) ∧ Sl W o7 1 1 BA bn bc (byts body)) := Lib.hid (by
        intro W hW c9 hc9
        rw [hW, hc9]
        exact ⟨(RB8.out.setb 10 (.bool true) (cb' := rcells { c8 with owes := true } v8) rfl).owing true, HB8.out.step (RS8.out.setbStep 10 (.bool true)) (by simp)⟩)
      by_cases h0 : code = 0
      · subst h0
        have hb0 : ((bn : Int) == 0) = false := by
          have : bn ≠ 0 := fun h => h00 ⟨rfl, h⟩
          simp; omega
        clear hg7 h00 h190 hd190
        go_upto_region 12 with fail
        obtain ⟨c9, hc9⟩ : ∃ c9 : RCh, c9 = { c8 with owes := true } := ⟨_, rfl⟩
        obtain ⟨w9, hw9⟩ : ∃ W, W = w8.setCell ⟨b, 10, none⟩ (.bool true) := ⟨_, rfl⟩
        obtain ⟨rb9, b9⟩ := UP.out w9 hw9 c9 hc9
        obtain ⟨-, hR1, hR2⟩ := hRR.out c9 hc9
        have hR1 := hR1 (by trivial)
        have hR2 := hR2 (by trivial)
        rw [← hw9]
        have hnx9 : c9.next = c.next := by rw [hc9, HC8.out]
        have hbx9 : c9.box = c.box := by rw [hc9, HC8.out]
        obtain ⟨nx, hnx⟩ : ∃ nx, nx = c.next := ⟨_, rfl⟩
        rw [← hnx] at hR1 hR2 hnx9
        have hnxb : nx ≤ c9.box.length ∧ c9.box.length ≤ 1000000 := by rw [hnx, hbx9]; exact ⟨HNB.out, HB.out.box⟩
        have q8 : w9.cell? ⟨b, 8, none⟩ = some (.int .i64 nx) := by rw [← hnx9]; exact (rb9.rs.bb.cell 8).trans rfl
        have HPA := rParse_any (o := o7) nx (by omega) 1 BA bn bc body b9 (by omega)
        have RB9 := Lib.hid rb9; have RS9 := Lib.hid rb9.rs; have HNX9 := Lib.hid hnx9
        clear hc9 hw9 UP hRR fz z10 rb9 b9 hbx9 hnx hnx9 RB8 RS8 HB8 HC8 HR HBN HRN HNB hbody hb0
        cases hpp : parseP' nx body with
        | none =>
          have HPA := Lib.hid (HPA.mono (R' := fun e w' => e = .returned (.tuple #[.slice none 0 0, .slice none 0 0, .bool false]) ∧ Below w9.heap.size w9 w') (by
            rintro e w' (⟨-, h2, h3⟩ | ⟨es, NA, nn, nc, MA, mn, mc, h1, -, -⟩)
            · exact ⟨h2, h3⟩
            · rw [hpp] at h1; cases h1))
          have e0 := hR1 hpp
          clear hR1 hR2 hpp
          have HE0 := Lib.hid e0
          clear e0
          go_upto_region 13 with (go_at_call 56; refine HPA.out.mono ?_; rintro e wA ⟨rfl, hb⟩; have HBA := Lib.hid hb; clear hb)
          have stA := (Step.refl [] w9 o7).below HBA.out 9
          have RBA := Lib.hid (RB9.out.step stA (by simp)); have RSA := Lib.hid (RS9.out.step stA (by simp) (by decide) (by decide))
          clear stA q8 RB9 RS9
          go_wp2_with (first | (refine wpList_load_rc rfl (.tmp 2) rfl rfl RSA.out.bb ?_) | (refine wpList_store_rc rfl (.tmp 4) (.tmp 59) rfl rfl rfl RSA.out.bz rfl ?_))
          have hz := RSA.out.bz.setRow (rcells c9 v8)
          have stz := step_setRow (W := wA) RSA.out.oz (rcells c9 v8)
          obtain ⟨WZ, hWZ⟩ : ∃ WZ, WZ = wA.setRow (b + 1) (rcells c9 v8) := ⟨_, rfl⟩
          rw [← hWZ] at hz stz ⊢
          obtain ⟨r0, r1, r2, r3, r4, r5, r6, r7, r8, r9, r10⟩ := box11 hz
          refine bodyPost_ret (v := .tuple #[.agg (rcells c9 v8), .slice none 0 0, .int .i64 200]) (by simp [results, Try.results25, go_sem, r0, r1, r2, r3, r4, r5, r6, r7, r8, r9, r10, rcells]) rfl ?_
          have hst := (RSA.out.st.mono (ts' := [2, 3, 4]) (by simp)).trans (stz.mono (ts' := [2, 3, 4]) (by simp))
          have e := HE0.out
          rw [HP.out, e]
          rw [HOI.out] at hst
          exact ⟨v8, _, _, _, rfl, hst.to_below (fun k _ => by have := one01_le o τ k; simp; omega), RBA.out.chanE HOI.out stz, BsT.nil_ _ _ _ _⟩
        | some l =>
          have HPA := Lib.hid (HPA.mono (R' := fun e w' => ∃ es NA nn nc MA mn mc, l = es.map IncV.pair ∧ e = .returned (.tuple #[.slice NA nn nc, .slice MA mn mc, .bool true]) ∧ RParseAt w9 w' o7 1 es NA nn nc MA mn mc) (by
            rintro e w' (⟨h1, -, -⟩ | ⟨es, NA, nn, nc, MA, mn, mc, h1, h2, h3⟩)
            · rw [hpp] at h1; cases h1
            · rw [hpp] at h1; injection h1 with h1; exact ⟨es, NA, nn, nc, MA, mn, mc, h1, h2, h3⟩))
          have e0 := hR2 l hpp
          have hl64 := parse_lt _ _ _ (show parseC nx body.length body = some l from hpp)
          clear hR1 hR2 hpp
          have HE0 := Lib.hid e0; have HL64 := Lib.hid hl64
          clear e0 hl64
          go_upto_region 13 with (go_at_call 56; refine HPA.out.mono ?_; rintro e wA ⟨es, NA, nn, nc, MA, mn, mc, rfl, rfl, hpa⟩; have HPR := Lib.hid hpa; clear hpa)
          have hna := HPR.out.num.tagged o7 9
          have hma := HPR.out.msg.tagged o7 9
          have stA := (Step.refl [] w9 o7).below HPR.out.ns.fin 9
          have hnn : nn = es.length := by have := hna.len; simp [incNums, nats, ints] at this; omega
          have hmn : mn = es.length := by have := hma.len; simp [incMsgs] at this; omega
          have hnb : es.length ≤ 9223372036854775807 := by have h1 := hna.sl.2.1; have h2 := hna.sl.2.2.1; unfold maxLen at h2; omega
          have hRL : RL w oI wA (ext o7 w9.heap.size 9) b c9 c9.box nx v8 es NA nn nc MA mn mc := by
            refine ⟨?_, hna.sl, hma.sl, fun e he => ⟨(HPR.out.bs e he).1.step stA (by simp), (HPR.out.bs e he).2⟩⟩
            have h1 := (RB9.out.step stA (by simp)).boxed (v' := v8) c9.box nx ⟨rfl, rfl, rfl, rfl, rfl, rfl, rfl⟩
            have hc : rcells { c9 with box := c9.box, next := nx } v8 = rcells c9 v8 := by simp [rcells, HNX9.out]
            rw [hc]; exact h1
          obtain ⟨M, hM⟩ : ∃ M, M = es.length := ⟨_, rfl⟩
          rw [← hM] at hnn hmn hnb
          subst hmn; subst hnn
          have RLA := Lib.hid hRL
          have HNE : Hid (∀ e ∈ es, e.n < nx + 64) := Lib.hid (fun e he => HL64.out _ (List.mem_map.2 ⟨e, he, rfl⟩))
          have HM := Lib.hid hM
          clear hna hma stA hRL hM HL64 HPR RB9 RS9 HPA q8
          generalize ext o7 w9.heap.size 9 = oA at RLA
          go_upto_region 15 with fail
          go_wp2_with fail
          go_loopw [14] (fun s14 wx => ∃ i : Nat, i ≤ nn ∧ s14 = .int .i64 i ∧ Hid (∃ oo vv, RL w oI wx oo b c9 (((es.map IncV.pair).take i).foldl rFill c9.box) nx vv es NA nn nc MA nn mc)) (fun s14 _ => nn - (intOf s14).toNat)
          case atStart => exact ⟨0, Nat.zero_le _, rfl, Lib.hid ⟨_, _, RLA.out⟩⟩
          case round => as_aux_lemma =>
            clear RLA
            obtain ⟨i, hi, rfl, HJ⟩ := hrel
            obtain ⟨oo, vv, hrl⟩ := HJ.out
            clear HJ
            obtain ⟨bx, hbx⟩ : ∃ bx, bx = ((es.map IncV.pair).take i).foldl rFill c9.box := ⟨_, rfl⟩
            rw [← hbx] at hrl
            have hbl : bx.length ≤ 1000064 := by
              rw [hbx]
              refine rFills_len _ _ (fun p hp => ?_) (by omega)
              obtain ⟨e, he, rfl⟩ := List.mem_map.1 (List.mem_of_mem_take hp)
              have h1 := HNE.out e he
              show e.n < 1000064
              omega
            by_cases hiM : i < nn
            ·
              have hiI : (i : Int) < (nn : Int) := by omega
              have hi0 : (0 : Int) ≤ (i : Int) := by omega
              have hd3 : decide ((i : Int) < (nn : Int)) = true := decide_eq_true hiI
              obtain ⟨e, he⟩ : ∃ e, es[i]? = some e := ⟨_, List.getElem?_eq_getElem (by rw [← HM.out]; exact hiM)⟩
              have hem := List.mem_of_getElem? he
              have hn64 := HNE.out e hem
              obtain ⟨gN, oN, hNA, -, -, -⟩ := hrl.num.2.2.2 (by omega)
              obtain ⟨gM, oM, hMA, -, -, -⟩ := hrl.msg.2.2.2 (by omega)
              subst hNA; subst hMA
              obtain ⟨n', hn'⟩ : ∃ n, n = e.n := ⟨_, rfl⟩
              have hnb2 : n' ≤ 1000064 := by omega
              have HE := Lib.hid he; have HEM := Lib.hid hem; have HN' := Lib.hid hn'; have HBX := Lib.hid hbx
              have HJ0 : Hid (∃ (j : Nat) (oo : Own) (vv : RV), (j = 0 ∨ bx.length + j ≤ n' + 1) ∧ RL w oI wr oo b c9 (bx ++ List.replicate j none) nx vv es (some ⟨gN, oN, none⟩) nn nc (some ⟨gM, oM, none⟩) nn mc) := Lib.hid ⟨0, oo, vv, .inl rfl, by simpa using hrl⟩
              clear he hem hn' hbx hrl
              go_wp2_with fail
              go_loopw [73] (fun _ wx => Hid (∃ (j : Nat) (oo : Own) (vv : RV), (j = 0 ∨ bx.length + j ≤ n' + 1) ∧ RL w oI wx oo b c9 (bx ++ List.replicate j none) nx vv es (some ⟨gN, oN, none⟩) nn nc (some ⟨gM, oM, none⟩) nn mc)) (fun _ wx => n' + 1 - lenAt wx b)
              case atStart => exact HJ0
              case round => as_aux_lemma =>
                clear HJ0
                obtain ⟨j, oo, vv, hj, hrl⟩ := Hid.out hrel
                clear hrel
                obtain ⟨L, hL⟩ : ∃ L, L = bx.length + j := ⟨_, rfl⟩
                obtain ⟨B, hB⟩ : ∃ B, B = bx ++ List.replicate j none := ⟨_, rfl⟩
                have hBL : B.length = L := by rw [hB, List.length_append, List.length_replicate, hL]
                rw [← hB] at hrl
                have hLb : L ≤ 1000065 := by omega
                obtain ⟨q6, q7, q8, f6, f7, f8, hbl2⟩ := hrl.cells
                obtain ⟨cN, cM⟩ := hrl.at_ HE.out (by omega) (by omega)
                rw [← HN'.out] at cN
                rw [hBL] at q6 q7
                by_cases hLn : L ≤ n'
                · have hdL : decide ((L : Int) ≤ (n' : Int)) = true := decide_eq_true (by omega)
                  have HLA := Lib.hid (hrl.lenAt.trans hBL)
                  have HRL := Lib.hid hrl; have HB := Lib.hid hB; have HBL := Lib.hid hBL; have HLL := Lib.hid hL
                  clear hrl hB hBL hL
                  go_wp2_with fail
                  go_quiet (fail)
                  have rl1 := HRL.out.step ((Step.refl [] wr oo).drewN nq) (by simp)
                  generalize wr.drewN nq = w1 at rl1 ⊢
                  clear HRL q6 q7 q8 f6 f7 f8 hbl2 cN cM
                  obtain ⟨q6, q7, q8, f6, f7, f8, hbl2⟩ := rl1.cells
                  rw [HBL.out] at q6 q7
                  have stA := (Step.refl [] w1 oo).alloc (.cells #[.slice none 0 0] 41) 9
                  have rlA := rl1.step stA (by simp)
                  have SLA := Lib.hid (Row.made (w := w1) oo 9 41 1 #[.slice none 0 0] 1 rfl (by decide) 1 (Nat.le_refl _)).sl
                  have hin := rlA.rb.bx.inn
                  rw [HBL.out] at hin
                  have RI := Lib.hid hin; have RLA := Lib.hid rlA; have RL1 := Lib.hid rl1; have STA := Lib.hid stA
                  clear hin rlA rl1 stA
                  go_upto_region 20 with (at_builtin; refine wpList_append_row _ rfl (.tmp 75) (.tmp 76) _ rfl el_bss (ext oo w1.heap.size 9) 10 vv.IA L vv.ic _ rfl RI.out (ext oo w1.heap.size 9) 9 _ 1 1 [.slice none 0 0] rfl SLA.out (by simp [Value.oneCell']) (by omega) (by unfold maxLen; omega) ?_; intro A5 c5 w5 hr5 hg5 hat5; have HR5 := Lib.hid hr5; have HST5 := Lib.hid (Step.append RI.out hg5 10); have rs5 := RLA.out.rb.rs.stepN HST5.out (fun t ht => by simp at ht; subst ht; exact ⟨.inr fun j _ => by have := HLE.out j; omega, by decide, by decide⟩); have z6 := rs5.bb.cell 6; have fz6 := rs5.bb.frozen 6; have hb5 := rs5.bb.lt; clear hr5 hg5 hat5 rs5)
                  have st5 := (STA.out.nil (ts := [10])).trans HST5.out
                  have hr5 := HR5.out
                  have far : ∀ t ∈ ([10] : List Nat), (t = 4 ∨ ∀ j, j < w.heap.size → oI j ≠ t) ∧ t ≠ 2 ∧ t ≠ 3 := fun t ht => by simp at ht; subst ht; exact ⟨.inr fun j _ => by have := HLE.out j; omega, by decide, by decide⟩
                  have rs5 := RL1.out.rb.rs.stepN st5 far
                  have sA := rs5.setbStep 6 (.slice A5 (L + 1) c5)
                  have rs6 := rs5.setb 6 (.slice A5 (L + 1) c5) rfl
                  have so6 := (RL1.out.rb.bx.som.step st5 (by simp)).step sA (by simp)
                  rw [HBL.out] at so6
                  generalize ext (ext oo w1.heap.size 9) _ 10 = o5 at st5 hr5 rs5 sA rs6 so6
                  have H5 : Hid (∀ W6' o6' A7 c7, Step [11] (w5.setCell ⟨b, 6, none⟩ (.slice A5 (L + 1) c5)) o5 W6' o6' → Row W6' o6' 11 4 1 A7 (L + 1) c7 (svsOf B ++ [.bool false]) → ∃ vv', RL w oI (W6'.setCell ⟨b, 7, none⟩ (.slice A7 (L + 1) c7)) o6' b c9 (B ++ [none]) nx vv' es (some ⟨gN, oN, none⟩) nn nc (some ⟨gM, oM, none⟩) nn mc) := Lib.hid (fun W6' o6' A7 c7 h1 h2 => RL1.out.pad HLE.out HBL.out.symm st5 hr5 h1 h2)
                  have hsz5 := rs6.bb.lt
                  obtain ⟨w6, hw6⟩ : ∃ w6, w6 = w5.setCell ⟨b, 6, none⟩ (.slice A5 (L + 1) c5) := ⟨_, rfl⟩
                  rw [← hw6] at rs6 so6 hsz5 H5 ⊢
                  have z7 : w6.cell? ⟨b, 7, none⟩ = some (.slice vv.SA L vv.sc) := (rs6.bb.cell 7).trans (by rw [← HBL.out]; rfl)
                  have stB := (Step.refl [] w6 o5).alloc (.cells #[.bool false] 4) 9
                  have SLB := Lib.hid (Row.made (w := w6) o5 9 4 1 #[.bool false] 1 rfl (by decide) 1 (Nat.le_refl _)).sl
                  have RSB := Lib.hid (rs6.step stB (by simp) (by decide) (by decide))
                  have RSO := Lib.hid (so6.step stB (by simp)); have STB := Lib.hid stB
                  clear hw6 st5 hr5 far rs5 sA rs6 so6 stB HR5 HST5 RLA STA SLA RI RL1 q6 q7 q8 f6 f7 f8 hbl2 z6 fz6 hb5 hsz5
                  go_wp2_with (at_builtin; refine wpList_append_row _ rfl (.tmp 80) (.tmp 81) _ rfl el_bool (ext o5 w6.heap.size 9) 11 vv.SA L vv.sc _ rfl RSO.out (ext o5 w6.heap.size 9) 9 _ 1 1 [.bool false] rfl SLB.out (by simp [Value.oneCell']) (by omega) (by unfold maxLen; omega) ?_; intro A7 c7 w7 hr7 hg7 hat7; have HR7 := Lib.hid hr7; have HST7 := Lib.hid (Step.append RSO.out hg7 11); have rs7 := RSB.out.stepN HST7.out (fun t ht => by simp at ht; subst ht; exact ⟨.inr fun j _ => by have := HLE.out j; omega, by decide, by decide⟩); have z7' := rs7.bb.cell 7; have fz7 := rs7.bb.frozen 7; have hb7 := rs7.bb.lt; clear hr7 hg7 hat7 rs7)
                  obtain ⟨vv', hpad⟩ := H5.out _ _ _ _ ((STB.out.nil (ts := [11])).trans HST7.out) HR7.out
                  rw [HB.out, pad_succ] at hpad
                  have hln := hpad.lenAt
                  refine ⟨Lib.hid ⟨j + 1, _, vv', .inr (by have := HLL.out; omega), hpad⟩, ?_⟩
                  rw [hln, HLA.out, List.length_append, List.length_replicate]
                  have := HLL.out
                  omega
                · have hdL : decide ((L : Int) ≤ (n' : Int)) = false := decide_eq_false (by omega)
                  have hBp : B = rPad bx n' := by rw [hB]; unfold rPad; congr 2; omega
                  obtain ⟨y, hy⟩ : ∃ y, B[n']? = some y := ⟨_, List.getElem?_eq_getElem (by omega)⟩
                  have hpair : (es.map IncV.pair)[i]? = some (n', e.b) := by rw [List.getElem?_map, HE.out, HN'.out]; rfl
                  have hnL : (n' : Int) < (L : Int) := by omega
                  have hn0 : (0 : Int) ≤ (n' : Int) := by omega
                  have HRL := Lib.hid hrl; have HBL := Lib.hid hBL; have HBP := Lib.hid hBp; have HY := Lib.hid hy; have HPA := Lib.hid hpair
                  clear hrl hB hBL hL hBp hy hpair
                  go_wp2_with fail
                  go_quiet (fail)
                  have rl1 := HRL.out.step ((Step.refl [] wr oo).drewN nq) (by simp)
                  generalize wr.drewN nq = w1 at rl1 ⊢
                  clear HRL q6 q7 q8 f6 f7 f8 hbl2 cN cM
                  obtain ⟨q6, q7, q8, f6, f7, f8, hbl2⟩ := rl1.cells
                  obtain ⟨cN, cM⟩ := rl1.at_ HE.out (by omega) (by omega)
                  rw [← HN'.out] at cN
                  rw [HBL.out] at q6 q7
                  obtain ⟨hS, hSA, zS, fS, hSl, hSo⟩ := rl1.some_ HY.out
                  rw [hSA] at q7
                  have RL1 := Lib.hid rl1; have HSA := Lib.hid hSA; have HSO := Lib.hid hSo
                  clear rl1 hSA hSo
                  cases y with
                  | some y =>
                    have zS : w1.cell? ⟨hS, n', none⟩ = some (.bool true) := zS
                    have hfill : ((es.map IncV.pair).take (i + 1)).foldl rFill c9.box = B := by
                      rw [rFill_take HPA.out, ← HBX.out, rFill_some (by show (rPad bx n')[n']? ≠ some none; rw [← HBP.out, HY.out]; simp), HBP.out]
                    have HF := Lib.hid hfill
                    clear hfill
                    go_wp2_with fail
                    go_quiet (fail)
                    have rl2 := RL1.out.step ((Step.refl [] w1 oo).drewN nq) (by simp)
                    generalize w1.drewN nq = w2 at rl2 ⊢
                    rw [← HF.out] at rl2
                    have HJ2 := Lib.hid (show ∃ oo vv, RL w oI w2 oo b c9 (((es.map IncV.pair).take (i + 1)).foldl rFill c9.box) nx vv es (some ⟨gN, oN, none⟩) nn nc (some ⟨gM, oM, none⟩) nn mc from ⟨_, _, rl2⟩)
                    clear rl2
                    go_wp2_with fail
                    go_roundw
                    case rel => exact ⟨i + 1, by omega, by go_num, HJ2⟩
                    case measure => simp [intOf]; omega
                  | none =>
                    have zS : w1.cell? ⟨hS, n', none⟩ = some (.bool false) := zS
                    have hfill : ((es.map IncV.pair).take (i + 1)).foldl rFill c9.box = B.set n' (some e.b) := by
                      rw [rFill_take HPA.out, ← HBX.out, rFill_none (by show (rPad bx n')[n']? = some none; rw [← HBP.out, HY.out]), HBP.out]
                    have HF := Lib.hid hfill
                    clear hfill
                    go_wp2_with fail
                    go_quiet (fail)
                    have rl2 := RL1.out.step ((Step.refl [] w1 oo).drewN nq) (by simp)
                    generalize w1.drewN nq = w2 at rl2 ⊢
                    clear RL1 q6 q7 q8 f6 f7 f8 hbl2 cN cM zS fS hSl
                    obtain ⟨q6, q7, q8, f6, f7, f8, hbl2⟩ := rl2.cells
                    obtain ⟨cN, cM⟩ := rl2.at_ HE.out (by omega) (by omega)
                    rw [← HN'.out] at cN
                    rw [HBL.out] at q6 q7
                    obtain ⟨hI, u, hIA, -, zI, fI, hIl, hIo⟩ := rl2.inn_ (n := n') (by have := HBL.out; omega)
                    rw [hIA] at q6
                    have RL2 := Lib.hid rl2; have HIA := Lib.hid hIA; have HIO := Lib.hid hIo
                    clear rl2 hIA hIo
                    go_wp2_with fail
                    go_still_tail 10, (by kernel_rfl)
                    change wpList _ _ _ _ _ (World.drew _)
                    go_wp2_with fail
                    have rl3 := RL2.out
                    rw [HSA.out] at q7
                    have hin3 := rl3.rb.bx.inn
                    rw [HIA.out] at hin3
                    have s3 := hin3.stored n' (.slice e.A e.ln e.c)
                    have tg := rl3.tagN (by omega)
                    have e7' := (s3.cell (p := ⟨b, 7, none⟩) rl3.rb.rs.bb.lt (by show oo b ∉ [10]; rw [rl3.rb.rs.ob]; decide)).1
                    have eN := (s3.cell (p := ⟨gN, oN + i, none⟩) tg.2 (by show oo gN ∉ [10]; rw [tg.1]; decide)).1
                    obtain ⟨hS', hSA', zS, fS, hSl, hSo⟩ := rl3.some_ HY.out
                    rw [HSA.out] at hSA'
                    injection hSA' with hSA'; injection hSA' with hSA' _; subst hSA'
                    have eS := s3.cell (p := ⟨hS, n', none⟩) hSl (by show oo hS ∉ [10]; rw [hSo]; decide)
                    obtain ⟨w4, hw4⟩ : ∃ w4, w4 = (w2.setCell ⟨hI, n', none⟩ (.slice e.A e.ln e.c)).drew := ⟨_, rfl⟩
                    have q7n : w4.cell? ⟨b, 7, none⟩ = some (.slice (some ⟨hS, 0, none⟩) L vv.sc) := by rw [hw4]; exact e7'.trans q7
                    have cNn : w4.cell? ⟨gN, oN + i, none⟩ = some (.int .i64 (n' : Int)) := by rw [hw4]; exact eN.trans cN
                    have zSn : w4.cell? ⟨hS, n', none⟩ = some (.bool false) := by rw [hw4]; exact eS.1.trans zS
                    have fSn : w4.frozen? ⟨hS, n', none⟩ = false := by rw [hw4]; exact eS.2.trans fS
                    have HW4 := Lib.hid hw4
                    rw [← hw4]
                    clear hw4 rl3 hin3 s3 tg e7' eN zS fS hSl hSo eS q6 q7 q8 f6 f7 f8 hbl2 cN cM zI fI hIl
                    go_still_tail 6, (by kernel_rfl)
                    change wpList _ _ _ _ _ (World.drew _)
                    go_upto_region 17 with fail
                    obtain ⟨vv', hput, -, -⟩ := RL2.out.put HLE.out (n := n') (by have := HBL.out; omega) HIA.out HSA.out HEM.out
                    rw [← HF.out] at hput
                    have hput2 := hput.step ((Step.refl [] _ oo).drewN 2) (by simp)
                    obtain ⟨w5, hw5⟩ : ∃ w5, w5 = (w4.setCell ⟨hS, n', none⟩ (.bool true)).drew := ⟨_, rfl⟩
                    have HJ2 : Hid (∃ oo vv, RL w oI w5 oo b c9 (((es.map IncV.pair).take (i + 1)).foldl rFill c9.box) nx vv es (some ⟨gN, oN, none⟩) nn nc (some ⟨gM, oM, none⟩) nn mc) := Lib.hid ⟨oo, vv', by rw [hw5, HW4.out]; exact hput2⟩
                    rw [← hw5]
                    clear hput hput2 hw5 q7n cNn zSn fSn
                    go_wp2_with fail
                    go_roundw
                    case rel => exact ⟨i + 1, by omega, by go_num, HJ2⟩
                    case measure => simp [intOf]; omega
            · obtain rfl : i = nn := by omega
              have hd3 : decide ((i : Int) < (i : Int)) = false := decide_eq_false (by omega)
              have hB : bx = (es.map IncV.pair).foldl rFill c9.box := by rw [hbx, List.take_of_length_le (by rw [List.length_map, ← HM.out]; exact Nat.le_refl _)]
              have e1 := HE0.out
              rw [← hB] at e1
              have HE1 := Lib.hid e1
              have HB1 := Lib.hid hB
              have HRL := Lib.hid hrl
              clear hbx hB e1 HE0 hrl
              have HD0 : Hid (∃ oo vs outs, RDl w oI wr oo b c9 bx nx vv es NA i nc MA i mc none 0 0 vs outs) := Lib.hid ⟨oo, [], [], HRL.out, Row.nil_ _ _ _ _ _, rfl, fun j x h => by simp at h, by simp⟩
              clear HRL
              go_wp2_with fail
              go_loopw [15] (fun s15 wx => ∃ (k : Nat) (OA : Option Addr) (oc : Nat), k ≤ bx.length ∧ s15 = .slice OA k oc ∧ Hid (∃ oo vs outs, RDl w oI wx oo b c9 bx nx vv es NA i nc MA i mc OA k oc vs outs)) (fun s15 _ => match s15 with | .slice _ m _ => bx.length - m | _ => 0)
              case atStart => exact ⟨0, none, 0, Nat.zero_le _, rfl, HD0⟩
              case round => as_aux_lemma =>
                clear HD0
                obtain ⟨k, OA, oc, hk, rfl, HJ⟩ := hrel
                obtain ⟨oo, vs, outs, hd⟩ := HJ.out
                clear HJ
                obtain ⟨p, hp⟩ : ∃ p, p = nx + k := ⟨_, rfl⟩
                obtain ⟨L, hL⟩ : ∃ L, L = bx.length := ⟨_, rfl⟩
                obtain ⟨q6, q7, q8, f6, f7, f8, hbl2⟩ := hd.rl.cells
                rw [← hL] at q6 q7
                rw [← hp] at q8
                have hp0 : (0 : Int) ≤ (p : Int) := by omega
                by_cases hex : ∃ x, bx[p]? = some (some x)
                ·
                  obtain ⟨x, hx⟩ := hex
                  have hpL : p < L := by rw [hL]; exact (List.getElem?_eq_some_iff.1 hx).1
                  have hpI : (p : Int) < (L : Int) := by omega
                  have hLb : L ≤ 1000064 := by omega
                  have hdp : decide ((p : Int) < (L : Int)) = true := decide_eq_true hpI
                  obtain ⟨hS, hSA, zS, fS, hSl, hSo⟩ := hd.rl.some_ hx
                  obtain ⟨hI, u, hIA, hiv, zI, fI, hIl, hIo⟩ := hd.rl.inn_ (n := p) (by omega)
                  obtain ⟨XA, xc, hv, hxs⟩ := hd.rl.rb.bx.el p x hx
                  rw [hv] at hiv
                  injection hiv with hiv
                  subst hiv
                  rw [hIA] at q6; rw [hSA] at q7
                  have zS : wr.cell? ⟨hS, p, none⟩ = some (.bool true) := zS
                  obtain ⟨xl, hxl⟩ : ∃ xl, xl = x.length := ⟨_, rfl⟩
                  rw [← hxl] at zI
                  have stA := (Step.refl [] wr oo).alloc (.cells #[.slice XA xl xc] 41) 9
                  have hdA := hd.step stA (by simp)
                  have SLA := Lib.hid (Row.made (w := wr) oo 9 41 1 #[.slice XA xl xc] 1 rfl (by decide) 1 (Nat.le_refl _)).sl
                  have HR := Lib.hid hdA.row; have HDA := Lib.hid hdA; have HD := Lib.hid hd; have STA := Lib.hid stA; have HX := Lib.hid hx; have HXL := Lib.hid hxl; have HXS := Lib.hid hxs; have HP := Lib.hid hp; have HLL := Lib.hid hL
                  clear hdA hd stA hx hxl hxs hp hL hSA hIA hSl hSo hIl hIo fI fS hv
                  go_wp2_with (at_builtin; refine wpList_append_row _ rfl (.tmp 125) (.tmp 132) _ rfl el_bss (ext oo wr.heap.size 9) 12 OA k oc _ rfl HR.out (ext oo wr.heap.size 9) 9 _ 1 1 [.slice XA xl xc] rfl SLA.out (by simp [Value.oneCell']) (by omega) (by unfold maxLen; omega) ?_; intro A5 c5 w5 hr5 hg5 hat5; have HR5 := Lib.hid hr5; have HST5 := Lib.hid (Step.append HR.out hg5 12); have rs5 := HDA.out.rl.rb.rs.stepN HST5.out (fun t ht => by simp at ht; subst ht; exact ⟨.inr fun j _ => by have := HLE.out j; omega, by decide, by decide⟩); have z8 : w5.cell? ⟨b, 8, none⟩ = some (.int .i64 (p : Int)) := (rs5.bb.cell 8).trans (by rw [HP.out]; rfl); have fz8 := rs5.bb.frozen 8; have hb5 := rs5.bb.lt; clear hr5 hg5 hat5 rs5)
                  have hm := HDA.out.more HLE.out (x := x) (XA := XA) (A' := A5) (xc := xc) (c' := c5) (by rw [← HP.out]; exact HX.out) (HXS.out.step STA.out (by simp)) HST5.out (by rw [← HXL.out]; exact HR5.out)
                  rw [← HP.out] at hm
                  have HM2 := Lib.hid (show ∃ oo vs outs, RDl w oI (w5.setCell ⟨b, 8, none⟩ (.int .i64 ((p : Int) + 1))) oo b c9 bx nx vv es NA i nc MA i mc A5 (k + 1) c5 vs outs from ⟨_, _, _, hm⟩)
                  have hkL : k + 1 ≤ bx.length := by have := HP.out; have := HLL.out; omega
                  refine ⟨⟨k + 1, A5, c5, hkL, rfl, HM2⟩, ?_⟩
                  show bx.length - (k + 1) < bx.length - k
                  omega
                · have hrun := hd.run
                  rw [← hp, rOut_no (fun x hx => hex ⟨x, hx⟩), List.append_nil] at hrun
                  obtain ⟨c10, hc10⟩ : ∃ c10 : RCh, c10 = { c9 with box := bx, next := p } := ⟨_, rfl⟩
                  have hrs := hd.rl.rb.rs
                  rw [← hp] at hrs
                  rw [← hc10] at hrs
                  have HE2 : Hid (rReceive c xs = (c10, outs, 0)) := Lib.hid (by
                    rw [HE1.out, HNX9.out, hrun, hd.len, ← hp, hc10])
                  have HCH : Hid (∀ (WZ : World) (o2 : Own), Step [3] wr oo WZ o2 → RChIn WZ (ext o w.heap.size τ) τ τ c10 vv) := Lib.hid (by
                    intro WZ o2 k2
                    have := hd.rl.rb
                    rw [← hp] at this
                    rw [hc10]
                    exact this.chanE HOI.out k2)
                  have HBS : Hid (∀ (WZ : World) (o2 : Own), Step [3] wr oo WZ o2 → BsT WZ o2 12 1 OA k oc outs) := Lib.hid (by
                    intro WZ o2 k2
                    refine ⟨vs, hd.row.sl.step k2 (by simp), hd.len, fun j x hx => ?_⟩
                    obtain ⟨XA, xc, q1, q2⟩ := hd.el j x hx
                    exact ⟨XA, _, xc, q1, q2.step k2 (by simp)⟩)
                  have RSX := Lib.hid hrs
                  have hLb : L ≤ 1000064 := by omega
                  by_cases hpL : p < L
                  · have hpI : (p : Int) < (L : Int) := by omega
                    have hdp : decide ((p : Int) < (L : Int)) = true := decide_eq_true hpI
                    obtain ⟨y, hy⟩ : ∃ y, bx[p]? = some y := ⟨_, List.getElem?_eq_getElem (by omega)⟩
                    obtain ⟨hS, hSA, zS, fS, hSl, hSo⟩ := hd.rl.some_ hy
                    rw [hSA] at q7
                    cases y with
                    | some x => exact absurd ⟨x, hy⟩ hex
                    | none =>
                      have zS : wr.cell? ⟨hS, p, none⟩ = some (.bool false) := zS
                      clear hd hp hL hex hrun hc10 hrs hy hSA hSl hSo fS
                      go_upto_region 28 with fail
                      clear q6 q7 q8 f6 f7 f8 zS
                      go_wp2_with (first | (refine wpList_load_rc rfl (.tmp 2) rfl rfl RSX.out.bb ?_) | (refine wpList_store_rc rfl (.tmp 4) (.tmp 138) rfl rfl rfl RSX.out.bz rfl ?_))
                      have hz := RSX.out.bz.setRow (rcells c10 vv)
                      have stz := step_setRow (W := wr) RSX.out.oz (rcells c10 vv)
                      obtain ⟨WZ, hWZ⟩ : ∃ WZ, WZ = wr.setRow (b + 1) (rcells c10 vv) := ⟨_, rfl⟩
                      rw [← hWZ] at hz stz ⊢
                      obtain ⟨r0, r1, r2, r3, r4, r5, r6, r7, r8, r9, r10⟩ := box11 hz
                      refine bodyPost_ret (v := .tuple #[.agg (rcells c10 vv), .slice OA k oc, .int .i64 0]) (by simp [results, Try.results25, go_sem, r0, r1, r2, r3, r4, r5, r6, r7, r8, r9, r10, rcells]) rfl ?_
                      have hst := (RSX.out.st.mono (ts' := [2, 3, 4]) (by simp)).trans (stz.mono (ts' := [2, 3, 4]) (by simp))
                      have e := HE2.out
                      rw [HP.out, e]
                      rw [HOI.out] at hst
                      exact ⟨vv, _, _, _, rfl, hst.to_below (fun k _ => by have := one01_le o τ k; simp; omega), HCH.out WZ oo stz, (HBS.out WZ oo stz).fin hst (by decide) (by decide)⟩
                  · have hdp : decide ((p : Int) < (L : Int)) = false := decide_eq_false (by omega)
                    clear hd hp hL hex hrun hc10 hrs
                    go_upto_region 28 with fail
                    clear q6 q7 q8 f6 f7 f8
                    go_wp2_with (first | (refine wpList_load_rc rfl (.tmp 2) rfl rfl RSX.out.bb ?_) | (refine wpList_store_rc rfl (.tmp 4) (.tmp 138) rfl rfl rfl RSX.out.bz rfl ?_))
                    have hz := RSX.out.bz.setRow (rcells c10 vv)
                    have stz := step_setRow (W := wr) RSX.out.oz (rcells c10 vv)
                    obtain ⟨WZ, hWZ⟩ : ∃ WZ, WZ = wr.setRow (b + 1) (rcells c10 vv) := ⟨_, rfl⟩
                    rw [← hWZ] at hz stz ⊢
                    obtain ⟨r0, r1, r2, r3, r4, r5, r6, r7, r8, r9, r10⟩ := box11 hz
                    refine bodyPost_ret (v := .tuple #[.agg (rcells c10 vv), .slice OA k oc, .int .i64 0]) (by simp [results, Try.results25, go_sem, r0, r1, r2, r3, r4, r5, r6, r7, r8, r9, r10, rcells]) rfl ?_
                    have hst := (RSX.out.st.mono (ts' := [2, 3, 4]) (by simp)).trans (stz.mono (ts' := [2, 3, 4]) (by simp))
                    have e := HE2.out
                    rw [HP.out, e]
                    rw [HOI.out] at hst
                    exact ⟨vv, _, _, _, rfl, hst.to_below (fun k _ => by have := one01_le o τ k; simp; omega), HCH.out WZ oo stz, (HBS.out WZ oo stz).fin hst (by decide) (by decide)⟩
      · have hd0 : (code == 0) = false := by simpa using h0
        have hd1 : (code != 0) = true := by simpa using h0
        clear hg7 h00
        go_upto_region 11 with fail
        obtain ⟨c9, hc9⟩ : ∃ c9 : RCh, c9 = { c8 with owes := true } := ⟨_, rfl⟩
        obtain ⟨w9, hw9⟩ : ∃ W, W = w8.setCell ⟨b, 10, none⟩ (.bool true) := ⟨_, rfl⟩
        obtain ⟨rb9, -⟩ := UP.out w9 hw9 c9 hc9
        obtain ⟨hR1, -, -⟩ := hRR.out c9 hc9
        have HE0 := Lib.hid (hR1 h0)
        rw [← hw9]
        have RB9 := Lib.hid rb9; have RS9 := Lib.hid rb9.rs
        clear hc9 hw9 UP hRR fz z10 rb9 RB8 RS8 HB8 HC8 hR1
        go_wp2_with (first | (refine wpList_load_rc rfl (.tmp 2) rfl rfl RS9.out.bb ?_) | (refine wpList_store_rc rfl (.tmp 4) (.tmp 47) rfl rfl rfl RS9.out.bz rfl ?_))
        have hz := RS9.out.bz.setRow (rcells c9 v8)
        have stz := step_setRow (W := w9) RS9.out.oz (rcells c9 v8)
        obtain ⟨WZ, hWZ⟩ : ∃ WZ, WZ = w9.setRow (b + 1) (rcells c9 v8) := ⟨_, rfl⟩
        rw [← hWZ] at hz stz ⊢
        obtain ⟨r0, r1, r2, r3, r4, r5, r6, r7, r8, r9, r10⟩ := box11 hz
        refine bodyPost_ret (v := .tuple #[.agg (rcells c9 v8), .slice none 0 0, .int .i64 code]) (by simp [results, Try.results25, go_sem, r0, r1, r2, r3, r4, r5, r6, r7, r8, r9, r10, rcells]) rfl ?_
        have hst := (RS9.out.st.mono (ts' := [2, 3, 4]) (by simp)).trans (stz.mono (ts' := [2, 3, 4]) (by simp))
        have e := HE0.out
        rw [HP.out, e]
        rw [HOI.out] at hst
        exact ⟨v8, _, _, _, rfl, hst.to_below (fun k _ => by have := one01_le o τ k; simp; omega), RB9.out.chanE HOI.out stz, BsT.nil_ _ _ _ _⟩
end Go.Proofs.Ythjjipcbpmdfnaa
