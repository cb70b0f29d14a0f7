/-
  WALK of (*Channel).Flush.
-/
import Derived.Test.YthjjipcbpmdfnaaChF
import Derived.Test.YthjjipcbpmdfnaaChG
import Derived.Test.YthjjipcbpmdfnaaChP
namespace Go.Proofs.Ythjjipcbpmdfnaa
open Go.RowKit

theorem below_step {w w' : World} {o : Own} (h : Below w.heap.size w w') (t : Nat) : Step [] w o w' (ext o w.heap.size t) := (Step.refl [] w o).below h t
theorem NRow.tagged {B : Nat} {w : World} {e : TypeId} {sz n c : Nat} {A : Option Addr} {xs : List Value} (h : NRow B w e sz A n c xs) (o : Own) (t : Nat) : Row w (ext o B t) t e sz A n c xs := ⟨h.1, fun ad ha => ext_ge (h.new ad ha)⟩
theorem lostP_64 {s : EndS} (h : s.Fit) (hn : s.next ≤ 2000000000000) : ∀ r ∈ lostP s, I64 r.1 := by
  intro r hr
  unfold lostP at hr
  split at hr
  · cases hr
  · rw [List.mem_singleton.1 hr]
    have h0 := h.own0; have h1 := h.own1
    cases hp : s.pend with
    | nil => simp; unfold I64; omega
    | cons a l =>
      have := h.mem a (by rw [hp]; exact List.mem_cons_self)
      simp; unfold I64; omega

theorem ChIs.ofe {w w' : World} {o o' : Own} {T : ChT} {b : Nat} {s : ChS} {k : ChB} {blk : Nat → Nat} (h : ChIs w o T b s k blk) (hT : T.Ok) (hs : Step [T.τe] w o w' o') {e' : EndS} (hE : EndAt w' o' T.τe k.eb e') (hK : s.e.next - s.e.own ≤ e'.next - e'.own) : ChIs w' o' T b { s with e := e' } k blk :=
  ⟨h.cb.step hs (by rw [h.ob]; simpa using Ne.symm hT.te), (hs.own _ h.cb.lt).trans h.ob, hE, h.out.step hs (by simpa using Ne.symm hT.te) (by simpa using hT.s2), h.early.step hs (by simpa using Ne.symm hT.te) (fun n _ => by simpa using hT.e2 n), (h.pack.step hs (by simpa using Ne.symm hT.te) (by simpa using hT.s2)).mono hK, h.d1, h.d2, h.d3⟩
theorem markS_snoc (out : Nat → Option OutM) (number tick : Int) {l : List Nat} {j n : Nat} (h : l[j]? = some n) {x : OutM} (hx : markS out number tick (l.take j) n = some x) :
    markS out number tick (l.take (j + 1)) = updN (markS out number tick (l.take j)) n (some { x with packet := number, tick := tick }) := by
  unfold markS at hx ⊢
  rw [fold_take _ _ h]
  show updN _ n (Option.map _ _) = _
  rw [hx]; rfl

theorem flushS_send {s s1 : ChS} {t : Int} (h : ¬ t < s.tick) (hs1 : s1 = { s with tick := t }) (hL : 0 < (bodyS s1).2.length) :
    flushS s t = ({ decS { s1 with e := makeS s1.e, out := markS s1.out s1.e.next t (bodyS s1).2, packets := updI s1.packets s1.e.next (some (bodyS s1).2) } (lostP s1.e) with owes := false }, packP (makeS s1.e) s1.e.next (bodyS s1).1, 0) := by
  subst hs1
  unfold flushS
  rw [if_neg h]
  simp only
  rw [if_pos hL]
theorem flushS_none {s s1 : ChS} {t : Int} (h : ¬ t < s.tick) (hs1 : s1 = { s with tick := t }) (hL : (bodyS s1).2.length = 0) :
    flushS s t = if s1.owes = true then if s1.e.other ≤ s1.e.newest then ({ s1 with owes := false }, ackP s1.e, 0) else ({ s1 with owes := false }, [], 6) else (s1, [], 0) := by
  subst hs1
  unfold flushS
  rw [if_neg h]
  simp only
  rw [if_neg (by omega)]

/-- Flush, on the way on which there is nothing to send. -/
structure FlushTo (w : World) (o : Own) (T : ChT) (ρ b : Nat) (R : ChS × List UInt8 × Int) (e : Ending) (w' : World) : Prop where
  out : ∃ o' A c, e = .returned (.tuple #[.slice A R.2.1.length c, .int .i64 R.2.2]) ∧ Step [T.τ, T.τe] w o w' o' ∧ ChAt w' o' T b R.1 ∧ Row w' o' ρ 5 1 A R.2.1.length c (byts R.2.1)

set_option maxRecDepth 100000 in
set_option maxHeartbeats 1000000 in
theorem Flush_back {w : World} {o : Own} {T : ChT} {b : Nat} {s : ChS} (h : ChAt w o T b s) (ρ : Nat) (t : Int) (ht : t < s.tick) :
    Calls Try.prog 20 #[.pointer (some ⟨b, 0, none⟩), .int .i64 t] w (FlushTo w o T ρ b (flushS s t)) := by
  have HC := Lib.hid h
  obtain ⟨k, blk, h⟩ := h
  obtain ⟨c0, c1, c2, c3, c4, c5, c6, c7, c8⟩ := h.cells
  have e : flushS s t = (s, [], 2) := by unfold flushS; rw [if_pos ht]
  rw [e]
  have hd : decide (t < s.tick) = true := by simpa using ht
  clear h e ht
  go_enter Try.func20, Try.ntmps20
  go_wp2_with (go_at_call 41; refine (there_ch c5).mono ?_; rintro e w' ⟨rfl, rfl⟩)
  go_ret2
  exact ⟨o, none, 0, rfl, Step.refl _ _ _, HC.out, Row.nil_ _ _ _ _ _⟩

set_option maxRecDepth 100000 in
set_option maxHeartbeats 4000000 in
theorem Flush_any {w : World} {o : Own} {T : ChT} {b : Nat} {s : ChS} (h : ChAt w o T b s) (hs : s.Fit) (hT : T.Ok) (ρ : Nat) (h1 : ρ ≠ T.τ) (h2 : ρ ≠ T.τe) (t : Int) (ht : t ≤ 9223372036854775807) (hnx : s.e.next ≤ 1999999999998) :
    Calls Try.prog 20 #[.pointer (some ⟨b, 0, none⟩), .int .i64 t] w (FlushTo w o T ρ b (flushS s t)) := by
  by_cases hlt : t < s.tick
  · exact Flush_back h ρ t hlt
  have hd : decide (t < s.tick) = false := by simpa using hlt
  obtain ⟨k, blk, h⟩ := h
  obtain ⟨c0, c1, c2, c3, c4, c5, c6, c7, c8⟩ := h.cells
  have f3 := h.cb.frozen 3
  obtain ⟨s1, hs1⟩ : ∃ s1 : ChS, s1 = { s with tick := t } := ⟨_, rfl⟩
  obtain ⟨hset, hst0⟩ := h.set (s' := s1) hT 3 (.int .i64 t) (by rw [hs1]; rfl) (by rw [hs1]) (by rw [hs1]) (by rw [hs1]) (by rw [hs1]) (by rw [hs1]) (by rw [hs1])
  have hf1 : s1.Fit := by rw [hs1]; exact hs.clock (by omega) ht
  have hR : ∃ R, R = flushS s t := ⟨_, rfl⟩
  obtain ⟨R, hR⟩ := hR
  rw [← hR]
  have HS1 := Lib.hid hs1; have HSET := Lib.hid hset; have HST0 := Lib.hid hst0; have HF1 := Lib.hid hf1; have HR := Lib.hid hR; have HT := Lib.hid hT
  clear hset hst0 hf1 hR h hs hT hs1
  go_enter Try.func20, Try.ntmps20
  go_upto_region 6 with (go_at_call 41; refine (there_ch c5).mono ?_; rintro e w' ⟨rfl, rfl⟩)
  clear c0 c1 c2 c3 c4 c5 c6 c7 c8 f3
  generalize w.setCell ⟨b, 3, none⟩ (.int .i64 t) = w1 at HSET HST0 ⊢
  go_wp2_with fail
  refine (body_any HSET.out HF1.out).mono ?_
  rintro e w2 ⟨BA, bn, bc, LA, ln, lc, rfl, hB⟩
  have hb12 := hB.ns.fin
  have hst2 := below_step (o := o) hb12 T.σ
  have HC2 := Lib.hid (HSET.out.step hst2 (by simp) (by simp) (by simp) (by simp))
  have HRB := Lib.hid (hB.b.tagged o T.σ); have HRL := Lib.hid (hB.l.tagged o T.σ)
  have HST2 := Lib.hid (HST0.out.trans hst2.nil)
  obtain ⟨L, hL⟩ : ∃ L, L = (bodyS s1).2 := ⟨_, rfl⟩
  obtain ⟨B, hBb⟩ : ∃ B, B = (bodyS s1).1 := ⟨_, rfl⟩
  rw [← hBb] at HRB; rw [← hL] at HRL
  have hln : ln = L.length := by have := HRL.out.len; simpa using this.symm
  have HL := Lib.hid hL; have HB := Lib.hid hBb; have HLN := Lib.hid hln
  clear hB hb12 hst2 hL hBb hln HSET HST0
  generalize ext o w1.heap.size T.σ = o2 at HC2 HRB HRL HST2
  rcases Nat.eq_zero_or_pos ln with hz | hz
  · subst hz
    have HR2 := Lib.hid (HR.out.trans (flushS_none (s := s) (t := t) (by omega) HS1.out (by rw [← HL.out]; exact HLN.out.symm)))
    obtain ⟨d0, d1, d2, d3, d4, d5, d6, d7, d8⟩ := HC2.out.cells
    have f4 := HC2.out.cb.frozen 4
    clear HL HB HLN HRB HRL HR HS1
    cases how : s1.owes with
    | false =>
      rw [how] at d4
      have HOW := Lib.hid how
      clear how
      go_wp2_with fail
      rw [show R = (s1, [], 0) by rw [HR2.out, HOW.out]; rfl]
      go_ret2
      exact ⟨o2, none, 0, rfl, HST2.out.mono (by simp), ⟨k, blk, HC2.out⟩, Row.nil_ _ _ _ _ _⟩
    | true =>
      rw [how] at d4
      have hset := HC2.out.set (s' := { s1 with owes := false }) HT.out 4 (.bool false) rfl rfl rfl rfl rfl rfl rfl
      have HSET := Lib.hid hset; have HOW := Lib.hid how
      clear how hset
      go_upto_region 23 with fail
      clear d0 d1 d2 d3 d4 d5 d6 d7 d8 f4
      generalize w2.setCell ⟨b, 4, none⟩ (.bool false) = w3 at HSET ⊢
      obtain ⟨d0, d1, d2, d3, d4, d5, d6, d7, d8⟩ := HSET.out.1.cells
      by_cases hh : s1.e.other ≤ s1.e.newest
      · have HR3 := Lib.hid (show R = ({ s1 with owes := false }, ackP s1.e, 0) by rw [HR2.out, HOW.out, if_pos rfl, if_pos hh])
        have HH := Lib.hid hh
        clear hh
        go_wp2_with fail
        refine (Only_ok w3 o2 T.τe ρ k.eb s1.e HSET.out.1.e HF1.out.e HH.out).mono ?_
        rintro e w4 ⟨A4, c4, o4, rfl, hst4, hR4⟩
        have HST4 := Lib.hid hst4; have HR4 := Lib.hid hR4
        clear hst4 hR4
        go_wp2_with fail
        rw [HR3.out]
        go_ret2
        exact ⟨o4, A4, c4, rfl, (HST2.out.trans HSET.out.2).mono (by simp) |>.trans HST4.out.nil, ⟨k, blk, HSET.out.1.step HST4.out (by simp) (by simp) (by simp) (by simp)⟩, HR4.out⟩
      · have HR3 := Lib.hid (show R = ({ s1 with owes := false }, [], 6) by rw [HR2.out, HOW.out, if_pos rfl, if_neg hh])
        have HH := Lib.hid hh
        clear hh
        go_wp2_with fail
        refine (Only_none w3 o2 T.τe k.eb s1.e HSET.out.1.e (by have := HH.out; omega)).mono ?_
        rintro e w4 ⟨rfl, q4, hw4⟩
        have hst4 : Step [] w3 o2 w4 o2 := by rw [hw4]; exact (Step.refl [] w3 o2).drewN q4
        have HST4 := Lib.hid hst4
        clear hst4 hw4
        go_wp2_with fail
        rw [HR3.out]
        go_ret2
        exact ⟨o2, none, 0, rfl, (HST2.out.trans HSET.out.2).mono (by simp) |>.trans HST4.out.nil, ⟨k, blk, HSET.out.1.step HST4.out (by simp) (by simp) (by simp) (by simp)⟩, Row.nil_ _ _ _ _ _⟩
  · have hzd : decide ((0 : Int) < (ln : Int)) = true := by simp; omega
    obtain ⟨d0, d1, d2, d3, d4, d5, d6, d7, d8⟩ := HC2.out.cells
    have hlen := bodyS_len s1
    rw [← HB.out, ← HL.out] at hlen
    have hbn : bn = B.length := by have := HRB.out.len; simpa using this.symm
    have hne : L ≠ [] := by intro e; rw [e] at HLN; have := HLN.out; simp at this; omega
    obtain ⟨hb1, hb2⟩ : 1 ≤ bn ∧ bn ≤ 1191 := by have := hlen.2.2 hne; omega
    obtain ⟨gB, curB, rfl, -⟩ := HRB.out.form (by omega)
    have hmk := Make_any w2 o2 T.τe T.σ ρ k.eb s1.e HC2.out.e HF1.out.e HT.out.s2 h2 ⟨gB, 0, none⟩ bn bc B HRB.out.sl hb1 hb2 (by rw [HS1.out]; show s.e.next ≤ _; omega)
    have HMK := Lib.hid hmk
    clear hmk hbn hne hlen
    go_wp2_with fail
    refine HMK.out.mono ?_
    rintro e w3 ⟨A3, c3, o3, LA3, lc3, rfl, hst3, hE3, hY3, hL3⟩
    have hC3 := HC2.out.ofe HT.out hst3 (e' := makeS s1.e) hE3 (by show s1.e.next - s1.e.own ≤ s1.e.next + 1 - s1.e.own; omega)
    have hPK := HC2.out.pack.step hst3 (by simpa using Ne.symm HT.out.te) (by simpa using HT.out.s2)
    have hRL3 := HRL.out.sl.step hst3 (by simpa using HT.out.s2)
    obtain ⟨nm, hnm⟩ : ∃ nm, nm = s1.e.next := ⟨_, rfl⟩
    obtain ⟨yl, hyl⟩ : ∃ yl, yl = (packP (makeS s1.e) s1.e.next B).length := ⟨_, rfl⟩
    obtain ⟨rl, hrl⟩ : ∃ rl, rl = (lostP s1.e).length := ⟨_, rfl⟩
    rw [← hyl, ← hrl, ← hnm]
    have HC3 := Lib.hid hC3; have HPK := Lib.hid hPK; have HRL3 := Lib.hid hRL3; have HNM := Lib.hid hnm; have HYL := Lib.hid hyl; have HRLL := Lib.hid hrl
    have HY3 := Lib.hid hY3; have HL3 := Lib.hid hL3; have HST3 := Lib.hid ((HST2.out.mono (ts' := [T.τ, T.τe]) (by simp)).trans (hst3.mono (by simp)))
    clear hC3 hPK hRL3 hnm hyl hrl hY3 hL3 hst3 hE3 HMK d0 d1 d2 d3 d4 d5 d6 d7 d8 HC2 HRB HRL HST2
    have hln64 : ln ≤ 64 := by have := (bodyS_len s1).2.1; rw [← HL.out] at this; have := HLN.out; omega
    have hnm1 : -9223372036854775808 ≤ nm ∧ nm ≤ 9223372036854775807 := by
      have h3 := HNM.out; have h4 := HF1.out.e.own0; have h5 := HF1.out.e.own1; have h6 := HF1.out.e.next1; omega
    go_wp2_with fail
    go_loopw [55] (fun i wr => ∃ (j : Nat), j ≤ ln ∧ i = .int .i64 j ∧ Hid (ChIs wr o3 T b { s1 with e := makeS s1.e, out := markS s1.out nm t (L.take j) } k blk) ∧ Hid (Step [T.τ] w3 o3 wr o3) ∧ Hid (PackAt wr o3 T.τ T.σ k.mp (s1.e.next - s1.e.own) s1.packets)) (fun i _ => ln - (intOf i).toNat)
    case atStart => exact ⟨0, Nat.zero_le _, rfl, HC3, Lib.hid (Step.refl _ _ _), HPK⟩
    case round => as_aux_lemma =>
      obtain ⟨j, hj, rfl, HCj, HSj, HPj⟩ := hrel
      by_cases hltj : j < ln
      · have hdj : decide ((j : Int) < (ln : Int)) = true := by simp; omega
        obtain ⟨n, hn⟩ : ∃ n, L[j]? = some n := ⟨_, List.getElem?_eq_getElem (by have := HLN.out; omega)⟩
        obtain ⟨g1, g2, g3, g4⟩ : s1.first ≤ n ∧ n < s1.sent ∧ n < s1.first + 64 ∧ dueS s1 n = true := bodyS_mem (by rw [← HL.out]; exact List.mem_of_getElem? hn)
        have g5 := HF1.out.sl
        obtain ⟨y, hy⟩ := dueS_msg g4
        obtain ⟨x, hx⟩ : ∃ x, markS s1.out nm t (L.take j) n = some x := by
          rw [markS_at]; split
          · exact ⟨_, by rw [hy]; rfl⟩
          · exact ⟨y, hy⟩
        obtain ⟨gl, ol, rfl, l0⟩ := (HRL3.out.step HSj.out (by simpa using HT.out.s1)).i64_at hn
        obtain ⟨d0, d1, d2, d3, d4, d5, d6, d7, d8⟩ := HCj.out.cells
        have hlk := (HCj.out.out.step (Step.refl [] wr o3).drew (by simp) (by simp)).look (n := n) (by omega)
        simp only [hx] at hlk
        obtain ⟨XA, xc, hB, ho, hS⟩ := HCj.out.out.msg n x hx
        have m1 := hB.cell 1; have m2 := hB.cell 2; have f1 := hB.frozen 1; have f2 := hB.frozen 2
        simp only [List.getElem?_toArray, List.getElem?_cons_zero, List.getElem?_cons_succ] at m1 m2
        have HN := Lib.hid hn; have HX := Lib.hid hx
        clear hn g4 hy hx hS ho hB
        go_wp2_with fail
        go_region
        have hA := HCj.out.setmsg HT.out HX.out 1 (.int .i64 nm) (x' := { x with packet := nm }) rfl (fun A c => rfl)
        have hB := hA.1.setmsg HT.out (show (updN (markS s1.out nm t (L.take j)) n (some { x with packet := nm })) n = some { x with packet := nm } by simp [updN]) 2 (.int .i64 t) (x' := { x with packet := nm, tick := t }) rfl (fun A c => rfl)
        have hst := hA.2.trans hB.2
        have hpk : PackAt ((wr.setCell ⟨blk n, 1, none⟩ (.int .i64 nm)).setCell ⟨blk n, 2, none⟩ (.int .i64 t)) o3 T.τ T.σ k.mp (s1.e.next - s1.e.own) s1.packets := by
          obtain ⟨XA1, xc1, hB1, ho1, -⟩ := HCj.out.out.msg n x HX.out
          have := HPj.out.setb (i := 1) hB1 ho1 HT.out.s1 (.int .i64 nm)
          exact this.setb (i := 2) (hB1.set_ 1 (.int .i64 nm)) ho1 HT.out.s1 (.int .i64 t)
        have HC4 : Hid (ChIs ((wr.setCell ⟨blk n, 1, none⟩ (.int .i64 nm)).setCell ⟨blk n, 2, none⟩ (.int .i64 t)).drew o3 T b { s1 with e := makeS s1.e, out := markS s1.out nm t (L.take (j + 1)) } k blk) := Lib.hid (by
          have e : markS s1.out nm t (L.take (j + 1)) = updN (updN (markS s1.out nm t (L.take j)) n (some { x with packet := nm })) n (some { x with packet := nm, tick := t }) := by
            rw [markS_snoc _ _ _ HN.out HX.out]
            funext i
            simp only [updN]
            split <;> rfl
          rw [e]
          exact hB.1.step (Step.refl [] _ _).drew (by simp) (by simp) (by simp) (by simp))
        have HS4 : Hid (Step [T.τ] w3 o3 ((wr.setCell ⟨blk n, 1, none⟩ (.int .i64 nm)).setCell ⟨blk n, 2, none⟩ (.int .i64 t)).drew o3) := Lib.hid (HSj.out.trans hst.drew)
        have HP4 : Hid (PackAt ((wr.setCell ⟨blk n, 1, none⟩ (.int .i64 nm)).setCell ⟨blk n, 2, none⟩ (.int .i64 t)).drew o3 T.τ T.σ k.mp (s1.e.next - s1.e.own) s1.packets) := Lib.hid (hpk.step (Step.refl [] _ _).drew (by simp) (by simp))
        clear hA hB hst hpk d0 d1 d2 d3 d4 d5 d6 d7 d8 l0 hlk m1 m2 f1 f2
        go_wp2_with fail
        go_roundw
        case rel => exact ⟨j + 1, by omega, by go_num, HC4, HS4, HP4⟩
        case measure => simp [intOf]; omega
      · have hdj : decide ((j : Int) < (ln : Int)) = false := by simp; omega
        have hjl : L.take j = L := List.take_of_length_le (by have := HLN.out; omega)
        rw [hjl] at HCj
        clear hjl
        obtain ⟨w4, rfl⟩ : ∃ W, W = wr := ⟨_, rfl⟩
        obtain ⟨d0, d1, d2, d3, d4, d5, d6, d7, d8⟩ := HCj.out.cells
        obtain ⟨adr, cap, cnt, p1, p2, p3⟩ := HPj.out.map
        have HP1 := Lib.hid p1; have HP2 := Lib.hid p2; have HP3 := Lib.hid p3
        have hmx : cnt < maxLen := by
          have h3 := HF1.out.e.own0; have h4 := HF1.out.e.next1
          unfold maxLen; omega
        have HMX := Lib.hid hmx; have HN64 := Lib.hid (show I64 nm from hnm1)
        clear p1 p2 p3 hmx
        go_upto_region 17 with (at_mapUpdate; refine wpList_putV _ rfl rfl _ _ _ 91 rfl _ Try.underlying91 _ _ _ rfl HP1.out HMX.out _ _ rfl rfl HN64.out ?_; intro w5 hm5 hg5 hz5; have HM5 := Lib.hid hm5; have HG5 := Lib.hid hg5; clear hm5 hg5 hz5)
        have hput := HCj.out.putpack HT.out nm L HLN.out (by have := HP2.out; show (cnt : Int) + 1 ≤ s1.e.next + 1 - s1.e.own; omega) HP3.out (HRL3.out.step HSj.out (by simpa using HT.out.s1)) HM5.out HG5.out
        have hmf := make_fit HF1.out.e (by rw [HS1.out]; show s.e.next + 1 ≤ _; omega)
        have htk : s1.tick = t := by rw [HS1.out]
        have hfit2 : ChS.Fit { s1 with e := makeS s1.e, out := markS s1.out nm t L, packets := updI s1.packets nm (some L) } := by
          have := flush_fit HF1.out (by rw [HS1.out]; show s.e.next + 1 ≤ _; omega) hmf
          rw [← HL.out, ← HNM.out, show markS s1.out nm s1.tick L = markS s1.out nm t L by rw [htk]] at this
          exact this
        have hL5 := (HL3.out.step HSj.out (by simpa using h1)).step hput.2 (by simpa using h1)
        have hY5 := (HY3.out.step HSj.out (by simpa using h1)).step hput.2 (by simpa using h1)
        have hdc := decide_any (w := w5) (o := o3) (T := T) (b := b) ⟨k, blk, hput.1⟩ hfit2 HT.out ρ h1 LA3 rl lc3 (lostP s1.e) (by rw [HRLL.out]; exact hL5) (lostP_64 HF1.out.e (by rw [HS1.out]; show s.e.next ≤ _; omega))
        have HDC := Lib.hid hdc; have HY5 := Lib.hid hY5
        have HST5 := Lib.hid (HST3.out.trans ((HSj.out.trans hput.2).mono (ts' := [T.τ, T.τe]) (by simp)))
        clear hdc hY5 hL5 hfit2 hput HM5 HG5 HP1 HP2 HP3 HMX HN64 d0 d1 d2 d3 d4 d5 d6 d7 d8 hmf htk
        go_wp2_with fail
        refine HDC.out.mono ?_
        clear HDC
        rintro e w6 ⟨o6, rfl, hst6, k6, blk6, h6⟩
        have f4 := h6.cb.frozen 4
        obtain ⟨d0, d1, d2, d3, d4, d5, d6, d7, d8⟩ := h6.cells
        have HC6 := Lib.hid h6; have HST6 := Lib.hid (HST5.out.trans (hst6.mono (ts' := [T.τ, T.τe]) (by simp))); have HY6 := Lib.hid (HY5.out.step hst6 (by simpa using h1))
        clear h6 hst6 HY5 HST5
        go_wp2_with fail
        have hsend := flushS_send (s := s) (t := t) (by omega) HS1.out (by rw [← HL.out, ← HLN.out]; exact hz)
        rw [← HL.out, ← HB.out, ← HNM.out] at hsend
        rw [HR.out, hsend]
        have hset := HC6.out.set (s' := { decS { s1 with e := makeS s1.e, out := markS s1.out nm t L, packets := updI s1.packets nm (some L) } (lostP s1.e) with owes := false }) HT.out 4 (.bool false) rfl rfl rfl rfl rfl rfl rfl
        have hY7 := HY6.out.step hset.2 (by simpa using h1)
        have hyl2 : yl = (packP (makeS s1.e) nm B).length := by rw [HNM.out]; exact HYL.out
        rw [← HNM.out] at hY7
        go_ret2
        refine ⟨o6, A3, c3, (by rw [← hyl2]; rfl), HST6.out.trans (hset.2.mono (by simp)), ⟨k6, blk6, hset.1⟩, ?_⟩
        exact hY7
end Go.Proofs.Ythjjipcbpmdfnaa
