/-
  WALK of (*Channel).Receive.
-/
import Derived.Test.YthjjipcbpmdfnaaChL
namespace Go.Proofs.Ythjjipcbpmdfnaa
open Go.RowKit

/-- Messages that are handed over: the first has the number n. -/
structure MsgsAt (w : World) (o : Own) (ρ : Nat) (ε : Nat → Nat) (n : Nat) (A : Option Addr) (m c : Nat) (vs : List Value) (ms : List (List UInt8)) : Prop where
  row : Row w o ρ 41 1 A m c vs
  len : ms.length = m
  el : ∀ i x, ms[i]? = some x → ∃ XA xl xc, vs[i]? = some (.slice XA xl xc) ∧ Row w o (ε (n + i)) 5 1 XA xl xc (byts x)
theorem MsgsAt.nil_ (w : World) (o : Own) (ρ : Nat) (ε : Nat → Nat) (n : Nat) : MsgsAt w o ρ ε n none 0 0 [] [] := ⟨Row.nil_ _ _ _ _ _, rfl, fun i x h => by simp at h⟩
/-- What Receive comes to. -/
structure CRecvTo (w : World) (o : Own) (T : ChT) (ρ b next : Nat) (R : ChS × List (List UInt8) × Int) (e : Ending) (w' : World) : Prop where
  out : ∃ o' A m c vs, e = .returned (.tuple #[.slice A m c, .int .i64 R.2.2]) ∧ Step [T.τ, T.τe, ρ] w o w' o' ∧ ChAt w' o' T b R.1 ∧ MsgsAt w' o' ρ T.ε next A m c vs R.2.1
theorem recvP_64 {s : EndS} (h : s.Fit) {xs : List UInt8} : ∀ r ∈ (recvP s xs).2.2.1, I64 r.1 := by
  intro r hr
  have h1 := h.mem _ (recvP_reps r hr)
  have h0 := h.own0; have h2 := h.next1
  unfold I64; omega

theorem recv_lenC (s : EndS) (xs : List UInt8) : (recvP s xs).2.1.length ≤ 1191 := by
  unfold recvP
  cases hp : parseP xs with
  | none => simp
  | some q =>
    obtain ⟨f, nu, ak, mk, body⟩ := q
    have hb := (parse_bd hp).2.2.2.2.2.1
    simp only
    repeat' split
    all_goals first | exact hb | exact Nat.zero_le _


theorem inc_get (l : List IncV) (k : Nat) (e : IncV) (h : l[k]? = some e) : (incCells l)[k * 2]? = some (.int .i64 (e.n : Int)) ∧ (incCells l)[k * 2 + 1]? = some (.slice e.A e.ln e.c) := by
  induction l generalizing k with
  | nil => simp at h
  | cons r l ih =>
    cases k with
    | zero => simp at h; subst h; exact ⟨rfl, rfl⟩
    | succ k =>
      have := ih k (by simpa using h)
      rw [show (k + 1) * 2 = k * 2 + 1 + 1 by omega, show k * 2 + 1 + 1 + 1 = (k * 2 + 1) + 1 + 1 by omega]
      simpa [incCells, IncV.cells] using this
theorem Sl.inc_at {w : World} {o : Own} {τ n c : Nat} {A : Option Addr} {l : List IncV} (h : Sl w o τ 2 A n c (incCells l)) {i : Nat} {e : IncV} (he : l[i]? = some e) : ∃ g off, A = some ⟨g, off, none⟩ ∧ w.cell? ⟨g, off + i * 2, none⟩ = some (.int .i64 (e.n : Int)) ∧ w.cell? ⟨g, off + i * 2 + 1, none⟩ = some (.slice e.A e.ln e.c) := by
  have hj := (List.getElem?_eq_some_iff.1 he).1
  have hl := h.1
  rw [incCells_len] at hl
  obtain ⟨g, off, hA, -, -, hc⟩ := h.2.2.2 (by omega)
  obtain ⟨k0, k1⟩ := inc_get l i e he
  exact ⟨g, off, hA, hc _ _ k0, by rw [Nat.add_assoc]; exact hc _ _ k1⟩
theorem parseC_bound (next : Nat) : ∀ (k : Nat) (xs : List UInt8) (l : List (Nat × List UInt8)), parseC next k xs = some l → ∀ p ∈ l, p.1 < next + 64 ∧ p.2.length ≤ 1024
  | 0, xs, l, h => by simp only [parseC, Option.some.injEq] at h; subst h; simp
  | k + 1, xs, l, h => by
    unfold parseC at h
    split at h
    · simp only [Option.some.injEq] at h; subst h; simp
    · split at h
      · cases h
      · simp only at h
        split at h
        · cases h
        · rename_i h2
          simp only [not_or, Nat.not_lt, Int.not_lt, Int.not_le] at h2
          obtain ⟨l', hl', rfl⟩ := Option.map_eq_some_iff.1 h
          intro p hp
          rcases List.mem_cons.1 hp with hp | hp
          · subst hp
            refine ⟨by show (near _ _).toNat < _; omega, ?_⟩
            show (List.take _ _).length ≤ 1024
            rw [List.length_take]; omega
          · exact parseC_bound next k _ l' hl' p hp
theorem keepS_take (next : Nat) (early : Nat → Option (List UInt8)) {es : List IncV} {j : Nat} {e : IncV} (h : es[j]? = some e) : keepS next early ((es.take (j + 1)).map IncV.pair) = keep1 next (keepS next early ((es.take j).map IncV.pair)) e.pair := by
  obtain ⟨hi, he⟩ := List.getElem?_eq_some_iff.1 h
  rw [List.take_succ_eq_append_getElem hi, List.map_append, he]
  unfold keepS
  rw [List.foldl_append]; rfl
/-- What the store of an early message comes to. -/
theorem keep_put {w w3 : World} {o : Own} {T : ChT} {b : Nat} {s : ChS} {k : ChB} {blk : Nat → Nat} (h : ChIs w o T b s k blk) (hT : T.Ok) {m : Nat} (hm : m < s.next + 64) (hm2 : s.next ≤ 1000000000) {A3 : Option Addr} {n c3 : Nat} {xs : List UInt8} (hB3 : Below w.drew.heap.size w.drew w3)
    (hR3 : Row w3 (ext o w.drew.heap.size (T.ε m)) (T.ε m) 5 1 A3 n c3 (byts xs)) :
    ∃ W', (Instr.mapUpdate 90 (.map (some k.me)) (.int .i64 (m : Int)) (.slice A3 n c3)).run Try.prog w3 = .ok () W' ∧ Step [T.τ] w o W' (ext o w.drew.heap.size (T.ε m)) ∧ ChIs W' (ext o w.drew.heap.size (T.ε m)) T b { s with early := updN s.early m (some xs) } k blk ∧ w3.grownBy W' (some k.me) ∧ k.me < w.heap.size := by
  have st3 : Step [] w o w3 (ext o w.drew.heap.size (T.ε m)) := (Step.refl [] w o).drew.below hB3 (T.ε m)
  have h4 := h.step st3 (by simp) (by simp) (by simp) (by simp)
  obtain ⟨adr, cap, q1, q2⟩ := h4.early.map
  have hlt : k.me < w.heap.size := by obtain ⟨_, _, q, -⟩ := h.early.map; exact q.lt
  obtain ⟨W', hrun, r1, r2, -⟩ := q1.store Try.underlying90 (Nat.lt_of_le_of_lt (cntN_le _ _) (by unfold maxLen; omega)) (i64_nat (n := m) (by omega)) (.slice A3 n c3)
  have hn : n = xs.length := by have := hR3.len; simpa using this.symm
  have hp := h4.putearly hT q2 hm hn hR3 r1 r2
  exact ⟨W', hrun, st3.nil.trans hp.2, hp.1, r2, hlt⟩

theorem el_bs : Elem Try.prog 29 41 1 24 (.slice none 0 0) := ⟨Try.underlying29, by kernel_rfl, rfl, by decide⟩
theorem dropN_succ (early : Nat → Option (List UInt8)) (n i : Nat) : dropN early n (i + 1) = updN (dropN early n i) (n + i) none := by
  funext j
  unfold dropN updN
  by_cases h : j = n + i
  · rw [if_pos h, if_pos (by omega)]
  · rw [if_neg h]
    simp only []
    by_cases h2 : n ≤ j ∧ j < n + i
    · rw [if_pos h2, if_pos (by omega)]
    · rw [if_neg h2, if_neg (by omega)]
theorem dropN_zero (early : Nat → Option (List UInt8)) (n : Nat) : dropN early n 0 = early := by
  funext j; unfold dropN; rw [if_neg (by omega)]
theorem dropN_at (early : Nat → Option (List UInt8)) (n i : Nat) : dropN early n i (n + i) = early (n + i) := by
  unfold dropN; rw [if_neg (by omega)]
theorem MsgsAt.step {w w' : World} {o o' : Own} {ρ n m c : Nat} {ε : Nat → Nat} {A : Option Addr} {vs : List Value} {ms : List (List UInt8)} {ts : List Nat} (h : MsgsAt w o ρ ε n A m c vs ms) (hs : Step ts w o w' o') (h1 : ρ ∉ ts) (h2 : ∀ i, ε i ∉ ts) : MsgsAt w' o' ρ ε n A m c vs ms :=
  ⟨h.row.step hs h1, h.len, fun i x hx => by
    obtain ⟨XA, xl, xc, q1, q2⟩ := h.el i x hx
    exact ⟨XA, xl, xc, q1, q2.step hs (h2 _)⟩⟩
/-- One message more. -/
theorem MsgsAt.more {w w' : World} {o o' : Own} {ρ n m c c' : Nat} {ε : Nat → Nat} {A A' : Option Addr} {vs : List Value} {ms : List (List UInt8)} (h : MsgsAt w o ρ ε n A m c vs ms) (hs : Step [ρ] w o w' o') (h2 : ∀ i, ε i ≠ ρ) {XA : Option Addr} {xl xc : Nat} {x : List UInt8} (hx : Row w o (ε (n + m)) 5 1 XA xl xc (byts x)) (hR : Row w' o' ρ 41 1 A' (m + 1) c' (vs ++ [.slice XA xl xc])) :
    MsgsAt w' o' ρ ε n A' (m + 1) c' (vs ++ [.slice XA xl xc]) (ms ++ [x]) := by
  have hl := h.row.len
  rw [Nat.mul_one] at hl
  refine ⟨hR, by simp [h.len], fun i y hy => ?_⟩
  rcases Nat.lt_or_ge i m with h1 | h1
  · rw [List.getElem?_append_left (by rw [h.len]; exact h1)] at hy
    obtain ⟨YA, yl, yc, q1, q2⟩ := h.el i y hy
    exact ⟨YA, yl, yc, by rw [List.getElem?_append_left (by omega)]; exact q1, q2.step hs (by simpa using h2 _)⟩
  · rw [List.getElem?_append_right (by rw [h.len]; exact h1), h.len] at hy
    have : i = m := by
      have := (List.getElem?_eq_some_iff.1 hy).1
      simp at this; omega
    subst this
    simp at hy; subst hy
    exact ⟨XA, xl, xc, by rw [List.getElem?_append_right (by omega), hl]; simp, hx.step hs (by simpa using h2 _)⟩

set_option maxRecDepth 100000 in
set_option maxHeartbeats 8000000 in
theorem Receive_ch {w : World} {o : Own} {T : ChT} {b : Nat} {s : ChS} (h : ChAt w o T b s) (hs : s.Fit) (hT : T.Ok) (ρ : Nat) (h1 : ρ ≠ T.τ) (h2 : ρ ≠ T.τe) (h3 : ρ ≠ T.σ) (h4 : ∀ n, T.ε n ≠ ρ) (h5 : ∀ n, T.ε n ≠ T.σ) (τm : Nat) (hm : τm ≠ T.τe) (A : Option Addr) (n c : Nat) (xs : List UInt8) (hS : Sl w o τm 1 A n c (byts xs)) (hn : n ≤ 140737488355328) (hnw : s.e.newest ≤ 1999999900000) :
    Calls Try.prog 24 #[.pointer (some ⟨b, 0, none⟩), .slice A n c] w (CRecvTo w o T ρ b s.next (recvS s xs)) := by
  obtain ⟨P, hP⟩ : ∃ P, P = CRecvTo w o T ρ b s.next (recvS s xs) := ⟨_, rfl⟩
  rw [← hP]
  obtain ⟨k, blk, h⟩ := h
  obtain ⟨c0, c1, c2, c3, c4, c5, c6, c7, c8⟩ := h.cells
  have hrv := Receive_any w o T.τe τm T.σ k.eb s.e h.e hs.e hm hT.s2 A c n xs hS hn
  have HRV := Lib.hid hrv; have HI := Lib.hid h; have HF := Lib.hid hs; have HT := Lib.hid hT; have HP := Lib.hid hP
  have H4 := Lib.hid h4; have H5 := Lib.hid h5
  clear hrv h hs hT hP hS h4 h5
  go_enter Try.func24, Try.ntmps24
  go_wp2_with (go_at_call 41; refine (there_ch c5).mono ?_; rintro e w' ⟨rfl, rfl⟩)
  refine HRV.out.mono ?_
  clear HRV
  rintro e w1 ⟨BA, bc, RA, rc, o1, rfl, hst1, hE1, hB1, hR1⟩
  obtain ⟨code, hcode⟩ : ∃ code, code = (recvP s.e xs).2.2.2 := ⟨_, rfl⟩
  obtain ⟨bl, hbl⟩ : ∃ bl, bl = (recvP s.e xs).2.1.length := ⟨_, rfl⟩
  obtain ⟨rl, hrl⟩ : ∃ rl, rl = (recvP s.e xs).2.2.1.length := ⟨_, rfl⟩
  rw [← hcode, ← hbl, ← hrl]
  have hfit := recv_fit HF.out.e xs hnw
  have hown : (recvP s.e xs).1.own = s.e.own := recvP_own
  have hC1 := HI.out.ofe HT.out hst1 hE1 (by rw [hown, hfit.2.2.1]; exact Int.le_refl _)
  have HC1 := Lib.hid hC1; have HB1 := Lib.hid hB1; have HR1 := Lib.hid hR1; have HST1 := Lib.hid (hst1.mono (ts' := [T.τ, T.τe, ρ]) (by simp)); have HFE := Lib.hid hfit.1
  have HCO := Lib.hid hcode; have HBL := Lib.hid hbl; have HRL := Lib.hid hrl
  clear hC1 hB1 hR1 hst1 hE1 hfit hown hcode hbl hrl
  by_cases h190 : code = 190
  · have hdc : (code == 190) = true := by simpa using h190
    have HR : Hid (recvS s xs = (s, [], 190)) := Lib.hid (by unfold recvS; simp only; rw [if_pos (by rw [← HCO.out]; exact h190)])
    have e1 : recvP s.e xs = (s.e, [], [], 190) := recvP_190 (by rw [← HCO.out]; exact h190)
    have HC2 : Hid (ChIs w1 o1 T b s k blk) := Lib.hid (by have := HC1.out; rw [e1] at this; exact this)
    subst h190
    clear e1
    go_wp2_with fail
    rw [HP.out, HR.out]
    exact ⟨o1, none, 0, 0, [], rfl, HST1.out, ⟨k, blk, HC2.out⟩, MsgsAt.nil_ _ _ _ _ _⟩
  · have hdc : (code == 190) = false := by simpa using h190
    have hne : ¬ (recvP s.e xs).2.2.2 = 190 := by rw [← HCO.out]; exact h190
    have hdec := decide_any (w := w1) (o := o1) (T := T) (b := b) ⟨k, blk, HC1.out⟩ (HF.out.ofe HFE.out) HT.out T.σ HT.out.s1 RA rl rc (recvP s.e xs).2.2.1 (by rw [HRL.out]; exact HR1.out) (recvP_64 HF.out.e)
    have HDEC := Lib.hid hdec; have HNE := Lib.hid hne
    clear hdec hne h190
    go_wp2_with fail
    refine HDEC.out.mono ?_
    clear HDEC
    rintro e w2 ⟨o2, rfl, hst2, hC2⟩
    obtain ⟨s1, hs1⟩ : ∃ s1, s1 = decS { s with e := (recvP s.e xs).1 } (recvP s.e xs).2.2.1 := ⟨_, rfl⟩
    rw [← hs1] at hC2
    have hf1 : s1.Fit := by rw [hs1]; exact decS_fit (HF.out.ofe HFE.out) _
    have hnx1 : s1.next = s.next ∧ s1.early = s.early := by
      obtain ⟨f, out, pk, q, -⟩ := decS_form { s with e := (recvP s.e xs).1 } (recvP s.e xs).2.2.1 HF.out.fs
      rw [hs1, q]; exact ⟨rfl, rfl⟩
    have HC2 := Lib.hid hC2; have HS1 := Lib.hid hs1; have HF1 := Lib.hid hf1; have HN1 := Lib.hid hnx1
    have HB2 := Lib.hid (HB1.out.step hst2 (by simpa using HT.out.s1)); have HST2 := Lib.hid (HST1.out.trans (hst2.mono (ts' := [T.τ, T.τe, ρ]) (by simp)))
    clear hC2 hs1 hf1 hnx1 hst2 HB1 HST1 HC1
    obtain ⟨k2, blk2, hc2⟩ := HC2.out
    obtain ⟨d0, d1, d2, d3, d4, d5, d6, d7, d8⟩ := hc2.cells
    have f4 := hc2.cb.frozen 4
    have HCI := Lib.hid hc2
    clear hc2 HC2
    by_cases hq : code = 0 ∧ bl = 0
    · obtain ⟨rfl, rfl⟩ := hq
      have HR : Hid (recvS s xs = (s1, [], 0)) := Lib.hid (by
        unfold recvS; simp only; rw [if_neg HNE.out, if_pos ⟨HCO.out.symm, List.length_eq_zero_iff.1 HBL.out.symm⟩, HS1.out])
      clear f4
      go_wp2_with fail
      rw [HP.out, HR.out]
      exact ⟨o2, none, 0, 0, [], rfl, HST2.out, ⟨k2, blk2, HCI.out⟩, MsgsAt.nil_ _ _ _ _ _⟩
    · obtain ⟨hset, hstep⟩ := HCI.out.set (s' := { s1 with owes := true }) HT.out 4 (.bool true) rfl rfl rfl rfl rfl rfl rfl
      have HC3 := Lib.hid hset; have HST3 := Lib.hid (HST2.out.trans (hstep.mono (ts' := [T.τ, T.τe, ρ]) (by simp)))
      have HB3 := Lib.hid (HB2.out.step hstep (by simpa using HT.out.s1))
      clear hset hstep HST2 HB2
      by_cases hc0 : code = 0
      · subst hc0
        have hbl0 : ((bl : Int) == 0) = false := by simp; omega
        have hblp : 0 < bl := by omega
        have HQ := Lib.hid (show ¬ ((recvP s.e xs).2.2.2 = 0 ∧ (recvP s.e xs).2.1 = []) from fun h => by
          have h1 := congrArg List.length h.2
          rw [← HBL.out] at h1
          simp at h1
          omega)
        clear hq
        go_upto_region 12 with fail
        clear d0 d1 d2 d3 d4 d5 d6 d7 d8 f4 HCI
        generalize w2.setCell ⟨b, 4, none⟩ (.bool true) = w3 at HC3 HST3 HB3 ⊢
        have hbl1 : bl ≤ 1191 := by rw [HBL.out]; exact recv_lenC _ _
        have hf3 : ChS.Fit { s1 with owes := true } := HF1.out.owe true
        have HPA := Lib.hid (parse_walk HC3.out hf3 T.σ BA bl bc (recvP s.e xs).2.1 (by rw [HBL.out]; exact HB3.out.sl) hbl1)
        clear hf3
        go_wp2_with fail
        refine HPA.out.mono ?_
        clear HPA
        intro e w4 hpt
        rcases hpt with ⟨hp1, rfl, hb4⟩ | ⟨es, OA, on, oc, hp1, rfl, hpa⟩
        · have HR : Hid (recvS s xs = ({ s1 with owes := true }, [], 200)) := Lib.hid (by
            unfold recvS; simp only; rw [if_neg HNE.out, if_neg HQ.out, if_neg (by rw [← HCO.out]; simp), ← HS1.out]
            have : parseC s.next (recvP s.e xs).2.1.length (recvP s.e xs).2.1 = none := by rw [← HN1.out.1]; exact hp1
            rw [this])
          have hst4 := below_step (o := o2) hb4 T.σ
          have HC4 := Lib.hid (HC3.out.step hst4 (by simp) (by simp) (by simp) (by simp)); have HST4 := Lib.hid (HST3.out.trans hst4.nil)
          clear hst4 hb4 hp1
          go_wp2_with fail
          rw [HP.out, HR.out]
          exact ⟨_, none, 0, 0, [], rfl, HST4.out, ⟨k2, blk2, HC4.out⟩, MsgsAt.nil_ _ _ _ _ _⟩
        · have hb4 := hpa.ns.fin
          have hst4 := below_step (o := o2) hb4 T.σ
          have hR4 := hpa.row.tagged o2 T.σ
          have HC4 := Lib.hid (HC3.out.step hst4 (by simp) (by simp) (by simp) (by simp)); have HST4 := Lib.hid (HST3.out.trans hst4.nil)
          have HBS := Lib.hid (fun e he => (⟨(hpa.bs e he).1.step hst4 (by simp), (hpa.bs e he).2⟩ : Sl w4 _ T.σ 1 e.A e.ln e.c (byts e.b) ∧ e.ln = e.b.length))
          have HIN := Lib.hid hR4.sl
          have hon : on = es.length := by have := hpa.row.len; rw [incCells_len] at this; omega
          have HON := Lib.hid hon; have HPR := Lib.hid hp1
          clear hb4 hst4 hR4 hpa hon hp1
          generalize ext o2 w3.heap.size T.σ = o4 at HC4 HST4 HBS HIN
          have HPB := Lib.hid (fun e (he : e ∈ es) => parseC_bound s1.next _ _ _ HPR.out _ (List.mem_map.2 ⟨e, he, rfl⟩))
          have hnx9 : s1.next ≤ 1000000000 := HF1.out.nl
          have hon3 : on ≤ 9223372036854775807 := by have h1 := HIN.out.2.1; have h2 := HIN.out.2.2.1; unfold maxLen at h2; omega
          go_wp2_with fail
          go_loopw [61] (fun i wr => ∃ (j : Nat) (oj : Own) (ea : Nat → Option (List UInt8)), j ≤ on ∧ i = .int .i64 j ∧ Hid (ChIs wr oj T b { s1 with owes := true, early := ea } k2 blk2) ∧ Hid (Step [T.τ] w4 o4 wr oj) ∧ Hid (keepS s1.next s1.early ((es.take j).map IncV.pair) = ea)) (fun i _ => on - (intOf i).toNat)
          case atStart => exact ⟨0, o4, s1.early, Nat.zero_le _, rfl, HC4, Lib.hid (Step.refl _ _ _), Lib.hid rfl⟩
          case round => as_aux_lemma =>
            obtain ⟨j, oj, ea, hj, rfl, HCj, HSj, HEj⟩ := hrel
            by_cases hltj : j < on
            ·
              have hdj : decide ((j : Int) < (on : Int)) = true := by simp; omega
              obtain ⟨ev, hev⟩ : ∃ ev, es[j]? = some ev := ⟨_, List.getElem?_eq_getElem (by have := HON.out; omega)⟩
              have hevm := List.mem_of_getElem? hev
              obtain ⟨g, off, rfl, r0, r1⟩ := (HIN.out.step HSj.out (by simpa using HT.out.s1)).inc_at hev
              obtain ⟨pb1, pb2⟩ := HPB.out ev hevm
              have hvs := (HBS.out ev hevm).1.step HSj.out (by simpa using HT.out.s1)
              have HEV := Lib.hid hev
              obtain ⟨m, hm0⟩ : ∃ m, m = ev.n := ⟨_, rfl⟩
              rw [show ev.pair.1 = m from hm0.symm] at pb1
              rw [← hm0] at r0
              have HM0 := Lib.hid hm0
              clear hev hevm hm0 pb2
              go_upto_region 18 with fail
              obtain ⟨w5, hw5⟩ : ∃ w5, w5 = wr.alloc (.cells #[.int .i64 (m : Int), .slice ev.A ev.ln ev.c] 128) := ⟨_, rfl⟩
              have hbR : Blk w5 wr.heap.size 128 #[.int .i64 (m : Int), .slice ev.A ev.ln ev.c] := by rw [hw5]; exact Blk.new _ _ _
              have hs5 : Step [] wr oj w5 (ext oj wr.heap.size T.σ) := by rw [hw5]; exact (Step.refl [] wr oj).alloc _ T.σ
              have hog : ext oj wr.heap.size T.σ wr.heap.size = T.σ := ext_ge (Nat.le_refl _)
              have hC5 := HCj.out.step hs5 (by simp) (by simp) (by simp) (by simp)
              have hv5 := hvs.step hs5 (by simp)
              have hS5 := HSj.out.trans hs5.nil
              rw [← hw5]
              clear hw5 r0 r1 hvs hs5
              generalize wr.heap.size = gr at hbR hog hC5 hv5 hS5 ⊢
              generalize ext oj gr T.σ = o5 at hog hC5 hv5 hS5
              obtain ⟨EA, el, ec, hlk, -⟩ := hC5.early.look (n := m) (by omega)
              obtain ⟨d0, d1, d2, d3, d4, d5, d6, d7, d8⟩ := hC5.cells
              have b0 := hbR.cell 0
              simp only [List.getElem?_toArray, List.getElem?_cons_zero] at b0
              have HBR := Lib.hid hbR; have HOG := Lib.hid hog; have HC5 := Lib.hid hC5; have HV5 := Lib.hid hv5; have HS5 := Lib.hid hS5
              clear hbR hog hC5 hv5 hS5
              go_wp2_with fail
              go_quiet (fail)
              have HBR6 : Hid (Blk (w5.drewN nq) gr 128 #[.int .i64 (m : Int), .slice ev.A ev.ln ev.c]) := HBR
              have HC6 := Lib.hid (HC5.out.step ((Step.refl [] w5 o5).drewN nq) (by simp) (by simp) (by simp) (by simp))
              have HV6 : Hid (Sl (w5.drewN nq) o5 T.σ 1 ev.A ev.ln ev.c (byts ev.b)) := HV5
              have HS6 := Lib.hid (HS5.out.drewN nq)
              generalize w5.drewN nq = w6 at HBR6 HC6 HV6 HS6 ⊢
              clear d0 d1 d2 d3 d4 d5 d6 d7 d8 b0 hlk HBR HC5 HV5 HS5
              obtain ⟨d0, d1, d2, d3, d4, d5, d6, d7, d8⟩ := HC6.out.cells
              have b0 := HBR6.out.cell 0; have b1 := HBR6.out.cell 1
              simp only [List.getElem?_toArray, List.getElem?_cons_zero, List.getElem?_cons_succ] at b0 b1
              by_cases hkeep : s1.next ≤ m ∧ ea m = none
              · obtain ⟨hk1, hk2⟩ := hkeep
                have hdm : decide (s1.next ≤ m) = true := by simp; omega
                have hnone : (ea m).isSome = false := by rw [hk2]; rfl
                have HEk : Hid (keepS s1.next s1.early ((es.take (j + 1)).map IncV.pair) = updN ea m (some ev.b)) := Lib.hid (by
                  rw [keepS_take _ _ HEV.out, HEj.out]; unfold keep1; rw [if_pos ⟨by show s1.next ≤ ev.n; rw [← HM0.out]; exact hk1, by show ea ev.n = none; rw [← HM0.out]; exact hk2⟩]
                  show updN ea ev.n _ = _
                  rw [← HM0.out]; rfl)
                clear hk2
                go_wp2_with fail
                go_quiet (fail)
                have HBR7 : Hid (Blk (w6.drewN nq) gr 128 #[.int .i64 (m : Int), .slice ev.A ev.ln ev.c]) := HBR6
                have HC7 := Lib.hid (HC6.out.step ((Step.refl [] w6 o5).drewN nq) (by simp) (by simp) (by simp) (by simp))
                have HV7 : Hid (Sl (w6.drewN nq) o5 T.σ 1 ev.A ev.ln ev.c (byts ev.b)) := HV6
                have HS7 := Lib.hid (HS6.out.drewN nq)
                generalize w6.drewN nq = w7 at HBR7 HC7 HV7 HS7 ⊢
                clear d0 d1 d2 d3 d4 d5 d6 d7 d8 b0 b1 HBR6 HC6 HV6 HS6 hnone
                go_wp2_with fail
                have hB7 := HBR7.out.cell 0; have hB8 := HBR7.out.cell 1
                have C0 : w7.drew.cell? ⟨b, 7, none⟩ = some (.map (some k2.me)) ∧ w7.drew.cell? ⟨gr, 0, none⟩ = some (.int .i64 (m : Int)) ∧ w7.drew.cell? ⟨gr, 1, none⟩ = some (.slice ev.A ev.ln ev.c) := ⟨HC7.out.cells.2.2.2.2.2.2.2.1, hB7, hB8⟩
                have UP := Lib.hid (fun W (hb : Below w7.drew.heap.size w7.drew W) => show W.cell? ⟨b, 7, none⟩ = some (.map (some k2.me)) ∧ W.cell? ⟨gr, 0, none⟩ = some (.int .i64 (m : Int)) ∧ W.cell? ⟨gr, 1, none⟩ = some (.slice ev.A ev.ln ev.c) from ⟨(hb.cell (p := ⟨b, 7, none⟩) HC7.out.cb.lt).trans C0.1, (hb.cell (p := ⟨gr, 0, none⟩) HBR7.out.lt).trans C0.2.1, (hb.cell (p := ⟨gr, 1, none⟩) HBR7.out.lt).trans C0.2.2⟩)
                have HCL := Lib.hid (cloneB w7.drew o5 T.σ (T.ε m) ev.A ev.ln ev.c _ HV7.out (one_byts _) (by have := HV7.out.2.1; have := HV7.out.1; simp at this; have h9 := (HPB.out ev (List.mem_of_getElem? HEV.out)).2; simp only [IncV.pair] at h9; omega))
                have HPUT := Lib.hid (fun w8 A3 c3 (hR3 : Row w8 (ext o5 w7.drew.heap.size (T.ε m)) (T.ε m) 5 1 A3 ev.ln c3 (byts ev.b)) (hB3 : Below w7.drew.heap.size w7.drew w8) => keep_put HC7.out HT.out (m := m) pb1 hnx9 hB3 hR3)
                have UPG := Lib.hid (fun (W W' : World) (hb : Below w7.drew.heap.size w7.drew W) (hg : W.grownBy W' (some k2.me)) (hc : ChIs W' (ext o5 w7.drew.heap.size (T.ε m)) T b { s1 with owes := true, early := updN ea m (some ev.b) } k2 blk2) => show W'.cell? ⟨b, 7, none⟩ = some (.map (some k2.me)) ∧ W'.cell? ⟨gr, 0, none⟩ = some (.int .i64 (m : Int)) ∧ W'.cell? ⟨gr, 1, none⟩ = some (.slice ev.A ev.ln ev.c) from by
                  have hB9 := ((show Blk w7.drew gr 128 #[.int .i64 (m : Int), .slice ev.A ev.ln ev.c] from HBR7.out).below hb HBR7.out.lt).grown hg (by
                    obtain ⟨_, _, q, -⟩ := HC7.out.early.map
                    simpa using Ne.symm (q.ne_blk HBR7.out))
                  exact ⟨hc.cells.2.2.2.2.2.2.2.1, hB9.cell 0, hB9.cell 1⟩)
                clear hB7 hB8
                go_region_held3 (fun w' => w'.cell? ⟨b, 7, none⟩ = some (.map (some k2.me)) ∧ w'.cell? ⟨gr, 0, none⟩ = some (.int .i64 (m : Int)) ∧ w'.cell? ⟨gr, 1, none⟩ = some (.slice ev.A ev.ln ev.c))
                  (first | with_reducible exact C0 | with_reducible exact C1 | with_reducible exact C2)
                  (first | (go_at_call 42; refine HCL.out.mono ?_; rintro e w8 ⟨A3, c3, rfl, hR3, hB3, hF3⟩; have C1 := UP.out _ hB3; obtain ⟨W', hrun, hst8, hc8, hg8, -⟩ := HPUT.out w8 A3 c3 hR3 hB3; have C2 := UPG.out w8 W' hB3 hg8 hc8; have HC8 := Lib.hid hc8; have HS8 := Lib.hid (HS7.out.trans hst8); clear hR3 hB3 hF3 hst8 hc8 hg8))
                clear C0 C1 C2 hrun UP UPG HCL HPUT HC7 HV7 HS7 HBR7
                go_wp2_with fail
                go_roundw
                case rel => exact ⟨j + 1, _, _, by omega, by go_num, HC8, HS8, HEk⟩
                case measure => simp [intOf]; omega
              · have HEk : Hid (keepS s1.next s1.early ((es.take (j + 1)).map IncV.pair) = ea) := Lib.hid (by
                  rw [keepS_take _ _ HEV.out, HEj.out]; unfold keep1; rw [if_neg (by rw [show ev.pair.1 = m from HM0.out.symm]; exact hkeep)])
                by_cases hk1 : s1.next ≤ m
                · have hdm : decide (s1.next ≤ m) = true := by simp; omega
                  have hsome : (ea m).isSome = true := by
                    cases hx : ea m with
                    | none => exact absurd ⟨hk1, hx⟩ hkeep
                    | some y => rfl
                  clear hkeep
                  go_wp2_with fail
                  go_quiet (fail)
                  have HC7 := Lib.hid (HC6.out.step ((Step.refl [] w6 o5).drewN nq) (by simp) (by simp) (by simp) (by simp))
                  have HS7 := Lib.hid (HS6.out.drewN nq)
                  go_wp2_with fail
                  go_roundw
                  case rel => exact ⟨j + 1, _, _, by omega, by go_num, HC7, HS7, HEk⟩
                  case measure => simp [intOf]; omega
                · have hdm : decide (s1.next ≤ m) = false := by simp; omega
                  clear hkeep
                  go_wp2_with fail
                  go_quiet (fail)
                  have HC7 := Lib.hid (HC6.out.step ((Step.refl [] w6 o5).drewN nq) (by simp) (by simp) (by simp) (by simp))
                  have HS7 := Lib.hid (HS6.out.drewN nq)
                  go_wp2_with fail
                  go_roundw
                  case rel => exact ⟨j + 1, _, _, by omega, by go_num, HC7, HS7, HEk⟩
                  case measure => simp [intOf]; omega
            · have hdj : decide ((j : Int) < (on : Int)) = false := by simp; omega
              have HEA : Hid (ea = keepS s1.next s1.early (es.map IncV.pair)) := Lib.hid (by rw [← HEj.out, List.take_of_length_le (by have := HON.out; omega)])
              obtain ⟨w5, rfl⟩ : ∃ W, W = wr := ⟨_, rfl⟩
              have hel := HCj.out.early.lt
              have HEL := Lib.hid hel
              clear HEj HIN HBS HPB hel
              obtain ⟨d0, d1, d2, d3, d4, d5, d6, d7, d8⟩ := HCj.out.cells
              obtain ⟨EA, el, ec, hlk, hes⟩ := HCj.out.early.look (n := s1.next) (by omega)
              have HES := Lib.hid hes
              clear hes
              go_wp2_with fail
              go_quiet (fail)
              have HC6 : Hid (ChIs (w5.drewN nq) oj T b { s1 with owes := true, next := s1.next + 0, early := dropN ea s1.next 0 } k2 blk2) := Lib.hid (by rw [dropN_zero]; exact HCj.out.step ((Step.refl [] w5 oj).drewN nq) (by simp) (by simp) (by simp) (by simp))
              have HST6 := Lib.hid (HST4.out.trans ((HSj.out.mono (ts' := [T.τ, T.τe, ρ]) (by simp)).drewN nq))
              have HES6 : Hid (∀ bb, ea (s1.next + 0) = some bb → Row (w5.drewN nq) oj (T.ε (s1.next + 0)) 5 1 EA el ec (byts bb)) := HES
              generalize w5.drewN nq = w6 at HC6 HST6 HES6 ⊢
              clear d0 d1 d2 d3 d4 d5 d6 d7 d8 hlk HCj HSj HES HST4 HC4 HON
              go_wp2_with fail
              go_loopw [15, 16, 17] (fun s15 s16 s17 wr => ∃ (i : Nat) (oi : Own) (RA : Option Addr) (rc : Nat) (vs : List Value) (ms : List (List UInt8)) (EA : Option Addr) (el ec : Nat), i ≤ 64 ∧ s15 = .slice RA i rc ∧ s16 = .slice EA el ec ∧ s17 = .bool (ea (s1.next + i)).isSome ∧
                  Hid (ChIs wr oi T b { s1 with owes := true, next := s1.next + i, early := dropN ea s1.next i } k2 blk2) ∧ Hid (Step [T.τ, ρ] w6 oj wr oi) ∧ Hid (MsgsAt wr oi ρ T.ε s1.next RA i rc vs ms) ∧ Hid (dlv ea 64 s1.next = ms ++ dlv ea (64 - i) (s1.next + i)) ∧
                  Hid (∀ bb, ea (s1.next + i) = some bb → Row wr oi (T.ε (s1.next + i)) 5 1 EA el ec (byts bb))) (fun s15 _ _ _ => match s15 with | .slice _ m _ => 64 - m | _ => 0)
              case atStart => exact ⟨0, oj, none, 0, [], [], EA, el, ec, by omega, rfl, rfl, rfl, HC6, Lib.hid (Step.refl _ _ _), Lib.hid (MsgsAt.nil_ _ _ _ _ _), Lib.hid rfl, HES6⟩
              case round => as_aux_lemma =>
                obtain ⟨i, oi, RA, rc, vs, ms, EA', el', ec', hi, rfl, rfl, rfl, HCi, HSi, HMi, HDi, HEi⟩ := hrel
                cases hx : ea (s1.next + i) with
                | none =>
                  have hnone : (none : Option (List UInt8)).isSome = false := rfl
                  have HD2 : Hid (dlv ea 64 s1.next = ms) := Lib.hid (by
                    rw [HDi.out, show dlv ea (64 - i) (s1.next + i) = [] by
                      cases h64 : 64 - i with
                      | zero => rfl
                      | succ q => rw [dlv, hx], List.append_nil])
                  have HR : Hid (recvS s xs = ({ s1 with owes := true, next := s1.next + i, early := dropN ea s1.next i }, ms, 0)) := Lib.hid (by
                    unfold recvS; simp only; rw [if_neg HNE.out, if_neg HQ.out, if_neg (by rw [← HCO.out]; simp), ← HS1.out]
                    have e1 : parseC s.next (recvP s.e xs).2.1.length (recvP s.e xs).2.1 = some (es.map IncV.pair) := by rw [← HN1.out.1]; exact HPR.out
                    rw [e1]
                    simp only
                    rw [← HN1.out.1, ← HN1.out.2, ← HEA.out, HD2.out, HMi.out.len])
                  clear hx
                  go_wp2_with fail
                  rw [HP.out, HR.out, ← HN1.out.1]
                  exact ⟨oi, RA, i, rc, vs, rfl, HST6.out.trans (HSi.out.mono (by simp)), ⟨k2, blk2, HCi.out⟩, HMi.out⟩
                | some bb =>
                  have hsome : (some bb : Option (List UInt8)).isSome = true := rfl
                  have hi64 : i < 64 := by
                    have := HEL.out (s1.next + i) (by rw [hx]; simp)
                    have : s1.next + i < s1.next + 64 := this
                    omega
                  have HBB := Lib.hid (HEi.out bb hx)
                  have HX := Lib.hid hx
                  clear hx HEi
                  obtain ⟨d0, d1, d2, d3, d4, d5, d6, d7, d8⟩ := HCi.out.cells
                  go_wp2_with fail
                  go_still_tail 9, (by kernel_rfl)
                  change wpList _ _ _ _ _ (World.drew wr)
                  have HC7 := Lib.hid (HCi.out.step (Step.refl [] wr oi).drew (by simp) (by simp) (by simp) (by simp))
                  have HM7 := Lib.hid (HMi.out.step (Step.refl [] wr oi).drew (by simp) (by simp))
                  have HB7 := Lib.hid (HBB.out.step (Step.refl [] wr oi).drew (by simp))
                  have HS7 := Lib.hid HSi.out.drew
                  generalize wr.drew = w7 at HC7 HM7 HB7 HS7 ⊢
                  clear d0 d1 d2 d3 d4 d5 d6 d7 d8 HCi HMi HBB HSi
                  obtain ⟨adr, cap, p1, p2⟩ := HC7.out.early.map
                  have HP1 := Lib.hid p1; have HP2 := Lib.hid p2; have HI9 := Lib.hid (i64_nat (n := s1.next + i) (by omega))
                  clear p1 p2
                  go_upto_region 27 with (at_delete; refine wpList_dropV _ rfl rfl _ _ 90 rfl _ Try.underlying90 _ _ _ rfl HP1.out _ rfl HI9.out ?_; intro w8 hm8 hg8 hz8; have HM8 := Lib.hid hm8; have HG8 := Lib.hid hg8; clear hm8 hg8 hz8)
                  have hdel := HC7.out.delearly HT.out HP2.out (n := s1.next + i) (by show s1.next + i < s1.next + i + 64; omega) HM8.out HG8.out
                  have HC8 : Hid (ChIs w8 oi T b { s1 with owes := true, next := s1.next + i, early := dropN ea s1.next (i + 1) } k2 blk2) := Lib.hid (by rw [dropN_succ]; exact hdel.1)
                  have HMs8 := Lib.hid (HM7.out.step hdel.2 (by simpa using h1) (by simpa using HT.out.e1))
                  have HB8 := Lib.hid (HB7.out.step hdel.2 (by simpa using HT.out.e1 _))
                  have HS8 := Lib.hid (HS7.out.trans (hdel.2.mono (ts' := [T.τ, ρ]) (by simp)))
                  clear hdel HM8 HG8 HP1 HP2 HI9 HC7 HM7 HB7 HS7
                  have st9 := (Step.refl [] w8 oi).alloc (.cells #[.slice EA' el' ec'] 41) T.σ
                  have HC9 := Lib.hid (HC8.out.step st9 (by simp) (by simp) (by simp) (by simp))
                  have HM9 := Lib.hid (HMs8.out.step st9 (by simp) (by simp))
                  have HB9 := Lib.hid (HB8.out.step st9 (by simp))
                  have HS9 := Lib.hid (HS8.out.trans st9.nil)
                  have hlit := Sl.fresh w8 41 1 1 [.slice EA' el' ec'] rfl (by decide)
                  have HLIT := Lib.hid hlit
                  clear st9 hlit HC8 HMs8 HB8 HS8
                  generalize ext oi w8.heap.size T.σ = o9 at HC9 HM9 HB9 HS9
                  go_upto_region 28 with (at_builtin; refine wpList_append_row _ rfl (.tmp 133) (.tmp 135) _ rfl el_bs o9 ρ RA i rc vs rfl HM9.out.row (fun _ => 0) 0 _ 1 1 _ rfl HLIT.out (by intro u hu; rw [List.mem_singleton.1 hu]; rfl) (by omega) (by unfold maxLen; omega) ?_; intro A9 c9 w9 hr9 hg9 _; have HR9 := Lib.hid hr9; have HG9 := Lib.hid hg9; clear hr9 hg9)
                  have st10 := (Step.refl [ρ] (w8.alloc (.cells #[.slice EA' el' ec'] 41)) o9).grown HG9.out (fun g hg => .inr (by
                    cases RA with
                    | none => simp [Value.ownBlock] at hg
                    | some ad =>
                      simp [Value.ownBlock] at hg
                      subst hg
                      simp [HM9.out.row.2 ad rfl])) ρ
                  have HC10 := Lib.hid (HC9.out.step st10 (by simpa using Ne.symm h1) (by simpa using Ne.symm h2) (by simpa using Ne.symm h3) (fun n _ => by simpa using H4.out n))
                  have HM10 := Lib.hid (HM9.out.more st10 H4.out HB9.out HR9.out)
                  have HS10 := Lib.hid (HS9.out.trans (st10.mono (ts' := [T.τ, ρ]) (by simp)))
                  clear st10 HC9 HM9 HB9 HS9 HR9 HG9 HLIT
                  generalize ext o9 (w8.alloc (.cells #[.slice EA' el' ec'] 41)).heap.size ρ = o10 at HC10 HM10 HS10
                  obtain ⟨d0, d1, d2, d3, d4, d5, d6, d7, d8⟩ := HC10.out.cells
                  have f2 := HC10.out.cb.frozen 2
                  have hset := HC10.out.setnext HT.out
                  have HSET := Lib.hid hset
                  clear hset
                  rw [show (((s1.next + i : Nat) : Int) + 1) = (s1.next : Int) + i + 1 by simp] at HSET
                  obtain ⟨nx, hnx⟩ : ∃ nx, nx = s1.next + (i + 1) := ⟨_, rfl⟩
                  have HC11 : Hid (ChIs (w9.setCell ⟨b, 2, none⟩ (.int .i64 ((s1.next : Int) + i + 1))) o10 T b { s1 with owes := true, next := nx, early := dropN ea s1.next (i + 1) } k2 blk2) := Lib.hid (by rw [hnx]; exact HSET.out.1)
                  have HM11 := Lib.hid (HM10.out.step HSET.out.2 (by simpa using h1) (by simpa using HT.out.e1))
                  have HS11 := Lib.hid (HS10.out.trans (HSET.out.2.mono (ts' := [T.τ, ρ]) (by simp)))
                  have hda : dropN ea s1.next (i + 1) nx = ea (s1.next + (i + 1)) := by rw [hnx]; exact dropN_at _ _ _
                  have hnx2 : nx ≤ 2000000000 := by omega
                  have HDA := Lib.hid hda; have HNX := Lib.hid hnx
                  clear HC10 HM10 HS10 hda hnx
                  go_upto_region 25 with fail
                  clear HSET d0 d1 d2 d3 d4 d5 d6 d7 d8 f2
                  generalize w9.setCell ⟨b, 2, none⟩ (.int .i64 ((s1.next : Int) + i + 1)) = w10 at HC11 HM11 HS11 ⊢
                  obtain ⟨d0, d1, d2, d3, d4, d5, d6, d7, d8⟩ := HC11.out.cells
                  obtain ⟨EA2, el2, ec2, hlk, hes⟩ := HC11.out.early.look (n := nx) (by omega)
                  have hlk2 : ∀ q, (Instr.lookup 90 (.map (some k2.me)) (.int .i64 (nx : Int)) true).run Try.prog (w10.drewN q) = .ok (.tuple #[.slice EA2 el2 ec2, .bool (ea (s1.next + (i + 1))).isSome]) (w10.drewN q) := fun q => by rw [← HDA.out]; exact hlk q
                  have hes2 : ∀ bb, ea (s1.next + (i + 1)) = some bb → Row w10 o10 (T.ε (s1.next + (i + 1))) 5 1 EA2 el2 ec2 (byts bb) := fun bb hb => by
                    have := hes bb (by show dropN ea s1.next (i + 1) nx = some bb; rw [HDA.out]; exact hb)
                    rw [HNX.out] at this; exact this
                  have HES2 := Lib.hid hes2
                  clear hlk hes hes2
                  go_wp2_with fail
                  go_quiet (fail)
                  have HC12 : Hid (ChIs (w10.drewN nq) o10 T b { s1 with owes := true, next := s1.next + (i + 1), early := dropN ea s1.next (i + 1) } k2 blk2) := Lib.hid (by rw [← HNX.out]; exact HC11.out.step ((Step.refl [] w10 o10).drewN nq) (by simp) (by simp) (by simp) (by simp))
                  have HM12 := Lib.hid (HM11.out.step ((Step.refl [] w10 o10).drewN nq) (by simp) (by simp))
                  have HS12 := Lib.hid (HS11.out.drewN nq)
                  have HE12 : Hid (∀ bb, ea (s1.next + (i + 1)) = some bb → Row (w10.drewN nq) o10 (T.ε (s1.next + (i + 1))) 5 1 EA2 el2 ec2 (byts bb)) := HES2
                  have HD12 : Hid (dlv ea 64 s1.next = (ms ++ [bb]) ++ dlv ea (64 - (i + 1)) (s1.next + (i + 1))) := Lib.hid (by
                    rw [HDi.out, show 64 - i = (64 - (i + 1)) + 1 by omega, dlv, HX.out, List.append_assoc]; rfl)
                  generalize w10.drewN nq = w11 at HC12 HM12 HS12 HE12 ⊢
                  clear d0 d1 d2 d3 d4 d5 d6 d7 d8 hlk2 HC11 HM11 HS11 HES2
                  go_wp2_with fail
                  go_roundw
                  case rel => exact ⟨i + 1, o10, A9, c9, _, _, EA2, el2, ec2, by omega, rfl, rfl, rfl, HC12, HS12, HM12, HD12, HE12⟩
                  case measure => show 64 - (i + 1) < 64 - i; omega
      · have hcd : (code == 0) = false := by simpa using hc0
        have hcd2 : (code != 0) = true := by simpa using hc0
        have HR : Hid (recvS s xs = ({ s1 with owes := true }, [], code)) := Lib.hid (by
          unfold recvS; simp only; rw [if_neg HNE.out, if_neg (by rw [← HCO.out]; exact fun h => hc0 h.1), if_pos (by rw [← HCO.out]; exact hc0), ← HS1.out, ← HCO.out])
        clear hc0 hq
        go_wp2_with fail
        rw [HP.out, HR.out]
        exact ⟨o2, none, 0, 0, [], rfl, HST3.out, ⟨k2, blk2, HC3.out⟩, MsgsAt.nil_ _ _ _ _ _⟩
end Go.Proofs.Ythjjipcbpmdfnaa
