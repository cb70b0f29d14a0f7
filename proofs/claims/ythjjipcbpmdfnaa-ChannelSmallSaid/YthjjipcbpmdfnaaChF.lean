/-
  WALK of (*Channel).decide.
-/
import Derived.Test.YthjjipcbpmdfnaaChE
namespace Go.Proofs.Ythjjipcbpmdfnaa
open Go.RowKit

/-- What a Channel becomes while reports are entered. -/
structure DecAt (w W : World) (o o' : Own) (T : ChT) (b : Nat) (s : ChS) (k : ChB) (blk : Nat → Nat) (out : Nat → Option OutM) (pk : Int → Option (List Nat)) : Prop where
  ch : ChIs W o' T b { s with out := out, packets := pk } k blk
  st : Step [T.τ] w o W o'
  p : ∀ i l, pk i = some l → s.packets i = some l
  q : ∀ n, out n ≠ none → s.out n ≠ none
  m : ∀ n x, out n = some x → ∃ y, s.out n = some y ∧ x.b = y.b ∧ x.tick = y.tick ∧ (x.packet = y.packet ∨ x.packet = -1)
theorem DecAt.step {w W W' : World} {o o' o2 : Own} {T : ChT} {b : Nat} {s : ChS} {k : ChB} {blk : Nat → Nat} {out : Nat → Option OutM} {pk : Int → Option (List Nat)} (h : DecAt w W o o' T b s k blk out pk) (hs : Step [] W o' W' o2) : DecAt w W' o o2 T b s k blk out pk :=
  ⟨h.ch.step hs (by simp) (by simp) (by simp) (by simp), h.st.trans hs.nil, h.p, h.q, h.m⟩
theorem dec1_none {r : Int × Bool} {out : Nat → Option OutM} {n : Nat} (h : out n = none) : dec1 r out n = out := by simp [dec1, h]
theorem dec1_ack {num : Int} {out : Nat → Option OutM} {n : Nat} {x : OutM} (h : out n = some x) : dec1 (num, true) out n = updN out n none := by simp [dec1, h]
theorem dec1_is {num : Int} {out : Nat → Option OutM} {n : Nat} {x : OutM} (h : out n = some x) (e : x.packet = num) : dec1 (num, false) out n = updN out n (some { x with packet := -1 }) := by simp [dec1, h, e]
theorem dec1_not {num : Int} {out : Nat → Option OutM} {n : Nat} {x : OutM} (h : out n = some x) (e : x.packet ≠ num) : dec1 (num, false) out n = out := by simp [dec1, h, e]
theorem fold_take {α β : Type} (f : α → β → α) (a : α) {l : List β} {i : Nat} {x : β} (h : l[i]? = some x) : (l.take (i + 1)).foldl f a = f ((l.take i).foldl f a) x := by
  obtain ⟨hi, e⟩ := List.getElem?_eq_some_iff.1 h
  rw [List.take_succ_eq_append_getElem hi, List.foldl_append, e]; rfl
theorem Sl.i64_at {w : World} {o : Own} {τ n c : Nat} {A : Option Addr} {l : List Nat} (h : Sl w o τ 1 A n c (nats l)) {j x : Nat} (hx : l[j]? = some x) : ∃ g off, A = some ⟨g, off, none⟩ ∧ w.cell? ⟨g, off + j, none⟩ = some (.int .i64 (x : Int)) := by
  have hj := (List.getElem?_eq_some_iff.1 hx).1
  have hl := h.1
  simp at hl
  obtain ⟨g, off, hA, -, -, hc⟩ := h.2.2.2 (by omega)
  exact ⟨g, off, hA, hc j _ (by simp [hx])⟩
theorem reps_getC (l : List (Int × Bool)) (k : Nat) (x : Int) (b : Bool) (h : l[k]? = some (x, b)) : (reps l)[k * 2]? = some (.int .i64 x) ∧ (reps l)[k * 2 + 1]? = some (.bool b) := by
  induction l generalizing k with
  | nil => simp at h
  | cons r l ih =>
    cases k with
    | zero => simp at h; subst h; exact ⟨rfl, rfl⟩
    | succ k =>
      have := ih k (by simpa using h)
      rw [show (k + 1) * 2 = k * 2 + 1 + 1 by omega, show k * 2 + 1 + 1 + 1 = (k * 2 + 1) + 1 + 1 by omega]
      simpa [reps] using this

theorem Sl.rep_at {w : World} {o : Own} {τ n c : Nat} {A : Option Addr} {rs : List (Int × Bool)} (h : Sl w o τ 2 A n c (reps rs)) {i : Nat} {r : Int × Bool} (hr : rs[i]? = some r) : ∃ g off, A = some ⟨g, off, none⟩ ∧ w.cell? ⟨g, off + i * 2, none⟩ = some (.int .i64 r.1) ∧ w.cell? ⟨g, off + i * 2 + 1, none⟩ = some (.bool r.2) := by
  have hj := (List.getElem?_eq_some_iff.1 hr).1
  have hl := h.1
  rw [len_reps] at hl
  obtain ⟨g, off, hA, -, -, hc⟩ := h.2.2.2 (by omega)
  obtain ⟨k0, k1⟩ := reps_getC rs i r.1 r.2 hr
  exact ⟨g, off, hA, hc _ _ k0, by rw [Nat.add_assoc]; exact hc _ _ k1⟩

theorem adv_more {out : Nat → Option OutM} {sent f : Nat} (h : f < sent) (hx : out f = none) : adv out sent (sent - f) f = adv out sent (sent - (f + 1)) (f + 1) := by
  rw [show sent - f = (sent - (f + 1)) + 1 by omega, adv, if_pos ⟨h, hx⟩]
theorem adv_some {out : Nat → Option OutM} {sent k f : Nat} {x : OutM} (hx : out f = some x) : adv out sent k f = f := by
  cases k with
  | zero => rfl
  | succ k => rw [adv, if_neg (by rw [hx]; rintro ⟨-, h⟩; cases h)]
theorem adv_end {out : Nat → Option OutM} {sent k f : Nat} (h : sent ≤ f) : adv out sent k f = f := by
  cases k with
  | zero => rfl
  | succ k => rw [adv, if_neg (by omega)]
theorem OutAt.lookq {w : World} {o : Own} {τ σ m sent : Nat} {blk : Nat → Nat} {out : Nat → Option OutM} (h : OutAt w o τ σ m sent blk out) {n : Nat} (hn : n ≤ 4000000000) (q : Nat) :
    (Instr.lookup 89 (.map (some m)) (.int .i64 (n : Int)) false).run Try.prog (w.drewN q) = .ok (match out n with | none => .pointer none | some _ => .pointer (some ⟨blk n, 0, none⟩)) (w.drewN q) :=
  (h.step ((Step.refl [] w o).drewN q) (by simp) (by simp)).look hn
/-- 'c.packets[n]', in every world that draws come to. -/
theorem PackAt.look {w : World} {o : Own} {τ σ m : Nat} {K : Int} {pk : Int → Option (List Nat)} (h : PackAt w o τ σ m K pk) {num : Int} (hn : I64 num) :
    ∃ LA ln lc, (∀ q, (Instr.lookup 91 (.map (some m)) (.int .i64 num) false).run Try.prog (w.drewN q) = .ok (.slice LA ln lc) (w.drewN q)) ∧ Sl w o σ 1 LA ln lc (nats ((pk num).getD [])) := by
  obtain ⟨adr, cap, cnt, q1, -, q3⟩ := h.map
  cases hx : pk num with
  | none => exact ⟨none, 0, 0, fun q => (q1.drewN q).look_none Try.underlying91 (zeroL _) hn (by unfold packF; rw [hx]; rfl), Sl.nil_ _ _ _ _ _ _ (Nat.zero_le _)⟩
  | some l => exact ⟨_, _, _, fun q => (q1.drewN q).look_some Try.underlying91 (zeroL _) hn (by unfold packF; rw [hx]; rfl), q3 num l hx⟩

set_option maxRecDepth 100000 in
set_option maxHeartbeats 1000000 in
theorem decide_any {w : World} {o : Own} {T : ChT} {b : Nat} {s : ChS} (h : ChAt w o T b s) (hs : s.Fit) (hT : T.Ok) (τr : Nat) (hτr : τr ≠ T.τ) (RA : Option Addr) (n c : Nat) (rs : List (Int × Bool)) (hR : Sl w o τr 2 RA n c (reps rs)) (hI : ∀ r ∈ rs, I64 r.1) :
    Calls Try.prog 47 #[.pointer (some ⟨b, 0, none⟩), .slice RA n c] w fun e w' => ∃ o', e = .returned (.tuple #[]) ∧ Step [T.τ] w o w' o' ∧ ChAt w' o' T b (decS s rs) := by
  obtain ⟨k, blk, h⟩ := h
  have hnl : rs.length = n := by have := hR.1; rw [len_reps] at this; omega
  have hnc : n ≤ 9223372036854775807 := by have h1 := hR.2.1; have h2 := hR.2.2.1; unfold maxLen at h2; omega
  have HC := Lib.hid h; have HF := Lib.hid hs; have HR := Lib.hid hR; have HNL := Lib.hid hnl; have HI := Lib.hid hI; have HT := Lib.hid hT
  clear h hs hR hnl hI hT
  go_enter Try.func47, Try.ntmps47
  go_wp2_with fail
  go_loopw [11] (fun i wr => ∃ (i' : Nat) (oi : Own) (out : Nat → Option OutM) (pk : Int → Option (List Nat)), i' ≤ n ∧ i = .int .i64 i' ∧ Hid (DecAt w wr o oi T b s k blk out pk) ∧ Hid ((rs.take i').foldl decR s = { s with out := out, packets := pk })) (fun i _ => n - (intOf i).toNat)
  case atStart => exact ⟨0, o, s.out, s.packets, Nat.zero_le _, rfl, Lib.hid ⟨HC.out, Step.refl _ _ _, fun _ _ h => h, fun _ h => h, fun n x h => ⟨x, h, rfl, rfl, .inl rfl⟩⟩, Lib.hid rfl⟩
  case round => as_aux_lemma =>
    obtain ⟨i, oi, out, pk, hi, rfl, HD, HE⟩ := hrel
    by_cases hlt : i < n
    · have hd : decide ((i : Int) < (n : Int)) = true := by simp; omega
      obtain ⟨⟨num, ack⟩, hr⟩ : ∃ r, rs[i]? = some r := ⟨_, List.getElem?_eq_getElem (by have := HNL.out; omega)⟩
      obtain ⟨g, off, rfl, r0, r1⟩ := (HR.out.step HD.out.st (by simpa using hτr)).rep_at hr
      have HRI := Lib.hid hr
      clear hr
      go_upto_region 3 with fail
      obtain ⟨w1, hw1⟩ : ∃ w1, w1 = wr.alloc (.cells #[.int .i64 num, .bool ack] 140) := ⟨_, rfl⟩
      have hbR : Blk w1 wr.heap.size 140 #[.int .i64 num, .bool ack] := by rw [hw1]; exact Blk.new _ _ _
      have hs1 : Step [] wr oi w1 (ext oi wr.heap.size T.σ) := by rw [hw1]; exact (Step.refl [] wr oi).alloc _ T.σ
      have hog : ext oi wr.heap.size T.σ wr.heap.size = T.σ := ext_ge (Nat.le_refl _)
      have hD1 := HD.out.step hs1
      rw [← hw1]
      clear hw1 r0 r1
      generalize wr.heap.size = gr at hbR hog hs1 hD1 ⊢
      generalize ext oi gr T.σ = o1 at hog hs1 hD1
      have hn64 : I64 num := HI.out _ (List.mem_of_getElem? HRI.out)
      obtain ⟨LA, ln, lc, hlk, hSl⟩ := hD1.ch.pack.look hn64
      obtain ⟨d0, d1, d2, d3, d4, d5, d6, d7, d8⟩ := hD1.ch.cells
      have b0 := hbR.cell 0
      simp only [List.getElem?_toArray, List.getElem?_cons_zero] at b0
      have HBR := Lib.hid hbR; have HOG := Lib.hid hog; have HD1 := Lib.hid hD1; have HSl := Lib.hid hSl; have HN64 := Lib.hid hn64
      clear hbR hog hs1 hD1 hSl hn64 HD
      go_wp2_with fail
      go_quiet (fail)
      have HD2 := Lib.hid (HD1.out.step ((Step.refl [] w1 o1).drewN nq))
      have HBR2 : Hid (Blk (w1.drewN nq) gr 140 #[.int .i64 num, .bool ack]) := HBR
      have HSl2 : Hid (Sl (w1.drewN nq) o1 T.σ 1 LA ln lc (nats ((pk num).getD []))) := HSl
      generalize w1.drewN nq = w2 at HD2 HBR2 HSl2 ⊢
      clear HD1 HBR HSl d0 d1 d2 d3 d4 d5 d6 d7 d8 b0 hlk
      obtain ⟨L, hL⟩ : ∃ L, L = (pk num).getD [] := ⟨_, rfl⟩
      rw [← hL] at HSl2
      have hLs : ∀ m ∈ L, m ≤ 1000000000 := by
        intro m hm
        rw [hL] at hm
        cases hp : pk num with
        | none => rw [hp] at hm; cases hm
        | some l =>
          rw [hp] at hm
          have h1 := (HF.out.pk num l (HD2.out.p num l hp)).2 m hm
          have h2 := HF.out.sl
          omega
      have hLn : ln ≤ 64 := by
        have h1 := HSl2.out.1
        simp at h1
        rw [← h1, hL]
        cases hp : pk num with
        | none => simp
        | some l => exact (HF.out.pk num l (HD2.out.p num l hp)).1
      have HL := Lib.hid hL; have HLS := Lib.hid hLs
      clear hL hLs
      go_wp2_with fail
      go_loopw [23] (fun i wr => ∃ (j : Nat) (oj : Own) (out' : Nat → Option OutM), j ≤ ln ∧ i = .int .i64 j ∧ Hid (DecAt w wr o oj T b s k blk out' pk) ∧ Hid (Step [T.τ] w2 o1 wr oj) ∧ Hid ((L.take j).foldl (dec1 (num, ack)) out = out')) (fun i _ => ln - (intOf i).toNat)
      case atStart => exact ⟨0, o1, out, Nat.zero_le _, rfl, HD2, Lib.hid (Step.refl _ _ _), Lib.hid rfl⟩
      case round => as_aux_lemma =>
        obtain ⟨j, oj, out', hj, rfl, HDj, HSj, HEj⟩ := hrel
        by_cases hlt2 : j < ln
        · have hd2 : decide ((j : Int) < (ln : Int)) = true := by simp; omega
          obtain ⟨m, hm⟩ : ∃ m, L[j]? = some m := ⟨_, List.getElem?_eq_getElem (by have h1 := HSl2.out.1; simp at h1; omega)⟩
          have hml := HLS.out m (List.mem_of_getElem? hm)
          obtain ⟨gl, ol, rfl, c0⟩ := (HSl2.out.step HSj.out (by simpa using HT.out.s1)).i64_at hm
          have hlk := HDj.out.ch.out.look (n := m) (by omega)
          obtain ⟨d0, d1, d2, d3, d4, d5, d6, d7, d8⟩ := HDj.out.ch.cells
          have hbr := HBR2.out.step HSj.out (by rw [HOG.out]; simpa using HT.out.s1)
          have b0 := hbr.cell 0; have b1 := hbr.cell 1
          simp only [List.getElem?_toArray, List.getElem?_cons_zero, List.getElem?_cons_succ] at b0 b1
          have HM := Lib.hid hm
          clear hm hbr
          cases hx : out' m with
          | none =>
            simp only [hx] at hlk
            have HEj2 : Hid ((L.take (j + 1)).foldl (dec1 (num, ack)) out = out') := Lib.hid (by rw [fold_take _ _ HM.out, HEj.out, dec1_none hx])
            clear hx
            go_wp2_with fail
            go_roundw
            case rel => exact ⟨j + 1, oj, out', by omega, by go_num, HDj, HSj, HEj2⟩
            case measure => simp [intOf]; omega
          | some x =>
            simp only [hx] at hlk
            obtain ⟨XA, xc, hB, ho, hS⟩ := HDj.out.ch.out.msg m x hx
            have m1 := hB.cell 1; have f1 := hB.frozen 1
            simp only [List.getElem?_toArray, List.getElem?_cons_zero, List.getElem?_cons_succ] at m1
            have HX := Lib.hid hx
            clear hx hB ho hS
            cases ack with
            | true =>
              have hi64 := i64_nat (n := m) (by omega)
              have HI64 := Lib.hid hi64
              clear hi64
              go_wp2_with (at_delete; refine wpList_dropV _ rfl rfl _ _ 89 rfl _ Try.underlying89 _ _ _ rfl HDj.out.ch.out.map _ rfl HI64.out ?_; intro w3 hm3 hg3 hz3; have HM3 := Lib.hid hm3; have HG3 := Lib.hid hg3; clear hm3 hg3 hz3)
              have hdel := HDj.out.ch.delmsg HT.out HX.out HM3.out HG3.out
              have HDk : Hid (DecAt w w3 o oj T b s k blk (updN out' m none) pk) := Lib.hid ⟨hdel.1, HDj.out.st.trans hdel.2, HDj.out.p, fun n' hn' => HDj.out.q n' (by simp only [updN] at hn'; split at hn'; (exact absurd rfl hn'); (exact hn')), fun n' y hy => HDj.out.m n' y (by simp only [updN] at hy; split at hy; (cases hy); (exact hy))⟩
              have HSk : Hid (Step [T.τ] w2 o1 w3 oj) := Lib.hid (HSj.out.trans hdel.2)
              have HEk : Hid ((L.take (j + 1)).foldl (dec1 (num, true)) out = updN out' m none) := Lib.hid (by rw [fold_take _ _ HM.out, HEj.out, dec1_ack HX.out])
              clear hdel HM3 HG3
              go_roundw
              case rel => exact ⟨j + 1, oj, _, by omega, by go_num, HDk, HSk, HEk⟩
              case measure => simp [intOf]; omega
            | false =>
              by_cases hpe : x.packet = num
              · have hpd : (x.packet == num) = true := by simpa using hpe
                go_wp2_with fail
                go_quiet (fail)
                have HDl := Lib.hid (HDj.out.step ((Step.refl [] wr oj).drewN nq))
                have HSl := Lib.hid (HSj.out.drewN nq)
                generalize wr.drewN nq = w5 at HDl HSl ⊢
                obtain ⟨XA5, xc5, hB5, -, -⟩ := HDl.out.ch.out.msg m x HX.out
                have f5 := hB5.frozen 1; have m5 := hB5.cell 1
                simp only [List.getElem?_toArray, List.getElem?_cons_zero, List.getElem?_cons_succ] at m5
                have hset := HDl.out.ch.setmsg HT.out HX.out 1 (.int .i64 (-1)) (x' := { x with packet := -1 }) rfl (fun A c => rfl)
                have HDk : Hid (DecAt w (w5.setCell ⟨blk m, 1, none⟩ (.int .i64 (-1))) o oj T b s k blk (updN out' m (some { x with packet := -1 })) pk) := Lib.hid ⟨hset.1, HDl.out.st.trans hset.2, HDl.out.p, fun n' hn' => HDl.out.q n' (by
                    simp only [updN] at hn'; split at hn'
                    · next e => rw [e, HX.out]; simp
                    · exact hn'), fun n' y hy => by
                    simp only [updN] at hy
                    split at hy
                    · next e =>
                      injection hy with hy; subst hy; subst e
                      obtain ⟨z, z1, z2, z3, -⟩ := HDl.out.m _ x HX.out
                      exact ⟨z, z1, z2, z3, .inr rfl⟩
                    · exact HDl.out.m n' y hy⟩
                have HSk : Hid (Step [T.τ] w2 o1 (w5.setCell ⟨blk m, 1, none⟩ (.int .i64 (-1))) oj) := Lib.hid (HSl.out.trans hset.2)
                have HEk : Hid ((L.take (j + 1)).foldl (dec1 (num, false)) out = updN out' m (some { x with packet := -1 })) := Lib.hid (by rw [fold_take _ _ HM.out, HEj.out, dec1_is HX.out hpe])
                clear hset hpe hB5 d0 d1 d2 d3 d4 d5 d6 d7 d8 m1 f1 c0 hlk b0 b1 HDl HSl
                go_wp2_with fail
                go_roundw
                case rel => exact ⟨j + 1, oj, _, by omega, by go_num, HDk, HSk, HEk⟩
                case measure => simp [intOf]; omega
              · have hpd : (x.packet == num) = false := by simpa using hpe
                have HEk : Hid ((L.take (j + 1)).foldl (dec1 (num, false)) out = out') := Lib.hid (by rw [fold_take _ _ HM.out, HEj.out, dec1_not HX.out hpe])
                clear hpe
                go_wp2_with fail
                go_quiet (fail)
                have HDk := Lib.hid (HDj.out.step ((Step.refl [] wr oj).drewN nq))
                have HSk : Hid (Step [T.τ] w2 o1 (wr.drewN nq) oj) := Lib.hid (HSj.out.drewN nq)
                go_wp2_with fail
                go_roundw
                case rel => exact ⟨j + 1, oj, _, by omega, by go_num, HDk, HSk, HEk⟩
                case measure => simp [intOf]; omega
        · have hd2 : decide ((j : Int) < (ln : Int)) = false := by simp; omega
          have hjl : L.take j = L := List.take_of_length_le (by have h1 := HSl2.out.1; simp at h1; omega)
          have HEj2 : Hid (L.foldl (dec1 (num, ack)) out = out') := Lib.hid (by have := HEj.out; rwa [hjl] at this)
          obtain ⟨w6, rfl⟩ : ∃ W, W = wr := ⟨_, rfl⟩
          obtain ⟨d0, d1, d2, d3, d4, d5, d6, d7, d8⟩ := HDj.out.ch.cells
          have hbr := HBR2.out.step HSj.out (by rw [HOG.out]; simpa using HT.out.s1)
          have b0 := hbr.cell 0
          simp only [List.getElem?_toArray, List.getElem?_cons_zero] at b0
          clear hjl HEj hbr
          go_wp2_with fail
          go_still_tail 6, (by kernel_rfl)
          change wpList _ _ _ _ _ (World.drew w6)
          have HD7 := Lib.hid (HDj.out.step (Step.refl [] w6 oj).drew)
          generalize w6.drew = w7 at HD7 ⊢
          obtain ⟨adr, cap, cnt, p1, p2, p3⟩ := HD7.out.ch.pack.map
          have HP1 := Lib.hid p1; have HP2 := Lib.hid p2; have HP3 := Lib.hid p3
          clear p1 p2 p3 d0 d1 d2 d3 d4 d5 d6 d7 d8 b0
          go_wp2_with (at_delete; refine wpList_dropV _ rfl rfl _ _ 91 rfl _ Try.underlying91 _ _ _ rfl HP1.out _ rfl HN64.out ?_; intro w8 hm8 hg8 hz8; have HM8 := Lib.hid hm8; have HG8 := Lib.hid hg8; clear hm8 hg8 hz8)
          have hdel := HD7.out.ch.delpack HT.out num HP2.out HP3.out HM8.out HG8.out
          have HDk : Hid (DecAt w w8 o oj T b s k blk out' (updI pk num none)) := Lib.hid ⟨hdel.1, HD7.out.st.trans hdel.2, fun n' l hl => HD7.out.p n' l (by simp only [updI] at hl; split at hl; (cases hl); (exact hl)), HD7.out.q, HD7.out.m⟩
          have HEk : Hid ((rs.take (i + 1)).foldl decR s = { s with out := out', packets := updI pk num none }) := Lib.hid (by
            rw [fold_take _ _ HRI.out, HE.out, ← HEj2.out, HL.out]; rfl)
          clear hdel HM8 HG8 HP1 HP2 HP3 HD7
          go_roundw
          case rel => exact ⟨i + 1, oj, out', _, by omega, by go_num, HDk, HEk⟩
          case measure => simp [intOf]; omega
    · have hd : decide ((i : Int) < (n : Int)) = false := by simp; omega
      have hil : rs.take i = rs := List.take_of_length_le (by have := HNL.out; omega)
      have HE2 : Hid (rs.foldl decR s = { s with out := out, packets := pk }) := Lib.hid (by have := HE.out; rwa [hil] at this)
      clear hil HE
      go_wp2_with fail
      have q1 := HF.out.fs; have q2 := HF.out.sl
      go_loopw [86] (fun _ wr => ∃ f : Nat, f ≤ s.sent ∧ Hid (ChIs wr oi T b { s with first := f, out := out, packets := pk } k blk) ∧ Hid (Step [T.τ] w o wr oi) ∧ Hid (adv out s.sent (s.sent - f) f = adv out s.sent (s.sent - s.first) s.first)) (fun _ wr => s.sent - (match wr.cell? ⟨b, 0, none⟩ with | some v => (intOf v).toNat | none => 0))
      case atStart => exact ⟨s.first, q1, Lib.hid HD.out.ch, Lib.hid HD.out.st, Lib.hid rfl⟩
      case round => as_aux_lemma =>
        obtain ⟨f, hf, HC3, HS3, HA3⟩ := hrel
        obtain ⟨d0, d1, d2, d3, d4, d5, d6, d7, d8⟩ := HC3.out.cells
        have hlk := HC3.out.out.lookq (n := f) (by omega)
        by_cases hlt3 : f < s.sent
        · have hd3 : decide ((f : Int) < (s.sent : Int)) = true := by simp; omega
          cases hx : out f with
          | none =>
            simp only [hx] at hlk
            have HA4 : Hid (adv out s.sent (s.sent - (f + 1)) (f + 1) = adv out s.sent (s.sent - s.first) s.first) := Lib.hid (by rw [← HA3.out, adv_more hlt3 hx])
            clear hx
            go_wp2_with fail
            go_quiet (fail)
            have HC4 := Lib.hid (HC3.out.step ((Step.refl [] wr oi).drewN nq) (by simp) (by simp) (by simp) (by simp))
            have HS4 := Lib.hid (HS3.out.drewN nq)
            generalize wr.drewN nq = w4 at HC4 HS4 ⊢
            clear hlk
            have e0 := HC4.out.cells.1; have f0 := HC4.out.cb.frozen 0
            have hset := HC4.out.set (s' := { s with first := f + 1, out := out, packets := pk }) HT.out 0 (.int .i64 ((f : Int) + 1)) rfl rfl rfl rfl rfl rfl rfl
            have HC5 := Lib.hid hset.1; have HS5 := Lib.hid (HS4.out.trans hset.2)
            clear hset
            go_wp2_with fail
            go_roundw
            case rel => exact ⟨f + 1, by omega, HC5, HS5, HA4⟩
            case measure =>
              have z0 : wr.cell? ⟨b, 0, none⟩ = some (.int .i64 (f : Int)) := HC3.out.cells.1
              have z1 : (w4.setCell ⟨b, 0, none⟩ (.int .i64 ((f : Int) + 1))).cell? ⟨b, 0, none⟩ = some (.int .i64 ((f + 1 : Nat) : Int)) := HC5.out.cells.1
              rw [z0, z1]
              simp only [intOf, Int.toNat_natCast]
              omega
          | some x =>
            simp only [hx] at hlk
            have HA4 : Hid (f = adv out s.sent (s.sent - s.first) s.first) := Lib.hid (by rw [← HA3.out, adv_some hx])
            clear hx
            go_wp2_with fail
            go_quiet (fail)
            have HC4 := Lib.hid (HC3.out.step ((Step.refl [] wr oi).drewN nq) (by simp) (by simp) (by simp) (by simp))
            have HS4 := Lib.hid (HS3.out.drewN nq)
            go_wp2_with fail
            go_end0
            refine ⟨oi, rfl, HS4.out, k, blk, ?_⟩
            have e : decS s rs = { s with first := f, out := out, packets := pk } := by unfold decS; simp only [HE2.out, HA4.out]
            rw [e]; exact HC4.out
        · have hd3 : decide ((f : Int) < (s.sent : Int)) = false := by simp; omega
          have HA4 : Hid (f = adv out s.sent (s.sent - s.first) s.first) := Lib.hid (by rw [← HA3.out, adv_end (by omega)])
          clear hlk
          go_wp2_with fail
          go_quiet (fail)
          have HC4 := Lib.hid (HC3.out.step ((Step.refl [] wr oi).drewN nq) (by simp) (by simp) (by simp) (by simp))
          have HS4 := Lib.hid (HS3.out.drewN nq)
          go_wp2_with fail
          go_end0
          refine ⟨oi, rfl, HS4.out, k, blk, ?_⟩
          have e : decS s rs = { s with first := f, out := out, packets := pk } := by unfold decS; simp only [HE2.out, HA4.out]
          rw [e]; exact HC4.out
end Go.Proofs.Ythjjipcbpmdfnaa
