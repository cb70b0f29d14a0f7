/-
  WALKS of (*End).acknowledged and (*End).Receive.
-/
import Derived.Test.YthjjipcbpmdfnaaPackD
namespace Go.Proofs.Ythjjipcbpmdfnaa
open Go.RowKit

/-- The blocks of the tag a get the tag b. -/
def retag (o : Own) (a b : Nat) : Own := fun k => if o k = a then b else o k

theorem Step.retag {ts : List Nat} {w w' : World} {o o' : Own} {a : Nat} (h : Step (a :: ts) w o w' o') (hf : ∀ k, k < w.heap.size → o k ≠ a) (b : Nat) : Step ts w o w' (retag o' a b) :=
  ⟨h.os, h.tape, h.output, h.size, fun k hk => by simp only [Go.Proofs.Ythjjipcbpmdfnaa.retag, h.own k hk, if_neg (hf k hk)], fun k hk hn => h.block k hk (fun hm => by
    rcases List.mem_cons.1 hm with e | e
    · exact hf k hk e
    · exact hn e)⟩
theorem Row.retag {w : World} {o : Own} {a e sz n c : Nat} {A : Option Addr} {xs : List Value} (h : Row w o a e sz A n c xs) (b : Nat) : Row w (retag o a b) b e sz A n c xs :=
  ⟨h.1, fun ad ha => by simp only [Go.Proofs.Ythjjipcbpmdfnaa.retag, h.2 ad ha, if_true]⟩
theorem Row.retag_other {w : World} {o : Own} {t e sz n c : Nat} {A : Option Addr} {xs : List Value} (h : Row w o t e sz A n c xs) {a : Nat} (hne : t ≠ a) (b : Nat) : Row w (Go.Proofs.Ythjjipcbpmdfnaa.retag o a b) t e sz A n c xs :=
  ⟨h.1, fun ad ha => by simp only [Go.Proofs.Ythjjipcbpmdfnaa.retag, h.2 ad ha, if_neg hne]⟩

theorem ackR_snoc (ack : Int) (mask : Nat) (l : List Int) (n : Int) : ackR ack mask (l ++ [n]) = ackR ack mask l ++ (if named ack mask n then [(n, true)] else if n < ack - 32 then [(n, false)] else []) := by
  induction l with
  | nil => simp only [List.nil_append, ackR]
  | cons a l ih => simp only [List.cons_append, ackR, ih]; (repeat' split) <;> simp
theorem ackL_snoc (ack : Int) (mask : Nat) (l : List Int) (n : Int) : ackL ack mask (l ++ [n]) = ackL ack mask l ++ (if named ack mask n then [] else if n < ack - 32 then [] else [n]) := by
  induction l with
  | nil => simp only [List.nil_append, ackL]
  | cons a l ih => simp only [List.cons_append, ackL, ih]; (repeat' split) <;> simp
theorem ackR_len (ack : Int) (mask : Nat) (l : List Int) : (ackR ack mask l).length ≤ l.length := by
  induction l with
  | nil => simp [ackR]
  | cons a l ih => simp only [ackR]; (repeat' split) <;> simp <;> omega
theorem ackL_len (ack : Int) (mask : Nat) (l : List Int) : (ackL ack mask l).length ≤ l.length := by
  induction l with
  | nil => simp [ackL]
  | cons a l ih => simp only [ackL]; (repeat' split) <;> simp <;> omega

/-- The state of the loop of 'acknowledged'. -/
def AckRel (w : World) (o : Own) (l1 s1 : Nat) (ack : Int) (mask : Nat) (P : List Int) (v7 v8 : Value) (wr : World) : Prop :=
  ∃ o' OA on oc LA ln lc, v7 = .slice OA on oc ∧ v8 = .slice LA ln lc ∧ Step [l1, s1] w o wr o' ∧ Row wr o' s1 140 2 OA on oc (reps (ackR ack mask P)) ∧ Row wr o' l1 3 1 LA ln lc (ints (ackL ack mask P))

theorem AckRel.out_ {w wr w1 : World} {o o1 : Own} {l1 s1 on oc ln lc c' : Nat} {ack : Int} {mask : Nat} {P P' : List Int} {OA LA A' : Option Addr} {x : Int} {v : Bool} (hne : l1 ≠ s1) (hst : Step [l1, s1] w o wr o1) (hro : Row wr o1 s1 140 2 OA on oc (reps (ackR ack mask P)))
    (hrl : Row wr o1 l1 3 1 LA ln lc (ints (ackL ack mask P)))
    (hR : Row w1 (ext (ext o1 wr.heap.size s1) (wr.alloc (.cells #[.int .i64 x, .bool v] 140)).heap.size s1) s1 140 2 A' (on + 1) c' (reps (ackR ack mask P) ++ [.int .i64 x, .bool v]))
    (hg : (wr.alloc (.cells #[.int .i64 x, .bool v] 140)).grownBy w1 (Value.slice OA on oc).ownBlock) (hr' : ackR ack mask P' = ackR ack mask P ++ [(x, v)]) (hl' : ackL ack mask P' = ackL ack mask P ++ []) :
    AckRel w o l1 s1 ack mask P' (.slice A' (on + 1) c') (.slice LA ln lc) w1 := by
  have hr1 := hro.step ((Step.refl [] wr o1).alloc (.cells #[.int .i64 x, .bool v] 140) s1) (by simp)
  have h2 := Step.append hr1 hg s1
  refine ⟨_, A', on + 1, c', LA, ln, lc, rfl, rfl, (hst.alloc _ s1).trans (h2.mono (by simp)), ?_, ?_⟩
  · rw [hr']; simpa [reps] using hR
  · rw [hl', List.append_nil]; exact (hrl.step ((Step.refl [] wr o1).alloc (.cells #[.int .i64 x, .bool v] 140) s1) (by simp)).step h2 (by simpa using hne)

theorem AckRel.left_ {w wr w1 : World} {o o1 : Own} {l1 s1 on oc ln lc c' : Nat} {ack : Int} {mask : Nat} {P P' : List Int} {OA LA A' : Option Addr} {x : Int} (hne : l1 ≠ s1) (hst : Step [l1, s1] w o wr o1) (hro : Row wr o1 s1 140 2 OA on oc (reps (ackR ack mask P)))
    (hrl : Row wr o1 l1 3 1 LA ln lc (ints (ackL ack mask P)))
    (hR : Row w1 (ext (ext o1 wr.heap.size l1) (wr.alloc (.cells #[.int .i64 x] 3)).heap.size l1) l1 3 1 A' (ln + 1) c' (ints (ackL ack mask P) ++ [.int .i64 x]))
    (hg : (wr.alloc (.cells #[.int .i64 x] 3)).grownBy w1 (Value.slice LA ln lc).ownBlock) (hr' : ackR ack mask P' = ackR ack mask P ++ []) (hl' : ackL ack mask P' = ackL ack mask P ++ [x]) :
    AckRel w o l1 s1 ack mask P' (.slice OA on oc) (.slice A' (ln + 1) c') w1 := by
  have hr1 := hrl.step ((Step.refl [] wr o1).alloc (.cells #[.int .i64 x] 3) l1) (by simp)
  have h2 := Step.append hr1 hg l1
  refine ⟨_, OA, on, oc, A', ln + 1, c', rfl, rfl, (hst.alloc _ l1).trans (h2.mono (by simp)), ?_, ?_⟩
  · rw [hr', List.append_nil]; exact (hro.step ((Step.refl [] wr o1).alloc (.cells #[.int .i64 x] 3) l1) (by simp)).step h2 (by simpa using Ne.symm hne)
  · rw [hl']; simpa [ints] using hR

set_option maxRecDepth 100000 in
set_option maxHeartbeats 1000000 in
theorem ack_walk (w : World) (o : Own) (τ l1 s1 b : Nat) (s : EndS) (hE : EndAt w o τ b s) (hs : s.Fit) (hl1 : ∀ k, k < w.heap.size → o k ≠ l1) (hs1 : ∀ k, k < w.heap.size → o k ≠ s1) (hne : l1 ≠ s1)
    (ack : Int) (mask p q : Nat) (hp : w.cell? ⟨p, 0, none⟩ = some (.int .i64 ack)) (hq : w.cell? ⟨q, 0, none⟩ = some (.int .u64 mask)) (ha0 : -1000000 ≤ ack) (ha1 : ack ≤ 4000000000000) (hm : mask < 4294967296) :
    Calls Try.prog 69 #[.pointer (some ⟨b, 0, none⟩), .int .i64 ack, .func (.func 82) #[] #[.pointer (some ⟨p, 0, none⟩), .pointer (some ⟨q, 0, none⟩)]] w fun e w' =>
      ∃ w1 OA on oc LA ln lc o', e = .returned (.slice OA on oc) ∧ Step [l1, s1] w o w1 o' ∧ Row w1 o' s1 140 2 OA on oc (reps (ackR ack mask s.pend)) ∧ Row w1 o' l1 3 1 LA ln lc (ints (ackL ack mask s.pend)) ∧
        w1.setCell ⟨b, 6, none⟩ (.slice LA ln lc) = w' := by
  obtain ⟨A, m, cc, hb, ho, hr⟩ := hE
  obtain ⟨h0, h1, h2, h3, h4, h5, h6⟩ := endCell hb
  have hml : m = s.pend.length := by have := hr.len; simpa using this.symm
  have bm : m ≤ 256 := by rw [hml]; exact hs.len
  have hold : ∀ wr o', Step [l1, s1] w o wr o' → ∀ g, g < w.heap.size → wr.heap[g]? = w.heap[g]? := fun wr o' h g hg => h.block g hg (by simp [hl1 g hg, hs1 g hg])
  have HM := Lib.hid hml; have HB := Lib.hid hb; have HR := Lib.hid hr; have HOLD := Lib.hid hold; have HP := Lib.hid hp; have HQ := Lib.hid hq; have HS := Lib.hid hs
  have q0 := hs.own0; have q1 := hs.next1
  clear hml hb hr hold hp hq ho hl1 hs1 hs
  go_enter Try.func69, Try.ntmps69
  go_wp2_with fail
  go_loopw [7, 8, 16] (fun v7 v8 i wr => ∃ k : Nat, k ≤ m ∧ i = .int .i64 k ∧ AckRel w o l1 s1 ack mask (s.pend.take k) v7 v8 wr) (fun _ _ i _ => m - (intOf i).toNat)
  case atStart => exact ⟨0, Nat.zero_le _, rfl, o, none, 0, 0, none, 0, 0, rfl, rfl, Step.refl _ _ _, Row.nil_ _ _ _ _ _, Row.nil_ _ _ _ _ _⟩
  case round =>
    obtain ⟨k, hk, rfl, o1, OA, on, oc, LA, ln, lc, rfl, rfl, hst, hro, hrl⟩ := hrel
    have bon : on ≤ 256 := by
      have h1 := hro.len; rw [len_reps] at h1
      have h2 := ackR_len ack mask (s.pend.take k); simp at h2; have := HM.out; omega
    have bln : ln ≤ 256 := by
      have h1 := hrl.len; simp at h1
      have h2 := ackL_len ack mask (s.pend.take k); simp at h2; have := HM.out; omega
    by_cases hlt : k < m
    · obtain ⟨g, hA, _, hc, _⟩ := HR.out.at_ hlt
      subst hA
      have hkl : k < s.pend.length := by have := HM.out; omega
      have hcell : wr.cell? ⟨g, k, none⟩ = some (.int .i64 s.pend[k]) := by
        rw [World.cell?_of_block (w := w) (a := ⟨g, k, none⟩) (HOLD.out wr o1 hst g (HR.out.lt rfl)), hc]
        simp [hkl]
      obtain ⟨x, hx⟩ : ∃ x, x = s.pend[k] := ⟨_, rfl⟩
      rw [← hx] at hcell
      have hmem := HS.out.mem s.pend[k] (List.getElem_mem hkl)
      rw [← hx] at hmem
      obtain ⟨bx0, bx1⟩ := hmem
      have hpw : wr.cell? ⟨p, 0, none⟩ = some (.int .i64 ack) := (World.cell?_of_block (w := w) (a := ⟨p, 0, none⟩) (HOLD.out wr o1 hst p (World.block_lt_of_cell? w ⟨p, 0, none⟩ HP.out))).trans HP.out
      have hqw : wr.cell? ⟨q, 0, none⟩ = some (.int .u64 mask) := (World.cell?_of_block (w := w) (a := ⟨q, 0, none⟩) (HOLD.out wr o1 hst q (World.block_lt_of_cell? w ⟨q, 0, none⟩ HQ.out))).trans HQ.out
      have hcl := is_any x ack mask p q wr hpw hqw ha0 ha1 (by omega) (by omega) hm
      have hsn : s.pend.take (k + 1) = s.pend.take k ++ [x] := by rw [List.take_succ_eq_append_getElem hkl, hx]
      have hsr := ackR_snoc ack mask (s.pend.take k) x
      have hsl := ackL_snoc ack mask (s.pend.take k) x
      rw [← hsn] at hsr hsl
      have HST := Lib.hid hst; have HRO := Lib.hid hro; have HRL := Lib.hid hrl; have HSR := Lib.hid hsr; have HSL := Lib.hid hsl
      clear hst hro hrl hsr hsl hsn hx hpw hqw hc
      cases hN : named ack mask x with
      | true =>
        rw [hN] at hcl
        have HCL := Lib.hid hcl; have HN := Lib.hid hN; clear hcl hN
        have hr1 := HRO.out.step ((Step.refl [] wr o1).alloc (.cells #[.int .i64 x, .bool true] 140) s1) (by simp)
        have hs1 := (Row.made (w := wr) o1 s1 140 2 #[.int .i64 x, .bool true] 1 rfl (by decide) 1 (Nat.le_refl _)).sl
        have HR1 := Lib.hid hr1; have HS1 := Lib.hid hs1; clear hr1 hs1
        go_wp2_with (first
          | (go_at_call 82; refine HCL.out.mono ?_; rintro e w' ⟨rfl, rfl⟩)
          | (at_builtin; refine wpList_append_row _ rfl (.tmp 28) (.tmp 31) _ rfl el_rep _ s1 OA on oc _ rfl HR1.out _ s1 _ 1 1 [.int .i64 x, .bool true] rfl HS1.out (by simp [Value.oneCell']) (by omega) (by simp only [maxLen]; omega) ?_; intro A' c' w1 hR1 hg hat; have HR2 := Lib.hid hR1; have HG := Lib.hid hg; clear hR1 hg hat))
        go_roundw
        case rel =>
          exact ⟨k + 1, by omega, by go_num, AckRel.out_ hne HST.out HRO.out HRL.out HR2.out HG.out (by rw [HSR.out, HN.out, if_pos rfl]) (by rw [HSL.out, HN.out, if_pos rfl])⟩
        case measure => simp [intOf]; omega
      | false =>
        rw [hN] at hcl
        have HCL := Lib.hid hcl; have HN := Lib.hid hN; clear hcl hN
        by_cases hold : x < ack - 32
        · have hr1 := HRO.out.step ((Step.refl [] wr o1).alloc (.cells #[.int .i64 x, .bool false] 140) s1) (by simp)
          have hs1 := (Row.made (w := wr) o1 s1 140 2 #[.int .i64 x, .bool false] 1 rfl (by decide) 1 (Nat.le_refl _)).sl
          have HR1 := Lib.hid hr1; have HS1 := Lib.hid hs1; clear hr1 hs1
          go_wp2_with (first
            | (go_at_call 82; refine HCL.out.mono ?_; rintro e w' ⟨rfl, rfl⟩)
            | (at_builtin; refine wpList_append_row _ rfl (.tmp 38) (.tmp 41) _ rfl el_rep _ s1 OA on oc _ rfl HR1.out _ s1 _ 1 1 [.int .i64 x, .bool false] rfl HS1.out (by simp [Value.oneCell']) (by omega) (by simp only [maxLen]; omega) ?_; intro A' c' w1 hR1 hg hat; have HR2 := Lib.hid hR1; have HG := Lib.hid hg; clear hR1 hg hat))
          go_roundw
          case rel =>
            exact ⟨k + 1, by omega, by go_num, AckRel.out_ hne HST.out HRO.out HRL.out HR2.out HG.out (by rw [HSR.out, HN.out, if_neg (by simp), if_pos hold]) (by rw [HSL.out, HN.out, if_neg (by simp), if_pos hold])⟩
          case measure => simp [intOf]; omega
        · have hr1 := HRL.out.step ((Step.refl [] wr o1).alloc (.cells #[.int .i64 x] 3) l1) (by simp)
          have hs1 := (Row.made (w := wr) o1 l1 3 1 #[.int .i64 x] 1 rfl (by decide) 1 (Nat.le_refl _)).sl
          have HR1 := Lib.hid hr1; have HS1 := Lib.hid hs1; clear hr1 hs1
          go_wp2_with (first
            | (go_at_call 82; refine HCL.out.mono ?_; rintro e w' ⟨rfl, rfl⟩)
            | (at_builtin; refine wpList_append_row _ rfl (.tmp 20) (.tmp 22) _ rfl el_int _ l1 LA ln lc _ rfl HR1.out _ l1 _ 1 1 [.int .i64 x] rfl HS1.out (by simp [Value.oneCell']) (by omega) (by simp only [maxLen]; omega) ?_; intro A' c' w1 hR1 hg hat; have HR2 := Lib.hid hR1; have HG := Lib.hid hg; clear hR1 hg hat))
          go_roundw
          case rel =>
            exact ⟨k + 1, by omega, by go_num, AckRel.left_ hne HST.out HRO.out HRL.out HR2.out HG.out (by rw [HSR.out, HN.out, if_neg (by simp), if_neg (by omega)]) (by rw [HSL.out, HN.out, if_neg (by simp), if_neg (by omega)])⟩
          case measure => simp [intOf]; omega
    · have hkm : k = m := by omega
      subst hkm
      have htk : s.pend.take k = s.pend := List.take_of_length_le (by have := HM.out; omega)
      rw [htk] at hro hrl
      have hbw : Blk wr b 136 (endCells s A k cc) := (HOLD.out wr o1 hst b HB.out.lt).trans HB.out
      have c6 := hbw.cell 6
      have c6f := hbw.frozen 6
      simp only [endCells, List.getElem?_toArray, List.getElem?_cons_zero, List.getElem?_cons_succ] at c6
      have HST := Lib.hid hst; have HRO := Lib.hid hro; have HRL := Lib.hid hrl
      clear hst hro hrl hbw htk
      go_wp2_with fail
      go_ret
      exact ⟨wr, OA, on, oc, LA, ln, lc, o1, rfl, HST.out, HRO.out, HRL.out, rfl⟩

/-- 'acknowledged'. -/
theorem acknowledged_any (w : World) (o : Own) (τ σ b : Nat) (s : EndS) (hE : EndAt w o τ b s) (hs : s.Fit)
    (ack : Int) (mask p q : Nat) (hp : w.cell? ⟨p, 0, none⟩ = some (.int .i64 ack)) (hq : w.cell? ⟨q, 0, none⟩ = some (.int .u64 mask)) (ha0 : -1000000 ≤ ack) (ha1 : ack ≤ 4000000000000) (hm : mask < 4294967296) :
    Calls Try.prog 69 #[.pointer (some ⟨b, 0, none⟩), .int .i64 ack, .func (.func 82) #[] #[.pointer (some ⟨p, 0, none⟩), .pointer (some ⟨q, 0, none⟩)]] w fun e w' =>
      ∃ OA oc o', e = .returned (.slice OA (ackR ack mask s.pend).length oc) ∧ Step [τ] w o w' o' ∧ EndAt w' o' τ b { s with pend := ackL ack mask s.pend } ∧ Row w' o' σ 140 2 OA (ackR ack mask s.pend).length oc (reps (ackR ack mask s.pend)) := by
  obtain ⟨l1, hl1, hl2⟩ := fresh_tag w o [τ, σ]
  obtain ⟨s1, hs1, hs2⟩ := fresh_tag w o [τ, σ, l1]
  simp only [List.mem_cons, List.not_mem_nil, or_false, not_or] at hl2 hs2
  refine (ack_walk w o τ l1 s1 b s hE hs hl1 hs1 (Ne.symm hs2.2.2) ack mask p q hp hq ha0 ha1 hm).mono ?_
  rintro e w' ⟨w1, OA, on, oc, LA, ln, lc, o1, rfl, hst, hro, hrl, rfl⟩
  obtain ⟨A, m, cc, hb, ho, hr⟩ := hE
  have hb1 : Blk w1 b 136 (endCells s A m cc) := hb.step hst (by simp [hl1 b hb.lt, hs1 b hb.lt])
  have hn : on = (ackR ack mask s.pend).length := by have := hro.len; rw [len_reps] at this; omega
  subst hn
  have hst1 : Step [] w o w1 (retag (retag o1 l1 τ) s1 σ) := by
    have := (hst.retag hl1 τ)
    exact this.retag hs1 σ
  have hob : retag (retag o1 l1 τ) s1 σ b = τ := by rw [hst1.own b hb.lt]; exact ho
  have hst2 := (hst1.nil (ts := [τ])).setCell (p := ⟨b, 6, none⟩) (.inr (List.mem_singleton.2 hob)) (.slice LA ln lc)
  have hrl1 : Row w1 (retag (retag o1 l1 τ) s1 σ) τ 3 1 LA ln lc (ints (ackL ack mask s.pend)) := (hrl.retag τ).retag_other (Ne.symm hs2.1) σ
  have hro1 : Row w1 (retag (retag o1 l1 τ) s1 σ) σ 140 2 OA (ackR ack mask s.pend).length oc (reps (ackR ack mask s.pend)) := (hro.retag_other hs2.2.2 τ).retag σ
  refine ⟨OA, oc, _, rfl, hst2, ⟨LA, ln, lc, hb1.set_ 6 _, hob, hrl1.setCell_far (hrl1.ne_blk hb1 (by decide)) _⟩, hro1.setCell_far (hro1.ne_blk hb1 (by decide)) _⟩
end Go.Proofs.Ythjjipcbpmdfnaa
