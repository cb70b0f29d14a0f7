/-
  WALK of (*Channel).Send.
-/
import Derived.Test.YthjjipcbpmdfnaaChH
namespace Go.Proofs.Ythjjipcbpmdfnaa
open Go.RowKit

/-- What Send comes to. -/
structure SendTo (w : World) (o : Own) (T : ChT) (b : Nat) (R : ChS × Int) (e : Ending) (w' : World) : Prop where
  out : ∃ o', e = .returned (.int .i64 R.2) ∧ Step [T.τ] w o w' o' ∧ ChAt w' o' T b R.1

/-- A message is entered into the map. -/
theorem ChIs.putmsg {w w' : World} {o : Own} {T : ChT} {b : Nat} {s : ChS} {k : ChB} {blk : Nat → Nat} (h : ChIs w o T b s k blk) (hT : T.Ok) {g : Nat} {x : OutM} (hx : MsgAt w o T.τ T.σ g x) (hg0 : ∀ i, s.out i ≠ none → blk i ≠ g)
    (hm : MapV w' k.mo (if (outF blk s.out s.sent).isSome then cntN s.out s.sent else cntN s.out s.sent + 1) (fun i => if i = (s.sent : Int) then some (.pointer (some ⟨g, 0, none⟩)) else outF blk s.out i)) (hg : w.grownBy w' (some k.mo)) :
    ∃ blk', Blk w' b 93 (chCells s k) ∧ OutAt w' o T.τ T.σ k.mo (s.sent + 1) blk' (updN s.out s.sent (some x)) ∧ EarlyAt w' o T.τ T.ε k.me (s.next + 64) s.early ∧ PackAt w' o T.τ T.σ k.mp (s.e.next - s.e.own) s.packets ∧ EndAt w' o T.τe k.eb s.e ∧ Step [T.τ] w o w' o := by
  have hst := step_map h.out.om hg
  have hn : s.out s.sent = none := by
    rcases Classical.em (s.out s.sent = none) with h1 | h1
    · exact h1
    · have := h.out.lt _ h1; omega
  refine ⟨fun i => if i = s.sent then g else blk i, h.cb.grown hg (by simpa using Ne.symm (h.out.map.ne_blk h.cb)), ⟨?_, h.out.om, ?_, ?_, ?_⟩, h.early.onmap h.out.om hg (Ne.symm h.d1) hT.e1, h.pack.onmap h.out.om hg (Ne.symm h.d2) hT.s1, h.e.step hst (by simpa using hT.te), hst⟩
  · have e1 : cntN (updN s.out s.sent (some x)) (s.sent + 1) = cntN s.out s.sent + 1 := by
      rw [cntN_succ, show updN s.out s.sent (some x) s.sent = some x by simp [updN]]
      have : cntN (updN s.out s.sent (some x)) s.sent = cntN s.out s.sent := cntN_congr fun i hi => by simp only [updN]; rw [if_neg (by omega)]
      rw [this]; rfl
    rw [e1]
    rw [show (outF blk s.out s.sent).isSome = false by unfold outF; rw [natF_nat, hn]; rfl] at hm
    refine hm.congr fun id => ?_
    rw [outF_put]
    by_cases e : id = (s.sent : Int)
    · rw [if_pos e, if_pos e]; simp
    · rw [if_neg e, if_neg e]
      unfold outF natF
      split
      · rfl
      · simp only
        rw [if_neg (by omega)]
  · intro i y hy
    simp only [updN] at hy
    by_cases e : i = s.sent
    · rw [if_pos e] at hy
      injection hy with hy; subst hy
      obtain ⟨A, c, q1, q2, q3⟩ := hx
      simp only [if_pos e]
      exact ⟨A, c, q1.grown hg (by simpa using Ne.symm (h.out.map.ne_blk q1)), q2, q3.step hst (by simpa using hT.s1)⟩
    · rw [if_neg e] at hy
      simp only [if_neg e]
      obtain ⟨A, c, q1, q2, q3⟩ := h.out.msg i y hy
      exact ⟨A, c, q1.grown hg (by simpa using Ne.symm (h.out.map.ne_blk q1)), q2, q3.step hst (by simpa using hT.s1)⟩
  · intro i j hi hj e
    simp only [updN] at hi hj
    by_cases e1 : i = s.sent <;> by_cases e2 : j = s.sent
    · rw [e1, e2]
    · simp only [if_pos e1, if_neg e2] at e hj
      exact absurd e.symm (hg0 j hj)
    · simp only [if_neg e1, if_pos e2] at e hi
      exact absurd e (hg0 i hi)
    · simp only [if_neg e1, if_neg e2] at e hi hj
      exact h.out.inj i j hi hj e
  · intro n hn2
    simp only [updN] at hn2
    split at hn2
    · omega
    · have := h.out.lt n hn2; omega

/-- What the store of Send comes to. -/
theorem send_put {w w3 : World} {o : Own} {T : ChT} {b : Nat} {s : ChS} {k : ChB} {blk : Nat → Nat} (h : ChIs w o T b s k blk) (hs : s.Fit) {A3 : Option Addr} {n c3 : Nat} {xs : List UInt8} (hB3 : Below w.drew.heap.size w.drew w3)
    (hR3 : Row w3 (ext o w.drew.heap.size T.σ) T.σ 5 1 A3 n c3 (byts xs)) :
    ∃ W', (Instr.mapUpdate 89 (.map (some k.mo)) (.int .i64 (s.sent : Int)) (.pointer (some ⟨w3.heap.size, 0, none⟩))).run Try.prog (w3.alloc (.cells #[.slice A3 n c3, .int .i64 (-1), .int .i64 0] 103)) = .ok () W' ∧
      (let w4 := w3.alloc (.cells #[.slice A3 n c3, .int .i64 (-1), .int .i64 0] 103)
       let o4 := ext (ext o w.drew.heap.size T.σ) w3.heap.size T.τ
       Step [] w o w4 o4 ∧ ChIs w4 o4 T b s k blk ∧ MsgAt w4 o4 T.τ T.σ w3.heap.size ⟨xs, -1, 0⟩ ∧ (∀ i, s.out i ≠ none → blk i ≠ w3.heap.size) ∧
       MapV W' k.mo (if (outF blk s.out s.sent).isSome then cntN s.out s.sent else cntN s.out s.sent + 1) (fun i => if i = (s.sent : Int) then some (.pointer (some ⟨w3.heap.size, 0, none⟩)) else outF blk s.out i) ∧ w4.grownBy W' (some k.mo)) := by
  have st3 : Step [] w o w3 (ext o w.drew.heap.size T.σ) := (Step.refl [] w o).drew.below hB3 T.σ
  have st4 := st3.alloc (.cells #[.slice A3 n c3, .int .i64 (-1), .int .i64 0] 103) T.τ
  have h4 := h.step st4 (by simp) (by simp) (by simp) (by simp)
  have hl : s.sent ≤ 1000000000 := hs.sl
  obtain ⟨W', hrun, r1, r2, -⟩ := h4.out.map.store Try.underlying89 (Nat.lt_of_le_of_lt (cntN_le _ _) (by unfold maxLen; omega)) (i64_nat (n := s.sent) (by omega)) (.pointer (some ⟨w3.heap.size, 0, none⟩))
  have hn : n = xs.length := by have := hR3.len; simpa using this.symm
  refine ⟨W', hrun, st4, h4, ⟨A3, c3, ?_, ext_ge (Nat.le_refl _), ?_⟩, fun i hi e => ?_, r1, r2⟩
  · subst hn; exact Blk.new _ _ _
  · subst hn
    exact hR3.sl.step ((Step.refl [] w3 _).alloc _ T.τ) (by simp)
  · cases hx : s.out i with
    | none => exact hi hx
    | some x =>
      obtain ⟨A, c, q1, -⟩ := h.out.msg i x hx
      have := q1.lt
      have := st3.size
      omega

theorem ChIs.cells_put {w4 W' : World} {o4 : Own} {T : ChT} {b : Nat} {s : ChS} {k : ChB} {blk : Nat → Nat} (h : ChIs w4 o4 T b s k blk) (hg : w4.grownBy W' (some k.mo)) : W'.cell? ⟨b, 6, none⟩ = some (.map (some k.mo)) ∧ W'.cell? ⟨b, 1, none⟩ = some (.int .i64 s.sent) := by
  have hb := h.cb.grown hg (by simpa using Ne.symm (h.out.map.ne_blk h.cb))
  exact ⟨hb.cell 6, hb.cell 1⟩

set_option maxRecDepth 100000 in
set_option maxHeartbeats 1000000 in
theorem Send_any {w : World} {o : Own} {T : ChT} {b : Nat} {s : ChS} (h : ChAt w o T b s) (hs : s.Fit) (hT : T.Ok) (τm : Nat) (A : Option Addr) (n c : Nat) (xs : List UInt8) (hS : Sl w o τm 1 A n c (byts xs)) :
    Calls Try.prog 16 #[.pointer (some ⟨b, 0, none⟩), .slice A n c] w (SendTo w o T b (sendS s xs)) := by
  have HC := Lib.hid h
  obtain ⟨k, blk, h⟩ := h
  obtain ⟨c0, c1, c2, c3, c4, c5, c6, c7, c8⟩ := h.cells
  have hnl : n = xs.length := by have := hS.1; simp at this; omega
  have hnc : n ≤ 9223372036854775807 := by have h1 := hS.2.1; have h2 := hS.2.2.1; unfold maxLen at h2; omega
  have hl := h.out.map.len Try.underlying89 3
  rw [show cntN s.out s.sent = waitS s from rfl] at hl
  obtain ⟨R, hR⟩ : ∃ R, R = sendS s xs := ⟨_, rfl⟩
  rw [← hR]
  have hw : waitS s ≤ 1000000000 := Nat.le_trans (cntN_le _ _) hs.sl
  by_cases h1 : 1024 < n
  · have hd : decide ((1024 : Int) < (n : Int)) = true := by simp; omega
    have HR := Lib.hid (show R = (s, 3) by rw [hR]; unfold sendS; rw [if_pos (by omega)])
    clear h hS hs hT hR hl hnl
    go_enter Try.func16, Try.ntmps16
    go_wp2_with (go_at_call 41; refine (there_ch c5).mono ?_; rintro e w' ⟨rfl, rfl⟩)
    rw [HR.out]
    go_ret
    exact ⟨o, rfl, Step.refl _ _ _, HC.out⟩
  have hd : decide ((1024 : Int) < (n : Int)) = false := by simp; omega
  by_cases h2 : 256 ≤ waitS s
  · have hd2 : decide ((256 : Int) ≤ (waitS s : Int)) = true := by simp; omega
    have HR := Lib.hid (show R = (s, 4) by rw [hR]; unfold sendS; rw [if_neg (by omega), if_pos h2])
    generalize waitS s = W at hl hd2
    clear h hS hs hT hR hnl
    go_enter Try.func16, Try.ntmps16
    go_wp2_with (go_at_call 41; refine (there_ch c5).mono ?_; rintro e w' ⟨rfl, rfl⟩)
    rw [HR.out]
    go_ret
    exact ⟨o, rfl, Step.refl _ _ _, HC.out⟩
  have hd2 : decide ((256 : Int) ≤ (waitS s : Int)) = false := by simp; omega
  have HR := Lib.hid (show R = ({ s with out := updN s.out s.sent (some ⟨xs, -1, 0⟩), sent := s.sent + 1 }, 0) by rw [hR]; unfold sendS; rw [if_neg (by omega), if_neg h2])
  have HW := Lib.hid (show waitS s = cntN s.out s.sent from rfl)
  generalize waitS s = W at hl hd2 h2 hw HW
  have HI := Lib.hid h; have HF := Lib.hid hs; have HT := Lib.hid hT; have HS := Lib.hid hS; have HNL := Lib.hid hnl
  clear h hS hs hT hR hnl
  go_enter Try.func16, Try.ntmps16
  go_upto_region 7 with (go_at_call 41; refine (there_ch c5).mono ?_; rintro e w' ⟨rfl, rfl⟩)
  have C0 : w.drew.cell? ⟨b, 6, none⟩ = some (.map (some k.mo)) ∧ w.drew.cell? ⟨b, 1, none⟩ = some (.int .i64 s.sent) := ⟨c6, c1⟩
  have UP := Lib.hid (fun W (hb : Below w.drew.heap.size w.drew W) => show W.cell? ⟨b, 6, none⟩ = some (.map (some k.mo)) ∧ W.cell? ⟨b, 1, none⟩ = some (.int .i64 s.sent) from ⟨(hb.cell (p := ⟨b, 6, none⟩) HI.out.cb.lt).trans c6, (hb.cell (p := ⟨b, 1, none⟩) HI.out.cb.lt).trans c1⟩)
  have HCL := Lib.hid (cloneB w.drew o τm T.σ A n c _ HS.out (one_byts _) (by omega))
  have HPUT := Lib.hid (fun w3 A3 c3 (hR3 : Row w3 (ext o w.drew.heap.size T.σ) T.σ 5 1 A3 n c3 (byts xs)) (hB3 : Below w.drew.heap.size w.drew w3) => send_put HI.out HF.out (hB3 := hB3) hR3)
  clear c0 c2 c3 c4 c5 c7 c8 hl hd hd2
  go_region_held3 (fun w' => w'.cell? ⟨b, 6, none⟩ = some (.map (some k.mo)) ∧ w'.cell? ⟨b, 1, none⟩ = some (.int .i64 s.sent))
    (first | with_reducible exact C0 | with_reducible exact C1 | with_reducible exact C2 | with_reducible exact C3)
    (first | (go_at_call 42; refine HCL.out.mono ?_; rintro e w3 ⟨A3, c3, rfl, hR3, hB3, hF3⟩; have C1 := UP.out _ hB3; have C2 := UP.out _ (hB3.alloc hB3.size (.cells #[.slice A3 n c3, .int .i64 (-1), .int .i64 0] 103)); obtain ⟨W', hrun, hput⟩ := HPUT.out w3 A3 c3 hR3 hB3; have C3 := hput.2.1.cells_put hput.2.2.2.2.2; have HP5 := Lib.hid hput; clear hR3 hB3 hF3 hput))
  obtain ⟨st4, h4, hm4, hb4, hmap, hg4⟩ := HP5.out
  obtain ⟨blk', hcb, hout, hear, hpk, hE, hst⟩ := h4.putmsg HT.out hm4 hb4 hmap hg4
  have e1 := hcb.cell 1; have f1 := hcb.frozen 1; have hsl := HF.out.sl
  have hob := h4.ob; have hd1 := h4.d1; have hd2 := h4.d2; have hd3 := h4.d3
  generalize ext (ext o w.drew.heap.size T.σ) w3.heap.size T.τ = o4 at st4 hcb hout hear hpk hE hst hob
  have hst5 : Step [T.τ] w o (W'.setCell ⟨b, 1, none⟩ (.int .i64 ((s.sent : Int) + 1))) o4 := (st4.nil.trans hst).setCell (.inr (by simp [hob])) _
  have hfin : ChIs (W'.setCell ⟨b, 1, none⟩ (.int .i64 ((s.sent : Int) + 1))) o4 T b { s with out := updN s.out s.sent (some ⟨xs, -1, 0⟩), sent := s.sent + 1 } k blk' :=
    ⟨hcb.set_ 1 _, hob, hE.step (step_cell hob _) (by simpa using HT.out.te), hout.setb hcb (by decide) hob HT.out.s1 _, hear.setb hcb hob HT.out.e1 _, hpk.setb hcb hob HT.out.s1 _, hd1, hd2, hd3⟩
  have HFIN := Lib.hid hfin; have HST5 := Lib.hid hst5
  clear hfin hst5 hcb hout hear hpk hE hst hob hd1 hd2 hd3 st4 h4 hm4 hb4 hmap hg4 C0 C1 C2 C3 hrun
  go_wp2_with fail
  rw [HR.out]
  go_ret
  exact ⟨o4, rfl, HST5.out, k, blk', HFIN.out⟩
end Go.Proofs.Ythjjipcbpmdfnaa
