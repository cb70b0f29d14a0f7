/-
  WALK of (*Channel).body.
-/
import Derived.Test.YthjjipcbpmdfnaaChC
import Derived.Deep.CutBlock
import Derived.Deep.DeepCutAuto
namespace Go.Proofs.Ythjjipcbpmdfnaa
open Go.RowKit

theorem hdr_byts (n len : Nat) : byts (hdrB n len) = [.int .u8 ((n : Int) / 256 % 256), .int .u8 ((n : Int) % 256), .int .u8 ((len : Int) / 256 % 256), .int .u8 ((len : Int) % 256)] := by
  simp [hdrB, byts]
theorem dueS_some {s : ChS} {n : Nat} (h : dueS s n = true) : ∃ x, s.out n = some x := by
  cases hx : s.out n with
  | none => simp [dueS, hx] at h
  | some x => exact ⟨x, rfl⟩
theorem bodyG_due {s : ChS} {j : Nat} {x : OutM} (h : dueS s (s.first + j) = true) (hx : s.out (s.first + j) = some x) (hl : (bodyG s j).1.length + 4 + x.b.length ≤ 1191) :
    bodyG s (j + 1) = ((bodyG s j).1 ++ hdrB (s.first + j) x.b.length ++ x.b, (bodyG s j).2 ++ [s.first + j]) := by
  show bodyStep s (s.first + j) (bodyG s j) = _
  simp only [bodyStep, hx]
  rw [if_pos ⟨h, hl⟩]
theorem bodyG_not {s : ChS} {j : Nat} (h : dueS s (s.first + j) = false) : bodyG s (j + 1) = bodyG s j := by
  show bodyStep s (s.first + j) (bodyG s j) = _
  simp only [bodyStep]
  cases s.out (s.first + j) with
  | none => rfl
  | some x => simp only [h]; rw [if_neg (by simp)]
theorem bodyG_long {s : ChS} {j : Nat} {x : OutM} (hx : s.out (s.first + j) = some x) (hl : ¬ (bodyG s j).1.length + 4 + x.b.length ≤ 1191) : bodyG s (j + 1) = bodyG s j := by
  show bodyStep s (s.first + j) (bodyG s j) = _
  simp only [bodyStep, hx]
  rw [if_neg (fun h => hl h.2)]
theorem bodyG_le (s : ChS) : ∀ j, (bodyG s j).1.length ≤ 1191 ∧ (bodyG s j).2.length ≤ j ∧ ((bodyG s j).1.length = 0 ↔ (bodyG s j).2 = [])
  | 0 => ⟨by simp [bodyG], by simp [bodyG], by simp [bodyG]⟩
  | j + 1 => by
    have ih := bodyG_le s j
    rw [show bodyG s (j + 1) = bodyStep s (s.first + j) (bodyG s j) from rfl]
    generalize bodyG s j = a at ih ⊢
    unfold bodyStep
    split
    · exact ⟨ih.1, by omega, ih.2.2⟩
    · split
      · rename_i h
        refine ⟨?_, ?_, ?_⟩
        · have := h.2; simp [hdrB]; omega
        · simp only [List.length_append, List.length_singleton]; omega
        · simp [hdrB]
      · exact ⟨ih.1, by omega, ih.2.2⟩
theorem run_minI {P : Program} (W : World) (ts : Array TypeId) (t : TypeId) (a b m : Int) (hm : m = min a b) : (Builtin.min_ ts t #[.int .i64 a, .int .i64 b]).run P W = .ok (.int .i64 m) W := by
  have e : ∀ x y : Int, (if y < x then y else x) = min x y := by
    intro x y; rw [Int.min_def]; split <;> split <;> omega
  subst hm
  simp [Builtin.min_, Builtin.min2, e]

/-- The state of the loop in body. -/
structure BodyAt (w W : World) (B : List UInt8) (L : List Nat) (BA : Option Addr) (bn bc : Nat) (LA : Option Addr) (ln lc : Nat) : Prop where
  ns : NS w.heap.size w W
  b : NRow w.heap.size W 5 1 BA bn bc (byts B)
  l : NRow w.heap.size W 3 1 LA ln lc (nats L)
theorem BodyAt.drewN {w W : World} {B : List UInt8} {L : List Nat} {BA LA : Option Addr} {bn bc ln lc : Nat} (h : BodyAt w W B L BA bn bc LA ln lc) (q : Nat) : BodyAt w (W.drewN q) B L BA bn bc LA ln lc := ⟨h.ns.drewN q, h.b, h.l⟩

/-- A row stays while another, of another type, grows. -/
theorem NRow.keep {w w' : World} {B : Nat} {e e' : TypeId} {sz n c : Nat} {A : Option Addr} {xs : List Value} (h : NRow B w e' sz A n c xs) (hk : ∀ (g : Nat) (tt : TypeId) (cs : Array Value), Blk w g tt cs → e ≠ tt → Blk w' g tt cs) (hne : e ≠ e') : NRow B w' e' sz A n c xs := by
  obtain ⟨⟨h1, h2⟩, h3⟩ := h
  refine ⟨⟨h1, ?_⟩, h3⟩
  rcases h2 with h2 | ⟨g, cap, cur, hv, hg, hh, r⟩
  · exact .inl h2
  · exact .inr ⟨g, cap, cur, hv, hg, hk g e' cur hh hne, r⟩
theorem nats_append (l : List Nat) (n : Nat) : nats (l ++ [n]) = nats l ++ [.int .i64 (n : Int)] := by simp

set_option maxRecDepth 100000 in
set_option maxHeartbeats 1000000 in
theorem body_any {w : World} {o : Own} {T : ChT} {b : Nat} {s : ChS} {k : ChB} {blk : Nat → Nat} (h : ChIs w o T b s k blk) (hs : s.Fit) :
    Calls Try.prog 45 #[.pointer (some ⟨b, 0, none⟩)] w fun e w' => ∃ BA bn bc LA ln lc, e = .returned (.tuple #[.slice BA bn bc, .slice LA ln lc]) ∧ BodyAt w w' (bodyS s).1 (bodyS s).2 BA bn bc LA ln lc := by
  have HC := Lib.hid h
  have HF := Lib.hid hs
  have q1 := hs.fs; have q2 := hs.sl
  obtain ⟨M, hM⟩ : ∃ M, M = min s.sent (s.first + 64) := ⟨_, rfl⟩
  have hM1 : s.first ≤ M := by omega
  have hM2 : M ≤ s.first + 64 := by omega
  have hM3 : M ≤ s.sent := by omega
  have hmn := fun W => run_minI (P := Try.prog) W #[3, 3] 3 (s.sent : Int) ((s.first : Int) + 64) (M : Int) (by omega)
  have HM := Lib.hid hM
  obtain ⟨c0, c1, c2, c3, c4, c5, c6, c7, c8⟩ := h.cells
  clear h hs hM
  go_enter Try.func45, Try.ntmps45
  go_wp2_with fail
  go_loopw [4, 5, 6] (fun sb sl i wr => ∃ (j n : Nat) (BA : Option Addr) (bn bc : Nat) (LA : Option Addr) (ln lc : Nat), n ≤ M ∧ Hid (n = s.first + j) ∧ i = .int .i64 (n : Int) ∧ sb = .slice BA bn bc ∧ sl = .slice LA ln lc ∧ Hid (BodyAt w wr (bodyG s j).1 (bodyG s j).2 BA bn bc LA ln lc)) (fun _ _ i _ => M - (intOf i).toNat)
  case atStart => exact ⟨0, s.first, none, 0, 0, none, 0, 0, hM1, Lib.hid rfl, rfl, rfl, rfl, Lib.hid ⟨NS.refl _, Row.nil_ _ _ _ _ _, Row.nil_ _ _ _ _ _⟩⟩
  case round => as_aux_lemma =>
    obtain ⟨j, n, BA, bn, bc, LA, ln, lc, hj, HN, rfl, rfl, rfl, HB⟩ := hrel
    have hch := HC.out.below HB.out.ns.fin 0
    obtain ⟨d0, d1, d2, d3, d4, d5, d6, d7, d8⟩ := hch.cells
    clear hch c0 c1 c2 c3 c4 c5 c6 c7 c8
    have hgl := bodyG_le s j
    have hbn : bn ≤ 1191 := by have := HB.out.b.len; simp at this; omega
    have hln : ln ≤ 64 := by have h1 := HB.out.l.len; have h2 := HN.out; simp at h1; omega
    clear hgl
    by_cases hlt : n < M
    · have hd : decide ((n : Int) < (M : Int)) = true := by simp; omega
      go_wp2_with fail
      go_quiet (fail)
      have HB1 := Lib.hid (HB.out.drewN nq)
      generalize wr.drewN nq = w1 at HB1 ⊢
      have HC1 := Lib.hid (HC.out.below HB1.out.ns.fin 0)
      clear d0 d1 d2 d3 d4 d5 d6 d7 d8 HB
      go_wp2_with fail
      cases hdue : dueS s n with
      | false =>
        refine (due_any HC1.out HF.out n (by omega)).mono ?_
        rintro e w2 ⟨rfl, q, rfl⟩
        rw [hdue]
        have HB2 : Hid (BodyAt w (w1.drewN q) (bodyG s (j + 1)).1 (bodyG s (j + 1)).2 BA bn bc LA ln lc) := Lib.hid (by rw [bodyG_not (by rw [← HN.out]; exact hdue)]; exact HB1.out.drewN q)
        have HN2 : Hid (n + 1 = s.first + (j + 1)) := Lib.hid (by have := HN.out; omega)
        clear hdue
        go_wp2_with fail
        go_roundw
        case rel => exact ⟨j + 1, n + 1, _, _, _, _, _, _, by omega, HN2, by go_num, rfl, rfl, HB2⟩
        case measure => simp [intOf]; omega
      | true =>
        obtain ⟨x, hx⟩ := dueS_some hdue
        refine (due_any HC1.out HF.out n (by omega)).mono ?_
        rintro e w2 ⟨rfl, q, rfl⟩
        rw [hdue]
        have HB2 := Lib.hid (HB1.out.drewN q)
        generalize w1.drewN q = w2 at HB2 ⊢
        have hc2 := HC.out.below HB2.out.ns.fin 0
        obtain ⟨d0, d1, d2, d3, d4, d5, d6, d7, d8⟩ := hc2.cells
        obtain ⟨XA, xc, hXB, -, hXS⟩ := HC.out.out.msg n x hx
        have m0 := (hXB.below HB2.out.ns.fin hXB.lt).cell 0
        simp only [List.getElem?_toArray, List.getElem?_cons_zero] at m0
        have hlk := hc2.out.look (n := n) (by omega)
        simp only [hx] at hlk
        obtain ⟨xl, hxl2⟩ : ∃ xl, xl = x.b.length := ⟨_, rfl⟩
        have hxl := (HF.out.msg n x hx).1
        rw [← hxl2] at m0 hxl hXS
        have HXS := Lib.hid hXS; have HX := Lib.hid hx; have HXL := Lib.hid hxl2; have HDU := Lib.hid hdue
        clear hxl2 hXS hx hdue hc2 hXB HB1 HC1
        by_cases hfit : bn + 4 + xl ≤ 1191
        · have hfd : decide ((bn : Int) + 4 + (xl : Int) ≤ 1191) = true := by simp; omega
          go_upto_region 9 with fail
          clear d0 d1 d2 d3 d4 d5 d6 d7 d8 m0 hlk hfd
          have hfr : Sl (w2.alloc (.cells #[.int .u8 ((n : Int) / 256 % 256), .int .u8 ((n : Int) % 256), .int .u8 ((xl : Int) / 256), .int .u8 ((xl : Int) % 256)] 5)) (fun _ => 0) 0 1 (some ⟨w2.heap.size, 0, none⟩) 4 4 (byts (hdrB n xl)) := by
            rw [hdr_byts, show (xl : Int) / 256 % 256 = (xl : Int) / 256 by omega]
            exact Sl.fresh w2 5 1 4 _ rfl (by decide)
          have HFR := Lib.hid hfr
          clear hfr
          go_upto_region 10 with (at_builtin; refine wpList_append_new _ rfl (.tmp 49) (.tmp 62) _ rfl el_byte (HB2.out.ns.alloc _) _ bn bc _ rfl (HB2.out.b.alloc HB2.out.ns.le' _) _ 4 4 _ rfl HFR.out (one_byts _) (by omega) (by unfold maxLen; omega) ?_; intro A3 c3 w3 hr3 hk3 _ hk3'; have HR3 := Lib.hid hr3; have HK3 := Lib.hid hk3; have HL3 := Lib.hid ((HB2.out.l.alloc HB2.out.ns.le' _).keep hk3' (by decide)); clear hr3 hk3 hk3')
          have HXS3 := Lib.hid (HXS.out.below HK3.out.fin)
          have HBL : Hid (bn = (bodyG s j).1.length) := Lib.hid (by have := HB2.out.b.len; simpa using this.symm)
          clear HFR HB2 HXS
          go_wp2_with (first
            | (at_builtin; refine wpList_append_new _ rfl (.tmp 64) (.tmp 65) _ rfl el_byte HK3.out _ (bn + 4) c3 _ rfl HR3.out _ xl xc _ rfl HXS3.out (one_byts _) (by omega) (by unfold maxLen; omega) ?_; intro A4 c4 w4 hr4 hk4 _ hk4'; have HR4 := Lib.hid hr4; have HK4 := Lib.hid hk4; have HL4 := Lib.hid (HL3.out.keep hk4' (by decide)); clear hr4 hk4 hk4')
            | (at_builtin; refine wpList_append_new _ rfl (.tmp 67) (.tmp 69) _ rfl el_int (HK4.out.alloc _) _ ln lc _ rfl (HL4.out.alloc HK4.out.le' _) _ 1 1 _ rfl (Sl.fresh w4 3 1 1 [.int .i64 (n : Int)] rfl (by decide)) (one_ints [(n : Int)]) (by omega) (by unfold maxLen; omega) ?_; intro A5 c5 w5 hr5 hk5 _ hk5'; have HR5 := Lib.hid hr5; have HK5 := Lib.hid hk5; have HB5 := Lib.hid ((HR4.out.alloc HK4.out.le' _).keep hk5' (by decide)); clear hr5 hk5 hk5'))
          have HB6 : Hid (BodyAt w w5 (bodyG s (j + 1)).1 (bodyG s (j + 1)).2 A4 (bn + 4 + xl) c4 A5 (ln + 1) c5) := Lib.hid (by
            have e := bodyG_due (s := s) (j := j) (by rw [← HN.out]; exact HDU.out) (by rw [← HN.out]; exact HX.out) (by rw [← HXL.out]; have hbl := HBL.out; omega)
            rw [e, ← HN.out, ← HXL.out]
            refine ⟨HK5.out, ?_, ?_⟩
            · simp only [byts, List.map_append]; exact HB5.out
            · rw [nats_append]; exact HR5.out)
          have HN2 : Hid (n + 1 = s.first + (j + 1)) := Lib.hid (by have := HN.out; omega)
          clear HB5 HR5 HK5 HR4 HK4 HL4 HR3 HK3 HL3 HXS3
          go_roundw
          case rel => exact ⟨j + 1, n + 1, _, _, _, _, _, _, by omega, HN2, by go_num, rfl, rfl, HB6⟩
          case measure => simp [intOf]; omega
        · have hfd : decide ((bn : Int) + 4 + (xl : Int) ≤ 1191) = false := by simp; omega
          have HB3 : Hid (BodyAt w w2 (bodyG s (j + 1)).1 (bodyG s (j + 1)).2 BA bn bc LA ln lc) := Lib.hid (by
            have hbl := HB2.out.b.len
            rw [bodyG_long (by rw [← HN.out]; exact HX.out) (by rw [← HXL.out]; simp at hbl; omega)]; exact HB2.out)
          have HN2 : Hid (n + 1 = s.first + (j + 1)) := Lib.hid (by have := HN.out; omega)
          go_wp2_with fail
          go_roundw
          case rel => exact ⟨j + 1, n + 1, _, _, _, _, _, _, by omega, HN2, by go_num, rfl, rfl, HB3⟩
          case measure => simp [intOf]; omega
    · have hd : decide ((n : Int) < (M : Int)) = false := by simp; omega
      go_wp2_with fail
      go_quiet (fail)
      have HB1 := Lib.hid (HB.out.drewN nq)
      generalize wr.drewN nq = w1 at HB1 ⊢
      clear d0 d1 d2 d3 d4 d5 d6 d7 d8 HB
      go_wp2_with fail
      go_ret2
      have e : bodyS s = bodyG s j := by unfold bodyS; rw [← HM.out]; congr 1; have := HN.out; omega
      rw [e]
      exact ⟨_, _, _, _, _, _, rfl, HB1.out⟩
end Go.Proofs.Ythjjipcbpmdfnaa
