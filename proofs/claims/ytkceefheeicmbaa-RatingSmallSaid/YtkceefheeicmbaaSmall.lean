/-
  RatingSmall returns true: the limits, all of them. No condition.
-/
import Derived.Test.YtkceefheeicmbaaRatMA
import Derived.Test.YtkceefheeicmbaaRatMC
import Derived.Test.YtkceefheeicmbaaRatMD
import Derived.Test.YtkceefheeicmbaaRatG
import Derived.Test.YtkceefheeicmbaaRows
import Derived.ProofKit
import Derived.Carry
import Derived.Lib.QuietBelow
import Derived.BigQuiet
namespace Go.Proofs.Ytkceefheeicmbaa
open Go.ChangeShapes Go.WideShapes Go.ChangeAt Go.RowKit

theorem own_ : ownKnob Try.prog.godebug = none := by kernel_rfl
theorem laid_ : laidOutB Try.prog = true := by kernel_rfl

theorem i64_bd {x : Int} (h : (Lit.int .i64 x).wf = true) : -9223372036854775808 ≤ x ∧ x ≤ 9223372036854775807 := by
  simp only [Lit.wf, Bool.and_eq_true, decide_eq_true_eq] at h
  have e1 : IntKind.i64.min = -9223372036854775808 := by decide +kernel
  have e2 : IntKind.i64.max = 9223372036854775807 := by decide +kernel
  rw [e1, e2] at h
  exact h
theorem u64_bd {x : Int} (h : (Lit.int .u64 x).wf = true) : 0 ≤ x ∧ x ≤ 18446744073709551615 := by
  simp only [Lit.wf, Bool.and_eq_true, decide_eq_true_eq] at h
  have e1 : IntKind.u64.min = 0 := by decide +kernel
  have e2 : IntKind.u64.max = 18446744073709551615 := by decide +kernel
  rw [e1, e2] at h
  exact h
theorem u16_bd {x : Int} (h : (Lit.int .u16 x).wf = true) : 0 ≤ x ∧ x ≤ 65535 := by
  simp only [Lit.wf, Bool.and_eq_true, decide_eq_true_eq] at h
  have e1 : IntKind.u16.min = 0 := by decide +kernel
  have e2 : IntKind.u16.max = 65535 := by decide +kernel
  rw [e1, e2] at h
  exact h
theorem u8_bd {x : Int} (h : (Lit.int .u8 x).wf = true) : 0 ≤ x ∧ x ≤ 255 := by
  simp only [Lit.wf, Bool.and_eq_true, decide_eq_true_eq] at h
  have e1 : IntKind.u8.min = 0 := by decide +kernel
  have e2 : IntKind.u8.max = 255 := by decide +kernel
  rw [e1, e2] at h
  exact h

section
variable {H : Type} {enc : TypeId × Value → H} {P : Program} {W W' : World}

/-- Whatever was read through old blocks alone reads as it did. -/
theorem stays_all (hl : laidOutB P = true) (hb : Below W.heap.size W W') (sp : Nat → Bool) : ∀ {ts : List TypeId} {vs : List Value} {ds : List (DataW H)} {ps : List MemPlace}, (ts.all fun t => P.readableRec t && decide (t < P.types.size)) = true →
    DataW.TrodAll enc P W 0 (fun _ => true) true ts vs ds ps → (∀ x ∈ ps, x.block < W.heap.size) → (∀ x ∈ ps, sp x.block = true) → DataW.TrodAll enc P W' 0 sp true ts vs ds ps
  | [], [], [], _, _, h, _, _ => h
  | t :: ts, v :: vs, d :: ds, ps, ht, ⟨p, q, h1, h2, e⟩, hlt, hs => by
    simp only [List.all_cons, Bool.and_eq_true, decide_eq_true_eq] at ht
    refine ⟨p, q, WideElems.Trod_stays hl ht.1.1 ht.1.2 h1 (fun x hx => hb.same (hlt x ?_)) (fun x hx => hs x ?_), stays_all hl hb sp ht.2 h2 (fun x hx => hlt x ?_) (fun x hx => hs x ?_), e⟩
    all_goals rw [e]; simp [hx]

theorem law_post {f : Func} {s : ChangeSpec} {args : Array Value} {ds gs : List (DataW H)} {before : List MemPlace} {tb : TypeId} (hl : laidOutB P = true) (hts : (f.params.toList.all fun t => P.readableRec t && decide (t < P.types.size)) = true)
    (hv : s.vars = []) (hr : f.resultTypes = #[tb]) (htb : P.underlying tb = some .bool) (hW : DataW.Whole enc P f.params.toList s.vars false W args.toList ds gs before) (hb : Below W.heap.size W W')
    (h1 : (s.fn H (ds ++ gs)).results = [.lit (.bool true)]) (h2 : (s.fn H (ds ++ gs)).args = ds) (h3 : (s.fn H (ds ++ gs)).vars = []) :
    s.post enc P f false true false false W args (.bool true) W' := by
  have hlt := fun p hp => hW.lt p hp
  have hW0 := hW
  obtain ⟨p, q, hA, hV, rfl, -, -⟩ := hW
  refine ⟨ds, gs, p ++ q, [], p, q, hW0, ?_, ?_, ?_, World.keptBut_mono (fun x hx => ⟨hx, ?_⟩) (hb.frame (· ∈ p ++ q)), fun h => by cases h⟩
  · rw [h1, hr]
    exact trodAll_mk1 (shut_bool htb true)
  · rw [h2]
    exact stays_all hl hb _ hts hA (fun x hx => hlt x (by simp [hx])) (fun x hx => by simpa using hlt x (by simp [hx]))
  · rw [h3]
    rw [hv] at hV ⊢
    obtain ⟨-, rfl⟩ := trodVars_none hV
    rfl
  · right
    rcases List.mem_append.1 hx with h | h
    · exact .inl h
    · exact .inr h
end
end Go.Proofs.Ytkceefheeicmbaa
namespace Go.Proofs.Ytkceefheeicmbaa
open Go.RowKit Go.Sort
set_option maxHeartbeats 400000 in
theorem gains_any (w : World) (a b s k : Int) : Calls Try.prog 16 #[.int .i64 a, .int .i64 b, .int .i64 s, .int .i64 k] w (SaysTo w true) := by
  obtain ⟨R, hR⟩ : ∃ R, R = gainM a b s k := ⟨_, rfl⟩
  obtain ⟨E, hE⟩ : ∃ E, E = gainE a b s k := ⟨_, rfl⟩
  have h1 := fun W => Gain_any W a b s k R E hR hE
  have h2 := fun W => refGain_any W a b s k R E hR hE
  have hEb : E = 0 ∨ E = 2 := by rw [hE]; unfold gainE; split <;> simp
  have H1 := Lib.hid h1; have H2 := Lib.hid h2
  clear h1 h2 hR hE
  have hRR : (R == R) = true := by simp
  rcases hEb with rfl | rfl
  all_goals
    go_enter Try.func16, Try.ntmps16
    go_wp2_with fail
    refine (H1.out _).mono ?_
    rintro e w1 ⟨rfl, hb1⟩
    have HB1 := Lib.hid hb1; clear hb1
    go_wp2_with fail
    refine (H2.out _).mono ?_
    rintro e w2 ⟨rfl, hb2⟩
    have HB2 := Lib.hid (below_then HB1.out hb2); clear hb2
    go_wp2_with fail
    go_ret
    exact ⟨rfl, HB2.out⟩

end Go.Proofs.Ytkceefheeicmbaa
namespace Go.Proofs.Ytkceefheeicmbaa
open Go.RowKit Go.Sort
/-- Three blocks of integers. -/
def Ends (W : World) (g1 g2 g3 : Nat) : Prop := (∀ j, j < 19 → ∃ x : Int, W.cell? ⟨g1, j, none⟩ = some (.int .i64 x)) ∧ (∀ j, j < 7 → ∃ x : Int, W.cell? ⟨g2, j, none⟩ = some (.int .i64 x)) ∧ ∀ j, j < 9 → ∃ x : Int, W.cell? ⟨g3, j, none⟩ = some (.int .i64 x)
theorem Ends.up {W W' : World} {g1 g2 g3 : Nat} (h : Ends W g1 g2 g3) (hb : Below W.heap.size W W') : Ends W' g1 g2 g3 := by
  obtain ⟨h1, h2, h3⟩ := h
  refine ⟨fun j hj => ?_, fun j hj => ?_, fun j hj => ?_⟩
  · obtain ⟨x, hx⟩ := h1 j hj; exact ⟨x, cell_up hb hx⟩
  · obtain ⟨x, hx⟩ := h2 j hj; exact ⟨x, cell_up hb hx⟩
  · obtain ⟨x, hx⟩ := h3 j hj; exact ⟨x, cell_up hb hx⟩
theorem flat_cells (W : World) (Z : List Int) (n : Nat) (hn : Z.length = n) : ∀ j, j < n → ∃ x : Int, (W.alloc (.cells (Z.map (Value.int .i64)).toArray 3)).cell? ⟨W.heap.size, j, none⟩ = some (.int .i64 x) := fun j hj => by
  obtain ⟨x, hx⟩ : ∃ x, Z[j]? = some x := ⟨_, List.getElem?_eq_getElem (by omega)⟩
  refine ⟨x, ?_⟩
  rw [(Blk.new W 3 (Z.map (Value.int .i64)).toArray).cell, List.getElem?_toArray, List.getElem?_map, hx]; rfl
theorem ends_made (W : World) (Z1 Z2 Z3 : List Int) (h1 : Z1.length = 19) (h2 : Z2.length = 7) (h3 : Z3.length = 9) :
    ∃ (g1 g2 g3 : Nat) (WN : World), g1 = W.heap.size ∧ g2 = W.heap.size + 1 ∧ g3 = W.heap.size + 1 + 1 ∧
      WN = ((W.alloc (.cells (Z1.map (Value.int .i64)).toArray 3)).alloc (.cells (Z2.map (Value.int .i64)).toArray 3)).alloc (.cells (Z3.map (Value.int .i64)).toArray 3) ∧ Ends WN g1 g2 g3 ∧ Below W.heap.size W WN := by
  have b1 := fun (W : World) o => (Below.refl W.heap.size W).alloc (Nat.le_refl _) o
  refine ⟨_, _, _, _, rfl, rfl, rfl, rfl, ⟨fun j hj => ?_, fun j hj => ?_, fun j hj => ?_⟩, below_then (below_then (b1 _ _) (b1 _ _)) (b1 _ _)⟩
  · obtain ⟨x, hx⟩ := flat_cells W Z1 19 h1 j hj; exact ⟨x, cell_up (b1 _ _) (cell_up (b1 _ _) hx)⟩
  · obtain ⟨x, hx⟩ := flat_cells (W.alloc (.cells (Z1.map (Value.int .i64)).toArray 3)) Z2 7 h2 j hj
    rw [World.size_alloc] at hx
    exact ⟨x, cell_up (b1 _ _) hx⟩
  · obtain ⟨x, hx⟩ := flat_cells ((W.alloc (.cells (Z1.map (Value.int .i64)).toArray 3)).alloc (.cells (Z2.map (Value.int .i64)).toArray 3)) Z3 9 h3 j hj
    rw [World.size_alloc, World.size_alloc] at hx
    exact ⟨x, hx⟩

set_option maxRecDepth 100000 in
set_option maxHeartbeats 4000000 in
theorem RatingSmall_walk (w : World) : Calls Try.prog 11 #[] w (SaysTo w true) := by
  go_enter Try.func11, Try.ntmps11
  go_wp2_with fail
  go_loopw [1] (fun s wr => ∃ d : Int, -900 ≤ d ∧ d ≤ 901 ∧ s = .int .i64 d ∧ Hid (Below w.heap.size w wr)) (fun s _ => (901 - intOf s).toNat)
  case atStart => exact ⟨-900, by omega, by omega, rfl, Lib.hid (Below.refl _ _)⟩
  case round => as_aux_lemma =>
    obtain ⟨d, hd0, hd1, rfl, HB⟩ := hrel
    by_cases hlt : d ≤ 900
    ·
      have dd : decide (d ≤ 900) = true := by simp; omega
      obtain ⟨E, hE⟩ : ∃ E, E = expM d := ⟨_, rfl⟩
      have HE := Lib.hid hE
      have dE : (E != E) = false := by simp
      clear hE
      go_wp2_with fail
      refine (Expected_any _ d E HE.out (by omega) (by omega)).mono ?_
      rintro e w1 ⟨rfl, hb1⟩
      have HB1 := Lib.hid (below_then HB.out hb1)
      clear hb1 HB
      go_wp2_with fail
      refine (refExpected_any _ d E HE.out (by omega) (by omega)).mono ?_
      rintro e w2 ⟨rfl, hb2⟩
      have HB2 := Lib.hid (below_then HB1.out hb2)
      clear hb2 HB1
      go_wp2_with fail
      go_roundw
      case rel => exact ⟨d + 1, by omega, by omega, by go_num, HB2⟩
      case measure => simp [intOf]; omega
    · have dd : decide (d ≤ 900) = false := by simp; omega
      obtain ⟨Z1, hZ1⟩ : ∃ Z : List Int, Z = [-9223372036854775808, -1, 0, 1, 2, 15, 16, 17, 1500, 1549, 1550, 3983, 3984, 3985, 3998, 3999, 4000, 4001, 9223372036854775807] := ⟨_, rfl⟩
      obtain ⟨Z2, hZ2⟩ : ∃ Z : List Int, Z = [0, 512, 1024, -1, 1, 511, 1025] := ⟨_, rfl⟩
      obtain ⟨Z3, hZ3⟩ : ∃ Z : List Int, Z = [1, 2, 31, 32, 64, 0, 65, -9223372036854775808, 9223372036854775807] := ⟨_, rfl⟩
      have HM := Lib.hid (ends_made wr Z1 Z2 Z3 (by rw [hZ1]; rfl) (by rw [hZ2]; rfl) (by rw [hZ3]; rfl))
      have HZ1 := Lib.hid hZ1; have HZ2 := Lib.hid hZ2; have HZ3 := Lib.hid hZ3
      clear hZ1 hZ2 hZ3
      go_upto_region 9 with (first
        | (refine wpList_buildFlat rfl 32 3 19 _ rfl .i64 Z1 Try.underlying32 (by kernel_rfl) (by kernel_rfl) (by rw [HZ1.out]; rfl) (by decide) (by decide) (by rw [HZ1.out]; rfl) ?_)
        | (refine wpList_buildFlat rfl 32 3 7 _ rfl .i64 Z2 Try.underlying32 (by kernel_rfl) (by kernel_rfl) (by rw [HZ2.out]; rfl) (by decide) (by decide) (by rw [HZ2.out]; rfl) ?_)
        | (refine wpList_buildFlat rfl 32 3 9 _ rfl .i64 Z3 Try.underlying32 (by kernel_rfl) (by kernel_rfl) (by rw [HZ3.out]; rfl) (by decide) (by decide) (by rw [HZ3.out]; rfl) ?_))
      obtain ⟨g1, g2, g3, WN, e1, e2, e3, eW, hEN, hbn⟩ := HM.out
      rw [← eW, ← e3, ← e2, ← e1]
      have HEN := Lib.hid hEN; have HB3 := Lib.hid (below_then HB.out hbn)
      clear e1 e2 e3 eW hEN hbn HM HB HZ1 HZ2 HZ3
      go_wp2_with fail
      go_loopw [5] (fun s wr => ∃ i : Nat, i ≤ 361 ∧ s = .int .i64 i ∧ Hid (Below WN.heap.size WN wr)) (fun s _ => 361 - (intOf s).toNat)
      case atStart => exact ⟨0, Nat.zero_le _, rfl, Lib.hid (Below.refl _ _)⟩
      case round => as_aux_lemma =>
        obtain ⟨i, hi, rfl, HI⟩ := hrel
        by_cases hli : i < 361
        · have di : decide ((i : Int) < 361) = true := by simp; omega
          go_wp2_with fail
          go_loopw [6] (fun s wr => ∃ j : Nat, j ≤ 63 ∧ s = .int .i64 j ∧ Hid (Below WN.heap.size WN wr)) (fun s _ => 63 - (intOf s).toNat)
          case atStart => exact ⟨0, Nat.zero_le _, rfl, HI⟩
          case round => as_aux_lemma =>
            clear HI
            obtain ⟨j, hj, rfl, HJ⟩ := hrel
            by_cases hlj : j < 63
            · have dj : decide ((j : Int) < 63) = true := by simp; omega
              obtain ⟨a1, h1⟩ : ∃ a : Nat, (i : Int) % 19 = (a : Int) := ⟨i % 19, by omega⟩
              obtain ⟨a2, h2⟩ : ∃ a : Nat, (i : Int) / 19 = (a : Int) := ⟨i / 19, by omega⟩
              obtain ⟨a3, h3⟩ : ∃ a : Nat, (j : Int) % 7 = (a : Int) := ⟨j % 7, by omega⟩
              obtain ⟨a4, h4⟩ : ∃ a : Nat, (j : Int) / 7 = (a : Int) := ⟨j / 7, by omega⟩
              have b1 : (a1 : Int) < 19 := by omega
              have b2 : (a2 : Int) < 19 := by omega
              have b3 : (a3 : Int) < 7 := by omega
              have b4 : (a4 : Int) < 9 := by omega
              have hen := HEN.out.up HJ.out
              obtain ⟨x1, c1⟩ := hen.1 a1 (by omega)
              obtain ⟨x2, c2⟩ := hen.1 a2 (by omega)
              obtain ⟨x3, c3⟩ := hen.2.1 a3 (by omega)
              obtain ⟨x4, c4⟩ := hen.2.2 a4 (by omega)
              have cg : ∀ dd os, Calls Try.prog 16 #[.int .i64 x1, .int .i64 x2, .int .i64 x3, .int .i64 x4] (grow (redrawn wr dd) os) fun e w'' => e = .returned (.bool true) ∧ ∃ p : Regrown, w'' = grow (redrawn wr p.d) p.os :=
                fun dd os => Calls.regrown_of (gains_any _ x1 x2 x3 x4)
              have HCG := Lib.hid cg
              clear cg hen
              go_wp2_with fail
              refine wp_region_quiet_below (by kernel_rfl) (by kernel_rfl) ?_
              have v1 := cell_regrown c1; have v2 := cell_regrown c2; have v3 := cell_regrown c3; have v4 := cell_regrown c4
              repeat (go_big_quiet_step (with_reducible exact HCG.out _ _))
              refine wpQuiet_nil ?_
              intro wz hw'
              obtain ⟨⟨dq, osq⟩, hw''⟩ := hw'
              have hbq := below_regrown wr dq osq
              obtain ⟨w9, hw9⟩ : ∃ w9, w9 = grow (redrawn wr dq) osq := ⟨_, rfl⟩
              rw [← hw9] at hbq
              have hw10 := hw''.trans hw9.symm
              subst hw10
              have HJ2 := Lib.hid (below_then HJ.out hbq)
              clear hw'' hw9 hbq HCG v1 v2 v3 v4 c1 c2 c3 c4 h1 h2 h3 h4 b1 b2 b3 b4 HJ
              go_wp2_with fail
              go_roundw
              case rel => exact ⟨j + 1, by omega, by go_num, HJ2⟩
              case measure => simp [intOf]; omega
            · have dj : decide ((j : Int) < 63) = false := by simp; omega
              go_wp2_with fail
              go_roundw
              case rel => exact ⟨i + 1, by omega, by go_num, HJ⟩
              case measure => simp [intOf]; omega
        · have di : decide ((i : Int) < 361) = false := by simp; omega
          have HB4 := Lib.hid (below_then HB3.out HI.out)
          clear HI HB3
          go_wp2_with fail
          refine (teams_any _).mono ?_
          rintro e w5 ⟨rfl, hb5⟩
          have HB5 := Lib.hid (below_then HB4.out hb5)
          clear hb5 HB4
          go_wp2_with fail
          refine (lists_any _).mono ?_
          rintro e w6 ⟨rfl, hb6⟩
          have HB6 := Lib.hid (below_then HB5.out hb6)
          clear hb6 HB5
          go_wp2_with fail
          refine (waiting_any _).mono ?_
          rintro e w7 ⟨rfl, hb7⟩
          have HB7 := Lib.hid (below_then HB6.out hb7)
          clear hb7 HB6
          go_wp2_with fail
          refine (awake_any _).mono ?_
          rintro e w8 ⟨rfl, hb8⟩
          have HB8 := Lib.hid (below_then HB7.out hb8)
          clear hb8 HB7
          go_wp2_with fail
          go_ret
          exact ⟨rfl, HB8.out⟩
end Go.Proofs.Ytkceefheeicmbaa
namespace Go.Proofs.Ytkceefheeicmbaa.ratingSmall
open Go.ChangeShapes Go.WideShapes Go.ChangeAt Go.RowKit

set_option maxRecDepth 100000 in
theorem contract (H : Type) (enc : TypeId × Value → H) (W : World) (base : Nat) (args : Array Value) (ds gs : List (DataW H)) (before : List MemPlace)
    (hval : ∀ (j : Nat) t v, Try.f11.params[j]? = some t → args[j]? = some v → Value.okWide Try.prog W .any base t v)
    (hW : DataW.Whole enc Try.prog Try.f11.params.toList Rows.ratingSmallSpec.vars false W args.toList ds gs before) :
    Calls Try.prog 11 args W fun e W' => ∃ v, e = .returned v ∧ Rows.ratingSmallSpec.post enc Try.prog Try.f11 false true false false W args v W' := by
  have hW' := hW
  obtain ⟨p, q, hA0, hV, rfl, hfz, hnd⟩ := hW
  have hA : DataW.TrodAll enc Try.prog W 0 (fun _ => true) true Try.f11.params.toList args.toList ds p := hA0
  rw [Try.params11] at hA hval
  obtain ⟨rfl, rfl, rfl⟩ := trodAll_none hA
  obtain ⟨rfl, rfl⟩ := trodVars_none hV
  clear hA0 hA
  refine (RatingSmall_walk W).mono fun e W' ⟨he, hb⟩ => ?_
  exact ⟨_, he, law_post laid_ (by kernel_rfl) rfl rfl Try.underlying4 hW' hb rfl rfl rfl⟩

set_option maxRecDepth 100000 in
theorem lifted (os : Os) (started : os.Started) (H : Type) (enc : TypeId × Value → H) :
    ReturnsInHanded {} Try.checked os 11 .any (Rows.ratingSmallSpec.pre6 enc Try.prog Try.f11 Rows.ratingSmallRow.domain false) (Rows.ratingSmallSpec.post enc Try.prog Try.f11 false true false false) := by
  refine returnsInHanded_of_change (C := Try.checked) own_ started (by kernel_rfl) Try.func11
    (ChangeSpec.witness6 (enc := enc) (C := Try.checked) false ⟨#[], #[], []⟩ 8 (by kernel_rfl) (by kernel_rfl) (by kernel_rfl) (by kernel_rfl)) ?_
  intro W base args ds gs before hval hW _ _
  exact contract H enc W base args ds gs before hval hW

/-- ████ RatingSmall: for every input. ████ -/
theorem holds : Rows.RatingSmallSaid :=
  OpenClaim.holds_of_wide 11 Try.f11 rfl rfl rfl rfl rfl rfl rfl ⟨rfl, rfl, rfl, rfl, rfl⟩ rfl rfl rfl rfl rfl (by kernel_rfl) Try.func11 (by kernel_rfl)
    (of_decide_eq_true (by kernel_rfl)) (by unfold Func.isWrapper; first | (rw [if_pos (by decide +kernel)]; kernel_rfl) | (rw [if_neg (by decide +kernel)]; exact ⟨rfl, rfl⟩))
    (fun os started H enc _ => lifted os started H enc)
#print axioms holds
end Go.Proofs.Ytkceefheeicmbaa.ratingSmall
