/-
  WALKS of the closure of RatingTeams, and RatingTeams.
-/
import Derived.Test.YtkceefheeicmbaaRatV
import Derived.Test.YtkceefheeicmbaaRatP
import Derived.Lib.QuietBelow
import Derived.BigQuiet
namespace Go.Proofs.Ytkceefheeicmbaa
open Go.RowKit Go.Sort

def freeB (a b k : Int) : Bool := decide (k ≤ a) && decide (a ≤ 4000 - k) && decide (k ≤ b) && decide (b ≤ 4000 - k)

set_option maxHeartbeats 1000000 in
theorem free_any (w : World) (bA bK bB n c d ga oa gb ob i : Nat) (a b k : Int) (hA : w.cell? ⟨bA, 0, none⟩ = some (.slice (some ⟨ga, oa, none⟩) n c)) (hK : w.cell? ⟨bK, 0, none⟩ = some (.int .i64 k)) (hB : w.cell? ⟨bB, 0, none⟩ = some (.slice (some ⟨gb, ob, none⟩) n d))
    (ha : w.cell? ⟨ga, oa + i, none⟩ = some (.int .i64 a)) (hb : w.cell? ⟨gb, ob + i, none⟩ = some (.int .i64 b)) (hi : i < n) (_ : n ≤ 8) (hk : 1 ≤ k ∧ k ≤ 64) (R : Bool) (hR : R = freeB a b k) :
    Calls Try.prog 25 #[.int .i64 i, .pointer (some ⟨bA, 0, none⟩), .pointer (some ⟨bK, 0, none⟩), .pointer (some ⟨bB, 0, none⟩)] w (SaysTo w R) := by
  obtain ⟨k0, k1⟩ := hk
  have hi2 : (i : Int) < (n : Int) := by omega
  have hw : IntKind.i64.wrap (4000 - k) = 4000 - k := IntWalk.i64_in _ (by omega)
  have fin : ∀ (R' : Bool) (q : Nat), R' = freeB a b k → SaysTo w R (.returned (.bool R')) (w.drewN q) := fun R' q h => ⟨by rw [hR, h], below_drewN' _ _⟩
  have FIN := Lib.hid fin
  clear fin hR
  by_cases h1 : k ≤ a
  · have d1 : decide (k ≤ a) = true := by simpa using h1
    by_cases h2 : a ≤ 4000 - k
    · have d2 : decide (a ≤ 4000 - k) = true := by simpa using h2
      by_cases h3 : k ≤ b
      · have d3 : decide (k ≤ b) = true := by simpa using h3
        by_cases h4 : b ≤ 4000 - k
        · have d4 : decide (b ≤ 4000 - k) = true := by simpa using h4
          have hf : true = freeB a b k := by unfold freeB; rw [d1, d2, d3, d4]; rfl
          have HF := Lib.hid hf
          clear hf h1 h2 h3 h4
          go_enter Try.func25, Try.ntmps25
          go_wp2_with fail
          go_quiet (fail)
          go_wp2_with fail
          go_ret
          exact FIN.out _ _ HF.out
        · have d4 : decide (b ≤ 4000 - k) = false := by simpa using h4
          have hf : false = freeB a b k := by unfold freeB; rw [d1, d2, d3, d4]; rfl
          have HF := Lib.hid hf
          clear hf h1 h2 h3 h4
          go_enter Try.func25, Try.ntmps25
          go_wp2_with fail
          go_quiet (fail)
          go_wp2_with fail
          go_ret
          exact FIN.out _ _ HF.out
      · have d3 : decide (k ≤ b) = false := by simpa using h3
        have hf : false = freeB a b k := by unfold freeB; rw [d1, d2, d3]; rfl
        have HF := Lib.hid hf
        clear hf h1 h2 h3
        go_enter Try.func25, Try.ntmps25
        go_wp2_with fail
        go_quiet (fail)
        go_wp2_with fail
        go_ret
        exact FIN.out _ _ HF.out
    · have d2 : decide (a ≤ 4000 - k) = false := by simpa using h2
      have hf : false = freeB a b k := by unfold freeB; rw [d1, d2]; rfl
      have HF := Lib.hid hf
      clear hf h1 h2
      go_enter Try.func25, Try.ntmps25
      go_wp2_with fail
      go_quiet (fail)
      go_wp2_with fail
      go_ret
      exact FIN.out _ _ HF.out
  · have d1 : decide (k ≤ a) = false := by simpa using h1
    have hf : false = freeB a b k := by unfold freeB; rw [d1]; rfl
    have HF := Lib.hid hf
    clear hf h1
    go_enter Try.func25, Try.ntmps25
    go_wp2_with fail
    go_quiet (fail)
    go_wp2_with fail
    go_ret
    exact FIN.out _ _ HF.out

theorem one_list {l : List Int} {a : Int} (h : l.length = 1) (h0 : l[0]? = some a) : l = [a] := by
  match l, h with
  | [x], _ => simpa using h0
theorem Sl.int0 {w : World} {n c : Nat} {A : Option Addr} {xs : List Int} (h : Sl w (fun _ => 0) 0 1 A n c (ints xs)) (hn : 0 < n) : ∃ g off, A = some ⟨g, off, none⟩ ∧ g < w.heap.size ∧ ∀ (i : Nat) x, xs[i]? = some x → w.cell? ⟨g, off + i, none⟩ = some (.int .i64 x) := by
  obtain ⟨g, off, h1, -, h2, h3⟩ := h.2.2.2 hn
  exact ⟨g, off, h1, h2, fun i x hx => h3 i _ (ints_get hx)⟩

set_option maxRecDepth 100000 in
set_option maxHeartbeats 8000000 in
theorem RatingTeams_walk (w : World) (A B : Option Addr) (n c m d : Nat) (xs ys : List Int) (hS : Sl w (fun _ => 0) 0 1 A n c (ints xs)) (hT : Sl w (fun _ => 0) 0 1 B m d (ints ys)) (s k : Int) :
    Calls Try.prog 7 #[.slice A n c, .slice B m d, .int .i64 s, .int .i64 k] w (SaysTo w true) := by
  have hl1 : xs.length = n := by have := hS.1; rw [len_ints] at this; omega
  have hl2 : ys.length = m := by have := hT.1; rw [len_ints] at this; omega
  obtain ⟨W, hW⟩ : ∃ W, W = ((w.alloc (.cells #[.slice A n c] 32)).alloc (.cells #[.slice B m d] 32)).alloc (.cells #[.int .i64 k] 3) := ⟨_, rfl⟩
  have b1 := ((Blk.new w 32 #[.slice A n c]).alloc (.cells #[.slice B m d] 32)).alloc (.cells #[.int .i64 k] 3)
  have b2 := (Blk.new (w.alloc (.cells #[.slice A n c] 32)) 32 #[.slice B m d]).alloc (.cells #[.int .i64 k] 3)
  have b3 := Blk.new ((w.alloc (.cells #[.slice A n c] 32)).alloc (.cells #[.slice B m d] 32)) 3 #[.int .i64 k]
  simp only [World.size_alloc] at b2 b3
  have hbw := (((Below.refl w.heap.size w).alloc (Nat.le_refl _) (.cells #[.slice A n c] 32)).alloc (by simp) (.cells #[.slice B m d] 32)).alloc (by simp; omega) (.cells #[.int .i64 k] 3)
  rw [← hW] at b1 b2 b3 hbw
  obtain ⟨bA, hbA⟩ : ∃ b, b = w.heap.size := ⟨_, rfl⟩
  rw [← hbA] at b1 b2 b3
  have hS1 := hS.up hbw; have hT1 := hT.up hbw
  have HW := Lib.hid hW; have HBW := Lib.hid hbw; have HL1 := Lib.hid hl1; have HL2 := Lib.hid hl2; have HS1 := Lib.hid hS1; have HT1 := Lib.hid hT1; have HBA := Lib.hid hbA
  have HB1 := Lib.hid b1; have HB2 := Lib.hid b2; have HB3 := Lib.hid b3
  clear hW hbw hl1 hl2 hS hT hS1 hT1 b1 b2 b3 hbA
  go_enter Try.func7, Try.ntmps7
  go_wp2_with fail
  rw [← HW.out, ← HBA.out]
  refine (awake_any _).mono ?_
  rintro e w2 ⟨rfl, hb2⟩
  have HBW2 := Lib.hid (below_then HBW.out hb2)
  have HS2 := Lib.hid (HS1.out.up hb2); have HT2 := Lib.hid (HT1.out.up hb2)
  have HC1 := Lib.hid (HB1.out.below hb2 HB1.out.lt); have HC2 := Lib.hid (HB2.out.below hb2 HB2.out.lt); have HC3 := Lib.hid (HB3.out.below hb2 HB3.out.lt)
  clear hb2 HBW HS1 HT1 HB1 HB2 HB3 HW
  have e1 := HC1.out.cell 0; have e2 := HC2.out.cell 0; have e3 := HC3.out.cell 0
  simp only [List.getElem?_toArray, List.getElem?_cons_zero] at e1 e2 e3
  by_cases hok : teamOk xs ys s k = true
  · have hok' := teamOk_iff.1 hok
    obtain ⟨o1, o2, o3, o4, o5, o6, o7⟩ := hok'
    have hnm : n = m := by have := HL1.out; have := HL2.out; omega
    subst hnm
    have hn1 : 1 ≤ n := by have := HL1.out; omega
    have hn8 : n ≤ 8 := by have := HL1.out; omega
    obtain ⟨X, hX⟩ : ∃ X, X = matchX xs ys s k := ⟨_, rfl⟩
    obtain ⟨Y, hY⟩ : ∃ Y, Y = matchY xs ys s k := ⟨_, rfl⟩
    have hm := match0 w2 A B n c d xs ys HS2.out HT2.out s k hok X Y hX hY
    have hget := fun i a b h1 h2 => team_get hok (i := i) (a := a) (b := b) h1 h2
    rw [← hX, ← hY] at hget
    have HM := Lib.hid hm; have HG := Lib.hid hget; have HOK := Lib.hid hok; have HK := Lib.hid (isWt_iff.1 o7); have HSC := Lib.hid (isSc_iff.1 o6)
    clear hm hget hX hY hok o1 o2 o3 o4 o5 o6 o7
    go_wp2_with fail
    refine HM.out.mono ?_
    rintro e w3 ⟨gx, cx, gy, cy, rfl, hb3, hx3, hy3⟩
    have HBW3 := Lib.hid (below_then HBW2.out hb3)
    have HS3 := Lib.hid (HS2.out.up hb3); have HT3 := Lib.hid (HT2.out.up hb3)
    have HD1 := Lib.hid (HC1.out.below hb3 HC1.out.lt); have HD2 := Lib.hid (HC2.out.below hb3 HC2.out.lt); have HD3 := Lib.hid (HC3.out.below hb3 HC3.out.lt)
    have HX3 := Lib.hid hx3; have HY3 := Lib.hid hy3
    clear hb3 HBW2 HS2 HT2 HC1 HC2 HC3 e1 e2 e3 hx3 hy3 HM
    have e1 := HD1.out.cell 0; have e2 := HD2.out.cell 0; have e3 := HD3.out.cell 0
    simp only [List.getElem?_toArray, List.getElem?_cons_zero] at e1 e2 e3
    have q1 : ((n : Int) != (n : Int)) = false := by simp
    have q2 : decide ((n : Int) < 1) = false := by simp; omega
    have q3 : decide (8 < (n : Int)) = false := by simp; omega
    go_wp2_with fail
    obtain ⟨ga, oa, rfl, hga, ha3⟩ := HS3.out.int0 (by omega)
    obtain ⟨gb, ob, rfl, hgb, hb3⟩ := HT3.out.int0 (by omega)
    obtain ⟨gx', ox, hx', hgx, hx3⟩ := HX3.out.int0 (by omega)
    injection hx' with hx'; injection hx' with hx1 hx2; subst hx1 hx2
    obtain ⟨gy', oy, hy', hgy, hy3⟩ := HY3.out.int0 (by omega)
    injection hy' with hy'; injection hy' with hy1 hy2; subst hy1 hy2
    obtain ⟨a0, hxa0⟩ : ∃ a, xs[0]? = some a := ⟨_, List.getElem?_eq_getElem (by rw [HL1.out]; omega)⟩
    obtain ⟨b0, hyb0⟩ : ∃ a, ys[0]? = some a := ⟨_, List.getElem?_eq_getElem (by rw [HL2.out]; omega)⟩
    have HCA := Lib.hid ha3; have HCB := Lib.hid hb3; have HCX := Lib.hid hx3; have HCY := Lib.hid hy3; have HA0 := Lib.hid hxa0; have HB0 := Lib.hid hyb0
    clear ha3 hb3 hx3 hy3 hxa0 hyb0
    go_loopw [13] (fun t wr => ∃ i : Nat, i ≤ n ∧ t = .int .i64 i ∧ Hid (Below w3.heap.size w3 wr)) (fun t _ => n - (intOf t).toNat)
    case atStart => exact ⟨0, Nat.zero_le _, rfl, Lib.hid (Below.refl _ _)⟩
    case round => as_aux_lemma =>
      obtain ⟨i, hi, rfl, HI⟩ := hrel
      have f1 := (HD1.out.below HI.out HD1.out.lt).cell 0; have f2 := (HD2.out.below HI.out HD2.out.lt).cell 0; have f3 := (HD3.out.below HI.out HD3.out.lt).cell 0
      simp only [List.getElem?_toArray, List.getElem?_cons_zero] at f1 f2 f3
      obtain ⟨g0, gx0, gy0, ra1, ra2, rb1, rb2, -, -, -, -, hg0, hfr0⟩ := HG.out 0 a0 b0 HA0.out HB0.out
      have ca0 := (HI.out.cell (p := ⟨ga, oa + 0, none⟩) hga).trans (HCA.out 0 a0 HA0.out)
      have cb0 := (HI.out.cell (p := ⟨gb, ob + 0, none⟩) hgb).trans (HCB.out 0 b0 HB0.out)
      have cx0 := (HI.out.cell (p := ⟨gx, 0 + 0, none⟩) hgx).trans (HCX.out 0 _ gx0)
      by_cases hlt : i < n
      · obtain ⟨a, hxa⟩ : ∃ a, xs[i]? = some a := ⟨_, List.getElem?_eq_getElem (by rw [HL1.out]; omega)⟩
        obtain ⟨b, hyb⟩ : ∃ a, ys[i]? = some a := ⟨_, List.getElem?_eq_getElem (by rw [HL2.out]; omega)⟩
        obtain ⟨gi, gxi, gyi, a1, a2, b1, b2, x1, x2, y1, y2, hgi, hfri⟩ := HG.out i a b hxa hyb
        have ca := (HI.out.cell (p := ⟨ga, oa + i, none⟩) hga).trans (HCA.out i a hxa)
        have cb := (HI.out.cell (p := ⟨gb, ob + i, none⟩) hgb).trans (HCB.out i b hyb)
        have cx := (HI.out.cell (p := ⟨gx, 0 + i, none⟩) hgx).trans (HCX.out i _ gxi)
        have cy := (HI.out.cell (p := ⟨gy, 0 + i, none⟩) hgy).trans (HCY.out i _ gyi)
        obtain ⟨X', hX'⟩ : ∃ x, x = a + gi := ⟨_, rfl⟩
        obtain ⟨Y', hY'⟩ : ∃ x, x = b - gi := ⟨_, rfl⟩
        obtain ⟨X0, hX0⟩ : ∃ x, x = a0 + g0 := ⟨_, rfl⟩
        rw [← hX'] at cx x1 x2
        rw [← hY'] at cy y1 y2
        rw [← hX0] at cx0
        obtain ⟨k0, k1⟩ := HK.out
        have hdiff : freeB a0 b0 k = true → freeB a b k = true → X' - a = X0 - a0 := fun h1 h2 => by
          unfold freeB at h1 h2
          simp only [Bool.and_eq_true, decide_eq_true_eq, and_assoc] at h1 h2
          have e1 := hfr0 h1.1 h1.2.1 h1.2.2.1 h1.2.2.2
          have e2 := hfri h2.1 h2.2.1 h2.2.2.1 h2.2.2.2
          omega
        obtain ⟨S, hS⟩ : ∃ x, x = a + b := ⟨_, rfl⟩
        have w1 : IntKind.i64.wrap (X' + Y') = S := by rw [hS]; exact (IntWalk.i64_in _ (by omega)).trans (by omega)
        have w2' : IntKind.i64.wrap (a + b) = S := by rw [hS]; exact IntWalk.i64_in _ (by omega)
        obtain ⟨D, hD⟩ : ∃ x, x = X' - a := ⟨_, rfl⟩
        obtain ⟨D0, hD0⟩ : ∃ x, x = X0 - a0 := ⟨_, rfl⟩
        have hX0b : 0 ≤ X0 ∧ X0 ≤ 4000 := by
          obtain ⟨g0', gx0', -, -, -, -, -, z1, z2, -, -, -, -⟩ := HG.out 0 a0 b0 HA0.out HB0.out
          rw [gx0] at gx0'; injection gx0' with e; rw [hX0, e]; exact ⟨z1, z2⟩
        have w3' : IntKind.i64.wrap (X' - a) = D := by rw [hD]; exact IntWalk.i64_in _ (by omega)
        have w4 : IntKind.i64.wrap (X0 - a0) = D0 := by rw [hD0]; exact IntWalk.i64_in _ (by omega)
        rw [← hD, ← hD0] at hdiff
        have k0' : ∀ dd os, Calls Try.prog 25 #[.int .i64 0, .pointer (some ⟨bA, 0, none⟩), .pointer (some ⟨bA + 1 + 1, 0, none⟩), .pointer (some ⟨bA + 1, 0, none⟩)] (grow (redrawn wr dd) os) fun e w'' => e = .returned (.bool (freeB a0 b0 k)) ∧ ∃ p : Regrown, w'' = grow (redrawn wr p.d) p.os :=
          fun dd os => Calls.regrown_of (free_any _ bA (bA + 1 + 1) (bA + 1) n c d ga oa gb ob 0 a0 b0 k (cell_regrown f1 dd os) (cell_regrown f3 dd os) (cell_regrown f2 dd os) (cell_regrown ca0 dd os) (cell_regrown cb0 dd os) (by omega) hn8 ⟨k0, k1⟩ _ rfl)
        have ki' : ∀ dd os, Calls Try.prog 25 #[.int .i64 i, .pointer (some ⟨bA, 0, none⟩), .pointer (some ⟨bA + 1 + 1, 0, none⟩), .pointer (some ⟨bA + 1, 0, none⟩)] (grow (redrawn wr dd) os) fun e w'' => e = .returned (.bool (freeB a b k)) ∧ ∃ p : Regrown, w'' = grow (redrawn wr p.d) p.os :=
          fun dd os => Calls.regrown_of (free_any _ bA (bA + 1 + 1) (bA + 1) n c d ga oa gb ob i a b k (cell_regrown f1 dd os) (cell_regrown f3 dd os) (cell_regrown f2 dd os) (cell_regrown ca dd os) (cell_regrown cb dd os) hlt hn8 ⟨k0, k1⟩ _ rfl)
        rw [Nat.zero_add] at cx cy cx0
        rw [Nat.add_zero] at ca0 cb0
        obtain ⟨R0, hR0⟩ : ∃ r, r = freeB a0 b0 k := ⟨_, rfl⟩
        obtain ⟨Ri, hRi⟩ : ∃ r, r = freeB a b k := ⟨_, rfl⟩
        rw [← hR0] at hdiff k0'
        rw [← hRi] at hdiff ki'
        have n1 : (S != S) = false := by simp
        have n2 : decide (X' < 0) = false := by simp; omega
        have n3 : decide (4000 < X') = false := by simp; omega
        have n4 : decide (Y' < 0) = false := by simp; omega
        have n5 : decide (4000 < Y') = false := by simp; omega
        have hi2 : (i : Int) < (n : Int) := by omega
        have hi3 : (0 : Int) < (n : Int) := by omega
        have hi4 : 0 < n := by omega
        have K0 := Lib.hid k0'; have KI := Lib.hid ki'
        have W1 := Lib.hid w1; have W2 := Lib.hid w2'; have W3 := Lib.hid w3'; have W4 := Lib.hid w4; have HDF := Lib.hid hdiff
        clear k0' ki' w1 w2' w3' w4 hdiff hS hX' hY' hX0 hD hD0 hR0 hRi gxi gyi gx0 gy0 hxa hyb hgi hfri hg0 hfr0
        go_wp2_with fail
        refine wp_region_quiet_below (by kernel_rfl) (by kernel_rfl) ?_
        have v1 := cell_regrown f1; have v2 := cell_regrown f2; have v3 := cell_regrown f3; have v4 := cell_regrown ca; have v5 := cell_regrown cb; have v6 := cell_regrown cx; have v7 := cell_regrown cy; have v8 := cell_regrown ca0; have v9 := cell_regrown cx0
        have w1 := W1.out; have w2 := W2.out; have w3 := W3.out; have w4 := W4.out
        clear a1 a2 b1 b2 x1 x2 y1 y2 k0 k1 hX0b ra1 ra2 rb1 rb2
        cases R0
        · repeat (go_big_quiet_step (first | with_reducible exact K0.out _ _ | with_reducible exact KI.out _ _))
          refine wpQuiet_nil ?_
          intro _ hw'
          obtain ⟨⟨dq, osq⟩, hw''⟩ := hw'
          have HF := Lib.hid (below_then HI.out (below_regrown wr dq osq))
          subst hw''
          clear w1 w2 w3 w4 v1 v2 v3 v4 v5 v6 v7 v8 v9
          go_wp2_with fail
          go_roundw
          case rel => exact ⟨i + 1, by omega, by go_num, HF⟩
          case measure => simp [intOf]; omega
        · cases Ri
          · repeat (go_big_quiet_step (first | with_reducible exact K0.out _ _ | with_reducible exact KI.out _ _))
            refine wpQuiet_nil ?_
            intro _ hw'
            obtain ⟨⟨dq, osq⟩, hw''⟩ := hw'
            have HF := Lib.hid (below_then HI.out (below_regrown wr dq osq))
            subst hw''
            clear w1 w2 w3 w4 v1 v2 v3 v4 v5 v6 v7 v8 v9
            go_wp2_with fail
            go_roundw
            case rel => exact ⟨i + 1, by omega, by go_num, HF⟩
            case measure => simp [intOf]; omega
          · obtain rfl : D = D0 := HDF.out rfl rfl
            have n6 : (D != D) = false := by simp
            repeat (go_big_quiet_step (first | with_reducible exact K0.out _ _ | with_reducible exact KI.out _ _))
            refine wpQuiet_nil ?_
            intro _ hw'
            obtain ⟨⟨dq, osq⟩, hw''⟩ := hw'
            have HF := Lib.hid (below_then HI.out (below_regrown wr dq osq))
            subst hw''
            clear w1 w2 w3 w4 v1 v2 v3 v4 v5 v6 v7 v8 v9
            go_wp2_with fail
            go_roundw
            case rel => exact ⟨i + 1, by omega, by go_num, HF⟩
            case measure => simp [intOf]; omega
      · obtain rfl : n = i := by omega
        obtain ⟨k0, k1⟩ := HK.out
        obtain ⟨R, hR⟩ : ∃ R, R = exchM a0 b0 s (expM (a0 - b0)) k := ⟨_, rfl⟩
        have cg : ∀ dd os, Calls Try.prog 23 #[.int .i64 a0, .int .i64 b0, .int .i64 s, .int .i64 k] (grow (redrawn wr dd) os) fun e w'' => e = .returned (.tuple #[.int .i64 R, .int .i64 0]) ∧ ∃ p : Regrown, w'' = grow (redrawn wr p.d) p.os :=
          fun dd os => Calls.regrown_of (Gain_ok0 _ a0 b0 s k R ⟨ra1, ra2⟩ ⟨rb1, rb2⟩ HSC.out ⟨k0, k1⟩ hR)
        obtain ⟨X0, hX0⟩ : ∃ x, x = a0 + g0 := ⟨_, rfl⟩
        rw [← hX0] at cx0
        have hX0b : 0 ≤ X0 ∧ X0 ≤ 4000 := by
          obtain ⟨g0', gx0', -, -, -, -, -, z1, z2, -, -, -, -⟩ := HG.out 0 a0 b0 HA0.out HB0.out
          rw [gx0] at gx0'; injection gx0' with e; rw [hX0, e]; exact ⟨z1, z2⟩
        have hone : n = 1 → a0 + R = X0 := fun h1 => by
          rw [hX0, hg0, hR, one_list (by rw [HL1.out]; exact h1) HA0.out, one_list (by rw [HL2.out]; exact h1) HB0.out, team_one]
        rw [Nat.zero_add] at cx0
        rw [Nat.add_zero] at ca0 cb0
        have hi3 : (0 : Int) < (n : Int) := by omega
        have hi4 : 0 < n := by omega
        have CG := Lib.hid cg; have HONE := Lib.hid hone
        clear cg hone hR hX0 gx0 gy0 hg0 hfr0
        go_wp2_with fail
        refine wp_region_quiet_below (by kernel_rfl) (by kernel_rfl) ?_
        have v1 := cell_regrown f1; have v2 := cell_regrown f2; have v3 := cell_regrown f3; have v8 := cell_regrown ca0; have v9 := cell_regrown cb0
        repeat (go_big_quiet_step (with_reducible exact CG.out _ _))
        refine wpQuiet_nil ?_
        intro _ hw'
        obtain ⟨⟨dq, osq⟩, hw''⟩ := hw'
        have hbq := below_regrown wr dq osq
        obtain ⟨w9, hw9⟩ : ∃ w9, w9 = grow (redrawn wr dq) osq := ⟨_, rfl⟩
        rw [← hw9] at hbq
        have hw10 := hw''.trans hw9.symm
        subst hw10
        clear hw'' hw9 v1 v2 v3 v8 v9
        have lt1 := World.block_lt_of_cell? _ _ f1
        have lta := World.block_lt_of_cell? _ _ ca0
        have ltx := World.block_lt_of_cell? _ _ cx0
        have u1 := (hbq.cell lt1).trans f1
        have ua := (hbq.cell lta).trans ca0
        have ux := (hbq.cell ltx).trans cx0
        have HF := Lib.hid (below_then HI.out hbq)
        clear hbq lt1 lta ltx f1 f2 f3 ca0 cb0 cx0
        by_cases h1 : n = 1
        · subst h1
          have hsum := HONE.out rfl
          have wq : IntKind.i64.wrap (a0 + R) = X0 := by rw [hsum]; exact IntWalk.i64_in _ (by omega)
          have q9 : (X0 == X0) = true := by simp
          clear hsum
          go_wp2_with fail
          go_quiet (fail)
          go_wp2_with fail
          go_ret
          exact ⟨rfl, Below.drewK (below_then HBW3.out HF.out) _⟩
        · have d1 : decide ((1 : Int) < (n : Int)) = true := by simp; omega
          go_wp2_with fail
          go_quiet (fail)
          go_wp2_with fail
          go_ret
          exact ⟨rfl, Below.drewK (below_then HBW3.out HF.out) _⟩
  · have hbad : teamOk xs ys s k = false := by simpa using hok
    have hm := Match_bad w2 A B n c m d xs ys HS2.out HT2.out s k hbad
    have HM := Lib.hid hm
    clear hm hok hbad
    go_wp2_with fail
    refine HM.out.mono ?_
    rintro e w3 ⟨rfl, rfl⟩
    go_wp2_with fail
    go_ret
    exact ⟨rfl, HBW2.out⟩
end Go.Proofs.Ytkceefheeicmbaa
