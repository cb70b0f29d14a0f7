/-
  WALKS of the reference's Step and Run, whatever is handed to them.
-/
import Derived.Test.YtkiknbjokknemaaGreatBudTV
import Derived.Test.YtkiknbjokknemaaGreatBudTW
import Derived.Test.YtkiknbjokknemaaGreatBudV
namespace Go.Proofs.YtkiknbjokknemaaGreat
open Go.RowKit Go.Maps

/-- What Step and Run come to, valid or not. -/
def stepU (l : List It) (ws : List (Int × Int)) (k : Int) : List It × List Int × Int := if validB l = true ∧ rightB ws = true ∧ 0 ≤ k then ((stepM l ws k.toNat).1, (stepM l ws k.toNat).2, 0) else ([], [], 2)
def runU (l : List It) (ws : List (Int × Int)) (k s : Int) : List It × List (List Int) × Int := if validB l = true ∧ rightB ws = true ∧ 0 ≤ k ∧ 0 ≤ s ∧ s ≤ 10000 then ((runM l ws k.toNat s.toNat).1, (runM l ws k.toNat s.toNat).2, 0) else ([], [], 2)

theorem stepU_ok {l : List It} {ws : List (Int × Int)} (hv : ValidP l) (hr : RightP ws) {k : Nat} : stepU l ws (k : Int) = ((stepM l ws k).1, (stepM l ws k).2, 0) := by
  have e : stepU l ws (k : Int) = ((stepM l ws (k : Int).toNat).1, (stepM l ws (k : Int).toNat).2, 0) := if_pos ⟨(validB_iff l).2 hv, (rightB_iff ws).2 hr, Int.natCast_nonneg _⟩
  rw [e, Int.toNat_natCast]

theorem Row.fresh {w w' : World} {o' : Own} {τ : Nat} {e : TypeId} {sz n c : Nat} {A : Option Addr} {xs : List Value} (h : Row w' o' τ e sz A n c xs) (hs : Step [] w (fun _ => 0) w' o') (ht : τ ≠ 0) : ∀ ad, A = some ad → w.heap.size ≤ ad.block := fun ad had => by
  rcases Nat.lt_or_ge ad.block w.heap.size with q | q
  · have := hs.own _ q
    rw [h.2 ad had] at this
    exact absurd this ht
  · exact q

def RStepU (w : World) (l : List It) (ws : List (Int × Int)) (k : Int) (e : Ending) (w' : World) : Prop := ∃ OA on oc SA sn sc o',
  e = .returned (.tuple #[.slice OA on oc, .slice SA sn sc, .int .i64 (stepU l ws k).2.2]) ∧ Step [] w (fun _ => 0) w' o' ∧
    Row w' o' 40 72 3 OA on oc (itms (stepU l ws k).1) ∧ Row w' o' 41 3 1 SA sn sc (ints (stepU l ws k).2.1)

theorem rstepU_bad {w w' : World} {l : List It} {ws : List (Int × Int)} {k : Int} (h : ¬ (validB l = true ∧ rightB ws = true ∧ 0 ≤ k)) (hb : Below w.heap.size w w') : RStepU w l ws k (.returned (.tuple #[.slice none 0 0, .slice none 0 0, .int .i64 2])) w' := by
  have e : stepU l ws k = ([], [], 2) := if_neg h
  refine ⟨none, 0, 0, none, 0, 0, _, by rw [e], (Step.refl [] w (fun _ => 0)).below hb 6, ?_, ?_⟩
  · rw [e]; exact Row.nil_ _ _ _ _ _
  · rw [e]; exact Row.nil_ _ _ _ _ _

set_option maxRecDepth 100000 in
set_option maxHeartbeats 4000000 in
theorem RStep_any (w : World) (A : Option Addr) (n c : Nat) (l : List It) (hA : Sl w (fun _ => 0) 0 3 A n c (itms l)) (hn : n ≤ 1000) (B : Option Addr) (m d : Nat) (ws : List (Int × Int)) (hB : Sl w (fun _ => 0) 0 2 B m d (wnts ws)) (k : Int) (hk0 : -9223372036854775808 ≤ k) (hk : k ≤ 9223372036854775807) :
    Calls Tryz.prog 11 #[.slice A n c, .slice B m d, .int .i64 k] w (RStepU w l ws k) := by
  have hval : ∀ W, Below w.heap.size w W → Calls Tryz.prog 18 #[.slice A n c] W (SaysTo W (validB l)) := fun W hb => RValid_any W _ 0 A n c l (hA.step ((Step.refl [] w (fun _ => 0)).below hb 5) (by simp)) hn
  have hrgt : ∀ W, Below w.heap.size w W → Calls Tryz.prog 16 #[.slice B m d] W (SaysTo W (rightB ws)) := fun W hb => RRight_any W _ 0 B m d ws (hB.step ((Step.refl [] w (fun _ => 0)).below hb 5) (by simp))
  by_cases hok : validB l = true ∧ rightB ws = true ∧ 0 ≤ k
  · obtain ⟨h1, h2, h3⟩ := hok
    rw [h1] at hval
    rw [h2] at hrgt
    obtain ⟨q, rfl⟩ := Int.eq_ofNat_of_zero_le h3
    have e : stepU l ws (q : Int) = ((stepM l ws q).1, (stepM l ws q).2, 0) := if_pos ⟨h1, h2, h3⟩
    refine (RStep_of w A n c l hA B m d ws hB ((validB_iff l).1 h1) ((rightB_iff ws).1 h2) q (by omega) hval hrgt).mono ?_
    rintro e' w' ⟨OA, oc, SA, sc, o', rfl, r1, r2, r3⟩
    exact ⟨OA, _, oc, SA, _, sc, o', by rw [e], r1, by rw [e]; exact r2, by rw [e]; exact r3⟩
  · have hfin := fun W (hb : Below w.heap.size w W) => rstepU_bad hok hb
    have HF := Lib.hid hfin
    clear hfin
    cases hv : validB l with
    | false =>
      rw [hv] at hval
      have HV := Lib.hid hval
      clear hval hrgt hA hB hok hv
      go_enter Tryz.func11, Tryz.ntmps11
      go_wp2_with fail
      refine (HV.out w (Below.refl _ _)).mono ?_
      rintro e w1 ⟨rfl, hb⟩
      have HB := Lib.hid (HF.out _ hb)
      clear hb
      go_wp2_with fail
      go_ret3
      exact HB.out
    | true =>
      rw [hv] at hval
      cases hr : rightB ws with
      | false =>
        rw [hr] at hrgt
        have HV := Lib.hid hval; have HR := Lib.hid hrgt
        clear hval hrgt hA hB hok hv hr
        go_enter Tryz.func11, Tryz.ntmps11
        go_wp2_with fail
        refine (HV.out w (Below.refl _ _)).mono ?_
        rintro e w1 ⟨rfl, hb⟩
        have HB := Lib.hid hb
        clear hb
        go_wp2_with fail
        refine (HR.out w1 HB.out).mono ?_
        rintro e w2 ⟨rfl, hb⟩
        have HB2 := Lib.hid (HF.out _ (HB.out.trans (hb.mono HB.out.size)))
        clear hb
        go_wp2_with fail
        go_ret3
        exact HB2.out
      | true =>
        rw [hr] at hrgt
        have hk2 : k < 0 := by
          rcases Int.lt_or_le k 0 with q | q
          · exact q
          · exact absurd ⟨hv, hr, q⟩ hok
        have hd : decide (k < 0) = true := decide_eq_true hk2
        have HV := Lib.hid hval; have HR := Lib.hid hrgt
        clear hval hrgt hA hB hok hv hr
        go_enter Tryz.func11, Tryz.ntmps11
        go_wp2_with fail
        refine (HV.out w (Below.refl _ _)).mono ?_
        rintro e w1 ⟨rfl, hb⟩
        have HB := Lib.hid hb
        clear hb
        go_wp2_with fail
        refine (HR.out w1 HB.out).mono ?_
        rintro e w2 ⟨rfl, hb⟩
        have HB2 := Lib.hid (HF.out _ (HB.out.trans (hb.mono HB.out.size)))
        clear hb
        go_wp2_with fail
        go_ret3
        exact HB2.out

theorem row_lit0 (w : World) (o : Own) (τ : Nat) (e : TypeId) (sz : Nat) : Row (w.alloc (.cells #[] e)) (ext o w.heap.size τ) τ e sz (some ⟨w.heap.size, 0, none⟩) 0 0 [] :=
  ⟨⟨by simp, .inr ⟨w.heap.size, 0, #[], rfl, Nat.zero_le _, Blk.new w e #[], Nat.le_refl _, by decide, by simp, by simp⟩⟩, fun ad had => by injection had with had; subst had; exact ext_ge (Nat.le_refl _)⟩
theorem itms_one (l : List It) : ∀ u ∈ itms l, u.oneCell' = true := by
  intro u hu
  simp only [itms, List.mem_flatMap] at hu
  obtain ⟨x, -, hx⟩ := hu
  simp at hx
  rcases hx with rfl | rfl | rfl <;> rfl

def RRunU (w : World) (l : List It) (ws : List (Int × Int)) (k s : Int) (e : Ending) (w' : World) : Prop := ∃ OA on oc LA ln lc o',
  e = .returned (.tuple #[.slice OA on oc, .slice LA ln lc, .int .i64 (runU l ws k s).2.2]) ∧ Step [] w (fun _ => 0) w' o' ∧
    Sl w' o' 6 3 OA on oc (itms (runU l ws k s).1) ∧ ListsAt w' o' 7 6 LA ln lc (runU l ws k s).2.1

def RRunTo (w : World) (l : List It) (ws : List (Int × Int)) (k s : Nat) (e : Ending) (w' : World) : Prop := ∃ OA on oc LA lc o', e = .returned (.tuple #[.slice OA on oc, .slice LA s lc, .int .i64 0]) ∧ Step [] w (fun _ => 0) w' o' ∧ Sl w' o' 6 3 OA on oc (itms (runM l ws k s).1) ∧ ListsAt w' o' 7 6 LA s lc (runM l ws k s).2

set_option maxRecDepth 100000 in
set_option maxHeartbeats 4000000 in
theorem RRun_ok (w : World) (A : Option Addr) (n c : Nat) (l : List It) (hA : Sl w (fun _ => 0) 0 3 A n c (itms l)) (B : Option Addr) (m d : Nat) (ws : List (Int × Int)) (hB : Sl w (fun _ => 0) 0 2 B m d (wnts ws)) (hv : ValidP l) (hr : RightP ws) (k : Nat) (hk : k ≤ 9223372036854775807) (s : Nat) (hs : s ≤ 10000)
    (hval : ∀ W, Below w.heap.size w W → Calls Tryz.prog 18 #[.slice A n c] W (SaysTo W true)) (hrgt : ∀ W, Below w.heap.size w W → Calls Tryz.prog 16 #[.slice B m d] W (SaysTo W true)) :
    Calls Tryz.prog 14 #[.slice A n c, .slice B m d, .int .i64 k, .int .i64 s] w (RRunTo w l ws k s) := by
  have hn : l.length = n := by have := hA.1; rw [len_itms] at this; omega
  have hn64 : n ≤ 64 := by have := hv.1.1; simp at this; omega
  have HA := Lib.hid hA; have HB := Lib.hid hB; have HN := Lib.hid hn; have HV := Lib.hid hv; have HR := Lib.hid hr; have HVAL := Lib.hid hval; have HRGT := Lib.hid hrgt
  clear hA hB hn hv hr hval hrgt
  have hk0 : decide ((k : Int) < 0) = false := by simp
  have hs0 : decide ((s : Int) < 0) = false := by simp
  have hs1 : decide (10000 < (s : Int)) = false := by simp; omega
  go_enter Tryz.func14, Tryz.ntmps14
  go_upto_region 3 with (first
    | (go_at_call 18; refine (HVAL.out w (Below.refl _ w)).mono ?_; rintro e w1 ⟨rfl, hb1⟩; have HB1 := Lib.hid hb1; clear hb1)
    | (go_at_call 16; refine (HRGT.out w1 HB1.out).mono ?_; rintro e w2 ⟨rfl, hb2⟩; have HB2 := Lib.hid (HB1.out.trans (hb2.mono HB1.out.size)); clear hb2))
  have r3 := row_lit0 w2 (ext (fun _ => 0) w.heap.size 6) 6 72 3
  have s2 := (Step.refl [] w (fun _ => 0)).below HB2.out 6
  have s3 := s2.alloc (.cells #[] 72) 6
  have a3 := HA.out.step s3 (by simp)
  have R3 := Lib.hid r3; have S3 := Lib.hid s3; have A3 := Lib.hid a3
  clear r3 s2 s3 a3 HVAL HRGT HB1 HB2
  go_wp2_with (at_builtin; refine wpList_append_row _ rfl (.tmp 37) (.tmp 38) _ rfl el_ritem _ 6 _ 0 0 _ rfl R3.out _ 0 A n c (itms l) rfl A3.out (itms_one l) (by omega) (by simp only [maxLen]; omega) ?_; intro A' c' w6 hR6 hg6 hat6; have HR6 := Lib.hid hR6; have HG6 := Lib.hid hg6; clear hR6 hg6 hat6)
  rw [Nat.zero_add, List.nil_append] at HR6
  have st6 := Step.append R3.out HG6.out 6
  have HST0 := Lib.hid (((S3.out.nil (ts := [6])).trans st6).forget (ts' := []) (fun t ht _ k hk => by simp at ht; subst ht; simp))
  have HSL0 := Lib.hid HR6.out.sl
  clear st6 S3 A3 HR6 HG6 R3
  go_loopw [13, 11, 12] (fun i av lv wr => ∃ (j : Nat) (or : Own) (A1 : Option Addr) (n1 c1 : Nat) (LA : Option Addr) (lc : Nat), j ≤ s ∧ i = .int .i64 j ∧ av = .slice A1 n1 c1 ∧ lv = .slice LA j lc ∧ Hid (Step [] w (fun _ => 0) wr or ∧ n1 = (runM l ws k j).1.length ∧ Sl wr or 6 3 A1 n1 c1 (itms (runM l ws k j).1) ∧ ListsAt wr or 7 6 LA j lc (runM l ws k j).2)) (fun i _ _ _ => s - (intOf i).toNat)
  case atStart => exact ⟨0, _, _, _, _, none, 0, Nat.zero_le _, rfl, rfl, rfl, Lib.hid ⟨HST0.out, HN.out.symm, HSL0.out, ListsAt.nil_ _ _ _ _⟩⟩
  case round => as_aux_lemma =>
    obtain ⟨j, oj, A1, n1, c1, LA, lc, hj, rfl, rfl, rfl, HJ⟩ := hrel
    by_cases hlt : j < s
    · have hvj := runM_valid HV.out HR.out k j
      have hn1 : n1 ≤ 64 := by have := hvj.1.1; rw [HJ.out.2.1]; simpa using this
      have hstp := RStep_any wr A1 n1 c1 (runM l ws k j).1 HJ.out.2.2.1.old0 (by omega) B m d ws (HB.out.step HJ.out.1 (by simp)).old0 (k : Int) (by omega) (by omega)
      unfold RStepU at hstp
      rw [stepU_ok hvj HR.out] at hstp
      have HSTP := Lib.hid hstp; clear hstp hvj hn1
      go_upto_region 10 with (go_at_call 11; refine HSTP.out.mono ?_; rintro e w4 ⟨OA, on, oc, SA, sn, sc, o4, rfl, hb4, ho4, hs4⟩; have HB4 := Lib.hid hb4; have HO4 := Lib.hid ho4; have HS4 := Lib.hid hs4; clear hb4 ho4 hs4)
      have hbel := HB4.out.to_below (fun _ _ => by simp)
      have stX : Step [] wr oj w4 (ext oj wr.heap.size 6) := (Step.refl [] wr oj).below hbel 6
      obtain ⟨vs, hrow, hvl, hvs⟩ := HJ.out.2.2.2.step stX (by simp) (by simp)
      obtain ⟨oW, hstW, hrowW, hslW⟩ := laid4 (t := 30) hrow (.slice SA sn sc)
      have hsn : sn = (stepM (runM l ws k j).1 ws k).2.length := by have := HS4.out.len; simp at this; omega
      have hon : on = (stepM (runM l ws k j).1 ws k).1.length := by have := HO4.out.len; rw [len_itms] at this; omega
      have HSN := Lib.hid hsn; have HON := Lib.hid hon
      have STX := Lib.hid stX; have HVL := Lib.hid hvl; have HVS := Lib.hid hvs; have HSTW := Lib.hid hstW; have HROWW := Lib.hid hrowW; have HSLW := Lib.hid hslW
      clear stX hvl hvs hstW hrowW hslW hrow hsn hon hbel
      go_wp2_with (at_builtin; refine wpList_append_row _ rfl (.tmp 54) (.tmp 56) _ rfl el_ints oW 7 LA j lc _ rfl HROWW.out oW 5 _ 1 1 [.slice SA sn sc] rfl HSLW.out (by simp [Value.oneCell']) (by omega) (by simp only [maxLen]; omega) ?_; intro A' c' w6 hR6 hg6 hat6; have HR6 := Lib.hid hR6; have HG6 := Lib.hid hg6; clear hR6 hg6 hat6)
      have st6 := Step.append HROWW.out HG6.out 7
      have stF := (((HJ.out.1.trans STX.out).trans HSTW.out).nil (ts := [7])).trans st6
      have slO := (((HO4.out.sl.view (o2 := ext oj wr.heap.size 6) (τ2 := 6) (fun ad had => ext_ge (HO4.out.fresh HB4.out (by decide) ad had))).step HSTW.out (by simp)).step st6 (by simp))
      have slN := (((HS4.out.sl.view (o2 := ext oj wr.heap.size 6) (τ2 := 6) (fun ad had => ext_ge (HS4.out.fresh HB4.out (by decide) ad had))).step HSTW.out (by simp)).step st6 (by simp))
      have STF := Lib.hid (stF.forget (ts' := []) (fun t ht _ k hk => by simp at ht; subst ht; simp)); have SLO := Lib.hid slO; have SLN := Lib.hid slN; have ST6 := Lib.hid st6
      clear stF slO slN st6
      go_roundw
      case rel =>
        refine ⟨j + 1, _, _, _, _, A', c', by omega, by go_num, rfl, rfl, Lib.hid ⟨STF.out, HON.out, SLO.out, ⟨_, HR6.out, ?_, fun i v hi => ?_⟩⟩⟩
        · simp [runM, HVL.out]
        · rcases Nat.lt_or_ge i vs.length with hlt' | hge
          · rw [List.getElem?_append_left hlt'] at hi
            obtain ⟨S, len, cap, x, e1, e2, e3, e4⟩ := HVS.out i v hi
            refine ⟨S, len, cap, x, e1, ?_, e3, (e4.step HSTW.out (by simp)).step ST6.out (by simp)⟩
            show ((runM l ws k j).2 ++ [(stepM (runM l ws k j).1 ws k).2])[i]? = _
            rw [List.getElem?_append_left (by rw [← HVL.out]; exact hlt')]
            exact e2
          · rw [List.getElem?_append_right hge] at hi
            have hi0 : i - vs.length = 0 := by have := (List.getElem?_eq_some_iff.1 hi).1; simp at this; omega
            rw [hi0] at hi
            simp at hi
            subst hi
            refine ⟨SA, _, sc, (stepM (runM l ws k j).1 ws k).2, rfl, ?_, HSN.out, SLN.out⟩
            show ((runM l ws k j).2 ++ [(stepM (runM l ws k j).1 ws k).2])[i]? = _
            rw [List.getElem?_append_right (by rw [← HVL.out]; exact hge), ← HVL.out, hi0]
            rfl
      case measure => simp [intOf]; omega
    · obtain rfl : s = j := by omega
      go_wp2_with fail
      go_ret3
      exact ⟨A1, n1, c1, LA, lc, oj, rfl, HJ.out.1, HJ.out.2.2.1, HJ.out.2.2.2⟩

theorem rrunU_bad {w w' : World} {l : List It} {ws : List (Int × Int)} {k s : Int} (h : ¬ (validB l = true ∧ rightB ws = true ∧ 0 ≤ k ∧ 0 ≤ s ∧ s ≤ 10000)) (hb : Below w.heap.size w w') : RRunU w l ws k s (.returned (.tuple #[.slice none 0 0, .slice none 0 0, .int .i64 2])) w' := by
  have e : runU l ws k s = ([], [], 2) := if_neg h
  refine ⟨none, 0, 0, none, 0, 0, _, by rw [e], (Step.refl [] w (fun _ => 0)).below hb 6, ?_, ?_⟩
  · rw [e]; exact (Row.nil_ _ _ 6 72 3).sl
  · rw [e]; exact ListsAt.nil_ _ _ _ _

set_option maxRecDepth 100000 in
set_option maxHeartbeats 4000000 in
theorem RRun_any (w : World) (A : Option Addr) (n c : Nat) (l : List It) (hA : Sl w (fun _ => 0) 0 3 A n c (itms l)) (hn : n ≤ 1000) (B : Option Addr) (m d : Nat) (ws : List (Int × Int)) (hB : Sl w (fun _ => 0) 0 2 B m d (wnts ws)) (k s : Int) (hk0 : -9223372036854775808 ≤ k) (hk : k ≤ 9223372036854775807) (hs0 : -9223372036854775808 ≤ s) (hs : s ≤ 9223372036854775807) :
    Calls Tryz.prog 14 #[.slice A n c, .slice B m d, .int .i64 k, .int .i64 s] w (RRunU w l ws k s) := by
  have hval : ∀ W, Below w.heap.size w W → Calls Tryz.prog 18 #[.slice A n c] W (SaysTo W (validB l)) := fun W hb => RValid_any W _ 0 A n c l (hA.step ((Step.refl [] w (fun _ => 0)).below hb 5) (by simp)) hn
  have hrgt : ∀ W, Below w.heap.size w W → Calls Tryz.prog 16 #[.slice B m d] W (SaysTo W (rightB ws)) := fun W hb => RRight_any W _ 0 B m d ws (hB.step ((Step.refl [] w (fun _ => 0)).below hb 5) (by simp))
  by_cases hok : validB l = true ∧ rightB ws = true ∧ 0 ≤ k ∧ 0 ≤ s ∧ s ≤ 10000
  · obtain ⟨h1, h2, h3, h4, h5⟩ := hok
    rw [h1] at hval
    rw [h2] at hrgt
    obtain ⟨q, rfl⟩ := Int.eq_ofNat_of_zero_le h3
    obtain ⟨t, rfl⟩ := Int.eq_ofNat_of_zero_le h4
    have e : runU l ws (q : Int) (t : Int) = ((runM l ws q t).1, (runM l ws q t).2, 0) := if_pos ⟨h1, h2, h3, h4, h5⟩
    refine (RRun_ok w A n c l hA B m d ws hB ((validB_iff l).1 h1) ((rightB_iff ws).1 h2) q (by omega) t (by omega) hval hrgt).mono ?_
    rintro e' w' ⟨OA, on, oc, LA, lc, o', rfl, r1, r2, r3⟩
    exact ⟨OA, on, oc, LA, t, lc, o', by rw [e], r1, by rw [e]; exact r2, by rw [e]; exact r3⟩
  · have hfin := fun W (hb : Below w.heap.size w W) => rrunU_bad hok hb
    have HF := Lib.hid hfin
    clear hfin
    cases hv : validB l with
    | false =>
      rw [hv] at hval
      have HV := Lib.hid hval
      clear hval hrgt hA hB hok hv
      go_enter Tryz.func14, Tryz.ntmps14
      go_wp2_with fail
      refine (HV.out w (Below.refl _ _)).mono ?_
      rintro e w1 ⟨rfl, hb⟩
      have HB := Lib.hid (HF.out _ hb)
      clear hb
      go_wp2_with fail
      go_ret3
      exact HB.out
    | true =>
      rw [hv] at hval
      cases hr : rightB ws with
      | false =>
        rw [hr] at hrgt
        have HV := Lib.hid hval; have HR := Lib.hid hrgt
        clear hval hrgt hA hB hok hv hr
        go_enter Tryz.func14, Tryz.ntmps14
        go_wp2_with fail
        refine (HV.out w (Below.refl _ _)).mono ?_
        rintro e w1 ⟨rfl, hb⟩
        have HB := Lib.hid hb
        clear hb
        go_wp2_with fail
        refine (HR.out w1 HB.out).mono ?_
        rintro e w2 ⟨rfl, hb⟩
        have HB2 := Lib.hid (HF.out _ (HB.out.trans (hb.mono HB.out.size)))
        clear hb
        go_wp2_with fail
        go_ret3
        exact HB2.out
      | true =>
        rw [hr] at hrgt
        have hks : k < 0 ∨ (¬ k < 0 ∧ s < 0) ∨ (¬ k < 0 ∧ ¬ s < 0 ∧ 10000 < s) := by
          rcases Int.lt_or_le k 0 with q | q
          · exact .inl q
          · rcases Int.lt_or_le s 0 with q2 | q2
            · exact .inr (.inl ⟨by omega, q2⟩)
            · rcases Int.lt_or_le 10000 s with q3 | q3
              · exact .inr (.inr ⟨by omega, by omega, q3⟩)
              · exact absurd ⟨hv, hr, q, q2, q3⟩ hok
        have hd : decide (k < 0) = true ∨ (decide (k < 0) = false ∧ decide (s < 0) = true) ∨ (decide (k < 0) = false ∧ decide (s < 0) = false ∧ decide (10000 < s) = true) := by
          rcases hks with q | ⟨q, q2⟩ | ⟨q, q2, q3⟩
          · exact .inl (decide_eq_true q)
          · exact .inr (.inl ⟨decide_eq_false q, decide_eq_true q2⟩)
          · exact .inr (.inr ⟨decide_eq_false q, decide_eq_false q2, decide_eq_true q3⟩)
        have HV := Lib.hid hval; have HR := Lib.hid hrgt
        clear hval hrgt hA hB hok hv hr hks
        go_enter Tryz.func14, Tryz.ntmps14
        go_wp2_with fail
        refine (HV.out w (Below.refl _ _)).mono ?_
        rintro e w1 ⟨rfl, hb⟩
        have HB := Lib.hid hb
        clear hb
        go_wp2_with fail
        refine (HR.out w1 HB.out).mono ?_
        rintro e w2 ⟨rfl, hb⟩
        have HB2 := Lib.hid (HF.out _ (HB.out.trans (hb.mono HB.out.size)))
        clear hb
        rcases hd with d1 | ⟨d1, d2⟩ | ⟨d1, d2, d3⟩ <;>
        · go_wp2_with fail
          go_ret3
          exact HB2.out
end Go.Proofs.YtkiknbjokknemaaGreat
