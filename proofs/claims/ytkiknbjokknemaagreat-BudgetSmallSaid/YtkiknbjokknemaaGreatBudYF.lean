/-
  WALK of budget.Run: the lists that it returns lie apart; Step and Run, whatever is handed to them.
-/
import Derived.Test.YtkiknbjokknemaaGreatBudYC
import Derived.Test.YtkiknbjokknemaaGreatBudTX
import Derived.Test.YtkiknbjokknemaaGreatBudV
namespace Go.Proofs.YtkiknbjokknemaaGreat
open Go.RowKit Go.Maps

/-- Lists of IDs, each in a row of its own, no two in one block. -/
def ApartAt (w : World) (o : Own) (τ τ2 B0 : Nat) (LA : Option Addr) (n lc : Nat) (ls : List (List Int)) : Prop := ∃ L : List Rw, Row w o τ 30 1 LA n lc (L.map Rw.v) ∧ L.length = ls.length ∧
  (∀ (i : Nat) (r : Rw), L[i]? = some r → ∃ x, ls[i]? = some x ∧ r.n = x.length ∧ Row w o τ2 3 1 r.S r.n r.c (ints x)) ∧ (L.Pairwise fun a b => ∀ p q, a.S = some p → b.S = some q → p.block ≠ q.block) ∧ ∀ r ∈ L, ∀ p, r.S = some p → B0 ≤ p.block
theorem ApartAt.nil_ (w : World) (o : Own) (τ τ2 B0 : Nat) : ApartAt w o τ τ2 B0 none 0 0 [] := ⟨[], Row.nil_ _ _ _ _ _, rfl, fun i r h => (by cases h), List.Pairwise.nil, fun r h => (by cases h)⟩

/-- What Run comes to. -/
def RunATo (w : World) (l : List It) (ws : List (Int × Int)) (k s : Nat) (e : Ending) (w' : World) : Prop := ∃ A n c LA lc o',
  e = .returned (.tuple #[.slice A n c, .slice LA s lc, .int .i64 0]) ∧ Step [] w (fun _ => 0) w' o' ∧ n = (runM l ws k s).1.length ∧
    Row w' o' 6 28 3 A n c (itms (runM l ws k s).1) ∧ ApartAt w' o' 7 6 0 LA s lc (runM l ws k s).2

set_option maxRecDepth 100000 in
set_option maxHeartbeats 2000000 in
theorem RunA_any (w : World) (o : Own) (τ τ2 : Nat) (A : Option Addr) (n c : Nat) (l : List It) (hA : Sl w o τ 3 A n c (itms l)) (B : Option Addr) (m d : Nat) (ws : List (Int × Int)) (hB : Sl w o τ2 2 B m d (wnts ws)) (hv : ValidP l) (hr : RightP ws) (k : Nat) (hk : k ≤ 9223372036854775807) (s : Nat) (hs : s ≤ 10000) :
    Calls Tryz.prog 8 #[.slice A n c, .slice B m d, .int .i64 k, .int .i64 s] w (RunATo w l ws k s) := by
  have hn : n = l.length := by have := hA.1; rw [len_itms] at this; omega
  have hn64 : n ≤ 64 := by have := hv.1.1; simp at this; omega
  have hval : ∀ w1, Below w.heap.size w w1 → Calls Tryz.prog 17 #[.slice A n c] w1 (SaysTo w1 true) := fun w1 hb => by
    have := Valid_any w1 _ τ A n c l (hA.step ((Step.refl [] w o).below hb 5) (by simp)); rwa [(validB_iff l).2 hv] at this
  have hrgt : ∀ w1, Below w.heap.size w w1 → Calls Tryz.prog 15 #[.slice B m d] w1 (SaysTo w1 true) := fun w1 hb => by
    have := Right_any w1 _ τ2 B m d ws (hB.step ((Step.refl [] w o).below hb 5) (by simp)); rwa [(rightB_iff ws).2 hr] at this
  have HA := Lib.hid hA; have HB := Lib.hid hB; have HN := Lib.hid hn; have HV := Lib.hid hv; have HR := Lib.hid hr; have HVAL := Lib.hid hval; have HRGT := Lib.hid hrgt
  clear hA hB hn hv hr hval hrgt
  have hk0 : decide ((k : Int) < 0) = false := by simp
  have hs0 : decide ((s : Int) < 0) = false := by simp
  have hs1 : decide (10000 < (s : Int)) = false := by simp; omega
  go_enter Tryz.func8, Tryz.ntmps8
  go_upto_region 4 with (first
    | (go_at_call 17; refine (HVAL.out w (Below.refl _ w)).mono ?_; rintro e w1 ⟨rfl, hb1⟩; have HB1 := Lib.hid hb1; clear hb1)
    | (go_at_call 15; refine (HRGT.out w1 HB1.out).mono ?_; rintro e w2 ⟨rfl, hb2⟩; have HB2 := Lib.hid (HB1.out.trans (hb2.mono HB1.out.size)); clear hb2)
    | (go_at_call 27; refine (clone3 w2 (ext o w.heap.size 5) τ 6 A n c (itms l) (HA.out.step ((Step.refl [] w o).below HB2.out 5) (by simp)) (one_itms l) hn64).mono ?_; rintro e w3 ⟨A3, c3, rfl, hr3, hb3, hf3⟩; have HR3 := Lib.hid hr3; have HB3 := Lib.hid (HB2.out.trans (hb3.mono HB2.out.size)); have HF3 := Lib.hid hf3; clear hr3 hb3 hf3))
  go_wp2_with fail
  have hst0 : Step [] w (fun _ => 0) w3 (ext (fun _ => 0) w.heap.size 6) := (Step.refl [] w (fun _ => 0)).below HB3.out 6
  have hsl0 : Row w3 (ext (fun _ => 0) w.heap.size 6) 6 28 3 A3 n c3 (itms l) := HR3.out.view (fun ad had => ext_ge (Nat.le_trans HB2.out.size (HF3.out ad had)))
  have HST0 := Lib.hid hst0; have HSL0 := Lib.hid hsl0
  clear hst0 hsl0 HVAL HRGT HB1 HR3 HF3
  go_loopw [39, 11, 12] (fun i av lv wr => ∃ (j : Nat) (or : Own) (A1 : Option Addr) (n1 c1 : Nat) (LA : Option Addr) (lc : Nat), j ≤ s ∧ i = .int .i64 j ∧ av = .slice A1 n1 c1 ∧ lv = .slice LA j lc ∧ Hid (Step [] w (fun _ => 0) wr or ∧ n1 = (runM l ws k j).1.length ∧ Row wr or 6 28 3 A1 n1 c1 (itms (runM l ws k j).1) ∧ ApartAt wr or 7 6 0 LA j lc (runM l ws k j).2)) (fun i _ _ _ => s - (intOf i).toNat)
  case atStart => exact ⟨0, _, _, _, _, none, 0, Nat.zero_le _, rfl, rfl, rfl, Lib.hid ⟨HST0.out, HN.out, HSL0.out, ApartAt.nil_ _ _ _ _ _⟩⟩
  case round => as_aux_lemma =>
    obtain ⟨j, oj, A1, n1, c1, LA, lc, hj, rfl, rfl, rfl, HJ⟩ := hrel
    by_cases hlt : j < s
    · have hstp := Step_any wr oj 6 0 A1 n1 c1 (runM l ws k j).1 HJ.out.2.2.1.sl B m d ws ((Sl.old0 HB.out).step HJ.out.1 (by simp)) (runM_valid HV.out HR.out k j) HR.out k hk
      have HSTP := Lib.hid hstp; clear hstp
      go_upto_region 8 with (go_at_call 10; refine HSTP.out.mono ?_; rintro e w4 ⟨ob, SA, sc, o4, rfl, hb4, hn4, hm4, hs4, hr4⟩; have HB4 := Lib.hid hb4; have HN4 := Lib.hid hn4; have HM4 := Lib.hid hm4; have HS4 := Lib.hid hs4; have HR4 := Lib.hid hr4; clear hb4 hn4 hm4 hs4 hr4)
      have stX : Step [] wr oj w4 (ext oj wr.heap.size 6) := (Step.refl [] wr oj).below HB4.out 6
      obtain ⟨L, hrow0, hvl, hvs, hpw, -⟩ := HJ.out.2.2.2
      have hold : ∀ r ∈ L, ∀ p, r.S = some p → p.block < wr.heap.size := fun r hr p hp => by
        obtain ⟨i, hi⟩ := List.mem_iff_getElem?.1 hr
        obtain ⟨x, -, -, h⟩ := hvs i r hi
        exact h.lt hp
      have hrow := hrow0.step stX (by simp)
      obtain ⟨oW, hstW, hrowW, hslW⟩ := laid4 (t := 30) hrow (.slice SA (stepM (runM l ws k j).1 ws k).2.length sc)
      have HPW := Lib.hid hpw; have HOLD := Lib.hid hold
      have STX := Lib.hid stX; have HVL := Lib.hid hvl; have HVS := Lib.hid hvs; have HSTW := Lib.hid hstW; have HROWW := Lib.hid hrowW; have HSLW := Lib.hid hslW
      clear stX hvl hvs hstW hrowW hslW hrow hrow0 hpw hold
      go_wp2_with (at_builtin; refine wpList_append_row _ rfl (.tmp 50) (.tmp 52) _ rfl el_ints oW 7 LA j lc _ rfl HROWW.out oW 5 _ 1 1 [.slice SA (stepM (runM l ws k j).1 ws k).2.length sc] rfl HSLW.out (by simp [Value.oneCell']) (by omega) (by simp only [maxLen]; omega) ?_; intro A' c' w6 hR6 hg6 hat6; have HR6 := Lib.hid hR6; have HG6 := Lib.hid hg6; clear hR6 hg6 hat6)
      have st6 := Step.append HROWW.out HG6.out 7
      have stF := (((HJ.out.1.trans STX.out).trans HSTW.out).nil (ts := [7])).trans st6
      have slO := (((HS4.out.view (o2 := ext oj wr.heap.size 6) (τ2 := 6) (fun ad had => by injection had with had; subst had; exact ext_ge HN4.out)).step HSTW.out (by simp)).step st6 (by simp))
      have slN := (((HR4.out.view (o2 := ext oj wr.heap.size 6) (τ2 := 6) (fun ad had => ext_ge (HM4.out ad had))).step HSTW.out (by simp)).step st6 (by simp))
      have STF := Lib.hid (stF.forget (ts' := []) (fun t ht _ k hk => by simp at ht; subst ht; simp)); have SLO := Lib.hid slO; have SLN := Lib.hid slN; have ST6 := Lib.hid st6
      clear stF slO slN st6
      go_roundw
      case rel =>
        refine ⟨j + 1, _, _, _, _, A', c', by omega, by go_num, rfl, rfl, Lib.hid ⟨STF.out, ?_, SLO.out, ⟨L ++ [⟨SA, (stepM (runM l ws k j).1 ws k).2.length, sc⟩], ?_, ?_, fun i r hi => ?_, ?_, fun _ _ _ _ => Nat.zero_le _⟩⟩⟩
        · simp [runM, stepM, zeroAt, outs]
        · rw [List.map_append]; exact HR6.out
        · simp [runM, HVL.out]
        · rcases Nat.lt_or_ge i L.length with hlt' | hge
          · rw [List.getElem?_append_left hlt'] at hi
            obtain ⟨x, e2, e3, e4⟩ := HVS.out i r hi
            refine ⟨x, ?_, e3, ((e4.step STX.out (by simp)).step HSTW.out (by simp)).step ST6.out (by simp)⟩
            show ((runM l ws k j).2 ++ [(stepM (runM l ws k j).1 ws k).2])[i]? = _
            rw [List.getElem?_append_left (by rw [← HVL.out]; exact hlt')]
            exact e2
          · rw [List.getElem?_append_right hge] at hi
            have hi0 : i - L.length = 0 := by have := (List.getElem?_eq_some_iff.1 hi).1; simp at this; omega
            rw [hi0] at hi
            simp at hi
            subst hi
            refine ⟨(stepM (runM l ws k j).1 ws k).2, ?_, rfl, SLN.out⟩
            show ((runM l ws k j).2 ++ [(stepM (runM l ws k j).1 ws k).2])[i]? = _
            rw [List.getElem?_append_right (by rw [← HVL.out]; exact hge), ← HVL.out, hi0]
            rfl
        · rw [List.pairwise_append]
          refine ⟨HPW.out, List.pairwise_singleton _ _, fun a ha b hb p q hp hq => ?_⟩
          simp only [List.mem_singleton] at hb
          subst hb
          have h1 := HOLD.out a ha p hp
          have h2 := HM4.out q hq
          omega
      case measure => simp [intOf]; omega
    · obtain rfl : s = j := by omega
      go_wp2_with fail
      go_ret3
      exact ⟨A1, n1, c1, LA, lc, oj, rfl, HJ.out.1, HJ.out.2.1, HJ.out.2.2.1, HJ.out.2.2.2⟩

theorem ApartAt.step {w w' : World} {o o' : Own} {τ τ2 B0 : Nat} {LA : Option Addr} {n lc : Nat} {ls : List (List Int)} {ts : List Nat} (h : ApartAt w o τ τ2 B0 LA n lc ls) (hs : Step ts w o w' o') (h1 : τ ∉ ts) (h2 : τ2 ∉ ts) : ApartAt w' o' τ τ2 B0 LA n lc ls := by
  obtain ⟨L, a, b, c, d, f⟩ := h
  refine ⟨L, a.step hs h1, b, fun i r hi => ?_, d, f⟩
  obtain ⟨x, e1, e2, e3⟩ := c i r hi
  exact ⟨x, e1, e2, e3.step hs h2⟩
theorem ApartAt.fresh {w w' : World} {o' : Own} {τ τ2 B0 : Nat} {LA : Option Addr} {n lc : Nat} {ls : List (List Int)} (h : ApartAt w' o' τ τ2 B0 LA n lc ls) (hs : Step [] w (fun _ => 0) w' o') (ht : τ2 ≠ 0) : ApartAt w' o' τ τ2 w.heap.size LA n lc ls := by
  obtain ⟨L, a, b, c, d, -⟩ := h
  refine ⟨L, a, b, c, d, fun r hr p hp => ?_⟩
  obtain ⟨i, hi⟩ := List.mem_iff_getElem?.1 hr
  obtain ⟨x, -, -, e3⟩ := c i r hi
  exact e3.fresh hs ht p hp
theorem Row.any0 {w : World} {o : Own} {τ : Nat} {e : TypeId} {sz n c : Nat} {A : Option Addr} {xs : List Value} (h : Row w o τ e sz A n c xs) : Row w (fun _ => 0) 0 e sz A n c xs := ⟨h.1, fun _ _ => rfl⟩
theorem Row.up0 {w w' : World} {e : TypeId} {sz n c : Nat} {A : Option Addr} {xs : List Value} (h : Row w (fun _ => 0) 0 e sz A n c xs) (hb : Below w.heap.size w w') : Row w' (fun _ => 0) 0 e sz A n c xs := (h.step ((Step.refl [] w (fun _ => 0)).below hb 5) (by simp)).any0
theorem Sl.up0 {w w' : World} {sz n c : Nat} {A : Option Addr} {xs : List Value} (h : Sl w (fun _ => 0) 0 sz A n c xs) (hb : Below w.heap.size w w') : Sl w' (fun _ => 0) 0 sz A n c xs := (h.step ((Step.refl [] w (fun _ => 0)).below hb 5) (by simp)).old0
theorem ApartAt.any0 {w : World} {o : Own} {τ τ2 B0 : Nat} {LA : Option Addr} {n lc : Nat} {ls : List (List Int)} (h : ApartAt w o τ τ2 B0 LA n lc ls) : ApartAt w (fun _ => 0) 0 0 B0 LA n lc ls := by
  obtain ⟨L, a, b, c, d⟩ := h
  refine ⟨L, a.any0, b, fun i r hi => ?_, d⟩
  obtain ⟨x, e1, e2, e3⟩ := c i r hi
  exact ⟨x, e1, e2, e3.any0⟩
theorem ApartAt.up0 {w w' : World} {B0 : Nat} {LA : Option Addr} {n lc : Nat} {ls : List (List Int)} (h : ApartAt w (fun _ => 0) 0 0 B0 LA n lc ls) (hb : Below w.heap.size w w') : ApartAt w' (fun _ => 0) 0 0 B0 LA n lc ls := (h.step ((Step.refl [] w (fun _ => 0)).below hb 5) (by simp) (by simp)).any0
theorem ApartAt.lists {w : World} {B0 : Nat} {LA : Option Addr} {n lc : Nat} {ls : List (List Int)} (h : ApartAt w (fun _ => 0) 0 0 B0 LA n lc ls) : ListsAt w (fun _ => 0) 0 0 LA n lc ls := by
  obtain ⟨L, a, b, c, -⟩ := h
  refine ⟨_, a, by simp [b], fun i v hi => ?_⟩
  rw [List.getElem?_map] at hi
  cases hr : L[i]? with
  | none => rw [hr] at hi; cases hi
  | some r =>
    rw [hr] at hi
    obtain rfl := Option.some.inj hi
    obtain ⟨x, e1, e2, e3⟩ := c i r hr
    exact ⟨r.S, r.n, r.c, x, rfl, e1, e2, e3.sl⟩
theorem ListsAt.any0 {w : World} {o : Own} {τ τ2 : Nat} {A : Option Addr} {n c : Nat} {ls : List (List Int)} (h : ListsAt w o τ τ2 A n c ls) : ListsAt w (fun _ => 0) 0 0 A n c ls := by
  obtain ⟨vs, a, b, d⟩ := h
  refine ⟨vs, a.any0, b, fun i v hi => ?_⟩
  obtain ⟨S, len, cap, x, e1, e2, e3, e4⟩ := d i v hi
  exact ⟨S, len, cap, x, e1, e2, e3, e4.old0⟩
theorem ListsAt.up0 {w w' : World} {A : Option Addr} {n c : Nat} {ls : List (List Int)} (h : ListsAt w (fun _ => 0) 0 0 A n c ls) (hb : Below w.heap.size w w') : ListsAt w' (fun _ => 0) 0 0 A n c ls := (h.step ((Step.refl [] w (fun _ => 0)).below hb 5) (by simp) (by simp)).any0

/-- What Step and Run come to, valid or not. -/
def StepPU (w : World) (l : List It) (ws : List (Int × Int)) (k : Int) (e : Ending) (w' : World) : Prop := ∃ OA on oc SA sn sc,
  e = .returned (.tuple #[.slice OA on oc, .slice SA sn sc, .int .i64 (stepU l ws k).2.2]) ∧ Below w.heap.size w w' ∧
    Sl w' (fun _ => 0) 0 3 OA on oc (itms (stepU l ws k).1) ∧ Row w' (fun _ => 0) 0 3 1 SA sn sc (ints (stepU l ws k).2.1) ∧ ∀ p, SA = some p → w.heap.size ≤ p.block
def RunPU (w : World) (l : List It) (ws : List (Int × Int)) (k s : Int) (e : Ending) (w' : World) : Prop := ∃ OA on oc LA ln lc,
  e = .returned (.tuple #[.slice OA on oc, .slice LA ln lc, .int .i64 (runU l ws k s).2.2]) ∧ Below w.heap.size w w' ∧ (∀ p, OA = some p → w.heap.size ≤ p.block) ∧
    Row w' (fun _ => 0) 0 28 3 OA on oc (itms (runU l ws k s).1) ∧ ApartAt w' (fun _ => 0) 0 0 w.heap.size LA ln lc (runU l ws k s).2.1

theorem StepP_any (w : World) (A : Option Addr) (n c : Nat) (l : List It) (hA : Sl w (fun _ => 0) 0 3 A n c (itms l)) (B : Option Addr) (m d : Nat) (ws : List (Int × Int)) (hB : Sl w (fun _ => 0) 0 2 B m d (wnts ws)) (k : Int) (hk : k ≤ 9223372036854775807) :
    Calls Tryz.prog 10 #[.slice A n c, .slice B m d, .int .i64 k] w (StepPU w l ws k) := by
  by_cases hok : validB l = true ∧ rightB ws = true ∧ 0 ≤ k
  · obtain ⟨h1, h2, h3⟩ := hok
    obtain ⟨q, rfl⟩ := Int.eq_ofNat_of_zero_le h3
    have e : stepU l ws (q : Int) = ((stepM l ws q).1, (stepM l ws q).2, 0) := if_pos ⟨h1, h2, h3⟩
    refine (Step_any w _ 0 0 A n c l hA B m d ws hB ((validB_iff l).1 h1) ((rightB_iff ws).1 h2) q (by omega)).mono ?_
    rintro e' w' ⟨ob, SA, sc, o', rfl, r1, r2, r3, r4, r5⟩
    exact ⟨_, _, _, SA, _, sc, by rw [e], r1, by rw [e]; exact r4.sl.old0, by rw [e]; exact r5.any0, r3⟩
  · have e : stepU l ws k = ([], [], 2) := if_neg hok
    have hbad : k < 0 ∨ validB l = false ∨ rightB ws = false := by
      cases h1 : validB l with
      | false => exact .inr (.inl rfl)
      | true =>
        cases h2 : rightB ws with
        | false => exact .inr (.inr rfl)
        | true =>
          left
          rcases Int.lt_or_le k 0 with q | q
          · exact q
          · exact absurd ⟨h1, h2, q⟩ hok
    refine (Step_bad w _ 0 0 A n c l hA B m d ws hB k hbad).mono ?_
    rintro e' w' ⟨rfl, hb⟩
    exact ⟨none, 0, 0, none, 0, 0, by rw [e], hb, by rw [e]; exact (Row.nil_ _ _ _ 28 3).sl, by rw [e]; exact Row.nil_ _ _ _ _ _, fun p hp => (by cases hp)⟩
theorem RunP_any (w : World) (A : Option Addr) (n c : Nat) (l : List It) (hA : Sl w (fun _ => 0) 0 3 A n c (itms l)) (B : Option Addr) (m d : Nat) (ws : List (Int × Int)) (hB : Sl w (fun _ => 0) 0 2 B m d (wnts ws)) (k s : Int) (hk : k ≤ 9223372036854775807) :
    Calls Tryz.prog 8 #[.slice A n c, .slice B m d, .int .i64 k, .int .i64 s] w (RunPU w l ws k s) := by
  by_cases hok : validB l = true ∧ rightB ws = true ∧ 0 ≤ k ∧ 0 ≤ s ∧ s ≤ 10000
  · obtain ⟨h1, h2, h3, h4, h5⟩ := hok
    obtain ⟨q, rfl⟩ := Int.eq_ofNat_of_zero_le h3
    obtain ⟨t, rfl⟩ := Int.eq_ofNat_of_zero_le h4
    have e : runU l ws (q : Int) (t : Int) = ((runM l ws q t).1, (runM l ws q t).2, 0) := if_pos ⟨h1, h2, h3, h4, h5⟩
    refine (RunA_any w _ 0 0 A n c l hA B m d ws hB ((validB_iff l).1 h1) ((rightB_iff ws).1 h2) q (by omega) t (by omega)).mono ?_
    rintro e' w' ⟨OA, on, oc, LA, lc, o', rfl, r1, r2, r3, r4⟩
    exact ⟨OA, on, oc, LA, t, lc, by rw [e], r1.to_below (fun _ _ => by simp), r3.fresh r1 (by decide), by rw [e]; exact r3.any0, by rw [e]; exact (r4.fresh r1 (by decide)).any0⟩
  · have e : runU l ws k s = ([], [], 2) := if_neg hok
    have hbad : s < 0 ∨ 10000 < s ∨ k < 0 ∨ validB l = false ∨ rightB ws = false := by
      cases h1 : validB l with
      | false => exact .inr (.inr (.inr (.inl rfl)))
      | true =>
        cases h2 : rightB ws with
        | false => exact .inr (.inr (.inr (.inr rfl)))
        | true =>
          rcases Int.lt_or_le k 0 with q | q
          · exact .inr (.inr (.inl q))
          · rcases Int.lt_or_le s 0 with q2 | q2
            · exact .inl q2
            · rcases Int.lt_or_le 10000 s with q3 | q3
              · exact .inr (.inl q3)
              · exact absurd ⟨h1, h2, q, q2, q3⟩ hok
    refine (Run_bad w _ 0 0 A n c l hA B m d ws hB k s hbad).mono ?_
    rintro e' w' ⟨rfl, hb⟩
    exact ⟨none, 0, 0, none, 0, 0, by rw [e], hb, fun p hp => (by cases hp), by rw [e]; exact Row.nil_ _ _ _ _ _, by rw [e]; exact ApartAt.nil_ _ _ _ _ _⟩
end Go.Proofs.YtkiknbjokknemaaGreat
