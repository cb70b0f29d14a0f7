/-
  WALK of budget.Run.
-/
import Derived.Test.YtkiknbjokknemaaGreatBudM
import Derived.Test.YtkiknbjokknemaaGreatKitE
namespace Go.Proofs.YtkiknbjokknemaaGreat
open Go.RowKit Go.Maps

theorem el_ints : Elem Tryz.prog 35 30 1 24 (.slice none 0 0) := ⟨Tryz.underlying35, by kernel_rfl, rfl, by decide⟩

theorem Sl.old0 {w : World} {o : Own} {τ sz n c : Nat} {A : Option Addr} {xs : List Value} (h : Sl w o τ sz A n c xs) : Sl w (fun _ => 0) 0 sz A n c xs := by
  refine ⟨h.1, h.2.1, h.2.2.1, fun hn => ?_⟩
  obtain ⟨g, off, hA, -, hg, hc⟩ := h.2.2.2 hn
  exact ⟨g, off, hA, rfl, hg, hc⟩

theorem laid4 {w : World} {o : Own} {A : Option Addr} {n c : Nat} {e t : TypeId} {vs : List Value} (h : Row w o 7 e 1 A n c vs) (v : Value) :
    ∃ oW, Step [] w o (w.alloc (.cells #[v] t)) oW ∧ Row (w.alloc (.cells #[v] t)) oW 7 e 1 A n c vs ∧ Sl (w.alloc (.cells #[v] t)) oW 5 1 (some ⟨w.heap.size, 0, none⟩) 1 1 [v] := by
  have st := (Step.refl [] w o).alloc (.cells #[v] t) 5
  have b := Blk.new w t #[v]
  refine ⟨_, st, h.step st (by simp), ⟨rfl, Nat.le_refl _, by decide, fun _ => ⟨w.heap.size, 0, rfl, ext_ge (Nat.le_refl _), b.lt, fun j u hj => ?_⟩⟩⟩
  rw [Nat.zero_add, b.cell]
  simpa using hj

/-- What Run comes to. -/
def RunTo (w : World) (l : List It) (ws : List (Int × Int)) (k s : Nat) (e : Ending) (w' : World) : Prop := ∃ A n c LA lc o',
  e = .returned (.tuple #[.slice A n c, .slice LA s lc, .int .i64 0]) ∧ Step [] w (fun _ => 0) w' o' ∧ n = (runM l ws k s).1.length ∧
    Sl w' o' 6 3 A n c (itms (runM l ws k s).1) ∧ ListsAt w' o' 7 6 LA s lc (runM l ws k s).2

set_option maxRecDepth 100000 in
set_option maxHeartbeats 2000000 in
theorem Run_any (w : World) (o : Own) (τ τ2 : Nat) (A : Option Addr) (n c : Nat) (l : List It) (hA : Sl w o τ 3 A n c (itms l)) (B : Option Addr) (m d : Nat) (ws : List (Int × Int)) (hB : Sl w o τ2 2 B m d (wnts ws)) (hv : ValidP l) (hr : RightP ws) (k : Nat) (hk : k ≤ 9223372036854775807) (s : Nat) (hs : s ≤ 10000) :
    Calls Tryz.prog 8 #[.slice A n c, .slice B m d, .int .i64 k, .int .i64 s] w (RunTo w l ws k s) := by
  have hn : n = l.length := by have := hA.1; rw [len_itms] at this; omega
  have hn64 : n ≤ 64 := by have := hv.1.1; simp at this; omega
  have hval : ∀ w1, Below w.heap.size w w1 → Calls Tryz.prog 17 #[.slice A n c] w1 (SaysTo w1 true) := fun w1 hb => by
    have := Valid_any w1 _ τ A n c l (hA.step ((Step.refl [] w o).below hb 5) (by simp)); rwa [(validB_iff l).2 hv] at this
  have hrgt : ∀ w1, Below w.heap.size w w1 → Calls Tryz.prog 15 #[.slice B m d] w1 (SaysTo w1 true) := fun w1 hb => by
    have := Right_any w1 _ τ2 B m d ws (hB.step ((Step.refl [] w o).below hb 5) (by simp)); rwa [(rightB_iff ws).2 hr] at this
  have HA := Lib.hid hA; have HB := Lib.hid hB; have HN := Lib.hid hn; have HV := Lib.hid hv; have HR := Lib.hid hr; have HVAL := Lib.hid hval; have HRGT := Lib.hid hrgt
  clear hA hB hn hv hr hval hrgt
  have hk0 : decide ((k : Int) < 0) = false := by simp
  have hs0 : decide ((s : Int) < 0) = false := by simp
  have hs1 : decide (10000 < (s : Int)) = false := by simp; omega
  go_enter Tryz.func8, Tryz.ntmps8
  go_upto_region 4 with (first
    | (go_at_call 17; refine (HVAL.out w (Below.refl _ w)).mono ?_; rintro e w1 ⟨rfl, hb1⟩; have HB1 := Lib.hid hb1; clear hb1)
    | (go_at_call 15; refine (HRGT.out w1 HB1.out).mono ?_; rintro e w2 ⟨rfl, hb2⟩; have HB2 := Lib.hid (HB1.out.trans (hb2.mono HB1.out.size)); clear hb2)
    | (go_at_call 27; refine (clone3 w2 (ext o w.heap.size 5) τ 6 A n c (itms l) (HA.out.step ((Step.refl [] w o).below HB2.out 5) (by simp)) (one_itms l) hn64).mono ?_; rintro e w3 ⟨A3, c3, rfl, hr3, hb3, hf3⟩; have HR3 := Lib.hid hr3; have HB3 := Lib.hid (HB2.out.trans (hb3.mono HB2.out.size)); have HF3 := Lib.hid hf3; clear hr3 hb3 hf3))
  go_wp2_with fail
  have hst0 : Step [] w (fun _ => 0) w3 (ext (fun _ => 0) w.heap.size 6) := (Step.refl [] w (fun _ => 0)).below HB3.out 6
  have hsl0 : Sl w3 (ext (fun _ => 0) w.heap.size 6) 6 3 A3 n c3 (itms l) := Sl.view HR3.out.sl (fun ad had => ext_ge (Nat.le_trans HB2.out.size (HF3.out ad had)))
  have HST0 := Lib.hid hst0; have HSL0 := Lib.hid hsl0
  clear hst0 hsl0 HVAL HRGT HB1 HR3 HF3
  go_loopw [39, 11, 12] (fun i av lv wr => ∃ (j : Nat) (or : Own) (A1 : Option Addr) (n1 c1 : Nat) (LA : Option Addr) (lc : Nat), j ≤ s ∧ i = .int .i64 j ∧ av = .slice A1 n1 c1 ∧ lv = .slice LA j lc ∧ Hid (Step [] w (fun _ => 0) wr or ∧ n1 = (runM l ws k j).1.length ∧ Sl wr or 6 3 A1 n1 c1 (itms (runM l ws k j).1) ∧ ListsAt wr or 7 6 LA j lc (runM l ws k j).2)) (fun i _ _ _ => s - (intOf i).toNat)
  case atStart => exact ⟨0, _, _, _, _, none, 0, Nat.zero_le _, rfl, rfl, rfl, Lib.hid ⟨HST0.out, HN.out, HSL0.out, ListsAt.nil_ _ _ _ _⟩⟩
  case round => as_aux_lemma =>
    obtain ⟨j, oj, A1, n1, c1, LA, lc, hj, rfl, rfl, rfl, HJ⟩ := hrel
    by_cases hlt : j < s
    · have hstp := Step_any wr oj 6 0 A1 n1 c1 (runM l ws k j).1 HJ.out.2.2.1 B m d ws ((Sl.old0 HB.out).step HJ.out.1 (by simp)) (runM_valid HV.out HR.out k j) HR.out k hk
      have HSTP := Lib.hid hstp; clear hstp
      go_upto_region 8 with (go_at_call 10; refine HSTP.out.mono ?_; rintro e w4 ⟨ob, SA, sc, o4, rfl, hb4, hn4, hm4, hs4, hr4⟩; have HB4 := Lib.hid hb4; have HN4 := Lib.hid hn4; have HM4 := Lib.hid hm4; have HS4 := Lib.hid hs4; have HR4 := Lib.hid hr4; clear hb4 hn4 hm4 hs4 hr4)
      have stX : Step [] wr oj w4 (ext oj wr.heap.size 6) := (Step.refl [] wr oj).below HB4.out 6
      obtain ⟨vs, hrow, hvl, hvs⟩ := HJ.out.2.2.2.step stX (by simp) (by simp)
      obtain ⟨oW, hstW, hrowW, hslW⟩ := laid4 (t := 30) hrow (.slice SA (stepM (runM l ws k j).1 ws k).2.length sc)
      have STX := Lib.hid stX; have HVL := Lib.hid hvl; have HVS := Lib.hid hvs; have HSTW := Lib.hid hstW; have HROWW := Lib.hid hrowW; have HSLW := Lib.hid hslW
      clear stX hvl hvs hstW hrowW hslW hrow
      go_wp2_with (at_builtin; refine wpList_append_row _ rfl (.tmp 50) (.tmp 52) _ rfl el_ints oW 7 LA j lc _ rfl HROWW.out oW 5 _ 1 1 [.slice SA (stepM (runM l ws k j).1 ws k).2.length sc] rfl HSLW.out (by simp [Value.oneCell']) (by omega) (by simp only [maxLen]; omega) ?_; intro A' c' w6 hR6 hg6 hat6; have HR6 := Lib.hid hR6; have HG6 := Lib.hid hg6; clear hR6 hg6 hat6)
      have st6 := Step.append HROWW.out HG6.out 7
      have stF := (((HJ.out.1.trans STX.out).trans HSTW.out).nil (ts := [7])).trans st6
      have slO := (((HS4.out.sl.view (o2 := ext oj wr.heap.size 6) (τ2 := 6) (fun ad had => by injection had with had; subst had; exact ext_ge HN4.out)).step HSTW.out (by simp)).step st6 (by simp))
      have slN := (((HR4.out.sl.view (o2 := ext oj wr.heap.size 6) (τ2 := 6) (fun ad had => ext_ge (HM4.out ad had))).step HSTW.out (by simp)).step st6 (by simp))
      have STF := Lib.hid (stF.forget (ts' := []) (fun t ht _ k hk => by simp at ht; subst ht; simp)); have SLO := Lib.hid slO; have SLN := Lib.hid slN; have ST6 := Lib.hid st6
      clear stF slO slN st6
      go_roundw
      case rel =>
        refine ⟨j + 1, _, _, _, _, A', c', by omega, by go_num, rfl, rfl, Lib.hid ⟨STF.out, ?_, SLO.out, ⟨_, HR6.out, ?_, fun i v hi => ?_⟩⟩⟩
        · simp [runM, stepM, zeroAt, outs]
        · simp [runM, HVL.out]
        · rcases Nat.lt_or_ge i vs.length with hlt' | hge
          · rw [List.getElem?_append_left hlt'] at hi
            obtain ⟨S, len, cap, x, e1, e2, e3, e4⟩ := HVS.out i v hi
            refine ⟨S, len, cap, x, e1, ?_, e3, (e4.step HSTW.out (by simp)).step ST6.out (by simp)⟩
            show ((runM l ws k j).2 ++ [(stepM (runM l ws k j).1 ws k).2])[i]? = _
            rw [List.getElem?_append_left (by rw [← HVL.out]; exact hlt')]
            exact e2
          · rw [List.getElem?_append_right hge] at hi
            have hi0 : i - vs.length = 0 := by have := (List.getElem?_eq_some_iff.1 hi).1; simp at this; omega
            rw [hi0] at hi
            simp at hi
            subst hi
            refine ⟨SA, _, sc, (stepM (runM l ws k j).1 ws k).2, rfl, ?_, rfl, SLN.out⟩
            show ((runM l ws k j).2 ++ [(stepM (runM l ws k j).1 ws k).2])[i]? = _
            rw [List.getElem?_append_right (by rw [← HVL.out]; exact hge), ← HVL.out, hi0]
            rfl
      case measure => simp [intOf]; omega
    · obtain rfl : s = j := by omega
      go_wp2_with fail
      go_ret3
      exact ⟨A1, n1, c1, LA, lc, oj, rfl, HJ.out.1, HJ.out.2.1, HJ.out.2.2.1, HJ.out.2.2.2⟩
end Go.Proofs.YtkiknbjokknemaaGreat
