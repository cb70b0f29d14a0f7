/-
  WALKS of plays, RatingPlays.
-/
import Derived.Test.YtkceefheeicmbaaRatKH
namespace Go.Proofs.Ytkceefheeicmbaa
open Go.RowKit Go.Sort

/-- A list whose first k ratings are -1. -/
def overP (l : List Pl) (k : Nat) : List Pl := (l.take k).map (fun x => ⟨x.id, -1⟩) ++ l.drop k
theorem overP_zero (l : List Pl) : overP l 0 = l := by simp [overP]
theorem overP_get {l : List Pl} {k : Nat} {x : Pl} (hx : l[k]? = some x) : (overP l k)[k]? = some x := by
  have hk := (List.getElem?_eq_some_iff.1 hx).1
  unfold overP
  rw [List.getElem?_append_right (by simp; omega), List.length_map, List.length_take, Nat.min_eq_left (by omega), Nat.sub_self, List.getElem?_drop, Nat.add_zero, hx]
theorem overP_set {l : List Pl} {k : Nat} {x : Pl} (hx : l[k]? = some x) : (overP l k).set k ⟨x.id, -1⟩ = overP l (k + 1) := by
  have hk := (List.getElem?_eq_some_iff.1 hx).1
  unfold overP
  rw [List.set_append_right _ _ (by simp; omega), List.length_map, List.length_take, Nat.min_eq_left (by omega), Nat.sub_self, List.take_add_one, hx, List.drop_eq_getElem_cons hk, List.set_cons_zero, List.map_append, List.append_assoc]
  rfl
theorem overP_len (l : List Pl) (k : Nat) : (overP l k).length = l.length := by
  unfold overP; rw [List.length_append, List.length_map, List.length_take, List.length_drop]; omega

def playR (l : List Pl) (gs : List Gm) (k : Int) : List Pl := if playOk l gs.length k = true then (runG k l gs).getD [] else []
def playE (l : List Pl) (gs : List Gm) (k : Int) : Int := if playOk l gs.length k = true then (if (runG k l gs).isSome = true then 0 else 350) else 2
theorem play_u (w : World) (A : Option Addr) (n c : Nat) (l : List Pl) (hS : Sl w (fun _ => 0) 0 2 A n c (pls l)) (G : Option Addr) (m d : Nat) (gs : List Gm) (hT : Sl w (fun _ => 0) 0 3 G m d (gms gs)) (k : Int) (R : List Pl) (hR : R = playR l gs k) (E : Int) (hE : E = playE l gs k) :
    Calls Try.prog 32 #[.slice A n c, .slice G m d, .int .i64 k] w fun e w' => ∃ A' c' o', e = .returned (.tuple #[.slice A' R.length c', .int .i64 E]) ∧ Step [] w (fun _ => 0) w' o' ∧ Row w' o' 60 61 2 A' R.length c' (pls R) := by
  refine (Play_any w A n c l hS G m d gs hT k).mono ?_
  rintro e w' (⟨h, he, hb⟩ | ⟨h, h2, he, hb⟩ | ⟨h, l2, A', c', o', h2, he, hst, hr⟩)
  · have e1 : R = [] := by rw [hR, playR, h]; rfl
    have e2 : E = 2 := by rw [hE, playE, h]; rfl
    subst e1 e2
    exact ⟨none, 0, _, he, (Step.refl [] w (fun _ => 0)).below hb 0, Row.nil_ _ _ _ _ _⟩
  · have e1 : R = [] := by rw [hR, playR, h, h2]; rfl
    have e2 : E = 350 := by rw [hE, playE, h, h2]; rfl
    subst e1 e2
    exact ⟨none, 0, _, he, (Step.refl [] w (fun _ => 0)).below hb 0, Row.nil_ _ _ _ _ _⟩
  · have e1 : R = l2 := by rw [hR, playR, h, h2]; rfl
    have e2 : E = 0 := by rw [hE, playE, h, h2]; rfl
    have hlen : R.length = l.length := by
      have := hr.len
      rw [len_pls] at this
      rw [e1]; omega
    rw [e2, hlen]
    exact ⟨A', c', o', he, hst, by rw [e1]; exact hr⟩
theorem refPlay_u (w : World) (A : Option Addr) (n c : Nat) (l : List Pl) (hS : Sl w (fun _ => 0) 0 2 A n c (pls l)) (G : Option Addr) (m d : Nat) (gs : List Gm) (hT : Sl w (fun _ => 0) 0 3 G m d (gms gs)) (k : Int) (R : List Pl) (hR : R = playR l gs k) (E : Int) (hE : E = playE l gs k) :
    Calls Try.prog 57 #[.slice A n c, .slice G m d, .int .i64 k] w fun e w' => ∃ A' c' o', e = .returned (.tuple #[.slice A' R.length c', .int .i64 E]) ∧ Step [] w (fun _ => 0) w' o' ∧ Row w' o' 62 99 2 A' R.length c' (pls R) := by
  refine (refPlay_any w A n c l hS G m d gs hT k).mono ?_
  rintro e w' (⟨h, he, hb⟩ | ⟨h, h2, he, hb⟩ | ⟨h, l2, A', c', o', h2, he, hst, hr⟩)
  · have e1 : R = [] := by rw [hR, playR, h]; rfl
    have e2 : E = 2 := by rw [hE, playE, h]; rfl
    subst e1 e2
    exact ⟨none, 0, _, he, (Step.refl [] w (fun _ => 0)).below hb 0, Row.nil_ _ _ _ _ _⟩
  · have e1 : R = [] := by rw [hR, playR, h, h2]; rfl
    have e2 : E = 350 := by rw [hE, playE, h, h2]; rfl
    subst e1 e2
    exact ⟨none, 0, _, he, (Step.refl [] w (fun _ => 0)).below hb 0, Row.nil_ _ _ _ _ _⟩
  · have e1 : R = l2 := by rw [hR, playR, h, h2]; rfl
    have e2 : E = 0 := by rw [hE, playE, h, h2]; rfl
    have hlen : R.length = l.length := by
      have := hr.len
      rw [len_pls] at this
      rw [e1]; omega
    rw [e2, hlen]
    exact ⟨A', c', o', he, hst, by rw [e1]; exact hr⟩

set_option maxRecDepth 100000 in
set_option maxHeartbeats 8000000 in
theorem plays_any (w : World) (A : Option Addr) (n c : Nat) (l : List Pl) (hS : Sl w (fun _ => 0) 0 2 A n c (pls l)) (G : Option Addr) (m d : Nat) (gs : List Gm) (hT : Sl w (fun _ => 0) 0 3 G m d (gms gs)) (k : Int) (hn : n ≤ 300) (hm : m ≤ 2000) :
    Calls Try.prog 28 #[.slice A n c, .slice G m d, .int .i64 k] w (SaysTo w true) := by
  have hl : l.length = n := by have := hS.1; rw [len_pls] at this; omega
  have hlm : gs.length = m := by have := hT.1; rw [len_gms] at this; omega
  have sE := (Step.refl [] w (fun _ => 0)).alloc (.cells #[] 61) 80
  have HR0 := Lib.hid (Row.made (w := w) (fun _ => 0) 80 61 2 #[] 0 rfl (Nat.zero_le _) 0 (Nat.le_refl _))
  have HSE := Lib.hid sE; have HS4 := Lib.hid (hS.step sE (by simp)); have HT4 := Lib.hid (hT.step sE (by simp))
  have HL := Lib.hid hl; have HM := Lib.hid hlm
  obtain ⟨R, hR⟩ : ∃ R, R = playR l gs k := ⟨_, rfl⟩
  obtain ⟨E, hE⟩ : ∃ E, E = playE l gs k := ⟨_, rfl⟩
  have HRE := Lib.hid hR; have HEE := Lib.hid hE
  clear sE hS hT hl hlm hR hE
  go_enter Try.func28, Try.ntmps28
  go_wp2_with (at_builtin; refine wpList_append_row _ rfl (.tmp 16) (.tmp 17) _ rfl el_pl _ 80 _ 0 0 [] rfl HR0.out _ 0 A n c (pls l) rfl HS4.out (one_pls l) (by omega) (by simp only [maxLen]; omega) ?_; intro A2 c2 w3 hr3 hg3 hat3; have sA := Step.append HR0.out hg3 80; simp only [Nat.zero_add, List.nil_append] at hr3; have HST3 := Lib.hid ((HSE.out.nil.trans sA).forget (ts' := []) (fun t ht _ k _ => by simp at ht; subst ht; simp)); have HB3 := Lib.hid (HST3.out.to_below (by simp)); have HS3 := Lib.hid (HS4.out.step sA (by decide)).old0; have HT3 := Lib.hid (HT4.out.step sA (by decide)).old0; have HI3 := Lib.hid hr3.sl.old0; clear hr3 hg3 hat3 sA HSE HR0 HS4 HT4 HST3)
  refine (play_u w3 A2 n c2 l HI3.out G m d gs HT3.out k R HRE.out E HEE.out).mono ?_
  rintro e w4 ⟨A4, c4, o4, rfl, hst4, hr4⟩
  have hb4 := hst4.to_below (by simp)
  have HS5 := Lib.hid (HS3.out.up hb4); have HT5 := Lib.hid (HT3.out.up hb4); have HST := Lib.hid hst4; have HRO := Lib.hid hr4
  clear hb4 hst4 hr4
  go_wp2_with fail
  refine (given_any w4 A n c l HS5.out G m d gs HT5.out hn hm).mono ?_
  rintro e w5 ⟨A5, c5, B5, d5, o5, rfl, hst5, hrp, hrg⟩
  have hb5 := hst5.to_below (by simp)
  have s5 := (Step.refl [] w4 o4).below hb5 5
  have HST5 := Lib.hid (HST.out.trans s5); have HRO5 := Lib.hid (HRO.out.step s5 (by simp)); have HRP := Lib.hid hrp.sl.old0; have HRG := Lib.hid hrg.sl.old0
  obtain ⟨oo, hoo⟩ : ∃ o, o = ext o4 w4.heap.size 5 := ⟨_, rfl⟩
  rw [← hoo] at HST5 HRO5
  clear hb5 hst5 hrp hrg s5 hoo HS5 HT5 HST HRO
  rw [HL.out, HM.out]
  rw [HL.out] at HRP
  rw [HM.out] at HRG
  go_wp2_with fail
  refine (refPlay_u w5 A5 n c5 l HRP.out B5 m d5 gs HRG.out k R HRE.out E HEE.out).mono ?_
  rintro e w6 ⟨A6, c6, o6, rfl, hst6, hr6⟩
  have s6 := hst6.mixed oo
  have HST6 := Lib.hid (HST5.out.trans s6); have HRO6 := Lib.hid (HRO5.out.step s6 (by simp)); have HRW6 := Lib.hid (hr6.mixed hst6 oo (by decide))
  obtain ⟨om, hom⟩ : ∃ o, o = mix oo w5.heap.size o6 := ⟨_, rfl⟩
  rw [← hom] at HST6 HRO6 HRW6
  clear hst6 hr6 s6 hom HST5 HRO5 HRP HRG
  have hee : (E != E) = false := by simp
  have hrr : ((R.length : Int) != (R.length : Int)) = false := by simp
  have hRl : R.length ≤ 300 := by
    have h1 := HRO6.out.len
    rw [HRE.out]
    unfold playR
    split
    · rename_i hok
      cases hrun : runG k l gs with
      | none => simp
      | some l' =>
        obtain ⟨-, -, hwt, hri⟩ := playOk_iff.1 hok
        have := (runG_kept hwt gs (fun x hx => by have := okP_iff.1 (hri.1 x hx); rw [inR_iff]; omega) hrun).len
        have := HL.out
        simp only [Option.getD_some]; omega
    · simp
  go_wp2_with fail
  go_loopw [14] (fun s wr => ∃ i : Nat, i ≤ R.length ∧ s = .int .i64 i ∧ Hid (Step [60] w3 (fun _ => 0) wr om ∧ Row wr om 60 61 2 A4 R.length c4 (pls (overP R i)) ∧ Row wr om 62 99 2 A6 R.length c6 (pls R))) (fun s _ => R.length - (intOf s).toNat)
  case atStart => exact ⟨0, Nat.zero_le _, rfl, Lib.hid ⟨HST6.out.nil, by rw [overP_zero]; exact HRO6.out, HRW6.out⟩⟩
  case round => as_aux_lemma =>
    clear HST6 HRO6 HRW6
    obtain ⟨i, hi, rfl, HJ⟩ := hrel
    by_cases hlt : i < R.length
    · obtain ⟨x, hx⟩ : ∃ x, R[i]? = some x := ⟨_, List.getElem?_eq_getElem hlt⟩
      obtain ⟨g, cur, rfl, hog, hbk, -⟩ := HJ.out.2.1.form (by omega)
      obtain ⟨g', off, hA, -, hg, a0, a1⟩ := HJ.out.2.1.sl.pl (overP_get hx)
      injection hA with hA; injection hA with hA1 hA2; subst hA1 hA2
      obtain ⟨gb, ob, rfl, -, hgb, b0, b1⟩ := HJ.out.2.2.sl.pl hx
      rw [Nat.zero_add] at a0 a1
      have fa := hbk.frozen (i * 2 + 1)
      have hxi : (x.id != x.id) = false := by simp
      have hxr : (x.rt != x.rt) = false := by simp
      have hi1 : (i : Int) < (R.length : Int) := by omega
      have HIN : Hid (∀ q, Step [60] w3 (fun _ => 0) ((wr.drewN q).setCell ⟨g, i * 2 + 1, none⟩ (.int .i64 (-1))) om ∧ Row ((wr.drewN q).setCell ⟨g, i * 2 + 1, none⟩ (.int .i64 (-1))) om 60 61 2 (some ⟨g, 0, none⟩) R.length c4 (pls (overP R (i + 1))) ∧ Row ((wr.drewN q).setCell ⟨g, i * 2 + 1, none⟩ (.int .i64 (-1))) om 62 99 2 (some ⟨gb, ob, none⟩) R.length c6 (pls R)) := Lib.hid (fun q => by
        have sS := (Step.refl [60] (wr.drewN q) om).setCell (p := ⟨g, i * 2 + 1, none⟩) (.inr (by rw [hog]; simp)) (.int .i64 (-1))
        refine ⟨(HJ.out.1.drewN q).trans sS, ?_, (HJ.out.2.2.drewN q).step sS (by decide)⟩
        have := (HJ.out.2.1.drewN q).setc (k := i * 2 + 1) (by omega) (.int .i64 (-1))
        rwa [pls_set (overP R i) i x (-1) (overP_get hx), overP_set hx] at this)
      clear hx hog hbk HJ
      go_wp2_with fail
      go_quiet (fail)
      go_wp2_with fail
      go_roundw
      case rel => exact ⟨i + 1, by omega, by go_num, Lib.hid (HIN.out _)⟩
      case measure => simp [intOf]; omega
    · obtain rfl : i = R.length := by omega
      obtain ⟨wr, hwr⟩ : ∃ W, W = wr := ⟨_, rfl⟩
      rw [← hwr] at HJ ⊢
      clear hwr
      have hbX := (HJ.out.1.forget (ts' := []) (fun t ht _ k _ => by simp at ht; subst ht; simp)).to_below (by simp)
      have HSX := Lib.hid (HS3.out.up hbX); have HIX := Lib.hid (HI3.out.up hbX); have HBX := Lib.hid (below_then HB3.out hbX)
      clear hbX HJ
      go_wp2_with fail
      go_loopw [15] (fun s wr => ∃ i : Nat, i ≤ n ∧ s = .int .i64 i ∧ Hid (Below w.heap.size w wr ∧ Sl wr (fun _ => 0) 0 2 A n c (pls l) ∧ Sl wr (fun _ => 0) 0 2 A2 n c2 (pls l))) (fun s _ => n - (intOf s).toNat)
      case atStart => exact ⟨0, Nat.zero_le _, rfl, Lib.hid ⟨HBX.out, HSX.out, HIX.out⟩⟩
      case round => as_aux_lemma =>
        obtain ⟨i, hi, rfl, HI⟩ := hrel
        by_cases hlt : i < n
        · obtain ⟨x, hx⟩ : ∃ x, l[i]? = some x := ⟨_, List.getElem?_eq_getElem (by rw [HL.out]; exact hlt)⟩
          obtain ⟨ga, oa, rfl, -, hga, a0, a1⟩ := HI.out.2.1.pl hx
          obtain ⟨gb, ob, rfl, -, hgb, b0, b1⟩ := HI.out.2.2.pl hx
          have hi1 : (i : Int) < (n : Int) := by omega
          have HIN2 : Hid (∀ q, Below w.heap.size w (wr.drewN q) ∧ Sl (wr.drewN q) (fun _ => 0) 0 2 (some ⟨ga, oa, none⟩) n c (pls l) ∧ Sl (wr.drewN q) (fun _ => 0) 0 2 (some ⟨gb, ob, none⟩) n c2 (pls l)) :=
            Lib.hid (fun q => ⟨below_then HI.out.1 (below_drewN' _ _), HI.out.2.1.up (below_drewN' _ _), HI.out.2.2.up (below_drewN' _ _)⟩)
          clear hx
          go_wp2_with fail
          go_quiet (fail)
          go_wp2_with fail
          go_roundw
          case rel => exact ⟨i + 1, by omega, by go_num, Lib.hid (HIN2.out _)⟩
          case measure => simp [intOf]; omega
        · obtain rfl : n = i := by omega
          go_wp2_with fail
          go_ret
          exact ⟨rfl, HI.out.1⟩

set_option maxRecDepth 100000 in
set_option maxHeartbeats 2000000 in
theorem RatingPlays_walk (w : World) (A : Option Addr) (n c : Nat) (l : List Pl) (hS : Sl w (fun _ => 0) 0 2 A n c (pls l)) (G : Option Addr) (m d : Nat) (gs : List Gm) (hT : Sl w (fun _ => 0) 0 3 G m d (gms gs)) (k : Int) :
    Calls Try.prog 10 #[.slice A n c, .slice G m d, .int .i64 k] w (SaysTo w true) := by
  have hb : n ≤ 9223372036854775807 ∧ m ≤ 9223372036854775807 := by have h1 := hS.2.1; have h2 := hS.2.2.1; have h3 := hT.2.1; have h4 := hT.2.2.1; unfold maxLen at h2 h4; omega
  obtain ⟨hb1, hb2⟩ := hb
  have h1 := fun (a : n ≤ 40) (b : m ≤ 100) => plays_any w A n c l hS G m d gs hT k (by omega) (by omega)
  have H1 := Lib.hid h1
  clear h1 hS hT
  by_cases c1 : 40 < n
  · have d1 : decide (40 < (n : Int)) = true := by simp; omega
    go_enter Try.func10, Try.ntmps10
    go_wp2_with fail
    refine (awake_any _).mono ?_
    rintro e w1 ⟨rfl, hb⟩
    go_wp2_with fail
    go_ret
    exact ⟨rfl, hb⟩
  · have d1 : decide (40 < (n : Int)) = false := by simp; omega
    by_cases c2 : 100 < m
    · have d2 : decide (100 < (m : Int)) = true := by simp; omega
      go_enter Try.func10, Try.ntmps10
      go_wp2_with fail
      refine (awake_any _).mono ?_
      rintro e w1 ⟨rfl, hb⟩
      go_wp2_with fail
      go_ret
      exact ⟨rfl, hb⟩
    · have d2 : decide (100 < (m : Int)) = false := by simp; omega
      have H2 := Lib.hid (H1.out (by omega) (by omega))
      clear H1
      go_enter Try.func10, Try.ntmps10
      go_wp2_with fail
      refine H2.out.mono ?_
      rintro e w1 ⟨rfl, hb⟩
      have HB := Lib.hid hb; clear hb
      go_wp2_with fail
      refine (awake_any _).mono ?_
      rintro e w2 ⟨rfl, hb2⟩
      have HB2 := Lib.hid (below_then HB.out hb2); clear hb2
      go_wp2_with fail
      go_ret
      exact ⟨rfl, HB2.out⟩
end Go.Proofs.Ytkceefheeicmbaa
