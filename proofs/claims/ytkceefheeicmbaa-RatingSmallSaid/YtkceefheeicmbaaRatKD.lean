/-
  WALK of RatingSum.
-/
import Derived.Test.YtkceefheeicmbaaRatKC
namespace Go.Proofs.Ytkceefheeicmbaa
open Go.RowKit Go.Sort

theorem el_gm : Elem Try.prog 52 59 3 24 (.agg #[.int .i64 0, .int .i64 0, .int .i64 0]) := ⟨Try.underlying52, by kernel_rfl, rfl, by decide⟩
def playsIn (gs : List Gm) (id : Int) : Bool := gs.any fun g => g.a == id || g.b == id
theorem playsIn_snoc {gs : List Gm} {i : Nat} {g : Gm} (h : gs[i]? = some g) (id : Int) : playsIn (gs.take (i + 1)) id = (playsIn (gs.take i) id || (g.a == id) || (g.b == id)) := by
  unfold playsIn
  rw [List.take_add_one, h, List.any_append, Bool.or_assoc]
  simp

set_option maxRecDepth 100000 in
set_option maxHeartbeats 8000000 in
theorem RatingSum_walk (w : World) (A : Option Addr) (n c : Nat) (l : List Pl) (hS : Sl w (fun _ => 0) 0 2 A n c (pls l)) (G : Option Addr) (m d : Nat) (gs : List Gm) (hT : Sl w (fun _ => 0) 0 3 G m d (gms gs)) (k at_ : Int) :
    Calls Try.prog 12 #[.slice A n c, .slice G m d, .int .i64 k, .int .i64 at_] w (SaysTo w true) := by
  have hl : l.length = n := by have := hS.1; rw [len_pls] at this; omega
  have hm : gs.length = m := by have := hT.1; rw [len_gms] at this; omega
  have hb : n ≤ 9223372036854775807 ∧ m ≤ 9223372036854775807 := by have h1 := hS.2.1; have h2 := hS.2.2.1; have h3 := hT.2.1; have h4 := hT.2.2.1; unfold maxLen at h2 h4; omega
  obtain ⟨hb1, hb2⟩ := hb
  have hmd : m ≤ d := hT.2.1
  have HS := Lib.hid hS; have HT := Lib.hid hT; have HL := Lib.hid hl; have HM := Lib.hid hm
  clear hS hT hl hm
  go_enter Try.func12, Try.ntmps12
  go_wp2_with fail
  refine (awake_any _).mono ?_
  rintro e w1 ⟨rfl, hb1'⟩
  have HB := Lib.hid hb1'; have HS1 := Lib.hid (HS.out.up hb1'); have HT1 := Lib.hid (HT.out.up hb1')
  clear hb1' HS HT
  by_cases c1 : 60 < n
  · have d1 : decide (60 < (n : Int)) = true := by simp; omega
    go_wp2_with fail
    go_ret
    exact ⟨rfl, HB.out⟩
  have d1 : decide (60 < (n : Int)) = false := by simp; omega
  by_cases c2 : 200 < m
  · have d2 : decide (200 < (m : Int)) = true := by simp; omega
    go_wp2_with fail
    go_ret
    exact ⟨rfl, HB.out⟩
  have d2 : decide (200 < (m : Int)) = false := by simp; omega
  have hn60 : n ≤ 60 := by omega
  have hm200 : m ≤ 200 := by omega
  clear c1 c2
  by_cases hgood : playOk l gs.length k = true ∧ ∃ l', runG k l gs = some l'
  rotate_left
  · obtain ⟨E, hE⟩ : ∃ E : Int, E = if playOk l gs.length k = true then 350 else 2 := ⟨_, rfl⟩
    have hbad := play_bad0 w1 A n c l HS1.out G m d gs HT1.out k (by
      cases h1 : playOk l gs.length k
      · exact .inl rfl
      · right
        cases h2 : runG k l gs with
        | none => rfl
        | some l' => exact absurd ⟨h1, l', h2⟩ hgood) E hE
    have HBAD := Lib.hid hbad
    clear hbad hgood
    go_wp2_with fail
    refine HBAD.out.mono ?_
    rintro e w2 ⟨rfl, hb2'⟩
    have HB2 := Lib.hid (below_then HB.out hb2')
    clear hb2'
    by_cases hp : playOk l gs.length k = true
    · rw [if_pos hp] at hE
      subst hE
      go_wp2_with fail
      go_ret
      exact ⟨rfl, HB2.out⟩
    · rw [if_neg hp] at hE
      subst hE
      go_wp2_with fail
      go_ret
      exact ⟨rfl, HB2.out⟩
  obtain ⟨hok, l', hrun⟩ := hgood
  obtain ⟨hle, hml, hwt, hri⟩ := playOk_iff.1 hok
  have hinr : ∀ x ∈ l, inR x.rt = true := fun x hx => by have := okP_iff.1 (hri.1 x hx); rw [inR_iff]; omega
  have hkept := runG_kept hwt gs hinr hrun
  have hp := play_ok0 w1 A n c l HS1.out G m d gs HT1.out k hok l' hrun
  obtain ⟨S, hSum⟩ : ∃ S, S = sumP l := ⟨_, rfl⟩
  have HP := Lib.hid hp; have HOK := Lib.hid hok; have HRUN := Lib.hid hrun; have HWT := Lib.hid hwt; have HRI := Lib.hid hri; have HIN := Lib.hid hinr; have HK := Lib.hid hkept; have HSU := Lib.hid hSum
  clear hp hok hrun hle hml hwt hri hinr hkept hSum
  go_wp2_with fail
  refine HP.out.mono ?_
  rintro e w2 ⟨A2, c2, rfl, hb2', hp2⟩
  have HB2 := Lib.hid (below_then HB.out hb2'); have HS2 := Lib.hid (HS1.out.up hb2'); have HT2 := Lib.hid (HT1.out.up hb2'); have HP2 := Lib.hid hp2
  clear hb2' hp2 HP HB HS1 HT1
  have htot1 := total_any w2 A n c l HS2.out HIN.out (by omega) S HSU.out
  have htot2 := total_any w2 A2 n c2 l' HP2.out (HK.out.inr HIN.out) (by omega) S (by rw [HSU.out, HK.out.sum])
  have HT1' := Lib.hid htot1; have HT2' := Lib.hid htot2
  clear htot1 htot2
  have hss : (S != S) = false := by simp
  have hnn : ((n : Int) != (n : Int)) = false := by simp
  go_wp2_with fail
  refine HT1'.out.mono ?_
  rintro e w3 ⟨rfl, h3⟩
  subst w3
  go_wp2_with fail
  refine HT2'.out.mono ?_
  rintro e w3 ⟨rfl, h3⟩
  subst w3
  clear HT1' HT2'
  have hcn : n ≤ c2 := HP2.out.2.1
  go_wp2_with fail
  go_loopw [15, 16, 17] (fun s _ _ wr => ∃ i : Nat, i ≤ n ∧ s = .int .i64 i ∧ Hid (Below w2.heap.size w2 wr)) (fun s _ _ _ => n - (intOf s).toNat)
  case atStart => exact ⟨0, Nat.zero_le _, rfl, Lib.hid (Below.refl _ _)⟩
  case round => as_aux_lemma =>
    obtain ⟨i, hi, rfl, HI⟩ := hrel
    by_cases hlt : i < n
    · obtain ⟨x, hx⟩ : ∃ x, l[i]? = some x := ⟨_, List.getElem?_eq_getElem (by rw [HL.out]; exact hlt)⟩
      have HX := Lib.hid hx
      clear hx
      have hi1 : (i : Int) < (n : Int) := by omega
      obtain ⟨wo, hwo⟩ : ∃ wo : World, wo = wr := ⟨_, rfl⟩
      rw [← hwo] at HI ⊢
      clear hwo wr
      go_wp2_with fail
      go_loopw [17, 16] (fun s p wr => ∃ (j : Nat) (b : Bool), j ≤ m ∧ s = .int .i64 j ∧ p = .bool b ∧ Hid (b = playsIn (gs.take j) x.id) ∧ Hid (Below w2.heap.size w2 wr)) (fun s _ _ => m - (intOf s).toNat)
      case atStart => exact ⟨0, false, Nat.zero_le _, rfl, rfl, Lib.hid (by simp [playsIn]), HI⟩
      case round => as_aux_lemma =>
        clear HI
        obtain ⟨j, b, hj, rfl, rfl, HBJ, HI⟩ := hrel
        by_cases hltj : j < m
        · obtain ⟨g, hg⟩ : ∃ g, gs[j]? = some g := ⟨_, List.getElem?_eq_getElem (by rw [HM.out]; exact hltj)⟩
          obtain ⟨gg, og, rfl, -, hgg, g0, g1, g2⟩ := (HT2.out.up HI.out).gm hg
          obtain ⟨ga, oa, rfl, -, hga, a0, a1⟩ := (HS2.out.up HI.out).pl HX.out
          have hsn := playsIn_snoc hg x.id
          rw [← HBJ.out] at hsn
          obtain ⟨e1, he1⟩ : ∃ e : Bool, (g.a == x.id) = e := ⟨_, rfl⟩
          obtain ⟨e2, he2⟩ : ∃ e : Bool, (g.b == x.id) = e := ⟨_, rfl⟩
          rw [he1, he2] at hsn
          have HSN := Lib.hid hsn
          have HIN : Hid (∀ q, Below w2.heap.size w2 (wr.drewN q)) := Lib.hid (fun q => below_then HI.out (below_drewN' _ _))
          have hj1 : (j : Int) < (m : Int) := by omega
          clear hsn hg
          cases b
          · cases e1
            · cases e2
              · go_wp2_with fail
                go_quiet (fail)
                go_wp2_with fail
                go_roundw
                case rel => exact ⟨j + 1, false, by omega, by go_num, rfl, Lib.hid (by rw [HSN.out]; rfl), Lib.hid (HIN.out _)⟩
                case measure => simp [intOf]; omega
              · go_wp2_with fail
                go_quiet (fail)
                go_wp2_with fail
                go_roundw
                case rel => exact ⟨j + 1, true, by omega, by go_num, rfl, Lib.hid (by rw [HSN.out]; rfl), Lib.hid (HIN.out _)⟩
                case measure => simp [intOf]; omega
            · go_wp2_with fail
              go_quiet (fail)
              go_wp2_with fail
              go_roundw
              case rel => exact ⟨j + 1, true, by omega, by go_num, rfl, Lib.hid (by rw [HSN.out]; simp), Lib.hid (HIN.out _)⟩
              case measure => simp [intOf]; omega
          · go_wp2_with fail
            go_quiet (fail)
            go_wp2_with fail
            go_roundw
            case rel => exact ⟨j + 1, true, by omega, by go_num, rfl, Lib.hid (by rw [HSN.out]; simp), Lib.hid (HIN.out _)⟩
            case measure => simp [intOf]; omega
        · obtain rfl : m = j := by omega
          obtain ⟨y, hy, hyi⟩ := HK.out.id_at HX.out
          obtain ⟨ga, oa, rfl, -, hga, a0, a1⟩ := (HS2.out.up HI.out).pl HX.out
          obtain ⟨gb, ob, rfl, -, hgb, b0, b1⟩ := (HP2.out.up HI.out).pl hy
          rw [hyi] at b0
          have hxx : (x.id != x.id) = false := by simp
          have hidle : b = false → y = x := fun h => by
            have h1 := HBJ.out
            rw [h, List.take_of_length_le (by rw [HM.out]; exact Nat.le_refl _)] at h1
            have h2 := runG_idle gs HRUN.out HX.out (fun g hg => by
              have h3 := h1.symm
              unfold playsIn at h3
              rw [List.any_eq_false] at h3
              have := h3 g hg
              simpa using this)
            rw [hy] at h2; injection h2
          have HID := Lib.hid hidle
          have HIN : Hid (∀ q, Below w2.heap.size w2 (wr.drewN q)) := Lib.hid (fun q => below_then HI.out (below_drewN' _ _))
          clear hidle hy hyi
          cases b
          · obtain rfl : y = x := HID.out rfl
            go_wp2_with fail
            go_quiet (fail)
            go_wp2_with fail
            go_roundw
            case rel => exact ⟨i + 1, by omega, by go_num, Lib.hid (HIN.out _)⟩
            case measure => simp [intOf]; omega
          · go_wp2_with fail
            go_quiet (fail)
            go_wp2_with fail
            go_roundw
            case rel => exact ⟨i + 1, by omega, by go_num, Lib.hid (HIN.out _)⟩
            case measure => simp [intOf]; omega
    · obtain rfl : n = i := by omega
      obtain ⟨wr, hwr⟩ : ∃ W, W = wr := ⟨_, rfl⟩
      rw [← hwr] at HI ⊢
      clear hwr
      have HS3 := Lib.hid (HS2.out.up HI.out); have HT3 := Lib.hid (HT2.out.up HI.out); have HP3 := Lib.hid (HP2.out.up HI.out); have HB3 := Lib.hid (below_then HB2.out HI.out)
      clear HS2 HT2 HP2 HB2 HI
      go_wp2_with fail
      refine (Pick_any _ at_ ((m : Int) + 1) (by omega) (by omega)).mono ?_
      rintro e w4 ⟨R, hR0, hR1, rfl, h4⟩
      subst w4
      obtain ⟨q, rfl⟩ : ∃ q : Nat, R = q := ⟨R.toNat, by omega⟩
      have hqm : q ≤ m := by omega
      have hcut1 := run_headA Try.prog 52 59 _ 3 24 Try.underlying52 el_gm.info G m d q (by omega)
      obtain ⟨G2, hcut2, hG2⟩ := run_tailA Try.prog 52 59 _ 3 24 Try.underlying52 el_gm.info G m d q hqm hmd
      have hsplit : runG k l gs = (runG k l (gs.take q)).bind fun h => runG k h (gs.drop q) := by
        conv => lhs; rw [← List.take_append_drop q gs]
        rw [runG_append]
      rw [HRUN.out] at hsplit
      obtain ⟨half, hh1, hh2⟩ : ∃ half, runG k l (gs.take q) = some half ∧ runG k half (gs.drop q) = some l' := by
        cases h : runG k l (gs.take q) with
        | none => rw [h] at hsplit; cases hsplit
        | some half => rw [h, Option.bind_some] at hsplit; exact ⟨half, rfl, hsplit.symm⟩
      have hkh := runG_kept HWT.out (gs.take q) HIN.out hh1
      have hok1 : playOk l (gs.take q).length k = true := playOk_iff.2 ⟨by rw [HL.out]; omega, by rw [List.length_take, HM.out]; omega, HWT.out, HRI.out⟩
      have hok2 : playOk half (gs.drop q).length k = true := playOk_iff.2 ⟨by rw [hkh.len, HL.out]; omega, by rw [List.length_drop, HM.out]; omega, HWT.out, hkh.right HRI.out⟩
      have hp1 := play_ok0 wr A n c l HS3.out G q d (gs.take q) (HT3.out.gmHead hqm) k hok1 half hh1
      have hp2 := fun (W : World) (A4 : Option Addr) (c4 : Nat) (hS4 : Sl W (fun _ => 0) 0 2 A4 n c4 (pls half)) (hT4 : Sl W (fun _ => 0) 0 3 G m d (gms gs)) => play_ok0 W A4 n c4 half hS4 G2 (m - q) (d - q) (gs.drop q) (hT4.gmTail hqm hG2) k hok2 l' hh2
      have HP1 := Lib.hid hp1; have HPP := Lib.hid hp2
      clear hp1 hp2 hok1 hok2 hkh hh1 hh2 hsplit hG2
      go_wp2_with fail
      refine HP1.out.mono ?_
      rintro e w5 ⟨A5, c5, rfl, hb5, hp5⟩
      have HT5 := Lib.hid (HT3.out.up hb5); have HO5 := Lib.hid (HP3.out.up hb5); have HB5 := Lib.hid (below_then HB3.out hb5); have HH5 := Lib.hid hp5
      clear hb5 hp5 HP1 HS3 HT3 HP3 HB3 hcut1
      go_wp2_with fail
      refine (HPP.out w5 A5 c5 HH5.out HT5.out).mono ?_
      rintro e w6 ⟨A6, c6, rfl, hb6, hp6⟩
      have HO6 := Lib.hid (HO5.out.up hb6); have HB6 := Lib.hid (below_then HB5.out hb6); have HR6 := Lib.hid hp6
      clear hb6 hp6 HPP HT5 HO5 HB5 HH5 hcut2
      go_wp2_with fail
      go_loopw [23] (fun s wr => ∃ i : Nat, i ≤ n ∧ s = .int .i64 i ∧ Hid (Below w.heap.size w wr ∧ Sl wr (fun _ => 0) 0 2 A2 n c2 (pls l') ∧ Sl wr (fun _ => 0) 0 2 A6 n c6 (pls l'))) (fun s _ => n - (intOf s).toNat)
      case atStart => exact ⟨0, Nat.zero_le _, rfl, Lib.hid ⟨HB6.out, HO6.out, HR6.out⟩⟩
      case round => as_aux_lemma =>
        obtain ⟨i, hi, rfl, HI⟩ := hrel
        by_cases hlt : i < n
        · obtain ⟨x, hx⟩ : ∃ x, l'[i]? = some x := ⟨_, List.getElem?_eq_getElem (by rw [HK.out.len, HL.out]; exact hlt)⟩
          obtain ⟨ga, oa, rfl, -, hga, a0, a1⟩ := HI.out.2.1.pl hx
          obtain ⟨gb, ob, rfl, -, hgb, b0, b1⟩ := HI.out.2.2.pl hx
          have hi1 : (i : Int) < (n : Int) := by omega
          have HIN2 : Hid (∀ q, Below w.heap.size w (wr.drewN q) ∧ Sl (wr.drewN q) (fun _ => 0) 0 2 (some ⟨ga, oa, none⟩) n c2 (pls l') ∧ Sl (wr.drewN q) (fun _ => 0) 0 2 (some ⟨gb, ob, none⟩) n c6 (pls l')) :=
            Lib.hid (fun q => ⟨below_then HI.out.1 (below_drewN' _ _), HI.out.2.1.up (below_drewN' _ _), HI.out.2.2.up (below_drewN' _ _)⟩)
          clear hx
          go_wp2_with fail
          go_quiet (fail)
          go_wp2_with fail
          go_roundw
          case rel => exact ⟨i + 1, by omega, by go_num, Lib.hid (HIN2.out _)⟩
          case measure => simp [intOf]; omega
        · obtain rfl : n = i := by omega
          go_wp2_with fail
          go_ret
          exact ⟨rfl, HI.out.1⟩
end Go.Proofs.Ytkceefheeicmbaa
