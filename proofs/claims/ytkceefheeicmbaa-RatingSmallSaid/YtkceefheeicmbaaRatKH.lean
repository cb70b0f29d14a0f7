/-
  WALKS of the reference's find and Play.
-/
import Derived.Test.YtkceefheeicmbaaRatKG
import Derived.Test.YtkceefheeicmbaaRatE
namespace Go.Proofs.Ytkceefheeicmbaa
open Go.RowKit Go.Sort

theorem findP_first {l : List Pl} {id : Int} {i : Nat} {x : Pl} (h : ∀ (j : Nat) y, j < i → l[j]? = some y → y.id ≠ id) (hx : l[i]? = some x) (he : x.id = id) : findP l id = some i := by
  unfold findP
  obtain ⟨hi, e⟩ := List.getElem?_eq_some_iff.1 hx
  rw [List.findIdx?_eq_some_iff_getElem]
  refine ⟨hi, by rw [e]; simpa using he, fun j hj => ?_⟩
  have := h j _ hj (List.getElem?_eq_getElem (by omega))
  simpa using this
theorem findP_no {l : List Pl} {id : Int} (h : ∀ (j : Nat) y, l[j]? = some y → y.id ≠ id) : findP l id = none := by
  unfold findP
  rw [List.findIdx?_eq_none_iff]
  intro x hx
  obtain ⟨j, hj⟩ := List.getElem?_of_mem hx
  simpa using h j x hj
def findI (l : List Pl) (id : Int) : Int := match findP l id with | some i => (i : Int) | none => -1

set_option maxRecDepth 100000 in
set_option maxHeartbeats 1000000 in
theorem refFind_any (w : World) (A : Option Addr) (n c : Nat) (l : List Pl) (hS : Sl w (fun _ => 0) 0 2 A n c (pls l)) (hn : n ≤ 300) (id R : Int) (hR : R = findI l id) :
    Calls Try.prog 77 #[.slice A n c, .int .i64 id] w (Just w (.int .i64 R)) := by
  have hln : l.length = n := by have := hS.1; rw [len_pls] at this; omega
  have HS := Lib.hid hS; have HL := Lib.hid hln; have HR := Lib.hid hR
  clear hS hln hR
  go_enter Try.func77, Try.ntmps77
  go_wp2_with fail
  go_loopw [5] (fun s wr => ∃ i : Nat, i ≤ n ∧ s = .int .i64 i ∧ wr = w ∧ Hid (∀ (j : Nat) y, j < i → l[j]? = some y → y.id ≠ id)) (fun s _ => n - (intOf s).toNat)
  case atStart => exact ⟨0, Nat.zero_le _, rfl, rfl, Lib.hid (fun j y h => absurd h (Nat.not_lt_zero _))⟩
  case round =>
    obtain ⟨i, hi, rfl, rfl, HI⟩ := hrel
    by_cases hlt : i < n
    · obtain ⟨x, hx⟩ : ∃ x, l[i]? = some x := ⟨_, List.getElem?_eq_getElem (by rw [HL.out]; exact hlt)⟩
      obtain ⟨g, off, rfl, -, hg, ca, cb⟩ := HS.out.pl hx
      have HX := Lib.hid hx
      clear hx
      by_cases he : x.id = id
      · have d1 : (x.id == id) = true := by simpa using he
        have HF : Hid (R = (i : Int)) := Lib.hid (by rw [HR.out, findI, findP_first HI.out HX.out he])
        clear he
        go_wp2_with fail
        go_ret
        exact ⟨by rw [HF.out]; rfl, rfl⟩
      · have d1 : (x.id == id) = false := by simpa using he
        have HN : Hid (∀ (j : Nat) y, j < i + 1 → l[j]? = some y → y.id ≠ id) := Lib.hid (fun j y hj hy => by
          by_cases hji : j = i
          · subst hji; have := HX.out.symm.trans hy; injection this with this; subst this; exact he
          · exact HI.out j y (by omega) hy)
        clear he
        go_wp2_with fail
        go_roundw
        case rel => exact ⟨i + 1, by omega, by go_num, by trivial, HN⟩
        case measure => simp [intOf]; omega
    · obtain rfl : n = i := by omega
      have HF : Hid (R = -1) := Lib.hid (by
        rw [HR.out, findI, findP_no (fun j y hy => HI.out j y (by have := (List.getElem?_eq_some_iff.1 hy).1; have := HL.out; omega) hy)])
      go_wp2_with fail
      go_ret
      exact ⟨by rw [HF.out]; rfl, rfl⟩

/-- What the reference's Play comes to. -/
def RPlayTo (w : World) (l : List Pl) (gs : List Gm) (k : Int) (e : Ending) (w' : World) : Prop :=
  (playOk l gs.length k = false ∧ e = .returned (.tuple #[.slice none 0 0, .int .i64 2]) ∧ Below w.heap.size w w') ∨
  (playOk l gs.length k = true ∧ runG k l gs = none ∧ e = .returned (.tuple #[.slice none 0 0, .int .i64 350]) ∧ Below w.heap.size w w') ∨
  (playOk l gs.length k = true ∧ ∃ l' A c o', runG k l gs = some l' ∧ e = .returned (.tuple #[.slice A l.length c, .int .i64 0]) ∧ Step [] w (fun _ => 0) w' o' ∧ Row w' o' 62 99 2 A l.length c (pls l'))

/-- Between two games of the reference. -/
def RI (w wr : World) (A : Option Addr) (n c : Nat) (l : List Pl) : Prop := ∃ o, Step [] w (fun _ => 0) wr o ∧ Row wr o 62 99 2 A n c (pls l)
section
variable {w wr wr' : World} {A : Option Addr} {n c : Nat} {l : List Pl}
theorem RI.below (h : RI w wr A n c l) (hb : Below wr.heap.size wr wr') : RI w wr' A n c l := by
  obtain ⟨o, h1, h2⟩ := h
  exact ⟨_, h1.below hb 5, h2.step ((Step.refl [] wr o).below hb 5) (by simp)⟩
theorem RI.to_below (h : RI w wr A n c l) : Below w.heap.size w wr := by obtain ⟨o, h1, -⟩ := h; exact h1.to_below (by simp)
theorem RI.sl (h : RI w wr A n c l) : Sl wr (fun _ => 0) 0 2 A n c (pls l) := by obtain ⟨o, -, h2⟩ := h; exact h2.sl.old0
theorem RI.old {sz' : Nat} {A' : Option Addr} {n' c' : Nat} {xs : List Value} (h : RI w wr A n c l) (hS : Sl w (fun _ => 0) 0 sz' A' n' c' xs) : Sl wr (fun _ => 0) 0 sz' A' n' c' xs := by obtain ⟨o, h1, -⟩ := h; exact (hS.step h1 (by simp)).old0
theorem RI.row (h : RI w wr A n c l) {i : Nat} {x : Pl} (hx : l[i]? = some x) : ∃ g, A = some ⟨g, 0, none⟩ ∧ i < n ∧ wr.cell? ⟨g, i * 2 + 1, none⟩ = some (.int .i64 x.rt) ∧ wr.frozen? ⟨g, i * 2 + 1, none⟩ = false := by
  obtain ⟨o, h1, h2⟩ := h
  have hi := (List.getElem?_eq_some_iff.1 hx).1
  have hlen := h2.len
  rw [len_pls] at hlen
  obtain ⟨g, cur, hA, ho, hb, hnc, hm, hsz, ht⟩ := h2.form (by omega)
  obtain ⟨g', off, hA', -, -, hc1, hc2⟩ := h2.sl.pl hx
  rw [hA] at hA'
  injection hA' with hA'; injection hA' with e1 e2; subst e1 e2
  exact ⟨g, hA, by omega, by rwa [Nat.zero_add] at hc2, hb.frozen _⟩
theorem RI.put {g : Nat} (h : RI w wr (some ⟨g, 0, none⟩) n c l) {i : Nat} {x : Pl} (hx : l[i]? = some x) (v : Int) : RI w (wr.setCell ⟨g, i * 2 + 1, none⟩ (.int .i64 v)) (some ⟨g, 0, none⟩) n c (l.set i ⟨x.id, v⟩) := by
  obtain ⟨o, h1, h2⟩ := h
  have hi := (List.getElem?_eq_some_iff.1 hx).1
  have hlen := h2.len
  rw [len_pls] at hlen
  obtain ⟨g', cur, hA, ho, hb, -⟩ := h2.form (by omega)
  injection hA with hA; injection hA with hA; subst hA
  refine ⟨o, ((h1.nil.trans ((Step.refl [62] wr o).setCell (.inr (by rw [ho]; simp)) _)).forget (ts' := []) (fun t ht _ k _ => by simp at ht; subst ht; simp)), ?_⟩
  have := h2.setc (k := i * 2 + 1) (by omega) (.int .i64 v)
  rwa [pls_set l i x v hx] at this
end

set_option maxRecDepth 100000 in
set_option maxHeartbeats 8000000 in
theorem refPlay_any (w : World) (A : Option Addr) (n c : Nat) (l : List Pl) (hS : Sl w (fun _ => 0) 0 2 A n c (pls l)) (G : Option Addr) (m d : Nat) (gs : List Gm) (hT : Sl w (fun _ => 0) 0 3 G m d (gms gs)) (k : Int) :
    Calls Try.prog 57 #[.slice A n c, .slice G m d, .int .i64 k] w (RPlayTo w l gs k) := by
  have hl : l.length = n := by have := hS.1; rw [len_pls] at this; omega
  have hm : gs.length = m := by have := hT.1; rw [len_gms] at this; omega
  have hb : n ≤ 9223372036854775807 ∧ m ≤ 9223372036854775807 := by have h1 := hS.2.1; have h2 := hS.2.2.1; have h3 := hT.2.1; have h4 := hT.2.2.1; unfold maxLen at h2 h4; omega
  obtain ⟨hb1, hb2⟩ := hb
  obtain ⟨OK, hok⟩ : ∃ OK, OK = playOk l gs.length k := ⟨_, rfl⟩
  obtain ⟨P, hP⟩ : ∃ P, P = RPlayTo w l gs k := ⟨_, rfl⟩
  have hPbad : OK = false → ∀ w', Below w.heap.size w w' → P (.returned (.tuple #[.slice none 0 0, .int .i64 2])) w' := fun h w' hb => by rw [hP]; exact .inl ⟨by rw [← hok]; exact h, rfl, hb⟩
  obtain ⟨WT, hWT⟩ : ∃ W, W = isWt k := ⟨_, rfl⟩
  have hw := fun W => right_any W 0 k WT (by rw [hWT]; rfl)
  have hOKe : OK = (decide (n ≤ 200) && decide (m ≤ 1000) && WT && okPs l n) := by rw [hok, hWT, ← hl, ← hm]; rfl
  rw [← hP]
  have HS := Lib.hid hS; have HT := Lib.hid hT; have HL := Lib.hid hl; have HM := Lib.hid hm; have HP := Lib.hid hP; have HBAD := Lib.hid hPbad; have HW := Lib.hid hw; have HOKE := Lib.hid hOKe; have HOK := Lib.hid hok; have HWT := Lib.hid hWT
  clear hS hT hl hm hP hPbad hw hOKe hok hWT
  by_cases c1 : 200 < n
  · have d1 : decide (200 < (n : Int)) = true := by simp; omega
    have hf : OK = false := by rw [HOKE.out, decide_eq_false (show ¬ n ≤ 200 by omega)]; rfl
    have HF := Lib.hid (HBAD.out hf w (Below.refl _ _))
    clear c1 hf
    go_enter Try.func57, Try.ntmps57
    go_wp2_with fail
    exact HF.out
  have d1 : decide (200 < (n : Int)) = false := by simp; omega
  by_cases c2 : 1000 < m
  · have d2 : decide (1000 < (m : Int)) = true := by simp; omega
    have hf : OK = false := by rw [HOKE.out, decide_eq_false (show ¬ m ≤ 1000 by omega)]; simp
    have HF := Lib.hid (HBAD.out hf w (Below.refl _ _))
    clear c1 c2 hf
    go_enter Try.func57, Try.ntmps57
    go_wp2_with fail
    exact HF.out
  have d2 : decide (1000 < (m : Int)) = false := by simp; omega
  cases WT
  · have hf : OK = false := by rw [HOKE.out]; simp
    have HF := Lib.hid (HBAD.out hf w (Below.refl _ _))
    clear c1 c2 hf
    go_enter Try.func57, Try.ntmps57
    go_wp2_with (go_at_call 63; refine (HW.out _).mono ?_; rintro e w2 ⟨rfl, h2⟩; subst w2)
    exact HF.out
  have hOKe2 : OK = okPs l n := by rw [HOKE.out, decide_eq_true (show n ≤ 200 by omega), decide_eq_true (show m ≤ 1000 by omega)]; rfl
  have hn200 : n ≤ 200 := by omega
  have hm1000 : m ≤ 1000 := by omega
  have HOKE2 := Lib.hid hOKe2
  clear c1 c2 hOKe2 HOKE hb1 hb2
  go_enter Try.func57, Try.ntmps57
  go_wp2_with (go_at_call 63; refine (HW.out _).mono ?_; rintro e w2 ⟨rfl, h2⟩; subst w2)
  clear d1 d2 HW
  go_loopw [8] (fun s wr => ∃ i : Nat, i ≤ n ∧ s = .int .i64 i ∧ Hid (okPs l i = true) ∧ Hid (Below w.heap.size w wr)) (fun s _ => n - (intOf s).toNat)
  case atStart => exact ⟨0, Nat.zero_le _, rfl, Lib.hid rfl, Lib.hid (Below.refl _ _)⟩
  case round => as_aux_lemma =>
    obtain ⟨i, hi, rfl, HI, HB⟩ := hrel
    by_cases hlt : i < n
    · obtain ⟨x, hx⟩ : ∃ x, l[i]? = some x := ⟨_, List.getElem?_eq_getElem (by rw [HL.out]; exact hlt)⟩
      obtain ⟨g, off, rfl, -, hg, ca, cb⟩ := (HS.out.up HB.out).pl hx
      have hsucc := okPs_succ hx
      rw [HI.out, Bool.true_and, okP, inR] at hsucc
      have hbad : okPs l (i + 1) = false → OK = false := fun h => by
        cases hOK : OK
        · rfl
        · have e : okPs l n = true := by rw [← HOKE2.out, hOK]
          rw [okPs_mono e (by omega)] at h; cases h
      have HBQ : Hid (∀ q, Below w.heap.size w (wr.drewN q)) := Lib.hid (fun q => below_then HB.out (below_drewN' _ _))
      have HSC := Lib.hid hsucc; have HBD := Lib.hid hbad
      clear hsucc hbad
      have hi1 : (i : Int) < (n : Int) := by omega
      by_cases h1 : x.id < 1
      · have d1 : decide (x.id < 1) = true := by simpa using h1
        have HF := Lib.hid (HBAD.out (HBD.out (by rw [HSC.out, decide_eq_false (show ¬ 1 ≤ x.id by omega)]; simp)))
        clear h1
        go_wp2_with fail
        go_quiet (fail)
        go_wp2_with fail
        exact HF.out _ (HBQ.out _)
      have d1 : decide (x.id < 1) = false := by simpa using h1
      by_cases h2 : 65536 < x.id
      · have d2 : decide (65536 < x.id) = true := by simpa using h2
        have HF := Lib.hid (HBAD.out (HBD.out (by rw [HSC.out, decide_eq_false (show ¬ x.id ≤ 65536 by omega)]; simp)))
        clear h1 h2
        go_wp2_with fail
        go_quiet (fail)
        go_wp2_with fail
        exact HF.out _ (HBQ.out _)
      have d2 : decide (65536 < x.id) = false := by simpa using h2
      by_cases h3 : x.rt < 0
      · have d3 : decide (x.rt < 0) = true := by simpa using h3
        have HF := Lib.hid (HBAD.out (HBD.out (by rw [HSC.out, decide_eq_false (show ¬ 0 ≤ x.rt by omega)]; simp)))
        clear h1 h2 h3
        go_wp2_with fail
        go_quiet (fail)
        go_wp2_with fail
        exact HF.out _ (HBQ.out _)
      have d3 : decide (x.rt < 0) = false := by simpa using h3
      by_cases h4 : 4000 < x.rt
      · have d4 : decide (4000 < x.rt) = true := by simpa using h4
        have HF := Lib.hid (HBAD.out (HBD.out (by rw [HSC.out, decide_eq_false (show ¬ x.rt ≤ 4000 by omega)]; simp)))
        clear h1 h2 h3 h4
        go_wp2_with fail
        go_quiet (fail)
        go_wp2_with fail
        exact HF.out _ (HBQ.out _)
      have d4 : decide (4000 < x.rt) = false := by simpa using h4
      have hs1 : okPs l (i + 1) = (decide (i = 0) || decide ((l.getD (i - 1) default).id < x.id)) := by
        rw [HSC.out, decide_eq_true (show 1 ≤ x.id by omega), decide_eq_true (show x.id ≤ 65536 by omega), decide_eq_true (show 0 ≤ x.rt by omega), decide_eq_true (show x.rt ≤ 4000 by omega)]; rfl
      have HS1 := Lib.hid hs1
      clear hs1 h1 h2 h3 h4 HSC
      by_cases hi0 : i = 0
      · subst hi0
        rw [Nat.zero_mul, Nat.add_zero] at ca cb
        have HN : Hid (okPs l (0 + 1) = true) := Lib.hid (by rw [HS1.out]; rfl)
        have d5 : decide ((0 : Int) < 0) = false := rfl
        go_wp2_with fail
        go_quiet (fail)
        go_wp2_with fail
        go_roundw
        case rel => exact ⟨1, by omega, by rfl, HN, Lib.hid (HBQ.out _)⟩
        case measure => simp [intOf]; omega
      · obtain ⟨j, rfl⟩ : ∃ j, i = j + 1 := ⟨i - 1, by omega⟩
        obtain ⟨y, hy⟩ : ∃ y, l[j]? = some y := ⟨_, List.getElem?_eq_getElem (by rw [HL.out]; omega)⟩
        obtain ⟨g', off', hgg, -, -, cc, cd⟩ := (HS.out.up HB.out).pl hy
        injection hgg with hgg; injection hgg with hg1 hg2; subst hg1 hg2
        have hs2 : okPs l (j + 1 + 1) = decide (y.id < x.id) := by
          rw [HS1.out, decide_eq_false (show ¬ j + 1 = 0 by omega), Nat.add_sub_cancel, List.getD_eq_getElem?_getD, hy, Option.getD_some, Bool.false_or]
        have HS2 := Lib.hid hs2
        clear hs2 HS1 hi0 hy cd
        have d5 : decide ((0 : Int) < (j : Int) + 1) = true := by rw [decide_eq_true_eq]; omega
        have hj1 : (j : Int) < (n : Int) := by omega
        have hj3 : (j : Int) + 1 < (n : Int) := by omega
        have hj2 : IntKind.i64.wrap ((j : Int) + 1 - 1) = (j : Int) := (IntWalk.i64_in _ (by omega)).trans (by omega)
        have HJ2 := Lib.hid hj2
        clear hj2
        by_cases hyx : x.id ≤ y.id
        · have d6 : decide (x.id ≤ y.id) = true := by simpa using hyx
          have hf : okPs l (j + 1 + 1) = false := by rw [HS2.out, decide_eq_false_iff_not]; omega
          have HF := Lib.hid (HBAD.out (HBD.out hf))
          clear hf hyx
          go_wp2_with fail
          have hj2 := HJ2.out
          go_quiet (fail)
          clear hj2
          go_wp2_with fail
          exact HF.out _ (HBQ.out _)
        · have d6 : decide (x.id ≤ y.id) = false := by simpa using hyx
          have HN : Hid (okPs l (j + 1 + 1) = true) := Lib.hid (by rw [HS2.out, decide_eq_true_eq]; omega)
          clear hyx
          go_wp2_with fail
          have hj2 := HJ2.out
          go_quiet (fail)
          clear hj2
          go_wp2_with fail
          go_roundw
          case rel => exact ⟨j + 1 + 1, by omega, by go_num, HN, Lib.hid (HBQ.out _)⟩
          case measure => simp [intOf]; omega
    · obtain rfl : n = i := by omega
      have hOK : OK = true := by rw [HOKE2.out, HI.out]
      obtain ⟨hle, hml, hwt, hri⟩ := playOk_iff.1 (show playOk l gs.length k = true by rw [← HOK.out, hOK])
      have hk := isWt_iff.1 hwt
      obtain ⟨k0, k1⟩ := hk
      obtain ⟨wr, hwr⟩ : ∃ W, W = wr := ⟨_, rfl⟩
      rw [← hwr] at HB
      have HRI := Lib.hid hri; have HWK := Lib.hid hwt; have HOKT := Lib.hid hOK
      have hst5 : Step [] w (fun _ => 0) wr (fun _ => 0) := by have := (Step.refl [] w (fun _ => 0)).below HB.out 0; rwa [ext00] at this
      have sE := (Step.refl [] wr (fun _ => 0)).alloc (.cells #[] 99) 62
      have HR0 := Lib.hid (Row.made (w := wr) (fun _ => 0) 62 99 2 #[] 0 rfl (Nat.zero_le _) 0 (Nat.le_refl _))
      have HSE := Lib.hid (hst5.trans sE); have HS4 := Lib.hid ((HS.out.up HB.out).step sE (by simp))
      rw [← hwr]
      clear hle hml hwt hri hOK hst5 hwr HI HBAD HOKE2 HB sE
      go_wp2_with (at_builtin; refine wpList_append_row _ rfl (.tmp 82) (.tmp 83) _ rfl el_rpl _ 62 _ 0 0 [] rfl HR0.out _ 0 A n c (pls l) rfl HS4.out (one_pls l) (by omega) (by simp only [maxLen]; omega) ?_; intro A2 c2 w3 hr3 hg3 hat3; have sA := Step.append HR0.out hg3 62; simp only [Nat.zero_add, List.nil_append] at hr3; have HGI : Hid (RI w w3 A2 n c2 l) := Lib.hid ⟨_, ((HSE.out.nil.trans sA).forget (ts' := []) (fun t ht _ k _ => by simp at ht; subst ht; simp)), hr3⟩; clear hr3 hg3 hat3 sA HSE HR0 HS4)
      go_loopw [10, 11, 12, 13, 14] (fun s _ _ _ _ wr => ∃ (j : Nat) (lj : List Pl), j ≤ m ∧ s = .int .i64 j ∧ Hid (runG k l (gs.take j) = some lj) ∧ Hid (RI w wr A2 n c2 lj)) (fun s _ _ _ _ _ => m - (intOf s).toNat)
      case atStart => exact ⟨0, l, Nat.zero_le _, rfl, Lib.hid (by rw [List.take_zero]; rfl), HGI⟩
      case round => as_aux_lemma =>
        clear HGI
        obtain ⟨j, lj, hj, rfl, HRUN, HG⟩ := hrel
        by_cases hlt : j < m
        · obtain ⟨g, hg⟩ : ∃ g, gs[j]? = some g := ⟨_, List.getElem?_eq_getElem (by rw [HM.out]; exact hlt)⟩
          obtain ⟨gg, og, rfl, -, hgg, ca, cb, cc⟩ := (HG.out.old HT.out).gm hg
          have hkept := runG_kept HWK.out (gs.take j) (fun x hx => by have := okP_iff.1 (HRI.out.1 x hx); rw [inR_iff]; omega) HRUN.out
          have hright := hkept.right HRI.out
          obtain ⟨fa, hfa⟩ : ∃ f, f = findI lj g.a := ⟨_, rfl⟩
          obtain ⟨fb, hfb⟩ : ∃ f, f = findI lj g.b := ⟨_, rfl⟩
          have hfinda : ∀ q, Calls Try.prog 77 #[.slice A2 n c2, .int .i64 g.a] (wr.drewN q) (fun e w' => e = .returned (.int .i64 fa) ∧ w' = wr.drewN q) := fun q => refFind_any _ A2 n c2 lj (HG.out.sl.up (below_drewN' _ _)) (by omega) g.a fa hfa
          have hfindb : ∀ q, Calls Try.prog 77 #[.slice A2 n c2, .int .i64 g.b] (wr.drewN q) (fun e w' => e = .returned (.int .i64 fb) ∧ w' = wr.drewN q) := fun q => refFind_any _ A2 n c2 lj (HG.out.sl.up (below_drewN' _ _)) (by omega) g.b fb hfb
          have hnone : stepG k lj g = none → ∀ w', Below w.heap.size w w' → P (.returned (.tuple #[.slice none 0 0, .int .i64 350])) w' := fun h w' hb => by
            rw [HP.out]; exact .inr (.inl ⟨by rw [← HOK.out]; exact HOKT.out, runG_stop hg HRUN.out h, rfl, hb⟩)
          have hnext := runG_snoc (k := k) (l := l) hg
          rw [HRUN.out, Option.bind_some] at hnext
          have HNO := Lib.hid hnone; have HNX := Lib.hid hnext; have HRT := Lib.hid hright; have HFA := Lib.hid hfinda; have HFB := Lib.hid hfindb; have HEA := Lib.hid hfa; have HEB := Lib.hid hfb
          have hjm : (j : Int) < (m : Int) := by omega
          clear hkept hright hnone hnext hg hfinda hfindb hfa hfb
          go_wp2_with fail
          go_quiet ((go_at_call 77; first | with_reducible exact Calls.quiet_of_same (HFA.out _) | with_reducible exact Calls.quiet_of_same (HFB.out _)))
          obtain ⟨W5, hW5⟩ : ∃ W, W = wr.drewN nq := ⟨_, rfl⟩
          have HG5 : Hid (RI w W5 A2 n c2 lj) := Lib.hid (by rw [hW5]; exact HG.out.below (below_drewN' _ _))
          have cc5 : W5.cell? ⟨gg, og + j * 3 + 2, none⟩ = some (.int .i64 g.s) := by rw [hW5]; exact cc
          rw [← hW5]
          clear hW5 HG ca cb cc HFA HFB
          have hneg : stepG k lj g = none → P (.returned (.tuple #[.slice none 0 0, .int .i64 350])) W5 := fun h => HNO.out h W5 HG5.out.to_below
          have HNEG := Lib.hid hneg
          clear hneg HNO
          obtain ⟨S, hS⟩ : ∃ S, S = (isSc g.s && isWt k) := ⟨_, rfl⟩
          have hsc := fun W => right_any W g.s k S hS
          have HSC := Lib.hid hsc; have HSE := Lib.hid (show S = isSc g.s by rw [hS, HWK.out, Bool.and_true])
          clear hsc hS
          cases hpa : findP lj g.a with
          | none =>
            have hf : stepG k lj g = none := by unfold stepG; rw [hpa]
            have HF := Lib.hid (HNEG.out hf)
            obtain rfl : fa = -1 := by rw [HEA.out, findI, hpa]
            have d1 : decide ((-1 : Int) < 0) = true := rfl
            clear hf hpa
            go_wp2_with fail
            exact HF.out
          | some i =>
          obtain rfl : fa = (i : Int) := by rw [HEA.out, findI, hpa]
          have d1 : decide ((i : Int) < 0) = false := by rw [decide_eq_false_iff_not]; omega
          cases hpb : findP lj g.b with
          | none =>
            have hf : stepG k lj g = none := by unfold stepG; rw [hpa, hpb]
            have HF := Lib.hid (HNEG.out hf)
            obtain rfl : fb = -1 := by rw [HEB.out, findI, hpb]
            have d2 : decide ((-1 : Int) < 0) = true := rfl
            clear hf hpa hpb
            go_wp2_with fail
            exact HF.out
          | some i' =>
          obtain rfl : fb = (i' : Int) := by rw [HEB.out, findI, hpb]
          have d2 : decide ((i' : Int) < 0) = false := by rw [decide_eq_false_iff_not]; omega
          obtain ⟨x, hx, hxe⟩ := findP_some hpa
          obtain ⟨y, hy, hye⟩ := findP_some hpb
          by_cases hii : i = i'
          · have d3 : ((i : Int) == (i' : Int)) = true := by simp [hii]
            have hf : stepG k lj g = none := by unfold stepG; rw [hpa, hpb]; simp only; rw [if_neg (by rintro ⟨h, -⟩; exact h hii)]
            have HF := Lib.hid (HNEG.out hf)
            clear hf hpa hpb hx hy hxe hye hii
            go_wp2_with fail
            exact HF.out
          have d3 : ((i : Int) == (i' : Int)) = false := by simp; omega
          cases S
          · have hf : stepG k lj g = none := by unfold stepG; rw [hpa, hpb]; simp only; rw [if_neg (by rintro ⟨-, h⟩; rw [← HSE.out] at h; cases h)]
            have HF := Lib.hid (HNEG.out hf)
            clear hf hpa hpb hx hy hxe hye hii
            go_wp2_with (go_at_call 63; refine (HSC.out _).mono ?_; rintro e w6 ⟨rfl, h6⟩; subst w6)
            exact HF.out
          have hstep := stepG_of (k := k) hpa hpb hx hy hii HSE.out.symm
          rw [hstep] at HNX
          obtain ⟨E, hE⟩ : ∃ E, E = gainG x y g.s k := ⟨_, rfl⟩
          have hxr := okP_iff.1 (HRT.out.1 x (List.mem_of_getElem? hx))
          have hyr := okP_iff.1 (HRT.out.1 y (List.mem_of_getElem? hy))
          have hfair := gainG_fair (x := x) (y := y) (s := g.s) (k := k) (inR_iff.2 ⟨hxr.1, hxr.2.1⟩) (inR_iff.2 ⟨hyr.1, hyr.2.1⟩) HSE.out.symm HWK.out
          rw [← hE] at hfair HNX
          obtain ⟨gA, rfl, hin, cx, fx⟩ := HG5.out.row hx
          obtain ⟨gA', hgA', hin', cy, fy⟩ := HG5.out.row hy
          injection hgA' with hgA'; injection hgA' with hgA'; subst hgA'
          have hgok : gainOk x.rt y.rt g.s k = true := by unfold gainOk; rw [inR_iff.2 ⟨hxr.1, hxr.2.1⟩, inR_iff.2 ⟨hyr.1, hyr.2.1⟩, HSE.out.symm, HWK.out]; rfl
          have hcg : ∀ dd os, Calls Try.prog 35 #[.int .i64 x.rt, .int .i64 y.rt, .int .i64 g.s, .int .i64 k] (grow (redrawn W5 dd) os) fun e w'' => e = .returned (.tuple #[.int .i64 E, .int .i64 0]) ∧ ∃ p : Regrown, w'' = grow (redrawn W5 p.d) p.os :=
            fun dd os => Calls.regrown_of (refGain_any _ x.rt y.rt g.s k E 0 (by unfold gainM; rw [if_pos hgok, hE]; rfl) (by unfold gainE; rw [if_pos hgok]))
          obtain ⟨q1, q2, q3, q4, q5, q6⟩ := hfair
          have hi1 : (i : Int) < (n : Int) := by omega
          have hi2 : (i' : Int) < (n : Int) := by omega
          have hn3 : ¬ i * 2 + 1 = i' * 2 + 1 := by omega
          have hn4 : ¬ i' * 2 + 1 = i * 2 + 1 := by omega
          obtain ⟨x0, x1, -, -⟩ := hxr
          obtain ⟨y0, y1, -, -⟩ := hyr
          have HCG := Lib.hid hcg; have HX := Lib.hid hx; have HY := Lib.hid hy; have HII := Lib.hid hii
          clear hcg hx hy hii hE hstep hpa hpb hxe hye HNEG hgok
          go_wp2_with (go_at_call 63; refine (HSC.out _).mono ?_; rintro e w6 ⟨rfl, h6⟩; subst w6)
          refine wp_region_quiet_below (by kernel_rfl) (by kernel_rfl) ?_
          have v2 := cell_regrown cx; have v3 := cell_regrown cy; have v4 := cell_regrown cc5
          repeat (go_big_quiet_step (with_reducible exact HCG.out _ _))
          refine wpQuiet_nil ?_
          intro wz hw'
          obtain ⟨⟨dq, osq⟩, hw''⟩ := hw'
          have hbq := below_regrown W5 dq osq
          obtain ⟨w9, hw9⟩ : ∃ w9, w9 = grow (redrawn W5 dq) osq := ⟨_, rfl⟩
          rw [← hw9] at hbq
          have hw10 := hw''.trans hw9.symm
          subst hw10
          have HGZ := Lib.hid (HG5.out.below hbq)
          clear v2 v3 v4 hw'' hw9 hbq cx cy cc5 fx fy HG5 HCG
          obtain ⟨gA', hgA', -, cx, fx⟩ := HGZ.out.row HX.out
          injection hgA' with hgA'; injection hgA' with hgA'; subst hgA'
          obtain ⟨gA', hgA', -, cy, fy⟩ := HGZ.out.row HY.out
          injection hgA' with hgA'; injection hgA' with hgA'; subst hgA'
          have hG9 := (HGZ.out.put HX.out (x.rt + E)).put (i := i') (x := y) (by rw [List.getElem?_set_ne HII.out]; exact HY.out) (y.rt - E)
          have HG9 := Lib.hid hG9
          clear hG9
          go_wp2_with fail
          go_roundw
          case rel => exact ⟨j + 1, putG lj i i' x y E, by omega, by go_num, Lib.hid HNX.out, HG9⟩
          case measure => simp [intOf]; omega
        · obtain rfl : m = j := by omega
          have hrun := HRUN.out
          rw [List.take_of_length_le (by rw [HM.out]; exact Nat.le_refl _)] at hrun
          have HRUN2 := Lib.hid hrun
          clear hrun HRUN
          obtain ⟨o, h1, h2⟩ := HG.out
          have hfin : P (.returned (.tuple #[.slice A2 n c2, .int .i64 0])) wr := by
            rw [HP.out]
            exact .inr (.inr ⟨by rw [← HOK.out]; exact HOKT.out, lj, A2, c2, o, HRUN2.out, by rw [HL.out], h1, by rw [HL.out]; exact h2⟩)
          have HF := Lib.hid hfin
          clear hfin h1 h2 HG
          go_wp2_with fail
          exact HF.out
end Go.Proofs.Ytkceefheeicmbaa
