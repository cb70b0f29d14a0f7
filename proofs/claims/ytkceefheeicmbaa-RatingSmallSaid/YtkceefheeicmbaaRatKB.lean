/-
  WALK of Play.
-/
import Derived.Test.YtkceefheeicmbaaRatKA
import Derived.Lib.QuietBelow
import Derived.BigQuiet
namespace Go.Proofs.Ytkceefheeicmbaa
open Go.RowKit Go.Sort

/-- What Play comes to. -/
def PlayTo (w : World) (l : List Pl) (gs : List Gm) (k : Int) (e : Ending) (w' : World) : Prop :=
  (playOk l gs.length k = false ∧ e = .returned (.tuple #[.slice none 0 0, .int .i64 2]) ∧ Below w.heap.size w w') ∨
  (playOk l gs.length k = true ∧ runG k l gs = none ∧ e = .returned (.tuple #[.slice none 0 0, .int .i64 350]) ∧ Below w.heap.size w w') ∨
  (playOk l gs.length k = true ∧ ∃ l' A c o', runG k l gs = some l' ∧ e = .returned (.tuple #[.slice A l.length c, .int .i64 0]) ∧ Step [] w (fun _ => 0) w' o' ∧ Row w' o' 60 61 2 A l.length c (pls l'))

theorem len_gms (l : List Gm) : (gms l).length = l.length * 3 := by
  induction l with
  | nil => rfl
  | cons x l ih => rw [gms, List.flatMap_cons, List.length_append, ih]; simp; omega
theorem gms_get (l : List Gm) : ∀ (k : Nat) (x : Gm), l[k]? = some x → (gms l)[k * 3]? = some (.int .i64 x.a) ∧ (gms l)[k * 3 + 1]? = some (.int .i64 x.b) ∧ (gms l)[k * 3 + 2]? = some (.int .i64 x.s) := by
  induction l with
  | nil => intro k x h; simp at h
  | cons y l ih =>
    intro k x h
    rw [gms, List.flatMap_cons]
    cases k with
    | zero => simp at h; subst h; exact ⟨rfl, rfl, rfl⟩
    | succ k =>
      obtain ⟨h0, h1, h2⟩ := ih k x (by simpa using h)
      refine ⟨?_, ?_, ?_⟩
      · rw [List.getElem?_append_right (by simp; omega)]; simp only [List.length_cons, List.length_nil]; rw [show (k + 1) * 3 - (0 + 1 + 1 + 1) = k * 3 by omega]; exact h0
      · rw [List.getElem?_append_right (by simp; omega)]; simp only [List.length_cons, List.length_nil]; rw [show (k + 1) * 3 + 1 - (0 + 1 + 1 + 1) = k * 3 + 1 by omega]; exact h1
      · rw [List.getElem?_append_right (by simp; omega)]; simp only [List.length_cons, List.length_nil]; rw [show (k + 1) * 3 + 2 - (0 + 1 + 1 + 1) = k * 3 + 2 by omega]; exact h2
theorem Sl.gm {w : World} {o : Own} {τ n c : Nat} {A : Option Addr} {l : List Gm} (h : Sl w o τ 3 A n c (gms l)) {k : Nat} {x : Gm} (hx : l[k]? = some x) :
    ∃ g off, A = some ⟨g, off, none⟩ ∧ o g = τ ∧ g < w.heap.size ∧ w.cell? ⟨g, off + k * 3, none⟩ = some (.int .i64 x.a) ∧ w.cell? ⟨g, off + k * 3 + 1, none⟩ = some (.int .i64 x.b) ∧ w.cell? ⟨g, off + k * 3 + 2, none⟩ = some (.int .i64 x.s) := by
  have hk := (List.getElem?_eq_some_iff.1 hx).1
  have h1 := h.1
  rw [len_gms] at h1
  obtain ⟨g, off, hA, ho, hg, hc⟩ := h.2.2.2 (by omega)
  obtain ⟨i0, i1, i2⟩ := gms_get l k x hx
  exact ⟨g, off, hA, ho, hg, hc _ _ i0, hc _ _ i1, hc _ _ i2⟩
theorem Row.setc {w : World} {o : Own} {τ : Nat} {e : TypeId} {sz h n c k : Nat} {xs : List Value} (hR : Row w o τ e sz (some ⟨h, 0, none⟩) n c xs) (hn : 0 < n) (u : Value) : Row (w.setCell ⟨h, k, none⟩ u) o τ e sz (some ⟨h, 0, none⟩) n c (xs.set k u) := by
  have hl := hR.len
  obtain ⟨g, cur, hA, ho, hb, hnc, hm, hsz, ht⟩ := hR.form hn
  injection hA with hA; injection hA with hA; subst hA
  refine ⟨⟨by simpa using hl, .inr ⟨h, c, cur.setIfInBounds k u, rfl, Nat.zero_le _, hb.set_ k u, hnc, hm, by simpa using hsz, ?_⟩⟩, fun ad ha => by injection ha with ha; subst ha; exact ho⟩
  rw [← ht, Array.toList_setIfInBounds, List.take_set]

/-- Between two games. -/
def GI (w wr : World) (B : Nat) (A : Option Addr) (n c : Nat) (l : List Pl) : Prop := ∃ o, Step [] w (fun _ => 0) wr o ∧ Row wr o 60 61 2 A n c (pls l) ∧ Blk wr B 51 #[.slice A n c]
section
variable {w wr wr' : World} {B : Nat} {A : Option Addr} {n c : Nat} {l : List Pl}
theorem GI.below (h : GI w wr B A n c l) (hb : Below wr.heap.size wr wr') : GI w wr' B A n c l := by
  obtain ⟨o, h1, h2, h3⟩ := h
  exact ⟨_, h1.below hb 5, h2.step ((Step.refl [] wr o).below hb 5) (by simp), h3.below hb h3.lt⟩
theorem GI.to_below (h : GI w wr B A n c l) : Below w.heap.size w wr := by obtain ⟨o, h1, -⟩ := h; exact h1.to_below (by simp)
theorem GI.sl (h : GI w wr B A n c l) : Sl wr (fun _ => 0) 0 2 A n c (pls l) := by obtain ⟨o, -, h2, -⟩ := h; exact h2.sl.old0
theorem GI.cell (h : GI w wr B A n c l) : wr.cell? ⟨B, 0, none⟩ = some (.slice A n c) := by obtain ⟨o, -, -, h3⟩ := h; exact h3.cell 0
theorem GI.old {sz' : Nat} {A' : Option Addr} {n' c' : Nat} {xs : List Value} (h : GI w wr B A n c l) (hS : Sl w (fun _ => 0) 0 sz' A' n' c' xs) : Sl wr (fun _ => 0) 0 sz' A' n' c' xs := by obtain ⟨o, h1, -⟩ := h; exact (hS.step h1 (by simp)).old0
/-- A player's cells in the row. -/
theorem GI.row (h : GI w wr B A n c l) {i : Nat} {x : Pl} (hx : l[i]? = some x) : ∃ g, A = some ⟨g, 0, none⟩ ∧ ¬ B = g ∧ ¬ g = B ∧ i < n ∧ wr.cell? ⟨g, i * 2 + 1, none⟩ = some (.int .i64 x.rt) ∧ wr.frozen? ⟨g, i * 2 + 1, none⟩ = false := by
  obtain ⟨o, h1, h2, h3⟩ := h
  have hi := (List.getElem?_eq_some_iff.1 hx).1
  have hlen := h2.len
  rw [len_pls] at hlen
  obtain ⟨g, cur, hA, ho, hb, hnc, hm, hsz, ht⟩ := h2.form (by omega)
  obtain ⟨g', off, hA', -, -, hc1, hc2⟩ := h2.sl.pl hx
  rw [hA] at hA'
  injection hA' with hA'; injection hA' with e1 e2; subst e1 e2
  have hne : ¬ g = B := hb.ne_ h3 (by decide)
  exact ⟨g, hA, fun e => hne e.symm, hne, by omega, by rwa [Nat.zero_add] at hc2, hb.frozen _⟩
theorem GI.put {g : Nat} (h : GI w wr B (some ⟨g, 0, none⟩) n c l) {i : Nat} {x : Pl} (hx : l[i]? = some x) (v : Int) : GI w (wr.setCell ⟨g, i * 2 + 1, none⟩ (.int .i64 v)) B (some ⟨g, 0, none⟩) n c (l.set i ⟨x.id, v⟩) := by
  obtain ⟨o, h1, h2, h3⟩ := h
  have hi := (List.getElem?_eq_some_iff.1 hx).1
  have hlen := h2.len
  rw [len_pls] at hlen
  obtain ⟨g', cur, hA, ho, hb, -⟩ := h2.form (by omega)
  injection hA with hA; injection hA with hA; subst hA
  refine ⟨o, ((h1.nil.trans ((Step.refl [60] wr o).setCell (.inr (by rw [ho]; simp)) _)).forget (ts' := []) (fun t ht _ k _ => by simp at ht; subst ht; simp)), ?_, h3.far (p := ⟨g, i * 2 + 1, none⟩) (fun e => hb.ne_ h3 (by decide) e.symm) _⟩
  have := h2.setc (k := i * 2 + 1) (by omega) (.int .i64 v)
  rwa [pls_set l i x v hx] at this
end

set_option maxRecDepth 100000 in
set_option maxHeartbeats 8000000 in
theorem Play_any (w : World) (A : Option Addr) (n c : Nat) (l : List Pl) (hS : Sl w (fun _ => 0) 0 2 A n c (pls l)) (G : Option Addr) (m d : Nat) (gs : List Gm) (hT : Sl w (fun _ => 0) 0 3 G m d (gms gs)) (k : Int) :
    Calls Try.prog 32 #[.slice A n c, .slice G m d, .int .i64 k] w (PlayTo w l gs k) := by
  have hl : l.length = n := by have := hS.1; rw [len_pls] at this; omega
  have hm : gs.length = m := by have := hT.1; rw [len_gms] at this; omega
  have hb : n ≤ 9223372036854775807 ∧ m ≤ 9223372036854775807 := by have h1 := hS.2.1; have h2 := hS.2.2.1; have h3 := hT.2.1; have h4 := hT.2.2.1; unfold maxLen at h2 h4; omega
  obtain ⟨hb1, hb2⟩ := hb
  obtain ⟨OK, hok⟩ : ∃ OK, OK = playOk l gs.length k := ⟨_, rfl⟩
  obtain ⟨P, hP⟩ : ∃ P, P = PlayTo w l gs k := ⟨_, rfl⟩
  have hPbad : OK = false → ∀ w', Below w.heap.size w w' → P (.returned (.tuple #[.slice none 0 0, .int .i64 2])) w' := fun h w' hb => by rw [hP]; exact .inl ⟨by rw [← hok]; exact h, rfl, hb⟩
  obtain ⟨WT, hWT⟩ : ∃ W, W = isWt k := ⟨_, rfl⟩
  have hw := fun W => isWeight_any W k WT hWT
  have hOKe : OK = (decide (n ≤ 200) && decide (m ≤ 1000) && WT && okPs l n) := by rw [hok, hWT, ← hl, ← hm]; rfl
  rw [← hP]
  have HS := Lib.hid hS; have HT := Lib.hid hT; have HL := Lib.hid hl; have HM := Lib.hid hm; have HP := Lib.hid hP; have HBAD := Lib.hid hPbad; have HW := Lib.hid hw; have HOKE := Lib.hid hOKe; have HOK := Lib.hid hok; have HWT := Lib.hid hWT
  clear hS hT hl hm hP hPbad hw hOKe hok hWT
  by_cases c1 : 200 < n
  · have d1 : decide (200 < (n : Int)) = true := by simp; omega
    have hf : OK = false := by rw [HOKE.out, decide_eq_false (show ¬ n ≤ 200 by omega)]; rfl
    have HF := Lib.hid (HBAD.out hf w (Below.refl _ _))
    clear c1 hf
    go_enter Try.func32, Try.ntmps32
    go_wp2_with fail
    exact HF.out
  have d1 : decide (200 < (n : Int)) = false := by simp; omega
  by_cases c2 : 1000 < m
  · have d2 : decide (1000 < (m : Int)) = true := by simp; omega
    have hf : OK = false := by rw [HOKE.out, decide_eq_false (show ¬ m ≤ 1000 by omega)]; simp
    have HF := Lib.hid (HBAD.out hf w (Below.refl _ _))
    clear c1 c2 hf
    go_enter Try.func32, Try.ntmps32
    go_wp2_with fail
    exact HF.out
  have d2 : decide (1000 < (m : Int)) = false := by simp; omega
  cases WT
  · have hf : OK = false := by rw [HOKE.out]; simp
    have HF := Lib.hid (HBAD.out hf w (Below.refl _ _))
    clear c1 c2 hf
    go_enter Try.func32, Try.ntmps32
    go_wp2_with (go_at_call 44; refine (HW.out _).mono ?_; rintro e w2 ⟨rfl, h2⟩; subst w2)
    exact HF.out
  have hOKe2 : OK = okPs l n := by rw [HOKE.out, decide_eq_true (show n ≤ 200 by omega), decide_eq_true (show m ≤ 1000 by omega)]; rfl
  have hn200 : n ≤ 200 := by omega
  have hm1000 : m ≤ 1000 := by omega
  have HOKE2 := Lib.hid hOKe2
  clear c1 c2 hOKe2 HOKE hb1 hb2
  go_enter Try.func32, Try.ntmps32
  go_wp2_with (go_at_call 44; refine (HW.out _).mono ?_; rintro e w2 ⟨rfl, h2⟩; subst w2)
  clear d1 d2 HW
  go_loopw [35, 8, 9] (fun s _ _ wr => ∃ i : Nat, i ≤ n ∧ s = .int .i64 i ∧ Hid (okPs l i = true) ∧ Hid (Below w.heap.size w wr)) (fun s _ _ _ => n - (intOf s).toNat)
  case atStart => exact ⟨0, Nat.zero_le _, rfl, Lib.hid rfl, Lib.hid (Below.refl _ _)⟩
  case round => as_aux_lemma =>
    obtain ⟨i, hi, rfl, HI, HB⟩ := hrel
    by_cases hlt : i < n
    · obtain ⟨x, hx⟩ : ∃ x, l[i]? = some x := ⟨_, List.getElem?_eq_getElem (by rw [HL.out]; exact hlt)⟩
      obtain ⟨g, off, rfl, -, hg, ca, cb⟩ := (HS.out.up HB.out).pl hx
      obtain ⟨I, hI⟩ : ∃ I, I = inR x.rt := ⟨_, rfl⟩
      have hir := fun W => isRating_any W x.rt I hI
      have hsucc := okPs_succ hx
      rw [HI.out, Bool.true_and, okP, ← hI] at hsucc
      have hbad : okPs l (i + 1) = false → OK = false := fun h => by
        cases hOK : OK
        · rfl
        · have e : okPs l n = true := by rw [← HOKE2.out, hOK]
          rw [okPs_mono e (by omega)] at h; cases h
      have bN := Blk.new wr 61 #[.int .i64 x.id, .int .i64 x.rt]
      have hbA := (HB.out.alloc HB.out.size (.cells #[.int .i64 x.id, .int .i64 x.rt] 61))
      have HIR := Lib.hid hir; have HSC := Lib.hid hsucc; have HBD := Lib.hid hbad; have HBA := Lib.hid hbA; have HBN := Lib.hid bN
      clear hir hI hsucc hbad hbA bN
      obtain ⟨b1, hb1⟩ : ∃ b : Bool, decide (x.id < 1) = b := ⟨_, rfl⟩
      obtain ⟨b2, hb2⟩ : ∃ b : Bool, decide (65536 < x.id) = b := ⟨_, rfl⟩
      have hfx1 : b1 = true → decide (1 ≤ x.id) = false := fun h => by
        rw [h] at hb1
        have : x.id < 1 := by simpa using hb1
        simp; omega
      have hfx2 : b2 = true → decide (x.id ≤ 65536) = false := fun h => by
        rw [h] at hb2
        have : 65536 < x.id := by simpa using hb2
        simp; omega
      have hfx3 : b1 = false → b2 = false → (decide (1 ≤ x.id) = true ∧ decide (x.id ≤ 65536) = true) := fun h h' => by
        rw [h] at hb1; rw [h'] at hb2
        have e1 : ¬ x.id < 1 := by simpa using hb1
        have e2 : ¬ 65536 < x.id := by simpa using hb2
        constructor <;> (simp; omega)
      have HX1 := Lib.hid hfx1; have HX2 := Lib.hid hfx2; have HX3 := Lib.hid hfx3
      clear hfx1 hfx2 hfx3
      cases I
      ·
        have hf : okPs l (i + 1) = false := by rw [HSC.out]; simp
        have HF := Lib.hid (HBAD.out (HBD.out hf))
        clear hf
        go_wp2_with fail
        go_quiet ((go_at_call 42; exact Calls.quiet_of_same (HIR.out _)))
        go_wp2_with fail
        exact HF.out _ (by first | exact Below.drewK HBA.out _ | exact HBA.out)
      cases b1
      rotate_left
      ·
        have hf : okPs l (i + 1) = false := by rw [HSC.out]; rw [HX1.out rfl]; simp
        have HF := Lib.hid (HBAD.out (HBD.out hf))
        clear hf
        go_wp2_with fail
        go_quiet ((go_at_call 42; exact Calls.quiet_of_same (HIR.out _)))
        go_wp2_with fail
        exact HF.out _ (by first | exact Below.drewK HBA.out _ | exact HBA.out)
      cases b2
      rotate_left
      ·
        have hf : okPs l (i + 1) = false := by rw [HSC.out]; rw [HX2.out rfl]; simp
        have HF := Lib.hid (HBAD.out (HBD.out hf))
        clear hf
        go_wp2_with fail
        go_quiet ((go_at_call 42; exact Calls.quiet_of_same (HIR.out _)))
        go_wp2_with fail
        exact HF.out _ (by first | exact Below.drewK HBA.out _ | exact HBA.out)
      obtain ⟨ok1, ok2⟩ := HX3.out rfl rfl
      have hs1 : okPs l (i + 1) = (decide (i = 0) || decide ((l.getD (i - 1) default).id < x.id)) := by rw [HSC.out, ok1, ok2]; rfl
      have HS1 := Lib.hid hs1
      clear hs1 ok1 ok2 HX1 HX2 HX3 HSC
      by_cases hi0 : i = 0
      · subst hi0
        rw [Nat.zero_mul, Nat.add_zero] at ca cb
        have d3 : decide ((0 : Int) < ((0 : Nat) : Int)) = false := rfl
        have d4 : decide ((0 : Int) < 0) = false := rfl
        have HN : Hid (okPs l (0 + 1) = true) := Lib.hid (by rw [HS1.out]; rfl)
        go_wp2_with fail
        go_quiet ((go_at_call 42; exact Calls.quiet_of_same (HIR.out _)))
        go_wp2_with fail
        go_roundw
        case rel => exact ⟨1, by omega, by rfl, HN, Lib.hid (by first | exact Below.drewK HBA.out _ | exact HBA.out)⟩
        case measure => simp [intOf]; omega
      · obtain ⟨j, rfl⟩ : ∃ j, i = j + 1 := ⟨i - 1, by omega⟩
        obtain ⟨y, hy⟩ : ∃ y, l[j]? = some y := ⟨_, List.getElem?_eq_getElem (by rw [HL.out]; omega)⟩
        obtain ⟨g', off', hgg, -, -, cc, cd⟩ := (HS.out.up HB.out).pl hy
        injection hgg with hgg; injection hgg with hg1 hg2; subst hg1 hg2
        have ce := cell_up ((Below.refl wr.heap.size wr).alloc (Nat.le_refl _) (.cells #[.int .i64 x.id, .int .i64 x.rt] 61)) cc
        have hs2 : okPs l (j + 1 + 1) = decide (y.id < x.id) := by
          rw [HS1.out, decide_eq_false (show ¬ j + 1 = 0 by omega), Nat.add_sub_cancel, List.getD_eq_getElem?_getD, hy, Option.getD_some, Bool.false_or]
        have HS2 := Lib.hid hs2
        clear hs2 HS1 hi0 hy cd
        have d3 : decide ((0 : Int) < (j : Int) + 1) = true := by rw [decide_eq_true_eq]; omega
        have hj1 : (j : Int) < (n : Int) := by omega
        have hj2 : IntKind.i64.wrap ((j : Int) + 1 - 1) = (j : Int) := (IntWalk.i64_in _ (by omega)).trans (by omega)
        have HJ2 := Lib.hid hj2
        clear hj2
        by_cases hyx : x.id ≤ y.id
        · have d5 : decide (x.id ≤ y.id) = true := by simpa using hyx
          have hf : okPs l (j + 1 + 1) = false := by rw [HS2.out, decide_eq_false_iff_not]; omega
          have HF := Lib.hid (HBAD.out (HBD.out hf))
          clear hf hyx
          go_wp2_with fail
          have hj2 := HJ2.out
          go_quiet ((go_at_call 42; exact Calls.quiet_of_same (HIR.out _)))
          clear hj2
          go_wp2_with fail
          exact HF.out _ (by first | exact Below.drewK HBA.out _ | exact HBA.out)
        · have d5 : decide (x.id ≤ y.id) = false := by simpa using hyx
          have HN : Hid (okPs l (j + 1 + 1) = true) := Lib.hid (by rw [HS2.out, decide_eq_true_eq]; omega)
          clear hyx
          go_wp2_with fail
          have hj2 := HJ2.out
          go_quiet ((go_at_call 42; exact Calls.quiet_of_same (HIR.out _)))
          clear hj2
          go_wp2_with fail
          go_roundw
          case rel => exact ⟨j + 1 + 1, by omega, by go_num, HN, Lib.hid (by first | exact Below.drewK HBA.out _ | exact HBA.out)⟩
          case measure => simp [intOf]; omega
    · obtain rfl : n = i := by omega
      have hOK : OK = true := by rw [HOKE2.out, HI.out]
      obtain ⟨hle, hml, hwt, hri⟩ := playOk_iff.1 (show playOk l gs.length k = true by rw [← HOK.out, hOK])
      have hk := isWt_iff.1 hwt
      obtain ⟨k0, k1⟩ := hk
      obtain ⟨wr, hwr⟩ : ∃ W, W = wr := ⟨_, rfl⟩
      rw [← hwr] at HB
      have HRI := Lib.hid hri; have HWK := Lib.hid hwt; have HOKT := Lib.hid hOK
      have hS5 := HS.out.up HB.out
      have HS5 := Lib.hid hS5
      have hst5 : Step [] w (fun _ => 0) wr (fun _ => 0) := by have := (Step.refl [] w (fun _ => 0)).below HB.out 0; rwa [ext00] at this
      have HST5 := Lib.hid hst5
      rw [← hwr]
      clear hle hml hwt hri hOK hS5 hst5 hwr HI HBAD HOKE2 HB
      go_wp2_with fail
      refine (clonePl wr (fun _ => 0) 0 60 A n c (pls l) HS5.out (one_pls l) hn200).mono ?_
      rintro e w2 ⟨A2, c2, rfl, hr2, hb2⟩
      have hst2 := HST5.out.below hb2 60
      obtain ⟨o2, ho2⟩ : ∃ o, o = ext (fun _ => 0) wr.heap.size 60 := ⟨_, rfl⟩
      rw [← ho2] at hst2 hr2
      have sB := (Step.refl [] w2 o2).alloc (.cells #[.slice A2 n c2] 51) 61
      have hst3 := hst2.trans sB
      have hr3 := hr2.step sB (by simp)
      have bB := Blk.new w2 51 #[.slice A2 n c2]
      obtain ⟨B, hB⟩ : ∃ B, B = w2.heap.size := ⟨_, rfl⟩
      obtain ⟨w3, hw3⟩ : ∃ W, W = w2.alloc (.cells #[.slice A2 n c2] 51) := ⟨_, rfl⟩
      rw [← hw3] at hst3 hr3 bB
      rw [← hB] at bB
      have hGI : GI w w3 B A2 n c2 l := ⟨_, hst3, hr3, bB⟩
      have HGI := Lib.hid hGI; have HW3 := Lib.hid hw3; have HBE := Lib.hid hB
      clear hst3 hr3 bB hGI hw3 hB sB hst2 hr2 hb2 ho2 HST5 HS5
      go_wp2_with fail
      rw [← HW3.out, ← HBE.out]
      clear HW3 HBE
      go_loopw [75, 13, 14, 15, 16, 17, 18, 19] (fun s _ _ _ _ _ _ _ wr => ∃ (j : Nat) (lj : List Pl), j ≤ m ∧ s = .int .i64 j ∧ Hid (runG k l (gs.take j) = some lj) ∧ Hid (GI w wr B A2 n c2 lj)) (fun s _ _ _ _ _ _ _ _ => m - (intOf s).toNat)
      case atStart => exact ⟨0, l, Nat.zero_le _, rfl, Lib.hid (by rw [List.take_zero]; rfl), HGI⟩
      case round => as_aux_lemma =>
        clear HGI
        obtain ⟨j, lj, hj, rfl, HRUN, HG⟩ := hrel
        by_cases hlt : j < m
        · obtain ⟨g, hg⟩ : ∃ g, gs[j]? = some g := ⟨_, List.getElem?_eq_getElem (by rw [HM.out]; exact hlt)⟩
          obtain ⟨gg, og, rfl, -, hgg, ca, cb, cc⟩ := (HG.out.old HT.out).gm hg
          have hkept := runG_kept HWK.out (gs.take j) (fun x hx => by have := okP_iff.1 (HRI.out.1 x hx); rw [inR_iff]; omega) HRUN.out
          have hright := hkept.right HRI.out
          have hfind : ∀ W, GI w W B A2 n c2 lj → ∀ id, Calls Try.prog 59 #[.int .i64 id, .pointer (some ⟨B, 0, none⟩)] W (BinTo W lj id) := fun W h id => find_any W B A2 n c2 lj h.cell h.sl hright.2 hn200 id
          have hnone : stepG k lj g = none → ∀ w', Below w.heap.size w w' → P (.returned (.tuple #[.slice none 0 0, .int .i64 350])) w' := fun h w' hb => by
            rw [HP.out]; exact .inr (.inl ⟨by rw [← HOK.out]; exact HOKT.out, runG_stop hg HRUN.out h, rfl, hb⟩)
          have hnext := runG_snoc (k := k) (l := l) hg
          rw [HRUN.out, Option.bind_some] at hnext
          have hbg := (Below.refl wr.heap.size wr).alloc (Nat.le_refl _) (.cells #[.int .i64 g.a, .int .i64 g.b, .int .i64 g.s] 59)
          have hG1 := HG.out.below hbg
          have bN := Blk.new wr 59 #[.int .i64 g.a, .int .i64 g.b, .int .i64 g.s]
          obtain ⟨bg, hbgE⟩ : ∃ bg, bg = wr.heap.size := ⟨_, rfl⟩
          rw [← hbgE] at bN
          have HFI := Lib.hid hfind; have HNO := Lib.hid hnone; have HNX := Lib.hid hnext; have HRT := Lib.hid hright; have HG1 := Lib.hid hG1; have HBN := Lib.hid bN; have HBG := Lib.hid hbgE
          have hjm : (j : Int) < (m : Int) := by omega
          clear hkept hright hfind hnone hnext hbg hG1 bN hbgE hg HG
          go_wp2_with fail
          refine (HFI.out _ HG1.out g.a).mono ?_
          rintro e w4 ⟨hb4, i, b, rfl, hi, hfi⟩
          have HG4 := Lib.hid (HG1.out.below hb4); have HBN4 := Lib.hid (HBN.out.below hb4 HBN.out.lt)
          have HFA := Lib.hid hfi
          clear hb4 hfi HG1 HBN ca cb cc
          rw [← HBG.out]
          have e1 := HBN4.out.cell 1
          simp only [List.getElem?_toArray, List.getElem?_cons_zero, List.getElem?_cons_succ] at e1
          go_wp2_with fail
          refine (HFI.out _ HG4.out g.b).mono ?_
          rintro e w5 ⟨hb5, i', b', rfl, hi', hfi'⟩
          have HG5 := Lib.hid (HG4.out.below hb5); have HBN5 := Lib.hid (HBN4.out.below hb5 HBN4.out.lt)
          have HFB := Lib.hid hfi'
          clear hb5 hfi' HG4 HBN4 HFI e1
          have e2 := HBN5.out.cell 2
          simp only [List.getElem?_toArray, List.getElem?_cons_zero, List.getElem?_cons_succ] at e2
          have hneg : stepG k lj g = none → P (.returned (.tuple #[.slice none 0 0, .int .i64 350])) w5 := fun h => HNO.out h w5 HG5.out.to_below
          have HNEG := Lib.hid hneg
          clear hneg HNO
          obtain ⟨S, hS⟩ : ∃ S, S = isSc g.s := ⟨_, rfl⟩
          have hsc := fun W => isScore_any W g.s S hS
          have HSC := Lib.hid hsc; have HSE := Lib.hid hS
          clear hsc hS
          cases b
          · have hf : stepG k lj g = none := by unfold stepG; rw [HFA.out]; rfl
            have HF := Lib.hid (HNEG.out hf)
            clear hf
            go_wp2_with fail
            exact HF.out
          cases b'
          · have hf : stepG k lj g = none := by unfold stepG; rw [HFA.out, HFB.out]; rfl
            have HF := Lib.hid (HNEG.out hf)
            clear hf
            go_wp2_with fail
            exact HF.out
          have hfa : findP lj g.a = some i := HFA.out
          have hfb : findP lj g.b = some i' := HFB.out
          obtain ⟨x, hx, hxe⟩ := findP_some hfa
          obtain ⟨y, hy, hye⟩ := findP_some hfb
          by_cases hii : i = i'
          · have d1 : ((i : Int) == (i' : Int)) = true := by simp [hii]
            have hf : stepG k lj g = none := by unfold stepG; rw [hfa, hfb]; simp only; rw [if_neg (by rintro ⟨h, -⟩; exact h hii)]
            have HF := Lib.hid (HNEG.out hf)
            clear hf hfa hfb hx hy hxe hye hii
            go_wp2_with fail
            exact HF.out
          have d1 : ((i : Int) == (i' : Int)) = false := by simp; omega
          cases S
          · have hf : stepG k lj g = none := by unfold stepG; rw [hfa, hfb]; simp only; rw [if_neg (by rintro ⟨-, h⟩; rw [← HSE.out] at h; cases h)]
            have HF := Lib.hid (HNEG.out hf)
            clear hf hfa hfb hx hy hxe hye hii
            go_wp2_with (go_at_call 43; refine (HSC.out _).mono ?_; rintro e w6 ⟨rfl, h6⟩; subst w6)
            exact HF.out
          have hstep := stepG_of (k := k) hfa hfb hx hy hii HSE.out.symm
          rw [hstep] at HNX
          obtain ⟨E, hE⟩ : ∃ E, E = gainG x y g.s k := ⟨_, rfl⟩
          have hxr := okP_iff.1 (HRT.out.1 x (List.mem_of_getElem? hx))
          have hyr := okP_iff.1 (HRT.out.1 y (List.mem_of_getElem? hy))
          have hfair := gainG_fair (x := x) (y := y) (s := g.s) (k := k) (inR_iff.2 ⟨hxr.1, hxr.2.1⟩) (inR_iff.2 ⟨hyr.1, hyr.2.1⟩) HSE.out.symm HWK.out
          rw [← hE] at hfair HNX
          obtain ⟨gA, rfl, hne1, hne2, hin, cx, fx⟩ := HG5.out.row hx
          obtain ⟨gA', hgA', -, -, hin', cy, fy⟩ := HG5.out.row hy
          injection hgA' with hgA'; injection hgA' with hgA'; subst hgA'
          have hsc3 := isSc_iff.1 HSE.out.symm
          have hcg : ∀ dd os, Calls Try.prog 23 #[.int .i64 x.rt, .int .i64 y.rt, .int .i64 g.s, .int .i64 k] (grow (redrawn w5 dd) os) fun e w'' => e = .returned (.tuple #[.int .i64 E, .int .i64 0]) ∧ ∃ p : Regrown, w'' = grow (redrawn w5 p.d) p.os :=
            fun dd os => Calls.regrown_of (Gain_ok0 _ x.rt y.rt g.s k E ⟨hxr.1, hxr.2.1⟩ ⟨hyr.1, hyr.2.1⟩ hsc3 ⟨k0, k1⟩ (by rw [hE]; rfl))
          have cB := HG5.out.cell
          obtain ⟨q1, q2, q3, q4, q5, q6⟩ := hfair
          have hi1 : (i : Int) < (n : Int) := by omega
          have hi2 : (i' : Int) < (n : Int) := by omega
          have hn3 : ¬ i * 2 + 1 = i' * 2 + 1 := by omega
          have hn4 : ¬ i' * 2 + 1 = i * 2 + 1 := by omega
          obtain ⟨x0, x1, -, -⟩ := hxr
          obtain ⟨y0, y1, -, -⟩ := hyr
          have HCG := Lib.hid hcg; have HX := Lib.hid hx; have HY := Lib.hid hy; have HII := Lib.hid hii
          clear hcg hx hy hii hE hstep hfa hfb hxe hye hsc3 HNEG HFA HFB
          go_wp2_with (go_at_call 43; refine (HSC.out _).mono ?_; rintro e w6 ⟨rfl, h6⟩; subst w6)
          refine wp_region_quiet_below (by kernel_rfl) (by kernel_rfl) ?_
          have v1 := cell_regrown cB; have v2 := cell_regrown cx; have v3 := cell_regrown cy; have v4 := cell_regrown e2
          repeat (go_big_quiet_step (with_reducible exact HCG.out _ _))
          refine wpQuiet_nil ?_
          intro wz hw'
          obtain ⟨⟨dq, osq⟩, hw''⟩ := hw'
          have hbq := below_regrown w5 dq osq
          obtain ⟨w9, hw9⟩ : ∃ w9, w9 = grow (redrawn w5 dq) osq := ⟨_, rfl⟩
          rw [← hw9] at hbq
          have hw10 := hw''.trans hw9.symm
          subst hw10
          have HGZ := Lib.hid (HG5.out.below hbq)
          clear v1 v2 v3 v4 hw'' hw9 hbq cB cx cy e2 fx fy HG5 HBN5 HCG
          have cB := HGZ.out.cell
          obtain ⟨gA', hgA', -, -, -, cx, fx⟩ := HGZ.out.row HX.out
          injection hgA' with hgA'; injection hgA' with hgA'; subst hgA'
          obtain ⟨gA', hgA', -, -, -, cy, fy⟩ := HGZ.out.row HY.out
          injection hgA' with hgA'; injection hgA' with hgA'; subst hgA'
          have hG9 := (HGZ.out.put HX.out (x.rt + E)).put (i := i') (x := y) (by rw [List.getElem?_set_ne HII.out]; exact HY.out) (y.rt - E)
          have HG9 := Lib.hid hG9
          clear hG9
          go_wp2_with fail
          go_roundw
          case rel => exact ⟨j + 1, putG lj i i' x y E, by omega, by go_num, Lib.hid HNX.out, HG9⟩
          case measure => simp [intOf]; omega
        · obtain rfl : m = j := by omega
          have cB := HG.out.cell
          have hrun := HRUN.out
          rw [List.take_of_length_le (by rw [HM.out]; exact Nat.le_refl _)] at hrun
          have HRUN2 := Lib.hid hrun
          clear hrun HRUN
          obtain ⟨o, h1, h2, h3⟩ := HG.out
          have hfin : P (.returned (.tuple #[.slice A2 n c2, .int .i64 0])) wr := by
            rw [HP.out]
            exact .inr (.inr ⟨by rw [← HOK.out]; exact HOKT.out, lj, A2, c2, o, HRUN2.out, by rw [HL.out], h1, by rw [HL.out]; exact h2⟩)
          have HF := Lib.hid hfin
          clear hfin h1 h2 h3 HG
          go_wp2_with fail
          exact HF.out
end Go.Proofs.Ytkceefheeicmbaa
