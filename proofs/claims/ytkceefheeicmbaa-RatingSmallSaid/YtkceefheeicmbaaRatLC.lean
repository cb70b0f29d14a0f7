/-
  WALK of the reference's Pairs. (Printed by wip/gen/gen_refpairs.py from wip/src/XRatLC.base.)
-/
import Derived.Test.YtkceefheeicmbaaRatLA
import Derived.Test.YtkceefheeicmbaaRatLB
import Derived.Test.YtkceefheeicmbaaRatKF
import Derived.Test.YtkceefheeicmbaaRatE
namespace Go.Proofs.Ytkceefheeicmbaa
open Go.RowKit Go.Sort

theorem el_rtk : Elem Try.prog 73 29 3 24 (.agg #[.int .i64 0, .int .i64 0, .int .i64 0]) := ⟨Try.underlying73, by kernel_rfl, rfl, by decide⟩
theorem el_rpr : Elem Try.prog 74 77 2 16 (.agg #[.int .i64 0, .int .i64 0]) := ⟨Try.underlying74, by kernel_rfl, rfl, by decide⟩

/-- What the reference's Pairs comes to. -/
def RPairsTo (w : World) (l : List Tk) (t : Int) (e : Ending) (w' : World) : Prop :=
  (pairsOk l t = false ∧ e = .returned (.tuple #[.slice none 0 0, .int .i64 2]) ∧ Below w.heap.size w w') ∨
  (pairsOk l t = true ∧ ∃ A c o', e = .returned (.tuple #[.slice A (pairsM l t).length c, .int .i64 0]) ∧ Step [] w (fun _ => 0) w' o' ∧ Row w' o' 91 77 2 A (pairsM l t).length c (prs (pairsM l t)))

/-- Other tags for what is new: all but the row 91 is 90's. -/
def newTags (n0 : Nat) (o : Own) : Own := fun k => if k < n0 then 0 else if o k = 91 then 91 else 90
theorem Step.retag {w W : World} {o : Own} (h : Step [] w (fun _ => 0) W o) : Step [] w (fun _ => 0) W (newTags w.heap.size o) :=
  ⟨h.os, h.tape, h.output, h.size, fun k hk => by unfold newTags; rw [if_pos hk], fun k hk _ => h.block k hk (by simp)⟩
theorem Step.new_ge {w W : World} {o : Own} (h : Step [] w (fun _ => 0) W o) {k : Nat} (hk : o k ≠ 0) : w.heap.size ≤ k := by
  rcases Nat.lt_or_ge k w.heap.size with hlt | hge
  · exact absurd (h.own k hlt) hk
  · exact hge
theorem Row.retag {w W : World} {o : Own} {e : TypeId} {sz n c : Nat} {A : Option Addr} {xs : List Value} (h : Step [] w (fun _ => 0) W o) (hr : Row W o 91 e sz A n c xs) : Row W (newTags w.heap.size o) 91 e sz A n c xs :=
  ⟨hr.1, fun ad ha => by
    have h1 := hr.2 ad ha
    unfold newTags
    rw [if_neg (Nat.not_lt.2 (h.new_ge (by rw [h1]; decide))), if_pos h1]⟩
theorem Sl.retag {w W : World} {o : Own} {τ sz n c : Nat} {A : Option Addr} {xs : List Value} (h : Step [] w (fun _ => 0) W o) (hs : Sl W o τ sz A n c xs) (h0 : τ ≠ 0) (h1 : τ ≠ 91) : Sl W (newTags w.heap.size o) 90 sz A n c xs := by
  refine ⟨hs.1, hs.2.1, hs.2.2.1, fun hn => ?_⟩
  obtain ⟨g, off, e, ho, hg, hc⟩ := hs.2.2.2 hn
  refine ⟨g, off, e, ?_, hg, hc⟩
  unfold newTags
  rw [if_neg (Nat.not_lt.2 (h.new_ge (by rw [ho]; exact h0))), if_neg (by rw [ho]; exact h1)]

theorem two_new (w : World) (e : TypeId) (a b : Array Value) : Below w.heap.size w ((w.alloc (.cells a e)).alloc (.cells b e)).drew ∧ Blk ((w.alloc (.cells a e)).alloc (.cells b e)).drew w.heap.size e a ∧ Blk ((w.alloc (.cells a e)).alloc (.cells b e)).drew (w.heap.size + 1) e b := by
  refine ⟨Below.drewK (((Below.refl w.heap.size w).alloc (Nat.le_refl _) _).alloc (by simp) _) 1, ((Blk.new w e a).alloc _).drew, ?_⟩
  have := (Blk.new (w.alloc (.cells a e)) e b).drew
  rw [World.size_alloc] at this
  exact this

set_option maxRecDepth 100000 in
set_option maxHeartbeats 16000000 in
theorem refPairs_any (w : World) (A : Option Addr) (n c : Nat) (l : List Tk) (t : Int) (hS : Sl w (fun _ => 0) 0 3 A n c (tks l)) :
    Calls Try.prog 41 #[.slice A n c, .int .i64 t] w (RPairsTo w l t) := by
  have hl : l.length = n := by have := hS.1; rw [len_tks] at this; omega
  have hb : n ≤ 9223372036854775807 := by have h1 := hS.2.1; have h2 := hS.2.2.1; unfold maxLen at h2; omega
  obtain ⟨OK, hok⟩ : ∃ OK, OK = pairsOk l t := ⟨_, rfl⟩
  obtain ⟨P, hP⟩ : ∃ P, P = RPairsTo w l t := ⟨_, rfl⟩
  have hPbad : OK = false → ∀ w', Below w.heap.size w w' → P (.returned (.tuple #[.slice none 0 0, .int .i64 2])) w' := fun h w' hb => by rw [hP]; exact .inl ⟨by rw [← hok]; exact h, rfl, hb⟩
  have hOKe : OK = (decide (n ≤ 64) && decide (0 ≤ t) && decide (t ≤ 1073741824) && okTo l n) := by rw [hok, ← hl]; rfl
  rw [← hP]
  have HS := Lib.hid hS; have HL := Lib.hid hl; have HP := Lib.hid hP; have HBAD := Lib.hid hPbad; have HOKE := Lib.hid hOKe; have HOK := Lib.hid hok
  clear hS hl hP hPbad hOKe hok
  by_cases c1 : 64 < n
  · have d1 : decide (64 < (n : Int)) = true := by simp; omega
    have hf : OK = false := by rw [HOKE.out, decide_eq_false (show ¬ n ≤ 64 by omega)]; rfl
    have HF := Lib.hid (HBAD.out hf w (Below.refl _ _))
    clear c1 hf
    go_enter Try.func41, Try.ntmps41
    go_wp2_with fail
    exact HF.out
  have d1 : decide (64 < (n : Int)) = false := by simp; omega
  by_cases c2 : t < 0
  · have d2 : decide (t < 0) = true := by simpa using c2
    have hf : OK = false := by rw [HOKE.out, decide_eq_false (show ¬ 0 ≤ t by omega)]; simp
    have HF := Lib.hid (HBAD.out hf w (Below.refl _ _))
    clear c1 c2 hf
    go_enter Try.func41, Try.ntmps41
    go_wp2_with fail
    exact HF.out
  have d2 : decide (t < 0) = false := by simpa using c2
  by_cases c3 : 1073741824 < t
  · have d3 : decide (1073741824 < t) = true := by simpa using c3
    have hf : OK = false := by rw [HOKE.out, decide_eq_false (show ¬ t ≤ 1073741824 by omega)]; simp
    have HF := Lib.hid (HBAD.out hf w (Below.refl _ _))
    clear c1 c2 c3 hf
    go_enter Try.func41, Try.ntmps41
    go_wp2_with fail
    exact HF.out
  have d3 : decide (1073741824 < t) = false := by simpa using c3
  have hOKe2 : OK = okTo l n := by rw [HOKE.out, decide_eq_true (show n ≤ 64 by omega), decide_eq_true (show 0 ≤ t by omega), decide_eq_true (show t ≤ 1073741824 by omega)]; rfl
  have hn64 : n ≤ 64 := by omega
  have ht0 : 0 ≤ t := by omega
  have ht1 : t ≤ 1073741824 := by omega
  have HOKE2 := Lib.hid hOKe2
  clear c1 c2 c3 hOKe2 HOKE hb
  go_enter Try.func41, Try.ntmps41
  go_wp2_with fail
  clear d1 d2 d3
  go_loopw [6, 7] (fun s _ wr => ∃ i : Nat, i ≤ n ∧ s = .int .i64 i ∧ Hid (okTo l i = true) ∧ Hid (Below w.heap.size w wr)) (fun s _ _ => n - (intOf s).toNat)
  case atStart => exact ⟨0, Nat.zero_le _, rfl, Lib.hid rfl, Lib.hid (Below.refl _ _)⟩
  case round => as_aux_lemma =>
    obtain ⟨i, hi, rfl, HI, HB⟩ := hrel
    by_cases hlt : i < n
    ·
      obtain ⟨x, hx⟩ : ∃ x, l[i]? = some x := ⟨_, List.getElem?_eq_getElem (by rw [HL.out]; exact hlt)⟩
      obtain ⟨g, off, rfl, -, hg, ca, cb, cc⟩ := (HS.out.up HB.out).tk hx
      have hsucc := okTo_succ hx
      rw [HI.out, Bool.true_and] at hsucc
      have hbad : okTo l (i + 1) = false → OK = false := fun h => by
        cases hOK : OK
        · rfl
        · have e : okTo l n = true := by rw [← HOKE2.out, hOK]
          rw [okTo_mono e (by omega)] at h; cases h
      have hnok : ¬ (1 ≤ x.id ∧ x.id ≤ 65536 ∧ 0 ≤ x.rt ∧ x.rt ≤ 4000 ∧ 0 ≤ x.si ∧ x.si ≤ 1073741824) → P (.returned (.tuple #[.slice none 0 0, .int .i64 2])) wr := fun h => by
        refine HBAD.out (hbad ?_) wr HB.out
        rw [hsucc]
        cases hk : okT x
        · rfl
        · exact absurd (okT_iff.1 hk) h
      have HSC := Lib.hid hsucc; have HBD := Lib.hid hbad; have HNO := Lib.hid hnok; have HX := Lib.hid hx
      clear hsucc hbad hnok hx
      have hi1 : (i : Int) < (n : Int) := by omega
      obtain ⟨b1, h1⟩ : ∃ b : Bool, decide (x.id < 1) = b := ⟨_, rfl⟩
      obtain ⟨b2, h2⟩ : ∃ b : Bool, decide (65536 < x.id) = b := ⟨_, rfl⟩
      obtain ⟨b3, h3⟩ : ∃ b : Bool, decide (x.rt < 0) = b := ⟨_, rfl⟩
      obtain ⟨b4, h4⟩ : ∃ b : Bool, decide (4000 < x.rt) = b := ⟨_, rfl⟩
      obtain ⟨b5, h5⟩ : ∃ b : Bool, decide (x.si < 0) = b := ⟨_, rfl⟩
      obtain ⟨b6, h6⟩ : ∃ b : Bool, decide (1073741824 < x.si) = b := ⟨_, rfl⟩
      cases b1
      rotate_left
      · have HF := Lib.hid (HNO.out (by have : x.id < 1 := by simpa using h1
                                        omega))
        go_wp2_with fail
        exact HF.out
      cases b2
      rotate_left
      · have HF := Lib.hid (HNO.out (by have : 65536 < x.id := by simpa using h2
                                        omega))
        go_wp2_with fail
        exact HF.out
      cases b3
      rotate_left
      · have HF := Lib.hid (HNO.out (by have : x.rt < 0 := by simpa using h3
                                        omega))
        go_wp2_with fail
        exact HF.out
      cases b4
      rotate_left
      · have HF := Lib.hid (HNO.out (by have : 4000 < x.rt := by simpa using h4
                                        omega))
        go_wp2_with fail
        exact HF.out
      cases b5
      rotate_left
      · have HF := Lib.hid (HNO.out (by have : x.si < 0 := by simpa using h5
                                        omega))
        go_wp2_with fail
        exact HF.out
      cases b6
      rotate_left
      · have HF := Lib.hid (HNO.out (by have : 1073741824 < x.si := by simpa using h6
                                        omega))
        go_wp2_with fail
        exact HF.out
      have hokx : okT x = true := by
        rw [okT_iff]
        have e1 : ¬ x.id < 1 := by simpa using h1
        have e2 : ¬ 65536 < x.id := by simpa using h2
        have e3 : ¬ x.rt < 0 := by simpa using h3
        have e4 : ¬ 4000 < x.rt := by simpa using h4
        have e5 : ¬ x.si < 0 := by simpa using h5
        have e6 : ¬ 1073741824 < x.si := by simpa using h6
        omega
      have hs2 : okTo l (i + 1) = !((l.take i).any fun u => u.id == x.id) := by rw [HSC.out, hokx]; rfl
      have HS2 := Lib.hid hs2
      clear hs2 hokx HNO HSC
      obtain ⟨wo, hwo⟩ : ∃ wo : World, wo = wr := ⟨_, rfl⟩
      rw [← hwo] at HB ⊢ ca cb cc
      clear hg
      clear hwo wr
      go_wp2_with fail
      clear h1 h2 h3 h4 h5 h6 ca cb cc
      go_loopw [7] (fun s wr => ∃ k : Nat, k ≤ i ∧ s = .int .i64 k ∧ Hid (((l.take k).any fun u => u.id == x.id) = false) ∧ Hid (Below w.heap.size w wr)) (fun s _ => i - (intOf s).toNat)
      case atStart => exact ⟨0, Nat.zero_le _, rfl, Lib.hid (by simp), HB⟩
      case round => as_aux_lemma =>
        clear HB
        obtain ⟨k, hk, rfl, HK, HB⟩ := hrel
        by_cases hlt2 : k < i
        · obtain ⟨y, hy⟩ : ∃ y, l[k]? = some y := ⟨_, List.getElem?_eq_getElem (by rw [HL.out]; omega)⟩
          obtain ⟨g', off', hgg, -, -, ca, -, -⟩ := (HS.out.up HB.out).tk hy
          injection hgg with hgg; injection hgg with hg1 hg2; subst hg1 hg2
          obtain ⟨g', off', hgg, -, -, cb, -, -⟩ := (HS.out.up HB.out).tk HX.out
          injection hgg with hgg; injection hgg with hg1 hg2; subst hg1 hg2
          have hst : ((l.take (k + 1)).any fun u => u.id == x.id) = (y.id == x.id) := by rw [List.take_add_one, hy, List.any_append, HK.out]; simp
          obtain ⟨E, hE⟩ : ∃ E : Bool, (y.id == x.id) = E := ⟨_, rfl⟩
          rw [hE] at hst
          have HST := Lib.hid hst
          have HBQ : Hid (∀ q, Below w.heap.size w (wr.drewN q)) := Lib.hid (fun q => below_then HB.out (below_drewN' _ _))
          have hk1 : (k : Int) < (n : Int) := by omega
          have hk2 : (k : Int) < (i : Int) := by omega
          have hf : E = true → OK = false := fun h => HBD.out (by
            rw [HS2.out]
            have : ((l.take i).any fun u => u.id == x.id) = true := by
              rw [List.any_eq_true]
              exact ⟨y, List.mem_of_getElem? (i := k) (by rw [List.getElem?_take_of_lt hlt2]; exact hy), by rw [hE]; exact h⟩
            rw [this]; rfl)
          have HF := Lib.hid hf
          clear hst hf hy
          cases E
          · go_wp2_with fail
            go_quiet (fail)
            go_wp2_with fail
            go_roundw
            case rel => exact ⟨k + 1, by omega, by go_num, HST, Lib.hid (HBQ.out _)⟩
            case measure => simp [intOf]; omega
          · have HFF := Lib.hid (HBAD.out (HF.out rfl))
            go_wp2_with fail
            go_quiet (fail)
            go_wp2_with fail
            exact HFF.out _ (HBQ.out _)
        · obtain rfl : i = k := by omega
          have HN : Hid (okTo l (i + 1) = true) := Lib.hid (by rw [HS2.out, HK.out]; rfl)
          go_wp2_with fail
          go_roundw
          case rel => exact ⟨i + 1, by omega, by go_num, HN, HB⟩
          case measure => simp [intOf]; omega
    · obtain rfl : n = i := by omega
      have hOK : OK = true := by rw [HOKE2.out, HI.out]
      have hpok : pairsOk l t = true := by rw [← HOK.out, hOK]
      obtain ⟨-, -, -, hall, hdist⟩ := pairsOk_iff.1 hpok
      obtain ⟨wr, hwr⟩ : ∃ W, W = wr := ⟨_, rfl⟩
      rw [← hwr] at HB
      have HPOK := Lib.hid hpok
      have hst5 : Step [] w (fun _ => 0) wr (fun _ => 0) := by have := (Step.refl [] w (fun _ => 0)).below HB.out 0; rwa [ext00] at this
      have sE := (Step.refl [] wr (fun _ => 0)).alloc (.cells #[] 29) 90
      have HR0 := Lib.hid (Row.made (w := wr) (fun _ => 0) 90 29 3 #[] 0 rfl (Nat.zero_le _) 0 (Nat.le_refl _))
      have HSE := Lib.hid (hst5.trans sE); have HS4 := Lib.hid ((HS.out.up HB.out).step sE (by simp))
      have HALL := Lib.hid hall; have HDI := Lib.hid hdist
      rw [← hwr]
      clear hOK hpok hall hdist hst5 hwr HI HBAD HOKE2 HB sE
      go_wp2_with (at_builtin; refine wpList_append_row _ rfl (.tmp 99) (.tmp 100) _ rfl el_rtk _ 90 _ 0 0 [] rfl HR0.out _ 0 A n c (tks l) rfl HS4.out (one_tks l) (by omega) (by simp only [maxLen]; omega) ?_; intro A2 c2 w3 hr3 hg3 hat3; have sA := Step.append HR0.out hg3 90; simp only [Nat.zero_add, List.nil_append] at hr3; have HST3 := Lib.hid ((HSE.out.nil.trans sA).forget (ts' := []) (fun t ht _ k _ => by simp at ht; subst ht; simp)); have HL3 := Lib.hid hr3.sl; clear hr3 hg3 hat3 sA HSE HR0 HS4)
      go_loopw [8, 9, 10, 11, 12, 13, 14, 15, 16, 17, 18, 19] (fun s u _ _ _ _ _ _ _ _ _ _ wr => ∃ (lf : List Tk) (Al : Option Addr) (cl : Nat) (out : List (Int × Int)) (Ao : Option Addr) (co : Nat) (o : Own), s = .slice Al lf.length cl ∧ u = .slice Ao out.length co ∧ Hid (pairsM l t = out ++ pairsM lf t) ∧ Hid ((∀ x ∈ lf, okT x = true) ∧ lf.Pairwise fun x y => x.id ≠ y.id) ∧ out.length + lf.length ≤ n ∧
        Hid (Step [] w (fun _ => 0) wr o ∧ Sl wr o 90 3 Al lf.length cl (tks lf) ∧ Row wr o 91 77 2 Ao out.length co (prs out))) (fun s _ _ _ _ _ _ _ _ _ _ _ _ => match s with | .slice _ k _ => k | _ => 0)
      case atStart => exact ⟨l, A2, c2, [], none, 0, _, by rw [HL.out], rfl, Lib.hid rfl, Lib.hid ⟨HALL.out, HDI.out⟩, by rw [HL.out]; simp, Lib.hid ⟨HST3.out, by rw [HL.out]; exact HL3.out, Row.nil_ _ _ _ _ _⟩⟩
      case round => as_aux_lemma =>
        clear HST3 HL3 HALL HDI
        obtain ⟨lf, Al, cl, out, Ao, co, o, rfl, rfl, HPM, HRT, hlen, HJ⟩ := hrel
        obtain ⟨N, hN⟩ : ∃ N, N = lf.length := ⟨_, rfl⟩
        rw [← hN] at HJ hlen ⊢
        have hN64 : N ≤ 64 := by omega
        have HNE := Lib.hid hN
        clear hN
        obtain ⟨wo, hwo⟩ : ∃ wo : World, wo = wr := ⟨_, rfl⟩
        rw [← hwo] at HJ ⊢
        clear hwo wr
        have hcell : ∀ W, Below wo.heap.size wo W → Sl W (fun _ => 0) 0 3 Al N cl (tks lf) := fun W h => HJ.out.2.1.old0.up h
        have HCE := Lib.hid hcell
        have hokx : ∀ (i : Nat) x, lf[i]? = some x → (0 ≤ x.rt ∧ x.rt ≤ 4000) ∧ 0 ≤ x.si ∧ x.si ≤ 1073741824 := fun i x h => by have := okT_iff.1 (HRT.out.1 x (List.mem_of_getElem? h)); omega
        have HOX := Lib.hid hokx
        clear hcell hokx
        go_wp2_with fail
        go_loopw [12, 10, 11, 13, 14, 15] (fun s u v _ _ _ wr => ∃ (i : Nat) (b : Option (Nat × Nat)), i ≤ N ∧ s = .int .i64 i ∧ u = .int .i64 (bx b) ∧ v = .int .i64 (bY b) ∧ Hid (Best t lf i (i + 1) b) ∧ Hid (Below wo.heap.size wo wr)) (fun s _ _ _ _ _ _ => N - (intOf s).toNat)
        case atStart => exact ⟨0, none, Nat.zero_le _, rfl, rfl, rfl, Lib.hid (best_start t lf), Lib.hid (Below.refl _ _)⟩
        case round => as_aux_lemma =>
          obtain ⟨i, b, hi, rfl, rfl, rfl, HBE, HB⟩ := hrel
          by_cases hlt : i < N
          ·
            obtain ⟨x, hx⟩ : ∃ x, lf[i]? = some x := ⟨_, List.getElem?_eq_getElem (by rw [← HNE.out]; exact hlt)⟩
            have HX := Lib.hid hx
            clear hx
            obtain ⟨w1, hw1⟩ : ∃ w1 : World, w1 = wr := ⟨_, rfl⟩
            rw [← hw1] at HB ⊢
            clear hw1 wr
            go_wp2_with fail
            go_loopw [13, 10, 11, 14, 15] (fun s u v _ _ wr => ∃ (k : Nat) (b : Option (Nat × Nat)), i < k ∧ k ≤ N ∧ s = .int .i64 k ∧ u = .int .i64 (bx b) ∧ v = .int .i64 (bY b) ∧ Hid (Best t lf i k b) ∧ Hid (Below wo.heap.size wo wr)) (fun s _ _ _ _ _ => N - (intOf s).toNat)
            case atStart => exact ⟨i + 1, b, by omega, by omega, by go_num, rfl, rfl, HBE, HB⟩
            case round => as_aux_lemma =>
              clear HBE HB
              obtain ⟨k, b, hik, hk, rfl, rfl, rfl, HBE, HB⟩ := hrel
              by_cases hltk : k < N
              · obtain ⟨y, hy⟩ : ∃ y, lf[k]? = some y := ⟨_, List.getElem?_eq_getElem (by rw [← HNE.out]; exact hltk)⟩
                obtain ⟨g, off, hgg, -, hg, ca, cb, cc⟩ := (HCE.out _ HB.out).tk HX.out
                subst hgg
                obtain ⟨g', off', hgg, -, -, da, db, dc⟩ := (HCE.out _ HB.out).tk hy
                injection hgg with hgg; injection hgg with hg1 hg2; subst hg1 hg2
                have HY := Lib.hid hy
                have hi1 : (i : Int) < (N : Int) := by omega
                have hk1 : (k : Int) < (N : Int) := by omega
                have hlb := Nat.le_trans (Nat.le_refl _) HB.out.size
                obtain ⟨nb, hnb⟩ : ∃ nb, nb = bx b := ⟨_, rfl⟩
                obtain ⟨mb, hmb⟩ : ∃ nb, nb = bY b := ⟨_, rfl⟩
                rw [← hnb, ← hmb]
                have HNB := Lib.hid hnb; have HMB := Lib.hid hmb
                clear hy hnb hmb
                go_upto_region 23 with (fail)
                go_cut [14, 15] (fun s14 s15 wx => ∃ ba bb W3, W3 = wx ∧ s14 = .pointer (some ⟨ba, 0, none⟩) ∧ s15 = .pointer (some ⟨bb, 0, none⟩) ∧ Hid (Below wr.heap.size wr wx ∧ Blk wx ba 29 (tC x) ∧ Blk wx bb 29 (tC y)))
                case first =>
                  go_wp2_with fail
                  go_region
                  · go_wp2_with fail
                    go_meet
                    exact ⟨_, _, _, rfl, rfl, rfl, Lib.hid (two_new wr 29 (tC x) (tC y))⟩
                  · go_wp2_with fail
                    go_meet
                    have h2 := two_new wr 29 (tC y) (tC x)
                    exact ⟨_, _, _, rfl, rfl, rfl, Lib.hid ⟨h2.1, h2.2.2, h2.2.1⟩⟩
                case rest => as_aux_lemma =>
                  obtain ⟨ba, bb, W3, rfl, rfl, rfl, HW3⟩ := hcut
                  have HB3 := Lib.hid (below_then HB.out HW3.out.1)
                  obtain ⟨D, hD⟩ : ∃ D, D = diffT x y := ⟨_, rfl⟩
                  obtain ⟨WX, hWX⟩ : ∃ W, W = winM x.si t := ⟨_, rfl⟩
                  obtain ⟨WY, hWY⟩ : ∃ W, W = winM y.si t := ⟨_, rfl⟩
                  have hmay : mayT t x y = (decide (D ≤ WX) && decide (D ≤ WY)) := by
                    rw [Bool.eq_iff_iff, mayT_iff, Bool.and_eq_true, decide_eq_true_eq, decide_eq_true_eq, hD, hWX, hWY]
                  obtain ⟨rx, sx⟩ := HOX.out i x HX.out
                  obtain ⟨ry, sy⟩ := HOX.out k y HY.out
                  have HCD := Lib.hid (fun (W : World) dd os => Calls.regrown_of (refdiff_any (grow (redrawn W dd) os) x y D hD rx ry))
                  have HCX := Lib.hid (fun (W : World) dd os => Calls.regrown_of (refWindow_any (grow (redrawn W dd) os) x.id x.rt x.si t WX hWX))
                  have HCY := Lib.hid (fun (W : World) dd os => Calls.regrown_of (refWindow_any (grow (redrawn W dd) os) y.id y.rt y.si t WY hWY))
                  have HMAY := Lib.hid hmay
                  clear hmay hD hWX hWY ca cb cc da db dc
                  have a0 := HW3.out.2.1.cell 0; have a1 := HW3.out.2.1.cell 1; have a2 := HW3.out.2.1.cell 2
                  have b0 := HW3.out.2.2.cell 0; have b1 := HW3.out.2.2.cell 1; have b2 := HW3.out.2.2.cell 2
                  simp only [List.getElem?_toArray, List.getElem?_cons_zero, List.getElem?_cons_succ] at a0 a1 a2 b0 b1 b2
                  have HA := Lib.hid HW3.out.2.1; have HBB := Lib.hid HW3.out.2.2
                  clear HW3 HB
                  have dec : decide (WX < D) = !decide (D ≤ WX) ∧ decide (WY < D) = !decide (D ≤ WY) := by
                    constructor <;> (rw [Bool.eq_iff_iff, Bool.not_eq_true', decide_eq_true_eq, decide_eq_false_iff_not]; omega)
                  obtain ⟨dec1, dec2⟩ := dec
                  obtain ⟨e1, he1⟩ : ∃ e : Bool, e = decide (D ≤ WX) := ⟨_, rfl⟩
                  obtain ⟨e2, he2⟩ : ∃ e : Bool, e = decide (D ≤ WY) := ⟨_, rfl⟩
                  rw [← he1] at dec1 HMAY
                  rw [← he2] at dec2 HMAY
                  clear he1 he2
                  cases e1
                  · have HS1 : Hid (Best t lf i (k + 1) b) := Lib.hid (best_skip HBE.out HX.out HY.out (by rw [HMAY.out]; rfl))
                    rw [Bool.not_false] at dec1
                    clear dec2
                    go_wp2_with fail
                    refine wp_region_quiet_below (by kernel_rfl) (by kernel_rfl) ?_
                    have va0 := cell_regrown a0
                    have va1 := cell_regrown a1
                    have va2 := cell_regrown a2
                    have vb0 := cell_regrown b0
                    have vb1 := cell_regrown b1
                    have vb2 := cell_regrown b2
                    repeat (go_big_quiet_step (first | with_reducible exact HCD.out _ _ _ | with_reducible exact HCX.out _ _ _ | with_reducible exact HCY.out _ _ _))
                    refine wpQuiet_nil ?_
                    intro wz hw'
                    obtain ⟨⟨dq, osq⟩, hw''⟩ := hw'
                    have hbq := below_regrown W3 dq osq
                    obtain ⟨w9, hw9⟩ : ∃ w9, w9 = grow (redrawn W3 dq) osq := ⟨_, rfl⟩
                    rw [← hw9] at hbq
                    have hw10 := hw''.trans hw9.symm
                    subst hw10
                    clear hw'' hw9 va0 va1 va2 vb0 vb1 vb2
                    have HBZ := Lib.hid (below_then HB3.out hbq)
                    clear hbq a0 a1 a2 b0 b1 b2
                    go_wp2_with fail
                    go_roundw
                    case rel => exact ⟨k + 1, b, by omega, by omega, by go_num, by rw [HNB.out], by rw [HMB.out], HS1, HBZ⟩
                    case measure => simp [intOf]; omega
                  cases e2
                  · have HS1 : Hid (Best t lf i (k + 1) b) := Lib.hid (best_skip HBE.out HX.out HY.out (by rw [HMAY.out]; rfl))
                    rw [Bool.not_true] at dec1
                    rw [Bool.not_false] at dec2
                    go_wp2_with fail
                    refine wp_region_quiet_below (by kernel_rfl) (by kernel_rfl) ?_
                    have va0 := cell_regrown a0
                    have va1 := cell_regrown a1
                    have va2 := cell_regrown a2
                    have vb0 := cell_regrown b0
                    have vb1 := cell_regrown b1
                    have vb2 := cell_regrown b2
                    repeat (go_big_quiet_step (first | with_reducible exact HCD.out _ _ _ | with_reducible exact HCX.out _ _ _ | with_reducible exact HCY.out _ _ _))
                    refine wpQuiet_nil ?_
                    intro wz hw'
                    obtain ⟨⟨dq, osq⟩, hw''⟩ := hw'
                    have hbq := below_regrown W3 dq osq
                    obtain ⟨w9, hw9⟩ : ∃ w9, w9 = grow (redrawn W3 dq) osq := ⟨_, rfl⟩
                    rw [← hw9] at hbq
                    have hw10 := hw''.trans hw9.symm
                    subst hw10
                    clear hw'' hw9 va0 va1 va2 vb0 vb1 vb2
                    have HBZ := Lib.hid (below_then HB3.out hbq)
                    clear hbq a0 a1 a2 b0 b1 b2
                    go_wp2_with fail
                    go_roundw
                    case rel => exact ⟨k + 1, b, by omega, by omega, by go_num, by rw [HNB.out], by rw [HMB.out], HS1, HBZ⟩
                    case measure => simp [intOf]; omega
                  rw [Bool.not_true] at dec1 dec2
                  have HM1 : Hid (mayT t x y = true) := Lib.hid HMAY.out
                  clear HMAY
                  go_wp2_with fail
                  refine wp_region_quiet_below (by kernel_rfl) (by kernel_rfl) ?_
                  have va0 := cell_regrown a0
                  have va1 := cell_regrown a1
                  have va2 := cell_regrown a2
                  have vb0 := cell_regrown b0
                  have vb1 := cell_regrown b1
                  have vb2 := cell_regrown b2
                  repeat (go_big_quiet_step (first | with_reducible exact HCD.out _ _ _ | with_reducible exact HCX.out _ _ _ | with_reducible exact HCY.out _ _ _))
                  refine wpQuiet_nil ?_
                  intro wz hw'
                  obtain ⟨⟨dq, osq⟩, hw''⟩ := hw'
                  have hbq := below_regrown W3 dq osq
                  obtain ⟨w9, hw9⟩ : ∃ w9, w9 = grow (redrawn W3 dq) osq := ⟨_, rfl⟩
                  rw [← hw9] at hbq
                  have hw10 := hw''.trans hw9.symm
                  subst hw10
                  clear hw'' hw9 va0 va1 va2 vb0 vb1 vb2
                  have HBZ := Lib.hid (below_then HB3.out hbq)
                  have HAZ := Lib.hid (HA.out.below hbq HA.out.lt); have HBBZ := Lib.hid (HBB.out.below hbq HBB.out.lt)
                  clear hbq a0 a1 a2 b0 b1 b2 HA HBB HB3 HCD HCX HCY dec1 dec2
                  have a0 := HAZ.out.cell 0; have a1 := HAZ.out.cell 1; have a2 := HAZ.out.cell 2
                  have b0 := HBBZ.out.cell 0; have b1 := HBBZ.out.cell 1; have b2 := HBBZ.out.cell 2
                  simp only [List.getElem?_toArray, List.getElem?_cons_zero, List.getElem?_cons_succ] at a0 a1 a2 b0 b1 b2
                  cases b with
                  | none =>
                    obtain rfl : nb = -1 := HNB.out
                    have HS1 : Hid (Best t lf i (k + 1) (some (i, k))) := Lib.hid (best_take HBE.out hik HX.out HY.out HM1.out (fun p q xp xq h => by cases h))
                    have d1 : decide ((-1 : Int) < 0) = true := rfl
                    clear rx sx ry sy
                    go_wp2_with fail
                    refine wp_region_quiet_below (by kernel_rfl) (by kernel_rfl) ?_
                    have va0 := cell_regrown a0
                    have va1 := cell_regrown a1
                    have va2 := cell_regrown a2
                    have vb0 := cell_regrown b0
                    have vb1 := cell_regrown b1
                    have vb2 := cell_regrown b2
                    repeat (go_big_quiet_step (fail))
                    refine wpQuiet_nil ?_
                    intro wy hw'
                    obtain ⟨⟨dq, osq⟩, hw''⟩ := hw'
                    have hbq := below_regrown wz dq osq
                    obtain ⟨w9, hw9⟩ : ∃ w9, w9 = grow (redrawn wz dq) osq := ⟨_, rfl⟩
                    rw [← hw9] at hbq
                    have hw10 := hw''.trans hw9.symm
                    subst hw10
                    clear hw'' hw9 va0 va1 va2 vb0 vb1 vb2
                    have HBY := Lib.hid (below_then HBZ.out hbq)
                    clear hbq a0 a1 a2 b0 b1 b2
                    go_wp2_with fail
                    go_roundw
                    case rel => exact ⟨k + 1, some (i, k), by omega, by omega, by go_num, rfl, rfl, HS1, HBY⟩
                    case measure => simp [intOf]; omega
                  | some pq =>
                    obtain ⟨p, q⟩ := pq
                    obtain rfl : nb = (p : Int) := HNB.out
                    obtain rfl : mb = (q : Int) := HMB.out
                    obtain ⟨hpq, xp, xq, hxp, hxq, -⟩ := HBE.out
                    obtain ⟨g', off', hgg, -, -, p0, p1, p2⟩ := (HCE.out _ HBZ.out).tk hxp
                    injection hgg with hgg; injection hgg with hg1 hg2; subst hg1 hg2
                    obtain ⟨g', off', hgg, -, -, q0, q1, q2⟩ := (HCE.out _ HBZ.out).tk hxq
                    injection hgg with hgg; injection hgg with hg1 hg2; subst hg1 hg2
                    have hp1 : (p : Int) < (N : Int) := by have := (List.getElem?_eq_some_iff.1 hxp).1; have := HNE.out; omega
                    have hq1 : (q : Int) < (N : Int) := by have := (List.getElem?_eq_some_iff.1 hxq).1; have := HNE.out; omega
                    have d1 : decide ((p : Int) < 0) = false := by rw [decide_eq_false_iff_not]; omega
                    obtain ⟨rp, sp⟩ := HOX.out p xp hxp
                    obtain ⟨rq, sq⟩ := HOX.out q xq hxq
                    obtain ⟨R, hR⟩ : ∃ R, R = ltK (keyT x y) (keyT xp xq) := ⟨_, rfl⟩
                    have HFI := Lib.hid (fun (W : World) dd os => Calls.regrown_of (first_any (grow (redrawn W dd) os) x y xp xq rx ry rp rq sx sy sp sq R hR))
                    have HXP := Lib.hid hxp; have HXQ := Lib.hid hxq; have HRE := Lib.hid hR
                    clear hxp hxq hR rx ry rp rq sx sy sp sq
                    cases R
                    · have HS1 : Hid (Best t lf i (k + 1) (some (p, q))) := Lib.hid (best_keep HBE.out HX.out HY.out HXP.out HXQ.out HRE.out.symm)
                      go_wp2_with fail
                      refine wp_region_quiet_below (by kernel_rfl) (by kernel_rfl) ?_
                      have va0 := cell_regrown a0
                      have va1 := cell_regrown a1
                      have va2 := cell_regrown a2
                      have vb0 := cell_regrown b0
                      have vb1 := cell_regrown b1
                      have vb2 := cell_regrown b2
                      have vp0 := cell_regrown p0
                      have vp1 := cell_regrown p1
                      have vp2 := cell_regrown p2
                      have vq0 := cell_regrown q0
                      have vq1 := cell_regrown q1
                      have vq2 := cell_regrown q2
                      repeat (go_big_quiet_step (first | with_reducible exact HFI.out _ _ _))
                      refine wpQuiet_nil ?_
                      intro wy hw'
                      obtain ⟨⟨dq, osq⟩, hw''⟩ := hw'
                      have hbq := below_regrown wz dq osq
                      obtain ⟨w9, hw9⟩ : ∃ w9, w9 = grow (redrawn wz dq) osq := ⟨_, rfl⟩
                      rw [← hw9] at hbq
                      have hw10 := hw''.trans hw9.symm
                      subst hw10
                      clear hw'' hw9 va0 va1 va2 vb0 vb1 vb2 vp0 vp1 vp2 vq0 vq1 vq2
                      have HBY := Lib.hid (below_then HBZ.out hbq)
                      clear hbq a0 a1 a2 b0 b1 b2 p0 p1 p2 q0 q1 q2
                      go_wp2_with fail
                      go_roundw
                      case rel => exact ⟨k + 1, some (p, q), by omega, by omega, by go_num, rfl, rfl, HS1, HBY⟩
                      case measure => simp [intOf]; omega
                    · have HS1 : Hid (Best t lf i (k + 1) (some (i, k))) := Lib.hid (best_take HBE.out hik HX.out HY.out HM1.out (fun p' q' xp' xq' h h1 h2 => by
                        injection h with h; injection h with e1 e2; subst e1 e2
                        have e1 := HXP.out.symm.trans h1; have e2 := HXQ.out.symm.trans h2
                        injection e1 with e1; injection e2 with e2; subst e1 e2
                        exact HRE.out.symm))
                      go_wp2_with fail
                      refine wp_region_quiet_below (by kernel_rfl) (by kernel_rfl) ?_
                      have va0 := cell_regrown a0
                      have va1 := cell_regrown a1
                      have va2 := cell_regrown a2
                      have vb0 := cell_regrown b0
                      have vb1 := cell_regrown b1
                      have vb2 := cell_regrown b2
                      have vp0 := cell_regrown p0
                      have vp1 := cell_regrown p1
                      have vp2 := cell_regrown p2
                      have vq0 := cell_regrown q0
                      have vq1 := cell_regrown q1
                      have vq2 := cell_regrown q2
                      repeat (go_big_quiet_step (first | with_reducible exact HFI.out _ _ _))
                      refine wpQuiet_nil ?_
                      intro wy hw'
                      obtain ⟨⟨dq, osq⟩, hw''⟩ := hw'
                      have hbq := below_regrown wz dq osq
                      obtain ⟨w9, hw9⟩ : ∃ w9, w9 = grow (redrawn wz dq) osq := ⟨_, rfl⟩
                      rw [← hw9] at hbq
                      have hw10 := hw''.trans hw9.symm
                      subst hw10
                      clear hw'' hw9 va0 va1 va2 vb0 vb1 vb2 vp0 vp1 vp2 vq0 vq1 vq2
                      have HBY := Lib.hid (below_then HBZ.out hbq)
                      clear hbq a0 a1 a2 b0 b1 b2 p0 p1 p2 q0 q1 q2
                      go_wp2_with fail
                      go_roundw
                      case rel => exact ⟨k + 1, some (i, k), by omega, by omega, by go_num, rfl, rfl, HS1, HBY⟩
                      case measure => simp [intOf]; omega
              · obtain rfl : N = k := by omega
                have HS1 : Hid (Best t lf (i + 1) (i + 2) b) := Lib.hid (best_row (by rw [← HNE.out]; exact Nat.le_refl _) HBE.out)
                go_wp2_with fail
                go_roundw
                case rel => exact ⟨i + 1, b, by omega, by go_num, rfl, rfl, HS1, HB⟩
                case measure => simp [intOf]; omega
          · obtain rfl : N = i := by omega
            obtain ⟨nb, hnb⟩ : ∃ nb, nb = bx b := ⟨_, rfl⟩
            obtain ⟨mb, hmb⟩ : ∃ nb, nb = bY b := ⟨_, rfl⟩
            rw [← hnb, ← hmb]
            have HST1 := Lib.hid (HJ.out.1.below HB.out 5)
            have HSL1 := Lib.hid (HJ.out.2.1.step ((Step.refl [] wo o).below HB.out 5) (by simp)); have HRO1 := Lib.hid (HJ.out.2.2.step ((Step.refl [] wo o).below HB.out 5) (by simp))
            obtain ⟨o1, ho1⟩ : ∃ o', o' = ext o wo.heap.size 5 := ⟨_, rfl⟩
            rw [← ho1] at HST1 HSL1 HRO1
            have hbest := HBE.out
            rw [HNE.out] at hbest
            have HBS := Lib.hid hbest
            clear HJ ho1 hbest HBE
            cases b with
            | none =>
              obtain rfl : nb = -1 := hnb
              have hpm : pairsM l t = out := by rw [HPM.out, best_none HBS.out, List.append_nil]
              have hfin : P (.returned (.tuple #[.slice Ao out.length co, .int .i64 0])) wr := by
                rw [HP.out]
                exact .inr ⟨HPOK.out, Ao, co, o1, by rw [hpm], HST1.out, by rw [hpm]; exact HRO1.out⟩
              have HF := Lib.hid hfin
              have d1 : decide ((-1 : Int) < 0) = true := rfl
              clear hfin hpm hmb
              go_wp2_with fail
              exact HF.out
            | some pq =>
              obtain ⟨p, q⟩ := pq
              obtain rfl : nb = (p : Int) := hnb
              obtain rfl : mb = (q : Int) := hmb
              obtain ⟨hpq, xp, xq, hxp, hxq, hnext⟩ := best_some HBS.out
              obtain ⟨g, off, hgg, -, -, p0, p1, p2⟩ := (HCE.out _ HB.out).tk hxp
              subst hgg
              obtain ⟨g', off', hgg, -, -, q0, q1, q2⟩ := (HCE.out _ HB.out).tk hxq
              injection hgg with hgg; injection hgg with hg1 hg2; subst hg1 hg2
              have hp1 : (p : Int) < (N : Int) := by have := (List.getElem?_eq_some_iff.1 hxp).1; have := HNE.out; omega
              have hq1 : (q : Int) < (N : Int) := by have := (List.getElem?_eq_some_iff.1 hxq).1; have := HNE.out; omega
              have d1 : decide ((p : Int) < 0) = false := by rw [decide_eq_false_iff_not]; omega
              obtain ⟨lo, hlo⟩ : ∃ z, z = loT xp xq := ⟨_, rfl⟩
              obtain ⟨hi', hhi⟩ : ∃ z, z = hiT xp xq := ⟨_, rfl⟩
              have HO := Lib.hid (fun W => order_any W xp xq lo hi' hlo hhi)
              have hkey : pairsM lf t = (lo.id, hi'.id) :: pairsM (restTo lf p q lf.length) t := by
                rw [hnext, restTo_filter HRT.out.2 hxp hxq _ (Nat.le_refl _), List.take_length]
                have e1 : min xp.id xq.id = lo.id := by rw [hlo]; unfold loT; split <;> omega
                have e2 : max xp.id xq.id = hi'.id := by rw [hhi]; unfold hiT; split <;> omega
                rw [e1, e2]
              have HKEY := Lib.hid hkey; have HXP := Lib.hid hxp; have HXQ := Lib.hid hxq
              have hlq := Nat.le_refl wr.heap.size
              have hput : ∀ (ba bb : Nat) (W : World), Below wr.heap.size wr W → wr.heap.size ≤ ba → wr.heap.size ≤ bb → ¬ ba = bb → Blk W ba 29 #[.int .i64 0, .int .i64 0, .int .i64 0] → Blk W bb 29 #[.int .i64 0, .int .i64 0, .int .i64 0] →
                  Below wr.heap.size wr (put2 W ba bb lo hi') ∧ Blk (put2 W ba bb lo hi') ba 29 (tC lo) ∧ Blk (put2 W ba bb lo hi') bb 29 (tC hi') := fun ba bb W h1 h2 h3 h4 h5 h6 =>
                ⟨put2_below h1 h2 h3 lo hi', put2_fst (z := ⟨0, 0, 0⟩) h5 h4, put2_snd (z := ⟨0, 0, 0⟩) h6 h4⟩
              have HPUT := Lib.hid hput
              have hc := fun (W : World) (h : Below wr.heap.size wr W) => (show _ ∧ _ ∧ _ ∧ _ ∧ _ ∧ _ from ⟨cell_up h p0, cell_up h p1, cell_up h p2, cell_up h q0, cell_up h q1, cell_up h q2⟩)
              have HC := Lib.hid hc
              clear hput hkey hxp hxq hnext hlo hhi hc p0 p1 p2 q0 q1 q2
              go_upto_region 30 with (fail)
              go_cut [16, 17] (fun s16 s17 wx => ∃ ba bb W4, W4 = wx ∧ s16 = .pointer (some ⟨ba, 0, none⟩) ∧ s17 = .pointer (some ⟨bb, 0, none⟩) ∧ Hid (Below wr.heap.size wr wx ∧ Blk wx ba 29 (tC lo) ∧ Blk wx bb 29 (tC hi')))
              case first =>
                go_wp2_with fail
                have PK : Below wr.heap.size wr wr.drew := Below.drewK (Below.refl _ _) 1
                obtain ⟨WW, hWW⟩ : ∃ W, W = wr.drew := ⟨_, rfl⟩
                refine wp_region_till (S0 := fun w' => Below wr.heap.size wr w') (st := 8) (by kernel_rfl) ?_
                change wpAnyG _ _ _ _ _ _ _ _ _ (World.drew _)
                rw [← hWW] at PK ⊢
                clear hWW
                refine wpAnyG_take (i := 0) (v := ?_) rfl (by kernel_rfl) (by kernel_rfl) (by kernel_rfl) (by kernel_rfl) (fun _ _ _ h => h) (Or.inl ⟨by rfl, ?_⟩) ((.inr PK)) ?_
                rotate_left
                · intro w' _; go_simp; try with_reducible rfl
                try simp only [Act.put, List.getElem_toArray, List.getElem_cons_zero, List.setIfInBounds_toArray, List.set_cons_zero, List.set_cons_succ]
                refine wpAnyG_take (i := 1) (v := ?_) rfl (by kernel_rfl) (by kernel_rfl) (by kernel_rfl) (by kernel_rfl) (fun _ _ _ h => h) (Or.inl ⟨by rfl, ?_⟩) ((.inr PK)) ?_
                rotate_left
                · intro w' _; go_simp; try with_reducible rfl
                try simp only [Act.put, List.getElem_toArray, List.getElem_cons_zero, List.getElem_cons_succ, List.setIfInBounds_toArray, List.set_cons_zero, List.set_cons_succ]
                refine wpAnyG_take (i := 2) (v := ?_) rfl (by kernel_rfl) (by kernel_rfl) (by kernel_rfl) (by kernel_rfl) (fun _ _ _ h => h) (Or.inl ⟨by rfl, ?_⟩) ((.inr PK)) ?_
                rotate_left
                · intro w' _; go_simp; try with_reducible rfl
                try simp only [Act.put, List.getElem_toArray, List.getElem_cons_zero, List.getElem_cons_succ, List.setIfInBounds_toArray, List.set_cons_zero, List.set_cons_succ]
                refine wpAnyG_load (i := 3) (v := ?_) rfl rfl (by kernel_rfl) (by kernel_rfl) (by kernel_rfl) (by kernel_rfl) (by kernel_rfl) (by kernel_rfl) (fun _ _ _ h => h) (Or.inl ⟨by rfl, ?_⟩) (PK) ?_
                rotate_left
                · intro w' hSw; obtain ⟨z0, z1, z2, -, -, -⟩ := HC.out _ hSw; go_simp; try with_reducible rfl
                try simp only [Act.put, List.getElem_toArray, List.getElem_cons_zero, List.getElem_cons_succ, List.setIfInBounds_toArray, List.set_cons_zero, List.set_cons_succ]
                refine wpAnyG_take (i := 4) (v := ?_) rfl (by kernel_rfl) (by kernel_rfl) (by kernel_rfl) (by kernel_rfl) (fun _ _ _ h => h) (Or.inl ⟨by rfl, ?_⟩) ((.inr PK)) ?_
                rotate_left
                · intro w' _; go_simp; try with_reducible rfl
                try simp only [Act.put, List.getElem_toArray, List.getElem_cons_zero, List.getElem_cons_succ, List.setIfInBounds_toArray, List.set_cons_zero, List.set_cons_succ]
                refine wpAnyG_take (i := 5) (v := ?_) rfl (by kernel_rfl) (by kernel_rfl) (by kernel_rfl) (by kernel_rfl) (fun _ _ _ h => h) (Or.inl ⟨by rfl, ?_⟩) ((.inr PK)) ?_
                rotate_left
                · intro w' _; go_simp; try with_reducible rfl
                try simp only [Act.put, List.getElem_toArray, List.getElem_cons_zero, List.getElem_cons_succ, List.setIfInBounds_toArray, List.set_cons_zero, List.set_cons_succ]
                refine wpAnyG_take (i := 6) (v := ?_) rfl (by kernel_rfl) (by kernel_rfl) (by kernel_rfl) (by kernel_rfl) (fun _ _ _ h => h) (Or.inl ⟨by rfl, ?_⟩) ((.inr PK)) ?_
                rotate_left
                · intro w' _; go_simp; try with_reducible rfl
                try simp only [Act.put, List.getElem_toArray, List.getElem_cons_zero, List.getElem_cons_succ, List.setIfInBounds_toArray, List.set_cons_zero, List.set_cons_succ]
                refine wpAnyG_load (i := 7) (v := ?_) rfl rfl (by kernel_rfl) (by kernel_rfl) (by kernel_rfl) (by kernel_rfl) (by kernel_rfl) (by kernel_rfl) (fun _ _ _ h => h) (Or.inl ⟨by rfl, ?_⟩) (PK) ?_
                rotate_left
                · intro w' hSw; obtain ⟨-, -, -, z0, z1, z2⟩ := HC.out _ hSw; go_simp; try with_reducible rfl
                try simp only [Act.put, List.getElem_toArray, List.getElem_cons_zero, List.getElem_cons_succ, List.setIfInBounds_toArray, List.set_cons_zero, List.set_cons_succ]
                refine wpAnyG_ready (rs := [8, 12, 13]) (by kernel_rfl) (by simp) ?_
                refine AllReadyG.cons rfl (fun K hK => ?_) ?_
                · skip
                  go_simp
                  refine (HO.out _).mono ?_
                  rintro e WN ⟨rfl, hbN⟩
                  try go_simp
                  refine hK.out _ _ (.inl rfl) ?_
                  clear hK K
                  have PK := below_then PK hbN
                  clear hbN
                  obtain ⟨WW, hWW⟩ : ∃ W, W = WN := ⟨_, rfl⟩
                  rw [← hWW] at PK ⊢
                  clear hWW
                  refine wpAnyG_take (i := 9) (v := ?_) rfl (by kernel_rfl) (by kernel_rfl) (by kernel_rfl) (by kernel_rfl) (fun _ _ _ h => h) (Or.inl ⟨by rfl, ?_⟩) ((.inl rfl)) ?_
                  rotate_left
                  · intro w' _; go_simp; try with_reducible rfl
                  try simp only [Act.put, List.getElem_toArray, List.getElem_cons_zero, List.getElem_cons_succ, List.setIfInBounds_toArray, List.set_cons_zero, List.set_cons_succ]
                  refine wpAnyG_take (i := 10) (v := ?_) rfl (by kernel_rfl) (by kernel_rfl) (by kernel_rfl) (by kernel_rfl) (fun _ _ _ h => h) (Or.inl ⟨by rfl, ?_⟩) ((.inl rfl)) ?_
                  rotate_left
                  · intro w' _; go_simp; try with_reducible rfl
                  try simp only [Act.put, List.getElem_toArray, List.getElem_cons_zero, List.getElem_cons_succ, List.setIfInBounds_toArray, List.set_cons_zero, List.set_cons_succ]
                  refine wpAnyG_take (i := 11) (v := ?_) rfl (by kernel_rfl) (by kernel_rfl) (by kernel_rfl) (by kernel_rfl) (fun _ _ _ h => h) (Or.inl ⟨by rfl, ?_⟩) ((.inl rfl)) ?_
                  rotate_left
                  · intro w' _; go_simp; try with_reducible rfl
                  try simp only [Act.put, List.getElem_toArray, List.getElem_cons_zero, List.getElem_cons_succ, List.setIfInBounds_toArray, List.set_cons_zero, List.set_cons_succ]
                  refine wpAnyG_ready (rs := [12, 13]) (by kernel_rfl) (by simp) ?_
                  refine AllReadyG.cons rfl (fun K hK => ?_) ?_
                  · skip
                    go_simp
                    refine hK.out _ _ (.inl rfl) ?_
                    clear hK K
                    have BA := Blk.new WW 29 #[.int .i64 0, .int .i64 0, .int .i64 0]
                    have hge1 := PK.size
                    obtain ⟨ba, hba⟩ : ∃ b, b = WW.heap.size := ⟨_, rfl⟩
                    rw [← hba] at BA hge1 ⊢
                    have hlt : ba < (WW.alloc (.cells #[.int .i64 0, .int .i64 0, .int .i64 0] 29)).heap.size := by rw [hba]; simp
                    have PK := Below.alloc PK PK.size (.cells #[.int .i64 0, .int .i64 0, .int .i64 0] 29)
                    obtain ⟨WW, hWW⟩ : ∃ W, W = WW.alloc (.cells #[.int .i64 0, .int .i64 0, .int .i64 0] 29) := ⟨_, rfl⟩
                    rw [← hWW] at PK hlt BA ⊢
                    clear hWW hba
                    refine wpAnyG_ready (rs := [13]) (by kernel_rfl) (by simp) ?_
                    refine AllReadyG.cons rfl (fun K hK => ?_) AllReadyG.nil
                    go_simp
                    refine hK.out _ _ (.inl rfl) ?_
                    clear hK K
                    have BB := Blk.new WW 29 #[.int .i64 0, .int .i64 0, .int .i64 0]
                    have hge2 := PK.size
                    have BA := BA.alloc (.cells #[.int .i64 0, .int .i64 0, .int .i64 0] 29)
                    obtain ⟨bb, hbb⟩ : ∃ b, b = WW.heap.size := ⟨_, rfl⟩
                    have hne : ¬ ba = bb := by have h1 := hlt; omega
                    rw [← hbb] at BB hge2 ⊢
                    have hlt : bb < (WW.alloc (.cells #[.int .i64 0, .int .i64 0, .int .i64 0] 29)).heap.size := by rw [hbb]; simp
                    have PK := Below.alloc PK PK.size (.cells #[.int .i64 0, .int .i64 0, .int .i64 0] 29)
                    obtain ⟨WW, hWW⟩ : ∃ W, W = WW.alloc (.cells #[.int .i64 0, .int .i64 0, .int .i64 0] 29) := ⟨_, rfl⟩
                    rw [← hWW] at PK hlt BB BA ⊢
                    clear hWW hbb
                    have q0 := BA.cell 0; have q1 := BA.cell 1; have q2 := BA.cell 2; have f0 := BA.frozen 0; have f1 := BA.frozen 1; have f2 := BA.frozen 2
                    have r0 := BB.cell 0; have r1 := BB.cell 1; have r2 := BB.cell 2; have g0 := BB.frozen 0; have g1 := BB.frozen 1; have g2 := BB.frozen 2
                    simp only [List.getElem?_toArray, List.getElem?_cons_zero, List.getElem?_cons_succ] at q0 q1 q2 r0 r1 r2
                    have hne2 : ¬ bb = ba := fun h => hne h.symm
                    refine wpAnyG_ready (rs := [14]) (by kernel_rfl) (by simp) ?_
                    refine AllReadyG.cons rfl (fun K hK => ?_) AllReadyG.nil
                    go_simp
                    refine hK.out _ _ (.inl rfl) ?_
                    clear hK K
                    refine wpAnyG_ready (rs := [15]) (by kernel_rfl) (by simp) ?_
                    refine AllReadyG.cons rfl (fun K hK => ?_) AllReadyG.nil
                    go_simp
                    refine hK.out _ _ (.inl rfl) ?_
                    clear hK K
                    refine wpAnyG_done (by kernel_rfl) ?_ _
                    have hfin := HPUT.out ba bb WW PK hge1 hge2 hne BA BB
                    clear q0 q1 q2 f0 f1 f2 r0 r1 r2 g0 g1 g2
                    go_wp2_with fail
                    go_meet
                    exact ⟨_, _, _, rfl, rfl, rfl, Lib.hid hfin⟩
                  refine AllReadyG.cons rfl (fun K hK => ?_) AllReadyG.nil
                  go_simp
                  refine hK.out _ _ (.inl rfl) ?_
                  clear hK K
                  have BB := Blk.new WW 29 #[.int .i64 0, .int .i64 0, .int .i64 0]
                  have hge2 := PK.size
                  obtain ⟨bb, hbb⟩ : ∃ b, b = WW.heap.size := ⟨_, rfl⟩
                  rw [← hbb] at BB hge2 ⊢
                  have hlt : bb < (WW.alloc (.cells #[.int .i64 0, .int .i64 0, .int .i64 0] 29)).heap.size := by rw [hbb]; simp
                  have PK := Below.alloc PK PK.size (.cells #[.int .i64 0, .int .i64 0, .int .i64 0] 29)
                  obtain ⟨WW, hWW⟩ : ∃ W, W = WW.alloc (.cells #[.int .i64 0, .int .i64 0, .int .i64 0] 29) := ⟨_, rfl⟩
                  rw [← hWW] at PK hlt BB ⊢
                  clear hWW hbb
                  refine wpAnyG_ready (rs := [12]) (by kernel_rfl) (by simp) ?_
                  refine AllReadyG.cons rfl (fun K hK => ?_) AllReadyG.nil
                  go_simp
                  refine hK.out _ _ (.inl rfl) ?_
                  clear hK K
                  have BA := Blk.new WW 29 #[.int .i64 0, .int .i64 0, .int .i64 0]
                  have hge1 := PK.size
                  have BB := BB.alloc (.cells #[.int .i64 0, .int .i64 0, .int .i64 0] 29)
                  obtain ⟨ba, hba⟩ : ∃ b, b = WW.heap.size := ⟨_, rfl⟩
                  have hne : ¬ ba = bb := by have h1 := hlt; omega
                  rw [← hba] at BA hge1 ⊢
                  have hlt : ba < (WW.alloc (.cells #[.int .i64 0, .int .i64 0, .int .i64 0] 29)).heap.size := by rw [hba]; simp
                  have PK := Below.alloc PK PK.size (.cells #[.int .i64 0, .int .i64 0, .int .i64 0] 29)
                  obtain ⟨WW, hWW⟩ : ∃ W, W = WW.alloc (.cells #[.int .i64 0, .int .i64 0, .int .i64 0] 29) := ⟨_, rfl⟩
                  rw [← hWW] at PK hlt BA BB ⊢
                  clear hWW hba
                  have q0 := BA.cell 0; have q1 := BA.cell 1; have q2 := BA.cell 2; have f0 := BA.frozen 0; have f1 := BA.frozen 1; have f2 := BA.frozen 2
                  have r0 := BB.cell 0; have r1 := BB.cell 1; have r2 := BB.cell 2; have g0 := BB.frozen 0; have g1 := BB.frozen 1; have g2 := BB.frozen 2
                  simp only [List.getElem?_toArray, List.getElem?_cons_zero, List.getElem?_cons_succ] at q0 q1 q2 r0 r1 r2
                  have hne2 : ¬ bb = ba := fun h => hne h.symm
                  refine wpAnyG_ready (rs := [14]) (by kernel_rfl) (by simp) ?_
                  refine AllReadyG.cons rfl (fun K hK => ?_) AllReadyG.nil
                  go_simp
                  refine hK.out _ _ (.inl rfl) ?_
                  clear hK K
                  refine wpAnyG_ready (rs := [15]) (by kernel_rfl) (by simp) ?_
                  refine AllReadyG.cons rfl (fun K hK => ?_) AllReadyG.nil
                  go_simp
                  refine hK.out _ _ (.inl rfl) ?_
                  clear hK K
                  refine wpAnyG_done (by kernel_rfl) ?_ _
                  have hfin := HPUT.out ba bb WW PK hge1 hge2 hne BA BB
                  clear q0 q1 q2 f0 f1 f2 r0 r1 r2 g0 g1 g2
                  go_wp2_with fail
                  go_meet
                  exact ⟨_, _, _, rfl, rfl, rfl, Lib.hid hfin⟩
                refine AllReadyG.cons rfl (fun K hK => ?_) ?_
                · skip
                  go_simp
                  refine hK.out _ _ (.inr (Below.alloc PK PK.size _)) ?_
                  clear hK K
                  have BA := Blk.new WW 29 #[.int .i64 0, .int .i64 0, .int .i64 0]
                  have hge1 := PK.size
                  obtain ⟨ba, hba⟩ : ∃ b, b = WW.heap.size := ⟨_, rfl⟩
                  rw [← hba] at BA hge1 ⊢
                  have hlt : ba < (WW.alloc (.cells #[.int .i64 0, .int .i64 0, .int .i64 0] 29)).heap.size := by rw [hba]; simp
                  have PK := Below.alloc PK PK.size (.cells #[.int .i64 0, .int .i64 0, .int .i64 0] 29)
                  obtain ⟨WW, hWW⟩ : ∃ W, W = WW.alloc (.cells #[.int .i64 0, .int .i64 0, .int .i64 0] 29) := ⟨_, rfl⟩
                  rw [← hWW] at PK hlt BA ⊢
                  clear hWW hba
                  refine wpAnyG_ready (rs := [8, 13]) (by kernel_rfl) (by simp) ?_
                  refine AllReadyG.cons rfl (fun K hK => ?_) ?_
                  · skip
                    go_simp
                    refine (HO.out _).mono ?_
                    rintro e WN ⟨rfl, hbN⟩
                    try go_simp
                    refine hK.out _ _ (.inl rfl) ?_
                    clear hK K
                    have BA := BA.below hbN BA.lt
                    have hlt := Nat.lt_of_lt_of_le hlt hbN.size
                    have PK := below_then PK hbN
                    clear hbN
                    obtain ⟨WW, hWW⟩ : ∃ W, W = WN := ⟨_, rfl⟩
                    rw [← hWW] at PK ⊢ BA hlt
                    clear hWW
                    refine wpAnyG_take (i := 9) (v := ?_) rfl (by kernel_rfl) (by kernel_rfl) (by kernel_rfl) (by kernel_rfl) (fun _ _ _ h => h) (Or.inl ⟨by rfl, ?_⟩) ((.inl rfl)) ?_
                    rotate_left
                    · intro w' _; go_simp; try with_reducible rfl
                    try simp only [Act.put, List.getElem_toArray, List.getElem_cons_zero, List.getElem_cons_succ, List.setIfInBounds_toArray, List.set_cons_zero, List.set_cons_succ]
                    refine wpAnyG_take (i := 10) (v := ?_) rfl (by kernel_rfl) (by kernel_rfl) (by kernel_rfl) (by kernel_rfl) (fun _ _ _ h => h) (Or.inl ⟨by rfl, ?_⟩) ((.inl rfl)) ?_
                    rotate_left
                    · intro w' _; go_simp; try with_reducible rfl
                    try simp only [Act.put, List.getElem_toArray, List.getElem_cons_zero, List.getElem_cons_succ, List.setIfInBounds_toArray, List.set_cons_zero, List.set_cons_succ]
                    refine wpAnyG_take (i := 11) (v := ?_) rfl (by kernel_rfl) (by kernel_rfl) (by kernel_rfl) (by kernel_rfl) (fun _ _ _ h => h) (Or.inl ⟨by rfl, ?_⟩) ((.inl rfl)) ?_
                    rotate_left
                    · intro w' _; go_simp; try with_reducible rfl
                    try simp only [Act.put, List.getElem_toArray, List.getElem_cons_zero, List.getElem_cons_succ, List.setIfInBounds_toArray, List.set_cons_zero, List.set_cons_succ]
                    refine wpAnyG_ready (rs := [13]) (by kernel_rfl) (by simp) ?_
                    refine AllReadyG.cons rfl (fun K hK => ?_) AllReadyG.nil
                    go_simp
                    refine hK.out _ _ (.inl rfl) ?_
                    clear hK K
                    have BB := Blk.new WW 29 #[.int .i64 0, .int .i64 0, .int .i64 0]
                    have hge2 := PK.size
                    have BA := BA.alloc (.cells #[.int .i64 0, .int .i64 0, .int .i64 0] 29)
                    obtain ⟨bb, hbb⟩ : ∃ b, b = WW.heap.size := ⟨_, rfl⟩
                    have hne : ¬ ba = bb := by have h1 := hlt; omega
                    rw [← hbb] at BB hge2 ⊢
                    have hlt : bb < (WW.alloc (.cells #[.int .i64 0, .int .i64 0, .int .i64 0] 29)).heap.size := by rw [hbb]; simp
                    have PK := Below.alloc PK PK.size (.cells #[.int .i64 0, .int .i64 0, .int .i64 0] 29)
                    obtain ⟨WW, hWW⟩ : ∃ W, W = WW.alloc (.cells #[.int .i64 0, .int .i64 0, .int .i64 0] 29) := ⟨_, rfl⟩
                    rw [← hWW] at PK hlt BB BA ⊢
                    clear hWW hbb
                    have q0 := BA.cell 0; have q1 := BA.cell 1; have q2 := BA.cell 2; have f0 := BA.frozen 0; have f1 := BA.frozen 1; have f2 := BA.frozen 2
                    have r0 := BB.cell 0; have r1 := BB.cell 1; have r2 := BB.cell 2; have g0 := BB.frozen 0; have g1 := BB.frozen 1; have g2 := BB.frozen 2
                    simp only [List.getElem?_toArray, List.getElem?_cons_zero, List.getElem?_cons_succ] at q0 q1 q2 r0 r1 r2
                    have hne2 : ¬ bb = ba := fun h => hne h.symm
                    refine wpAnyG_ready (rs := [14]) (by kernel_rfl) (by simp) ?_
                    refine AllReadyG.cons rfl (fun K hK => ?_) AllReadyG.nil
                    go_simp
                    refine hK.out _ _ (.inl rfl) ?_
                    clear hK K
                    refine wpAnyG_ready (rs := [15]) (by kernel_rfl) (by simp) ?_
                    refine AllReadyG.cons rfl (fun K hK => ?_) AllReadyG.nil
                    go_simp
                    refine hK.out _ _ (.inl rfl) ?_
                    clear hK K
                    refine wpAnyG_done (by kernel_rfl) ?_ _
                    have hfin := HPUT.out ba bb WW PK hge1 hge2 hne BA BB
                    clear q0 q1 q2 f0 f1 f2 r0 r1 r2 g0 g1 g2
                    go_wp2_with fail
                    go_meet
                    exact ⟨_, _, _, rfl, rfl, rfl, Lib.hid hfin⟩
                  refine AllReadyG.cons rfl (fun K hK => ?_) AllReadyG.nil
                  go_simp
                  refine hK.out _ _ (.inr (Below.alloc PK PK.size _)) ?_
                  clear hK K
                  have BB := Blk.new WW 29 #[.int .i64 0, .int .i64 0, .int .i64 0]
                  have hge2 := PK.size
                  have BA := BA.alloc (.cells #[.int .i64 0, .int .i64 0, .int .i64 0] 29)
                  obtain ⟨bb, hbb⟩ : ∃ b, b = WW.heap.size := ⟨_, rfl⟩
                  have hne : ¬ ba = bb := by have h1 := hlt; omega
                  rw [← hbb] at BB hge2 ⊢
                  have hlt : bb < (WW.alloc (.cells #[.int .i64 0, .int .i64 0, .int .i64 0] 29)).heap.size := by rw [hbb]; simp
                  have PK := Below.alloc PK PK.size (.cells #[.int .i64 0, .int .i64 0, .int .i64 0] 29)
                  obtain ⟨WW, hWW⟩ : ∃ W, W = WW.alloc (.cells #[.int .i64 0, .int .i64 0, .int .i64 0] 29) := ⟨_, rfl⟩
                  rw [← hWW] at PK hlt BB BA ⊢
                  clear hWW hbb
                  refine wpAnyG_ready (rs := [8]) (by kernel_rfl) (by simp) ?_
                  refine AllReadyG.cons rfl (fun K hK => ?_) AllReadyG.nil
                  go_simp
                  refine (HO.out _).mono ?_
                  rintro e WN ⟨rfl, hbN⟩
                  try go_simp
                  refine hK.out _ _ (.inl rfl) ?_
                  clear hK K
                  have BA := BA.below hbN BA.lt
                  have BB := BB.below hbN BB.lt
                  have hlt := Nat.lt_of_lt_of_le hlt hbN.size
                  have PK := below_then PK hbN
                  clear hbN
                  obtain ⟨WW, hWW⟩ : ∃ W, W = WN := ⟨_, rfl⟩
                  rw [← hWW] at PK ⊢ BA BB hlt
                  clear hWW
                  refine wpAnyG_take (i := 9) (v := ?_) rfl (by kernel_rfl) (by kernel_rfl) (by kernel_rfl) (by kernel_rfl) (fun _ _ _ h => h) (Or.inl ⟨by rfl, ?_⟩) ((.inl rfl)) ?_
                  rotate_left
                  · intro w' _; go_simp; try with_reducible rfl
                  try simp only [Act.put, List.getElem_toArray, List.getElem_cons_zero, List.getElem_cons_succ, List.setIfInBounds_toArray, List.set_cons_zero, List.set_cons_succ]
                  refine wpAnyG_take (i := 10) (v := ?_) rfl (by kernel_rfl) (by kernel_rfl) (by kernel_rfl) (by kernel_rfl) (fun _ _ _ h => h) (Or.inl ⟨by rfl, ?_⟩) ((.inl rfl)) ?_
                  rotate_left
                  · intro w' _; go_simp; try with_reducible rfl
                  try simp only [Act.put, List.getElem_toArray, List.getElem_cons_zero, List.getElem_cons_succ, List.setIfInBounds_toArray, List.set_cons_zero, List.set_cons_succ]
                  refine wpAnyG_take (i := 11) (v := ?_) rfl (by kernel_rfl) (by kernel_rfl) (by kernel_rfl) (by kernel_rfl) (fun _ _ _ h => h) (Or.inl ⟨by rfl, ?_⟩) ((.inl rfl)) ?_
                  rotate_left
                  · intro w' _; go_simp; try with_reducible rfl
                  try simp only [Act.put, List.getElem_toArray, List.getElem_cons_zero, List.getElem_cons_succ, List.setIfInBounds_toArray, List.set_cons_zero, List.set_cons_succ]
                  have q0 := BA.cell 0; have q1 := BA.cell 1; have q2 := BA.cell 2; have f0 := BA.frozen 0; have f1 := BA.frozen 1; have f2 := BA.frozen 2
                  have r0 := BB.cell 0; have r1 := BB.cell 1; have r2 := BB.cell 2; have g0 := BB.frozen 0; have g1 := BB.frozen 1; have g2 := BB.frozen 2
                  simp only [List.getElem?_toArray, List.getElem?_cons_zero, List.getElem?_cons_succ] at q0 q1 q2 r0 r1 r2
                  have hne2 : ¬ bb = ba := fun h => hne h.symm
                  refine wpAnyG_ready (rs := [14]) (by kernel_rfl) (by simp) ?_
                  refine AllReadyG.cons rfl (fun K hK => ?_) AllReadyG.nil
                  go_simp
                  refine hK.out _ _ (.inl rfl) ?_
                  clear hK K
                  refine wpAnyG_ready (rs := [15]) (by kernel_rfl) (by simp) ?_
                  refine AllReadyG.cons rfl (fun K hK => ?_) AllReadyG.nil
                  go_simp
                  refine hK.out _ _ (.inl rfl) ?_
                  clear hK K
                  refine wpAnyG_done (by kernel_rfl) ?_ _
                  have hfin := HPUT.out ba bb WW PK hge1 hge2 hne BA BB
                  clear q0 q1 q2 f0 f1 f2 r0 r1 r2 g0 g1 g2
                  go_wp2_with fail
                  go_meet
                  exact ⟨_, _, _, rfl, rfl, rfl, Lib.hid hfin⟩
                refine AllReadyG.cons rfl (fun K hK => ?_) AllReadyG.nil
                go_simp
                refine hK.out _ _ (.inr (Below.alloc PK PK.size _)) ?_
                clear hK K
                have BB := Blk.new WW 29 #[.int .i64 0, .int .i64 0, .int .i64 0]
                have hge2 := PK.size
                obtain ⟨bb, hbb⟩ : ∃ b, b = WW.heap.size := ⟨_, rfl⟩
                rw [← hbb] at BB hge2 ⊢
                have hlt : bb < (WW.alloc (.cells #[.int .i64 0, .int .i64 0, .int .i64 0] 29)).heap.size := by rw [hbb]; simp
                have PK := Below.alloc PK PK.size (.cells #[.int .i64 0, .int .i64 0, .int .i64 0] 29)
                obtain ⟨WW, hWW⟩ : ∃ W, W = WW.alloc (.cells #[.int .i64 0, .int .i64 0, .int .i64 0] 29) := ⟨_, rfl⟩
                rw [← hWW] at PK hlt BB ⊢
                clear hWW hbb
                refine wpAnyG_ready (rs := [8, 12]) (by kernel_rfl) (by simp) ?_
                refine AllReadyG.cons rfl (fun K hK => ?_) ?_
                · skip
                  go_simp
                  refine (HO.out _).mono ?_
                  rintro e WN ⟨rfl, hbN⟩
                  try go_simp
                  refine hK.out _ _ (.inl rfl) ?_
                  clear hK K
                  have BB := BB.below hbN BB.lt
                  have hlt := Nat.lt_of_lt_of_le hlt hbN.size
                  have PK := below_then PK hbN
                  clear hbN
                  obtain ⟨WW, hWW⟩ : ∃ W, W = WN := ⟨_, rfl⟩
                  rw [← hWW] at PK ⊢ BB hlt
                  clear hWW
                  refine wpAnyG_take (i := 9) (v := ?_) rfl (by kernel_rfl) (by kernel_rfl) (by kernel_rfl) (by kernel_rfl) (fun _ _ _ h => h) (Or.inl ⟨by rfl, ?_⟩) ((.inl rfl)) ?_
                  rotate_left
                  · intro w' _; go_simp; try with_reducible rfl
                  try simp only [Act.put, List.getElem_toArray, List.getElem_cons_zero, List.getElem_cons_succ, List.setIfInBounds_toArray, List.set_cons_zero, List.set_cons_succ]
                  refine wpAnyG_take (i := 10) (v := ?_) rfl (by kernel_rfl) (by kernel_rfl) (by kernel_rfl) (by kernel_rfl) (fun _ _ _ h => h) (Or.inl ⟨by rfl, ?_⟩) ((.inl rfl)) ?_
                  rotate_left
                  · intro w' _; go_simp; try with_reducible rfl
                  try simp only [Act.put, List.getElem_toArray, List.getElem_cons_zero, List.getElem_cons_succ, List.setIfInBounds_toArray, List.set_cons_zero, List.set_cons_succ]
                  refine wpAnyG_take (i := 11) (v := ?_) rfl (by kernel_rfl) (by kernel_rfl) (by kernel_rfl) (by kernel_rfl) (fun _ _ _ h => h) (Or.inl ⟨by rfl, ?_⟩) ((.inl rfl)) ?_
                  rotate_left
                  · intro w' _; go_simp; try with_reducible rfl
                  try simp only [Act.put, List.getElem_toArray, List.getElem_cons_zero, List.getElem_cons_succ, List.setIfInBounds_toArray, List.set_cons_zero, List.set_cons_succ]
                  refine wpAnyG_ready (rs := [12]) (by kernel_rfl) (by simp) ?_
                  refine AllReadyG.cons rfl (fun K hK => ?_) AllReadyG.nil
                  go_simp
                  refine hK.out _ _ (.inl rfl) ?_
                  clear hK K
                  have BA := Blk.new WW 29 #[.int .i64 0, .int .i64 0, .int .i64 0]
                  have hge1 := PK.size
                  have BB := BB.alloc (.cells #[.int .i64 0, .int .i64 0, .int .i64 0] 29)
                  obtain ⟨ba, hba⟩ : ∃ b, b = WW.heap.size := ⟨_, rfl⟩
                  have hne : ¬ ba = bb := by have h1 := hlt; omega
                  rw [← hba] at BA hge1 ⊢
                  have hlt : ba < (WW.alloc (.cells #[.int .i64 0, .int .i64 0, .int .i64 0] 29)).heap.size := by rw [hba]; simp
                  have PK := Below.alloc PK PK.size (.cells #[.int .i64 0, .int .i64 0, .int .i64 0] 29)
                  obtain ⟨WW, hWW⟩ : ∃ W, W = WW.alloc (.cells #[.int .i64 0, .int .i64 0, .int .i64 0] 29) := ⟨_, rfl⟩
                  rw [← hWW] at PK hlt BA BB ⊢
                  clear hWW hba
                  have q0 := BA.cell 0; have q1 := BA.cell 1; have q2 := BA.cell 2; have f0 := BA.frozen 0; have f1 := BA.frozen 1; have f2 := BA.frozen 2
                  have r0 := BB.cell 0; have r1 := BB.cell 1; have r2 := BB.cell 2; have g0 := BB.frozen 0; have g1 := BB.frozen 1; have g2 := BB.frozen 2
                  simp only [List.getElem?_toArray, List.getElem?_cons_zero, List.getElem?_cons_succ] at q0 q1 q2 r0 r1 r2
                  have hne2 : ¬ bb = ba := fun h => hne h.symm
                  refine wpAnyG_ready (rs := [14]) (by kernel_rfl) (by simp) ?_
                  refine AllReadyG.cons rfl (fun K hK => ?_) AllReadyG.nil
                  go_simp
                  refine hK.out _ _ (.inl rfl) ?_
                  clear hK K
                  refine wpAnyG_ready (rs := [15]) (by kernel_rfl) (by simp) ?_
                  refine AllReadyG.cons rfl (fun K hK => ?_) AllReadyG.nil
                  go_simp
                  refine hK.out _ _ (.inl rfl) ?_
                  clear hK K
                  refine wpAnyG_done (by kernel_rfl) ?_ _
                  have hfin := HPUT.out ba bb WW PK hge1 hge2 hne BA BB
                  clear q0 q1 q2 f0 f1 f2 r0 r1 r2 g0 g1 g2
                  go_wp2_with fail
                  go_meet
                  exact ⟨_, _, _, rfl, rfl, rfl, Lib.hid hfin⟩
                refine AllReadyG.cons rfl (fun K hK => ?_) AllReadyG.nil
                go_simp
                refine hK.out _ _ (.inr (Below.alloc PK PK.size _)) ?_
                clear hK K
                have BA := Blk.new WW 29 #[.int .i64 0, .int .i64 0, .int .i64 0]
                have hge1 := PK.size
                have BB := BB.alloc (.cells #[.int .i64 0, .int .i64 0, .int .i64 0] 29)
                obtain ⟨ba, hba⟩ : ∃ b, b = WW.heap.size := ⟨_, rfl⟩
                have hne : ¬ ba = bb := by have h1 := hlt; omega
                rw [← hba] at BA hge1 ⊢
                have hlt : ba < (WW.alloc (.cells #[.int .i64 0, .int .i64 0, .int .i64 0] 29)).heap.size := by rw [hba]; simp
                have PK := Below.alloc PK PK.size (.cells #[.int .i64 0, .int .i64 0, .int .i64 0] 29)
                obtain ⟨WW, hWW⟩ : ∃ W, W = WW.alloc (.cells #[.int .i64 0, .int .i64 0, .int .i64 0] 29) := ⟨_, rfl⟩
                rw [← hWW] at PK hlt BA BB ⊢
                clear hWW hba
                refine wpAnyG_ready (rs := [8]) (by kernel_rfl) (by simp) ?_
                refine AllReadyG.cons rfl (fun K hK => ?_) AllReadyG.nil
                go_simp
                refine (HO.out _).mono ?_
                rintro e WN ⟨rfl, hbN⟩
                try go_simp
                refine hK.out _ _ (.inl rfl) ?_
                clear hK K
                have BA := BA.below hbN BA.lt
                have BB := BB.below hbN BB.lt
                have hlt := Nat.lt_of_lt_of_le hlt hbN.size
                have PK := below_then PK hbN
                clear hbN
                obtain ⟨WW, hWW⟩ : ∃ W, W = WN := ⟨_, rfl⟩
                rw [← hWW] at PK ⊢ BA BB hlt
                clear hWW
                refine wpAnyG_take (i := 9) (v := ?_) rfl (by kernel_rfl) (by kernel_rfl) (by kernel_rfl) (by kernel_rfl) (fun _ _ _ h => h) (Or.inl ⟨by rfl, ?_⟩) ((.inl rfl)) ?_
                rotate_left
                · intro w' _; go_simp; try with_reducible rfl
                try simp only [Act.put, List.getElem_toArray, List.getElem_cons_zero, List.getElem_cons_succ, List.setIfInBounds_toArray, List.set_cons_zero, List.set_cons_succ]
                refine wpAnyG_take (i := 10) (v := ?_) rfl (by kernel_rfl) (by kernel_rfl) (by kernel_rfl) (by kernel_rfl) (fun _ _ _ h => h) (Or.inl ⟨by rfl, ?_⟩) ((.inl rfl)) ?_
                rotate_left
                · intro w' _; go_simp; try with_reducible rfl
                try simp only [Act.put, List.getElem_toArray, List.getElem_cons_zero, List.getElem_cons_succ, List.setIfInBounds_toArray, List.set_cons_zero, List.set_cons_succ]
                refine wpAnyG_take (i := 11) (v := ?_) rfl (by kernel_rfl) (by kernel_rfl) (by kernel_rfl) (by kernel_rfl) (fun _ _ _ h => h) (Or.inl ⟨by rfl, ?_⟩) ((.inl rfl)) ?_
                rotate_left
                · intro w' _; go_simp; try with_reducible rfl
                try simp only [Act.put, List.getElem_toArray, List.getElem_cons_zero, List.getElem_cons_succ, List.setIfInBounds_toArray, List.set_cons_zero, List.set_cons_succ]
                have q0 := BA.cell 0; have q1 := BA.cell 1; have q2 := BA.cell 2; have f0 := BA.frozen 0; have f1 := BA.frozen 1; have f2 := BA.frozen 2
                have r0 := BB.cell 0; have r1 := BB.cell 1; have r2 := BB.cell 2; have g0 := BB.frozen 0; have g1 := BB.frozen 1; have g2 := BB.frozen 2
                simp only [List.getElem?_toArray, List.getElem?_cons_zero, List.getElem?_cons_succ] at q0 q1 q2 r0 r1 r2
                have hne2 : ¬ bb = ba := fun h => hne h.symm
                refine wpAnyG_ready (rs := [14]) (by kernel_rfl) (by simp) ?_
                refine AllReadyG.cons rfl (fun K hK => ?_) AllReadyG.nil
                go_simp
                refine hK.out _ _ (.inl rfl) ?_
                clear hK K
                refine wpAnyG_ready (rs := [15]) (by kernel_rfl) (by simp) ?_
                refine AllReadyG.cons rfl (fun K hK => ?_) AllReadyG.nil
                go_simp
                refine hK.out _ _ (.inl rfl) ?_
                clear hK K
                refine wpAnyG_done (by kernel_rfl) ?_ _
                have hfin := HPUT.out ba bb WW PK hge1 hge2 hne BA BB
                clear q0 q1 q2 f0 f1 f2 r0 r1 r2 g0 g1 g2
                go_wp2_with fail
                go_meet
                exact ⟨_, _, _, rfl, rfl, rfl, Lib.hid hfin⟩
              case rest => as_aux_lemma =>
                obtain ⟨ba, bb, W4, rfl, rfl, rfl, HW4⟩ := hcut
                have HST2 := Lib.hid (HST1.out.below HW4.out.1 5)
                have s4 := (Step.refl [] wr o1).below HW4.out.1 5
                have HSL2 := Lib.hid (HSL1.out.step s4 (by simp)); have HRO2 := Lib.hid (HRO1.out.step s4 (by simp))
                have a0 := HW4.out.2.1.cell 0; have b0 := HW4.out.2.2.cell 0
                simp only [List.getElem?_toArray, List.getElem?_cons_zero] at a0 b0
                obtain ⟨o2, ho2⟩ : ∃ o', o' = ext o1 wr.heap.size 5 := ⟨_, rfl⟩
                rw [← ho2] at HST2 HSL2 HRO2
                have sN := (Step.refl [] W4 o2).alloc (.cells #[.int .i64 lo.id, .int .i64 hi'.id] 77) 5
                have HSTN := Lib.hid (HST2.out.trans sN); have HRON := Lib.hid (HRO2.out.step sN (by simp)); have HSLN := Lib.hid (HSL2.out.step sN (by simp))
                have HN := Lib.hid (Row.made (w := W4) o2 5 77 2 #[.int .i64 lo.id, .int .i64 hi'.id] 1 rfl (by decide) 1 (Nat.le_refl _)).sl
                clear HST1 HSL1 HRO1 HW4 s4 ho2 HST2 HSL2 HRO2 sN HO HPUT HC HB hlq
                go_wp2_with (at_builtin; refine wpList_append_row _ rfl (.tmp 172) (.tmp 178) _ rfl el_rpr _ 91 Ao out.length co (prs out) rfl HRON.out _ 5 _ 1 1 [.int .i64 lo.id, .int .i64 hi'.id] rfl HN.out (by simp [Value.oneCell']) (by omega) (by simp only [maxLen]; omega) ?_; intro A6 c6 w6 hr6 hg6 hat6; have sA := Step.append HRON.out hg6 91; have HST6 := Lib.hid ((HSTN.out.nil.trans sA).forget (ts' := []) (fun t ht _ k _ => by simp at ht; subst ht; simp)); have HSL6 := Lib.hid (HSLN.out.step sA (by decide)); rw [show prs out ++ [.int .i64 lo.id, .int .i64 hi'.id] = prs (out ++ [(lo.id, hi'.id)]) by simp [prs]] at hr6; have HRO6 := Lib.hid hr6; clear hr6 hg6 hat6 sA a0 b0 HSTN HRON HSLN HN)
                obtain ⟨o6, ho6⟩ : ∃ o', o' = ext (ext o2 W4.heap.size 5) (W4.alloc (.cells #[.int .i64 lo.id, .int .i64 hi'.id] 77)).heap.size 91 := ⟨_, rfl⟩
                rw [← ho6] at HST6 HSL6 HRO6
                clear ho6
                go_loopw [19, 18] (fun s u wr => ∃ (j : Nat) (Ar : Option Addr) (cr : Nat) (oj : Own), j ≤ N ∧ s = .int .i64 j ∧ u = .slice Ar (restTo lf p q j).length cr ∧ Hid (Step [] w (fun _ => 0) wr oj ∧ Sl wr oj 90 3 (some ⟨g, off, none⟩) N cl (tks lf) ∧ Row wr oj 91 77 2 A6 (out.length + 1) c6 (prs (out ++ [(lo.id, hi'.id)])) ∧ Row wr oj 92 29 3 Ar (restTo lf p q j).length cr (tks (restTo lf p q j)))) (fun s _ _ => N - (intOf s).toNat)
                case atStart => exact ⟨0, none, 0, o6, Nat.zero_le _, rfl, rfl, Lib.hid ⟨HST6.out, HSL6.out, HRO6.out, Row.nil_ _ _ _ _ _⟩⟩
                case round => as_aux_lemma =>
                  clear HST6 HSL6 HRO6
                  obtain ⟨j, Ar, cr, oj, hj, rfl, rfl, HK⟩ := hrel
                  have hrl := restTo_len lf p q j
                  by_cases hltj : j < N
                  · obtain ⟨y, hy⟩ : ∃ y, lf[j]? = some y := ⟨_, List.getElem?_eq_getElem (by rw [← HNE.out]; exact hltj)⟩
                    have hsn := restTo_snoc (p := p) (q := q) hy
                    by_cases hjp : j = p
                    · have d2 : ((j : Int) != (p : Int)) = false := by simp [hjp]
                      rw [if_neg (by rintro ⟨h, -⟩; exact h hjp)] at hsn
                      have HSN := Lib.hid hsn
                      clear hsn hjp hy
                      go_wp2_with fail
                      go_roundw
                      case rel => exact ⟨j + 1, Ar, cr, oj, by omega, by go_num, by rw [HSN.out], Lib.hid (by rw [HSN.out]; exact HK.out)⟩
                      case measure => simp [intOf]; omega
                    have d2 : ((j : Int) != (p : Int)) = true := by simp; omega
                    by_cases hjq : j = q
                    · have d3 : ((j : Int) != (q : Int)) = false := by simp [hjq]
                      rw [if_neg (by rintro ⟨-, h⟩; exact h hjq)] at hsn
                      have HSN := Lib.hid hsn
                      clear hsn hjp hjq hy
                      go_wp2_with fail
                      go_roundw
                      case rel => exact ⟨j + 1, Ar, cr, oj, by omega, by go_num, by rw [HSN.out], Lib.hid (by rw [HSN.out]; exact HK.out)⟩
                      case measure => simp [intOf]; omega
                    have d3 : ((j : Int) != (q : Int)) = true := by simp; omega
                    rw [if_pos ⟨hjp, hjq⟩] at hsn
                    obtain ⟨g', off', hgg, -, -, ya, yb, yc⟩ := HK.out.2.1.tk hy
                    injection hgg with hgg; injection hgg with hg1 hg2; subst hg1 hg2
                    have hj1 : (j : Int) < (N : Int) := by omega
                    have sN := (Step.refl [] wr oj).alloc (.cells (tC y) 29) 5
                    have HSTN := Lib.hid (HK.out.1.trans sN); have HSLN := Lib.hid (HK.out.2.1.step sN (by simp)); have HRON := Lib.hid (HK.out.2.2.1.step sN (by simp)); have HRRN := Lib.hid (HK.out.2.2.2.step sN (by simp))
                    have HN := Lib.hid (Row.made (w := wr) oj 5 29 3 (tC y) 1 rfl (by decide) 1 (Nat.le_refl _)).sl
                    have HSN := Lib.hid hsn
                    have hlen1 : (restTo lf p q (j + 1)).length = (restTo lf p q j).length + 1 := by rw [hsn, List.length_append]; rfl
                    have HLN := Lib.hid hlen1
                    clear hsn hjp hjq hy sN HK hlen1
                    go_wp2_with (at_builtin; refine wpList_append_row _ rfl (.tmp 194) (.tmp 199) _ rfl el_rtk _ 92 Ar _ cr (tks (restTo lf p q j)) rfl HRRN.out _ 5 _ 1 1 [.int .i64 y.id, .int .i64 y.rt, .int .i64 y.si] rfl HN.out (by simp [Value.oneCell']) (by omega) (by simp only [maxLen]; omega) ?_; intro A7 c7 w7 hr7 hg7 hat7; have sA := Step.append HRRN.out hg7 92; have HST7 := Lib.hid ((HSTN.out.nil.trans sA).forget (ts' := []) (fun t ht _ k _ => by simp at ht; subst ht; simp)); have HSL7 := Lib.hid (HSLN.out.step sA (by decide)); have HRO7 := Lib.hid (HRON.out.step sA (by decide)); have HRR7 := Lib.hid hr7; clear hr7 hg7 hat7 sA HSTN HSLN HRON HRRN HN ya yb yc)
                    go_roundw
                    case rel => exact ⟨j + 1, A7, c7, _, by omega, by go_num, by rw [HLN.out], Lib.hid ⟨HST7.out, HSL7.out, HRO7.out, by rw [HLN.out, HSN.out]; simpa [tks] using HRR7.out⟩⟩
                    case measure => simp [intOf]; omega
                  · obtain rfl : N = j := by omega
                    have hless := rest_less HRT.out.2 HXP.out HXQ.out
                    have hfil := restTo_filter HRT.out.2 HXP.out HXQ.out lf.length (Nat.le_refl _)
                    rw [List.take_length] at hfil
                    have hsub : (restTo lf p q lf.length).Sublist lf := by rw [hfil]; exact List.filter_sublist
                    have HRT2 : Hid ((∀ x ∈ restTo lf p q N, okT x = true) ∧ (restTo lf p q N).Pairwise fun x y => x.id ≠ y.id) := Lib.hid (by rw [HNE.out]; exact ⟨fun x hx => HRT.out.1 x (hsub.subset hx), HRT.out.2.sublist hsub⟩)
                    have HPM2 : Hid (pairsM l t = (out ++ [(lo.id, hi'.id)]) ++ pairsM (restTo lf p q N) t) := Lib.hid (by rw [HPM.out, HKEY.out, ← HNE.out, List.append_assoc]; rfl)
                    have hl1 : (restTo lf p q N).length < N := by rw [← HNE.out] at hless; exact hless
                    have HL1 := Lib.hid hl1
                    have HJN := Lib.hid (show Step [] w (fun _ => 0) wr (newTags w.heap.size oj) ∧ Sl wr (newTags w.heap.size oj) 90 3 Ar (restTo lf p q N).length cr (tks (restTo lf p q N)) ∧ Row wr (newTags w.heap.size oj) 91 77 2 A6 (out ++ [(lo.id, hi'.id)]).length c6 (prs (out ++ [(lo.id, hi'.id)])) from
                      ⟨HK.out.1.retag, HK.out.2.2.2.sl.retag HK.out.1 (by decide) (by decide), by rw [List.length_append]; exact HK.out.2.2.1.retag HK.out.1⟩)
                    have hol : (out ++ [(lo.id, hi'.id)]).length + (restTo lf p q N).length ≤ n := by rw [List.length_append]; simp only [List.length_cons, List.length_nil]; omega
                    clear hless hfil hsub HK
                    go_wp2_with fail
                    go_roundw
                    case rel => exact ⟨restTo lf p q N, Ar, cr, out ++ [(lo.id, hi'.id)], A6, c6, _, rfl, by rw [List.length_append]; rfl, HPM2, HRT2, hol, HJN⟩
                    case measure => exact HL1.out
end Go.Proofs.Ytkceefheeicmbaa
