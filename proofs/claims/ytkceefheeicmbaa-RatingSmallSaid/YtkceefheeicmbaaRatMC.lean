/-
  WALK of lists. (Printed by wip/gen/gen_lists.py from wip/src/XRatMC.base.)
-/
import Derived.Test.YtkceefheeicmbaaRatMB
import Derived.Test.YtkceefheeicmbaaKitH
import Derived.Lib.QuietBelow
import Derived.BigQuiet
import Derived.Deep.CutBlock
namespace Go.Proofs.Ytkceefheeicmbaa
open Go.RowKit Go.Sort

theorem pl_new (w : World) (o : Own) (a b : Int) : Sl (w.alloc (.cells #[.int .i64 a, .int .i64 b] 61)) (ext o w.heap.size 5) 5 2 (some ⟨w.heap.size, 0, none⟩) 1 1 [.int .i64 a, .int .i64 b] :=
  ⟨rfl, Nat.le_refl _, by decide, fun _ => ⟨w.heap.size, 0, rfl, ext_ge (Nat.le_refl _), (Blk.new w 61 #[.int .i64 a, .int .i64 b]).lt, fun i u hi => by rw [Nat.zero_add, (Blk.new w 61 #[.int .i64 a, .int .i64 b]).cell]; simpa using hi⟩⟩
theorem gm_new (w : World) (o : Own) (a b s : Int) : Sl (w.alloc (.cells #[.int .i64 a, .int .i64 b, .int .i64 s] 59)) (ext o w.heap.size 5) 5 3 (some ⟨w.heap.size, 0, none⟩) 1 1 [.int .i64 a, .int .i64 b, .int .i64 s] :=
  ⟨rfl, Nat.le_refl _, by decide, fun _ => ⟨w.heap.size, 0, rfl, ext_ge (Nat.le_refl _), (Blk.new w 59 #[.int .i64 a, .int .i64 b, .int .i64 s]).lt, fun i u hi => by rw [Nat.zero_add, (Blk.new w 59 #[.int .i64 a, .int .i64 b, .int .i64 s]).cell]; simpa using hi⟩⟩

set_option maxRecDepth 100000 in
set_option maxHeartbeats 4000000 in
theorem lists_any (w : World) : Calls Try.prog 30 #[] w (SaysTo w true) := by
  go_enter Try.func30, Try.ntmps30
  go_wp2_with fail
  go_loopw [3, 1] (fun s a wr => ∃ (n : Nat) (A : Option Addr) (c : Nat) (o : Own), n ≤ 201 ∧ s = .int .i64 n ∧ a = .slice A n c ∧ Hid (LG w wr o n A c 0 none 0)) (fun s _ _ => 201 - (intOf s).toNat)
  case atStart => exact ⟨0, none, 0, _, Nat.zero_le _, rfl, rfl, Lib.hid (LG.start w)⟩
  case round => as_aux_lemma =>
    obtain ⟨n, A, c, o, hn, rfl, rfl, HI⟩ := hrel
    by_cases hlt : n < 201
    · have s1 := fun a b => (Step.refl [] wr o).alloc (.cells #[.int .i64 a, .int .i64 b] 61) 5
      obtain ⟨xs, hxs⟩ := HI.out.2.1
      have HR := Lib.hid (fun a b => hxs.step (s1 a b) (by simp)); have HG := Lib.hid (fun a b => HI.out.step (s1 a b) (by simp)); have HN := Lib.hid (pl_new wr o)
      clear s1 hxs HI
      go_wp2_with (at_builtin; refine wpList_append_row _ rfl (.tmp 15) (.tmp 23) _ rfl el_pl (ext o wr.heap.size 5) 61 A n c (ints xs) rfl (HR.out _ _) (ext o wr.heap.size 5) 5 _ 1 1 [.int .i64 _, .int .i64 _] rfl (HN.out _ _) (by simp [Value.oneCell']) (by omega) (by simp only [maxLen]; omega) ?_; intro A3 c3 w3 hr3 hg3 hat3; have HI3 := Lib.hid ((HG.out _ _).appL (Step.append (HR.out _ _) hg3 61) hr3); clear hr3 hg3 hat3 HR HG HN)
      go_roundw
      case rel => exact ⟨n + 1, A3, c3, _, by omega, by go_num, rfl, Lib.hid HI3.out⟩
      case measure => simp [intOf]; omega
    · have HN := Lib.hid (show n = 201 by omega)
      have dn : decide ((n : Int) < 201) = false := by simp; omega
      have hA201 := HI.out.2.1.bound
      go_wp2_with fail
      go_loopw [4, 2] (fun s b wr => ∃ (m : Nat) (B : Option Addr) (d : Nat) (o : Own), m ≤ 1001 ∧ s = .int .i64 m ∧ b = .slice B m d ∧ Hid (LG w wr o n A c m B d)) (fun s _ _ => 1001 - (intOf s).toNat)
      case atStart => exact ⟨0, none, 0, o, Nat.zero_le _, rfl, rfl, HI⟩
      case round => as_aux_lemma =>
        clear HI
        obtain ⟨m, B, d, o, hm, rfl, rfl, HI⟩ := hrel
        by_cases hlm : m < 1001
        · have s1 := fun a b s => (Step.refl [] wr o).alloc (.cells #[.int .i64 a, .int .i64 b, .int .i64 s] 59) 5
          obtain ⟨xs, hxs⟩ := HI.out.2.2
          have HR := Lib.hid (fun a b s => hxs.step (s1 a b s) (by simp)); have HG := Lib.hid (fun a b s => HI.out.step (s1 a b s) (by simp)); have HN := Lib.hid (gm_new wr o)
          clear s1 hxs HI
          go_upto_region 11 with (at_builtin; refine wpList_append_row _ rfl (.tmp 29) (.tmp 51) _ rfl el_gm (ext o wr.heap.size 5) 62 B m d (ints xs) rfl (HR.out _ _ _) (ext o wr.heap.size 5) 5 _ 1 1 [.int .i64 _, .int .i64 _, .int .i64 _] rfl (HN.out _ _ _) (by simp [Value.oneCell']) (by omega) (by simp only [maxLen]; omega) ?_; intro B3 d3 w3 hr3 hg3 hat3; have HI3 := Lib.hid ((HG.out _ _ _).appG (Step.append (HR.out _ _ _) hg3 62) hr3); clear hr3 hg3 hat3 HR HG HN)
          obtain ⟨o3, HI4⟩ : ∃ o3, Hid (LG w w3 o3 n A c (m + 1) B3 d3) := ⟨_, HI3⟩
          clear HI3
          obtain ⟨g, rfl, -⟩ := HI4.out.2.2.form (by omega)
          obtain ⟨a, b, e0, e1, f1⟩ := HI4.out.cells m (by omega)
          have hmm : (m : Int) < (m : Int) + 1 := by omega
          by_cases hab : a = b
          · have d0 : (a == b) = true := by simp [hab]
            clear hab
            go_wp2_with fail
            go_quiet (fail)
            have HI5 := Lib.hid (HI4.out.step (ts := []) ((Step.refl [] w3 o3).drewN nq) (by simp))
            obtain ⟨W0, hW0⟩ : ∃ W, W = w3.drewN nq := ⟨_, rfl⟩
            rw [← hW0] at HI5 ⊢
            clear hW0 e0 e1 f1 HI4 d0
            obtain ⟨a2, b2, -, e1, f1⟩ := HI5.out.cells m (by omega)
            go_upto_region 13 with fail
            refine wp_name_set (fun v W1 hW1 => ?_)
            have HI6 : Hid (LG w W1 o3 n A c (m + 1) (some ⟨g, 0, none⟩) d3) := Lib.hid (by rw [hW1]; exact HI5.out.set (by omega) _ _)
            clear hW1 HI5 e1 f1
            obtain ⟨a, b, e0, e1, -⟩ := HI6.out.cells m (by omega)
            by_cases hab : a = b
            · have d0 : (a == b) = true := by simp [hab]
              clear hab
              go_wp2_with fail
              go_quiet (fail)
              have HI7 := Lib.hid (HI6.out.step (ts := []) ((Step.refl [] W1 o3).drewN nq) (by simp))
              obtain ⟨W2, hW2⟩ : ∃ W, W = W1.drewN nq := ⟨_, rfl⟩
              rw [← hW2] at HI7 ⊢
              clear hW2 e0 e1 HI6 d0
              obtain ⟨a2, b2, -, e1, f1⟩ := HI7.out.cells m (by omega)
              go_wp2_with fail
              go_roundw
              case rel => exact ⟨m + 1, some ⟨g, 0, none⟩, d3, o3, by omega, by go_num, rfl, Lib.hid (HI7.out.set (by omega) _ _)⟩
              case measure => simp [intOf]; omega
            · have d0 : (a == b) = false := by simp [hab]
              clear hab
              go_wp2_with fail
              go_quiet (fail)
              have HI7 := Lib.hid (HI6.out.step (ts := []) ((Step.refl [] W1 o3).drewN nq) (by simp))
              clear e0 e1 HI6 d0
              go_wp2_with fail
              go_roundw
              case rel => exact ⟨m + 1, some ⟨g, 0, none⟩, d3, o3, by omega, by go_num, rfl, HI7⟩
              case measure => simp [intOf]; omega
          · have d0 : (a == b) = false := by simp [hab]
            clear hab
            go_wp2_with fail
            go_quiet (fail)
            have HI5 := Lib.hid (HI4.out.step (ts := []) ((Step.refl [] w3 o3).drewN nq) (by simp))
            obtain ⟨W0, hW0⟩ : ∃ W, W = w3.drewN nq := ⟨_, rfl⟩
            have k0 : W0.cell? ⟨g, m * 3, none⟩ = some (.int .i64 a) := by rw [hW0]; exact e0
            have k1 : W0.cell? ⟨g, m * 3 + 1, none⟩ = some (.int .i64 b) := by rw [hW0]; exact e1
            rw [← hW0] at HI5 ⊢
            clear hW0 e0 e1 f1 HI4
            go_wp2_with fail
            go_quiet (fail)
            have HI7 := Lib.hid (HI5.out.step (ts := []) ((Step.refl [] W0 o3).drewN nq) (by simp))
            clear k0 k1 HI5 d0
            go_wp2_with fail
            go_roundw
            case rel => exact ⟨m + 1, some ⟨g, 0, none⟩, d3, o3, by omega, by go_num, rfl, HI7⟩
            case measure => simp [intOf]; omega
        · have HM := Lib.hid (show m = 1001 by omega)
          have dm : decide ((m : Int) < 1001) = false := by simp; omega
          have hm4 := HI.out.2.2.bound
          go_wp2_with fail
          go_loopw [5] (fun s wr => ∃ (k : Nat) (o : Own), 199 ≤ k ∧ k ≤ 202 ∧ s = .int .i64 k ∧ Hid (LG w wr o n A c m B d)) (fun s _ => 202 - (intOf s).toNat)
          case atStart => exact ⟨199, o, by omega, by omega, rfl, HI⟩
          case round => as_aux_lemma =>
            clear HI
            obtain ⟨k, o, hk0, hk2, rfl, HI⟩ := hrel
            by_cases hk : k ≤ 201
            ·
              have dk : decide ((k : Int) ≤ 201) = true := by simp; omega
              go_wp2_with fail
              go_loopw [6] (fun s wr => ∃ (j : Nat) (o : Own), 999 ≤ j ∧ j ≤ 1002 ∧ s = .int .i64 j ∧ Hid (LG w wr o n A c m B d)) (fun s _ => 1002 - (intOf s).toNat)
              case atStart => exact ⟨999, o, by omega, by omega, rfl, HI⟩
              case round => as_aux_lemma =>
                clear HI
                obtain ⟨j, o, hj0, hj2, rfl, HI⟩ := hrel
                by_cases hj : j ≤ 1001
                · have hcut1 := run_headA Try.prog 51 61 _ 2 16 Try.underlying51 el_pl.info A n c k (by have := HN.out; omega)
                  have hcut2 := run_headA Try.prog 52 59 _ 3 24 Try.underlying52 el_gm.info B m d j (by have := HM.out; omega)
                  have cp : ∀ dd os, Calls Try.prog 28 #[.slice A k c, .slice B j d, .int .i64 64] (grow (redrawn wr dd) os) fun e w'' => e = .returned (.bool true) ∧ ∃ p : Regrown, w'' = grow (redrawn wr p.d) p.os :=
                    fun dd os => Calls.regrown_of ((HI.out.step ((Step.refl [] wr o).below (below_regrown wr dd os) 5) (by simp)).plays (by have := HN.out; omega) (by have := HM.out; omega) (by omega) (by omega) 64)
                  have HCP := Lib.hid cp
                  clear cp
                  go_wp2_with fail
                  refine wp_region_quiet_below (by kernel_rfl) (by kernel_rfl) ?_
                  repeat (go_big_quiet_step (with_reducible exact HCP.out _ _))
                  refine wpQuiet_nil ?_
                  intro wz hw'
                  obtain ⟨⟨dq, osq⟩, hw''⟩ := hw'
                  have hbq := below_regrown wr dq osq
                  obtain ⟨w9, hw9⟩ : ∃ w9, w9 = grow (redrawn wr dq) osq := ⟨_, rfl⟩
                  rw [← hw9] at hbq
                  have hw10 := hw''.trans hw9.symm
                  subst hw10
                  have HI2 := Lib.hid (HI.out.step ((Step.refl [] wr o).below hbq 5) (by simp))
                  clear hw'' hw9 hbq HCP hcut1 hcut2 HI
                  go_wp2_with fail
                  go_roundw
                  case rel => exact ⟨j + 1, _, by omega, by omega, by go_num, HI2⟩
                  case measure => simp [intOf]; omega
                · have dj : decide ((j : Int) ≤ 1001) = false := by simp; omega
                  go_wp2_with fail
                  go_roundw
                  case rel => exact ⟨k + 1, o, by omega, by omega, by go_num, HI⟩
                  case measure => simp [intOf]; omega
            · have dk : decide ((k : Int) ≤ 201) = false := by simp; omega
              go_wp2_with fail
              go_loopw [7] (fun s wr => ∃ (i : Nat) (o : Own), i ≤ 16 ∧ s = .int .i64 i ∧ Hid (LG w wr o n A c m B d)) (fun s _ => 16 - (intOf s).toNat)
              case atStart => exact ⟨0, o, by omega, rfl, HI⟩
              case round => as_aux_lemma =>
                clear HI
                obtain ⟨i, o, hi, rfl, HI⟩ := hrel
                by_cases hlt : i < 16
                · have sE := (Step.refl [] wr o).alloc (.cells #[] 61) 71
                  have HR0 := Lib.hid (Row.made (w := wr) o 71 61 2 #[] 0 rfl (Nat.zero_le _) 0 (Nat.le_refl _))
                  have HI1 := Lib.hid (HI.out.step sE (by simp))
                  obtain ⟨zs, hzs⟩ := HI1.out.2.1
                  have HZ := Lib.hid (hzs.sl.headI (k := 3) (by have := HN.out; omega))
                  have hcut := run_headA Try.prog 51 61 _ 2 16 Try.underlying51 el_pl.info A n c 3 (by have := HN.out; omega)
                  rw [show ((3 : Nat) : Int) = 3 from rfl] at hcut
                  clear sE hzs HI
                  go_upto_region 27 with (at_builtin; refine wpList_append_row _ rfl (.tmp 113) (.tmp 115) _ rfl el_pl _ 71 _ 0 0 [] rfl HR0.out _ 0 A 3 c (ints (zs.take (3 * 2))) rfl HZ.out (one_ints _) (by omega) (by simp only [maxLen]; omega) ?_; intro A2 c2 w3 hr3 hg3 hat3; have sA := Step.append HR0.out hg3 71; simp only [Nat.zero_add, List.nil_append] at hr3; have HI3 := Lib.hid (HI1.out.step sA (by simp)); have HP3 := Lib.hid (RowI.of hr3 rfl); clear hr3 hg3 hat3 sA HR0 HI1 HZ)
                  obtain ⟨o3, ho3⟩ : ∃ o', o' = ext (ext o wr.heap.size 71) (wr.alloc (.cells #[] 61)).heap.size 71 := ⟨_, rfl⟩
                  rw [← ho3] at HI3 HP3
                  obtain ⟨gp, rfl, -⟩ := HP3.out.form (by omega)
                  have hl3 : gp < w3.heap.size := by obtain ⟨_, hz'⟩ := HP3.out; exact hz'.lt rfl
                  have sG := (Step.refl [] w3 o3).alloc (.cells #[.int .i64 5, .int .i64 8, .int .i64 1024, .int .i64 11, .int .i64 5, .int .i64 0] 59) 72
                  have hrG := Row.made (w := w3) o3 72 59 3 #[.int .i64 5, .int .i64 8, .int .i64 1024, .int .i64 11, .int .i64 5, .int .i64 0] 2 rfl (by decide) 2 (Nat.le_refl _)
                  have HPG : Hid (PG w _ _ n A c m B d (some ⟨gp, 0, none⟩) 3 c2 (some ⟨w3.heap.size, 0, none⟩) 2 2) := Lib.hid ⟨HI3.out.step sG (by simp), HP3.out.step sG (by simp), RowI.of hrG (zs := [5, 8, 1024, 11, 5, 0]) rfl⟩
                  obtain ⟨gG, hgG⟩ : ∃ g, g = w3.heap.size := ⟨_, rfl⟩
                  obtain ⟨o4, ho4⟩ : ∃ o', o' = ext o3 w3.heap.size 72 := ⟨_, rfl⟩
                  obtain ⟨W4, hW4⟩ : ∃ W, W = w3.alloc (.cells #[.int .i64 5, .int .i64 8, .int .i64 1024, .int .i64 11, .int .i64 5, .int .i64 0] 59) := ⟨_, rfl⟩
                  have HNE := Lib.hid (show gp ≠ gG by rw [hgG]; omega)
                  clear sG hrG HI3 HP3 ho3 hcut hl3
                  rw [← ho4, ← hgG, ← hW4] at HPG
                  go_upto_block 10 with (refine wpList_two_gm rfl (.tmp 117) (.tmp 118) rfl 5 8 1024 11 5 0 rfl rfl ?_)
                  rw [← hW4, ← hgG]
                  clear hW4 hgG ho4
                  go_cut [8, 9, 10] (fun s8 s9 s10 wx => ∃ (P G : Option Addr) (a cp b cg : Nat) (kk : Int) (o' : Own), s8 = .slice P a cp ∧ s9 = .slice G b cg ∧ s10 = .int .i64 kk ∧ a ≤ 300 ∧ b ≤ 2000 ∧ Hid (PG w wx o' n A c m B d P a cp G b cg))
                  case first => as_aux_lemma =>
                    by_cases hv : i = 0
                    · have d1 : ((i : Int) == 1) = false := by simp; omega
                      have d2 : ((i : Int) == 2) = false := by simp; omega
                      have d3 : ((i : Int) == 3) = false := by simp; omega
                      have d4 : ((i : Int) == 4) = false := by simp; omega
                      have d5 : ((i : Int) == 5) = false := by simp; omega
                      have d6 : ((i : Int) == 6) = false := by simp; omega
                      have d7 : ((i : Int) == 7) = false := by simp; omega
                      have d8 : ((i : Int) == 8) = false := by simp; omega
                      have d9 : ((i : Int) == 9) = false := by simp; omega
                      have d10 : ((i : Int) == 10) = false := by simp; omega
                      have d11 : ((i : Int) == 11) = false := by simp; omega
                      have d12 : ((i : Int) == 12) = false := by simp; omega
                      have d13 : ((i : Int) == 13) = false := by simp; omega
                      have d14 : ((i : Int) == 14) = false := by simp; omega
                      have d15 : ((i : Int) == 15) = false := by simp; omega
                      clear hv
                      go_wp2_with fail
                      go_meet
                      exact ⟨_, _, 3, c2, 2, 2, _, o4, rfl, rfl, rfl, by omega, by omega, Lib.hid (HPG.out)⟩
                    by_cases hv : i = 1
                    · have d1 : ((i : Int) == 1) = true := by simp; omega
                      clear hv
                      obtain ⟨x1, e1, f1⟩ := HPG.out.2.1.cell 2 (by omega)
                      go_wp2_with fail
                      go_meet
                      exact ⟨_, _, 3, c2, 2, 2, _, o4, rfl, rfl, rfl, by omega, by omega, Lib.hid (HPG.out.setP (by omega) _ _)⟩
                    by_cases hv : i = 2
                    · have d1 : ((i : Int) == 1) = false := by simp; omega
                      have d2 : ((i : Int) == 2) = true := by simp; omega
                      clear hv
                      obtain ⟨x1, e1, f1⟩ := HPG.out.2.1.cell 0 (by omega)
                      go_wp2_with fail
                      go_meet
                      exact ⟨_, _, 3, c2, 2, 2, _, o4, rfl, rfl, rfl, by omega, by omega, Lib.hid (HPG.out.setP (by omega) _ _)⟩
                    by_cases hv : i = 3
                    · have d1 : ((i : Int) == 1) = false := by simp; omega
                      have d2 : ((i : Int) == 2) = false := by simp; omega
                      have d3 : ((i : Int) == 3) = true := by simp; omega
                      clear hv
                      obtain ⟨x1, e1, f1⟩ := HPG.out.2.1.cell 4 (by omega)
                      go_wp2_with fail
                      go_meet
                      exact ⟨_, _, 3, c2, 2, 2, _, o4, rfl, rfl, rfl, by omega, by omega, Lib.hid (HPG.out.setP (by omega) _ _)⟩
                    by_cases hv : i = 4
                    · have d1 : ((i : Int) == 1) = false := by simp; omega
                      have d2 : ((i : Int) == 2) = false := by simp; omega
                      have d3 : ((i : Int) == 3) = false := by simp; omega
                      have d4 : ((i : Int) == 4) = true := by simp; omega
                      clear hv
                      obtain ⟨x1, e1, f1⟩ := HPG.out.2.1.cell 4 (by omega)
                      go_wp2_with fail
                      go_meet
                      exact ⟨_, _, 3, c2, 2, 2, _, o4, rfl, rfl, rfl, by omega, by omega, Lib.hid (HPG.out.setP (by omega) _ _)⟩
                    by_cases hv : i = 5
                    · have d1 : ((i : Int) == 1) = false := by simp; omega
                      have d2 : ((i : Int) == 2) = false := by simp; omega
                      have d3 : ((i : Int) == 3) = false := by simp; omega
                      have d4 : ((i : Int) == 4) = false := by simp; omega
                      have d5 : ((i : Int) == 5) = true := by simp; omega
                      clear hv
                      obtain ⟨x1, e1, f1⟩ := HPG.out.2.1.cell 1 (by omega)
                      go_wp2_with fail
                      go_meet
                      exact ⟨_, _, 3, c2, 2, 2, _, o4, rfl, rfl, rfl, by omega, by omega, Lib.hid (HPG.out.setP (by omega) _ _)⟩
                    by_cases hv : i = 6
                    · have d1 : ((i : Int) == 1) = false := by simp; omega
                      have d2 : ((i : Int) == 2) = false := by simp; omega
                      have d3 : ((i : Int) == 3) = false := by simp; omega
                      have d4 : ((i : Int) == 4) = false := by simp; omega
                      have d5 : ((i : Int) == 5) = false := by simp; omega
                      have d6 : ((i : Int) == 6) = true := by simp; omega
                      clear hv
                      obtain ⟨x1, e1, f1⟩ := HPG.out.2.1.cell 1 (by omega)
                      go_wp2_with fail
                      go_meet
                      exact ⟨_, _, 3, c2, 2, 2, _, o4, rfl, rfl, rfl, by omega, by omega, Lib.hid (HPG.out.setP (by omega) _ _)⟩
                    by_cases hv : i = 7
                    · have d1 : ((i : Int) == 1) = false := by simp; omega
                      have d2 : ((i : Int) == 2) = false := by simp; omega
                      have d3 : ((i : Int) == 3) = false := by simp; omega
                      have d4 : ((i : Int) == 4) = false := by simp; omega
                      have d5 : ((i : Int) == 5) = false := by simp; omega
                      have d6 : ((i : Int) == 6) = false := by simp; omega
                      have d7 : ((i : Int) == 7) = true := by simp; omega
                      clear hv
                      go_wp2_with fail
                      go_meet
                      exact ⟨_, _, 3, c2, 2, 2, _, o4, rfl, rfl, rfl, by omega, by omega, Lib.hid (HPG.out)⟩
                    by_cases hv : i = 8
                    · have d1 : ((i : Int) == 1) = false := by simp; omega
                      have d2 : ((i : Int) == 2) = false := by simp; omega
                      have d3 : ((i : Int) == 3) = false := by simp; omega
                      have d4 : ((i : Int) == 4) = false := by simp; omega
                      have d5 : ((i : Int) == 5) = false := by simp; omega
                      have d6 : ((i : Int) == 6) = false := by simp; omega
                      have d7 : ((i : Int) == 7) = false := by simp; omega
                      have d8 : ((i : Int) == 8) = true := by simp; omega
                      clear hv
                      go_wp2_with fail
                      go_meet
                      exact ⟨_, _, 3, c2, 2, 2, _, o4, rfl, rfl, rfl, by omega, by omega, Lib.hid (HPG.out)⟩
                    by_cases hv : i = 9
                    · have d1 : ((i : Int) == 1) = false := by simp; omega
                      have d2 : ((i : Int) == 2) = false := by simp; omega
                      have d3 : ((i : Int) == 3) = false := by simp; omega
                      have d4 : ((i : Int) == 4) = false := by simp; omega
                      have d5 : ((i : Int) == 5) = false := by simp; omega
                      have d6 : ((i : Int) == 6) = false := by simp; omega
                      have d7 : ((i : Int) == 7) = false := by simp; omega
                      have d8 : ((i : Int) == 8) = false := by simp; omega
                      have d9 : ((i : Int) == 9) = true := by simp; omega
                      clear hv
                      obtain ⟨x2, e2, f2⟩ := HPG.out.2.2.cell 4 (by omega)
                      go_wp2_with fail
                      go_meet
                      exact ⟨_, _, 3, c2, 2, 2, _, o4, rfl, rfl, rfl, by omega, by omega, Lib.hid (HPG.out.setG (by omega) _ _)⟩
                    by_cases hv : i = 10
                    · have d1 : ((i : Int) == 1) = false := by simp; omega
                      have d2 : ((i : Int) == 2) = false := by simp; omega
                      have d3 : ((i : Int) == 3) = false := by simp; omega
                      have d4 : ((i : Int) == 4) = false := by simp; omega
                      have d5 : ((i : Int) == 5) = false := by simp; omega
                      have d6 : ((i : Int) == 6) = false := by simp; omega
                      have d7 : ((i : Int) == 7) = false := by simp; omega
                      have d8 : ((i : Int) == 8) = false := by simp; omega
                      have d9 : ((i : Int) == 9) = false := by simp; omega
                      have d10 : ((i : Int) == 10) = true := by simp; omega
                      clear hv
                      obtain ⟨x2, e2, f2⟩ := HPG.out.2.2.cell 4 (by omega)
                      go_wp2_with fail
                      go_meet
                      exact ⟨_, _, 3, c2, 2, 2, _, o4, rfl, rfl, rfl, by omega, by omega, Lib.hid (HPG.out.setG (by omega) _ _)⟩
                    by_cases hv : i = 11
                    · have d1 : ((i : Int) == 1) = false := by simp; omega
                      have d2 : ((i : Int) == 2) = false := by simp; omega
                      have d3 : ((i : Int) == 3) = false := by simp; omega
                      have d4 : ((i : Int) == 4) = false := by simp; omega
                      have d5 : ((i : Int) == 5) = false := by simp; omega
                      have d6 : ((i : Int) == 6) = false := by simp; omega
                      have d7 : ((i : Int) == 7) = false := by simp; omega
                      have d8 : ((i : Int) == 8) = false := by simp; omega
                      have d9 : ((i : Int) == 9) = false := by simp; omega
                      have d10 : ((i : Int) == 10) = false := by simp; omega
                      have d11 : ((i : Int) == 11) = true := by simp; omega
                      clear hv
                      obtain ⟨x2, e2, f2⟩ := HPG.out.2.2.cell 0 (by omega)
                      go_wp2_with fail
                      go_meet
                      exact ⟨_, _, 3, c2, 2, 2, _, o4, rfl, rfl, rfl, by omega, by omega, Lib.hid (HPG.out.setG (by omega) _ _)⟩
                    by_cases hv : i = 12
                    · have d1 : ((i : Int) == 1) = false := by simp; omega
                      have d2 : ((i : Int) == 2) = false := by simp; omega
                      have d3 : ((i : Int) == 3) = false := by simp; omega
                      have d4 : ((i : Int) == 4) = false := by simp; omega
                      have d5 : ((i : Int) == 5) = false := by simp; omega
                      have d6 : ((i : Int) == 6) = false := by simp; omega
                      have d7 : ((i : Int) == 7) = false := by simp; omega
                      have d8 : ((i : Int) == 8) = false := by simp; omega
                      have d9 : ((i : Int) == 9) = false := by simp; omega
                      have d10 : ((i : Int) == 10) = false := by simp; omega
                      have d11 : ((i : Int) == 11) = false := by simp; omega
                      have d12 : ((i : Int) == 12) = true := by simp; omega
                      clear hv
                      obtain ⟨x2, e2, f2⟩ := HPG.out.2.2.cell 5 (by omega)
                      go_wp2_with fail
                      go_meet
                      exact ⟨_, _, 3, c2, 2, 2, _, o4, rfl, rfl, rfl, by omega, by omega, Lib.hid (HPG.out.setG (by omega) _ _)⟩
                    by_cases hv : i = 13
                    · have d1 : ((i : Int) == 1) = false := by simp; omega
                      have d2 : ((i : Int) == 2) = false := by simp; omega
                      have d3 : ((i : Int) == 3) = false := by simp; omega
                      have d4 : ((i : Int) == 4) = false := by simp; omega
                      have d5 : ((i : Int) == 5) = false := by simp; omega
                      have d6 : ((i : Int) == 6) = false := by simp; omega
                      have d7 : ((i : Int) == 7) = false := by simp; omega
                      have d8 : ((i : Int) == 8) = false := by simp; omega
                      have d9 : ((i : Int) == 9) = false := by simp; omega
                      have d10 : ((i : Int) == 10) = false := by simp; omega
                      have d11 : ((i : Int) == 11) = false := by simp; omega
                      have d12 : ((i : Int) == 12) = false := by simp; omega
                      have d13 : ((i : Int) == 13) = true := by simp; omega
                      clear hv
                      go_wp2_with fail
                      go_meet
                      exact ⟨_, none, 3, c2, 0, 0, _, o4, rfl, rfl, rfl, by omega, by omega, Lib.hid HPG.out.nilG⟩
                    by_cases hv : i = 14
                    · have d1 : ((i : Int) == 1) = false := by simp; omega
                      have d2 : ((i : Int) == 2) = false := by simp; omega
                      have d3 : ((i : Int) == 3) = false := by simp; omega
                      have d4 : ((i : Int) == 4) = false := by simp; omega
                      have d5 : ((i : Int) == 5) = false := by simp; omega
                      have d6 : ((i : Int) == 6) = false := by simp; omega
                      have d7 : ((i : Int) == 7) = false := by simp; omega
                      have d8 : ((i : Int) == 8) = false := by simp; omega
                      have d9 : ((i : Int) == 9) = false := by simp; omega
                      have d10 : ((i : Int) == 10) = false := by simp; omega
                      have d11 : ((i : Int) == 11) = false := by simp; omega
                      have d12 : ((i : Int) == 12) = false := by simp; omega
                      have d13 : ((i : Int) == 13) = false := by simp; omega
                      have d14 : ((i : Int) == 14) = true := by simp; omega
                      clear hv
                      go_wp2_with fail
                      go_meet
                      exact ⟨none, _, 0, 0, 2, 2, _, o4, rfl, rfl, rfl, by omega, by omega, Lib.hid HPG.out.nilP⟩
                    have hv : i = 15 := by omega
                    have d1 : ((i : Int) == 1) = false := by simp; omega
                    have d2 : ((i : Int) == 2) = false := by simp; omega
                    have d3 : ((i : Int) == 3) = false := by simp; omega
                    have d4 : ((i : Int) == 4) = false := by simp; omega
                    have d5 : ((i : Int) == 5) = false := by simp; omega
                    have d6 : ((i : Int) == 6) = false := by simp; omega
                    have d7 : ((i : Int) == 7) = false := by simp; omega
                    have d8 : ((i : Int) == 8) = false := by simp; omega
                    have d9 : ((i : Int) == 9) = false := by simp; omega
                    have d10 : ((i : Int) == 10) = false := by simp; omega
                    have d11 : ((i : Int) == 11) = false := by simp; omega
                    have d12 : ((i : Int) == 12) = false := by simp; omega
                    have d13 : ((i : Int) == 13) = false := by simp; omega
                    have d14 : ((i : Int) == 14) = false := by simp; omega
                    have d15 : ((i : Int) == 15) = true := by simp; omega
                    clear hv
                    obtain ⟨x1, e1, f1⟩ := HPG.out.2.1.cell 1 (by omega)
                    obtain ⟨x2, e2, f2⟩ := HPG.out.2.2.cell 5 (by omega)
                    have hne : gp ≠ gG := HNE.out
                    go_wp2_with fail
                    go_meet
                    exact ⟨_, _, 3, c2, 2, 2, _, o4, rfl, rfl, rfl, by omega, by omega, Lib.hid ((HPG.out.setP (by omega) _ _).setG (by omega) _ _)⟩
                  case rest => as_aux_lemma =>
                    obtain ⟨P, G, a, cp, b, cg, kk, o', rfl, rfl, rfl, ha, hb, HQ⟩ := hcut
                    clear HPG
                    go_wp2_with fail
                    refine (HQ.out.plays ha hb kk).mono ?_
                    rintro e w6 ⟨rfl, hb6⟩
                    have HI6 := Lib.hid (HQ.out.1.step ((Step.refl [] _ o').below hb6 5) (by simp))
                    clear hb6 HQ
                    go_wp2_with fail
                    go_roundw
                    case rel => exact ⟨i + 1, _, by omega, by go_num, HI6⟩
                    case measure => simp [intOf]; omega
                · have HB := Lib.hid (HI.out.1.to_below (by simp))
                  clear HI
                  go_wp2_with fail
                  go_ret
                  exact ⟨rfl, HB.out⟩
end Go.Proofs.Ytkceefheeicmbaa
