/-
  WALKS of matches, RatingMatches.
-/
import Derived.Test.YtkceefheeicmbaaRatAE
import Derived.Test.YtkceefheeicmbaaRatAC
namespace Go.Proofs.Ytkceefheeicmbaa
open Go.RowKit Go.Sort

/-- LentInts behind other things: the row gets a tag of one's own choice. -/
theorem lent_at (W : World) (A : Option Addr) (n c : Nat) (xs : List Int) (hS : Sl W (fun _ => 0) 0 1 A n c (ints xs)) (hn : n ≤ 20) :
    Calls Try.prog 37 #[.slice A n c] W fun e w' => ∃ g d, e = .returned (.slice (some ⟨g, 0, none⟩) n d) ∧ Below W.heap.size W w' ∧ Sl w' (fun _ => 0) 0 1 (some ⟨g, 0, none⟩) (n + 12) d (ints (xs ++ mk1 12)) := by
  refine (LentInts_any W A n c xs hS hn).mono ?_
  rintro e w' ⟨g, d, o', he, hst, hr⟩
  exact ⟨g, d, he, hst.to_below (by simp), hr.sl.old0⟩
theorem Sl.short {w : World} {o : Own} {τ g n m c : Nat} {xs ys : List Int} (h : Sl w o τ 1 (some ⟨g, 0, none⟩) (n + m) c (ints (xs ++ ys))) (hl : xs.length = n) : Sl w o τ 1 (some ⟨g, 0, none⟩) n c (ints xs) := by
  obtain ⟨h1, h2, h3, h4⟩ := h
  refine ⟨by rw [len_ints]; omega, by omega, h3, fun hn => ?_⟩
  obtain ⟨g', off, e, ho, hg, hc⟩ := h4 (by omega)
  refine ⟨g', off, e, ho, hg, fun j u hj => hc j u ?_⟩
  have hjl := (List.getElem?_eq_some_iff.1 hj).1
  rw [show ints (xs ++ ys) = ints xs ++ ints ys by simp [ints], List.getElem?_append_left hjl]
  exact hj

set_option maxRecDepth 100000 in
set_option maxHeartbeats 4000000 in
theorem matches_any (w : World) (A B : Option Addr) (n c m d : Nat) (xs ys : List Int) (hS : Sl w (fun _ => 0) 0 1 A n c (ints xs)) (hT : Sl w (fun _ => 0) 0 1 B m d (ints ys)) (hn : n ≤ 20) (hm : m ≤ 20) (s k : Int) :
    Calls Try.prog 20 #[.slice A n c, .slice B m d, .int .i64 s, .int .i64 k] w (SaysTo w true) := by
  have hl1 : xs.length = n := by have := hS.1; rw [len_ints] at this; omega
  have hl2 : ys.length = m := by have := hT.1; rw [len_ints] at this; omega
  have HL1 := Lib.hid hl1; have HL2 := Lib.hid hl2; have HS := Lib.hid hS; have HT := Lib.hid hT
  clear hl1 hl2 hS hT
  go_enter Try.func20, Try.ntmps20
  go_wp2_with fail
  refine (lent_at _ A n c xs HS.out hn).mono ?_
  rintro e w1 ⟨g1, c1, rfl, hb1, hi1⟩
  have HB := Lib.hid hb1; have HI := Lib.hid hi1
  have HS1 := Lib.hid (HS.out.up hb1); have HT1 := Lib.hid (HT.out.up hb1)
  clear hb1 hi1 HS HT
  go_wp2_with fail
  refine (lent_at _ B m d ys HT1.out hm).mono ?_
  rintro e w2 ⟨g2, c2, rfl, hb2, hi2⟩
  have HI1 := Lib.hid (HI.out.up hb2); have HI2 := Lib.hid hi2; have HS2 := Lib.hid (HS1.out.up hb2); have HT2 := Lib.hid (HT1.out.up hb2); have HB2 := Lib.hid (below_then HB.out hb2)
  clear hb2 hi2 HI HS1 HT1 HB
  obtain ⟨ok, hok⟩ : ∃ ok, ok = teamOk xs ys s k := ⟨_, rfl⟩
  cases ok
  · have HOK := Lib.hid hok.symm
    clear hok
    go_wp2_with fail
    refine (Match_bad w2 _ _ n c1 m c2 xs ys (HI1.out.short HL1.out) (HI2.out.short HL2.out) s k HOK.out).mono ?_
    rintro e w3 ⟨rfl, h3⟩
    subst w3
    go_wp2_with fail
    refine (refMatch_bad w2 A B n c m d xs ys HS2.out HT2.out s k HOK.out).mono ?_
    rintro e w4 ⟨rfl, hb4⟩
    have HI3 := Lib.hid (HI1.out.up hb4); have HI4 := Lib.hid (HI2.out.up hb4); have HS4 := Lib.hid (HS2.out.up hb4); have HT4 := Lib.hid (HT2.out.up hb4); have HB4 := Lib.hid (below_then HB2.out hb4)
    clear hb4 HI1 HI2 HS2 HT2 HB2
    have hnil : ∀ W : World, Sl W (fun _ => 0) 0 1 none 0 0 (ints []) := fun W => Sl.nil_ _ _ _ _ _ _ (Nat.zero_le _)
    have hsame : ∀ W, Calls Try.prog 36 #[.slice none 0 0, .slice none 0 0] W (SameTo W true) := fun W => SameInts_any W _ _ _ _ none none 0 0 0 0 [] [] (hnil W) (hnil W)
    have HSM := Lib.hid hsame
    clear hnil hsame
    go_wp2_with fail
    refine (HSM.out _).mono ?_
    rintro e w5 ⟨rfl, q5, h5⟩
    go_wp2_with fail
    refine (HSM.out _).mono ?_
    rintro e w6 ⟨rfl, q6, h6⟩
    go_wp2_with fail
    refine (OverInts_nil _ (fun _ => 0) 50).mono ?_
    rintro e w7 ⟨rfl, h7⟩
    go_wp2_with fail
    refine (HSM.out _).mono ?_
    rintro e w8 ⟨rfl, q8, h8⟩
    have hb8 : Below w4.heap.size w4 w8 := by
      have s7 := h7.forget (ts' := []) (fun t ht _ k _ => by simp at ht; subst ht; simp)
      have b7 := s7.to_below (by simp)
      rw [h8]
      refine below_then ?_ (below_drewN' _ _)
      exact below_then (below_drewN' w4 (q5 + q6)) b7
    have HI5 := Lib.hid (HI3.out.up hb8); have HI6 := Lib.hid (HI4.out.up hb8); have HS8 := Lib.hid (HS4.out.up hb8); have HT8 := Lib.hid (HT4.out.up hb8); have HB8 := Lib.hid (below_then HB4.out hb8)
    clear h5 h6 h7 h8 hb8 HI3 HI4 HS4 HT4 HB4
    go_wp2_with fail
    refine (KeptInts_any w8 g1 c1 A n c xs HI5.out HS8.out hn).mono ?_
    rintro e w9 ⟨rfl, q9, h9⟩
    have hb9 : Below w8.heap.size w8 w9 := by rw [h9]; exact below_drewN' _ _
    have HI7 := Lib.hid (HI6.out.up hb9); have HT9 := Lib.hid (HT8.out.up hb9); have HB9 := Lib.hid (below_then HB8.out hb9)
    clear h9 hb9 HI5 HI6 HS8 HT8 HB8
    go_wp2_with fail
    refine (KeptInts_any w9 g2 c2 B m d ys HI7.out HT9.out hm).mono ?_
    rintro e w10 ⟨rfl, q10, h10⟩
    have hb10 : Below w9.heap.size w9 w10 := by rw [h10]; exact below_drewN' _ _
    have HB10 := Lib.hid (below_then HB9.out hb10)
    clear h10 hb10 HB9
    go_wp2_with fail
    go_ret
    exact ⟨rfl, HB10.out⟩
  · have HOK := Lib.hid hok.symm
    clear hok
    have hnm : n = m := by have := (teamOk_iff.1 HOK.out).1; have := HL1.out; have := HL2.out; omega
    have hn0 : 0 < n := by have := (teamOk_iff.1 HOK.out).2.1; have := HL1.out; omega
    subst hnm
    go_wp2_with fail
    refine (Match_ok w2 _ _ n c1 c2 xs ys (HI1.out.short HL1.out) (HI2.out.short HL2.out) s k HOK.out).mono ?_
    rintro e w3 ⟨gx, cx, gy, cy, o3, rfl, hst3, hrx, hry⟩
    obtain ⟨X, hX⟩ : ∃ X, X = matchX xs ys s k := ⟨_, rfl⟩
    obtain ⟨Y, hY⟩ : ∃ Y, Y = matchY xs ys s k := ⟨_, rfl⟩
    rw [← hX] at hrx
    rw [← hY] at hry
    rw [HL1.out] at hrx hry ⊢
    have hb3 := hst3.to_below (by simp)
    have href := refMatch_ok w3 A B n c d xs ys (HS2.out.up hb3) (HT2.out.up hb3) s k HOK.out
    have HST3 := Lib.hid hst3; have HRX := Lib.hid hrx; have HRY := Lib.hid hry; have HREF := Lib.hid href; have HX := Lib.hid hX; have HY := Lib.hid hY
    clear hst3 hrx hry hb3 href hX hY
    go_wp2_with fail
    refine HREF.out.mono ?_
    rintro e w4 ⟨Av, cv, Aw, cw, o4, rfl, hst4, hrv, hrw⟩
    rw [← HX.out] at hrv
    rw [← HY.out] at hrw
    rw [HL1.out] at hrv hrw ⊢
    obtain ⟨om, hom⟩ : ∃ o, o = mix o3 w3.heap.size o4 := ⟨_, rfl⟩
    have st4 := hst4.mixed o3
    have rv := hrv.mixed hst4 o3 (by decide)
    have rw' := hrw.mixed hst4 o3 (by decide)
    rw [← hom] at st4 rv rw'
    have HST4 := Lib.hid (HST3.out.trans st4)
    have HRX4 := Lib.hid (HRX.out.step st4 (by simp)); have HRY4 := Lib.hid (HRY.out.step st4 (by simp)); have HRV := Lib.hid rv; have HRW := Lib.hid rw'
    clear hst4 hrv hrw hom st4 rv rw' HST3 HRX HRY HREF
    have hsx : ∀ W : World, ∀ q, W = w4.drewN q → Calls Try.prog 36 #[.slice (some ⟨gx, 0, none⟩) n cx, .slice Av n cv] W (SameTo W true) := fun W q e => by
      subst e
      have := SameInts_any (w4.drewN q) om om 30 36 (some ⟨gx, 0, none⟩) Av n cx n cv X X (HRX4.out.drewN q).sl (HRV.out.drewN q).sl
      rwa [decide_eq_true rfl] at this
    have hsy : ∀ W : World, ∀ q, W = w4.drewN q → Calls Try.prog 36 #[.slice (some ⟨gy, 0, none⟩) n cy, .slice Aw n cw] W (SameTo W true) := fun W q e => by
      subst e
      have := SameInts_any (w4.drewN q) om om 31 37 (some ⟨gy, 0, none⟩) Aw n cy n cw Y Y (HRY4.out.drewN q).sl (HRW.out.drewN q).sl
      rwa [decide_eq_true rfl] at this
    have HSX := Lib.hid hsx; have HSY := Lib.hid hsy
    clear hsx hsy
    go_wp2_with fail
    refine (HSX.out _ 0 rfl).mono ?_
    rintro e w5 ⟨rfl, q5, h5⟩
    go_wp2_with fail
    refine (HSY.out (w4.drewN q5) q5 rfl).mono ?_
    rintro e w6 ⟨rfl, q6, h6⟩
    have h6' : w6 = w4.drewN (q5 + q6) := by rw [h6, World.drewN_drewN]
    have HST6 := Lib.hid (show Step [] w2 (fun _ => 0) w6 om by rw [h6']; exact HST4.out.drewN _)
    have HRX6 := Lib.hid (show Row w6 om 30 3 1 (some ⟨gx, 0, none⟩) n cx (ints X) by rw [h6']; exact HRX4.out.drewN _)
    have HRY6 := Lib.hid (show Row w6 om 31 3 1 (some ⟨gy, 0, none⟩) n cy (ints Y) by rw [h6']; exact HRY4.out.drewN _)
    have HRW6 := Lib.hid (show Row w6 om 37 3 1 Aw n cw (ints Y) by rw [h6']; exact HRW.out.drewN _)
    clear h5 h6 h6' HST4 HRX4 HRY4 HRV HRW HSX HSY
    go_wp2_with fail
    refine (OverInts_row w6 om 30 gx n cx (ints X) HRX6.out hn0 (by omega)).mono ?_
    rintro e w7 ⟨rfl, h7⟩
    have hsame := SameInts_any w7 om om 31 37 (some ⟨gy, 0, none⟩) Aw n cy n cw Y Y (HRY6.out.step h7 (by decide)).sl (HRW6.out.step h7 (by decide)).sl
    rw [decide_eq_true rfl] at hsame
    have hb7 : Below w2.heap.size w2 w7 := (((HST6.out.nil (ts := [30])).trans h7).forget (ts' := []) (fun t ht _ k _ => by simp at ht; subst ht; simp)).to_below (by simp)
    have HI3 := Lib.hid (HI1.out.up hb7); have HI4 := Lib.hid (HI2.out.up hb7); have HS4 := Lib.hid (HS2.out.up hb7); have HT4 := Lib.hid (HT2.out.up hb7); have HB4 := Lib.hid (below_then HB2.out hb7); have HSAME := Lib.hid hsame
    clear h7 hsame hb7 HI1 HI2 HS2 HT2 HB2 HST6 HRX6 HRY6 HRW6
    go_wp2_with fail
    refine HSAME.out.mono ?_
    rintro e w8 ⟨rfl, q8, h8⟩
    have hb8 : Below w7.heap.size w7 w8 := by rw [h8]; exact below_drewN' _ _
    have HI5 := Lib.hid (HI3.out.up hb8); have HI6 := Lib.hid (HI4.out.up hb8); have HS8 := Lib.hid (HS4.out.up hb8); have HT8 := Lib.hid (HT4.out.up hb8); have HB8 := Lib.hid (below_then HB4.out hb8)
    clear h8 hb8 HI3 HI4 HS4 HT4 HB4 HSAME
    go_wp2_with fail
    refine (KeptInts_any w8 g1 c1 A n c xs HI5.out HS8.out hn).mono ?_
    rintro e w9 ⟨rfl, q9, h9⟩
    have hb9 : Below w8.heap.size w8 w9 := by rw [h9]; exact below_drewN' _ _
    have HI7 := Lib.hid (HI6.out.up hb9); have HT9 := Lib.hid (HT8.out.up hb9); have HB9 := Lib.hid (below_then HB8.out hb9)
    clear h9 hb9 HI5 HI6 HS8 HT8 HB8
    go_wp2_with fail
    refine (KeptInts_any w9 g2 c2 B n d ys HI7.out HT9.out hm).mono ?_
    rintro e w10 ⟨rfl, q10, h10⟩
    have hb10 : Below w9.heap.size w9 w10 := by rw [h10]; exact below_drewN' _ _
    have HB10 := Lib.hid (below_then HB9.out hb10)
    clear h10 hb10 HB9
    go_wp2_with fail
    go_ret
    exact ⟨rfl, HB10.out⟩

set_option maxRecDepth 100000 in
set_option maxHeartbeats 2000000 in
theorem RatingMatches_walk (w : World) (A B : Option Addr) (n c m d : Nat) (xs ys : List Int) (hS : Sl w (fun _ => 0) 0 1 A n c (ints xs)) (hT : Sl w (fun _ => 0) 0 1 B m d (ints ys)) (s k : Int) :
    Calls Try.prog 4 #[.slice A n c, .slice B m d, .int .i64 s, .int .i64 k] w (SaysTo w true) := by
  have hb : n ≤ 9223372036854775807 ∧ m ≤ 9223372036854775807 := by have h1 := hS.2.1; have h2 := hS.2.2.1; have h3 := hT.2.1; have h4 := hT.2.2.1; unfold maxLen at h2 h4; omega
  obtain ⟨hb1, hb2⟩ := hb
  have HS := Lib.hid hS; have HT := Lib.hid hT
  clear hS hT
  have h1 := fun (a : n ≤ 20) (b : m ≤ 20) => matches_any w A B n c m d xs ys HS.out HT.out a b s k
  have H1 := Lib.hid h1
  clear h1
  by_cases c1 : 20 < n
  · have d1 : decide (20 < (n : Int)) = true := by simp; omega
    go_enter Try.func4, Try.ntmps4
    go_wp2_with fail
    refine (awake_any _).mono ?_
    rintro e w1 ⟨rfl, hb⟩
    go_wp2_with fail
    go_ret
    exact ⟨rfl, hb⟩
  · have d1 : decide (20 < (n : Int)) = false := by simp; omega
    by_cases c2 : 20 < m
    · have d2 : decide (20 < (m : Int)) = true := by simp; omega
      go_enter Try.func4, Try.ntmps4
      go_wp2_with fail
      refine (awake_any _).mono ?_
      rintro e w1 ⟨rfl, hb⟩
      go_wp2_with fail
      go_ret
      exact ⟨rfl, hb⟩
    · have d2 : decide (20 < (m : Int)) = false := by simp; omega
      have H2 := Lib.hid (H1.out (by omega) (by omega))
      clear H1
      go_enter Try.func4, Try.ntmps4
      go_wp2_with fail
      refine H2.out.mono ?_
      rintro e w1 ⟨rfl, hb⟩
      have HB := Lib.hid hb; clear hb
      go_wp2_with fail
      refine (awake_any _).mono ?_
      rintro e w2 ⟨rfl, hb2⟩
      have HB2 := Lib.hid (below_then HB.out hb2); clear hb2
      go_wp2_with fail
      go_ret
      exact ⟨rfl, HB2.out⟩
end Go.Proofs.Ytkceefheeicmbaa
