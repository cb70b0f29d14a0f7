/-
  WALK of Match.
-/
import Derived.Test.YtkceefheeicmbaaRatM
import Derived.Deep.RegionWith
namespace Go.Proofs.Ytkceefheeicmbaa
open Go.RowKit

/-- A list whose first k elements are already those of another list. -/
def mixL (xs ys : List Int) (k : Nat) : List Int := ys.take k ++ xs.drop k
theorem mix_zero (xs ys : List Int) : mixL xs ys 0 = xs := by simp [mixL]
theorem mix_all (xs ys : List Int) (h : xs.length = ys.length) : mixL xs ys ys.length = ys := by simp [mixL, h]
theorem mix_len (xs ys : List Int) (k : Nat) (h : xs.length = ys.length) : (mixL xs ys k).length = xs.length := by simp [mixL]; omega
theorem mix_get {xs ys : List Int} {k : Nat} {x : Int} (h : xs.length = ys.length) (hx : xs[k]? = some x) : (mixL xs ys k)[k]? = some x := by
  have hk := (List.getElem?_eq_some_iff.1 hx).1
  unfold mixL
  rw [List.getElem?_append_right (by simp; omega), List.length_take, Nat.min_eq_left (by omega), Nat.sub_self, List.getElem?_drop, Nat.add_zero, hx]
theorem mix_set {xs ys : List Int} {k : Nat} {y : Int} (h : xs.length = ys.length) (hy : ys[k]? = some y) : (mixL xs ys k).set k y = mixL xs ys (k + 1) := by
  have hk := (List.getElem?_eq_some_iff.1 hy).1
  have hxk : k < xs.length := by omega
  unfold mixL
  rw [List.set_append_right _ _ (by simp; omega), List.length_take, Nat.min_eq_left (by omega), Nat.sub_self, List.take_add_one, hy, List.drop_eq_getElem_cons hxk, List.set_cons_zero, List.append_assoc]
  rfl
theorem set_ints (xs : List Int) (k : Nat) (x : Int) : (ints xs).set k (.int .i64 x) = ints (xs.set k x) := by simp [ints, List.map_set]

theorem tdiv_bd (a : Int) (n : Nat) (h0 : -32000 ≤ a) (h1 : a ≤ 32000) : -32000 ≤ Int.tdiv a n ∧ Int.tdiv a n ≤ 32000 := by
  have h : (Int.tdiv a n).natAbs ≤ a.natAbs := by rw [Int.natAbs_tdiv]; exact Nat.div_le_self _ _
  omega

theorem teamOk_iff {xs ys : List Int} {s k : Int} : teamOk xs ys s k = true ↔ xs.length = ys.length ∧ 1 ≤ xs.length ∧ xs.length ≤ 8 ∧ xs.all inR = true ∧ ys.all inR = true ∧ isSc s = true ∧ isWt k = true := by
  unfold teamOk
  simp only [Bool.and_eq_true, decide_eq_true_eq, and_assoc]

def MatchTo (w : World) (xs ys : List Int) (s k : Int) (e : Ending) (w' : World) : Prop :=
  ∃ gx cx gy cy o', e = .returned (.tuple #[.slice (some ⟨gx, 0, none⟩) xs.length cx, .slice (some ⟨gy, 0, none⟩) xs.length cy, .int .i64 0]) ∧ Step [] w (fun _ => 0) w' o' ∧
    Row w' o' 30 3 1 (some ⟨gx, 0, none⟩) xs.length cx (ints (matchX xs ys s k)) ∧ Row w' o' 31 3 1 (some ⟨gy, 0, none⟩) xs.length cy (ints (matchY xs ys s k))

set_option maxRecDepth 100000 in
set_option maxHeartbeats 4000000 in
theorem Match_bad (w : World) (A B : Option Addr) (n c m d : Nat) (xs ys : List Int) (hS : Sl w (fun _ => 0) 0 1 A n c (ints xs)) (hT : Sl w (fun _ => 0) 0 1 B m d (ints ys)) (s k : Int) (hbad : teamOk xs ys s k = false) :
    Calls Try.prog 24 #[.slice A n c, .slice B m d, .int .i64 s, .int .i64 k] w fun e w' => e = .returned (.tuple #[.slice none 0 0, .slice none 0 0, .int .i64 2]) ∧ w' = w := by
  have hl1 : xs.length = n := by have := hS.1; rw [len_ints] at this; omega
  have hl2 : ys.length = m := by have := hT.1; rw [len_ints] at this; omega
  have hb : n ≤ 9223372036854775807 ∧ m ≤ 9223372036854775807 := by have h1 := hS.2.1; have h2 := hS.2.2.1; have h3 := hT.2.1; have h4 := hT.2.2.1; unfold maxLen at h2 h4; omega
  obtain ⟨hb1, hb2⟩ := hb
  obtain ⟨C, hC⟩ : ∃ C, C = !xs.all inR := ⟨_, rfl⟩
  obtain ⟨D, hD⟩ : ∃ D, D = !ys.all inR := ⟨_, rfl⟩
  obtain ⟨S, hSc⟩ : ∃ S, S = isSc s := ⟨_, rfl⟩
  obtain ⟨K, hK⟩ : ∃ K, K = isWt k := ⟨_, rfl⟩
  have h1 := contains_any w _ _ A n c xs hS C hC
  have h2 := contains_any w _ _ B m d ys hT D hD
  have h3 := fun W => isScore_any W s S hSc
  have h4 := fun W => isWeight_any W k K hK
  have hbad' : ¬ (n = m ∧ 1 ≤ n ∧ n ≤ 8 ∧ C = false ∧ D = false ∧ S = true ∧ K = true) := by
    rintro ⟨a1, a2, a3, a4, a5, a6, a7⟩
    rw [← Bool.not_eq_true, teamOk_iff, hl1, hl2, ← hSc, ← hK] at hbad
    exact hbad ⟨a1, a2, a3, by rw [a4] at hC; simpa using hC, by rw [a5] at hD; simpa using hD, a6, a7⟩
  have H1 := Lib.hid h1; have H2 := Lib.hid h2; have H3 := Lib.hid h3; have H4 := Lib.hid h4
  clear h1 h2 h3 h4 hC hD hSc hK hbad hS hT hl1 hl2
  by_cases b1 : n = m
  · have d1 : ((n : Int) != (m : Int)) = false := by simp [b1]
    by_cases b2 : n < 1
    · have d2 : decide ((n : Int) < 1) = true := by simp; omega
      clear hbad' b1 b2
      go_enter Try.func24, Try.ntmps24
      go_wp2_with fail
      go_ret3
      exact ⟨rfl, rfl⟩
    · have d2 : decide ((n : Int) < 1) = false := by simp; omega
      by_cases b3 : 8 < n
      · have d3 : decide (8 < (n : Int)) = true := by simp; omega
        clear hbad' b1 b2 b3
        go_enter Try.func24, Try.ntmps24
        go_wp2_with fail
        go_ret3
        exact ⟨rfl, rfl⟩
      · have d3 : decide (8 < (n : Int)) = false := by simp; omega
        cases C with
        | true =>
          clear hbad' b1 b2 b3
          go_enter Try.func24, Try.ntmps24
          go_wp2_with fail
          refine H1.out.mono ?_
          rintro e w1 ⟨rfl, rfl⟩
          go_wp2_with fail
          go_ret3
          exact ⟨rfl, rfl⟩
        | false =>
          cases D with
          | true =>
            clear hbad' b1 b2 b3
            go_enter Try.func24, Try.ntmps24
            go_wp2_with fail
            refine H1.out.mono ?_
            rintro e w1 ⟨rfl, rfl⟩
            go_wp2_with fail
            refine H2.out.mono ?_
            rintro e w1 ⟨rfl, rfl⟩
            go_wp2_with fail
            go_ret3
            exact ⟨rfl, rfl⟩
          | false =>
            cases S with
            | false =>
              clear hbad' b1 b2 b3
              go_enter Try.func24, Try.ntmps24
              go_wp2_with fail
              refine H1.out.mono ?_
              rintro e w1 ⟨rfl, rfl⟩
              go_wp2_with fail
              refine H2.out.mono ?_
              rintro e w1 ⟨rfl, rfl⟩
              go_wp2_with fail
              refine (H3.out _).mono ?_
              rintro e w1 ⟨rfl, rfl⟩
              go_wp2_with fail
              go_ret3
              exact ⟨rfl, rfl⟩
            | true =>
              cases K with
              | false =>
                clear hbad' b1 b2 b3
                go_enter Try.func24, Try.ntmps24
                go_wp2_with fail
                refine H1.out.mono ?_
                rintro e w1 ⟨rfl, rfl⟩
                go_wp2_with fail
                refine H2.out.mono ?_
                rintro e w1 ⟨rfl, rfl⟩
                go_wp2_with fail
                refine (H3.out _).mono ?_
                rintro e w1 ⟨rfl, rfl⟩
                go_wp2_with fail
                refine (H4.out _).mono ?_
                rintro e w1 ⟨rfl, rfl⟩
                go_wp2_with fail
                go_ret3
                exact ⟨rfl, rfl⟩
              | true => exact absurd ⟨b1, by omega, by omega, rfl, rfl, rfl, rfl⟩ hbad'
  · have d1 : ((n : Int) != (m : Int)) = true := by simp; omega
    clear hbad' b1
    go_enter Try.func24, Try.ntmps24
    go_wp2_with fail
    go_ret3
    exact ⟨rfl, rfl⟩

set_option maxRecDepth 100000 in
set_option maxHeartbeats 4000000 in
theorem Match_ok (w : World) (A B : Option Addr) (n c d : Nat) (xs ys : List Int) (hS : Sl w (fun _ => 0) 0 1 A n c (ints xs)) (hT : Sl w (fun _ => 0) 0 1 B n d (ints ys)) (s k : Int) (hok : teamOk xs ys s k = true) :
    Calls Try.prog 24 #[.slice A n c, .slice B n d, .int .i64 s, .int .i64 k] w (MatchTo w xs ys s k) := by
  have hl1 : xs.length = n := by have := hS.1; rw [len_ints] at this; omega
  have hl2 : ys.length = n := by have := hT.1; rw [len_ints] at this; omega
  obtain ⟨-, e2, e3, e4, e5, e6, e7⟩ := teamOk_iff.1 hok
  have hn1 : 1 ≤ n := by omega
  have hn8 : n ≤ 8 := by omega
  have h1 := contains_any w _ _ A n c xs hS false (by rw [e4]; rfl)
  have h2 := contains_any w _ _ B n d ys hT false (by rw [e5]; rfl)
  have h3 := fun W => isScore_any W s true e6.symm
  have h4 := fun W => isWeight_any W k true e7.symm
  have h5 := sum_any w _ _ A n c xs hS e4 (by omega)
  have h6 := sum_any w _ _ B n d ys hT e5 (by omega)
  have sx := sum_bd e4; have sy := sum_bd e5
  obtain ⟨a, ha⟩ : ∃ a, a = sumM xs := ⟨_, rfl⟩
  obtain ⟨b, hb⟩ : ∃ b, b = sumM ys := ⟨_, rfl⟩
  rw [← ha] at h5 sx
  rw [← hb] at h6 sy
  rw [hl1] at sx
  rw [hl2] at sy
  obtain ⟨a0, a1⟩ := sx; obtain ⟨b0, b1⟩ := sy
  have a1' : a ≤ 32000 := by omega
  have b1' : b ≤ 32000 := by omega
  obtain ⟨t, ht⟩ : ∃ t, t = Int.tdiv (a - b) (n : Int) := ⟨_, rfl⟩
  obtain ⟨t0, t1⟩ := tdiv_bd (a - b) n (by omega) (by omega)
  rw [← ht] at t0 t1
  obtain ⟨x, hx⟩ : ∃ x, x = teamX xs ys := ⟨_, rfl⟩
  have hxt : x = expM t := by rw [hx, ht, ha, hb, ← hl1]; rfl
  have hxb := expM_bd t
  rw [← hxt] at hxb
  obtain ⟨x0, x1⟩ := hxb
  have h7 := fun W => Expected_any W t x hxt (by omega) (by omega)
  have hs := isSc_iff.1 e6
  obtain ⟨k0, k1⟩ := isWt_iff.1 e7
  have hxs : ∀ (i : Nat) (u : Int), xs[i]? = some u → 0 ≤ u ∧ u ≤ 4000 := fun i u h => by
    rw [List.all_eq_true] at e4; exact inR_iff.1 (e4 u (List.mem_of_getElem? h))
  have hys : ∀ (i : Nat) (u : Int), ys[i]? = some u → 0 ≤ u ∧ u ≤ 4000 := fun i u h => by
    rw [List.all_eq_true] at e5; exact inR_iff.1 (e5 u (List.mem_of_getElem? h))
  have hd0 : ¬ (n : Int) = 0 := by omega
  have hn2 : ((n : Int) != (n : Int)) = false := by simp
  have hn3 : decide ((n : Int) < 1) = false := by simp; omega
  have hn4 : decide (8 < (n : Int)) = false := by simp; omega
  have H1 := Lib.hid h1; have H2 := Lib.hid h2; have H3 := Lib.hid h3; have H4 := Lib.hid h4; have H5 := Lib.hid h5; have H6 := Lib.hid h6; have H7 := Lib.hid h7
  have HS := Lib.hid hS; have HT := Lib.hid hT; have HL1 := Lib.hid hl1; have HL2 := Lib.hid hl2; have HX := Lib.hid hxs; have HY := Lib.hid hys; have HTX := Lib.hid hx; have HSC := Lib.hid hs
  have HTT := Lib.hid ht
  clear h1 h2 h3 h4 h5 h6 h7 hS hT hl1 hl2 hxs hys ha hb hx hxt e2 e3 e4 e5 e6 e7 hok ht hs
  go_enter Try.func24, Try.ntmps24
  go_wp2_with fail
  refine H1.out.mono ?_
  rintro e w1 ⟨rfl, rfl⟩
  go_wp2_with fail
  refine H2.out.mono ?_
  rintro e w1 ⟨rfl, rfl⟩
  go_wp2_with fail
  refine (H3.out _).mono ?_
  rintro e w1 ⟨rfl, rfl⟩
  go_wp2_with fail
  refine (H4.out _).mono ?_
  rintro e w1 ⟨rfl, rfl⟩
  go_wp2_with fail
  refine H5.out.mono ?_
  rintro e w1 ⟨rfl, rfl⟩
  go_wp2_with fail
  refine H6.out.mono ?_
  rintro e w1 ⟨rfl, rfl⟩
  go_wp2_with fail
  rw [← HTT.out]
  refine (H7.out _).mono ?_
  rintro e w2 ⟨rfl, hb2⟩
  have st2 := (Step.refl [] w1 (fun _ => 0)).below hb2 5
  obtain ⟨o2, ho2⟩ : ∃ o, o = ext (fun _ => 0) w1.heap.size 5 := ⟨_, rfl⟩
  rw [← ho2] at st2
  have HST2 := Lib.hid st2
  clear hb2 ho2 st2
  go_wp2_with fail
  refine (clone1 w2 o2 0 30 A n c (ints xs) (HS.out.step HST2.out (by simp)) (one_ints _) (by omega)).mono ?_
  rintro e w3 ⟨A3, c3, rfl, hr3, hb3, -⟩
  obtain ⟨gx, -, rfl, -⟩ := hr3.form (by omega)
  have st3 := HST2.out.below hb3 30
  obtain ⟨o3, ho3⟩ : ∃ o, o = ext o2 w2.heap.size 30 := ⟨_, rfl⟩
  rw [← ho3] at st3 hr3
  have HST3 := Lib.hid st3; have HR3 := Lib.hid hr3
  clear hb3 ho3 st3 hr3
  go_wp2_with fail
  refine (clone1 w3 o3 0 31 B n d (ints ys) (HT.out.step HST3.out (by simp)) (one_ints _) (by omega)).mono ?_
  rintro e w4 ⟨A4, c4, rfl, hr4, hb4, -⟩
  obtain ⟨gy, -, rfl, hoy, -⟩ := hr4.form (by omega)
  have st4 := HST3.out.below hb4 31
  have hr3 := HR3.out.step ((Step.refl [] w3 o3).below hb4 31) (by simp)
  obtain ⟨o4, ho4⟩ : ∃ o, o = ext o3 w3.heap.size 31 := ⟨_, rfl⟩
  rw [← ho4] at st4 hr3 hr4 hoy
  have hne : ¬ gx = gy := by
    intro h
    obtain ⟨g', -, hg', hox, -⟩ := hr3.form (by omega)
    injection hg' with hg'; injection hg' with hg'
    rw [← hg', h, hoy] at hox
    exact absurd hox (by decide)
  have hne2 : ¬ gy = gx := fun h => hne h.symm
  have HST4 := Lib.hid st4; have HRX := Lib.hid hr3; have HRY := Lib.hid hr4
  clear hb4 ho4 st4 hr3 hr4 HR3 HST2 HST3 hoy
  obtain ⟨X, hX⟩ : ∃ X, X = matchX xs ys s k := ⟨_, rfl⟩
  obtain ⟨Y, hY⟩ : ∃ Y, Y = matchY xs ys s k := ⟨_, rfl⟩
  have hlg := len_gains xs ys s k (by rw [HL1.out, HL2.out])
  have hlX : xs.length = X.length := by rw [hX]; unfold matchX; rw [List.length_zipWith, hlg]; omega
  have hlY : ys.length = Y.length := by rw [hY]; unfold matchY; rw [List.length_zipWith, hlg, HL1.out, HL2.out]; omega
  have hget : ∀ (i : Nat) (u v : Int), xs[i]? = some u → ys[i]? = some v → X[i]? = some (u + exchM u v s x k) ∧ Y[i]? = some (v - exchM u v s x k) := fun i u v h1 h2 => by
    have hg := gains_get s k h1 h2
    rw [← HTX.out] at hg
    rw [hX, hY]; unfold matchX matchY
    rw [List.getElem?_zipWith, List.getElem?_zipWith, h1, h2, hg]
    exact ⟨rfl, rfl⟩
  have HX2 := Lib.hid hX; have HY2 := Lib.hid hY; have HLX := Lib.hid hlX; have HLY := Lib.hid hlY; have HG := Lib.hid hget
  clear hX hY hlg hlX hlY hget
  go_wp2_with fail
  go_loopw [67, 15, 16] (fun s _ _ wr => ∃ (i : Nat), i ≤ n ∧ s = .int .i64 i ∧ Hid (Step [30, 31] w4 o4 wr o4 ∧ Row wr o4 30 3 1 (some ⟨gx, 0, none⟩) n c3 (ints (mixL xs X i)) ∧ Row wr o4 31 3 1 (some ⟨gy, 0, none⟩) n c4 (ints (mixL ys Y i)))) (fun s _ _ _ => n - (intOf s).toNat)
  case atStart => exact ⟨0, Nat.zero_le _, rfl, Lib.hid ⟨Step.refl _ _ _, by rw [mix_zero]; exact HRX.out, by rw [mix_zero]; exact HRY.out⟩⟩
  case round => as_aux_lemma =>
    obtain ⟨i, hi, rfl, HK⟩ := hrel
    by_cases hlt : i < n
    · obtain ⟨u, hu⟩ : ∃ u, xs[i]? = some u := ⟨_, List.getElem?_eq_getElem (by rw [HL1.out]; exact hlt)⟩
      obtain ⟨v, hv⟩ : ∃ v, ys[i]? = some v := ⟨_, List.getElem?_eq_getElem (by rw [HL2.out]; exact hlt)⟩
      obtain ⟨ga, offa, rfl, -, hga, ca⟩ := ((HS.out.step HST4.out (by simp)).step HK.out.1 (by decide)).int hu
      obtain ⟨gb, offb, rfl, -, hgb, cb⟩ := ((HT.out.step HST4.out (by simp)).step HK.out.1 (by decide)).int hv
      obtain ⟨cx, fx⟩ := HK.out.2.1.cellAt (ints_get (mix_get HLX.out hu))
      obtain ⟨cy, fy⟩ := HK.out.2.2.cellAt (ints_get (mix_get HLY.out hv))
      obtain ⟨g1, g2⟩ := HG.out i u v hu hv
      have hub := HX.out i u hu; have hvb := HY.out i v hv
      have hfair := exch_fair hub hvb ⟨k0, k1⟩ HSC.out ⟨x0, x1⟩
      obtain ⟨G, hG⟩ : ∃ G, G = exchM u v s x k := ⟨_, rfl⟩
      rw [← hG] at g1 g2 hfair
      have hex := fun W => exchange_any W u v s x k G hub hvb (by have := HSC.out; omega) (by omega) ⟨k0, k1⟩ hG
      have HEX := Lib.hid hex; have HG1 := Lib.hid g1; have HG2 := Lib.hid g2
      clear hex g1 g2 hG hu hv
      have hox : o4 gx = 30 := by obtain ⟨g', -, hg', h, -⟩ := HK.out.2.1.form (by omega); injection hg' with hg'; injection hg' with hg'; rw [hg']; exact h
      have hoy : o4 gy = 31 := by obtain ⟨g', -, hg', h, -⟩ := HK.out.2.2.form (by omega); injection hg' with hg'; injection hg' with hg'; rw [hg']; exact h
      have hfin : ∀ q, Step [30, 31] w4 o4 (((wr.drewN q).setCell ⟨gx, i, none⟩ (.int .i64 (u + G))).setCell ⟨gy, i, none⟩ (.int .i64 (v - G))) o4 ∧ Row (((wr.drewN q).setCell ⟨gx, i, none⟩ (.int .i64 (u + G))).setCell ⟨gy, i, none⟩ (.int .i64 (v - G))) o4 30 3 1 (some ⟨gx, 0, none⟩) n c3 (ints (mixL xs X (i + 1))) ∧ Row (((wr.drewN q).setCell ⟨gx, i, none⟩ (.int .i64 (u + G))).setCell ⟨gy, i, none⟩ (.int .i64 (v - G))) o4 31 3 1 (some ⟨gy, 0, none⟩) n c4 (ints (mixL ys Y (i + 1))) := by
        intro q
        refine ⟨((HK.out.1.drewN q).setCell (.inr (by rw [hox]; simp)) _).setCell (.inr (by rw [hoy]; simp)) _, ?_, ?_⟩
        · have := (HK.out.2.1.drewN q).set_ hlt (.int .i64 (u + G))
          rw [set_ints, mix_set HLX.out HG1.out] at this
          exact this.setCell_far (by intro ad ha; injection ha with ha; subst ha; exact hne) _
        · have := ((HK.out.2.2.drewN q).setCell_far (p := ⟨gx, i, none⟩) (by intro ad ha; injection ha with ha; subst ha; exact hne2) (.int .i64 (u + G))).set_ hlt (.int .i64 (v - G))
          rwa [set_ints, mix_set HLY.out HG2.out] at this
      have HFIN := Lib.hid hfin
      obtain ⟨-, q1, q2, q3, q4, -, -⟩ := hfair
      clear hfin hox hoy HK HS HT HG HG1 HG2 HST4 HRX HRY
      go_wp2_with fail
      go_quiet ((go_at_call 45; exact Calls.quiet_of_same (HEX.out _)))
      go_wp2_with fail
      go_roundw
      case rel => exact ⟨i + 1, by omega, by go_num, Lib.hid (HFIN.out _)⟩
      case measure => simp [intOf]; omega
    · obtain rfl : n = i := by omega
      have e1 : mixL xs X n = X := by have := mix_all xs X HLX.out; rwa [← HLX.out, HL1.out] at this
      have e2 : mixL ys Y n = Y := by have := mix_all ys Y HLY.out; rwa [← HLY.out, HL2.out] at this
      go_wp2_with fail
      go_ret3
      have hst := (HST4.out.nil (ts := [30, 31])).trans HK.out.1
      have k1 := HK.out.2.1; have k2 := HK.out.2.2
      rw [e1, HX2.out] at k1
      rw [e2, HY2.out] at k2
      rw [← HL1.out] at k1 k2
      exact ⟨gx, c3, gy, c4, o4, by rw [HL1.out]; rfl, hst.forget (fun t ht _ k hk => by simp at ht; rcases ht with rfl | rfl <;> simp), k1, k2⟩
end Go.Proofs.Ytkceefheeicmbaa
