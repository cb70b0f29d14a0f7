/-
  WALK of BudgetWeights.
-/
import Derived.Test.YtkiknbjokknemaaBudT
namespace Go.Proofs.Ytkiknbjokknemaa
open Go.RowKit

theorem distI_comm (a b c d : Int) : distI a b c d = distI c d a b := by unfold distI; split <;> split <;> split <;> split <;> omega
theorem weightI_bd {d : Int} (h : 0 ≤ d) : 1 ≤ weightI d ∧ weightI d ≤ 16 ∧ (16384 ≤ d → weightI d = 1) := by unfold weightI; omega

theorem neg_lt_tmod (x : Int) {m : Int} (h : 0 < m) : -m < x.tmod m := by
  have h1 := Int.tmod_lt_of_pos (-x) h
  rw [Int.neg_tmod] at h1
  omega

set_option maxHeartbeats 400000 in
theorem in_any (w : World) (x : Int) (h0 : -9223372036854775808 ≤ x) (h1 : x ≤ 9223372036854775807) : Calls Try.prog 24 #[.int .i64 x] w fun e w' => e = .returned (.int .i64 (x.tmod 1099511627776)) ∧ w = w' := by
  have h2 := Int.tmod_lt_of_pos x (show (0 : Int) < 1099511627776 by decide)
  have h3 := neg_lt_tmod x (show (0 : Int) < 1099511627776 by decide)
  go_enter Try.func24, Try.ntmps24
  go_wp2_with fail
  go_ret
  exact ⟨rfl, rfl⟩

set_option maxRecDepth 100000 in
set_option maxHeartbeats 1000000 in
theorem BudgetWeights_walk (w : World) (x y u v : Int) (hx : -9223372036854775808 ≤ x ∧ x ≤ 9223372036854775807) (hy : -9223372036854775808 ≤ y ∧ y ≤ 9223372036854775807) (hu : -9223372036854775808 ≤ u ∧ u ≤ 9223372036854775807) (hv : -9223372036854775808 ≤ v ∧ v ≤ 9223372036854775807) (far : Int) (hf0 : 0 ≤ far) (hf1 : far ≤ 65535) :
    Calls Try.prog 9 #[.int .i64 x, .int .i64 y, .int .i64 u, .int .i64 v, .int .u16 far] w (SaysTo w true) := by
  have bx := Int.tmod_lt_of_pos x (show (0 : Int) < 1099511627776 by decide)
  have bx' := neg_lt_tmod x (show (0 : Int) < 1099511627776 by decide)
  have by_ := Int.tmod_lt_of_pos y (show (0 : Int) < 1099511627776 by decide)
  have by' := neg_lt_tmod y (show (0 : Int) < 1099511627776 by decide)
  have bu := Int.tmod_lt_of_pos u (show (0 : Int) < 1099511627776 by decide)
  have bu' := neg_lt_tmod u (show (0 : Int) < 1099511627776 by decide)
  have bv := Int.tmod_lt_of_pos v (show (0 : Int) < 1099511627776 by decide)
  have bv' := neg_lt_tmod v (show (0 : Int) < 1099511627776 by decide)
  have cx := fun W => in_any W x hx.1 hx.2
  have cy := fun W => in_any W y hy.1 hy.2
  have cu := fun W => in_any W u hu.1 hu.2
  have cv := fun W => in_any W v hv.1 hv.2
  obtain ⟨a, ha⟩ : ∃ a, a = x.tmod 1099511627776 := ⟨_, rfl⟩
  obtain ⟨b, hb⟩ : ∃ b, b = y.tmod 1099511627776 := ⟨_, rfl⟩
  obtain ⟨c, hc⟩ : ∃ c, c = u.tmod 1099511627776 := ⟨_, rfl⟩
  obtain ⟨d, hd⟩ : ∃ d, d = v.tmod 1099511627776 := ⟨_, rfl⟩
  rw [← ha] at cx bx bx'
  rw [← hb] at cy by_ by'
  rw [← hc] at cu bu bu'
  rw [← hd] at cv bv bv'
  have w1 := fun W => Weight_any W a b c d (by omega) (by omega) (by omega) (by omega)
  have w2 := fun W => Weight_any W c d a b (by omega) (by omega) (by omega) (by omega)
  rw [distI_comm c d a b] at w2
  have hD0 : 0 ≤ distI a b c d := by unfold distI; omega
  have hDm : distI a b c d = max (max (max (a - c) (c - a)) (b - d)) (d - b) := by unfold distI; split <;> split <;> omega
  obtain ⟨D, hD⟩ : ∃ D, D = distI a b c d := ⟨_, rfl⟩
  rw [← hD] at w1 w2 hD0 hDm
  obtain ⟨hW1, hW2, hW3⟩ := weightI_bd hD0
  obtain ⟨n, hn⟩ : ∃ n, n = far.tmod 16384 := ⟨_, rfl⟩
  have hn0 : 0 ≤ n := by rw [hn]; exact Int.tmod_nonneg _ hf0
  have hn1 : n < 16384 := by rw [hn]; exact Int.tmod_lt_of_pos _ (by decide)
  have w3 := fun W => Weight_any W a b (a + n) b (by omega) (by omega) (by omega) (by omega)
  have w4 := fun W => Weight_any W a b a (b - n - 1) (by omega) (by omega) (by omega) (by omega)
  have e3 : distI a b (a + n) b = n := by unfold distI; split <;> split <;> omega
  have e4 : distI a b a (b - n - 1) = n + 1 := by unfold distI; split <;> split <;> omega
  rw [e3] at w3
  rw [e4] at w4
  obtain ⟨V, hV⟩ : ∃ V, V = weightI D := ⟨_, rfl⟩
  obtain ⟨p, hp⟩ : ∃ p, p = weightI n := ⟨_, rfl⟩
  obtain ⟨q, hq⟩ : ∃ q, q = weightI (n + 1) := ⟨_, rfl⟩
  have f1 : q ≤ p := by rw [hp, hq]; unfold weightI; omega
  have f2 : 15 * n ≤ 16384 * (16 - p) := by rw [hp]; unfold weightI; omega
  have f3 : 16384 * (16 - p) < 15 * n + 16384 := by rw [hp]; unfold weightI; omega
  have f4 : 1 ≤ p ∧ p ≤ 16 := by rw [hp]; unfold weightI; omega
  have hmax := fun W => run_max4 (P := Try.prog) W #[3, 3, 3, 3] 3 (a - c) (c - a) (b - d) (d - b) D hDm
  rw [← hV] at w1 w2 hW1 hW2 hW3
  rw [← hp] at w3
  rw [← hq] at w4
  obtain ⟨f41, f42⟩ := f4
  have CX := Lib.hid cx; have CY := Lib.hid cy; have CU := Lib.hid cu; have CV := Lib.hid cv; have C1 := Lib.hid w1; have C2 := Lib.hid w2; have C3 := Lib.hid w3; have C4 := Lib.hid w4
  have hn2 : far.tmod 16384 = n := hn.symm
  have hW3' : (16384 ≤ D ∧ V = 1) ∨ D < 16384 := by
    by_cases h : 16384 ≤ D
    · exact .inl ⟨h, hW3 h⟩
    · exact .inr (by omega)
  have hr1 : IntKind.i64.wrap (a + n) = a + n := by rw [IntKind.wrap_i64]; omega
  have hr2 : IntKind.i64.wrap (b - n) = b - n := by rw [IntKind.wrap_i64]; omega
  have hr3 : IntKind.i64.wrap (b - n - 1) = b - n - 1 := by rw [IntKind.wrap_i64]; omega
  clear cx cy cu cv w1 w2 w3 w4 hn ha hb hc hd hD hV hp hq e3 e4 hDm hx hy hu hv hW3
  go_enter Try.func9, Try.ntmps9
  go_wp2_with fail
  refine (awake_any w).mono ?_
  rintro e w1 ⟨rfl, hb1⟩
  have HB1 := Lib.hid hb1
  clear hb1
  go_wp2_with (first
    | (go_at_call 24; ((with_reducible refine (CX.out _).mono ?_); rintro e w' ⟨rfl, rfl⟩))
    | (go_at_call 24; ((with_reducible refine (CY.out _).mono ?_); rintro e w' ⟨rfl, rfl⟩))
    | (go_at_call 24; ((with_reducible refine (CU.out _).mono ?_); rintro e w' ⟨rfl, rfl⟩))
    | (go_at_call 24; ((with_reducible refine (CV.out _).mono ?_); rintro e w' ⟨rfl, rfl⟩)))
  have hX : ∃ X, X = (w1.alloc (.cells #[.int .i64 a, .int .i64 b] 23)).alloc (.cells #[.int .i64 c, .int .i64 d] 23) := ⟨_, rfl⟩
  obtain ⟨X, hX⟩ := hX
  have k1 := (Blk.new w1 23 #[.int .i64 a, .int .i64 b]).alloc (.cells #[.int .i64 c, .int .i64 d] 23)
  have k2 := Blk.new (w1.alloc (.cells #[.int .i64 a, .int .i64 b] 23)) 23 #[.int .i64 c, .int .i64 d]
  rw [← hX] at k1 k2 ⊢
  rw [World.size_alloc] at k2
  have hbX : Below w.heap.size w X := by rw [hX]; exact (HB1.out.alloc HB1.out.size _).alloc (by rw [World.size_alloc]; have := HB1.out.size; omega) _
  obtain ⟨g, hg⟩ : ∃ g, g = w1.heap.size := ⟨_, rfl⟩
  rw [← hg] at k1 k2 ⊢
  have K1 := Lib.hid k1; have K2 := Lib.hid k2; have HBX := Lib.hid hbX
  have cells : ∀ W, Below X.heap.size X W → W.cell? ⟨g, 0, none⟩ = some (.int .i64 a) ∧ W.cell? ⟨g, 1, none⟩ = some (.int .i64 b) ∧ W.cell? ⟨g + 1, 0, none⟩ = some (.int .i64 c) ∧ W.cell? ⟨g + 1, 1, none⟩ = some (.int .i64 d) := fun W h =>
    ⟨(k1.below h k1.lt).cell 0, (k1.below h k1.lt).cell 1, (k2.below h k2.lt).cell 0, (k2.below h k2.lt).cell 1⟩
  have CE := Lib.hid cells
  clear cells k1 k2 hbX hg hX HB1
  refine (C1.out X).mono ?_
  rintro e w2 ⟨rfl, hb2⟩
  obtain ⟨c0, c1, d0, d1⟩ := CE.out w2 hb2
  have HB2 := Lib.hid hb2
  clear hb2
  go_wp2_with fail
  refine (C2.out w2).mono ?_
  rintro e w3 ⟨rfl, hb3⟩
  have hb3 := HB2.out.trans (hb3.mono HB2.out.size)
  obtain ⟨e0, e1, m0, m1⟩ := CE.out w3 hb3
  have HB3 := Lib.hid hb3
  have C5 := Lib.hid (CE.out w3.drew hb3.drew)
  clear hb3 c0 c1 d0 d1 HB2 CX CY CU CV C1 C2
  rcases hW3' with ⟨hDl, rfl⟩ | hDl
  all_goals
    go_wp2_with fail
    go_region_held3 (fun w' => w'.cell? ⟨g, 0, none⟩ = some (.int .i64 a) ∧ w'.cell? ⟨g, 1, none⟩ = some (.int .i64 b) ∧ w'.cell? ⟨g + 1, 0, none⟩ = some (.int .i64 c) ∧ w'.cell? ⟨g + 1, 1, none⟩ = some (.int .i64 d))
      (first | exact C5.out | exact C6.out | exact C7.out)
      (first
        | (go_at_call 13; ((with_reducible refine (C3.out _).mono ?_)); rintro e w4 ⟨rfl, hb4⟩; have hb4 := HB3.out.trans ((below_undrew hb4).mono HB3.out.size); have C6 := Lib.hid (CE.out w4 hb4); have HB4 := Lib.hid hb4; clear hb4)
        | (go_at_call 13; ((with_reducible refine (C4.out _).mono ?_)); rintro e w5 ⟨rfl, hb5⟩; have hb5 := HB4.out.trans (hb5.mono HB4.out.size); have C7 := Lib.hid (CE.out w5 hb5); have HB5 := Lib.hid hb5; clear hb5))
    go_wp2_with fail
    go_ret
    exact ⟨rfl, HBX.out.trans (HB5.out.mono HBX.out.size)⟩
end Go.Proofs.Ytkiknbjokknemaa
