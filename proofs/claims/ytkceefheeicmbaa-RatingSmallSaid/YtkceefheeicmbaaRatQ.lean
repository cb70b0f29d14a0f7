/-
  WALKS of slices.Compare, less, the closures of Pairs, ContainsFunc of tickets.
-/
import Derived.Test.YtkceefheeicmbaaRatO
import Derived.Test.YtkceefheeicmbaaRatB
import Derived.Test.YtkceefheeicmbaaKitE
import Derived.Sort.Grow
import Derived.Deep.RegionHeld3
namespace Go.Proofs.Ytkceefheeicmbaa
open Go.RowKit

def SaysTo (w : World) (b : Bool) (e : Ending) (w' : World) : Prop := e = .returned (.bool b) ∧ Below w.heap.size w w'
def ordI (a b : Int) : Int := if a < b then -1 else if b < a then 1 else 0

set_option maxHeartbeats 400000 in
theorem Compare_any (w : World) (a b R : Int) (hR : R = ordI a b) : Calls Try.prog 62 #[.int .i64 a, .int .i64 b] w (Just w (.int .i64 R)) := by
  have HR := Lib.hid hR; clear hR
  have na : (a != a) = false := by simp
  have nb : (b != b) = false := by simp
  rcases Int.lt_trichotomy a b with h | h | h
  · have hv := Lib.hid (show R = -1 by rw [HR.out, ordI, if_pos h])
    go_enter Try.func62, Try.ntmps62
    go_wp2
    go_ret
    exact ⟨by rw [hv.out]; rfl, rfl⟩
  · subst h
    have hv := Lib.hid (show R = 0 by rw [HR.out, ordI, if_neg (by omega), if_neg (by omega)])
    go_enter Try.func62, Try.ntmps62
    go_wp2
    go_ret
    exact ⟨by rw [hv.out]; rfl, rfl⟩
  · have hv := Lib.hid (show R = 1 by rw [HR.out, ordI, if_neg (by omega), if_pos h])
    go_enter Try.func62, Try.ntmps62
    go_wp2
    go_ret
    exact ⟨by rw [hv.out]; rfl, rfl⟩

set_option maxHeartbeats 800000 in
theorem cmpS_any (w : World) (ga gb n : Nat) (xs ys : List Int) (hl : xs.length = n) (hm : ys.length = n) (hn : n ≤ 64) (hx : ∀ (i : Nat) x, xs[i]? = some x → w.cell? ⟨ga, i, none⟩ = some (.int .i64 x)) (hy : ∀ (i : Nat) x, ys[i]? = some x → w.cell? ⟨gb, i, none⟩ = some (.int .i64 x)) (R : Int) (hR : R = cmpL xs ys) :
    Calls Try.prog 76 #[.slice (some ⟨ga, 0, none⟩) n n, .slice (some ⟨gb, 0, none⟩) n n] w (Just w (.int .i64 R)) := by
  have HX := Lib.hid hx; have HY := Lib.hid hy; have HR := Lib.hid hR; have HL := Lib.hid hl; have HM := Lib.hid hm
  clear hx hy hR hl hm
  go_enter Try.func76, Try.ntmps76
  go_wp2_with fail
  go_loopw [11, 5, 6, 7, 8] (fun s _ _ _ _ wr => ∃ k : Nat, k ≤ n ∧ s = .int .i64 k ∧ wr = w ∧ Hid (R = cmpL (xs.drop k) (ys.drop k))) (fun s _ _ _ _ _ => n - (intOf s).toNat)
  case atStart => exact ⟨0, Nat.zero_le _, rfl, rfl, Lib.hid (by simpa using HR.out)⟩
  case round =>
    obtain ⟨k, hk, rfl, rfl, HK⟩ := hrel
    by_cases hlt : k < n
    · obtain ⟨x, hx⟩ : ∃ x, xs[k]? = some x := ⟨_, List.getElem?_eq_getElem (by rw [HL.out]; exact hlt)⟩
      obtain ⟨y, hy⟩ : ∃ y, ys[k]? = some y := ⟨_, List.getElem?_eq_getElem (by rw [HM.out]; exact hlt)⟩
      have cx := HX.out k x hx; have cy := HY.out k y hy
      have hst := HK.out
      rw [cmpL_drop hx hy] at hst
      have hge : decide ((n : Int) ≤ (k : Int)) = false := by simp; omega
      clear hx hy
      rcases Int.lt_trichotomy x y with h | h | h
      · rw [if_pos h] at hst
        have hc := fun W => Compare_any W x y (-1) (by rw [ordI, if_pos h])
        have HC := Lib.hid hc; have HST := Lib.hid hst
        clear hc hst h
        go_wp2_with (go_at_call 62; refine (HC.out _).mono ?_; rintro e w1 ⟨rfl, rfl⟩)
        go_ret
        exact ⟨by rw [HST.out]; rfl, rfl⟩
      · rw [if_neg (by omega), if_neg (by omega)] at hst
        have hc := fun W => Compare_any W x y 0 (by rw [ordI, if_neg (by omega), if_neg (by omega)])
        have HC := Lib.hid hc; have HST := Lib.hid hst
        clear hc hst h
        go_wp2_with (go_at_call 62; refine (HC.out _).mono ?_; rintro e w1 ⟨rfl, rfl⟩)
        go_roundw
        case rel => exact ⟨k + 1, by omega, by go_num, by trivial, HST⟩
        case measure => simp [intOf]; omega
      · rw [if_neg (by omega), if_pos h] at hst
        have hc := fun W => Compare_any W x y 1 (by rw [ordI, if_neg (by omega), if_pos h])
        have HC := Lib.hid hc; have HST := Lib.hid hst
        clear hc hst h
        go_wp2_with (go_at_call 62; refine (HC.out _).mono ?_; rintro e w1 ⟨rfl, rfl⟩)
        go_ret
        exact ⟨by rw [HST.out]; rfl, rfl⟩
    · obtain rfl : n = k := by omega
      have hz : R = 0 := by
        rw [HK.out]
        have := cmpL_end (xs := xs) (ys := ys.drop n)
        rwa [HL.out] at this
      have HZ := Lib.hid hz
      have hnn : decide ((n : Int) < (n : Int)) = false := by simp
      clear hz
      go_wp2_with fail
      go_ret
      exact ⟨by rw [HZ.out]; rfl, rfl⟩

abbrev kV (x : Key) : Value := .agg #[.int .i64 x.d, .int .i64 x.s, .int .i64 x.a, .int .i64 x.b]
abbrev kC (x : Key) : Array Value := #[.int .i64 x.d, .int .i64 x.s, .int .i64 x.a, .int .i64 x.b]
abbrev mV (x : Key) : Value := .agg #[.int .i64 x.a, .int .i64 x.b, .int .i64 x.d, .int .i64 x.s, .int .i64 x.a, .int .i64 x.b]
abbrev mC (x : Key) : Array Value := #[.int .i64 x.a, .int .i64 x.b, .int .i64 x.d, .int .i64 x.s, .int .i64 x.a, .int .i64 x.b]

theorem keyL_cell {W : World} {g : Nat} {t : TypeId} {x : Key} (h : Blk W g t (kC x)) (i : Nat) (v : Int) (hv : (keyL x)[i]? = some v) : W.cell? ⟨g, i, none⟩ = some (.int .i64 v) := by
  rw [h.cell]
  rcases i with _ | _ | _ | _ | i
  · simp [keyL] at hv; subst hv; rfl
  · simp [keyL] at hv; subst hv; rfl
  · simp [keyL] at hv; subst hv; rfl
  · simp [keyL] at hv; subst hv; rfl
  · simp [keyL] at hv

def GrowTo (W : World) (e : Ending) (v : Value) (w' : World) : Prop := e = .returned v ∧ ∃ q os, w' = Go.Sort.grow (W.drewN q) os
theorem below_grow (W : World) (q : Nat) (os : Array Obj) : Below W.heap.size W (Go.Sort.grow (W.drewN q) os) := by
  refine ⟨rfl, rfl, rfl, ?_, fun k hk => ?_⟩
  · show _ ≤ (W.heap ++ os).size
    rw [Array.size_append]; omega
  · show (W.heap ++ os)[k]? = _
    rw [Array.getElem?_append_left hk]

set_option maxHeartbeats 800000 in
theorem less_any (W : World) (x y : Key) (R : Bool) (hR : R = ltK x y) :
    Calls Try.prog 55 #[kV x, kV y] W fun e w' => GrowTo W e (.bool R) w' := by
  obtain ⟨V, hV⟩ : ∃ V, V = cmpL (keyL x) (keyL y) := ⟨_, rfl⟩
  have hRV : R = decide (V < 0) := by rw [hR, hV, cmpL_key]
  obtain ⟨X, hX⟩ : ∃ X, X = (W.alloc (.cells (kC x) 87)).alloc (.cells (kC y) 87) := ⟨_, rfl⟩
  have b1 := ((Blk.new W 87 (kC x)).alloc (.cells (kC y) 87))
  have b2 := Blk.new (W.alloc (.cells (kC x) 87)) 87 (kC y)
  rw [World.size_alloc] at b2
  rw [← hX] at b1 b2
  have hc : ∀ q, Calls Try.prog 76 #[.slice (some ⟨W.heap.size, 0, none⟩) 4 4, .slice (some ⟨W.heap.size + 1, 0, none⟩) 4 4] (X.drewN q) (Just (X.drewN q) (.int .i64 V)) := fun q =>
    cmpS_any _ _ _ 4 (keyL x) (keyL y) rfl rfl (by omega) (fun i v h => keyL_cell (b1.drewN q) i v h) (fun i v h => keyL_cell (b2.drewN q) i v h) V hV
  have hg : ∀ q, ∃ q' os, X.drewN q = Go.Sort.grow (W.drewN q') os := fun q => ⟨q, #[.cells (kC x) 87, .cells (kC y) 87], by
    rw [hX, Go.Sort.alloc_eq_grow, Go.Sort.alloc_eq_grow, Go.Sort.grow_grow]; rfl⟩
  have HC := Lib.hid hc; have HX := Lib.hid hX; have HRV := Lib.hid hRV; have HG := Lib.hid hg
  clear hg
  have h1 := b1.lt; have h2 := b2.lt
  clear hc hR hV hRV b1 b2
  go_enter Try.func55, Try.ntmps55
  go_wp2_with fail
  rw [← HX.out]
  clear hX
  go_quiet ((go_at_call 76; exact Calls.quiet_of_same (HC.out _)))
  go_wp2_with fail
  go_ret
  exact ⟨by rw [HRV.out]; rfl, HG.out _⟩

/-- How the closure compares two meetings. -/
def cmpK (x y : Key) : Int := if ltK x y = true then -1 else if ltK y x = true then 1 else 0

set_option maxRecDepth 100000 in
set_option maxHeartbeats 1000000 in
theorem pairs2_any (W : World) (x y : Key) :
    Calls Try.prog 54 #[mV x, mV y] W fun e w' => GrowTo W e (.int .i64 (cmpK x y)) w' := by
  obtain ⟨R, hR⟩ : ∃ R, R = cmpK x y := ⟨_, rfl⟩
  rw [← hR]
  obtain ⟨p, hp⟩ : ∃ p, p = ltK x y := ⟨_, rfl⟩
  obtain ⟨q, hq⟩ : ∃ q, q = ltK y x := ⟨_, rfl⟩
  have hc1 := fun w => less_any w x y p hp
  have hc2 := fun w => less_any w y x q hq
  have hv : R = if p = true then -1 else if q = true then 1 else 0 := by rw [hR, hp, hq]; rfl
  obtain ⟨X, hX⟩ : ∃ X, X = (W.alloc (.cells (mC x) 89)).alloc (.cells (mC y) 89) := ⟨_, rfl⟩
  have b1 := ((Blk.new W 89 (mC x)).alloc (.cells (mC y) 89))
  have b2 := Blk.new (W.alloc (.cells (mC x) 89)) 89 (mC y)
  rw [World.size_alloc] at b2
  rw [← hX] at b1 b2
  have hg : ∀ q1 os1, ∃ q' os, Go.Sort.grow (X.drewN q1) os1 = Go.Sort.grow (W.drewN q') os := fun q1 os1 => ⟨q1, #[.cells (mC x) 89] ++ (#[.cells (mC y) 89] ++ os1), by
    have e : X.drewN q1 = Go.Sort.grow (Go.Sort.grow (W.drewN q1) #[.cells (mC x) 89]) #[.cells (mC y) 89] := by
      rw [hX, Go.Sort.alloc_eq_grow, Go.Sort.alloc_eq_grow]; rfl
    rw [e, Go.Sort.grow_grow, Go.Sort.grow_grow]⟩
  have hg2 : ∀ q1 os1 q2 os2, ∃ q' os, Go.Sort.grow ((Go.Sort.grow (X.drewN q1) os1).drewN q2) os2 = Go.Sort.grow (W.drewN q') os := fun q1 os1 q2 os2 => by
    have e : Go.Sort.grow ((Go.Sort.grow (X.drewN q1) os1).drewN q2) os2 = Go.Sort.grow (X.drewN (q1 + q2)) (os1 ++ os2) := by
      rw [← Go.Sort.grow_grow, ← World.drewN_drewN]; rfl
    rw [e]; exact hg _ _
  have cells : ∀ (w : World) (g : Nat) (z : Key), Blk w g 89 (mC z) → w.cell? ⟨g, 2, none⟩ = some (.int .i64 z.d) ∧ w.cell? ⟨g, 3, none⟩ = some (.int .i64 z.s) ∧ w.cell? ⟨g, 4, none⟩ = some (.int .i64 z.a) ∧ w.cell? ⟨g, 5, none⟩ = some (.int .i64 z.b) :=
    fun w g z h => ⟨h.cell 2, h.cell 3, h.cell 4, h.cell 5⟩
  obtain ⟨c0, c1, c2, c3⟩ := cells _ _ _ b1
  obtain ⟨d0, d1, d2, d3⟩ := cells _ _ _ b2
  have HC1 := Lib.hid hc1; have HC2 := Lib.hid hc2; have HX := Lib.hid hX; have HV := Lib.hid hv; have HG := Lib.hid hg; have HG2 := Lib.hid hg2; have HB1 := Lib.hid b1; have HB2 := Lib.hid b2; have CELLS := Lib.hid cells
  have h1 := b1.lt; have h2 := b2.lt
  clear hc1 hc2 hR hp hq hv hg hg2 b1 b2 cells
  go_enter Try.func54, Try.ntmps54
  go_wp2_with fail
  rw [← HX.out]
  clear hX
  go_wp2_with fail
  refine (HC1.out _).mono ?_
  rintro e w1 ⟨rfl, q1, os1, hw1⟩
  cases p with
  | true =>
    have HW1 := Lib.hid hw1; clear hw1
    go_wp2_with fail
    go_ret
    exact ⟨by rw [HV.out]; rfl, by rw [HW1.out]; exact HG.out _ _⟩
  | false =>
    have hbb := below_grow X q1 os1
    rw [← hw1] at hbb
    obtain ⟨k0, k1, k2, k3⟩ := CELLS.out _ _ _ (HB1.out.below hbb h1)
    obtain ⟨l0, l1, l2, l3⟩ := CELLS.out _ _ _ (HB2.out.below hbb h2)
    have HW1 := Lib.hid hw1; clear hw1 hbb c0 c1 c2 c3 d0 d1 d2 d3
    go_wp2_with fail
    refine (HC2.out _).mono ?_
    rintro e w2 ⟨rfl, q2, os2, hw2⟩
    have HW2 := Lib.hid hw2; clear hw2
    cases q with
    | true =>
      go_wp2_with fail
      go_ret
      exact ⟨by rw [HV.out]; rfl, by rw [HW2.out, HW1.out]; exact HG2.out _ _ _ _⟩
    | false =>
      go_wp2_with fail
      go_ret
      exact ⟨by rw [HV.out]; rfl, by rw [HW2.out, HW1.out]; exact HG2.out _ _ _ _⟩
end Go.Proofs.Ytkceefheeicmbaa
