/-
  WALK of flatInts: slices that lie apart are found to lie apart.
-/
import Derived.Test.YtkiknbjokknemaaGreatBudYB
import Derived.Deep.RegionWith
namespace Go.Proofs.YtkiknbjokknemaaGreat
open Go.RowKit Go.Maps

def mk (k i : Nat) : Int := 1000003 * ((k : Int) + 7) + i
def marks (k m : Nat) : List Int := (List.range m).map (mk k)
theorem marks_len (k m : Nat) : (marks k m).length = m := by simp [marks]
theorem marks_get {k m i : Nat} (h : i < m) : (marks k m)[i]? = some (mk k i) := by simp [marks, h]
theorem marks_snoc (k m : Nat) : marks k (m + 1) = marks k m ++ [mk k m] := by simp [marks, List.range_succ]
theorem marks_take {k m q : Nat} (h : q ≤ m) : (marks k m).take q = marks k q := by
  unfold marks
  rw [← List.map_take, List.take_range, Nat.min_eq_left h]

set_option maxHeartbeats 400000 in
theorem mark_any (w : World) (k i : Nat) (hk : k ≤ 100000) (hi : i ≤ 1000000) : Calls Tryz.prog 81 #[.int .i64 (k : Int), .int .i64 (i : Int)] w fun e w' => e = .returned (.int .i64 (mk k i)) ∧ w' = w := by
  have hm := Lib.hid (show mk k i = 1000003 * ((k : Int) + 7) + i from rfl)
  go_enter Tryz.func81, Tryz.ntmps81
  go_wp2
  go_ret
  exact ⟨by rw [hm.out]; rfl, rfl⟩

/-- Slices of int: where each lies, how long it is, how much room it has. -/
structure Rw where
  S : Option Addr
  n : Nat
  c : Nat
abbrev Rw.v (r : Rw) : Value := .slice r.S r.n r.c
/-- Each of them is a row of its own, with a tag of its own. -/
def Rws (w : World) (o : Own) (L : List Rw) (X : Nat → List Int) : Prop := ∀ k r, L[k]? = some r → Row w o (100 + k) 3 1 r.S r.n r.c (ints (X k))
theorem Rws.step {w w' : World} {o o' : Own} {L : List Rw} {X : Nat → List Int} {ts : List Nat} (h : Rws w o L X) (hs : Step ts w o w' o') (ht : ∀ k, k < L.length → 100 + k ∉ ts) : Rws w' o' L X := fun k r hr => (h k r hr).step hs (ht k (List.getElem?_eq_some_iff.1 hr).1)
/-- One of them is written. -/
theorem Rws.one {w w' : World} {o o' : Own} {L : List Rw} {X X' : Nat → List Int} {k : Nat} (h : Rws w o L X) (hs : Step [100 + k] w o w' o') (hX : ∀ j, j ≠ k → X' j = X j) (hk : ∀ r, L[k]? = some r → Row w' o' (100 + k) 3 1 r.S r.n r.c (ints (X' k))) : Rws w' o' L X' := fun j r hr => by
  by_cases e : j = k
  · subst e; exact hk r hr
  · rw [hX j e]; exact (h j r hr).step hs (by simp; omega)
theorem Rws.congr {w : World} {o : Own} {L : List Rw} {X X' : Nat → List Int} (h : Rws w o L X) (hX : ∀ j, j < L.length → X j = X' j) : Rws w o L X' := fun k r hr => by rw [← hX k (List.getElem?_eq_some_iff.1 hr).1]; exact h k r hr
theorem set_mark {X : Nat → List Int} {k i : Nat} (h : i < (X k).length) : (marks k i ++ (X k).drop i).set i (mk k i) = marks k (i + 1) ++ (X k).drop (i + 1) := by
  rw [List.set_append_right _ _ (by rw [marks_len]; exact Nat.le_refl _), marks_len, Nat.sub_self, List.drop_eq_getElem_cons h, marks_snoc, List.append_assoc]
  rfl
theorem Row.drew {w : World} {o : Own} {τ : Nat} {e : TypeId} {sz n c : Nat} {A : Option Addr} {xs : List Value} (h : Row w o τ e sz A n c xs) : Row w.drew o τ e sz A n c xs := h

theorem ints_appB (l m : List Int) : ints (l ++ m) = ints l ++ ints m := by simp [ints]
theorem ints_setB (l : List Int) (i : Nat) (x : Int) : (ints l).set i (.int .i64 x) = ints (l.set i x) := by simp [ints, List.map_set]

/-- The tags that are written. -/
def tgs (N : Nat) : List Nat := 8 :: 9 :: List.range' 100 N
theorem tgs_row {N k : Nat} (h : k < N) : ∀ t ∈ [100 + k], t ∈ tgs N := by
  intro t ht
  simp at ht
  subst ht
  simp [tgs, List.mem_range'_1]
  omega
theorem tgs_low {N t : Nat} (h : t < 8) : t ∉ tgs N := by
  simp [tgs, List.mem_range'_1]
  omega
theorem tgs_nine {N : Nat} : ∀ t ∈ [9], t ∈ tgs N := by simp [tgs]
theorem tgs_eight {N : Nat} : ∀ t ∈ [8], t ∈ tgs N := by simp [tgs]
/-- The first k of the longer ones. -/
def GsAt (w : World) (o : Own) (L : List Rw) (V : List Value) (k : Nat) (Good : Nat → Rw → List Int → Prop) : Prop := ∀ j r, j < k → L[j]? = some r → ∃ A d z, V[j]? = some (.slice A (r.n + 64) d) ∧ z.length = r.n + 64 ∧ Sl w o (100 + j) 1 A (r.n + 64) d (ints z) ∧ Good j r z
theorem GsAt.step {w w' : World} {o o' : Own} {L : List Rw} {V : List Value} {k : Nat} {Good : Nat → Rw → List Int → Prop} {ts : List Nat} (h : GsAt w o L V k Good) (hs : Step ts w o w' o') (ht : ∀ j, j < k → 100 + j ∉ ts) : GsAt w' o' L V k Good := fun j r hj hr => by
  obtain ⟨A, d, z, h1, h2, h3, h4⟩ := h j r hj hr
  exact ⟨A, d, z, h1, h2, h3.step hs (ht j hj), h4⟩
theorem GsAt.put {w : World} {o : Own} {L : List Rw} {V : List Value} {k : Nat} {Good : Nat → Rw → List Int → Prop} {r : Rw} (h : GsAt w o L V k Good) (hr : L[k]? = some r) (hV : k < V.length) {A : Option Addr} {d : Nat} {z : List Int} (hz : z.length = r.n + 64) (hs : Sl w o (100 + k) 1 A (r.n + 64) d (ints z)) (hg : Good k r z) :
    GsAt w o L (V.set k (.slice A (r.n + 64) d)) (k + 1) Good := fun j r' hj hr' => by
  by_cases e : j = k
  · subst e
    rw [hr] at hr'
    obtain rfl := Option.some.inj hr'
    exact ⟨A, d, z, by rw [List.getElem?_set_self hV], hz, hs, hg⟩
  · obtain ⟨A', d', z', h1, h2⟩ := h j r' (by omega) hr'
    exact ⟨A', d', z', by rw [List.getElem?_set_ne (fun q => e q.symm)]; exact h1, h2⟩
theorem make_gs (m : Nat) (hm : m ≤ 64) : ∃ cs : Array Value, cs.size = m * 1 ∧ ∀ W, (Instr.makeSlice 35 (.int .i64 (m : Int)) (.int .i64 (m : Int))).run Tryz.prog W = .ok (.slice (some ⟨W.heap.size, 0, none⟩) m m) (W.alloc (.cells cs 30)) :=
  make_of 35 30 (.slice none 0 0) 1 24 Tryz.underlying35 (by kernel_rfl) (by decide) m hm (by decide)
theorem make_intsB (m : Nat) (hm : m ≤ 64) : ∃ cs : Array Value, cs.toList = ints (List.replicate m 0) ∧ ∀ W, (Instr.makeSlice 30 (.int .i64 (m : Int)) (.int .i64 (m : Int))).run Tryz.prog W = .ok (.slice (some ⟨W.heap.size, 0, none⟩) m m) (W.alloc (.cells cs 3)) := by
  obtain ⟨i, h1, h2, h3, h4⟩ := info_parts (P := Tryz.prog) (e := 3) (z := .int .i64 0) (size := 1) (bytes := 8) (by kernel_rfl)
  refine ⟨madeCells #[.int .i64 0] m, by rw [toList_madeCells_one]; simp [ints], fun W => ?_⟩
  have h := run_makeSlice (P := Tryz.prog) W 30 3 i (.int .i64 0) Tryz.underlying30 h1 h2 .i64 .i64 (m : Int) (m : Int) (by omega) (by omega) (by rw [h3, Int.toNat_natCast]; omega) (by rw [h4]; omega) (by omega)
  rw [h3, Int.toNat_natCast, Nat.mul_one] at h
  exact h
theorem one_intsB (l : List Int) : ∀ u ∈ ints l, u.oneCell' = true := by
  intro u hu
  simp only [ints, List.mem_map] at hu
  obtain ⟨x, -, rfl⟩ := hu
  rfl
/-- Two rows that are one, or lie apart. -/
def Other (A S : Option Addr) (d c : Nat) : Prop := (A = S ∧ d = c) ∨ ∀ p q, A = some p → S = some q → p.block ≠ q.block
/-- Behind an append the elder row lies as it lay. -/
theorem fork_old {w w' : World} {o : Own} {k n m d c dd : Nat} {A A' S : Option Addr} {xs ys : List Int} (hA : Row w o (100 + k) 3 1 A m d (ints xs)) (hS : Row w o (100 + k) 3 1 S n c (ints ys)) (hO : Other A S d c) (hmn : n ≤ m) (hxy : xs.take n = ys) {q : Nat} {zs : List Int}
    (hR : Row w' (ext o w.heap.size (100 + k)) (100 + k) 3 1 A' (m + q) dd (ints xs ++ ints zs)) (hg : w.grownBy w' (Value.slice A m d).ownBlock) (hf : (A' = A ∧ dd = d ∧ w'.heap.size = w.heap.size) ∨ (A' = some ⟨w.heap.size, 0, none⟩ ∧ Below w.heap.size w w')) :
    Row w' (ext o w.heap.size (100 + k)) (100 + k) 3 1 S n c (ints ys) ∧ Other A' S dd c := by
  have hl := hA.len
  rcases hf with ⟨rfl, rfl, -⟩ | ⟨rfl, hb⟩
  · rcases hO with ⟨rfl, rfl⟩ | hne
    · refine ⟨?_, .inl ⟨rfl, rfl⟩⟩
      have := hR.prefix_ (n := n) (by omega)
      rw [List.take_append_of_le_length (by simp at hl ⊢; omega)] at this
      have e : (ints xs).take n = ints ys := by rw [← hxy]; simp [ints, List.map_take]
      rw [e] at this
      exact this
    · refine ⟨hS.grown hg (fun ad had => ?_) _, .inr hne⟩
      cases A' with
      | none => simp [Value.ownBlock]
      | some p => simp only [Value.ownBlock, ne_eq, Option.some.injEq]; exact fun e => hne p ad rfl had e.symm
  · refine ⟨hS.step ((Step.refl [] w o).below hb (100 + k)) (by simp), .inr fun p q hp hq => ?_⟩
    injection hp with hp
    subst hp
    have := hS.lt hq
    simp only
    omega
theorem val_one (L : List Rw) : ∀ u ∈ L.map Rw.v, u.oneCell' = true := by
  intro u hu
  obtain ⟨r, -, rfl⟩ := List.mem_map.1 hu
  rfl

set_option maxRecDepth 100000 in
set_option maxHeartbeats 8000000 in
theorem flatInts_any (w : World) (o : Own) (LA : Option Addr) (N lc : Nat) (L : List Rw) (X : Nat → List Int) (hN : N ≤ 62) (hS : Sl w o 7 1 LA N lc (L.map Rw.v)) (hL : L.length = N) (hR : Rws w o L X) (hn : ∀ r ∈ L, r.n ≤ 1000) :
    Calls Tryz.prog 48 #[.slice LA N lc] w fun e w' => e = .returned (.bool true) ∧ ∃ o', Step (tgs N) w o w' o' := by
  obtain ⟨P, hP⟩ : ∃ P : Ending → World → Prop, P = fun e w' => e = .returned (.bool true) ∧ ∃ o', Step (tgs N) w o w' o' := ⟨_, rfl⟩
  rw [← hP]
  have HP := Lib.hid hP
  have HS := Lib.hid hS; have HL := Lib.hid hL; have HR := Lib.hid hR; have HN := Lib.hid hn
  clear hS hL hR hn hP
  go_enter Tryz.func48, Tryz.ntmps48
  go_wp2_with fail
  go_loopw [3] (fun kv wr => ∃ k, k ≤ N ∧ kv = .int .i64 (k : Int) ∧ Hid (Step (tgs N) w o wr o ∧ Rws wr o L (fun j => if j < k then marks j ((L.getD j ⟨none, 0, 0⟩).n) else X j))) (fun kv _ => N - (intOf kv).toNat)
  case atStart => exact ⟨0, Nat.zero_le _, rfl, Lib.hid ⟨Step.refl _ _ _, HR.out⟩⟩
  case round =>
    obtain ⟨k, hk, rfl, HK⟩ := hrel
    by_cases hlt : k < N
    · obtain ⟨r, hr⟩ : ∃ r, L[k]? = some r := ⟨_, List.getElem?_eq_getElem (by rw [HL.out]; exact hlt)⟩
      have hrk := HK.out.2 k r hr
      simp only [Nat.lt_irrefl, if_false] at hrk
      have hgd : (L.getD k ⟨none, 0, 0⟩) = r := by rw [List.getD_eq_getElem?_getD, hr]; rfl
      have hrn := HN.out r (List.mem_of_getElem? hr)
      obtain ⟨S, n, c⟩ := r
      simp only at hrk hrn
      have HG := Lib.hid hgd; have HRR := Lib.hid hr
      have hXl : (X k).length = n := by have := hrk.len; simpa using this
      have HRK := Lib.hid hrk; have HXL := Lib.hid hXl
      clear hrk hgd hr hXl
      generalize wr = wo at HK HRK ⊢
      clear wr
      go_wp2_with fail
      go_loopw [4] (fun iv wx => ∃ i, i ≤ n ∧ iv = .int .i64 (i : Int) ∧ Hid (Step [100 + k] wo o wx o ∧ Row wx o (100 + k) 3 1 S n c (ints (marks k i ++ (X k).drop i)))) (fun iv _ => n - (intOf iv).toNat)
      case atStart => exact ⟨0, Nat.zero_le _, rfl, Lib.hid ⟨Step.refl _ _ _, by simpa [marks] using HRK.out⟩⟩
      case round =>
        obtain ⟨i, hi, rfl, HI⟩ := hrel
        obtain ⟨gl, ol, hLA, -, hgl, hcl⟩ := ((HS.out.step HK.out.1 (tgs_low (by decide))).step HI.out.1 (by simp; omega)).2.2.2 (by omega)
        have hcv := hcl k (.slice S n c) (by rw [List.getElem?_map, HRR.out]; rfl)
        subst hLA
        by_cases hlt2 : i < n
        · obtain ⟨h, cur, hSe, -, -, -, -, -, -⟩ := HI.out.2.form (by omega)
          subst hSe
          obtain ⟨u, hu⟩ : ∃ u, (ints (marks k i ++ (X k).drop i))[i]? = some u := ⟨_, List.getElem?_eq_getElem (by simp [marks_len, HXL.out]; omega)⟩
          obtain ⟨d0, f0⟩ := HI.out.2.cellAt hu
          have hset := HI.out.2.drew.set_ hlt2 (.int .i64 (mk k i))
          have hstp := (HI.out.1.drew).setCell (p := ⟨h, i, none⟩) (.inr (by rw [HI.out.2.2 _ rfl]; simp)) (.int .i64 (mk k i))
          rw [ints_setB, set_mark (X := X) (by rw [HXL.out]; exact hlt2)] at hset
          have HM := Lib.hid (fun W => mark_any W k i (by omega) (by omega))
          have HF := Lib.hid (And.intro hstp hset)
          clear hu hset hstp hcl
          go_wp2_with fail
          go_region_with (go_at_call 81; refine (HM.out _).mono ?_; rintro e w' ⟨rfl, rfl⟩)
          all_goals
            go_wp2_with fail
            go_roundw
            case rel => exact ⟨i + 1, by omega, by go_num, HF⟩
            case measure => simp [intOf]; omega
        · obtain rfl : n = i := by omega
          have hrow := HI.out.2
          rw [List.drop_of_length_le (by rw [HXL.out]; exact Nat.le_refl _), List.append_nil] at hrow
          have hres := HK.out.2.one (X' := fun j => if j < k + 1 then marks j ((L.getD j ⟨none, 0, 0⟩).n) else X j) HI.out.1 (fun j hj => by
              by_cases q : j < k
              · rw [if_pos q, if_pos (by omega)]
              · rw [if_neg q, if_neg (by omega)]) (fun r' hr' => by
              rw [HRR.out] at hr'
              obtain rfl := Option.some.inj hr'
              simp only
              rw [if_pos (Nat.lt_succ_self k), HG.out]
              exact hrow)
          have HF := Lib.hid (And.intro (HK.out.1.trans (HI.out.1.mono (tgs_row hlt))) hres)
          clear hrow hres hcl
          go_wp2_with fail
          go_roundw
          case rel => exact ⟨k + 1, by omega, by go_num, HF⟩
          case measure => simp [intOf]; omega
    · obtain rfl : N = k := by omega
      have hrows := HK.out.2.congr (X' := fun j => marks j ((L.getD j ⟨none, 0, 0⟩).n)) (fun j hj => by rw [if_pos (by rw [HL.out] at hj; exact hj)])
      have H1 := Lib.hid (And.intro HK.out.1 hrows)
      clear hrows
      obtain ⟨gcs, hgs, hmk⟩ := make_gs N (by omega)
      generalize hw8 : wr = w8 at H1 ⊢
      clear hw8 HK wr
      have r8 := Row.made (w := w8) o 9 30 1 gcs N hgs (by simp only [maxLen]; omega) N (Nat.le_refl _)
      have s8 := (Step.refl [] w8 o).alloc (.cells gcs 30) 9
      have hV8 : (gcs.toList.take (N * 1)).length = N := by simp; omega
      obtain ⟨V8, hVe⟩ : ∃ V8, V8 = gcs.toList.take (N * 1) := ⟨_, rfl⟩
      rw [← hVe] at r8 hV8
      have H8 := Lib.hid (And.intro (H1.out.1.trans s8.nil) (And.intro (H1.out.2.step s8 (by simp)) (And.intro hV8 r8)))
      clear r8 s8 hV8 hVe hgs H1
      go_upto_region 9 with fail
      generalize (w8.alloc (.cells gcs 30)) = w9 at H8 ⊢
      generalize ext o w8.heap.size 9 = o9 at H8
      generalize w8.heap.size = gb at H8 ⊢
      clear hmk
      go_wp2_with fail
      go_loopw [6] (fun kv wr => ∃ k V o', k ≤ N ∧ kv = .int .i64 (k : Int) ∧ Hid (Step (tgs N) w o wr o' ∧ Rws wr o' L (fun j => marks j ((L.getD j ⟨none, 0, 0⟩).n)) ∧ V.length = N ∧ Row wr o' 9 30 1 (some ⟨gb, 0, none⟩) N N V ∧ GsAt wr o' L V k (fun j r z => z = marks j (r.n + 64)))) (fun kv _ => N - (intOf kv).toNat)
      case atStart => exact ⟨0, V8, o9, Nat.zero_le _, rfl, Lib.hid ⟨H8.out.1, H8.out.2.1, H8.out.2.2.1, H8.out.2.2.2, fun j r hj => absurd hj (by omega)⟩⟩
      case round =>
        obtain ⟨k, V, ok, hk, rfl, HK⟩ := hrel
        by_cases hlt : k < N
        · obtain ⟨r, hr⟩ : ∃ r, L[k]? = some r := ⟨_, List.getElem?_eq_getElem (by rw [HL.out]; exact hlt)⟩
          have hgd : (L.getD k ⟨none, 0, 0⟩) = r := by rw [List.getD_eq_getElem?_getD, hr]; rfl
          have hrk := HK.out.2.1 k r hr
          simp only [hgd] at hrk
          have hrn := HN.out r (List.mem_of_getElem? hr)
          obtain ⟨S, n, c⟩ := r
          simp only at hrk hrn
          have HG := Lib.hid hgd; have HRR := Lib.hid hr; have HRK := Lib.hid hrk
          obtain ⟨gl, ol, hLA, -, hgl, hcl⟩ := (HS.out.step HK.out.1 (tgs_low (by decide))).2.2.2 (by omega)
          have hcv := hcl k (.slice S n c) (by rw [List.getElem?_map, hr]; rfl)
          subst hLA
          clear hrk hgd hr hcl
          generalize wr = wo at HK HRK hcv hgl ⊢
          clear wr
          go_wp2_with fail
          go_loopw [7, 8] (fun gv iv wx => ∃ (i : Nat) (A : Option Addr) (d : Nat) (oo : Own), i ≤ 64 ∧ iv = .int .i64 (i : Int) ∧ gv = .slice A (n + i) d ∧ Hid (Step [100 + k] wo ok wx oo ∧ Row wx oo (100 + k) 3 1 A (n + i) d (ints (marks k (n + i))) ∧ Row wx oo (100 + k) 3 1 S n c (ints (marks k n)) ∧ Other A S d c)) (fun _ iv _ => 64 - (intOf iv).toNat)
          case atStart => exact ⟨0, S, c, ok, Nat.zero_le _, rfl, rfl, Lib.hid ⟨Step.refl _ _ _, HRK.out, HRK.out, .inl ⟨rfl, rfl⟩⟩⟩
          case round =>
            obtain ⟨i, A, d, oo, hi, rfl, rfl, HI⟩ := hrel
            by_cases hlt2 : i < 64
            · have hcx := (HS.out.step (HK.out.1.trans (HI.out.1.mono (tgs_row hlt))) (tgs_low (by decide)))
              obtain ⟨gl', ol', hLA', -, hgl', hcl'⟩ := hcx.2.2.2 (by omega)
              injection hLA' with q1; injection q1 with q1 q2; subst q1; subst q2
              have hcw := hcl' k (.slice S n c) (by rw [List.getElem?_map, HRR.out]; rfl)
              clear hcl' hcx
              obtain ⟨oW, stW, rwW, slW, hup⟩ := laidI HI.out.2.1 #[.int .i64 (mk k (n + i))] 1 rfl (by omega) 3
              have hls := hup HI.out.2.2.1
              have RW := Lib.hid rwW; have SW := Lib.hid slW; have LS := Lib.hid hls; have ST := Lib.hid (HI.out.1.trans stW.nil); have OT := Lib.hid HI.out.2.2.2
              have HM := Lib.hid (fun W => show Calls Tryz.prog 81 #[.int .i64 (k : Int), .int .i64 ((n : Int) + (i : Int))] W (fun e w' => e = .returned (.int .i64 (mk k (n + i))) ∧ w' = W) by have := mark_any W k (n + i) (by omega) (by omega); rwa [Int.natCast_add] at this)
              clear rwW slW hls hup stW HI
              go_upto_region 16 with fail
              clear hcv hgl
              go_wp2_with (first
                | (go_at_call 81; refine (HM.out _).mono ?_; rintro e w' ⟨rfl, rfl⟩)
                | (at_builtin; refine wpList_append_fork _ rfl (.tmp 57) (.tmp 67) _ rfl el_int oW (100 + k) A (n + i) d _ rfl RW.out oW 5 _ 1 1 [.int .i64 (mk k (n + i))] rfl SW.out (by decide) (by simp [Value.oneCell']) (by omega) (by simp only [maxLen]; omega) ?_; intro A' d' w6 hR6 hg6 hf6; have HR6 := Lib.hid hR6; have HG6 := Lib.hid hg6; have HF6 := Lib.hid hf6; clear hR6 hg6 hf6))
              go_roundw
              case rel =>
                have st6 := Step.append RW.out HG6.out (100 + k)
                obtain ⟨f1, f2⟩ := fork_old RW.out LS.out OT.out (Nat.le_add_right n i) (marks_take (Nat.le_add_right n i)) (q := 1) (zs := [mk k (n + i)]) HR6.out HG6.out HF6.out
                refine ⟨i + 1, A', d', _, by omega, by go_num, rfl, Lib.hid ⟨ST.out.trans st6, ?_, f1, f2⟩⟩
                rw [← Nat.add_assoc, marks_snoc, ints_appB]
                exact HR6.out
              case measure => simp [intOf]; omega
            · obtain rfl : i = 64 := by omega
              obtain ⟨u, hu⟩ : ∃ u, V[k]? = some u := ⟨_, List.getElem?_eq_getElem (by rw [HK.out.2.2.1]; exact hlt)⟩
              have hgs := HK.out.2.2.2.1.step HI.out.1 (by simp; omega)
              obtain ⟨d0, f0⟩ := hgs.cellAt hu
              have hset := hgs.set_ hlt (.slice A (n + 64) d)
              have st9 := (Step.refl [9] wr oo).setCell (p := ⟨gb, k, none⟩) (.inr (by rw [hgs.2 _ rfl]; simp)) (.slice A (n + 64) d)
              have hls := HK.out.2.1.one (X' := fun j => marks j ((L.getD j ⟨none, 0, 0⟩).n)) HI.out.1 (fun j hj => rfl) (fun r' hr' => by
                rw [HRR.out] at hr'
                obtain rfl := Option.some.inj hr'
                simp only [HG.out]
                exact HI.out.2.2.1)
              have hga := ((HK.out.2.2.2.2.step HI.out.1 (fun j hj => by simp; omega)).step st9 (fun j hj => by simp; omega)).put HRR.out (by rw [HK.out.2.2.1]; exact hlt) (marks_len k (n + 64)) (HI.out.2.1.sl.step st9 (by simp; omega)) rfl
              have HF := Lib.hid (And.intro ((HK.out.1.trans (HI.out.1.mono (tgs_row hlt))).trans (st9.mono tgs_nine)) (And.intro (hls.step st9 (fun j hj => by simp; omega)) (And.intro hset hga)))
              clear hu hgs hset st9 hls hga hcv hgl
              go_wp2_with fail
              go_roundw
              case rel => exact ⟨k + 1, _, oo, by omega, by go_num, Lib.hid ⟨HF.out.1, HF.out.2.1, by rw [List.length_set]; exact HK.out.2.2.1, HF.out.2.2.1, HF.out.2.2.2⟩⟩
              case measure => simp [intOf]; omega
        · obtain rfl : N = k := by omega
          generalize wr = w10 at HK ⊢
          clear wr
          have HMK := Lib.hid (fun W (k i : Nat) (hk : k ≤ 62) (hi : i ≤ 2000) => mark_any W k i (by omega) (by omega))
          go_wp2_with fail
          go_loopw [9] (fun kv wx => ∃ k, k ≤ N ∧ kv = .int .i64 (k : Int) ∧ Hid (Below w10.heap.size w10 wx)) (fun kv _ => N - (intOf kv).toNat)
          case atStart => exact ⟨0, Nat.zero_le _, rfl, Lib.hid (Below.refl _ _)⟩
          case round =>
            obtain ⟨k, hk, rfl, HB⟩ := hrel
            by_cases hlt : k < N
            · obtain ⟨r, hr⟩ : ∃ r, L[k]? = some r := ⟨_, List.getElem?_eq_getElem (by rw [HL.out]; exact hlt)⟩
              have hgd : (L.getD k ⟨none, 0, 0⟩) = r := by rw [List.getD_eq_getElem?_getD, hr]; rfl
              have hrk := HK.out.2.1 k r hr
              simp only [hgd] at hrk
              have hrn := HN.out r (List.mem_of_getElem? hr)
              obtain ⟨A, d, z, e1, e2, e3, e4⟩ := HK.out.2.2.2.2 k r hlt hr
              subst e4
              obtain ⟨S, n, c⟩ := r
              simp only at hrk hrn e1 e3
              obtain ⟨ga, oa, hAe, -, hga, hca⟩ := e3.2.2.2 (by omega)
              subst hAe
              obtain ⟨gl, ol, hLA, -, hgl, hcl⟩ := (HS.out.step HK.out.1 (tgs_low (by decide))).2.2.2 (by omega)
              have hcv := hcl k (.slice S n c) (by rw [List.getElem?_map, hr]; rfl)
              subst hLA
              obtain ⟨hcg, -⟩ := HK.out.2.2.2.1.cellAt e1
              have hgb := World.block_lt_of_cell? w10 _ hcg
              have HRK := Lib.hid hrk; have HCA := Lib.hid hca
              clear hrk hgd hr hcl hca e1 e2 e3
              go_wp2_with fail
              go_loopw [10] (fun iv wy => ∃ i, i ≤ n + 64 ∧ iv = .int .i64 (i : Int) ∧ Hid (Below w10.heap.size w10 wy)) (fun iv _ => n + 64 - (intOf iv).toNat)
              case atStart => exact ⟨0, Nat.zero_le _, rfl, HB⟩
              case round =>
                obtain ⟨i, hi, rfl, HI⟩ := hrel
                have c1 := (HI.out.cell (p := ⟨gb, k, none⟩) hgb).trans hcg
                have c2 := (HI.out.cell (p := ⟨gl, ol + k, none⟩) hgl).trans hcv
                by_cases hlt2 : i < n + 64
                · have c3 := (HI.out.cell (p := ⟨ga, oa + i, none⟩) hga).trans (HCA.out i (.int .i64 (mk k i)) (by simp [ints, marks_get hlt2]))
                  have hmk := fun d os => show Calls Tryz.prog 81 #[.int .i64 (k : Int), .int .i64 (i : Int)] (Go.Sort.grow (redrawn wr d) os) (fun e w'' => e = .returned (.int .i64 (mk k i)) ∧ ∃ p : Regrown, w'' = Go.Sort.grow (redrawn wr p.d) p.os) from
                    (HMK.out _ k i (by omega) (by omega)).mono fun e w' ⟨he, hw⟩ => ⟨he, ⟨d, os⟩, hw⟩
                  have HM := Lib.hid hmk
                  clear hmk
                  by_cases hin : i < n
                  · obtain ⟨h, cur, hSe, -, hbl, -, -, -, -⟩ := HRK.out.form (by omega)
                    subst hSe
                    have c4 := (HI.out.cell (p := ⟨h, i, none⟩) hbl.lt).trans (HRK.out.cellAt (k := i) (u := .int .i64 (mk k i)) (by simp [ints, marks_get hin])).1
                    have v1 := cell_regrown c1; have v2 := cell_regrown c2; have v3 := cell_regrown c3; have v4 := cell_regrown c4
                    have hd : decide (i < n) = true := decide_eq_true hin
                    clear hbl
                    go_upto_region 24 with fail
                    refine wp_region_quiet_below (by kernel_rfl) (by kernel_rfl) ?_
                    clear c1 c2 c3 c4
                    repeat (go_big_quiet_step (with_reducible exact HM.out _ _))
                    refine wpQuiet_nil ?_
                    intro _ hw'
                    obtain ⟨⟨dq, osq⟩, hw''⟩ := hw'
                    have HF := Lib.hid (HI.out.trans ((below_regrown wr dq osq).mono HI.out.size))
                    subst hw''
                    clear v1 v2 v3 v4 hd
                    go_wp2_with fail
                    go_roundw
                    case rel => exact ⟨i + 1, by omega, by go_num, HF⟩
                    case measure => simp [intOf]; omega
                  · have v1 := cell_regrown c1; have v2 := cell_regrown c2; have v3 := cell_regrown c3
                    have hd : decide (i < n) = false := decide_eq_false hin
                    go_upto_region 24 with fail
                    refine wp_region_quiet_below (by kernel_rfl) (by kernel_rfl) ?_
                    clear c1 c2 c3
                    repeat (go_big_quiet_step (with_reducible exact HM.out _ _))
                    refine wpQuiet_nil ?_
                    intro _ hw'
                    obtain ⟨⟨dq, osq⟩, hw''⟩ := hw'
                    have HF := Lib.hid (HI.out.trans ((below_regrown wr dq osq).mono HI.out.size))
                    subst hw''
                    clear v1 v2 v3 hd
                    go_wp2_with fail
                    go_roundw
                    case rel => exact ⟨i + 1, by omega, by go_num, HF⟩
                    case measure => simp [intOf]; omega
                · obtain rfl : i = n + 64 := by omega
                  go_wp2_with fail
                  go_roundw
                  case rel => exact ⟨k + 1, by omega, by go_num, HI⟩
                  case measure => simp [intOf]; omega
            · obtain rfl : N = k := by omega
              have st11 := (Step.refl [] w10 ok).below HB.out 5
              have H11 := Lib.hid (And.intro (HK.out.1.trans st11.nil) (And.intro (HK.out.2.1.step st11 (by simp)) (And.intro HK.out.2.2.1 (HK.out.2.2.2.1.step st11 (by simp)))))
              clear st11 HB HK
              generalize wr = w11 at H11 ⊢
              generalize ext ok w10.heap.size 5 = o11 at H11
              clear wr
              obtain ⟨mcs, hmcs, hmany⟩ := make_intsB 64 (by omega)
              rw [show ((64 : Nat) : Int) = 64 from rfl] at hmany
              go_wp2_with fail
              go_loopw [11] (fun kv wr => ∃ k V' o', k ≤ N ∧ kv = .int .i64 (k : Int) ∧ Hid (Step (tgs N) w o wr o' ∧ Rws wr o' L (fun j => marks j ((L.getD j ⟨none, 0, 0⟩).n)) ∧ V'.length = N ∧ Row wr o' 9 30 1 (some ⟨gb, 0, none⟩) N N V' ∧ GsAt wr o' L V' k (fun j r z => z.take r.n = marks j r.n))) (fun kv _ => N - (intOf kv).toNat)
              case atStart => exact ⟨0, V, o11, Nat.zero_le _, rfl, Lib.hid ⟨H11.out.1, H11.out.2.1, H11.out.2.2.1, H11.out.2.2.2, fun j r hj => absurd hj (by omega)⟩⟩
              case round =>
                obtain ⟨k, V, ok, hk, rfl, HK⟩ := hrel
                by_cases hlt : k < N
                · obtain ⟨r, hr⟩ : ∃ r, L[k]? = some r := ⟨_, List.getElem?_eq_getElem (by rw [HL.out]; exact hlt)⟩
                  have hgd : (L.getD k ⟨none, 0, 0⟩) = r := by rw [List.getD_eq_getElem?_getD, hr]; rfl
                  have hrk := HK.out.2.1 k r hr
                  simp only [hgd] at hrk
                  have hrn := HN.out r (List.mem_of_getElem? hr)
                  obtain ⟨S, n, c⟩ := r
                  simp only at hrk hrn
                  have HG := Lib.hid hgd; have HRR := Lib.hid hr; have HRK := Lib.hid hrk
                  clear hrk hgd hr
                  generalize wr = wo at HK HRK ⊢
                  clear wr
                  have rm := Row.made (w := wo) ok 8 3 1 mcs 64 (by rw [← Array.length_toList, hmcs]; simp) (by decide) 64 (Nat.le_refl _)
                  rw [hmcs] at rm
                  have sm := (Step.refl [] wo ok).alloc (.cells mcs 3) 8
                  have H12 := Lib.hid (And.intro sm rm)
                  clear sm rm
                  go_upto_region 30 with fail
                  have h12 := H12.out
                  rw [show List.take (64 * 1) (ints (List.replicate 64 0)) = ints (List.replicate 64 0) from List.take_of_length_le (by simp)] at h12
                  clear H12
                  generalize wo.alloc (.cells mcs 3) = w12 at h12 ⊢
                  generalize ext ok wo.heap.size 8 = o12 at h12
                  generalize wo.heap.size = mb at h12 ⊢
                  have H12 := Lib.hid h12
                  clear h12
                  go_wp2_with fail
                  go_loopw [13] (fun iv wx => ∃ i : Nat, i ≤ 64 ∧ iv = .int .i64 (i : Int) ∧ Hid (∃ y : List Int, y.length = 64 ∧ Step [8] w12 o12 wx o12 ∧ Row wx o12 8 3 1 (some ⟨mb, 0, none⟩) 64 64 (ints y))) (fun iv _ => 64 - (intOf iv).toNat)
                  case atStart => exact ⟨0, Nat.zero_le _, rfl, Lib.hid ⟨List.replicate 64 0, by simp, Step.refl _ _ _, H12.out.2⟩⟩
                  case round =>
                    obtain ⟨i, hi, rfl, HI⟩ := hrel
                    obtain ⟨y, hy, hst, hrow⟩ := HI.out
                    by_cases hlt2 : i < 64
                    · obtain ⟨u, hu⟩ : ∃ u, (ints y)[i]? = some u := ⟨_, List.getElem?_eq_getElem (by simp [hy]; omega)⟩
                      obtain ⟨d0, f0⟩ := hrow.cellAt hu
                      have hset := hrow.set_ hlt2 (.int .i64 (mk (k + N) i))
                      have hstp := hst.setCell (p := ⟨mb, i, none⟩) (.inr (by rw [hrow.2 _ rfl]; simp)) (.int .i64 (mk (k + N) i))
                      rw [ints_setB] at hset
                      have HM := Lib.hid (fun W => show Calls Tryz.prog 81 #[.int .i64 ((k : Int) + (N : Int)), .int .i64 (i : Int)] W (fun e w' => e = .returned (.int .i64 (mk (k + N) i)) ∧ w' = W) by have := mark_any W (k + N) i (by omega) (by omega); rwa [Int.natCast_add] at this)
                      have HF := Lib.hid (And.intro hstp hset); have HY := Lib.hid hy
                      clear hu hset hstp hst hrow hy HI
                      go_wp2_with (go_at_call 81; refine (HM.out _).mono ?_; rintro e w' ⟨rfl, rfl⟩)
                      go_roundw
                      case rel => exact ⟨i + 1, by omega, by go_num, Lib.hid ⟨_, by rw [List.length_set]; exact HY.out, HF.out.1, HF.out.2⟩⟩
                      case measure => simp [intOf]; omega
                    · obtain rfl : i = 64 := by omega
                      have s13 := H12.out.1.nil.trans hst
                      have hls := HRK.out.step s13 (by simp; omega)
                      have hg13 := HK.out.2.2.2.1.step s13 (by simp)
                      have HLS := Lib.hid hls; have HY := Lib.hid hrow; have S13 := Lib.hid s13; have HYL := Lib.hid hy
                      obtain ⟨gl, ol, hLA, -, hgl, hcl⟩ := ((HS.out.step HK.out.1 (tgs_low (by decide))).step s13 (by simp)).2.2.2 (by omega)
                      have hcv := hcl k (.slice S n c) (by rw [List.getElem?_map, HRR.out]; rfl)
                      subst hLA
                      have HG13 := Lib.hid hg13
                      obtain ⟨u, hu⟩ : ∃ u, V[k]? = some u := ⟨_, List.getElem?_eq_getElem (by rw [HK.out.2.2.1]; exact hlt)⟩
                      have HU := Lib.hid hu
                      clear hls hg13 s13 hst hrow hy hcl HI hu
                      go_upto_region 28 with (at_builtin; refine wpList_append_fork _ rfl (.tmp 148) (.tmp 149) _ rfl el_int o12 (100 + k) S n c _ rfl HLS.out o12 8 _ 64 64 (ints y) rfl HY.out.sl (by decide) (one_intsB y) (by omega) (by simp only [maxLen]; omega) ?_; intro A' d' w6 hR6 hg6 hf6; have HR6 := Lib.hid hR6; have HG6 := Lib.hid hg6; have HF6 := Lib.hid hf6; obtain ⟨d0, f0⟩ := (HG13.out.step (Step.append HLS.out hg6 (100 + k)) (by simp; omega)).cellAt HU.out; clear hR6 hg6 hf6)
                      have st6 := Step.append HLS.out HG6.out (100 + k)
                      obtain ⟨f1, -⟩ := fork_old HLS.out HLS.out (.inl ⟨rfl, rfl⟩) (Nat.le_refl n) (marks_take (Nat.le_refl n)) (q := 64) (zs := y) HR6.out HG6.out HF6.out
                      have hr6 := HR6.out
                      rw [← ints_appB] at hr6
                      have hgs6 := HG13.out.step st6 (by simp; omega)
                      have hset := hgs6.set_ hlt (.slice A' (n + 64) d')
                      have st9 := (Step.refl [9] w6 (ext o12 wr.heap.size (100 + k))).setCell (p := ⟨gb, k, none⟩) (.inr (by rw [hgs6.2 _ rfl]; simp)) (.slice A' (n + 64) d')
                      have hls := (HK.out.2.1.step S13.out (fun j hj => by simp; omega)).one (X' := fun j => marks j ((L.getD j ⟨none, 0, 0⟩).n)) st6 (fun j hj => rfl) (fun r' hr' => by
                        rw [HRR.out] at hr'
                        obtain rfl := Option.some.inj hr'
                        simp only [HG.out]
                        exact f1)
                      have hga := (((HK.out.2.2.2.2.step S13.out (fun j hj => by simp; omega)).step st6 (fun j hj => by simp; omega)).step st9 (fun j hj => by simp; omega)).put HRR.out (by rw [HK.out.2.2.1]; exact hlt) (z := marks k n ++ y) (by simp only [List.length_append, marks_len, HYL.out]) (hr6.sl.step st9 (by simp; omega)) (by simp only; rw [List.take_left' (marks_len k n)])
                      have HF := Lib.hid (And.intro (((HK.out.1.trans (S13.out.mono tgs_eight)).trans (st6.mono (tgs_row hlt))).trans (st9.mono tgs_nine)) (And.intro (hls.step st9 (fun j hj => by simp; omega)) (And.intro hset hga)))
                      clear f1 hr6 hgs6 hset st9 hls hga st6
                      go_wp2_with fail
                      go_roundw
                      case rel => exact ⟨k + 1, _, _, by omega, by go_num, Lib.hid ⟨HF.out.1, HF.out.2.1, by rw [List.length_set]; exact HK.out.2.2.1, HF.out.2.2.1, HF.out.2.2.2⟩⟩
                      case measure => simp [intOf]; omega
                · obtain rfl : N = k := by omega
                  generalize wr = w20 at HK ⊢
                  clear wr
                  go_wp2_with fail
                  go_loopw [14] (fun kv wx => ∃ k, k ≤ N ∧ kv = .int .i64 (k : Int) ∧ Hid (Below w20.heap.size w20 wx)) (fun kv _ => N - (intOf kv).toNat)
                  case atStart => exact ⟨0, Nat.zero_le _, rfl, Lib.hid (Below.refl _ _)⟩
                  case round =>
                    obtain ⟨k, hk, rfl, HB⟩ := hrel
                    by_cases hlt : k < N
                    · obtain ⟨r, hr⟩ : ∃ r, L[k]? = some r := ⟨_, List.getElem?_eq_getElem (by rw [HL.out]; exact hlt)⟩
                      have hgd : (L.getD k ⟨none, 0, 0⟩) = r := by rw [List.getD_eq_getElem?_getD, hr]; rfl
                      have hrk := HK.out.2.1 k r hr
                      simp only [hgd] at hrk
                      have hrn := HN.out r (List.mem_of_getElem? hr)
                      obtain ⟨A, d, z, e1, e2, e3, e4⟩ := HK.out.2.2.2.2 k r hlt hr
                      obtain ⟨S, n, c⟩ := r
                      simp only at hrk hrn e1 e2 e3 e4
                      obtain ⟨ga, oa, hAe, -, hga, hca⟩ := e3.2.2.2 (by omega)
                      subst hAe
                      obtain ⟨gl, ol, hLA, -, hgl, hcl⟩ := (HS.out.step HK.out.1 (tgs_low (by decide))).2.2.2 (by omega)
                      have hcv := hcl k (.slice S n c) (by rw [List.getElem?_map, hr]; rfl)
                      subst hLA
                      obtain ⟨hcg, -⟩ := HK.out.2.2.2.1.cellAt e1
                      have hgb := World.block_lt_of_cell? w20 _ hcg
                      have HRK := Lib.hid hrk; have HCA := Lib.hid hca; have HZ := Lib.hid e4
                      clear hrk hgd hr hcl hca e1 e2 e3 e4
                      go_wp2_with fail
                      go_loopw [15] (fun iv wy => ∃ i, i ≤ n ∧ iv = .int .i64 (i : Int) ∧ Hid (Below w20.heap.size w20 wy)) (fun iv _ => n - (intOf iv).toNat)
                      case atStart => exact ⟨0, Nat.zero_le _, rfl, HB⟩
                      case round =>
                        obtain ⟨i, hi, rfl, HI⟩ := hrel
                        have c1 := (HI.out.cell (p := ⟨gb, k, none⟩) hgb).trans hcg
                        have c2 := (HI.out.cell (p := ⟨gl, ol + k, none⟩) hgl).trans hcv
                        by_cases hin : i < n
                        · have c3 := (HI.out.cell (p := ⟨ga, oa + i, none⟩) hga).trans (HCA.out i (.int .i64 (mk k i)) (by
                            have h1 : (z.take n)[i]? = some (mk k i) := by rw [HZ.out, marks_get hin]
                            rw [List.getElem?_take, if_pos hin] at h1
                            simp [ints, h1]))
                          have hmk := fun d os => show Calls Tryz.prog 81 #[.int .i64 (k : Int), .int .i64 (i : Int)] (Go.Sort.grow (redrawn wr d) os) (fun e w'' => e = .returned (.int .i64 (mk k i)) ∧ ∃ p : Regrown, w'' = Go.Sort.grow (redrawn wr p.d) p.os) from
                            (HMK.out _ k i (by omega) (by omega)).mono fun e w' ⟨he, hw⟩ => ⟨he, ⟨d, os⟩, hw⟩
                          have HM := Lib.hid hmk
                          clear hmk
                          obtain ⟨h, cur, hSe, -, hbl, -, -, -, -⟩ := HRK.out.form (by omega)
                          subst hSe
                          have c4 := (HI.out.cell (p := ⟨h, i, none⟩) hbl.lt).trans (HRK.out.cellAt (k := i) (u := .int .i64 (mk k i)) (by simp [ints, marks_get hin])).1
                          have v1 := cell_regrown c1; have v2 := cell_regrown c2; have v3 := cell_regrown c3; have v4 := cell_regrown c4
                          clear hbl
                          go_upto_region 41 with fail
                          refine wp_region_quiet_below (by kernel_rfl) (by kernel_rfl) ?_
                          clear c1 c2 c3 c4
                          repeat (go_big_quiet_step (with_reducible exact HM.out _ _))
                          refine wpQuiet_nil ?_
                          intro _ hw'
                          obtain ⟨⟨dq, osq⟩, hw''⟩ := hw'
                          have HF := Lib.hid (HI.out.trans ((below_regrown wr dq osq).mono HI.out.size))
                          subst hw''
                          clear v1 v2 v3 v4
                          go_wp2_with fail
                          go_roundw
                          case rel => exact ⟨i + 1, by omega, by go_num, HF⟩
                          case measure => simp [intOf]; omega
                        · obtain rfl : i = n := by omega
                          go_wp2_with fail
                          go_roundw
                          case rel => exact ⟨k + 1, by omega, by go_num, HI⟩
                          case measure => simp [intOf]; omega
                    · obtain rfl : N = k := by omega
                      have HF := Lib.hid (HK.out.1.trans ((Step.refl [] w20 ok).below HB.out 5).nil)
                      go_wp2_with fail
                      rw [HP.out]
                      exact ⟨rfl, _, HF.out⟩
end Go.Proofs.YtkiknbjokknemaaGreat
