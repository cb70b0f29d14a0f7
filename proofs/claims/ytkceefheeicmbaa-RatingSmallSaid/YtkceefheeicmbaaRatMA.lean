/-
  WALK of teams.
-/
import Derived.Test.YtkceefheeicmbaaRatAF
import Derived.Test.YtkceefheeicmbaaRatKB
import Derived.Test.YtkceefheeicmbaaKitG
namespace Go.Proofs.Ytkceefheeicmbaa
open Go.RowKit

/-- An append whose guard holds. -/
theorem wpList_append_rowW {P : Program} (w : World) {ops : Array Oper} {rest : List Oper} {o : Oper} {a : Act} {Q : Exit → Act → World → Prop} (s x : Operand) (t : TypeId)
    (ho : o.op = .call { callee := .builtin .append, args := #[s, x], argTypes := #[t, t] })
    {e : TypeId} {sz bytes : Nat} {z : Value} (he : Elem P t e sz bytes z) (ow : Own) (τ : Nat)
    (A : Option Addr) (n c : Nat) (xs : List Value) (hs : a.eval s = .slice A n c) (hR : Row w ow τ e sz A n c xs) (o2 : Own) (τ2 : Nat) (B : Option Addr) (m d : Nat) (news : List Value) (hx : a.eval x = .slice B m d) (hS : Sl w o2 τ2 sz B m d news)
    (h1 : ∀ u ∈ news, u.oneCell' = true) (hbytes : (n + m) * bytes ≤ 140737488355328) (h63 : n + m ≤ maxLen) (hw : Region.wanted o (yielded ops a.tmps) = true)
    (h : ∀ A' c' w', Row w' (ext ow w.heap.size τ) τ e sz A' (n + m) c' (xs ++ news) → w.grownBy w' (Value.slice A n c).ownBlock → (∀ ad, A' = some ad → (∃ ad0, A = some ad0 ∧ ad.block = ad0.block) ∨ ad.block = w.heap.size) →
      wpList P ops Q rest (a.put o.dst (.slice A' (n + m) c')) w') : wpList P ops Q (o :: rest) a w := by
  refine wpList_step fun K hK => ?_
  rw [if_pos hw]
  obtain ⟨A', c', w', hrun, h2, h3, h4⟩ := run_append_row (P := P) w o.type he ow τ hR hS h1 hbytes h63
  unfold Oper.wp execOp
  simp only [ho, resolve, invoke, builtin, Sem.run_bind, Sem.run_pure, Result.andThen_ok, List.map_toArray, List.map_cons, List.map_nil, hs, hx, hrun]
  exact hK _ _ (h A' c' w' h2 h3 h4)

/-- Two rows of n ints each. -/
def Two (w W : World) (o : Own) (n : Nat) (A : Option Addr) (c : Nat) (B : Option Addr) (d : Nat) : Prop :=
  Step [] w (fun _ => 0) W o ∧ (∃ xs, Row W o 61 3 1 A n c (ints xs)) ∧ ∃ ys, Row W o 62 3 1 B n d (ints ys)
theorem Two.step {w W W' : World} {o o' : Own} {n c d : Nat} {A B : Option Addr} (h : Two w W o n A c B d) {ts : List Nat} (k : Step ts W o W' o') (hf : ∀ t ∈ ts, t ≠ 0 ∧ t ≠ 61 ∧ t ≠ 62) : Two w W' o' n A c B d := by
  obtain ⟨hs, ⟨xs, hx⟩, ys, hy⟩ := h
  refine ⟨((hs.mono (ts' := ts) (by simp)).trans k).forget (ts' := []) (fun t ht _ j _ => (hf t ht).1.symm), ⟨xs, hx.step k (fun h => (hf _ h).2.1 rfl)⟩, ys, hy.step k (fun h => (hf _ h).2.2 rfl)⟩
/-- The same, of two lengths. -/
def TwoX (w W : World) (o : Own) (n : Nat) (A : Option Addr) (c m : Nat) (B : Option Addr) (d : Nat) : Prop :=
  Step [] w (fun _ => 0) W o ∧ (∃ xs, Row W o 61 3 1 A n c (ints xs)) ∧ ∃ ys, Row W o 62 3 1 B m d (ints ys)
theorem TwoX.step {w W W' : World} {o o' : Own} {n c m d : Nat} {A B : Option Addr} (h : TwoX w W o n A c m B d) (k : Step [] W o W' o') : TwoX w W' o' n A c m B d := by
  obtain ⟨hs, ⟨xs, hx⟩, ys, hy⟩ := h
  exact ⟨hs.trans k, ⟨xs, hx.step k (by simp)⟩, ys, hy.step k (by simp)⟩
theorem TwoX.app1 {w W W' : World} {o o' : Own} {n c m d n' c' : Nat} {A B A' : Option Addr} {vs : List Value} {zs : List Int} (h : TwoX w W o n A c m B d) (k : Step [61] W o W' o') (hr : Row W' o' 61 3 1 A' n' c' vs) (e : vs = ints zs) : TwoX w W' o' n' A' c' m B d := by
  obtain ⟨hs, -, ys, hy⟩ := h
  exact ⟨((hs.mono (ts' := [61]) (by simp)).trans k).forget (ts' := []) (fun t ht _ j _ => by simp at ht; subst ht; decide), ⟨zs, by rw [← e]; exact hr⟩, ys, hy.step k (by simp)⟩
theorem TwoX.app2 {w W W' : World} {o o' : Own} {n c m d n' c' : Nat} {A B A' : Option Addr} {vs : List Value} {zs : List Int} (h : TwoX w W o n A c m B d) (k : Step [62] W o W' o') (hr : Row W' o' 62 3 1 A' n' c' vs) (e : vs = ints zs) : TwoX w W' o' n A c n' A' c' := by
  obtain ⟨hs, ⟨xs, hx⟩, -⟩ := h
  exact ⟨((hs.mono (ts' := [62]) (by simp)).trans k).forget (ts' := []) (fun t ht _ j _ => by simp at ht; subst ht; decide), ⟨xs, hx.step k (by simp)⟩, zs, by rw [← e]; exact hr⟩
theorem Row.cellM {w : World} {o : Own} {τ : Nat} {e : TypeId} {sz h n c j : Nat} {xs : List Value} {u : Value} (hR : Row w o τ e sz (some ⟨h, 0, none⟩) n c xs) (hn : 0 < n) (hj : xs[j]? = some u) : w.cell? ⟨h, j, none⟩ = some u ∧ w.frozen? ⟨h, j, none⟩ = false := by
  obtain ⟨g, cur, hA, -, hb, -⟩ := hR.form hn
  injection hA with hA; injection hA with hA; subst hA
  obtain ⟨g', off, hA, -, -, hc⟩ := hR.sl.2.2.2 hn
  injection hA with hA; injection hA with h1 h2; subst h1 h2
  have := hc j u hj
  rw [Nat.zero_add] at this
  exact ⟨this, hb.frozen j⟩
def Third (W : World) (o : Own) (n : Nat) (A : Option Addr) (c : Nat) : Prop := ∃ zs, Row W o 63 3 1 A n c (ints zs)
theorem third_mk {W : World} {o : Own} {n c : Nat} {A : Option Addr} {vs : List Value} {zs : List Int} (h : Row W o 63 3 1 A n c vs) (e : vs = ints zs) : Third W o n A c := ⟨zs, by rw [← e]; exact h⟩
theorem Third.step {W W' : World} {o o' : Own} {n c : Nat} {A : Option Addr} (h : Third W o n A c) {ts : List Nat} (k : Step ts W o W' o') (hf : 63 ∉ ts) : Third W' o' n A c := by
  obtain ⟨zs, hz⟩ := h
  exact ⟨zs, hz.step k hf⟩
theorem two_matches {w W : World} {o : Own} {n c d : Nat} {A B : Option Addr} (h : Two w W o n A c B d) {m e : Nat} {C : Option Addr} (k : Third W o m C e) (hn : n ≤ 20) (hm : m ≤ 20) (s t : Int) :
    Calls Try.prog 20 #[.slice A n c, .slice C m e, .int .i64 s, .int .i64 t] W (SaysTo W true) ∧ Calls Try.prog 20 #[.slice C m e, .slice A n c, .int .i64 s, .int .i64 t] W (SaysTo W true) := by
  obtain ⟨-, ⟨xs, hx⟩, -⟩ := h
  obtain ⟨zs, hz⟩ := k
  exact ⟨matches_any W _ _ _ _ _ _ xs zs hx.sl.old0 hz.sl.old0 hn hm s t, matches_any W _ _ _ _ _ _ zs xs hz.sl.old0 hx.sl.old0 hm hn s t⟩

set_option maxRecDepth 100000 in
set_option maxHeartbeats 8000000 in
theorem teams_any (w : World) : Calls Try.prog 29 #[] w (SaysTo w true) := by
  go_enter Try.func29, Try.ntmps29
  go_wp2_with fail
  go_loopw [3, 1, 2] (fun s a b wr => ∃ (n : Nat) (A : Option Addr) (c : Nat) (B : Option Addr) (d : Nat) (o : Own), n ≤ 10 ∧ s = .int .i64 n ∧ a = .slice A n c ∧ b = .slice B n d ∧ Hid (Two w wr o n A c B d)) (fun s _ _ _ => 10 - (intOf s).toNat)
  case atStart => exact ⟨0, none, 0, none, 0, _, Nat.zero_le _, rfl, rfl, rfl, Lib.hid ⟨Step.refl _ _ _, ⟨[], Row.nil_ _ _ _ _ _⟩, [], Row.nil_ _ _ _ _ _⟩⟩
  case round => as_aux_lemma =>
    obtain ⟨n, A, c, B, d, o, hn, rfl, rfl, rfl, HT⟩ := hrel
    by_cases hlt : n ≤ 9
    · have d9 : decide ((n : Int) ≤ 9) = true := by simp; omega
      go_wp2_with fail
      go_loopw [4] (fun s wr => ∃ (k : Nat) (o : Own), k ≤ 5 ∧ s = .int .i64 k ∧ Hid (Two w wr o n A c B d)) (fun s _ => 5 - (intOf s).toNat)
      case atStart => exact ⟨0, o, Nat.zero_le _, rfl, HT⟩
      case round => as_aux_lemma =>
        clear HT
        obtain ⟨k, o, hk, rfl, HT⟩ := hrel
        by_cases hlk : k < 5
        · have sE := (Step.refl [] wr o).alloc (.cells #[] 3) 63
          have HR0 := Lib.hid (Row.made (w := wr) o 63 3 1 #[] 0 rfl (Nat.zero_le _) 0 (Nat.le_refl _))
          have HT1 := Lib.hid (HT.out.step sE (by simp))
          clear sE HT
          obtain ⟨ys, hys⟩ := HT1.out.2.2
          have HY := Lib.hid hys
          clear hys
          obtain ⟨Z, hZ⟩ : ∃ Z : List Int, Z = [1500, 0, 4000, 4001, -1] := ⟨_, rfl⟩
          obtain ⟨V, hV⟩ : ∃ V : Array Value, V = (Z.map (Value.int .i64)).toArray := ⟨_, rfl⟩
          obtain ⟨x, hx0⟩ : ∃ x : Int, Z[k]? = some x := ⟨_, List.getElem?_eq_getElem (by rw [hZ]; exact hlk)⟩
          have hx : V[k]? = some (.int .i64 x) := by rw [hV, List.getElem?_toArray, List.getElem?_map, hx0]; rfl
          have HX := Lib.hid hx; have HV := Lib.hid hV; have HZ := Lib.hid hZ
          clear hx hx0 hV hZ
          have hk5 : (k : Int) < 5 := by omega
          go_upto_region 9 with (at_builtin; refine wpList_append_row _ rfl (.tmp 14) (.tmp 15) _ rfl el_int _ 63 _ 0 0 [] rfl HR0.out _ 62 B n d (ints ys) rfl HY.out.sl (one_ints _) (by omega) (by simp only [maxLen]; omega) ?_; intro A2 c2 w3 hr3 hg3 hat3; have sA := Step.append HR0.out hg3 63; simp only [Nat.zero_add, List.nil_append] at hr3; have HT3 := Lib.hid (HT1.out.step sA (by simp)); have HC3 := Lib.hid hr3; clear hr3 hg3 hat3 sA HR0 HT1 HY)
          obtain ⟨o3, ho3⟩ : ∃ o', o' = ext (ext o wr.heap.size 63) (wr.alloc (.cells #[] 3)).heap.size 63 := ⟨_, rfl⟩
          rw [← ho3] at HT3 HC3
          clear ho3
          by_cases h0 : ¬ 0 < n
          · have d0 : decide ((0 : Int) < (n : Int)) = false := by simp; omega
            obtain ⟨W5, hW5⟩ : ∃ W, W = w3 := ⟨_, rfl⟩
            obtain ⟨o5, ho5⟩ : ∃ o', o' = o3 := ⟨_, rfl⟩
            have HT5 := Lib.hid HT3.out; have HK5 : Hid (Third w3 o3 n A2 c2) := Lib.hid ⟨ys, HC3.out⟩
            rw [← hW5, ← ho5] at HT5 HK5
            rw [← hW5]
            clear hW5 ho5 HT3 HC3
            go_wp2_with fail
            refine (two_matches HT5.out HK5.out (by omega) (by omega) _ _).1.mono ?_
            rintro e w6 ⟨rfl, hb6⟩
            have s6 := (Step.refl [] W5 o5).below hb6 5
            have HT6 := Lib.hid (HT5.out.step s6 (by simp)); have HK6 := Lib.hid (HK5.out.step s6 (by simp))
            obtain ⟨o6, ho6⟩ : ∃ o', o' = ext o5 W5.heap.size 5 := ⟨_, rfl⟩
            rw [← ho6] at HT6 HK6
            clear s6 hb6 ho6 HT5 HK5
            go_wp2_with fail
            refine (two_matches HT6.out HK6.out (by omega) (by omega) _ _).2.mono ?_
            rintro e w7 ⟨rfl, hb7⟩
            have s7 := (Step.refl [] w6 o6).below hb7 5
            have HT7 := Lib.hid (HT6.out.step s7 (by simp)); have HK7 := Lib.hid (HK6.out.step s7 (by simp))
            obtain ⟨o7, ho7⟩ : ∃ o', o' = ext o6 w6.heap.size 5 := ⟨_, rfl⟩
            rw [← ho7] at HT7 HK7
            clear s7 hb7 ho7 HT6 HK6
            have sN := (Step.refl [] w7 o7).alloc (.cells #[.int .i64 5] 3) 5
            have HN := Lib.hid (Sl.one w7 o7 5 3 (.int .i64 5))
            have HT8 := Lib.hid (HT7.out.step sN (by simp))
            obtain ⟨zs, hzs⟩ := HK7.out.step sN (by simp)
            have HZ8 := Lib.hid hzs
            clear sN hzs HT7 HK7
            go_wp2_with (at_builtin; refine wpList_append_rowW _ (.tmp 42) (.tmp 43) _ rfl el_int _ 63 A2 n c2 (ints zs) rfl HZ8.out _ 5 _ 1 1 [.int .i64 5] rfl HN.out (by simp [Value.oneCell']) (by omega) (by simp only [maxLen]; omega) rfl ?_; intro A9 c9 w9 hr9 hg9 hat9; have sA := Step.append HZ8.out hg9 63; have HT9 := Lib.hid (HT8.out.step sA (by simp)); have HK9 := Lib.hid (third_mk hr9 (zs := zs ++ [5]) (by simp [ints])); clear hr9 hg9 hat9 sA HZ8 HN HT8)
            refine (two_matches HT9.out HK9.out (by omega) (by omega) _ _).1.mono ?_
            rintro e w10 ⟨rfl, hb10⟩
            have HT10 := Lib.hid (HT9.out.step ((Step.refl [] w9 _).below hb10 5) (by simp))
            clear hb10 HT9 HK9
            go_wp2_with fail
            go_roundw
            case rel => exact ⟨k + 1, _, by omega, by go_num, HT10⟩
            case measure => simp [intOf]; omega
          · have h0 : 0 < n := by omega
            obtain ⟨j, hj⟩ : ∃ j, n = j + 1 := ⟨n - 1, by omega⟩
            obtain ⟨g, cur, rfl, -, -, -⟩ := HC3.out.form (by omega)
            have sL := (Step.refl [] w3 o3).alloc (.cells V 3) 5
            have hbk := (Blk.new w3 3 V).cell k
            rw [HX.out] at hbk
            have HT4 := Lib.hid (HT3.out.step sL (by simp)); have HC4 := Lib.hid (HC3.out.step sL (by simp))
            obtain ⟨y, hy⟩ : ∃ y, (ints ys)[j]? = some y := ⟨_, List.getElem?_eq_getElem (by rw [HC3.out.len]; omega)⟩
            obtain ⟨c1, f1⟩ := Row.cellM HC4.out (by omega) hy
            have sS := (Step.refl [63] (w3.alloc (.cells V 3)) (ext o3 w3.heap.size 5)).setCell (p := ⟨g, j, none⟩) (.inr (by simp [HC4.out.2 _ rfl])) (.int .i64 x)
            have HT5 := Lib.hid (HT4.out.step sS (by simp))
            have hK5 := HC4.out.setc (k := j) (by omega) (.int .i64 x)
            have HK5 : Hid (Third _ _ n _ c2) := Lib.hid ⟨ys.set j x, by rw [show ints (ys.set j x) = (ints ys).set j (.int .i64 x) by simp [ints, List.map_set]]; exact hK5⟩
            have hw : IntKind.i64.wrap ((n : Int) - 1) = (j : Int) := (IntWalk.i64_in _ (by omega)).trans (by omega)
            have hj1 : (j : Int) < (n : Int) := by omega
            have d0 : decide ((0 : Int) < (n : Int)) = true := by simp; omega
            have HC1 := Lib.hid c1; have HF1 := Lib.hid f1; have HBK := Lib.hid hbk
            clear hj hK5 sS hy sL HT3 HC3 HT4 HC4 HX c1 f1 hbk
            go_upto_region 11 with (first
              | (refine wpList_buildFlat rfl 32 3 5 _ rfl .i64 Z Try.underlying32 (by kernel_rfl) (by kernel_rfl) (by rw [HZ.out]; rfl) (by decide) (by decide) (by rw [HZ.out]; rfl) ?_; rw [← HV.out])
              | (refine wpList_load_int rfl 3 (.tmp 24) rfl ⟨w3.heap.size, k, none⟩ rfl (.int .i64 x) HBK.out Try.underlying3 ?_)
              | (refine wpList_store_cell rfl 3 (.tmp 26) (.tmp 25) rfl g j rfl (.int .i64 x) y rfl rfl HC1.out HF1.out (by kernel_rfl) ?_))
            clear HC1 HF1 HBK
            obtain ⟨W5, hW5⟩ : ∃ W, W = (w3.alloc (.cells V 3)).setCell ⟨g, j, none⟩ (.int .i64 x) := ⟨_, rfl⟩
            obtain ⟨o5, ho5⟩ : ∃ o', o' = ext o3 w3.heap.size 5 := ⟨_, rfl⟩
            rw [← hW5, ← ho5] at HT5 HK5
            rw [← hW5]
            clear hW5 ho5
            go_wp2_with fail
            refine (two_matches HT5.out HK5.out (by omega) (by omega) _ _).1.mono ?_
            rintro e w6 ⟨rfl, hb6⟩
            have s6 := (Step.refl [] W5 o5).below hb6 5
            have HT6 := Lib.hid (HT5.out.step s6 (by simp)); have HK6 := Lib.hid (HK5.out.step s6 (by simp))
            obtain ⟨o6, ho6⟩ : ∃ o', o' = ext o5 W5.heap.size 5 := ⟨_, rfl⟩
            rw [← ho6] at HT6 HK6
            clear s6 hb6 ho6 HT5 HK5
            go_wp2_with fail
            refine (two_matches HT6.out HK6.out (by omega) (by omega) _ _).2.mono ?_
            rintro e w7 ⟨rfl, hb7⟩
            have s7 := (Step.refl [] w6 o6).below hb7 5
            have HT7 := Lib.hid (HT6.out.step s7 (by simp)); have HK7 := Lib.hid (HK6.out.step s7 (by simp))
            obtain ⟨o7, ho7⟩ : ∃ o', o' = ext o6 w6.heap.size 5 := ⟨_, rfl⟩
            rw [← ho7] at HT7 HK7
            clear s7 hb7 ho7 HT6 HK6
            have sN := (Step.refl [] w7 o7).alloc (.cells #[.int .i64 5] 3) 5
            have HN := Lib.hid (Sl.one w7 o7 5 3 (.int .i64 5))
            have HT8 := Lib.hid (HT7.out.step sN (by simp))
            obtain ⟨zs, hzs⟩ := HK7.out.step sN (by simp)
            have HZ8 := Lib.hid hzs
            clear sN hzs HT7 HK7
            go_wp2_with (at_builtin; refine wpList_append_rowW _ (.tmp 42) (.tmp 43) _ rfl el_int _ 63 (some ⟨g, 0, none⟩) n c2 (ints zs) rfl HZ8.out _ 5 _ 1 1 [.int .i64 5] rfl HN.out (by simp [Value.oneCell']) (by omega) (by simp only [maxLen]; omega) rfl ?_; intro A9 c9 w9 hr9 hg9 hat9; have sA := Step.append HZ8.out hg9 63; have HT9 := Lib.hid (HT8.out.step sA (by simp)); have HK9 := Lib.hid (third_mk hr9 (zs := zs ++ [5]) (by simp [ints])); clear hr9 hg9 hat9 sA HZ8 HN HT8)
            refine (two_matches HT9.out HK9.out (by omega) (by omega) _ _).1.mono ?_
            rintro e w10 ⟨rfl, hb10⟩
            have HT10 := Lib.hid (HT9.out.step ((Step.refl [] w9 _).below hb10 5) (by simp))
            clear hb10 HT9 HK9
            go_wp2_with fail
            go_roundw
            case rel => exact ⟨k + 1, _, by omega, by go_num, HT10⟩
            case measure => simp [intOf]; omega
        · obtain rfl : k = 5 := by omega
          have s1 := (Step.refl [] wr o).alloc (.cells #[.int .i64 (1400 + 37 * (n : Int))] 3) 5
          have H1 : Hid (TwoX _ _ _ n A c n B d) := Lib.hid (TwoX.step HT.out s1)
          have N1 := Lib.hid (Sl.one wr o 5 3 (.int .i64 (1400 + 37 * (n : Int))))
          obtain ⟨xs, hxs⟩ := H1.out.2.1
          have HX1 := Lib.hid hxs
          clear s1 hxs HT
          go_wp2_with (first
            | (at_builtin; refine wpList_append_row _ rfl (.tmp 48) (.tmp 52) _ rfl el_int _ 61 A n c (ints xs) rfl HX1.out _ 5 _ 1 1 [_] rfl N1.out (by simp [Value.oneCell']) (by omega) (by simp only [maxLen]; omega) ?_; intro A3 c3 w3 hr3 hg3 hat3; have sA := Step.append HX1.out hg3 61; have H2 := Lib.hid (TwoX.app1 H1.out sA hr3 (zs := xs ++ [1400 + 37 * (n : Int)]) (by simp [ints])); obtain ⟨o3, ho3⟩ : ∃ o3, o3 = ext (ext o wr.heap.size 5) (wr.alloc (.cells #[.int .i64 (1400 + 37 * (n : Int))] 3)).heap.size 61 := ⟨_, rfl⟩; rw [← ho3] at H2; have s2 := (Step.refl [] w3 o3).alloc (.cells #[.int .i64 (1700 - 41 * (n : Int))] 3) 5; have H3 := Lib.hid (TwoX.step H2.out s2); have N2 := Lib.hid (Sl.one w3 o3 5 3 (.int .i64 (1700 - 41 * (n : Int)))); obtain ⟨ys, hys⟩ := H3.out.2.2; have HY3 := Lib.hid hys; clear hr3 hg3 hat3 sA s2 hys H1 H2 HX1 N1 ho3)
            | (at_builtin; refine wpList_append_row _ rfl (.tmp 54) (.tmp 58) _ rfl el_int _ 62 B n d (ints ys) rfl HY3.out _ 5 _ 1 1 [_] rfl N2.out (by simp [Value.oneCell']) (by omega) (by simp only [maxLen]; omega) ?_; intro A5 c5 w5 hr5 hg5 hat5; have sA := Step.append HY3.out hg5 62; have H5 := Lib.hid (TwoX.app2 H3.out sA hr5 (zs := ys ++ [1700 - 41 * (n : Int)]) (by simp [ints])); clear hr5 hg5 hat5 sA H3 HY3 N2))
          go_roundw
          case rel => exact ⟨n + 1, A3, c3, A5, c5, _, by omega, by go_num, rfl, rfl, Lib.hid H5.out⟩
          case measure => simp [intOf]; omega
    · obtain rfl : n = 10 := by omega
      go_wp2_with fail
      go_ret
      exact ⟨rfl, HT.out.1.to_below (by simp)⟩
end Go.Proofs.Ytkceefheeicmbaa
