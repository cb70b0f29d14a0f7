/-
  WALK of BudgetWrong: one theorem for each defect. (Printed by wip/gen/gen_wrong.py.)
-/
import Derived.Test.YtkiknbjokknemaaBudX
namespace Go.Proofs.Ytkiknbjokknemaa
open Go.RowKit

theorem Row.setG {w : World} {o : Own} {τ : Nat} {e : TypeId} {sz h n c k : Nat} {xs : List Value} (hR : Row w o τ e sz (some ⟨h, 0, none⟩) n c xs) (hn : 0 < n) (u : Value) : Row (w.setCell ⟨h, k, none⟩ u) o τ e sz (some ⟨h, 0, none⟩) n c (xs.set k u) := by
  have hl := hR.len
  obtain ⟨g, cur, hA, ho, hb, hnc, hm, hsz, ht⟩ := hR.form hn
  injection hA with hA; injection hA with hA; subst hA
  refine ⟨⟨by simpa using hl, .inr ⟨h, c, cur.setIfInBounds k u, rfl, Nat.zero_le _, hb.set_ k u, hnc, hm, by simpa using hsz, ?_⟩⟩, fun ad ha => by injection ha with ha; subst ha; exact ho⟩
  rw [← ht, Array.toList_setIfInBounds, List.take_set]
theorem Row.cellG {w : World} {o : Own} {τ : Nat} {e : TypeId} {sz n c : Nat} {A : Option Addr} {xs : List Value} (hR : Row w o τ e sz A n c xs) {k : Nat} {u : Value} (hk : xs[k]? = some u) (hn : 0 < n) : ∃ h, A = some ⟨h, 0, none⟩ ∧ o h = τ ∧ h < w.heap.size ∧ w.cell? ⟨h, k, none⟩ = some u ∧ w.frozen? ⟨h, k, none⟩ = false := by
  obtain ⟨g, cur, hA, ho, hb, hnc, hm, hsz, ht⟩ := hR.form hn
  refine ⟨g, hA, ho, hb.lt, ?_, hb.frozen k⟩
  rw [hb.cell]
  rw [← ht, List.getElem?_take] at hk
  split at hk
  · simpa using hk
  · cases hk

theorem laidI {w : World} {o : Own} {e : TypeId} {σ sz n c : Nat} {A : Option Addr} {vs : List Value} (h : Row w o σ e sz A n c vs) (cs : Array Value) (m : Nat) (hcs : cs.size = m) (_hm : m ≤ 9) (t : TypeId) :
    ∃ oW, Step [] w o (w.alloc (.cells cs t)) oW ∧ Row (w.alloc (.cells cs t)) oW σ e sz A n c vs ∧ Sl (w.alloc (.cells cs t)) oW 5 m (some ⟨w.heap.size, 0, none⟩) 1 1 cs.toList ∧ ∀ {sz' n' c' : Nat} {τ' : Nat} {A' : Option Addr} {e' : TypeId} {vs' : List Value}, Row w o τ' e' sz' A' n' c' vs' → Row (w.alloc (.cells cs t)) oW τ' e' sz' A' n' c' vs' := by
  have st := (Step.refl [] w o).alloc (.cells cs t) 5
  have b' := Blk.new w t cs
  refine ⟨_, st, h.step st (by simp), ⟨by simp [hcs], Nat.le_refl _, by decide, fun _ => ⟨w.heap.size, 0, rfl, ext_ge (Nat.le_refl _), b'.lt, fun j u hj => ?_⟩⟩, fun hr => hr.step st (by simp)⟩
  rw [Nat.zero_add, b'.cell]
  simpa using hj

theorem Sl.under {w w' : World} {o : Own} {τ sz n c : Nat} {A : Option Addr} {xs : List Value} (_h : Sl w o τ sz A n c xs) (hb : Below w.heap.size w w') : Step [] w o w' (ext o w.heap.size 5) := (Step.refl [] w o).below hb 5
theorem Row.stored {w : World} {o : Own} {τ : Nat} {e : TypeId} {sz h n c : Nat} {xs : List Value} (hR : Row w o τ e sz (some ⟨h, 0, none⟩) n c xs) (k : Nat) (u : Value) : Step [τ] w o (w.setCell ⟨h, k, none⟩ u) o :=
  (Step.refl [τ] w o).setCell (.inr (by simp [hR.2 _ rfl])) u
theorem wnts_end (l : List (Int × Int)) (a b : Int) (k : Nat) : (k = l.length * 2 → (wnts l ++ [Value.int .i64 a, .int .i64 b])[k]? = some (.int .i64 a)) ∧ (k = l.length * 2 + 1 → (wnts l ++ [Value.int .i64 a, .int .i64 b])[k]? = some (.int .i64 b)) := by
  refine ⟨fun h => ?_, fun h => ?_⟩
  · rw [List.getElem?_append_right (by rw [len_wnts]; omega), len_wnts, h, Nat.sub_self]; rfl
  · rw [List.getElem?_append_right (by rw [len_wnts]; omega), len_wnts, h, show l.length * 2 + 1 - l.length * 2 = 1 by omega]; rfl
theorem itms_end (l : List It) (a b c : Int) (k : Nat) : (k = l.length * 3 + 1 → (itms l ++ [Value.int .i64 a, .int .i64 b, .int .i64 c])[k]? = some (.int .i64 b)) ∧ (k = l.length * 3 + 2 → (itms l ++ [Value.int .i64 a, .int .i64 b, .int .i64 c])[k]? = some (.int .i64 c)) := by
  refine ⟨fun h => ?_, fun h => ?_⟩
  · rw [List.getElem?_append_right (by rw [len_itms]; omega), len_itms, h, show l.length * 3 + 1 - l.length * 3 = 1 by omega]; rfl
  · rw [List.getElem?_append_right (by rw [len_itms]; omega), len_itms, h, show l.length * 3 + 2 - l.length * 3 = 2 by omega]; rfl

theorem wnts_app (l m : List (Int × Int)) : wnts (l ++ m) = wnts l ++ wnts m := by simp [wnts]
theorem itms_app (l m : List It) : itms (l ++ m) = itms l ++ itms m := by simp [itms]
theorem wnts_set0 (l : List (Int × Int)) (a b x : Int) (k : Nat) (hk : k = l.length * 2) : (wnts l ++ [Value.int .i64 a, .int .i64 b]).set k (.int .i64 x) = wnts (l ++ [(x, b)]) := by
  rw [List.set_append_right _ _ (by rw [len_wnts]; omega), len_wnts, wnts_app, show k - l.length * 2 = 0 by omega]; rfl
theorem wnts_set1 (l : List (Int × Int)) (a b x : Int) (k : Nat) (hk : k = l.length * 2 + 1) : (wnts l ++ [Value.int .i64 a, .int .i64 b]).set k (.int .i64 x) = wnts (l ++ [(a, x)]) := by
  rw [List.set_append_right _ _ (by rw [len_wnts]; omega), len_wnts, wnts_app, show k - l.length * 2 = 1 by omega]; rfl
theorem itms_set1 (l : List It) (a b c x : Int) (k : Nat) (hk : k = l.length * 3 + 1) : (itms l ++ [Value.int .i64 a, .int .i64 b, .int .i64 c]).set k (.int .i64 x) = itms (l ++ [⟨a, x, c⟩]) := by
  rw [List.set_append_right _ _ (by rw [len_itms]; omega), len_itms, itms_app, show k - l.length * 3 = 1 by omega]; rfl
theorem itms_set2 (l : List It) (a b c x : Int) (k : Nat) (hk : k = l.length * 3 + 2) : (itms l ++ [Value.int .i64 a, .int .i64 b, .int .i64 c]).set k (.int .i64 x) = itms (l ++ [⟨a, b, x⟩]) := by
  rw [List.set_append_right _ _ (by rw [len_itms]; omega), len_itms, itms_app, show k - l.length * 3 = 2 by omega]; rfl

theorem not_right {ws : List (Int × Int)} (h : ¬ RightP ws) : rightB ws = false := by
  cases c : rightB ws with
  | false => rfl
  | true => exact absurd ((rightB_iff ws).1 c) h
theorem not_valid {l : List It} (h : ¬ ValidP l) : validB l = false := by
  cases c : validB l with
  | false => rfl
  | true => exact absurd ((validB_iff l).1 c) h

/-- The turn's wants, and one more. -/
theorem right_more {ws : List (Int × Int)} (hr : RightP ws) (hl : ws.length ≤ 16) (hs : ∀ x ∈ ws, x.1 < 100) : RightP (ws ++ [(100, 1)]) := by
  refine ⟨by simp; omega, fun x hx => ?_, ?_⟩
  · rcases List.mem_append.1 hx with h | h
    · exact hr.2.1 x h
    · rw [List.mem_singleton.1 h]; exact ⟨by omega, by omega, by omega, by omega⟩
  · rw [List.pairwise_append]
    exact ⟨hr.2.2, List.pairwise_singleton _ _, fun a ha b hb => by rw [List.mem_singleton.1 hb]; exact hs a ha⟩
theorem valid_more {l : List It} (h : ValidP l) (hl : l.length ≤ 16) (hs : ∀ x ∈ l, x.id < 100) : ValidP (l ++ [⟨100, 1, 0⟩]) := by
  refine ⟨?_, fun x hx => ?_⟩
  · rw [List.map_append]
    exact right_more h.1 (by simpa using hl) (fun x hx => by obtain ⟨y, hy, rfl⟩ := List.mem_map.1 hx; exact hs y hy)
  · rcases List.mem_append.1 hx with h' | h'
    · exact h.2 x h'
    · rw [List.mem_singleton.1 h']; exact ⟨Int.le_refl _, by simp [topScore]⟩

set_option maxRecDepth 100000 in
set_option maxHeartbeats 2000000 in
theorem wrong_6 (w : World) (bits weights k way low high : Int) (hb0 : 0 ≤ bits) (hb1 : bits ≤ 65535) (hw0 : 0 ≤ weights) (hw1 : weights ≤ 18446744073709551615) (hk0 : 0 ≤ k) (hk1 : k ≤ 255) (hy0 : 0 ≤ way) (hy1 : way ≤ 255) (hway : way % 8 = 6)
    (hlo : -9223372036854775808 ≤ low) (hhi : high ≤ 9223372036854775807) :
    Calls Try.prog 10 #[.agg #[.int .u16 bits, .int .u64 weights, .int .u8 k], .int .u8 way, .int .i64 low, .int .i64 high] w (SaysTo w true) := by
  have hmade := fun W o => made_any W o 20 bits weights k hb0 hb1 hw0 hw1 hk0 hk1
  obtain ⟨κ, hκ⟩ : ∃ κ : Nat, 1 + k % 4 = (κ : Int) := ⟨(1 + k % 4).toNat, by omega⟩
  have hκ4 : κ ≤ 4 := by omega
  rw [hκ] at hmade
  obtain ⟨ws, hws⟩ : ∃ ws, ws = madeTo bits.toNat weights.toNat 16 := ⟨_, rfl⟩
  rw [← hws] at hmade
  have hr : RightP ws := by rw [hws]; exact madeTo_right _ _ _ (by omega)
  have hn16 : ws.length ≤ 16 := by rw [hws]; exact madeTo_len _ _ _
  have hs100 : ∀ x ∈ ws, x.1 < 100 := fun x hx => by rw [hws] at hx; obtain ⟨i, hi, h1, -⟩ := madeTo_mem hx; omega
  obtain ⟨L, hL⟩ : ∃ L, min low (-1) = L := ⟨_, rfl⟩
  obtain ⟨G, hG⟩ : ∃ G, max high 1073741825 = G := ⟨_, rfl⟩
  have hL1 : L < 0 := by omega
  have hG1 : 1073741825 ≤ G := by omega
  have hL2 : min L 0 = L := by omega
  have hG2 : max G 65 = G := by omega
  have HMD := Lib.hid hmade; have HR := Lib.hid hr; have HS100 := Lib.hid hs100
  clear hmade hr hws hκ hs100
  go_enter Try.func10, Try.ntmps10
  go_wp2_with fail
  refine (awake_any _).mono ?_
  rintro e w1 ⟨rfl, hb1'⟩
  have hst1 := ((Step.refl [] w (fun _ => 0)).alloc (.cells #[.int .u16 bits, .int .u64 weights, .int .u8 k] 41) 5).below hb1' 5
  have hbT := (Blk.new w 41 #[.int .u16 bits, .int .u64 weights, .int .u8 k]).below hb1' (by simp)
  have c0 := hbT.cell 0; have c1 := hbT.cell 1; have c2 := hbT.cell 2
  simp only [List.getElem?_toArray, List.getElem?_cons_zero, List.getElem?_cons_succ] at c0 c1 c2
  obtain ⟨o1, ho1⟩ : ∃ o1, o1 = ext (ext (fun _ => 0) w.heap.size 5) (w.alloc (.cells #[.int .u16 bits, .int .u64 weights, .int .u8 k] 41)).heap.size 5 := ⟨_, rfl⟩
  rw [← ho1] at hst1
  have h20 : ∀ b, b < w1.heap.size → o1 b ≠ 20 := by
    intro b _
    have : o1 b = 0 ∨ o1 b = 5 := by
      rw [ho1]
      unfold ext
      split
      · split
        · exact .inl rfl
        · exact .inr rfl
      · exact .inr rfl
    omega
  have HS1 := Lib.hid hst1; have H20 := Lib.hid h20
  clear hst1 hbT hb1' ho1 h20
  go_wp2_with fail
  refine (HMD.out w1 o1 H20.out (by decide)).mono ?_
  rintro e w2 ⟨A, n, c, o2, rfl, hst2, hrow⟩
  have hn : n = ws.length := by have := hrow.len; rw [len_wnts] at this; omega
  have hnn16 : n ≤ 16 := by omega
  have HS2 := Lib.hid (HS1.out.trans hst2); have HROW := Lib.hid hrow; have HN := Lib.hid hn
  clear hst2 hrow hn hn16 HMD HS1 H20 c0 c1 c2
  go_wp2_with fail
  have hstp := Step_any w2 o2 0 20 none 0 0 [] (Sl.nil_ _ _ _ _ _ _ (by decide)) A n c ws HROW.out.sl validNil HR.out κ (by omega)
  refine hstp.mono ?_
  clear hstp
  rintro e w3 ⟨ob, SA, sc, o3, rfl, hb3, hob, -, hri, -⟩
  obtain ⟨its, hits⟩ : ∃ its, its = (stepM [] ws κ).1 := ⟨_, rfl⟩
  have hiv : ValidP its := by rw [hits]; exact stepM_valid validNil HR.out κ
  have hil : its.length = ws.length := by rw [hits]; exact stepM_len _ _ _
  have hi100 : ∀ x ∈ its, x.id < 100 := fun x hx => by
    have h1 := stepM_ids [] ws κ
    have : (x.id, x.wt) ∈ ws := by rw [← h1, ← hits]; exact List.mem_map.2 ⟨x, hx, rfl⟩
    exact HS100.out _ this
  rw [← hits] at hri
  have hst3 : Step [] w2 o2 w3 (ext o2 w2.heap.size 2) := (Step.refl [] w2 o2).below hb3 2
  have hrow3 := HROW.out.step hst3 (by simp)
  have hri3 := hri.view (o2 := ext o2 w2.heap.size 2) (τ2 := 2) (fun ad had => by injection had with had; subst had; exact ext_ge hob)
  obtain ⟨o4, ho4⟩ : ∃ o4, o4 = ext o2 w2.heap.size 2 := ⟨_, rfl⟩
  rw [← ho4] at hst3 hrow3 hri3
  have hnl : ws.length = n := HN.out.symm
  rw [hnl] at hri3 hil ⊢
  obtain ⟨oA, stA, rwA, slA, upA⟩ := laidI hrow3 #[.int .i64 100, .int .i64 1] 2 rfl (by omega) 46
  have rwI := upA hri3
  have HS3 := Lib.hid (HS2.out.trans hst3 |>.trans stA); have RWA := Lib.hid rwA; have RWI := Lib.hid rwI; have SLA := Lib.hid slA
  have HIV := Lib.hid hiv; have HIL := Lib.hid hil; have HI100 := Lib.hid hi100; have HNL := Lib.hid hnl
  clear hst3 hrow3 hri3 hri rwA rwI slA stA upA HS2 HROW hits hiv hil hi100 ho4 hob hb3 hnl HN
  have b1 : -9223372036854775808 ≤ L := by omega
  have b2 : G ≤ 9223372036854775807 := by omega
  go_wp2_with (first
    | (at_builtin; refine wpList_append_row _ rfl (.tmp 47) (.tmp 49) _ rfl el_want oA 20 A n c _ rfl RWA.out oA 5 _ 1 1 [.int .i64 100, .int .i64 1] rfl SLA.out (by simp [Value.oneCell']) (by omega) (by simp only [maxLen]; omega) ?_; intro A' c' w6 hR6 hg6 hat6; have st6 := Step.append RWA.out hg6 20; have rwI6 := RWI.out.step st6 (by decide); obtain ⟨oB, stB, rwB, slB, upB⟩ := laidI rwI6 #[.int .i64 100, .int .i64 1, .int .i64 0] 3 rfl (by omega) 50; have RWB := Lib.hid rwB; have SLB := Lib.hid slB; have RWW := Lib.hid (upB hR6); have HS6 := Lib.hid ((HS3.out.nil (ts := [20])).trans st6 |>.trans stB.nil); clear hR6 hg6 hat6 st6 rwI6 stB rwB slB upB)
    | (at_builtin; refine wpList_append_row _ rfl (.tmp 51) (.tmp 53) _ rfl el_item oB 2 _ n n _ rfl RWB.out oB 5 _ 1 1 [.int .i64 100, .int .i64 1, .int .i64 0] rfl SLB.out (by simp [Value.oneCell']) (by omega) (by simp only [maxLen]; omega) ?_; intro B' d' w7 hR7 hg7 hat7; have st7 := Step.append RWB.out hg7 2; have RWW7 := Lib.hid (RWW.out.step st7 (by decide)); have RWI7 := Lib.hid hR7; have HS7 := Lib.hid ((HS6.out.mono (ts' := [20, 2]) (by simp)).trans (st7.mono (by simp))); clear hR7 hg7 hat7 st7 RWB RWW SLB HS6))
  have SW := Lib.hid (show Sl _ _ 20 2 _ _ _ (wnts (ws ++ [(100, 1)])) by rw [wnts_app]; exact RWW7.out.sl)
  have SI := Lib.hid (show Sl _ _ 2 3 _ _ _ (itms (its ++ [⟨100, 1, 0⟩])) by rw [itms_app]; exact RWI7.out.sl)
  have HSZ := HS7
  have hbad : L < 0 ∨ validB (its ++ [⟨100, 1, 0⟩]) = false ∨ rightB (ws ++ [(100, 1)]) = false := .inl hL1
  have HB := Lib.hid hbad
  clear hbad
  refine (Step_bad _ _ 2 20 _ _ _ _ SI.out _ _ _ _ SW.out _ HB.out).mono ?_
  rintro e w8 ⟨rfl, hb8⟩
  have st8 := SI.out.under hb8
  have SI8 := Lib.hid (SI.out.step st8 (by simp)); have SW8 := Lib.hid (SW.out.step st8 (by simp)); have HS8 := Lib.hid (HSZ.out.trans st8.nil)
  clear hb8 st8
  go_wp2_with fail
  refine (Run_bad _ _ 2 20 _ _ _ _ SI8.out _ _ _ _ SW8.out _ _ (.inr (.inr HB.out))).mono ?_
  rintro e w9 ⟨rfl, hb9⟩
  have HS9 := Lib.hid (HS8.out.below hb9 5)
  clear hb9
  go_wp2_with fail
  refine (Bound_bad _ _ _ _ _ (by omega)).mono ?_
  rintro e w10 ⟨rfl, rfl⟩
  go_wp2_with fail
  refine (Bound_bad _ _ _ _ _ (by omega)).mono ?_
  rintro e w11 ⟨rfl, rfl⟩
  go_wp2_with fail
  refine (Bound_bad _ _ _ _ _ (by omega)).mono ?_
  rintro e w12 ⟨rfl, rfl⟩
  go_wp2_with fail
  go_ret
  exact ⟨rfl, (HS9.out.forget (ts' := []) (fun t ht _ k hk => by simp at ht; rcases ht with rfl | rfl <;> simp)).to_below (by simp)⟩

set_option maxRecDepth 100000 in
set_option maxHeartbeats 2000000 in
theorem wrong_0 (w : World) (bits weights k way low high : Int) (hb0 : 0 ≤ bits) (hb1 : bits ≤ 65535) (hw0 : 0 ≤ weights) (hw1 : weights ≤ 18446744073709551615) (hk0 : 0 ≤ k) (hk1 : k ≤ 255) (hy0 : 0 ≤ way) (hy1 : way ≤ 255) (hway : way % 8 = 0)
    (hlo : -9223372036854775808 ≤ low) (hhi : high ≤ 9223372036854775807) :
    Calls Try.prog 10 #[.agg #[.int .u16 bits, .int .u64 weights, .int .u8 k], .int .u8 way, .int .i64 low, .int .i64 high] w (SaysTo w true) := by
  have hmade := fun W o => made_any W o 20 bits weights k hb0 hb1 hw0 hw1 hk0 hk1
  obtain ⟨κ, hκ⟩ : ∃ κ : Nat, 1 + k % 4 = (κ : Int) := ⟨(1 + k % 4).toNat, by omega⟩
  have hκ4 : κ ≤ 4 := by omega
  rw [hκ] at hmade
  obtain ⟨ws, hws⟩ : ∃ ws, ws = madeTo bits.toNat weights.toNat 16 := ⟨_, rfl⟩
  rw [← hws] at hmade
  have hr : RightP ws := by rw [hws]; exact madeTo_right _ _ _ (by omega)
  have hn16 : ws.length ≤ 16 := by rw [hws]; exact madeTo_len _ _ _
  have hs100 : ∀ x ∈ ws, x.1 < 100 := fun x hx => by rw [hws] at hx; obtain ⟨i, hi, h1, -⟩ := madeTo_mem hx; omega
  obtain ⟨L, hL⟩ : ∃ L, min low (-1) = L := ⟨_, rfl⟩
  obtain ⟨G, hG⟩ : ∃ G, max high 1073741825 = G := ⟨_, rfl⟩
  have hL1 : L < 0 := by omega
  have hG1 : 1073741825 ≤ G := by omega
  have hL2 : min L 0 = L := by omega
  have hG2 : max G 65 = G := by omega
  have HMD := Lib.hid hmade; have HR := Lib.hid hr; have HS100 := Lib.hid hs100
  clear hmade hr hws hκ hs100
  go_enter Try.func10, Try.ntmps10
  go_wp2_with fail
  refine (awake_any _).mono ?_
  rintro e w1 ⟨rfl, hb1'⟩
  have hst1 := ((Step.refl [] w (fun _ => 0)).alloc (.cells #[.int .u16 bits, .int .u64 weights, .int .u8 k] 41) 5).below hb1' 5
  have hbT := (Blk.new w 41 #[.int .u16 bits, .int .u64 weights, .int .u8 k]).below hb1' (by simp)
  have c0 := hbT.cell 0; have c1 := hbT.cell 1; have c2 := hbT.cell 2
  simp only [List.getElem?_toArray, List.getElem?_cons_zero, List.getElem?_cons_succ] at c0 c1 c2
  obtain ⟨o1, ho1⟩ : ∃ o1, o1 = ext (ext (fun _ => 0) w.heap.size 5) (w.alloc (.cells #[.int .u16 bits, .int .u64 weights, .int .u8 k] 41)).heap.size 5 := ⟨_, rfl⟩
  rw [← ho1] at hst1
  have h20 : ∀ b, b < w1.heap.size → o1 b ≠ 20 := by
    intro b _
    have : o1 b = 0 ∨ o1 b = 5 := by
      rw [ho1]
      unfold ext
      split
      · split
        · exact .inl rfl
        · exact .inr rfl
      · exact .inr rfl
    omega
  have HS1 := Lib.hid hst1; have H20 := Lib.hid h20
  clear hst1 hbT hb1' ho1 h20
  go_wp2_with fail
  refine (HMD.out w1 o1 H20.out (by decide)).mono ?_
  rintro e w2 ⟨A, n, c, o2, rfl, hst2, hrow⟩
  have hn : n = ws.length := by have := hrow.len; rw [len_wnts] at this; omega
  have hnn16 : n ≤ 16 := by omega
  have HS2 := Lib.hid (HS1.out.trans hst2); have HROW := Lib.hid hrow; have HN := Lib.hid hn
  clear hst2 hrow hn hn16 HMD HS1 H20 c0 c1 c2
  go_wp2_with fail
  have hstp := Step_any w2 o2 0 20 none 0 0 [] (Sl.nil_ _ _ _ _ _ _ (by decide)) A n c ws HROW.out.sl validNil HR.out κ (by omega)
  refine hstp.mono ?_
  clear hstp
  rintro e w3 ⟨ob, SA, sc, o3, rfl, hb3, hob, -, hri, -⟩
  obtain ⟨its, hits⟩ : ∃ its, its = (stepM [] ws κ).1 := ⟨_, rfl⟩
  have hiv : ValidP its := by rw [hits]; exact stepM_valid validNil HR.out κ
  have hil : its.length = ws.length := by rw [hits]; exact stepM_len _ _ _
  have hi100 : ∀ x ∈ its, x.id < 100 := fun x hx => by
    have h1 := stepM_ids [] ws κ
    have : (x.id, x.wt) ∈ ws := by rw [← h1, ← hits]; exact List.mem_map.2 ⟨x, hx, rfl⟩
    exact HS100.out _ this
  rw [← hits] at hri
  have hst3 : Step [] w2 o2 w3 (ext o2 w2.heap.size 2) := (Step.refl [] w2 o2).below hb3 2
  have hrow3 := HROW.out.step hst3 (by simp)
  have hri3 := hri.view (o2 := ext o2 w2.heap.size 2) (τ2 := 2) (fun ad had => by injection had with had; subst had; exact ext_ge hob)
  obtain ⟨o4, ho4⟩ : ∃ o4, o4 = ext o2 w2.heap.size 2 := ⟨_, rfl⟩
  rw [← ho4] at hst3 hrow3 hri3
  have hnl : ws.length = n := HN.out.symm
  rw [hnl] at hri3 hil ⊢
  obtain ⟨oA, stA, rwA, slA, upA⟩ := laidI hrow3 #[.int .i64 100, .int .i64 1] 2 rfl (by omega) 46
  have rwI := upA hri3
  have HS3 := Lib.hid (HS2.out.trans hst3 |>.trans stA); have RWA := Lib.hid rwA; have RWI := Lib.hid rwI; have SLA := Lib.hid slA
  have HIV := Lib.hid hiv; have HIL := Lib.hid hil; have HI100 := Lib.hid hi100; have HNL := Lib.hid hnl
  clear hst3 hrow3 hri3 hri rwA rwI slA stA upA HS2 HROW hits hiv hil hi100 ho4 hob hb3 hnl HN
  have b1 : -9223372036854775808 ≤ L := by omega
  have b2 : G ≤ 9223372036854775807 := by omega
  go_wp2_with (first
    | (at_builtin; refine wpList_append_row _ rfl (.tmp 47) (.tmp 49) _ rfl el_want oA 20 A n c _ rfl RWA.out oA 5 _ 1 1 [.int .i64 100, .int .i64 1] rfl SLA.out (by simp [Value.oneCell']) (by omega) (by simp only [maxLen]; omega) ?_; intro A' c' w6 hR6 hg6 hat6; have st6 := Step.append RWA.out hg6 20; have rwI6 := RWI.out.step st6 (by decide); obtain ⟨oB, stB, rwB, slB, upB⟩ := laidI rwI6 #[.int .i64 100, .int .i64 1, .int .i64 0] 3 rfl (by omega) 50; have RWB := Lib.hid rwB; have SLB := Lib.hid slB; have RWW := Lib.hid (upB hR6); have HS6 := Lib.hid ((HS3.out.nil (ts := [20])).trans st6 |>.trans stB.nil); clear hR6 hg6 hat6 st6 rwI6 stB rwB slB upB)
    | (at_builtin; refine wpList_append_row _ rfl (.tmp 51) (.tmp 53) _ rfl el_item oB 2 _ n n _ rfl RWB.out oB 5 _ 1 1 [.int .i64 100, .int .i64 1, .int .i64 0] rfl SLB.out (by simp [Value.oneCell']) (by omega) (by simp only [maxLen]; omega) ?_; intro B' d' w7 hR7 hg7 hat7; have st7 := Step.append RWB.out hg7 2; have RWW7 := Lib.hid (RWW.out.step st7 (by decide)); have RWI7 := Lib.hid hR7; have HS7 := Lib.hid ((HS6.out.mono (ts' := [20, 2]) (by simp)).trans (st7.mono (by simp))); clear hR7 hg7 hat7 st7 RWB RWW SLB HS6; obtain ⟨gw, rfl, -, hgw, hcw, hfw⟩ := RWW7.out.cellG (k := n * 2) ((wnts_end ws 100 1 (n * 2)).1 (by have := HNL.out; omega)) (by omega)))
  clear hcw hfw hgw
  have stS := RWW7.out.stored (n * 2) (.int .i64 G)
  have SW := Lib.hid (show Sl _ _ 20 2 _ _ _ (wnts (ws ++ [(G, 1)])) by rw [← wnts_set0 ws 100 1 G (n * 2) (by rw [HNL.out])]; exact (RWW7.out.setG (by omega) _).sl)
  have SI := Lib.hid (show Sl _ _ 2 3 _ _ _ (itms (its ++ [⟨100, 1, 0⟩])) by rw [itms_app]; exact (RWI7.out.step stS (by decide)).sl)
  have HSZ := Lib.hid (HS7.out.trans (stS.mono (ts' := [20, 2]) (by simp)))
  have hbad : (κ : Int) < 0 ∨ validB (its ++ [⟨100, 1, 0⟩]) = false ∨ rightB (ws ++ [(G, 1)]) = false := .inr (.inr (not_right fun h => by have := h.2.1 (G, 1) (by simp); simp only at this; omega))
  clear stS
  have HB := Lib.hid hbad
  clear hbad
  refine (Step_bad _ _ 2 20 _ _ _ _ SI.out _ _ _ _ SW.out _ HB.out).mono ?_
  rintro e w8 ⟨rfl, hb8⟩
  have st8 := SI.out.under hb8
  have SI8 := Lib.hid (SI.out.step st8 (by simp)); have SW8 := Lib.hid (SW.out.step st8 (by simp)); have HS8 := Lib.hid (HSZ.out.trans st8.nil)
  clear hb8 st8
  go_wp2_with fail
  refine (Run_bad _ _ 2 20 _ _ _ _ SI8.out _ _ _ _ SW8.out _ _ (.inr (.inr HB.out))).mono ?_
  rintro e w9 ⟨rfl, hb9⟩
  have HS9 := Lib.hid (HS8.out.below hb9 5)
  clear hb9
  go_wp2_with fail
  refine (Bound_bad _ _ _ _ _ (by omega)).mono ?_
  rintro e w10 ⟨rfl, rfl⟩
  go_wp2_with fail
  refine (Bound_bad _ _ _ _ _ (by omega)).mono ?_
  rintro e w11 ⟨rfl, rfl⟩
  go_wp2_with fail
  refine (Bound_bad _ _ _ _ _ (by omega)).mono ?_
  rintro e w12 ⟨rfl, rfl⟩
  go_wp2_with fail
  go_ret
  exact ⟨rfl, (HS9.out.forget (ts' := []) (fun t ht _ k hk => by simp at ht; rcases ht with rfl | rfl <;> simp)).to_below (by simp)⟩

set_option maxRecDepth 100000 in
set_option maxHeartbeats 2000000 in
theorem wrong_1 (w : World) (bits weights k way low high : Int) (hb0 : 0 ≤ bits) (hb1 : bits ≤ 65535) (hw0 : 0 ≤ weights) (hw1 : weights ≤ 18446744073709551615) (hk0 : 0 ≤ k) (hk1 : k ≤ 255) (hy0 : 0 ≤ way) (hy1 : way ≤ 255) (hway : way % 8 = 1)
    (hlo : -9223372036854775808 ≤ low) (hhi : high ≤ 9223372036854775807) :
    Calls Try.prog 10 #[.agg #[.int .u16 bits, .int .u64 weights, .int .u8 k], .int .u8 way, .int .i64 low, .int .i64 high] w (SaysTo w true) := by
  have hmade := fun W o => made_any W o 20 bits weights k hb0 hb1 hw0 hw1 hk0 hk1
  obtain ⟨κ, hκ⟩ : ∃ κ : Nat, 1 + k % 4 = (κ : Int) := ⟨(1 + k % 4).toNat, by omega⟩
  have hκ4 : κ ≤ 4 := by omega
  rw [hκ] at hmade
  obtain ⟨ws, hws⟩ : ∃ ws, ws = madeTo bits.toNat weights.toNat 16 := ⟨_, rfl⟩
  rw [← hws] at hmade
  have hr : RightP ws := by rw [hws]; exact madeTo_right _ _ _ (by omega)
  have hn16 : ws.length ≤ 16 := by rw [hws]; exact madeTo_len _ _ _
  have hs100 : ∀ x ∈ ws, x.1 < 100 := fun x hx => by rw [hws] at hx; obtain ⟨i, hi, h1, -⟩ := madeTo_mem hx; omega
  obtain ⟨L, hL⟩ : ∃ L, min low (-1) = L := ⟨_, rfl⟩
  obtain ⟨G, hG⟩ : ∃ G, max high 1073741825 = G := ⟨_, rfl⟩
  have hL1 : L < 0 := by omega
  have hG1 : 1073741825 ≤ G := by omega
  have hL2 : min L 0 = L := by omega
  have hG2 : max G 65 = G := by omega
  have HMD := Lib.hid hmade; have HR := Lib.hid hr; have HS100 := Lib.hid hs100
  clear hmade hr hws hκ hs100
  go_enter Try.func10, Try.ntmps10
  go_wp2_with fail
  refine (awake_any _).mono ?_
  rintro e w1 ⟨rfl, hb1'⟩
  have hst1 := ((Step.refl [] w (fun _ => 0)).alloc (.cells #[.int .u16 bits, .int .u64 weights, .int .u8 k] 41) 5).below hb1' 5
  have hbT := (Blk.new w 41 #[.int .u16 bits, .int .u64 weights, .int .u8 k]).below hb1' (by simp)
  have c0 := hbT.cell 0; have c1 := hbT.cell 1; have c2 := hbT.cell 2
  simp only [List.getElem?_toArray, List.getElem?_cons_zero, List.getElem?_cons_succ] at c0 c1 c2
  obtain ⟨o1, ho1⟩ : ∃ o1, o1 = ext (ext (fun _ => 0) w.heap.size 5) (w.alloc (.cells #[.int .u16 bits, .int .u64 weights, .int .u8 k] 41)).heap.size 5 := ⟨_, rfl⟩
  rw [← ho1] at hst1
  have h20 : ∀ b, b < w1.heap.size → o1 b ≠ 20 := by
    intro b _
    have : o1 b = 0 ∨ o1 b = 5 := by
      rw [ho1]
      unfold ext
      split
      · split
        · exact .inl rfl
        · exact .inr rfl
      · exact .inr rfl
    omega
  have HS1 := Lib.hid hst1; have H20 := Lib.hid h20
  clear hst1 hbT hb1' ho1 h20
  go_wp2_with fail
  refine (HMD.out w1 o1 H20.out (by decide)).mono ?_
  rintro e w2 ⟨A, n, c, o2, rfl, hst2, hrow⟩
  have hn : n = ws.length := by have := hrow.len; rw [len_wnts] at this; omega
  have hnn16 : n ≤ 16 := by omega
  have HS2 := Lib.hid (HS1.out.trans hst2); have HROW := Lib.hid hrow; have HN := Lib.hid hn
  clear hst2 hrow hn hn16 HMD HS1 H20 c0 c1 c2
  go_wp2_with fail
  have hstp := Step_any w2 o2 0 20 none 0 0 [] (Sl.nil_ _ _ _ _ _ _ (by decide)) A n c ws HROW.out.sl validNil HR.out κ (by omega)
  refine hstp.mono ?_
  clear hstp
  rintro e w3 ⟨ob, SA, sc, o3, rfl, hb3, hob, -, hri, -⟩
  obtain ⟨its, hits⟩ : ∃ its, its = (stepM [] ws κ).1 := ⟨_, rfl⟩
  have hiv : ValidP its := by rw [hits]; exact stepM_valid validNil HR.out κ
  have hil : its.length = ws.length := by rw [hits]; exact stepM_len _ _ _
  have hi100 : ∀ x ∈ its, x.id < 100 := fun x hx => by
    have h1 := stepM_ids [] ws κ
    have : (x.id, x.wt) ∈ ws := by rw [← h1, ← hits]; exact List.mem_map.2 ⟨x, hx, rfl⟩
    exact HS100.out _ this
  rw [← hits] at hri
  have hst3 : Step [] w2 o2 w3 (ext o2 w2.heap.size 2) := (Step.refl [] w2 o2).below hb3 2
  have hrow3 := HROW.out.step hst3 (by simp)
  have hri3 := hri.view (o2 := ext o2 w2.heap.size 2) (τ2 := 2) (fun ad had => by injection had with had; subst had; exact ext_ge hob)
  obtain ⟨o4, ho4⟩ : ∃ o4, o4 = ext o2 w2.heap.size 2 := ⟨_, rfl⟩
  rw [← ho4] at hst3 hrow3 hri3
  have hnl : ws.length = n := HN.out.symm
  rw [hnl] at hri3 hil ⊢
  obtain ⟨oA, stA, rwA, slA, upA⟩ := laidI hrow3 #[.int .i64 100, .int .i64 1] 2 rfl (by omega) 46
  have rwI := upA hri3
  have HS3 := Lib.hid (HS2.out.trans hst3 |>.trans stA); have RWA := Lib.hid rwA; have RWI := Lib.hid rwI; have SLA := Lib.hid slA
  have HIV := Lib.hid hiv; have HIL := Lib.hid hil; have HI100 := Lib.hid hi100; have HNL := Lib.hid hnl
  clear hst3 hrow3 hri3 hri rwA rwI slA stA upA HS2 HROW hits hiv hil hi100 ho4 hob hb3 hnl HN
  have b1 : -9223372036854775808 ≤ L := by omega
  have b2 : G ≤ 9223372036854775807 := by omega
  go_wp2_with (first
    | (at_builtin; refine wpList_append_row _ rfl (.tmp 47) (.tmp 49) _ rfl el_want oA 20 A n c _ rfl RWA.out oA 5 _ 1 1 [.int .i64 100, .int .i64 1] rfl SLA.out (by simp [Value.oneCell']) (by omega) (by simp only [maxLen]; omega) ?_; intro A' c' w6 hR6 hg6 hat6; have st6 := Step.append RWA.out hg6 20; have rwI6 := RWI.out.step st6 (by decide); obtain ⟨oB, stB, rwB, slB, upB⟩ := laidI rwI6 #[.int .i64 100, .int .i64 1, .int .i64 0] 3 rfl (by omega) 50; have RWB := Lib.hid rwB; have SLB := Lib.hid slB; have RWW := Lib.hid (upB hR6); have HS6 := Lib.hid ((HS3.out.nil (ts := [20])).trans st6 |>.trans stB.nil); clear hR6 hg6 hat6 st6 rwI6 stB rwB slB upB)
    | (at_builtin; refine wpList_append_row _ rfl (.tmp 51) (.tmp 53) _ rfl el_item oB 2 _ n n _ rfl RWB.out oB 5 _ 1 1 [.int .i64 100, .int .i64 1, .int .i64 0] rfl SLB.out (by simp [Value.oneCell']) (by omega) (by simp only [maxLen]; omega) ?_; intro B' d' w7 hR7 hg7 hat7; have st7 := Step.append RWB.out hg7 2; have RWW7 := Lib.hid (RWW.out.step st7 (by decide)); have RWI7 := Lib.hid hR7; have HS7 := Lib.hid ((HS6.out.mono (ts' := [20, 2]) (by simp)).trans (st7.mono (by simp))); clear hR7 hg7 hat7 st7 RWB RWW SLB HS6; obtain ⟨gw, rfl, -, hgw, hcw, hfw⟩ := RWW7.out.cellG (k := n * 2 + 1) ((wnts_end ws 100 1 (n * 2 + 1)).2 (by have := HNL.out; omega)) (by omega)))
  clear hcw hfw hgw
  have stS := RWW7.out.stored (n * 2 + 1) (.int .i64 0)
  have SW := Lib.hid (show Sl _ _ 20 2 _ _ _ (wnts (ws ++ [(100, 0)])) by rw [← wnts_set1 ws 100 1 0 (n * 2 + 1) (by rw [HNL.out])]; exact (RWW7.out.setG (by omega) _).sl)
  have SI := Lib.hid (show Sl _ _ 2 3 _ _ _ (itms (its ++ [⟨100, 1, 0⟩])) by rw [itms_app]; exact (RWI7.out.step stS (by decide)).sl)
  have HSZ := Lib.hid (HS7.out.trans (stS.mono (ts' := [20, 2]) (by simp)))
  have hbad : (κ : Int) < 0 ∨ validB (its ++ [⟨100, 1, 0⟩]) = false ∨ rightB (ws ++ [(100, 0)]) = false := .inr (.inr (not_right fun h => by have := h.2.1 (100, 0) (by simp); simp only at this; omega))
  clear stS
  have HB := Lib.hid hbad
  clear hbad
  refine (Step_bad _ _ 2 20 _ _ _ _ SI.out _ _ _ _ SW.out _ HB.out).mono ?_
  rintro e w8 ⟨rfl, hb8⟩
  have st8 := SI.out.under hb8
  have SI8 := Lib.hid (SI.out.step st8 (by simp)); have SW8 := Lib.hid (SW.out.step st8 (by simp)); have HS8 := Lib.hid (HSZ.out.trans st8.nil)
  clear hb8 st8
  go_wp2_with fail
  refine (Run_bad _ _ 2 20 _ _ _ _ SI8.out _ _ _ _ SW8.out _ _ (.inr (.inr HB.out))).mono ?_
  rintro e w9 ⟨rfl, hb9⟩
  have HS9 := Lib.hid (HS8.out.below hb9 5)
  clear hb9
  go_wp2_with fail
  refine (Bound_bad _ _ _ _ _ (by omega)).mono ?_
  rintro e w10 ⟨rfl, rfl⟩
  go_wp2_with fail
  refine (Bound_bad _ _ _ _ _ (by omega)).mono ?_
  rintro e w11 ⟨rfl, rfl⟩
  go_wp2_with fail
  refine (Bound_bad _ _ _ _ _ (by omega)).mono ?_
  rintro e w12 ⟨rfl, rfl⟩
  go_wp2_with fail
  go_ret
  exact ⟨rfl, (HS9.out.forget (ts' := []) (fun t ht _ k hk => by simp at ht; rcases ht with rfl | rfl <;> simp)).to_below (by simp)⟩

set_option maxRecDepth 100000 in
set_option maxHeartbeats 2000000 in
theorem wrong_2 (w : World) (bits weights k way low high : Int) (hb0 : 0 ≤ bits) (hb1 : bits ≤ 65535) (hw0 : 0 ≤ weights) (hw1 : weights ≤ 18446744073709551615) (hk0 : 0 ≤ k) (hk1 : k ≤ 255) (hy0 : 0 ≤ way) (hy1 : way ≤ 255) (hway : way % 8 = 2)
    (hlo : -9223372036854775808 ≤ low) (hhi : high ≤ 9223372036854775807) :
    Calls Try.prog 10 #[.agg #[.int .u16 bits, .int .u64 weights, .int .u8 k], .int .u8 way, .int .i64 low, .int .i64 high] w (SaysTo w true) := by
  have hmade := fun W o => made_any W o 20 bits weights k hb0 hb1 hw0 hw1 hk0 hk1
  obtain ⟨κ, hκ⟩ : ∃ κ : Nat, 1 + k % 4 = (κ : Int) := ⟨(1 + k % 4).toNat, by omega⟩
  have hκ4 : κ ≤ 4 := by omega
  rw [hκ] at hmade
  obtain ⟨ws, hws⟩ : ∃ ws, ws = madeTo bits.toNat weights.toNat 16 := ⟨_, rfl⟩
  rw [← hws] at hmade
  have hr : RightP ws := by rw [hws]; exact madeTo_right _ _ _ (by omega)
  have hn16 : ws.length ≤ 16 := by rw [hws]; exact madeTo_len _ _ _
  have hs100 : ∀ x ∈ ws, x.1 < 100 := fun x hx => by rw [hws] at hx; obtain ⟨i, hi, h1, -⟩ := madeTo_mem hx; omega
  obtain ⟨L, hL⟩ : ∃ L, min low (-1) = L := ⟨_, rfl⟩
  obtain ⟨G, hG⟩ : ∃ G, max high 1073741825 = G := ⟨_, rfl⟩
  have hL1 : L < 0 := by omega
  have hG1 : 1073741825 ≤ G := by omega
  have hL2 : min L 0 = L := by omega
  have hG2 : max G 65 = G := by omega
  have HMD := Lib.hid hmade; have HR := Lib.hid hr; have HS100 := Lib.hid hs100
  clear hmade hr hws hκ hs100
  go_enter Try.func10, Try.ntmps10
  go_wp2_with fail
  refine (awake_any _).mono ?_
  rintro e w1 ⟨rfl, hb1'⟩
  have hst1 := ((Step.refl [] w (fun _ => 0)).alloc (.cells #[.int .u16 bits, .int .u64 weights, .int .u8 k] 41) 5).below hb1' 5
  have hbT := (Blk.new w 41 #[.int .u16 bits, .int .u64 weights, .int .u8 k]).below hb1' (by simp)
  have c0 := hbT.cell 0; have c1 := hbT.cell 1; have c2 := hbT.cell 2
  simp only [List.getElem?_toArray, List.getElem?_cons_zero, List.getElem?_cons_succ] at c0 c1 c2
  obtain ⟨o1, ho1⟩ : ∃ o1, o1 = ext (ext (fun _ => 0) w.heap.size 5) (w.alloc (.cells #[.int .u16 bits, .int .u64 weights, .int .u8 k] 41)).heap.size 5 := ⟨_, rfl⟩
  rw [← ho1] at hst1
  have h20 : ∀ b, b < w1.heap.size → o1 b ≠ 20 := by
    intro b _
    have : o1 b = 0 ∨ o1 b = 5 := by
      rw [ho1]
      unfold ext
      split
      · split
        · exact .inl rfl
        · exact .inr rfl
      · exact .inr rfl
    omega
  have HS1 := Lib.hid hst1; have H20 := Lib.hid h20
  clear hst1 hbT hb1' ho1 h20
  go_wp2_with fail
  refine (HMD.out w1 o1 H20.out (by decide)).mono ?_
  rintro e w2 ⟨A, n, c, o2, rfl, hst2, hrow⟩
  have hn : n = ws.length := by have := hrow.len; rw [len_wnts] at this; omega
  have hnn16 : n ≤ 16 := by omega
  have HS2 := Lib.hid (HS1.out.trans hst2); have HROW := Lib.hid hrow; have HN := Lib.hid hn
  clear hst2 hrow hn hn16 HMD HS1 H20 c0 c1 c2
  go_wp2_with fail
  have hstp := Step_any w2 o2 0 20 none 0 0 [] (Sl.nil_ _ _ _ _ _ _ (by decide)) A n c ws HROW.out.sl validNil HR.out κ (by omega)
  refine hstp.mono ?_
  clear hstp
  rintro e w3 ⟨ob, SA, sc, o3, rfl, hb3, hob, -, hri, -⟩
  obtain ⟨its, hits⟩ : ∃ its, its = (stepM [] ws κ).1 := ⟨_, rfl⟩
  have hiv : ValidP its := by rw [hits]; exact stepM_valid validNil HR.out κ
  have hil : its.length = ws.length := by rw [hits]; exact stepM_len _ _ _
  have hi100 : ∀ x ∈ its, x.id < 100 := fun x hx => by
    have h1 := stepM_ids [] ws κ
    have : (x.id, x.wt) ∈ ws := by rw [← h1, ← hits]; exact List.mem_map.2 ⟨x, hx, rfl⟩
    exact HS100.out _ this
  rw [← hits] at hri
  have hst3 : Step [] w2 o2 w3 (ext o2 w2.heap.size 2) := (Step.refl [] w2 o2).below hb3 2
  have hrow3 := HROW.out.step hst3 (by simp)
  have hri3 := hri.view (o2 := ext o2 w2.heap.size 2) (τ2 := 2) (fun ad had => by injection had with had; subst had; exact ext_ge hob)
  obtain ⟨o4, ho4⟩ : ∃ o4, o4 = ext o2 w2.heap.size 2 := ⟨_, rfl⟩
  rw [← ho4] at hst3 hrow3 hri3
  have hnl : ws.length = n := HN.out.symm
  rw [hnl] at hri3 hil ⊢
  obtain ⟨oA, stA, rwA, slA, upA⟩ := laidI hrow3 #[.int .i64 100, .int .i64 1] 2 rfl (by omega) 46
  have rwI := upA hri3
  have HS3 := Lib.hid (HS2.out.trans hst3 |>.trans stA); have RWA := Lib.hid rwA; have RWI := Lib.hid rwI; have SLA := Lib.hid slA
  have HIV := Lib.hid hiv; have HIL := Lib.hid hil; have HI100 := Lib.hid hi100; have HNL := Lib.hid hnl
  clear hst3 hrow3 hri3 hri rwA rwI slA stA upA HS2 HROW hits hiv hil hi100 ho4 hob hb3 hnl HN
  have b1 : -9223372036854775808 ≤ L := by omega
  have b2 : G ≤ 9223372036854775807 := by omega
  go_wp2_with (first
    | (at_builtin; refine wpList_append_row _ rfl (.tmp 47) (.tmp 49) _ rfl el_want oA 20 A n c _ rfl RWA.out oA 5 _ 1 1 [.int .i64 100, .int .i64 1] rfl SLA.out (by simp [Value.oneCell']) (by omega) (by simp only [maxLen]; omega) ?_; intro A' c' w6 hR6 hg6 hat6; have st6 := Step.append RWA.out hg6 20; have rwI6 := RWI.out.step st6 (by decide); obtain ⟨oB, stB, rwB, slB, upB⟩ := laidI rwI6 #[.int .i64 100, .int .i64 1, .int .i64 0] 3 rfl (by omega) 50; have RWB := Lib.hid rwB; have SLB := Lib.hid slB; have RWW := Lib.hid (upB hR6); have HS6 := Lib.hid ((HS3.out.nil (ts := [20])).trans st6 |>.trans stB.nil); clear hR6 hg6 hat6 st6 rwI6 stB rwB slB upB)
    | (at_builtin; refine wpList_append_row _ rfl (.tmp 51) (.tmp 53) _ rfl el_item oB 2 _ n n _ rfl RWB.out oB 5 _ 1 1 [.int .i64 100, .int .i64 1, .int .i64 0] rfl SLB.out (by simp [Value.oneCell']) (by omega) (by simp only [maxLen]; omega) ?_; intro B' d' w7 hR7 hg7 hat7; have st7 := Step.append RWB.out hg7 2; have RWW7 := Lib.hid (RWW.out.step st7 (by decide)); have RWI7 := Lib.hid hR7; have HS7 := Lib.hid ((HS6.out.mono (ts' := [20, 2]) (by simp)).trans (st7.mono (by simp))); clear hR7 hg7 hat7 st7 RWB RWW SLB HS6; obtain ⟨oC, stC, rwC, slC, upC⟩ := laidI RWW7.out #[.int .i64 100, .int .i64 1] 2 rfl (by omega) 46; have RWC := Lib.hid rwC; have SLC := Lib.hid slC; have RIC := Lib.hid (upC RWI7.out); have HSC := Lib.hid (HS7.out.trans stC.nil); clear stC rwC slC upC)
    | (at_builtin; refine wpList_append_row _ rfl (.tmp 78) (.tmp 80) _ rfl el_want oC 20 A' (n + 1) c' _ rfl RWC.out oC 5 _ 1 1 [.int .i64 100, .int .i64 1] rfl SLC.out (by simp [Value.oneCell']) (by omega) (by simp only [maxLen]; omega) ?_; intro A2 c2 w77 hR77 hg77 hat77; have st77 := Step.append RWC.out hg77 20; have RIZ := Lib.hid (RIC.out.step st77 (by decide)); have RWZ := Lib.hid hR77; have HSZ := Lib.hid (HSC.out.trans (st77.mono (ts' := [20, 2]) (by simp))); clear hR77 hg77 hat77 st77))
  have SW := Lib.hid (show Sl _ _ 20 2 _ _ _ (wnts (ws ++ [(100, 1)] ++ [(100, 1)])) by rw [wnts_app, wnts_app]; exact RWZ.out.sl)
  have SI := Lib.hid (show Sl _ _ 2 3 _ _ _ (itms (its ++ [⟨100, 1, 0⟩])) by rw [itms_app]; exact RIZ.out.sl)
  have hbad : (κ : Int) < 0 ∨ validB (its ++ [⟨100, 1, 0⟩]) = false ∨ rightB (ws ++ [(100, 1)] ++ [(100, 1)]) = false := .inr (.inr (not_right fun h => by have := (List.pairwise_append.1 h.2.2).2.2 (100, 1) (by simp) (100, 1) (by simp); simp only at this; omega))
  have HB := Lib.hid hbad
  clear hbad
  refine (Step_bad _ _ 2 20 _ _ _ _ SI.out _ _ _ _ SW.out _ HB.out).mono ?_
  rintro e w8 ⟨rfl, hb8⟩
  have st8 := SI.out.under hb8
  have SI8 := Lib.hid (SI.out.step st8 (by simp)); have SW8 := Lib.hid (SW.out.step st8 (by simp)); have HS8 := Lib.hid (HSZ.out.trans st8.nil)
  clear hb8 st8
  go_wp2_with fail
  refine (Run_bad _ _ 2 20 _ _ _ _ SI8.out _ _ _ _ SW8.out _ _ (.inr (.inr HB.out))).mono ?_
  rintro e w9 ⟨rfl, hb9⟩
  have HS9 := Lib.hid (HS8.out.below hb9 5)
  clear hb9
  go_wp2_with fail
  refine (Bound_bad _ _ _ _ _ (by omega)).mono ?_
  rintro e w10 ⟨rfl, rfl⟩
  go_wp2_with fail
  refine (Bound_bad _ _ _ _ _ (by omega)).mono ?_
  rintro e w11 ⟨rfl, rfl⟩
  go_wp2_with fail
  refine (Bound_bad _ _ _ _ _ (by omega)).mono ?_
  rintro e w12 ⟨rfl, rfl⟩
  go_wp2_with fail
  go_ret
  exact ⟨rfl, (HS9.out.forget (ts' := []) (fun t ht _ k hk => by simp at ht; rcases ht with rfl | rfl <;> simp)).to_below (by simp)⟩

set_option maxRecDepth 100000 in
set_option maxHeartbeats 2000000 in
theorem wrong_3 (w : World) (bits weights k way low high : Int) (hb0 : 0 ≤ bits) (hb1 : bits ≤ 65535) (hw0 : 0 ≤ weights) (hw1 : weights ≤ 18446744073709551615) (hk0 : 0 ≤ k) (hk1 : k ≤ 255) (hy0 : 0 ≤ way) (hy1 : way ≤ 255) (hway : way % 8 = 3)
    (hlo : -9223372036854775808 ≤ low) (hhi : high ≤ 9223372036854775807) :
    Calls Try.prog 10 #[.agg #[.int .u16 bits, .int .u64 weights, .int .u8 k], .int .u8 way, .int .i64 low, .int .i64 high] w (SaysTo w true) := by
  have hmade := fun W o => made_any W o 20 bits weights k hb0 hb1 hw0 hw1 hk0 hk1
  obtain ⟨κ, hκ⟩ : ∃ κ : Nat, 1 + k % 4 = (κ : Int) := ⟨(1 + k % 4).toNat, by omega⟩
  have hκ4 : κ ≤ 4 := by omega
  rw [hκ] at hmade
  obtain ⟨ws, hws⟩ : ∃ ws, ws = madeTo bits.toNat weights.toNat 16 := ⟨_, rfl⟩
  rw [← hws] at hmade
  have hr : RightP ws := by rw [hws]; exact madeTo_right _ _ _ (by omega)
  have hn16 : ws.length ≤ 16 := by rw [hws]; exact madeTo_len _ _ _
  have hs100 : ∀ x ∈ ws, x.1 < 100 := fun x hx => by rw [hws] at hx; obtain ⟨i, hi, h1, -⟩ := madeTo_mem hx; omega
  obtain ⟨L, hL⟩ : ∃ L, min low (-1) = L := ⟨_, rfl⟩
  obtain ⟨G, hG⟩ : ∃ G, max high 1073741825 = G := ⟨_, rfl⟩
  have hL1 : L < 0 := by omega
  have hG1 : 1073741825 ≤ G := by omega
  have hL2 : min L 0 = L := by omega
  have hG2 : max G 65 = G := by omega
  have HMD := Lib.hid hmade; have HR := Lib.hid hr; have HS100 := Lib.hid hs100
  clear hmade hr hws hκ hs100
  go_enter Try.func10, Try.ntmps10
  go_wp2_with fail
  refine (awake_any _).mono ?_
  rintro e w1 ⟨rfl, hb1'⟩
  have hst1 := ((Step.refl [] w (fun _ => 0)).alloc (.cells #[.int .u16 bits, .int .u64 weights, .int .u8 k] 41) 5).below hb1' 5
  have hbT := (Blk.new w 41 #[.int .u16 bits, .int .u64 weights, .int .u8 k]).below hb1' (by simp)
  have c0 := hbT.cell 0; have c1 := hbT.cell 1; have c2 := hbT.cell 2
  simp only [List.getElem?_toArray, List.getElem?_cons_zero, List.getElem?_cons_succ] at c0 c1 c2
  obtain ⟨o1, ho1⟩ : ∃ o1, o1 = ext (ext (fun _ => 0) w.heap.size 5) (w.alloc (.cells #[.int .u16 bits, .int .u64 weights, .int .u8 k] 41)).heap.size 5 := ⟨_, rfl⟩
  rw [← ho1] at hst1
  have h20 : ∀ b, b < w1.heap.size → o1 b ≠ 20 := by
    intro b _
    have : o1 b = 0 ∨ o1 b = 5 := by
      rw [ho1]
      unfold ext
      split
      · split
        · exact .inl rfl
        · exact .inr rfl
      · exact .inr rfl
    omega
  have HS1 := Lib.hid hst1; have H20 := Lib.hid h20
  clear hst1 hbT hb1' ho1 h20
  go_wp2_with fail
  refine (HMD.out w1 o1 H20.out (by decide)).mono ?_
  rintro e w2 ⟨A, n, c, o2, rfl, hst2, hrow⟩
  have hn : n = ws.length := by have := hrow.len; rw [len_wnts] at this; omega
  have hnn16 : n ≤ 16 := by omega
  have HS2 := Lib.hid (HS1.out.trans hst2); have HROW := Lib.hid hrow; have HN := Lib.hid hn
  clear hst2 hrow hn hn16 HMD HS1 H20 c0 c1 c2
  go_wp2_with fail
  have hstp := Step_any w2 o2 0 20 none 0 0 [] (Sl.nil_ _ _ _ _ _ _ (by decide)) A n c ws HROW.out.sl validNil HR.out κ (by omega)
  refine hstp.mono ?_
  clear hstp
  rintro e w3 ⟨ob, SA, sc, o3, rfl, hb3, hob, -, hri, -⟩
  obtain ⟨its, hits⟩ : ∃ its, its = (stepM [] ws κ).1 := ⟨_, rfl⟩
  have hiv : ValidP its := by rw [hits]; exact stepM_valid validNil HR.out κ
  have hil : its.length = ws.length := by rw [hits]; exact stepM_len _ _ _
  have hi100 : ∀ x ∈ its, x.id < 100 := fun x hx => by
    have h1 := stepM_ids [] ws κ
    have : (x.id, x.wt) ∈ ws := by rw [← h1, ← hits]; exact List.mem_map.2 ⟨x, hx, rfl⟩
    exact HS100.out _ this
  rw [← hits] at hri
  have hst3 : Step [] w2 o2 w3 (ext o2 w2.heap.size 2) := (Step.refl [] w2 o2).below hb3 2
  have hrow3 := HROW.out.step hst3 (by simp)
  have hri3 := hri.view (o2 := ext o2 w2.heap.size 2) (τ2 := 2) (fun ad had => by injection had with had; subst had; exact ext_ge hob)
  obtain ⟨o4, ho4⟩ : ∃ o4, o4 = ext o2 w2.heap.size 2 := ⟨_, rfl⟩
  rw [← ho4] at hst3 hrow3 hri3
  have hnl : ws.length = n := HN.out.symm
  rw [hnl] at hri3 hil ⊢
  obtain ⟨oA, stA, rwA, slA, upA⟩ := laidI hrow3 #[.int .i64 100, .int .i64 1] 2 rfl (by omega) 46
  have rwI := upA hri3
  have HS3 := Lib.hid (HS2.out.trans hst3 |>.trans stA); have RWA := Lib.hid rwA; have RWI := Lib.hid rwI; have SLA := Lib.hid slA
  have HIV := Lib.hid hiv; have HIL := Lib.hid hil; have HI100 := Lib.hid hi100; have HNL := Lib.hid hnl
  clear hst3 hrow3 hri3 hri rwA rwI slA stA upA HS2 HROW hits hiv hil hi100 ho4 hob hb3 hnl HN
  have b1 : -9223372036854775808 ≤ L := by omega
  have b2 : G ≤ 9223372036854775807 := by omega
  go_wp2_with (first
    | (at_builtin; refine wpList_append_row _ rfl (.tmp 47) (.tmp 49) _ rfl el_want oA 20 A n c _ rfl RWA.out oA 5 _ 1 1 [.int .i64 100, .int .i64 1] rfl SLA.out (by simp [Value.oneCell']) (by omega) (by simp only [maxLen]; omega) ?_; intro A' c' w6 hR6 hg6 hat6; have st6 := Step.append RWA.out hg6 20; have rwI6 := RWI.out.step st6 (by decide); obtain ⟨oB, stB, rwB, slB, upB⟩ := laidI rwI6 #[.int .i64 100, .int .i64 1, .int .i64 0] 3 rfl (by omega) 50; have RWB := Lib.hid rwB; have SLB := Lib.hid slB; have RWW := Lib.hid (upB hR6); have HS6 := Lib.hid ((HS3.out.nil (ts := [20])).trans st6 |>.trans stB.nil); clear hR6 hg6 hat6 st6 rwI6 stB rwB slB upB)
    | (at_builtin; refine wpList_append_row _ rfl (.tmp 51) (.tmp 53) _ rfl el_item oB 2 _ n n _ rfl RWB.out oB 5 _ 1 1 [.int .i64 100, .int .i64 1, .int .i64 0] rfl SLB.out (by simp [Value.oneCell']) (by omega) (by simp only [maxLen]; omega) ?_; intro B' d' w7 hR7 hg7 hat7; have st7 := Step.append RWB.out hg7 2; have RWW7 := Lib.hid (RWW.out.step st7 (by decide)); have RWI7 := Lib.hid hR7; have HS7 := Lib.hid ((HS6.out.mono (ts' := [20, 2]) (by simp)).trans (st7.mono (by simp))); clear hR7 hg7 hat7 st7 RWB RWW SLB HS6; obtain ⟨gi, rfl, -, hgi, hci, hfi⟩ := RWI7.out.cellG (k := n * 3 + 2) ((itms_end its 100 1 0 (n * 3 + 2)).2 (by have := HIL.out; omega)) (by omega)))
  clear hci hfi hgi
  have stS := RWI7.out.stored (n * 3 + 2) (.int .i64 G)
  have SI := Lib.hid (show Sl _ _ 2 3 _ _ _ (itms (its ++ [⟨100, 1, G⟩])) by rw [← itms_set2 its 100 1 0 G (n * 3 + 2) (by rw [HIL.out])]; exact (RWI7.out.setG (by omega) _).sl)
  have SW := Lib.hid (show Sl _ _ 20 2 _ _ _ (wnts (ws ++ [(100, 1)])) by rw [wnts_app]; exact (RWW7.out.step stS (by decide)).sl)
  have HSZ := Lib.hid (HS7.out.trans (stS.mono (ts' := [20, 2]) (by simp)))
  have hbad : (κ : Int) < 0 ∨ validB (its ++ [⟨100, 1, G⟩]) = false ∨ rightB (ws ++ [(100, 1)]) = false := .inr (.inl (not_valid fun h => by have := (h.2 ⟨100, 1, G⟩ (by simp)).2; unfold topScore at this; simp only at this; omega))
  clear stS
  have HB := Lib.hid hbad
  clear hbad
  refine (Step_bad _ _ 2 20 _ _ _ _ SI.out _ _ _ _ SW.out _ HB.out).mono ?_
  rintro e w8 ⟨rfl, hb8⟩
  have st8 := SI.out.under hb8
  have SI8 := Lib.hid (SI.out.step st8 (by simp)); have SW8 := Lib.hid (SW.out.step st8 (by simp)); have HS8 := Lib.hid (HSZ.out.trans st8.nil)
  clear hb8 st8
  go_wp2_with fail
  refine (Run_bad _ _ 2 20 _ _ _ _ SI8.out _ _ _ _ SW8.out _ _ (.inr (.inr HB.out))).mono ?_
  rintro e w9 ⟨rfl, hb9⟩
  have HS9 := Lib.hid (HS8.out.below hb9 5)
  clear hb9
  go_wp2_with fail
  refine (Bound_bad _ _ _ _ _ (by omega)).mono ?_
  rintro e w10 ⟨rfl, rfl⟩
  go_wp2_with fail
  refine (Bound_bad _ _ _ _ _ (by omega)).mono ?_
  rintro e w11 ⟨rfl, rfl⟩
  go_wp2_with fail
  refine (Bound_bad _ _ _ _ _ (by omega)).mono ?_
  rintro e w12 ⟨rfl, rfl⟩
  go_wp2_with fail
  go_ret
  exact ⟨rfl, (HS9.out.forget (ts' := []) (fun t ht _ k hk => by simp at ht; rcases ht with rfl | rfl <;> simp)).to_below (by simp)⟩

set_option maxRecDepth 100000 in
set_option maxHeartbeats 2000000 in
theorem wrong_4 (w : World) (bits weights k way low high : Int) (hb0 : 0 ≤ bits) (hb1 : bits ≤ 65535) (hw0 : 0 ≤ weights) (hw1 : weights ≤ 18446744073709551615) (hk0 : 0 ≤ k) (hk1 : k ≤ 255) (hy0 : 0 ≤ way) (hy1 : way ≤ 255) (hway : way % 8 = 4)
    (hlo : -9223372036854775808 ≤ low) (hhi : high ≤ 9223372036854775807) :
    Calls Try.prog 10 #[.agg #[.int .u16 bits, .int .u64 weights, .int .u8 k], .int .u8 way, .int .i64 low, .int .i64 high] w (SaysTo w true) := by
  have hmade := fun W o => made_any W o 20 bits weights k hb0 hb1 hw0 hw1 hk0 hk1
  obtain ⟨κ, hκ⟩ : ∃ κ : Nat, 1 + k % 4 = (κ : Int) := ⟨(1 + k % 4).toNat, by omega⟩
  have hκ4 : κ ≤ 4 := by omega
  rw [hκ] at hmade
  obtain ⟨ws, hws⟩ : ∃ ws, ws = madeTo bits.toNat weights.toNat 16 := ⟨_, rfl⟩
  rw [← hws] at hmade
  have hr : RightP ws := by rw [hws]; exact madeTo_right _ _ _ (by omega)
  have hn16 : ws.length ≤ 16 := by rw [hws]; exact madeTo_len _ _ _
  have hs100 : ∀ x ∈ ws, x.1 < 100 := fun x hx => by rw [hws] at hx; obtain ⟨i, hi, h1, -⟩ := madeTo_mem hx; omega
  obtain ⟨L, hL⟩ : ∃ L, min low (-1) = L := ⟨_, rfl⟩
  obtain ⟨G, hG⟩ : ∃ G, max high 1073741825 = G := ⟨_, rfl⟩
  have hL1 : L < 0 := by omega
  have hG1 : 1073741825 ≤ G := by omega
  have hL2 : min L 0 = L := by omega
  have hG2 : max G 65 = G := by omega
  have HMD := Lib.hid hmade; have HR := Lib.hid hr; have HS100 := Lib.hid hs100
  clear hmade hr hws hκ hs100
  go_enter Try.func10, Try.ntmps10
  go_wp2_with fail
  refine (awake_any _).mono ?_
  rintro e w1 ⟨rfl, hb1'⟩
  have hst1 := ((Step.refl [] w (fun _ => 0)).alloc (.cells #[.int .u16 bits, .int .u64 weights, .int .u8 k] 41) 5).below hb1' 5
  have hbT := (Blk.new w 41 #[.int .u16 bits, .int .u64 weights, .int .u8 k]).below hb1' (by simp)
  have c0 := hbT.cell 0; have c1 := hbT.cell 1; have c2 := hbT.cell 2
  simp only [List.getElem?_toArray, List.getElem?_cons_zero, List.getElem?_cons_succ] at c0 c1 c2
  obtain ⟨o1, ho1⟩ : ∃ o1, o1 = ext (ext (fun _ => 0) w.heap.size 5) (w.alloc (.cells #[.int .u16 bits, .int .u64 weights, .int .u8 k] 41)).heap.size 5 := ⟨_, rfl⟩
  rw [← ho1] at hst1
  have h20 : ∀ b, b < w1.heap.size → o1 b ≠ 20 := by
    intro b _
    have : o1 b = 0 ∨ o1 b = 5 := by
      rw [ho1]
      unfold ext
      split
      · split
        · exact .inl rfl
        · exact .inr rfl
      · exact .inr rfl
    omega
  have HS1 := Lib.hid hst1; have H20 := Lib.hid h20
  clear hst1 hbT hb1' ho1 h20
  go_wp2_with fail
  refine (HMD.out w1 o1 H20.out (by decide)).mono ?_
  rintro e w2 ⟨A, n, c, o2, rfl, hst2, hrow⟩
  have hn : n = ws.length := by have := hrow.len; rw [len_wnts] at this; omega
  have hnn16 : n ≤ 16 := by omega
  have HS2 := Lib.hid (HS1.out.trans hst2); have HROW := Lib.hid hrow; have HN := Lib.hid hn
  clear hst2 hrow hn hn16 HMD HS1 H20 c0 c1 c2
  go_wp2_with fail
  have hstp := Step_any w2 o2 0 20 none 0 0 [] (Sl.nil_ _ _ _ _ _ _ (by decide)) A n c ws HROW.out.sl validNil HR.out κ (by omega)
  refine hstp.mono ?_
  clear hstp
  rintro e w3 ⟨ob, SA, sc, o3, rfl, hb3, hob, -, hri, -⟩
  obtain ⟨its, hits⟩ : ∃ its, its = (stepM [] ws κ).1 := ⟨_, rfl⟩
  have hiv : ValidP its := by rw [hits]; exact stepM_valid validNil HR.out κ
  have hil : its.length = ws.length := by rw [hits]; exact stepM_len _ _ _
  have hi100 : ∀ x ∈ its, x.id < 100 := fun x hx => by
    have h1 := stepM_ids [] ws κ
    have : (x.id, x.wt) ∈ ws := by rw [← h1, ← hits]; exact List.mem_map.2 ⟨x, hx, rfl⟩
    exact HS100.out _ this
  rw [← hits] at hri
  have hst3 : Step [] w2 o2 w3 (ext o2 w2.heap.size 2) := (Step.refl [] w2 o2).below hb3 2
  have hrow3 := HROW.out.step hst3 (by simp)
  have hri3 := hri.view (o2 := ext o2 w2.heap.size 2) (τ2 := 2) (fun ad had => by injection had with had; subst had; exact ext_ge hob)
  obtain ⟨o4, ho4⟩ : ∃ o4, o4 = ext o2 w2.heap.size 2 := ⟨_, rfl⟩
  rw [← ho4] at hst3 hrow3 hri3
  have hnl : ws.length = n := HN.out.symm
  rw [hnl] at hri3 hil ⊢
  obtain ⟨oA, stA, rwA, slA, upA⟩ := laidI hrow3 #[.int .i64 100, .int .i64 1] 2 rfl (by omega) 46
  have rwI := upA hri3
  have HS3 := Lib.hid (HS2.out.trans hst3 |>.trans stA); have RWA := Lib.hid rwA; have RWI := Lib.hid rwI; have SLA := Lib.hid slA
  have HIV := Lib.hid hiv; have HIL := Lib.hid hil; have HI100 := Lib.hid hi100; have HNL := Lib.hid hnl
  clear hst3 hrow3 hri3 hri rwA rwI slA stA upA HS2 HROW hits hiv hil hi100 ho4 hob hb3 hnl HN
  have b1 : -9223372036854775808 ≤ L := by omega
  have b2 : G ≤ 9223372036854775807 := by omega
  go_wp2_with (first
    | (at_builtin; refine wpList_append_row _ rfl (.tmp 47) (.tmp 49) _ rfl el_want oA 20 A n c _ rfl RWA.out oA 5 _ 1 1 [.int .i64 100, .int .i64 1] rfl SLA.out (by simp [Value.oneCell']) (by omega) (by simp only [maxLen]; omega) ?_; intro A' c' w6 hR6 hg6 hat6; have st6 := Step.append RWA.out hg6 20; have rwI6 := RWI.out.step st6 (by decide); obtain ⟨oB, stB, rwB, slB, upB⟩ := laidI rwI6 #[.int .i64 100, .int .i64 1, .int .i64 0] 3 rfl (by omega) 50; have RWB := Lib.hid rwB; have SLB := Lib.hid slB; have RWW := Lib.hid (upB hR6); have HS6 := Lib.hid ((HS3.out.nil (ts := [20])).trans st6 |>.trans stB.nil); clear hR6 hg6 hat6 st6 rwI6 stB rwB slB upB)
    | (at_builtin; refine wpList_append_row _ rfl (.tmp 51) (.tmp 53) _ rfl el_item oB 2 _ n n _ rfl RWB.out oB 5 _ 1 1 [.int .i64 100, .int .i64 1, .int .i64 0] rfl SLB.out (by simp [Value.oneCell']) (by omega) (by simp only [maxLen]; omega) ?_; intro B' d' w7 hR7 hg7 hat7; have st7 := Step.append RWB.out hg7 2; have RWW7 := Lib.hid (RWW.out.step st7 (by decide)); have RWI7 := Lib.hid hR7; have HS7 := Lib.hid ((HS6.out.mono (ts' := [20, 2]) (by simp)).trans (st7.mono (by simp))); clear hR7 hg7 hat7 st7 RWB RWW SLB HS6; obtain ⟨gi, rfl, -, hgi, hci, hfi⟩ := RWI7.out.cellG (k := n * 3 + 1) ((itms_end its 100 1 0 (n * 3 + 1)).1 (by have := HIL.out; omega)) (by omega)))
  clear hci hfi hgi
  have stS := RWI7.out.stored (n * 3 + 1) (.int .i64 17)
  have SI := Lib.hid (show Sl _ _ 2 3 _ _ _ (itms (its ++ [⟨100, 17, 0⟩])) by rw [← itms_set1 its 100 1 0 17 (n * 3 + 1) (by rw [HIL.out])]; exact (RWI7.out.setG (by omega) _).sl)
  have SW := Lib.hid (show Sl _ _ 20 2 _ _ _ (wnts (ws ++ [(100, 1)])) by rw [wnts_app]; exact (RWW7.out.step stS (by decide)).sl)
  have HSZ := Lib.hid (HS7.out.trans (stS.mono (ts' := [20, 2]) (by simp)))
  have hbad : (κ : Int) < 0 ∨ validB (its ++ [⟨100, 17, 0⟩]) = false ∨ rightB (ws ++ [(100, 1)]) = false := .inr (.inl (not_valid fun h => by have := h.1.2.1 (100, 17) (List.mem_map.2 ⟨⟨100, 17, 0⟩, by simp, rfl⟩); simp only at this; omega))
  clear stS
  have HB := Lib.hid hbad
  clear hbad
  refine (Step_bad _ _ 2 20 _ _ _ _ SI.out _ _ _ _ SW.out _ HB.out).mono ?_
  rintro e w8 ⟨rfl, hb8⟩
  have st8 := SI.out.under hb8
  have SI8 := Lib.hid (SI.out.step st8 (by simp)); have SW8 := Lib.hid (SW.out.step st8 (by simp)); have HS8 := Lib.hid (HSZ.out.trans st8.nil)
  clear hb8 st8
  go_wp2_with fail
  refine (Run_bad _ _ 2 20 _ _ _ _ SI8.out _ _ _ _ SW8.out _ _ (.inr (.inr HB.out))).mono ?_
  rintro e w9 ⟨rfl, hb9⟩
  have HS9 := Lib.hid (HS8.out.below hb9 5)
  clear hb9
  go_wp2_with fail
  refine (Bound_bad _ _ _ _ _ (by omega)).mono ?_
  rintro e w10 ⟨rfl, rfl⟩
  go_wp2_with fail
  refine (Bound_bad _ _ _ _ _ (by omega)).mono ?_
  rintro e w11 ⟨rfl, rfl⟩
  go_wp2_with fail
  refine (Bound_bad _ _ _ _ _ (by omega)).mono ?_
  rintro e w12 ⟨rfl, rfl⟩
  go_wp2_with fail
  go_ret
  exact ⟨rfl, (HS9.out.forget (ts' := []) (fun t ht _ k hk => by simp at ht; rcases ht with rfl | rfl <;> simp)).to_below (by simp)⟩

set_option maxRecDepth 100000 in
set_option maxHeartbeats 2000000 in
theorem wrong_5 (w : World) (bits weights k way low high : Int) (hb0 : 0 ≤ bits) (hb1 : bits ≤ 65535) (hw0 : 0 ≤ weights) (hw1 : weights ≤ 18446744073709551615) (hk0 : 0 ≤ k) (hk1 : k ≤ 255) (hy0 : 0 ≤ way) (hy1 : way ≤ 255) (hway : way % 8 = 5)
    (hlo : -9223372036854775808 ≤ low) (hhi : high ≤ 9223372036854775807) :
    Calls Try.prog 10 #[.agg #[.int .u16 bits, .int .u64 weights, .int .u8 k], .int .u8 way, .int .i64 low, .int .i64 high] w (SaysTo w true) := by
  have hmade := fun W o => made_any W o 20 bits weights k hb0 hb1 hw0 hw1 hk0 hk1
  obtain ⟨κ, hκ⟩ : ∃ κ : Nat, 1 + k % 4 = (κ : Int) := ⟨(1 + k % 4).toNat, by omega⟩
  have hκ4 : κ ≤ 4 := by omega
  rw [hκ] at hmade
  obtain ⟨ws, hws⟩ : ∃ ws, ws = madeTo bits.toNat weights.toNat 16 := ⟨_, rfl⟩
  rw [← hws] at hmade
  have hr : RightP ws := by rw [hws]; exact madeTo_right _ _ _ (by omega)
  have hn16 : ws.length ≤ 16 := by rw [hws]; exact madeTo_len _ _ _
  have hs100 : ∀ x ∈ ws, x.1 < 100 := fun x hx => by rw [hws] at hx; obtain ⟨i, hi, h1, -⟩ := madeTo_mem hx; omega
  obtain ⟨L, hL⟩ : ∃ L, min low (-1) = L := ⟨_, rfl⟩
  obtain ⟨G, hG⟩ : ∃ G, max high 1073741825 = G := ⟨_, rfl⟩
  have hL1 : L < 0 := by omega
  have hG1 : 1073741825 ≤ G := by omega
  have hL2 : min L 0 = L := by omega
  have hG2 : max G 65 = G := by omega
  have HMD := Lib.hid hmade; have HR := Lib.hid hr; have HS100 := Lib.hid hs100
  clear hmade hr hws hκ hs100
  go_enter Try.func10, Try.ntmps10
  go_wp2_with fail
  refine (awake_any _).mono ?_
  rintro e w1 ⟨rfl, hb1'⟩
  have hst1 := ((Step.refl [] w (fun _ => 0)).alloc (.cells #[.int .u16 bits, .int .u64 weights, .int .u8 k] 41) 5).below hb1' 5
  have hbT := (Blk.new w 41 #[.int .u16 bits, .int .u64 weights, .int .u8 k]).below hb1' (by simp)
  have c0 := hbT.cell 0; have c1 := hbT.cell 1; have c2 := hbT.cell 2
  simp only [List.getElem?_toArray, List.getElem?_cons_zero, List.getElem?_cons_succ] at c0 c1 c2
  obtain ⟨o1, ho1⟩ : ∃ o1, o1 = ext (ext (fun _ => 0) w.heap.size 5) (w.alloc (.cells #[.int .u16 bits, .int .u64 weights, .int .u8 k] 41)).heap.size 5 := ⟨_, rfl⟩
  rw [← ho1] at hst1
  have h20 : ∀ b, b < w1.heap.size → o1 b ≠ 20 := by
    intro b _
    have : o1 b = 0 ∨ o1 b = 5 := by
      rw [ho1]
      unfold ext
      split
      · split
        · exact .inl rfl
        · exact .inr rfl
      · exact .inr rfl
    omega
  have HS1 := Lib.hid hst1; have H20 := Lib.hid h20
  clear hst1 hbT hb1' ho1 h20
  go_wp2_with fail
  refine (HMD.out w1 o1 H20.out (by decide)).mono ?_
  rintro e w2 ⟨A, n, c, o2, rfl, hst2, hrow⟩
  have hn : n = ws.length := by have := hrow.len; rw [len_wnts] at this; omega
  have hnn16 : n ≤ 16 := by omega
  have HS2 := Lib.hid (HS1.out.trans hst2); have HROW := Lib.hid hrow; have HN := Lib.hid hn
  clear hst2 hrow hn hn16 HMD HS1 H20 c0 c1 c2
  go_wp2_with fail
  have hstp := Step_any w2 o2 0 20 none 0 0 [] (Sl.nil_ _ _ _ _ _ _ (by decide)) A n c ws HROW.out.sl validNil HR.out κ (by omega)
  refine hstp.mono ?_
  clear hstp
  rintro e w3 ⟨ob, SA, sc, o3, rfl, hb3, hob, -, hri, -⟩
  obtain ⟨its, hits⟩ : ∃ its, its = (stepM [] ws κ).1 := ⟨_, rfl⟩
  have hiv : ValidP its := by rw [hits]; exact stepM_valid validNil HR.out κ
  have hil : its.length = ws.length := by rw [hits]; exact stepM_len _ _ _
  have hi100 : ∀ x ∈ its, x.id < 100 := fun x hx => by
    have h1 := stepM_ids [] ws κ
    have : (x.id, x.wt) ∈ ws := by rw [← h1, ← hits]; exact List.mem_map.2 ⟨x, hx, rfl⟩
    exact HS100.out _ this
  rw [← hits] at hri
  have hst3 : Step [] w2 o2 w3 (ext o2 w2.heap.size 2) := (Step.refl [] w2 o2).below hb3 2
  have hrow3 := HROW.out.step hst3 (by simp)
  have hri3 := hri.view (o2 := ext o2 w2.heap.size 2) (τ2 := 2) (fun ad had => by injection had with had; subst had; exact ext_ge hob)
  obtain ⟨o4, ho4⟩ : ∃ o4, o4 = ext o2 w2.heap.size 2 := ⟨_, rfl⟩
  rw [← ho4] at hst3 hrow3 hri3
  have hnl : ws.length = n := HN.out.symm
  rw [hnl] at hri3 hil ⊢
  obtain ⟨oA, stA, rwA, slA, upA⟩ := laidI hrow3 #[.int .i64 100, .int .i64 1] 2 rfl (by omega) 46
  have rwI := upA hri3
  have HS3 := Lib.hid (HS2.out.trans hst3 |>.trans stA); have RWA := Lib.hid rwA; have RWI := Lib.hid rwI; have SLA := Lib.hid slA
  have HIV := Lib.hid hiv; have HIL := Lib.hid hil; have HI100 := Lib.hid hi100; have HNL := Lib.hid hnl
  clear hst3 hrow3 hri3 hri rwA rwI slA stA upA HS2 HROW hits hiv hil hi100 ho4 hob hb3 hnl HN
  have b1 : -9223372036854775808 ≤ L := by omega
  have b2 : G ≤ 9223372036854775807 := by omega
  go_wp2_with (first
    | (at_builtin; refine wpList_append_row _ rfl (.tmp 47) (.tmp 49) _ rfl el_want oA 20 A n c _ rfl RWA.out oA 5 _ 1 1 [.int .i64 100, .int .i64 1] rfl SLA.out (by simp [Value.oneCell']) (by omega) (by simp only [maxLen]; omega) ?_; intro A' c' w6 hR6 hg6 hat6; have st6 := Step.append RWA.out hg6 20; have rwI6 := RWI.out.step st6 (by decide); obtain ⟨oB, stB, rwB, slB, upB⟩ := laidI rwI6 #[.int .i64 100, .int .i64 1, .int .i64 0] 3 rfl (by omega) 50; have RWB := Lib.hid rwB; have SLB := Lib.hid slB; have RWW := Lib.hid (upB hR6); have HS6 := Lib.hid ((HS3.out.nil (ts := [20])).trans st6 |>.trans stB.nil); clear hR6 hg6 hat6 st6 rwI6 stB rwB slB upB)
    | (at_builtin; refine wpList_append_row _ rfl (.tmp 51) (.tmp 53) _ rfl el_item oB 2 _ n n _ rfl RWB.out oB 5 _ 1 1 [.int .i64 100, .int .i64 1, .int .i64 0] rfl SLB.out (by simp [Value.oneCell']) (by omega) (by simp only [maxLen]; omega) ?_; intro B' d' w7 hR7 hg7 hat7; have st7 := Step.append RWB.out hg7 2; have RWW7 := Lib.hid (RWW.out.step st7 (by decide)); have RWI7 := Lib.hid hR7; have HS7 := Lib.hid ((HS6.out.mono (ts' := [20, 2]) (by simp)).trans (st7.mono (by simp))); clear hR7 hg7 hat7 st7 RWB RWW SLB HS6; obtain ⟨oC, stC, rwC, slC, upC⟩ := laidI RWI7.out #[.int .i64 99, .int .i64 1, .int .i64 0] 3 rfl (by omega) 50; have RWC := Lib.hid rwC; have SLC := Lib.hid slC; have RIC := Lib.hid (upC RWW7.out); have HSC := Lib.hid (HS7.out.trans stC.nil); clear stC rwC slC upC)
    | (at_builtin; refine wpList_append_row _ rfl (.tmp 97) (.tmp 99) _ rfl el_item oC 2 B' (n + 1) d' _ rfl RWC.out oC 5 _ 1 1 [.int .i64 99, .int .i64 1, .int .i64 0] rfl SLC.out (by simp [Value.oneCell']) (by omega) (by simp only [maxLen]; omega) ?_; intro A2 c2 w77 hR77 hg77 hat77; have st77 := Step.append RWC.out hg77 2; have RIZ := Lib.hid (RIC.out.step st77 (by decide)); have RWZ := Lib.hid hR77; have HSZ := Lib.hid (HSC.out.trans (st77.mono (ts' := [20, 2]) (by simp))); clear hR77 hg77 hat77 st77))
  have SI := Lib.hid (show Sl _ _ 2 3 _ _ _ (itms (its ++ [⟨100, 1, 0⟩] ++ [⟨99, 1, 0⟩])) by rw [itms_app, itms_app]; exact RWZ.out.sl)
  have SW := Lib.hid (show Sl _ _ 20 2 _ _ _ (wnts (ws ++ [(100, 1)])) by rw [wnts_app]; exact RIZ.out.sl)
  have hbad : (κ : Int) < 0 ∨ validB (its ++ [⟨100, 1, 0⟩] ++ [⟨99, 1, 0⟩]) = false ∨ rightB (ws ++ [(100, 1)]) = false := .inr (.inl (not_valid fun h => by have h2 := h.1.2.2; rw [List.map_append, List.pairwise_append] at h2; have := h2.2.2 (100, 1) (by simp) (99, 1) (by simp); simp only at this; omega))
  have HB := Lib.hid hbad
  clear hbad
  refine (Step_bad _ _ 2 20 _ _ _ _ SI.out _ _ _ _ SW.out _ HB.out).mono ?_
  rintro e w8 ⟨rfl, hb8⟩
  have st8 := SI.out.under hb8
  have SI8 := Lib.hid (SI.out.step st8 (by simp)); have SW8 := Lib.hid (SW.out.step st8 (by simp)); have HS8 := Lib.hid (HSZ.out.trans st8.nil)
  clear hb8 st8
  go_wp2_with fail
  refine (Run_bad _ _ 2 20 _ _ _ _ SI8.out _ _ _ _ SW8.out _ _ (.inr (.inr HB.out))).mono ?_
  rintro e w9 ⟨rfl, hb9⟩
  have HS9 := Lib.hid (HS8.out.below hb9 5)
  clear hb9
  go_wp2_with fail
  refine (Bound_bad _ _ _ _ _ (by omega)).mono ?_
  rintro e w10 ⟨rfl, rfl⟩
  go_wp2_with fail
  refine (Bound_bad _ _ _ _ _ (by omega)).mono ?_
  rintro e w11 ⟨rfl, rfl⟩
  go_wp2_with fail
  refine (Bound_bad _ _ _ _ _ (by omega)).mono ?_
  rintro e w12 ⟨rfl, rfl⟩
  go_wp2_with fail
  go_ret
  exact ⟨rfl, (HS9.out.forget (ts' := []) (fun t ht _ k hk => by simp at ht; rcases ht with rfl | rfl <;> simp)).to_below (by simp)⟩

set_option maxRecDepth 100000 in
set_option maxHeartbeats 2000000 in
theorem wrong_7 (w : World) (bits weights k way low high : Int) (hb0 : 0 ≤ bits) (hb1 : bits ≤ 65535) (hw0 : 0 ≤ weights) (hw1 : weights ≤ 18446744073709551615) (hk0 : 0 ≤ k) (hk1 : k ≤ 255) (hy0 : 0 ≤ way) (hy1 : way ≤ 255) (hway : way % 8 = 7)
    (hlo : -9223372036854775808 ≤ low) (hhi : high ≤ 9223372036854775807) :
    Calls Try.prog 10 #[.agg #[.int .u16 bits, .int .u64 weights, .int .u8 k], .int .u8 way, .int .i64 low, .int .i64 high] w (SaysTo w true) := by
  have hmade := fun W o => made_any W o 20 bits weights k hb0 hb1 hw0 hw1 hk0 hk1
  obtain ⟨κ, hκ⟩ : ∃ κ : Nat, 1 + k % 4 = (κ : Int) := ⟨(1 + k % 4).toNat, by omega⟩
  have hκ4 : κ ≤ 4 := by omega
  rw [hκ] at hmade
  obtain ⟨ws, hws⟩ : ∃ ws, ws = madeTo bits.toNat weights.toNat 16 := ⟨_, rfl⟩
  rw [← hws] at hmade
  have hr : RightP ws := by rw [hws]; exact madeTo_right _ _ _ (by omega)
  have hn16 : ws.length ≤ 16 := by rw [hws]; exact madeTo_len _ _ _
  have hs100 : ∀ x ∈ ws, x.1 < 100 := fun x hx => by rw [hws] at hx; obtain ⟨i, hi, h1, -⟩ := madeTo_mem hx; omega
  obtain ⟨L, hL⟩ : ∃ L, min low (-1) = L := ⟨_, rfl⟩
  obtain ⟨G, hG⟩ : ∃ G, max high 1073741825 = G := ⟨_, rfl⟩
  have hL1 : L < 0 := by omega
  have hG1 : 1073741825 ≤ G := by omega
  have hL2 : min L 0 = L := by omega
  have hG2 : max G 65 = G := by omega
  have HMD := Lib.hid hmade; have HR := Lib.hid hr; have HS100 := Lib.hid hs100
  clear hmade hr hws hκ hs100
  go_enter Try.func10, Try.ntmps10
  go_wp2_with fail
  refine (awake_any _).mono ?_
  rintro e w1 ⟨rfl, hb1'⟩
  have hst1 := ((Step.refl [] w (fun _ => 0)).alloc (.cells #[.int .u16 bits, .int .u64 weights, .int .u8 k] 41) 5).below hb1' 5
  have hbT := (Blk.new w 41 #[.int .u16 bits, .int .u64 weights, .int .u8 k]).below hb1' (by simp)
  have c0 := hbT.cell 0; have c1 := hbT.cell 1; have c2 := hbT.cell 2
  simp only [List.getElem?_toArray, List.getElem?_cons_zero, List.getElem?_cons_succ] at c0 c1 c2
  obtain ⟨o1, ho1⟩ : ∃ o1, o1 = ext (ext (fun _ => 0) w.heap.size 5) (w.alloc (.cells #[.int .u16 bits, .int .u64 weights, .int .u8 k] 41)).heap.size 5 := ⟨_, rfl⟩
  rw [← ho1] at hst1
  have h20 : ∀ b, b < w1.heap.size → o1 b ≠ 20 := by
    intro b _
    have : o1 b = 0 ∨ o1 b = 5 := by
      rw [ho1]
      unfold ext
      split
      · split
        · exact .inl rfl
        · exact .inr rfl
      · exact .inr rfl
    omega
  have HS1 := Lib.hid hst1; have H20 := Lib.hid h20
  clear hst1 hbT hb1' ho1 h20
  go_wp2_with fail
  refine (HMD.out w1 o1 H20.out (by decide)).mono ?_
  rintro e w2 ⟨A, n, c, o2, rfl, hst2, hrow⟩
  have hn : n = ws.length := by have := hrow.len; rw [len_wnts] at this; omega
  have hnn16 : n ≤ 16 := by omega
  have HS2 := Lib.hid (HS1.out.trans hst2); have HROW := Lib.hid hrow; have HN := Lib.hid hn
  clear hst2 hrow hn hn16 HMD HS1 H20 c0 c1 c2
  go_wp2_with fail
  have hstp := Step_any w2 o2 0 20 none 0 0 [] (Sl.nil_ _ _ _ _ _ _ (by decide)) A n c ws HROW.out.sl validNil HR.out κ (by omega)
  refine hstp.mono ?_
  clear hstp
  rintro e w3 ⟨ob, SA, sc, o3, rfl, hb3, hob, -, hri, -⟩
  obtain ⟨its, hits⟩ : ∃ its, its = (stepM [] ws κ).1 := ⟨_, rfl⟩
  have hiv : ValidP its := by rw [hits]; exact stepM_valid validNil HR.out κ
  have hil : its.length = ws.length := by rw [hits]; exact stepM_len _ _ _
  have hi100 : ∀ x ∈ its, x.id < 100 := fun x hx => by
    have h1 := stepM_ids [] ws κ
    have : (x.id, x.wt) ∈ ws := by rw [← h1, ← hits]; exact List.mem_map.2 ⟨x, hx, rfl⟩
    exact HS100.out _ this
  rw [← hits] at hri
  have hst3 : Step [] w2 o2 w3 (ext o2 w2.heap.size 2) := (Step.refl [] w2 o2).below hb3 2
  have hrow3 := HROW.out.step hst3 (by simp)
  have hri3 := hri.view (o2 := ext o2 w2.heap.size 2) (τ2 := 2) (fun ad had => by injection had with had; subst had; exact ext_ge hob)
  obtain ⟨o4, ho4⟩ : ∃ o4, o4 = ext o2 w2.heap.size 2 := ⟨_, rfl⟩
  rw [← ho4] at hst3 hrow3 hri3
  have hnl : ws.length = n := HN.out.symm
  rw [hnl] at hri3 hil ⊢
  obtain ⟨oA, stA, rwA, slA, upA⟩ := laidI hrow3 #[.int .i64 100, .int .i64 1] 2 rfl (by omega) 46
  have rwI := upA hri3
  have HS3 := Lib.hid (HS2.out.trans hst3 |>.trans stA); have RWA := Lib.hid rwA; have RWI := Lib.hid rwI; have SLA := Lib.hid slA
  have HIV := Lib.hid hiv; have HIL := Lib.hid hil; have HI100 := Lib.hid hi100; have HNL := Lib.hid hnl
  clear hst3 hrow3 hri3 hri rwA rwI slA stA upA HS2 HROW hits hiv hil hi100 ho4 hob hb3 hnl HN
  have b1 : -9223372036854775808 ≤ L := by omega
  have b2 : G ≤ 9223372036854775807 := by omega
  go_wp2_with (first
    | (at_builtin; refine wpList_append_row _ rfl (.tmp 47) (.tmp 49) _ rfl el_want oA 20 A n c _ rfl RWA.out oA 5 _ 1 1 [.int .i64 100, .int .i64 1] rfl SLA.out (by simp [Value.oneCell']) (by omega) (by simp only [maxLen]; omega) ?_; intro A' c' w6 hR6 hg6 hat6; have st6 := Step.append RWA.out hg6 20; have rwI6 := RWI.out.step st6 (by decide); obtain ⟨oB, stB, rwB, slB, upB⟩ := laidI rwI6 #[.int .i64 100, .int .i64 1, .int .i64 0] 3 rfl (by omega) 50; have RWB := Lib.hid rwB; have SLB := Lib.hid slB; have RWW := Lib.hid (upB hR6); have HS6 := Lib.hid ((HS3.out.nil (ts := [20])).trans st6 |>.trans stB.nil); clear hR6 hg6 hat6 st6 rwI6 stB rwB slB upB)
    | (at_builtin; refine wpList_append_row _ rfl (.tmp 51) (.tmp 53) _ rfl el_item oB 2 _ n n _ rfl RWB.out oB 5 _ 1 1 [.int .i64 100, .int .i64 1, .int .i64 0] rfl SLB.out (by simp [Value.oneCell']) (by omega) (by simp only [maxLen]; omega) ?_; intro B' d' w7 hR7 hg7 hat7; have st7 := Step.append RWB.out hg7 2; have RWW7 := Lib.hid (RWW.out.step st7 (by decide)); have RWI7 := Lib.hid hR7; have HS7 := Lib.hid ((HS6.out.mono (ts' := [20, 2]) (by simp)).trans (st7.mono (by simp))); clear hR7 hg7 hat7 st7 RWB RWW SLB HS6))
  have SW := Lib.hid (show Sl _ _ 20 2 _ _ _ (wnts (ws ++ [(100, 1)])) by rw [wnts_app]; exact RWW7.out.sl)
  have SI := Lib.hid (show Sl _ _ 2 3 _ _ _ (itms (its ++ [⟨100, 1, 0⟩])) by rw [itms_app]; exact RWI7.out.sl)
  have hrm := right_more HR.out (by rw [HNL.out]; omega) HS100.out
  have hvm := valid_more HIV.out (by rw [HIL.out]; omega) HI100.out
  refine (Step_any _ _ 2 20 _ _ _ _ SI.out _ _ _ _ SW.out hvm hrm κ (by omega)).mono ?_
  rintro e w8 ⟨ob2, SA2, sc2, o8, rfl, hb8, -, -, -, -⟩
  have st8 := SI.out.under hb8
  have SI8 := Lib.hid (SI.out.step st8 (by simp)); have SW8 := Lib.hid (SW.out.step st8 (by simp)); have HS8 := Lib.hid (HS7.out.trans st8.nil)
  clear hb8 st8 hrm hvm
  go_wp2_with fail
  refine (Run_bad _ _ 2 20 _ _ _ _ SI8.out _ _ _ _ SW8.out _ _ (.inl hL1)).mono ?_
  rintro e w9 ⟨rfl, hb9⟩
  have HS9 := Lib.hid (HS8.out.below hb9 5)
  clear hb9
  go_wp2_with fail
  refine (Bound_bad _ _ _ _ _ (by omega)).mono ?_
  rintro e w10 ⟨rfl, rfl⟩
  go_wp2_with fail
  refine (Bound_bad _ _ _ _ _ (by omega)).mono ?_
  rintro e w11 ⟨rfl, rfl⟩
  go_wp2_with fail
  refine (Bound_bad _ _ _ _ _ (by omega)).mono ?_
  rintro e w12 ⟨rfl, rfl⟩
  go_wp2_with fail
  go_ret
  exact ⟨rfl, (HS9.out.forget (ts' := []) (fun t ht _ k hk => by simp at ht; rcases ht with rfl | rfl <;> simp)).to_below (by simp)⟩

theorem BudgetWrong_walk (w : World) (bits weights k way low high : Int) (hb0 : 0 ≤ bits) (hb1 : bits ≤ 65535) (hw0 : 0 ≤ weights) (hw1 : weights ≤ 18446744073709551615) (hk0 : 0 ≤ k) (hk1 : k ≤ 255) (hy0 : 0 ≤ way) (hy1 : way ≤ 255)
    (hlo : -9223372036854775808 ≤ low) (hhi : high ≤ 9223372036854775807) :
    Calls Try.prog 10 #[.agg #[.int .u16 bits, .int .u64 weights, .int .u8 k], .int .u8 way, .int .i64 low, .int .i64 high] w (SaysTo w true) := by
  have h : way % 8 = 0 ∨ way % 8 = 1 ∨ way % 8 = 2 ∨ way % 8 = 3 ∨ way % 8 = 4 ∨ way % 8 = 5 ∨ way % 8 = 6 ∨ way % 8 = 7 := by omega
  rcases h with h | h | h | h | h | h | h | h
  · exact wrong_0 w bits weights k way low high hb0 hb1 hw0 hw1 hk0 hk1 hy0 hy1 h hlo hhi
  · exact wrong_1 w bits weights k way low high hb0 hb1 hw0 hw1 hk0 hk1 hy0 hy1 h hlo hhi
  · exact wrong_2 w bits weights k way low high hb0 hb1 hw0 hw1 hk0 hk1 hy0 hy1 h hlo hhi
  · exact wrong_3 w bits weights k way low high hb0 hb1 hw0 hw1 hk0 hk1 hy0 hy1 h hlo hhi
  · exact wrong_4 w bits weights k way low high hb0 hb1 hw0 hw1 hk0 hk1 hy0 hy1 h hlo hhi
  · exact wrong_5 w bits weights k way low high hb0 hb1 hw0 hw1 hk0 hk1 hy0 hy1 h hlo hhi
  · exact wrong_6 w bits weights k way low high hb0 hb1 hw0 hw1 hk0 hk1 hy0 hy1 h hlo hhi
  · exact wrong_7 w bits weights k way low high hb0 hb1 hw0 hw1 hk0 hk1 hy0 hy1 h hlo hhi
end Go.Proofs.Ytkiknbjokknemaa
