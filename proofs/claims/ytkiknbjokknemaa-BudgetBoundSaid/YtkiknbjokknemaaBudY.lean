/-
  WALK of BudgetShares.
-/
import Derived.Test.YtkiknbjokknemaaBudX
import Derived.Laws.OwnMore
namespace Go.Proofs.Ytkiknbjokknemaa
open Go.RowKit

/-- How often each want's ID stands in the lists. -/
def cnts (ws : List (Int × Int)) (ls : List (List Int)) : List Int := ws.map fun x => (cntOf ls x.1 : Int)

/-- Row of numbers, one more at a place. -/
theorem ints_set (l : List Int) (i : Nat) (x : Int) : (ints l).set i (.int .i64 x) = ints (l.set i x) := by simp [ints, List.map_set]

theorem make_ints (m : Nat) (hm : m ≤ 64) : ∃ cs : Array Value, cs.toList = ints (List.replicate m 0) ∧ ∀ W, (Instr.makeSlice 42 (.int .i64 (m : Int)) (.int .i64 (m : Int))).run Try.prog W = .ok (.slice (some ⟨W.heap.size, 0, none⟩) m m) (W.alloc (.cells cs 3)) := by
  obtain ⟨i, h1, h2, h3, h4⟩ := info_parts (P := Try.prog) (e := 3) (z := .int .i64 0) (size := 1) (bytes := 8) (by kernel_rfl)
  refine ⟨madeCells #[.int .i64 0] m, by rw [toList_madeCells_one]; simp [ints], fun W => ?_⟩
  have h := run_makeSlice (P := Try.prog) W 42 3 i (.int .i64 0) Try.underlying42 h1 h2 .i64 .i64 (m : Int) (m : Int) (by omega) (by omega) (by rw [h3, Int.toNat_natCast]; omega) (by rw [h4]; omega) (by omega)
  rw [h3, Int.toNat_natCast, Nat.mul_one] at h
  exact h

theorem Row.fromList {w : World} (o : Own) (τ : Nat) (e : TypeId) (cs : Array Value) (xs : List Value) (h : cs.toList = xs) (n : Nat) (hn : xs.length = n) (hm : n ≤ maxLen) : Row (w.alloc (.cells cs e)) (ext o w.heap.size τ) τ e 1 (some ⟨w.heap.size, 0, none⟩) n n xs := by
  have hs : cs.size = n * 1 := by rw [← hn, ← h]; simp
  have := Row.made (w := w) o τ e 1 cs n hs hm n (Nat.le_refl _)
  rw [h, List.take_of_length_le (by omega)] at this
  exact this

/-- The first p of B, the rest of A. -/
def midC (A B : List Int) (p : Nat) : List Int := B.take p ++ A.drop p
theorem midC_zero (A B : List Int) : midC A B 0 = A := by simp [midC]
theorem midC_all {A B : List Int} {p : Nat} (hA : A.length = p) (hB : B.length = p) : midC A B p = B := by
  unfold midC
  rw [List.take_of_length_le (by omega), List.drop_eq_nil_of_le (by omega)]; simp
theorem midC_get {A B : List Int} {p : Nat} {a : Int} (hl : A.length = B.length) (ha : A[p]? = some a) : (midC A B p)[p]? = some a := by
  have hp := (List.getElem?_eq_some_iff.1 ha).1
  unfold midC
  rw [List.getElem?_append_right (by simp; omega)]
  rw [List.length_take, Nat.min_eq_left (by omega), List.getElem?_drop, Nat.sub_self, Nat.add_zero]
  exact ha
theorem midC_set {A B : List Int} {p : Nat} {a b : Int} (hl : A.length = B.length) (ha : A[p]? = some a) (hb : B[p]? = some b) : (midC A B p).set p b = midC A B (p + 1) := by
  have hp := (List.getElem?_eq_some_iff.1 ha).1
  unfold midC
  rw [List.take_add_one, hb, List.drop_eq_getElem_cons hp, List.set_append_right _ _ (by simp; omega)]
  rw [List.length_take, Nat.min_eq_left (by omega), Nat.sub_self]
  simp only [Option.toList_some, List.set_cons_zero, List.append_assoc, List.cons_append, List.nil_append]
theorem midC_keep {A B : List Int} {p : Nat} {a : Int} (ha : A[p]? = some a) (hb : B[p]? = some a) : midC A B p = midC A B (p + 1) := by
  have hp := (List.getElem?_eq_some_iff.1 ha).1
  unfold midC
  rw [List.take_add_one, hb, List.drop_eq_getElem_cons hp, (List.getElem?_eq_some_iff.1 ha).2]
  simp only [Option.toList_some, List.append_assoc, List.cons_append, List.nil_append]

theorem cntOf_le {ls : List (List Int)} {m : Nat} (h : ∀ x ∈ ls, x.length ≤ m) (id : Int) : cntOf ls id ≤ m * ls.length := by
  induction ls with
  | nil => simp [cntOf]
  | cons a ls ih =>
    have h1 := ih fun x hx => h x (by simp [hx])
    have h2 := h a (by simp)
    have h3 := List.count_le_length (a := id) (l := a)
    unfold cntOf at h1 ⊢
    rw [List.flatten_cons, List.count_append, List.length_cons, Nat.mul_add]
    omega

theorem cntOf_step (ls : List (List Int)) {x : List Int} {t : Nat} {id : Int} (h : x[t]? = some id) (id' : Int) : cntOf (ls ++ [x.take (t + 1)]) id' = cntOf (ls ++ [x.take t]) id' + if id' = id then 1 else 0 := by
  rw [cntOf_snoc, cntOf_snoc, List.take_add_one, h]
  simp only [Option.toList_some, List.count_append, List.count_singleton]
  by_cases c : id' = id
  · subst c; simp; omega
  · have : ¬ id = id' := fun h => c h.symm
    simp [c, this]

set_option maxRecDepth 100000 in
set_option maxHeartbeats 2000000 in
theorem BudgetShares_walk (w : World) (bits weights k steps : Int) (hb0 : 0 ≤ bits) (hb1 : bits ≤ 65535) (hw0 : 0 ≤ weights) (hw1 : weights ≤ 18446744073709551615) (hk0 : 0 ≤ k) (hk1 : k ≤ 255) (hs0 : 0 ≤ steps) (hs1 : steps ≤ 255) :
    Calls Try.prog 8 #[.agg #[.int .u16 bits, .int .u64 weights, .int .u8 k], .int .u8 steps] w (SaysTo w true) := by
  obtain ⟨s, hs⟩ : ∃ s : Nat, steps % 150 = (s : Int) := ⟨(steps % 150).toNat, by omega⟩
  have hs150 : s < 150 := by omega
  have hmade := fun W o => made_any W o 20 bits weights k hb0 hb1 hw0 hw1 hk0 hk1
  obtain ⟨κ, hκ⟩ : ∃ κ : Nat, 1 + k % 4 = (κ : Int) := ⟨(1 + k % 4).toNat, by omega⟩
  have hκ4 : κ ≤ 4 := by omega
  rw [hκ] at hmade
  obtain ⟨ws, hws⟩ : ∃ ws, ws = madeTo bits.toNat weights.toNat 16 := ⟨_, rfl⟩
  rw [← hws] at hmade
  have hr : RightP ws := by rw [hws]; exact madeTo_right _ _ _ (by omega)
  have hn16 : ws.length ≤ 16 := by rw [hws]; exact madeTo_len _ _ _
  have HMD := Lib.hid hmade; have HR := Lib.hid hr
  clear hmade hr hws hκ
  go_enter Try.func8, Try.ntmps8
  go_wp2_with fail
  refine (awake_any _).mono ?_
  rintro e w1 ⟨rfl, hb1'⟩
  have hst1 := ((Step.refl [] w (fun _ => 0)).alloc (.cells #[.int .u16 bits, .int .u64 weights, .int .u8 k] 41) 5).below hb1' 5
  have hbT := (Blk.new w 41 #[.int .u16 bits, .int .u64 weights, .int .u8 k]).below hb1' (by simp)
  have c0 := hbT.cell 0; have c1 := hbT.cell 1; have c2 := hbT.cell 2
  simp only [List.getElem?_toArray, List.getElem?_cons_zero, List.getElem?_cons_succ] at c0 c1 c2
  obtain ⟨o1, ho1⟩ : ∃ o1, o1 = ext (ext (fun _ => 0) w.heap.size 5) (w.alloc (.cells #[.int .u16 bits, .int .u64 weights, .int .u8 k] 41)).heap.size 5 := ⟨_, rfl⟩
  rw [← ho1] at hst1
  have h20 : ∀ b, b < w1.heap.size → o1 b ≠ 20 := by
    intro b _
    have : o1 b = 0 ∨ o1 b = 5 := by
      rw [ho1]
      unfold ext
      split
      · split
        · exact .inl rfl
        · exact .inr rfl
      · exact .inr rfl
    omega
  have HS1 := Lib.hid hst1; have H20 := Lib.hid h20
  clear hst1 hbT hb1' ho1 h20
  go_wp2_with fail
  refine (HMD.out w1 o1 H20.out (by decide)).mono ?_
  rintro e w2 ⟨A, n, c, o2, rfl, hst2, hrow⟩
  have hn : n = ws.length := by have := hrow.len; rw [len_wnts] at this; omega
  have hnn16 : n ≤ 16 := by omega
  have HS2 := Lib.hid (HS1.out.trans hst2); have HROW := Lib.hid hrow; have HN := Lib.hid hn
  clear hst2 hrow hn hn16 HMD HS1 H20 c0 c1 c2
  go_wp2_with fail
  have hrun := Run_any w2 o2 0 20 none 0 0 [] (Sl.nil_ _ _ _ _ _ _ (by decide)) A n c ws HROW.out.sl validNil HR.out κ (by omega) s (by omega)
  refine hrun.mono ?_
  clear hrun
  rintro e w3 ⟨A3, n3, c3, LA, lc, o3, rfl, hs3, -, -, hLA⟩
  have HLA := Lib.hid (hLA.mixed hs3 o2 (by decide) (by decide)); have HROW3 := Lib.hid (HROW.out.step (hs3.mixed o2) (by simp)); have HS3 := Lib.hid (HS2.out.trans (hs3.mixed o2))
  clear hs3 hLA
  obtain ⟨T0, hT0, hmk⟩ := make_ints n (by omega)
  go_wp2_with fail
  clear hmk
  have hrt := Row.fromList (w := w3) (mix o2 w2.heap.size o3) 30 3 T0 _ hT0 n (by simp) (by unfold maxLen; omega)
  have hst4 := (Step.refl [30] w3 (mix o2 w2.heap.size o3)).alloc (.cells T0 3) 30
  obtain ⟨tb, htb⟩ : ∃ tb, tb = w3.heap.size := ⟨_, rfl⟩
  rw [← htb] at hrt hst4 ⊢
  obtain ⟨w4, hw4⟩ : ∃ w4, w4 = w3.alloc (.cells T0 3) := ⟨_, rfl⟩
  rw [← hw4] at hrt hst4 ⊢
  obtain ⟨o4, ho4⟩ : ∃ o4, o4 = ext (mix o2 w2.heap.size o3) tb 30 := ⟨_, rfl⟩
  rw [← ho4] at hrt hst4
  obtain ⟨all, hall⟩ : ∃ all, all = (runM [] ws κ s).2 := ⟨_, rfl⟩
  have hal : all.length = s := by rw [hall, runM_len]
  have hlists := HLA.out.step hst4 (by decide) (by decide)
  rw [← hall] at hlists
  have hlen : ∀ x ∈ all, x.length ≤ 16 := fun x hx => by
    obtain ⟨i, hi⟩ := List.mem_iff_getElem?.1 hx
    rw [hall] at hi
    rw [sent_lens hi]; omega
  have hshare : ∀ x y, x ∈ ws → y ∈ ws → y.2 < x.2 → cntOf all y.1 ≤ cntOf all x.1 := fun x y hx hy h => by rw [hall]; exact shares HR.out κ s (by omega) hx hy h
  have hz : ints (List.replicate n 0) = ints (cnts ws []) := by
    have : cnts ws [] = List.replicate n 0 := by
      unfold cnts
      rw [HN.out, ← List.map_const']
      rfl
    rw [this]
  rw [hz] at hrt
  have HT := Lib.hid hrt; have HST := Lib.hid (HS3.out.nil (ts := [30]) |>.trans hst4); have HL := Lib.hid hlists; have HW := Lib.hid (HROW3.out.step hst4 (by decide)); have HAL := Lib.hid hal; have HLEN := Lib.hid hlen; have HSH := Lib.hid hshare
  clear hrt hst4 hlists hal hlen hshare hz hw4 ho4 htb hT0 hall HLA HROW HROW3 HS3 HS2
  go_loopw [45, 12] (fun i _ wt => ∃ (j : Nat) (oj : Own), j ≤ s ∧ i = .int .i64 j ∧ Hid (Step [30] w4 o4 wt oj ∧ Row wt oj 30 3 1 (some ⟨tb, 0, none⟩) n n (ints (cnts ws (all.take j))))) (fun i _ _ => s - (intOf i).toNat)
  case atStart => exact ⟨0, o4, Nat.zero_le _, rfl, Lib.hid ⟨Step.refl _ _ _, HT.out⟩⟩
  case round => as_aux_lemma =>
    obtain ⟨j, oj, hj, rfl, HJ⟩ := hrel
    by_cases hlt : j < s
    · obtain ⟨x, hx⟩ : ∃ x, all[j]? = some x := ⟨_, List.getElem?_eq_getElem (by rw [HAL.out]; exact hlt)⟩
      obtain ⟨g, S, cap, hLe, hcl, hS⟩ := (HL.out.step HJ.out.1 (by decide) (by decide)).get hx
      have hx16 := HLEN.out x (List.mem_of_getElem? hx)
      obtain ⟨xl, hxl⟩ : ∃ xl, xl = x.length := ⟨_, rfl⟩
      rw [← hxl] at hcl hS hx16
      subst hLe
      have HX := Lib.hid hx; have HS := Lib.hid hS; have HXL := Lib.hid hxl
      clear hx hS hxl
      go_wp2_with fail
      go_loopw [51, 14] (fun i _ wt => ∃ (t : Nat) (ot : Own), t ≤ xl ∧ i = .int .i64 t ∧ Hid (Step [30] wr oj wt ot ∧ Row wt ot 30 3 1 (some ⟨tb, 0, none⟩) n n (ints (cnts ws (all.take j ++ [x.take t]))))) (fun i _ _ => xl - (intOf i).toNat)
      case atStart => exact ⟨0, oj, Nat.zero_le _, rfl, Lib.hid ⟨Step.refl _ _ _, by
        have : cnts ws (all.take j ++ [x.take 0]) = cnts ws (all.take j) := by unfold cnts; simp [cntOf]
        rw [this]; exact HJ.out.2⟩⟩
      case round => as_aux_lemma =>
        obtain ⟨t, ot, ht, rfl, HK⟩ := hrel
        by_cases hlt2 : t < xl
        · obtain ⟨id, hid⟩ : ∃ id, x[t]? = some id := ⟨_, List.getElem?_eq_getElem (by rw [← HXL.out]; exact hlt2)⟩
          obtain ⟨gs, offs, hSe, hgs, hcs⟩ := (HS.out.step HK.out.1 (by decide)).int hid
          subst hSe
          have HID := Lib.hid hid
          clear hid
          go_wp2_with fail
          go_loopw [57, 16, 15] (fun i _ _ wt => ∃ (p : Nat) (op : Own), p ≤ n ∧ i = .int .i64 p ∧ Hid (Step [30] wr ot wt op ∧ Row wt op 30 3 1 (some ⟨tb, 0, none⟩) n n (ints (midC (cnts ws (all.take j ++ [x.take t])) (cnts ws (all.take j ++ [x.take (t + 1)])) p)))) (fun i _ _ _ => n - (intOf i).toNat)
          case atStart => exact ⟨0, ot, Nat.zero_le _, rfl, Lib.hid ⟨Step.refl _ _ _, by rw [midC_zero]; exact HK.out.2⟩⟩
          case round => as_aux_lemma =>
            obtain ⟨p, op, hp, rfl, HP⟩ := hrel
            by_cases hlt3 : p < n
            · obtain ⟨⟨a, b⟩, hy⟩ : ∃ y, ws[p]? = some y := ⟨_, List.getElem?_eq_getElem (by rw [← HN.out]; exact hlt3)⟩
              have hstp := (HJ.out.1.trans HK.out.1).trans HP.out.1
              obtain ⟨gw, offw, hAe, -, hgw, hcw0, hcw1⟩ := (HW.out.step hstp (by decide)).sl.want hy
              subst hAe
              simp only at hcw0 hcw1
              have hca : (cnts ws (all.take j ++ [x.take t]))[p]? = some (cntOf (all.take j ++ [x.take t]) a : Int) := by unfold cnts; rw [List.getElem?_map, hy]; rfl
              have hcb : (cnts ws (all.take j ++ [x.take (t + 1)]))[p]? = some (cntOf (all.take j ++ [x.take (t + 1)]) a : Int) := by unfold cnts; rw [List.getElem?_map, hy]; rfl
              rw [cntOf_step _ HID.out] at hcb
              have hle : (cnts ws (all.take j ++ [x.take t])).length = (cnts ws (all.take j ++ [x.take (t + 1)])).length := by simp [cnts]
              have HY := Lib.hid hy; have HCA := Lib.hid hca; have HCB := Lib.hid hcb; have HLE := Lib.hid hle
              obtain ⟨v, hv⟩ : ∃ v, v = cntOf (all.take j ++ [x.take t]) a := ⟨_, rfl⟩
              rw [← hv] at HCA HCB
              clear hy hca hcb hle hstp
              by_cases heq : a = id
              · subst heq
                rw [if_pos rfl] at HCB
                have hcell := HP.out.2.cellAt (k := p) (u := .int .i64 v) (by rw [List.getElem?_map, midC_get HLE.out HCA.out]; rfl)
                obtain ⟨hc0, hf0⟩ := hcell
                have hv0 : v ≤ 2500 := by
                  rw [hv]
                  refine Nat.le_trans (cntOf_le (m := 16) ?_ a) ?_
                  · intro y hy
                    rcases List.mem_append.1 hy with h | h
                    · exact HLEN.out y (List.mem_of_mem_take h)
                    · rw [List.mem_singleton.1 h]
                      exact Nat.le_trans (List.length_take_le' _ _) (by rw [← HXL.out]; exact hx16)
                  · simp; omega
                have htl := HP.out.2.lt rfl
                simp only at htl
                clear hv
                go_wp2_with fail
                go_roundw
                case rel =>
                  have hst' := ((HP.out.1.setCell (p := ⟨tb, p, none⟩) (.inr (by rw [HP.out.2.2 _ rfl]; simp)) (.int .i64 (v + 1))).alloc (.cells #[.int .i64 a, .int .i64 b] 46) 5)
                  have hrow' := (HP.out.2.set_ (k := p) hlt3 (.int .i64 (v + 1))).step ((Step.refl [] (wr.setCell ⟨tb, p, none⟩ (.int .i64 (v + 1))) op).alloc (.cells #[.int .i64 a, .int .i64 b] 46) 5) (by simp)
                  refine ⟨p + 1, _, by omega, by go_num, Lib.hid ⟨hst', ?_⟩⟩
                  rw [← midC_set HLE.out HCA.out HCB.out, ← ints_set]
                  exact hrow'
                case measure => simp [intOf]; omega
              · have hne : (a == id) = false := by simpa using heq
                rw [if_neg heq] at HCB
                clear hv
                go_wp2_with fail
                go_roundw
                case rel =>
                  have hst' := (HP.out.1.alloc (.cells #[.int .i64 a, .int .i64 b] 46) 5)
                  have hrow' := (HP.out.2.step ((Step.refl [] wr op).alloc (.cells #[.int .i64 a, .int .i64 b] 46) 5) (by simp))
                  refine ⟨p + 1, _, by omega, by go_num, Lib.hid ⟨hst', ?_⟩⟩
                  rw [← midC_keep HCA.out HCB.out]
                  exact hrow'
                case measure => simp [intOf]; omega
            · obtain rfl : n = p := by omega
              go_wp2_with fail
              go_roundw
              case rel =>
                refine ⟨t + 1, op, by omega, by go_num, Lib.hid ⟨HK.out.1.trans HP.out.1, ?_⟩⟩
                have := HP.out.2
                rw [midC_all (by simp [cnts]; exact HN.out.symm) (by simp [cnts]; exact HN.out.symm)] at this
                exact this
              case measure => simp [intOf]; omega
        · obtain rfl : xl = t := by omega
          go_wp2_with fail
          go_roundw
          case rel =>
            refine ⟨j + 1, ot, by omega, by go_num, Lib.hid ⟨HJ.out.1.trans HK.out.1, ?_⟩⟩
            have := HK.out.2
            have e : x.take xl = x := List.take_of_length_le (by rw [HXL.out]; exact Nat.le_refl _)
            rw [e] at this
            rw [List.take_add_one, HX.out]
            exact this
          case measure => simp [intOf]; omega
    · obtain rfl : s = j := by omega
      have hall : all.take s = all := List.take_of_length_le (by rw [HAL.out]; exact Nat.le_refl _)
      have hrow := HJ.out.2
      rw [hall] at hrow
      have HR2 := Lib.hid hrow; have HW2 := Lib.hid (HW.out.step HJ.out.1 (by decide)).sl; have HST2 := Lib.hid (HST.out.trans HJ.out.1)
      clear hall hrow HW HST HL HT HLEN HAL
      go_wp2_with fail
      go_loopw [77, 17, 18] (fun i _ _ wt => ∃ (p : Nat) (op : Own), p ≤ n ∧ i = .int .i64 p ∧ Hid (Step [] wr oj wt op)) (fun i _ _ _ => n - (intOf i).toNat)
      case atStart => exact ⟨0, oj, Nat.zero_le _, rfl, Lib.hid (Step.refl _ _ _)⟩
      case round => as_aux_lemma =>
        obtain ⟨p, op, hp, rfl, HP⟩ := hrel
        by_cases hlt2 : p < n
        · obtain ⟨⟨a, b⟩, hy⟩ : ∃ y, ws[p]? = some y := ⟨_, List.getElem?_eq_getElem (by rw [← HN.out]; exact hlt2)⟩
          obtain ⟨gw, offw, hAe, -, hgw, hcw0, hcw1⟩ := (HW2.out.step HP.out (by simp)).want hy
          subst hAe
          simp only at hcw0 hcw1
          have HY := Lib.hid hy
          clear hy
          go_wp2_with fail
          have hb := Blk.new wr 46 #[.int .i64 a, .int .i64 b]
          have hst5 := (Step.refl [] wr op).alloc (.cells #[.int .i64 a, .int .i64 b] 46) 5
          obtain ⟨xb, hxb⟩ : ∃ xb, xb = wr.heap.size := ⟨_, rfl⟩
          obtain ⟨w5, hw5⟩ : ∃ w5, w5 = wr.alloc (.cells #[.int .i64 a, .int .i64 b] 46) := ⟨_, rfl⟩
          rw [← hxb, ← hw5] at hb hst5
          rw [← hxb, ← hw5]
          obtain ⟨o5, ho5⟩ : ∃ o5, o5 = ext op xb 5 := ⟨_, rfl⟩
          rw [← ho5] at hst5
          have HB := Lib.hid hb; have HST5 := Lib.hid (HP.out.trans hst5); have HXB := Lib.hid hb.lt
          clear hb hst5 hxb hw5 ho5
          go_loopw [84, 19, 20] (fun i _ _ wt => ∃ (q : Nat) (oq : Own), q ≤ n ∧ i = .int .i64 q ∧ Hid (Step [] w5 o5 wt oq)) (fun i _ _ _ => n - (intOf i).toNat)
          case atStart => exact ⟨0, o5, Nat.zero_le _, rfl, Lib.hid (Step.refl _ _ _)⟩
          case round => as_aux_lemma =>
            obtain ⟨q, oq, hq, rfl, HQ⟩ := hrel
            by_cases hlt3 : q < n
            · obtain ⟨⟨c', d'⟩, hz⟩ : ∃ y, ws[q]? = some y := ⟨_, List.getElem?_eq_getElem (by rw [← HN.out]; exact hlt3)⟩
              have hstq := HST5.out.trans HQ.out
              obtain ⟨gw', offw', hAe', -, hgw', hcw0', hcw1'⟩ := (HW2.out.step hstq (by simp)).want hz
              obtain ⟨rfl, rfl⟩ : gw = gw' ∧ offw = offw' := by
                injection hAe' with h; injection h with h1 h2; exact ⟨h1, h2⟩
              have hb := HB.out.step HQ.out (by simp)
              have k0 := hb.cell 0; have k1 := hb.cell 1
              simp only [List.getElem?_toArray, List.getElem?_cons_zero, List.getElem?_cons_succ] at k0 k1
              simp only at hcw0' hcw1'
              have hrt := HR2.out.step hstq (by simp)
              have htl := hrt.lt rfl
              simp only at htl
              have hxl := hb.lt
              have e1 := (hrt.cellAt (k := p) (u := .int .i64 (cntOf all a : Int)) (by unfold cnts ints; rw [List.getElem?_map, List.getElem?_map, HY.out]; rfl)).1
              have e2 := (hrt.cellAt (k := q) (u := .int .i64 (cntOf all c' : Int)) (by unfold cnts ints; rw [List.getElem?_map, List.getElem?_map, hz]; rfl)).1
              obtain ⟨u1, hu1⟩ : ∃ u1, u1 = cntOf all a := ⟨_, rfl⟩
              obtain ⟨u2, hu2⟩ : ∃ u2, u2 = cntOf all c' := ⟨_, rfl⟩
              rw [← hu1] at e1
              rw [← hu2] at e2
              by_cases hbd : d' < b
              · have hle : u2 ≤ u1 := by rw [hu1, hu2]; exact HSH.out (a, b) (c', d') (List.mem_of_getElem? HY.out) (List.mem_of_getElem? hz) hbd
                have hd1 := decide_eq_true hbd
                have hd2 : decide ((u1 : Int) < (u2 : Int)) = false := by simp; omega
                clear hstq hb hrt hz hAe' hu1 hu2
                have hle' : (u2 : Int) ≤ (u1 : Int) := by omega
                go_wp2_with fail
                go_quiet (fail)
                go_wp2_with fail
                go_roundw
                case rel => exact ⟨q + 1, _, by omega, by go_num, Lib.hid ((HQ.out.alloc (.cells #[.int .i64 c', .int .i64 d'] 46) 5).drewN _)⟩
                case measure => simp [intOf]; omega
              · have hd1 := decide_eq_false hbd
                clear hstq hb hrt hz hAe' hu1 hu2
                go_wp2_with fail
                go_quiet (fail)
                go_wp2_with fail
                go_roundw
                case rel => exact ⟨q + 1, _, by omega, by go_num, Lib.hid ((HQ.out.alloc (.cells #[.int .i64 c', .int .i64 d'] 46) 5).drewN _)⟩
                case measure => simp [intOf]; omega
            · obtain rfl : n = q := by omega
              go_wp2_with fail
              go_roundw
              case rel => exact ⟨p + 1, oq, by omega, by go_num, Lib.hid (HST5.out.trans HQ.out)⟩
              case measure => simp [intOf]; omega
        · obtain rfl : n = p := by omega
          go_wp2_with fail
          go_ret
          refine ⟨rfl, ?_⟩
          exact ((HST2.out.trans HP.out.nil).forget (ts' := []) (fun t ht _ k hk => by simp at ht; subst ht; simp)).to_below (by simp)
end Go.Proofs.Ytkiknbjokknemaa
