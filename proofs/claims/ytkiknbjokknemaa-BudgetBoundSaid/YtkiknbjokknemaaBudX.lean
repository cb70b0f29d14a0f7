/-
  WALK of BudgetTurns.
-/
import Derived.Test.YtkiknbjokknemaaBudV
import Derived.Test.YtkiknbjokknemaaBudP
namespace Go.Proofs.Ytkiknbjokknemaa
open Go.RowKit

def turnAt (bits : Nat) (W : Int) (i : Nat) : Option (Int × Int) := if bits / 2 ^ i % 2 = 1 then some (7 * (i : Int), W) else none
def turnTo (bits : Nat) (W : Int) (n : Nat) : List (Int × Int) := (List.range n).filterMap (turnAt bits W)

theorem turnTo_succ (bits : Nat) (W : Int) (n : Nat) : turnTo bits W (n + 1) = turnTo bits W n ++ (turnAt bits W n).toList := by
  unfold turnTo
  rw [List.range_succ, List.filterMap_append]
  cases h : turnAt bits W n <;> simp [h]
theorem turnTo_mem {bits n : Nat} {W : Int} {x : Int × Int} (h : x ∈ turnTo bits W n) : ∃ i, i < n ∧ x.1 = 7 * (i : Int) ∧ x.2 = W := by
  unfold turnTo at h
  obtain ⟨i, hi, hx⟩ := List.mem_filterMap.1 h
  unfold turnAt at hx
  split at hx
  · injection hx with hx
    subst hx
    exact ⟨i, by simpa using hi, rfl, rfl⟩
  · cases hx
theorem turnTo_len (bits : Nat) (W : Int) (n : Nat) : (turnTo bits W n).length ≤ n := by
  have := List.length_filterMap_le (turnAt bits W) (List.range n)
  simpa [turnTo] using this
theorem turnTo_sorted (bits : Nat) (W : Int) (n : Nat) : (turnTo bits W n).Pairwise fun a b => a.1 < b.1 := by
  induction n with
  | zero => exact List.Pairwise.nil
  | succ n ih =>
    rw [turnTo_succ, List.pairwise_append]
    refine ⟨ih, ?_, fun a ha b hb => ?_⟩
    · cases turnAt bits W n <;> simp
    · obtain ⟨i, hi, hx, -⟩ := turnTo_mem ha
      unfold turnAt at hb
      split at hb
      · simp at hb; subst hb; simp only; omega
      · simp at hb
theorem turnTo_right (bits : Nat) (W : Int) (h0 : 1 ≤ W) (h1 : W ≤ 16) : RightP (turnTo bits W 16) := by
  refine ⟨by have := turnTo_len bits W 16; omega, fun x hx => ?_, turnTo_sorted _ _ _⟩
  obtain ⟨i, hi, h1, h2⟩ := turnTo_mem hx
  exact ⟨by omega, by omega, by omega, by omega⟩

theorem sent_lens {ws : List (Int × Int)} {k s t : Nat} {x : List Int} (h : (runM [] ws k s).2[t]? = some x) : x.length = min k ws.length := by
  have hlt := (List.getElem?_eq_some_iff.1 h).1
  rw [runM_len] at hlt
  rw [runM_get [] ws k s t hlt] at h
  rw [← Option.some.inj h, sent_len]

theorem ListsAt.mixed {w w' : World} {o' : Own} {τ τ2 : Nat} {A : Option Addr} {n c : Nat} {ls : List (List Int)} (hr : ListsAt w' o' τ τ2 A n c ls) (h : Step [] w (fun _ => 0) w' o') (o : Own) (h1 : τ ≠ 0) (h2 : τ2 ≠ 0) : ListsAt w' (mix o w.heap.size o') τ τ2 A n c ls := by
  obtain ⟨vs, hr, hl, hv⟩ := hr
  refine ⟨vs, hr.mixed h o h1, hl, fun i v hi => ?_⟩
  obtain ⟨S, len, cap, x, a, b, d, e⟩ := hv i v hi
  exact ⟨S, len, cap, x, a, b, d, e.mixed h o h2⟩

theorem below_undrewN {X w1 : World} {q : Nat} (h : Below (X.drewN q).heap.size (X.drewN q) w1) : Below X.heap.size X w1 := ⟨h.os, h.tape, h.output, h.size, h.block⟩

/-- The i-th list: where it lies. -/
theorem ListsAt.get {w : World} {o : Own} {τ τ2 : Nat} {A : Option Addr} {n c : Nat} {ls : List (List Int)} (h : ListsAt w o τ τ2 A n c ls) {i : Nat} {x : List Int} (hx : ls[i]? = some x) :
    ∃ g S cap, A = some ⟨g, 0, none⟩ ∧ w.cell? ⟨g, i, none⟩ = some (.slice S x.length cap) ∧ Sl w o τ2 1 S x.length cap (ints x) := by
  obtain ⟨vs, hr, hl, hv⟩ := h
  have hi := (List.getElem?_eq_some_iff.1 hx).1
  have hn : vs.length = n := by have := hr.len; omega
  obtain ⟨v, hv0⟩ : ∃ v, vs[i]? = some v := ⟨_, List.getElem?_eq_getElem (by omega)⟩
  obtain ⟨S, len, cap, y, rfl, hy, rfl, hs⟩ := hv i v hv0
  have : y = x := by rw [hx] at hy; exact (Option.some.inj hy).symm
  subst this
  obtain ⟨g, hA, -, hc, -⟩ := hr.at_ (k := i) (by omega)
  exact ⟨g, S, cap, hA, hc.trans hv0, hs⟩

/-- The i-th number of a slice. -/
theorem Sl.int {w : World} {o : Own} {τ : Nat} {A : Option Addr} {n c : Nat} {xs : List Int} (h : Sl w o τ 1 A n c (ints xs)) {i : Nat} {x : Int} (hx : xs[i]? = some x) : ∃ g off, A = some ⟨g, off, none⟩ ∧ g < w.heap.size ∧ w.cell? ⟨g, off + i, none⟩ = some (.int .i64 x) := by
  have hi := (List.getElem?_eq_some_iff.1 hx).1
  have hn : n = xs.length := by have := h.1; simp at this; omega
  obtain ⟨g, off, hA, -, hg, hc⟩ := h.2.2.2 (by omega)
  exact ⟨g, off, hA, hg, hc i _ (by simp [ints, hx])⟩

/-- The i-th want of a slice. -/
theorem Sl.want {w : World} {o : Own} {τ : Nat} {A : Option Addr} {n c : Nat} {ws : List (Int × Int)} (h : Sl w o τ 2 A n c (wnts ws)) {i : Nat} {x : Int × Int} (hx : ws[i]? = some x) :
    ∃ g off, A = some ⟨g, off, none⟩ ∧ o g = τ ∧ g < w.heap.size ∧ w.cell? ⟨g, off + i * 2, none⟩ = some (.int .i64 x.1) ∧ w.cell? ⟨g, off + i * 2 + 1, none⟩ = some (.int .i64 x.2) := by
  have hi := (List.getElem?_eq_some_iff.1 hx).1
  have hn : n = ws.length := by have := h.1; rw [len_wnts] at this; omega
  obtain ⟨g, off, hA, ho, hg, hc⟩ := h.2.2.2 (by omega)
  obtain ⟨i0, i1⟩ := wnts_get ws i x hx
  exact ⟨g, off, hA, ho, hg, hc _ _ i0, by rw [Nat.add_assoc]; exact hc _ _ i1⟩

set_option maxRecDepth 100000 in
set_option maxHeartbeats 2000000 in
theorem BudgetTurns_walk (w : World) (bits wt k : Int) (hb0 : 0 ≤ bits) (hb1 : bits ≤ 65535) (hw0 : 0 ≤ wt) (hw1 : wt ≤ 255) (hk0 : 0 ≤ k) (hk1 : k ≤ 255) :
    Calls Try.prog 7 #[.int .u16 bits, .int .u8 wt, .int .u8 k] w (SaysTo w true) := by
  obtain ⟨V, hV⟩ : ∃ V : Int, V = 1 + wt.tmod 16 := ⟨_, rfl⟩
  have hm0 := Int.tmod_nonneg 16 hw0
  have hm1 := Int.tmod_lt_of_pos wt (show (0 : Int) < 16 by decide)
  have hV1 : 1 ≤ V := by omega
  have hV2 : V ≤ 16 := by omega
  have HV := Lib.hid hV
  have hV' : wt.tmod 16 = V - 1 := by omega
  clear hV hm0 hm1
  go_enter Try.func7, Try.ntmps7
  go_wp2_with fail
  refine (awake_any w).mono ?_
  rintro e w1 ⟨rfl, hb1'⟩
  have HS := Lib.hid ((Step.refl [20] w (fun _ => 0)).below hb1' 5)
  clear hb1'
  go_wp2_with fail
  go_loopw [8, 7] (fun i s wr => ∃ (j : Nat) (A : Option Addr) (n c : Nat) (o' : Own), j ≤ 16 ∧ i = .int .i64 j ∧ s = .slice A n c ∧ Hid (Step [20] w (fun _ => 0) wr o' ∧ Row wr o' 20 46 2 A n c (wnts (turnTo bits.toNat V j)))) (fun i _ _ => 16 - (intOf i).toNat)
  case atStart => exact ⟨0, none, 0, 0, _, by omega, rfl, rfl, Lib.hid ⟨HS.out, Row.nil_ _ _ _ _ _⟩⟩
  case round => as_aux_lemma =>
    obtain ⟨j, A, n, c, o', hj, rfl, rfl, HJ⟩ := hrel
    by_cases hlt : j < 16
    · have e1 := bit_u16 bits j hb0 hb1
      have hsucc := turnTo_succ bits.toNat V j
      by_cases hbit : bits.toNat / 2 ^ j % 2 = 1
      · rw [hbit] at e1
        rw [show turnAt bits.toNat V j = some (7 * (j : Int), V) by unfold turnAt; rw [if_pos hbit]] at hsucc
        obtain ⟨oW, hstW, hrowW, hslW⟩ := laidW HJ.out.2 (7 * (j : Int)) V
        have HSTW := Lib.hid hstW; have HROWW := Lib.hid hrowW; have HSLW := Lib.hid hslW; have HSU := Lib.hid hsucc
        have hn : n = (turnTo bits.toNat V j).length := by have := HJ.out.2.len; rw [len_wnts] at this; omega
        have hn2 := turnTo_len bits.toNat V j
        rw [← hn] at hn2
        clear hstW hrowW hslW hbit hsucc hn
        have e1' : (Go.bits .and .u16 (bits / 2 ^ j) 1 == 1) = true := by rw [e1]; rfl
        have e2 : 1 + (V - 1) = V := by omega
        clear e1
        go_wp2_with (at_builtin; refine wpList_append_row _ rfl (.tmp 30) (.tmp 38) _ rfl el_want oW 20 A n c _ rfl HROWW.out oW 5 _ 1 1 [.int .i64 (7 * (j : Int)), .int .i64 V] rfl HSLW.out (by simp [Value.oneCell']) (by omega) (by simp only [maxLen]; omega) ?_; intro A' c' w6 hR6 hg6 hat6; have HR6 := Lib.hid hR6; have HG6 := Lib.hid hg6; clear hR6 hg6 hat6)
        go_roundw
        case rel =>
          have st6 := Step.append HROWW.out HG6.out 20
          refine ⟨j + 1, A', n + 1, c', _, by omega, by go_num, rfl, Lib.hid ⟨HJ.out.1.trans (HSTW.out.nil.trans st6), ?_⟩⟩
          rw [HSU.out]
          simpa [wnts] using HR6.out
        case measure => simp [intOf]; omega
      · have h0 : bits.toNat / 2 ^ j % 2 = 0 := by omega
        rw [h0] at e1
        rw [show turnAt bits.toNat V j = none by unfold turnAt; rw [if_neg hbit]] at hsucc
        have HSU := Lib.hid hsucc
        have e1' : (Go.bits .and .u16 (bits / 2 ^ j) 1 == 1) = false := by rw [e1]; rfl
        clear hsucc e1 hbit h0
        go_wp2_with fail
        go_roundw
        case rel => exact ⟨j + 1, A, n, c, o', by omega, by go_num, rfl, Lib.hid ⟨HJ.out.1, by rw [HSU.out]; simpa using HJ.out.2⟩⟩
        case measure => simp [intOf]; omega
    · obtain rfl : j = 16 := by omega
      obtain ⟨ws, hws⟩ : ∃ ws, ws = turnTo bits.toNat V 16 := ⟨_, rfl⟩
      have hr : RightP ws := by rw [hws]; exact turnTo_right _ _ hV1 hV2
      have hwt : ∀ x ∈ ws, x.2 = V := fun x hx => by rw [hws] at hx; obtain ⟨i, -, -, h⟩ := turnTo_mem hx; exact h
      have hn16 : ws.length ≤ 16 := by rw [hws]; exact turnTo_len _ _ _
      have hrow := HJ.out.2
      rw [← hws] at hrow
      have hn : n = ws.length := by have := hrow.len; rw [len_wnts] at this; omega
      have hn16' : n ≤ 16 := by omega
      have HST := Lib.hid (HJ.out.1.forget (ts' := []) (fun t ht _ k hk => by simp at ht; subst ht; simp))
      have HR := Lib.hid hr; have HWT := Lib.hid hwt; have HROW := Lib.hid hrow; have HN := Lib.hid hn
      clear HJ hws hr hwt hn16 hrow hn hj hlt
      go_wp2_with fail
      obtain ⟨M, hM⟩ : ∃ M, M = 5 * n := ⟨_, rfl⟩
      have h5 : (5 : Int) * (n : Int) = (M : Int) := by omega
      have hM80 : M ≤ 80 := by omega
      rw [h5]
      have hrun := Run_any wr o' 0 20 none 0 0 [] (Sl.nil_ _ _ _ _ _ _ (by decide)) A n c ws HROW.out.sl validNil HR.out 1 (by decide) M (by omega)
      refine hrun.mono ?_
      clear hrun
      rintro e w2 ⟨A2, n2, c2, LA, lc, o2, rfl, hs2, hn2, -, hLA⟩
      have hn2' : n2 = n := by
        rw [hn2]
        rcases Nat.eq_zero_or_pos n with h0 | h0
        · have : M = 0 := by omega
          rw [this, h0]; rfl
        · obtain ⟨M', hM'⟩ : ∃ M', M = M' + 1 := ⟨M - 1, by omega⟩
          rw [hM', runM_succ]
          simp only
          rw [stepM_len]; exact HN.out.symm
      subst hn2'
      have HS2 := Lib.hid (hs2.mixed o'); have HLA := Lib.hid (hLA.mixed hs2 o' (by decide) (by decide)); have HROW2 := Lib.hid (HROW.out.step (hs2.mixed o') (by simp)); have HM := Lib.hid hM
      clear hs2 hLA hn2 hM
      rcases Nat.eq_zero_or_pos n2 with h0 | h0
      · subst h0
        have hM0 : M = 0 := by have := HM.out; omega
        subst hM0
        go_wp2_with fail
        refine wp_loop_rounds 1 ?_
        rw [rounds_succ]
        go_wp2_with fail
        go_ret
        exact ⟨rfl, HST.out.to_below (by simp) |>.trans ((HS2.out.to_below (by simp)).mono HST.out.size)⟩
      · have hpos : (0 : Int) < (n2 : Int) := by omega
        go_wp2_with fail
        go_loopw [71, 13, 14] (fun i _ _ wt => ∃ t q : Nat, t ≤ M ∧ i = .int .i64 t ∧ wt = w2.drewN q) (fun i _ _ _ => M - (intOf i).toNat)
        case atStart => exact ⟨0, 0, Nat.zero_le _, rfl, rfl⟩
        case round => as_aux_lemma =>
          obtain ⟨t, q, ht, rfl, rfl⟩ := hrel
          by_cases hlt : t < M
          · have hn0 : 0 < n2 := by have := HM.out; omega
            obtain ⟨z, hz, hsent⟩ := turns_sent HR.out HWT.out hV1 hV2 (by rw [← HN.out]; exact h0) (by rw [← HN.out]; exact hn16') t (by omega)
            have hx := runM_get [] ws 1 M t hlt
            rw [hsent] at hx
            obtain ⟨g, S, cap, hLe, hcl, hS⟩ := HLA.out.get hx
            obtain ⟨gs, offs, hSe, hgs, hcs⟩ := hS.int (i := 0) (x := z.1) rfl
            obtain ⟨gw, offw, hAe, -, hgw, hcw, -⟩ := HROW2.out.sl.want hz
            obtain ⟨m, hm⟩ : ∃ m, m = t % ws.length := ⟨_, rfl⟩
            have hmn : m < n2 := by rw [hm, ← HN.out]; exact Nat.mod_lt _ h0
            have hmod : (t : Int).tmod (n2 : Int) = (m : Int) := by rw [hm, HN.out]; exact (Int.ofNat_tmod t _).symm
            have hn0' : ¬ (n2 : Int) = 0 := by omega
            rw [← hm] at hcw
            subst hLe; subst hSe; subst hAe
            rw [Nat.add_zero] at hcs
            simp only [List.length_cons, List.length_nil, Nat.zero_add] at hcl
            clear hx hsent hz hm hS
            go_wp2_with fail
            go_quiet (fail)
            go_wp2_with fail
            go_roundw
            case rel => exact ⟨t + 1, q + nq, by omega, by go_num, by first | rfl | rw [World.drewN_drewN]⟩
            case measure => simp [intOf]; omega
          · obtain rfl : M = t := by omega
            have hn0' : ¬ (n2 : Int) = 0 := by omega
            obtain ⟨p, hp⟩ : ∃ p : Nat, k % (n2 : Int) = (p : Int) := ⟨(k % (n2 : Int)).toNat, by rw [Int.toNat_of_nonneg (Int.emod_nonneg _ hn0')]⟩
            have hpn : p < n2 := by have := Int.emod_lt_of_pos k hpos; omega
            obtain ⟨κ, hκ⟩ : ∃ κ : Nat, κ = 1 + p := ⟨_, rfl⟩
            have hκ1 : (1 : Int) + (p : Int) = (κ : Int) := by omega
            have hκn : κ ≤ n2 := by omega
            clear hκ
            go_wp2_with fail
            have hrow3 := HROW2.out.step ((Step.refl [] _ _).drewN q) (by simp)
            have hrun := Run_any (w2.drewN q) _ 0 20 none 0 0 [] (Sl.nil_ _ _ _ _ _ _ (by decide)) A n2 c ws hrow3.sl validNil HR.out κ (by omega) n2 (by omega)
            refine hrun.mono ?_
            clear hrun hrow3
            rintro e w3 ⟨A3, n3, c3, LB, ld, o3, rfl, hs3, -, -, hLB⟩
            have HS3 := Lib.hid hs3; have HLB := Lib.hid hLB
            clear hs3 hLB hM80 h5 hpn hκ1 hp
            go_wp2_with fail
            go_loopw [110, 16, 18] (fun i sv _ wt => ∃ t S : Nat, t ≤ n2 ∧ i = .int .i64 t ∧ sv = .int .i64 S ∧ S ≤ 16 * t ∧ Hid (S = t * κ) ∧ wt = w3) (fun i _ _ _ => n2 - (intOf i).toNat)
            case atStart => exact ⟨0, 0, Nat.zero_le _, rfl, rfl, Nat.zero_le _, Lib.hid (by simp), rfl⟩
            case round => as_aux_lemma =>
              obtain ⟨t, S, ht, rfl, rfl, hS16, HSS, rfl⟩ := hrel
              by_cases hlt : t < n2
              · obtain ⟨x, hx⟩ : ∃ x, (runM [] ws κ n2).2[t]? = some x := ⟨_, List.getElem?_eq_getElem (by rw [runM_len]; exact hlt)⟩
                have hxl := sent_lens hx
                have hxk : x.length = κ := by rw [hxl, ← HN.out]; omega
                obtain ⟨g, SA, cap, hLe, hcl, hS⟩ := HLB.out.get hx
                subst hLe
                rw [hxk] at hcl
                have hκ16 : κ ≤ 16 := by omega
                clear hx hxl hxk hS
                go_wp2_with fail
                go_roundw
                case rel => exact ⟨t + 1, S + κ, by omega, by go_num, by go_num, by omega, Lib.hid (by rw [HSS.out, Nat.add_mul, Nat.one_mul]), by first | rfl | trivial⟩
                case measure => simp [intOf]; omega
              · obtain rfl : n2 = t := by omega
                have hfin : (n2 : Int) * (κ : Int) = (S : Int) := by rw [HSS.out]; simp
                go_wp2_with fail
                go_ret
                refine ⟨rfl, ?_⟩
                have b1 := HST.out.to_below (by simp)
                have b2 := HS2.out.to_below (by simp)
                have b3 := below_undrewN (HS3.out.to_below (by simp))
                exact b1.trans ((b2.mono b1.size).trans (b3.mono (Nat.le_trans b1.size b2.size)))
end Go.Proofs.Ytkiknbjokknemaa
