/-
  WALK of PacketArrives.
-/
import Derived.Test.YtpmbfgpfpdenbaaArrA
import Derived.Test.YtpmbfgpfpdenbaaWinB
import Derived.Test.YtpmbfgpfpdenbaaOrdersB
import Derived.Deep.CutBlock
namespace Go.Proofs.Ytpmbfgpfpdenbaa
open Go.RowKit

theorem repW_append (X : ASide) (l1 l2 : List Nat) : repW X (l1 ++ l2) = repW X l1 ++ repW X l2 := by
  induction l1 with
  | nil => rfl
  | cons k l ih =>
    simp only [List.cons_append, repW]
    split
    · exact ih
    · rw [ih]; rfl
theorem repW_skip {X : ASide} {l : List Nat} {i q : Nat} (hq : l[i]? = some q) (h : X.bodies.length ≤ q + 33 ∧ X.bodies.getD q 0 ≠ 1) : repW X (l.take (i + 1)) = repW X (l.take i) := by
  rw [List.take_add_one, hq, repW_append]
  simp only [Option.toList_some, repW, if_pos h, List.append_nil]
theorem repW_here {X : ASide} {l : List Nat} {i q : Nat} (hq : l[i]? = some q) (h : ¬ (X.bodies.length ≤ q + 33 ∧ X.bodies.getD q 0 ≠ 1)) :
    (repW X (l.take (i + 1))).length = (repW X (l.take i)).length + 1 ∧ (repW X l)[(repW X (l.take i)).length]? = some (q, decide (X.bodies.length ≤ q + 33)) := by
  have e : repW X (l.take (i + 1)) = repW X (l.take i) ++ [(q, decide (X.bodies.length ≤ q + 33))] := by
    rw [List.take_add_one, hq, repW_append]
    simp only [Option.toList_some, repW, if_neg h]
  refine ⟨by rw [e]; simp, ?_⟩
  have h2 : repW X l = repW X (l.take (i + 1)) ++ repW X (l.drop (i + 1)) := by rw [← repW_append, List.take_append_drop]
  rw [h2, e, List.append_assoc, List.getElem?_append_right (Nat.le_refl _), Nat.sub_self]
  rfl
theorem repW_le (X : ASide) (l : List Nat) (i : Nat) : (repW X (l.take i)).length ≤ (repW X l).length := by
  have h2 : repW X l = repW X (l.take i) ++ repW X (l.drop i) := by rw [← repW_append, List.take_append_drop]
  rw [h2, List.length_append]; omega

theorem repW_len (X : ASide) (l : List Nat) : (repW X l).length ≤ l.length := by
  induction l with
  | nil => exact Nat.le_refl _
  | cons k l ih =>
    simp only [repW]
    split <;> simp <;> omega

/-- The last of the packets that a side has made. -/
theorem MadeRow.last {w : World} {o : Own} {τ n c : Nat} {A : Option Addr} {L : List (List UInt8)} {p : List UInt8} (h : MadeRow w o τ A n c (L ++ [p])) :
    ∃ g A' n' c', A = some ⟨g, 0, none⟩ ∧ n = L.length + 1 ∧ w.cell? ⟨g, L.length, none⟩ = some (.slice A' n' c') ∧ Sl w o 10 1 A' n' c' (byts p) := by
  have hh := h
  obtain ⟨vs, hr, hl, -⟩ := hh
  obtain ⟨g, A', n', c', h1, h2, h3, h4, h5⟩ := h.get (j := L.length) (p := p) (by rw [List.getElem?_append_right (Nat.le_refl _), Nat.sub_self]; rfl)
  exact ⟨g, A', n', c', h1, by have := hr.len; simp at hl; omega, h4, h5⟩

/-- Behind 'makes': where the last packet lies, and what 'takes' makes of it. -/
theorem arr_ready {w : World} {o : Own} {l : Nat} {own other : Int} {X Y : ASide} {m : Nat} {L : List APkt} {p : APkt} (hL : LinkOk w o l own other X Y m) (hp : X.made = L ++ [p]) (hm : m ≤ 900) :
    ∃ (mn mc mg μ : Nat) (A' : Option Addr) (n' c' : Nat), w.cell? ⟨l, 1, none⟩ = some (.slice (some ⟨mg, 0, none⟩) mn mc) ∧ mn = μ + 1 ∧ μ ≤ 900 ∧ w.cell? ⟨mg, μ, none⟩ = some (.slice A' n' c') ∧
      Hid (Calls Try.prog 16 #[.pointer (some ⟨l, 0, none⟩), .int .i64 1, .slice A' n' c'] w fun e w' => e = .returned (.bool true) ∧ ∃ o', Step linkTags w o w' o' ∧ LinkOk w' o' l own other (X.given Y.e p) (Y.take p) m) := by
  have hL' := hL
  obtain ⟨⟨v, u, cells, hl⟩, hI, hI', hz, -⟩ := hL
  have hz' : Sized Y X 900 := ⟨by have := hz.bY; omega, by have := hz.bx; omega, by have := hz.my; omega, by have := hz.mx; omega⟩
  have hok := hI.pkts p (by rw [hp]; simp)
  have hmd := hl.x.made
  rw [hp, List.map_append, List.map_singleton] at hmd
  obtain ⟨g, A', n', c', hA, hn, hc, hs⟩ := hmd.last
  have hn47 : n' ≤ 140737488355328 := by
    have h1 := hs.1
    simp only [byts, List.length_map, Nat.mul_one] at h1
    rw [← h1]
    have := enc_len (own := own) (other := other) hok
    omega
  have hmx := hz.mx
  rw [hp] at hmx
  simp only [List.length_append, List.length_singleton] at hmx
  refine ⟨v.mn, v.mc, g, _, A', n', c', by rw [← hA]; exact (hl.b.cell _).trans hl.cx.c1, hn, ?_, hc, Lib.hid ?_⟩
  · simp only [List.length_map]; omega
  · refine (takes_link w o l 1 0 10 (by omega) rfl other own Y X u v cells hl.swap hI' hI hL'.p0 hL'.p1 hL'.o0 hL'.o1 hz' p hok A' n' c' hs hn47 (.inl rfl)).mono ?_
    exact fun e w' h => hL'.taken hok h

theorem make_made (X : ASide) (xs : List UInt8) : (X.make xs).made = X.made ++ [⟨some (X.e.n, xs), X.e.note⟩] := (make_parts X xs).2.1
theorem given_made (X : ASide) (a : AEnd) (p : APkt) : (X.given a p).made = X.made := by
  unfold ASide.given; split
  · split <;> rfl
  · rfl

theorem rep_cells {w : World} {o : Own} {RA : Option Addr} {rn rc K k : Nat} {own : Int} {rs : List (Nat × Bool)} {b : Bool} (h : Sl w o 13 2 RA rn rc (reps (rs.map fun r => (own + (r.1 : Int), r.2)))) (hk : rs[K]? = some (k, b)) :
    K < rn ∧ ∃ g off, RA = some ⟨g, off, none⟩ ∧ g < w.heap.size ∧ w.cell? ⟨g, off + K * 2, none⟩ = some (.int .i64 (own + (k : Int))) ∧ w.cell? ⟨g, off + K * 2 + 1, none⟩ = some (.bool b) := by
  have hK : K < rs.length := (List.getElem?_eq_some_iff.1 hk).1
  have h1 := h.1
  rw [len_reps, List.length_map] at h1
  have hKn : K < rn := by omega
  obtain ⟨g, off, hA, -, hg, hc⟩ := h.2.2.2 (by omega)
  have hm : (rs.map fun r => (own + (r.1 : Int), r.2))[K]? = some (own + (k : Int), b) := by rw [List.getElem?_map, hk]; rfl
  obtain ⟨c0, c1⟩ := reps_get _ K _ _ hm
  exact ⟨hKn, g, off, hA, hg, hc _ _ c0, by rw [Nat.add_assoc]; exact hc _ _ c1⟩

/-- Behind the last packet of the other side. -/
def ArrQ (w4 : World) (o4 : Own) (l : Nat) (own oth : Int) (X Y Y2 : ASide) (pk : APkt) (QA : Option Addr) (qn qc : Nat) (wx : World) (o5 : Own) : Prop :=
  Step linkTags w4 o4 wx o5 ∧ (∃ v u cells, LinkS wx o5 l 0 1 own oth X Y2 v u cells) ∧ LinkInv X Y2 ∧ LinkInv Y2 X ∧ Y2.bodies.length ≤ 400 ∧ Sl wx o5 10 1 QA qn qc (byts (pk.enc oth own)) ∧ PktOk Y2 X pk ∧ pk.ack = some (X.bodies.length - 1, Y.e.mask) ∧ (recvA X.e pk).2.2.2 = 0

set_option maxRecDepth 100000 in
set_option maxHeartbeats 4000000 in
theorem PacketArrives_walk (w : World) (a b : Int) (ha : 0 ≤ a) (hb : 0 ≤ b) (A : Option Addr) (n c : Nat) (ps : List OpV) (hP : OpsAt w (fun _ => 0) 0 A n c ps) (more : Int) (hm0 : 0 ≤ more) (hm1 : more ≤ 255) (only : Bool) :
    Calls Try.prog 4 #[.int .u64 a, .int .u64 b, .slice A n c, .int .u8 more, .bool only] w fun e w' => e = .returned (.bool true) ∧ Below w.heap.size w w' := by
  obtain ⟨own, hown⟩ : ∃ own : Int, own = a % 1099511627777 := ⟨_, rfl⟩
  obtain ⟨oth, hoth⟩ : ∃ oth : Int, oth = b % 1099511627777 := ⟨_, rfl⟩
  have ho : 0 ≤ own ∧ own ≤ 1099511627776 := by omega
  have hp : 0 ≤ oth ∧ oth ≤ 1099511627776 := by omega
  obtain ⟨ho0, ho1⟩ := ho; obtain ⟨hp0, hp1⟩ := hp
  have HOWN := Lib.hid hown.symm; have HOTH := Lib.hid hoth.symm; clear hown hoth
  have hc1 := hP.2.1; have hc2 := hP.2.2.1
  unfold maxLen at hc2
  have hlen : ps.length = n := hP.1
  have hAn : A = none → n = 0 := by
    intro h
    rcases Nat.eq_zero_or_pos n with h0 | h0
    · exact h0
    · obtain ⟨g, off, hA, -⟩ := hP.2.2.2 h0; rw [h] at hA; cases hA
  obtain ⟨m0, hm0'⟩ : ∃ m0 : Nat, m0 = min n 200 := ⟨_, rfl⟩
  have hmn : m0 ≤ n := by omega
  have hm2 : m0 ≤ 200 := by omega
  have hmin : min (n : Int) 200 = (m0 : Int) := by omega
  clear hm0'
  have HP := Lib.hid hP; have HLN := Lib.hid hlen; have HAN := Lib.hid hAn
  clear hP hlen hAn
  go_enter Try.func4, Try.ntmps4
  go_upto_region 4 with (go_at_call 11; refine (linked_ok w (fun _ => 0) (a % 1099511627777) (b % 1099511627777) (by omega) (by omega) (by omega) (by omega)).mono ?_; rintro e w1 ⟨l, o1, rfl, hst1, hl1⟩; rw [HOWN.out, HOTH.out] at hl1; have ST1 := Lib.hid hst1; have HL1 := Lib.hid hl1; clear hst1 hl1)
  go_cut [46, 47, 48] (fun s46 s47 s48 wx => s46 = .slice A m0 c ∧ s47 = .int .i64 m0 ∧ s48 = .int .i64 0 ∧ wx = w1)
  case first =>
    cases A with
    | none =>
      obtain rfl := HAN.out rfl
      obtain rfl : m0 = 0 := by omega
      go_wp2_with fail
      go_meet
      exact ⟨rfl, rfl, rfl, rfl⟩
    | some ad =>
      clear HAN
      go_wp2_with fail
      go_meet
      exact ⟨rfl, rfl, rfl, rfl⟩
  case rest =>
    obtain ⟨rfl, rfl, rfl, rfl⟩ := hcut
    go_wp2_with fail
    go_loopw [48] (fun i wr => ∃ (k : Nat) (o' : Own) (X Y : ASide), k ≤ m0 ∧ i = .int .i64 k ∧ Hid (Step allTags w (fun _ => 0) wr o' ∧ LinkOk wr o' l own oth X Y k)) (fun i _ => m0 - (intOf i).toNat)
    case atStart => exact ⟨0, o1, side0, side0, Nat.zero_le _, rfl, Lib.hid ⟨ST1.out.nil, HL1.out⟩⟩
    case round => as_aux_lemma =>
      obtain ⟨k, ok, X, Y, hk, rfl, HK⟩ := hrel
      by_cases hlt : k < m0
      · obtain ⟨x, hx⟩ : ∃ x, ps[k]? = some x := ⟨_, List.getElem?_eq_getElem (by rw [HLN.out]; omega)⟩
        obtain ⟨g, off, hA, -, hg, hpp⟩ := (HP.out.step HK.out.1 (by simp)).2.2.2 (by omega)
        obtain ⟨a1, a2, a3, BA, bn, bc, b0, b1, b2, b3, b4, b5⟩ := hpp k x hx
        subst hA
        obtain ⟨K, S, T, B⟩ := x
        simp only at a1 a2 a3 b0 b1 b2 b3 b4
        have sta := (Step.refl [] wr ok).alloc (.cells (opCells K S T BA bn bc) 29) 12
        have hst := step_any _ _ l 0 own oth X Y k (HK.out.2.step sta (by simp)) (by omega) K S T a1 a2 a3 BA bn bc B (b4.step sta (by simp)) b5
        have STA := Lib.hid sta; have HS := Lib.hid hst
        clear sta hst b4 hpp hx hg
        go_wp2_with (go_at_call 12; refine HS.out.mono ?_; rintro e w2 ⟨rfl, o2, h1, h2⟩; have ST2 := Lib.hid h1; have HL2 := Lib.hid h2; clear h1 h2)
        go_roundw
        case rel => exact ⟨k + 1, o2, _, _, by omega, by go_num, Lib.hid ⟨HK.out.1.trans ((STA.out.nil.trans ST2.out).mono (by simp)), HL2.out⟩⟩
        case measure => simp [intOf]; omega
      · obtain rfl : m0 = k := by omega
        obtain ⟨R, hR⟩ : ∃ R : Nat, 1 + more % 50 = (R : Int) := ⟨(1 + more % 50).toNat, by omega⟩
        have hR1 : 1 ≤ R := by omega
        have hR50 : R ≤ 50 := by omega
        go_wp2_with fail
        go_quiet (fail)
        go_wp2_with fail
        go_loopw [67, 17] (fun i _ wt => ∃ (j : Nat) (oj : Own) (X' Y' : ASide), j ≤ R ∧ i = .int .i64 j ∧ Hid (Step allTags w (fun _ => 0) wt oj ∧ LinkOk wt oj l own oth X' Y' (m0 + j) ∧ (0 < j → Arr X' Y'))) (fun i _ _ => R - (intOf i).toNat)
        case atStart => exact ⟨0, ok, X, Y, Nat.zero_le _, rfl, Lib.hid ⟨HK.out.1.drewN _, HK.out.2.step ((Step.refl [] wr ok).drewN _) (by simp), fun h => absurd h (Nat.lt_irrefl _)⟩⟩
        case round => as_aux_lemma =>
          obtain ⟨j, oj, X', Y', hj, rfl, HJ⟩ := hrel
          by_cases hlt2 : j < R
          ·
            have hLd := HJ.out.2.1.step (Step.refl [] wr oj).drew (by simp)
            have hLd' := hLd
            obtain ⟨⟨v, u, cells, hl⟩, hI, hI', hz, -⟩ := hLd
            have hz' : Sized X' Y' 900 := ⟨by have := hz.bx; omega, by have := hz.bY; omega, by have := hz.mx; omega, by have := hz.my; omega⟩
            have hmk := makes_link wr.drew oj l 0 1 11 (by omega) rfl own oth X' Y' v u cells hl hI hI' hLd'.o0 hLd'.o1 hLd'.p0 hLd'.p1 hz' none 0 0 [] (Sl.nil_ _ _ _ _ _ _ (by decide)) (by omega)
            have hkb : v.bn = X'.bodies.length := by have h1 := hl.x.bodies.len; simp at h1; omega
            have l2 : wr.cell? ⟨l, 2, none⟩ = _ := (hl.b.cell 2).trans hl.cx.c2
            obtain ⟨κ, hκ⟩ : ∃ κ, κ = v.bn := ⟨_, rfl⟩
            have hvb : κ ≤ 300 := by have h2 := hz.bx; omega
            rw [← hκ] at l2 hkb
            have HKB := Lib.hid hkb
            have hκ0 : (0 : Int) ≤ (κ : Int) := by omega
            have hwκ : IntKind.i64.wrap (κ : Int) = (κ : Int) := IntWalk.i64_in _ (by omega)
            clear hkb hκ
            have hll : l < wr.heap.size := hl.b.lt
            have HMK := Lib.hid hmk; have HLD := Lib.hid hLd'; have HI := Lib.hid hI; have HI' := Lib.hid hI'
            clear hI hI' hz hz' hl hmk hLd'
            go_wp2_with fail
            refine wp_region_till (S0 := fun _ => True) (st := 29) (by kernel_rfl) ?_
            change wpAnyG _ _ _ _ _ _ _ _ _ (World.drew _)
            refine wpAnyG_ready (rs := [0]) (by kernel_rfl) (by simp) ?_
            refine AllReadyG.cons rfl (fun K hK => ?_) AllReadyG.nil
            go_simp
            refine hK.out _ _ (.inr trivial) ?_
            clear hK K
            refine wpAnyG_ready (rs := [1]) (by kernel_rfl) (by simp) ?_
            refine AllReadyG.cons rfl (fun K hK => ?_) AllReadyG.nil
            go_simp
            refine HMK.out.mono ?_
            intro e w2 h2; obtain ⟨rfl, o2, hst2, hl2⟩ := HLD.out.makes h2; clear h2; have ST2 := Lib.hid hst2; have HL2 := Lib.hid hl2; clear hst2 hl2; obtain ⟨mn, mc, mg, μ, A', n', c', hm0, hmn, hμ, hmc, HTK⟩ := arr_ready (p := nextP X') HL2.out (make_made _ _) (by omega)
            have hmn1 : (mn : Int) - 1 = (μ : Int) := by omega
            have hμ0 : (0 : Int) ≤ (μ : Int) := by omega
            have hμn : (μ : Int) < (mn : Int) := by omega
            have hwμ : IntKind.i64.wrap (μ : Int) = (μ : Int) := IntWalk.i64_in _ (by omega)
            clear hmn
            refine hK.out _ _ (.inr trivial) ?_
            clear hK K
            refine wpAnyG_ready (rs := [2]) (by kernel_rfl) (by simp) ?_
            refine AllReadyG.cons rfl (fun K hK => ?_) AllReadyG.nil
            go_simp
            refine hK.out _ _ (.inr trivial) ?_
            clear hK K
            refine wpAnyG_ready (rs := [3]) (by kernel_rfl) (by simp) ?_
            refine AllReadyG.cons rfl (fun K hK => ?_) AllReadyG.nil
            go_simp
            refine hK.out _ _ (.inr trivial) ?_
            clear hK K
            refine wpAnyG_weaken (S0 := fun w' => w' = w2) (st := 15) _ _ _ _ ?_
            refine wpAnyG_take (i := 4) (v := ?_) rfl (by kernel_rfl) (by kernel_rfl) (by kernel_rfl) (by kernel_rfl) (fun _ _ _ h => h) (Or.inl ⟨by rfl, ?_⟩) (.inr rfl) ?_
            rotate_left
            · intro w' _; go_simp; try with_reducible rfl
            try simp only [Act.put, List.getElem_toArray, List.getElem_cons_zero, List.getElem_cons_succ, List.setIfInBounds_toArray, List.set_cons_zero, List.set_cons_succ]
            refine wpAnyG_take (i := 5) (v := ?_) rfl (by kernel_rfl) (by kernel_rfl) (by kernel_rfl) (by kernel_rfl) (fun _ _ _ h => h) (Or.inl ⟨by rfl, ?_⟩) (.inr rfl) ?_
            rotate_left
            · intro w' _; go_simp; try with_reducible rfl
            try simp only [Act.put, List.getElem_toArray, List.getElem_cons_zero, List.getElem_cons_succ, List.setIfInBounds_toArray, List.set_cons_zero, List.set_cons_succ]
            refine wpAnyG_take (i := 6) (v := ?_) rfl (by kernel_rfl) (by kernel_rfl) (by kernel_rfl) (by kernel_rfl) (fun _ _ _ h => h) (Or.inl ⟨by rfl, ?_⟩) (.inr rfl) ?_
            rotate_left
            · intro w' _; go_simp; try with_reducible rfl
            try simp only [Act.put, List.getElem_toArray, List.getElem_cons_zero, List.getElem_cons_succ, List.setIfInBounds_toArray, List.set_cons_zero, List.set_cons_succ]
            refine wpAnyG_take (i := 7) (v := ?_) rfl (by kernel_rfl) (by kernel_rfl) (by kernel_rfl) (by kernel_rfl) (fun _ _ _ h => h) (Or.inl ⟨by rfl, ?_⟩) (.inr rfl) ?_
            rotate_left
            · intro w' _; go_simp; try with_reducible rfl
            try simp only [Act.put, List.getElem_toArray, List.getElem_cons_zero, List.getElem_cons_succ, List.setIfInBounds_toArray, List.set_cons_zero, List.set_cons_succ]
            refine wpAnyG_take (i := 9) (v := ?_) rfl (by kernel_rfl) (by kernel_rfl) (by kernel_rfl) (by kernel_rfl) (fun _ _ _ h => h) (Or.inl ⟨by rfl, ?_⟩) (.inr rfl) ?_
            rotate_left
            · intro w' _; go_simp; try with_reducible rfl
            try simp only [Act.put, List.getElem_toArray, List.getElem_cons_zero, List.getElem_cons_succ, List.setIfInBounds_toArray, List.set_cons_zero, List.set_cons_succ]
            refine wpAnyG_take (i := 10) (v := ?_) rfl (by kernel_rfl) (by kernel_rfl) (by kernel_rfl) (by kernel_rfl) (fun _ _ _ h => h) (Or.inl ⟨by rfl, ?_⟩) (.inr rfl) ?_
            rotate_left
            · intro w' _; go_simp; try with_reducible rfl
            try simp only [Act.put, List.getElem_toArray, List.getElem_cons_zero, List.getElem_cons_succ, List.setIfInBounds_toArray, List.set_cons_zero, List.set_cons_succ]
            refine wpAnyG_take (i := 11) (v := ?_) rfl (by kernel_rfl) (by kernel_rfl) (by kernel_rfl) (by kernel_rfl) (fun _ _ _ h => h) (Or.inl ⟨by rfl, ?_⟩) (.inr rfl) ?_
            rotate_left
            · intro w' _; go_simp; try with_reducible rfl
            try simp only [Act.put, List.getElem_toArray, List.getElem_cons_zero, List.getElem_cons_succ, List.setIfInBounds_toArray, List.set_cons_zero, List.set_cons_succ]
            refine wpAnyG_load (i := 8) (v := ?_) rfl rfl (by kernel_rfl) (by kernel_rfl) (by kernel_rfl) (by kernel_rfl) (by kernel_rfl) (by kernel_rfl) (fun _ _ _ h => h) (Or.inl ⟨by rfl, ?_⟩) (rfl) ?_
            rotate_left
            · intro w' hSw; subst hSw; go_simp; try with_reducible rfl
            try simp only [Act.put, List.getElem_toArray, List.getElem_cons_zero, List.getElem_cons_succ, List.setIfInBounds_toArray, List.set_cons_zero, List.set_cons_succ]
            refine wpAnyG_ready (rs := [12]) (by kernel_rfl) (by simp) ?_
            refine AllReadyG.cons rfl (fun K hK => ?_) AllReadyG.nil
            go_simp
            refine hK.out _ _ (.inr rfl) ?_
            clear hK K
            refine wpAnyG_take (i := 13) (v := ?_) rfl (by kernel_rfl) (by kernel_rfl) (by kernel_rfl) (by kernel_rfl) (fun _ _ _ h => h) (Or.inl ⟨by rfl, ?_⟩) (.inr rfl) ?_
            rotate_left
            · intro w' _; go_simp; try with_reducible rfl
            try simp only [Act.put, List.getElem_toArray, List.getElem_cons_zero, List.getElem_cons_succ, List.setIfInBounds_toArray, List.set_cons_zero, List.set_cons_succ]
            refine wpAnyG_take (i := 14) (v := ?_) rfl (by kernel_rfl) (by kernel_rfl) (by kernel_rfl) (by kernel_rfl) (fun _ _ _ h => h) (Or.inl ⟨by rfl, ?_⟩) (.inr rfl) ?_
            rotate_left
            · intro w' _; go_simp; try with_reducible rfl
            try simp only [Act.put, List.getElem_toArray, List.getElem_cons_zero, List.getElem_cons_succ, List.setIfInBounds_toArray, List.set_cons_zero, List.set_cons_succ]
            refine wpAnyG_ready (rs := [15]) (by kernel_rfl) (by simp) ?_
            refine AllReadyG.cons rfl (fun K hK => ?_) AllReadyG.nil
            go_simp
            refine hK.out _ _ (.inl rfl) ?_
            clear hK K
            refine wpAnyG_ready (rs := [16]) (by kernel_rfl) (by simp) ?_
            refine AllReadyG.cons rfl (fun K hK => ?_) AllReadyG.nil
            go_simp
            refine hK.out _ _ (.inl rfl) ?_
            clear hK K
            refine wpAnyG_ready (rs := [17]) (by kernel_rfl) (by simp) ?_
            refine AllReadyG.cons rfl (fun K hK => ?_) AllReadyG.nil
            go_simp
            refine HTK.out.mono ?_
            intro e w3 h3; obtain ⟨rfl, o3, hst3, hl3⟩ := h3; have ST3 := Lib.hid hst3; have HL3 := Lib.hid hl3; clear hst3 hl3
            refine hK.out _ _ (.inl rfl) ?_
            clear hK K
            obtain ⟨a1, a2, a3⟩ := arr_round HI.out HI'.out
            have HA1 := Lib.hid a1
            obtain ⟨⟨v3, u3, cells3, hl3⟩, -⟩ := HL3.out
            have hbn := hl3.x.bodies.len
            rw [List.length_map, a3, Nat.mul_one] at hbn
            obtain ⟨gb, hbA, -, hbc, -⟩ := hl3.x.bodies.at_ (k := X'.bodies.length) (by omega)
            rw [nats_get (by omega), a2] at hbc
            have m2 : w3.cell? ⟨l, 2, none⟩ = _ := (hl3.b.cell 2).trans hl3.cx.c2
            obtain ⟨bn3, hbn3⟩ : ∃ n, n = v3.bn := ⟨_, rfl⟩
            obtain ⟨bc3, hbc3⟩ : ∃ n, n = v3.bc := ⟨_, rfl⟩
            rw [hbA, ← hbn3, ← hbc3] at m2
            rw [← HKB.out] at hbc hbn
            have hκn : (κ : Int) < (bn3 : Int) := by omega
            clear hbn hbn3 hbc3 hbA hl3 a1 a2 a3
            refine wpAnyG_ready (rs := [18]) (by kernel_rfl) (by simp) ?_
            refine AllReadyG.cons rfl (fun K hK => ?_) AllReadyG.nil
            go_simp
            refine hK.out _ _ (.inl rfl) ?_
            clear hK K
            refine wpAnyG_ready (rs := [19]) (by kernel_rfl) (by simp) ?_
            refine AllReadyG.cons rfl (fun K hK => ?_) AllReadyG.nil
            go_simp
            refine hK.out _ _ (.inl rfl) ?_
            clear hK K
            refine wpAnyG_ready (rs := [20]) (by kernel_rfl) (by simp) ?_
            refine AllReadyG.cons rfl (fun K hK => ?_) AllReadyG.nil
            go_simp
            refine hK.out _ _ (.inl rfl) ?_
            clear hK K
            refine wpAnyG_after (S1 := fun w' => w' = w3) (st1 := 26) _ _ _ _ rfl ?_
            refine wpAnyG_take (i := 21) (v := ?_) rfl (by kernel_rfl) (by kernel_rfl) (by kernel_rfl) (by kernel_rfl) (fun _ _ _ h => h) (Or.inl ⟨by rfl, ?_⟩) (.inr rfl) ?_
            rotate_left
            · intro w' _; go_simp; try with_reducible rfl
            try simp only [Act.put, List.getElem_toArray, List.getElem_cons_zero, List.getElem_cons_succ, List.setIfInBounds_toArray, List.set_cons_zero, List.set_cons_succ]
            refine wpAnyG_take (i := 22) (v := ?_) rfl (by kernel_rfl) (by kernel_rfl) (by kernel_rfl) (by kernel_rfl) (fun _ _ _ h => h) (Or.inl ⟨by rfl, ?_⟩) (.inr rfl) ?_
            rotate_left
            · intro w' _; go_simp; try with_reducible rfl
            try simp only [Act.put, List.getElem_toArray, List.getElem_cons_zero, List.getElem_cons_succ, List.setIfInBounds_toArray, List.set_cons_zero, List.set_cons_succ]
            refine wpAnyG_take (i := 23) (v := ?_) rfl (by kernel_rfl) (by kernel_rfl) (by kernel_rfl) (by kernel_rfl) (fun _ _ _ h => h) (Or.inl ⟨by rfl, ?_⟩) (.inr rfl) ?_
            rotate_left
            · intro w' _; go_simp; try with_reducible rfl
            try simp only [Act.put, List.getElem_toArray, List.getElem_cons_zero, List.getElem_cons_succ, List.setIfInBounds_toArray, List.set_cons_zero, List.set_cons_succ]
            refine wpAnyG_take (i := 25) (v := ?_) rfl (by kernel_rfl) (by kernel_rfl) (by kernel_rfl) (by kernel_rfl) (fun _ _ _ h => h) (Or.inl ⟨by rfl, ?_⟩) (.inr rfl) ?_
            rotate_left
            · intro w' _; go_simp; try with_reducible rfl
            try simp only [Act.put, List.getElem_toArray, List.getElem_cons_zero, List.getElem_cons_succ, List.setIfInBounds_toArray, List.set_cons_zero, List.set_cons_succ]
            refine wpAnyG_ready (rs := [24]) (by kernel_rfl) (by simp) ?_
            refine AllReadyG.cons rfl (fun K hK => ?_) AllReadyG.nil
            go_simp
            refine hK.out _ _ (.inr rfl) ?_
            clear hK K
            refine wpAnyG_ready (rs := [26]) (by kernel_rfl) (by simp) ?_
            refine AllReadyG.cons rfl (fun K hK => ?_) AllReadyG.nil
            go_simp
            refine hK.out _ _ (.inl rfl) ?_
            clear hK K
            refine wpAnyG_ready (rs := [27]) (by kernel_rfl) (by simp) ?_
            refine AllReadyG.cons rfl (fun K hK => ?_) AllReadyG.nil
            go_simp
            refine hK.out _ _ (.inl rfl) ?_
            clear hK K
            refine wpAnyG_ready (rs := [28]) (by kernel_rfl) (by simp) ?_
            refine AllReadyG.cons rfl (fun K hK => ?_) AllReadyG.nil
            go_simp
            refine hK.out _ _ (.inl rfl) ?_
            clear hK K
            refine wpAnyG_ready (rs := [29]) (by kernel_rfl) (by simp) ?_
            refine AllReadyG.cons rfl (fun K hK => ?_) AllReadyG.nil
            go_simp
            refine hK.out _ _ (.inl rfl) ?_
            clear hK K
            refine wpAnyG_done (by kernel_rfl) ?_ _
            go_wp2_with fail
            go_roundw
            case rel => exact ⟨j + 1, o3, _, _, by omega, by go_num, Lib.hid ⟨(HJ.out.1.drew.trans (ST2.out.mono (by simp))).trans (ST3.out.mono (by simp)), HL3.out, fun _ => HA1.out⟩⟩
            case measure => simp [intOf]; omega
          · obtain rfl : R = j := by omega
            have hA := HJ.out.2.2 (by omega)
            have hL := HJ.out.2.1
            obtain ⟨⟨v, u, cells, hl⟩, hI, hI', hz, -⟩ := hL
            have hbx := hz.bx; have hbY := hz.bY
            have hbn := hl.x.bodies.len
            rw [List.length_map, Nat.mul_one] at hbn
            have hfx := conc_fit hI HJ.out.2.1.o0 HJ.out.2.1.o1 HJ.out.2.1.p0 HJ.out.2.1.p1 (by omega) (by omega)
            have hfy := conc_fit hI' HJ.out.2.1.p0 HJ.out.2.1.p1 HJ.out.2.1.o0 HJ.out.2.1.o1 (by omega) (by omega)
            have l0 := (hl.b.cell 0).trans hl.cx.c0
            have l2 := (hl.b.cell 2).trans hl.cx.c2
            have l4 := (hl.b.cell 4).trans hl.cx.c4
            have l5 := (hl.b.cell 5).trans hl.cy.c0
            have hll := hl.b.lt
            obtain ⟨xe, hxe⟩ : ∃ xe, xe = v.e := ⟨_, rfl⟩
            obtain ⟨ye, hye⟩ : ∃ ye, ye = u.e := ⟨_, rfl⟩
            obtain ⟨N, hN⟩ : ∃ N, N = v.bn := ⟨_, rfl⟩
            have hex := hl.x.e; have hey := hl.y.e
            rw [← hxe] at l0 hex
            rw [← hye] at l5 hey
            rw [← hN] at l2 hbn
            have hN1 : 1 ≤ N := by have := hA.pos; omega
            have hN9 : N ≤ 300 := by omega
            have HX := Lib.hid hex; have HY := Lib.hid hey; have HFX := Lib.hid hfx; have HFY := Lib.hid hfy; have HN := Lib.hid hbn; have HA := Lib.hid hA; have HI := Lib.hid hI; have HI' := Lib.hid hI'; have HZ := Lib.hid hz; have HBL := Lib.hid hl
            have HXE := Lib.hid hxe
            clear hA hl hI hI' hz hbx hbY hbn hfx hfy hex hey hxe hye hN
            go_wp2_with fail
            go_quiet (fail)
            obtain ⟨W1, hW1⟩ : ∃ W1, W1 = wr.drewN nq := ⟨_, rfl⟩
            have st1 : Step [] wr oj W1 oj := by rw [hW1]; exact (Step.refl [] wr oj).drewN _
            rw [← hW1]
            have c0 : W1.cell? ⟨l, 0, none⟩ = some (.pointer (some ⟨xe, 0, none⟩)) := by rw [hW1]; exact l0
            have hlw : l < W1.heap.size := by rw [hW1]; exact hll
            clear l0 l2 l4 l5 hll hW1
            have ST1 := Lib.hid st1
            go_wp2_with fail
            refine (Pending_ok W1 oj 2 14 xe _ (HX.out.step ST1.out (by simp)) HFX.out).mono ?_
            rintro e w4 ⟨PA, pc, rfl, hr4, hb4⟩
            have st4 := ST1.out.below hb4 14
            obtain ⟨o4, ho4⟩ : ∃ o4, o4 = ext oj W1.heap.size 14 := ⟨_, rfl⟩
            rw [← ho4] at hr4 st4
            obtain ⟨pl, hpl⟩ : ∃ pl, pl = (X'.e.conc own oth).pend.length := ⟨_, rfl⟩
            rw [← hpl] at hr4 ⊢
            have hpl2 : pl ≤ 256 := by rw [hpl]; exact HFX.out.len
            have HPR := Lib.hid hr4; have ST4 := Lib.hid st4; have HPL := Lib.hid hpl
            have HL4 := Lib.hid (HBL.out.step st4 (by simp) (by omega) (by omega))
            clear ho4 hb4 c0 hlw st1 ST1 hr4 st4 hpl
            have d5 : w4.cell? ⟨l, 5, none⟩ = some (.pointer (some ⟨u.e, 0, none⟩)) := (HL4.out.b.cell 5).trans HL4.out.cy.c0
            have hlw := HL4.out.b.lt
            go_upto_if 121 with (fail)
            go_cut [20] (fun s20 wx => ∃ (o5 : Own) (Y2 : ASide) (pk : APkt) (QA : Option Addr) (qn qc : Nat), s20 = .slice QA qn qc ∧ Hid (ArrQ w4 o4 l own oth X' Y' Y2 pk QA qn qc wx o5))
            case first => as_aux_lemma =>
              have hH : Y'.e.heard = X'.bodies.length := HA.out.heard
              have hH1 : 1 ≤ Y'.e.heard := by have := HA.out.pos; omega
              have hnote : Y'.e.note = some (X'.bodies.length - 1, Y'.e.mask) := by unfold AEnd.note; rw [if_pos (by omega), hH]
              have hnm := note_ok HI'.out hnote
              have HNO := Lib.hid hnote; have HNM := Lib.hid hnm; have HH := Lib.hid hH1
              clear hH hH1 hnote hnm
              cases only with
              | true =>
                go_wp2_with fail
                refine (Only_ok w4 o4 3 10 u.e _ HL4.out.y.e HFY.out (by show own ≤ own + (Y'.e.heard : Int) - 1; have := HH.out; omega)).mono ?_
                rintro e w5 ⟨QA, qc, o5, rfl, hst5, hr5⟩
                obtain ⟨qn, hqn⟩ : ∃ qn, qn = (ackP (Y'.e.conc oth own)).length := ⟨_, rfl⟩
                rw [← hqn] at hr5 ⊢
                have ST5 := Lib.hid hst5; have R5 := Lib.hid hr5
                have HQN := Lib.hid hqn
                clear hst5 hr5 hqn
                go_wp2_with fail
                go_meet
                refine ⟨o5, Y', ⟨none, Y'.e.note⟩, QA, qn, qc, rfl, Lib.hid ⟨ST5.out.nil, ⟨v, u, cells, HL4.out.step ST5.out (by simp) (by omega) (by omega)⟩, HI.out, HI'.out, by have := HZ.out.bY; omega, ?_, ⟨.inr (by rw [HNO.out]; simp), fun k xs h => by simp at h, fun m mk h => ?_⟩, HNO.out, by rw [recvA_eq]⟩⟩
                · rw [← conc_ack oth own Y'.e (by have := HH.out; omega)]; exact R5.out.sl
                · rw [HNO.out] at h
                  simp only [Option.some.injEq, Prod.mk.injEq] at h
                  obtain ⟨rfl, rfl⟩ := h
                  exact HNM.out
              | false =>
                have hz' : Sized Y' X' 900 := ⟨by have := HZ.out.bY; omega, by have := HZ.out.bx; omega, by have := HZ.out.my; omega, by have := HZ.out.mx; omega⟩
                have hmk := makes_link w4 o4 l 1 0 11 (by omega) rfl oth own Y' X' u v cells HL4.out.swap HI'.out HI.out HJ.out.2.1.p0 HJ.out.2.1.p1 HJ.out.2.1.o0 HJ.out.2.1.o1 hz' none 0 0 [] (Sl.nil_ _ _ _ _ _ _ (by decide)) (by omega)
                have HMK := Lib.hid hmk
                clear hmk hz'
                go_wp2_with fail
                refine HMK.out.mono ?_
                rintro e w5 ⟨rfl, o5, v', u', cells', hst5, hl5⟩
                have hmd := hl5.x.made
                simp only at hl5 hmd
                rw [make_made, List.map_append, List.map_singleton] at hmd
                obtain ⟨g, A', n', c', hgA, hgn, hgc, hgs⟩ := hmd.last
                have m6 := (hl5.b.cell 6).trans hl5.cx.c1
                obtain ⟨mn, hmn⟩ : ∃ mn, mn = v'.mn := ⟨_, rfl⟩
                obtain ⟨mc, hmc⟩ : ∃ mc, mc = v'.mc := ⟨_, rfl⟩
                rw [hgA, ← hmn, ← hmc] at m6
                rw [← hmn] at hgn
                obtain ⟨μ, hμ⟩ : ∃ μ, μ = (List.map (APkt.enc oth own) Y'.made).length := ⟨_, rfl⟩
                rw [← hμ] at hgn hgc
                have hμ9 : μ ≤ 900 := by rw [hμ, List.length_map]; have := HZ.out.my; omega
                have hmn1 : (mn : Int) - 1 = (μ : Int) := by omega
                have hμ0 : (0 : Int) ≤ (μ : Int) := by omega
                have hμn : (μ : Int) < (mn : Int) := by omega
                have hwμ : IntKind.i64.wrap (μ : Int) = (μ : Int) := IntWalk.i64_in _ (by omega)
                have hlw5 := hl5.b.lt
                have ST5 := Lib.hid hst5; have L5 := Lib.hid hl5; have S5 := Lib.hid hgs
                clear hst5 hl5 hgs hmd hgA hmn hmc hμ hgn HMK
                go_wp2_with fail
                go_quiet (fail)
                go_wp2_with fail
                go_meet
                obtain ⟨i1, i2⟩ := make_inv HI'.out HI.out (xs := markB Y'.bodies.length []) (by rw [HI'.out.n]; exact markB_ok _ _)
                have hk := (Step.refl [] w5 o5).drewN nq
                refine ⟨o5, Y'.make (markB Y'.bodies.length []), nextP Y', A', n', c', rfl, Lib.hid ⟨ST5.out.drewN _, ⟨u', v', cells', L5.out.swap.step hk (by simp) (by omega) (by omega)⟩, i2, i1, ?_, S5.out.step hk (by simp), i1.pkts _ (by rw [make_made]; exact List.mem_append_right _ (List.mem_singleton.2 rfl)), HNO.out, (next_code HI'.out HI.out).1⟩⟩
                rw [(make_parts Y' _).2.2]
                have := HZ.out.bY
                simp; omega
            case rest => as_aux_lemma =>
              obtain ⟨o5, Y2, pk, QA, qn, qc, rfl, HQ⟩ := hcut
              obtain ⟨hst5, ⟨v5, u5, cells5, hl5⟩, hI5, hI5', hb5, hsq, hpk, hack, hcode⟩ := HQ.out
              have hq47 : qn ≤ 140737488355328 := by
                have h1 := hsq.1
                simp only [byts, List.length_map, Nat.mul_one] at h1
                rw [← h1]
                have := enc_len (own := oth) (other := own) hpk
                omega
              have hrc := Receive_any _ o5 2 10 13 v5.e (X'.e.conc own oth) hl5.x.e HFX.out (by decide) (by decide) QA qc qn _ hsq hq47
              have hnx : X'.e.n ≤ 30000 := by rw [hI5.n]; have := HZ.out.bx; omega
              have hhx : X'.e.heard ≤ 30000 := by have := hI5.heard; omega
              rw [recv_enc own oth HJ.out.2.1.o0 HJ.out.2.1.p0 X'.e hnx hhx pk (hpk.fits hI5 (by omega)), hcode] at hrc
              obtain ⟨i1, i2, hno⟩ := take_inv hI5 hI5' hpk
              have hrs : (recvA X'.e pk).2.2.1 = repW X' X'.e.pend := by
                rw [← arr_reports HI.out HI'.out HA.out X'.e.pend (fun k hk => hk), recvA_eq]
                split <;> simp only [hack, repA]
              obtain ⟨rs, hrse⟩ : ∃ rs, rs = repW X' X'.e.pend := ⟨_, rfl⟩
              rw [hrs, ← hrse] at hno hrc
              have hrl : rs.length ≤ 256 := by rw [hrse]; exact Nat.le_trans (repW_len _ _) hI5.plen
              have HRC := Lib.hid hrc; have HNO := Lib.hid hno; have HL5 := Lib.hid hl5; have HRE := Lib.hid hrse; have HST5 := Lib.hid hst5; have HI5 := Lib.hid hI5
              have l0 := (hl5.b.cell 0).trans hl5.cx.c0
              have hlw5 := hl5.b.lt
              clear hrc hno hl5 hrse hst5 hI5 hI5' hb5 hsq hpk hack hcode hq47 hnx hhx i1 i2 hrs HQ d5 hlw
              go_wp2_with fail
              refine HRC.out.mono ?_
              rintro e w6 ⟨BA, bc, RA, rc, o6, rfl, hst6, -, -, hsR⟩
              simp only [List.length_map] at hsR ⊢
              obtain ⟨bl, hbl⟩ : ∃ bl, bl = (recvA X'.e pk).2.1.length := ⟨_, rfl⟩
              obtain ⟨rn, hrn⟩ : ∃ rn, rn = rs.length := ⟨_, rfl⟩
              rw [← hrn] at hsR hrl
              rw [← hbl, ← hrn]
              have hb6 := HL5.out.b.step hst6 (by rw [HL5.out.ol]; decide)
              have hl6 : l < w6.heap.size := hb6.lt
              have ST6 := Lib.hid hst6; have SR6 := Lib.hid hsR; have B6 := Lib.hid hb6; have HRN := Lib.hid hrn
              clear hbl hst6 hsR hb6 hrn HRC l0
              go_wp2_with fail
              refine (noted_any w6 o6 l 0 6 8 13 (by omega) own { X' with e := (recvA X'.e pk).1 } rs cells5 v5.bA v5.rA RA v5.bn v5.bc v5.rn v5.rc rn rc B6.out (by rw [ST6.out.own l HL5.out.b.lt, HL5.out.ol]; decide) HL5.out.cx.c2 HL5.out.cx.c3 HL5.out.cx.c4 (HL5.out.x.bodies.step ST6.out (by decide)) (HL5.out.x.reports.step ST6.out (by decide)) SR6.out (by decide) (by decide) HNO.out HI5.out.nr HJ.out.2.1.o0 HJ.out.2.1.o1 (by show X'.bodies.length ≤ _; have := HN.out; omega) (by omega)).mono ?_
              rintro e w7 ⟨rfl, o7, hst7, -⟩
              have hpl0 : ((pl : Int) == 0) = false := by
                have h1 : X'.e.pend.length = pl := by rw [HPL.out]; simp [AEnd.conc]
                have h2 : 0 < X'.e.pend.length := List.length_pos_iff.2 HA.out.pend
                simp; omega
              have st67 := (ST6.out.mono (ts' := [2, 8]) (by simp)).trans (hst7.mono (by simp))
              have R7 := Lib.hid (SR6.out.step hst7 (by decide))
              have P7 := Lib.hid ((HPR.out.step HST5.out (by decide)).step st67 (by decide))
              have D7 := Lib.hid (HL5.out.x.bodies.step st67 (by decide))
              have b7 := HL5.out.b.step st67 (by rw [HL5.out.ol]; decide)
              have l2 := (b7.cell 2).trans HL5.out.cx.c2
              have l4 := (b7.cell 4).trans HL5.out.cx.c4
              have hl7 := b7.lt
              have ST7 := Lib.hid (((HJ.out.1.trans (ST4.out.mono (by simp))).trans (HST5.out.mono (by simp))).trans (st67.mono (by simp)))
              obtain ⟨dn, hdn⟩ : ∃ n, n = v5.bn := ⟨_, rfl⟩
              obtain ⟨dc, hdc⟩ : ∃ n, n = v5.bc := ⟨_, rfl⟩
              obtain ⟨dA, hdA⟩ : ∃ n, n = v5.bA := ⟨_, rfl⟩
              rw [← hdn, ← hdc, ← hdA] at D7 l2
              have hdN : dn = N := by have := D7.out.len; rw [List.length_map, Nat.mul_one] at this; have := HN.out; omega
              subst hdN
              clear hst7 st67 b7 hdc hdA ST6 SR6 B6 HL5 HNO HST5 HI5 HPR HL4 hl6 hlw5 hdn
              go_wp2_with fail
              have DD := HN
              go_loopw [173, 26, 10] (fun s173 s26 _ wt => ∃ (i q : Nat), i ≤ pl ∧ s173 = .int .i64 i ∧ s26 = .int .i64 ((repW X' (X'.e.pend.take i)).length : Nat) ∧ wt = w7.drewN q) (fun s _ _ _ => pl - (intOf s).toNat)
              case atStart => exact ⟨0, 0, Nat.zero_le _, rfl, rfl, rfl⟩
              case round => as_aux_lemma =>
                obtain ⟨i, q, hi, rfl, rfl, rfl⟩ := hrel
                have hKr : (repW X' (X'.e.pend.take i)).length ≤ rn := by rw [HRN.out, HRE.out]; exact repW_le _ _ _
                obtain ⟨K, hK⟩ : ∃ K, K = (repW X' (X'.e.pend.take i)).length := ⟨_, rfl⟩
                rw [← hK] at hKr ⊢
                by_cases hlt3 : i < pl
                · obtain ⟨k, hk⟩ : ∃ k, X'.e.pend[i]? = some k := ⟨_, List.getElem?_eq_getElem (by have := HPL.out; simp only [AEnd.conc, List.length_map] at this; omega)⟩
                  have hkm := (HI.out.pmem k (List.mem_of_getElem? hk)).1
                  have hkd : k < dn := by have := HN.out; omega
                  obtain ⟨g1, hPA, -, d1, -⟩ := P7.out.at_ hlt3
                  subst hPA
                  have d2 : (ints (X'.e.conc own oth).pend)[i]? = some (.int .i64 (own + (k : Int))) := by simp only [AEnd.conc, ints, List.map_map, List.getElem?_map, hk]; rfl
                  have d3 := d1.trans d2
                  obtain ⟨g2, hDA, -, d4, -⟩ := D7.out.at_ hkd
                  subst hDA
                  obtain ⟨S, hS⟩ : ∃ S, S = X'.bodies.getD k 0 := ⟨_, rfl⟩
                  have d5 := d4.trans (nats_get (l := X'.bodies) hkm)
                  rw [← hS] at d5
                  have hS1 : S ≤ 1 := by rw [hS]; exact HI'.out.le k
                  have hk0 : own + (k : Int) - own = (k : Int) := by omega
                  have hkz : (0 : Int) ≤ (k : Int) := by omega
                  have hkn : (k : Int) < (dn : Int) := by omega
                  have hwk : IntKind.i64.wrap (k : Int) = (k : Int) := IntWalk.i64_in _ (by omega)
                  have hg1 := World.block_lt_of_cell? w7 _ d3
                  have hg2 := World.block_lt_of_cell? w7 _ d5
                  simp only at hg1 hg2
                  have HKE := Lib.hid hK; have HSE := Lib.hid hS; have HKP := Lib.hid hk
                  clear hK hS hk d1 d2 d4 hkm
                  by_cases hnear : dn ≤ k + 33
                  · have hd1 : decide (own + (dn : Int) - 1 - 32 ≤ own + (k : Int)) = true := by simp; omega
                    rcases (show S = 0 ∨ S = 1 by omega) with rfl | rfl
                    · have hsk := repW_skip (X := X') HKP.out ⟨by have := HN.out; omega, by rw [← HSE.out]; decide⟩
                      have HSK := Lib.hid hsk; clear hsk
                      go_wp2_with fail
                      go_quiet (fail)
                      go_wp2_with fail
                      go_roundw
                      case rel => exact ⟨i + 1, q + nq, by omega, by go_num, by rw [HSK.out, ← HKE.out], by first | rfl | rw [World.drewN_drewN]⟩
                      case measure => simp [intOf]; omega
                    · have hsk := repW_here (X := X') HKP.out (by rw [← HSE.out]; simp)
                      rw [← HRE.out, ← HKE.out, show decide (X'.bodies.length ≤ k + 33) = true by simp; have := HN.out; omega] at hsk
                      obtain ⟨hs1, hs2⟩ := hsk
                      have HS1 := Lib.hid hs1; have HS2 := Lib.hid hs2; clear hs1 hs2
                      obtain ⟨hKn, gr, offr, hRA, hgr, rc0, rc1⟩ := rep_cells R7.out HS2.out
                      subst hRA
                      have hKz : (0 : Int) ≤ (K : Int) := by omega
                      have hKi : (K : Int) < (rn : Int) := by omega
                      have hKd : decide ((rn : Int) ≤ (K : Int)) = false := by simp; omega
                      go_wp2_with fail
                      go_quiet (fail)
                      go_wp2_with fail
                      go_roundw
                      case rel => exact ⟨i + 1, q + nq, by omega, by go_num, by rw [HS1.out]; go_num, by first | rfl | rw [World.drewN_drewN]⟩
                      case measure => simp [intOf]; omega
                  · have hd1 : decide (own + (dn : Int) - 1 - 32 ≤ own + (k : Int)) = false := by simp; omega
                    have hsk := repW_here (X := X') HKP.out (by have := HN.out; omega)
                    rw [← HRE.out, ← HKE.out, show decide (X'.bodies.length ≤ k + 33) = false by simp; have := HN.out; omega] at hsk
                    obtain ⟨hs1, hs2⟩ := hsk
                    have HS1 := Lib.hid hs1; have HS2 := Lib.hid hs2; clear hs1 hs2
                    obtain ⟨hKn, gr, offr, hRA, hgr, rc0, rc1⟩ := rep_cells R7.out HS2.out
                    subst hRA
                    have hKz : (0 : Int) ≤ (K : Int) := by omega
                    have hKi : (K : Int) < (rn : Int) := by omega
                    have hKd : decide ((rn : Int) ≤ (K : Int)) = false := by simp; omega
                    rcases (show S = 0 ∨ S = 1 by omega) with rfl | rfl
                    all_goals
                      go_wp2_with fail
                      go_quiet (fail)
                      go_wp2_with fail
                      go_roundw
                      case rel => exact ⟨i + 1, q + nq, by omega, by go_num, by rw [HS1.out]; go_num, by first | rfl | rw [World.drewN_drewN]⟩
                      case measure => simp [intOf]; omega
                · obtain rfl : i = pl := by omega
                  have hKR : K = rn := by rw [hK, HRN.out, HRE.out, List.take_of_length_le (by have := HPL.out; simp only [AEnd.conc, List.length_map] at this; omega)]
                  subst hKR
                  clear hK
                  go_wp2_with fail
                  refine (awake_any _).mono ?_
                  rintro e w9 ⟨rfl, hb9⟩
                  have HB9 := Lib.hid hb9
                  clear hb9
                  go_wp2_with fail
                  go_ret
                  exact ⟨rfl, ((ST7.out.drewN q).below HB9.out 12).old (by simp)⟩
end Go.Proofs.Ytpmbfgpfpdenbaa
