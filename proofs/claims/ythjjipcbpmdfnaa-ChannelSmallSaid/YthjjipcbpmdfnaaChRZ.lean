/-
  Joined: ChRE, ChRF, ChRI.
-/
import Derived.Test.YthjjipcbpmdfnaaChRY
import Derived.Test.YthjjipcbpmdfnaaOrdF
import Derived.Test.YthjjipcbpmdfnaaChD
import Derived.Lib.QuietBelow

/- WALK of marchesref20.Send. -/
namespace Go.Proofs.Ythjjipcbpmdfnaa
open Go.RowKit

/-- Bounds of the reference's Channel. -/
structure RBd (c : RCh) : Prop where
  out : c.out.length ≤ 1000000
  box : c.box.length ≤ 1000000
  ps : ∀ m ∈ c.out, m.ps.length ≤ 1000000
  bs : ∀ m ∈ c.out, m.b.length ≤ 1024
/-- Blocks of tag τ are 1, all else is 0. -/
def one01 (o : Own) (τ : Nat) : Own := fun k => if o k = τ then 1 else 0
theorem one01_in {o : Own} {τ k : Nat} (h : o k = τ) : one01 o τ k = 1 := by unfold one01; rw [if_pos h]
theorem one01_le (o : Own) (τ k : Nat) : one01 o τ k ≤ 1 := by unfold one01; split <;> omega
/-- What a function of the reference that hands back a Channel leaves: everything is memory of tag τ. -/
theorem fin_re {w w' : World} {o o' : Own} {τ : Nat} {ts : List Nat} (st : Step ts w (one01 o τ) w' o') {t : Nat} (ht : t ≠ 0) : ∀ k, k < w'.heap.size → o' k = t → (t = 1 ∨ 2 ≤ t) → ext o w.heap.size τ k = τ := by
  intro k _ hk h1
  unfold ext
  split
  · rename_i hlt
    have h2 := st.own k hlt
    rw [hk] at h2
    unfold one01 at h2
    split at h2
    · assumption
    · exact absurd h2 ht
  · rfl
theorem RChIn.fin {w w' : World} {o o' : Own} {τ σ1 σ2 : Nat} {ts : List Nat} {c : RCh} {v : RV} (h : RChIn w' o' σ1 σ2 c v) (st : Step ts w (one01 o τ) w' o') (h1 : 1 ≤ σ1) (h2 : 1 ≤ σ2) : RChIn w' (ext o w.heap.size τ) τ τ c v :=
  h.re (fun k hk e => fin_re st (by omega) k hk e (by omega)) (fun k hk e => fin_re st (by omega) k hk e (by omega))
theorem RChIn.begin_ {w : World} {o : Own} {τ : Nat} {c : RCh} {v : RV} (h : RChIn w o τ τ c v) : RChIn w (one01 o τ) 1 1 c v := h.re (fun _ _ e => one01_in e) (fun _ _ e => one01_in e)
/-- Tag 8 becomes 1. -/
def calm8 (o : Own) : Own := fun k => if o k = 8 then 1 else o k
theorem calm8_ne {o : Own} {k t : Nat} (h : o k = t) (h5 : t ≠ 8) : calm8 o k = t := by
  unfold calm8; rw [if_neg (by rw [h]; omega), h]
theorem calm8_in {o : Own} {k : Nat} (h : o k = 8) : calm8 o k = 1 := by
  unfold calm8; rw [if_pos h]

theorem RS.setRowB {tb tz : Nat} {w : World} {oI : Own} {W : World} {o : Own} {b : Nat} {cb cz : Array Value} (h : RS tb tz w oI W o b cb cz) (cs : Array Value) : RS tb tz w oI (W.setRow b cs) o b cs cz :=
  ⟨h.st.trans ((step_setRow h.ob cs).mono (by simp)), h.bb.setRow cs, (setRow_other W b (b + 1) cs (by omega)).trans h.bz, h.ob, h.oz⟩
theorem MsIn.snoc {w : World} {o : Own} {σ : Nat} {ms : List M4} {vs : List MV} (h : MsIn w o σ ms vs) {m : M4} {v : MV} (hm : MIn w o σ m v) : MsIn w o σ (ms ++ [m]) (vs ++ [v]) := by
  refine ⟨by simp [h.len], fun i a b ha hb => ?_⟩
  rw [List.getElem?_append] at ha hb
  by_cases hi : i < ms.length
  · rw [if_pos hi] at ha; rw [if_pos (by rw [h.len]; exact hi)] at hb
    exact h.el i a b ha hb
  · rw [if_neg hi] at ha; rw [if_neg (by rw [h.len]; exact hi), h.len] at hb
    generalize i - ms.length = j at ha hb
    cases j with
    | succ j => simp at ha
    | zero =>
      simp only [List.getElem?_cons_zero, Option.some.injEq] at ha hb
      subst ha; subst hb; exact hm
/-- A message has been put behind the others. -/
theorem RChIn.sent {w w9 : World} {o o9 : Own} {c : RCh} {v : RV} {b : List UInt8} {A7 A9 : Option Addr} {c7 c9 : Nat} (h : RChIn w o 4 1 c v) (st : Step [8, 4] w o w9 o9) (hb : Sl w9 o9 8 1 A7 b.length c7 (byts b))
    (hr : Row w9 o9 4 107 4 A9 (c.out.length + 1) c9 (msCells (c.out.map RMsg.m4) v.mvs ++ [.slice A7 b.length c7, .bool false, .slice none 0 0, .slice none 0 0])) :
    RChIn w9 (calm8 o9) 4 1 { c with out := c.out ++ [⟨b, false, []⟩] } { v with OA := A9, oc := c9, mvs := v.mvs ++ [⟨A7, c7, none, 0, none, 0⟩] } := by
  have n1 : ∀ k, o9 k = 1 → calm8 o9 k = 1 := fun k hk => calm8_ne hk (by decide)
  refine ⟨(h.pend.step st (by simp)).re (fun k _ hk => n1 k hk), (h.got.step st (by simp)).re (fun k _ hk => n1 k hk), ?_, ?_, ?_⟩
  · have := hr.sl.re (o' := calm8 o9) (τ' := 4) (fun k _ hk => calm8_ne hk (by decide))
    simp only [List.map_append, List.map_cons, List.map_nil, List.length_append, List.length_cons, List.length_nil]
    rw [msCells_append (by rw [h.ms.len])]
    exact this
  · simp only [List.map_append, List.map_cons, List.map_nil]
    exact ((h.ms.step st (by simp)).re (fun k _ hk => n1 k hk)).snoc ⟨hb.re (fun k _ hk => calm8_in hk), Sl.nil_ _ _ _ _ _ _ (Nat.zero_le _), Sl.nil_ _ _ _ _ _ _ (Nat.zero_le _)⟩
  · exact (h.box.step st (by simp)).re (fun k _ hk => n1 k hk)
/-- A slice in memory that is old: of a tag that the ownership knows. -/
theorem Sl.tagged {w : World} {o o2 : Own} {τ2 sz n c m : Nat} {A : Option Addr} {xs : List Value} (h : Sl w o2 τ2 sz A n c xs) (hle : ∀ k, o k ≤ m) : ∃ τ3, τ3 ≤ m ∧ Sl w o τ3 sz A n c xs := by
  obtain ⟨h1, h2, h3, h4⟩ := h
  rcases Nat.eq_zero_or_pos n with hn | hn
  · exact ⟨0, Nat.zero_le _, h1, h2, h3, fun hp => absurd hp (by omega)⟩
  · obtain ⟨g, off, hA, -, hg, hc⟩ := h4 hn
    exact ⟨o g, hle g, h1, h2, h3, fun _ => ⟨g, off, hA, rfl, hg, hc⟩⟩
/-- What Send comes to. -/
def RSendTo (w : World) (o : Own) (τ : Nat) (R : RCh × Int) (e : Ending) (w' : World) : Prop := ∃ v' : RV, e = .returned (.tuple #[.agg (rcells R.1 v'), .int .i64 R.2]) ∧ Below w.heap.size w w' ∧ RChIn w' (ext o w.heap.size τ) τ τ R.1 v'

set_option maxRecDepth 100000 in
set_option maxHeartbeats 8000000 in
theorem rSend_any {w : World} {o : Own} {τ : Nat} {c : RCh} {v : RV} (h : RChIn w o τ τ c v) (hb : RBd c) {o2 : Own} {τ2 : Nat} (A : Option Addr) (n ac : Nat) (xs : List UInt8) (hS : Sl w o2 τ2 1 A n ac (byts xs)) (hn : n ≤ 1000000) :
    Calls Try.prog 17 #[.agg (rcells c v), .slice A n ac] w (RSendTo w o τ (rSend c xs)) := by
  obtain ⟨P, hP⟩ : ∃ P, P = RSendTo w o τ (rSend c xs) := ⟨_, rfl⟩
  rw [← hP]
  have HP := Lib.hid hP
  clear hP
  have hnl : n = xs.length := by have := hS.1; simp at this; omega
  have hI := h.begin_
  obtain ⟨oI, hoI⟩ : ∃ oI, oI = one01 o τ := ⟨_, rfl⟩
  rw [← hoI] at hI
  have hle : ∀ k, oI k ≤ 1 := fun k => by rw [hoI]; exact one01_le o τ k
  have hrs := RS.start 2 3 w oI (rcells c v) zero11
  have stI := ((Step.refl [] w oI).alloc (.cells (rcells c v) 32) 2).alloc (.cells zero11 32) 3
  have hch := hI.step stI (by simp) (by simp)
  obtain ⟨τ3, hτ3, hsl0⟩ := hS.tagged hle
  have hsl := hsl0.step stI (by simp)
  have ho1 : ∀ k, ext (ext oI w.heap.size 2) (w.alloc (.cells (rcells c v) 32)).heap.size 3 k ≤ 3 := fun k => by
    unfold ext; have := hle k; split <;> (try split) <;> omega
  have HO1 := Lib.hid ho1
  clear ho1
  have HRS := Lib.hid hrs; have HCH := Lib.hid hch; have HSL := Lib.hid hsl; have HB := Lib.hid hb; have HNL := Lib.hid hnl; have HOI := Lib.hid hoI; have HLE := Lib.hid hle
  clear hrs stI hch hsl0 hsl hb hnl hoI hle h hS hI
  go_enter Try.func17, Try.ntmps17
  go_upto_region 1 with fail
  have hrs := HRS.out; have hch := HCH.out; have hsl := HSL.out; have ho1 := HO1.out
  clear HRS HCH HSL HO1
  unfold zero11 at hrs hch hsl
  generalize (w.alloc (.cells (rcells c v) 32)).alloc (.cells _ 32) = w1 at hrs hch hsl ⊢
  generalize ext (ext oI _ 2) _ 3 = o1 at hrs hch hsl ho1
  have HO1 := Lib.hid ho1
  clear ho1
  generalize w.heap.size = b at hrs ⊢
  have HRS := Lib.hid hrs; have HCH := Lib.hid hch; have HSL := Lib.hid hsl
  clear hrs hch hsl
  by_cases h1024 : 1024 < n
  · have hd : decide ((1024 : Int) < (n : Int)) = true := decide_eq_true (by omega)
    go_wp2_with (first | (refine wpList_load_rc rfl (.tmp 2) rfl rfl HRS.out.bb ?_) | (refine wpList_store_rc rfl (.tmp 4) (.tmp 9) rfl rfl rfl HRS.out.bz rfl ?_))
    have hz := HRS.out.bz.setRow (rcells c v)
    have stz := step_setRow (W := w1) HRS.out.oz (rcells c v)
    generalize w1.setRow (b + 1) (rcells c v) = W9 at hz stz ⊢
    obtain ⟨r0, r1, r2, r3, r4, r5, r6, r7, r8, r9, r10⟩ := box11 hz
    refine bodyPost_ret (v := .tuple #[.agg (rcells c v), .int .i64 3]) (by simp [results, Try.results17, go_sem, r0, r1, r2, r3, r4, r5, r6, r7, r8, r9, r10, rcells]) rfl ?_
    have hst := (HRS.out.st.mono (ts' := [2, 3, 4]) (by simp)).trans (stz.mono (ts' := [2, 3, 4]) (by simp))
    have e : rSend c xs = (c, 3) := by unfold rSend; rw [if_pos (by rw [← HNL.out]; exact h1024)]
    rw [HP.out, e]
    rw [HOI.out] at hst
    exact ⟨v, rfl, hst.to_below (fun k _ => by have := one01_le o τ k; simp; omega), (HCH.out.step stz (by simp) (by simp)).fin hst (by decide) (by decide)⟩
  · have hd : decide ((1024 : Int) < (n : Int)) = false := decide_eq_false (by omega)
    have CW := Lib.hid (rWaiting_any HCH.out (by have := HB.out.out; omega))
    obtain ⟨k, hk⟩ : ∃ k, k = rWait c.out := ⟨_, rfl⟩
    rw [← hk] at CW
    have HK := Lib.hid hk
    clear hk
    by_cases h256 : 256 ≤ k
    · have hd2 : decide ((256 : Int) ≤ (k : Int)) = true := decide_eq_true (by omega)
      go_upto_region 4 with (first | (refine wpList_load_rc rfl (.tmp 2) rfl rfl HRS.out.bb ?_) | (go_at_call 43; refine CW.out.mono ?_; rintro e w2 ⟨rfl, hb⟩; have HB2 := Lib.hid hb; clear hb))
      have st2 := (Step.refl [] w1 o1).below HB2.out 9
      have RS2 := Lib.hid (HRS.out.step st2 (by simp) (by decide) (by decide))
      have CH2 := Lib.hid (HCH.out.step st2 (by simp) (by simp))
      clear st2 CW
      go_wp2_with (first | (refine wpList_load_rc rfl (.tmp 2) rfl rfl RS2.out.bb ?_) | (refine wpList_store_rc rfl (.tmp 4) (.tmp 13) rfl rfl rfl RS2.out.bz rfl ?_))
      have hz := RS2.out.bz.setRow (rcells c v)
      have stz := step_setRow (W := w2) RS2.out.oz (rcells c v)
      generalize w2.setRow (b + 1) (rcells c v) = W9 at hz stz ⊢
      obtain ⟨r0, r1, r2, r3, r4, r5, r6, r7, r8, r9, r10⟩ := box11 hz
      refine bodyPost_ret (v := .tuple #[.agg (rcells c v), .int .i64 4]) (by simp [results, Try.results17, go_sem, r0, r1, r2, r3, r4, r5, r6, r7, r8, r9, r10, rcells]) rfl ?_
      have hst := (RS2.out.st.mono (ts' := [2, 3, 4]) (by simp)).trans (stz.mono (ts' := [2, 3, 4]) (by simp))
      have e : rSend c xs = (c, 4) := by unfold rSend; rw [if_neg (by rw [← HNL.out]; exact h1024), if_pos (by rw [← HK.out]; exact h256)]
      rw [HP.out, e]
      rw [HOI.out] at hst
      exact ⟨v, rfl, hst.to_below (fun k _ => by have := one01_le o τ k; simp; omega), (CH2.out.step stz (by simp) (by simp)).fin hst (by decide) (by decide)⟩
    · have hd2 : decide ((256 : Int) ≤ (k : Int)) = false := decide_eq_false (by omega)
      go_upto_region 5 with (first | (refine wpList_load_rc rfl (.tmp 2) rfl rfl HRS.out.bb ?_) | (go_at_call 43; refine CW.out.mono ?_; rintro e w2 ⟨rfl, hb⟩; have HB2 := Lib.hid hb; clear hb))
      have st2 := (Step.refl [] w1 o1).below HB2.out 9
      have RS2 := Lib.hid (HRS.out.step st2 (by simp) (by decide) (by decide))
      have hch2 := HCH.out.step st2 (by simp) (by simp)
      have SL2 := Lib.hid (HSL.out.step st2 (by simp))
      have CC := Lib.hid (copied_any hch2 (by have := HB.out.out; omega) (by have := HB.out.box; omega) (fun m hm => by have := HB.out.ps m hm; omega) (fun j hj => by
        unfold ext; have := HO1.out j; split <;> omega))
      generalize ext o1 w1.heap.size 9 = o2 at RS2 CC hch2 SL2
      clear st2 CW HRS HCH HSL hch2
      go_upto_region 6 with (first | (refine wpList_load_rc rfl (.tmp 2) rfl rfl RS2.out.bb ?_) | (go_at_call 44; refine CC.out.mono ?_; rintro e w3 ⟨v3, o3, rfl, st3, row3, ch3⟩; have ST3 := Lib.hid st3; have ROW3 := Lib.hid row3; have CH3 := Lib.hid ch3; clear st3 row3 ch3) | (refine wpList_store_rc rfl (.tmp 2) (.tmp 15) rfl rfl rfl (RS2.out.step ST3.out (by simp) (by decide) (by decide)).bb rfl ?_))
      have hrs3 := RS2.out.step ST3.out (by simp) (by decide) (by decide)
      have hrs4 := hrs3.setRowB (rcells c v3)
      have st4 := step_setRow (W := w3) hrs3.ob (rcells c v3)
      obtain ⟨W5, hW5⟩ : ∃ W5, W5 = (w3.setRow b (rcells c v3)).drew := ⟨_, rfl⟩
      have stD : Step [] (w3.setRow b (rcells c v3)) o3 W5 o3 := by rw [hW5]; exact (Step.refl [] _ _).drew
      have hrs5 := hrs4.step stD (by simp) (by decide) (by decide)
      have RS5 := Lib.hid hrs5
      have ROW5 := Lib.hid ((ROW3.out.step st4 (by simp)).step stD (by simp))
      have CH5 := Lib.hid ((CH3.out.step st4 (by simp) (by simp)).step stD (by simp) (by simp))
      have SL5 := Lib.hid (((SL2.out.step ST3.out (by simp)).step st4 (by simp; omega)).step stD (by simp))
      have lk : W5.cell? ⟨b, 5, none⟩ = some (.slice v3.OA c.out.length v3.oc) := (hrs5.bb.cell 5).trans rfl
      refine wp_region_till (S0 := fun w' => w'.cell? ⟨b, 5, none⟩ = some (.slice v3.OA c.out.length v3.oc)) (st := 7) (by kernel_rfl) ?_
      change wpAnyG _ _ _ _ _ _ _ _ _ (World.drew _)
      rw [← hW5]
      clear hrs3 hrs4 hrs5 st4 stD hW5 ROW3 CH3 SL2 ST3 RS2
      refine wpAnyG_take (i := 0) (v := ?_) rfl (by kernel_rfl) (by kernel_rfl) (by kernel_rfl) (by kernel_rfl) (fun _ _ _ h => h) (Or.inl ⟨by rfl, ?_⟩) ((.inr lk)) ?_
      rotate_left
      · intro w' _; go_simp; try with_reducible rfl
      try simp only [Act.put, List.getElem_toArray, List.getElem_cons_zero, List.setIfInBounds_toArray, List.set_cons_zero, List.set_cons_succ]
      refine wpAnyG_load (i := 1) (v := ?_) rfl rfl (by kernel_rfl) (by kernel_rfl) (by kernel_rfl) (by kernel_rfl) (by kernel_rfl) (by kernel_rfl) (fun _ _ _ h => h) (Or.inl ⟨by rfl, ?_⟩) (lk) ?_
      rotate_left
      · intro w' hSw; go_simp; try with_reducible rfl
      try simp only [Act.put, List.getElem_toArray, List.getElem_cons_zero, List.getElem_cons_succ, List.setIfInBounds_toArray, List.set_cons_zero, List.set_cons_succ]
      refine wpAnyG_take (i := 3) (v := ?_) rfl (by kernel_rfl) (by kernel_rfl) (by kernel_rfl) (by kernel_rfl) (fun _ _ _ h => h) (Or.inl ⟨by rfl, ?_⟩) ((.inr lk)) ?_
      rotate_left
      · intro w' _; go_simp; try with_reducible rfl
      try simp only [Act.put, List.getElem_toArray, List.getElem_cons_zero, List.getElem_cons_succ, List.setIfInBounds_toArray, List.set_cons_zero, List.set_cons_succ]
      refine wpAnyG_ready (rs := [2]) (by kernel_rfl) (by simp) ?_
      refine AllReadyG.cons rfl (fun K hK => ?_) AllReadyG.nil
      go_simp
      have hS0 := fun (w' : World) (o' : Own) (hst : Step [8] W5 o3 w' o') => ((RS5.out.stepN hst (fun t ht => by simp at ht; subst ht; exact ⟨.inr fun j _ => by have := HLE.out j; omega, by decide, by decide⟩)).bb.cell 5).trans (show (rcells c v3)[5]? = some (.slice v3.OA c.out.length v3.oc) from rfl)
      have stN := (Step.refl [8] W5 o3).alloc (.cells #[] 5) 8
      have R8 := Lib.hid (Row.made (w := W5) o3 8 5 1 #[] 0 rfl (by decide) 0 (Nat.le_refl _))
      have SL6 := Lib.hid (SL5.out.step stN (by simp; omega))
      have STN := Lib.hid stN
      refine hK.out _ _ (.inr (hS0 _ _ stN)) ?_
      clear hK K stN lk
      refine wpAnyG_ready (rs := [4]) (by kernel_rfl) (by simp) ?_
      refine AllReadyG.cons rfl (fun K hK => ?_) AllReadyG.nil
      refine step_append_row rfl (.tmp 18) (.tmp 19) _ rfl el_byte _ 8 (some ⟨W5.heap.size, 0, none⟩) 0 0 _ rfl R8.out _ τ3 A n ac (byts xs) rfl SL6.out (one_byts xs) (by omega) (by simp only [maxLen]; omega) ?_
      intro A7 c7 w7 hr7 hg7 hat7
      have stA := STN.out.trans (Step.append R8.out hg7 8)
      have HR7 := Lib.hid hr7
      have STA := Lib.hid stA
      refine hK.out _ _ (.inr (hS0 _ _ stA)) ?_
      clear hK K hr7 hg7 hat7 stA R8 STN SL6
      generalize ext (ext o3 _ 8) _ 8 = o7 at HR7 STA
      have rb : ∀ W, (Instr.build 107 #[(0, .slice A7 (0 + n) c7)]).run Try.prog W = .ok (.agg #[.slice A7 (0 + n) c7, .bool false, .slice none 0 0, .slice none 0 0]) W := fun W => run_build W _ _ _ (by kernel_rfl)
      refine wpAnyG_ready (rs := [5]) (by kernel_rfl) (by simp) ?_
      refine AllReadyG.cons rfl (fun K hK => ?_) AllReadyG.nil
      go_simp
      refine hK.out _ _ (.inr (hS0 _ _ STA.out)) ?_
      clear hK K
      refine wpAnyG_ready (rs := [6]) (by kernel_rfl) (by simp) ?_
      refine AllReadyG.cons rfl (fun K hK => ?_) AllReadyG.nil
      go_simp
      have stB := STA.out.alloc (.cells #[.slice A7 n c7, .bool false, .slice none 0 0, .slice none 0 0] 107) 8
      have HB8 := Lib.hid (Row.made (w := w7) o7 8 107 4 #[.slice A7 n c7, .bool false, .slice none 0 0, .slice none 0 0] 1 rfl (by decide) 1 (Nat.le_refl _)).sl
      have HR8 := Lib.hid (HR7.out.step ((Step.refl [] w7 o7).alloc (.cells #[.slice A7 n c7, .bool false, .slice none 0 0, .slice none 0 0] 107) 8) (by simp))
      refine hK.out _ _ (.inr (hS0 _ _ stB)) ?_
      clear hK K
      have STB := Lib.hid stB
      clear stB HR7 STA rb
      generalize ext o7 _ 8 = o8 at HB8 HR8 STB
      generalize w7.alloc _ = w8 at HB8 HR8 STB ⊢
      have ROW8 := Lib.hid (ROW5.out.step STB.out (by simp))
      refine wpAnyG_ready (rs := [7]) (by kernel_rfl) (by simp) ?_
      refine AllReadyG.cons rfl (fun K hK => ?_) AllReadyG.nil
      refine step_append_row rfl (.tmp 17) (.tmp 22) _ rfl el_msg _ 4 v3.OA c.out.length v3.oc _ rfl ROW8.out _ 8 _ 1 1 [.slice A7 n c7, .bool false, .slice none 0 0, .slice none 0 0] rfl HB8.out (by simp [Value.oneCell']) (by have := HB.out.out; omega) (by have := HB.out.out; simp only [maxLen]; omega) ?_
      intro A9 c9 w9 hr9 hg9 hat9
      have st9 := Step.append ROW8.out hg9 4
      have HR9 := Lib.hid hr9
      have ST9 := Lib.hid (STB.out.mono (ts' := [8, 4]) (by simp) |>.trans (st9.mono (by simp)))
      have HB9 := Lib.hid (HR8.out.step st9 (by simp))
      refine hK.out _ _ (.inl rfl) ?_
      clear hK K hr9 hg9 hat9 st9 HR8 ROW8 HB8 STB
      generalize ext o8 _ 4 = o9 at HR9 ST9 HB9
      refine wpAnyG_ready (rs := [8]) (by kernel_rfl) (by simp) ?_
      refine AllReadyG.cons rfl (fun K hK => ?_) AllReadyG.nil
      go_simp
      refine hK.out _ _ (.inl rfl) ?_
      clear hK K
      have hrs9 := RS5.out.stepN ST9.out (fun t ht => by
        simp only [List.mem_cons, List.not_mem_nil, or_false] at ht
        rcases ht with rfl | rfl
        · exact ⟨.inr fun j _ => by have := HLE.out j; omega, by decide, by decide⟩
        · exact ⟨.inl rfl, by decide, by decide⟩)
      have z0 := hrs9.bb.frozen 5
      have z1 : w9.cell? ⟨b, 5, none⟩ = some (.slice v3.OA c.out.length v3.oc) := (hrs9.bb.cell 5).trans (show (rcells c v3)[5]? = some (.slice v3.OA c.out.length v3.oc) from rfl)
      refine wpAnyG_ready (rs := [9]) (by kernel_rfl) (by simp) ?_
      refine AllReadyG.cons rfl (fun K hK => ?_) AllReadyG.nil
      go_simp
      refine hK.out _ _ (.inl rfl) ?_
      clear hK K
      refine wpAnyG_done (by kernel_rfl) ?_ _
      have hb9 := HB9.out
      have hr9 := HR9.out
      obtain ⟨v10, hv10⟩ : ∃ v10 : RV, v10 = { v3 with OA := A9, oc := c9, mvs := v3.mvs ++ [⟨A7, c7, none, 0, none, 0⟩] } := ⟨_, rfl⟩
      obtain ⟨c10, hc10⟩ : ∃ c10 : RCh, c10 = { c with out := c.out ++ [⟨xs, false, []⟩] } := ⟨_, rfl⟩
      have ch9 : RChIn w9 (calm8 o9) 4 1 c10 v10 := by
        rw [HNL.out, Nat.zero_add] at hb9
        rw [HNL.out] at hr9
        rw [hv10, hc10]
        exact CH5.out.sent ST9.out (by simpa using hb9.sl) hr9
      have hrs10 := (hrs9.reown (o' := calm8 o9) (fun k hk => calm8_ne rfl (by rw [hrs9.st.own k hk]; have := HLE.out k; omega)) (calm8_ne hrs9.ob (by decide)) (calm8_ne hrs9.oz (by decide)))
      have ch10 := ch9.step (hrs10.setbStep 5 (.slice A9 (c.out.length + 1) c9)) (by simp) (by simp)
      have rs10 := hrs10.setb (cb' := rcells c10 v10) 5 (.slice A9 (c.out.length + 1) c9) (by rw [hv10, hc10]; simp [rcells])
      generalize w9.setCell ⟨b, 5, none⟩ (.slice A9 (c.out.length + 1) c9) = w10 at ch10 rs10 ⊢
      have RS10 := Lib.hid rs10; have CH10 := Lib.hid ch10; have HC10 := Lib.hid hc10
      clear hrs9 hrs10 ch10 rs10 ch9 hb9 hr9 hc10 hv10 z0 z1 HR9 HB9 ST9 CH5 ROW5 RS5 SL5 hS0
      go_wp2_with (first | (refine wpList_load_rc rfl (.tmp 2) rfl rfl RS10.out.bb ?_) | (refine wpList_store_rc rfl (.tmp 4) (.tmp 25) rfl rfl rfl RS10.out.bz rfl ?_))
      have hz := RS10.out.bz.setRow (rcells c10 v10)
      have stz := step_setRow (W := w10) RS10.out.oz (rcells c10 v10)
      generalize w10.setRow (b + 1) (rcells c10 v10) = W9 at hz stz ⊢
      obtain ⟨r0, r1, r2, r3, r4, r5, r6, r7, r8, r9, r10⟩ := box11 hz
      refine bodyPost_ret (v := .tuple #[.agg (rcells c10 v10), .int .i64 0]) (by simp [results, Try.results17, go_sem, r0, r1, r2, r3, r4, r5, r6, r7, r8, r9, r10, rcells]) rfl ?_
      have hst := (RS10.out.st.mono (ts' := [2, 3, 4]) (by simp)).trans (stz.mono (ts' := [2, 3, 4]) (by simp))
      have e : rSend c xs = (c10, 0) := by unfold rSend; rw [if_neg (by rw [← HNL.out]; exact h1024), if_neg (by rw [← HK.out]; exact h256), HC10.out]
      rw [HP.out, e]
      rw [HOI.out] at hst
      exact ⟨v10, rfl, hst.to_below (fun k _ => by have := one01_le o τ k; simp; omega), (CH10.out.step stz (by simp) (by simp)).fin hst (by decide) (by decide)⟩
end Go.Proofs.Ythjjipcbpmdfnaa

/- WALK of marchesref20.New. -/
namespace Go.Proofs.Ythjjipcbpmdfnaa
open Go.RowKit

/-- The reference's New. -/
theorem r19New_ok (w : World) (own other : Int) (h0 : 0 ≤ own) (h1 : own ≤ 1099511627776) (h2 : 0 ≤ other) (h3 : other ≤ 1099511627776) :
    Calls Try.prog 39 #[.int .i64 own, .int .i64 other] w fun e w' => e = .returned (.tuple #[.agg #[.int .i64 own, .int .i64 other, .int .i64 own, .slice none 0 0, .slice none 0 0], .int .i64 0]) ∧ Below w.heap.size w w' := by
  have d1 : decide (own < 0) = false := by simp; omega
  have d2 : decide (1099511627776 < own) = false := by simp; omega
  have d3 : decide (other < 0) = false := by simp; omega
  have d4 : decide (1099511627776 < other) = false := by simp; omega
  go_enter Try.func39, Try.ntmps39
  go_wp2_with fail
  exact bodyPost_ret (v := .tuple #[.agg #[.int .i64 own, .int .i64 other, .int .i64 own, .slice none 0 0, .slice none 0 0], .int .i64 0]) (by simp [results, Try.results39, go_sem]) rfl ⟨rfl, (Below.refl _ _).alloc (Nat.le_refl _) _⟩
theorem r19New_bad (w : World) (own other : Int) (h : own < 0 ∨ 1099511627776 < own ∨ other < 0 ∨ 1099511627776 < other) :
    Calls Try.prog 39 #[.int .i64 own, .int .i64 other] w fun e w' => e = .returned (.tuple #[.agg #[.int .i64 0, .int .i64 0, .int .i64 0, .slice none 0 0, .slice none 0 0], .int .i64 2]) ∧ Below w.heap.size w w' := by
  rcases Classical.em (own < 0) with d1 | d1
  · go_enter Try.func39, Try.ntmps39
    go_wp2_with fail
    exact bodyPost_ret (v := .tuple #[.agg #[.int .i64 0, .int .i64 0, .int .i64 0, .slice none 0 0, .slice none 0 0], .int .i64 2]) (by simp [results, Try.results39, go_sem]) rfl ⟨rfl, (Below.refl _ _).alloc (Nat.le_refl _) _⟩
  rcases Classical.em (1099511627776 < own) with d2 | d2
  · go_enter Try.func39, Try.ntmps39
    go_wp2_with fail
    exact bodyPost_ret (v := .tuple #[.agg #[.int .i64 0, .int .i64 0, .int .i64 0, .slice none 0 0, .slice none 0 0], .int .i64 2]) (by simp [results, Try.results39, go_sem]) rfl ⟨rfl, (Below.refl _ _).alloc (Nat.le_refl _) _⟩
  rcases Classical.em (other < 0) with d3 | d3
  · go_enter Try.func39, Try.ntmps39
    go_wp2_with fail
    exact bodyPost_ret (v := .tuple #[.agg #[.int .i64 0, .int .i64 0, .int .i64 0, .slice none 0 0, .slice none 0 0], .int .i64 2]) (by simp [results, Try.results39, go_sem]) rfl ⟨rfl, (Below.refl _ _).alloc (Nat.le_refl _) _⟩
  have d4 : 1099511627776 < other := by omega
  go_enter Try.func39, Try.ntmps39
  go_wp2_with fail
  exact bodyPost_ret (v := .tuple #[.agg #[.int .i64 0, .int .i64 0, .int .i64 0, .slice none 0 0, .slice none 0 0], .int .i64 2]) (by simp [results, Try.results39, go_sem]) rfl ⟨rfl, (Below.refl _ _).alloc (Nat.le_refl _) _⟩
def rv0 : RV := ⟨none, 0, none, 0, none, 0, [], none, 0, [], none, 0⟩
theorem rch_new (w : World) (o : Own) (τ σ : Nat) (own other : Int) : RChIn w o τ σ (rNew own other) rv0 :=
  ⟨Sl.nil_ _ _ _ _ _ _ (Nat.zero_le _), Sl.nil_ _ _ _ _ _ _ (Nat.zero_le _), Sl.nil_ _ _ _ _ _ _ (Nat.zero_le _), ⟨rfl, fun i m v hm _ => by simp [rNew] at hm⟩,
    ⟨Sl.nil_ _ _ _ _ _ _ (Nat.zero_le _), Sl.nil_ _ _ _ _ _ _ (Nat.zero_le _), fun u hu => by simp [rv0] at hu, fun i b hb => by simp [rNew] at hb⟩⟩

set_option maxHeartbeats 2000000 in
theorem rNew_of (w : World) (own other x y code : Int) (h : ∀ W, Calls Try.prog 39 #[.int .i64 own, .int .i64 other] W fun e w' => e = .returned (.tuple #[.agg #[.int .i64 x, .int .i64 y, .int .i64 x, .slice none 0 0, .slice none 0 0], .int .i64 code]) ∧ Below W.heap.size W w') :
    Calls Try.prog 12 #[.int .i64 own, .int .i64 other] w fun e w' => e = .returned (.tuple #[.agg (rcells (rNew x y) rv0), .int .i64 code]) ∧ Below w.heap.size w w' := by
  obtain ⟨W1, hW1⟩ : ∃ W1, W1 = w.alloc (.cells zero11 32) := ⟨_, rfl⟩
  have HN := Lib.hid (h W1)
  clear h
  have hb1 := (Below.refl w.heap.size w).alloc (Nat.le_refl _) (.cells zero11 32)
  have hz1 := Blk.new w 32 zero11
  rw [← hW1] at hb1 hz1
  have HB1 := Lib.hid hb1; have HZ1 := Lib.hid hz1
  clear hb1 hz1
  go_enter Try.func12, Try.ntmps12
  go_upto_region 1 with fail
  unfold zero11 at hW1
  rw [← hW1]
  have HW1 := Lib.hid hW1
  clear hW1
  obtain ⟨b, hb⟩ : ∃ b, b = w.heap.size := ⟨_, rfl⟩
  have HBE := Lib.hid hb
  rw [← hb] at HZ1 ⊢
  clear hb
  go_upto_region 2 with (go_at_call 39; refine HN.out.mono ?_; rintro e w2 ⟨rfl, hb⟩; have HB2 := Lib.hid hb; clear hb)
  have hz2 := HZ1.out.step ((Step.refl [] W1 (fun _ => 0)).below HB2.out 9) (by simp)
  have hz3 := hz2.alloc (.cells #[.int .i64 x, .int .i64 y, .int .i64 x, .slice none 0 0, .slice none 0 0] 27)
  have hb3 := (HB1.out.trans (HB2.out.mono HB1.out.size)).alloc (Nat.le_trans HB1.out.size HB2.out.size) (.cells #[.int .i64 x, .int .i64 y, .int .i64 x, .slice none 0 0, .slice none 0 0] 27)
  have hn3 := Blk.new w2 27 #[.int .i64 x, .int .i64 y, .int .i64 x, .slice none 0 0, .slice none 0 0]
  generalize w2.alloc _ = w3 at hz3 hb3 hn3 ⊢
  generalize w2.heap.size = g at hn3 ⊢
  have HZ3 := Lib.hid hz3; have HB3 := Lib.hid hb3
  have n0 := hn3.cell 0; have n1 := hn3.cell 1; have n2 := hn3.cell 2; have n3 := hn3.cell 3; have n4 := hn3.cell 4
  simp at n0 n1 n2 n3 n4
  clear hz2 hz3 hb3 hn3 HB1 HB2 HZ1 HN HW1
  go_wp2_with (refine wpList_store_rc (c := rNew x y) (v := rv0) rfl (.tmp 4) (.tmp 15) rfl rfl rfl HZ3.out rfl ?_)
  have hz := HZ3.out.setRow (rcells (rNew x y) rv0)
  have stz := step_setRow (W := w3) (o := fun k => if k = b then 1 else 0) (g := b) (t := 1) (by simp) (rcells (rNew x y) rv0)
  have hbl := HB3.out.trans (⟨stz.os, stz.tape, stz.output, stz.size, fun k hk => stz.block k (Nat.lt_of_lt_of_le hk HB3.out.size) (by have h := HBE.out; rw [if_neg (by omega)]; simp)⟩ : Below w.heap.size w3 _)
  generalize w3.setRow b (rcells (rNew x y) rv0) = W9 at hz hbl ⊢
  obtain ⟨r0, r1, r2, r3, r4, r5, r6, r7, r8, r9, r10⟩ := box11 hz
  exact bodyPost_ret (v := .tuple #[.agg (rcells (rNew x y) rv0), .int .i64 code]) (by simp [results, Try.results12, go_sem, r0, r1, r2, r3, r4, r5, r6, r7, r8, r9, r10, rcells]) rfl ⟨rfl, hbl⟩
theorem rNew_any (w : World) (own other : Int) (h0 : 0 ≤ own) (h1 : own ≤ 1099511627776) (h2 : 0 ≤ other) (h3 : other ≤ 1099511627776) :
    Calls Try.prog 12 #[.int .i64 own, .int .i64 other] w fun e w' => e = .returned (.tuple #[.agg (rcells (rNew own other) rv0), .int .i64 0]) ∧ Below w.heap.size w w' :=
  rNew_of w own other own other 0 (fun W => r19New_ok W own other h0 h1 h2 h3)
theorem rNew_bad (w : World) (own other : Int) (h : own < 0 ∨ 1099511627776 < own ∨ other < 0 ∨ 1099511627776 < other) :
    Calls Try.prog 12 #[.int .i64 own, .int .i64 other] w fun e w' => e = .returned (.tuple #[.agg (rcells (rNew 0 0) rv0), .int .i64 2]) ∧ Below w.heap.size w w' :=
  rNew_of w own other 0 0 2 (fun W => r19New_bad W own other h)
end Go.Proofs.Ythjjipcbpmdfnaa

/- WALK of same. -/
namespace Go.Proofs.Ythjjipcbpmdfnaa
open Go.RowKit

set_option maxRecDepth 100000 in
set_option maxHeartbeats 4000000 in
theorem same_any {w : World} {o : Own} {T : ChT} {b : Nat} {s : ChS} (h : ChAt w o T b s) {oR : Own} {τ : Nat} {c : RCh} {v : RV} (hr : RChIn w oR τ τ c v) (hlen : c.out.length ≤ 1000000000) (hc : CRel s c) :
    Calls Try.prog 28 #[.pointer (some ⟨b, 0, none⟩), .agg (rcells c v)] w fun e w' => e = .returned (.bool true) ∧ Below w.heap.size w w' := by
  have k1 := Blk.new w 32 (rcells c v)
  have hb0 := Lib.hid (show Below w.heap.size w (w.alloc (.cells (rcells c v) 32)) from (Below.refl _ _).alloc (Nat.le_refl _) _)
  obtain ⟨W0, hW0⟩ : ∃ W0, W0 = w.alloc (.cells (rcells c v) 32) := ⟨_, rfl⟩
  rw [← hW0] at hb0 k1
  obtain ⟨q0, q1, q2, q3, q4, q5, q6, q7, q8, q9, q10⟩ := box11 k1
  have v0 := cell_regrown q0; have v1 := cell_regrown q1; have v2 := cell_regrown q2; have v3 := cell_regrown q3; have v4 := cell_regrown q4; have v5 := cell_regrown q5; have v6 := cell_regrown q6; have v7 := cell_regrown q7; have v8 := cell_regrown q8; have v9 := cell_regrown q9; have v10 := cell_regrown q10
  have hA := fun d os => h.step ((Step.refl [] w o).below (hb0.out.trans ((below_regrown W0 d os).mono hb0.out.size)) 90) (by simp) (by simp) (by simp) (by simp)
  have hR := fun d os => hr.step ((Step.refl [] w oR).below (hb0.out.trans ((below_regrown W0 d os).mono hb0.out.size)) 90) (by simp) (by simp)
  have hwt := fun d os => Calls.regrown_of (d := d) (os := os) (w := W0) ((Waiting_ok (hA d os)).mono (fun e w' he => (⟨he.1, he.2 ▸ Below.refl _ _⟩ : e = .returned (.int .i64 (waitS s)) ∧ Below _ _ w')))
  have hdl := fun d os => Calls.regrown_of (d := d) (os := os) (w := W0) ((Delivered_ok (hA d os)).mono (fun e w' he => (⟨he.1, he.2 ▸ Below.refl _ _⟩ : e = .returned (.int .i64 s.next) ∧ Below _ _ w')))
  have hrw := fun d os => Calls.regrown_of (d := d) (os := os) (w := W0) (rWaiting_any (hR d os) hlen)
  rw [← hc.wait] at hrw
  rw [hc.next] at hdl
  obtain ⟨K, hK⟩ : ∃ K, K = waitS s := ⟨_, rfl⟩
  obtain ⟨M, hM⟩ : ∃ M, M = c.next := ⟨_, rfl⟩
  rw [← hK] at hwt hrw
  rw [← hM] at hdl
  have CW := Lib.hid hwt; have CD := Lib.hid hdl; have CR := Lib.hid hrw; have HW0 := Lib.hid hW0
  rw [← hM] at v8
  clear hA hR hwt hdl hrw hW0 hr h hc hlen k1 q0 q1 q2 q3 q4 q5 q6 q7 q8 q9 q10 hK
  go_enter Try.func28, Try.ntmps28
  go_upto_region 1 with fail
  rw [← HW0.out]
  refine wp_region_quiet_below (by kernel_rfl) (by kernel_rfl) ?_
  repeat (go_big_quiet_step (first | with_reducible exact CW.out _ _ | with_reducible exact CD.out _ _ | exact CR.out _ _))
  refine wpQuiet_nil ?_
  intro _ hw'
  obtain ⟨⟨dq, osq⟩, hw''⟩ := hw'
  have HF := Lib.hid (hb0.out.trans ((below_regrown _ dq osq).mono hb0.out.size))
  subst hw''
  clear v0 v1 v2 v3 v4 v5 v6 v7 v8 v9 v10
  go_wp2_with fail
  go_ret
  exact ⟨rfl, HF.out⟩
end Go.Proofs.Ythjjipcbpmdfnaa
