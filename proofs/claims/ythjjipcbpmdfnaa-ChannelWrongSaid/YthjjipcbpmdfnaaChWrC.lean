/-
  WALK of ChannelWrong.
-/
import Derived.Test.YthjjipcbpmdfnaaChWrB
import Derived.Lib.QuietBelow
namespace Go.Proofs.Ythjjipcbpmdfnaa
open Go.RowKit

theorem wpList_append_run {P : Program} {w w' : World} {ops : Array Oper} {rest : List Oper} {o : Oper} {a : Act} {Q : Exit → Act → World → Prop} (hgd : o.guard = none) (s x : Operand) (t tn : TypeId)
    (ho : o.op = .call { callee := .builtin .append, args := #[s, x], argTypes := #[t, tn] }) {vs vx v : Value} (hs : a.eval s = vs) (hx : a.eval x = vx) (hrun : (Builtin.append_ #[t, tn] o.type #[vs, vx]).run P w = .ok v w')
    (h : wpList P ops Q rest (a.put o.dst v) w') : wpList P ops Q (o :: rest) a w := by
  refine wpList_plain hgd fun K hK => ?_
  unfold Oper.wp execOp
  simp only [ho, resolve, invoke, builtin, Sem.run_bind, Sem.run_pure, Result.andThen_ok, List.map_toArray, List.map_cons, List.map_nil, hs, hx, hrun]
  exact hK _ _ h

theorem andNot3 : ∀ y : Nat, y < 256 → bits .andNot .u8 (y : Int) 3 = ((y / 4 * 4 : Nat) : Int) := by decide +kernel
/-- What ChannelWrong receives, without messages. -/
theorem wr_rc {w : World} {o : Own} {b : Nat} {s s' : ChS} {code : Int} (h : ChAt w o T1 b s) (hf : s.Fit) (hn : s.e.newest ≤ 1999999900000) {τ : Nat} (hτ : 30 ≤ τ ∨ τ = 0) {A : Option Addr} {n c : Nat} {xs : List UInt8} (hS : Sl w o τ 1 A n c (byts xs)) (hnb : n ≤ 140737488355328) (he : recvS s xs = (s', [], code)) :
    Calls Try.prog 24 #[.pointer (some ⟨b, 0, none⟩), .slice A n c] w fun e w' => ∃ (A' : Option Addr) (c2 : Nat) (o' : Own), e = .returned (.tuple #[.slice A' 0 c2, .int .i64 code]) ∧ Step [1, 2, 25] w o w' o' ∧ ChAt w' o' T1 b s' := by
  refine (Receive_ch h hf T1_ok 25 (by decide) (by decide) (by decide) (fun _ => (show (4 : Nat) ≠ 25 by decide)) (fun _ => (show (4 : Nat) ≠ 3 by decide)) τ (by rcases hτ with h | h; (show τ ≠ 2; omega); (show τ ≠ 2; omega)) A n c xs hS hnb hn).mono ?_
  intro e w' hrc
  obtain ⟨o', A', m, c2, vs, he', hst, hA, hM⟩ := hrc.out
  rw [he] at he' hA hM
  obtain rfl : 0 = m := hM.len
  exact ⟨A', c2, o', he', hst, hA⟩
theorem wr_fl {w : World} {o : Own} {b : Nat} {s s' : ChS} {P : List UInt8} (h : ChAt w o T1 b s) (hf : s.Fit) (hn : s.e.next ≤ 1999999999998) (ρ : Nat) (hρ : 26 ≤ ρ) (he : flushS s 0 = (s', P, 0)) :
    Calls Try.prog 20 #[.pointer (some ⟨b, 0, none⟩), .int .i64 0] w fun e w' => ∃ (A : Option Addr) (c : Nat) (o' : Own), e = .returned (.tuple #[.slice A P.length c, .int .i64 0]) ∧ Step [1, 2] w o w' o' ∧ ChAt w' o' T1 b s' ∧ Sl w' o' ρ 1 A P.length c (byts P) := by
  refine (Flush_any h hf T1_ok ρ (by show ρ ≠ 1; omega) (by show ρ ≠ 2; omega) 0 (by decide) hn).mono ?_
  intro e w' hfl
  obtain ⟨o', A, c, he', hst, hA, hR⟩ := hfl.out
  rw [he] at he' hA hR
  exact ⟨A, c, o', he', hst, hA, hR.sl⟩

set_option maxRecDepth 100000 in
set_option maxHeartbeats 4000000 in
theorem wrong_walk (w : World) (JA : Option Addr) (jn jc : Nat) (js : List UInt8) (hJ : Sl w (fun _ => 0) 0 1 JA jn jc (byts js)) (MA : Option Addr) (mn mc : Nat) (ms : List UInt8) (hM : Sl w (fun _ => 0) 0 1 MA mn mc (byts ms)) (wy : Int) (hw0 : 0 ≤ wy) (hw1 : wy < 256) :
    Calls Try.prog 9 #[.slice JA jn jc, .slice MA mn mc, .int .u8 wy] w fun e w' => e = .returned (.bool true) ∧ Below w.heap.size w w' := by
  have hln := linked_any w (fun _ => 0) 0 0 0 0 (by decide) (by decide) (by decide) (by decide) (by decide) (by decide)
  have hj1 := hJ.2.1; have hj2 := hJ.2.2.1; have hm1 := hM.2.1; have hm2 := hM.2.2.1
  unfold maxLen at hj2 hm2
  have hjl : js.length = jn := by have := hJ.1; simp at this; omega
  have hml : ms.length = mn := by have := hM.1; simp at this; omega
  obtain ⟨j, hj⟩ : ∃ j, j = min jn 500 := ⟨_, rfl⟩
  obtain ⟨m, hm⟩ : ∃ m, m = min mn 100 := ⟨_, rfl⟩
  have hjb : j ≤ 500 := by omega
  have hmb : m ≤ 100 := by omega
  have mj : ∀ (V : World) (ts : Array TypeId) (tt : TypeId), (Builtin.min_ ts tt #[.int .i64 jn, .int .i64 500]).run Try.prog V = .ok (.int .i64 j) V := fun V ts tt => run_minI V ts tt jn 500 j (by omega)
  have mm : ∀ (V : World) (ts : Array TypeId) (tt : TypeId), (Builtin.min_ ts tt #[.int .i64 mn, .int .i64 100]).run Try.prog V = .ok (.int .i64 m) V := fun V ts tt => run_minI V ts tt mn 100 m (by omega)
  have sj := run_headC Try.prog 41 5 (.int .u8 0) 1 1 Try.underlying41 (by kernel_rfl) JA jn jc j (by omega)
  have sm := run_headC Try.prog 41 5 (.int .u8 0) 1 1 Try.underlying41 (by kernel_rfl) MA mn mc m (by omega)
  have hJ2 := hJ.headB j (by omega)
  have hM2 := hM.headB m (by omega)
  obtain ⟨jb, hjbe⟩ : ∃ l, l = js.take j := ⟨_, rfl⟩
  obtain ⟨mb, hmbe⟩ : ∃ l, l = ms.take m := ⟨_, rfl⟩
  rw [← hjbe] at hJ2
  rw [← hmbe] at hM2
  have hjbl : jb.length = j := by rw [hjbe, List.length_take]; omega
  have hmbl : mb.length = m := by rw [hmbe, List.length_take]; omega
  have HLN := Lib.hid hln; have HJ := Lib.hid hJ2; have HM := Lib.hid hM2; have HJL := Lib.hid hjbl; have HML := Lib.hid hmbl
  have hjm : jn ≤ 9223372036854775807 := by omega
  have hmm : mn ≤ 9223372036854775807 := by omega
  clear hln hJ hM hj hm hJ2 hM2 hjbe hmbe hjbl hmbl hjl hml hj1 hj2 hm1 hm2
  go_enter Try.func9, Try.ntmps9
  go_wp2_with fail
  refine HLN.out.mono ?_
  rintro e w1 ⟨l, o1, rfl, hst1, v, u, cells, hL1⟩
  have c0 := (hL1.blk.cell 0).trans hL1.x.c0
  have hch1 : ChAt w1 o1 T1 v.b (chNew 0 0) := hL1.ax.c
  obtain ⟨b, hb⟩ : ∃ b, b = v.b := ⟨_, rfl⟩
  rw [← hb] at c0 hch1
  have HST1 := Lib.hid hst1; have HC1 := Lib.hid hch1
  have hl1 := hL1.blk.lt
  clear hst1 hch1 HLN hL1 hb
  go_wp2_with fail
  go_quiet (fail)
  have st2 := (Step.refl [] w1 o1).drewN nq
  have HC2 := Lib.hid (HC1.out.far1 st2 (by simp)); have ST2 := Lib.hid ((HST1.out.trans st2).mono (ts' := [1, 2, 25]) (by simp))
  generalize w1.drewN nq = w2 at HC2 ST2 ⊢
  clear st2 HST1 HC1 mj mm sj sm c0 hl1
  have HM2 := Lib.hid (HM.out.step ST2.out (by simp))
  have hu8 : IntKind.u8.wrap (m : Int) = m := by simp [IntKind.wrap, IntKind.bits, IntKind.signed]; omega
  have hns := (NS.refl w2).alloc (.cells #[.int .u8 0, .int .u8 0, .int .u8 0, .int .u8 (m : Int)] 5)
  have hr0 := NRow.made (B := w2.heap.size) (w := w2) (cs := #[.int .u8 0, .int .u8 0, .int .u8 0, .int .u8 (m : Int)]) (Nat.le_refl _) 5 1 4 rfl (by decide) 4 (Nat.le_refl _)
  have hs1 := HM2.out.below (w' := w2.alloc (.cells #[.int .u8 0, .int .u8 0, .int .u8 0, .int .u8 (m : Int)] 5)) ((Below.refl _ _).alloc (Nat.le_refl _) _)
  have HNS := Lib.hid hns; have HR0 := Lib.hid hr0; have HS1 := Lib.hid hs1
  clear hns hr0 hs1
  obtain ⟨κ, hκ⟩ : ∃ κ : Nat, κ = (wy % 8).toNat := ⟨_, rfl⟩
  have hκ8 : κ < 8 := by omega
  have hrem : wy % 8 = (κ : Int) := by omega
  have hrem2 : wy.tmod 8 = (κ : Int) := by rw [Int.tmod_eq_emod_of_nonneg hw0]; exact hrem
  clear hκ
  obtain ⟨x4, hx4⟩ : ∃ x4 : Nat, bits .andNot .u8 wy 3 = (x4 : Int) ∧ x4 % 4 = 0 ∧ x4 < 256 := by
    have h := andNot3 wy.toNat (by omega)
    rw [Int.toNat_of_nonneg hw0] at h
    exact ⟨_, h, by omega, by omega⟩
  have HX4 := Lib.hid hx4
  clear hx4
  go_upto_region 7 with (at_builtin; refine wpList_append_new _ rfl (.tmp 49) (.tmp 50) _ rfl el_byte HNS.out _ 4 4 _ rfl HR0.out MA m mc _ rfl HS1.out (one_byts _) (by omega) (by unfold maxLen; omega) ?_; intro A6 c6 w6 hr6 hk6 _ _; have HR6 := Lib.hid hr6; have HK6 := Lib.hid hk6; clear hr6 hk6)
  have st6 : Step [] w2 o1 w6 (ext o1 w2.heap.size 50) := (Step.refl [] w2 o1).below HK6.out.fin 50
  have hb4 : byts (goodB mb) = #[Value.int .u8 0, .int .u8 0, .int .u8 0, .int .u8 (m : Int)].toList ++ byts mb := by
    unfold goodB
    have e1 : (UInt8.ofNat mb.length).toNat = m := by rw [HML.out]; simp; omega
    simp only [byts, List.map_append, List.map_cons, List.map_nil, e1]
    rfl
  have hg6 : Sl w6 (ext o1 w2.heap.size 50) 50 1 A6 (4 + m) c6 (byts (goodB mb)) := by rw [hb4]; exact HR6.out.sl.plain.tag HR6.out.new o1 50
  have HC6 := Lib.hid (HC2.out.far1 st6 (by simp)); have ST6 := Lib.hid (ST2.out.trans st6.nil); have HG6 := Lib.hid hg6
  clear hg6 hb4 st6 HR6 HK6 HNS HR0 HS1 HM2 HC2 ST2
  generalize ext o1 w2.heap.size 50 = o6 at HC6 ST6 HG6
  obtain ⟨A5, c5, w8, hrun, hbd⟩ := bads w6 o6
  have hrun2 : (Builtin.append_ #[41, 3] 41 #[.slice (some ⟨w6.heap.size + 1 + 1 + 1 + 1 + 1, 0, none⟩) 4 4, .int .i64 1025]).run Try.prog ((((((w6.alloc (.cells #[.int .u8 0] 5)).alloc (.cells #[.int .u8 0, .int .u8 1, .int .u8 0] 5)).alloc (.cells #[.int .u8 0, .int .u8 0, .int .u8 0, .int .u8 1] 5)).alloc (.cells #[.int .u8 0, .int .u8 64, .int .u8 0, .int .u8 0] 5)).alloc (.cells #[.int .u8 255, .int .u8 255, .int .u8 0, .int .u8 0] 5)).alloc (.cells #[.int .u8 0, .int .u8 1, .int .u8 4, .int .u8 1] 5)) = .ok (.slice A5 1029 c5) w8 := hrun
  have HRUN := Lib.hid hrun2
  clear hrun hrun2
  obtain ⟨W, hW, hbw, s0, s1, s2, s3, s4, s5, s6, s7⟩ := hbd #[.slice (some ⟨w6.heap.size, 0, none⟩) 1 1, .slice (some ⟨w6.heap.size + 1, 0, none⟩) 3 3, .slice (some ⟨w6.heap.size + 1 + 1, 0, none⟩) 4 4, .slice (some ⟨w6.heap.size + 1 + 1 + 1, 0, none⟩) 4 4, .slice (some ⟨w6.heap.size + 1 + 1 + 1 + 1, 0, none⟩) 4 4, .slice A5 1029 c5, .slice (some ⟨w8.heap.size, 0, none⟩) 5 5, .slice (some ⟨w8.heap.size + 1, 0, none⟩) 4 4]
  have hsel : ∃ BA bn bc, (#[Value.slice (some ⟨w6.heap.size, 0, none⟩) 1 1, .slice (some ⟨w6.heap.size + 1, 0, none⟩) 3 3, .slice (some ⟨w6.heap.size + 1 + 1, 0, none⟩) 4 4, .slice (some ⟨w6.heap.size + 1 + 1 + 1, 0, none⟩) 4 4, .slice (some ⟨w6.heap.size + 1 + 1 + 1 + 1, 0, none⟩) 4 4, .slice A5 1029 c5, .slice (some ⟨w8.heap.size, 0, none⟩) 5 5, .slice (some ⟨w8.heap.size + 1, 0, none⟩) 4 4] : Array Value)[κ]? = some (.slice BA bn bc) ∧ Sl W (ext o6 w6.heap.size 51) 51 1 BA bn bc (byts (badB κ)) := by
    rcases (show κ = 0 ∨ κ = 1 ∨ κ = 2 ∨ κ = 3 ∨ κ = 4 ∨ κ = 5 ∨ κ = 6 ∨ κ = 7 by omega) with rfl | rfl | rfl | rfl | rfl | rfl | rfl | rfl
    · exact ⟨_, _, _, rfl, s0⟩
    · exact ⟨_, _, _, rfl, s1⟩
    · exact ⟨_, _, _, rfl, s2⟩
    · exact ⟨_, _, _, rfl, s3⟩
    · exact ⟨_, _, _, rfl, s4⟩
    · exact ⟨_, _, _, rfl, s5⟩
    · exact ⟨_, _, _, rfl, s6⟩
    · exact ⟨_, _, _, rfl, s7⟩
  obtain ⟨BA, bn, bc, hel, hbs⟩ := hsel
  have hbl := bad_len κ
  have hbn : (badB κ).length = bn := by have := hbs.1; simp at this; omega
  rw [hbn] at hbl
  have hcell : W.cell? ⟨w8.heap.size + 1 + 1, κ, none⟩ = some (.slice BA bn bc) := by
    have hz : ((w8.alloc (.cells #[.int .u8 0, .int .u8 1, .int .u8 255, .int .u8 255, .int .u8 1] 5)).alloc (.cells #[.int .u8 100, .int .u8 0, .int .u8 0, .int .u8 0] 5)).heap.size = w8.heap.size + 1 + 1 := by simp
    have := (Blk.new ((w8.alloc (.cells #[.int .u8 0, .int .u8 1, .int .u8 255, .int .u8 255, .int .u8 1] 5)).alloc (.cells #[.int .u8 100, .int .u8 0, .int .u8 0, .int .u8 0] 5)) 41 #[.slice (some ⟨w6.heap.size, 0, none⟩) 1 1, .slice (some ⟨w6.heap.size + 1, 0, none⟩) 3 3, .slice (some ⟨w6.heap.size + 1 + 1, 0, none⟩) 4 4, .slice (some ⟨w6.heap.size + 1 + 1 + 1, 0, none⟩) 4 4, .slice (some ⟨w6.heap.size + 1 + 1 + 1 + 1, 0, none⟩) 4 4, .slice A5 1029 c5, .slice (some ⟨w8.heap.size, 0, none⟩) 5 5, .slice (some ⟨w8.heap.size + 1, 0, none⟩) 4 4]).cell κ
    rw [hz, ← hW] at this
    rw [this]; exact hel
  rw [hW] at hcell
  have stb : Step [] w6 o6 W (ext o6 w6.heap.size 51) := (Step.refl [] w6 o6).below hbw 51
  have HCW := Lib.hid (HC6.out.far1 stb (by simp)); have STW := Lib.hid (ST6.out.trans stb.nil); have HGW := Lib.hid (HG6.out.step stb (by simp)); have HBW := Lib.hid hbs; have HBN := Lib.hid hbn; have HWW := Lib.hid hW
  clear s0 s1 s2 s3 s4 s5 s6 s7 hbd hbw stb hbs hbn hW HC6 ST6 HG6
  have hκI : (κ : Int) < 8 := by omega
  have hbn1 : bn ≤ 1029 := hbl.2
  clear hbl
  go_upto_region 8 with (at_builtin; refine wpList_append_run rfl (.tmp 57) (.const (.int .i64 1025)) _ _ rfl rfl rfl HRUN.out ?_)
  rw [← HWW.out]
  clear HWW hcell hel HRUN hκI hrem hrem2 hu8
  generalize ext o6 w6.heap.size 51 = oW at HCW STW HGW HBW
  have hns := (NS.refl W).alloc (.cells #[] 5)
  have hr0 := NRow.made (B := W.heap.size) (w := W) (cs := #[]) (Nat.le_refl _) 5 1 0 rfl (by decide) 0 (Nat.le_refl _)
  have hs1 := HGW.out.below (w' := W.alloc (.cells #[] 5)) ((Below.refl _ _).alloc (Nat.le_refl _) _)
  have HNS := Lib.hid hns; have HR0 := Lib.hid hr0; have HS1 := Lib.hid hs1
  clear hns hr0 hs1
  go_wp2_with (first
    | (at_builtin; refine wpList_append_new _ rfl (.tmp 68) (.tmp 69) _ rfl el_byte HNS.out _ 0 0 _ rfl HR0.out A6 (4 + m) c6 _ rfl HS1.out (one_byts _) (by omega) (by unfold maxLen; omega) ?_; intro A7 c7 w7 hr7 hk7 _ _; rw [Nat.zero_add] at hr7; have HB7 := Lib.hid (HBW.out.below hk7.fin); have HR7 := Lib.hid hr7; have HK7 := Lib.hid hk7; clear hr7 hk7)
    | (at_builtin; refine wpList_append_new _ rfl (.tmp 70) (.tmp 71) _ rfl el_byte HK7.out A7 (4 + m) c7 _ rfl HR7.out BA bn bc _ rfl HB7.out (one_byts _) (by omega) (by unfold maxLen; omega) ?_; intro A8 c8 w9 hr8 hk8 _ _; have HR8 := Lib.hid hr8; have HK8 := Lib.hid hk8; clear hr8 hk8))
  have stN : Step [] W oW w9 (ext oW W.heap.size 52) := (Step.refl [] W oW).below HK8.out.fin 52
  have hx8 : Sl w9 (ext oW W.heap.size 52) 52 1 A8 (4 + m + bn) c8 (byts (goodB mb ++ badB κ)) := by
    have := HR8.out.sl.plain.tag HR8.out.new oW 52
    have e : byts (goodB mb ++ badB κ) = (#[].toList.take (0 * 1) ++ byts (goodB mb)) ++ byts (badB κ) := by simp [byts]
    rw [e]; exact this
  have HC9 := Lib.hid (HCW.out.far1 stN (by simp)); have ST9 := Lib.hid (STW.out.trans stN.nil); have HG9 := Lib.hid (HGW.out.step stN (by simp)); have HX9 := Lib.hid hx8
  clear stN hx8 HNS HR0 HS1 HB7 HR7 HK7 HR8 HK8 HCW STW HGW HBW
  generalize ext oW W.heap.size 52 = o9 at HC9 ST9 HG9 HX9
  have hlen9 : (goodB mb ++ badB κ).length = 4 + m + bn := by rw [List.length_append, good_len, HML.out, HBN.out]
  refine (packetOf_any w9 HX9.out (by omega) 3 (by decide)).mono ?_
  rintro e w10 ⟨A10, c10, rfl, hb10, hs10⟩
  have st10 := (Step.refl [] w9 o9).below hb10 50
  have hc10 := HC9.out.far1 st10 (by simp)
  have hrc := wr_rc hc10 (chNew_fit (by decide) (by decide) (by decide) (by decide)) (by decide) (.inl (by decide)) hs10 (by omega) (wr1 (m := mb) (by rw [HML.out]; omega) κ)
  have ST10 := Lib.hid (ST9.out.trans st10.nil); have HG10 := Lib.hid (HG9.out.step st10 (by simp)); have HRC := Lib.hid hrc
  clear st10 hc10 hrc hs10 hb10 HC9 ST9 HG9 HX9 hlen9
  generalize ext o9 w9.heap.size 50 = o10 at ST10 HG10 HRC
  go_wp2_with fail
  refine HRC.out.mono ?_
  rintro e w11 ⟨A11, c11, o11, rfl, st11, hc11⟩
  have hdl := Delivered_ok hc11
  rw [show (wrS true).next = 0 from rfl] at hdl
  have hfl := wr_fl hc11 (wrS_fit true) (by decide) 53 (by decide) wrF1
  have ST11 := Lib.hid (ST10.out.trans (st11.mono (by simp))); have HG11 := Lib.hid (HG10.out.step st11 (by simp)); have HDL := Lib.hid hdl; have HFL := Lib.hid hfl
  clear st11 hc11 hdl hfl HRC ST10 HG10
  go_wp2_with (go_at_call 36; refine HDL.out.mono ?_; rintro e w' ⟨rfl, rfl⟩)
  refine HFL.out.mono ?_
  rintro e w12 ⟨A12, c12, o12, rfl, st12, hc12, hs12⟩
  have ST12 := Lib.hid (ST11.out.trans (st12.mono (by simp))); have HG12 := Lib.hid (HG11.out.step st12 (by simp)); have HC12 := Lib.hid hc12; have HS12 := Lib.hid hs12
  clear st12 hc12 hs12 HFL HDL ST11 HG11
  rw [show wrP.length = 7 from rfl] at HS12 ⊢
  go_wp2_with fail
  refine (packetOf_any w12 HG12.out (by omega) 3 (by decide)).mono ?_
  rintro e w13 ⟨A13, c13, rfl, hb13, hs13⟩
  have st13 := (Step.refl [] w12 o12).below hb13 50
  have hc13 := HC12.out.far1 st13 (by simp)
  have hrc := wr_rc hc13 (wrS_fit false) (by decide) (.inl (by decide)) hs13 (by omega) (wr2 (m := mb) (by rw [HML.out]; omega))
  have ST13 := Lib.hid (ST12.out.trans st13.nil); have HG13 := Lib.hid (HG12.out.step st13 (by simp)); have HS13 := Lib.hid (HS12.out.step st13 (by simp)); have HRC := Lib.hid hrc
  clear st13 hc13 hrc hs13 hb13 HC12 ST12 HG12 HS12
  generalize ext o12 w12.heap.size 50 = o13 at ST13 HG13 HRC HS13
  go_wp2_with fail
  refine HRC.out.mono ?_
  rintro e w14 ⟨A14, c14, o14, rfl, st14, hc14⟩
  have hfl := wr_fl hc14 (wrS_fit true) (by decide) 54 (by decide) wrF1
  have ST14 := Lib.hid (ST13.out.trans (st14.mono (by simp))); have HG14 := Lib.hid (HG13.out.step st14 (by simp)); have HS14 := Lib.hid (HS13.out.step st14 (by simp)); have HFL := Lib.hid hfl
  clear st14 hc14 hfl HRC ST13 HG13 HS13
  go_wp2_with fail
  refine HFL.out.mono ?_
  rintro e w15 ⟨A15, c15, o15, rfl, st15, hc15, hs15⟩
  rw [show wrP.length = 7 from rfl] at hs15 ⊢
  have ST15 := Lib.hid (ST14.out.trans (st15.mono (by simp))); have HG15 := Lib.hid (HG14.out.step st15 (by simp)); have HC15 := Lib.hid hc15
  have cv1 : (convert 41 9 (.slice A12 7 c12)).run Try.prog w15 = .ok (.string ⟨wrP.toArray⟩) w15 := conv_bytes w15 o15 _ A12 7 c12 wrP (HS14.out.step st15 (by simp))
  have cv2 : (convert 41 9 (.slice A15 7 c15)).run Try.prog w15 = .ok (.string ⟨wrP.toArray⟩) w15 := conv_bytes w15 o15 _ A15 7 c15 wrP hs15
  clear st15 hc15 hs15 HFL ST14 HG14 HS14
  go_upto_region 16 with (fail)
  clear cv1 cv2
  obtain ⟨hand, hx40, hx41⟩ := HX4.out
  have hns := (NS.refl w15).alloc (.cells #[.int .u8 (x4 : Int)] 5)
  have hr0 := NRow.made (B := w15.heap.size) (w := w15) (cs := #[.int .u8 (x4 : Int)]) (Nat.le_refl _) 5 1 1 rfl (by decide) 1 (Nat.le_refl _)
  have hs1 := (HJ.out.step ST15.out (by simp)).below (w' := w15.alloc (.cells #[.int .u8 (x4 : Int)] 5)) ((Below.refl _ _).alloc (Nat.le_refl _) _)
  have HNS := Lib.hid hns; have HR0 := Lib.hid hr0; have HS1 := Lib.hid hs1
  clear hns hr0 hs1
  go_upto_region 17 with (at_builtin; refine wpList_append_new _ rfl (.tmp 128) (.tmp 129) _ rfl el_byte HNS.out _ 1 1 _ rfl HR0.out JA j jc _ rfl HS1.out (one_byts _) (by omega) (by unfold maxLen; omega) ?_; intro A16 c16 w16 hr16 hk16 _ _; have HR16 := Lib.hid hr16; have HK16 := Lib.hid hk16; clear hr16 hk16)
  have st16 : Step [] w15 o15 w16 (ext o15 w15.heap.size 55) := (Step.refl [] w15 o15).below HK16.out.fin 55
  have hx16 : Sl w16 (ext o15 w15.heap.size 55) 55 1 A16 (1 + j) c16 (byts (UInt8.ofNat x4 :: jb)) := by
    have := HR16.out.sl.plain.tag HR16.out.new o15 55
    have e1 : (UInt8.ofNat x4).toNat = x4 := by simp; omega
    have e : byts (UInt8.ofNat x4 :: jb) = #[Value.int .u8 (x4 : Int)].toList.take (1 * 1) ++ byts jb := by simp only [byts, List.map_cons, e1]; rfl
    rw [e]; exact this
  have hc16 := HC15.out.far1 st16 (by simp)
  have hrc := wr_rc hc16 (wrS_fit false) (by decide) (.inl (by decide)) hx16 (by omega) (wr3 (x := UInt8.ofNat x4) (by simp; omega) jb)
  have ST16 := Lib.hid (ST15.out.trans st16.nil); have HG16 := Lib.hid (HG15.out.step st16 (by simp)); have HRC := Lib.hid hrc
  clear st16 hx16 hc16 hrc HC15 ST15 HG15 HNS HR0 HS1 HR16 HK16 hand
  generalize ext o15 w15.heap.size 55 = o16 at ST16 HG16 HRC
  go_wp2_with fail
  refine HRC.out.mono ?_
  rintro e w17 ⟨A17, c17, o17, rfl, st17, hc17⟩
  have hfl := wr_fl hc17 (wrS_fit false) (by decide) 56 (by decide) wrF2
  have ST17 := Lib.hid (ST16.out.trans (st17.mono (by simp))); have HG17 := Lib.hid (HG16.out.step st17 (by simp)); have HFL := Lib.hid hfl
  clear st17 hc17 hfl HRC ST16 HG16
  go_wp2_with fail
  refine HFL.out.mono ?_
  rintro e w18 ⟨A18, c18, o18, rfl, st18, hc18, -⟩
  have ST18 := Lib.hid (ST17.out.trans (st18.mono (by simp))); have HG18 := Lib.hid (HG17.out.step st18 (by simp)); have HC18 := Lib.hid hc18
  clear st18 hc18 HFL ST17 HG17
  rw [show ([] : List UInt8).length = 0 from rfl]
  go_wp2_with fail
  refine (packetOf_any w18 HG18.out (by omega) 4 (by decide)).mono ?_
  rintro e w19 ⟨A19, c19, rfl, hb19, hs19⟩
  have st19 := (Step.refl [] w18 o18).below hb19 50
  have hc19 := HC18.out.far1 st19 (by simp)
  have hrc := Receive_ch hc19 (wrS_fit false) T1_ok 25 (by decide) (by decide) (by decide) (fun _ => (show (4 : Nat) ≠ 25 by decide)) (fun _ => (show (4 : Nat) ≠ 3 by decide)) 50 (by decide) A19 _ c19 _ hs19 (by omega) (by decide)
  have hrv := wr4 (m := mb) (by rw [HML.out]; omega)
  rw [hrv] at hrc
  have ST19 := Lib.hid (ST18.out.trans st19.nil); have HRC := Lib.hid hrc
  clear st19 hc19 hrc hrv hs19 hb19 HC18 ST18 HG18
  generalize ext o18 w18.heap.size 50 = o19 at ST19 HRC
  go_wp2_with fail
  refine HRC.out.mono ?_
  intro e w20 hrc
  obtain ⟨o20, A20, m20, c20, vs, rfl, st20, hc20, hm20⟩ := hrc.out
  obtain rfl : 1 = m20 := hm20.len
  obtain ⟨XA, xl, xc, k1, k2⟩ := hm20.el 0 mb rfl
  obtain ⟨ga, hLA, -, hca, -⟩ := hm20.row.at_ (k := 0) (by decide)
  rw [k1] at hca
  subst hLA
  have ST20 := Lib.hid (ST19.out.trans (st20.mono (by simp [T1])))
  have hM20 := HM.out.step ST20.out (by simp)
  have hxl : xl = m := by have := k2.1; simp at this; have := HML.out; omega
  subst hxl
  have hcc : w20.cell? ⟨ga, 0, none⟩ = some (.slice XA xl xc) := by simpa using hca
  have cvA : ∀ d os, (convert 41 9 (.slice XA xl xc)).run Try.prog (Go.Sort.grow (redrawn w20 d) os) = .ok (.string ⟨mb.toArray⟩) (Go.Sort.grow (redrawn w20 d) os) := fun d os => conv_bytes _ _ _ XA xl xc mb (k2.below (below_regrown w20 d os))
  have cvB : ∀ d os, (convert 41 9 (.slice MA xl mc)).run Try.prog (Go.Sort.grow (redrawn w20 d) os) = .ok (.string ⟨mb.toArray⟩) (Go.Sort.grow (redrawn w20 d) os) := fun d os => conv_bytes _ _ _ MA xl mc mb (hM20.below (below_regrown w20 d os))
  have hcl := cell_regrown hcc
  have hdl : ∀ d os, Calls Try.prog 36 #[.pointer (some ⟨b, 0, none⟩)] (Go.Sort.grow (redrawn w20 d) os) fun e w'' => e = .returned (.int .i64 1) ∧ ∃ p : Regrown, w'' = Go.Sort.grow (redrawn w20 p.d) p.os := fun d os => by
    have st := (Step.refl [] w20 o20).below (below_regrown w20 d os) 60
    refine (Delivered_ok (hc20.far1 st (by simp))).mono ?_
    rintro e w' ⟨he, rfl⟩
    exact ⟨he, ⟨d, os⟩, rfl⟩
  have haw : ∀ d os, Calls Try.prog 13 #[] (Go.Sort.grow (redrawn w20 d) os) fun e w'' => e = .returned (.bool true) ∧ ∃ p : Regrown, w'' = Go.Sort.grow (redrawn w20 p.d) p.os := fun d os => Calls.regrown_of (awake_any _)
  have HDL := Lib.hid hdl; have HAW := Lib.hid haw
  have hgl := World.block_lt_of_cell? w20 _ hcc
  clear hdl haw hc20 hm20 k1 k2 hca hM20 HRC ST19 st20 hcc
  dsimp only
  go_wp2_with fail
  refine wp_region_quiet_below (by kernel_rfl) (by kernel_rfl) ?_
  repeat (go_big_quiet_step (first | with_reducible exact HDL.out _ _ | with_reducible exact HAW.out _ _))
  refine wpQuiet_nil ?_
  intro _ hw'
  obtain ⟨⟨dq, osq⟩, hw''⟩ := hw'
  have HF := Lib.hid (ST20.out.below (below_regrown w20 dq osq) 60)
  subst hw''
  clear cvA cvB hcl
  go_wp2_with fail
  go_ret
  exact ⟨rfl, HF.out.old (by decide)⟩
end Go.Proofs.Ythjjipcbpmdfnaa
