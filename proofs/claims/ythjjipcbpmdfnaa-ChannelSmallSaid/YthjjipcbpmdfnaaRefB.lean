/-
  THE REFERENCE's packets: Bytes, Make, Only.
-/
import Derived.Test.YthjjipcbpmdfnaaRefA
import Derived.Deep.DeepCutAuto
namespace Go.Proofs.Ythjjipcbpmdfnaa
open Go.RowKit

/-- The bytes of a reference's packet. -/
def refBytes (r : RefS) (num : Int) (xs : List UInt8) : List UInt8 :=
  [UInt8.ofNat ((if 0 ≤ num then 1 else 0) + if r.got = [] then 0 else 2)] ++ (if 0 ≤ num then bytesOf (num % 65536).toNat 2 else [])
    ++ (if r.got = [] then [] else bytesOf (newestR r.other r.got % 65536).toNat 2 ++ bytesOf (maskR (newestR r.other r.got) r.got 32) 4) ++ xs

/-- What the reference asks of its End. -/
structure RefS.Fit (r : RefS) : Prop where
  o0 : 0 ≤ r.other
  o1 : r.other ≤ 1099511627776
  n0 : r.got ≠ [] → 0 ≤ newestR r.other r.got
  n1 : newestR r.other r.got ≤ 3000000000000
  x0 : 0 ≤ r.next
  x1 : r.next ≤ 3000000000000
  pl : r.pend.length ≤ 100000
  gl : r.got.length ≤ 100000
theorem RefS.Fit.lo {r : RefS} (h : r.Fit) : -1 ≤ newestR r.other r.got := by
  by_cases hg : r.got = []
  · rw [hg]; have := h.o0; simp only [newestR, List.foldl_nil]; omega
  · have := h.n0 hg; omega

theorem bytes_four (m : Nat) : byts (bytesOf m 4) = [.int .u8 ((m : Int) / 16777216 % 256), .int .u8 ((m : Int) / 65536 % 256), .int .u8 ((m : Int) / 256 % 256), .int .u8 ((m : Int) % 256)] := by
  simp only [bytesOf, List.range, List.range.loop, List.map_cons, List.map_nil, byteAt]
  simp

theorem box5 {W : World} {b : Nat} {t : TypeId} {a0 a1 a2 a3 a4 : Value} (h : Blk W b t #[a0, a1, a2, a3, a4]) : W.cell? ⟨b, 0, none⟩ = some a0 ∧ W.cell? ⟨b, 1, none⟩ = some a1 ∧ W.cell? ⟨b, 2, none⟩ = some a2 ∧ W.cell? ⟨b, 3, none⟩ = some a3 ∧ W.cell? ⟨b, 4, none⟩ = some a4 :=
  ⟨h.cell 0, h.cell 1, h.cell 2, h.cell 3, h.cell 4⟩

set_option maxRecDepth 100000 in
set_option maxHeartbeats 1000000 in
theorem RBytes_tt (w : World) (o : Own) (τ τ2 : Nat) (r : RefS) (hf : r.Fit) (PA : Option Addr) (pn pc : Nat) (GA : Option Addr) (gn gc : Nat) (hG : Sl w o τ 1 GA gn gc (ints r.got)) (num : Int) (hn0 : 0 ≤ num) (hn1 : num ≤ 4000000000000)
    (A : Option Addr) (n c : Nat) (xs : List UInt8) (hS : Sl w o τ2 1 A n c (byts xs)) (hn : n ≤ 100000) (hg : r.got ≠ []) :
    Calls Try.prog 65 #[r.val PA pn pc GA gn gc, .int .i64 num, .slice A n c] w (NewTo w 1 (refBytes r num xs).length (byts (refBytes r num xs))) := by
  have hlo := hf.lo
  have HNW := Lib.hid (fun W (hb : Below w.heap.size w W) => Newest_any W o τ r PA pn pc GA gn gc (hG.below hb) hf.o0 hf.o1)
  have HMK := Lib.hid (fun W (hb : Below w.heap.size w W) => Mask_any W o τ r PA pn pc GA gn gc (hG.below hb) hf.o0 hf.o1 hlo (by have := hf.n1; omega))
  have hN0 := hf.n0 hg; have hN1 := hf.n1
  have hml := maskR_lt (newestR r.other r.got) r.got 32
  have hbe : refBytes r num xs = ([3] ++ bytesOf (num % 65536).toNat 2 ++ bytesOf (newestR r.other r.got % 65536).toNat 2 ++ bytesOf (maskR (newestR r.other r.got) r.got 32) 4) ++ xs := by
    unfold refBytes; rw [if_pos hn0, if_pos hn0, if_neg hg, if_neg hg]; simp
  obtain ⟨N, hN⟩ : ∃ N, N = newestR r.other r.got := ⟨_, rfl⟩
  rw [← hN] at hN0 hN1 HNW HMK hml hbe
  obtain ⟨M, hM⟩ : ∃ M, M = maskR N r.got 32 := ⟨_, rfl⟩
  rw [← hM] at HMK hml hbe
  obtain ⟨own, other, next, pend, got⟩ := r
  simp only at hG hg HNW HMK
  obtain ⟨hl, hgn⟩ := hG.int_len
  have hgp : 0 < gn := by rw [← hl]; exact List.length_pos_iff.2 hg
  have hd : decide ((0 : Int) < (gn : Int)) = true := by simp; omega
  have hnx : xs.length = n := by have := hS.1; simpa using this
  obtain ⟨R, hR⟩ : ∃ R, R = refBytes ⟨own, other, next, pend, got⟩ num xs := ⟨_, rfl⟩
  rw [← hR] at hbe ⊢
  have HBE := Lib.hid hbe; have HS := Lib.hid hS.toN; have HNX := Lib.hid hnx; have HML := Lib.hid hml
  clear hN hM hl hg hG hf hlo hnx hR hbe hS hml
  go_enter Try.func65, Try.ntmps65
  go_upto_region 6 with fail
  go_upto_region 8 with fail
  have H0 := Lib.hid (((NS.refl w).alloc (.cells #[.int .i64 own, .int .i64 other, .int .i64 next, .slice PA pn pc, .slice GA gn gc] 27)).alloc (.cells #[.int .u8 3] 5))
  have B0 := Lib.hid ((Blk.new w 27 #[.int .i64 own, .int .i64 other, .int .i64 next, .slice PA pn pc, .slice GA gn gc]).alloc (.cells #[.int .u8 3] 5))
  have r0 := NRow.made (w := w.alloc (.cells #[.int .i64 own, .int .i64 other, .int .i64 next, .slice PA pn pc, .slice GA gn gc] 27)) (B := w.heap.size) (by simp) 5 1 1 (cs := #[.int .u8 3]) rfl (by decide) 1 (Nat.le_refl _)
  simp only [World.size_alloc] at r0
  have R0 := Lib.hid r0
  obtain ⟨W0, hW0⟩ : ∃ W0, W0 = (w.alloc (.cells #[.int .i64 own, .int .i64 other, .int .i64 next, .slice PA pn pc, .slice GA gn gc] 27)).alloc (.cells #[.int .u8 3] 5) := ⟨_, rfl⟩
  rw [← hW0] at H0 B0 R0 ⊢
  clear hW0 r0
  go_wp2_with fail
  refine (two_any _ num hn0 hn1).mono ?_
  rintro e w1 ⟨A1, c1, rfl, hb1, hs1, -⟩
  have H1 := Lib.hid (H0.out.below hb1); have B1 := Lib.hid (B0.out.below hb1 B0.out.lt); have R1 := Lib.hid (R0.out.below H0.out.le' hb1); have S1 := Lib.hid hs1
  clear hb1 hs1 H0 B0 R0
  go_upto_region 10 with (at_builtin; refine wpList_append_new _ rfl (.tmp 25) (.tmp 27) _ rfl el_byte H1.out _ 1 1 _ rfl R1.out A1 2 c1 _ rfl S1.out (one_byts _) (by omega) (by simp only [maxLen]; omega) ?_; intro A2 c2 w2 hr2 hk2 hl2 hb2; have H2 := Lib.hid hk2; have R2 := Lib.hid hr2; have B2 := Lib.hid (hb2 _ _ _ B1.out (by decide)); clear hr2 hk2 hl2 hb2; obtain ⟨q0, q1, q2, q3, q4⟩ := box5 B2.out)
  go_wp2_with fail
  refine (HMK.out _ H2.out.fin).mono ?_
  rintro e w3 ⟨rfl, hb3⟩
  have H3 := Lib.hid (H2.out.below hb3); have B3 := Lib.hid (B2.out.below hb3 B2.out.lt); have R3 := Lib.hid (R2.out.below H2.out.le' hb3)
  clear hb3 B2 R2 B1 R1 S1 q0 q1 q2 q3 q4
  obtain ⟨q0, q1, q2, q3, q4⟩ := box5 B3.out
  go_wp2_with fail
  refine (HNW.out _ H3.out.fin).mono ?_
  rintro e w4 ⟨rfl, hb4⟩
  have H4 := Lib.hid (H3.out.below hb4); have R4 := Lib.hid (R3.out.below H3.out.le' hb4)
  clear hb4 B3 R3 q0 q1 q2 q3 q4
  go_wp2_with fail
  refine (two_any _ N (by omega) (by omega)).mono ?_
  rintro e w5 ⟨A5, c5, rfl, hb5, hs5, -⟩
  have H5 := Lib.hid (H4.out.below hb5); have R5 := Lib.hid (R4.out.below H4.out.le' hb5); have S5 := Lib.hid hs5
  clear hb5 hs5 R4
  go_upto_region 12 with (at_builtin; refine wpList_append_new _ rfl (.tmp 35) (.tmp 38) _ rfl el_byte H5.out _ 3 _ _ rfl R5.out A5 2 c5 _ rfl S5.out (one_byts _) (by omega) (by simp only [maxLen]; omega) ?_; intro A6 c6 w6 hr6 hk6 hl6 hb6; have H6 := Lib.hid hk6; have R6 := Lib.hid hr6; clear hr6 hk6 hl6 hb6)
  have e4 := bytes_four M
  have S7 := Lib.hid (Sl.fresh w6 5 1 4 (byts (bytesOf M 4)) (by rw [e4]; rfl) (by decide))
  rw [e4] at S7
  have H7 := Lib.hid (H6.out.alloc (.cells #[.int .u8 ((M : Int) / 16777216 % 256), .int .u8 ((M : Int) / 65536 % 256), .int .u8 ((M : Int) / 256 % 256), .int .u8 ((M : Int) % 256)] 5))
  have R7 := Lib.hid (R6.out.alloc H6.out.le' (.cells #[.int .u8 ((M : Int) / 16777216 % 256), .int .u8 ((M : Int) / 65536 % 256), .int .u8 ((M : Int) / 256 % 256), .int .u8 ((M : Int) % 256)] 5))
  have E4 := Lib.hid e4
  clear e4
  have o4 : ∀ u ∈ [Value.int .u8 ((M : Int) / 16777216 % 256), .int .u8 ((M : Int) / 65536 % 256), .int .u8 ((M : Int) / 256 % 256), .int .u8 ((M : Int) % 256)], u.oneCell' = true := by rw [← E4.out]; exact one_byts _
  have O4 := Lib.hid o4
  clear o4
  go_upto_region 13 with (at_builtin; refine wpList_append_new _ rfl (.tmp 40) (.tmp 52) _ rfl el_byte H7.out _ 5 _ _ rfl R7.out _ 4 4 _ rfl S7.out O4.out (by omega) (by simp only [maxLen]; omega) ?_; intro A8 c8 w8 hr8 hk8 hl8 hb8; have H8 := Lib.hid hk8; have R8 := Lib.hid hr8; clear hr8 hk8 hl8 hb8)
  have S8 := Lib.hid (HS.out.step H8.out)
  go_wp2_with (at_builtin; refine wpList_append_new _ rfl (.tmp 54) (.tmp 55) _ rfl el_byte H8.out _ 9 _ _ rfl R8.out _ n _ _ rfl S8.out (one_byts _) (by omega) (by simp only [maxLen]; omega) ?_; intro A9 c9 w9 hr9 hk9 hl9 hb9; have H9 := Lib.hid hk9; have R9 := Lib.hid hr9; clear hr9 hk9 hl9 hb9)
  go_ret
  have hR : byts R = [Value.int .u8 3] ++ byts (bytesOf (num % 65536).toNat 2) ++ byts (bytesOf (N % 65536).toNat 2) ++ byts (bytesOf M 4) ++ byts xs := by
    rw [HBE.out]; simp only [byts, List.map_append]; rfl
  have hlen : R.length = 9 + n := by rw [HBE.out]; simp [bytesOf_len, HNX.out]; omega
  have h9 := R9.out.sl.plain
  rw [← E4.out] at h9
  rw [hlen, hR]
  exact ⟨A9, c9, rfl, H9.out.fin, h9, R9.out.new⟩

set_option maxRecDepth 100000 in
set_option maxHeartbeats 1000000 in
theorem RBytes_tf (w : World) (o : Own) (τ τ2 : Nat) (r : RefS) (hf : r.Fit) (PA : Option Addr) (pn pc : Nat) (GA : Option Addr) (gn gc : Nat) (hG : Sl w o τ 1 GA gn gc (ints r.got)) (num : Int) (hn0 : 0 ≤ num) (hn1 : num ≤ 4000000000000)
    (A : Option Addr) (n c : Nat) (xs : List UInt8) (hS : Sl w o τ2 1 A n c (byts xs)) (hn : n ≤ 100000) (hg : r.got = []) :
    Calls Try.prog 65 #[r.val PA pn pc GA gn gc, .int .i64 num, .slice A n c] w (NewTo w 1 (refBytes r num xs).length (byts (refBytes r num xs))) := by
  have hbe : refBytes r num xs = ([1] ++ bytesOf (num % 65536).toNat 2) ++ xs := by
    unfold refBytes; rw [if_pos hn0, if_pos hn0, if_pos hg, if_pos hg]; simp
  obtain ⟨own, other, next, pend, got⟩ := r
  simp only at hG hg
  obtain ⟨hl, hgn⟩ := hG.int_len
  obtain rfl : gn = 0 := by rw [← hl, hg]; rfl
  have hnx : xs.length = n := by have := hS.1; simpa using this
  obtain ⟨R, hR⟩ : ∃ R, R = refBytes ⟨own, other, next, pend, got⟩ num xs := ⟨_, rfl⟩
  rw [← hR] at hbe ⊢
  have HBE := Lib.hid hbe; have HS := Lib.hid hS.toN; have HNX := Lib.hid hnx
  clear hl hg hG hf hnx hR hbe hS
  go_enter Try.func65, Try.ntmps65
  go_upto_region 6 with fail
  go_upto_region 8 with fail
  have H0 := Lib.hid (((NS.refl w).alloc (.cells #[.int .i64 own, .int .i64 other, .int .i64 next, .slice PA pn pc, .slice GA 0 gc] 27)).alloc (.cells #[.int .u8 1] 5))
  have B0 := Lib.hid ((Blk.new w 27 #[.int .i64 own, .int .i64 other, .int .i64 next, .slice PA pn pc, .slice GA 0 gc]).alloc (.cells #[.int .u8 1] 5))
  have r0 := NRow.made (w := w.alloc (.cells #[.int .i64 own, .int .i64 other, .int .i64 next, .slice PA pn pc, .slice GA 0 gc] 27)) (B := w.heap.size) (by simp) 5 1 1 (cs := #[.int .u8 1]) rfl (by decide) 1 (Nat.le_refl _)
  simp only [World.size_alloc] at r0
  have R0 := Lib.hid r0
  obtain ⟨W0, hW0⟩ : ∃ W0, W0 = (w.alloc (.cells #[.int .i64 own, .int .i64 other, .int .i64 next, .slice PA pn pc, .slice GA 0 gc] 27)).alloc (.cells #[.int .u8 1] 5) := ⟨_, rfl⟩
  rw [← hW0] at H0 B0 R0 ⊢
  clear hW0 r0
  go_wp2_with fail
  refine (two_any _ num hn0 hn1).mono ?_
  rintro e w1 ⟨A1, c1, rfl, hb1, hs1, -⟩
  have H1 := Lib.hid (H0.out.below hb1); have B1 := Lib.hid (B0.out.below hb1 B0.out.lt); have R1 := Lib.hid (R0.out.below H0.out.le' hb1); have S1 := Lib.hid hs1
  clear hb1 hs1 H0 B0 R0
  go_upto_region 13 with (at_builtin; refine wpList_append_new _ rfl (.tmp 25) (.tmp 27) _ rfl el_byte H1.out _ 1 1 _ rfl R1.out A1 2 c1 _ rfl S1.out (one_byts _) (by omega) (by simp only [maxLen]; omega) ?_; intro A2 c2 w2 hr2 hk2 hl2 hb2; have H8 := Lib.hid hk2; have R8 := Lib.hid hr2; have B2 := Lib.hid (hb2 _ _ _ B1.out (by decide)); clear hr2 hk2 hl2 hb2; obtain ⟨q0, q1, q2, q3, q4⟩ := box5 B2.out)
  have S8 := Lib.hid (HS.out.step H8.out)
  go_wp2_with (at_builtin; refine wpList_append_new _ rfl (.tmp 54) (.tmp 55) _ rfl el_byte H8.out _ 3 _ _ rfl R8.out _ n _ _ rfl S8.out (one_byts _) (by omega) (by simp only [maxLen]; omega) ?_; intro A9 c9 w9 hr9 hk9 hl9 hb9; have H9 := Lib.hid hk9; have R9 := Lib.hid hr9; clear hr9 hk9 hl9 hb9)
  go_ret
  have hR : byts R = [Value.int .u8 1] ++ byts (bytesOf (num % 65536).toNat 2) ++ byts xs := by
    rw [HBE.out]; simp only [byts, List.map_append]; rfl
  have hlen : R.length = 3 + n := by rw [HBE.out]; simp [bytesOf_len, HNX.out]; omega
  have h9 := R9.out.sl.plain
  rw [hlen, hR]
  exact ⟨A9, c9, rfl, H9.out.fin, h9, R9.out.new⟩

set_option maxRecDepth 100000 in
set_option maxHeartbeats 1000000 in
theorem RBytes_ft (w : World) (o : Own) (τ : Nat) (r : RefS) (hf : r.Fit) (PA : Option Addr) (pn pc : Nat) (GA : Option Addr) (gn gc : Nat) (hG : Sl w o τ 1 GA gn gc (ints r.got)) (hg : r.got ≠ []) :
    Calls Try.prog 65 #[r.val PA pn pc GA gn gc, .int .i64 (-1), .slice none 0 0] w (NewTo w 1 (refBytes r (-1) []).length (byts (refBytes r (-1) []))) := by
  have hlo := hf.lo
  have HNW := Lib.hid (fun W (hb : Below w.heap.size w W) => Newest_any W o τ r PA pn pc GA gn gc (hG.below hb) hf.o0 hf.o1)
  have HMK := Lib.hid (fun W (hb : Below w.heap.size w W) => Mask_any W o τ r PA pn pc GA gn gc (hG.below hb) hf.o0 hf.o1 hlo (by have := hf.n1; omega))
  have hN0 := hf.n0 hg; have hN1 := hf.n1
  have hml := maskR_lt (newestR r.other r.got) r.got 32
  have hbe : refBytes r (-1) [] = ([2] ++ bytesOf (newestR r.other r.got % 65536).toNat 2 ++ bytesOf (maskR (newestR r.other r.got) r.got 32) 4) := by
    unfold refBytes; rw [if_neg (show ¬ (0 : Int) ≤ -1 by decide), if_neg (show ¬ (0 : Int) ≤ -1 by decide), if_neg hg, if_neg hg]; simp
  obtain ⟨N, hN⟩ : ∃ N, N = newestR r.other r.got := ⟨_, rfl⟩
  rw [← hN] at hN0 hN1 HNW HMK hml hbe
  obtain ⟨M, hM⟩ : ∃ M, M = maskR N r.got 32 := ⟨_, rfl⟩
  rw [← hM] at HMK hml hbe
  obtain ⟨own, other, next, pend, got⟩ := r
  simp only at hG hg HNW HMK
  obtain ⟨hl, hgn⟩ := hG.int_len
  have hgp : 0 < gn := by rw [← hl]; exact List.length_pos_iff.2 hg
  have hd : decide ((0 : Int) < (gn : Int)) = true := by simp; omega
  obtain ⟨R, hR⟩ : ∃ R, R = refBytes ⟨own, other, next, pend, got⟩ (-1) [] := ⟨_, rfl⟩
  rw [← hR] at hbe ⊢
  have HBE := Lib.hid hbe; have HML := Lib.hid hml
  clear hN hM hl hg hG hf hlo hR hbe hml
  go_enter Try.func65, Try.ntmps65
  go_upto_region 6 with fail
  go_upto_region 8 with fail
  have H0 := Lib.hid (((NS.refl w).alloc (.cells #[.int .i64 own, .int .i64 other, .int .i64 next, .slice PA pn pc, .slice GA gn gc] 27)).alloc (.cells #[.int .u8 2] 5))
  have B0 := Lib.hid ((Blk.new w 27 #[.int .i64 own, .int .i64 other, .int .i64 next, .slice PA pn pc, .slice GA gn gc]).alloc (.cells #[.int .u8 2] 5))
  have r0 := NRow.made (w := w.alloc (.cells #[.int .i64 own, .int .i64 other, .int .i64 next, .slice PA pn pc, .slice GA gn gc] 27)) (B := w.heap.size) (by simp) 5 1 1 (cs := #[.int .u8 2]) rfl (by decide) 1 (Nat.le_refl _)
  simp only [World.size_alloc] at r0
  have R0 := Lib.hid r0
  obtain ⟨W0, hW0⟩ : ∃ W0, W0 = (w.alloc (.cells #[.int .i64 own, .int .i64 other, .int .i64 next, .slice PA pn pc, .slice GA gn gc] 27)).alloc (.cells #[.int .u8 2] 5) := ⟨_, rfl⟩
  rw [← hW0] at H0 B0 R0 ⊢
  clear hW0 r0
  have H2 := H0; have B2 := B0; have R2 := R0
  obtain ⟨q0, q1, q2, q3, q4⟩ := box5 B2.out
  go_wp2_with fail
  refine (HMK.out _ H2.out.fin).mono ?_
  rintro e w3 ⟨rfl, hb3⟩
  have H3 := Lib.hid (H2.out.below hb3); have B3 := Lib.hid (B2.out.below hb3 B2.out.lt); have R3 := Lib.hid (R2.out.below H2.out.le' hb3)
  clear hb3 B2 R2 B0 R0 H0 q0 q1 q2 q3 q4
  obtain ⟨q0, q1, q2, q3, q4⟩ := box5 B3.out
  go_wp2_with fail
  refine (HNW.out _ H3.out.fin).mono ?_
  rintro e w4 ⟨rfl, hb4⟩
  have H4 := Lib.hid (H3.out.below hb4); have R4 := Lib.hid (R3.out.below H3.out.le' hb4)
  clear hb4 B3 R3 q0 q1 q2 q3 q4
  go_wp2_with fail
  refine (two_any _ N (by omega) (by omega)).mono ?_
  rintro e w5 ⟨A5, c5, rfl, hb5, hs5, -⟩
  have H5 := Lib.hid (H4.out.below hb5); have R5 := Lib.hid (R4.out.below H4.out.le' hb5); have S5 := Lib.hid hs5
  clear hb5 hs5 R4
  go_upto_region 12 with (at_builtin; refine wpList_append_new _ rfl (.tmp 35) (.tmp 38) _ rfl el_byte H5.out _ 1 _ _ rfl R5.out A5 2 c5 _ rfl S5.out (one_byts _) (by omega) (by simp only [maxLen]; omega) ?_; intro A6 c6 w6 hr6 hk6 hl6 hb6; have H6 := Lib.hid hk6; have R6 := Lib.hid hr6; clear hr6 hk6 hl6 hb6)
  have e4 := bytes_four M
  have S7 := Lib.hid (Sl.fresh w6 5 1 4 (byts (bytesOf M 4)) (by rw [e4]; rfl) (by decide))
  rw [e4] at S7
  have H7 := Lib.hid (H6.out.alloc (.cells #[.int .u8 ((M : Int) / 16777216 % 256), .int .u8 ((M : Int) / 65536 % 256), .int .u8 ((M : Int) / 256 % 256), .int .u8 ((M : Int) % 256)] 5))
  have R7 := Lib.hid (R6.out.alloc H6.out.le' (.cells #[.int .u8 ((M : Int) / 16777216 % 256), .int .u8 ((M : Int) / 65536 % 256), .int .u8 ((M : Int) / 256 % 256), .int .u8 ((M : Int) % 256)] 5))
  have E4 := Lib.hid e4
  clear e4
  have o4 : ∀ u ∈ [Value.int .u8 ((M : Int) / 16777216 % 256), .int .u8 ((M : Int) / 65536 % 256), .int .u8 ((M : Int) / 256 % 256), .int .u8 ((M : Int) % 256)], u.oneCell' = true := by rw [← E4.out]; exact one_byts _
  have O4 := Lib.hid o4
  clear o4
  go_upto_region 13 with (at_builtin; refine wpList_append_new _ rfl (.tmp 40) (.tmp 52) _ rfl el_byte H7.out _ 3 _ _ rfl R7.out _ 4 4 _ rfl S7.out O4.out (by omega) (by simp only [maxLen]; omega) ?_; intro A8 c8 w8 hr8 hk8 hl8 hb8; have H8 := Lib.hid hk8; have R8 := Lib.hid hr8; clear hr8 hk8 hl8 hb8)
  have S8 := Lib.hid (Sl.nil_ w8 (fun _ => 0) 0 1 none 0 (by decide))
  go_wp2_with (at_builtin; refine wpList_append_new _ rfl (.tmp 54) (.tmp 55) _ rfl el_byte H8.out _ 7 _ _ rfl R8.out _ 0 _ [] rfl S8.out (by simp) (by omega) (by simp only [maxLen]; omega) ?_; intro A9 c9 w9 hr9 hk9 hl9 hb9; have H9 := Lib.hid hk9; have R9 := Lib.hid hr9; clear hr9 hk9 hl9 hb9)
  go_ret
  have hR : byts R = [Value.int .u8 2] ++ byts (bytesOf (N % 65536).toNat 2) ++ byts (bytesOf M 4) ++ [] := by
    rw [HBE.out]; simp only [byts, List.map_append, List.append_nil]; rfl
  have hlen : R.length = 7 := by rw [HBE.out]; simp [bytesOf_len]
  have h9 := R9.out.sl.plain
  rw [← E4.out] at h9
  rw [hlen, hR]
  exact ⟨A9, c9, rfl, H9.out.fin, h9, R9.out.new⟩

/-- Bytes of a packet with a number. -/
theorem RBytes_num (w : World) (o : Own) (τ τ2 : Nat) (r : RefS) (hf : r.Fit) (PA : Option Addr) (pn pc : Nat) (GA : Option Addr) (gn gc : Nat) (hG : Sl w o τ 1 GA gn gc (ints r.got)) (num : Int) (hn0 : 0 ≤ num) (hn1 : num ≤ 4000000000000)
    (A : Option Addr) (n c : Nat) (xs : List UInt8) (hS : Sl w o τ2 1 A n c (byts xs)) (hn : n ≤ 100000) :
    Calls Try.prog 65 #[r.val PA pn pc GA gn gc, .int .i64 num, .slice A n c] w (NewTo w 1 (refBytes r num xs).length (byts (refBytes r num xs))) := by
  by_cases hg : r.got = []
  · exact RBytes_tf w o τ τ2 r hf PA pn pc GA gn gc hG num hn0 hn1 A n c xs hS hn hg
  · exact RBytes_tt w o τ τ2 r hf PA pn pc GA gn gc hG num hn0 hn1 A n c xs hS hn hg

/-- Make: the End behind it, and what was lost. -/
def refMakeS (r : RefS) : RefS := { r with next := r.next + 1, pend := if r.pend.length < 256 then r.pend ++ [r.next] else (r.pend ++ [r.next]).tail }
def refLost (r : RefS) : List (Int × Bool) := if r.pend.length < 256 then [] else [((r.pend ++ [r.next]).headD 0, false)]

/-- What Make comes to. -/
def RMakeTo (w : World) (PA0 : Option Addr) (pn0 : Nat) (r' : RefS) (GA : Option Addr) (gn gc : Nat) (ys : List UInt8) (num : Int) (rs : List (Int × Bool)) (code : Int) (e : Ending) (w' : World) : Prop :=
  ∃ PA pn pc BA bc LA lc, e = .returned (.tuple #[r'.val PA pn pc GA gn gc, .slice BA ys.length bc, .int .i64 num, .slice LA rs.length lc, .int .i64 code]) ∧ Below w.heap.size w w' ∧ Sl w' (fun _ => 0) 0 1 PA pn pc (ints r'.pend) ∧
    Sl w' (fun _ => 0) 0 1 BA ys.length bc (byts ys) ∧ Sl w' (fun _ => 0) 0 2 LA rs.length lc (reps rs) ∧ ((PA = PA0 ∧ pn = pn0) ∨ (0 < pn → ∀ ad, PA = some ad → w.heap.size ≤ ad.block)) ∧ (0 < ys.length → ∀ ad, BA = some ad → w.heap.size ≤ ad.block)

theorem el_rrep : Elem Try.prog 116 144 2 16 (.agg #[.int .i64 0, .bool false]) := ⟨Try.underlying116, by kernel_rfl, rfl, by decide⟩

set_option maxRecDepth 100000 in
set_option maxHeartbeats 1000000 in
theorem RMake_none (w : World) (o : Own) (τ : Nat) (r : RefS) (PA : Option Addr) (pn pc : Nat) (GA : Option Addr) (gn gc : Nat) (hP : Sl w o τ 1 PA pn pc (ints r.pend)) (A : Option Addr) (c : Nat) :
    Calls Try.prog 50 #[r.val PA pn pc GA gn gc, .slice A 0 c] w (RMakeTo w PA pn r GA gn gc [] 0 [] 2) := by
  have HP := Lib.hid hP
  obtain ⟨own, other, next, pend, got⟩ := r
  clear hP
  go_enter Try.func50, Try.ntmps50
  go_wp2_with fail
  refine bodyPost_ret (v := .tuple #[.agg #[.int .i64 own, .int .i64 other, .int .i64 next, .slice PA pn pc, .slice GA gn gc], .slice none 0 0, .int .i64 0, .slice none 0 0, .int .i64 2]) (by simp [results, Try.results50, go_sem]) rfl ?_
  have hb := ((((Below.refl w.heap.size w).alloc (Nat.le_refl _) (.cells #[.int .i64 own, .int .i64 other, .int .i64 next, .slice PA pn pc, .slice GA gn gc] 27)).alloc (by simp) (.cells #[.int .i64 own, .int .i64 other, .int .i64 next, .slice PA pn pc, .slice GA gn gc] 27)))
  exact ⟨PA, pn, pc, none, 0, none, 0, rfl, hb, (HP.out.below hb).plain, Sl.nil_ _ _ _ _ _ _ (Nat.zero_le _), Sl.nil_ _ _ _ _ _ _ (Nat.zero_le _), .inl ⟨rfl, rfl⟩, fun h => absurd h (by decide)⟩

set_option maxRecDepth 100000 in
set_option maxHeartbeats 1000000 in
theorem RMake_long (w : World) (o : Own) (τ : Nat) (r : RefS) (PA : Option Addr) (pn pc : Nat) (GA : Option Addr) (gn gc : Nat) (hP : Sl w o τ 1 PA pn pc (ints r.pend)) (A : Option Addr) (n c : Nat) (hn : 1191 < n) :
    Calls Try.prog 50 #[r.val PA pn pc GA gn gc, .slice A n c] w (RMakeTo w PA pn r GA gn gc [] 0 [] 3) := by
  have HP := Lib.hid hP
  obtain ⟨own, other, next, pend, got⟩ := r
  have h0 : ((n : Int) == 0) = false := by simp; omega
  have h1 : decide ((1191 : Int) < (n : Int)) = true := by simp; omega
  clear hP
  go_enter Try.func50, Try.ntmps50
  go_wp2_with fail
  refine bodyPost_ret (v := .tuple #[.agg #[.int .i64 own, .int .i64 other, .int .i64 next, .slice PA pn pc, .slice GA gn gc], .slice none 0 0, .int .i64 0, .slice none 0 0, .int .i64 3]) (by simp [results, Try.results50, go_sem]) rfl ?_
  have hb := ((((Below.refl w.heap.size w).alloc (Nat.le_refl _) (.cells #[.int .i64 own, .int .i64 other, .int .i64 next, .slice PA pn pc, .slice GA gn gc] 27)).alloc (by simp) (.cells #[.int .i64 own, .int .i64 other, .int .i64 next, .slice PA pn pc, .slice GA gn gc] 27)))
  exact ⟨PA, pn, pc, none, 0, none, 0, rfl, hb, (HP.out.below hb).plain, Sl.nil_ _ _ _ _ _ _ (Nat.zero_le _), Sl.nil_ _ _ _ _ _ _ (Nat.zero_le _), .inl ⟨rfl, rfl⟩, fun h => absurd h (by decide)⟩
end Go.Proofs.Ythjjipcbpmdfnaa
