/-
  WALK of packetOf; what lies in memory in ChannelWrong.
-/
import Derived.Test.YthjjipcbpmdfnaaChWrA
import Derived.Test.YthjjipcbpmdfnaaChWM
namespace Go.Proofs.Ythjjipcbpmdfnaa
open Go.RowKit

set_option maxRecDepth 100000 in
set_option maxHeartbeats 1000000 in
theorem packetOf_any (w : World) {o : Own} {τ : Nat} {A : Option Addr} {k c : Nat} {xs : List UInt8} (hS : Sl w o τ 1 A k c (byts xs)) (hk : k ≤ 100000) (n : Nat) (hn : n < 256) :
    Calls Try.prog 29 #[.int .i64 n, .slice A k c] w fun e w' => ∃ A' c', e = .returned (.slice A' (3 + k) c') ∧ Below w.heap.size w w' ∧ Sl w' (ext o w.heap.size 50) 50 1 A' (3 + k) c' (byts (pktB n xs)) := by
  have q1 : (n : Int) / 256 % 256 = 0 := by omega
  have q2 : IntKind.u8.wrap ((n : Int) / 256) = 0 := by simp [IntKind.wrap, IntKind.bits, IntKind.signed]; omega
  have q3 : IntKind.u8.wrap (n : Int) = n := by simp [IntKind.wrap, IntKind.bits, IntKind.signed]; omega
  have hns := (NS.refl w).alloc (.cells #[.int .u8 1, .int .u8 0, .int .u8 (n : Int)] 5)
  have hr0 := NRow.made (B := w.heap.size) (w := w) (cs := #[.int .u8 1, .int .u8 0, .int .u8 (n : Int)]) (Nat.le_refl _) 5 1 3 rfl (by decide) 3 (Nat.le_refl _)
  have hs1 := hS.below (w' := w.alloc (.cells #[.int .u8 1, .int .u8 0, .int .u8 (n : Int)] 5)) ((Below.refl _ _).alloc (Nat.le_refl _) _)
  have HNS := Lib.hid hns; have HR0 := Lib.hid hr0; have HS1 := Lib.hid hs1
  clear hns hr0 hs1 hS
  go_enter Try.func29, Try.ntmps29
  go_wp2_with (at_builtin; refine wpList_append_new _ rfl (.tmp 10) (.tmp 11) _ rfl el_byte HNS.out _ 3 3 _ rfl HR0.out A k c _ rfl HS1.out (one_byts _) (by omega) (by unfold maxLen; omega) ?_; intro A5 c5 w5 hr5 hk5 _ _; have HR5 := Lib.hid hr5; have HK5 := Lib.hid hk5; clear hr5 hk5)
  go_ret
  refine ⟨A5, c5, rfl, HK5.out.fin, ?_⟩
  have e1 : (UInt8.ofNat (n / 256)).toNat = 0 := by rw [show n / 256 = 0 by omega]; rfl
  have e2 : (UInt8.ofNat n).toNat = n := by simp; omega
  have hb : byts (pktB n xs) = #[Value.int .u8 1, .int .u8 0, .int .u8 (n : Int)].toList ++ byts xs := by
    unfold pktB
    simp only [byts, List.map_append, List.map_cons, List.map_nil, e1, e2]
    rfl
  rw [hb]
  exact HR5.out.sl.plain.tag HR5.out.new o 50

theorem zero_bytes (m : Nat) : Builtin.zeroCells #[Value.int .u8 0] m = Array.replicate m (Value.int .u8 0) := by
  apply Array.ext
  · simp [Builtin.zeroCells]
  · intro i h1 h2
    simp [Builtin.zeroCells, Nat.mod_one]

/-- append(s, make([]byte, m)...), in one operation. -/
theorem run_append_zeros_row {P : Program} (w : World) {t tn e : TypeId} (ty : TypeId) (he : Elem P t e 1 1 (.int .u8 0)) (hu : P.underlying tn = some (.int .i64)) (o : Own) (τ : Nat) {A : Option Addr} {n c m : Nat} {xs : List Value} (hR : Row w o τ e 1 A n c xs) (hn : 0 < n) (hm : 0 < m) (hb : n + m ≤ 1000000) :
    ∃ A' c' w', (Builtin.append_ #[t, tn] ty #[.slice A n c, .int .i64 (m : Int)]).run P w = .ok (.slice A' (n + m) c') w' ∧ Row w' (ext o w.heap.size τ) τ e 1 A' (n + m) c' (xs ++ List.replicate m (.int .u8 0)) ∧
      w.grownBy w' (Value.slice A n c).ownBlock ∧ (∀ ad, A' = some ad → (∃ ad0, A = some ad0 ∧ ad.block = ad0.block) ∨ ad.block = w.heap.size) := by
  obtain ⟨i, hi, hz0, hz1, hz2⟩ := info_parts he.info
  obtain ⟨g, cur, rfl, hog, hB, hnc, hcm, hcs, htk⟩ := hR.form hn
  have hw : IntKind.i64.wrap (m : Int) = (m : Int) := IntWalk.i64_in _ (by omega)
  have hxl : xs.length = n := by have := hR.len; omega
  have hlen : (xs ++ List.replicate m (Value.int .u8 0)).length = (n + m) * 1 := by simp [hxl]
  have hneg : ¬ (m : Int) < 0 := by omega
  have hbig : ¬ (281474976710656 : Int) < (m : Int) := by omega
  have hm0 : ¬ m = 0 := by omega
  rcases Nat.lt_or_ge c (n + m) with hroom | hroom
  · have holds : ∀ j u, xs[j]? = some u → w.drew.cell? ((⟨g, 0, none⟩ : Addr).add j) = some u := fun j u hu => by
      rw [Addr.add_lit, Nat.zero_add]
      show w.cell? ⟨g, j, none⟩ = some u
      rw [hB.cell, ← Array.getElem?_toList]
      rw [← htk] at hu
      rw [List.getElem?_take] at hu
      split at hu
      · exact hu
      · cases hu
    have hf := run_firstCells_some (P := P) w.drew 1 n ⟨g, 0, none⟩ n c xs (by omega) holds
    have hn' : ¬ (n + m ≤ c) := by omega
    have h63' : ¬ (9223372036854775807 < ((n : Int) + (m : Int))) := by omega
    have hcap := nextslicecap_le hroom
    have h48' : ¬ (281474976710656 < Builtin.nextslicecap (n + m) c) := by omega
    have hrun : (Builtin.append_ #[t, tn] ty #[.slice (some ⟨g, 0, none⟩) n c, .int .i64 (m : Int)]).run P w = .ok (.slice (some ⟨w.heap.size, 0, none⟩) (n + m) (grownCap w (n + m) c e)) (w.drew.alloc (.cells (xs.toArray ++ Array.replicate m (Value.int .u8 0) ++ Array.replicate (grownCap w (n + m) c e - (n + m)) (Value.int .u8 0)) e)) := by
      simp [Builtin.append_, run_underlying he.under, run_underlying hu, sizeOf, typeInfo, zeroValue, hi, hz0, hz1, hz2, asInt, asIntOf, hw, hneg, hbig, hm0, hn', h63', h48', Question.forced, hf, newRow, grownCap, Value.cells, zero_bytes]
    have hge := grownCap_ge w (n + m) c e
    refine ⟨_, _, _, hrun, ⟨⟨hlen, .inr ⟨w.heap.size, _, _, rfl, Nat.zero_le _, heap_alloc_new w.drew _, hge, grownCap_le_maxLen w (n + m) c e (by simp only [maxLen]; omega), ?_, ?_⟩⟩, fun ad ha => ?_⟩, ⟨rfl, rfl, rfl, by simp, fun k hk _ => heap_alloc_old w.drew _ (by simpa using hk)⟩, fun ad ha => .inr ?_⟩
    · simp [hxl]; omega
    · rw [← hlen]
      simp only [Array.toList_append, Array.toList_replicate]
      exact List.take_left
    · injection ha with ha; subst ha; exact ext_ge (Nat.le_refl _)
    · injection ha with ha; subst ha; rfl
  · have hst := run_storeCells_at P g n e (List.replicate m (Value.int .u8 0)) 0 cur w hB (by simp; omega) (fun v hv => by rw [List.eq_of_mem_replicate hv]; rfl)
    simp only [Nat.add_zero] at hst
    have hrun : (Builtin.append_ #[t, tn] ty #[.slice (some ⟨g, 0, none⟩) n c, .int .i64 (m : Int)]).run P w = .ok (.slice (some ⟨g, 0, none⟩) (n + m) c) (w.setRow g (cur.toList.take n ++ List.replicate m (Value.int .u8 0) ++ cur.toList.drop (n + (List.replicate m (Value.int IntKind.u8 0)).length)).toArray) := by
      simp [Builtin.append_, run_underlying he.under, run_underlying hu, sizeOf, typeInfo, zeroValue, hi, hz0, hz1, hz2, asInt, asIntOf, hw, hneg, hbig, hm0, hroom, Value.cells, zero_bytes, Addr.add_lit, hst]
    refine ⟨_, _, _, hrun, ⟨⟨hlen, .inr ⟨g, c, _, rfl, Nat.zero_le _, setRow_heap w g cur _ e _ hB, hroom, hcm, ?_, ?_⟩⟩, fun ad ha => ?_⟩, ⟨rfl, rfl, rfl, by simp, fun k hk hk' => setRow_other w g k _ (fun e => hk' (by simp [Value.ownBlock, e]))⟩, fun ad ha => .inl ⟨⟨g, 0, none⟩, rfl, ?_⟩⟩
    · simp; omega
    · rw [← hlen]
      rw [Nat.mul_one] at htk
      simp only [htk]
      exact List.take_left
    · injection ha with ha; subst ha
      exact (ext_lt hB.lt).trans hog
    · injection ha with ha; subst ha; rfl

theorem Sl.ofBlk {W : World} {g B : Nat} {t : TypeId} {cs : Array Value} (h : Blk W g t cs) (hg : B ≤ g) (o : Own) (τ n : Nat) (hn : cs.size = n) (hm : n ≤ maxLen) : Sl W (ext o B τ) τ 1 (some ⟨g, 0, none⟩) n n cs.toList :=
  ⟨by simpa using hn, Nat.le_refl _, hm, fun _ => ⟨g, 0, rfl, ext_ge hg, h.lt, fun j u hj => by rw [Nat.zero_add, h.cell]; simpa using hj⟩⟩

theorem Blk.ofSl {W : World} {g B : Nat} {t : TypeId} {cs : Array Value} (h : Blk W g t cs) (hg : B ≤ g) (o : Own) {n : Nat} {xs : List UInt8} (hx : cs.toList = byts xs) (hn : cs.size = n) (hm : n ≤ maxLen) : Sl W (ext o B 51) 51 1 (some ⟨g, 0, none⟩) n n (byts xs) := hx ▸ Sl.ofBlk h hg o 51 n hn hm

/-- The eight bad bodies in memory. -/
theorem bads (w3 : World) (o : Own) : ∃ (A5 : Option Addr) (c5 : Nat) (w8 : World),
    ((Builtin.append_ #[41, 3] 41 #[.slice (some ⟨w3.heap.size + 5, 0, none⟩) 4 4, .int .i64 1025]).run Try.prog ((((((w3.alloc (.cells #[.int .u8 0] 5)).alloc (.cells #[.int .u8 0, .int .u8 1, .int .u8 0] 5)).alloc (.cells #[.int .u8 0, .int .u8 0, .int .u8 0, .int .u8 1] 5)).alloc (.cells #[.int .u8 0, .int .u8 64, .int .u8 0, .int .u8 0] 5)).alloc (.cells #[.int .u8 255, .int .u8 255, .int .u8 0, .int .u8 0] 5)).alloc (.cells #[.int .u8 0, .int .u8 1, .int .u8 4, .int .u8 1] 5)) = .ok (.slice A5 1029 c5) w8) ∧
    ∀ LL, ∃ W, W = (((w8.alloc (.cells #[.int .u8 0, .int .u8 1, .int .u8 255, .int .u8 255, .int .u8 1] 5)).alloc (.cells #[.int .u8 100, .int .u8 0, .int .u8 0, .int .u8 0] 5)).alloc (.cells LL 41)) ∧ Below w3.heap.size w3 W ∧
      Sl W (ext o w3.heap.size 51) 51 1 (some ⟨w3.heap.size, 0, none⟩) 1 1 (byts (badB 0)) ∧
      Sl W (ext o w3.heap.size 51) 51 1 (some ⟨w3.heap.size + 1, 0, none⟩) 3 3 (byts (badB 1)) ∧
      Sl W (ext o w3.heap.size 51) 51 1 (some ⟨w3.heap.size + 2, 0, none⟩) 4 4 (byts (badB 2)) ∧
      Sl W (ext o w3.heap.size 51) 51 1 (some ⟨w3.heap.size + 3, 0, none⟩) 4 4 (byts (badB 3)) ∧
      Sl W (ext o w3.heap.size 51) 51 1 (some ⟨w3.heap.size + 4, 0, none⟩) 4 4 (byts (badB 4)) ∧
      Sl W (ext o w3.heap.size 51) 51 1 A5 1029 c5 (byts (badB 5)) ∧
      Sl W (ext o w3.heap.size 51) 51 1 (some ⟨w8.heap.size, 0, none⟩) 5 5 (byts (badB 6)) ∧
      Sl W (ext o w3.heap.size 51) 51 1 (some ⟨w8.heap.size + 1, 0, none⟩) 4 4 (byts (badB 7)) := by
  obtain ⟨V5, hV5⟩ : ∃ V, V = ((((w3.alloc (.cells #[.int .u8 0] 5)).alloc (.cells #[.int .u8 0, .int .u8 1, .int .u8 0] 5)).alloc (.cells #[.int .u8 0, .int .u8 0, .int .u8 0, .int .u8 1] 5)).alloc (.cells #[.int .u8 0, .int .u8 64, .int .u8 0, .int .u8 0] 5)).alloc (.cells #[.int .u8 255, .int .u8 255, .int .u8 0, .int .u8 0] 5) := ⟨_, rfl⟩
  have z5 : V5.heap.size = w3.heap.size + 5 := by rw [hV5]; simp
  have b0 : Blk V5 w3.heap.size 5 #[.int .u8 0] := by rw [hV5]; exact (((((Blk.new w3 _ _).alloc _).alloc _).alloc _).alloc _)
  have b1 : Blk V5 (w3.heap.size + 1) 5 #[.int .u8 0, .int .u8 1, .int .u8 0] := by
    rw [hV5]
    have := Blk.new (w3.alloc (.cells #[.int .u8 0] 5)) 5 #[.int .u8 0, .int .u8 1, .int .u8 0]
    rw [World.size_alloc] at this
    exact ((this.alloc _).alloc _).alloc _
  have b2 : Blk V5 (w3.heap.size + 2) 5 #[.int .u8 0, .int .u8 0, .int .u8 0, .int .u8 1] := by
    rw [hV5]
    have := Blk.new ((w3.alloc (.cells #[.int .u8 0] 5)).alloc (.cells #[.int .u8 0, .int .u8 1, .int .u8 0] 5)) 5 #[.int .u8 0, .int .u8 0, .int .u8 0, .int .u8 1]
    rw [World.size_alloc, World.size_alloc] at this
    exact (this.alloc _).alloc _
  have b3 : Blk V5 (w3.heap.size + 3) 5 #[.int .u8 0, .int .u8 64, .int .u8 0, .int .u8 0] := by
    rw [hV5]
    have := Blk.new (((w3.alloc (.cells #[.int .u8 0] 5)).alloc (.cells #[.int .u8 0, .int .u8 1, .int .u8 0] 5)).alloc (.cells #[.int .u8 0, .int .u8 0, .int .u8 0, .int .u8 1] 5)) 5 #[.int .u8 0, .int .u8 64, .int .u8 0, .int .u8 0]
    rw [World.size_alloc, World.size_alloc, World.size_alloc] at this
    exact this.alloc _
  have b4 : Blk V5 (w3.heap.size + 4) 5 #[.int .u8 255, .int .u8 255, .int .u8 0, .int .u8 0] := by
    rw [hV5]
    have := Blk.new ((((w3.alloc (.cells #[.int .u8 0] 5)).alloc (.cells #[.int .u8 0, .int .u8 1, .int .u8 0] 5)).alloc (.cells #[.int .u8 0, .int .u8 0, .int .u8 0, .int .u8 1] 5)).alloc (.cells #[.int .u8 0, .int .u8 64, .int .u8 0, .int .u8 0] 5)) 5 #[.int .u8 255, .int .u8 255, .int .u8 0, .int .u8 0]
    rw [World.size_alloc, World.size_alloc, World.size_alloc, World.size_alloc] at this
    exact this
  have hns5 : NS w3.heap.size w3 V5 := by rw [hV5]; exact (((((NS.refl w3).alloc _).alloc _).alloc _).alloc _).alloc _
  rw [← hV5]
  clear hV5
  have hns6 := hns5.alloc (.cells #[.int .u8 0, .int .u8 1, .int .u8 4, .int .u8 1] 5)
  have hr6 := NRow.made (B := w3.heap.size) (w := V5) (cs := #[.int .u8 0, .int .u8 1, .int .u8 4, .int .u8 1]) (by omega) 5 1 4 rfl (by decide) 4 (Nat.le_refl _)
  rw [z5] at hr6
  obtain ⟨A5, c5, w8, hrun, hr8, hg8, -⟩ := run_append_zeros_row (P := Try.prog) (V5.alloc (.cells #[.int .u8 0, .int .u8 1, .int .u8 4, .int .u8 1] 5)) (m := 1025) 41 el_byte Try.underlying3 (Nw w3.heap.size) 1 hr6 (by decide) (by decide) (by decide)
  rw [Nw_ext hns6.le'] at hr8
  have hns8 := hns6.app hr6 hg8
  refine ⟨A5, c5, w8, hrun, fun LL => ⟨_, rfl, ?_⟩⟩
  obtain ⟨W, hW⟩ : ∃ W, W = (((w8.alloc (.cells #[.int .u8 0, .int .u8 1, .int .u8 255, .int .u8 255, .int .u8 1] 5)).alloc (.cells #[.int .u8 100, .int .u8 0, .int .u8 0, .int .u8 0] 5)).alloc (.cells LL 41)) := ⟨_, rfl⟩
  have up : ∀ {g : Nat} {cs : Array Value}, Blk V5 g 5 cs → g < w3.heap.size + 5 → Blk W g 5 cs := fun {g cs} h hg => by
    rw [hW]
    refine ((((h.alloc _).grown hg8 ?_).alloc _).alloc _).alloc _
    simp [Value.ownBlock]; omega
  have b6 : Blk W w8.heap.size 5 #[.int .u8 0, .int .u8 1, .int .u8 255, .int .u8 255, .int .u8 1] := by rw [hW]; exact ((Blk.new w8 _ _).alloc _).alloc _
  have b7 : Blk W (w8.heap.size + 1) 5 #[.int .u8 100, .int .u8 0, .int .u8 0, .int .u8 0] := by
    rw [hW]
    have := Blk.new (w8.alloc (.cells #[.int .u8 0, .int .u8 1, .int .u8 255, .int .u8 255, .int .u8 1] 5)) 5 #[.int .u8 100, .int .u8 0, .int .u8 0, .int .u8 0]
    rw [World.size_alloc] at this
    exact this.alloc _
  have hnsW : NS w3.heap.size w3 W := by rw [hW]; exact ((hns8.alloc _).alloc _).alloc _
  rw [← hW]
  have hz8 : w3.heap.size ≤ w8.heap.size := hns8.le'
  have s5 : Sl W (fun _ => 0) 0 1 A5 1029 c5 (byts (badB 5)) := by
    have hb8 : Below w8.heap.size w8 W := by
      have := ((((NS.refl w8).alloc (.cells #[.int .u8 0, .int .u8 1, .int .u8 255, .int .u8 255, .int .u8 1] 5)).alloc (.cells #[.int .u8 100, .int .u8 0, .int .u8 0, .int .u8 0] 5)).alloc (.cells LL 41))
      rw [← hW] at this
      exact this.fin
    have := (hr8.sl.plain).below hb8
    have e : byts (badB 5) = (#[Value.int .u8 0, .int .u8 1, .int .u8 4, .int .u8 1].toList.take (4 * 1)) ++ List.replicate 1025 (.int .u8 0) := by
      unfold badB
      rw [if_neg (by decide), if_neg (by decide), if_neg (by decide), if_neg (by decide), if_neg (by decide), if_pos rfl]
      simp only [byts, List.map_append, List.map_replicate]
      rfl
    rw [e]
    exact this
  refine ⟨hnsW.fin, ?_, ?_, ?_, ?_, ?_, s5.tag (NRow.new hr8) o 51, ?_, ?_⟩
  · exact (up b0 (by omega)).ofSl (Nat.le_refl _) o rfl rfl (by decide)
  · exact (up b1 (by omega)).ofSl (by omega) o rfl rfl (by decide)
  · exact (up b2 (by omega)).ofSl (by omega) o rfl rfl (by decide)
  · exact (up b3 (by omega)).ofSl (by omega) o rfl rfl (by decide)
  · exact (up b4 (by omega)).ofSl (by omega) o rfl rfl (by decide)
  · exact b6.ofSl (by omega) o rfl rfl (by decide)
  · exact b7.ofSl (by omega) o rfl rfl (by decide)
end Go.Proofs.Ythjjipcbpmdfnaa
