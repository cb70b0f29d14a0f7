/-
  WALKS of (*End).bytes.
-/
import Derived.Test.YthjjipcbpmdfnaaBitsB
import Derived.Test.YthjjipcbpmdfnaaPackA
namespace Go.Proofs.Ythjjipcbpmdfnaa
open Go.RowKit

/-- The header as it lies in memory. -/
def hdrI (f n a m : Int) : Array Value := #[.int .u64 f, .int .u64 n, .int .u64 a, .int .u64 m]

/-- In the middle of 'bytes': a Writer of tag ρ in block g, the header in block h of tag κ. -/
structure QS (w : World) (o : Own) (ρ κ τ h g : Nat) (A : Option Addr) (n c : Nat) (xs : List UInt8) (W : World) (O : Own) (L : List UInt8) (l : Nat) (F N K M : Int) : Prop where
  wr : WrAt W O ρ g L (8 * l)
  len : L.length = l
  blk : Blk W h 146 (hdrI F N K M)
  oh : O h = κ
  rk : κ ≠ ρ
  sl : Sl W O τ 1 A n c (byts xs)
  tr : τ ≠ ρ
  tk : τ ≠ κ
  st : Step [ρ, κ] w o W O

section
variable {w : World} {o : Own} {ρ κ τ h g : Nat} {A : Option Addr} {n c : Nat} {xs : List UInt8} {W : World} {O : Own} {L : List UInt8} {l : Nat} {F N K M : Int}

theorem QS.put (q : QS w o ρ κ τ h g A n c xs W O L l F N K M) (V m B : Nat) (hB : B = 8 * m) (hm : m ≤ 7) (hl : l ≤ 100) (hV : V < 2 ^ B) :
    Calls Try.prog 75 #[.pointer (some ⟨g, 0, none⟩), .int .u64 V, .int .i64 B] W fun e w' => e = .returned (.int .i64 0) ∧ ∃ O',
      Hid (QS w o ρ κ τ h g A n c xs w' O' (L ++ bytesOf V m) (l + m) F N K M) ∧ w'.cell? ⟨h, 0, none⟩ = some (.int .u64 F) ∧ w'.cell? ⟨h, 1, none⟩ = some (.int .u64 N) ∧ w'.cell? ⟨h, 2, none⟩ = some (.int .u64 K) ∧ w'.cell? ⟨h, 3, none⟩ = some (.int .u64 M) := by
  refine (Put_any W O ρ g L V m l B hB q.wr q.len (by omega) hm hV).mono ?_
  rintro e w' ⟨rfl, O', h1, h2⟩
  have hb := q.blk.step h1 (by rw [q.oh]; simpa using q.rk)
  exact ⟨rfl, O', ⟨h2, by simp [bytesOf, q.len], hb, (h1.own _ q.blk.lt).trans q.oh, q.rk, q.sl.step h1 (by simpa using q.tr), q.tr, q.tk, q.st.trans (h1.mono (by simp))⟩, hb.cell 0, hb.cell 1, hb.cell 2, hb.cell 3⟩

theorem QS.start (hS : Sl W O τ 1 A n c (byts xs)) (hb : Blk W h 146 (hdrI F N K M)) (oh : O h = κ) (rk : κ ≠ ρ) (tr : τ ≠ ρ) (tk : τ ≠ κ) (st : Step [ρ, κ] w o W O) :
    QS w o ρ κ τ h W.heap.size A n c xs (W.alloc (.cells #[.slice none 0 0, .int .i64 0] 158)) (ext O W.heap.size ρ) [] 0 F N K M := by
  have h1 := (Step.refl [] W O).alloc (.cells #[.slice none 0 0, .int .i64 0] 158) ρ
  exact ⟨⟨none, 0, 0, Blk.new _ _ _, ext_ge (Nat.le_refl _), Row.nil_ _ _ _ _ _⟩, rfl, hb.step h1 (by simp), (h1.own _ hb.lt).trans oh, rk, hS.step h1 (by simp), tr, tk, st.alloc _ _⟩
end

theorem or12 : bits BinOp.or IntKind.u64 1 2 = 3 := by decide
theorem or02 : bits BinOp.or IntKind.u64 0 2 = 2 := by decide
theorem and31 : bits BinOp.and IntKind.u64 3 1 = 1 := by decide
theorem and32 : bits BinOp.and IntKind.u64 3 2 = 2 := by decide
theorem and21 : bits BinOp.and IntKind.u64 2 1 = 0 := by decide
theorem and22 : bits BinOp.and IntKind.u64 2 2 = 2 := by decide
theorem and11 : bits BinOp.and IntKind.u64 1 1 = 1 := by decide
theorem and12 : bits BinOp.and IntKind.u64 1 2 = 0 := by decide
theorem and01 : bits BinOp.and IntKind.u64 0 1 = 0 := by decide
theorem and02 : bits BinOp.and IntKind.u64 0 2 = 0 := by decide

/-- What 'bytes' comes to: new bytes of the tag σ. -/
def BytesTo (w : World) (o : Own) (ρ κ σ : Nat) (ys : List UInt8) (e : Ending) (w' : World) : Prop :=
  ∃ A c o', e = .returned (.slice A ys.length c) ∧ Step [ρ, κ] w o w' o' ∧ Row w' o' σ 5 1 A ys.length c (byts ys)

set_option maxHeartbeats 1000000 in
theorem bytes_tt (w : World) (o : Own) (τ τ2 ρ κ σ b : Nat) (s : EndS) (hE : EndAt w o τ b s) (hs : s.Fit) (tr : τ2 ≠ ρ) (tk : τ2 ≠ κ) (rk : κ ≠ ρ) (num : Int) (hn0 : 0 ≤ num) (hn1 : num ≤ 4000000000000) (ad : Addr) (n c : Nat) (xs : List UInt8) (hS : Sl w o τ2 1 (some ad) n c (byts xs)) (hn : n ≤ 100000) (hh : s.other ≤ s.newest) :
    Calls Try.prog 62 #[.pointer (some ⟨b, 0, none⟩), .int .i64 num, .slice (some ad) n c] w (BytesTo w o ρ κ σ (bytesOf 3 1 ++ bytesOf (num % 65536).toNat 2 ++ bytesOf (s.newest % 65536).toNat 2 ++ bytesOf s.mask 4 ++ xs)) := by
  obtain ⟨A, m, cc, hb, ho, hr⟩ := hE
  obtain ⟨h0, h1, h2, h3, h4, h5, h6⟩ := endCell hb
  have hbl := hb.lt
  have q1 := hs.oth0; have q2 := hs.oth1; have q3 := hs.new1; have q4 := hs.mask1
  have hnil := fun W => run_neq_slice_nil_any (P := Try.prog) W 41 5 (some ad) n c 0 0 Try.underlying41
  have hbne : b ≠ w.heap.size := by omega
  have hbne' := hbne.symm
  obtain ⟨u, hu⟩ : ∃ u : Nat, num % 65536 = (u : Int) := ⟨(num % 65536).toNat, by omega⟩
  have hu' : (num % 65536).toNat = u := by omega
  have ul : u < 2 ^ 16 := by have : num % 65536 < 65536 := Int.emod_lt_of_pos _ (by omega); omega
  have UL := Lib.hid ul; clear ul
  rw [hu']
  obtain ⟨v, hv⟩ : ∃ v : Nat, s.newest % 65536 = (v : Int) := ⟨(s.newest % 65536).toNat, by omega⟩
  have hv' : (s.newest % 65536).toNat = v := by omega
  have vl : v < 2 ^ 16 := by have : s.newest % 65536 < 65536 := Int.emod_lt_of_pos _ (by omega); omega
  have VL := Lib.hid vl; clear vl
  rw [hv']
  have k1 := or12; have k2 := or02; have k3 := and31; have k4 := and32; have k5 := and21; have k6 := and22; have k7 := and11; have k8 := and12; have k9 := and01; have k10 := and02
  have HS := Lib.hid hS; have HB := Lib.hid hb; have HR := Lib.hid hr
  clear hS hb hr hs hu' hv'
  go_enter Try.func62, Try.ntmps62
  go_wp2_with (go_at_call 63; refine (heard_end s.other s.newest ((World.cell?_alloc_lt _ _ _ hbl).trans h3) ((World.cell?_alloc_lt _ _ _ hbl).trans h4)).mono ?_; rintro e w' ⟨rfl, k, rfl⟩)
  go_region
  all_goals go_wp2_with fail
  have hst : Step [ρ, κ] w o (((((w.alloc (.cells #[.int .u64 1, .int .u64 u, .int .u64 0, .int .u64 0] 146)).drewN (k + 1)).setCell ⟨w.heap.size, 0, none⟩ (.int .u64 3)).setCell ⟨w.heap.size, 2, none⟩ (.int .u64 v)).setCell ⟨w.heap.size, 3, none⟩ (.int .u64 s.mask)) (ext o w.heap.size κ) := ((((((Step.refl [ρ, κ] w o).alloc (.cells #[.int .u64 1, .int .u64 u, .int .u64 0, .int .u64 0] 146) κ).drewN (k + 1)).setCell (p := ⟨w.heap.size, 0, none⟩) (.inl (Nat.le_refl _)) (.int .u64 3)).setCell (p := ⟨w.heap.size, 2, none⟩) (.inl (Nat.le_refl _)) (.int .u64 v)).setCell (p := ⟨w.heap.size, 3, none⟩) (.inl (Nat.le_refl _)) (.int .u64 s.mask))
  have hbk : Blk (((((w.alloc (.cells #[.int .u64 1, .int .u64 u, .int .u64 0, .int .u64 0] 146)).drewN (k + 1)).setCell ⟨w.heap.size, 0, none⟩ (.int .u64 3)).setCell ⟨w.heap.size, 2, none⟩ (.int .u64 v)).setCell ⟨w.heap.size, 3, none⟩ (.int .u64 s.mask)) w.heap.size 146 (hdrI 3 u v s.mask) := ((((Blk.new w 146 #[.int .u64 1, .int .u64 u, .int .u64 0, .int .u64 0]).drewN (k + 1)).set_ 0 (.int .u64 3)).set_ 2 (.int .u64 v)).set_ 3 (.int .u64 s.mask)
  have hsl : Sl (((((w.alloc (.cells #[.int .u64 1, .int .u64 u, .int .u64 0, .int .u64 0] 146)).drewN (k + 1)).setCell ⟨w.heap.size, 0, none⟩ (.int .u64 3)).setCell ⟨w.heap.size, 2, none⟩ (.int .u64 v)).setCell ⟨w.heap.size, 3, none⟩ (.int .u64 s.mask)) (ext o w.heap.size κ) τ2 1 (some ad) n c (byts xs) := HS.out.step hst (by simp [tr, tk])
  have Q0 := Lib.hid (QS.start hsl hbk (ext_ge (Nat.le_refl _)) rk tr tk hst)
  clear hst hbk hsl
  have esz : (((((w.alloc (.cells #[.int .u64 1, .int .u64 u, .int .u64 0, .int .u64 0] 146)).drewN (k + 1)).setCell ⟨w.heap.size, 0, none⟩ (.int .u64 3)).setCell ⟨w.heap.size, 2, none⟩ (.int .u64 v)).setCell ⟨w.heap.size, 3, none⟩ (.int .u64 s.mask)).heap.size = w.heap.size + 1 := by simp
  rw [esz] at Q0
  refine (Q0.out.put 3 1 8 rfl (by omega) (by omega) (by decide)).mono ?_
  rintro e w1 ⟨rfl, O1, Q1, g0, g1, g2, g3⟩
  clear Q0 esz
  go_wp2_with fail
  clear g0 g1 g2 g3
  refine (Q1.out.put u 2 16 rfl (by omega) (by omega) UL.out).mono ?_
  rintro e w2 ⟨rfl, O2, Q2, g0, g1, g2, g3⟩
  clear Q1
  go_wp2_with fail
  clear g0 g1 g2 g3
  refine (Q2.out.put v 2 16 rfl (by omega) (by omega) VL.out).mono ?_
  rintro e w3 ⟨rfl, O3, Q3, g0, g1, g2, g3⟩
  clear Q2
  go_wp2_with fail
  clear g0 g1 g2 g3
  refine (Q3.out.put s.mask 4 32 rfl (by omega) (by omega) q4).mono ?_
  rintro e w4 ⟨rfl, O4, Q4, g0, g1, g2, g3⟩
  clear Q3
  go_wp2_with fail
  refine (Bytes_any w4 O4 ρ σ (w.heap.size + 1) _ 9 Q4.out.wr Q4.out.len (by omega)).mono ?_
  rintro e w9 ⟨A9, c9, rfl, h9⟩
  have HR9 := Lib.hid h9.1; have HB9 := Lib.hid h9.2.1; have HF9 := Lib.hid h9.2.2
  have hs9 := Q4.out.sl.step ((Step.refl [] _ _).below h9.2.1 σ) (by simp)
  have HS9 := Lib.hid hs9
  clear h9 hs9 g0 g1 g2 g3
  go_wp2_with (at_builtin; refine wpList_append_row _ rfl (.tmp 56) (.tmp 57) _ rfl el_byte _ σ A9 9 c9 _ rfl HR9.out _ τ2 _ n c _ rfl HS9.out (one_byts _) (by omega) (by simp only [maxLen]; omega) ?_; intro A' c' w10 hR hg hat; have HR10 := Lib.hid hR; have HG10 := Lib.hid hg; clear hR hg hat)
  go_ret
  have hl : n = xs.length := by have := HS.out.1; simpa using this.symm
  have hly : (bytesOf 3 1 ++ bytesOf u 2 ++ bytesOf v 2 ++ bytesOf s.mask 4 ++ xs).length = 9 + n := by simp [bytesOf]; omega
  refine ⟨A', c', _, by rw [hly]; rfl, (Q4.out.st.below HB9.out σ).grown HG10.out ?_ σ, ?_⟩
  · intro g hg
    refine .inl (Nat.le_trans Q4.out.st.size ?_)
    cases A9 with
    | none => simp [Value.ownBlock] at hg
    | some ad9 =>
      simp [Value.ownBlock] at hg
      subst hg
      exact HF9.out ad9 rfl
  · rw [hly]
    have := HR10.out
    simpa [byts, List.map_append] using this

set_option maxHeartbeats 1000000 in
theorem bytes_tf (w : World) (o : Own) (τ τ2 ρ κ σ b : Nat) (s : EndS) (hE : EndAt w o τ b s) (hs : s.Fit) (tr : τ2 ≠ ρ) (tk : τ2 ≠ κ) (rk : κ ≠ ρ) (num : Int) (hn0 : 0 ≤ num) (hn1 : num ≤ 4000000000000) (ad : Addr) (n c : Nat) (xs : List UInt8) (hS : Sl w o τ2 1 (some ad) n c (byts xs)) (hn : n ≤ 100000) (hh : ¬ s.other ≤ s.newest) :
    Calls Try.prog 62 #[.pointer (some ⟨b, 0, none⟩), .int .i64 num, .slice (some ad) n c] w (BytesTo w o ρ κ σ (bytesOf 1 1 ++ bytesOf (num % 65536).toNat 2 ++ xs)) := by
  obtain ⟨A, m, cc, hb, ho, hr⟩ := hE
  obtain ⟨h0, h1, h2, h3, h4, h5, h6⟩ := endCell hb
  have hbl := hb.lt
  have q1 := hs.oth0; have q2 := hs.oth1; have q3 := hs.new1; have q4 := hs.mask1
  have hnil := fun W => run_neq_slice_nil_any (P := Try.prog) W 41 5 (some ad) n c 0 0 Try.underlying41
  have hbne : b ≠ w.heap.size := by omega
  have hbne' := hbne.symm
  obtain ⟨u, hu⟩ : ∃ u : Nat, num % 65536 = (u : Int) := ⟨(num % 65536).toNat, by omega⟩
  have hu' : (num % 65536).toNat = u := by omega
  have ul : u < 2 ^ 16 := by have : num % 65536 < 65536 := Int.emod_lt_of_pos _ (by omega); omega
  have UL := Lib.hid ul; clear ul
  rw [hu']
  have k1 := or12; have k2 := or02; have k3 := and31; have k4 := and32; have k5 := and21; have k6 := and22; have k7 := and11; have k8 := and12; have k9 := and01; have k10 := and02
  have HS := Lib.hid hS; have HB := Lib.hid hb; have HR := Lib.hid hr
  clear hS hb hr hs hu'
  go_enter Try.func62, Try.ntmps62
  go_wp2_with (go_at_call 63; refine (heard_end s.other s.newest ((World.cell?_alloc_lt _ _ _ hbl).trans h3) ((World.cell?_alloc_lt _ _ _ hbl).trans h4)).mono ?_; rintro e w' ⟨rfl, k, rfl⟩)
  have hst : Step [ρ, κ] w o ((w.alloc (.cells #[.int .u64 1, .int .u64 u, .int .u64 0, .int .u64 0] 146)).drewN k) (ext o w.heap.size κ) := (((Step.refl [ρ, κ] w o).alloc (.cells #[.int .u64 1, .int .u64 u, .int .u64 0, .int .u64 0] 146) κ).drewN k)
  have hbk : Blk ((w.alloc (.cells #[.int .u64 1, .int .u64 u, .int .u64 0, .int .u64 0] 146)).drewN k) w.heap.size 146 (hdrI 1 u 0 0) := (Blk.new w 146 #[.int .u64 1, .int .u64 u, .int .u64 0, .int .u64 0]).drewN k
  have hsl : Sl ((w.alloc (.cells #[.int .u64 1, .int .u64 u, .int .u64 0, .int .u64 0] 146)).drewN k) (ext o w.heap.size κ) τ2 1 (some ad) n c (byts xs) := HS.out.step hst (by simp [tr, tk])
  have Q0 := Lib.hid (QS.start hsl hbk (ext_ge (Nat.le_refl _)) rk tr tk hst)
  clear hst hbk hsl
  have esz : ((w.alloc (.cells #[.int .u64 1, .int .u64 u, .int .u64 0, .int .u64 0] 146)).drewN k).heap.size = w.heap.size + 1 := by simp
  rw [esz] at Q0
  refine (Q0.out.put 1 1 8 rfl (by omega) (by omega) (by decide)).mono ?_
  rintro e w1 ⟨rfl, O1, Q1, g0, g1, g2, g3⟩
  clear Q0 esz
  go_wp2_with fail
  clear g0 g1 g2 g3
  refine (Q1.out.put u 2 16 rfl (by omega) (by omega) UL.out).mono ?_
  rintro e w2 ⟨rfl, O2, Q2, g0, g1, g2, g3⟩
  clear Q1
  go_wp2_with fail
  refine (Bytes_any w2 O2 ρ σ (w.heap.size + 1) _ 3 Q2.out.wr Q2.out.len (by omega)).mono ?_
  rintro e w9 ⟨A9, c9, rfl, h9⟩
  have HR9 := Lib.hid h9.1; have HB9 := Lib.hid h9.2.1; have HF9 := Lib.hid h9.2.2
  have hs9 := Q2.out.sl.step ((Step.refl [] _ _).below h9.2.1 σ) (by simp)
  have HS9 := Lib.hid hs9
  clear h9 hs9 g0 g1 g2 g3
  go_wp2_with (at_builtin; refine wpList_append_row _ rfl (.tmp 56) (.tmp 57) _ rfl el_byte _ σ A9 3 c9 _ rfl HR9.out _ τ2 _ n c _ rfl HS9.out (one_byts _) (by omega) (by simp only [maxLen]; omega) ?_; intro A' c' w10 hR hg hat; have HR10 := Lib.hid hR; have HG10 := Lib.hid hg; clear hR hg hat)
  go_ret
  have hl : n = xs.length := by have := HS.out.1; simpa using this.symm
  have hly : (bytesOf 1 1 ++ bytesOf u 2 ++ xs).length = 3 + n := by simp [bytesOf]; omega
  refine ⟨A', c', _, by rw [hly]; rfl, (Q2.out.st.below HB9.out σ).grown HG10.out ?_ σ, ?_⟩
  · intro g hg
    refine .inl (Nat.le_trans Q2.out.st.size ?_)
    cases A9 with
    | none => simp [Value.ownBlock] at hg
    | some ad9 =>
      simp [Value.ownBlock] at hg
      subst hg
      exact HF9.out ad9 rfl
  · rw [hly]
    have := HR10.out
    simpa [byts, List.map_append] using this

set_option maxHeartbeats 1000000 in
theorem bytes_ft (w : World) (o : Own) (τ τ2 ρ κ σ b : Nat) (s : EndS) (hE : EndAt w o τ b s) (hs : s.Fit) (tr : τ2 ≠ ρ) (tk : τ2 ≠ κ) (rk : κ ≠ ρ) (num : Int) (hh : s.other ≤ s.newest) :
    Calls Try.prog 62 #[.pointer (some ⟨b, 0, none⟩), .int .i64 num, .slice none 0 0] w (BytesTo w o ρ κ σ (bytesOf 2 1 ++ bytesOf (s.newest % 65536).toNat 2 ++ bytesOf s.mask 4)) := by
  obtain ⟨A, m, cc, hb, ho, hr⟩ := hE
  obtain ⟨h0, h1, h2, h3, h4, h5, h6⟩ := endCell hb
  have hbl := hb.lt
  have q1 := hs.oth0; have q2 := hs.oth1; have q3 := hs.new1; have q4 := hs.mask1
  have hnil := fun W => run_neq_slice_nil_any (P := Try.prog) W 41 5 none 0 0 0 0 Try.underlying41
  have hbne : b ≠ w.heap.size := by omega
  have hbne' := hbne.symm
  have hS : Sl w o τ2 1 none 0 0 (byts []) := Sl.nil_ _ _ _ _ _ _ (Nat.zero_le _)
  obtain ⟨v, hv⟩ : ∃ v : Nat, s.newest % 65536 = (v : Int) := ⟨(s.newest % 65536).toNat, by omega⟩
  have hv' : (s.newest % 65536).toNat = v := by omega
  have vl : v < 2 ^ 16 := by have : s.newest % 65536 < 65536 := Int.emod_lt_of_pos _ (by omega); omega
  have VL := Lib.hid vl; clear vl
  rw [hv']
  have k1 := or12; have k2 := or02; have k3 := and31; have k4 := and32; have k5 := and21; have k6 := and22; have k7 := and11; have k8 := and12; have k9 := and01; have k10 := and02
  have HS := Lib.hid hS; have HB := Lib.hid hb; have HR := Lib.hid hr
  clear hS hb hr hs hv'
  go_enter Try.func62, Try.ntmps62
  go_wp2_with (go_at_call 63; refine (heard_end s.other s.newest ((World.cell?_alloc_lt _ _ _ hbl).trans h3) ((World.cell?_alloc_lt _ _ _ hbl).trans h4)).mono ?_; rintro e w' ⟨rfl, k, rfl⟩)
  go_region
  all_goals go_wp2_with fail
  have hst : Step [ρ, κ] w o (((((w.alloc (.cells #[.int .u64 0, .int .u64 0, .int .u64 0, .int .u64 0] 146)).drewN (k + 1)).setCell ⟨w.heap.size, 0, none⟩ (.int .u64 2)).setCell ⟨w.heap.size, 2, none⟩ (.int .u64 v)).setCell ⟨w.heap.size, 3, none⟩ (.int .u64 s.mask)) (ext o w.heap.size κ) := ((((((Step.refl [ρ, κ] w o).alloc (.cells #[.int .u64 0, .int .u64 0, .int .u64 0, .int .u64 0] 146) κ).drewN (k + 1)).setCell (p := ⟨w.heap.size, 0, none⟩) (.inl (Nat.le_refl _)) (.int .u64 2)).setCell (p := ⟨w.heap.size, 2, none⟩) (.inl (Nat.le_refl _)) (.int .u64 v)).setCell (p := ⟨w.heap.size, 3, none⟩) (.inl (Nat.le_refl _)) (.int .u64 s.mask))
  have hbk : Blk (((((w.alloc (.cells #[.int .u64 0, .int .u64 0, .int .u64 0, .int .u64 0] 146)).drewN (k + 1)).setCell ⟨w.heap.size, 0, none⟩ (.int .u64 2)).setCell ⟨w.heap.size, 2, none⟩ (.int .u64 v)).setCell ⟨w.heap.size, 3, none⟩ (.int .u64 s.mask)) w.heap.size 146 (hdrI 2 0 v s.mask) := ((((Blk.new w 146 #[.int .u64 0, .int .u64 0, .int .u64 0, .int .u64 0]).drewN (k + 1)).set_ 0 (.int .u64 2)).set_ 2 (.int .u64 v)).set_ 3 (.int .u64 s.mask)
  have hsl : Sl (((((w.alloc (.cells #[.int .u64 0, .int .u64 0, .int .u64 0, .int .u64 0] 146)).drewN (k + 1)).setCell ⟨w.heap.size, 0, none⟩ (.int .u64 2)).setCell ⟨w.heap.size, 2, none⟩ (.int .u64 v)).setCell ⟨w.heap.size, 3, none⟩ (.int .u64 s.mask)) (ext o w.heap.size κ) τ2 1 none 0 0 (byts []) := HS.out.step hst (by simp [tr, tk])
  have Q0 := Lib.hid (QS.start hsl hbk (ext_ge (Nat.le_refl _)) rk tr tk hst)
  clear hst hbk hsl
  have esz : (((((w.alloc (.cells #[.int .u64 0, .int .u64 0, .int .u64 0, .int .u64 0] 146)).drewN (k + 1)).setCell ⟨w.heap.size, 0, none⟩ (.int .u64 2)).setCell ⟨w.heap.size, 2, none⟩ (.int .u64 v)).setCell ⟨w.heap.size, 3, none⟩ (.int .u64 s.mask)).heap.size = w.heap.size + 1 := by simp
  rw [esz] at Q0
  refine (Q0.out.put 2 1 8 rfl (by omega) (by omega) (by decide)).mono ?_
  rintro e w1 ⟨rfl, O1, Q1, g0, g1, g2, g3⟩
  clear Q0 esz
  go_wp2_with fail
  clear g0 g1 g2 g3
  refine (Q1.out.put v 2 16 rfl (by omega) (by omega) VL.out).mono ?_
  rintro e w2 ⟨rfl, O2, Q2, g0, g1, g2, g3⟩
  clear Q1
  go_wp2_with fail
  clear g0 g1 g2 g3
  refine (Q2.out.put s.mask 4 32 rfl (by omega) (by omega) q4).mono ?_
  rintro e w3 ⟨rfl, O3, Q3, g0, g1, g2, g3⟩
  clear Q2
  go_wp2_with fail
  refine (Bytes_any w3 O3 ρ σ (w.heap.size + 1) _ 7 Q3.out.wr Q3.out.len (by omega)).mono ?_
  rintro e w9 ⟨A9, c9, rfl, h9⟩
  have HR9 := Lib.hid h9.1; have HB9 := Lib.hid h9.2.1; have HF9 := Lib.hid h9.2.2
  have hs9 := Q3.out.sl.step ((Step.refl [] _ _).below h9.2.1 σ) (by simp)
  have HS9 := Lib.hid hs9
  clear h9 hs9 g0 g1 g2 g3
  go_wp2_with (at_builtin; refine wpList_append_row _ rfl (.tmp 56) (.tmp 57) _ rfl el_byte _ σ A9 7 c9 _ rfl HR9.out _ τ2 _ 0 0 _ rfl HS9.out (one_byts _) (by omega) (by simp only [maxLen]; omega) ?_; intro A' c' w10 hR hg hat; have HR10 := Lib.hid hR; have HG10 := Lib.hid hg; clear hR hg hat)
  go_ret
  have hl : True := trivial
  have hly : (bytesOf 2 1 ++ bytesOf v 2 ++ bytesOf s.mask 4).length = 7 + 0 := by simp [bytesOf]
  refine ⟨A', c', _, by rw [hly]; rfl, (Q3.out.st.below HB9.out σ).grown HG10.out ?_ σ, ?_⟩
  · intro g hg
    refine .inl (Nat.le_trans Q3.out.st.size ?_)
    cases A9 with
    | none => simp [Value.ownBlock] at hg
    | some ad9 =>
      simp [Value.ownBlock] at hg
      subst hg
      exact HF9.out ad9 rfl
  · rw [hly]
    have := HR10.out
    simpa [byts, List.map_append] using this

set_option maxHeartbeats 1000000 in
theorem bytes_ff (w : World) (o : Own) (τ τ2 ρ κ σ b : Nat) (s : EndS) (hE : EndAt w o τ b s) (hs : s.Fit) (tr : τ2 ≠ ρ) (tk : τ2 ≠ κ) (rk : κ ≠ ρ) (num : Int) (hh : ¬ s.other ≤ s.newest) :
    Calls Try.prog 62 #[.pointer (some ⟨b, 0, none⟩), .int .i64 num, .slice none 0 0] w (BytesTo w o ρ κ σ (bytesOf 0 1)) := by
  obtain ⟨A, m, cc, hb, ho, hr⟩ := hE
  obtain ⟨h0, h1, h2, h3, h4, h5, h6⟩ := endCell hb
  have hbl := hb.lt
  have q1 := hs.oth0; have q2 := hs.oth1; have q3 := hs.new1; have q4 := hs.mask1
  have hnil := fun W => run_neq_slice_nil_any (P := Try.prog) W 41 5 none 0 0 0 0 Try.underlying41
  have hbne : b ≠ w.heap.size := by omega
  have hbne' := hbne.symm
  have hS : Sl w o τ2 1 none 0 0 (byts []) := Sl.nil_ _ _ _ _ _ _ (Nat.zero_le _)
  have k1 := or12; have k2 := or02; have k3 := and31; have k4 := and32; have k5 := and21; have k6 := and22; have k7 := and11; have k8 := and12; have k9 := and01; have k10 := and02
  have HS := Lib.hid hS; have HB := Lib.hid hb; have HR := Lib.hid hr
  clear hS hb hr hs
  go_enter Try.func62, Try.ntmps62
  go_wp2_with (go_at_call 63; refine (heard_end s.other s.newest ((World.cell?_alloc_lt _ _ _ hbl).trans h3) ((World.cell?_alloc_lt _ _ _ hbl).trans h4)).mono ?_; rintro e w' ⟨rfl, k, rfl⟩)
  have hst : Step [ρ, κ] w o ((w.alloc (.cells #[.int .u64 0, .int .u64 0, .int .u64 0, .int .u64 0] 146)).drewN k) (ext o w.heap.size κ) := (((Step.refl [ρ, κ] w o).alloc (.cells #[.int .u64 0, .int .u64 0, .int .u64 0, .int .u64 0] 146) κ).drewN k)
  have hbk : Blk ((w.alloc (.cells #[.int .u64 0, .int .u64 0, .int .u64 0, .int .u64 0] 146)).drewN k) w.heap.size 146 (hdrI 0 0 0 0) := (Blk.new w 146 #[.int .u64 0, .int .u64 0, .int .u64 0, .int .u64 0]).drewN k
  have hsl : Sl ((w.alloc (.cells #[.int .u64 0, .int .u64 0, .int .u64 0, .int .u64 0] 146)).drewN k) (ext o w.heap.size κ) τ2 1 none 0 0 (byts []) := HS.out.step hst (by simp [tr, tk])
  have Q0 := Lib.hid (QS.start hsl hbk (ext_ge (Nat.le_refl _)) rk tr tk hst)
  clear hst hbk hsl
  have esz : ((w.alloc (.cells #[.int .u64 0, .int .u64 0, .int .u64 0, .int .u64 0] 146)).drewN k).heap.size = w.heap.size + 1 := by simp
  rw [esz] at Q0
  refine (Q0.out.put 0 1 8 rfl (by omega) (by omega) (by decide)).mono ?_
  rintro e w1 ⟨rfl, O1, Q1, g0, g1, g2, g3⟩
  clear Q0 esz
  go_wp2_with fail
  refine (Bytes_any w1 O1 ρ σ (w.heap.size + 1) _ 1 Q1.out.wr Q1.out.len (by omega)).mono ?_
  rintro e w9 ⟨A9, c9, rfl, h9⟩
  have HR9 := Lib.hid h9.1; have HB9 := Lib.hid h9.2.1; have HF9 := Lib.hid h9.2.2
  have hs9 := Q1.out.sl.step ((Step.refl [] _ _).below h9.2.1 σ) (by simp)
  have HS9 := Lib.hid hs9
  clear h9 hs9 g0 g1 g2 g3
  go_wp2_with (at_builtin; refine wpList_append_row _ rfl (.tmp 56) (.tmp 57) _ rfl el_byte _ σ A9 1 c9 _ rfl HR9.out _ τ2 _ 0 0 _ rfl HS9.out (one_byts _) (by omega) (by simp only [maxLen]; omega) ?_; intro A' c' w10 hR hg hat; have HR10 := Lib.hid hR; have HG10 := Lib.hid hg; clear hR hg hat)
  go_ret
  have hl : True := trivial
  have hly : (bytesOf 0 1).length = 1 + 0 := by simp [bytesOf]
  refine ⟨A', c', _, by rw [hly]; rfl, (Q1.out.st.below HB9.out σ).grown HG10.out ?_ σ, ?_⟩
  · intro g hg
    refine .inl (Nat.le_trans Q1.out.st.size ?_)
    cases A9 with
    | none => simp [Value.ownBlock] at hg
    | some ad9 =>
      simp [Value.ownBlock] at hg
      subst hg
      exact HF9.out ad9 rfl
  · rw [hly]
    have := HR10.out
    simpa [byts, List.map_append] using this

end Go.Proofs.Ythjjipcbpmdfnaa
