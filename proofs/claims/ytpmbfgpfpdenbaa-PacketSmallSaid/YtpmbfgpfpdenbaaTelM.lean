/-
  Joined: OrdersB, MakeN, TelA, TelB, TelC, TelO, TelP, TelR.
-/
import Derived.Test.YtpmbfgpfpdenbaaOrders
import Derived.Test.YtpmbfgpfpdenbaaPackJ
import Derived.Test.YtpmbfgpfpdenbaaBytB
import Derived.Test.YtpmbfgpfpdenbaaWalkJ
import Derived.StillTailTactics
import Derived.Deep.CutBlock
import Derived.Test.YtpmbfgpfpdenbaaRefN
import Derived.Test.YtpmbfgpfpdenbaaWalkE
import Derived.Test.YtpmbfgpfpdenbaaHonestA
import Derived.Test.YtpmbfgpfpdenbaaRefD

/- A region that draws its order: another condition from here on. -/
namespace Go.Proofs.Ytpmbfgpfpdenbaa
open Go

section
variable {P : Program} {ops : Array Oper} {Q : Exit → Act → World → Prop} {md : Region.Mode} {S0 S1 : World → Prop} {st st1 : Nat}
/-- What is shown under a condition that is kept till 'st' holds with no condition. -/
theorem wpAnyG_weaken : ∀ (fuel : Nat) (listed : Array Bool) (a : Act) (w : World), wpAnyG P md ops Q S0 st fuel listed a w → wpAnyG P md ops Q (fun _ => True) st1 fuel listed a w
  | 0, _, _, _, h => h
  | fuel + 1, _, _, _, h => ⟨h.1, fun i hi => wpOp_mono (fun a' w' h' => ⟨.inr trivial, wpAnyG_weaken fuel _ a' w' h'.2⟩) (h.2 i hi)⟩
/-- Once 'st' has come up, the condition is of no account. -/
theorem wpAnyG_after : ∀ (fuel : Nat) (listed : Array Bool) (a : Act) (w : World), listed.getD st false = true → wpAnyG P md ops Q S1 st1 fuel listed a w → wpAnyG P md ops Q S0 st fuel listed a w
  | 0, _, _, _, _, h => h
  | fuel + 1, listed, _, _, hl, h => by
    have key : ∀ i, (listed.setIfInBounds i true).getD st false = true := fun i => by
      by_cases hi : i = st
      · subst hi
        have hlt : i < listed.size := by
          rcases Nat.lt_or_ge i listed.size with h1 | h1
          · exact h1
          · simp [Array.getElem?_eq_none h1] at hl
        simp [hlt]
      · rw [getD_set_far hi]; exact hl
    exact ⟨h.1, fun i hi => wpOp_mono (fun a' w' h' => ⟨.inl (key i), wpAnyG_after fuel _ a' w' (key i) h'.2⟩) (h.2 i hi)⟩
end
end Go.Proofs.Ytpmbfgpfpdenbaa

/- WALKS of Make at bodies that it rejects. -/
namespace Go.Proofs.Ytpmbfgpfpdenbaa
open Go.RowKit

set_option maxHeartbeats 400000 in
theorem Make_arg (w : World) (o : Own) (τ b : Nat) (s : EndS) (hE : EndAt w o τ b s) (A : Option Addr) (c : Nat) :
    Calls Try.prog 24 #[.pointer (some ⟨b, 0, none⟩), .slice A 0 c] w fun e w' => e = .returned (.tuple #[.slice none 0 0, .int .i64 0, .slice none 0 0, .int .i64 2]) ∧ w = w' := by
  obtain ⟨A0, m, cc, hb, ho, hr⟩ := hE
  obtain ⟨h0, -⟩ := endCell hb
  clear hb ho hr
  go_enter Try.func24, Try.ntmps24
  go_wp2_with (go_at_call 37; refine (there_end h0).mono ?_; rintro e w' ⟨rfl, rfl⟩)
  refine bodyPost_ret (results_tmp4 Try.results24 _ _ _) rfl ?_
  exact ⟨rfl, rfl⟩

set_option maxHeartbeats 400000 in
theorem Make_long (w : World) (o : Own) (τ b : Nat) (s : EndS) (hE : EndAt w o τ b s) (A : Option Addr) (n c : Nat) (hn : 1191 < n) :
    Calls Try.prog 24 #[.pointer (some ⟨b, 0, none⟩), .slice A n c] w fun e w' => e = .returned (.tuple #[.slice none 0 0, .int .i64 0, .slice none 0 0, .int .i64 3]) ∧ w = w' := by
  obtain ⟨A0, m, cc, hb, ho, hr⟩ := hE
  obtain ⟨h0, -⟩ := endCell hb
  have h1 : ((n : Int) == 0) = false := by simp; omega
  have h2 : decide ((1191 : Int) < (n : Int)) = true := by simp; omega
  clear hb ho hr
  go_enter Try.func24, Try.ntmps24
  go_wp2_with (go_at_call 37; refine (there_end h0).mono ?_; rintro e w' ⟨rfl, rfl⟩)
  refine bodyPost_ret (results_tmp4 Try.results24 _ _ _) rfl ?_
  exact ⟨rfl, rfl⟩
end Go.Proofs.Ytpmbfgpfpdenbaa

/- WALKS of Op.body, and of chosen at spoilt packets (marcheslaw19). -/
namespace Go.Proofs.Ytpmbfgpfpdenbaa
open Go.RowKit

theorem run_headA (P : Program) (t e : TypeId) (z : Value) (sz b : Nat) (hu : P.underlying t = some (.slice e)) (hs : (P.info? e).map (fun i => (i.zero, i.size, i.bytes)) = some (some z, sz, b)) (A : Option Addr) (n c k : Nat) (hk : k ≤ c) (W : World) :
    (Instr.slice t (.slice A n c) none (some (.int .i64 (k : Int))) none).run P W = .ok (.slice A k c) W := by
  obtain ⟨i, h1, h2, h3, h4⟩ := info_parts hs
  have ha : A.map (fun a : Addr => a.add 0) = A := by cases A <;> rfl
  simp [Instr.slice, Instr.sliceBounds, Instr.sliceBound, asIntOf, run_underlying hu, sizeOf, typeInfo, h1, hk]
  intro _; exact ha
theorem Sl.head {w : World} {o : Own} {τ n c : Nat} {A : Option Addr} {B : List UInt8} (h : Sl w o τ 1 A n c (byts B)) (m : Nat) (hm : m ≤ n) : Sl w o τ 1 A m c (byts (B.take m)) := by
  have h2 := h.cut (i := 0) (j := m) (Nat.zero_le _) hm A (fun g' off' h _ => by rw [h]; simp)
  rw [Nat.zero_mul, List.drop_zero, Nat.sub_zero, Nat.sub_zero, Nat.mul_one] at h2
  have e : List.take m (byts B) = byts (B.take m) := by simp [byts]
  rwa [e] at h2

set_option maxHeartbeats 1000000 in
theorem body_any (w : World) (o : Own) (τ : Nat) (K S T : Nat) (BA : Option Addr) (bn bc : Nat) (B : List UInt8) (hB : Sl w o τ 1 BA bn bc (byts B)) (hbn : bn ≤ 9223372036854775807) :
    Calls Try.prog 23 #[.agg (opCells K S T BA bn bc)] w fun e w' => e = .returned (.slice BA (B.take 1300).length bc) ∧ Below w.heap.size w w' := by
  have hl : B.length = bn := by have := hB.1; simpa using this
  have hc := hB.2.1
  obtain ⟨m, hm⟩ : ∃ m, m = (B.take 1300).length := ⟨_, rfl⟩
  have hm2 : m = min bn 1300 := by rw [hm, List.length_take]; omega
  have hmn := fun W => run_min2 (P := Try.prog) W #[3, 3] 3 (bn : Int) 1300 (m : Int) (by omega)
  have hmb : m ≤ bn := by omega
  have hA1 := run_headA Try.prog 27 5 (.int .u8 0) 1 1 Try.underlying27 (by kernel_rfl) BA bn bc m (by omega)
  rw [← hm]
  have hbx := Blk.new w 29 (opCells K S T BA bn bc)
  have q3 := hbx.cell 3
  simp only [opCells, List.getElem?_toArray, List.getElem?_cons_zero, List.getElem?_cons_succ] at q3
  clear hm hB hm2 hl hbx
  go_enter Try.func23, Try.ntmps23
  go_wp2_with fail
  go_ret
  exact ⟨rfl, (Below.refl _ _).alloc (Nat.le_refl _) _⟩

/-- What 'chosen' comes to, whatever the op: nothing, or some bytes. -/
def ChosenR (w : World) (BA : Option Addr) (bn : Nat) (e : Ending) (w' : World) : Prop :=
  (e = .returned (.tuple #[.slice none 0 0, .bool false]) ∧ Below w.heap.size w w') ∨
  ∃ (p : List UInt8) (A : Option Addr) (c : Nat), e = .returned (.tuple #[.slice A p.length c, .bool true]) ∧ p.length ≤ 2000 ∧ Below w.heap.size w w' ∧ Sl w' (fun _ => 0) 0 1 A p.length c (byts p) ∧ ((A = BA ∧ p.length ≤ bn) ∨ (0 < p.length → ∀ ad, A = some ad → w.heap.size ≤ ad.block))

theorem xor_u8 (a b : Int) : ∃ v : UInt8, bits .xor .u8 a b = (v.toNat : Int) := by
  refine ⟨UInt8.ofNat (bits .xor .u8 a b).toNat, ?_⟩
  have h : 0 ≤ bits .xor .u8 a b ∧ bits .xor .u8 a b < 256 := by
    show 0 ≤ IntKind.u8.wrap _ ∧ IntKind.u8.wrap _ < 256
    rw [IntKind.wrap_u8']
    omega
  obtain ⟨h0, h1⟩ := h
  simp
  omega

theorem Sl.body {w : World} {o : Own} {τ n c : Nat} {A : Option Addr} {B : List UInt8} (h : Sl w o τ 1 A n c (byts B)) : Sl w o τ 1 A (B.take 1300).length c (byts (B.take 1300)) := by
  have hs := h.head (B.take 1300).length (by have h1 := h.1; simp only [byts, List.length_map, Nat.mul_one] at h1; rw [List.length_take]; omega)
  rwa [show B.take (B.take 1300).length = B.take 1300 by rw [List.length_take]; rcases Nat.le_total 1300 B.length with h | h; rw [Nat.min_eq_left h]; rw [Nat.min_eq_right h, List.take_of_length_le (Nat.le_refl _), List.take_of_length_le h]] at hs

set_option maxRecDepth 100000 in
set_option maxHeartbeats 2000000 in
theorem chosen_raw (w : World) (o : Own) (τ : Nat) (K S T : Nat) (hk5 : K % 6 = 5) (ht : T % 2 = 0) (BA MA : Option Addr) (bn bc mn mc : Nat) (B : List UInt8) (hB : Sl w o τ 1 BA bn bc (byts B)) (hbn : bn ≤ 9223372036854775807) :
    Calls Try.prog 31 #[.agg (opCells K S T BA bn bc), .slice MA mn mc] w (ChosenR w BA bn) := by
  have t1 : (((K : Int) % 6) == 5) = true := by simp; omega
  have t2 : (((T : Int) % 2) == 0) = true := by simp; omega
  have hbx := Blk.new w 29 (opCells K S T BA bn bc)
  have hb0 := (Below.refl w.heap.size w).alloc (Nat.le_refl _) (.cells (opCells K S T BA bn bc) 29)
  have HC := Lib.hid (fun W (hb : Below w.heap.size w W) => body_any W o τ K S T BA bn bc B (hB.below hb) hbn)
  have HB := Lib.hid (fun W (hb : Below w.heap.size w W) => (hB.below hb).plain.body)
  have hPl : (B.take 1300).length ≤ 2000 := by rw [List.length_take]; omega
  have hPb : (B.take 1300).length ≤ bn := by have h1 := hB.1; simp only [byts, List.length_map, Nat.mul_one] at h1; rw [List.length_take]; omega
  obtain ⟨P, hP⟩ : ∃ P, P = B.take 1300 := ⟨_, rfl⟩
  rw [← hP] at HC HB hPl hPb
  have q0 := hbx.cell 0; have q1 := hbx.cell 1; have q2 := hbx.cell 2; have q3 := hbx.cell 3
  simp only [opCells, List.getElem?_toArray, List.getElem?_cons_zero, List.getElem?_cons_succ] at q0 q1 q2 q3 hb0 HC
  have HB0 := Lib.hid hb0
  clear hbx hB hb0 hP
  go_enter Try.func31, Try.ntmps31
  go_wp2_with fail
  refine (HC.out _ HB0.out).mono ?_
  rintro e w1 ⟨rfl, hb1⟩
  have HB1 := Lib.hid (HB0.out.trans (hb1.mono HB0.out.size))
  clear hb1
  go_wp2_with fail
  go_ret2
  exact .inr ⟨P, BA, bc, rfl, hPl, HB1.out, HB.out _ HB1.out, .inl ⟨rfl, hPb⟩⟩

set_option maxRecDepth 100000 in
set_option maxHeartbeats 4000000 in
theorem chosen_spoilt (w : World) (o : Own) (τ τ2 K S T : Nat) (hK : K < 256) (hT : T < 256) (hk5 : K % 6 = 5) (ht : T % 2 = 1) (BA MA : Option Addr) (bn bc mn mc : Nat) (B : List UInt8) (hB : Sl w o τ2 1 BA bn bc (byts B)) (hbn : bn ≤ 9223372036854775807) (ps : List (List UInt8)) (hM : MadeRow w o τ MA mn mc ps) (hpl : ∀ p ∈ ps, 1 ≤ p.length ∧ p.length ≤ 2000) (hps : ps.length ≤ 100000) :
    Calls Try.prog 31 #[.agg (opCells K S T BA bn bc), .slice MA mn mc] w (ChosenR w BA bn) := by
  obtain ⟨vs, hr, hl, hp⟩ := hM
  have hmn : mn = ps.length := by have := hr.len; omega
  have t1 : (((K : Int) % 6) == 5) = true := by simp; omega
  have t2 : (((T : Int) % 2) == 0) = false := by simp; omega
  by_cases h0 : mn = 0
  · have hps0 : ps = [] := List.length_eq_zero_iff.1 (by omega)
    subst h0
    clear hr hp hmn hl hps0
    go_enter Try.func31, Try.ntmps31
    go_wp2_with fail
    go_ret2
    exact .inl ⟨rfl, (Below.refl _ _).alloc (Nat.le_refl _) _⟩
  · obtain ⟨j, hj⟩ : ∃ j, j = mn - 1 - T % mn := ⟨_, rfl⟩
    have hjl : j < mn := by omega
    have hji : (mn : Int) - 1 - (T : Int) % (mn : Int) = (j : Int) := by
      have : T % mn < mn := Nat.mod_lt _ (by omega)
      have e : (T : Int) % (mn : Int) = ((T % mn : Nat) : Int) := by simp
      rw [e]; omega
    obtain ⟨p, hpj⟩ : ∃ p, ps[j]? = some p := ⟨ps[j]'(by omega), List.getElem?_eq_getElem _⟩
    obtain ⟨A', n', c', hv, hsl⟩ := hp j p hpj
    have hnp : n' = p.length := by have := hsl.1; simp at this; omega
    obtain ⟨hp1, hpb⟩ := hpl p (List.mem_of_getElem? hpj)
    obtain ⟨g, hMA, hog, hc, -⟩ := hr.at_ hjl
    subst hMA
    have d0 := hc.trans hv
    have hglt : g < w.heap.size := hr.lt rfl
    have H0 := Lib.hid (((NS.refl w).alloc (.cells (opCells K S T BA bn bc) 29)).alloc (.cells #[] 5))
    have b0 := (Blk.new w 29 (opCells K S T BA bn bc)).alloc (.cells #[] 5)
    have r0 := NRow.made (w := w.alloc (.cells (opCells K S T BA bn bc) 29)) (B := w.heap.size) (by simp) 5 1 0 (cs := #[]) rfl (by decide) 0 (Nat.le_refl _)
    simp only [World.size_alloc] at r0
    have R0 := Lib.hid r0; have BX := Lib.hid b0
    have S0 := Lib.hid (hsl.below H0.out.fin)
    have HBB := Lib.hid (fun W (hb : Below w.heap.size w W) => hB.below hb)
    have hbl : B.length = bn := by have := hB.1; simpa using this
    have HBL := Lib.hid hbl; have HNP := Lib.hid hnp
    have hn1 : 1 ≤ n' := by omega
    have hnb : n' ≤ 2000 := by omega
    have hmb : mn ≤ 100000 := by omega
    have hm0 : (mn : Int) ≠ 0 := by omega
    simp only [opCells] at H0 R0 BX S0
    clear r0 b0 hr hp hl hc hv hsl hpj hj hnp hmn hbl hB hp1 hpb
    go_enter Try.func31, Try.ntmps31
    go_upto_region 6 with (at_builtin; refine wpList_append_new _ rfl (.tmp 22) (.tmp 35) _ rfl el_byte H0.out _ 0 0 _ rfl R0.out _ n' _ (byts p) rfl S0.out (one_byts _) (by omega) (by simp only [maxLen]; omega) ?_; intro A1 c1 w1 hr1 hk1 hl1 hb1; rw [Nat.zero_add] at hr1; have R1 := Lib.hid hr1; have H1 := Lib.hid hk1; have B1 := Lib.hid (hb1 _ _ _ BX.out (by decide)); clear hr1 hk1 hl1 hb1)
    have q0 := B1.out.cell 0; have q3 := B1.out.cell 3
    simp only [List.getElem?_toArray, List.getElem?_cons_zero, List.getElem?_cons_succ] at q0 q3
    have R1' : Hid (NRow w.heap.size w1 5 1 A1 n' c1 (byts p)) := Lib.hid (by have := R1.out; simpa using this)
    clear R1 R0 S0 H0 BX d0 hji
    rcases Nat.eq_zero_or_pos bn with hb0 | hb0
    · have hd : ¬ 0 < bn := by omega
      have HB0 := Lib.hid hb0
      clear hb0
      go_wp2_with fail
      go_ret2
      refine .inr ⟨p, A1, c1, ?_, by rw [← HNP.out]; exact hnb, H1.out.fin, ?_, .inr fun _ => R1'.out.new⟩
      · rw [← HNP.out]; rfl
      · have := R1'.out.sl.plain; rwa [HNP.out] at this
    · have hsb := HBB.out w1 H1.out.fin
      obtain ⟨y, hy⟩ : ∃ y, B[0]? = some y := ⟨_, List.getElem?_eq_getElem (by rw [HBL.out]; exact hb0)⟩
      obtain ⟨gB, oB, hBA, hgB, cB⟩ := hsb.u8_at hy
      rw [Nat.add_zero] at cB
      subst hBA
      obtain ⟨b, hb⟩ : ∃ b : Nat, b = y.toNat := ⟨_, rfl⟩
      rw [← hb] at cB
      have hb256 : b < 256 := by rw [hb]; exact y.toNat_lt
      obtain ⟨i, hi⟩ : ∃ i : Nat, (b : Int) % (n' : Int) = (i : Int) := ⟨b % n', by simp⟩
      have hil : i < n' := by have := Int.emod_lt_of_pos (b : Int) (show (0 : Int) < (n' : Int) by omega); omega
      obtain ⟨gp, cur, hA1, -, hbp, -, -, -, -⟩ := R1'.out.form (by omega)
      obtain ⟨x, hx⟩ : ∃ x, p[i]? = some x := ⟨_, List.getElem?_eq_getElem (by rw [← HNP.out]; exact hil)⟩
      subst hA1
      obtain ⟨cx, fx⟩ := R1'.out.cellAt (k := i) (u := .int .u8 (x.toNat : Int)) (by simp [byts, hx])
      obtain ⟨xv, hxv⟩ : ∃ xv : Int, xv = (x.toNat : Int) := ⟨_, rfl⟩
      rw [← hxv] at cx
      have hn0 : (n' : Int) ≠ 0 := by omega
      have hiz : (0 : Int) ≤ (i : Int) := by omega
      have hin : (i : Int) < (n' : Int) := by omega
      have hbi : (0 : Int) < (bn : Int) := by omega
      have hgp := hbp.lt
      have hnn : ¬ n' = 0 := by omega
      have hwb : IntKind.i64.wrap (b : Int) = (b : Int) := IntWalk.i64_in _ (by omega)
      have hwi : IntKind.i64.wrap (i : Int) = (i : Int) := IntWalk.i64_in _ (by omega)
      have hit : (b : Int).tmod (n' : Int) = (i : Int) := by rw [Int.tmod_eq_emod_of_nonneg (by omega)]; exact hi
      clear hsb hy hb hxv hx hbp HBB
      go_wp2_with fail
      go_still_tail 18, (by kernel_rfl)
      obtain ⟨v, hv⟩ := xor_u8 xv (bits .or .u8 (IntKind.u8.wrap (bn : Int)) 1)
      rw [hv]
      change wpList _ _ _ _ _ (World.drew w1)
      have HD := Lib.hid H1.out.drew
      have RD : Hid (NRow w.heap.size w1.drew 5 1 (some ⟨gp, 0, none⟩) n' c1 (byts p)) := Lib.hid R1'.out
      obtain ⟨W2, hW2⟩ : ∃ W2, W2 = w1.drew := ⟨_, rfl⟩
      have cx2 : W2.cell? ⟨gp, i, none⟩ = some (.int .u8 xv) := by rw [hW2]; exact cx
      have fx2 : W2.frozen? ⟨gp, i, none⟩ = false := by rw [hW2]; exact fx
      have hgp2 : gp < W2.heap.size := by rw [hW2]; exact hgp
      rw [← hW2] at HD RD ⊢
      clear hW2 cx fx hgp hv R1' H1 B1 q0 q3 cB
      go_wp2_with fail
      go_ret2
      have hrow := RD.out.set_ hil (.int .u8 (v.toNat : Int))
      have e : (byts p).set i (.int .u8 (v.toNat : Int)) = byts (p.set i v) := by simp [byts, List.map_set]
      rw [e] at hrow
      have hg0 : w.heap.size ≤ gp := RD.out.new _ rfl
      refine .inr ⟨p.set i v, some ⟨gp, 0, none⟩, c1, ?_, by rw [List.length_set, ← HNP.out]; exact hnb, (HD.out.setCell hg0 _).fin, ?_, .inr fun _ => RD.out.new⟩
      · rw [List.length_set, ← HNP.out]; rfl
      · rw [List.length_set, ← HNP.out]; exact hrow.sl.plain
end Go.Proofs.Ytpmbfgpfpdenbaa

/- PLAIN: what keeps an End in its bounds; WALKS of the reference's New; 'chosen' whatever the op. -/
namespace Go.Proofs.Ytpmbfgpfpdenbaa
open Go.RowKit

theorem make_fit {s : EndS} (h : s.Fit) (hn : s.next + 1 ≤ 2000000000000) : (makeS s).Fit := by
  have q1 := h.own0; have q2 := h.own1
  refine ⟨h.own0, ?_, ?_, h.oth0, h.oth1, h.new1, h.mask1, ?_, ?_⟩
  · show s.own ≤ s.next + 1; omega
  · show s.next + 1 ≤ _; omega
  · show (if s.pend.length < 256 then s.pend ++ [s.next] else (s.pend ++ [s.next]).tail).length ≤ 256
    have := h.len
    split
    · simp; omega
    · simp; omega
  · intro n hn'
    have hm : n ∈ s.pend ++ [s.next] := by
      have : n ∈ (if s.pend.length < 256 then s.pend ++ [s.next] else (s.pend ++ [s.next]).tail) := hn'
      split at this
      · exact this
      · exact List.mem_of_mem_tail this
    rcases List.mem_append.1 hm with h1 | h1
    · have := h.mem n h1
      exact ⟨this.1, show n < s.next + 1 by omega⟩
    · rw [List.mem_singleton.1 h1]
      exact ⟨show s.own ≤ s.next by omega, show s.next < s.next + 1 by omega⟩

theorem ackL_subset (ack : Int) (mask : Nat) (l : List Int) : ∀ x ∈ ackL ack mask l, x ∈ l := by
  induction l with
  | nil => intro x h; cases h
  | cons n l ih =>
    intro x h
    simp only [ackL] at h
    split at h
    · exact List.mem_cons_of_mem _ (ih x h)
    · split at h
      · exact List.mem_cons_of_mem _ (ih x h)
      · rcases List.mem_cons.1 h with rfl | h
        · exact List.mem_cons_self
        · exact List.mem_cons_of_mem _ (ih x h)

theorem accept_fit {s : EndS} (h : s.Fit) (d : Int) (hd : d ≤ 40000) (hn : s.newest ≤ 1999999900000) : (accept s d).1.Fit ∧ (accept s d).1.newest ≤ s.newest + 40000 ∧ (accept s d).1.next = s.next ∧ (accept s d).1.other = s.other := by
  have q := h.oth1
  unfold accept
  split
  · exact ⟨h, by simp only; omega, rfl, rfl⟩
  split
  · exact ⟨h, by simp only; omega, rfl, rfl⟩
  split
  · split
    · exact ⟨h, by simp only; omega, rfl, rfl⟩
    · refine ⟨⟨h.own0, h.own1, h.next1, h.oth0, h.oth1, h.new1, ?_, h.len, h.mem⟩, by simp only; omega, rfl, rfl⟩
      exact Nat.or_lt_two_pow (n := 32) h.mask1 (Nat.pow_lt_pow_right (by omega) (by omega))
  · refine ⟨⟨h.own0, h.own1, h.next1, h.oth0, by simp only; omega, by simp only; omega, ?_, h.len, h.mem⟩, by simp only; omega, rfl, rfl⟩
    refine Nat.or_lt_two_pow (n := 32) (Nat.mod_lt _ (by decide)) ?_
    split
    · exact Nat.mod_lt _ (by decide)
    · decide

theorem pend_fit {s : EndS} (h : s.Fit) (l : List Int) (hl : l.length ≤ s.pend.length) (hm : ∀ x ∈ l, x ∈ s.pend) : ({ s with pend := l } : EndS).Fit :=
  ⟨h.own0, h.own1, h.next1, h.oth0, h.oth1, h.new1, h.mask1, Nat.le_trans hl h.len, fun n hn => h.mem n (hm n hn)⟩

theorem recv_fit {s : EndS} (h : s.Fit) (xs : List UInt8) (hn : s.newest ≤ 1999999900000) : (recvP s xs).1.Fit ∧ (recvP s xs).1.newest ≤ s.newest + 40000 ∧ (recvP s xs).1.next = s.next ∧ (recvP s xs).1.other = s.other := by
  unfold recvP
  cases hp : parseP xs with
  | none => exact ⟨h, by simp only; omega, rfl, rfl⟩
  | some q =>
    obtain ⟨f, nu, ak, mk, body⟩ := q
    simp only
    split
    · exact ⟨h, by simp only; omega, rfl, rfl⟩
    split
    · exact ⟨h, by simp only; omega, rfl, rfl⟩
    have h1 : (if f / 2 % 2 = 1 then ({ s with pend := ackL (near (s.next - 1) ak) mk s.pend } : EndS) else s).Fit := by
      split
      · exact pend_fit h _ (ackL_len _ _ _) (ackL_subset _ _ _)
      · exact h
    have h2 : (if f / 2 % 2 = 1 then ({ s with pend := ackL (near (s.next - 1) ak) mk s.pend } : EndS) else s).newest = s.newest ∧ (if f / 2 % 2 = 1 then ({ s with pend := ackL (near (s.next - 1) ak) mk s.pend } : EndS) else s).next = s.next ∧ (if f / 2 % 2 = 1 then ({ s with pend := ackL (near (s.next - 1) ak) mk s.pend } : EndS) else s).other = s.other := by
      split <;> exact ⟨rfl, rfl, rfl⟩
    generalize (if f / 2 % 2 = 1 then ({ s with pend := ackL (near (s.next - 1) ak) mk s.pend } : EndS) else s) = s1 at h1 h2 ⊢
    split
    · have hb := near_bd s.newest nu
      have := accept_fit h1 (near s.newest nu - s.newest) (by omega) (by omega)
      obtain ⟨a1, a2, a3, a4⟩ := this
      exact ⟨a1, by simp only; omega, a3.trans h2.2.1, a4.trans h2.2.2⟩
    · exact ⟨h1, by simp only; omega, h2.2.1, h2.2.2⟩

/-- The reference's bounds follow. -/
theorem RefRel.fit {s : EndS} {r : RefS} (hr : RefRel s r) (h : s.Fit) (ho : s.other ≤ 1099511627776) (hg : r.got.length ≤ 100000) : r.Fit := by
  obtain ⟨h1, h2, h3, h4, h5, h6, h7⟩ := hr
  have q1 := h.own0; have q2 := h.own1; have q3 := h.next1; have q4 := h.oth0; have q5 := h.new1; have q6 := h.len
  refine ⟨by omega, by omega, fun hne => ?_, by omega, by omega, by omega, by rw [← h4]; omega, hg⟩
  have := h6.2 hne
  omega

theorem refRecv_got (r : RefS) (xs : List UInt8) : (refRecv r xs).1.got.length ≤ r.got.length + 1 := by
  unfold refRecv refRecv1 refRecv2 refTail
  repeat' split
  all_goals simp

/-- The reference's New. -/
theorem RNew_ok (w : World) (own other : Int) (h0 : 0 ≤ own) (h1 : own ≤ 1099511627776) (h2 : 0 ≤ other) (h3 : other ≤ 1099511627776) :
    Calls Try.prog 21 #[.int .i64 own, .int .i64 other] w fun e w' => e = .returned (.tuple #[.agg #[.int .i64 own, .int .i64 other, .int .i64 own, .slice none 0 0, .slice none 0 0], .int .i64 0]) ∧ Below w.heap.size w w' := by
  have d1 : decide (own < 0) = false := by simp; omega
  have d2 : decide (1099511627776 < own) = false := by simp; omega
  have d3 : decide (other < 0) = false := by simp; omega
  have d4 : decide (1099511627776 < other) = false := by simp; omega
  go_enter Try.func21, Try.ntmps21
  go_wp2_with fail
  exact bodyPost_ret (v := .tuple #[.agg #[.int .i64 own, .int .i64 other, .int .i64 own, .slice none 0 0, .slice none 0 0], .int .i64 0]) (by simp [results, Try.results21, go_sem]) rfl ⟨rfl, (Below.refl _ _).alloc (Nat.le_refl _) _⟩
theorem RNew_bad (w : World) (own other : Int) (h : own < 0 ∨ 1099511627776 < own ∨ other < 0 ∨ 1099511627776 < other) :
    Calls Try.prog 21 #[.int .i64 own, .int .i64 other] w fun e w' => e = .returned (.tuple #[.agg #[.int .i64 0, .int .i64 0, .int .i64 0, .slice none 0 0, .slice none 0 0], .int .i64 2]) ∧ Below w.heap.size w w' := by
  rcases Classical.em (own < 0) with d1 | d1
  · go_enter Try.func21, Try.ntmps21
    go_wp2_with fail
    exact bodyPost_ret (v := .tuple #[.agg #[.int .i64 0, .int .i64 0, .int .i64 0, .slice none 0 0, .slice none 0 0], .int .i64 2]) (by simp [results, Try.results21, go_sem]) rfl ⟨rfl, (Below.refl _ _).alloc (Nat.le_refl _) _⟩
  rcases Classical.em (1099511627776 < own) with d2 | d2
  · go_enter Try.func21, Try.ntmps21
    go_wp2_with fail
    exact bodyPost_ret (v := .tuple #[.agg #[.int .i64 0, .int .i64 0, .int .i64 0, .slice none 0 0, .slice none 0 0], .int .i64 2]) (by simp [results, Try.results21, go_sem]) rfl ⟨rfl, (Below.refl _ _).alloc (Nat.le_refl _) _⟩
  rcases Classical.em (other < 0) with d3 | d3
  · go_enter Try.func21, Try.ntmps21
    go_wp2_with fail
    exact bodyPost_ret (v := .tuple #[.agg #[.int .i64 0, .int .i64 0, .int .i64 0, .slice none 0 0, .slice none 0 0], .int .i64 2]) (by simp [results, Try.results21, go_sem]) rfl ⟨rfl, (Below.refl _ _).alloc (Nat.le_refl _) _⟩
  have d4 : 1099511627776 < other := by omega
  go_enter Try.func21, Try.ntmps21
  go_wp2_with fail
  exact bodyPost_ret (v := .tuple #[.agg #[.int .i64 0, .int .i64 0, .int .i64 0, .slice none 0 0, .slice none 0 0], .int .i64 2]) (by simp [results, Try.results21, go_sem]) rfl ⟨rfl, (Below.refl _ _).alloc (Nat.le_refl _) _⟩

/-- 'chosen', whatever the op. -/
theorem chosen_R (w : World) (o : Own) (τ τ2 K S T : Nat) (hK : K < 256) (hT : T < 256) (BA MA : Option Addr) (bn bc mn mc : Nat) (B : List UInt8) (hB : Sl w o τ2 1 BA bn bc (byts B)) (hbn : bn ≤ 9223372036854775807) (ps : List (List UInt8)) (hτ : τ ≠ 11) (hM : MadeRow w o τ MA mn mc ps) (hpl : ∀ p ∈ ps, 1 ≤ p.length ∧ p.length ≤ 2000) (hps : ps.length ≤ 100000) :
    Calls Try.prog 31 #[.agg (opCells K S T BA bn bc), .slice MA mn mc] w (ChosenR w BA bn) := by
  by_cases hk5 : K % 6 = 5
  · by_cases ht : T % 2 = 0
    · exact chosen_raw w o τ2 K S T hk5 ht BA MA bn bc mn mc B hB hbn
    · exact chosen_spoilt w o τ τ2 K S T hK hT hk5 (by omega) BA MA bn bc mn mc B hB hbn ps hM hpl hps
  · have hM2 : MadeRow w (fun i => if o i = 11 then 12 else o i) τ MA mn mc ps := by
      obtain ⟨vs, hr, hl, hp⟩ := hM
      refine ⟨vs, ⟨hr.1, fun ad ha => by have := hr.2 ad ha; show (if _ then _ else _) = _; split <;> omega⟩, hl, fun i p hi => ?_⟩
      obtain ⟨A', n', c', hv, hsl⟩ := hp i p hi
      refine ⟨A', n', c', hv, hsl.1, hsl.2.1, hsl.2.2.1, fun hn => ?_⟩
      obtain ⟨g, off, hA, ho, hg⟩ := hsl.2.2.2 hn
      exact ⟨g, off, hA, by show (if _ then _ else _) = _; split <;> omega, hg⟩
    refine (chosen_any w _ τ K S T hK hT hk5 BA MA bn bc mn mc ps hM2 (fun p hp => by have := hpl p hp; omega) hps).mono ?_
    rintro e w' ⟨o', hst, ⟨-, rfl⟩ | ⟨p, A', c', hp, rfl, hr⟩⟩
    · exact .inl ⟨rfl, hst.to_below (by simp)⟩
    · refine .inr ⟨p, A', c', rfl, (hpl p (List.mem_of_getElem? hp)).2, hst.to_below (by simp), hr.sl.plain, .inr fun _ ad ha => ?_⟩
      rcases Nat.lt_or_ge ad.block w.heap.size with hlt | hge
      · have h1 := hst.own _ hlt
        rw [hr.2 ad ha] at h1
        exfalso
        revert h1
        show (11 = if _ then _ else _) → False
        split <;> omega
      · exact hge
end Go.Proofs.Ytpmbfgpfpdenbaa

/- THE STATE of PacketTells in memory: two Ends, two of the reference, what was made. -/
namespace Go.Proofs.Ytpmbfgpfpdenbaa
open Go.RowKit

/-- One side. -/
structure TV where
  e : Nat
  S : EndS
  r : RefS
  PA : Option Addr
  pn : Nat
  pc : Nat
  GA : Option Addr
  gn : Nat
  gc : Nat
  MA : Option Addr
  mn : Nat
  mc : Nat
  ps : List (List UInt8)

def TV.rc (v : TV) : List Value := [.int .i64 v.r.own, .int .i64 v.r.other, .int .i64 v.r.next, .slice v.PA v.pn v.pc, .slice v.GA v.gn v.gc]
abbrev TV.rv (v : TV) : Value := v.r.val v.PA v.pn v.pc v.GA v.gn v.gc

structure TSide (W : World) (o : Own) (s : Nat) (v : TV) (k : Nat) : Prop where
  E : EndAt W o (2 + s) v.e v.S
  fit : v.S.Fit
  rel : RefRel v.S v.r
  hP : Sl W o 10 1 v.PA v.pn v.pc (ints v.r.pend)
  hG : Sl W o 10 1 v.GA v.gn v.gc (ints v.r.got)
  m : MadeRow W o (4 + s) v.MA v.mn v.mc v.ps
  pl : ∀ p ∈ v.ps, 1 ≤ p.length ∧ p.length ≤ 2000
  pn : v.ps.length ≤ k
  gl : v.r.got.length ≤ k
  ot : v.S.other ≤ 1099511627776
  nx : v.S.next ≤ 1099511627776 + k
  nw : v.S.newest ≤ 1099511627776 + 40000 * k

theorem TSide.step {W W' : World} {o o' : Own} {s k : Nat} {v : TV} {ts : List Nat} (h : TSide W o s v k) (hs : Step ts W o W' o') (h1 : 2 + s ∉ ts) (h2 : 4 + s ∉ ts) (h3 : 10 ∉ ts) : TSide W' o' s v k :=
  ⟨h.E.step hs h1, h.fit, h.rel, h.hP.step hs h3, h.hG.step hs h3, h.m.step hs h2 h3, h.pl, h.pn, h.gl, h.ot, h.nx, h.nw⟩
theorem TSide.up {W : World} {o : Own} {s k : Nat} {v : TV} (h : TSide W o s v k) : TSide W o s v (k + 1) :=
  ⟨h.E, h.fit, h.rel, h.hP, h.hG, h.m, h.pl, Nat.le_succ_of_le h.pn, Nat.le_succ_of_le h.gl, h.ot, by have := h.nx; omega, by have := h.nw; omega⟩
theorem TSide.rfit {W : World} {o : Own} {s k : Nat} {v : TV} (h : TSide W o s v k) (hk : k ≤ 1000) : v.r.Fit := h.rel.fit h.fit h.ot (by have := h.gl; omega)

abbrev TT : List Nat := [2, 3, 4, 5, 13, 21, 22, 23, 30, 31]
def upd (v : Nat → TV) (s : Nat) (u : TV) : Nat → TV := fun i => if i = s then u else v i
theorem upd_same (v : Nat → TV) (s : Nat) (u : TV) : upd v s u s = u := by simp [upd]
theorem upd_other (v : Nat → TV) {s i : Nat} (u : TV) (h : i ≠ s) : upd v s u i = v i := by simp [upd, h]

structure TS (w W : World) (o : Own) (b : Nat) (v : Nat → TV) (k : Nat) : Prop where
  st : Step TT w (fun _ => 0) W o
  b0 : Blk W b 51 #[.pointer (some ⟨(v 0).e, 0, none⟩), .pointer (some ⟨(v 1).e, 0, none⟩)]
  b1 : Blk W (b + 1) 54 ((v 0).rc ++ (v 1).rc).toArray
  b2 : Blk W (b + 2) 55 #[.slice (v 0).MA (v 0).mn (v 0).mc, .slice (v 1).MA (v 1).mn (v 1).mc]
  t0 : o b = 21
  t1 : o (b + 1) = 22
  t2 : o (b + 2) = 23
  S : ∀ s, s < 2 → TSide W o s (v s) k

section
variable {w W W' : World} {o o' : Own} {b k : Nat} {v : Nat → TV} {ts : List Nat}
/-- Where nothing of the state has changed. -/
theorem TS.step (h : TS w W o b v k) (hs : Step ts W o W' o') (ht : ∀ t ∈ ts, t = 13 ∨ t = 30 ∨ t = 31) : TS w W' o' b v k := by
  have n : ∀ x, x ∈ ts → x = 13 ∨ x = 30 ∨ x = 31 := ht
  refine ⟨h.st.trans (hs.mono fun t h' => by rcases ht t h' with h | h | h <;> simp [h]), h.b0.step hs (fun e => by rw [h.t0] at e; have := n _ e; omega), h.b1.step hs (fun e => by rw [h.t1] at e; have := n _ e; omega), h.b2.step hs (fun e => by rw [h.t2] at e; have := n _ e; omega),
    (hs.own _ h.b0.lt).trans h.t0, (hs.own _ h.b1.lt).trans h.t1, (hs.own _ h.b2.lt).trans h.t2, fun s h2 => (h.S s h2).step hs (fun e => by have := n _ e; omega) (fun e => by have := n _ e; omega) (fun e => by have := n _ e; omega)⟩
theorem TS.up (h : TS w W o b v k) : TS w W o b v (k + 1) := ⟨h.st, h.b0, h.b1, h.b2, h.t0, h.t1, h.t2, fun s hs => (h.S s hs).up⟩
theorem TS.endc (h : TS w W o b v k) {s : Nat} (hs : s < 2) : W.cell? ⟨b, s, none⟩ = some (.pointer (some ⟨(v s).e, 0, none⟩)) := by
  rw [h.b0.cell]
  rcases (show s = 0 ∨ s = 1 by omega) with rfl | rfl <;> rfl
theorem TS.madec (h : TS w W o b v k) {s : Nat} (hs : s < 2) : W.cell? ⟨b + 2, s, none⟩ = some (.slice (v s).MA (v s).mn (v s).mc) := by
  rw [h.b2.cell]
  rcases (show s = 0 ∨ s = 1 by omega) with rfl | rfl <;> rfl
theorem TS.refc (h : TS w W o b v k) {s : Nat} (hs : s < 2) : W.cell? ⟨b + 1, s * 5, none⟩ = some (.int .i64 (v s).r.own) ∧ W.cell? ⟨b + 1, s * 5 + 1, none⟩ = some (.int .i64 (v s).r.other) ∧ W.cell? ⟨b + 1, s * 5 + 2, none⟩ = some (.int .i64 (v s).r.next) ∧
    W.cell? ⟨b + 1, s * 5 + 3, none⟩ = some (.slice (v s).PA (v s).pn (v s).pc) ∧ W.cell? ⟨b + 1, s * 5 + 4, none⟩ = some (.slice (v s).GA (v s).gn (v s).gc) := by
  refine ⟨?_, ?_, ?_, ?_, ?_⟩ <;> (rw [h.b1.cell]; rcases (show s = 0 ∨ s = 1 by omega) with rfl | rfl <;> rfl)
end
end Go.Proofs.Ytpmbfgpfpdenbaa

/- The reference's Only once more: what it answers with lies in new memory. -/
namespace Go.Proofs.Ytpmbfgpfpdenbaa
open Go.RowKit

theorem ROnly_new (w : World) (o : Own) (τ : Nat) (r : RefS) (hf : r.Fit) (hg : r.got ≠ []) (PA : Option Addr) (pn pc : Nat) (GA : Option Addr) (gn gc : Nat) (hG : Sl w o τ 1 GA gn gc (ints r.got)) :
    Calls Try.prog 30 #[r.val PA pn pc GA gn gc] w fun e w' => ∃ A c, e = .returned (.tuple #[.slice A (refBytes r (-1) []).length c, .int .i64 0]) ∧ Below w.heap.size w w' ∧ Sl w' (fun _ => 0) 0 1 A (refBytes r (-1) []).length c (byts (refBytes r (-1) [])) ∧ ∀ ad, A = some ad → w.heap.size ≤ ad.block := by
  have HC := Lib.hid (fun W (hb : Below w.heap.size w W) => RBytes_ft W o τ r hf PA pn pc GA gn gc (hG.below hb) hg)
  obtain ⟨Y, hY⟩ : ∃ Y, Y = refBytes r (-1) [] := ⟨_, rfl⟩
  rw [← hY] at HC ⊢
  obtain ⟨own, other, next, pend, got⟩ := r
  simp only at hg hG HC
  obtain ⟨hl, -⟩ := hG.int_len
  have hd : ((gn : Int) == 0) = false := by
    have : 0 < got.length := List.length_pos_iff.2 hg
    simp; omega
  clear hG hl hg hf hY
  go_enter Try.func30, Try.ntmps30
  go_wp2_with fail
  refine (HC.out _ ((Below.refl _ _).alloc (Nat.le_refl _) _)).mono ?_
  rintro e w1 ⟨A1, c1, rfl, hb1, hs1, hf1⟩
  have HF := Lib.hid (show ∀ ad, A1 = some ad → w.heap.size ≤ ad.block from fun ad h => Nat.le_trans (Nat.le_of_lt (by rw [World.size_alloc]; omega)) (hf1 ad h))
  have HB := Lib.hid (((Below.refl w.heap.size w).alloc (Nat.le_refl _) (.cells #[.int .i64 own, .int .i64 other, .int .i64 next, .slice PA pn pc, .slice GA gn gc] 53)).trans (hb1.mono (by simp)))
  have HS := Lib.hid hs1
  clear hb1 hs1 hf1
  go_wp2_with fail
  go_ret2
  exact ⟨A1, c1, rfl, HB.out, HS.out, HF.out⟩
end Go.Proofs.Ytpmbfgpfpdenbaa

/- PLAIN: a side's packets with one more. -/
namespace Go.Proofs.Ytpmbfgpfpdenbaa
open Go.RowKit

theorem TSide.le {W : World} {o : Own} {s k j : Nat} {v : TV} (h : TSide W o s v k) (hj : k ≤ j) : TSide W o s v j :=
  ⟨h.E, h.fit, h.rel, h.hP, h.hG, h.m, h.pl, Nat.le_trans h.pn hj, Nat.le_trans h.gl hj, h.ot, by have := h.nx; omega, by have := h.nw; omega⟩

theorem made_snoc {w w' : World} {o o' : Own} {τ n' c' m d : Nat} {A' B : Option Addr} {vs : List Value} {ps : List (List UInt8)} {q : List UInt8} {ts : List Nat} (hl : vs.length = ps.length)
    (hp : ∀ (i : Nat) (p : List UInt8), ps[i]? = some p → ∃ A' n' c', vs[i]? = some (.slice A' n' c') ∧ Sl w o 10 1 A' n' c' (byts p)) (hs : Step ts w o w' o') (h10 : 10 ∉ ts)
    (hr : Row w' o' τ 27 1 A' n' c' (vs ++ [.slice B m d])) (hB : Sl w' o' 10 1 B m d (byts q)) : MadeRow w' o' τ A' n' c' (ps ++ [q]) := by
  refine ⟨_, hr, by simp [hl], fun i p hi => ?_⟩
  rcases Nat.lt_or_ge i ps.length with h | h
  · rw [List.getElem?_append_left h] at hi
    obtain ⟨A2, n2, c2, h1, h2⟩ := hp i p hi
    exact ⟨A2, n2, c2, by rw [List.getElem?_append_left (by omega)]; exact h1, h2.step hs h10⟩
  · rw [List.getElem?_append_right h] at hi
    have hi0 : i - ps.length = 0 := by
      rcases Nat.eq_zero_or_pos (i - ps.length) with h0 | h0
      · exact h0
      · rw [List.getElem?_eq_none (by simp <;> omega)] at hi; cases hi
    rw [hi0] at hi
    simp only [List.getElem?_cons_zero, Option.some.injEq] at hi
    subst hi
    exact ⟨B, m, d, by rw [List.getElem?_append_right (by omega), show i - vs.length = 0 by omega]; rfl, hB⟩

theorem TS.made' {w W W1 W' : World} {o o1 : Own} {b k j s n' c' : Nat} {v : Nat → TV} {A' : Option Addr} {q : List UInt8} (h : TS w W o b v k) (hs : s < 2) (h1 : Step [4 + s] W o W1 o1) (hm : MadeRow W1 o1 (4 + s) A' n' c' ((v s).ps ++ [q])) (hq : 1 ≤ q.length ∧ q.length ≤ 2000)
    (hW : W' = W1.setCell ⟨b + 2, s, none⟩ (.slice A' n' c')) (hkj : k ≤ j) (hpn : (v s).ps.length + 1 ≤ j) : TS w W' o1 b (upd v s { v s with MA := A', mn := n', mc := c', ps := (v s).ps ++ [q] }) j := by
  have t2 : o1 (b + 2) = 23 := (h1.own _ h.b2.lt).trans h.t2
  have h2 : Step [23] W1 o1 W' o1 := by rw [hW]; exact (Step.refl _ _ _).setCell (.inr (by show o1 (b + 2) ∈ [23]; rw [t2]; simp)) _
  have B2 : Blk W' (b + 2) 55 ((#[.slice (v 0).MA (v 0).mn (v 0).mc, .slice (v 1).MA (v 1).mn (v 1).mc] : Array Value).setIfInBounds s (.slice A' n' c')) := by
    rw [hW]; exact (h.b2.step h1 (by rw [h.t2]; simp <;> omega)).set_ s _
  have e0 : ∀ i, (upd v s { v s with MA := A', mn := n', mc := c', ps := (v s).ps ++ [q] } i).e = (v i).e := fun i => by unfold upd; split <;> simp_all
  have e1 : ∀ i, (upd v s { v s with MA := A', mn := n', mc := c', ps := (v s).ps ++ [q] } i).rc = (v i).rc := fun i => by unfold upd; split <;> simp_all [TV.rc]
  refine ⟨(h.st.trans (h1.mono fun t ht => ?_)).trans (h2.mono (by simp)), ?_, ?_, ?_, ((h2.own _ (h.b0.step h1 (by rw [h.t0]; simp <;> omega)).lt).trans (h1.own _ h.b0.lt)).trans h.t0, ((h2.own _ (h.b1.step h1 (by rw [h.t1]; simp <;> omega)).lt).trans (h1.own _ h.b1.lt)).trans h.t1, t2, fun i hi => ?_⟩
  · rcases (show s = 0 ∨ s = 1 by omega) with rfl | rfl <;> simp at ht <;> subst ht <;> simp
  · rw [e0, e0]; exact (h.b0.step h1 (by rw [h.t0]; simp <;> omega)).step h2 (by rw [(h1.own _ h.b0.lt).trans h.t0]; simp)
  · rw [e1, e1]; exact (h.b1.step h1 (by rw [h.t1]; simp <;> omega)).step h2 (by rw [(h1.own _ h.b1.lt).trans h.t1]; simp)
  · rcases (show s = 0 ∨ s = 1 by omega) with rfl | rfl
    · exact B2
    · exact B2
  · rcases Classical.em (i = s) with rfl | hne
    · rw [upd_same]
      have hS := h.S i hi
      exact ⟨(hS.E.step h1 (by simp <;> omega)).step h2 (by simp <;> omega), hS.fit, hS.rel, (hS.hP.step h1 (by simp <;> omega)).step h2 (by simp), (hS.hG.step h1 (by simp <;> omega)).step h2 (by simp), hm.step h2 (by simp <;> omega) (by simp),
        fun p hp => (List.mem_append.1 hp).elim (hS.pl p) (fun hp => by rw [List.mem_singleton.1 hp]; exact hq), by simpa using hpn, Nat.le_trans hS.gl hkj, hS.ot, by have := hS.nx; show (v i).S.next ≤ _; omega, by have := hS.nw; show (v i).S.newest ≤ _; omega⟩
    · rw [upd_other v _ hne]
      exact (((h.S i hi).step h1 (by simp <;> omega) (by simp <;> omega) (by simp <;> omega)).step h2 (by simp <;> omega) (by simp <;> omega) (by simp)).le hkj
theorem TS.made {w W W1 W' : World} {o o1 : Own} {b k s n' c' : Nat} {v : Nat → TV} {A' : Option Addr} {q : List UInt8} (h : TS w W o b v k) (hs : s < 2) (h1 : Step [4 + s] W o W1 o1) (hm : MadeRow W1 o1 (4 + s) A' n' c' ((v s).ps ++ [q])) (hq : 1 ≤ q.length ∧ q.length ≤ 2000)
    (hW : W' = W1.setCell ⟨b + 2, s, none⟩ (.slice A' n' c')) : TS w W' o1 b (upd v s { v s with MA := A', mn := n', mc := c', ps := (v s).ps ++ [q] }) (k + 1) :=
  h.made' hs h1 hm hq hW (Nat.le_succ k) (by have := (h.S s hs).pn; omega)

/-- A side put anew: its End lies where it lay; the reference's cells are stored. -/
theorem TS.put {w W W1 W' : World} {o o1 : Own} {b k j s : Nat} {v : Nat → TV} {ts : List Nat} (h : TS w W o b v k) (hs : s < 2) (hkj : k ≤ j) (u : TV) (h1 : Step ts W o W1 o1) (ht : ∀ t ∈ ts, t = 2 + s ∨ t = 13 ∨ t = 30 ∨ t = 31) (hu : TSide W1 o1 s u j) (he : u.e = (v s).e) (hm : u.MA = (v s).MA ∧ u.mn = (v s).mn ∧ u.mc = (v s).mc)
    (hW : W' = (((((W1.setCell ⟨b + 1, s * 5, none⟩ (.int .i64 u.r.own)).setCell ⟨b + 1, s * 5 + 1, none⟩ (.int .i64 u.r.other)).setCell ⟨b + 1, s * 5 + 2, none⟩ (.int .i64 u.r.next)).setCell ⟨b + 1, s * 5 + 3, none⟩ (.slice u.PA u.pn u.pc)).setCell ⟨b + 1, s * 5 + 4, none⟩ (.slice u.GA u.gn u.gc))) : TS w W' o1 b (upd v s u) j := by
  have B0 := h.b0.step h1 (fun e => by rw [h.t0] at e; have := ht _ e; omega)
  have B1 := h.b1.step h1 (fun e => by rw [h.t1] at e; have := ht _ e; omega)
  have B2 := h.b2.step h1 (fun e => by rw [h.t2] at e; have := ht _ e; omega)
  have t0 : o1 b = 21 := (h1.own _ h.b0.lt).trans h.t0
  have t1 : o1 (b + 1) = 22 := (h1.own _ h.b1.lt).trans h.t1
  have t2 : o1 (b + 2) = 23 := (h1.own _ h.b2.lt).trans h.t2
  have m1 : o1 (b + 1) ∈ [22] := by rw [t1]; simp
  have h2 : Step [22] W1 o1 W' o1 := by
    rw [hW]
    exact (((((Step.refl _ _ _).setCell (.inr m1) _).setCell (.inr m1) _).setCell (.inr m1) _).setCell (.inr m1) _).setCell (.inr m1) _
  have B1' := ((((B1.set_ (s * 5) (.int .i64 u.r.own)).set_ (s * 5 + 1) (.int .i64 u.r.other)).set_ (s * 5 + 2) (.int .i64 u.r.next)).set_ (s * 5 + 3) (.slice u.PA u.pn u.pc)).set_ (s * 5 + 4) (.slice u.GA u.gn u.gc)
  rw [← hW] at B1'
  have h21 : ∀ t ∈ ts, t ∈ TT := fun t h' => by rcases ht t h' with h | h | h | h <;> simp [h] <;> omega
  refine ⟨(h.st.trans (h1.mono h21)).trans (h2.mono (by simp)), ?_, ?_, ?_, t0, t1, t2, fun i hi => ?_⟩
  · have e0 : ∀ i, (upd v s u i).e = (v i).e := fun i => by unfold upd; split <;> simp_all
    rw [e0, e0]
    exact B0.step h2 (by rw [t0]; simp)
  · rcases (show s = 0 ∨ s = 1 by omega) with rfl | rfl
    · exact B1'
    · exact B1'
  · have e2 : ∀ i, (upd v s u i).MA = (v i).MA ∧ (upd v s u i).mn = (v i).mn ∧ (upd v s u i).mc = (v i).mc := fun i => by unfold upd; split <;> simp_all
    rw [(e2 0).1, (e2 0).2.1, (e2 0).2.2, (e2 1).1, (e2 1).2.1, (e2 1).2.2]
    exact B2.step h2 (by rw [t2]; simp)
  · rcases Classical.em (i = s) with rfl | hne
    · rw [upd_same]
      exact hu.step h2 (by simp <;> omega) (by simp <;> omega) (by simp)
    · rw [upd_other v _ hne]
      have a1 : 2 + i ∉ ts := fun e => by have := ht _ e; omega
      have a2 : 4 + i ∉ ts := fun e => by have := ht _ e; omega
      have a3 : 10 ∉ ts := fun e => by have := ht _ e; omega
      exact (((h.S i hi).step h1 a1 a2 a3).step h2 (by simp <;> omega) (by simp <;> omega) (by simp)).le hkj

theorem NRow.tag {B : Nat} {w : World} {e : TypeId} {sz n c : Nat} {A : Option Addr} {xs : List Value} (h : NRow B w e sz A n c xs) (o : Own) (t : Nat) : Row w (ext o B t) t e sz A n c xs := ⟨h.1, fun ad ha => ext_ge (h.new ad ha)⟩
end Go.Proofs.Ytpmbfgpfpdenbaa

/- PLAIN: a side behind Receive and behind Make; where slices lie. -/
namespace Go.Proofs.Ytpmbfgpfpdenbaa
open Go.RowKit

theorem Sl.ext_ {w : World} {o : Own} {τ sz n c : Nat} {A : Option Addr} {xs : List Value} (h : Sl w o τ sz A n c xs) (t : Nat) : Sl w (ext o w.heap.size t) τ sz A n c xs := by
  refine ⟨h.1, h.2.1, h.2.2.1, fun hn => ?_⟩
  obtain ⟨g, off, hA, ho, hg, hc⟩ := h.2.2.2 hn
  exact ⟨g, off, hA, (ext_lt hg).trans ho, hg, hc⟩
/-- The old place, or a new one: one tag. -/
theorem Sl.place {w w' : World} {o : Own} {τ sz n c : Nat} {A A0 : Option Addr} {n0 c0 : Nat} {xs xs0 : List Value} (h : Sl w' (fun _ => 0) 0 sz A n c xs) (h0 : Sl w o τ sz A0 n0 c0 xs0) (hl : (A = A0 ∧ n = n0) ∨ (0 < n → ∀ ad, A = some ad → w.heap.size ≤ ad.block)) : Sl w' (ext o w.heap.size τ) τ sz A n c xs := by
  rcases hl with ⟨h1, h2⟩ | h1
  · exact h.loc h0 (.inl h1) (fun h => .inl (h2 ▸ h))
  · exact h.tag' h1 o τ

theorem recv_len (s : EndS) (xs : List UInt8) : (recvP s xs).2.1.length ≤ 1191 := by
  unfold recvP
  cases hp : parseP xs with
  | none => simp
  | some q =>
    obtain ⟨f, nu, ak, mk, body⟩ := q
    have hb := (parse_bd hp).2.2.2.2.2.1
    simp only
    repeat' split
    all_goals first | exact hb | exact Nat.zero_le _

/-- Both Ends behind Receive. -/
theorem recv_both {S : EndS} {r : RefS} (hr : RefRel S r) (hf : S.Fit) (xs : List UInt8) (hn : S.newest ≤ 1999999900000) : ∃ S1 r1 body rs code, recvP S xs = (S1, body, rs, code) ∧ refRecv r xs = (r1, body, rs, code) ∧ RefRel S1 r1 ∧ S1.Fit ∧ S1.newest ≤ S.newest + 40000 ∧ S1.next = S.next ∧ S1.other = S.other ∧ r1.got.length ≤ r.got.length + 1 ∧ body.length ≤ 1191 := by
  obtain ⟨h1, h2⟩ := recv_ref hr xs
  obtain ⟨h3, h4, h5, h6⟩ := recv_fit hf xs hn
  have h7 := refRecv_got r xs
  have h8 := recv_len S xs
  rcases hR : recvP S xs with ⟨S1, body, rs, code⟩
  rcases hQ : refRecv r xs with ⟨r1, q⟩
  rw [hR] at h1 h2 h3 h4 h5 h6 h8
  rw [hQ] at h1 h2 h7
  simp only at h1 h2 h3 h4 h5 h6 h7 h8
  subst h2
  exact ⟨S1, r1, body, rs, code, rfl, rfl, h1, h3, h4, h5, h6, h7, h8⟩

theorem TSide.recv {W W1 : World} {o o1 : Own} {s k : Nat} {v : TV} {ts : List Nat} (h : TSide W o s v k) (st : Step ts W o W1 o1) (h4 : 4 + s ∉ ts) (h10 : 10 ∉ ts) {S1 : EndS} {r1 : RefS} (hE : EndAt W1 o1 (2 + s) v.e S1) (hf : S1.Fit) (hr : RefRel S1 r1) {PA GA : Option Addr} {pn pc gn gc : Nat}
    (hP : Sl W1 o1 10 1 PA pn pc (ints r1.pend)) (hG : Sl W1 o1 10 1 GA gn gc (ints r1.got)) (hw : S1.newest ≤ v.S.newest + 40000) (hx : S1.next ≤ v.S.next + 1) (ho : S1.other = v.S.other) (hg : r1.got.length ≤ v.r.got.length + 1) :
    TSide W1 o1 s { v with S := S1, r := r1, PA := PA, pn := pn, pc := pc, GA := GA, gn := gn, gc := gc } (k + 1) :=
  ⟨hE, hf, hr, hP, hG, h.m.step st h4 h10, h.pl, Nat.le_succ_of_le h.pn, by have := h.gl; show r1.got.length ≤ _; omega, by show S1.other ≤ _; rw [ho]; exact h.ot, by have := h.nx; show S1.next ≤ _; omega, by have := h.nw; show S1.newest ≤ _; omega⟩

theorem refc_blk {W : World} {b s : Nat} {t : TypeId} {v : Nat → TV} (h : Blk W (b + 1) t ((v 0).rc ++ (v 1).rc).toArray) (hs : s < 2) : W.cell? ⟨b + 1, s * 5, none⟩ = some (.int .i64 (v s).r.own) ∧ W.cell? ⟨b + 1, s * 5 + 1, none⟩ = some (.int .i64 (v s).r.other) ∧ W.cell? ⟨b + 1, s * 5 + 2, none⟩ = some (.int .i64 (v s).r.next) ∧
    W.cell? ⟨b + 1, s * 5 + 3, none⟩ = some (.slice (v s).PA (v s).pn (v s).pc) ∧ W.cell? ⟨b + 1, s * 5 + 4, none⟩ = some (.slice (v s).GA (v s).gn (v s).gc) := by
  refine ⟨?_, ?_, ?_, ?_, ?_⟩ <;> (rw [h.cell]; rcases (show s = 0 ∨ s = 1 by omega) with rfl | rfl <;> rfl)

theorem upd_upd (v : Nat → TV) (s : Nat) (u u2 : TV) : upd (upd v s u) s u2 = upd v s u2 := by
  funext i
  unfold upd
  split <;> rfl
theorem pack_len (S : EndS) (num : Int) (xs : List UInt8) (h : xs.length ≤ 1191) : 1 ≤ (packP S num xs).length ∧ (packP S num xs).length ≤ 2000 := by
  unfold packP
  split <;> simp [bytesOf_len] <;> omega

/-- What Make comes to, whatever the body. -/
def MakeTo (w : World) (o : Own) (τ b : Nat) (S1 : EndS) (ys : List UInt8) (num : Int) (rs : List (Int × Bool)) (code : Int) (e : Ending) (w' : World) : Prop :=
  ∃ A c o' LA lc, e = .returned (.tuple #[.slice A ys.length c, .int .i64 num, .slice LA rs.length lc, .int .i64 code]) ∧ Step [τ] w o w' o' ∧ EndAt w' o' τ b S1 ∧ Row w' o' 31 5 1 A ys.length c (byts ys) ∧ Sl w' o' 31 2 LA rs.length lc (reps rs)

/-- Both Makes, whatever the body. -/
theorem make_three {S : EndS} {r : RefS} (hr : RefRel S r) (hf : S.Fit) (hrf : r.Fit) (hn : S.next ≤ 1999999999999) (X : List UInt8) (xl : Nat) (hxl : xl = X.length) : ∃ S1 r1 ys num rs code,
    (∀ (w : World) (o : Own) (τ b : Nat) (ad : Addr) (c : Nat), τ ≠ 13 → τ ≠ 31 → EndAt w o τ b S → Sl w o 13 1 (some ad) xl c (byts X) → Calls Try.prog 24 #[.pointer (some ⟨b, 0, none⟩), .slice (some ad) xl c] w (MakeTo w o τ b S1 ys num rs code)) ∧
    (∀ (w : World) (PA : Option Addr) (pn pc : Nat) (GA : Option Addr) (gn gc : Nat) (A : Option Addr) (c : Nat), Sl w (fun _ => 0) 0 1 PA pn pc (ints r.pend) → Sl w (fun _ => 0) 0 1 GA gn gc (ints r.got) → Sl w (fun _ => 0) 0 1 A xl c (byts X) →
      Calls Try.prog 25 #[r.val PA pn pc GA gn gc, .slice A xl c] w (RMakeTo w PA pn r1 GA gn gc ys num rs code)) ∧
    RefRel S1 r1 ∧ S1.Fit ∧ S1.newest = S.newest ∧ S1.next ≤ S.next + 1 ∧ S1.other = S.other ∧ r1.got = r.got ∧ ((code = 0 ∧ 1 ≤ ys.length ∧ ys.length ≤ 2000) ∨ (¬ code = 0 ∧ ys = [])) := by
  rcases Nat.eq_zero_or_pos xl with h0 | h0
  · subst h0
    refine ⟨S, r, [], 0, [], 2, fun w o τ b ad c _ _ hE _ => (Make_arg w o τ b S hE (some ad) c).mono ?_, fun w PA pn pc GA gn gc A c hP _ _ => RMake_none w (fun _ => 0) 0 r PA pn pc GA gn gc hP A c, hr, hf, rfl, by omega, rfl, rfl, .inr ⟨by decide, rfl⟩⟩
    rintro e w' ⟨rfl, rfl⟩
    exact ⟨none, 0, o, none, 0, rfl, Step.refl _ _ _, hE, Row.nil_ _ _ _ _ _, Sl.nil_ _ _ _ _ _ _ (Nat.zero_le _)⟩
  · rcases Nat.lt_or_ge 1191 xl with h1 | h1
    · refine ⟨S, r, [], 0, [], 3, fun w o τ b ad c _ _ hE _ => (Make_long w o τ b S hE (some ad) xl c h1).mono ?_, fun w PA pn pc GA gn gc A c hP _ _ => RMake_long w (fun _ => 0) 0 r PA pn pc GA gn gc hP A xl c h1, hr, hf, rfl, by omega, rfl, rfl, .inr ⟨by decide, rfl⟩⟩
      rintro e w' ⟨rfl, rfl⟩
      exact ⟨none, 0, o, none, 0, rfl, Step.refl _ _ _, hE, Row.nil_ _ _ _ _ _, Sl.nil_ _ _ _ _ _ _ (Nat.zero_le _)⟩
    · obtain ⟨m1, m2, m3⟩ := make_ref hr X (by have := hf.own0; have := hf.own1; omega)
      refine ⟨makeS S, refMakeS r, refBytes r r.next X, r.next, refLost r, 0, fun w o τ b ad c h13 h31 hE hX => ?_, fun w PA pn pc GA gn gc A c hP hG hX => RMake_main w (fun _ => 0) 0 0 r hrf PA pn pc GA gn gc hP hG (by rw [← hr.pend]; exact hf.len) A xl c X hX h0 h1, m1, make_fit hf (by omega), rfl, Int.le_refl _, rfl, rfl, .inl ⟨rfl, ?_⟩⟩
      · rw [← m2, ← m3, ← hr.next]
        refine (Make_any w o τ 13 31 b S hE hf (Ne.symm h13) (Ne.symm h31) ad xl c X hX h0 h1 hn).mono ?_
        rintro e w' ⟨A, c', o', LA, lc, rfl, q1, q2, q3, q4⟩
        exact ⟨A, c', o', LA, lc, rfl, q1, q2, q3, q4⟩
      · rw [← m2]; exact pack_len _ _ _ (by omega)

/-- What the reference's Make has left behind (region 38). -/
structure M38 (w5 W : World) (r1 : RefS) (PA PA0 : Option Addr) (pn pn0 pc : Nat) (ys : List UInt8) (BA : Option Addr) (bc : Nat) (rs : List (Int × Bool)) (LA : Option Addr) (lc : Nat) : Prop where
  P : Sl W (fun _ => 0) 0 1 PA pn pc (ints r1.pend)
  B : Sl W (fun _ => 0) 0 1 BA ys.length bc (byts ys)
  L : Sl W (fun _ => 0) 0 2 LA rs.length lc (reps rs)
  lP : (PA = PA0 ∧ pn = pn0) ∨ (0 < pn → ∀ ad, PA = some ad → w5.heap.size ≤ ad.block)
  lB : 0 < ys.length → ∀ ad, BA = some ad → w5.heap.size ≤ ad.block
theorem M38.mk_ {w5 W W' : World} {r1 : RefS} {PA PA0 : Option Addr} {pn pn0 pc : Nat} {ys : List UInt8} {BA : Option Addr} {bc : Nat} {rs : List (Int × Bool)} {LA : Option Addr} {lc : Nat} (hk : Below w5.heap.size w5 W) (_hb : Below W.heap.size W W') (hP : Sl W' (fun _ => 0) 0 1 PA pn pc (ints r1.pend)) (hB : Sl W' (fun _ => 0) 0 1 BA ys.length bc (byts ys)) (hL : Sl W' (fun _ => 0) 0 2 LA rs.length lc (reps rs))
    (lP : (PA = PA0 ∧ pn = pn0) ∨ (0 < pn → ∀ ad, PA = some ad → W.heap.size ≤ ad.block)) (lB : 0 < ys.length → ∀ ad, BA = some ad → W.heap.size ≤ ad.block) : M38 w5 W' r1 PA PA0 pn pn0 pc ys BA bc rs LA lc :=
  ⟨hP, hB, hL, lP.imp id fun h h0 ad ha => Nat.le_trans hk.size (h h0 ad ha), fun h0 ad ha => Nat.le_trans hk.size (lB h0 ad ha)⟩
theorem M38.up {w5 W W' : World} {r1 : RefS} {PA PA0 : Option Addr} {pn pn0 pc : Nat} {ys : List UInt8} {BA : Option Addr} {bc : Nat} {rs : List (Int × Bool)} {LA : Option Addr} {lc : Nat} (h : M38 w5 W r1 PA PA0 pn pn0 pc ys BA bc rs LA lc) (hb : Below W.heap.size W W') : M38 w5 W' r1 PA PA0 pn pn0 pc ys BA bc rs LA lc :=
  ⟨h.P.below hb, h.B.below hb, h.L.below hb, h.lP, h.lB⟩
def M38Sep (PA : Option Addr) (pn : Nat) (BA : Option Addr) (bn : Nat) (LA : Option Addr) (ln ba : Nat) : Prop := (0 < pn → ∀ ad, PA = some ad → ad.block ≠ ba) ∧ (0 < bn → ∀ ad, BA = some ad → ad.block ≠ ba) ∧ (0 < ln → ∀ ad, LA = some ad → ad.block ≠ ba)
theorem Sl.lt_ {w : World} {o : Own} {τ sz n c : Nat} {A : Option Addr} {xs : List Value} (h : Sl w o τ sz A n c xs) (hn : 0 < n) : ∀ ad, A = some ad → ad.block < w.heap.size := fun ad ha => by
  obtain ⟨g, off, hA, -, hg, -⟩ := h.2.2.2 hn
  rw [hA] at ha; injection ha with ha; subst ha; exact hg
theorem M38.sep_last {w5 W : World} {r1 : RefS} {PA PA0 : Option Addr} {pn pn0 pc : Nat} {ys : List UInt8} {BA : Option Addr} {bc : Nat} {rs : List (Int × Bool)} {LA : Option Addr} {lc : Nat} (h : M38 w5 W r1 PA PA0 pn pn0 pc ys BA bc rs LA lc) : M38Sep PA pn BA ys.length LA rs.length W.heap.size :=
  ⟨fun hn ad ha => Nat.ne_of_lt (h.P.lt_ hn ad ha), fun hn ad ha => Nat.ne_of_lt (h.B.lt_ hn ad ha), fun hn ad ha => Nat.ne_of_lt (h.L.lt_ hn ad ha)⟩
theorem M38.sep_first {w5 W W' : World} {o5 : Own} {τ : Nat} {t : TypeId} {PA PA0 : Option Addr} {pn pn0 pc0 ba : Nat} {xs0 : List Value} {bn : Nat} {BA : Option Addr} {rs : List (Int × Bool)} {LA : Option Addr} {lc : Nat} (h0 : Sl w5 o5 τ 1 PA0 pn0 pc0 xs0) (hge : w5.heap.size ≤ ba) (hlt : ba < W.heap.size)
    (lP : (PA = PA0 ∧ pn = pn0) ∨ (0 < pn → ∀ ad, PA = some ad → W.heap.size ≤ ad.block)) (lB : 0 < bn → ∀ ad, BA = some ad → W.heap.size ≤ ad.block) (hL : Sl W' (fun _ => 0) 0 2 LA rs.length lc (reps rs))
    (hB : Blk W' ba t #[.int .i64 0, .int .i64 0, .int .i64 0, .slice none 0 0, .slice none 0 0]) : M38Sep PA pn BA bn LA rs.length ba := by
  refine ⟨fun hn ad ha => ?_, fun hn ad ha => ?_, fun hn ad ha e => ?_⟩
  · rcases lP with ⟨h1, h2⟩ | h1
    · have := h0.lt_ (h2 ▸ hn) ad (h1 ▸ ha); omega
    · have := h1 hn ad ha; omega
  · have := lB hn ad ha; omega
  · obtain ⟨g, off, hA, -, hg, hx⟩ := hL.2.2.2 hn
    rw [hA] at ha; injection ha with ha; subst ha
    simp only at e
    subst e
    cases rs with
    | nil => exact absurd hn (by simp)
    | cons x l =>
      have h1 := hx 1 (.bool x.2) rfl
      rw [hB.cell] at h1
      match off, h1 with
      | 0, h1 => cases h1
      | 1, h1 => cases h1
      | 2, h1 => cases h1
      | 3, h1 => cases h1
      | off + 4, h1 =>
        have e : (#[.int .i64 0, .int .i64 0, .int .i64 0, .slice none 0 0, .slice none 0 0] : Array Value)[off + 4 + 1]? = none := by simp
        rw [e] at h1; cases h1
theorem Sl.setCell_far {w : World} {o : Own} {τ sz n c : Nat} {A : Option Addr} {xs : List Value} (h : Sl w o τ sz A n c xs) {p : Addr} (hp : 0 < n → ∀ ad, A = some ad → ad.block ≠ p.block) (u : Value) : Sl (w.setCell p u) o τ sz A n c xs := by
  refine ⟨h.1, h.2.1, h.2.2.1, fun hn => ?_⟩
  obtain ⟨g, off, hA, ho, hg, hx⟩ := h.2.2.2 hn
  exact ⟨g, off, hA, ho, by rw [World.size_setCell]; exact hg, fun j v hj => (World.cell?_of_block (Below.heap_setCell w p u g (hp hn _ hA))).trans (hx j v hj)⟩
/-- Region 38 whole: the box too. -/
structure M38B (w5 W : World) (r1 : RefS) (PA PA0 : Option Addr) (pn pn0 pc : Nat) (GA : Option Addr) (gn gc : Nat) (ys : List UInt8) (BA : Option Addr) (bc : Nat) (rs : List (Int × Bool)) (LA : Option Addr) (lc g : Nat) : Prop where
  b : Below w5.heap.size w5 W
  m : M38 w5 W r1 PA PA0 pn pn0 pc ys BA bc rs LA lc
  x : Blk W g 53 #[.int .i64 r1.own, .int .i64 r1.other, .int .i64 r1.next, .slice PA pn pc, .slice GA gn gc]
  ge : w5.heap.size ≤ g
theorem m38 {w5 W : World} {r1 : RefS} {PA PA0 GA : Option Addr} {pn pn0 pc gn gc : Nat} {ys : List UInt8} {BA : Option Addr} {bc : Nat} {rs : List (Int × Bool)} {LA : Option Addr} {lc g : Nat} (hk : Below w5.heap.size w5 W) (hge : w5.heap.size ≤ g) (hB : Blk W g 53 #[.int .i64 0, .int .i64 0, .int .i64 0, .slice none 0 0, .slice none 0 0])
    (h : M38 w5 W r1 PA PA0 pn pn0 pc ys BA bc rs LA lc) (hs : M38Sep PA pn BA ys.length LA rs.length g) :
    M38B w5 (((((W.setCell ⟨g, 0, none⟩ (.int .i64 r1.own)).setCell ⟨g, 1, none⟩ (.int .i64 r1.other)).setCell ⟨g, 2, none⟩ (.int .i64 r1.next)).setCell ⟨g, 3, none⟩ (.slice PA pn pc)).setCell ⟨g, 4, none⟩ (.slice GA gn gc)) r1 PA PA0 pn pn0 pc GA gn gc ys BA bc rs LA lc g := by
  obtain ⟨s1, s2, s3⟩ := hs
  exact ⟨((((hk.setCell (p := ⟨g, 0, none⟩) hge _).setCell (p := ⟨g, 1, none⟩) hge _).setCell (p := ⟨g, 2, none⟩) hge _).setCell (p := ⟨g, 3, none⟩) hge _).setCell (p := ⟨g, 4, none⟩) hge _,
    ⟨((((h.P.setCell_far s1 _).setCell_far s1 _).setCell_far s1 _).setCell_far s1 _).setCell_far s1 _, ((((h.B.setCell_far s2 _).setCell_far s2 _).setCell_far s2 _).setCell_far s2 _).setCell_far s2 _, ((((h.L.setCell_far s3 _).setCell_far s3 _).setCell_far s3 _).setCell_far s3 _).setCell_far s3 _, h.lP, h.lB⟩,
    ((((hB.set_ 0 _).set_ 1 _).set_ 2 _).set_ 3 _).set_ 4 _, hge⟩
theorem below_then {w w1 w2 : World} (h : Below w.heap.size w w1) (h2 : Below w1.heap.size w1 w2) : Below w.heap.size w w2 := h.trans (h2.mono h.size)
/-- One packet more, stored; a row apart is kept. -/
theorem TS.more {w w12 w8 w13 : World} {o9 o8 : Own} {b k s : Nat} {v : Nat → TV} {u : TV} {vs : List Value} {ps : List (List UInt8)} {ys : List UInt8} {A8 BA6 A5 : Option Addr} {n8 c8 bc6 n5 c5 : Nat} {e5 : TypeId} {xs : List Value} (h : TS w w12 o9 b (upd v s u) (k + 1)) (hs : s < 2) (h8 : Step [4 + s] w12 o9 w8 o8)
    (hr : Row w8 o8 (4 + s) 27 1 A8 n8 c8 (vs ++ [.slice BA6 ys.length bc6])) (hvl : vs.length = ps.length) (hvp : ∀ (i : Nat) (p : List UInt8), ps[i]? = some p → ∃ A' n' c', vs[i]? = some (.slice A' n' c') ∧ Sl w12 o9 10 1 A' n' c' (byts p)) (hup : u.ps = ps)
    (hz : Sl w12 o9 10 1 BA6 ys.length bc6 (byts ys)) (hy : 1 ≤ ys.length ∧ ys.length ≤ 2000) (ha : Row w12 o9 31 e5 1 A5 n5 c5 xs) (hpk : ps.length ≤ k) (hW : w13 = w8.setCell ⟨b + 2, s, none⟩ (.slice A8 n8 c8)) :
    (∃ u', TS w w13 o8 b (upd v s u') (k + 1)) ∧ Row w13 o8 31 e5 1 A5 n5 c5 xs := by
  have hps : ((upd v s u) s).ps = ps := by rw [upd_same]; exact hup
  have hmr := made_snoc hvl hvp h8 (by simp <;> omega) hr (hz.step h8 (by simp <;> omega))
  rw [← hps] at hmr
  have htf := h.made' hs h8 hmr hy hW (Nat.le_refl _) (by rw [hps]; omega)
  rw [upd_upd] at htf
  have h2 : Step [23] w8 o8 w13 o8 := by rw [hW]; exact (Step.refl _ _ _).setCell (.inr (by show o8 (b + 2) ∈ [23]; rw [(h8.own _ h.b2.lt).trans h.t2]; simp)) _
  exact ⟨⟨_, htf⟩, (ha.step h8 (by simp <;> omega)).step h2 (by simp)⟩
end Go.Proofs.Ytpmbfgpfpdenbaa
