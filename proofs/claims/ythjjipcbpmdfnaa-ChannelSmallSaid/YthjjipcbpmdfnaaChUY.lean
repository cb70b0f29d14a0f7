/-
  Joined: ChRJ, ChUA, ChUB, ChUC, ChUE.
-/
import Derived.Test.YthjjipcbpmdfnaaChWX
import Derived.Test.YthjjipcbpmdfnaaKitY
import Derived.StillTailTactics
import Derived.Deep.CutBlock
import Derived.Test.YthjjipcbpmdfnaaChRS
import Derived.Test.YthjjipcbpmdfnaaChRZ
import Derived.Test.YthjjipcbpmdfnaaChNQ
import Derived.Test.YthjjipcbpmdfnaaChR
import Derived.Deep.MidRow
import Derived.Deep.DeepCutAuto

/- WALKS of marcheslaw20's chosen at spoilt packets (turned from packet's: XTelA). -/
namespace Go.Proofs.Ythjjipcbpmdfnaa
open Go.RowKit

theorem Sl.head20 {w : World} {o : Own} {τ n c : Nat} {A : Option Addr} {B : List UInt8} (h : Sl w o τ 1 A n c (byts B)) (m : Nat) (hm : m ≤ n) : Sl w o τ 1 A m c (byts (B.take m)) := by
  have h2 := h.cut (i := 0) (j := m) (Nat.zero_le _) hm A (fun g' off' h _ => by rw [h]; simp)
  rw [Nat.zero_mul, List.drop_zero, Nat.sub_zero, Nat.sub_zero, Nat.mul_one] at h2
  have e : List.take m (byts B) = byts (B.take m) := by simp [byts]
  rwa [e] at h2

/-- What 'chosen' comes to, whatever the op: nothing, or some bytes. -/
def ChosenR (w : World) (BA : Option Addr) (bn : Nat) (e : Ending) (w' : World) : Prop :=
  (e = .returned (.tuple #[.slice none 0 0, .bool false]) ∧ Below w.heap.size w w') ∨
  ∃ (p : List UInt8) (A : Option Addr) (c : Nat), e = .returned (.tuple #[.slice A p.length c, .bool true]) ∧ p.length ≤ 2000 ∧ Below w.heap.size w w' ∧ Sl w' (fun _ => 0) 0 1 A p.length c (byts p) ∧ ((A = BA ∧ p.length ≤ bn) ∨ (0 < p.length → ∀ ad, A = some ad → w.heap.size ≤ ad.block))

theorem xor_u8 (a b : Int) : ∃ v : UInt8, bits .xor .u8 a b = (v.toNat : Int) := by
  refine ⟨UInt8.ofNat (bits .xor .u8 a b).toNat, ?_⟩
  have h : 0 ≤ bits .xor .u8 a b ∧ bits .xor .u8 a b < 256 := by
    show 0 ≤ IntKind.u8.wrap _ ∧ IntKind.u8.wrap _ < 256
    rw [IntKind.wrap_u8']
    omega
  obtain ⟨h0, h1⟩ := h
  simp
  omega

theorem Sl.body20 {w : World} {o : Own} {τ n c : Nat} {A : Option Addr} {B : List UInt8} (h : Sl w o τ 1 A n c (byts B)) : Sl w o τ 1 A (B.take 1100).length c (byts (B.take 1100)) := by
  have hs := h.head20 (B.take 1100).length (by have h1 := h.1; simp only [byts, List.length_map, Nat.mul_one] at h1; rw [List.length_take]; omega)
  rwa [show B.take (B.take 1100).length = B.take 1100 by rw [List.length_take]; rcases Nat.le_total 1100 B.length with h | h; rw [Nat.min_eq_left h]; rw [Nat.min_eq_right h, List.take_of_length_le (Nat.le_refl _), List.take_of_length_le h]] at hs

set_option maxRecDepth 100000 in
set_option maxHeartbeats 2000000 in
theorem chosen20_raw (w : World) (o : Own) (τ : Nat) (K S T : Nat) (hk5 : K % 6 = 5) (ht : T % 2 = 0) (BA MA : Option Addr) (bn bc mn mc : Nat) (B : List UInt8) (hB : Sl w o τ 1 BA bn bc (byts B)) (hbn : bn ≤ 9223372036854775807) :
    Calls Try.prog 23 #[.agg (opCells K S T BA bn bc), .slice MA mn mc] w (ChosenR w BA bn) := by
  have t1 : (((K : Int) % 6) == 5) = true := by simp; omega
  have t2 : (((T : Int) % 2) == 0) = true := by simp; omega
  have hbx := Blk.new w 43 (opCells K S T BA bn bc)
  have hb0 := (Below.refl w.heap.size w).alloc (Nat.le_refl _) (.cells (opCells K S T BA bn bc) 43)
  have HC := Lib.hid (fun W (hb : Below w.heap.size w W) => opbody_any W o τ K S T BA bn bc B (hB.below hb))
  have HB := Lib.hid (fun W (hb : Below w.heap.size w W) => (hB.below hb).plain.body20)
  have hPl : (B.take 1100).length ≤ 2000 := by rw [List.length_take]; omega
  have hPb : (B.take 1100).length ≤ bn := by have h1 := hB.1; simp only [byts, List.length_map, Nat.mul_one] at h1; rw [List.length_take]; omega
  obtain ⟨P, hP⟩ : ∃ P, P = B.take 1100 := ⟨_, rfl⟩
  rw [← hP] at HC HB hPl hPb
  have q0 := hbx.cell 0; have q1 := hbx.cell 1; have q2 := hbx.cell 2; have q3 := hbx.cell 3
  simp only [opCells, List.getElem?_toArray, List.getElem?_cons_zero, List.getElem?_cons_succ] at q0 q1 q2 q3 hb0 HC
  have HB0 := Lib.hid hb0
  clear hbx hB hb0 hP
  go_enter Try.func23, Try.ntmps23
  go_wp2_with fail
  refine (HC.out _ HB0.out).mono ?_
  rintro e w1 ⟨rfl, hb1⟩
  have HB1 := Lib.hid (HB0.out.trans (hb1.mono HB0.out.size))
  clear hb1
  go_wp2_with fail
  go_ret2
  exact .inr ⟨P, BA, bc, rfl, hPl, HB1.out, HB.out _ HB1.out, .inl ⟨rfl, hPb⟩⟩

set_option maxRecDepth 100000 in
set_option maxHeartbeats 4000000 in
theorem chosen20_spoilt (w : World) (o : Own) (τ τ2 K S T : Nat) (hK : K < 256) (hT : T < 256) (hk5 : K % 6 = 5) (ht : T % 2 = 1) (BA MA : Option Addr) (bn bc mn mc : Nat) (B : List UInt8) (hB : Sl w o τ2 1 BA bn bc (byts B)) (hbn : bn ≤ 9223372036854775807) (ps : List (List UInt8)) {π : Nat} (hM : MadeC w o τ π MA mn mc ps) (hpl : ∀ p ∈ ps, 1 ≤ p.length ∧ p.length ≤ 2000) (hps : ps.length ≤ 100000) :
    Calls Try.prog 23 #[.agg (opCells K S T BA bn bc), .slice MA mn mc] w (ChosenR w BA bn) := by
  obtain ⟨vs, hr, hl, hp⟩ := hM
  have hmn : mn = ps.length := by have := hr.len; omega
  have t1 : (((K : Int) % 6) == 5) = true := by simp; omega
  have t2 : (((T : Int) % 2) == 0) = false := by simp; omega
  by_cases h0 : mn = 0
  · have hps0 : ps = [] := List.length_eq_zero_iff.1 (by omega)
    subst h0
    clear hr hp hmn hl hps0
    go_enter Try.func23, Try.ntmps23
    go_wp2_with fail
    go_ret2
    exact .inl ⟨rfl, (Below.refl _ _).alloc (Nat.le_refl _) _⟩
  · obtain ⟨j, hj⟩ : ∃ j, j = mn - 1 - T % mn := ⟨_, rfl⟩
    have hjl : j < mn := by omega
    have hji : (mn : Int) - 1 - (T : Int) % (mn : Int) = (j : Int) := by
      have : T % mn < mn := Nat.mod_lt _ (by omega)
      have e : (T : Int) % (mn : Int) = ((T % mn : Nat) : Int) := by simp
      rw [e]; omega
    obtain ⟨p, hpj⟩ : ∃ p, ps[j]? = some p := ⟨ps[j]'(by omega), List.getElem?_eq_getElem _⟩
    obtain ⟨A', c', hv, hsl⟩ := hp j p hpj
    obtain ⟨n', hnp⟩ : ∃ n', n' = p.length := ⟨_, rfl⟩
    rw [← hnp] at hv hsl
    obtain ⟨hp1, hpb⟩ := hpl p (List.mem_of_getElem? hpj)
    obtain ⟨g, hMA, hog, hc, -⟩ := hr.at_ hjl
    subst hMA
    have d0 := hc.trans hv
    have hglt : g < w.heap.size := hr.lt rfl
    have H0 := Lib.hid (((NS.refl w).alloc (.cells (opCells K S T BA bn bc) 43)).alloc (.cells #[] 5))
    have b0 := (Blk.new w 43 (opCells K S T BA bn bc)).alloc (.cells #[] 5)
    have r0 := NRow.made (w := w.alloc (.cells (opCells K S T BA bn bc) 43)) (B := w.heap.size) (by simp) 5 1 0 (cs := #[]) rfl (by decide) 0 (Nat.le_refl _)
    simp only [World.size_alloc] at r0
    have R0 := Lib.hid r0; have BX := Lib.hid b0
    have S0 := Lib.hid (hsl.below H0.out.fin)
    have HBB := Lib.hid (fun W (hb : Below w.heap.size w W) => hB.below hb)
    have hbl : B.length = bn := by have := hB.1; simpa using this
    have HBL := Lib.hid hbl; have HNP := Lib.hid hnp
    have hn1 : 1 ≤ n' := by omega
    have hnb : n' ≤ 2000 := by omega
    have hmb : mn ≤ 100000 := by omega
    have hm0 : (mn : Int) ≠ 0 := by omega
    simp only [opCells] at H0 R0 BX S0
    clear r0 b0 hr hp hl hc hv hsl hpj hj hnp hmn hbl hB hp1 hpb
    go_enter Try.func23, Try.ntmps23
    go_upto_region 6 with (at_builtin; refine wpList_append_new _ rfl (.tmp 22) (.tmp 35) _ rfl el_byte H0.out _ 0 0 _ rfl R0.out _ n' _ (byts p) rfl S0.out (one_byts _) (by omega) (by simp only [maxLen]; omega) ?_; intro A1 c1 w1 hr1 hk1 hl1 hb1; rw [Nat.zero_add] at hr1; have R1 := Lib.hid hr1; have H1 := Lib.hid hk1; have B1 := Lib.hid (hb1 _ _ _ BX.out (by decide)); clear hr1 hk1 hl1 hb1)
    have q0 := B1.out.cell 0; have q3 := B1.out.cell 3
    simp only [List.getElem?_toArray, List.getElem?_cons_zero, List.getElem?_cons_succ] at q0 q3
    have R1' : Hid (NRow w.heap.size w1 5 1 A1 n' c1 (byts p)) := Lib.hid (by have := R1.out; simpa using this)
    clear R1 R0 S0 H0 BX d0 hji
    rcases Nat.eq_zero_or_pos bn with hb0 | hb0
    · have hd : ¬ 0 < bn := by omega
      have HB0 := Lib.hid hb0
      clear hb0
      go_wp2_with fail
      go_ret2
      refine .inr ⟨p, A1, c1, ?_, by rw [← HNP.out]; exact hnb, H1.out.fin, ?_, .inr fun _ => R1'.out.new⟩
      · rw [← HNP.out]; rfl
      · have := R1'.out.sl.plain; rwa [HNP.out] at this
    · have hsb := HBB.out w1 H1.out.fin
      obtain ⟨y, hy⟩ : ∃ y, B[0]? = some y := ⟨_, List.getElem?_eq_getElem (by rw [HBL.out]; exact hb0)⟩
      obtain ⟨gB, oB, hBA, hgB, cB⟩ := hsb.u8_at hy
      rw [Nat.add_zero] at cB
      subst hBA
      obtain ⟨b, hb⟩ : ∃ b : Nat, b = y.toNat := ⟨_, rfl⟩
      rw [← hb] at cB
      have hb256 : b < 256 := by rw [hb]; exact y.toNat_lt
      obtain ⟨i, hi⟩ : ∃ i : Nat, (b : Int) % (n' : Int) = (i : Int) := ⟨b % n', by simp⟩
      have hil : i < n' := by have := Int.emod_lt_of_pos (b : Int) (show (0 : Int) < (n' : Int) by omega); omega
      obtain ⟨gp, cur, hA1, -, hbp, -, -, -, -⟩ := R1'.out.form (by omega)
      obtain ⟨x, hx⟩ : ∃ x, p[i]? = some x := ⟨_, List.getElem?_eq_getElem (by rw [← HNP.out]; exact hil)⟩
      subst hA1
      obtain ⟨cx, fx⟩ := R1'.out.cellAt (k := i) (u := .int .u8 (x.toNat : Int)) (by simp [byts, hx])
      obtain ⟨xv, hxv⟩ : ∃ xv : Int, xv = (x.toNat : Int) := ⟨_, rfl⟩
      rw [← hxv] at cx
      have hn0 : (n' : Int) ≠ 0 := by omega
      have hiz : (0 : Int) ≤ (i : Int) := by omega
      have hin : (i : Int) < (n' : Int) := by omega
      have hbi : (0 : Int) < (bn : Int) := by omega
      have hgp := hbp.lt
      have hnn : ¬ n' = 0 := by omega
      have hwb : IntKind.i64.wrap (b : Int) = (b : Int) := IntWalk.i64_in _ (by omega)
      have hwi : IntKind.i64.wrap (i : Int) = (i : Int) := IntWalk.i64_in _ (by omega)
      have hit : (b : Int).tmod (n' : Int) = (i : Int) := by rw [Int.tmod_eq_emod_of_nonneg (by omega)]; exact hi
      clear hsb hy hb hxv hx hbp HBB
      go_wp2_with fail
      go_still_tail 18, (by kernel_rfl)
      obtain ⟨v, hv⟩ := xor_u8 xv (bits .or .u8 (IntKind.u8.wrap (bn : Int)) 1)
      rw [hv]
      change wpList _ _ _ _ _ (World.drew w1)
      have HD := Lib.hid H1.out.drew
      have RD : Hid (NRow w.heap.size w1.drew 5 1 (some ⟨gp, 0, none⟩) n' c1 (byts p)) := Lib.hid R1'.out
      obtain ⟨W2, hW2⟩ : ∃ W2, W2 = w1.drew := ⟨_, rfl⟩
      have cx2 : W2.cell? ⟨gp, i, none⟩ = some (.int .u8 xv) := by rw [hW2]; exact cx
      have fx2 : W2.frozen? ⟨gp, i, none⟩ = false := by rw [hW2]; exact fx
      have hgp2 : gp < W2.heap.size := by rw [hW2]; exact hgp
      rw [← hW2] at HD RD ⊢
      clear hW2 cx fx hgp hv R1' H1 B1 q0 q3 cB
      go_wp2_with fail
      go_ret2
      have hrow := RD.out.set_ hil (.int .u8 (v.toNat : Int))
      have e : (byts p).set i (.int .u8 (v.toNat : Int)) = byts (p.set i v) := by simp [byts, List.map_set]
      rw [e] at hrow
      have hg0 : w.heap.size ≤ gp := RD.out.new _ rfl
      refine .inr ⟨p.set i v, some ⟨gp, 0, none⟩, c1, ?_, by rw [List.length_set, ← HNP.out]; exact hnb, (HD.out.setCell hg0 _).fin, ?_, .inr fun _ => RD.out.new⟩
      · rw [List.length_set, ← HNP.out]; rfl
      · rw [List.length_set, ← HNP.out]; exact hrow.sl.plain
end Go.Proofs.Ythjjipcbpmdfnaa

/- PLAIN: bounds of a side of ChannelTells behind each step of a script. -/
namespace Go.Proofs.Ythjjipcbpmdfnaa

theorem RefRel.fit {s : EndS} {r : RefS} (hr : RefRel s r) (h : s.Fit) (ho : s.other ≤ 1099511627776) (hg : r.got.length ≤ 100000) : r.Fit := by
  obtain ⟨h1, h2, h3, h4, h5, h6, h7⟩ := hr
  have q1 := h.own0; have q2 := h.own1; have q3 := h.next1; have q4 := h.oth0; have q5 := h.new1; have q6 := h.len
  refine ⟨by omega, by omega, fun hne => ?_, by omega, by omega, by omega, by rw [← h4]; omega, hg⟩
  have := h6.2 hne
  omega
theorem refRecv_got (r : RefS) (xs : List UInt8) : (refRecv r xs).1.got.length ≤ r.got.length + 1 := by
  unfold refRecv refRecv1 refRecv2 refTail
  repeat' split
  all_goals simp

theorem pack_len (S : EndS) (num : Int) (xs : List UInt8) (h : xs.length ≤ 1191) : 1 ≤ (packP S num xs).length ∧ (packP S num xs).length ≤ 2000 := by
  unfold packP
  split <;> simp [bytesOf_len] <;> omega
/-- A side: its Channel's and its reference's states are alike and in bounds; k: steps made so far. -/
structure Both (s : ChS) (r : RCh) (k : Nat) : Prop where
  fit : s.Fit
  rel : CRel s r
  ot : s.e.other ≤ 1099511627776
  nx : s.e.next ≤ 1099511627776 + k
  nw : s.e.newest ≤ 1099511627776 + 40000 * k
  sn : s.sent ≤ k
  nn : s.next ≤ 64 * k
  gl : r.e.got.length ≤ k
  psl : ∀ m ∈ r.out, m.ps.length ≤ 300 * k
  bs : ∀ m ∈ r.out, m.b.length ≤ 1024
  bx : r.box.length ≤ 64 * k
  nb : r.next ≤ r.box.length
theorem Both.up {s : ChS} {r : RCh} {k : Nat} (h : Both s r k) : Both s r (k + 1) :=
  ⟨h.fit, h.rel, h.ot, by have := h.nx; omega, by have := h.nw; omega, Nat.le_succ_of_le h.sn, by have := h.nn; omega, Nat.le_succ_of_le h.gl, fun m hm => by have := h.psl m hm; omega, h.bs, by have := h.bx; omega, h.nb⟩
theorem Both.rfit {s : ChS} {r : RCh} {k : Nat} (h : Both s r k) (hk : k ≤ 1000) : r.e.Fit := h.rel.e.fit h.fit.e h.ot (by have := h.gl; omega)
theorem Both.pend {s : ChS} {r : RCh} {k : Nat} (h : Both s r k) : r.e.pend.length ≤ 256 := by rw [← h.rel.e.pend]; exact h.fit.e.len
theorem Both.out {s : ChS} {r : RCh} {k : Nat} (h : Both s r k) : r.out.length ≤ k := by rw [← h.rel.len]; exact h.sn
theorem Both.bd {s : ChS} {r : RCh} {k : Nat} (h : Both s r k) (hk : k ≤ 1000) : RBd r := ⟨by have := h.out; omega, by have := h.bx; omega, fun m hm => by have := h.psl m hm; omega, h.bs⟩
theorem Both.tick {s : ChS} {r : RCh} {k : Nat} (h : Both s r k) : 0 ≤ r.tick := by rw [← h.rel.tick]; exact h.fit.t0
theorem Both.new {own oth : Int} (h0 : 0 ≤ own) (h1 : own ≤ 1099511627776) (h2 : 0 ≤ oth) (h3 : oth ≤ 1099511627776) : Both (chNew own oth) (rNew own oth) 0 :=
  ⟨chNew_fit h0 h1 h2 h3, rel_new own oth, h3, by show own ≤ _; omega, by show oth - 1 ≤ _; omega, Nat.le_refl _, Nat.le_refl _, Nat.le_refl _, fun m h => (by cases h), fun m h => (by cases h), Nat.le_refl _, Nat.le_refl _⟩
/-- A message is sent. -/
theorem Both.send {s : ChS} {r : RCh} {k : Nat} (h : Both s r k) (hk : k ≤ 1000) (b : List UInt8) : Both (sendS s b).1 (rSend r b).1 (k + 1) ∧ (sendS s b).2 = (rSend r b).2 := by
  obtain ⟨h1, h2⟩ := send_rel h.rel h.fit b
  obtain ⟨k1, k2, k3, k4, k5⟩ := sendS_keep h.fit b (by have := h.sn; omega)
  have hr : (rSend r b).1 = r ∨ (b.length ≤ 1024 ∧ (rSend r b).1 = { r with out := r.out ++ [⟨b, false, []⟩] }) := by
    unfold rSend
    split
    · exact .inl rfl
    · rename_i hb
      split
      · exact .inl rfl
      · exact .inr ⟨by omega, rfl⟩
  refine ⟨⟨k1, h1, by rw [k2]; exact h.ot, by rw [k2]; have := h.nx; omega, by rw [k2]; have := h.nw; omega, by have := h.sn; omega, by rw [k5]; have := h.nn; omega, ?_, ?_, ?_, ?_, ?_⟩, h2⟩
  all_goals rcases hr with hr | ⟨hb, hr⟩
  all_goals rw [hr]
  · exact Nat.le_succ_of_le h.gl
  · exact Nat.le_succ_of_le h.gl
  · exact fun m hm => by have := h.psl m hm; omega
  · intro m hm
    rcases List.mem_append.1 hm with hm | hm
    · have := h.psl m hm; omega
    · rw [List.mem_singleton.1 hm]; exact Nat.zero_le _
  · exact h.bs
  · intro m hm
    rcases List.mem_append.1 hm with hm | hm
    · exact h.bs m hm
    · rw [List.mem_singleton.1 hm]; exact hb
  · have := h.bx; omega
  · have := h.bx; show r.box.length ≤ _; omega
  · exact h.nb
  · exact h.nb
theorem rDec_ps {rs : List (Int × Bool)} : ∀ {l : List RMsg} {m : RMsg}, m ∈ rDec l rs → ∃ m0 ∈ l, m.ps.length ≤ m0.ps.length ∧ m.b = m0.b := by
  induction rs with
  | nil => intro l m h; exact ⟨m, h, Nat.le_refl _, rfl⟩
  | cons r rs ih =>
    intro l m h
    obtain ⟨m1, h1, h2, h3⟩ := ih (l := rDecR l r) h
    obtain ⟨m0, h4, rfl⟩ := List.mem_map.1 h1
    exact ⟨m0, h4, Nat.le_trans h2 (List.length_filter_le _ _), h3⟩
theorem rMark1_b {nu t : Int} {out : List RMsg} {n : Nat} (h : ∀ m ∈ out, m.b.length ≤ 1024) : ∀ m ∈ rMark1 nu t out n, m.b.length ≤ 1024 := by
  intro m hm
  unfold rMark1 at hm
  split at hm
  · exact h m hm
  · rename_i x hx
    rcases List.mem_or_eq_of_mem_set hm with hm | rfl
    · exact h m hm
    · exact h x (List.mem_of_getElem? hx)
theorem rMark_b (nu t : Int) (l : List Nat) : ∀ (out : List RMsg), (∀ m ∈ out, m.b.length ≤ 1024) → ∀ m ∈ rMark nu t out l, m.b.length ≤ 1024 := by
  induction l with
  | nil => intro out h; exact h
  | cons n l ih => intro out h m hm; exact ih _ (rMark1_b h) m hm
/-- What a flush hands out, and what it leaves. -/
theorem Both.flush {s : ChS} {r : RCh} {k : Nat} (h : Both s r k) (hk : k ≤ 1000) (t : Int) (ht : t ≤ 9223372036854775807) : Both (flushS s t).1 (rFlush r t).1 (k + 1) ∧ (flushS s t).2 = (rFlush r t).2 ∧ (rFlush r t).2.1.length ≤ 2000 := by
  obtain ⟨h1, h2⟩ := flush_rel h.rel h.fit t
  have hnx := h.nx
  obtain ⟨k1, k2, k3, k4⟩ := flushS_keep h.fit ht (by omega)
  have hge := rBodyG_le r.out t r.out.length
  have hL : (rBody r.out t).2.length ≤ 297 := by unfold rBody; omega
  have hBl : (rBody r.out t).1.length ≤ 1191 := by unfold rBody; omega
  have hfit := h.rfit hk
  have hfm := h.psl
  have hr : (rFlush r t).1.e.got = r.e.got ∧ (∀ m ∈ (rFlush r t).1.out, m.ps.length ≤ 300 * (k + 1) ∧ m.b.length ≤ 1024) ∧ (rFlush r t).1.box = r.box ∧ (rFlush r t).1.next = r.next := by
    unfold rFlush
    split
    · exact ⟨rfl, fun m hm => ⟨by have := h.psl m hm; omega, h.bs m hm⟩, rfl, rfl⟩
    · simp only
      split
      · refine ⟨rfl, fun m hm => ?_, rfl, rfl⟩
        obtain ⟨m0, h4, h5, h6⟩ := rDec_ps hm
        have h7 := rMark_ps r.e.next t (rBody r.out t).2 r.out (300 * k) h.psl m0 h4
        have h8 := rMark_b r.e.next t (rBody r.out t).2 r.out h.bs m0 h4
        exact ⟨by omega, by rw [h6]; exact h8⟩
      · split
        · exact ⟨rfl, fun m hm => ⟨by have := h.psl m hm; omega, h.bs m hm⟩, rfl, rfl⟩
        · exact ⟨rfl, fun m hm => ⟨by have := h.psl m hm; omega, h.bs m hm⟩, rfl, rfl⟩
  have hq : (rFlush r t).2.1.length ≤ 2000 := by
    rw [← h2]
    have hbl := bodyS_len { s with tick := t }
    unfold flushS
    split
    · exact Nat.zero_le _
    · simp only
      split
      · exact (pack_len _ _ _ hbl.1).2
      · split
        · split
          · unfold ackP; simp [bytesOf_len] <;> omega
          · exact Nat.zero_le _
        · exact Nat.zero_le _
  obtain ⟨g1, g2, g3, g4⟩ := hr
  exact ⟨⟨k1, h1, by rw [k2.other]; exact h.ot, by have := k2.next1; omega, by have := k2.newest1; have := h.nw; omega, by rw [k3]; exact Nat.le_succ_of_le h.sn, by rw [k4]; have := h.nn; omega, by rw [g1]; exact Nat.le_succ_of_le h.gl, fun m hm => (g2 m hm).1, fun m hm => (g2 m hm).2, by rw [g3]; have := h.bx; omega, by rw [g3, g4]; exact h.nb⟩, h2, hq⟩
theorem rOut_len (box : List (Option (List UInt8))) : ∀ k n, n + (rOut box k n).length ≤ max n box.length
  | 0, n => by simp [rOut]; omega
  | k + 1, n => by
    unfold rOut
    split
    · rename_i b hb
      have hlt := (List.getElem?_eq_some_iff.1 hb).1
      have := rOut_len box k (n + 1)
      simp only [List.length_cons]; omega
    · simp; omega
/-- A packet, whatever it is, is received. -/
theorem Both.receive {s : ChS} {r : RCh} {k : Nat} (h : Both s r k) (hk : k ≤ 1000) (xs : List UInt8) : Both (recvS s xs).1 (rReceive r xs).1 (k + 1) ∧ (recvS s xs).2 = (rReceive r xs).2 := by
  obtain ⟨h1, h2⟩ := receive_rel h.rel h.fit xs
  have hnw := h.nw
  have hnn := h.nn
  obtain ⟨k1, k2, k3, k4, k5⟩ := recvS_keep h.fit xs (by omega) (by omega)
  have hg := refRecv_got r.e xs
  have hr : (rReceive r xs).1.e.got.length ≤ k + 1 ∧ (∀ m ∈ (rReceive r xs).1.out, m.ps.length ≤ 300 * (k + 1) ∧ m.b.length ≤ 1024) ∧ (rReceive r xs).1.box.length ≤ 64 * (k + 1) ∧ (rReceive r xs).1.next ≤ (rReceive r xs).1.box.length := by
    have hgl := h.gl; have hbx := h.bx; have hnb := h.nb
    have hdec : ∀ rs, ∀ m ∈ rDec r.out rs, m.ps.length ≤ 300 * (k + 1) ∧ m.b.length ≤ 1024 := fun rs m hm => by
      obtain ⟨m0, h4, h5, h6⟩ := rDec_ps hm
      exact ⟨by have := h.psl m0 h4; omega, by rw [h6]; exact h.bs m0 h4⟩
    unfold rReceive
    simp only
    split
    · exact ⟨by show r.e.got.length ≤ _; omega, fun m hm => ⟨by have := h.psl m hm; omega, h.bs m hm⟩, by show r.box.length ≤ _; omega, hnb⟩
    · split
      · exact ⟨by show (refRecv r.e xs).1.got.length ≤ _; omega, hdec _, by show r.box.length ≤ _; omega, hnb⟩
      · split
        · exact ⟨by show (refRecv r.e xs).1.got.length ≤ _; omega, hdec _, by show r.box.length ≤ _; omega, hnb⟩
        · split
          · exact ⟨by show (refRecv r.e xs).1.got.length ≤ _; omega, hdec _, by show r.box.length ≤ _; omega, hnb⟩
          · rename_i l hp
            have hl := parse_lt _ _ _ hp
            have hge := rFills_ge l r.box
            have hle : (l.foldl rFill r.box).length ≤ 64 * (k + 1) := rFills_len l r.box (fun p hp => by have := hl p hp; have := h.rel.next; omega) (by omega)
            refine ⟨by show (refRecv r.e xs).1.got.length ≤ _; omega, hdec _, hle, ?_⟩
            show r.next + (rOut (l.foldl rFill r.box) _ r.next).length ≤ (l.foldl rFill r.box).length
            have := rOut_len (l.foldl rFill r.box) (l.foldl rFill r.box).length r.next
            omega
  obtain ⟨g1, g2, g3, g4⟩ := hr
  exact ⟨⟨k1, h1, by rw [k2.other]; exact h.ot, by have := k2.next1; have := h.nx; omega, by have := k2.newest1; omega, by rw [k3]; exact Nat.le_succ_of_le h.sn, by omega, g1, fun m hm => (g2 m hm).1, fun m hm => (g2 m hm).2, g3, g4⟩, h2⟩
end Go.Proofs.Ythjjipcbpmdfnaa

/- The state of ChannelTells in memory: two Channels, two Channels of the reference, what was flushed. -/
namespace Go.Proofs.Ythjjipcbpmdfnaa
open Go.RowKit

/-- A side: where its Channel lies, its state, the reference's, and what it has flushed. -/
structure UV where
  b : Nat
  c : ChS
  r : RCh
  v : RV
  MA : Option Addr
  mn : Nat
  mc : Nat
  ps : List (List UInt8)
/-- Whose is what of side s. -/
def TU (s : Nat) : ChT := ⟨1 + 10 * s, 2 + 10 * s, 3 + 10 * s, fun n => 1000 + 2 * n + s⟩
theorem TU_ok {s : Nat} (hs : s < 2) : (TU s).Ok := ⟨by show 2 + 10 * s ≠ 1 + 10 * s; omega, by show 3 + 10 * s ≠ 1 + 10 * s; omega, by show 3 + 10 * s ≠ 2 + 10 * s; omega, fun n => by show 1000 + 2 * n + s ≠ 1 + 10 * s; omega, fun n => by show 1000 + 2 * n + s ≠ 2 + 10 * s; omega⟩
structure USide (W : World) (o : Own) (s : Nat) (x : UV) (k : Nat) : Prop where
  C : ChAt W o (TU s) x.b x.c
  bo : Both x.c x.r k
  R : RChIn W o 40 40 x.r x.v
  m : MadeC W o (24 + s) 40 x.MA x.mn x.mc x.ps
  pl : ∀ p ∈ x.ps, 1 ≤ p.length ∧ p.length ≤ 2000
  pn : x.ps.length ≤ k
abbrev UV.cells (x : UV) : List Value := (rcells x.r x.v).toList
/-- The state behind k steps; b: the array of Channels, b + 1: that of the reference's, b + 2: that of the packets. -/
structure US (w W : World) (o : Own) (b : Nat) (v : Nat → UV) (k : Nat) : Prop where
  bl : Below w.heap.size w W
  ow : ∀ j, j < w.heap.size → o j = 40
  b0 : Blk W b 24 #[.pointer (some ⟨(v 0).b, 0, none⟩), .pointer (some ⟨(v 1).b, 0, none⟩)]
  b1 : ∀ s, s < 2 → W.rangeAt (b + 1) (s * 11) (v s).cells
  th : W.there (b + 1) 0 22
  lt : b + 1 < W.heap.size
  b2 : Blk W (b + 2) 34 #[.slice (v 0).MA (v 0).mn (v 0).mc, .slice (v 1).MA (v 1).mn (v 1).mc]
  t0 : o b = 21
  t1 : o (b + 1) = 22
  t2 : o (b + 2) = 23
  S : ∀ s, s < 2 → USide W o s (v s) k
/-- Tags that may be written without a word: scratch, and messages that were delivered. -/
def OkT (v : Nat → UV) (t : Nat) : Prop := (36 ≤ t ∧ t ≤ 39) ∨ ∃ s n, s < 2 ∧ t = 1000 + 2 * n + s ∧ n < (v s).c.next
def updU (v : Nat → UV) (s : Nat) (u : UV) : Nat → UV := fun i => if i = s then u else v i
theorem updU_same (v : Nat → UV) (s : Nat) (u : UV) : updU v s u s = u := by simp [updU]
theorem updU_other (v : Nat → UV) {s i : Nat} (u : UV) (h : i ≠ s) : updU v s u i = v i := by simp [updU, h]

section
variable {w W W' : World} {o o' : Own} {b k : Nat} {v : Nat → UV} {ts : List Nat}
theorem rangeAt_step {W W' : World} {o o' : Own} {ts : List Nat} (hs : Step ts W o W' o') {b off : Nat} {cs : List Value} (h : W.rangeAt b off cs) (hl : b < W.heap.size) (hn : o b ∉ ts) : W'.rangeAt b off cs := fun j v hv => (hs.cell (p := ⟨b, off + j, none⟩) hl hn).1.trans (h j v hv)
theorem there_step {W W' : World} {o o' : Own} {ts : List Nat} (hs : Step ts W o W' o') {b off n : Nat} (h : W.there b off n) (hl : b < W.heap.size) (hn : o b ∉ ts) : W'.there b off n := fun j hj => by
  obtain ⟨h1, h2⟩ := hs.cell (p := ⟨b, off + j, none⟩) hl hn
  rw [h1, h2]; exact h j hj
theorem setCells_step (b : Nat) (o : Own) : ∀ (vs : List Value) (off : Nat) (W : World), Step [o b] W o (W.setCells b off vs) o
  | [], off, W => Step.refl _ _ _
  | u :: vs, off, W => ((Step.refl [o b] W o).setCell (p := ⟨b, off, none⟩) (.inr (by simp)) u).trans (setCells_step b o vs (off + 1) (W.setCell ⟨b, off, none⟩ u))
theorem USide.step {s : Nat} {x : UV} (h : USide W o s x k) (hs : Step ts W o W' o') (h1 : ∀ t ∈ ts, t ≠ 1 + 10 * s ∧ t ≠ 2 + 10 * s ∧ t ≠ 3 + 10 * s ∧ t ≠ 40 ∧ t ≠ 24 + s ∧ ∀ n, x.c.next ≤ n → t ≠ 1000 + 2 * n + s) : USide W' o' s x k :=
  ⟨h.C.step hs (fun hm => (h1 _ hm).1 rfl) (fun hm => (h1 _ hm).2.1 rfl) (fun hm => (h1 _ hm).2.2.1 rfl) (fun n hn hm => by
      cases he : x.c.early n with
      | none => exact hn he
      | some e => exact (h1 _ hm).2.2.2.2.2 n (h.bo.fit.el n e he).1 rfl), h.bo, h.R.step hs (fun hm => (h1 _ hm).2.2.2.1 rfl) (fun hm => (h1 _ hm).2.2.2.1 rfl), h.m.step hs (fun hm => (h1 _ hm).2.2.2.2.1 rfl) (fun hm => (h1 _ hm).2.2.2.1 rfl), h.pl, h.pn⟩
theorem OkT.far {t : Nat} (h : OkT v t) : t ≠ 40 ∧ t ≠ 21 ∧ t ≠ 22 ∧ t ≠ 23 ∧ ∀ s, s < 2 → t ≠ 1 + 10 * s ∧ t ≠ 2 + 10 * s ∧ t ≠ 3 + 10 * s ∧ t ≠ 40 ∧ t ≠ 24 + s ∧ ∀ n, (v s).c.next ≤ n → t ≠ 1000 + 2 * n + s := by
  rcases h with h | ⟨i, m, hi, rfl, hm⟩
  · exact ⟨by omega, by omega, by omega, by omega, fun s hs => ⟨by omega, by omega, by omega, by omega, by omega, fun n _ => by omega⟩⟩
  · refine ⟨by omega, by omega, by omega, by omega, fun s hs => ⟨by omega, by omega, by omega, by omega, by omega, fun n hn e => ?_⟩⟩
    have : i = s := by omega
    subst this
    omega
theorem US.below (h : US w W o b v k) (hs : Step ts W o W' o') (h40 : 40 ∉ ts) : Below w.heap.size w W' ∧ ∀ j, j < w.heap.size → o' j = 40 :=
  ⟨h.bl.trans ⟨hs.os, hs.tape, hs.output, hs.size, fun j hj => hs.block j (Nat.lt_of_lt_of_le hj h.bl.size) (by rw [h.ow j hj]; exact h40)⟩, fun j hj => (hs.own j (Nat.lt_of_lt_of_le hj h.bl.size)).trans (h.ow j hj)⟩
/-- Where nothing of the state has changed. -/
theorem US.step (h : US w W o b v k) (hs : Step ts W o W' o') (ht : ∀ t ∈ ts, OkT v t) : US w W' o' b v k := by
  have n : ∀ t ∈ ts, _ := fun t hm => (ht t hm).far
  have n0 : o b ∉ ts := fun e => by rw [h.t0] at e; exact (n _ e).2.1 rfl
  have n1 : o (b + 1) ∉ ts := fun e => by rw [h.t1] at e; exact (n _ e).2.2.1 rfl
  have n2 : o (b + 2) ∉ ts := fun e => by rw [h.t2] at e; exact (n _ e).2.2.2.1 rfl
  obtain ⟨hb, ho⟩ := h.below hs (fun e => (n _ e).1 rfl)
  exact ⟨hb, ho, h.b0.step hs n0, fun s h2 => rangeAt_step hs (h.b1 s h2) h.lt n1, there_step hs h.th h.lt n1, Nat.lt_of_lt_of_le h.lt hs.size, h.b2.step hs n2,
    (hs.own _ h.b0.lt).trans h.t0, (hs.own _ h.lt).trans h.t1, (hs.own _ h.b2.lt).trans h.t2, fun s h2 => (h.S s h2).step hs (fun t hm => (n t hm).2.2.2.2 s h2)⟩
theorem US.up (h : US w W o b v k) : US w W o b v (k + 1) :=
  ⟨h.bl, h.ow, h.b0, h.b1, h.th, h.lt, h.b2, h.t0, h.t1, h.t2, fun s hs => ⟨(h.S s hs).C, (h.S s hs).bo.up, (h.S s hs).R, (h.S s hs).m, (h.S s hs).pl, Nat.le_succ_of_le (h.S s hs).pn⟩⟩
theorem US.endc (h : US w W o b v k) {s : Nat} (hs : s < 2) : W.cell? ⟨b, s, none⟩ = some (.pointer (some ⟨(v s).b, 0, none⟩)) := by
  rw [h.b0.cell]
  rcases (show s = 0 ∨ s = 1 by omega) with rfl | rfl <;> rfl
theorem US.madec (h : US w W o b v k) {s : Nat} (hs : s < 2) : W.cell? ⟨b + 2, s, none⟩ = some (.slice (v s).MA (v s).mn (v s).mc) := by
  rw [h.b2.cell]
  rcases (show s = 0 ∨ s = 1 by omega) with rfl | rfl <;> rfl
theorem cells11 (x : UV) : x.cells.length = 11 := rfl
/-- The Channel of side s and that of the reference have made a step; it is stored among the others. -/
theorem US.put (h : US w W o b v k) {s : Nat} (h2 : s < 2) (hs : Step ts W o W' o') {c' : ChS} {r' : RCh} {v' : RV} (ht : ∀ t ∈ ts, t = 1 + 10 * s ∨ t = 2 + 10 * s ∨ (36 ≤ t ∧ t ≤ 39))
    (hC : ChAt W' o' (TU s) (v s).b c') (hR : RChIn W' o' 40 40 r' v') (hB : Both c' r' (k + 1)) (hn : (v s).c.next ≤ c'.next) :
    US w (W'.setCells (b + 1) (s * 11) (rcells r' v').toList) o' b (updU v s { v s with c := c', r := r', v := v' }) (k + 1) := by
  have n0 : o b ∉ ts := fun e => by rw [h.t0] at e; have := ht _ e; omega
  have n1 : o (b + 1) ∉ ts := fun e => by rw [h.t1] at e; have := ht _ e; omega
  have n2 : o (b + 2) ∉ ts := fun e => by rw [h.t2] at e; have := ht _ e; omega
  have b0 := h.b0.step hs n0; have b2 := h.b2.step hs n2
  have b1 := fun i hi => rangeAt_step hs (h.b1 i hi) h.lt n1
  have th := there_step hs h.th h.lt n1
  have t0 := (hs.own _ h.b0.lt).trans h.t0; have t1 := (hs.own _ h.lt).trans h.t1; have t2 := (hs.own _ h.b2.lt).trans h.t2
  have sC : Step [22] W' o' (W'.setCells (b + 1) (s * 11) (rcells r' v').toList) o' := by have := setCells_step (b + 1) o' (rcells r' v').toList (s * 11) W'; rwa [t1] at this
  obtain ⟨k1, k2⟩ := h.below (hs.mono (ts' := ts ++ [22]) (fun t ht => by simp [ht])|>.trans (sC.mono (by simp))) (by
    intro e
    rcases List.mem_append.1 e with e | e
    · have := ht _ e; omega
    · simp at e)
  have e0 : ∀ i, (updU v s { v s with c := c', r := r', v := v' } i).b = (v i).b := fun i => by unfold updU; split <;> simp_all
  have e1 : ∀ i, (updU v s { v s with c := c', r := r', v := v' } i).MA = (v i).MA ∧ (updU v s { v s with c := c', r := r', v := v' } i).mn = (v i).mn ∧ (updU v s { v s with c := c', r := r', v := v' } i).mc = (v i).mc := fun i => by unfold updU; split <;> simp_all
  refine ⟨k1, k2, ?_, fun i hi => ?_, World.there_setCells th _ _ _, Nat.lt_of_lt_of_le (Nat.lt_of_lt_of_le h.lt hs.size) sC.size, ?_, (sC.own _ b0.lt).trans t0, (sC.own _ (Nat.lt_of_lt_of_le h.lt hs.size)).trans t1, (sC.own _ b2.lt).trans t2, fun i hi => ?_⟩
  · rw [e0, e0]; exact b0.step sC (by rw [t0]; simp)
  · by_cases hi' : i = s
    · subst hi'
      rw [updU_same]
      exact World.rangeAt_setCells_same _ _ _ _ (fun j hj => by
        have := th (i * 11 + j) (by have : j < 11 := hj; omega)
        rw [Nat.zero_add] at this; exact this)
    · rw [updU_other _ _ hi']
      exact World.rangeAt_setCells_apart (b1 i hi) _ _ _ (.inr (by rw [cells11]; show i * 11 + 11 ≤ s * 11 ∨ s * 11 + 11 ≤ i * 11; omega))
  · rw [(e1 0).1, (e1 0).2.1, (e1 0).2.2, (e1 1).1, (e1 1).2.1, (e1 1).2.2]; exact b2.step sC (by rw [t2]; simp)
  · by_cases hi' : i = s
    · subst hi'
      rw [updU_same]
      have hS := h.S i hi
      exact ⟨hC.step sC (by show 1 + 10 * i ∉ _; simp; omega) (by show 2 + 10 * i ∉ _; simp; omega) (by show 3 + 10 * i ∉ _; simp; omega) (fun n _ => by show 1000 + 2 * n + i ∉ _; simp; omega), hB, hR.step sC (by simp) (by simp),
        (hS.m.step hs (fun e => by have := ht _ e; omega) (fun e => by have := ht _ e; omega)).step sC (by simp; omega) (by simp), hS.pl, Nat.le_succ_of_le hS.pn⟩
    · rw [updU_other _ _ hi']
      have hS := ((h.S i hi).step hs (fun t hm => by have := ht t hm; exact ⟨by omega, by omega, by omega, by omega, by omega, fun n _ => by omega⟩)).step sC (fun t hm => by simp at hm; subst hm; exact ⟨by omega, by omega, by omega, by omega, by omega, fun n _ => by omega⟩)
      exact ⟨hS.C, hS.bo.up, hS.R, hS.m, hS.pl, Nat.le_succ_of_le hS.pn⟩
/-- Side s has flushed one more packet. -/
theorem US.more (h : US w W o b v k) {s : Nat} (h2 : s < 2) (hs : Step [24 + s] W o W' o') {A' : Option Addr} {n' c' : Nat} {q : List UInt8} (hm : MadeC W' o' (24 + s) 40 A' n' c' ((v s).ps ++ [q])) (hq : 1 ≤ q.length ∧ q.length ≤ 2000) (hpn : (v s).ps.length + 1 ≤ k) :
    US w (W'.setCell ⟨b + 2, s, none⟩ (.slice A' n' c')) o' b (updU v s { v s with MA := A', mn := n', mc := c', ps := (v s).ps ++ [q] }) k := by
  have b0 := h.b0.step hs (by rw [h.t0]; simp; omega); have b2 := h.b2.step hs (by rw [h.t2]; simp; omega)
  have n1 : o (b + 1) ∉ [24 + s] := by rw [h.t1]; simp; omega
  have t0 := (hs.own _ h.b0.lt).trans h.t0; have t1 := (hs.own _ h.lt).trans h.t1; have t2 := (hs.own _ h.b2.lt).trans h.t2
  have sC : Step [23] W' o' (W'.setCell ⟨b + 2, s, none⟩ (.slice A' n' c')) o' := (Step.refl _ _ _).setCell (.inr (by show o' (b + 2) ∈ [23]; rw [t2]; simp)) _
  obtain ⟨k1, k2⟩ := h.below ((hs.mono (ts' := [24 + s, 23]) (by simp)).trans (sC.mono (by simp))) (by simp; omega)
  have e0 : ∀ i, (updU v s { v s with MA := A', mn := n', mc := c', ps := (v s).ps ++ [q] } i).b = (v i).b := fun i => by unfold updU; split <;> simp_all
  have e1 : ∀ i, (updU v s { v s with MA := A', mn := n', mc := c', ps := (v s).ps ++ [q] } i).cells = (v i).cells := fun i => by unfold updU; split <;> simp_all
  have lt' : b + 1 < W'.heap.size := Nat.lt_of_lt_of_le h.lt hs.size
  have n1' : o' (b + 1) ∉ [23] := by rw [t1]; simp
  refine ⟨k1, k2, by rw [e0, e0]; exact b0.step sC (by rw [t0]; simp), fun i hi => ?_, there_step sC (there_step hs h.th h.lt n1) lt' n1', Nat.lt_of_lt_of_le lt' sC.size, ?_, (sC.own _ b0.lt).trans t0, (sC.own _ lt').trans t1, (sC.own _ b2.lt).trans t2, fun i hi => ?_⟩
  · rw [e1 i]; exact rangeAt_step sC (rangeAt_step hs (h.b1 i hi) h.lt n1) lt' n1'
  · have := b2.set_ s (.slice A' n' c')
    rcases (show s = 0 ∨ s = 1 by omega) with rfl | rfl
    · exact this
    · exact this
  · by_cases hi' : i = s
    · subst hi'
      rw [updU_same]
      have hS := (h.S i hi)
      refine ⟨(hS.C.step hs (by show 1 + 10 * i ∉ _; simp; omega) (by show 2 + 10 * i ∉ _; simp; omega) (by show 3 + 10 * i ∉ _; simp; omega) (fun n _ => by show 1000 + 2 * n + i ∉ _; simp; omega)).step sC (by show 1 + 10 * i ∉ _; simp; omega) (by show 2 + 10 * i ∉ _; simp; omega) (by show 3 + 10 * i ∉ _; simp; omega) (fun n _ => by show 1000 + 2 * n + i ∉ _; simp; omega), hS.bo, (hS.R.step hs (by simp; omega) (by simp; omega)).step sC (by simp) (by simp), hm.step sC (by simp; omega) (by simp), fun p hp => ?_, ?_⟩
      · rcases List.mem_append.1 hp with hp | hp
        · exact hS.pl p hp
        · rw [List.mem_singleton.1 hp]; exact hq
      · rw [List.length_append]; exact hpn
    · rw [updU_other _ _ hi']
      exact ((h.S i hi).step hs (fun t hm => by simp at hm; subst hm; exact ⟨by omega, by omega, by omega, by omega, by omega, fun n _ => by omega⟩)).step sC (fun t hm => by simp at hm; subst hm; exact ⟨by omega, by omega, by omega, by omega, by omega, fun n _ => by omega⟩)
end
end Go.Proofs.Ythjjipcbpmdfnaa

/- ChannelTells: what its beginning leaves. -/
namespace Go.Proofs.Ythjjipcbpmdfnaa
open Go.RowKit

def zero22 : Array Value := #[.int .i64 0, .int .i64 0, .int .i64 0, .slice none 0 0, .slice none 0 0, .slice none 0 0, .slice none 0 0, .slice none 0 0, .int .i64 0, .int .i64 0, .bool false, .int .i64 0, .int .i64 0, .int .i64 0, .slice none 0 0, .slice none 0 0, .slice none 0 0, .slice none 0 0, .slice none 0 0, .int .i64 0, .int .i64 0, .bool false]
def o40 : Own := fun _ => 40
/-- The three arrays; k sides are made. -/
structure UI (w W : World) (o : Own) (b k : Nat) (bs : Nat → Nat) (ow ot : Nat → Int) : Prop where
  bl : Below w.heap.size w W
  old : ∀ j, j < w.heap.size → o j = 40
  b0 : Blk W b 24 #[.pointer (if 0 < k then some ⟨bs 0, 0, none⟩ else none), .pointer (if 1 < k then some ⟨bs 1, 0, none⟩ else none)]
  b1 : ∀ s, s < k → W.rangeAt (b + 1) (s * 11) (rcells (rNew (ow s) (ot s)) rv0).toList
  th : W.there (b + 1) 0 22
  lt : b + 1 < W.heap.size
  b2 : Blk W (b + 2) 34 #[.slice none 0 0, .slice none 0 0]
  t0 : o b = 21
  t1 : o (b + 1) = 22
  t2 : o (b + 2) = 23
  S : ∀ s, s < k → ChAt W o (TU s) (bs s) (chNew (ow s) (ot s))
section
variable {w W W' : World} {o o' : Own} {b k : Nat} {bs : Nat → Nat} {ow ot : Nat → Int}
theorem UI.start (w : World) (bs : Nat → Nat) (ow ot : Nat → Int) : ∃ (w0 : World) (o0 : Own), ((w.alloc (.cells #[.pointer none, .pointer none] 24)).alloc (.cells zero22 33)).alloc (.cells #[.slice none 0 0, .slice none 0 0] 34) = w0 ∧ UI w w0 o0 w.heap.size 0 bs ow ot := by
  have s1 := ((Step.refl [] w o40).alloc (.cells #[.pointer none, .pointer none] 24) 21)
  have s2 := s1.alloc (.cells zero22 33) 22
  have s3 := s2.alloc (.cells #[.slice none 0 0, .slice none 0 0] 34) 23
  have z1 : (w.alloc (.cells #[.pointer none, .pointer none] 24)).heap.size = w.heap.size + 1 := World.size_alloc ..
  have z2 : ((w.alloc (.cells #[.pointer none, .pointer none] 24)).alloc (.cells zero22 33)).heap.size = w.heap.size + 2 := (World.size_alloc ..).trans (by rw [z1])
  have hb1 : Blk (((w.alloc (.cells #[.pointer none, .pointer none] 24)).alloc (.cells zero22 33)).alloc (.cells #[.slice none 0 0, .slice none 0 0] 34)) (w.heap.size + 1) 33 zero22 := (z1 ▸ Blk.new _ _ _ : Blk _ (w.heap.size + 1) _ _).alloc _
  refine ⟨_, _, rfl, ⟨s3.to_below (by simp), fun j hj => s3.own j hj, ((Blk.new _ _ _).alloc _).alloc _, fun s hs => absurd hs (Nat.not_lt_zero _), fun j hj => ?_, hb1.lt, (z2 ▸ Blk.new _ _ _ : Blk _ (w.heap.size + 2) _ _), ?_, ?_, ?_, fun s hs => absurd hs (Nat.not_lt_zero _)⟩⟩
  · refine ⟨?_, hb1.frozen _⟩
    rw [Nat.zero_add, hb1.cell, Array.getElem?_eq_getElem (show j < zero22.size from hj)]; rfl
  · rw [ext_lt (by rw [z2]; omega), ext_lt (by rw [z1]; omega), ext_ge (Nat.le_refl _)]
  · rw [ext_lt (by rw [z2]; omega), ext_ge (by rw [z1]; omega)]
  · rw [ext_ge (by rw [z2]; omega)]
theorem UI.below (h : UI w W o b k bs ow ot) {ts : List Nat} (hs : Step ts W o W' o') (h40 : 40 ∉ ts) : Below w.heap.size w W' ∧ ∀ j, j < w.heap.size → o' j = 40 :=
  ⟨h.bl.trans ⟨hs.os, hs.tape, hs.output, hs.size, fun j hj => hs.block j (Nat.lt_of_lt_of_le hj h.bl.size) (by rw [h.old j hj]; exact h40)⟩, fun j hj => (hs.own j (Nat.lt_of_lt_of_le hj h.bl.size)).trans (h.old j hj)⟩
theorem UI.step (h : UI w W o b k bs ow ot) {ts : List Nat} (hs : Step ts W o W' o') (ht : ∀ t ∈ ts, 36 ≤ t ∧ t ≤ 39) (hk : k ≤ 2) : UI w W' o' b k bs ow ot := by
  have n0 : o b ∉ ts := fun e => by rw [h.t0] at e; have := ht _ e; omega
  have n1 : o (b + 1) ∉ ts := fun e => by rw [h.t1] at e; have := ht _ e; omega
  have n2 : o (b + 2) ∉ ts := fun e => by rw [h.t2] at e; have := ht _ e; omega
  obtain ⟨hb, ho⟩ := h.below hs (fun e => by have := ht _ e; omega)
  exact ⟨hb, ho, h.b0.step hs n0, fun s h2 => rangeAt_step hs (h.b1 s h2) h.lt n1, there_step hs h.th h.lt n1, Nat.lt_of_lt_of_le h.lt hs.size, h.b2.step hs n2, (hs.own _ h.b0.lt).trans h.t0, (hs.own _ h.lt).trans h.t1, (hs.own _ h.b2.lt).trans h.t2,
    fun s h2 => (h.S s h2).step hs (fun e => by have := ht _ e; have e1 : (TU s).τ = 1 + 10 * s := rfl; omega) (fun e => by have := ht _ e; have e1 : (TU s).τe = 2 + 10 * s := rfl; omega) (fun e => by have := ht _ e; have e1 : (TU s).σ = 3 + 10 * s := rfl; omega) (fun n _ e => by have := ht _ e; have e1 : (TU s).ε n = 1000 + 2 * n + s := rfl; omega)⟩
theorem UI.re (h : UI w W o b k bs ow ot) {bs' : Nat → Nat} (hb : ∀ i, i < k → bs' i = bs i) : UI w W o b k bs' ow ot := by
  refine ⟨h.bl, h.old, ?_, h.b1, h.th, h.lt, h.b2, h.t0, h.t1, h.t2, fun s hs => by rw [hb s hs]; exact h.S s hs⟩
  have e0 : (if 0 < k then some (⟨bs' 0, 0, none⟩ : Addr) else none) = if 0 < k then some ⟨bs 0, 0, none⟩ else none := by
    split
    · rw [hb 0 (by assumption)]
    · rfl
  have e1 : (if 1 < k then some (⟨bs' 1, 0, none⟩ : Addr) else none) = if 1 < k then some ⟨bs 1, 0, none⟩ else none := by
    split
    · rw [hb 1 (by assumption)]
    · rfl
  rw [e0, e1]; exact h.b0
theorem Blk.range {W : World} {g : Nat} {t : TypeId} {cs : Array Value} (h : Blk W g t cs) : W.rangeAt g 0 cs.toList := fun j v hv => by
  rw [Nat.zero_add, h.cell]; simpa using hv
/-- One side more. -/
theorem UI.put (h : UI w W o b k bs ow ot) (hk : k < 2) (hC : ChAt W o (TU k) (bs k) (chNew (ow k) (ot k))) :
    UI w ((W.setCell ⟨b, k, none⟩ (.pointer (some ⟨bs k, 0, none⟩))).setCells (b + 1) (k * 11) (rcells (rNew (ow k) (ot k)) rv0).toList) o b (k + 1) bs ow ot := by
  have s1 : Step [21] W o (W.setCell ⟨b, k, none⟩ (.pointer (some ⟨bs k, 0, none⟩))) o := (Step.refl _ _ _).setCell (.inr (by show o b ∈ [21]; rw [h.t0]; simp)) _
  have b0 := h.b0.set_ k (.pointer (some ⟨bs k, 0, none⟩))
  have b2 := h.b2.step s1 (by rw [h.t2]; simp)
  have n1 : o (b + 1) ∉ [21] := by rw [h.t1]; simp
  have b1 := fun i hi => rangeAt_step s1 (h.b1 i hi) h.lt n1
  have th := there_step s1 h.th h.lt n1
  have lt : b + 1 < (W.setCell ⟨b, k, none⟩ (.pointer (some ⟨bs k, 0, none⟩))).heap.size := Nat.lt_of_lt_of_le h.lt s1.size
  obtain ⟨k1, k2⟩ := h.below s1 (by simp)
  have S1 : ∀ s, s < 2 → ∀ c, ChAt W o (TU s) (bs s) c → ChAt (W.setCell ⟨b, k, none⟩ (.pointer (some ⟨bs k, 0, none⟩))) o (TU s) (bs s) c := fun s hs c hc => hc.step s1 (by show 1 + 10 * s ∉ _; simp; omega) (by show 2 + 10 * s ∉ _; simp; omega) (by show 3 + 10 * s ∉ _; simp; omega) (fun n _ => by show 1000 + 2 * n + s ∉ _; simp; omega)
  generalize W.setCell ⟨b, k, none⟩ (.pointer (some ⟨bs k, 0, none⟩)) = W1 at s1 b0 b2 b1 th lt k1 S1 ⊢
  have sC : Step [22] W1 o (W1.setCells (b + 1) (k * 11) (rcells (rNew (ow k) (ot k)) rv0).toList) o := by have := setCells_step (b + 1) o (rcells (rNew (ow k) (ot k)) rv0).toList (k * 11) W1; rwa [h.t1] at this
  refine ⟨k1.trans ⟨sC.os, sC.tape, sC.output, sC.size, fun j hj => sC.block j (Nat.lt_of_lt_of_le hj k1.size) (by rw [h.old j hj]; simp)⟩, h.old, ?_, fun s hs => ?_, World.there_setCells th _ _ _, Nat.lt_of_lt_of_le lt sC.size, b2.step sC (by rw [h.t2]; simp), h.t0, h.t1, h.t2, fun s hs => ?_⟩
  · have := b0.step sC (by rw [h.t0]; simp)
    rcases (show k = 0 ∨ k = 1 by omega) with rfl | rfl
    · exact this
    · exact this
  · by_cases hi : s = k
    · subst hi
      exact World.rangeAt_setCells_same _ _ _ _ (fun j hj => by
        have := th (s * 11 + j) (by have : j < 11 := hj; omega)
        rw [Nat.zero_add] at this; exact this)
    · exact World.rangeAt_setCells_apart (b1 s (by omega)) _ _ _ (.inr (by show s * 11 + 11 ≤ k * 11 ∨ k * 11 + 11 ≤ s * 11; omega))
  · have hc : ChAt W1 o (TU s) (bs s) (chNew (ow s) (ot s)) := by
      by_cases hi : s = k
      · subst hi; exact S1 s hk _ hC
      · exact S1 s (by omega) _ (h.S s (by omega))
    exact hc.step sC (by show 1 + 10 * s ∉ _; simp; omega) (by show 2 + 10 * s ∉ _; simp; omega) (by show 3 + 10 * s ∉ _; simp; omega) (fun n _ => by show 1000 + 2 * n + s ∉ _; simp; omega)
theorem UI.done (h : UI w W o b 2 bs ow ot) (h1 : ∀ s, s < 2 → 0 ≤ ow s ∧ ow s ≤ 1099511627776 ∧ 0 ≤ ot s ∧ ot s ≤ 1099511627776) : US w W o b (fun s => ⟨bs s, chNew (ow s) (ot s), rNew (ow s) (ot s), rv0, none, 0, 0, []⟩) 0 :=
  ⟨h.bl, h.old, h.b0, h.b1, h.th, h.lt, h.b2, h.t0, h.t1, h.t2, fun s hs => ⟨h.S s hs, Both.new (h1 s hs).1 (h1 s hs).2.1 (h1 s hs).2.2.1 (h1 s hs).2.2.2, rch_new W o 40 40 (ow s) (ot s), MadeC.nil_ _ _ _ _, fun p hp => (by cases hp), Nat.le_refl _⟩⟩
end
end Go.Proofs.Ythjjipcbpmdfnaa

/- 'chosen' of marcheslaw20 in one form, whatever the kind. -/
namespace Go.Proofs.Ythjjipcbpmdfnaa
open Go.RowKit

def ChosenU (w : World) (o : Own) (e : Ending) (w' : World) : Prop :=
  ∃ (p : List UInt8) (pl : Nat) (A : Option Addr) (c : Nat) (ok : Bool), e = .returned (.tuple #[.slice A pl c, .bool ok]) ∧ pl = p.length ∧ pl ≤ 2000 ∧ Below w.heap.size w w' ∧ Sl w' (ext o w.heap.size 40) 40 1 A pl c (byts p)
theorem ChosenR.one {w w' : World} {o : Own} {BA : Option Addr} {bn bc : Nat} {B : List Value} {e : Ending} (h : ChosenR w BA bn e w') (hB : Sl w o 40 1 BA bn bc B) : ChosenU w o e w' := by
  rcases h with ⟨rfl, hb⟩ | ⟨p, A, c, rfl, h1, h2, h3, h4⟩
  · exact ⟨[], 0, none, 0, false, rfl, rfl, by omega, hb, Sl.nil_ _ _ _ _ _ _ (Nat.zero_le _)⟩
  · refine ⟨p, p.length, A, c, true, rfl, rfl, h1, h2, ?_⟩
    rcases h4 with ⟨rfl, h5⟩ | h5
    · exact h3.loc hB (.inl rfl) (fun h => .inl (by omega))
    · exact h3.tag' h5 o 40
/-- No old block has tag 38. -/
def no38 (o : Own) : Own := fun k => if o k = 38 then 37 else o k
theorem no38_ne {o : Own} {k t : Nat} (h : o k = t) (ht : t ≠ 38) : no38 o k = t := by unfold no38; rw [if_neg (by omega), h]
theorem no38_not (o : Own) (k : Nat) : no38 o k ≠ 38 := by unfold no38; split <;> omega
theorem ChosenTo.one {w w' : World} {o : Own} {T : Nat} {ps : List (List UInt8)} {e : Ending} (h : ChosenTo w (no38 o) T ps e w') (hpl : ∀ p ∈ ps, p.length ≤ 2000) : ChosenU w o e w' := by
  obtain ⟨o', st, h⟩ := h
  have hb : Below w.heap.size w w' := st.to_below (by simp)
  rcases h with ⟨-, rfl⟩ | ⟨p, A, c, hp, rfl, hs⟩
  · exact ⟨[], 0, none, 0, false, rfl, rfl, by omega, hb, Sl.nil_ _ _ _ _ _ _ (Nat.zero_le _)⟩
  · refine ⟨p, p.length, A, c, true, rfl, rfl, hpl p (List.mem_of_getElem? hp), hb, ?_⟩
    refine hs.plain.tag' (fun h0 ad ha => ?_) o 40
    obtain ⟨g, off, hA, hg, -, -⟩ := hs.2.2.2 h0
    rw [ha] at hA; injection hA with hA; subst hA
    show w.heap.size ≤ g
    rcases Nat.lt_or_ge g w.heap.size with hlt | hge
    · exact absurd ((st.own g hlt).symm.trans hg) (no38_not o g)
    · exact hge
theorem MadeC.no38_ {w : World} {o : Own} {τ n c : Nat} {A : Option Addr} {ps : List (List UInt8)} (h : MadeC w o τ 40 A n c ps) (ht : τ ≠ 38) : MadeC w (no38 o) τ 40 A n c ps := by
  obtain ⟨vs, hr, hl, hp⟩ := h
  exact ⟨vs, hr.re (fun k hk => no38_ne hk ht), hl, fun i p hi => by obtain ⟨A', c', q1, q2⟩ := hp i p hi; exact ⟨A', c', q1, q2.re (fun k _ hk => no38_ne hk (by decide))⟩⟩
theorem chosen_one {w : World} {o : Own} {K S T : Nat} (hK : K < 256) (hT : T < 256) {BA MA : Option Addr} {bn bc mn mc : Nat} {B : List UInt8} (hB : Sl w o 40 1 BA bn bc (byts B)) (hbn : bn ≤ 9223372036854775807) {τ : Nat} (ht : τ ≠ 38) {ps : List (List UInt8)} (hM : MadeC w o τ 40 MA mn mc ps) (hpl : ∀ p ∈ ps, 1 ≤ p.length ∧ p.length ≤ 2000) (hps : ps.length ≤ 100000) :
    Calls Try.prog 23 #[.agg #[.int .u8 K, .int .u8 S, .int .u8 T, .slice BA bn bc], .slice MA mn mc] w (ChosenU w o) := by
  by_cases h5 : K % 6 = 5
  · rcases (show T % 2 = 0 ∨ T % 2 = 1 by omega) with h2 | h2
    · exact (chosen20_raw w o 40 K S T h5 h2 BA MA bn bc mn mc B hB hbn).mono fun e w' h => h.one hB
    · exact (chosen20_spoilt w o τ 40 K S T hK hT h5 h2 BA MA bn bc mn mc B hB hbn ps hM hpl hps).mono fun e w' h => h.one hB
  · exact (chosen_any w (no38 o) τ 40 K S T hK hT h5 BA MA bn bc mn mc ps (hM.no38_ ht) (fun p hp => by have := hpl p hp; omega) hps).mono fun e w' h => h.one fun p hp => (hpl p hp).2
/-- How many messages are delivered, and how long they are. -/
theorem recvS_out {s : ChS} (h : s.Fit) (xs : List UInt8) : s.next + (recvS s xs).2.1.length ≤ (recvS s xs).1.next ∧ (recvS s xs).2.1.length ≤ 64 ∧ ∀ x ∈ (recvS s xs).2.1, x.length ≤ 1024 := by
  have hd := decS_e (s := { s with e := (recvP s.e xs).1 }) h.fs (recvP s.e xs).2.2.1
  unfold recvS
  simp only
  split
  · exact ⟨Nat.le_refl _, Nat.zero_le _, fun x hx => (by cases hx)⟩
  · split
    · exact ⟨by rw [hd.2.1]; exact Nat.le_refl _, Nat.zero_le _, fun x hx => (by cases hx)⟩
    · split
      · exact ⟨by show _ ≤ (decS _ _).next; rw [hd.2.1]; exact Nat.le_refl _, Nat.zero_le _, fun x hx => (by cases hx)⟩
      · split
        · exact ⟨by show _ ≤ (decS _ _).next; rw [hd.2.1]; exact Nat.le_refl _, Nat.zero_le _, fun x hx => (by cases hx)⟩
        · rename_i l hp
          have hk := keepS_bound s.next l s.early h.el (parseC_bound _ _ _ _ hp)
          refine ⟨Nat.le_refl _, dlv_len _ _ _, fun x hx => ?_⟩
          obtain ⟨i, hi⟩ := List.mem_iff_getElem?.1 hx
          exact (hk _ _ (dlv_get hi)).2.2
/-- The messages from the i-th on, of those that were delivered. -/
structure MsgsFrom (w : World) (o : Own) (ρ : Nat) (ε : Nat → Nat) (n : Nat) (A : Option Addr) (m c : Nat) (vs : List Value) (ms : List (List UInt8)) (i : Nat) : Prop where
  row : Row w o ρ 41 1 A m c vs
  len : ms.length = m
  el : ∀ j x, i ≤ j → ms[j]? = some x → ∃ XA xl xc, vs[j]? = some (.slice XA xl xc) ∧ Row w o (ε (n + j)) 5 1 XA xl xc (byts x)
section
variable {w w' : World} {o o' : Own} {ρ n m c i : Nat} {ε : Nat → Nat} {A : Option Addr} {vs : List Value} {ms : List (List UInt8)} {ts : List Nat}
theorem MsgsAt.from_ (h : MsgsAt w o ρ ε n A m c vs ms) : MsgsFrom w o ρ ε n A m c vs ms 0 := ⟨h.row, h.len, fun j x _ hx => h.el j x hx⟩
theorem MsgsFrom.next (h : MsgsFrom w o ρ ε n A m c vs ms i) (hs : Step [ε (n + i)] w o w' o') (h1 : ε (n + i) ≠ ρ) (h2 : ∀ a b, ε a = ε b → a = b) : MsgsFrom w' o' ρ ε n A m c vs ms (i + 1) :=
  ⟨h.row.step hs (by simpa using Ne.symm h1), h.len, fun j x hj hx => by
    obtain ⟨XA, xl, xc, q1, q2⟩ := h.el j x (by omega) hx
    exact ⟨XA, xl, xc, q1, q2.step hs (by simp; intro e; have := h2 _ _ e; omega)⟩⟩
end
end Go.Proofs.Ythjjipcbpmdfnaa
