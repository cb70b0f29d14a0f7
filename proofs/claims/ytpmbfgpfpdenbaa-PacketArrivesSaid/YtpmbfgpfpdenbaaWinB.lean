/-
  WALK of PacketWindow.
-/
import Derived.Test.YtpmbfgpfpdenbaaWinA
import Derived.Test.YtpmbfgpfpdenbaaHonestA
import Derived.Laws.BitsAllLaws
import Derived.Lib.MinMax
namespace Go.Proofs.Ytpmbfgpfpdenbaa
open Go.RowKit

theorem LinkOk.makes {w w' : World} {o : Own} {l : Nat} {own other : Int} {X Y : ASide} {m : Nat} {e : Ending} (hL : LinkOk w o l own other X Y m) (h : StepTo w o l 0 1 own other (X.make (markB X.bodies.length []), Y) e w') :
    e = .returned (.bool true) ∧ ∃ o', Step linkTags w o w' o' ∧ LinkOk w' o' l own other (X.make (markB X.bodies.length [])) Y (m + 1) := by
  obtain ⟨he, o', v, u, cells, hst, hl⟩ := h
  have hi := make_inv hL.inv hL.inv' (xs := markB X.bodies.length []) (by rw [hL.inv.n]; exact markB_ok _ _)
  obtain ⟨-, e2, e3⟩ := make_parts X (markB X.bodies.length [])
  refine ⟨he, o', hst, ⟨v, u, cells, hl⟩, hi.1, hi.2, ⟨?_, ?_, ?_, ?_⟩, hL.o0, hL.o1, hL.p0, hL.p1⟩
  · rw [e3]; have := hL.sized.bx; simp; omega
  · have := hL.sized.bY; omega
  · rw [e2]; have := hL.sized.mx; simp; omega
  · have := hL.sized.my; omega

theorem LinkOk.taken {w w' : World} {o : Own} {l : Nat} {own other : Int} {X Y : ASide} {m : Nat} {e : Ending} {p : APkt} (hL : LinkOk w o l own other X Y m) (hp : PktOk X Y p) (h : StepTo w o l 1 0 other own (Y.take p, X.given Y.e p) e w') :
    e = .returned (.bool true) ∧ ∃ o', Step linkTags w o w' o' ∧ LinkOk w' o' l own other (X.given Y.e p) (Y.take p) m := by
  obtain ⟨he, o', v, u, cells, hst, hl⟩ := h
  obtain ⟨h1, h2, -⟩ := take_inv hL.inv' hL.inv hp
  obtain ⟨g1, g2⟩ := given_len X Y.e p
  refine ⟨he, o', hst, ⟨u, v, cells, hl.swap⟩, h2, h1, ⟨?_, ?_, ?_, ?_⟩, hL.o0, hL.o1, hL.p0, hL.p1⟩
  · rw [g1]; exact hL.sized.bx
  · exact hL.sized.bY
  · rw [g2]; exact hL.sized.mx
  · exact hL.sized.my

theorem bit_u8 (b r : Nat) (hb : b < 256) : (Go.bits .and .u8 ((b : Int) / 2 ^ r) 1 == 1) = decide (b / 2 ^ r % 2 = 1) := by
  have e : ((b : Int) / 2 ^ r) = ((b / 2 ^ r : Nat) : Int) := by simp
  have hlt : b / 2 ^ r < 256 := Nat.lt_of_le_of_lt (Nat.div_le_self _ _) hb
  rw [e, show (1 : Int) = ((1 : Nat) : Int) from rfl, u8_and_nat _ _ hlt (by omega), Nat.and_one_is_mod, Bool.eq_iff_iff]
  simp; omega
theorem bitT_u32 (b r : Nat) (hb : b < 4294967296) : (Go.bits .and .u32 ((b : Int) / 2 ^ r) 1 == 1) = b.testBit r := by
  have e : ((b : Int) / 2 ^ r) = ((b / 2 ^ r : Nat) : Int) := by simp
  have hlt : b / 2 ^ r < 4294967296 := Nat.lt_of_le_of_lt (Nat.div_le_self _ _) hb
  rw [e, show (1 : Int) = ((1 : Nat) : Int) from rfl, u32_and_nat _ _ hlt (by omega), Nat.and_one_is_mod, Bool.eq_iff_iff, Nat.testBit, Nat.shiftRight_eq_div_pow, Nat.and_comm, Nat.and_one_is_mod]
  simp; omega

/-- The packets that a side has made: where the j-th lies. -/
theorem MadeRow.get {w : World} {o : Own} {τ n c : Nat} {A : Option Addr} {ps : List (List UInt8)} (h : MadeRow w o τ A n c ps) {j : Nat} {p : List UInt8} (hp : ps[j]? = some p) :
    ∃ g A' n' c', A = some ⟨g, 0, none⟩ ∧ o g = τ ∧ j < n ∧ w.cell? ⟨g, j, none⟩ = some (.slice A' n' c') ∧ Sl w o 10 1 A' n' c' (byts p) := by
  obtain ⟨vs, hr, hl, hv⟩ := h
  have hj := (List.getElem?_eq_some_iff.1 hp).1
  have hn : vs.length = n := by have := hr.len; omega
  obtain ⟨A', n', c', hv0, hs⟩ := hv j p hp
  obtain ⟨g, hA, ho, hc, -⟩ := hr.at_ (k := j) (by omega)
  exact ⟨g, A', n', c', hA, ho, by omega, hc.trans hv0, hs⟩

theorem enc_len {own other : Int} {X Y : ASide} {p : APkt} (h : PktOk X Y p) : (p.enc own other).length ≤ 31 := by
  obtain ⟨b, a⟩ := p
  unfold APkt.enc
  cases b with
  | none =>
    cases a with
    | none => simp
    | some q => simp [bytesOf_len]
  | some q =>
    obtain ⟨k, xs⟩ := q
    have := (h.body k xs rfl).2.2.1
    cases a with
    | none => simp [bytesOf_len]; omega
    | some r => simp [bytesOf_len]; omega

/-- Behind 'makes': where the packet lies, and what 'takes' makes of it. -/
theorem win_ready {w : World} {o : Own} {l : Nat} {own other : Int} {X Y : ASide} {m k : Nat} {p : APkt} (hL : LinkOk w o l own other X Y m) (hp : X.made[k]? = some p) (hm : m ≤ 900) :
    ∃ (mA : Option Addr) (mn mc mg : Nat) (A' : Option Addr) (n' c' : Nat), w.cell? ⟨l, 1, none⟩ = some (.slice mA mn mc) ∧ mA = some ⟨mg, 0, none⟩ ∧ k < mn ∧ w.cell? ⟨mg, k, none⟩ = some (.slice A' n' c') ∧
      Hid (Calls Try.prog 16 #[.pointer (some ⟨l, 0, none⟩), .int .i64 1, .slice A' n' c'] w fun e w' => e = .returned (.bool true) ∧ ∃ o', Step linkTags w o w' o' ∧ LinkOk w' o' l own other (X.given Y.e p) (Y.take p) m) := by
  have hL' := hL
  obtain ⟨⟨v, u, cells, hl⟩, hI, hI', hz, -⟩ := hL
  have hz' : Sized Y X 900 := ⟨by have := hz.bY; omega, by have := hz.bx; omega, by have := hz.my; omega, by have := hz.mx; omega⟩
  have hok := hI.pkts p (List.mem_of_getElem? hp)
  obtain ⟨g, A', n', c', hA, ho, hkn, hc, hs⟩ := hl.x.made.get (j := k) (p := p.enc own other) (by rw [List.getElem?_map, hp]; rfl)
  have hn47 : n' ≤ 140737488355328 := by
    have h1 := hs.1
    simp only [byts, List.length_map, Nat.mul_one] at h1
    rw [← h1]
    have := enc_len (own := own) (other := other) hok
    omega
  refine ⟨v.mA, v.mn, v.mc, g, A', n', c', (hl.b.cell _).trans hl.cx.c1, hA, hkn, hc, Lib.hid ?_⟩
  refine (takes_link w o l 1 0 10 (by omega) rfl other own Y X u v cells hl.swap hI' hI hL'.p0 hL'.p1 hL'.o0 hL'.o1 hz' p hok A' n' c' hs hn47 (.inl rfl)).mono ?_
  exact fun e w' h => hL'.taken hok h

/-- A packet of the window, received. -/
theorem win_recv (W : World) (oW : Own) (own : Int) (ue : Nat) (a : AEnd) (k : Nat) (h0 : 0 ≤ own) (_h1 : own ≤ 1099511627776) (hn : a.n ≤ 30000) (hh : a.heard ≤ 30000) (hk : k ≤ 30000) (hf : (a.conc 0 own).Fit) (hE : EndAt W oW 3 ue (a.conc 0 own))
    (A' : Option Addr) (n' c' : Nat) (hS : Sl W oW 10 1 A' n' c' (byts ((pktW k).enc own 0))) (hn47 : n' ≤ 140737488355328) :
    Calls Try.prog 18 #[.pointer (some ⟨ue, 0, none⟩), .slice A' n' c'] W fun e w' => ∃ BA bc RA rc o', e = .returned (.tuple #[.slice BA (if (acceptA a k).2 = 0 then 2 else 0) bc, .slice RA 0 rc, .int .i64 (acceptA a k).2]) ∧ Step [3] W oW w' o' ∧ EndAt w' o' 3 ue ((acceptA a k).1.conc 0 own) := by
  have hfits : (pktW k).Fits a := ⟨.inl (by simp [pktW]), fun k' xs h => by
    simp only [pktW, Option.some.injEq, Prod.mk.injEq] at h
    obtain ⟨rfl, rfl⟩ := h
    refine ⟨?_, ?_, hk⟩
    · simp [markB]
    · simp [markB], fun m mk h => by simp [pktW] at h⟩
  have hrec := recv_enc 0 own (Int.le_refl _) h0 a hn hh (pktW k) hfits
  have hra : recvA a (pktW k) = ((acceptA a k).1, if (acceptA a k).2 = 0 then markB k [] else [], [], (acceptA a k).2) := rfl
  rw [hra] at hrec
  refine (Receive_any W oW 3 10 13 ue _ hE hf (by decide) (by decide) A' c' n' _ hS hn47).mono ?_
  rw [hrec]
  rintro e w' ⟨BA, bc, RA, rc, o', rfl, g1, g2, -, -⟩
  refine ⟨BA, bc, RA, rc, o', ?_, g1, g2⟩
  simp only [List.map_nil, List.length_nil]
  split <;> rfl

set_option maxRecDepth 100000 in
set_option maxHeartbeats 4000000 in
theorem PacketWindow_walk (w : World) (a : Int) (ha : 0 ≤ a) (A : Option Addr) (gn c : Nat) (got : List UInt8) (hS : Sl w (fun _ => 0) 0 1 A gn c (byts got)) (hgn : gn ≤ 140737488355328) (at_ : Int) (hat0 : 0 ≤ at_) (hat1 : at_ ≤ 255) :
    Calls Try.prog 8 #[.int .u64 a, .slice A gn c, .int .u8 at_] w fun e w' => e = .returned (.bool true) ∧ Below w.heap.size w w' := by
  obtain ⟨own, hown⟩ : ∃ own : Int, own = a % 1099511627777 := ⟨_, rfl⟩
  have ho : 0 ≤ own ∧ own ≤ 1099511627776 := by omega
  obtain ⟨ho0, ho1⟩ := ho
  have HOWN := Lib.hid hown.symm; clear hown
  have hgl : gn = got.length := by have := hS.1; simp at this; omega
  have hc1 := hS.2.1; have hc2 := hS.2.2.1
  unfold maxLen at hc2
  obtain ⟨n, hn⟩ : ∃ n : Nat, n = min (8 * gn) 200 := ⟨_, rfl⟩
  have hn200 : n ≤ 200 := by omega
  have hn8 : n ≤ 8 * gn := by omega
  have hmin : min (8 * (gn : Int)) 200 = (n : Int) := by omega
  have HS := Lib.hid hS; have HGL := Lib.hid hgl; have HN := Lib.hid hn
  clear hS hgl hn
  go_enter Try.func8, Try.ntmps8
  go_wp2_with fail
  refine (linked_ok w (fun _ => 0) (a % 1099511627777) 0 (by omega) (by omega) (by omega) (by omega)).mono ?_
  rintro e w1 ⟨l, o1, rfl, hst1, hl1⟩
  rw [HOWN.out] at hl1
  have ST1 := Lib.hid hst1; have HL1 := Lib.hid hl1; clear hst1 hl1
  go_wp2_with fail
  go_loopw [38, 11] (fun i _ wr => ∃ (k : Nat) (o' : Own) (X Y : ASide), k ≤ n ∧ i = .int .i64 k ∧ Hid (Step allTags w (fun _ => 0) wr o' ∧ LinkOk wr o' l own 0 X Y k ∧ Win got n k X Y)) (fun i _ _ => n - (intOf i).toNat)
  case atStart => exact ⟨0, o1, side0, side0, Nat.zero_le _, rfl, Lib.hid ⟨ST1.out.nil, HL1.out, win_zero _ _⟩⟩
  case round => as_aux_lemma =>
    obtain ⟨k, ok, X, Y, hk, rfl, HK⟩ := hrel
    by_cases hlt : k < n
    · obtain ⟨⟨v, u, cells, hl⟩, hI, hI', hz, -⟩ := HK.out.2.1
      have hz' : Sized X Y 900 := ⟨by have := hz.bx; omega, by have := hz.bY; omega, by have := hz.mx; omega, by have := hz.my; omega⟩
      have hmk := makes_link wr ok l 0 1 11 (by omega) rfl own 0 X Y v u cells hl hI hI' HK.out.2.1.o0 HK.out.2.1.o1 HK.out.2.1.p0 HK.out.2.1.p1 hz' none 0 0 [] (Sl.nil_ _ _ _ _ _ _ (by decide)) (by omega)
      have HMK := Lib.hid hmk
      clear hmk hl hz hz' hI hI'
      obtain ⟨q, hq⟩ : ∃ q, q = k / 8 := ⟨_, rfl⟩
      obtain ⟨r, hr⟩ : ∃ r, r = k % 8 := ⟨_, rfl⟩
      have hqg : q < gn := by omega
      have hr8 : r < 8 := by omega
      have e1 : (k : Int) / 8 = (q : Int) := by omega
      have e2 : (k : Int) % 8 = (r : Int) := by omega
      obtain ⟨B, hB⟩ : ∃ B, got[q]? = some B := ⟨_, List.getElem?_eq_getElem (by have := HGL.out; omega)⟩
      have hgb : gotB got k = decide (B.toNat / 2 ^ r % 2 = 1) := by
        unfold gotB
        rw [← hq, ← hr, List.getD_eq_getElem?_getD, hB]; rfl
      obtain ⟨b, hb⟩ : ∃ b : Nat, b = B.toNat := ⟨_, rfl⟩
      have hb256 : b < 256 := by rw [hb]; exact B.toNat_lt
      have hbit := bit_u8 b r hb256
      rw [← hb] at hgb
      rw [← hgb] at hbit
      obtain ⟨gb, offb, hAe, -, hgb', hcb⟩ := HS.out.2.2.2 (by omega)
      have hcq := hcb q (.int .u8 b) (by rw [hb]; simp [byts, hB])
      have HCQ := Lib.hid hcq; have HGB := Lib.hid hgb'
      subst hAe
      clear hq hr hB hgb hb hcb hcq hgb'
      by_cases ht : takenB got n k = true
      · have hcase : gotB got k = true ∨ (gotB got k = false ∧ ((k : Int) == (n : Int) - 1) = true) := by
          unfold takenB at ht
          simp only [Bool.or_eq_true, decide_eq_true_eq] at ht
          cases hg : gotB got k with
          | true => exact .inl rfl
          | false => rw [hg] at ht; exact .inr ⟨rfl, by rcases ht with h | h; cases h; simp; omega⟩
        have HT := Lib.hid ht
        clear ht
        rcases hcase with hg | ⟨hg, hkn⟩
        all_goals
          rw [hg] at hbit
          have HG := Lib.hid hg
          clear hg
          go_wp2_with (first
            | (go_at_call 15; refine HMK.out.mono ?_; intro e w2 h2; obtain ⟨rfl, o2, hst2, hl2⟩ := HK.out.2.1.makes h2; clear h2; have ST2 := Lib.hid hst2; have HL2 := Lib.hid hl2; clear hst2 hl2; have hcq : w2.cell? ⟨gb, offb + q, none⟩ = some (.int .u8 b) := (World.cell?_of_block (a := ⟨gb, offb + q, none⟩) ((HK.out.1.trans (ST2.out.mono (by simp))).block gb HGB.out (by simp))).trans HCQ.out; obtain ⟨mA, mn, mc, mg, A', n', c', hm0, rfl, hmk, hmc, HTK⟩ := win_ready HL2.out (win_made HK.out.2.2 HK.out.2.1.inv) (by omega))
            | (go_at_call 16; refine HTK.out.mono ?_; intro e w3 h3; obtain ⟨rfl, o3, hst3, hl3⟩ := h3; have ST3 := Lib.hid hst3; have HL3 := Lib.hid hl3; clear hst3 hl3))
          go_roundw
          case rel => exact ⟨k + 1, o3, _, _, by omega, by go_num, Lib.hid ⟨(HK.out.1.trans (ST2.out.mono (by simp))).trans (ST3.out.mono (by simp)), HL3.out, win_take HK.out.2.2 HK.out.2.1.inv HK.out.2.1.inv' (by omega) HT.out⟩⟩
          case measure => simp [intOf]; omega
      · have ht' : takenB got n k = false := by simpa using ht
        have h1 := ht'
        unfold takenB at h1
        simp only [Bool.or_eq_false_iff, decide_eq_false_iff_not] at h1
        obtain ⟨hg, hne⟩ := h1
        have hne' : ((k : Int) == (n : Int) - 1) = false := by simp; omega
        rw [hg] at hbit
        have HT := Lib.hid ht'
        clear ht ht' hg hne
        go_wp2_with (go_at_call 15; refine HMK.out.mono ?_; intro e w2 h2; obtain ⟨rfl, o2, hst2, hl2⟩ := HK.out.2.1.makes h2; clear h2; have ST2 := Lib.hid hst2; have HL2 := Lib.hid hl2; clear hst2 hl2; have hcq : w2.cell? ⟨gb, offb + q, none⟩ = some (.int .u8 b) := (World.cell?_of_block (a := ⟨gb, offb + q, none⟩) ((HK.out.1.trans (ST2.out.mono (by simp))).block gb HGB.out (by simp))).trans HCQ.out)
        go_roundw
        case rel => exact ⟨k + 1, o2, _, _, by omega, by go_num, Lib.hid ⟨HK.out.1.trans (ST2.out.mono (by simp)), HL2.out, win_skip HK.out.2.2 HK.out.2.1.inv HT.out⟩⟩
        case measure => simp [intOf]; omega
    · obtain rfl : n = k := by omega
      obtain ⟨⟨v, u, cells, hl⟩, hI, hI', hz, -⟩ := HK.out.2.1
      have hb0 := HK.out.2.1.sized.bx; have hb1 := HK.out.2.1.sized.bY
      have l5 := (hl.b.cell 5).trans hl.cy.c0
      have l1 := (hl.b.cell 1).trans hl.cx.c1
      have l2 := (hl.b.cell 2).trans hl.cx.c2
      have hll := hl.b.lt
      have hrc := Received_ok wr ok 3 u.e _ hl.y.e
      have hsn : (Y.e.conc 0 own).newest = own + (Y.e.heard : Int) - 1 ∧ (Y.e.conc 0 own).other = own ∧ (Y.e.conc 0 own).mask = Y.e.mask := ⟨rfl, rfl, rfl⟩
      rw [hsn.1, hsn.2.1, hsn.2.2] at hrc
      obtain ⟨H, hH⟩ : ∃ H, H = Y.e.heard := ⟨_, rfl⟩
      obtain ⟨M, hM⟩ : ∃ M, M = Y.e.mask := ⟨_, rfl⟩
      rw [← hH, ← hM] at hrc
      have HRC := Lib.hid hrc; have HL := Lib.hid hl; have HH := Lib.hid hH; have HMM := Lib.hid hM
      clear hrc hl hH hM hI hI' hz hsn
      rcases Nat.eq_zero_or_pos n with h0 | h0
      · subst h0
        have hH0 : H = 0 := by rw [HH.out]; have := HK.out.2.1.inv'.heard; omega
        subst hH0
        have hrc := HRC.out
        rw [if_neg (by omega)] at hrc
        have HRD := Lib.hid hrc
        clear HRC hrc
        go_wp2_with fail
        refine HRD.out.mono ?_
        rintro e w2 ⟨rfl, q2, rfl⟩
        go_wp2_with fail
        refine (awake_any _).mono ?_
        rintro e w3 ⟨rfl, hb3⟩
        go_wp2_with fail
        go_ret
        exact ⟨rfl, ((HK.out.1.drewN q2).below hb3 12).old (by simp)⟩
      · have hHn : H = n := by rw [HH.out]; exact HK.out.2.2.last h0 rfl
        subst hHn
        have hrc := HRC.out
        rw [if_pos (by omega)] at hrc
        have HRD := Lib.hid hrc
        have hn0' : ¬ (H : Int) = 0 := by omega
        have hn0b : ((H : Int) == 0) = false := by simp; omega
        clear HRC hrc
        go_wp2_with fail
        refine HRD.out.mono ?_
        rintro e w2 ⟨rfl, q2, rfl⟩
        have hownE := HOWN.out
        have hMlt : M < 4294967296 := by rw [HMM.out]; exact HK.out.2.1.inv'.mask
        have HSr := Lib.hid (HS.out.step HK.out.1 (by simp))
        go_wp2_with fail
        go_loopw [103, 15, 16] (fun i _ _ wt => ∃ b q : Nat, b ≤ 32 ∧ i = .int .i64 b ∧ wt = wr.drewN q) (fun i _ _ _ => 32 - (intOf i).toNat)
        case atStart => exact ⟨0, q2, Nat.zero_le _, rfl, rfl⟩
        case round => as_aux_lemma =>
          obtain ⟨b, q, hb, rfl, rfl⟩ := hrel
          by_cases hlt : b < 32
          · have hmb := bitT_u32 M b hMlt
            have hwm := win_mask HK.out.2.2 HK.out.2.1.inv' h0 b hlt
            rw [← HMM.out] at hwm
            rw [hwm] at hmb
            by_cases hbh : b + 2 ≤ H
            · obtain ⟨κ, hκ⟩ : ∃ κ, κ = H - 2 - b := ⟨_, rfl⟩
              have e0 : (H : Int) - 2 - (b : Int) = (κ : Int) := by omega
              obtain ⟨qq, hq⟩ : ∃ q, q = κ / 8 := ⟨_, rfl⟩
              obtain ⟨r, hr⟩ : ∃ r, r = κ % 8 := ⟨_, rfl⟩
              have hqg : qq < gn := by omega
              have hr8 : r < 8 := by omega
              have e1 : (κ : Int) / 8 = (qq : Int) := by omega
              have e2 : (κ : Int) % 8 = (r : Int) := by omega
              obtain ⟨B, hB⟩ : ∃ B, got[qq]? = some B := ⟨_, List.getElem?_eq_getElem (by have := HGL.out; omega)⟩
              have hgb : gotB got κ = decide (B.toNat / 2 ^ r % 2 = 1) := by
                unfold gotB
                rw [← hq, ← hr, List.getD_eq_getElem?_getD, hB]; rfl
              obtain ⟨bb, hbb⟩ : ∃ b : Nat, b = B.toNat := ⟨_, rfl⟩
              have hb256 : bb < 256 := by rw [hbb]; exact B.toNat_lt
              have hbit := bit_u8 bb r hb256
              rw [← hbb] at hgb
              rw [← hgb] at hbit
              obtain ⟨gb, offb, hAe, -, hgb', hcb⟩ := HSr.out.2.2.2 (by omega)
              have hcq := hcb qq (.int .u8 bb) (by rw [hbb]; simp [byts, hB])
              rw [← hκ, show decide (b + 2 ≤ H) = true by simpa using hbh, Bool.true_and] at hmb
              subst hAe
              cases hg : gotB got κ with
              | true =>
                rw [hg] at hbit hmb
                clear hq hr hB hgb hbb hcb hg hκ hwm
                go_wp2_with fail
                go_quiet (fail)
                go_wp2_with fail
                go_roundw
                case rel => exact ⟨b + 1, q + nq, by omega, by go_num, by first | rfl | rw [World.drewN_drewN]⟩
                case measure => simp [intOf]; omega
              | false =>
                rw [hg] at hbit hmb
                clear hq hr hB hgb hbb hcb hg hκ hwm
                go_wp2_with fail
                go_quiet (fail)
                go_wp2_with fail
                go_roundw
                case rel => exact ⟨b + 1, q + nq, by omega, by go_num, by first | rfl | rw [World.drewN_drewN]⟩
                case measure => simp [intOf]; omega
            · rw [show decide (b + 2 ≤ H) = false by simpa using hbh, Bool.false_and] at hmb
              obtain ⟨z, hz⟩ : ∃ z, (H : Int) - 2 - (b : Int) = z := ⟨_, rfl⟩
              have hz0 : z < 0 := by omega
              have hneg : decide (0 ≤ z) = false := by simp; omega
              clear hwm
              go_wp2_with fail
              go_quiet (fail)
              go_wp2_with fail
              go_roundw
              case rel => exact ⟨b + 1, q + nq, by omega, by go_num, by first | rfl | rw [World.drewN_drewN]⟩
              case measure => simp [intOf]; omega
          · obtain rfl : b = 32 := by omega
            obtain ⟨κ, hκ⟩ : ∃ κ : Nat, at_ % (H : Int) = (κ : Int) := ⟨(at_ % (H : Int)).toNat, by rw [Int.toNat_of_nonneg (Int.emod_nonneg _ hn0')]⟩
            have hκH : κ < H := by have := Int.emod_lt_of_pos at_ (show (0 : Int) < (H : Int) by omega); omega
            have hbl := HK.out.2.2.bl
            have hbn : v.bn = H := by have := HL.out.x.bodies.len; simp at this; omega
            obtain ⟨S, hS⟩ : ∃ S, S = X.bodies.getD κ 0 := ⟨_, rfl⟩
            obtain ⟨gB, hbA, -, hbc, -⟩ := HL.out.x.bodies.at_ (k := κ) (by omega)
            have hbc' : wr.cell? ⟨gB, κ, none⟩ = some (.int .i64 (S : Int)) := by rw [hbc, hS]; exact nats_get (by omega)
            have hS1 : S ≤ 1 := by rw [hS]; exact HK.out.2.1.inv'.le κ
            obtain ⟨bA, hbAe⟩ : ∃ bA, bA = v.bA := ⟨_, rfl⟩
            obtain ⟨bc, hbce⟩ : ∃ bc, bc = v.bc := ⟨_, rfl⟩
            rw [← hbAe, hbn, ← hbce] at l2
            rw [← hbAe] at hbA
            clear hbAe hbce hbc
            subst hbA
            have hmd := HK.out.2.2.made κ hκH
            have hmem := HK.out.2.1.inv.pkts _ (List.mem_of_getElem? hmd)
            obtain ⟨mg, A', n', c', hmA, hmo, hmn, hmc, hms⟩ := HL.out.x.made.get (j := κ) (p := (pktW κ).enc own 0) (by rw [List.getElem?_map, hmd]; rfl)
            obtain ⟨mA, hmAe⟩ : ∃ mA, mA = v.mA := ⟨_, rfl⟩
            obtain ⟨mn, hmne⟩ : ∃ mn, mn = v.mn := ⟨_, rfl⟩
            obtain ⟨mc, hmce⟩ : ∃ mc, mc = v.mc := ⟨_, rfl⟩
            rw [← hmAe, ← hmne, ← hmce] at l1
            rw [← hmAe] at hmA
            rw [← hmne] at hmn
            clear hmAe hmne hmce
            subst hmA
            obtain ⟨ue, hue⟩ : ∃ ue, ue = u.e := ⟨_, rfl⟩
            rw [← hue] at l5
            have UP : ∀ (W : World) (oW : Own), Step [3] wr ok W oW → (W.cell? ⟨l, 5, none⟩ = some (.pointer (some ⟨ue, 0, none⟩)) ∧ W.cell? ⟨l, 1, none⟩ = some (.slice (some ⟨mg, 0, none⟩) mn mc) ∧ W.cell? ⟨mg, κ, none⟩ = some (.slice A' n' c')) ∧ Sl W oW 10 1 A' n' c' (byts ((pktW κ).enc own 0)) := fun W oW hst => by
              have hbl := hst.block l HL.out.b.lt (by rw [HL.out.ol]; decide)
              have hbm := hst.block mg (World.block_lt_of_cell? wr _ hmc) (by rw [hmo]; decide)
              exact ⟨⟨(World.cell?_of_block (a := ⟨l, 5, none⟩) hbl).trans l5, (World.cell?_of_block (a := ⟨l, 1, none⟩) hbl).trans l1, (World.cell?_of_block (a := ⟨mg, κ, none⟩) hbm).trans hmc⟩, hms.step hst (by decide)⟩
            have hn47 : n' ≤ 140737488355328 := by
              have h1 := hms.1
              simp only [byts, List.length_map, Nat.mul_one] at h1
              rw [← h1]
              have := enc_len (own := own) (other := 0) hmem
              omega
            have hfit1 := conc_fit HK.out.2.1.inv' HK.out.2.1.p0 HK.out.2.1.p1 HK.out.2.1.o0 HK.out.2.1.o1 (by omega) (by omega)
            have htk := (take_inv HK.out.2.1.inv' HK.out.2.1.inv hmem).1
            have hye : (Y.take (pktW κ)).e = (acceptA Y.e κ).1 := rfl
            have hgl2 := given_len X Y.e (pktW κ)
            have hfit2 := conc_fit htk HK.out.2.1.p0 HK.out.2.1.p1 HK.out.2.1.o0 HK.out.2.1.o1 (show Y.bodies.length ≤ _ by omega) (by rw [hgl2.1]; omega)
            rw [hye] at hfit2
            have hn1 : Y.e.n ≤ 30000 := by rw [HK.out.2.1.inv'.n]; omega
            have hh1 : Y.e.heard ≤ 30000 := by have := HK.out.2.1.inv'.heard; omega
            have hn2 : (acceptA Y.e κ).1.n ≤ 30000 := by rw [acceptA_n]; exact hn1
            have hh2 : (acceptA Y.e κ).1.heard ≤ 30000 := by have := htk.heard; rw [hye, hgl2.1] at this; omega
            have hc1 := win_first HK.out.2.2 HK.out.2.1.inv' κ hκH
            have hc2 := win_second HK.out.2.2 κ hκH
            rw [← hS] at hc1
            have hr1 := fun W oW (hst : Step [3] wr ok W oW) (hE : EndAt W oW 3 ue (Y.e.conc 0 own)) => win_recv W oW own ue Y.e κ HK.out.2.1.o0 HK.out.2.1.o1 hn1 hh1 (by omega) hfit1 hE A' n' c' (UP W oW hst).2 hn47
            have hr2 := fun W oW (hst : Step [3] wr ok W oW) (hE : EndAt W oW 3 ue ((acceptA Y.e κ).1.conc 0 own)) => win_recv W oW own ue (acceptA Y.e κ).1 κ HK.out.2.1.o0 HK.out.2.1.o1 hn2 hh2 (by omega) hfit2 hE A' n' c' (UP W oW hst).2 hn47
            rw [hc1] at hr1
            rw [hc2] at hr2
            have hE0 := HL.out.y.e
            rw [← hue] at hE0
            have hlg := World.block_lt_of_cell? wr _ hmc
            simp only at hlg
            have C0 := Lib.hid (UP (wr.drewN q).drew ok ((Step.refl [3] wr ok).drewN q).drew).1
            have R1 := Lib.hid hr1; have R2 := Lib.hid hr2; have E0 := Lib.hid hE0; have UPH := Lib.hid UP
            clear hr1 hr2 hE0 UP hc1 hc2 hfit1 hfit2 htk hye hgl2 hn1 hh1 hn2 hh2 hms hmem hmd hmo hmc l5 l1 hue hS hbl hbn hn47
            have hcase : (κ + 33 < H) ∨ (¬ κ + 33 < H ∧ S = 0) ∨ (¬ κ + 33 < H ∧ S = 1) := by omega
            rcases hcase with hc | ⟨hc, rfl⟩ | ⟨hc, rfl⟩
            · have hw1 : wantW H κ S = 191 := by unfold wantW; rw [if_pos hc]
              have hw2 : wantW H κ 1 = 191 := by unfold wantW; rw [if_pos hc]
              rw [hw1] at R1
              rw [hw2] at R2
              have hcd : decide ((κ : Int) < (H : Int) - 33) = true := by simp; omega
              clear hw1 hw2
              go_wp2_with fail
              refine wp_loop_rounds 3 ?_
              rw [rounds_succ]
              go_wp2_with fail
              go_region_held3 (fun w' => w'.cell? ⟨l, 5, none⟩ = some (.pointer (some ⟨ue, 0, none⟩)) ∧ w'.cell? ⟨l, 1, none⟩ = some (.slice (some ⟨mg, 0, none⟩) mn mc) ∧ w'.cell? ⟨mg, κ, none⟩ = some (.slice A' n' c'))
                (first | exact C0.out | exact C1.out)
                (first | (go_at_call 18; refine (R1.out _ ok ?_ ?_).mono ?_; (first | exact ((Step.refl [3] wr ok).drewN q).drew | exact (Step.refl [3] wr ok).drewN _); (first | exact E0.out.step (((Step.refl [] wr ok).drewN q).drew) (by simp) | exact E0.out.step ((Step.refl [] wr ok).drewN _) (by simp)); rintro e w3 ⟨BA, bc3, RA, rc3, o3, rfl, hst3, hE3⟩; have hst3' := (((Step.refl [3] wr ok).drewN q).drew).trans hst3; have C1 := Lib.hid (UPH.out w3 o3 hst3').1; have ST3 := Lib.hid hst3'; have E3 := Lib.hid hE3; clear hst3 hst3' hE3))
              go_wp2_with fail
              rw [rounds_succ]
              have C2 := Lib.hid (UPH.out w3.drew o3 ST3.out.drew).1
              go_wp2_with fail
              go_region_held3 (fun w' => w'.cell? ⟨l, 5, none⟩ = some (.pointer (some ⟨ue, 0, none⟩)) ∧ w'.cell? ⟨l, 1, none⟩ = some (.slice (some ⟨mg, 0, none⟩) mn mc) ∧ w'.cell? ⟨mg, κ, none⟩ = some (.slice A' n' c'))
                (first | exact C2.out | exact C4.out)
                (first | (go_at_call 18; refine (R2.out _ o3 ?_ ?_).mono ?_; (exact ST3.out.drew); (exact E3.out.step (Step.refl [] w3 o3).drew (by simp)); rintro e w4 ⟨BB, bc4, RB, rc4, o4, rfl, hst4, hE4⟩; have hst4' := ST3.out.drew.trans hst4; have C4 := Lib.hid (UPH.out w4 o4 hst4').1; have ST4 := Lib.hid hst4'; clear hst4 hst4' hE4))
              go_wp2_with fail
              rw [rounds_succ]
              go_wp2_with fail
              refine (awake_any _).mono ?_
              rintro e w9 ⟨rfl, hb9⟩
              go_wp2_with fail
              go_ret
              exact ⟨rfl, ((HK.out.1.trans (ST4.out.mono (by simp))).below hb9 12).old (by simp)⟩
            · have hw1 : wantW H κ 0 = 0 := by unfold wantW; rw [if_neg hc, if_pos rfl]
              have hw2 : wantW H κ 1 = 192 := by unfold wantW; rw [if_neg hc, if_neg (by decide)]
              rw [hw1] at R1
              rw [hw2] at R2
              have hcd : decide ((κ : Int) < (H : Int) - 33) = false := by simp; omega
              clear hw1 hw2
              go_wp2_with fail
              refine wp_loop_rounds 3 ?_
              rw [rounds_succ]
              go_wp2_with fail
              go_region_held3 (fun w' => w'.cell? ⟨l, 5, none⟩ = some (.pointer (some ⟨ue, 0, none⟩)) ∧ w'.cell? ⟨l, 1, none⟩ = some (.slice (some ⟨mg, 0, none⟩) mn mc) ∧ w'.cell? ⟨mg, κ, none⟩ = some (.slice A' n' c'))
                (first | exact C0.out | exact C1.out)
                (first | (go_at_call 18; refine (R1.out _ ok ?_ ?_).mono ?_; (first | exact ((Step.refl [3] wr ok).drewN q).drew | exact (Step.refl [3] wr ok).drewN _); (first | exact E0.out.step (((Step.refl [] wr ok).drewN q).drew) (by simp) | exact E0.out.step ((Step.refl [] wr ok).drewN _) (by simp)); rintro e w3 ⟨BA, bc3, RA, rc3, o3, rfl, hst3, hE3⟩; have hst3' := (((Step.refl [3] wr ok).drewN q).drew).trans hst3; have C1 := Lib.hid (UPH.out w3 o3 hst3').1; have ST3 := Lib.hid hst3'; have E3 := Lib.hid hE3; clear hst3 hst3' hE3))
              go_wp2_with fail
              rw [rounds_succ]
              have C2 := Lib.hid (UPH.out w3.drew o3 ST3.out.drew).1
              go_wp2_with fail
              go_region_held3 (fun w' => w'.cell? ⟨l, 5, none⟩ = some (.pointer (some ⟨ue, 0, none⟩)) ∧ w'.cell? ⟨l, 1, none⟩ = some (.slice (some ⟨mg, 0, none⟩) mn mc) ∧ w'.cell? ⟨mg, κ, none⟩ = some (.slice A' n' c'))
                (first | exact C2.out | exact C4.out)
                (first | (go_at_call 18; refine (R2.out _ o3 ?_ ?_).mono ?_; (exact ST3.out.drew); (exact E3.out.step (Step.refl [] w3 o3).drew (by simp)); rintro e w4 ⟨BB, bc4, RB, rc4, o4, rfl, hst4, hE4⟩; have hst4' := ST3.out.drew.trans hst4; have C4 := Lib.hid (UPH.out w4 o4 hst4').1; have ST4 := Lib.hid hst4'; clear hst4 hst4' hE4))
              go_wp2_with fail
              rw [rounds_succ]
              go_wp2_with fail
              refine (awake_any _).mono ?_
              rintro e w9 ⟨rfl, hb9⟩
              go_wp2_with fail
              go_ret
              exact ⟨rfl, ((HK.out.1.trans (ST4.out.mono (by simp))).below hb9 12).old (by simp)⟩
            · have hw1 : wantW H κ 1 = 192 := by unfold wantW; rw [if_neg hc, if_neg (by decide)]
              have hw2 : wantW H κ 1 = 192 := by unfold wantW; rw [if_neg hc, if_neg (by decide)]
              rw [hw1] at R1
              rw [hw2] at R2
              have hcd : decide ((κ : Int) < (H : Int) - 33) = false := by simp; omega
              clear hw1 hw2
              go_wp2_with fail
              refine wp_loop_rounds 3 ?_
              rw [rounds_succ]
              go_wp2_with fail
              go_region_held3 (fun w' => w'.cell? ⟨l, 5, none⟩ = some (.pointer (some ⟨ue, 0, none⟩)) ∧ w'.cell? ⟨l, 1, none⟩ = some (.slice (some ⟨mg, 0, none⟩) mn mc) ∧ w'.cell? ⟨mg, κ, none⟩ = some (.slice A' n' c'))
                (first | exact C0.out | exact C1.out)
                (first | (go_at_call 18; refine (R1.out _ ok ?_ ?_).mono ?_; (first | exact ((Step.refl [3] wr ok).drewN q).drew | exact (Step.refl [3] wr ok).drewN _); (first | exact E0.out.step (((Step.refl [] wr ok).drewN q).drew) (by simp) | exact E0.out.step ((Step.refl [] wr ok).drewN _) (by simp)); rintro e w3 ⟨BA, bc3, RA, rc3, o3, rfl, hst3, hE3⟩; have hst3' := (((Step.refl [3] wr ok).drewN q).drew).trans hst3; have C1 := Lib.hid (UPH.out w3 o3 hst3').1; have ST3 := Lib.hid hst3'; have E3 := Lib.hid hE3; clear hst3 hst3' hE3))
              go_wp2_with fail
              rw [rounds_succ]
              have C2 := Lib.hid (UPH.out w3.drew o3 ST3.out.drew).1
              go_wp2_with fail
              go_region_held3 (fun w' => w'.cell? ⟨l, 5, none⟩ = some (.pointer (some ⟨ue, 0, none⟩)) ∧ w'.cell? ⟨l, 1, none⟩ = some (.slice (some ⟨mg, 0, none⟩) mn mc) ∧ w'.cell? ⟨mg, κ, none⟩ = some (.slice A' n' c'))
                (first | exact C2.out | exact C4.out)
                (first | (go_at_call 18; refine (R2.out _ o3 ?_ ?_).mono ?_; (exact ST3.out.drew); (exact E3.out.step (Step.refl [] w3 o3).drew (by simp)); rintro e w4 ⟨BB, bc4, RB, rc4, o4, rfl, hst4, hE4⟩; have hst4' := ST3.out.drew.trans hst4; have C4 := Lib.hid (UPH.out w4 o4 hst4').1; have ST4 := Lib.hid hst4'; clear hst4 hst4' hE4))
              go_wp2_with fail
              rw [rounds_succ]
              go_wp2_with fail
              refine (awake_any _).mono ?_
              rintro e w9 ⟨rfl, hb9⟩
              go_wp2_with fail
              go_ret
              exact ⟨rfl, ((HK.out.1.trans (ST4.out.mono (by simp))).below hb9 12).old (by simp)⟩
end Go.Proofs.Ytpmbfgpfpdenbaa
