/-
  WALK of takes, where a body is returned.
-/
import Derived.Test.YtpmbfgpfpdenbaaWalkF
namespace Go.Proofs.Ytpmbfgpfpdenbaa
open Go.RowKit

theorem i64_or_nat (a b : Nat) (ha : a < 65536) (hb : b < 65536) : bits .or .i64 (a : Int) (b : Int) = ((a ||| b : Nat) : Int) := by
  have hx : a ||| b < 2 ^ 16 := Nat.or_lt_two_pow (by omega) (by omega)
  show IntKind.i64.wrap ((BitVec.ofInt 64 (a : Int) ||| BitVec.ofInt 64 (b : Int)).toNat : Int) = _
  rw [BitVec.toNat_or, ofInt_u64 a (by omega), ofInt_u64 b (by omega)]
  generalize a ||| b = z at hx ⊢
  simp [IntKind.wrap, IntKind.bits, IntKind.signed]
  omega

theorem or_bytes (x0 x1 : Nat) (h1 : x1 < 256) : x0 * 256 ||| x1 = x0 * 256 + x1 := by
  have := Nat.shiftLeft_add_eq_or_of_lt (a := x0) (b := x1) (i := 8) (by omega)
  rw [Nat.shiftLeft_eq] at this
  exact this.symm

set_option maxRecDepth 100000 in
set_option maxHeartbeats 4000000 in
theorem takes_body (w : World) (o : Own) (l s s' τ2 : Nat) (hs : s < 2) (hs' : s' = 1 - s) (own other : Int) (X Y : ASide) (v u : SideV) (cells : Array Value) (hb : Blk w l 94 cells) (hol : o l = 1)
    (h0 : cells[s * 5]? = some (.pointer (some ⟨v.e, 0, none⟩))) (h2 : cells[s * 5 + 2]? = some (.slice v.bA v.bn v.bc)) (h3 : cells[s * 5 + 3]? = some (.slice v.rA v.rn v.rc)) (h4 : cells[s * 5 + 4]? = some (.int .i64 own)) (h5 : cells[s' * 5 + 2]? = some (.slice u.bA u.bn u.bc))
    (hX : SideAt w o s v own other X) (hY : SideAt w o s' u other own Y) (hI : LinkInv X Y) (hown : 0 ≤ own) (hown' : own ≤ 1099511627776) (hot : 0 ≤ other) (hot' : other ≤ 1099511627776) (hn : X.bodies.length ≤ 1000) (hm : Y.bodies.length ≤ 1000)
    (A : Option Addr) (n c : Nat) (xs : List UInt8) (hS : Sl w o τ2 1 A n c (byts xs)) (hnn : n ≤ 140737488355328) (ht : τ2 = 10 ∨ τ2 = 11)
    (a' : AEnd) (rs : List (Nat × Bool)) (k : Nat) (bd : List UInt8) (hrecv : recvP (X.e.conc own other) xs = (a'.conc own other, bd, movR own rs, 0)) (hok : NoteOk { X with e := a' } rs) (hrs : rs.length ≤ 1000) (hbd : MarkOk k bd) (hk : k < Y.bodies.length) (hk0 : Y.bodies.getD k 0 = 0) :
    Calls Try.prog 16 #[.pointer (some ⟨l, 0, none⟩), .int .i64 s, .slice A n c] w (TakesTo w o s s' v u own other (({ X with e := a' } : ASide).note rs) { Y with bodies := Y.bodies.set k 1 }) := by
  have c0 := (hb.cell (s * 5)).trans h0
  have c5 := (hb.cell (s' * 5 + 2)).trans h5
  have hrc := Receive_any w o (2 + s) τ2 12 v.e _ hX.e (conc_fit hI hown hown' hot hot' (by omega) (by omega)) (by omega) (by omega) A c n xs hS hnn
  rw [hrecv] at hrc
  have hnote : ∀ w1 o1 RA rc, Step [2 + s] w o w1 o1 → Sl w1 o1 12 2 RA rs.length rc (reps (movR own rs)) → Calls Try.prog 19 #[.pointer (some ⟨l, 0, none⟩), .int .i64 s, .slice RA rs.length rc] w1 fun e w' => e = .returned (.bool true) ∧ NotedRel w1 o1 (8 + s) v.rA v.rn v.rc (noteL X.reports rs) w' :=
    fun w1 o1 RA rc hst hsl => noted_any w1 o1 l s (6 + s) (8 + s) 12 hs own { X with e := a' } rs cells v.bA v.rA RA v.bn v.bc v.rn v.rc rs.length rc (hb.step hst (by rw [hol]; simp; omega)) (by rw [hst.own l hb.lt, hol]; omega) h2 h3 h4 (hX.bodies.step hst (by simp)) (hX.reports.step hst (by simp)) hsl (by omega) (by omega) hok hI.nr hown hown' (by show X.bodies.length ≤ _; omega) (by omega)
  have hbn : u.bn = Y.bodies.length := by have := hY.bodies.len; simp at this; omega
  have hss : (1 : Int) - (s : Int) = (s' : Int) := by omega
  have hs2 : s' < 2 := by omega
  -- the body's first two bytes
  obtain ⟨hb2, hb22, htk⟩ := hbd
  obtain ⟨x0, hx0⟩ : ∃ x0 : Nat, x0 = k / 256 := ⟨_, rfl⟩
  obtain ⟨x1, hx1⟩ : ∃ x1 : Nat, x1 = k % 256 := ⟨_, rfl⟩
  have hv0 : (byts bd)[0]? = some (.int .u8 x0) := by
    have := congrArg (fun l => l[0]?) htk
    simp only [List.getElem?_take, List.getElem?_cons_zero] at this
    simp at this
    simp [byts, this]; omega
  have hv1 : (byts bd)[1]? = some (.int .u8 x1) := by
    have := congrArg (fun l => l[1]?) htk
    simp only [List.getElem?_take, List.getElem?_cons_zero, List.getElem?_cons_succ] at this
    simp at this
    simp [byts, this]; omega
  have hbun : u.bn ≤ 1000 := by omega
  have hkb : k < u.bn := by omega
  have hlink : ∀ w2 o2, Step [2 + s, 8 + s] w o w2 o2 → w2.cell? ⟨l, s' * 5 + 2, none⟩ = some (.slice u.bA u.bn u.bc) ∧ l < w2.heap.size ∧ ∃ gb, u.bA = some ⟨gb, 0, none⟩ ∧ w2.cell? ⟨gb, k, none⟩ = some (.int .i64 0) ∧ w2.frozen? ⟨gb, k, none⟩ = false ∧ l ≠ gb ∧ gb < w2.heap.size ∧ o2 gb = 6 + s' := by
    intro w2 o2 hst
    have hr := hY.bodies.step hst (by simp; omega)
    obtain ⟨gb, hgA, hog, hcb, hfb⟩ := hr.at_ hkb
    refine ⟨(World.cell?_of_block (a := ⟨l, s' * 5 + 2, none⟩) (hst.block l hb.lt (by rw [hol]; simp; omega))).trans c5, Nat.lt_of_lt_of_le hb.lt hst.size, gb, hgA, ?_, hfb, ?_, hr.lt hgA, hog⟩
    · rw [hcb, nats_get hk, hk0]; rfl
    · rintro rfl
      have := hst.own l hb.lt
      rw [hog, hol] at this; omega
  have HRC := Lib.hid hrc; have HNT := Lib.hid hnote; have HX := Lib.hid hX; have HY := Lib.hid hY; have HLK := Lib.hid hlink; have HV0 := Lib.hid hv0; have HV1 := Lib.hid hv1; have HX0 := Lib.hid hx0; have HX1 := Lib.hid hx1
  have hxb : x0 < 256 ∧ x1 < 256 := by omega
  obtain ⟨hxb0, hxb1⟩ := hxb
  have HSS := Lib.hid hs'
  clear hs' hrc hnote hX hY hb h0 h2 h3 h4 h5 hS hrecv hok hI hlink hv0 hv1 hx0 hx1 htk hbn hk0
  have hor : bits BinOp.or IntKind.i64 ((x0 : Int) * 256) (x1 : Int) = (k : Int) := by
    have e1 : x0 * 256 + x1 = k := by have := HX0.out; have := HX1.out; omega
    have := i64_or_nat (x0 * 256) x1 (by omega) (by omega)
    rw [or_bytes x0 x1 hxb1, e1] at this
    simpa using this
  go_enter Try.func16, Try.ntmps16
  go_wp2_with (first
      | (go_at_call 18; refine HRC.out.mono ?_; rintro e w1 ⟨BA, bc, RA, rc, o1, rfl, hst1, he1, hr1, hl1⟩; simp only [List.length_map] at hl1 ⊢; have HST1 := Lib.hid hst1; have HE1 := Lib.hid he1; have HL1 := Lib.hid hl1; have HR1 := Lib.hid hr1; clear hst1 he1 hr1 hl1)
      | (go_at_call 19; refine (HNT.out w1 o1 RA rc HST1.out HL1.out).mono ?_; rintro e w2 ⟨rfl, o2, hst2, hr2⟩; obtain ⟨k5, k6, gb, hgb, k7, k8, k9, k10, k11⟩ := HLK.out w2 o2 ((HST1.out.mono (by simp)).trans (hst2.mono (by simp))); have hr1 := HR1.out.step hst2 (by simp; omega); obtain ⟨g1, cur, hBA, -⟩ := hr1.form (show 0 < bd.length by omega); subst hBA; obtain ⟨m0, -⟩ := hr1.cellAt (k := 0) (u := .int .u8 x0) HV0.out; obtain ⟨m1, -⟩ := hr1.cellAt (k := 1) (u := .int .u8 x1) HV1.out; have HST2 := Lib.hid hst2; have HR2 := Lib.hid hr2; clear hst2 hr2 hr1))
  go_quiet (fail)
  go_wp2_with fail
  go_ret
  have hs' := HSS.out
  have stF := ((Step.refl [6 + s'] w2 o2).drewN nq).setCell (p := ⟨gb, k, none⟩) (.inr (List.mem_singleton.2 k11)) (.int .i64 1)
  refine ⟨rfl, o2, ((HST1.out.mono (by simp)).trans (HST2.out.mono (by simp))).trans (stF.mono (by simp)), ⟨(HE1.out.step HST2.out (by simp)).step stF (by simp <;> omega), ?_, ?_, HR2.out.step stF (by simp <;> omega)⟩, ?_⟩
  · exact ((HX.out.made.step HST1.out (by simp <;> omega) (by simp <;> omega)).step HST2.out (by simp <;> omega) (by simp <;> omega)).step stF (by simp <;> omega) (by simp <;> omega)
  · exact ((HX.out.bodies.step HST1.out (by simp)).step HST2.out (by simp)).step stF (by simp <;> omega)
  · have hy := (HY.out.step HST1.out (by simp <;> omega) (by simp <;> omega) (by simp <;> omega) (by simp <;> omega) (by simp <;> omega)).step HST2.out (by simp <;> omega) (by simp <;> omega) (by simp <;> omega) (by simp <;> omega) (by simp <;> omega)
    refine ⟨hy.e.step stF (by simp <;> omega), hy.made.step stF (by simp <;> omega) (by simp <;> omega), ?_, hy.reports.step stF (by simp <;> omega)⟩
    have hb3 := hy.bodies.drewN nq
    rw [hgb] at hb3
    have := hb3.set_ hkb (.int .i64 1)
    rw [hgb]
    simpa [nats, List.map_set] using this
end Go.Proofs.Ytpmbfgpfpdenbaa
