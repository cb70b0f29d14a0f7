/-
  WALK of step: all kinds but the one that makes an acknowledgement.
-/
import Derived.Test.YtpmbfgpfpdenbaaWalkI
namespace Go.Proofs.Ytpmbfgpfpdenbaa
open Go.RowKit

theorem StepTo.after {w w1 w' : World} {o o1 : Own} {l s s' : Nat} {own other : Int} {R : ASide × ASide} {e : Ending} (hst : Step [] w o w1 o1) (h : StepTo w1 o1 l s s' own other R e w') : StepTo w o l s s' own other R e w' := by
  obtain ⟨he, o', v, u, cells, h1, h2⟩ := h
  exact ⟨he, o', v, u, cells, hst.nil.trans h1, h2⟩

/-- The op as it lies in its box. -/
abbrev opCells (K S T : Nat) (BA : Option Addr) (bn bc : Nat) : Array Value := #[.int .u8 K, .int .u8 S, .int .u8 T, .slice BA bn bc]

set_option maxRecDepth 100000 in
set_option maxHeartbeats 1000000 in
theorem step_makes (w : World) (o : Own) (l s s' τ2 : Nat) (hs : s < 2) (hs' : s' = 1 - s) (own other : Int) (X Y : ASide) (v u : SideV) (cells : Array Value) (hL : LinkS w o l s s' own other X Y v u cells) (hI : LinkInv X Y) (hI' : LinkInv Y X)
    (hown : 0 ≤ own) (hown' : own ≤ 1099511627776) (hot : 0 ≤ other) (hot' : other ≤ 1099511627776) (hz : Sized X Y 900)
    (K S T : Nat) (hK : K < 256) (hS : S < 256) (_hT : T < 256) (hSs : S % 2 = s) (BA : Option Addr) (bn bc : Nat) (ys : List UInt8) (hB : Sl w o τ2 1 BA bn bc (byts ys)) (hbn : bn ≤ 9223372036854775807) (hk : K % 6 = 0 ∨ K % 6 = 1) :
    Calls Try.prog 12 #[.pointer (some ⟨l, 0, none⟩), .agg (opCells K S T BA bn bc)] w (StepTo w o l s s' own other (X.make (markB X.bodies.length ys), Y)) := by
  have st := (Step.refl [] w o).alloc (.cells (opCells K S T BA bn bc) 29) 12
  have hm := makes_link _ _ l s s' τ2 hs hs' own other X Y v u cells (hL.step st (by simp) hs (by omega)) hI hI' hown hown' hot hot' hz BA bn bc ys (hB.step st (by simp)) hbn
  have HM := Lib.hid hm; have HST := Lib.hid st
  have hs2 : (S : Int) % 2 = (s : Int) := by omega
  have hk1 : (K : Int) % 6 = 0 ∨ (K : Int) % 6 = 1 := by omega
  clear hm st hL hI hI' hB hSs hk
  rcases hk1 with hk1 | hk1
  all_goals
    go_enter Try.func12, Try.ntmps12
    go_wp2_with (go_at_call 15; refine HM.out.mono ?_; rintro e w1 ⟨rfl, h1⟩; have H1 := Lib.hid h1; clear h1)
    go_ret
    exact StepTo.after HST.out ⟨rfl, H1.out⟩

set_option maxRecDepth 100000 in
set_option maxHeartbeats 1000000 in
theorem step_none (w : World) (o : Own) (l s s' : Nat) (hs : s < 2) (hs' : s' = 1 - s) (own other : Int) (X Y : ASide) (v u : SideV) (cells : Array Value) (hL : LinkS w o l s s' own other X Y v u cells)
    (K S T : Nat) (hK : K < 256) (hS : S < 256) (_hT : T < 256) (hSs : S % 2 = s) (BA : Option Addr) (bn bc : Nat) (hk : K % 6 = 5) :
    Calls Try.prog 12 #[.pointer (some ⟨l, 0, none⟩), .agg (opCells K S T BA bn bc)] w (StepTo w o l s s' own other (X, Y)) := by
  have st := (Step.refl [] w o).alloc (.cells (opCells K S T BA bn bc) 29) 12
  have hm := hL.step st (by simp) hs (by omega)
  have HM := Lib.hid hm; have HST := Lib.hid st
  have hs2 : (S : Int) % 2 = (s : Int) := by omega
  have hk1 : (K : Int) % 6 = 5 := by omega
  clear hm st hL hSs hk
  go_enter Try.func12, Try.ntmps12
  go_wp2_with fail
  go_ret
  exact ⟨rfl, _, v, u, cells, HST.out.nil, HM.out⟩

theorem made_short {X Y : ASide} (hI : LinkInv X Y) (own other : Int) : ∀ q ∈ X.made.map (APkt.enc own other), q.length ≤ 100000 := by
  intro q hq
  obtain ⟨p, hp, rfl⟩ := List.mem_map.1 hq
  have := (hI.pkts p hp)
  obtain ⟨pb, pa⟩ := p
  unfold APkt.enc
  cases pb with
  | none => cases pa <;> simp [bytesOf_len]
  | some q =>
    obtain ⟨k, xs⟩ := q
    have := this.body k xs rfl
    cases pa <;> simp [bytesOf_len] <;> omega

set_option maxRecDepth 100000 in
set_option maxHeartbeats 2000000 in
theorem step_takes_none (w : World) (o : Own) (l s s' : Nat) (hs : s < 2) (hs' : s' = 1 - s) (own other : Int) (X Y : ASide) (v u : SideV) (cells : Array Value) (hL : LinkS w o l s s' own other X Y v u cells) (_hI : LinkInv X Y) (hI' : LinkInv Y X)
    (_hown : 0 ≤ own) (_hown' : own ≤ 1099511627776) (_hot : 0 ≤ other) (_hot' : other ≤ 1099511627776) (hz : Sized X Y 900)
    (K S T : Nat) (hK : K < 256) (hS : S < 256) (hT : T < 256) (hSs : S % 2 = s) (BA : Option Addr) (bn bc : Nat) (hk : K % 6 = 3 ∨ K % 6 = 4) (h0 : Y.made = []) :
    Calls Try.prog 12 #[.pointer (some ⟨l, 0, none⟩), .agg (opCells K S T BA bn bc)] w (StepTo w o l s s' own other (X, Y)) := by
  have st := (Step.refl [] w o).alloc (.cells (opCells K S T BA bn bc) 29) 12
  have hm := hL.step st (by simp) hs (by omega)
  have bx := Blk.new w 29 (opCells K S T BA bn bc)
  have b0 := bx.cell 0; have b1 := bx.cell 1; have b2 := bx.cell 2; have b3 := bx.cell 3
  simp only [opCells, List.getElem?_toArray, List.getElem?_cons_zero, List.getElem?_cons_succ] at b0 b1 b2 b3
  have m1 := (hm.b.cell (s' * 5 + 1)).trans hm.cy.c1
  have hss : (1 : Int) - (s : Int) = (s' : Int) := by omega
  have hsb : s' < 2 := by omega
  have hwr : IntKind.i64.wrap (s' : Int) = (s' : Int) := by rw [IntKind.wrap_i64]; omega
  have hb0 : (0 : Int) ≤ (s' : Int) := by omega
  have hb1 : (s' : Int) < 2 := by omega
  have hs2 : (S : Int) % 2 = (s : Int) := by omega
  have hk1 : (K : Int) % 6 = 3 ∨ (K : Int) % 6 = 4 := by omega
  obtain ⟨W, hW⟩ : ∃ W, W = w.alloc (.cells (opCells K S T BA bn bc) 29) := ⟨_, rfl⟩
  obtain ⟨oW, hoW⟩ : ∃ oW, oW = ext o w.heap.size 12 := ⟨_, rfl⟩
  rw [← hW] at b0 b1 b2 b3 m1
  rw [← hW, ← hoW] at hm st
  have hup : ∀ w1 o1, Step [] W oW w1 o1 → w1.cell? ⟨w.heap.size, 0, none⟩ = some (.int .u8 K) ∧ w1.cell? ⟨w.heap.size, 1, none⟩ = some (.int .u8 S) ∧ w1.cell? ⟨w.heap.size, 2, none⟩ = some (.int .u8 T) ∧ w1.cell? ⟨w.heap.size, 3, none⟩ = some (.slice BA bn bc) ∧ w1.cell? ⟨l, s' * 5 + 1, none⟩ = some (.slice u.mA u.mn u.mc) := by
    intro w1 o1 h1
    have up : ∀ (a : Addr) (x : Value), W.cell? a = some x → w1.cell? a = some x := fun a x h => (World.cell?_of_block (h1.block a.block (World.block_lt_of_cell? W a h) (by simp))).trans h
    exact ⟨up _ _ b0, up _ _ b1, up _ _ b2, up _ _ b3, up _ _ m1⟩
  have UPC := Lib.hid hup; clear hup
  have hmy := hm.y.made.step (Step.refl [] W oW).drew (by simp) (by simp)
  have hch := chosen_any W.drew oW (4 + s') K S T hK hT (by omega) BA u.mA bn bc u.mn u.mc _ hmy (made_short hI' other own) (by simp; have := hz.my; omega)
  have hc : Calls Try.prog 31 #[.agg #[.int .u8 K, .int .u8 S, .int .u8 T, .slice BA bn bc], .slice u.mA u.mn u.mc] W.drew fun e w' => e = .returned (.tuple #[.slice none 0 0, .bool false]) ∧ ∃ o', Step [] W oW w' o' := by
    refine hch.mono ?_
    rintro e w' ⟨o', st', h | ⟨p, A', c', h, _⟩⟩
    · exact ⟨h.2, o', (Step.refl [] W oW).drew.trans st'⟩
    · rw [h0] at h; simp at h
  have HM := Lib.hid hm; have HST := Lib.hid st; have HCH := Lib.hid hc; have HW := Lib.hid hW; have HS' := Lib.hid hs'
  clear hm hmy st hL hSs hk hch hc bx hW hoW hs' hI' hz h0
  rcases hk1 with hk1 | hk1
  all_goals
    go_enter Try.func12, Try.ntmps12
    go_wp2_with fail
    rw [← HW.out]
    go_region_held3 (fun w' => w'.cell? ⟨w.heap.size, 0, none⟩ = some (.int .u8 K) ∧ w'.cell? ⟨w.heap.size, 1, none⟩ = some (.int .u8 S) ∧ w'.cell? ⟨w.heap.size, 2, none⟩ = some (.int .u8 T) ∧ w'.cell? ⟨w.heap.size, 3, none⟩ = some (.slice BA bn bc) ∧ w'.cell? ⟨l, s' * 5 + 1, none⟩ = some (.slice u.mA u.mn u.mc))
      (first | exact ⟨b0, b1, b2, b3, m1⟩ | exact HUP)
      (first | (go_at_call 31; refine HCH.out.mono ?_; rintro e w1 ⟨rfl, o1, st1⟩; have HUP := UPC.out w1 o1 st1; have ST1 := Lib.hid st1; clear st1))
    go_wp2_with fail
    go_ret
    have hsl : s' < 2 := by omega
    exact ⟨rfl, o1, v, u, cells, (HST.out.trans ST1.out).nil, HM.out.step ST1.out (by simp) hs hsl⟩

set_option maxRecDepth 100000 in
set_option maxHeartbeats 2000000 in
theorem step_takes_some (w : World) (o : Own) (l s s' : Nat) (hs : s < 2) (hs' : s' = 1 - s) (own other : Int) (X Y : ASide) (v u : SideV) (cells : Array Value) (hL : LinkS w o l s s' own other X Y v u cells) (hI : LinkInv X Y) (hI' : LinkInv Y X)
    (hown : 0 ≤ own) (hown' : own ≤ 1099511627776) (hot : 0 ≤ other) (hot' : other ≤ 1099511627776) (hz : Sized X Y 900)
    (K S T : Nat) (hK : K < 256) (hS : S < 256) (hT : T < 256) (hSs : S % 2 = s) (BA : Option Addr) (bn bc : Nat) (hk : K % 6 = 3 ∨ K % 6 = 4) (p0 : APkt) (hp0 : Y.made[Y.made.length - 1 - T % Y.made.length]? = some p0) :
    Calls Try.prog 12 #[.pointer (some ⟨l, 0, none⟩), .agg (opCells K S T BA bn bc)] w (StepTo w o l s s' own other (X.take p0, Y.given X.e p0)) := by
  have st := (Step.refl [] w o).alloc (.cells (opCells K S T BA bn bc) 29) 12
  have hm := hL.step st (by simp) hs (by omega)
  have bx := Blk.new w 29 (opCells K S T BA bn bc)
  have b0 := bx.cell 0; have b1 := bx.cell 1; have b2 := bx.cell 2; have b3 := bx.cell 3
  simp only [opCells, List.getElem?_toArray, List.getElem?_cons_zero, List.getElem?_cons_succ] at b0 b1 b2 b3
  have m1 := (hm.b.cell (s' * 5 + 1)).trans hm.cy.c1
  have hss : (1 : Int) - (s : Int) = (s' : Int) := by omega
  have hsb : s' < 2 := by omega
  have hwr : IntKind.i64.wrap (s' : Int) = (s' : Int) := by rw [IntKind.wrap_i64]; omega
  have hb0 : (0 : Int) ≤ (s' : Int) := by omega
  have hb1 : (s' : Int) < 2 := by omega
  have hs2 : (S : Int) % 2 = (s : Int) := by omega
  have hk1 : (K : Int) % 6 = 3 ∨ (K : Int) % 6 = 4 := by omega
  obtain ⟨W, hW⟩ : ∃ W, W = w.alloc (.cells (opCells K S T BA bn bc) 29) := ⟨_, rfl⟩
  obtain ⟨oW, hoW⟩ : ∃ oW, oW = ext o w.heap.size 12 := ⟨_, rfl⟩
  rw [← hW] at b0 b1 b2 b3 m1
  rw [← hW, ← hoW] at hm st
  have hup : ∀ w1 o1, Step [] W oW w1 o1 → w1.cell? ⟨w.heap.size, 0, none⟩ = some (.int .u8 K) ∧ w1.cell? ⟨w.heap.size, 1, none⟩ = some (.int .u8 S) ∧ w1.cell? ⟨w.heap.size, 2, none⟩ = some (.int .u8 T) ∧ w1.cell? ⟨w.heap.size, 3, none⟩ = some (.slice BA bn bc) ∧ w1.cell? ⟨l, s' * 5 + 1, none⟩ = some (.slice u.mA u.mn u.mc) := by
    intro w1 o1 h1
    have up : ∀ (a : Addr) (x : Value), W.cell? a = some x → w1.cell? a = some x := fun a x h => (World.cell?_of_block (h1.block a.block (World.block_lt_of_cell? W a h) (by simp))).trans h
    exact ⟨up _ _ b0, up _ _ b1, up _ _ b2, up _ _ b3, up _ _ m1⟩
  have UPC := Lib.hid hup; clear hup
  have hmy := hm.y.made.step (Step.refl [] W oW).drew (by simp) (by simp)
  have hch := chosen_any W.drew oW (4 + s') K S T hK hT (by omega) BA u.mA bn bc u.mn u.mc _ hmy (made_short hI' other own) (by simp; have := hz.my; omega)
  have hne : Y.made ≠ [] := by rintro h; rw [h] at hp0; simp at hp0
  have hc : Calls Try.prog 31 #[.agg #[.int .u8 K, .int .u8 S, .int .u8 T, .slice BA bn bc], .slice u.mA u.mn u.mc] W.drew fun e w' => ∃ A' c' o', e = .returned (.tuple #[.slice A' (p0.enc other own).length c', .bool true]) ∧ Step [] W oW w' o' ∧ Row w' o' 11 5 1 A' (p0.enc other own).length c' (byts (p0.enc other own)) := by
    refine hch.mono ?_
    rintro e w' ⟨o', st', h | ⟨p, A', c', h, he, hr⟩⟩
    · exact absurd (List.map_eq_nil_iff.1 h.1) hne
    · rw [List.length_map, List.getElem?_map, hp0] at h
      simp only [Option.map_some, Option.some.injEq] at h
      subst h
      exact ⟨A', c', o', he, (Step.refl [] W oW).drew.trans st', hr⟩
  have hpk := hI'.pkts p0 (List.mem_of_getElem? hp0)
  have hlen := made_short hI' other own (p0.enc other own) (List.mem_map_of_mem (List.mem_of_getElem? hp0))
  obtain ⟨pl, hpl⟩ : ∃ pl, pl = (p0.enc other own).length := ⟨_, rfl⟩
  rw [← hpl] at hc hlen
  have htk : ∀ w1 o1 A' c', Step [] W oW w1 o1 → Row w1 o1 11 5 1 A' pl c' (byts (p0.enc other own)) → Calls Try.prog 16 #[.pointer (some ⟨l, 0, none⟩), .int .i64 s, .slice A' pl c'] w1 (StepTo w1 o1 l s s' own other (X.take p0, Y.given X.e p0)) :=
    fun w1 o1 A' c' h1 h2 => takes_link w1 o1 l s s' 11 hs hs' own other X Y v u cells (hm.step h1 (by simp) hs hsb) hI hI' hown hown' hot hot' hz p0 hpk A' pl c' h2.sl (by omega) (.inr rfl)
  have HM := Lib.hid hm; have HST := Lib.hid st; have HCH := Lib.hid hc; have HW := Lib.hid hW; have HS' := Lib.hid hs'; have HTK := Lib.hid htk
  clear hm hmy st hL hSs hk hch hc bx hW hoW hs' hI hI' hz hne hp0 hpk htk hpl
  rcases hk1 with hk1 | hk1
  all_goals
    go_enter Try.func12, Try.ntmps12
    go_wp2_with fail
    rw [← HW.out]
    go_region_held3 (fun w' => w'.cell? ⟨w.heap.size, 0, none⟩ = some (.int .u8 K) ∧ w'.cell? ⟨w.heap.size, 1, none⟩ = some (.int .u8 S) ∧ w'.cell? ⟨w.heap.size, 2, none⟩ = some (.int .u8 T) ∧ w'.cell? ⟨w.heap.size, 3, none⟩ = some (.slice BA bn bc) ∧ w'.cell? ⟨l, s' * 5 + 1, none⟩ = some (.slice u.mA u.mn u.mc))
      (first | exact ⟨b0, b1, b2, b3, m1⟩ | exact HUP)
      (first | (go_at_call 31; refine HCH.out.mono ?_; rintro e w1 ⟨A1, c1, o1, rfl, st1, hr1⟩; have HUP := UPC.out w1 o1 st1; have ST1 := Lib.hid st1; have HR1 := Lib.hid hr1; clear st1 hr1))
    go_wp2_with (go_at_call 16; refine (HTK.out w1 o1 A1 c1 ST1.out HR1.out).mono ?_; rintro e w2 ⟨rfl, h1⟩; have H1 := Lib.hid h1; clear h1)
    go_ret
    exact StepTo.after (HST.out.trans ST1.out) ⟨rfl, H1.out⟩
end Go.Proofs.Ytpmbfgpfpdenbaa
