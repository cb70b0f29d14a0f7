/-
  WALK of takes.
-/
import Derived.Test.YtpmbfgpfpdenbaaWalkC
namespace Go.Proofs.Ytpmbfgpfpdenbaa
open Go.RowKit

theorem conc_fit {X Y : ASide} {own other : Int} (h : LinkInv X Y) (h0 : 0 ≤ own) (h1 : own ≤ 1099511627776) (h2 : 0 ≤ other) (h3 : other ≤ 1099511627776) (hn : X.bodies.length ≤ 30000) (hm : Y.bodies.length ≤ 30000) : (X.e.conc own other).Fit := by
  have e1 := h.n; have e2 := h.heard
  refine ⟨h0, ?_, ?_, h2, ?_, ?_, h.mask, ?_, ?_⟩
  · show own ≤ own + (X.e.n : Int); omega
  · show own + (X.e.n : Int) ≤ _; omega
  · show other - 1 ≤ other + (X.e.heard : Int) - 1; omega
  · show other + (X.e.heard : Int) - 1 ≤ _; omega
  · show (X.e.pend.map _).length ≤ 256; rw [List.length_map]; exact h.plen
  · intro n hn'
    obtain ⟨k, hk, rfl⟩ := List.mem_map.1 hn'
    have := (h.pmem k hk).1
    exact ⟨by show own ≤ own + (k : Int); omega, by show own + (k : Int) < own + (X.e.n : Int); omega⟩

/-- What 'takes' leaves of the two sides. -/
def TakesTo (w : World) (o : Own) (s s' : Nat) (v u : SideV) (own other : Int) (X Y : ASide) (e : Ending) (w' : World) : Prop :=
  e = .returned (.bool true) ∧ ∃ o', Step [2 + s, 8 + s, 6 + s'] w o w' o' ∧ SideAt w' o' s v own other X ∧ SideAt w' o' s' u other own Y

set_option maxRecDepth 100000 in
set_option maxHeartbeats 2000000 in
theorem takes_quiet (w : World) (o : Own) (l s s' τ2 : Nat) (hs : s < 2) (hs' : s' = 1 - s) (own other : Int) (X Y : ASide) (v u : SideV) (cells : Array Value) (hb : Blk w l 94 cells) (hol : o l = 1)
    (h0 : cells[s * 5]? = some (.pointer (some ⟨v.e, 0, none⟩))) (h2 : cells[s * 5 + 2]? = some (.slice v.bA v.bn v.bc)) (h3 : cells[s * 5 + 3]? = some (.slice v.rA v.rn v.rc)) (h4 : cells[s * 5 + 4]? = some (.int .i64 own))
    (hX : SideAt w o s v own other X) (hY : SideAt w o s' u other own Y) (hI : LinkInv X Y) (hown : 0 ≤ own) (hown' : own ≤ 1099511627776) (hot : 0 ≤ other) (hot' : other ≤ 1099511627776) (hn : X.bodies.length ≤ 1000) (hm : Y.bodies.length ≤ 1000)
    (A : Option Addr) (n c : Nat) (xs : List UInt8) (hS : Sl w o τ2 1 A n c (byts xs)) (hnn : n ≤ 140737488355328) (ht : τ2 = 10 ∨ τ2 = 11)
    (a' : AEnd) (rs : List (Nat × Bool)) (code : Int) (hrecv : recvP (X.e.conc own other) xs = (a'.conc own other, [], movR own rs, code)) (hcode : code = 0 ∨ code = 191 ∨ code = 192) (hok : NoteOk { X with e := a' } rs) (hrs : rs.length ≤ 1000) :
    Calls Try.prog 16 #[.pointer (some ⟨l, 0, none⟩), .int .i64 s, .slice A n c] w (TakesTo w o s s' v u own other (({ X with e := a' } : ASide).note rs) Y) := by
  have c0 := (hb.cell (s * 5)).trans h0
  have hrc := Receive_any w o (2 + s) τ2 12 v.e _ hX.e (conc_fit hI hown hown' hot hot' (by omega) (by omega)) (by omega) (by omega) A c n xs hS hnn
  rw [hrecv] at hrc
  have hnote : ∀ w1 o1 RA rc, Step [2 + s] w o w1 o1 → Sl w1 o1 12 2 RA rs.length rc (reps (movR own rs)) → Calls Try.prog 19 #[.pointer (some ⟨l, 0, none⟩), .int .i64 s, .slice RA rs.length rc] w1 fun e w' => e = .returned (.bool true) ∧ NotedRel w1 o1 (8 + s) v.rA v.rn v.rc (noteL X.reports rs) w' :=
    fun w1 o1 RA rc hst hsl => noted_any w1 o1 l s (6 + s) (8 + s) 12 hs own { X with e := a' } rs cells v.bA v.rA RA v.bn v.bc v.rn v.rc rs.length rc (hb.step hst (by rw [hol]; simp; omega)) (by rw [hst.own l hb.lt, hol]; omega) h2 h3 h4 (hX.bodies.step hst (by simp)) (hX.reports.step hst (by simp)) hsl (by omega) (by omega) hok hI.nr hown hown' (by show X.bodies.length ≤ _; omega) (by omega)
  have HRC := Lib.hid hrc; have HNT := Lib.hid hnote; have HX := Lib.hid hX; have HY := Lib.hid hY
  clear hrc hnote hX hY hb h0 h2 h3 h4 hS hrecv hok hI
  go_enter Try.func16, Try.ntmps16
  rcases hcode with rfl | rfl | rfl
  all_goals
    go_wp2_with (first
      | (go_at_call 18; refine HRC.out.mono ?_; rintro e w1 ⟨BA, bc, RA, rc, o1, rfl, hst1, he1, hr1, hl1⟩; simp only [List.length_map, List.length_nil] at hl1 ⊢; have HST1 := Lib.hid hst1; have HE1 := Lib.hid he1; have HL1 := Lib.hid hl1; clear hst1 he1 hr1 hl1)
      | (go_at_call 19; refine (HNT.out w1 o1 RA rc HST1.out HL1.out).mono ?_; rintro e w2 ⟨rfl, o2, hst2, hr2⟩; have HST2 := Lib.hid hst2; have HR2 := Lib.hid hr2; clear hst2 hr2))
    go_ret
    refine ⟨rfl, o2, (HST1.out.mono (by simp)).trans (HST2.out.mono (by simp)), ⟨HE1.out.step HST2.out (by simp), ?_, ?_, HR2.out⟩, ?_⟩
    · exact (HX.out.made.step HST1.out (by simp <;> omega) (by simp <;> omega)).step HST2.out (by simp <;> omega) (by simp <;> omega)
    · exact (HX.out.bodies.step HST1.out (by simp)).step HST2.out (by simp)
    · exact (HY.out.step HST1.out (by simp <;> omega) (by simp <;> omega) (by simp <;> omega) (by simp <;> omega) (by simp <;> omega)).step HST2.out (by simp <;> omega) (by simp <;> omega) (by simp <;> omega) (by simp <;> omega) (by simp <;> omega)
end Go.Proofs.Ytpmbfgpfpdenbaa
