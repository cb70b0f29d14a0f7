/-
  WALKS of the small methods of channel.Channel: there, New, due, Waiting, Delivered.
-/
import Derived.Test.YthjjipcbpmdfnaaChB
import Derived.Test.YthjjipcbpmdfnaaNew
namespace Go.Proofs.Ythjjipcbpmdfnaa
open Go.RowKit

section
variable {w W : World} {o : Own} {T : ChT} {b : Nat} {s : ChS} {k : ChB} {blk : Nat → Nat}
theorem ChIs.cells (h : ChIs w o T b s k blk) : w.cell? ⟨b, 0, none⟩ = some (.int .i64 s.first) ∧ w.cell? ⟨b, 1, none⟩ = some (.int .i64 s.sent) ∧ w.cell? ⟨b, 2, none⟩ = some (.int .i64 s.next) ∧ w.cell? ⟨b, 3, none⟩ = some (.int .i64 s.tick) ∧ w.cell? ⟨b, 4, none⟩ = some (.bool s.owes) ∧
    w.cell? ⟨b, 5, none⟩ = some (.pointer (some ⟨k.eb, 0, none⟩)) ∧ w.cell? ⟨b, 6, none⟩ = some (.map (some k.mo)) ∧ w.cell? ⟨b, 7, none⟩ = some (.map (some k.me)) ∧ w.cell? ⟨b, 8, none⟩ = some (.map (some k.mp)) :=
  ⟨h.cb.cell 0, h.cb.cell 1, h.cb.cell 2, h.cb.cell 3, h.cb.cell 4, h.cb.cell 5, h.cb.cell 6, h.cb.cell 7, h.cb.cell 8⟩
theorem ChIs.below (h : ChIs w o T b s k blk) (hb : Below w.heap.size w W) (t : Nat) : ChIs W (ext o w.heap.size t) T b s k blk := by
  exact h.step ((Step.refl [] w o).below hb t) (by simp) (by simp) (by simp) (by simp)
end

theorem zeroO (W : World) : (zeroValue 101).run Try.prog W = .ok (.pointer none) W := by kernel_rfl
theorem zeroB (W : World) : (zeroValue 41).run Try.prog W = .ok (.slice none 0 0) W := by kernel_rfl
theorem zeroL (W : World) : (zeroValue 25).run Try.prog W = .ok (.slice none 0 0) W := by kernel_rfl
theorem i64_nat {n : Nat} (h : n ≤ 4000000000) : I64 (n : Int) := by unfold I64; omega

/-- 'c.out[n]', as equations. -/
theorem OutAt.look {w : World} {o : Own} {τ σ m sent : Nat} {blk : Nat → Nat} {out : Nat → Option OutM} (h : OutAt w o τ σ m sent blk out) {n : Nat} (hn : n ≤ 4000000000) :
    (Instr.lookup 89 (.map (some m)) (.int .i64 (n : Int)) false).run Try.prog w = .ok (match out n with | none => .pointer none | some _ => .pointer (some ⟨blk n, 0, none⟩)) w := by
  cases hx : out n with
  | none => exact h.map.look_none Try.underlying89 (zeroO _) (i64_nat hn) (by unfold outF; rw [natF_nat, hx]; rfl)
  | some x => exact h.map.look_some Try.underlying89 (zeroO _) (i64_nat hn) (by unfold outF; rw [natF_nat, hx]; rfl)

set_option maxHeartbeats 400000 in
theorem there_ch {b eb : Nat} {w : World} (h5 : w.cell? ⟨b, 5, none⟩ = some (.pointer (some ⟨eb, 0, none⟩))) :
    Calls Try.prog 41 #[.pointer (some ⟨b, 0, none⟩)] w fun e w' => e = .returned (.bool true) ∧ w = w' := by
  go_enter Try.func41, Try.ntmps41
  go_wp2
  go_ret
  exact ⟨rfl, rfl⟩
set_option maxHeartbeats 400000 in
theorem there_zero {b : Nat} {w : World} (h5 : w.cell? ⟨b, 5, none⟩ = some (.pointer none)) :
    Calls Try.prog 41 #[.pointer (some ⟨b, 0, none⟩)] w fun e w' => e = .returned (.bool false) ∧ w = w' := by
  go_enter Try.func41, Try.ntmps41
  go_wp2
  go_ret
  exact ⟨rfl, rfl⟩
set_option maxHeartbeats 400000 in
theorem there_none (w : World) :
    Calls Try.prog 41 #[.pointer none] w fun e w' => e = .returned (.bool false) ∧ w = w' := by
  go_enter Try.func41, Try.ntmps41
  go_wp2
  go_ret
  exact ⟨rfl, rfl⟩

set_option maxHeartbeats 400000 in
theorem ChNew_bad (w : World) (own other : Int) (h : own < 0 ∨ 1099511627776 < own ∨ other < 0 ∨ 1099511627776 < other) :
    Calls Try.prog 11 #[.int .i64 own, .int .i64 other] w fun e w' => e = .returned (.tuple #[.pointer none, .int .i64 2]) ∧ w = w' := by
  have HN := Lib.hid (New_bad w own other h)
  clear h
  go_enter Try.func11, Try.ntmps11
  go_wp2_with fail
  refine HN.out.mono ?_
  rintro e w1 ⟨rfl, rfl⟩
  go_wp2_with fail
  go_ret2
  exact ⟨rfl, rfl⟩

/-- A Channel that is new. -/
theorem chNew_is {w w1 : World} {o : Own} (T : ChT) (own other : Int) (_ : T.Ok) (eb : Nat) (o1 : Own) (hst : Step [] w o w1 o1) (hE : EndAt w1 o1 T.τe eb ⟨own, own, other, other - 1, 0, []⟩) :
    ∃ o', Step [] w o ((((w1.alloc (.map #[] 0)).alloc (.map #[] 0)).alloc (.map #[] 0)).alloc (.cells (chCells (chNew own other) ⟨eb, w1.heap.size, w1.heap.size + 1, w1.heap.size + 2⟩) 93)) o' ∧
      ChAt ((((w1.alloc (.map #[] 0)).alloc (.map #[] 0)).alloc (.map #[] 0)).alloc (.cells (chCells (chNew own other) ⟨eb, w1.heap.size, w1.heap.size + 1, w1.heap.size + 2⟩) 93)) o' T (w1.heap.size + 3) (chNew own other) := by
  obtain ⟨w2, h2⟩ : ∃ w2, w2 = w1.alloc (.map #[] 0) := ⟨_, rfl⟩
  obtain ⟨w3, h3⟩ : ∃ w3, w3 = w2.alloc (.map #[] 0) := ⟨_, rfl⟩
  obtain ⟨w4, h4⟩ : ∃ w4, w4 = w3.alloc (.map #[] 0) := ⟨_, rfl⟩
  obtain ⟨w5, h5⟩ : ∃ w5, w5 = w4.alloc (.cells (chCells (chNew own other) ⟨eb, w1.heap.size, w1.heap.size + 1, w1.heap.size + 2⟩) 93) := ⟨_, rfl⟩
  have z2 : w2.heap.size = w1.heap.size + 1 := by rw [h2, World.size_alloc]
  have z3 : w3.heap.size = w1.heap.size + 2 := by rw [h3, World.size_alloc, z2]
  have z4 : w4.heap.size = w1.heap.size + 3 := by rw [h4, World.size_alloc, z3]
  rw [← h2, ← h3, ← h4, ← h5]
  have b12 : Below w1.heap.size w1 w2 := by rw [h2]; exact (Below.refl _ _).alloc (Nat.le_refl _) _
  have b23 : Below w2.heap.size w2 w3 := by rw [h3]; exact (Below.refl _ _).alloc (Nat.le_refl _) _
  have b34 : Below w3.heap.size w3 w4 := by rw [h4]; exact (Below.refl _ _).alloc (Nat.le_refl _) _
  have b45 : Below w4.heap.size w4 w5 := by rw [h5]; exact (Below.refl _ _).alloc (Nat.le_refl _) _
  have b35 := b34.trans (b45.mono b34.size)
  have b25 := b23.trans (b35.mono b23.size)
  have b15 := b12.trans (b25.mono b12.size)
  have st : Step [] w1 o1 w5 (ext o1 w1.heap.size T.τ) := (Step.refl [] w1 o1).below b15 T.τ
  refine ⟨ext o1 w1.heap.size T.τ, hst.trans st, ⟨eb, w1.heap.size, w1.heap.size + 1, w1.heap.size + 2⟩, fun _ => 0, ?_⟩
  have m2 := MapV.made w1
  have m3 := MapV.made w2
  have m4 := MapV.made w3
  rw [← h2] at m2; rw [← h3, z2] at m3; rw [← h4, z3] at m4
  refine ⟨?_, ext_ge (by omega), hE.step st (by simp), ⟨?_, ext_ge (Nat.le_refl _), fun n x hx => (by cases hx), fun i j hi => absurd rfl hi, fun n hn => absurd rfl hn⟩, ⟨⟨fun _ => none, fun _ => 0, ?_, fun n x hx => (by cases hx)⟩, ext_ge (by simp), fun n hn => absurd rfl hn⟩, ⟨⟨fun _ => none, fun _ => 0, 0, ?_, ?_, fun i l hl => (by cases hl)⟩, ext_ge (by simp)⟩, ?_, ?_, ?_⟩
  · have := Blk.new w4 93 (chCells (chNew own other) ⟨eb, w1.heap.size, w1.heap.size + 1, w1.heap.size + 2⟩)
    rw [← h5, z4] at this
    exact this
  · exact (m2.below b25 m2.lt).congr fun id => by unfold outF natF chNew; simp
  · have := (m3.below b35 m3.lt).congr (g := earlyF (fun _ => none) (fun _ => 0) (chNew own other).early) fun id => by unfold earlyF natF chNew; simp
    rw [show cntN (chNew own other).early ((chNew own other).next + 64) = 0 by simp [cntN, chNew]]
    exact this
  · exact (m4.below b45 m4.lt).congr fun id => by unfold packF chNew; simp
  · simp [chNew]
  · simp
  · simp
  · simp

set_option maxHeartbeats 400000 in
theorem ChNew_ok (w : World) (o : Own) (T : ChT) (hT : T.Ok) (own other : Int) (h0 : 0 ≤ own) (h1 : own ≤ 1099511627776) (h2 : 0 ≤ other) (h3 : other ≤ 1099511627776) :
    Calls Try.prog 11 #[.int .i64 own, .int .i64 other] w fun e w' => ∃ b o', e = .returned (.tuple #[.pointer (some ⟨b, 0, none⟩), .int .i64 0]) ∧ Step [] w o w' o' ∧ ChAt w' o' T b (chNew own other) := by
  have HN := Lib.hid (New_ok w o T.τe own other h0 h1 h2 h3)
  have hmm := @run_makeMap Try.prog
  clear h0 h1 h2 h3
  go_enter Try.func11, Try.ntmps11
  go_wp2_with fail
  refine HN.out.mono ?_
  rintro e w1 ⟨rfl, hst, hE⟩
  have HE := Lib.hid hE; have HS := Lib.hid hst
  clear hE hst
  generalize w.heap.size = eb at HE HS ⊢
  go_wp2_with fail
  go_ret2
  obtain ⟨o', q1, q2⟩ := chNew_is T own other hT eb _ HS.out HE.out
  exact ⟨w1.heap.size + 3, o', rfl, q1, q2⟩

set_option maxHeartbeats 400000 in
theorem Waiting_ok {w : World} {o : Own} {T : ChT} {b : Nat} {s : ChS} (h : ChAt w o T b s) :
    Calls Try.prog 31 #[.pointer (some ⟨b, 0, none⟩)] w fun e w' => e = .returned (.int .i64 (waitS s)) ∧ w = w' := by
  obtain ⟨k, blk, h⟩ := h
  obtain ⟨c0, c1, c2, c3, c4, c5, c6, c7, c8⟩ := h.cells
  have hl := h.out.map.len Try.underlying89 3
  rw [show cntN s.out s.sent = waitS s from rfl] at hl
  generalize waitS s = n at hl ⊢
  clear h
  go_enter Try.func31, Try.ntmps31
  go_wp2_with (go_at_call 41; refine (there_ch c5).mono ?_; rintro e w' ⟨rfl, rfl⟩)
  go_ret
  exact ⟨rfl, rfl⟩
set_option maxHeartbeats 400000 in
theorem Delivered_ok {w : World} {o : Own} {T : ChT} {b : Nat} {s : ChS} (h : ChAt w o T b s) :
    Calls Try.prog 36 #[.pointer (some ⟨b, 0, none⟩)] w fun e w' => e = .returned (.int .i64 s.next) ∧ w = w' := by
  obtain ⟨k, blk, h⟩ := h
  obtain ⟨c0, c1, c2, c3, c4, c5, c6, c7, c8⟩ := h.cells
  clear h
  go_enter Try.func36, Try.ntmps36
  go_wp2_with (go_at_call 41; refine (there_ch c5).mono ?_; rintro e w' ⟨rfl, rfl⟩)
  go_ret
  exact ⟨rfl, rfl⟩

set_option maxRecDepth 100000 in
set_option maxHeartbeats 400000 in
theorem due_any {w : World} {o : Own} {T : ChT} {b : Nat} {s : ChS} {k : ChB} {blk : Nat → Nat} (h : ChIs w o T b s k blk) (hs : s.Fit) (n : Nat) (hn : n ≤ 2000000000) :
    Calls Try.prog 59 #[.pointer (some ⟨b, 0, none⟩), .int .i64 n] w fun e w' => e = .returned (.bool (dueS s n)) ∧ ∃ q, w' = w.drewN q := by
  obtain ⟨c0, c1, c2, c3, c4, c5, c6, c7, c8⟩ := h.cells
  have hlk := h.out.look (n := n) (by omega)
  have t0 := hs.t0; have t1 := hs.t1
  cases hx : s.out n with
  | none =>
    have hd : dueS s n = false := by simp [dueS, hx]
    simp only [hx] at hlk
    rw [hd]
    clear hx hd h hs
    go_enter Try.func59, Try.ntmps59
    go_wp2
    go_quiet (fail)
    go_wp2
    go_ret
    exact ⟨rfl, nq, rfl⟩
  | some x =>
    obtain ⟨A, c, hB, ho, hS⟩ := h.out.msg n x hx
    have m1 := hB.cell 1; have m2 := hB.cell 2
    simp only [List.getElem?_toArray, List.getElem?_cons_zero, List.getElem?_cons_succ] at m1 m2
    obtain ⟨f1, f2, f3, f4, f5⟩ := hs.msg n x hx
    have hd : dueS s n = (decide (x.packet < 0) || decide (8 ≤ s.tick - x.tick)) := by simp [dueS, hx]
    simp only [hx] at hlk
    rw [hd]
    by_cases hp : x.packet < 0
    · have hp' : decide (x.packet < 0) = true := by simpa using hp
      rw [hp', Bool.true_or]
      clear hx hd h hs hB ho hS
      go_enter Try.func59, Try.ntmps59
      go_wp2
      go_quiet (fail)
      go_wp2
      go_ret
      exact ⟨rfl, nq, rfl⟩
    · have hp' : decide (x.packet < 0) = false := by simpa using hp
      rw [hp', Bool.false_or]
      clear hx hd h hs hB ho hS
      go_enter Try.func59, Try.ntmps59
      go_wp2
      go_quiet (fail)
      go_wp2
      go_ret
      exact ⟨rfl, nq, rfl⟩
end Go.Proofs.Ythjjipcbpmdfnaa
