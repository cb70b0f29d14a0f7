/-
  WALKS of total, RatingSum.
-/
import Derived.Test.YtkceefheeicmbaaRatKB
namespace Go.Proofs.Ytkceefheeicmbaa
open Go.RowKit Go.Sort

theorem play_ok0 (w : World) (A : Option Addr) (n c : Nat) (l : List Pl) (hS : Sl w (fun _ => 0) 0 2 A n c (pls l)) (G : Option Addr) (m d : Nat) (gs : List Gm) (hT : Sl w (fun _ => 0) 0 3 G m d (gms gs)) (k : Int) (hok : playOk l gs.length k = true) (l' : List Pl) (hl' : runG k l gs = some l') :
    Calls Try.prog 32 #[.slice A n c, .slice G m d, .int .i64 k] w fun e w' => ∃ A' c', e = .returned (.tuple #[.slice A' n c', .int .i64 0]) ∧ Below w.heap.size w w' ∧ Sl w' (fun _ => 0) 0 2 A' n c' (pls l') := by
  have hln : l.length = n := by have := hS.1; rw [len_pls] at this; omega
  refine (Play_any w A n c l hS G m d gs hT k).mono ?_
  rintro e w' (⟨h, -⟩ | ⟨-, h, -⟩ | ⟨-, l2, A', c', o', h, he, hst, hr⟩)
  · rw [hok] at h; cases h
  · rw [hl'] at h; cases h
  · rw [hl'] at h; injection h with h; subst h
    rw [hln] at he hr
    exact ⟨A', c', he, hst.to_below (by simp), hr.sl.old0⟩
theorem play_bad0 (w : World) (A : Option Addr) (n c : Nat) (l : List Pl) (hS : Sl w (fun _ => 0) 0 2 A n c (pls l)) (G : Option Addr) (m d : Nat) (gs : List Gm) (hT : Sl w (fun _ => 0) 0 3 G m d (gms gs)) (k : Int) (hno : playOk l gs.length k = false ∨ runG k l gs = none) (E : Int) (hE : E = if playOk l gs.length k = true then 350 else 2) :
    Calls Try.prog 32 #[.slice A n c, .slice G m d, .int .i64 k] w fun e w' => e = .returned (.tuple #[.slice none 0 0, .int .i64 E]) ∧ Below w.heap.size w w' := by
  refine (Play_any w A n c l hS G m d gs hT k).mono ?_
  rintro e w' (⟨h, he, hb⟩ | ⟨h, -, he, hb⟩ | ⟨h1, l2, A', c', o', h, -⟩)
  · rw [h] at hE; rw [hE]; exact ⟨he, hb⟩
  · rw [h] at hE; rw [hE]; exact ⟨he, hb⟩
  · rcases hno with h2 | h2
    · rw [h1] at h2; cases h2
    · rw [h] at h2; cases h2

def TotalTo (w : World) (S : Int) (e : Ending) (w' : World) : Prop := e = .returned (.tuple #[.int .i64 S, .bool true]) ∧ w' = w
set_option maxRecDepth 100000 in
set_option maxHeartbeats 1000000 in
theorem total_any (w : World) (A : Option Addr) (n c : Nat) (l : List Pl) (hS : Sl w (fun _ => 0) 0 2 A n c (pls l)) (hr : ∀ x ∈ l, inR x.rt = true) (hn : n ≤ 200) (S : Int) (hSum : S = sumP l) :
    Calls Try.prog 33 #[.slice A n c] w (TotalTo w S) := by
  have hln : l.length = n := by have := hS.1; rw [len_pls] at this; omega
  have hbd : ∀ i, 0 ≤ sumP (l.take i) ∧ sumP (l.take i) ≤ 4000 * (l.take i).length := by
    have key : ∀ r : List Pl, (∀ x ∈ r, inR x.rt = true) → 0 ≤ sumP r ∧ sumP r ≤ 4000 * r.length := by
      intro r
      induction r with
      | nil => intro _; simp [sumP]
      | cons x r ih =>
        intro h
        have h1 := inR_iff.1 (h x (by simp))
        have h2 := ih fun y hy => h y (List.mem_cons_of_mem _ hy)
        rw [sumP_cons, List.length_cons]
        omega
    exact fun i => key _ fun x hx => hr x (List.mem_of_mem_take hx)
  have hbd2 : ∀ i, 0 ≤ sumP (l.take i) ∧ sumP (l.take i) ≤ 800000 := fun i => by
    have h1 := hbd i
    have h2 : (l.take i).length ≤ 200 := by rw [List.length_take]; omega
    omega
  have HS := Lib.hid hS; have HR := Lib.hid hr; have HL := Lib.hid hln; have HBD := Lib.hid hbd2; have HSU := Lib.hid hSum
  clear hS hr hln hbd hbd2 hSum
  go_enter Try.func33, Try.ntmps33
  go_wp2_with fail
  go_loopw [6, 4, 5] (fun s t u wr => ∃ (i : Nat) (T : Int), i ≤ n ∧ s = .int .i64 i ∧ t = .int .i64 T ∧ u = .bool true ∧ wr = w ∧ 0 ≤ T ∧ T ≤ 800000 ∧ Hid (T = sumP (l.take i))) (fun s _ _ _ => n - (intOf s).toNat)
  case atStart => exact ⟨0, 0, Nat.zero_le _, rfl, rfl, rfl, rfl, by omega, by omega, Lib.hid rfl⟩
  case round =>
    obtain ⟨i, T, hi, rfl, rfl, rfl, rfl, hT0, hT1, HT⟩ := hrel
    by_cases hlt : i < n
    · obtain ⟨x, hx⟩ : ∃ x, l[i]? = some x := ⟨_, List.getElem?_eq_getElem (by rw [HL.out]; exact hlt)⟩
      obtain ⟨g, off, rfl, -, hg, ca, cb⟩ := HS.out.pl hx
      have hsn := sumP_snoc hx
      have hxr := inR_iff.1 (HR.out x (List.mem_of_getElem? hx))
      obtain ⟨x0, x1⟩ := hxr
      have hb2 := HBD.out (i + 1)
      rw [hsn, ← HT.out] at hb2
      obtain ⟨t0, t1⟩ := hb2
      have HN : Hid (T + x.rt = sumP (l.take (i + 1))) := Lib.hid (by rw [hsn, HT.out])
      have d1 : decide (0 ≤ x.rt) = true := by simpa using x0
      have d2 : decide (x.rt ≤ 4000) = true := by simpa using x1
      clear hsn hx
      go_wp2_with fail
      go_roundw
      case rel => exact ⟨i + 1, T + x.rt, by omega, by go_num, rfl, rfl, by trivial, by omega, by omega, HN⟩
      case measure => simp [intOf]; omega
    · obtain rfl : n = i := by omega
      have hfin : T = S := by
        have := HT.out
        rw [List.take_of_length_le (by rw [HL.out]; exact Nat.le_refl _)] at this
        rw [this, HSU.out]
      subst hfin
      go_wp2_with fail
      go_ret2
      exact ⟨rfl, rfl⟩

theorem gms_drop (l : List Gm) : ∀ k, (gms l).drop (k * 3) = gms (l.drop k) := by
  induction l with
  | nil => intro k; simp
  | cons y l ih =>
    intro k
    cases k with
    | zero => simp
    | succ k =>
      rw [List.drop_succ_cons, ← ih k, show (k + 1) * 3 = k * 3 + 1 + 1 + 1 by omega]
      rfl
theorem gms_take (l : List Gm) : ∀ k, (gms l).take (k * 3) = gms (l.take k) := by
  induction l with
  | nil => intro k; simp
  | cons y l ih =>
    intro k
    cases k with
    | zero => simp
    | succ k =>
      have e : gms (List.take (k + 1) (y :: l)) = [.int .i64 y.a, .int .i64 y.b, .int .i64 y.s] ++ gms (l.take k) := by rw [List.take_succ_cons]; rfl
      rw [e, ← ih k, show (k + 1) * 3 = k * 3 + 1 + 1 + 1 by omega]
      rfl
theorem Sl.gmHead {w : World} {o : Own} {τ n c k : Nat} {A : Option Addr} {l : List Gm} (h : Sl w o τ 3 A n c (gms l)) (hk : k ≤ n) : Sl w o τ 3 A k c (gms (l.take k)) := by
  have h2 := h.cut (i := 0) (j := k) (Nat.zero_le _) hk A (fun g' off' h _ => by rw [h]; simp)
  rw [Nat.zero_mul, List.drop_zero, Nat.sub_zero, Nat.sub_zero, gms_take] at h2
  exact h2
theorem Sl.gmTail {w : World} {o : Own} {τ n c k : Nat} {A B : Option Addr} {l : List Gm} (h : Sl w o τ 3 A n c (gms l)) (hk : k ≤ n) (hB : k < n → ∀ g off, A = some ⟨g, off, none⟩ → B = some ⟨g, off + k * 3, none⟩) : Sl w o τ 3 B (n - k) (c - k) (gms (l.drop k)) := by
  have hl := h.1
  rw [len_gms] at hl
  have h2 := h.cut (i := k) (j := n) hk (Nat.le_refl _) B (fun g' off' h hkn => hB hkn g' off' h)
  rw [gms_drop, List.take_of_length_le (by rw [len_gms, List.length_drop]; omega)] at h2
  exact h2
theorem run_headA (P : Program) (t e : TypeId) (z : Value) (sz b : Nat) (hu : P.underlying t = some (.slice e)) (hs : (P.info? e).map (fun i => (i.zero, i.size, i.bytes)) = some (some z, sz, b)) (A : Option Addr) (n c k : Nat) (hk : k ≤ c) (W : World) :
    (Instr.slice t (.slice A n c) none (some (.int .i64 (k : Int))) none).run P W = .ok (.slice A k c) W := by
  obtain ⟨i, h1, h2, h3, h4⟩ := info_parts hs
  have ha : A.map (fun a : Addr => a.add 0) = A := by cases A <;> rfl
  simp [Instr.slice, Instr.sliceBounds, Instr.sliceBound, asIntOf, run_underlying hu, sizeOf, typeInfo, h1, hk]
  intro _; exact ha
theorem run_tailA (P : Program) (t e : TypeId) (z : Value) (sz b : Nat) (hu : P.underlying t = some (.slice e)) (hs : (P.info? e).map (fun i => (i.zero, i.size, i.bytes)) = some (some z, sz, b)) (A : Option Addr) (n c k : Nat) (hk : k ≤ n) (hc : n ≤ c) :
    ∃ B, (∀ W, (Instr.slice t (.slice A n c) (some (.int .i64 (k : Int))) none none).run P W = .ok (.slice B (n - k) (c - k)) W) ∧ (k < n → ∀ g off, A = some ⟨g, off, none⟩ → B = some ⟨g, off + k * sz, none⟩) := by
  cases A with
  | none =>
    obtain ⟨i, h1, h2, h3, h4⟩ := info_parts hs
    refine ⟨none, fun W => ?_, fun _ _ _ h => by cases h⟩
    simp [Instr.slice, Instr.sliceBounds, Instr.sliceBound, asIntOf, run_underlying hu, sizeOf, typeInfo, h1, hk]
  | some a =>
    obtain ⟨i, h1, h2, h3, h4⟩ := info_parts hs
    refine ⟨if c = k then some a else some (a.add (k * sz)), fun W => ?_, fun h g off e => ?_⟩
    · simp [Instr.slice, Instr.sliceBounds, Instr.sliceBound, asIntOf, run_underlying hu, sizeOf, typeInfo, h1, hk, h3]
    · injection e with e; subst e
      rw [if_neg (by omega)]
      unfold Addr.add
      by_cases h0 : k * sz = 0
      · simp [h0]
      · simp [h0]
end Go.Proofs.Ytkceefheeicmbaa
