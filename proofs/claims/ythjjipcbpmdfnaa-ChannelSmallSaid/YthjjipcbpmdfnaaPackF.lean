/-
  WALK of (*End).Receive.
-/
import Derived.Test.YthjjipcbpmdfnaaPackB
import Derived.Test.YthjjipcbpmdfnaaPackE
import Derived.Laws.StructEq
namespace Go.Proofs.Ythjjipcbpmdfnaa
open Go.RowKit

/-- Does an acknowledgement name a number before the first one? -/
def earlyB (ack own : Int) (mask : Nat) : Bool := (List.range 33).any fun i => decide (ack - 32 + i < own) && named ack mask (ack - 32 + i)

/-- 'Receive': the End behind it, the body, the reports, the error. -/
def recvP (s : EndS) (xs : List UInt8) : EndS × List UInt8 × List (Int × Bool) × Int :=
  match parseP xs with
  | none => (s, [], [], 190)
  | some (f, nu, ak, mk, body) =>
    if f % 2 = 1 ∧ near s.newest nu < s.other then (s, [], [], 190)
    else if f / 2 % 2 = 1 ∧ (near (s.next - 1) ak < s.own ∨ s.next ≤ near (s.next - 1) ak ∨ earlyB (near (s.next - 1) ak) s.own mk = true) then (s, [], [], 190)
    else
      let s1 := if f / 2 % 2 = 1 then { s with pend := ackL (near (s.next - 1) ak) mk s.pend } else s
      let rs := if f / 2 % 2 = 1 then ackR (near (s.next - 1) ak) mk s.pend else []
      if f % 2 = 1 then ((accept s1 (near s.newest nu - s.newest)).1, if (accept s1 (near s.newest nu - s.newest)).2 = 0 then body else [], rs, (accept s1 (near s.newest nu - s.newest)).2)
      else (s1, [], rs, 0)

theorem early_iff (ack own : Int) (mask : Nat) (h : own ≤ ack) : earlyB ack own mask = true ↔ ∃ n, ack - 32 ≤ n ∧ n < own ∧ named ack mask n = true := by
  simp only [earlyB, List.any_eq_true, List.mem_range, Bool.and_eq_true, decide_eq_true_eq]
  constructor
  · rintro ⟨i, hi, h1, h2⟩; exact ⟨ack - 32 + i, by omega, h1, h2⟩
  · rintro ⟨n, h1, h2, h3⟩
    refine ⟨(n - (ack - 32)).toNat, by omega, ?_, ?_⟩
    · omega
    · rw [show ack - 32 + ((n - (ack - 32)).toNat : Int) = n by omega]; exact h3

theorem near_bd (a r : Int) : a - 32768 ≤ near a r ∧ near a r ≤ a + 32767 := by unfold near; omega

theorem parse_bd {xs : List UInt8} {f nu ak mk : Nat} {body : List UInt8} (h : parseP xs = some (f, nu, ak, mk, body)) : 1 ≤ f ∧ f ≤ 3 ∧ nu < 65536 ∧ ak < 65536 ∧ mk < 4294967296 ∧ body.length ≤ 1191 ∧ (0 < body.length ↔ f % 2 = 1) := by
  cases xs with
  | nil => simp [parseP] at h
  | cons c r =>
    simp only [parseP] at h
    have hA : (if c.toNat % 2 = 1 then 2 else 0) ≤ 2 := by split <;> omega
    have hB : (if c.toNat / 2 % 2 = 1 then 6 else 0) ≤ 6 := by split <;> omega
    generalize (if c.toNat % 2 = 1 then 2 else 0) = a at h hA
    generalize (if c.toNat / 2 % 2 = 1 then 6 else 0) = b' at h hB
    split at h
    · cases h
    · rename_i hc
      simp only [not_or] at hc
      simp only [Option.some.injEq, Prod.mk.injEq] at h
      obtain ⟨rfl, rfl, rfl, rfl, rfl⟩ := h
      have lt : ∀ (l : List UInt8) (k B : Nat), l.length ≤ k → 256 ^ k = B → beNum l < B := fun l k B h1 h2 => by
        rw [← h2]; exact Nat.lt_of_lt_of_le (beNum_lt l) (Nat.pow_le_pow_right (by omega) h1)
      refine ⟨by omega, by omega, lt _ 2 _ ?_ rfl, lt _ 2 _ ?_ rfl, lt _ 4 _ ?_ rfl, by simp only [List.length_drop]; omega, ?_⟩
      · simp only [List.length_take]; omega
      · simp only [List.length_take]; omega
      · simp only [List.length_take]; omega
      · have := hc.2.2.2.2
        simp only [ne_eq, Decidable.not_not] at this
        simp only [List.length_drop]
        rw [this]

theorem hdr_eq_walk (W : World) (f n a m : Int) : (binOp .eql 146 (.agg #[.int .u64 f, .int .u64 n, .int .u64 a, .int .u64 m]) (.agg #[.int .u64 0, .int .u64 0, .int .u64 0, .int .u64 0])).run Try.prog W =
    .ok (.bool ((f == 0) && (n == 0) && (a == 0) && (m == 0))) W := by
  rw [run_eql_struct, run_equalIn_struct W 9999 146 _ _ (by kernel_rfl) (by kernel_rfl)]
  simp [go_sem, Try.underlying146]
  by_cases h1 : f = 0 <;> by_cases h2 : n = 0 <;> by_cases h3 : a = 0 <;> by_cases h4 : m = 0 <;> simp [h1, h2, h3, h4]

theorem parse_any (w : World) (o : Own) (τ : Nat) (A : Option Addr) (c : Nat) (xs : List UInt8) (hS : Sl w o τ 1 A xs.length c (byts xs)) (hn : xs.length ≤ 140737488355328) :
    Calls Try.prog 66 #[.slice A xs.length c] w fun e w' => ∃ o', Step [] w o w' o' ∧
      ((parseP xs = none ∧ e = .returned (.tuple #[.agg (hdr 0 0 0 0), .slice none 0 0, .bool false])) ∨
       (∃ f nu ak mk body A' n' c', parseP xs = some (f, nu, ak, mk, body) ∧ e = .returned (.tuple #[.agg (hdr f nu ak mk), .slice A' n' c', .bool true]) ∧ Sl w' o' τ 1 A' n' c' (byts body))) := by
  obtain ⟨ρ, hρ, hρ2⟩ := fresh_tag w o [τ]
  obtain ⟨κ, hκ, hκ2⟩ := fresh_tag w o [τ, ρ]
  simp only [List.mem_cons, List.not_mem_nil, or_false, not_or] at hρ2 hκ2
  have fin : ∀ e w', ParseTo w o ρ κ τ xs e w' → ∃ o', Step [] w o w' o' ∧
      ((parseP xs = none ∧ e = .returned (.tuple #[.agg (hdr 0 0 0 0), .slice none 0 0, .bool false])) ∨
       (∃ f nu ak mk body A' n' c', parseP xs = some (f, nu, ak, mk, body) ∧ e = .returned (.tuple #[.agg (hdr f nu ak mk), .slice A' n' c', .bool true]) ∧ Sl w' o' τ 1 A' n' c' (byts body))) := by
    rintro e w' ⟨o', hst, h⟩
    refine ⟨o', hst.forget ?_, h⟩
    intro t ht _ k hk
    rcases List.mem_cons.1 ht with rfl | ht
    · exact hρ k hk
    · rw [List.mem_singleton.1 ht]; exact hκ k hk
  cases h1 : decide ((0:Int) < bits BinOp.and IntKind.u64 ((rget xs 0 0 1).1 : Int) 1) <;> cases h2 : decide ((0:Int) < bits BinOp.and IntKind.u64 ((rget xs 0 0 1).1 : Int) 2)
  · exact (parse_ff w o τ ρ κ A c xs hS hn (Ne.symm hρ2) (Ne.symm hκ2.1) hκ2.2 h1 h2).mono fin
  · exact (parse_ft w o τ ρ κ A c xs hS hn (Ne.symm hρ2) (Ne.symm hκ2.1) hκ2.2 h1 h2).mono fin
  · exact (parse_tf w o τ ρ κ A c xs hS hn (Ne.symm hρ2) (Ne.symm hκ2.1) hκ2.2 h1 h2).mono fin
  · exact (parse_tt w o τ ρ κ A c xs hS hn (Ne.symm hρ2) (Ne.symm hκ2.1) hκ2.2 h1 h2).mono fin

/-- What Receive comes to. -/
def RecvTo (w : World) (o : Own) (τ σ b : Nat) (R : EndS × List UInt8 × List (Int × Bool) × Int) (e : Ending) (w' : World) : Prop :=
  ∃ BA bc RA rc o', e = .returned (.tuple #[.slice BA R.2.1.length bc, .slice RA R.2.2.1.length rc, .int .i64 R.2.2.2]) ∧ Step [τ] w o w' o' ∧ EndAt w' o' τ b R.1 ∧ Row w' o' σ 5 1 BA R.2.1.length bc (byts R.2.1) ∧ Sl w' o' σ 2 RA R.2.2.1.length rc (reps R.2.2.1)

theorem RecvTo.bad {w w' : World} {o o' : Own} {τ σ b : Nat} {s : EndS} (hE : EndAt w o τ b s) (hst : Step [] w o w' o') : RecvTo w o τ σ b (s, [], [], 190) (.returned (.tuple #[.slice none 0 0, .slice none 0 0, .int .i64 190])) w' :=
  ⟨none, 0, none, 0, o', rfl, hst.nil, hE.step hst (by simp), Row.nil_ _ _ _ _ _, Sl.nil_ _ _ _ _ _ _ (Nat.zero_le _)⟩

set_option maxRecDepth 100000 in
set_option maxHeartbeats 1000000 in
theorem recv_none (w : World) (o : Own) (τ τ2 σ b : Nat) (s : EndS) (hE : EndAt w o τ b s) (A : Option Addr) (c : Nat) (xs : List UInt8) (hS : Sl w o τ2 1 A xs.length c (byts xs)) (hn : xs.length ≤ 140737488355328) (hp : parseP xs = none) :
    Calls Try.prog 53 #[.pointer (some ⟨b, 0, none⟩), .slice A xs.length c] w (RecvTo w o τ σ b (s, [], [], 190)) := by
  have HE := Lib.hid hE
  obtain ⟨A0, m, cc, hb, ho, hr⟩ := hE
  obtain ⟨h0, h1, h2, h3, h4, h5, h6⟩ := endCell hb
  have hcall : Calls Try.prog 66 #[.slice A xs.length c] w fun e w' => ∃ o', Step [] w o w' o' ∧ e = .returned (.tuple #[.agg #[.int .u64 0, .int .u64 0, .int .u64 0, .int .u64 0], .slice none 0 0, .bool false]) := by
    refine (parse_any w o τ2 A c xs hS hn).mono ?_
    rintro e w' ⟨o', hst, h | ⟨f, nu, ak, mk, body, A', n', c', h, _⟩⟩
    · exact ⟨o', hst, h.2⟩
    · rw [hp] at h; cases h
  have HC := Lib.hid hcall
  have heq := fun W => hdr_eq_walk W 0 0 0 0
  clear hcall hb ho hr hS hp
  go_enter Try.func53, Try.ntmps53
  go_wp2_with (first
    | (go_at_call 60; refine (there_end h0).mono ?_; rintro e w' ⟨rfl, rfl⟩)
    | (go_at_call 66; refine HC.out.mono ?_; rintro e w' ⟨o', hst, rfl⟩; have HST := Lib.hid hst; clear hst))
  go_ret3
  exact RecvTo.bad HE.out (HST.out.alloc _ 0)

end Go.Proofs.Ythjjipcbpmdfnaa
