/-
  WALKS of the small methods of packet.End: there, heard, near, accept, named.
-/
import Derived.Test.YthjjipcbpmdfnaaBase
import Derived.Test.YthjjipcbpmdfnaaModel
namespace Go.Proofs.Ythjjipcbpmdfnaa
open Go.RowKit

/-- The block of an End in memory. -/
def endCells (s : EndS) (A : Option Addr) (n c : Nat) : Array Value :=
  #[.bool true, .int .i64 s.own, .int .i64 s.next, .int .i64 s.other, .int .i64 s.newest, .int .u32 s.mask, .slice A n c]

/-- The End at block b, of tag τ, has the state s. -/
def EndAt (w : World) (o : Own) (τ : Nat) (b : Nat) (s : EndS) : Prop :=
  ∃ A n c, Blk w b 136 (endCells s A n c) ∧ o b = τ ∧ Row w o τ 3 1 A n c (ints s.pend)

/-- Numbers in their bounds: nothing overflows. -/
structure EndS.Fit (s : EndS) : Prop where
  own0 : 0 ≤ s.own
  own1 : s.own ≤ s.next
  next1 : s.next ≤ 2000000000000
  oth0 : 0 ≤ s.other
  oth1 : s.other - 1 ≤ s.newest
  new1 : s.newest ≤ 2000000000000
  mask1 : s.mask < 4294967296
  len : s.pend.length ≤ 256
  mem : ∀ n ∈ s.pend, s.own ≤ n ∧ n < s.next

section
variable {b : Nat} {w : World} {s : EndS} {A : Option Addr} {n c : Nat}
theorem endCell (h : Blk w b 136 (endCells s A n c)) : w.cell? ⟨b, 0, none⟩ = some (.bool true) ∧ w.cell? ⟨b, 1, none⟩ = some (.int .i64 s.own) ∧ w.cell? ⟨b, 2, none⟩ = some (.int .i64 s.next) ∧
    w.cell? ⟨b, 3, none⟩ = some (.int .i64 s.other) ∧ w.cell? ⟨b, 4, none⟩ = some (.int .i64 s.newest) ∧ w.cell? ⟨b, 5, none⟩ = some (.int .u32 s.mask) ∧ w.cell? ⟨b, 6, none⟩ = some (.slice A n c) :=
  ⟨h.cell 0, h.cell 1, h.cell 2, h.cell 3, h.cell 4, h.cell 5, h.cell 6⟩
end

set_option maxHeartbeats 400000 in
theorem there_end {b : Nat} {w : World} (h0 : w.cell? ⟨b, 0, none⟩ = some (.bool true)) :
    Calls Try.prog 60 #[.pointer (some ⟨b, 0, none⟩)] w fun e w' => e = .returned (.bool true) ∧ w = w' := by
  go_enter Try.func60, Try.ntmps60
  go_wp2
  go_ret
  exact ⟨rfl, rfl⟩

set_option maxHeartbeats 400000 in
theorem there_nil (w : World) :
    Calls Try.prog 60 #[.pointer none] w fun e w' => e = .returned (.bool false) ∧ w = w' := by
  go_enter Try.func60, Try.ntmps60
  go_wp2
  go_ret
  exact ⟨rfl, rfl⟩

set_option maxHeartbeats 400000 in
theorem heard_end {b : Nat} {w : World} (ot nw : Int) (h3 : w.cell? ⟨b, 3, none⟩ = some (.int .i64 ot)) (h4 : w.cell? ⟨b, 4, none⟩ = some (.int .i64 nw)) :
    Calls Try.prog 63 #[.pointer (some ⟨b, 0, none⟩)] w fun e w' => e = .returned (.bool (decide (ot ≤ nw))) ∧ ∃ n, w' = w.drewN n := by
  go_enter Try.func63, Try.ntmps63
  go_wp2
  go_quiet (fail)
  go_wp2
  go_ret
  exact ⟨rfl, nq, rfl⟩

theorem wrap_i16 (n : Int) : IntKind.i16.wrap n = (n + 32768) % 65536 - 32768 := by
  simp [IntKind.wrap, IntKind.bits, IntKind.signed]; omega

theorem near_arith (a r : Int) (ha : -1000000 ≤ a) (ha' : a ≤ 4000000000000) (_hr : 0 ≤ r) (_hr' : r < 65536) :
    wrap64 (a + wrap64 (IntKind.i16.wrap (IntKind.u16.wrap (r - IntKind.u16.wrap a)))) = near a r := by
  rw [wrap_i16, IntKind.wrap_u16, IntKind.wrap_u16]
  unfold wrap64 near
  omega

set_option maxHeartbeats 400000 in
theorem near_any (a r : Int) (w : World) (ha : -1000000 ≤ a) (ha' : a ≤ 4000000000000) (hr : 0 ≤ r) (hr' : r < 65536) :
    Calls Try.prog 67 #[.int .i64 a, .int .u64 r] w fun e w' => e = .returned (.int .i64 (near a r)) ∧ w = w' := by
  go_enter Try.func67, Try.ntmps67
  go_wp2
  go_ret
  exact ⟨ret_int (near_arith a r ha ha' hr hr'), rfl⟩

section
variable {b τ : Nat} {w : World} {s : EndS} {A : Option Addr} {m c : Nat}

set_option maxHeartbeats 400000 in
theorem accept_old (h : Blk w b 136 (endCells s A m c)) (n d : Int) (hs : s.Fit) (hd : n - s.newest = d) (hn : -1 ≤ n) (hn' : n ≤ 4000000000000) (hlt : d < -32) :
    Calls Try.prog 70 #[.pointer (some ⟨b, 0, none⟩), .int .i64 n] w fun e w' => e = .returned (.int .i64 191) ∧ w = w' := by
  obtain ⟨h0, h1, h2, h3, h4, h5, h6⟩ := endCell h
  have q1 := hs.oth0; have q2 := hs.oth1; have q3 := hs.new1
  clear h hs
  go_enter Try.func70, Try.ntmps70
  go_wp2_with fail
  go_ret
  exact ⟨rfl, rfl⟩

set_option maxHeartbeats 400000 in
theorem accept_same (h : Blk w b 136 (endCells s A m c)) (n : Int) (hs : s.Fit) (hd : n - s.newest = 0) (_hn : -1 ≤ n) (_hn' : n ≤ 4000000000000) :
    Calls Try.prog 70 #[.pointer (some ⟨b, 0, none⟩), .int .i64 n] w fun e w' => e = .returned (.int .i64 192) ∧ w = w' := by
  obtain ⟨h0, h1, h2, h3, h4, h5, h6⟩ := endCell h
  have q1 := hs.oth0; have q2 := hs.oth1; have q3 := hs.new1
  clear h hs
  go_enter Try.func70, Try.ntmps70
  go_wp2_with fail
  go_ret
  exact ⟨rfl, rfl⟩

theorem bit_u32 (m k : Nat) (hm : m < 4294967296) : (bits BinOp.and IntKind.u32 ((m : Int) / 2 ^ k) 1 == 1) = m.testBit k := by
  have h1 : m / 2 ^ k < 4294967296 := Nat.lt_of_le_of_lt (Nat.div_le_self _ _) hm
  have e : ((m : Int) / 2 ^ k) = ((m / 2 ^ k : Nat) : Int) := by simp
  have := u32_and_nat (m / 2 ^ k) 1 h1 (by omega)
  rw [e]
  rw [show (1 : Int) = ((1 : Nat) : Int) from rfl, this]
  rw [Nat.testBit, Nat.shiftRight_eq_div_pow, Nat.and_comm]
  rcases Nat.mod_two_eq_zero_or_one (m / 2 ^ k) with h | h
  · rw [Nat.and_comm, Nat.and_one_is_mod, h]; rfl
  · rw [Nat.and_comm, Nat.and_one_is_mod, h]; rfl

set_option maxHeartbeats 400000 in
theorem accept_twice (h : Blk w b 136 (endCells s A m c)) (n d : Int) (hs : s.Fit) (hd : n - s.newest = -d) (hlt : 1 ≤ d) (hge : d ≤ 32)
    (hb : (bits BinOp.and IntKind.u32 ((s.mask : Int) / 2 ^ (d.toNat - 1)) 1 == 1) = true) (_hn : -1 ≤ n) (_hn' : n ≤ 4000000000000) :
    Calls Try.prog 70 #[.pointer (some ⟨b, 0, none⟩), .int .i64 n] w fun e w' => e = .returned (.int .i64 192) ∧ w = w' := by
  obtain ⟨h0, h1, h2, h3, h4, h5, h6⟩ := endCell h
  have q1 := hs.oth0; have q2 := hs.oth1; have q3 := hs.new1; have q4 := hs.mask1
  have r1 : 0 ≤ d - 1 := by omega
  have r2 : (-d == 0) = false := by simp; omega
  clear h hs
  go_enter Try.func70, Try.ntmps70
  go_wp2_with fail
  go_ret
  exact ⟨rfl, rfl⟩

theorem or_u32 (m x : Nat) (hm : m < 4294967296) : bits BinOp.or IntKind.u32 (m : Int) ((x : Int) % 4294967296) = ((m ||| x % 4294967296 : Nat) : Int) := by
  rw [show ((x : Int) % 4294967296) = ((x % 4294967296 : Nat) : Int) by simp]
  exact u32_or_nat m _ hm (by omega)

/-- A word kept for what the walk leaves of an End: its block is known whole, and only it has changed. -/
def EndTo (w : World) (b : Nat) (A : Option Addr) (m c : Nat) (s : EndS) (w' : World) : Prop := Blk w' b 136 (endCells s A m c) ∧ w.grownBy w' (some b)

theorem or_mask (m x _y : Nat) (hm : m < 4294967296) : m ||| x % 4294967296 < 4294967296 := by
  have : m ||| x % 4294967296 < 2 ^ 32 := Nat.or_lt_two_pow (by omega) (by omega)
  omega

set_option maxHeartbeats 400000 in
theorem accept_late (h : Blk w b 136 (endCells s A m c)) (n d : Int) (hs : s.Fit) (hd : n - s.newest = -d) (hlt : 1 ≤ d) (hge : d ≤ 32)
    (hb : (bits BinOp.and IntKind.u32 ((s.mask : Int) / 2 ^ (d.toNat - 1)) 1 == 1) = false) (_hn : -1 ≤ n) (_hn' : n ≤ 4000000000000) :
    Calls Try.prog 70 #[.pointer (some ⟨b, 0, none⟩), .int .i64 n] w fun e w' => e = .returned (.int .i64 0) ∧
      EndTo w b A m c { s with mask := s.mask ||| 2 ^ (d.toNat - 1) } w' := by
  obtain ⟨h0, h1, h2, h3, h4, h5, h6⟩ := endCell h
  have f5 := h.frozen 5
  have q1 := hs.oth0; have q2 := hs.oth1; have q3 := hs.new1; have q4 := hs.mask1
  have r1 : 0 ≤ d - 1 := by omega
  have r2 : (-d == 0) = false := by simp; omega
  have H := Lib.hid h; clear h hs
  go_enter Try.func70, Try.ntmps70
  go_wp2_with fail
  go_region
  all_goals go_wp2_with fail
  all_goals go_ret
  all_goals
    have e1 : (2 : Int) ^ (d.toNat - 1) = ((2 ^ (d.toNat - 1) : Nat) : Int) := by simp
    have e2 : 2 ^ (d.toNat - 1) % 4294967296 = 2 ^ (d.toNat - 1) := Nat.mod_eq_of_lt (Nat.lt_of_le_of_lt (Nat.pow_le_pow_right (by omega) (show d.toNat - 1 ≤ 31 by omega)) (by omega))
    rw [e1, or_u32 _ _ q4, e2]
    refine ⟨rfl, H.out.set_ 5 _, ?_⟩
    (repeat (first | exact World.grownBy.refl _ _ | refine only_drewN ?_ _ | refine only_drew ?_ | refine only_setCell ?_ (.inl rfl) _))

set_option maxHeartbeats 400000 in
theorem accept_new (h : Blk w b 136 (endCells s A m c)) (n d : Int) (hs : s.Fit) (hd : n - s.newest = d) (hlt : 1 ≤ d) (hn : -1 ≤ n) (hn' : n ≤ 4000000000000) :
    Calls Try.prog 70 #[.pointer (some ⟨b, 0, none⟩), .int .i64 n] w fun e w' => e = .returned (.int .i64 0) ∧
      EndTo w b A m c (accept s d).1 w' := by
  obtain ⟨h0, h1, h2, h3, h4, h5, h6⟩ := endCell h
  have f5 := h.frozen 5; have f4 := h.frozen 4
  have q1 := hs.oth0; have q2 := hs.oth1; have q3 := hs.new1; have q4 := hs.mask1
  have r1 : 0 ≤ d - 1 := by omega
  have r0 : 0 ≤ d := by omega
  have r2 : (d == 0) = false := by simp; omega
  have r3 : decide (d < 0) = false := by simp; omega
  have e0 : s.newest + d = n := by omega
  have E0 := Lib.hid e0; clear e0
  have H := Lib.hid h; clear h hs
  by_cases hot : s.other ≤ s.newest
  · have hac : (accept s d).1 = { s with mask := s.mask * 2 ^ min d.toNat 32 % 4294967296 ||| 2 ^ min (d.toNat - 1) 32 % 4294967296, newest := n } := by
      simp only [accept, if_neg (show ¬ d < -32 by omega), if_neg (show ¬ d = 0 by omega), if_neg (show ¬ d < 0 by omega), if_pos hot, E0.out]
      rw [show (d - 1).toNat = d.toNat - 1 by omega]
    have HA := Lib.hid hac; clear hac
    go_enter Try.func70, Try.ntmps70
    go_wp2_with (go_at_call 63; refine (heard_end s.other s.newest (by simp [h3, World.cell?_setCell_other]) (by simp [h4, World.cell?_setCell_other])).mono ?_; rintro e w' ⟨rfl, k, rfl⟩)
    go_region
    all_goals go_wp2_with fail
    all_goals go_ret
    all_goals
      have e1 : (2 : Int) ^ min (d.toNat - 1) 32 = ((2 ^ min (d.toNat - 1) 32 : Nat) : Int) := by simp
      have e2 : (s.mask : Int) * 2 ^ min d.toNat 32 % 4294967296 = ((s.mask * 2 ^ min d.toNat 32 % 4294967296 : Nat) : Int) := by simp
      rw [HA.out, e1, e2, or_u32 _ _ (by omega)]
      refine ⟨rfl, ((H.out.set_ 5 _).drewN _ |>.set_ 5 _).set_ 4 _, ?_⟩
      (repeat (first | exact World.grownBy.refl _ _ | refine only_drewN ?_ _ | refine only_drew ?_ | refine only_setCell ?_ (.inl rfl) _))
  · have hac : (accept s d).1 = { s with mask := s.mask * 2 ^ min d.toNat 32 % 4294967296, newest := n } := by
      simp only [accept, if_neg (show ¬ d < -32 by omega), if_neg (show ¬ d = 0 by omega), if_neg (show ¬ d < 0 by omega), if_neg hot, E0.out]
      simp
    have HA := Lib.hid hac; clear hac
    go_enter Try.func70, Try.ntmps70
    go_wp2_with (go_at_call 63; refine (heard_end s.other s.newest (by simp [h3, World.cell?_setCell_other]) (by simp [h4, World.cell?_setCell_other])).mono ?_; rintro e w' ⟨rfl, k, rfl⟩)
    go_ret
    have e2 : (s.mask : Int) * 2 ^ min d.toNat 32 % 4294967296 = ((s.mask * 2 ^ min d.toNat 32 % 4294967296 : Nat) : Int) := by simp
    rw [HA.out, e2]
    refine ⟨rfl, (H.out.set_ 5 _).drewN _ |>.set_ 4 _, ?_⟩
    (repeat (first | exact World.grownBy.refl _ _ | refine only_drewN ?_ _ | refine only_drew ?_ | refine only_setCell ?_ (.inl rfl) _))
end

theorem EndAt.of_to {w w' : World} {o : Own} {τ b : Nat} {s s' : EndS} {A : Option Addr} {m c : Nat} (ho : o b = τ) (hb : Blk w b 136 (endCells s A m c)) (hr : Row w o τ 3 1 A m c (ints s.pend))
    (h : EndTo w b A m c s' w') (hp : s'.pend = s.pend) : EndAt w' o τ b s' ∧ Step [τ] w o w' o :=
  ⟨⟨A, m, c, h.1, ho, by rw [hp]; exact hr.only h.2 (hr.ne_blk hb (by decide))⟩, Step.of_only h.2 (by simp [ho])⟩

theorem accept_pend (s : EndS) (d : Int) : (accept s d).1.pend = s.pend := by
  unfold accept; (repeat' split) <;> rfl

/-- 'accept', whatever the number. -/
theorem accept_end {w : World} {o : Own} {τ b : Nat} {s : EndS} (h : EndAt w o τ b s) (hs : s.Fit) (n : Int) (hn : -1 ≤ n) (hn' : n ≤ 4000000000000) :
    Calls Try.prog 70 #[.pointer (some ⟨b, 0, none⟩), .int .i64 n] w fun e w' => e = .returned (.int .i64 (accept s (n - s.newest)).2) ∧
      Step [τ] w o w' o ∧ EndAt w' o τ b (accept s (n - s.newest)).1 := by
  obtain ⟨A, m, c, hb, ho, hr⟩ := h
  have q4 := hs.mask1
  by_cases c1 : n - s.newest < -32
  · refine (accept_old hb n _ hs rfl hn hn' c1).mono ?_
    rintro e w' ⟨rfl, rfl⟩
    simp only [accept, if_pos c1]
    exact ⟨trivial, Step.refl _ _ _, A, m, c, hb, ho, hr⟩
  · by_cases c2 : n - s.newest = 0
    · refine (accept_same hb n hs c2 hn hn').mono ?_
      rintro e w' ⟨rfl, rfl⟩
      simp only [accept, if_neg c1, if_pos c2]
      exact ⟨trivial, Step.refl _ _ _, A, m, c, hb, ho, hr⟩
    · by_cases c3 : n - s.newest < 0
      · have hbit := bit_u32 s.mask ((-(n - s.newest)).toNat - 1) q4
        have he : (-(n - s.newest) - 1).toNat = (-(n - s.newest)).toNat - 1 := by omega
        cases ht : s.mask.testBit ((-(n - s.newest)).toNat - 1) with
        | true =>
          refine (accept_twice hb n (-(n - s.newest)) hs (by omega) (by omega) (by omega) (by rw [hbit, ht]) hn hn').mono ?_
          rintro e w' ⟨rfl, rfl⟩
          simp only [accept, if_neg c1, if_neg c2, if_pos c3, he, ht, if_true]
          exact ⟨trivial, Step.refl _ _ _, A, m, c, hb, ho, hr⟩
        | false =>
          refine (accept_late hb n (-(n - s.newest)) hs (by omega) (by omega) (by omega) (by rw [hbit, ht]) hn hn').mono ?_
          rintro e w' ⟨rfl, h2⟩
          simp only [accept, if_neg c1, if_neg c2, if_pos c3, he, ht, Bool.false_eq_true, if_false]
          have := EndAt.of_to ho hb hr h2 rfl
          exact ⟨trivial, this.2, this.1⟩
      · refine (accept_new hb n _ hs rfl (by omega) hn hn').mono ?_
        rintro e w' ⟨rfl, h2⟩
        have := EndAt.of_to ho hb hr h2 (accept_pend _ _)
        refine ⟨?_, this.2, this.1⟩
        simp only [accept, if_neg c1, if_neg c2, if_neg c3]

/-! ### named, and the function that it returns -/
theorem bit_u64 (m k : Nat) (hm : m < 4294967296) : (bits BinOp.and IntKind.u64 ((m : Int) / 2 ^ k) 1 == 1) = m.testBit k := by
  have h1 : m / 2 ^ k < 4294967296 := Nat.lt_of_le_of_lt (Nat.div_le_self _ _) hm
  have e : ((m : Int) / 2 ^ k) = ((m / 2 ^ k : Nat) : Int) := by simp
  have := u64_and_nat (m / 2 ^ k) 1 (by omega) (by omega)
  rw [e]
  rw [show (1 : Int) = ((1 : Nat) : Int) from rfl, this]
  rw [Nat.testBit, Nat.shiftRight_eq_div_pow, Nat.and_comm]
  rcases Nat.mod_two_eq_zero_or_one (m / 2 ^ k) with h | h
  · rw [Nat.and_comm, Nat.and_one_is_mod, h]; rfl
  · rw [Nat.and_comm, Nat.and_one_is_mod, h]; rfl

set_option maxHeartbeats 400000 in
theorem named_any (ack : Int) (mask : Nat) (w : World) :
    Calls Try.prog 68 #[.int .i64 ack, .int .u64 mask] w fun e w' => e = .returned (.func (.func 82) #[] #[.pointer (some ⟨w.heap.size, 0, none⟩), .pointer (some ⟨w.heap.size + 1, 0, none⟩)]) ∧
      (w.alloc (.cells #[.int .i64 ack] 3)).alloc (.cells #[.int .u64 mask] 67) = w' := by
  go_enter Try.func68, Try.ntmps68
  go_wp2
  go_ret
  exact ⟨rfl, rfl⟩

set_option maxHeartbeats 400000 in
theorem is_any (n ack : Int) (mask : Nat) (p q : Nat) (w : World) (hp : w.cell? ⟨p, 0, none⟩ = some (.int .i64 ack)) (hq : w.cell? ⟨q, 0, none⟩ = some (.int .u64 mask))
    (h1 : -1000000 ≤ ack) (h2 : ack ≤ 4000000000000) (_h3 : -1000000 ≤ n) (_h4 : n ≤ 4000000000000) (hm : mask < 4294967296) :
    Calls Try.prog 82 #[.int .i64 n, .pointer (some ⟨p, 0, none⟩), .pointer (some ⟨q, 0, none⟩)] w fun e w' => e = .returned (.bool (named ack mask n)) ∧ w = w' := by
  by_cases c1 : n = ack
  · subst c1
    have hN : named n mask n = true := by simp [named]
    have HN := Lib.hid hN; clear hN
    go_enter Try.func82, Try.ntmps82
    go_wp2
    go_ret
    rw [HN.out]; exact ⟨rfl, rfl⟩
  · have c1' : (n == ack) = false := by simp [c1]
    by_cases c2 : n < ack
    · by_cases c3 : ack - 32 ≤ n
      · have hN : named ack mask n = mask.testBit (ack - 1 - n).toNat := by simp [named, c1, c2, c3]
        have hbit := bit_u64 mask (ack - 1 - n).toNat hm
        rw [← hbit] at hN
        have HN := Lib.hid hN; clear hN hbit
        have r1 : 0 ≤ ack - 1 - n := by omega
        clear c1
        go_enter Try.func82, Try.ntmps82
        go_wp2
        go_ret
        rw [HN.out]; exact ⟨rfl, rfl⟩
      · have hN : named ack mask n = false := by simp [named, c1, c3]
        have HN := Lib.hid hN; clear hN c1
        go_enter Try.func82, Try.ntmps82
        go_wp2
        go_ret
        rw [HN.out]; exact ⟨rfl, rfl⟩
    · have hN : named ack mask n = false := by simp [named, c1, c2]
      have HN := Lib.hid hN; clear hN c1
      go_enter Try.func82, Try.ntmps82
      go_wp2
      go_ret
      rw [HN.out]; exact ⟨rfl, rfl⟩
end Go.Proofs.Ythjjipcbpmdfnaa
