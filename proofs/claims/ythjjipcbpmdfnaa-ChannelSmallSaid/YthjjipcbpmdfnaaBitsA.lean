/-
  WALKS of slices.Clone at bytes and ints.
-/
import Derived.Test.YthjjipcbpmdfnaaBase
namespace Go.Proofs.Ythjjipcbpmdfnaa
open Go.RowKit

/-! ### -/
theorem el_byte : Elem Try.prog 41 5 1 1 (.int .u8 0) := ⟨Try.underlying41, by kernel_rfl, rfl, by decide⟩
theorem el_int : Elem Try.prog 25 3 1 8 (.int .i64 0) := ⟨Try.underlying25, by kernel_rfl, rfl, by decide⟩

set_option maxHeartbeats 400000 in
theorem cloneB (w : World) (o : Own) (τ ρ : Nat) (A : Option Addr) (n c : Nat) (xs : List Value) (hS : Sl w o τ 1 A n c xs) (h1 : ∀ u ∈ xs, u.oneCell' = true) (hn : n ≤ 140737488355328) :
    Calls Try.prog 42 #[.slice A n c] w fun e w' => ∃ A' c', e = .returned (.slice A' n c') ∧ Row w' (ext o w.heap.size ρ) ρ 5 1 A' n c' xs ∧ Below w.heap.size w w' ∧ ∀ ad, A' = some ad → w.heap.size ≤ ad.block := by
  cases A with
  | none =>
    have hn0 : n = 0 := by
      rcases Nat.eq_zero_or_pos n with h | h
      · exact h
      · obtain ⟨_, _, h, _⟩ := hS.2.2.2 h; cases h
    subst hn0
    have hx : xs = [] := List.eq_nil_of_length_eq_zero (by simpa using hS.1)
    subst hx
    clear hS
    have hnil := Lib.run_eql_slice_nil (P := Try.prog) w 41 5 none 0 c 0 0 Try.underlying41
    go_enter Try.func42, Try.ntmps42
    go_wp2_with fail
    go_ret
    exact ⟨none, 0, rfl, Row.nil_ _ _ _ _ _, Below.refl _ _, fun _ h => by cases h⟩
  | some ad =>
    have hnil := Lib.run_eql_slice_nil (P := Try.prog) w 41 5 (some ad) n c 0 0 Try.underlying41
    have H := Lib.hid hS; clear hS
    go_enter Try.func42, Try.ntmps42
    go_wp2_with (at_builtin; refine wpList_append_row _ rfl (.tmp 5) (.tmp 6) _ rfl el_byte (ext o w.heap.size ρ) ρ _ 0 0 [] rfl (Row.made (w := w) o ρ 5 1 #[] 0 rfl (Nat.zero_le _) 0 (Nat.le_refl _)) (ext o w.heap.size 0) τ _ n c xs rfl (H.out.step ((Step.refl [] _ _).alloc _ _) (by simp)) h1 (by omega) (by simp only [maxLen]; omega) ?_; intro A' c' w' hR hg hat)
    go_ret
    rw [World.size_alloc, ext_ext (by omega), Nat.zero_add] at hR
    refine ⟨A', c', rfl, by simpa using hR, ?_, fun ad0 h0 => ?_⟩
    rotate_left
    · rcases hat ad0 h0 with ⟨ad1, h1, h2⟩ | h2
      · injection h1 with h1; subst h1; rw [h2]; exact Nat.le_refl _
      · rw [h2]; simp
    exact ((Below.refl _ _).alloc (Nat.le_refl _) _).grown hg (by simp) (fun k hk => by simp [Value.ownBlock] at hk; omega)

set_option maxHeartbeats 400000 in
theorem cloneI (w : World) (o : Own) (τ ρ : Nat) (A : Option Addr) (n c : Nat) (xs : List Value) (hS : Sl w o τ 1 A n c xs) (h1 : ∀ u ∈ xs, u.oneCell' = true) (hn : n * 8 ≤ 140737488355328) :
    Calls Try.prog 61 #[.slice A n c] w fun e w' => ∃ A' c', e = .returned (.slice A' n c') ∧ Row w' (ext o w.heap.size ρ) ρ 3 1 A' n c' xs ∧ Below w.heap.size w w' ∧ ∀ ad, A' = some ad → w.heap.size ≤ ad.block := by
  cases A with
  | none =>
    have hn0 : n = 0 := by
      rcases Nat.eq_zero_or_pos n with h | h
      · exact h
      · obtain ⟨_, _, h, _⟩ := hS.2.2.2 h; cases h
    subst hn0
    have hx : xs = [] := List.eq_nil_of_length_eq_zero (by simpa using hS.1)
    subst hx
    clear hS
    have hnil := Lib.run_eql_slice_nil (P := Try.prog) w 25 3 none 0 c 0 0 Try.underlying25
    go_enter Try.func61, Try.ntmps61
    go_wp2_with fail
    go_ret
    exact ⟨none, 0, rfl, Row.nil_ _ _ _ _ _, Below.refl _ _, fun _ h => by cases h⟩
  | some ad =>
    have hnil := Lib.run_eql_slice_nil (P := Try.prog) w 25 3 (some ad) n c 0 0 Try.underlying25
    have H := Lib.hid hS; clear hS
    go_enter Try.func61, Try.ntmps61
    go_wp2_with (at_builtin; refine wpList_append_row _ rfl (.tmp 5) (.tmp 6) _ rfl el_int (ext o w.heap.size ρ) ρ _ 0 0 [] rfl (Row.made (w := w) o ρ 3 1 #[] 0 rfl (Nat.zero_le _) 0 (Nat.le_refl _)) (ext o w.heap.size 0) τ _ n c xs rfl (H.out.step ((Step.refl [] _ _).alloc _ _) (by simp)) h1 (by omega) (by simp only [maxLen]; omega) ?_; intro A' c' w' hR hg hat)
    go_ret
    rw [World.size_alloc, ext_ext (by omega), Nat.zero_add] at hR
    refine ⟨A', c', rfl, by simpa using hR, ?_, fun ad0 h0 => ?_⟩
    rotate_left
    · rcases hat ad0 h0 with ⟨ad1, h1, h2⟩ | h2
      · injection h1 with h1; subst h1; rw [h2]; exact Nat.le_refl _
      · rw [h2]; simp
    exact ((Below.refl _ _).alloc (Nat.le_refl _) _).grown hg (by simp) (fun k hk => by simp [Value.ownBlock] at hk; omega)

/-! ### bits.Writer, at whole bytes -/

/-- Byte j of the m bytes of a number, the greatest first. -/
def byteAt (n m j : Nat) : Nat := n / 2 ^ (8 * (m - 1 - j)) % 256
/-- The first r bits of a byte. -/
def top (v r : Nat) : Nat := v / 2 ^ (8 - r) * 2 ^ (8 - r)
/-- The bytes that hold the first i of the 8 * m bits of n. -/
def putB (n m i : Nat) : List UInt8 :=
  ((List.range (i / 8)).map fun j => UInt8.ofNat (byteAt n m j)) ++ if i % 8 = 0 then [] else [UInt8.ofNat (top (byteAt n m (i / 8)) (i % 8))]
def bytesOf (n m : Nat) : List UInt8 := (List.range m).map fun j => UInt8.ofNat (byteAt n m j)

theorem putB_all (n m : Nat) : putB n m (8 * m) = bytesOf n m := by
  simp [putB, bytesOf, Nat.mul_mod_right]
theorem putB_len (n m i : Nat) : (putB n m i).length = (i + 7) / 8 := by
  unfold putB
  split <;> simp <;> omega

theorem top_step : ∀ v < 256, ∀ r < 8, top v r ||| (v / 2 ^ (7 - r) % 2) * 2 ^ (7 - r) = top v (r + 1) := by decide +kernel
theorem top_lt : ∀ v < 256, ∀ r < 8, top v r < 256 := by decide +kernel
theorem bit_lt : ∀ v < 256, ∀ r < 8, (v / 2 ^ (7 - r) % 2) * 2 ^ (7 - r) < 256 := by decide +kernel

theorem top_lt' (v r : Nat) (h : v < 256) : top v r < 256 := Nat.lt_of_le_of_lt (Nat.div_mul_le_self _ _) h
/-- The bit that is put at step i. -/
theorem byte_bit (n m i : Nat) (hi : i < 8 * m) : n / 2 ^ (8 * m - 1 - i) % 2 = byteAt n m (i / 8) / 2 ^ (7 - i % 8) % 2 := by
  have e : 8 * m - 1 - i = 8 * (m - 1 - i / 8) + (7 - i % 8) := by omega
  have h7 : 7 - i % 8 < 8 := by omega
  rw [e, Nat.pow_add, ← Nat.div_div_eq_div_mul]
  unfold byteAt
  generalize n / 2 ^ (8 * (m - 1 - i / 8)) = x
  generalize 7 - i % 8 = b at h7
  have h := Nat.testBit_mod_two_pow x 8 b
  rw [Nat.testBit, Nat.testBit, Nat.shiftRight_eq_div_pow, Nat.shiftRight_eq_div_pow] at h
  simp only [h7, decide_true, Bool.true_and, Nat.reducePow] at h
  rcases Nat.mod_two_eq_zero_or_one (x / 2 ^ b) with h1 | h1 <;> rcases Nat.mod_two_eq_zero_or_one (x % 256 / 2 ^ b) with h2 | h2 <;> simp_all [Nat.and_comm 1, Nat.and_one_is_mod]

/-- Step i, in the middle of a byte: its last byte turns. -/
theorem putB_mid (n m i : Nat) (h : i % 8 ≠ 0) : putB n m i = ((List.range (i / 8)).map fun j => UInt8.ofNat (byteAt n m j)) ++ [UInt8.ofNat (top (byteAt n m (i / 8)) (i % 8))] := by
  simp [putB, h]
theorem putB_next (n m i : Nat) : putB n m (i + 1) = ((List.range (i / 8)).map fun j => UInt8.ofNat (byteAt n m j)) ++ [UInt8.ofNat (top (byteAt n m (i / 8)) (i % 8 + 1))] := by
  by_cases h : (i + 1) % 8 = 0
  · have h1 : (i + 1) / 8 = i / 8 + 1 := by omega
    have h2 : i % 8 = 7 := by omega
    simp only [putB, h, if_true, List.append_nil, h1, List.range_succ, List.map_append, List.map_cons, List.map_nil, h2]
    simp [top]
  · have h1 : (i + 1) / 8 = i / 8 := by omega
    have h2 : (i + 1) % 8 = i % 8 + 1 := by omega
    simp only [putB, h1, h2]
    rw [if_neg (by omega)]

/-- The Writer in block g, of tag τ, has written the bytes L, N bits in all. -/
def WrAt (w : World) (o : Own) (τ g : Nat) (L : List UInt8) (N : Nat) : Prop :=
  ∃ A n c, Blk w g 158 #[.slice A n c, .int .i64 (N : Int)] ∧ o g = τ ∧ Row w o τ 5 1 A n c (byts L)

theorem and1_u64 (n : Nat) (hn : n < 18446744073709551616) : bits BinOp.and IntKind.u64 (n : Int) 1 = ((n % 2 : Nat) : Int) := by
  have := u64_and_nat n 1 hn (by omega)
  rw [show (1 : Int) = ((1 : Nat) : Int) from rfl, this, Nat.and_one_is_mod]

theorem put_val (N m k K : Nat) (hK : K = 8 * m) (hk : k < 8 * m) (hm : m ≤ 8) (hN : N < 2 ^ (8 * m)) (t : Nat) (ht : t = top (byteAt N m (k / 8)) (k % 8)) :
    bits BinOp.or IntKind.u8 (t : Int) (bits BinOp.and IntKind.u64 ((N : Int) / 2 ^ (K - 1 - k)) 1 % 256 * 2 ^ (7 - k % 8) % 256) = ((top (byteAt N m (k / 8)) (k % 8 + 1) : Nat) : Int) := by
  subst ht
  subst hK
  have hb : byteAt N m (k / 8) < 256 := Nat.mod_lt _ (by omega)
  have h8 : k % 8 < 8 := by omega
  have h64 : N < 18446744073709551616 := Nat.lt_of_lt_of_le hN (Nat.le_trans (Nat.pow_le_pow_right (by omega) (show 8 * m ≤ 64 by omega)) (by omega))
  have e1 : ((N : Int) / 2 ^ (8 * m - 1 - k)) = ((N / 2 ^ (8 * m - 1 - k) : Nat) : Int) := by simp
  rw [e1, and1_u64 _ (Nat.lt_of_le_of_lt (Nat.div_le_self _ _) h64), byte_bit N m k hk]
  have hs := top_step _ hb _ h8
  have ht := top_lt _ hb _ h8
  have hbl := bit_lt _ hb _ h8
  generalize byteAt N m (k / 8) / 2 ^ (7 - k % 8) % 2 = z at *
  have e2 : ((z : Nat) : Int) % 256 * 2 ^ (7 - k % 8) % 256 = ((z % 256 * 2 ^ (7 - k % 8) % 256 : Nat) : Int) := by
    rw [Int.natCast_emod, Int.natCast_mul, Int.natCast_emod, Int.natCast_pow]; rfl
  have hz : z % 256 * 2 ^ (7 - k % 8) % 256 = z * 2 ^ (7 - k % 8) := by
    have hz' : z < 256 := by
      have : z ≤ z * 2 ^ (7 - k % 8) := Nat.le_mul_of_pos_right _ (Nat.two_pow_pos _)
      omega
    rw [Nat.mod_eq_of_lt hz', Nat.mod_eq_of_lt hbl]
  rw [e2, hz, u8_or_nat _ _ ht hbl, hs]

theorem byts_set (l : List UInt8) (k v : Nat) (hv : v < 256) : (byts l).set k (.int .u8 v) = byts (l.set k (UInt8.ofNat v)) := by
  have : (UInt8.ofNat v).toNat = v := by simp [Nat.mod_eq_of_lt hv]
  simp only [byts, List.map_set, this]

theorem put_rel {w wr : World} {o o1 : Own} {τ g h n c M N m a k v : Nat} {L X : List UInt8} (hst : Step [τ] w o wr o1) (hb : Blk wr g 158 #[.slice (some ⟨h, 0, none⟩) n c, .int .i64 (M : Int)]) (ho : o1 g = τ)
    (hr : Row wr o1 τ 5 1 (some ⟨h, 0, none⟩) n c (byts (L ++ X))) (hL : L.length = a) (hv : v < 256) (hX : X.length = k / 8 + 1) (hX' : X.set (k / 8) (UInt8.ofNat v) = putB N m (k + 1)) (hM : M = 8 * a + k) (z : Int) (hz : z = v) :
    ∃ o', Step [τ] w o ((wr.setCell ⟨h, M / 8, none⟩ (.int .u8 z)).setCell ⟨g, 1, none⟩ (.int .i64 (M + 1))).drew o' ∧ WrAt ((wr.setCell ⟨h, M / 8, none⟩ (.int .u8 z)).setCell ⟨g, 1, none⟩ (.int .i64 (M + 1))).drew o' τ g (L ++ putB N m (k + 1)) (8 * a + (k + 1)) := by
  subst hz
  have hlen : n = a + (k / 8 + 1) := by have := hr.len; simp [hL, hX] at this; omega
  have hne := hr.ne_blk hb (by decide) _ rfl
  have hq : M / 8 = a + k / 8 := by omega
  have h1 := hr.set_ (k := M / 8) (by omega) (.int .u8 v)
  rw [byts_set _ _ _ hv, hq, List.set_append_right _ _ (by omega), hL, show a + k / 8 - a = k / 8 by omega, hX'] at h1
  rw [hq]
  have hoh := hr.2 _ rfl
  refine ⟨o1, ((hst.setCell (.inr (by simp [hoh])) _).setCell (.inr (by simp [ho])) _).drew, some ⟨h, 0, none⟩, n, c, ?_, ho, ?_⟩
  · have := (hb.far (p := ⟨h, a + k / 8, none⟩) (Ne.symm hne) (.int .u8 v)).set_ 1 (.int .i64 ((M : Int) + 1))
    rw [show 8 * a + (k + 1) = M + 1 by omega]
    exact this
  · exact (h1.setCell_far (p := ⟨g, 1, none⟩) (fun ad ha => by injection ha with ha; subst ha; exact hne) _)

theorem put_grow {w0 w1 : World} {o1 : Own} {τ g n c M N m a k c' : Nat} {L : List UInt8} {A A' : Option Addr} (hb : Blk w0 g 158 #[.slice A n c, .int .i64 (M : Int)])
    (hne : ∀ ad, A = some ad → ad.block ≠ g) (hR : Row w1 o1 τ 5 1 A' (n + 1) c' (byts (L ++ putB N m k) ++ [.int .u8 0])) (hg : w0.grownBy w1 (Value.slice A n c).ownBlock) (hn : n = a + k / 8) (hL : L.length = a) (hM : M = 8 * a + k) (h8 : k % 8 = 0) :
    Blk w1 g 158 #[.slice A n c, .int .i64 (M : Int)] ∧ ∃ h' : Nat, ∃ _ : True, A' = some ⟨h', 0, none⟩ ∧ w1.cell? ⟨g, 1, none⟩ = some (.int .i64 M) ∧ w1.cell? ⟨h', M / 8, none⟩ = some (.int .u8 0) ∧ w1.frozen? ⟨h', M / 8, none⟩ = false ∧
      (w1.cell? ⟨g, 0, none⟩ = some (.slice A n c) ∧ w1.frozen? ⟨g, 0, none⟩ = false ∧ w1.frozen? ⟨g, 1, none⟩ = false ∧ M / 8 < n + 1) ∧ h' ≠ g ∧ g ≠ h' := by
  have hb1 : Blk w1 g 158 #[.slice A n c, .int .i64 (M : Int)] := hb.grown hg (by
    cases A with
    | none => simp [Value.ownBlock]
    | some ad => have := hne ad rfl; simp [Value.ownBlock]; exact this.symm)
  obtain ⟨h', cur, rfl, _⟩ := hR.form (by omega)
  have hx : (byts (L ++ putB N m k) ++ [Value.int .u8 0])[M / 8]? = some (.int .u8 0) := by
    have e1 : M / 8 = a + k / 8 := by omega
    have e2 : (byts (L ++ putB N m k)).length = a + k / 8 := by simp [putB_len, hL]; omega
    rw [e1, ← e2]; simp
  have h1 := hR.cellAt hx
  have h2 := hR.ne_blk hb1 (by decide) _ rfl
  exact ⟨hb1, h', trivial, rfl, hb1.cell 1, h1.1, h1.2, ⟨hb1.cell 0, hb1.frozen 0, hb1.frozen 1, by omega⟩, h2, Ne.symm h2⟩

set_option maxHeartbeats 400000 in
/-- One round's middle: the byte at M / 8 turns. -/
theorem put_any (w : World) (o : Own) (τ g : Nat) (L : List UInt8) (N m a K : Nat) (hK : K = 8 * m) (hW : WrAt w o τ g L (8 * a)) (hL : L.length = a) (ha : a ≤ 10000) (hm : m ≤ 8) (hN : N < 2 ^ (8 * m)) :
    Calls Try.prog 84 #[.pointer (some ⟨g, 0, none⟩), .int .u64 N, .int .i64 K] w fun e w' => e = .returned (.tuple #[]) ∧
      ∃ o', Step [τ] w o w' o' ∧ WrAt w' o' τ g (L ++ bytesOf N m) (8 * (a + m)) := by
  have HW := Lib.hid hW; clear hW
  have HL := Lib.hid hL; clear hL
  have HN := Lib.hid hN; clear hN
  have bK : K ≤ 64 := by omega
  have HK := Lib.hid hK; clear hK
  go_enter Try.func84, Try.ntmps84
  go_wp2_with fail
  go_loopw [8] (fun i wr => ∃ k : Nat, k ≤ K ∧ i = .int .i64 k ∧ ∃ o', Step [τ] w o wr o' ∧ WrAt wr o' τ g (L ++ putB N m k) (8 * a + k)) (fun i _ => K - (intOf i).toNat)
  case atStart => exact ⟨0, by omega, rfl, o, Step.refl _ _ _, by simpa [putB] using HW.out⟩
  case round =>
    obtain ⟨k, hk, rfl, o1, hst, A, n, c, hb, ho, hr⟩ := hrel
    by_cases hlt : k < K
    · obtain ⟨M, hM⟩ : ∃ M, M = 8 * a + k := ⟨_, rfl⟩
      rw [← hM] at hb
      have c0 := hb.cell 0
      have c1 := hb.cell 1
      have c0f := hb.frozen 0
      have c1f := hb.frozen 1
      simp at c0 c1
      have bM : M ≤ 100000 := by omega
      have HM := Lib.hid hM; clear hM
      have HST := Lib.hid hst; have HB := Lib.hid hb; have HO := Lib.hid ho
      clear hst hb ho
      by_cases h8 : k % 8 = 0
      · have hlen : n = a + k / 8 := by
          have := hr.len; simp [putB_len, HL.out] at this; omega
        have d8 : ((M : Int) % 8 == 0) = true := by have := HM.out; simp; omega
        have hr1 := hr.step ((Step.refl [] wr o1).alloc (.cells #[.int .u8 0] 5) τ) (by simp)
        have hs1 := (Row.made (w := wr) o1 τ 5 1 #[.int .u8 0] 1 rfl (by decide) 1 (Nat.le_refl _)).sl
        have hb1 := HB.out.alloc (.cells #[.int .u8 0] 5)
        have hneA := hr.ne_blk HB.out (by decide)
        have hgsz := HB.out.lt
        have hst1 := HST.out.alloc (.cells #[.int .u8 0] 5) τ
        have HR1 := Lib.hid hr1; have HS1 := Lib.hid hs1; have HB1 := Lib.hid hb1; have HN' := Lib.hid hneA; have HST1 := Lib.hid hst1; have HL' := Lib.hid hlen
        have bn : n ≤ 20000 := by omega
        have e8 : (7 : Int) - (M : Int) % 8 = ((7 - k % 8 : Nat) : Int) := by have := HM.out; omega
        have q8 : (0 : Int) ≤ ((7 - k % 8 : Nat) : Int) := by omega
        clear hr1 hs1 hb1 hneA hst1 hlen hr
        go_wp2_with (at_builtin; refine wpList_append_row _ rfl (.tmp 21) (.tmp 22) _ rfl el_byte _ τ A n c _ rfl HR1.out _ τ _ 1 1 [.int .u8 0] rfl HS1.out (by simp [Value.oneCell']) (by omega) (by simp only [maxLen]; omega) ?_; intro A' c' w1 hR1 hg hat; have ⟨hb1, h', cc, hc0, hc1, hc2, hc2f, ⟨hd0, hd1, hd2, hd3⟩, hne1, hne2⟩ := put_grow HB1.out HN'.out hR1 hg HL'.out HL.out HM.out h8; subst hc0; have HR2 := Lib.hid hR1; have HG := Lib.hid hg; have HB2 := Lib.hid hb1; clear hR1 hg hat hb1)
        go_region
        all_goals go_wp2_with fail
        all_goals go_roundw
        case rel =>
          have hk8 : k < 8 * m := by have := HK.out; omega
          have hr3 : Row w1 (ext (ext o1 wr.heap.size τ) (wr.alloc (.cells #[.int .u8 0] 5)).heap.size τ) τ 5 1 (some ⟨h', 0, none⟩) (n + 1) c' (byts (L ++ (putB N m k ++ [0]))) := by
            have := HR2.out
            rw [show byts (L ++ putB N m k) ++ [Value.int .u8 0] = byts (L ++ (putB N m k ++ [0])) by simp [byts]] at this
            exact this
          have hg1 : ext (ext o1 wr.heap.size τ) (wr.alloc (.cells #[.int .u8 0] 5)).heap.size τ g = τ := by
            rw [ext_lt (by simp; omega), ext_lt hgsz]; exact HO.out
          refine ⟨k + 1, by omega, by go_num, put_rel (X := putB N m k ++ [0]) (v := top (byteAt N m (k / 8)) (k % 8 + 1)) ((HST1.out.trans (Step.append HR1.out HG.out τ)).setCell (.inr (List.mem_singleton.2 hg1)) _) (HB2.out.set_ 0 _) hg1 (hr3.setCell_far (fun ad ha => by injection ha with ha; subst ha; exact hne1) _) HL.out ?_ ?_ ?_ HM.out _ ?_⟩
          · exact top_lt' _ _ (Nat.mod_lt _ (by omega))
          · simp [putB_len]; omega
          · rw [putB_next, putB, if_pos h8, List.append_nil, List.set_append_right _ _ (by simp)]; simp
          · have hb256 : byteAt N m (k / 8) < 256 := Nat.mod_lt _ (by omega)
            have hv := put_val N m k K HK.out hk8 hm HN.out 0 (by rw [h8]; simp [top, Nat.div_eq_of_lt hb256])
            rw [h8] at hv ⊢
            exact hv
        case measure => simp [intOf]; omega
      · have hlen : n = a + (k + 7) / 8 := by
          have := hr.len; simp [putB_len, HL.out] at this; omega
        obtain ⟨h, cur, rfl, hoh, _⟩ := hr.form (by omega)
        have hq : M / 8 < n := by have := HM.out; omega
        have hx : (byts (L ++ putB N m k))[M / 8]? = some (.int .u8 (top (byteAt N m (k / 8)) (k % 8) : Nat)) := by
          have e1 : M / 8 = a + k / 8 := by have := HM.out; omega
          have e2 := top_lt' (byteAt N m (k / 8)) (k % 8) (Nat.mod_lt _ (by omega))
          rw [e1, putB_mid _ _ _ h8]
          simp [byts, HL.out, Nat.mod_eq_of_lt e2]
        obtain ⟨c2, c2f⟩ := hr.cellAt hx
        have HX := Lib.hid hx; clear hx
        have hr' := hr.ne_blk HB.out (by decide) _ rfl
        have HR := Lib.hid hr; clear hr
        have d8 : ((M : Int) % 8 == 0) = false := by have := HM.out; simp; omega
        have e8 : (7 : Int) - (M : Int) % 8 = ((7 - k % 8 : Nat) : Int) := by have := HM.out; omega
        have q8 : (0 : Int) ≤ ((7 - k % 8 : Nat) : Int) := by omega
        have hne : h ≠ g := hr'
        have hne' := hne.symm
        clear hlen hoh
        go_wp2_with fail
        go_region
        all_goals go_wp2_with fail
        all_goals go_roundw
        case rel =>
          have hk8 : k < 8 * m := by have := HK.out; omega
          refine ⟨k + 1, by omega, by go_num, put_rel (v := top (byteAt N m (k / 8)) (k % 8 + 1)) HST.out HB.out HO.out HR.out HL.out ?_ ?_ ?_ HM.out _ (put_val N m k K HK.out hk8 hm HN.out _ rfl)⟩
          · exact top_lt' _ _ (Nat.mod_lt _ (by omega))
          · rw [putB_len]; omega
          · rw [putB_mid _ _ _ h8, putB_next, List.set_append_right _ _ (by simp)]; simp
        case measure => simp [intOf]; omega
    · have HST := Lib.hid hst; have HR := Lib.hid hr; have HB := Lib.hid hb; have HO := Lib.hid ho
      clear hst hb ho hr
      go_wp2_with fail
      go_end0
      have hk8 : k = 8 * m := by have := HK.out; omega
      subst hk8
      refine ⟨rfl, o1, HST.out, A, n, c, ?_, HO.out, ?_⟩
      · rw [Nat.mul_add]; exact HB.out
      · rw [← putB_all]; exact HR.out

set_option maxHeartbeats 400000 in
theorem room_any (w : World) (o : Own) (τ g : Nat) (L : List UInt8) (a K : Nat) (hW : WrAt w o τ g L (8 * a)) (ha : a ≤ 10000) (hK : K ≤ 64) :
    Calls Try.prog 83 #[.pointer (some ⟨g, 0, none⟩), .int .i64 K] w fun e w' => e = .returned (.int .i64 0) ∧ w = w' := by
  obtain ⟨A, n, c, hb, ho, hr⟩ := hW
  obtain ⟨M, hM⟩ : ∃ M, M = 8 * a := ⟨_, rfl⟩
  rw [← hM] at hb
  have c1 := hb.cell 1
  simp at c1
  have bM : M ≤ 100000 := by omega
  clear hM hb ho hr
  go_enter Try.func83, Try.ntmps83
  go_wp2_with fail
  go_ret
  exact ⟨rfl, rfl⟩

set_option maxHeartbeats 400000 in
theorem Put_any (w : World) (o : Own) (τ g : Nat) (L : List UInt8) (N m a K : Nat) (hK : K = 8 * m) (hW : WrAt w o τ g L (8 * a)) (hL : L.length = a) (ha : a ≤ 10000) (hm : m ≤ 7) (hN : N < 2 ^ K) :
    Calls Try.prog 75 #[.pointer (some ⟨g, 0, none⟩), .int .u64 N, .int .i64 K] w fun e w' => e = .returned (.int .i64 0) ∧
      ∃ o', Step [τ] w o w' o' ∧ WrAt w' o' τ g (L ++ bytesOf N m) (8 * (a + m)) := by
  have hz : (N : Int) / 2 ^ K = 0 := Int.ediv_eq_zero_of_lt (by omega) (by exact_mod_cast hN)
  have bK : K < 64 := by omega
  have HW := Lib.hid hW; clear hW
  have HK := Lib.hid hK; have HN := Lib.hid hN; have HL := Lib.hid hL
  clear hK hN hL
  go_enter Try.func75, Try.ntmps75
  go_wp2_with (first
    | (go_at_call 83; refine (room_any w o τ g L a K HW.out ha (by omega)).mono ?_; rintro e w' ⟨rfl, rfl⟩)
    | (go_at_call 84; refine (put_any w o τ g L N m a K HK.out HW.out HL.out ha (by omega) (by have := HN.out; rwa [HK.out] at this)).mono ?_; rintro e w' ⟨rfl, H1⟩; have H2 := Lib.hid H1; clear H1))
  go_ret
  exact ⟨rfl, H2.out⟩

set_option maxHeartbeats 400000 in
theorem Bytes_any (w : World) (o : Own) (τ ρ g : Nat) (L : List UInt8) (a : Nat) (hW : WrAt w o τ g L (8 * a)) (hL : L.length = a) (ha : a ≤ 10000) :
    Calls Try.prog 76 #[.pointer (some ⟨g, 0, none⟩)] w fun e w' => ∃ A' c', e = .returned (.slice A' a c') ∧ Row w' (ext o w.heap.size ρ) ρ 5 1 A' a c' (byts L) ∧ Below w.heap.size w w' ∧ ∀ ad, A' = some ad → w.heap.size ≤ ad.block := by
  obtain ⟨A, n, c, hb, ho, hr⟩ := hW
  have hn : n = a := by have := hr.len; simp [hL] at this; omega
  subst hn
  have c0 := hb.cell 0
  simp at c0
  have HR := Lib.hid hr
  clear hr hb ho hL
  go_enter Try.func76, Try.ntmps76
  go_wp2_with (go_at_call 42; refine (cloneB w o τ ρ A n c _ HR.out.sl (one_byts _) (by omega)).mono ?_; rintro e w' ⟨A', c', rfl, H1⟩; have H2 := Lib.hid H1; clear H1)
  go_ret
  exact ⟨A', c', rfl, H2.out⟩

end Go.Proofs.Ythjjipcbpmdfnaa
