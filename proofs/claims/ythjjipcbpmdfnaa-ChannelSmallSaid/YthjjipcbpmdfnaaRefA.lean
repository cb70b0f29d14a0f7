/-
  THE REFERENCE's END (marchesref19): its plain model, and the contracts of its small functions.
-/
import Derived.Test.YthjjipcbpmdfnaaPackD
import Derived.Test.YthjjipcbpmdfnaaNew
import Derived.Test.YthjjipcbpmdfnaaLinkA
namespace Go.Proofs.Ythjjipcbpmdfnaa
open Go.RowKit

/-- The state of the reference's End. -/
structure RefS where
  own : Int
  other : Int
  next : Int
  pend : List Int
  got : List Int

def newestR (other : Int) (got : List Int) : Int := got.foldl max (other - 1)
/-- The first k bits of the mask. -/
def maskR (n : Int) (got : List Int) : Nat → Nat
  | 0 => 0
  | k + 1 => maskR n got k + if got.contains (n - 1 - (k : Int)) then 2 ^ k else 0

theorem newestR_snoc (other : Int) (l : List Int) (x : Int) : newestR other (l ++ [x]) = max (newestR other l) x := by simp [newestR]
theorem maskR_lt (n : Int) (got : List Int) (k : Nat) : maskR n got k < 2 ^ k := by
  induction k with
  | zero => simp [maskR]
  | succ k ih =>
    have : 2 ^ (k + 1) = 2 ^ k + 2 ^ k := by rw [Nat.pow_succ]; omega
    simp only [maskR]
    split <;> omega

theorem mask_next (M k : Nat) (hk : k < 32) (h : M < 2 ^ k) : (((M : Int) + 2 ^ k % 4294967296) % 4294967296 : Int) = ((M + 2 ^ k : Nat) : Int) := by
  have h1 : (2 : Nat) ^ k ≤ 2 ^ 31 := Nat.pow_le_pow_right (by omega) (by omega)
  have e : ((2 : Int) ^ k) = ((2 ^ k : Nat) : Int) := by simp
  rw [e]
  omega

/-- An End of the reference as a value. -/
abbrev RefS.val (r : RefS) (PA : Option Addr) (pn pc : Nat) (GA : Option Addr) (gn gc : Nat) : Value := .agg #[.int .i64 r.own, .int .i64 r.other, .int .i64 r.next, .slice PA pn pc, .slice GA gn gc]

theorem Sl.int_at {w : World} {o : Own} {τ n c : Nat} {A : Option Addr} {l : List Int} (h : Sl w o τ 1 A n c (ints l)) {k : Nat} (hk : k < n) : ∃ g off y, A = some ⟨g, off, none⟩ ∧ g < w.heap.size ∧ l[k]? = some y ∧ w.cell? ⟨g, off + k, none⟩ = some (.int .i64 y) := by
  obtain ⟨g, off, hA, -, hg, u, hu, hc⟩ := h.at_ hk
  rw [ints, List.getElem?_map] at hu
  obtain ⟨y, hy, rfl⟩ := Option.map_eq_some_iff.1 hu
  exact ⟨g, off, y, hA, hg, hy, hc⟩
theorem Sl.int_len {w : World} {o : Own} {τ n c : Nat} {A : Option Addr} {l : List Int} (h : Sl w o τ 1 A n c (ints l)) : l.length = n ∧ n ≤ 9223372036854775807 := by
  have h1 := h.1; have h2 := h.2.1; have h3 := h.2.2.1
  simp only [ints, List.length_map, Nat.mul_one] at h1
  unfold maxLen at h3
  omega

theorem contains_snoc (l : List Int) (x y : Int) : (l ++ [y]).contains x = (l.contains x || (y == x)) := by
  rw [Bool.eq_iff_iff]
  simp only [List.contains_iff_mem, List.mem_append, List.mem_singleton, Bool.or_eq_true, beq_iff_eq]
  exact ⟨fun h => h.imp id Eq.symm, fun h => h.imp id Eq.symm⟩

set_option maxHeartbeats 400000 in
theorem has_any (w : World) (o : Own) (τ : Nat) (A : Option Addr) (n c : Nat) (l : List Int) (x : Int) (hS : Sl w o τ 1 A n c (ints l)) :
    Calls Try.prog 73 #[.slice A n c, .int .i64 x] w fun e w' => e = .returned (.bool (l.contains x)) ∧ w = w' := by
  obtain ⟨hl, hn⟩ := hS.int_len
  obtain ⟨R, hR⟩ : ∃ R, R = l.contains x := ⟨_, rfl⟩
  rw [← hR]
  have HS := Lib.hid hS; have HL := Lib.hid hl; have HR := Lib.hid hR
  clear hS hl hR
  go_enter Try.func73, Try.ntmps73
  go_wp2_with fail
  go_loop [4, 5] (fun _ s => ∃ k : Nat, k ≤ n ∧ s = .int .i64 k ∧ Hid ((l.take k).contains x = false)) (fun _ s => n - (intOf s).toNat)
  case atStart => exact ⟨0, Nat.zero_le _, rfl, Lib.hid rfl⟩
  case round =>
    obtain ⟨k, hk, rfl, HN⟩ := hrel
    by_cases hlt : k < n
    · obtain ⟨g, off, y, hA, hg, hy, hc⟩ := HS.out.int_at hlt
      subst hA
      have hsn : (l.take (k + 1)).contains x = ((l.take k).contains x || (y == x)) := by rw [List.take_add_one, hy]; exact contains_snoc _ _ _
      have HSN := Lib.hid hsn; have HY := Lib.hid hy
      clear hsn hy
      by_cases hyx : y = x
      · have hd : (y == x) = true := by simpa using hyx
        have hRt : R = true := by rw [HR.out, ← hyx]; exact List.contains_iff_mem.2 (List.mem_of_getElem? HY.out)
        clear hyx
        subst hRt
        go_wp2_with fail
        go_ret
        exact ⟨rfl, rfl⟩
      · have hd : (y == x) = false := by simpa using hyx
        go_wp2_with fail
        go_round
        case rel => exact ⟨k + 1, by omega, by go_num, Lib.hid (by rw [HSN.out, HN.out, hd]; rfl)⟩
        case measure => simp [intOf]; omega
    · have hRf : R = false := by
        rw [HR.out, ← HN.out, List.take_of_length_le (by rw [HL.out]; omega)]
      subst hRf
      go_wp2_with fail
      go_ret
      exact ⟨rfl, rfl⟩

set_option maxHeartbeats 400000 in
theorem Newest_any (w : World) (o : Own) (τ : Nat) (r : RefS) (PA : Option Addr) (pn pc : Nat) (GA : Option Addr) (gn gc : Nat) (hS : Sl w o τ 1 GA gn gc (ints r.got)) (h0 : 0 ≤ r.other) (h1 : r.other ≤ 1099511627776) :
    Calls Try.prog 72 #[r.val PA pn pc GA gn gc] w fun e w' => e = .returned (.int .i64 (newestR r.other r.got)) ∧ Below w.heap.size w w' := by
  obtain ⟨own, other, next, pend, got⟩ := r
  simp only at hS h0 h1
  obtain ⟨hl, hn⟩ := hS.int_len
  have HS := Lib.hid hS; have HL := Lib.hid hl
  clear hS hl
  go_enter Try.func72, Try.ntmps72
  go_wp2_with fail
  go_loop [3, 4] (fun m s => ∃ k : Nat, k ≤ gn ∧ s = .int .i64 k ∧ m = .int .i64 (newestR other (got.take k))) (fun _ s => gn - (intOf s).toNat)
  case atStart => exact ⟨0, Nat.zero_le _, rfl, rfl⟩
  case round =>
    obtain ⟨k, hk, rfl, rfl⟩ := hrel
    obtain ⟨M, hM⟩ : ∃ M, M = newestR other (got.take k) := ⟨_, rfl⟩
    rw [← hM]
    have HM := Lib.hid hM
    clear hM
    by_cases hlt : k < gn
    · obtain ⟨g, off, y, hA, hg, hy, hc⟩ := HS.out.int_at hlt
      subst hA
      have hsn : newestR other (got.take (k + 1)) = max M y := by rw [List.take_add_one, hy, HM.out]; exact newestR_snoc _ _ _
      have HSN := Lib.hid hsn
      clear hsn hy
      by_cases hyx : M < y
      · go_wp2_with fail
        go_round
        case rel => exact ⟨k + 1, by omega, by go_num, by rw [HSN.out, Int.max_eq_right (by omega)]⟩
        case measure => simp [intOf]; omega
      · have hd : decide (M < y) = false := by simpa using hyx
        go_wp2_with fail
        go_round
        case rel => exact ⟨k + 1, by omega, by go_num, by rw [HSN.out, Int.max_eq_left (by omega)]⟩
        case measure => simp [intOf]; omega
    · have hMf : M = newestR other got := by rw [HM.out, List.take_of_length_le (by rw [HL.out]; omega)]
      subst hMf
      go_wp2_with fail
      go_ret
      exact ⟨rfl, (Below.refl _ _).alloc (Nat.le_refl _) _⟩

set_option maxHeartbeats 400000 in
theorem Mask_any (w : World) (o : Own) (τ : Nat) (r : RefS) (PA : Option Addr) (pn pc : Nat) (GA : Option Addr) (gn gc : Nat) (hS : Sl w o τ 1 GA gn gc (ints r.got)) (h0 : 0 ≤ r.other) (h1 : r.other ≤ 1099511627776)
    (hN0 : -1 ≤ newestR r.other r.got) (hN1 : newestR r.other r.got ≤ 4000000000000) :
    Calls Try.prog 78 #[r.val PA pn pc GA gn gc] w fun e w' => e = .returned (.int .u32 (maskR (newestR r.other r.got) r.got 32 : Nat)) ∧ Below w.heap.size w w' := by
  have HC := Lib.hid (fun W (hb : Below w.heap.size w W) => Newest_any W o τ r PA pn pc GA gn gc (hS.below hb) h0 h1)
  obtain ⟨N, hN⟩ : ∃ N, N = newestR r.other r.got := ⟨_, rfl⟩
  rw [← hN] at hN0 hN1 HC ⊢
  obtain ⟨own, other, next, pend, got⟩ := r
  simp only at hS h0 h1
  have HS := Lib.hid hS
  clear hS hN
  go_enter Try.func78, Try.ntmps78
  go_wp2_with fail
  refine (HC.out _ ((Below.refl _ _).alloc (Nat.le_refl _) _)).mono ?_
  rintro e w1 ⟨rfl, hb1⟩
  have hb0 := ((Below.refl w.heap.size w).alloc (Nat.le_refl _) (.cells #[.int .i64 own, .int .i64 other, .int .i64 next, .slice PA pn pc, .slice GA gn gc] 27)).trans (hb1.mono (by simp))
  have hbk := (Blk.new w 27 #[.int .i64 own, .int .i64 other, .int .i64 next, .slice PA pn pc, .slice GA gn gc]).below hb1 (by simp)
  have q4 := hbk.cell 4
  have hlt := hbk.lt
  simp only [List.getElem?_toArray, List.getElem?_cons_zero, List.getElem?_cons_succ] at q4
  have HB := Lib.hid hb0; have HSl := Lib.hid (HS.out.below hb0)
  clear hb1 hbk hb0 HC HS
  go_wp2_with fail
  go_loop [3, 5] (fun m s => ∃ k : Nat, k ≤ 32 ∧ s = .int .i64 k ∧ m = .int .u32 (maskR N got k : Nat)) (fun _ s => 32 - (intOf s).toNat)
  case atStart => exact ⟨0, Nat.zero_le _, rfl, rfl⟩
  case round =>
    obtain ⟨k, hk, rfl, rfl⟩ := hrel
    obtain ⟨M, hM⟩ : ∃ M, M = maskR N got k := ⟨_, rfl⟩
    have hMk : M < 2 ^ k := by rw [hM]; exact maskR_lt _ _ _
    rw [← hM]
    have HM := Lib.hid hM; have HMK := Lib.hid hMk
    clear hM hMk
    by_cases hlt : k < 32
    · have hh := fun W (hb : Below w1.heap.size w1 W) => has_any W o τ GA gn gc got (N - 1 - (k : Int)) (HSl.out.below hb)
      obtain ⟨b, hb⟩ : ∃ b, b = got.contains (N - 1 - (k : Int)) := ⟨_, rfl⟩
      rw [← hb] at hh
      have HH := Lib.hid hh; have HBB := Lib.hid hb
      clear hh hb
      have hz0 : (0 : Int) ≤ (k : Int) := by omega
      cases b with
      | true =>
        go_wp2_with fail
        refine (HH.out _ (Below.refl _ _)).mono ?_
        rintro e w2 ⟨rfl, rfl⟩
        go_wp2_with fail
        go_round
        case rel => exact ⟨k + 1, by omega, by go_num, by rw [mask_next M k hlt HMK.out, HM.out, maskR, ← HBB.out]; rfl⟩
        case measure => simp [intOf]; omega
      | false =>
        go_wp2_with fail
        refine (HH.out _ (Below.refl _ _)).mono ?_
        rintro e w2 ⟨rfl, rfl⟩
        go_wp2_with fail
        go_round
        case rel => exact ⟨k + 1, by omega, by go_num, by rw [HM.out, maskR, ← HBB.out]; rfl⟩
        case measure => simp [intOf]; omega
    · obtain rfl : k = 32 := by omega
      have e := HM.out
      subst e
      go_wp2_with fail
      go_ret
      exact ⟨rfl, HB.out⟩

theorem byte_hi (n : Int) (_h : 0 ≤ n) : ((n / 256) % 256 : Int) = (((n % 65536).toNat / 256 : Nat) : Int) ∧ (n % 256 : Int) = (((n % 65536).toNat % 256 : Nat) : Int) := by omega
theorem bytes_two (m : Nat) (hm : m < 65536) : byts (bytesOf m 2) = [.int .u8 ((m / 256 : Nat) : Int), .int .u8 ((m % 256 : Nat) : Int)] := by
  simp only [bytesOf, List.range, List.range.loop, List.map_cons, List.map_nil, byteAt]
  have e1 : m / 256 % 256 = m / 256 := Nat.mod_eq_of_lt (by omega)
  have e2 : m % 256 % 256 = m % 256 := Nat.mod_mod _ _
  simp [e1, e2]

set_option maxHeartbeats 400000 in
theorem two_any (w : World) (n : Int) (h0 : 0 ≤ n) (h1 : n ≤ 4000000000000) :
    Calls Try.prog 77 #[.int .i64 n] w (NewTo w 1 2 (byts (bytesOf (n % 65536).toNat 2))) := by
  obtain ⟨e1, e2⟩ := byte_hi n h0
  have he := bytes_two (n % 65536).toNat (by omega)
  have HE := Lib.hid he
  have E1 := Lib.hid e1; have E2 := Lib.hid e2
  clear he e1 e2
  go_enter Try.func77, Try.ntmps77
  go_wp2_with fail
  go_ret
  refine ⟨_, _, rfl, (Below.refl _ _).alloc (Nat.le_refl _) _, ?_⟩
  have := Sl.fresh w 5 1 2 [.int .u8 (n / 256 % 256), .int .u8 (n % 256)] rfl (by decide)
  rw [HE.out, ← E1.out, ← E2.out]
  exact ⟨this, fun ad ha => by injection ha with ha; subst ha; exact Nat.le_refl _⟩

set_option maxHeartbeats 400000 in
theorem rnear_any (w : World) (base rest : Int) (h0 : -100000 ≤ base) (h1 : base ≤ 4000000000000) (r0 : 0 ≤ rest) (r1 : rest ≤ 65535) :
    Calls Try.prog 71 #[.int .i64 base, .int .i64 rest] w fun e w' => e = .returned (.int .i64 (near base rest)) ∧ w = w' := by
  obtain ⟨N, hN⟩ : ∃ N, N = near base rest := ⟨_, rfl⟩
  have hN0 : base - 32768 ≤ N := by rw [hN]; unfold near; omega
  have hN1 : N ≤ base + 32767 := by rw [hN]; unfold near; omega
  have hNm : (N - rest) % 65536 = 0 := by rw [hN]; unfold near; omega
  have hlow : ∀ x : Int, base - 32768 ≤ x → x < N → (x - rest) % 65536 ≠ 0 := by
    intro x hx1 hx2 hx3
    omega
  rw [← hN]
  have HM := Lib.hid hNm; have HLO := Lib.hid hlow
  clear hN hNm hlow
  go_enter Try.func71, Try.ntmps71
  go_wp2_with fail
  go_loop [5] (fun s => ∃ x : Int, base - 32768 ≤ x ∧ x ≤ N ∧ s = .int .i64 x) (fun s => (N - intOf s).toNat)
  case atStart => exact ⟨base - 32768, by omega, hN0, rfl⟩
  case round =>
    obtain ⟨x, hx0, hx1, rfl⟩ := hrel
    by_cases hlt : x < N
    · obtain ⟨D, hD⟩ : ∃ D, (x - rest).tmod 65536 = D := ⟨_, rfl⟩
      have hD0 : (D == 0) = false := by
        have := HLO.out x hx0 hlt
        simp only [beq_eq_false_iff_ne, ne_eq]
        intro e
        rw [e] at hD
        exact this (Int.emod_eq_zero_of_dvd (Int.dvd_of_tmod_eq_zero hD))
      have hD1 : (D != 0) = true := by simpa using hD0
      go_wp2_with fail
      go_round
      case rel => exact ⟨x + 1, by omega, by omega, rfl⟩
      case measure => simp [intOf]; omega
    · obtain rfl : x = N := by omega
      have hD : (x - rest).tmod 65536 = 0 := Int.tmod_eq_zero_of_dvd (Int.dvd_of_emod_eq_zero HM.out)
      go_wp2_with fail
      go_ret
      exact ⟨rfl, rfl⟩
end Go.Proofs.Ythjjipcbpmdfnaa
