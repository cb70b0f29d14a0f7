/-
  WALKS of bits.Reader, at whole bytes.
-/
import Derived.Test.YthjjipcbpmdfnaaBitsA
namespace Go.Proofs.Ythjjipcbpmdfnaa
open Go.RowKit

/-- The number of bytes, the greatest first. -/
def beNum : List UInt8 → Nat
  | [] => 0
  | b :: l => b.toNat * 256 ^ l.length + beNum l

theorem beNum_lt : ∀ l : List UInt8, beNum l < 256 ^ l.length
  | [] => by simp [beNum]
  | b :: l => by
    have h := beNum_lt l
    have hb : b.toNat < 256 := b.toNat_lt
    have : b.toNat * 256 ^ l.length + 256 ^ l.length ≤ 256 * 256 ^ l.length := by
      rw [← Nat.succ_mul]; exact Nat.mul_le_mul_right _ hb
    simp only [beNum, List.length_cons, Nat.pow_succ, Nat.mul_comm (256 ^ l.length)]
    omega

theorem beNum_byte : ∀ (l : List UInt8) (j : Nat) (hj : j < l.length), byteAt (beNum l) l.length j = l[j].toNat
  | b :: l, 0, _ => by
    have h := beNum_lt l
    have hb : b.toNat < 256 := b.toNat_lt
    have e : 2 ^ (8 * (l.length + 1 - 1 - 0)) = 256 ^ l.length := by rw [show l.length + 1 - 1 - 0 = l.length by omega, Nat.pow_mul]
    simp only [byteAt, List.length_cons, e, beNum, List.getElem_cons_zero]
    rw [Nat.add_comm, Nat.add_mul_div_right _ _ (Nat.pow_pos (by omega)), Nat.div_eq_of_lt h, Nat.zero_add, Nat.mod_eq_of_lt hb]
  | b :: l, j + 1, hj => by
    have hj' : j < l.length := by simpa using hj
    have ih := beNum_byte l j hj'
    have e : 2 ^ (8 * (l.length + 1 - 1 - (j + 1))) = 256 ^ (l.length - 1 - j) := by rw [show l.length + 1 - 1 - (j + 1) = l.length - 1 - j by omega, Nat.pow_mul]
    have e2 : 2 ^ (8 * (l.length - 1 - j)) = 256 ^ (l.length - 1 - j) := by rw [Nat.pow_mul]
    simp only [byteAt, List.length_cons, e, beNum, List.getElem_cons_succ] at ih ⊢
    rw [e2] at ih
    have e3 : b.toNat * 256 ^ l.length = (b.toNat * 256 ^ j * 256) * 256 ^ (l.length - 1 - j) := by
      rw [Nat.mul_assoc, Nat.mul_assoc, ← Nat.pow_succ', ← Nat.pow_add, show j + (l.length - 1 - j).succ = l.length by omega]
    rw [e3, Nat.add_comm, Nat.add_mul_div_right _ _ (Nat.pow_pos (by omega)), Nat.add_mul_mod_self_right]
    exact ih

theorem beNum_at (xs : List UInt8) (p m j : Nat) (hp : p + m ≤ xs.length) (hj : j < m) : byteAt (beNum ((xs.drop p).take m)) m j = (xs[p + j]'(by omega)).toNat := by
  have hl : ((xs.drop p).take m).length = m := by simp; omega
  have h := beNum_byte ((xs.drop p).take m) j (by omega)
  have h2 : byteAt (beNum ((xs.drop p).take m)) ((xs.drop p).take m).length j = byteAt (beNum ((xs.drop p).take m)) m j := by rw [hl]
  rw [← h2, h]
  simp

/-- The Reader in block r, of tag τ: its bytes, the current bit, the error. -/
def RdAt (w : World) (o : Own) (τ r : Nat) (xs : List UInt8) (p : Nat) (bad : Int) : Prop :=
  ∃ A n c, Blk w r 169 #[.bool true, .slice A n c, .int .i64 (8 * p : Nat), .int .i64 bad] ∧ o r = τ ∧ Row w o τ 5 1 A n c (byts xs) ∧ n = xs.length

set_option maxHeartbeats 400000 in
theorem NewReader_any (w : World) (o : Own) (τ ρ : Nat) (A : Option Addr) (n c : Nat) (xs : List UInt8) (hS : Sl w o τ 1 A n c (byts xs)) (hn : n ≤ 140737488355328) :
    Calls Try.prog 79 #[.slice A n c] w fun e w' => ∃ r o', e = .returned (.pointer (some ⟨r, 0, none⟩)) ∧ Step [] w o w' o' ∧ RdAt w' o' ρ r xs 0 0 ∧ w.heap.size ≤ r := by
  have hl := hS.1
  have HS := Lib.hid hS; clear hS
  have HL := Lib.hid hl; clear hl
  go_enter Try.func79, Try.ntmps79
  go_wp2_with (go_at_call 42; refine (cloneB w o τ ρ A n c _ HS.out (one_byts _) hn).mono ?_; rintro e w' ⟨A', c', rfl, H1⟩; have H2 := Lib.hid H1; clear H1)
  go_ret
  obtain ⟨hR, hB, _⟩ := H2.out
  have hs := (Step.refl [] w o).below hB ρ
  refine ⟨w'.heap.size, ext (ext o w.heap.size ρ) w'.heap.size ρ, rfl, hs.alloc _ ρ, ⟨A', n, c', Blk.new _ _ _, ext_ge (Nat.le_refl _), hR.step ((Step.refl [] _ _).alloc _ ρ) (by simp), ?_⟩, hB.size⟩
  have := HL.out; simpa using this.symm

set_option maxHeartbeats 400000 in
theorem rest_any (w : World) (o : Own) (τ r : Nat) (xs : List UInt8) (p : Nat) (bad : Int) (hR : RdAt w o τ r xs p bad) (hp : p ≤ xs.length) (hx : xs.length ≤ 140737488355328) :
    Calls Try.prog 87 #[.pointer (some ⟨r, 0, none⟩)] w fun e w' => e = .returned (.int .i64 ((8 * (xs.length - p) : Nat) : Int)) ∧ ∃ k, w' = w.drewN k := by
  obtain ⟨A, n, c, hb, ho, hr, rfl⟩ := hR
  obtain ⟨M, hM⟩ : ∃ M, M = 8 * p := ⟨_, rfl⟩
  rw [← hM] at hb
  have c1 := hb.cell 1
  have c2 := hb.cell 2
  simp at c1 c2
  have bM : M ≤ 8 * 140737488355328 := by omega
  have HM := Lib.hid hM
  clear hM hb ho hr
  go_enter Try.func87, Try.ntmps87
  go_wp2_with fail
  go_quiet (fail)
  go_wp2_with fail
  go_ret
  refine ⟨?_, nq, rfl⟩
  refine ret_int ?_
  have := HM.out
  omega
theorem or_bit (z b : Nat) (hz : z < 4294967296) (hb : b < 2) : bits BinOp.or IntKind.u64 ((z : Int) * 2) (b : Int) = ((2 * z + b : Nat) : Int) := by
  have h := u64_or_nat (2 * z) b (by omega) (by omega)
  have h2 : 2 * z ||| b = 2 * z + b := by
    have := Nat.two_pow_add_eq_or_of_lt (i := 1) (b := b) (by omega) z
    simpa using this.symm
  rw [h2] at h
  rw [← h]; congr 1; omega

theorem get_bit (V m k K : Nat) (hK : K = 8 * m) (hk : k < K) : V / 2 ^ (K - (k + 1)) = 2 * (V / 2 ^ (K - k)) + byteAt V m (k / 8) / 2 ^ (7 - k % 8) % 2 := by
  subst hK
  rw [← byte_bit V m k hk]
  have e : 8 * m - k = (8 * m - 1 - k) + 1 := by omega
  rw [e, Nat.pow_succ, ← Nat.div_div_eq_div_mul, show 8 * m - (k + 1) = 8 * m - 1 - k by omega]
  omega

theorem and1_u8 (n : Nat) (hn : n < 256) : bits BinOp.and IntKind.u8 (n : Int) 1 = ((n % 2 : Nat) : Int) := by
  have := u8_and_nat n 1 hn (by omega)
  rw [show (1 : Int) = ((1 : Nat) : Int) from rfl, this, Nat.and_one_is_mod]

set_option maxHeartbeats 1000000 in
theorem get_any (w : World) (o : Own) (τ r : Nat) (xs : List UInt8) (p m K : Nat) (bad : Int) (hR : RdAt w o τ r xs p bad) (hK : K = 8 * m) (hp : p + m ≤ xs.length) (hm : m ≤ 4) (hx : xs.length ≤ 140737488355328) :
    Calls Try.prog 88 #[.pointer (some ⟨r, 0, none⟩), .int .i64 K] w fun e w' => e = .returned (.int .u64 (beNum ((xs.drop p).take m) : Nat)) ∧ Step [τ] w o w' o ∧ RdAt w' o τ r xs (p + m) bad := by
  obtain ⟨A, n, c, hb, ho, hr, rfl⟩ := hR
  obtain ⟨V, hV⟩ : ∃ V, V = beNum ((xs.drop p).take m) := ⟨_, rfl⟩
  have hlen : ((xs.drop p).take m).length = m := by simp; omega
  have hVlt : V < 256 ^ m := by have := beNum_lt ((xs.drop p).take m); rw [← hV, hlen] at this; exact this
  have hVb : V < 4294967296 := Nat.lt_of_lt_of_le hVlt (Nat.le_trans (Nat.pow_le_pow_right (by omega) hm) (by decide))
  have hVK : V / 2 ^ K = 0 := Nat.div_eq_of_lt (by rw [hK, Nat.pow_mul]; exact hVlt)
  rw [← hV]
  have bK : K ≤ 32 := by omega
  have HB := Lib.hid hb; have HO := Lib.hid ho; have HR := Lib.hid hr; have HV := Lib.hid hV; have HK := Lib.hid hK; have HVK := Lib.hid hVK; have HL := Lib.hid hlen
  clear hb ho hr hV hK hVK hVlt hlen
  go_enter Try.func88, Try.ntmps88
  go_wp2_with fail
  go_loopw [5, 7] (fun v i wr => ∃ k : Nat, k ≤ K ∧ i = .int .i64 k ∧ v = .int .u64 (V / 2 ^ (K - k) : Nat) ∧ w.grownBy wr (some r) ∧ Blk wr r 169 #[.bool true, .slice A xs.length c, .int .i64 (8 * p + k : Nat), .int .i64 bad]) (fun _ i _ => K - (intOf i).toNat)
  case atStart =>
    exact ⟨0, by omega, rfl, by rw [Nat.sub_zero, HVK.out]; rfl, World.grownBy.refl _ _, HB.out⟩
  case round =>
    obtain ⟨k, hk, rfl, rfl, hg, hb⟩ := hrel
    obtain ⟨M, hM⟩ : ∃ M, M = 8 * p + k := ⟨_, rfl⟩
    rw [← hM] at hb
    have HM := Lib.hid hM; clear hM
    by_cases hlt : k < K
    · have c1 := hb.cell 1
      have c2 := hb.cell 2
      have f2 := hb.frozen 2
      simp at c1 c2
      have hMl : M / 8 < xs.length := by have := HM.out; have := HK.out; omega
      have hr := HR.out.only hg (HR.out.ne_blk HB.out (by decide))
      obtain ⟨h, cur, rfl, _⟩ := hr.form (by omega)
      obtain ⟨c3, _⟩ := hr.cellAt (k := M / 8) (u := .int .u8 (xs[M / 8].toNat : Int)) (by simp [byts, hMl])
      obtain ⟨x, hxx⟩ : ∃ x, x = xs[M / 8].toNat := ⟨_, rfl⟩
      rw [← hxx] at c3
      have bx : x < 256 := by rw [hxx]; exact UInt8.toNat_lt _
      obtain ⟨Z, hZ⟩ : ∃ Z, Z = V / 2 ^ (K - k) := ⟨_, rfl⟩
      rw [← hZ]
      have bZ : Z < 4294967296 := by rw [hZ]; exact Nat.lt_of_le_of_lt (Nat.div_le_self _ _) hVb
      have bM : M ≤ 9 * 140737488355328 := by have := HM.out; omega
      have e8 : (7 : Int) - (M : Int) % 8 = ((7 - k % 8 : Nat) : Int) := by have := HM.out; omega
      have q8 : (0 : Int) ≤ ((7 - k % 8 : Nat) : Int) := by omega
      have HG := Lib.hid hg; have HBB := Lib.hid hb; have HX := Lib.hid hxx; have HZ := Lib.hid hZ
      clear hg hb hr hxx hZ
      go_wp2_with fail
      go_quiet (fail)
      go_wp2_with fail
      go_roundw
      case rel =>
        have hq : M / 8 = p + k / 8 := by have := HM.out; omega
        have hkm : k / 8 < m := by have := HK.out; omega
        have hby : byteAt V m (k / 8) = x := by
          have h := beNum_at xs p m (k / 8) hp hkm
          rw [← HV.out] at h
          rw [h, HX.out]
          simp [hq]
        have hv : bits BinOp.or IntKind.u64 ((Z : Int) * 2) (IntKind.u64.wrap (bits BinOp.and IntKind.u8 ((x : Int) / 2 ^ (7 - k % 8)) 1)) = ((V / 2 ^ (K - (k + 1)) : Nat) : Int) := by
          have e1 : ((x : Int) / 2 ^ (7 - k % 8)) = ((x / 2 ^ (7 - k % 8) : Nat) : Int) := by simp
          rw [e1, and1_u8 _ (Nat.lt_of_le_of_lt (Nat.div_le_self _ _) bx), IntKind.wrap_u64]
          have e2 : (((x / 2 ^ (7 - k % 8) % 2 : Nat) : Int) % 18446744073709551616) = ((x / 2 ^ (7 - k % 8) % 2 : Nat) : Int) := by omega
          rw [e2, or_bit Z _ bZ (Nat.mod_lt _ (by omega)), get_bit V m k K HK.out hlt, hby, HZ.out]
        refine ⟨k + 1, by omega, by go_num, by rw [hv], only_setCell (only_drewN HG.out _) (.inl rfl) _, ?_⟩
        have := ((HBB.out.drewN nq).set_ 2 (.int .i64 ((M : Int) + 1)))
        rw [show 8 * p + (k + 1) = M + 1 by have := HM.out; omega]
        exact this
      case measure => simp [intOf]; omega
    · have HG := Lib.hid hg; have HBB := Lib.hid hb
      clear hg hb
      go_wp2_with fail
      go_ret
      have hkK : k = K := by omega
      subst hkK
      refine ⟨by rw [Nat.sub_self, Nat.pow_zero, Nat.div_one]; rfl, Step.of_only HG.out (by simp [HO.out]), A, xs.length, c, ?_, HO.out, HR.out.only HG.out (HR.out.ne_blk HB.out (by decide)), rfl⟩
      rw [show 8 * (p + m) = M by have := HM.out; have := HK.out; omega]
      exact HBB.out
set_option maxHeartbeats 400000 in
theorem number_ok (w : World) (o : Own) (τ r : Nat) (xs : List UInt8) (p m K : Nat) (bad : Int) (hR : RdAt w o τ r xs p bad) (hK : K = 8 * m) (hp : p + m ≤ xs.length) (hm : m ≤ 4) (hx : xs.length ≤ 140737488355328) :
    Calls Try.prog 86 #[.pointer (some ⟨r, 0, none⟩), .int .i64 K] w fun e w' => e = .returned (.tuple #[.int .u64 (beNum ((xs.drop p).take m) : Nat), .int .i64 0]) ∧ Step [τ] w o w' o ∧ RdAt w' o τ r xs (p + m) bad := by
  obtain ⟨R, hRR⟩ : ∃ R, R = 8 * (xs.length - p) := ⟨_, rfl⟩
  obtain ⟨V, hV⟩ : ∃ V, V = beNum ((xs.drop p).take m) := ⟨_, rfl⟩
  rw [← hV]
  have hc1 := rest_any w o τ r xs p bad hR (by omega) hx
  rw [← hRR] at hc1
  have hc2 : ∀ k, Calls Try.prog 88 #[.pointer (some ⟨r, 0, none⟩), .int .i64 K] (w.drewN k) fun e w' => e = .returned (.int .u64 V) ∧ Step [τ] w o w' o ∧ RdAt w' o τ r xs (p + m) bad := fun k => by
    refine (get_any (w.drewN k) o τ r xs p m K bad (by obtain ⟨A, n, c, h1, h2, h3, h4⟩ := hR; exact ⟨A, n, c, h1.drewN k, h2, h3.drewN k, h4⟩) hK hp hm hx).mono ?_
    rintro e w' ⟨rfl, h1, h2⟩
    exact ⟨by rw [hV], ((Step.refl _ _ _).drewN k).trans h1, h2⟩
  have bK : K ≤ R := by omega
  have C1 := Lib.hid hc1; have C2 := Lib.hid hc2
  clear hc1 hc2 hR hV hRR hK
  go_enter Try.func86, Try.ntmps86
  go_wp2_with (first
    | (go_at_call 87; refine C1.out.mono ?_; rintro e w' ⟨rfl, k, rfl⟩)
    | (go_at_call 88; refine (C2.out _).mono ?_; rintro e w' ⟨rfl, H1⟩; have H2 := Lib.hid H1; clear H1))
  go_ret2
  exact ⟨rfl, H2.out⟩

set_option maxHeartbeats 400000 in
theorem number_short (w : World) (o : Own) (τ r : Nat) (xs : List UInt8) (p K : Nat) (bad : Int) (hR : RdAt w o τ r xs p bad) (hp : p ≤ xs.length) (hK : 8 * (xs.length - p) < K) (_bK : K ≤ 64) (hx : xs.length ≤ 140737488355328) :
    Calls Try.prog 86 #[.pointer (some ⟨r, 0, none⟩), .int .i64 K] w fun e w' => e = .returned (.tuple #[.int .u64 0, .int .i64 180]) ∧ ∃ k, w' = w.drewN k := by
  obtain ⟨R, hRR⟩ : ∃ R, R = 8 * (xs.length - p) := ⟨_, rfl⟩
  have hc1 := rest_any w o τ r xs p bad hR (by omega) hx
  rw [← hRR] at hc1 hK
  have C1 := Lib.hid hc1
  clear hc1 hR hRR
  go_enter Try.func86, Try.ntmps86
  go_wp2_with (go_at_call 87; refine C1.out.mono ?_; rintro e w' ⟨rfl, k, rfl⟩)
  go_ret2
  exact ⟨rfl, _, rfl⟩

theorem RdAt.drewN {w : World} {o : Own} {τ r p : Nat} {xs : List UInt8} {bad : Int} (h : RdAt w o τ r xs p bad) (k : Nat) : RdAt (w.drewN k) o τ r xs p bad := by
  obtain ⟨A, n, c, h1, h2, h3, h4⟩ := h
  exact ⟨A, n, c, h1.drewN k, h2, h3.drewN k, h4⟩

set_option maxHeartbeats 400000 in
theorem Get_ok (w : World) (o : Own) (τ r : Nat) (xs : List UInt8) (p m K : Nat) (hR : RdAt w o τ r xs p 0) (hK : K = 8 * m) (hp : p + m ≤ xs.length) (hm : m ≤ 4) (hx : xs.length ≤ 140737488355328) :
    Calls Try.prog 80 #[.pointer (some ⟨r, 0, none⟩), .int .i64 K] w fun e w' => e = .returned (.tuple #[.int .u64 (beNum ((xs.drop p).take m) : Nat), .int .i64 0]) ∧ Step [τ] w o w' o ∧ RdAt w' o τ r xs (p + m) 0 := by
  obtain ⟨V, hV⟩ : ∃ V, V = beNum ((xs.drop p).take m) := ⟨_, rfl⟩
  have hc1 := number_ok w o τ r xs p m K 0 hR hK hp hm hx
  rw [← hV] at hc1 ⊢
  have bK : K ≤ 32 := by omega
  obtain ⟨A, n, c, hb, _⟩ := hR
  have c0 := hb.cell 0
  have c3 := hb.cell 3
  simp at c0 c3
  have C1 := Lib.hid hc1
  clear hc1 hb hV hK
  go_enter Try.func80, Try.ntmps80
  go_wp2_with (first | (go_at_call 86; refine C1.out.mono ?_; rintro e w' ⟨rfl, H1⟩; have H2 := Lib.hid H1; clear H1) | go_in)
  go_ret2
  exact ⟨rfl, H2.out⟩

set_option maxHeartbeats 400000 in
theorem Get_short (w : World) (o : Own) (τ r : Nat) (xs : List UInt8) (p K : Nat) (hR : RdAt w o τ r xs p 0) (hp : p ≤ xs.length) (hK : 8 * (xs.length - p) < K) (bK : K ≤ 64) (hx : xs.length ≤ 140737488355328) :
    Calls Try.prog 80 #[.pointer (some ⟨r, 0, none⟩), .int .i64 K] w fun e w' => e = .returned (.tuple #[.int .u64 0, .int .i64 180]) ∧ Step [τ] w o w' o ∧ RdAt w' o τ r xs p 180 := by
  have hc1 := number_short w o τ r xs p K 0 hR hp hK bK hx
  obtain ⟨A, n, c, hb, ho, hr⟩ := hR
  have c0 := hb.cell 0
  have c3 := hb.cell 3
  have f3 := hb.frozen 3
  simp at c0 c3
  have C1 := Lib.hid hc1; have HB := Lib.hid hb; have HO := Lib.hid ho; have HR := Lib.hid hr
  clear hc1 hb hK ho hr
  go_enter Try.func80, Try.ntmps80
  go_wp2_with (first | (go_at_call 86; refine C1.out.mono ?_; rintro e w' ⟨rfl, k, rfl⟩) | go_in)
  go_ret2
  refine ⟨rfl, ((Step.refl _ _ _).drewN k).setCell (.inr (by simp [HO.out])) _, A, n, c, ?_, HO.out, ?_, HR.out.2⟩
  · exact (HB.out.drewN k).set_ 3 _
  · exact (HR.out.1.drewN k).setCell_far (HR.out.1.ne_blk HB.out (by decide)) _

set_option maxHeartbeats 400000 in
theorem Get_bad (w : World) (o : Own) (τ r : Nat) (xs : List UInt8) (p K : Nat) (bad : Int) (hR : RdAt w o τ r xs p bad) (hb0 : (bad == 0) = false) (bK : K ≤ 64) :
    Calls Try.prog 80 #[.pointer (some ⟨r, 0, none⟩), .int .i64 K] w fun e w' => e = .returned (.tuple #[.int .u64 0, .int .i64 bad]) ∧ ∃ k, w' = w.drewN k := by
  obtain ⟨A, n, c, hb, ho, hr⟩ := hR
  have c0 := hb.cell 0
  have c3 := hb.cell 3
  simp at c0 c3
  have hb1 : (bad != 0) = true := by simpa using hb0
  clear hb ho hr
  go_enter Try.func80, Try.ntmps80
  go_wp2_with go_in
  go_quiet (fail)
  go_wp2_with fail
  go_ret2
  exact ⟨rfl, nq, rfl⟩

set_option maxHeartbeats 400000 in
theorem Left_ok (w : World) (o : Own) (τ r : Nat) (xs : List UInt8) (p : Nat) (hR : RdAt w o τ r xs p 0) (hp : p ≤ xs.length) (hx : xs.length ≤ 140737488355328) :
    Calls Try.prog 81 #[.pointer (some ⟨r, 0, none⟩)] w fun e w' => e = .returned (.int .i64 ((8 * (xs.length - p) : Nat) : Int)) ∧ ∃ k, w' = w.drewN k := by
  have hc1 := rest_any w o τ r xs p 0 hR hp hx
  obtain ⟨A, n, c, hb, ho, hr⟩ := hR
  have c0 := hb.cell 0
  have c3 := hb.cell 3
  simp at c0 c3
  have C1 := Lib.hid hc1
  clear hc1 hb ho hr
  go_enter Try.func81, Try.ntmps81
  go_wp2_with (go_at_call 87; refine C1.out.mono ?_; rintro e w' ⟨rfl, k, rfl⟩)
  go_ret
  exact ⟨rfl, k, rfl⟩

set_option maxHeartbeats 400000 in
theorem Left_bad (w : World) (o : Own) (τ r : Nat) (xs : List UInt8) (p : Nat) (bad : Int) (hR : RdAt w o τ r xs p bad) (hb0 : (bad == 0) = false) :
    Calls Try.prog 81 #[.pointer (some ⟨r, 0, none⟩)] w fun e w' => e = .returned (.int .i64 0) ∧ ∃ k, w' = w.drewN k := by
  obtain ⟨A, n, c, hb, ho, hr⟩ := hR
  have c0 := hb.cell 0
  have c3 := hb.cell 3
  simp at c0 c3
  have hb1 : (bad != 0) = true := by simpa using hb0
  clear hb ho hr
  go_enter Try.func81, Try.ntmps81
  go_wp2_with fail
  go_ret
  exact ⟨rfl, 0, rfl⟩
end Go.Proofs.Ythjjipcbpmdfnaa
