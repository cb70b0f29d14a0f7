/-
  WALKS of packet.parse and (*End).bytes.
-/
import Derived.Test.YthjjipcbpmdfnaaBitsB
import Derived.Test.YthjjipcbpmdfnaaPackA
namespace Go.Proofs.Ythjjipcbpmdfnaa
open Go.RowKit

/-- What a Get of m bytes gives, and what it leaves: (the number, the place, the error). -/
def rget (xs : List UInt8) (p : Nat) (bad : Int) (m : Nat) : Nat × Nat × Int :=
  if bad = 0 then if p + m ≤ xs.length then (beNum ((xs.drop p).take m), p + m, 0) else (0, p, 180) else (0, p, bad)

theorem rget_le {xs : List UInt8} {p m : Nat} {bad : Int} (hp : p ≤ xs.length) : (rget xs p bad m).2.1 ≤ xs.length := by
  unfold rget; (repeat' split) <;> simp_all

theorem Get_any (w : World) (o : Own) (τ r : Nat) (xs : List UInt8) (p m K : Nat) (bad : Int) (hR : RdAt w o τ r xs p bad) (hK : K = 8 * m) (hp : p ≤ xs.length) (hm : m ≤ 4) (hx : xs.length ≤ 140737488355328) :
    Calls Try.prog 80 #[.pointer (some ⟨r, 0, none⟩), .int .i64 K] w fun e w' => e = .returned (.tuple #[.int .u64 (rget xs p bad m).1, .int .i64 (rget xs p bad m).2.2]) ∧ Step [τ] w o w' o ∧ RdAt w' o τ r xs (rget xs p bad m).2.1 (rget xs p bad m).2.2 := by
  unfold rget
  by_cases hb : bad = 0
  · subst hb
    by_cases hl : p + m ≤ xs.length
    · rw [if_pos rfl, if_pos hl]
      exact (Get_ok w o τ r xs p m K hR hK hl hm hx)
    · rw [if_pos rfl, if_neg hl]
      exact Get_short w o τ r xs p K hR hp (by omega) (by omega) hx
  · rw [if_neg hb]
    refine (Get_bad w o τ r xs p K bad hR (by simpa using hb) (by omega)).mono ?_
    rintro e w' ⟨rfl, k, rfl⟩
    exact ⟨rfl, (Step.refl _ _ _).drewN k, hR.drewN k⟩

/-- What 'parse' reads: flags, number, ack, mask, body. -/
def parseP : List UInt8 → Option (Nat × Nat × Nat × Nat × List UInt8)
  | [] => none
  | f :: r =>
    let fl := f.toNat
    let a := if fl % 2 = 1 then 2 else 0
    let b := if fl / 2 % 2 = 1 then 6 else 0
    if r.length < a + b ∨ fl < 1 ∨ 3 < fl ∨ 1191 < r.length - (a + b) ∨ ((0 < r.length - (a + b)) ≠ (fl % 2 = 1)) then none
    else some (fl, beNum (r.take a), beNum ((r.drop a).take (b - 4)), beNum ((r.drop (a + 2)).take (b - 2)), r.drop (a + b))

theorem and2_u64 (n : Nat) (hn : n < 18446744073709551616) : bits BinOp.and IntKind.u64 (n : Int) 2 = ((2 * (n / 2 % 2) : Nat) : Int) := by
  have := u64_and_nat n 2 hn (by omega)
  rw [show (2 : Int) = ((2 : Nat) : Int) from rfl, this]
  congr 1
  apply Nat.eq_of_testBit_eq
  intro i
  rw [Nat.testBit_and]
  rcases i with _ | _ | i
  · simp [Nat.testBit_zero]
  · rw [show Nat.testBit 2 (0 + 1) = true from rfl, Bool.and_true, Nat.testBit_add_one, Nat.testBit_add_one]
    rw [Nat.mul_div_cancel_left _ (by omega)]
    simp [Nat.testBit_zero]
  · have : Nat.testBit 2 (i + 1 + 1) = false := by simp [Nat.testBit_add_one]
    rw [this, Bool.and_false, Nat.testBit_add_one, Nat.testBit_add_one, Nat.mul_div_cancel_left _ (by omega), Nat.div_eq_of_lt (Nat.mod_lt _ (by omega))]
    simp

/-- The header as it lies in memory, and in a result. -/
def hdr (f n a m : Nat) : Array Value := #[.int .u64 f, .int .u64 n, .int .u64 a, .int .u64 m]

/-- In the middle of 'parse': a Reader of tag ρ, the header in block g of tag κ, the result's header in block z. -/
structure PS (w : World) (o : Own) (ρ κ τ z g r : Nat) (A : Option Addr) (n c : Nat) (xs : List UInt8) (W : World) (O : Own) (p : Nat) (bad : Int) (F N K M : Nat) : Prop where
  rd : RdAt W O ρ r xs p bad
  blk : Blk W g 146 (hdr F N K M)
  og : O g = κ
  zlk : Blk W z 146 (hdr 0 0 0 0)
  oz : O z = κ
  ne : z ≠ g
  rk : κ ≠ ρ
  sl : Sl W O τ 1 A n c (byts xs)
  tr : τ ≠ ρ
  tk : τ ≠ κ
  pl : p ≤ xs.length
  st : Step [ρ, κ] w o W O

theorem RdAt.step {w w' : World} {o o' : Own} {ts : List Nat} {τ r p : Nat} {xs : List UInt8} {bad : Int} (h : RdAt w o τ r xs p bad) (hs : Step ts w o w' o') (hτ : τ ∉ ts) : RdAt w' o' τ r xs p bad := by
  obtain ⟨A, n, c, h1, h2, h3, h4⟩ := h
  exact ⟨A, n, c, h1.step hs (by rw [h2]; exact hτ), (hs.own _ h1.lt).trans h2, h3.step hs hτ, h4⟩

section
variable {w : World} {o : Own} {ρ κ τ z g r : Nat} {A : Option Addr} {n c : Nat} {xs : List UInt8} {W : World} {O : Own} {p : Nat} {bad : Int} {F N K M : Nat}

theorem PS.set_ (h : PS w o ρ κ τ z g r A n c xs W O p bad F N K M) (i : Nat) (u : Value) (F' N' K' M' : Nat) (hu : (hdr F N K M).setIfInBounds i u = hdr F' N' K' M') : PS w o ρ κ τ z g r A n c xs (W.setCell ⟨g, i, none⟩ u) O p bad F' N' K' M' := by
  have hs : Step [κ] W O (W.setCell ⟨g, i, none⟩ u) O := (Step.refl _ _ _).setCell (.inr (List.mem_singleton.2 h.og)) _
  exact ⟨h.rd.step hs (by simpa using Ne.symm h.rk), by rw [← hu]; exact h.blk.set_ i u, h.og, h.zlk.far h.ne u, h.oz, h.ne, h.rk, h.sl.step hs (by simpa using h.tk), h.tr, h.tk, h.pl, h.st.trans (hs.mono (by simp))⟩

theorem PS.drewN (h : PS w o ρ κ τ z g r A n c xs W O p bad F N K M) (k : Nat) : PS w o ρ κ τ z g r A n c xs (W.drewN k) O p bad F N K M :=
  ⟨h.rd.drewN k, h.blk, h.og, h.zlk, h.oz, h.ne, h.rk, h.sl.step ((Step.refl [] _ _).drewN k) (by simp), h.tr, h.tk, h.pl, h.st.drewN k⟩

theorem PS.get (h : PS w o ρ κ τ z g r A n c xs W O p bad F N K M) (m B : Nat) (hB : B = 8 * m) (hm : m ≤ 4) (hx : xs.length ≤ 140737488355328) :
    Calls Try.prog 80 #[.pointer (some ⟨r, 0, none⟩), .int .i64 B] W fun e w' => ∃ (V p' : Nat) (b' : Int), Hid (rget xs p bad m = (V, p', b')) ∧ e = .returned (.tuple #[.int .u64 V, .int .i64 b']) ∧
      Hid (PS w o ρ κ τ z g r A n c xs w' O p' b' F N K M) ∧ w'.cell? ⟨g, 0, none⟩ = some (.int .u64 F) ∧ w'.cell? ⟨g, 1, none⟩ = some (.int .u64 N) ∧ w'.cell? ⟨g, 2, none⟩ = some (.int .u64 K) ∧ w'.cell? ⟨g, 3, none⟩ = some (.int .u64 M) ∧
      w'.frozen? ⟨g, 0, none⟩ = false ∧ w'.frozen? ⟨g, 1, none⟩ = false ∧ w'.frozen? ⟨g, 2, none⟩ = false ∧ w'.frozen? ⟨g, 3, none⟩ = false := by
  refine (Get_any W O ρ r xs p m B bad h.rd hB h.pl hm hx).mono ?_
  rintro e w' ⟨rfl, h1, h2⟩
  have hb := h.blk.step h1 (by rw [h.og]; simpa using h.rk)
  exact ⟨_, _, _, rfl, rfl, ⟨h2, hb, h.og, h.zlk.step h1 (by rw [h.oz]; simpa using h.rk), h.oz, h.ne, h.rk, h.sl.step h1 (by simpa using h.tr), h.tr, h.tk, rget_le h.pl, h.st.trans (h1.mono (by simp))⟩,
    hb.cell 0, hb.cell 1, hb.cell 2, hb.cell 3, hb.frozen 0, hb.frozen 1, hb.frozen 2, hb.frozen 3⟩

theorem PS.left (h : PS w o ρ κ τ z g r A n c xs W O p bad F N K M) (hx : xs.length ≤ 140737488355328) :
    Calls Try.prog 81 #[.pointer (some ⟨r, 0, none⟩)] W fun e w' => ∃ X : Nat, Hid (X = if bad = 0 then 8 * (xs.length - p) else 0) ∧ X ≤ 8 * xs.length ∧ e = .returned (.int .i64 X) ∧ ∃ k, w' = W.drewN k := by
  by_cases hb : bad = 0
  · subst hb
    refine (Left_ok W O ρ r xs p h.rd h.pl hx).mono ?_
    rintro e w' ⟨rfl, k, rfl⟩
    exact ⟨_, by simp [Hid], by omega, rfl, k, rfl⟩
  · refine (Left_bad W O ρ r xs p bad h.rd (by simpa using hb)).mono ?_
    rintro e w' ⟨rfl, k, rfl⟩
    exact ⟨0, by simp [Hid, hb], by omega, rfl, k, rfl⟩
end



theorem rget_zero {xs : List UInt8} {p m V p' : Nat} {e : Int} (h : rget xs p e m = (V, p', 0)) : e = 0 ∧ p + m ≤ xs.length ∧ V = beNum ((xs.drop p).take m) ∧ p' = p + m := by
  unfold rget at h
  split at h
  · split at h
    · simp only [Prod.mk.injEq] at h; exact ⟨by assumption, by assumption, h.1.symm, h.2.1.symm⟩
    · simp at h
  · simp only [Prod.mk.injEq] at h; exact absurd h.2.2 (by assumption)
theorem rget_nz {xs : List UInt8} {p m V p' : Nat} {e e' : Int} (h : rget xs p e m = (V, p', e')) (he : e' ≠ 0) : e ≠ 0 ∨ xs.length < p + m := by
  unfold rget at h
  split at h
  · split at h
    · simp only [Prod.mk.injEq] at h; exact absurd h.2.2.symm he
    · right; omega
  · left; assumption
theorem rget_p {xs : List UInt8} {p m V p' : Nat} {e' : Int} (h : rget xs p 0 m = (V, p', e')) (he : e' = 0) : p' = p + m := by subst he; exact (rget_zero h).2.2.2

theorem flag1 (F : Nat) (hF : F < 256) (b : Bool) (h : decide ((0:Int) < bits BinOp.and IntKind.u64 (F : Int) 1) = b) : (F % 2 = 1) ↔ b = true := by
  rw [and1_u64 F (by omega)] at h; subst h; simp; omega
theorem flag2 (F : Nat) (hF : F < 256) (b : Bool) (h : decide ((0:Int) < bits BinOp.and IntKind.u64 (F : Int) 2) = b) : (F / 2 % 2 = 1) ↔ b = true := by
  rw [and2_u64 F (by omega)] at h; subst h; simp; omega
theorem beNum_one (f : UInt8) (r : List UInt8) : beNum (((f :: r).drop 0).take 1) = f.toNat := by simp [beNum]
theorem rget_first {xs : List UInt8} {F p1 : Nat} {e1 : Int} (h : rget xs 0 0 1 = (F, p1, e1)) : (xs = [] ∧ F = 0 ∧ e1 = 180) ∨ ∃ f r, xs = f :: r ∧ F = f.toNat ∧ p1 = 1 ∧ e1 = 0 := by
  cases xs with
  | nil => left; simp [rget] at h; exact ⟨rfl, h.1.symm, h.2.2.symm⟩
  | cons f r =>
    right
    rw [rget, if_pos rfl, if_pos (show 0 + 1 ≤ (f :: r).length by simp), beNum_one] at h
    simp only [Prod.mk.injEq] at h
    exact ⟨f, r, rfl, h.1.symm, h.2.1.symm, h.2.2.symm⟩
theorem rget_lt {xs : List UInt8} {F p1 : Nat} {e1 : Int} (h : rget xs 0 0 1 = (F, p1, e1)) : F < 256 := by
  rcases rget_first h with ⟨_, rfl, _⟩ | ⟨f, _, _, rfl, _⟩
  · omega
  · exact f.toNat_lt


theorem rget_cases {xs : List UInt8} {p m V p' : Nat} {e' : Int} (h : rget xs p 0 m = (V, p', e')) : (p + m ≤ xs.length ∧ V = beNum ((xs.drop p).take m) ∧ p' = p + m ∧ e' = 0) ∨ (xs.length < p + m ∧ e' = 180) := by
  rw [rget, if_pos rfl] at h
  split at h
  · simp only [Prod.mk.injEq] at h; exact .inl ⟨by assumption, h.1.symm, h.2.1.symm, h.2.2.symm⟩
  · simp only [Prod.mk.injEq] at h; exact .inr ⟨by omega, h.2.2.symm⟩
theorem rget_bad {xs : List UInt8} {p m V p' : Nat} {e e' : Int} (h : rget xs p e m = (V, p', e')) (he : e = 180) : e' = 180 := by
  subst he
  rw [rget, if_neg (by omega)] at h
  simp only [Prod.mk.injEq] at h; exact h.2.2.symm

/-- What the Gets came to, in one: a bytes of the number, b of the acknowledgement. -/
def Chain (xs : List UInt8) (F N K M p : Nat) (e : Int) (a b : Nat) : Prop :=
  (e = 180 ∧ (xs = [] ∨ ∃ f r, xs = f :: r ∧ F = f.toNat ∧ r.length < a + b)) ∨
  ∃ f r, xs = f :: r ∧ F = f.toNat ∧ a + b ≤ r.length ∧ e = 0 ∧ p = 1 + a + b ∧ N = beNum (r.take a) ∧ K = beNum ((r.drop a).take (b - 4)) ∧ M = beNum ((r.drop (a + 2)).take (b - 2))

theorem Chain.none_ {xs : List UInt8} {F N K M p a b X Y : Nat} {e : Int} (h : Chain xs F N K M p e a b) (ha : (if F % 2 = 1 then 2 else 0) = a) (hb : (if F / 2 % 2 = 1 then 6 else 0) = b)
    (hX : X = if e = 0 then 8 * (xs.length - p) else 0) (hY : xs.length - (xs.length - X / 8) = Y) (hc : e ≠ 0 ∨ F < 1 ∨ 3 < F ∨ 1191 < Y ∨ ¬ (0 < Y ↔ F % 2 = 1)) : parseP xs = none := by
  rcases h with ⟨he, rfl | ⟨f, r, rfl, rfl, hl⟩⟩ | ⟨f, r, rfl, rfl, hl, rfl, rfl, _⟩
  · rfl
  · simp only [parseP]
    rw [ha, hb, if_pos (.inl hl)]
  · simp only [parseP]
    rw [if_pos rfl, List.length_cons] at hX
    rw [List.length_cons] at hY
    rw [ha, hb, if_pos]
    have hYY : Y = r.length - (a + b) := by omega
    rw [← hYY]
    rcases hc with h | h | h | h | h
    · exact absurd rfl h
    · exact .inr (.inl h)
    · exact .inr (.inr (.inl h))
    · exact .inr (.inr (.inr (.inl h)))
    · exact .inr (.inr (.inr (.inr (fun hh => h (by rw [hh])))))

theorem Chain.some_ {xs : List UInt8} {F N K M p a b X Y : Nat} {e : Int} (h : Chain xs F N K M p e a b) (ha : (if F % 2 = 1 then 2 else 0) = a) (hb : (if F / 2 % 2 = 1 then 6 else 0) = b)
    (hX : X = if e = 0 then 8 * (xs.length - p) else 0) (hY : xs.length - (xs.length - X / 8) = Y) (he : e = 0) (h1 : 1 ≤ F) (h2 : F ≤ 3) (h3 : Y ≤ 1191) (h4 : 0 < Y ↔ F % 2 = 1) : parseP xs = some (F, N, K, M, xs.drop (xs.length - X / 8)) := by
  rcases h with ⟨he', _⟩ | ⟨f, r, rfl, rfl, hl, rfl, rfl, rfl, rfl, rfl⟩
  · omega
  · simp only [parseP]
    rw [if_pos rfl, List.length_cons] at hX
    rw [List.length_cons] at hY
    have hYY : Y = r.length - (a + b) := by omega
    rw [ha, hb, if_neg, List.length_cons, show r.length + 1 - X / 8 = (a + b) + 1 by omega, List.drop_succ_cons]
    rw [← hYY]
    rintro (h | h | h | h | h)
    · omega
    · omega
    · omega
    · omega
    · exact h (propext h4)

theorem Sl.tail {w : World} {o : Own} {τ n c : Nat} {A : Option Addr} {xs : List UInt8} (h : Sl w o τ 1 A n c (byts xs)) (i : Nat) (hi : i ≤ n) : Sl w o τ 1 (A.map (fun x => x.add i)) (n - i) (c - i) (byts (xs.drop i)) := by
  have hl : xs.length = n := by have := h.1; simpa using this
  have := h.cut hi (Nat.le_refl n) (A.map (fun x => x.add i)) (fun g off hA _ => by subst hA; simp [Addr.add_lit])
  rw [Nat.mul_one, Nat.mul_one, List.take_of_length_le (by simp [hl])] at this
  simpa [byts, List.map_drop] using this

theorem PS.fin {w : World} {o : Own} {ρ κ τ z g r : Nat} {A : Option Addr} {n c : Nat} {xs : List UInt8} {W : World} {O : Own} {p : Nat} {bad : Int} {F N K M : Nat} (h : PS w o ρ κ τ z g r A n c xs W O p bad F N K M) (kd : Nat) (u0 u1 u2 u3 : Value) :
    Step [ρ, κ] w o (((((W.drewN kd).setCell ⟨z, 0, none⟩ u0).setCell ⟨z, 1, none⟩ u1).setCell ⟨z, 2, none⟩ u2).setCell ⟨z, 3, none⟩ u3) O ∧
    Sl (((((W.drewN kd).setCell ⟨z, 0, none⟩ u0).setCell ⟨z, 1, none⟩ u1).setCell ⟨z, 2, none⟩ u2).setCell ⟨z, 3, none⟩ u3) O τ 1 A n c (byts xs) := by
  have hs : Step [κ] W O (((((W.drewN kd).setCell ⟨z, 0, none⟩ u0).setCell ⟨z, 1, none⟩ u1).setCell ⟨z, 2, none⟩ u2).setCell ⟨z, 3, none⟩ u3) O :=
    (((((Step.refl _ _ _).drewN kd).setCell (.inr (List.mem_singleton.2 h.oz)) _).setCell (.inr (List.mem_singleton.2 h.oz)) _).setCell (.inr (List.mem_singleton.2 h.oz)) _).setCell (.inr (List.mem_singleton.2 h.oz)) _
  exact ⟨h.st.trans (hs.mono (by simp)), h.sl.step hs (by simpa using h.tk)⟩

theorem PS.start {w : World} {o o' : Own} {ρ κ τ r : Nat} {A : Option Addr} {c : Nat} {xs : List UInt8} {w1 : World} (hS : Sl w o τ 1 A xs.length c (byts xs)) (htr : τ ≠ ρ) (htk : τ ≠ κ) (hrk : κ ≠ ρ)
    (hst : Step [] ((w.alloc (.cells (hdr 0 0 0 0) 146)).alloc (.cells (hdr 0 0 0 0) 146)) (ext o w.heap.size κ) w1 o') (hrd : RdAt w1 o' ρ r xs 0 0) : PS w o ρ κ τ w.heap.size (w.heap.size + 1) r A xs.length c xs w1 o' 0 0 0 0 0 0 := by
  have hb0 : Blk ((w.alloc (.cells (hdr 0 0 0 0) 146)).alloc (.cells (hdr 0 0 0 0) 146)) w.heap.size 146 (hdr 0 0 0 0) := (Blk.new w _ _).alloc _
  have hb1 : Blk ((w.alloc (.cells (hdr 0 0 0 0) 146)).alloc (.cells (hdr 0 0 0 0) 146)) (w.heap.size + 1) 146 (hdr 0 0 0 0) := by
    have := Blk.new (w.alloc (.cells (hdr 0 0 0 0) 146)) 146 (hdr 0 0 0 0)
    rwa [World.size_alloc] at this
  have hs1 : Step [] w o ((w.alloc (.cells (hdr 0 0 0 0) 146)).alloc (.cells (hdr 0 0 0 0) 146)) (ext o w.heap.size κ) := by
    have := ((Step.refl [] w o).alloc (.cells (hdr 0 0 0 0) 146) κ).alloc (.cells (hdr 0 0 0 0) 146) κ
    rwa [World.size_alloc, ext_ext (by omega)] at this
  refine ⟨hrd, hb1.step hst (by simp), ?_, hb0.step hst (by simp), ?_, by omega, hrk, (hS.step hs1 (by simp)).step hst (by simp), htr, htk, Nat.zero_le _, (hs1.trans hst).nil⟩
  · rw [hst.own _ hb1.lt]; exact ext_ge (by omega)
  · rw [hst.own _ hb0.lt]; exact ext_ge (by omega)

/-- What 'parse' gives. -/
def ParseTo (w : World) (o : Own) (ρ κ τ : Nat) (xs : List UInt8) (e : Ending) (w' : World) : Prop :=
  ∃ o', Step [ρ, κ] w o w' o' ∧
  ((parseP xs = none ∧ e = .returned (.tuple #[.agg (hdr 0 0 0 0), .slice none 0 0, .bool false])) ∨
   (∃ f nu ak mk body A' n' c', parseP xs = some (f, nu, ak, mk, body) ∧ e = .returned (.tuple #[.agg (hdr f nu ak mk), .slice A' n' c', .bool true]) ∧ Sl w' o' τ 1 A' n' c' (byts body)))

theorem chain_tt {xs : List UInt8} {F N K M Z p1 p2 p3 p4 p5 : Nat} {e1 e2 e3 e4 e5 : Int} (q1 : rget xs 0 0 1 = (F, p1, e1)) (q2 : rget xs p1 e1 2 = (N, p2, e2)) (q3 : rget xs p2 e2 2 = (K, p3, e3)) (q4 : rget xs p3 e3 4 = (M, p4, e4)) (q5 : rget xs p4 e4 0 = (Z, p5, e5)) : Chain xs F N K M p5 e5 2 6 := by
  rcases rget_first q1 with ⟨rfl, rfl, rfl⟩ | ⟨f, r, rfl, rfl, rfl, rfl⟩
  · exact .inl ⟨rget_bad q5 (rget_bad q4 (rget_bad q3 (rget_bad q2 (rfl)))), .inl rfl⟩
  · rcases rget_cases q2 with ⟨l2, v2, rfl, rfl⟩ | ⟨l2, x2⟩
    rotate_left
    · exact .inl ⟨rget_bad q5 (rget_bad q4 (rget_bad q3 (x2))), .inr ⟨f, r, rfl, rfl, by simp only [List.length_cons] at l2; omega⟩⟩
    · rcases rget_cases q3 with ⟨l3, v3, rfl, rfl⟩ | ⟨l3, x3⟩
      rotate_left
      · exact .inl ⟨rget_bad q5 (rget_bad q4 (x3)), .inr ⟨f, r, rfl, rfl, by simp only [List.length_cons] at l3; omega⟩⟩
      · rcases rget_cases q4 with ⟨l4, v4, rfl, rfl⟩ | ⟨l4, x4⟩
        rotate_left
        · exact .inl ⟨rget_bad q5 (x4), .inr ⟨f, r, rfl, rfl, by simp only [List.length_cons] at l4; omega⟩⟩
        · rcases rget_cases q5 with ⟨l5, v5, rfl, rfl⟩ | ⟨l5, x5⟩
          rotate_left
          · exact .inl ⟨x5, .inr ⟨f, r, rfl, rfl, by simp only [List.length_cons] at l5; omega⟩⟩
          · refine .inr ⟨f, r, rfl, rfl, by simp only [List.length_cons] at *; omega, rfl, rfl, ?_, ?_, ?_⟩ <;> simp_all [beNum, List.drop_succ_cons]

theorem chain_tf {xs : List UInt8} {F N Z p1 p2 p3 : Nat} {e1 e2 e3 : Int} (q1 : rget xs 0 0 1 = (F, p1, e1)) (q2 : rget xs p1 e1 2 = (N, p2, e2)) (q3 : rget xs p2 e2 0 = (Z, p3, e3)) : Chain xs F N 0 0 p3 e3 2 0 := by
  rcases rget_first q1 with ⟨rfl, rfl, rfl⟩ | ⟨f, r, rfl, rfl, rfl, rfl⟩
  · exact .inl ⟨rget_bad q3 (rget_bad q2 (rfl)), .inl rfl⟩
  · rcases rget_cases q2 with ⟨l2, v2, rfl, rfl⟩ | ⟨l2, x2⟩
    rotate_left
    · exact .inl ⟨rget_bad q3 (x2), .inr ⟨f, r, rfl, rfl, by simp only [List.length_cons] at l2; omega⟩⟩
    · rcases rget_cases q3 with ⟨l3, v3, rfl, rfl⟩ | ⟨l3, x3⟩
      rotate_left
      · exact .inl ⟨x3, .inr ⟨f, r, rfl, rfl, by simp only [List.length_cons] at l3; omega⟩⟩
      · refine .inr ⟨f, r, rfl, rfl, by simp only [List.length_cons] at *; omega, rfl, rfl, ?_, ?_, ?_⟩ <;> simp_all [beNum, List.drop_succ_cons]

theorem chain_ft {xs : List UInt8} {F K M Z p1 p2 p3 p4 : Nat} {e1 e2 e3 e4 : Int} (q1 : rget xs 0 0 1 = (F, p1, e1)) (q2 : rget xs p1 e1 2 = (K, p2, e2)) (q3 : rget xs p2 e2 4 = (M, p3, e3)) (q4 : rget xs p3 e3 0 = (Z, p4, e4)) : Chain xs F 0 K M p4 e4 0 6 := by
  rcases rget_first q1 with ⟨rfl, rfl, rfl⟩ | ⟨f, r, rfl, rfl, rfl, rfl⟩
  · exact .inl ⟨rget_bad q4 (rget_bad q3 (rget_bad q2 (rfl))), .inl rfl⟩
  · rcases rget_cases q2 with ⟨l2, v2, rfl, rfl⟩ | ⟨l2, x2⟩
    rotate_left
    · exact .inl ⟨rget_bad q4 (rget_bad q3 (x2)), .inr ⟨f, r, rfl, rfl, by simp only [List.length_cons] at l2; omega⟩⟩
    · rcases rget_cases q3 with ⟨l3, v3, rfl, rfl⟩ | ⟨l3, x3⟩
      rotate_left
      · exact .inl ⟨rget_bad q4 (x3), .inr ⟨f, r, rfl, rfl, by simp only [List.length_cons] at l3; omega⟩⟩
      · rcases rget_cases q4 with ⟨l4, v4, rfl, rfl⟩ | ⟨l4, x4⟩
        rotate_left
        · exact .inl ⟨x4, .inr ⟨f, r, rfl, rfl, by simp only [List.length_cons] at l4; omega⟩⟩
        · refine .inr ⟨f, r, rfl, rfl, by simp only [List.length_cons] at *; omega, rfl, rfl, ?_, ?_, ?_⟩ <;> simp_all [beNum, List.drop_succ_cons]

theorem chain_ff {xs : List UInt8} {F Z p1 p2 : Nat} {e1 e2 : Int} (q1 : rget xs 0 0 1 = (F, p1, e1)) (q2 : rget xs p1 e1 0 = (Z, p2, e2)) : Chain xs F 0 0 0 p2 e2 0 0 := by
  rcases rget_first q1 with ⟨rfl, rfl, rfl⟩ | ⟨f, r, rfl, rfl, rfl, rfl⟩
  · exact .inl ⟨rget_bad q2 (rfl), .inl rfl⟩
  · rcases rget_cases q2 with ⟨l2, v2, rfl, rfl⟩ | ⟨l2, x2⟩
    rotate_left
    · exact .inl ⟨x2, .inr ⟨f, r, rfl, rfl, by simp only [List.length_cons] at l2; omega⟩⟩
    · refine .inr ⟨f, r, rfl, rfl, by simp only [List.length_cons] at *; omega, rfl, rfl, ?_, ?_, ?_⟩ <;> simp_all [beNum, List.drop_succ_cons]

set_option maxHeartbeats 1000000 in
theorem parse_tt (w : World) (o : Own) (τ ρ κ : Nat) (A : Option Addr) (c : Nat) (xs : List UInt8) (hS : Sl w o τ 1 A xs.length c (byts xs)) (hn : xs.length ≤ 140737488355328) (htr : τ ≠ ρ) (htk : τ ≠ κ) (hrk : κ ≠ ρ)
    (h1 : decide ((0:Int) < bits BinOp.and IntKind.u64 ((rget xs 0 0 1).1 : Int) 1) = true) (h2 : decide ((0:Int) < bits BinOp.and IntKind.u64 ((rget xs 0 0 1).1 : Int) 2) = true) :
    Calls Try.prog 66 #[.slice A xs.length c] w (ParseTo w o ρ κ τ xs) := by
  have hs0 : Sl ((w.alloc (.cells (hdr 0 0 0 0) 146)).alloc (.cells (hdr 0 0 0 0) 146)) (ext o w.heap.size κ) τ 1 A xs.length c (byts xs) := by
    have := hS.step (((Step.refl [] w o).alloc (.cells (hdr 0 0 0 0) 146) κ).alloc (.cells (hdr 0 0 0 0) 146) κ) (by simp)
    rwa [World.size_alloc, ext_ext (by omega)] at this
  have HS := Lib.hid hs0; have HS0 := Lib.hid hS; clear hS hs0
  obtain ⟨F, hF⟩ : ∃ F, F = (rget xs 0 0 1).1 := ⟨_, rfl⟩
  rw [← hF] at h1 h2
  have HF := Lib.hid hF; clear hF
  go_enter Try.func66, Try.ntmps66
  go_wp2_with fail
  refine (NewReader_any _ (ext o w.heap.size κ) τ ρ A xs.length c xs HS.out hn).mono ?_
  rintro e w1 ⟨r, o', rfl, hst, hrd, hrz⟩
  have H1 := Lib.hid (PS.start HS0.out htr htk hrk hst hrd); clear hst hrd HS HS0
  go_wp2_with fail
  refine (H1.out.get 1 8 rfl (by omega) (by omega)).mono ?_
  rintro e w2 ⟨F', p1, e1, q1, rfl, H2, g0, g1, g2, g3, f0, f1, f2, f3⟩
  obtain rfl : F' = F := by have := q1.out; have := HF.out; simp_all
  go_wp2_with fail
  clear g0 g1 g2 g3 f0 f1 f2 f3
  refine ((H2.out.set_ 0 (.int .u64 F') F' 0 0 0 rfl).get 2 16 rfl (by omega) (by omega)).mono ?_
  rintro e w3 ⟨N, p2, e2, q2, rfl, H3, g0, g1, g2, g3, f0, f1, f2, f3⟩
  go_wp2_with fail
  clear g0 g1 g2 g3 f0 f1 f2 f3
  refine ((H3.out.set_ 1 (.int .u64 N) F' N 0 0 rfl).get 2 16 rfl (by omega) (by omega)).mono ?_
  rintro e w4 ⟨K, p3, e3, q3, rfl, H4, g0, g1, g2, g3, f0, f1, f2, f3⟩
  go_wp2_with fail
  clear g0 g1 g2 g3 f0 f1 f2 f3
  refine ((H4.out.set_ 2 (.int .u64 K) F' N K 0 rfl).get 4 32 rfl (by omega) (by omega)).mono ?_
  rintro e w5 ⟨M, p4, e4, q4, rfl, H5, g0, g1, g2, g3, f0, f1, f2, f3⟩
  go_wp2_with fail
  clear g0 g1 g2 g3 f0 f1 f2 f3
  refine ((H5.out.set_ 3 (.int .u64 M) F' N K M rfl).get 0 0 rfl (by omega) (by omega)).mono ?_
  rintro e w6 ⟨Z, p5, e5, q5, rfl, H6, g0, g1, g2, g3, f0, f1, f2, f3⟩
  go_wp2_with fail
  refine (H6.out.left hn).mono ?_
  rintro e w7 ⟨X, qX, bX, rfl, kd, rfl⟩
  have HZ := H6.out.zlk
  have z0 := HZ.cell 0; have z1 := HZ.cell 1; have z2 := HZ.cell 2; have z3 := HZ.cell 3
  have y0 := HZ.frozen 0; have y1 := HZ.frozen 1; have y2 := HZ.frozen 2; have y3 := HZ.frozen 3
  simp only [hdr, List.getElem?_toArray, List.getElem?_cons_zero, List.getElem?_cons_succ] at z0 z1 z2 z3
  clear HZ
  have hnc : xs.length ≤ c := H6.out.sl.2.1
  obtain ⟨Y, hY⟩ : ∃ Y, xs.length - (xs.length - X / 8) = Y := ⟨_, rfl⟩
  have HY := Lib.hid hY
  by_cases c1 : e5 = 0
  · have d1 : (e5 != 0) = false := by simp [c1]
    have C1 := Lib.hid c1; clear c1
    by_cases c2 : 1 ≤ F'
    · have d2 : (1 : Int) ≤ (F' : Int) := by omega
      by_cases c3 : F' ≤ 3
      · have d3 : (F' : Int) ≤ 3 := by omega
        by_cases c4 : Y ≤ 1191
        · have d4 : (Y : Int) ≤ 1191 := by omega
          by_cases c5 : 0 < Y
          · have hcs : ¬ c = xs.length - X / 8 := by omega
            have d5 : decide ((0 : Int) < (Y : Int)) = true := by simp; omega
            have d6 : decide (0 < Y) = true := by simp; omega
            go_wp2_with fail
            refine bodyPost_ret (v := .tuple #[.agg (hdr F' N K M), .slice (Option.map (fun x => x.add (xs.length - X / 8)) A) Y (c - (xs.length - X / 8)), .bool true]) (by simp [results, Try.results66, go_sem, hdr, z0, z1, z2, z3]) rfl ?_
            refine ⟨_, (H6.out.fin kd _ _ _ _).1, .inr ⟨F', N, K, M, xs.drop (xs.length - X / 8), _, _, _, (chain_tt q1.out q2.out q3.out q4.out q5.out).some_ (by simp [(flag1 F' (rget_lt q1.out) _ h1)]) (by simp [(flag2 F' (rget_lt q1.out) _ h2)]) qX.out HY.out C1.out c2 c3 c4 (by rw [(flag1 F' (rget_lt q1.out) _ h1)]; exact ⟨fun _ => rfl, fun _ => c5⟩), rfl, ?_⟩⟩
            have hsl := (H6.out.fin kd (.int .u64 F') (.int .u64 N) (.int .u64 K) (.int .u64 M)).2.tail (xs.length - X / 8) (by omega)
            rw [HY.out] at hsl
            exact hsl
          · have c5' : Y = 0 := by omega
            subst c5'
            have HYN := Lib.hid hY; clear hY
            have hY' := HYN.out
            go_wp2_with fail
            all_goals refine bodyPost_ret (v := .tuple #[.agg (hdr 0 0 0 0), .slice none 0 0, .bool false]) (by simp [results, Try.results66, go_sem, hdr, z0, z1, z2, z3]) rfl ?_
            all_goals exact ⟨_, (H6.out.fin kd _ _ _ _).1, .inl ⟨(chain_tt q1.out q2.out q3.out q4.out q5.out).none_ (by simp [(flag1 F' (rget_lt q1.out) _ h1)]) (by simp [(flag2 F' (rget_lt q1.out) _ h2)]) qX.out HY.out (.inr (.inr (.inr (.inr (by rw [(flag1 F' (rget_lt q1.out) _ h1)]; simp))))), rfl⟩⟩
        · have d4 : (1191 : Int) < (Y : Int) := by omega
          go_wp2_with fail
          all_goals refine bodyPost_ret (v := .tuple #[.agg (hdr 0 0 0 0), .slice none 0 0, .bool false]) (by simp [results, Try.results66, go_sem, hdr, z0, z1, z2, z3]) rfl ?_
          all_goals exact ⟨_, (H6.out.fin kd _ _ _ _).1, .inl ⟨(chain_tt q1.out q2.out q3.out q4.out q5.out).none_ (by simp [(flag1 F' (rget_lt q1.out) _ h1)]) (by simp [(flag2 F' (rget_lt q1.out) _ h2)]) qX.out HY.out (.inr (.inr (.inr (.inl (by omega))))), rfl⟩⟩
      · have d3 : (3 : Int) < (F' : Int) := by omega
        go_wp2_with fail
        all_goals refine bodyPost_ret (v := .tuple #[.agg (hdr 0 0 0 0), .slice none 0 0, .bool false]) (by simp [results, Try.results66, go_sem, hdr, z0, z1, z2, z3]) rfl ?_
        all_goals exact ⟨_, (H6.out.fin kd _ _ _ _).1, .inl ⟨(chain_tt q1.out q2.out q3.out q4.out q5.out).none_ (by simp [(flag1 F' (rget_lt q1.out) _ h1)]) (by simp [(flag2 F' (rget_lt q1.out) _ h2)]) qX.out HY.out (.inr (.inr (.inl (by omega)))), rfl⟩⟩
    · have d2 : (F' : Int) < 1 := by omega
      go_wp2_with fail
      all_goals refine bodyPost_ret (v := .tuple #[.agg (hdr 0 0 0 0), .slice none 0 0, .bool false]) (by simp [results, Try.results66, go_sem, hdr, z0, z1, z2, z3]) rfl ?_
      all_goals exact ⟨_, (H6.out.fin kd _ _ _ _).1, .inl ⟨(chain_tt q1.out q2.out q3.out q4.out q5.out).none_ (by simp [(flag1 F' (rget_lt q1.out) _ h1)]) (by simp [(flag2 F' (rget_lt q1.out) _ h2)]) qX.out HY.out (.inr (.inl (by omega))), rfl⟩⟩
  · have d1 : (e5 != 0) = true := by simp [c1]
    have C1 := Lib.hid c1; clear c1
    go_wp2_with fail
    all_goals refine bodyPost_ret (v := .tuple #[.agg (hdr 0 0 0 0), .slice none 0 0, .bool false]) (by simp [results, Try.results66, go_sem, hdr, z0, z1, z2, z3]) rfl ?_
    all_goals exact ⟨_, (H6.out.fin kd _ _ _ _).1, .inl ⟨(chain_tt q1.out q2.out q3.out q4.out q5.out).none_ (by simp [(flag1 F' (rget_lt q1.out) _ h1)]) (by simp [(flag2 F' (rget_lt q1.out) _ h2)]) qX.out HY.out (.inl C1.out), rfl⟩⟩

set_option maxHeartbeats 1000000 in
theorem parse_tf (w : World) (o : Own) (τ ρ κ : Nat) (A : Option Addr) (c : Nat) (xs : List UInt8) (hS : Sl w o τ 1 A xs.length c (byts xs)) (hn : xs.length ≤ 140737488355328) (htr : τ ≠ ρ) (htk : τ ≠ κ) (hrk : κ ≠ ρ)
    (h1 : decide ((0:Int) < bits BinOp.and IntKind.u64 ((rget xs 0 0 1).1 : Int) 1) = true) (h2 : decide ((0:Int) < bits BinOp.and IntKind.u64 ((rget xs 0 0 1).1 : Int) 2) = false) :
    Calls Try.prog 66 #[.slice A xs.length c] w (ParseTo w o ρ κ τ xs) := by
  have hs0 : Sl ((w.alloc (.cells (hdr 0 0 0 0) 146)).alloc (.cells (hdr 0 0 0 0) 146)) (ext o w.heap.size κ) τ 1 A xs.length c (byts xs) := by
    have := hS.step (((Step.refl [] w o).alloc (.cells (hdr 0 0 0 0) 146) κ).alloc (.cells (hdr 0 0 0 0) 146) κ) (by simp)
    rwa [World.size_alloc, ext_ext (by omega)] at this
  have HS := Lib.hid hs0; have HS0 := Lib.hid hS; clear hS hs0
  obtain ⟨F, hF⟩ : ∃ F, F = (rget xs 0 0 1).1 := ⟨_, rfl⟩
  rw [← hF] at h1 h2
  have HF := Lib.hid hF; clear hF
  go_enter Try.func66, Try.ntmps66
  go_wp2_with fail
  refine (NewReader_any _ (ext o w.heap.size κ) τ ρ A xs.length c xs HS.out hn).mono ?_
  rintro e w1 ⟨r, o', rfl, hst, hrd, hrz⟩
  have H1 := Lib.hid (PS.start HS0.out htr htk hrk hst hrd); clear hst hrd HS HS0
  go_wp2_with fail
  refine (H1.out.get 1 8 rfl (by omega) (by omega)).mono ?_
  rintro e w2 ⟨F', p1, e1, q1, rfl, H2, g0, g1, g2, g3, f0, f1, f2, f3⟩
  obtain rfl : F' = F := by have := q1.out; have := HF.out; simp_all
  go_wp2_with fail
  clear g0 g1 g2 g3 f0 f1 f2 f3
  refine ((H2.out.set_ 0 (.int .u64 F') F' 0 0 0 rfl).get 2 16 rfl (by omega) (by omega)).mono ?_
  rintro e w3 ⟨N, p2, e2, q2, rfl, H3, g0, g1, g2, g3, f0, f1, f2, f3⟩
  go_wp2_with fail
  clear g0 g1 g2 g3 f0 f1 f2 f3
  refine ((H3.out.set_ 1 (.int .u64 N) F' N 0 0 rfl).get 0 0 rfl (by omega) (by omega)).mono ?_
  rintro e w4 ⟨Z, p3, e3, q3, rfl, H4, g0, g1, g2, g3, f0, f1, f2, f3⟩
  go_wp2_with fail
  refine (H4.out.left hn).mono ?_
  rintro e w5 ⟨X, qX, bX, rfl, kd, rfl⟩
  have HZ := H4.out.zlk
  have z0 := HZ.cell 0; have z1 := HZ.cell 1; have z2 := HZ.cell 2; have z3 := HZ.cell 3
  have y0 := HZ.frozen 0; have y1 := HZ.frozen 1; have y2 := HZ.frozen 2; have y3 := HZ.frozen 3
  simp only [hdr, List.getElem?_toArray, List.getElem?_cons_zero, List.getElem?_cons_succ] at z0 z1 z2 z3
  clear HZ
  have hnc : xs.length ≤ c := H4.out.sl.2.1
  obtain ⟨Y, hY⟩ : ∃ Y, xs.length - (xs.length - X / 8) = Y := ⟨_, rfl⟩
  have HY := Lib.hid hY
  by_cases c1 : e3 = 0
  · have d1 : (e3 != 0) = false := by simp [c1]
    have C1 := Lib.hid c1; clear c1
    by_cases c2 : 1 ≤ F'
    · have d2 : (1 : Int) ≤ (F' : Int) := by omega
      by_cases c3 : F' ≤ 3
      · have d3 : (F' : Int) ≤ 3 := by omega
        by_cases c4 : Y ≤ 1191
        · have d4 : (Y : Int) ≤ 1191 := by omega
          by_cases c5 : 0 < Y
          · have hcs : ¬ c = xs.length - X / 8 := by omega
            have d5 : decide ((0 : Int) < (Y : Int)) = true := by simp; omega
            have d6 : decide (0 < Y) = true := by simp; omega
            go_wp2_with fail
            refine bodyPost_ret (v := .tuple #[.agg (hdr F' N 0 0), .slice (Option.map (fun x => x.add (xs.length - X / 8)) A) Y (c - (xs.length - X / 8)), .bool true]) (by simp [results, Try.results66, go_sem, hdr, z0, z1, z2, z3]) rfl ?_
            refine ⟨_, (H4.out.fin kd _ _ _ _).1, .inr ⟨F', N, 0, 0, xs.drop (xs.length - X / 8), _, _, _, (chain_tf q1.out q2.out q3.out).some_ (by simp [(flag1 F' (rget_lt q1.out) _ h1)]) (by simp [(flag2 F' (rget_lt q1.out) _ h2)]) qX.out HY.out C1.out c2 c3 c4 (by rw [(flag1 F' (rget_lt q1.out) _ h1)]; exact ⟨fun _ => rfl, fun _ => c5⟩), rfl, ?_⟩⟩
            have hsl := (H4.out.fin kd (.int .u64 F') (.int .u64 N) (.int .u64 0) (.int .u64 0)).2.tail (xs.length - X / 8) (by omega)
            rw [HY.out] at hsl
            exact hsl
          · have c5' : Y = 0 := by omega
            subst c5'
            have HYN := Lib.hid hY; clear hY
            have hY' := HYN.out
            go_wp2_with fail
            all_goals refine bodyPost_ret (v := .tuple #[.agg (hdr 0 0 0 0), .slice none 0 0, .bool false]) (by simp [results, Try.results66, go_sem, hdr, z0, z1, z2, z3]) rfl ?_
            all_goals exact ⟨_, (H4.out.fin kd _ _ _ _).1, .inl ⟨(chain_tf q1.out q2.out q3.out).none_ (by simp [(flag1 F' (rget_lt q1.out) _ h1)]) (by simp [(flag2 F' (rget_lt q1.out) _ h2)]) qX.out HY.out (.inr (.inr (.inr (.inr (by rw [(flag1 F' (rget_lt q1.out) _ h1)]; simp))))), rfl⟩⟩
        · have d4 : (1191 : Int) < (Y : Int) := by omega
          go_wp2_with fail
          all_goals refine bodyPost_ret (v := .tuple #[.agg (hdr 0 0 0 0), .slice none 0 0, .bool false]) (by simp [results, Try.results66, go_sem, hdr, z0, z1, z2, z3]) rfl ?_
          all_goals exact ⟨_, (H4.out.fin kd _ _ _ _).1, .inl ⟨(chain_tf q1.out q2.out q3.out).none_ (by simp [(flag1 F' (rget_lt q1.out) _ h1)]) (by simp [(flag2 F' (rget_lt q1.out) _ h2)]) qX.out HY.out (.inr (.inr (.inr (.inl (by omega))))), rfl⟩⟩
      · have d3 : (3 : Int) < (F' : Int) := by omega
        go_wp2_with fail
        all_goals refine bodyPost_ret (v := .tuple #[.agg (hdr 0 0 0 0), .slice none 0 0, .bool false]) (by simp [results, Try.results66, go_sem, hdr, z0, z1, z2, z3]) rfl ?_
        all_goals exact ⟨_, (H4.out.fin kd _ _ _ _).1, .inl ⟨(chain_tf q1.out q2.out q3.out).none_ (by simp [(flag1 F' (rget_lt q1.out) _ h1)]) (by simp [(flag2 F' (rget_lt q1.out) _ h2)]) qX.out HY.out (.inr (.inr (.inl (by omega)))), rfl⟩⟩
    · have d2 : (F' : Int) < 1 := by omega
      go_wp2_with fail
      all_goals refine bodyPost_ret (v := .tuple #[.agg (hdr 0 0 0 0), .slice none 0 0, .bool false]) (by simp [results, Try.results66, go_sem, hdr, z0, z1, z2, z3]) rfl ?_
      all_goals exact ⟨_, (H4.out.fin kd _ _ _ _).1, .inl ⟨(chain_tf q1.out q2.out q3.out).none_ (by simp [(flag1 F' (rget_lt q1.out) _ h1)]) (by simp [(flag2 F' (rget_lt q1.out) _ h2)]) qX.out HY.out (.inr (.inl (by omega))), rfl⟩⟩
  · have d1 : (e3 != 0) = true := by simp [c1]
    have C1 := Lib.hid c1; clear c1
    go_wp2_with fail
    all_goals refine bodyPost_ret (v := .tuple #[.agg (hdr 0 0 0 0), .slice none 0 0, .bool false]) (by simp [results, Try.results66, go_sem, hdr, z0, z1, z2, z3]) rfl ?_
    all_goals exact ⟨_, (H4.out.fin kd _ _ _ _).1, .inl ⟨(chain_tf q1.out q2.out q3.out).none_ (by simp [(flag1 F' (rget_lt q1.out) _ h1)]) (by simp [(flag2 F' (rget_lt q1.out) _ h2)]) qX.out HY.out (.inl C1.out), rfl⟩⟩

set_option maxHeartbeats 1000000 in
theorem parse_ft (w : World) (o : Own) (τ ρ κ : Nat) (A : Option Addr) (c : Nat) (xs : List UInt8) (hS : Sl w o τ 1 A xs.length c (byts xs)) (hn : xs.length ≤ 140737488355328) (htr : τ ≠ ρ) (htk : τ ≠ κ) (hrk : κ ≠ ρ)
    (h1 : decide ((0:Int) < bits BinOp.and IntKind.u64 ((rget xs 0 0 1).1 : Int) 1) = false) (h2 : decide ((0:Int) < bits BinOp.and IntKind.u64 ((rget xs 0 0 1).1 : Int) 2) = true) :
    Calls Try.prog 66 #[.slice A xs.length c] w (ParseTo w o ρ κ τ xs) := by
  have hs0 : Sl ((w.alloc (.cells (hdr 0 0 0 0) 146)).alloc (.cells (hdr 0 0 0 0) 146)) (ext o w.heap.size κ) τ 1 A xs.length c (byts xs) := by
    have := hS.step (((Step.refl [] w o).alloc (.cells (hdr 0 0 0 0) 146) κ).alloc (.cells (hdr 0 0 0 0) 146) κ) (by simp)
    rwa [World.size_alloc, ext_ext (by omega)] at this
  have HS := Lib.hid hs0; have HS0 := Lib.hid hS; clear hS hs0
  obtain ⟨F, hF⟩ : ∃ F, F = (rget xs 0 0 1).1 := ⟨_, rfl⟩
  rw [← hF] at h1 h2
  have HF := Lib.hid hF; clear hF
  go_enter Try.func66, Try.ntmps66
  go_wp2_with fail
  refine (NewReader_any _ (ext o w.heap.size κ) τ ρ A xs.length c xs HS.out hn).mono ?_
  rintro e w1 ⟨r, o', rfl, hst, hrd, hrz⟩
  have H1 := Lib.hid (PS.start HS0.out htr htk hrk hst hrd); clear hst hrd HS HS0
  go_wp2_with fail
  refine (H1.out.get 1 8 rfl (by omega) (by omega)).mono ?_
  rintro e w2 ⟨F', p1, e1, q1, rfl, H2, g0, g1, g2, g3, f0, f1, f2, f3⟩
  obtain rfl : F' = F := by have := q1.out; have := HF.out; simp_all
  go_wp2_with fail
  clear g0 g1 g2 g3 f0 f1 f2 f3
  refine ((H2.out.set_ 0 (.int .u64 F') F' 0 0 0 rfl).get 2 16 rfl (by omega) (by omega)).mono ?_
  rintro e w3 ⟨K, p2, e2, q2, rfl, H3, g0, g1, g2, g3, f0, f1, f2, f3⟩
  go_wp2_with fail
  clear g0 g1 g2 g3 f0 f1 f2 f3
  refine ((H3.out.set_ 2 (.int .u64 K) F' 0 K 0 rfl).get 4 32 rfl (by omega) (by omega)).mono ?_
  rintro e w4 ⟨M, p3, e3, q3, rfl, H4, g0, g1, g2, g3, f0, f1, f2, f3⟩
  go_wp2_with fail
  clear g0 g1 g2 g3 f0 f1 f2 f3
  refine ((H4.out.set_ 3 (.int .u64 M) F' 0 K M rfl).get 0 0 rfl (by omega) (by omega)).mono ?_
  rintro e w5 ⟨Z, p4, e4, q4, rfl, H5, g0, g1, g2, g3, f0, f1, f2, f3⟩
  go_wp2_with fail
  refine (H5.out.left hn).mono ?_
  rintro e w6 ⟨X, qX, bX, rfl, kd, rfl⟩
  have HZ := H5.out.zlk
  have z0 := HZ.cell 0; have z1 := HZ.cell 1; have z2 := HZ.cell 2; have z3 := HZ.cell 3
  have y0 := HZ.frozen 0; have y1 := HZ.frozen 1; have y2 := HZ.frozen 2; have y3 := HZ.frozen 3
  simp only [hdr, List.getElem?_toArray, List.getElem?_cons_zero, List.getElem?_cons_succ] at z0 z1 z2 z3
  clear HZ
  have hnc : xs.length ≤ c := H5.out.sl.2.1
  obtain ⟨Y, hY⟩ : ∃ Y, xs.length - (xs.length - X / 8) = Y := ⟨_, rfl⟩
  have HY := Lib.hid hY
  by_cases c1 : e4 = 0
  · have d1 : (e4 != 0) = false := by simp [c1]
    have C1 := Lib.hid c1; clear c1
    by_cases c2 : 1 ≤ F'
    · have d2 : (1 : Int) ≤ (F' : Int) := by omega
      by_cases c3 : F' ≤ 3
      · have d3 : (F' : Int) ≤ 3 := by omega
        by_cases c4 : Y ≤ 1191
        · have d4 : (Y : Int) ≤ 1191 := by omega
          by_cases c5 : 0 < Y
          · have d5 : decide ((0 : Int) < (Y : Int)) = true := by simp; omega
            have d6 : decide (0 < Y) = true := by simp; omega
            go_wp2_with fail
            all_goals refine bodyPost_ret (v := .tuple #[.agg (hdr 0 0 0 0), .slice none 0 0, .bool false]) (by simp [results, Try.results66, go_sem, hdr, z0, z1, z2, z3]) rfl ?_
            all_goals exact ⟨_, (H5.out.fin kd _ _ _ _).1, .inl ⟨(chain_ft q1.out q2.out q3.out q4.out).none_ (by simp [(flag1 F' (rget_lt q1.out) _ h1)]) (by simp [(flag2 F' (rget_lt q1.out) _ h2)]) qX.out HY.out (.inr (.inr (.inr (.inr (by rw [(flag1 F' (rget_lt q1.out) _ h1)]; simp; omega))))), rfl⟩⟩
          · have c5' : Y = 0 := by omega
            subst c5'
            have HYZ : Hid (xs.drop (xs.length - X / 8) = []) := List.drop_of_length_le (by omega)
            have hcm : c ≤ maxLen := H5.out.sl.2.2.1
            by_cases hcs : c = xs.length - X / 8
            · obtain ⟨c0, hc0⟩ : ∃ c0, c0 = xs.length - X / 8 := ⟨_, rfl⟩
              go_wp2_with fail
              all_goals refine bodyPost_ret (v := .tuple #[.agg (hdr F' 0 K M), .slice A 0 0, .bool true]) (by simp [results, Try.results66, go_sem, hdr, z0, z1, z2, z3]) rfl ?_
              all_goals exact ⟨_, (H5.out.fin kd _ _ _ _).1, .inr ⟨F', 0, K, M, xs.drop (xs.length - X / 8), _, _, _, (chain_ft q1.out q2.out q3.out q4.out).some_ (by simp [(flag1 F' (rget_lt q1.out) _ h1)]) (by simp [(flag2 F' (rget_lt q1.out) _ h2)]) qX.out HY.out C1.out c2 c3 (by omega) (by rw [(flag1 F' (rget_lt q1.out) _ h1)]; simp), rfl, by rw [HYZ.out]; exact Sl.nil_ _ _ _ _ _ _ (by simp [maxLen])⟩⟩
            · go_wp2_with fail
              refine bodyPost_ret (v := .tuple #[.agg (hdr F' 0 K M), .slice (Option.map (fun x => x.add (xs.length - X / 8)) A) 0 (c - (xs.length - X / 8)), .bool true]) (by simp [results, Try.results66, go_sem, hdr, z0, z1, z2, z3]) rfl ?_
              exact ⟨_, (H5.out.fin kd _ _ _ _).1, .inr ⟨F', 0, K, M, xs.drop (xs.length - X / 8), _, _, _, (chain_ft q1.out q2.out q3.out q4.out).some_ (by simp [(flag1 F' (rget_lt q1.out) _ h1)]) (by simp [(flag2 F' (rget_lt q1.out) _ h2)]) qX.out HY.out C1.out c2 c3 (by omega) (by rw [(flag1 F' (rget_lt q1.out) _ h1)]; simp), rfl, by rw [HYZ.out]; exact Sl.nil_ _ _ _ _ _ _ (by omega)⟩⟩
        · have d4 : (1191 : Int) < (Y : Int) := by omega
          go_wp2_with fail
          all_goals refine bodyPost_ret (v := .tuple #[.agg (hdr 0 0 0 0), .slice none 0 0, .bool false]) (by simp [results, Try.results66, go_sem, hdr, z0, z1, z2, z3]) rfl ?_
          all_goals exact ⟨_, (H5.out.fin kd _ _ _ _).1, .inl ⟨(chain_ft q1.out q2.out q3.out q4.out).none_ (by simp [(flag1 F' (rget_lt q1.out) _ h1)]) (by simp [(flag2 F' (rget_lt q1.out) _ h2)]) qX.out HY.out (.inr (.inr (.inr (.inl (by omega))))), rfl⟩⟩
      · have d3 : (3 : Int) < (F' : Int) := by omega
        go_wp2_with fail
        all_goals refine bodyPost_ret (v := .tuple #[.agg (hdr 0 0 0 0), .slice none 0 0, .bool false]) (by simp [results, Try.results66, go_sem, hdr, z0, z1, z2, z3]) rfl ?_
        all_goals exact ⟨_, (H5.out.fin kd _ _ _ _).1, .inl ⟨(chain_ft q1.out q2.out q3.out q4.out).none_ (by simp [(flag1 F' (rget_lt q1.out) _ h1)]) (by simp [(flag2 F' (rget_lt q1.out) _ h2)]) qX.out HY.out (.inr (.inr (.inl (by omega)))), rfl⟩⟩
    · have d2 : (F' : Int) < 1 := by omega
      go_wp2_with fail
      all_goals refine bodyPost_ret (v := .tuple #[.agg (hdr 0 0 0 0), .slice none 0 0, .bool false]) (by simp [results, Try.results66, go_sem, hdr, z0, z1, z2, z3]) rfl ?_
      all_goals exact ⟨_, (H5.out.fin kd _ _ _ _).1, .inl ⟨(chain_ft q1.out q2.out q3.out q4.out).none_ (by simp [(flag1 F' (rget_lt q1.out) _ h1)]) (by simp [(flag2 F' (rget_lt q1.out) _ h2)]) qX.out HY.out (.inr (.inl (by omega))), rfl⟩⟩
  · have d1 : (e4 != 0) = true := by simp [c1]
    have C1 := Lib.hid c1; clear c1
    go_wp2_with fail
    all_goals refine bodyPost_ret (v := .tuple #[.agg (hdr 0 0 0 0), .slice none 0 0, .bool false]) (by simp [results, Try.results66, go_sem, hdr, z0, z1, z2, z3]) rfl ?_
    all_goals exact ⟨_, (H5.out.fin kd _ _ _ _).1, .inl ⟨(chain_ft q1.out q2.out q3.out q4.out).none_ (by simp [(flag1 F' (rget_lt q1.out) _ h1)]) (by simp [(flag2 F' (rget_lt q1.out) _ h2)]) qX.out HY.out (.inl C1.out), rfl⟩⟩

set_option maxHeartbeats 1000000 in
theorem parse_ff (w : World) (o : Own) (τ ρ κ : Nat) (A : Option Addr) (c : Nat) (xs : List UInt8) (hS : Sl w o τ 1 A xs.length c (byts xs)) (hn : xs.length ≤ 140737488355328) (htr : τ ≠ ρ) (htk : τ ≠ κ) (hrk : κ ≠ ρ)
    (h1 : decide ((0:Int) < bits BinOp.and IntKind.u64 ((rget xs 0 0 1).1 : Int) 1) = false) (h2 : decide ((0:Int) < bits BinOp.and IntKind.u64 ((rget xs 0 0 1).1 : Int) 2) = false) :
    Calls Try.prog 66 #[.slice A xs.length c] w (ParseTo w o ρ κ τ xs) := by
  have hs0 : Sl ((w.alloc (.cells (hdr 0 0 0 0) 146)).alloc (.cells (hdr 0 0 0 0) 146)) (ext o w.heap.size κ) τ 1 A xs.length c (byts xs) := by
    have := hS.step (((Step.refl [] w o).alloc (.cells (hdr 0 0 0 0) 146) κ).alloc (.cells (hdr 0 0 0 0) 146) κ) (by simp)
    rwa [World.size_alloc, ext_ext (by omega)] at this
  have HS := Lib.hid hs0; have HS0 := Lib.hid hS; clear hS hs0
  obtain ⟨F, hF⟩ : ∃ F, F = (rget xs 0 0 1).1 := ⟨_, rfl⟩
  rw [← hF] at h1 h2
  have HF := Lib.hid hF; clear hF
  go_enter Try.func66, Try.ntmps66
  go_wp2_with fail
  refine (NewReader_any _ (ext o w.heap.size κ) τ ρ A xs.length c xs HS.out hn).mono ?_
  rintro e w1 ⟨r, o', rfl, hst, hrd, hrz⟩
  have H1 := Lib.hid (PS.start HS0.out htr htk hrk hst hrd); clear hst hrd HS HS0
  go_wp2_with fail
  refine (H1.out.get 1 8 rfl (by omega) (by omega)).mono ?_
  rintro e w2 ⟨F', p1, e1, q1, rfl, H2, g0, g1, g2, g3, f0, f1, f2, f3⟩
  obtain rfl : F' = F := by have := q1.out; have := HF.out; simp_all
  go_wp2_with fail
  clear g0 g1 g2 g3 f0 f1 f2 f3
  refine ((H2.out.set_ 0 (.int .u64 F') F' 0 0 0 rfl).get 0 0 rfl (by omega) (by omega)).mono ?_
  rintro e w3 ⟨Z, p2, e2, q2, rfl, H3, g0, g1, g2, g3, f0, f1, f2, f3⟩
  go_wp2_with fail
  refine (H3.out.left hn).mono ?_
  rintro e w4 ⟨X, qX, bX, rfl, kd, rfl⟩
  have HZ := H3.out.zlk
  have z0 := HZ.cell 0; have z1 := HZ.cell 1; have z2 := HZ.cell 2; have z3 := HZ.cell 3
  have y0 := HZ.frozen 0; have y1 := HZ.frozen 1; have y2 := HZ.frozen 2; have y3 := HZ.frozen 3
  simp only [hdr, List.getElem?_toArray, List.getElem?_cons_zero, List.getElem?_cons_succ] at z0 z1 z2 z3
  clear HZ
  have hnc : xs.length ≤ c := H3.out.sl.2.1
  obtain ⟨Y, hY⟩ : ∃ Y, xs.length - (xs.length - X / 8) = Y := ⟨_, rfl⟩
  have HY := Lib.hid hY
  by_cases c1 : e2 = 0
  · have d1 : (e2 != 0) = false := by simp [c1]
    have C1 := Lib.hid c1; clear c1
    by_cases c2 : 1 ≤ F'
    · have d2 : (1 : Int) ≤ (F' : Int) := by omega
      by_cases c3 : F' ≤ 3
      · have d3 : (F' : Int) ≤ 3 := by omega
        by_cases c4 : Y ≤ 1191
        · have d4 : (Y : Int) ≤ 1191 := by omega
          by_cases c5 : 0 < Y
          · have d5 : decide ((0 : Int) < (Y : Int)) = true := by simp; omega
            have d6 : decide (0 < Y) = true := by simp; omega
            go_wp2_with fail
            all_goals refine bodyPost_ret (v := .tuple #[.agg (hdr 0 0 0 0), .slice none 0 0, .bool false]) (by simp [results, Try.results66, go_sem, hdr, z0, z1, z2, z3]) rfl ?_
            all_goals exact ⟨_, (H3.out.fin kd _ _ _ _).1, .inl ⟨(chain_ff q1.out q2.out).none_ (by simp [(flag1 F' (rget_lt q1.out) _ h1)]) (by simp [(flag2 F' (rget_lt q1.out) _ h2)]) qX.out HY.out (.inr (.inr (.inr (.inr (by rw [(flag1 F' (rget_lt q1.out) _ h1)]; simp; omega))))), rfl⟩⟩
          · have c5' : Y = 0 := by omega
            subst c5'
            have HYZ : Hid (xs.drop (xs.length - X / 8) = []) := List.drop_of_length_le (by omega)
            have hcm : c ≤ maxLen := H3.out.sl.2.2.1
            by_cases hcs : c = xs.length - X / 8
            · obtain ⟨c0, hc0⟩ : ∃ c0, c0 = xs.length - X / 8 := ⟨_, rfl⟩
              go_wp2_with fail
              all_goals refine bodyPost_ret (v := .tuple #[.agg (hdr F' 0 0 0), .slice A 0 0, .bool true]) (by simp [results, Try.results66, go_sem, hdr, z0, z1, z2, z3]) rfl ?_
              all_goals exact ⟨_, (H3.out.fin kd _ _ _ _).1, .inr ⟨F', 0, 0, 0, xs.drop (xs.length - X / 8), _, _, _, (chain_ff q1.out q2.out).some_ (by simp [(flag1 F' (rget_lt q1.out) _ h1)]) (by simp [(flag2 F' (rget_lt q1.out) _ h2)]) qX.out HY.out C1.out c2 c3 (by omega) (by rw [(flag1 F' (rget_lt q1.out) _ h1)]; simp), rfl, by rw [HYZ.out]; exact Sl.nil_ _ _ _ _ _ _ (by simp [maxLen])⟩⟩
            · go_wp2_with fail
              refine bodyPost_ret (v := .tuple #[.agg (hdr F' 0 0 0), .slice (Option.map (fun x => x.add (xs.length - X / 8)) A) 0 (c - (xs.length - X / 8)), .bool true]) (by simp [results, Try.results66, go_sem, hdr, z0, z1, z2, z3]) rfl ?_
              exact ⟨_, (H3.out.fin kd _ _ _ _).1, .inr ⟨F', 0, 0, 0, xs.drop (xs.length - X / 8), _, _, _, (chain_ff q1.out q2.out).some_ (by simp [(flag1 F' (rget_lt q1.out) _ h1)]) (by simp [(flag2 F' (rget_lt q1.out) _ h2)]) qX.out HY.out C1.out c2 c3 (by omega) (by rw [(flag1 F' (rget_lt q1.out) _ h1)]; simp), rfl, by rw [HYZ.out]; exact Sl.nil_ _ _ _ _ _ _ (by omega)⟩⟩
        · have d4 : (1191 : Int) < (Y : Int) := by omega
          go_wp2_with fail
          all_goals refine bodyPost_ret (v := .tuple #[.agg (hdr 0 0 0 0), .slice none 0 0, .bool false]) (by simp [results, Try.results66, go_sem, hdr, z0, z1, z2, z3]) rfl ?_
          all_goals exact ⟨_, (H3.out.fin kd _ _ _ _).1, .inl ⟨(chain_ff q1.out q2.out).none_ (by simp [(flag1 F' (rget_lt q1.out) _ h1)]) (by simp [(flag2 F' (rget_lt q1.out) _ h2)]) qX.out HY.out (.inr (.inr (.inr (.inl (by omega))))), rfl⟩⟩
      · have d3 : (3 : Int) < (F' : Int) := by omega
        go_wp2_with fail
        all_goals refine bodyPost_ret (v := .tuple #[.agg (hdr 0 0 0 0), .slice none 0 0, .bool false]) (by simp [results, Try.results66, go_sem, hdr, z0, z1, z2, z3]) rfl ?_
        all_goals exact ⟨_, (H3.out.fin kd _ _ _ _).1, .inl ⟨(chain_ff q1.out q2.out).none_ (by simp [(flag1 F' (rget_lt q1.out) _ h1)]) (by simp [(flag2 F' (rget_lt q1.out) _ h2)]) qX.out HY.out (.inr (.inr (.inl (by omega)))), rfl⟩⟩
    · have d2 : (F' : Int) < 1 := by omega
      go_wp2_with fail
      all_goals refine bodyPost_ret (v := .tuple #[.agg (hdr 0 0 0 0), .slice none 0 0, .bool false]) (by simp [results, Try.results66, go_sem, hdr, z0, z1, z2, z3]) rfl ?_
      all_goals exact ⟨_, (H3.out.fin kd _ _ _ _).1, .inl ⟨(chain_ff q1.out q2.out).none_ (by simp [(flag1 F' (rget_lt q1.out) _ h1)]) (by simp [(flag2 F' (rget_lt q1.out) _ h2)]) qX.out HY.out (.inr (.inl (by omega))), rfl⟩⟩
  · have d1 : (e2 != 0) = true := by simp [c1]
    have C1 := Lib.hid c1; clear c1
    go_wp2_with fail
    all_goals refine bodyPost_ret (v := .tuple #[.agg (hdr 0 0 0 0), .slice none 0 0, .bool false]) (by simp [results, Try.results66, go_sem, hdr, z0, z1, z2, z3]) rfl ?_
    all_goals exact ⟨_, (H3.out.fin kd _ _ _ _).1, .inl ⟨(chain_ff q1.out q2.out).none_ (by simp [(flag1 F' (rget_lt q1.out) _ h1)]) (by simp [(flag2 F' (rget_lt q1.out) _ h2)]) qX.out HY.out (.inl C1.out), rfl⟩⟩

end Go.Proofs.Ythjjipcbpmdfnaa
