/-
  THE PLAIN MODEL OF A LINK, in numbers that count from the beginning; no program in sight. What 'Receive' makes of a packet that the other side has made.
-/
import Derived.Test.YthjjipcbpmdfnaaPackJ
namespace Go.Proofs.Ythjjipcbpmdfnaa

/-- A packet: the count and the body, and what is acknowledged (the count of the newest one, the mask). -/
structure APkt where
  body : Option (Nat × List UInt8)
  ack : Option (Nat × Nat)
  deriving DecidableEq

/-- One End: how many packets were made, how many of the other side's are known (the newest one, and 1), the mask, what is pending. -/
structure AEnd where
  n : Nat
  heard : Nat
  mask : Nat
  pend : List Nat
  deriving DecidableEq

def AEnd.conc (own other : Int) (a : AEnd) : EndS := ⟨own, own + a.n, other, other + a.heard - 1, a.mask, a.pend.map fun (k : Nat) => own + (k : Int)⟩

def APkt.enc (own other : Int) (p : APkt) : List UInt8 :=
  match p.body, p.ack with
  | some (k, xs), some (m, ms) => bytesOf 3 1 ++ bytesOf ((own + (k : Int)) % 65536).toNat 2 ++ bytesOf ((other + (m : Int)) % 65536).toNat 2 ++ bytesOf ms 4 ++ xs
  | some (k, xs), none => bytesOf 1 1 ++ bytesOf ((own + (k : Int)) % 65536).toNat 2 ++ xs
  | none, some (m, ms) => bytesOf 2 1 ++ bytesOf ((other + (m : Int)) % 65536).toNat 2 ++ bytesOf ms 4
  | none, none => []

def AEnd.note (a : AEnd) : Option (Nat × Nat) := if 0 < a.heard then some (a.heard - 1, a.mask) else none
def AEnd.make (a : AEnd) : AEnd := { a with n := a.n + 1, pend := if a.pend.length < 256 then a.pend ++ [a.n] else (a.pend ++ [a.n]).tail }
def AEnd.lost (a : AEnd) : List (Nat × Bool) := if a.pend.length < 256 then [] else [((a.pend ++ [a.n]).headD 0, false)]

/-- Does an acknowledgement (m, mk) name k? -/
def namedA (m mk k : Nat) : Bool := k == m || (decide (k < m) && decide (m ≤ k + 32) && mk.testBit (m - 1 - k))
def ackRA (m mk : Nat) : List Nat → List (Nat × Bool)
  | [] => []
  | k :: l => if namedA m mk k then (k, true) :: ackRA m mk l else if k + 32 < m then (k, false) :: ackRA m mk l else ackRA m mk l
def ackLA (m mk : Nat) : List Nat → List Nat
  | [] => []
  | k :: l => if namedA m mk k then ackLA m mk l else if k + 32 < m then ackLA m mk l else k :: ackLA m mk l

def acceptA (a : AEnd) (k : Nat) : AEnd × Int :=
  if k + 33 < a.heard then (a, 191)
  else if k + 1 = a.heard then (a, 192)
  else if k + 1 < a.heard then
    if a.mask.testBit (a.heard - 2 - k) then (a, 192) else ({ a with mask := a.mask ||| 2 ^ (a.heard - 2 - k) }, 0)
  else ({ a with mask := a.mask * 2 ^ min (k + 1 - a.heard) 32 % 4294967296 ||| (if 0 < a.heard then 2 ^ min (k - a.heard) 32 % 4294967296 else 0), heard := k + 1 }, 0)

/-- The End behind it, the body, the reports, the error. -/
def recvA (a : AEnd) (p : APkt) : AEnd × List UInt8 × List (Nat × Bool) × Int :=
  let a1 := match p.ack with
    | some (m, mk) => { a with pend := ackLA m mk a.pend }
    | none => a
  let rs := match p.ack with
    | some (m, mk) => ackRA m mk a.pend
    | none => []
  match p.body with
  | some (k, xs) => ((acceptA a1 k).1, if (acceptA a1 k).2 = 0 then xs else [], rs, (acceptA a1 k).2)
  | none => (a1, [], rs, 0)

theorem bytesOf_one (n : Nat) : bytesOf n 1 = [UInt8.ofNat n] := by
  simp only [bytesOf, byteAt, List.range_succ, List.range_zero, List.nil_append, List.map_cons, List.map_nil, Nat.sub_self, Nat.mul_zero, Nat.pow_zero, Nat.div_one]
  congr 1
  apply UInt8.toNat_inj.1
  simp
theorem bytesOf_len (n m : Nat) : (bytesOf n m).length = m := by simp [bytesOf]
theorem beNum_two (n : Nat) (h : n < 65536) : beNum (bytesOf n 2) = n := by
  simp [bytesOf, List.range_succ, byteAt, beNum]; omega
theorem beNum_four (n : Nat) (h : n < 4294967296) : beNum (bytesOf n 4) = n := by
  simp [bytesOf, List.range_succ, byteAt, beNum]; omega

theorem parse_three (n a m : Nat) (xs : List UInt8) (hn : n < 65536) (ha : a < 65536) (hm : m < 4294967296) (h1 : 1 ≤ xs.length) (h2 : xs.length ≤ 1191) :
    parseP (bytesOf 3 1 ++ bytesOf n 2 ++ bytesOf a 2 ++ bytesOf m 4 ++ xs) = some (3, n, a, m, xs) := by
  have l1 := bytesOf_len n 2; have l2 := bytesOf_len a 2; have l3 := bytesOf_len m 4
  have b1 := beNum_two n hn; have b2 := beNum_two a ha; have b3 := beNum_four m hm
  generalize bytesOf n 2 = N at *
  generalize bytesOf a 2 = B at *
  generalize bytesOf m 4 = M at *
  rw [bytesOf_one]
  simp only [List.append_assoc, List.cons_append, List.nil_append]
  simp only [parseP]
  have e3 : (UInt8.ofNat 3).toNat = 3 := rfl
  simp only [e3, Nat.reduceMod, Nat.reduceDiv, if_true, List.length_append, l1, l2, l3, Nat.reduceAdd, Nat.reduceSub]
  rw [if_neg (by simp; omega)]
  have d1 : (N ++ (B ++ (M ++ xs))).take 2 = N := by rw [← l1]; simp
  have d2 : ((N ++ (B ++ (M ++ xs))).drop 2).take 2 = B := by
    rw [show (N ++ (B ++ (M ++ xs))).drop 2 = B ++ (M ++ xs) by rw [← l1]; simp]
    rw [← l2]; simp
  have d3 : ((N ++ (B ++ (M ++ xs))).drop 4).take 4 = M := by
    rw [show N ++ (B ++ (M ++ xs)) = (N ++ B) ++ (M ++ xs) by simp, show ((N ++ B) ++ (M ++ xs)).drop 4 = M ++ xs by
      rw [List.drop_append_of_le_length (by simp [l1, l2])]; simp [l1, l2]]
    rw [← l3]; simp
  have d4 : (N ++ (B ++ (M ++ xs))).drop 8 = xs := by
    rw [show N ++ (B ++ (M ++ xs)) = ((N ++ B) ++ M) ++ xs by simp]
    rw [List.drop_append_of_le_length (by simp [l1, l2, l3])]; simp [l1, l2, l3]
  rw [d1, d2, d3, d4, b1, b2, b3]

theorem parse_one (n : Nat) (xs : List UInt8) (hn : n < 65536) (h1 : 1 ≤ xs.length) (h2 : xs.length ≤ 1191) :
    parseP (bytesOf 1 1 ++ bytesOf n 2 ++ xs) = some (1, n, 0, 0, xs) := by
  have l1 := bytesOf_len n 2
  have b1 := beNum_two n hn
  generalize bytesOf n 2 = N at *
  rw [bytesOf_one]
  simp only [List.cons_append, List.nil_append]
  simp only [parseP]
  have e3 : (UInt8.ofNat 1).toNat = 1 := rfl
  simp only [e3, Nat.reduceMod, Nat.reduceDiv, if_true, List.length_append, l1, Nat.reduceAdd]
  have hx : ∃ x r, xs = x :: r := by
    cases xs with
    | nil => simp at h1
    | cons x r => exact ⟨x, r, rfl⟩
  rw [if_neg (by obtain ⟨x, r, rfl⟩ := hx; simp at h2 ⊢; omega)]
  have d1 : (N ++ xs).take 2 = N := by rw [← l1]; simp
  have d4 : (N ++ xs).drop 2 = xs := by rw [← l1]; simp
  simp [d1, d4, b1, beNum]

theorem parse_two (a m : Nat) (ha : a < 65536) (hm : m < 4294967296) :
    parseP (bytesOf 2 1 ++ bytesOf a 2 ++ bytesOf m 4) = some (2, 0, a, m, []) := by
  have l2 := bytesOf_len a 2; have l3 := bytesOf_len m 4
  have b2 := beNum_two a ha; have b3 := beNum_four m hm
  generalize bytesOf a 2 = B at *
  generalize bytesOf m 4 = M at *
  rw [bytesOf_one]
  simp only [List.cons_append, List.nil_append]
  simp only [parseP]
  have e3 : (UInt8.ofNat 2).toNat = 2 := rfl
  simp only [e3, Nat.reduceMod, Nat.reduceDiv, if_true, List.length_append, l2, l3, Nat.reduceAdd, Nat.reduceSub]
  have d2 : (B ++ M).take 2 = B := by rw [← l2]; simp
  have d3 : ((B ++ M).drop 2).take 4 = M := by rw [show (B ++ M).drop 2 = M by rw [← l2]; simp]; rw [← l3]; simp
  have d4 : (B ++ M).drop 6 = [] := by rw [List.drop_eq_nil_of_le]; simp [l2, l3]
  simp [d2, d3, d4, b2, b3, beNum]

theorem near_mod (a n : Int) (h1 : a - 32768 ≤ n) (h2 : n ≤ a + 32767) (_h0 : 0 ≤ n) : near a ((n % 65536).toNat : Int) = n := by
  unfold near; omega

theorem named_conc (own : Int) (m mk k : Nat) : named (own + (m : Int)) mk (own + (k : Int)) = namedA m mk k := by
  unfold named namedA
  have e1 : ((own + (k : Int) == own + (m : Int)) : Bool) = (k == m) := by
    rw [Bool.eq_iff_iff]; simp; omega
  have e2 : (own + (m : Int) - 1 - (own + (k : Int))).toNat = m - 1 - k := by omega
  rw [e1, e2]
  congr 1
  congr 1
  rw [Bool.eq_iff_iff]; simp; omega

theorem ackR_conc (own : Int) (m mk : Nat) (l : List Nat) : ackR (own + (m : Int)) mk (l.map fun (k : Nat) => own + (k : Int)) = (ackRA m mk l).map fun r => (own + (r.1 : Int), r.2) := by
  induction l with
  | nil => rfl
  | cons k l ih =>
    simp only [List.map_cons, ackR, ackRA, named_conc, ih]
    by_cases h1 : namedA m mk k = true
    · simp [h1]
    · by_cases h2 : k + 32 < m
      · rw [if_neg h1, if_pos (by omega), if_neg h1, if_pos h2]; simp
      · rw [if_neg h1, if_neg (by omega), if_neg h1, if_neg h2]

theorem ackL_conc (own : Int) (m mk : Nat) (l : List Nat) : ackL (own + (m : Int)) mk (l.map fun (k : Nat) => own + (k : Int)) = (ackLA m mk l).map fun (k : Nat) => own + (k : Int) := by
  induction l with
  | nil => rfl
  | cons k l ih =>
    simp only [List.map_cons, ackL, ackLA, named_conc, ih]
    by_cases h1 : namedA m mk k = true
    · simp [h1]
    · by_cases h2 : k + 32 < m
      · rw [if_neg h1, if_pos (by omega), if_neg h1, if_pos h2]
      · rw [if_neg h1, if_neg (by omega), if_neg h1, if_neg h2]; simp

theorem accept_conc (own other : Int) (a : AEnd) (k : Nat) : accept (a.conc own other) (other + (k : Int) - (a.conc own other).newest) = ((acceptA a k).1.conc own other, (acceptA a k).2) := by
  obtain ⟨d, hd⟩ : ∃ d : Int, d = other + (k : Int) - (a.conc own other).newest := ⟨_, rfl⟩
  have hd' : d = (k : Int) + 1 - a.heard := by rw [hd]; simp [AEnd.conc]; omega
  rw [← hd]
  simp only [accept, acceptA]
  by_cases c1 : k + 33 < a.heard
  · rw [if_pos (by omega), if_pos c1]
  · rw [if_neg (by omega), if_neg c1]
    by_cases c2 : k + 1 = a.heard
    · rw [if_pos (by omega), if_pos c2]
    · rw [if_neg (by omega), if_neg c2]
      by_cases c3 : k + 1 < a.heard
      · have e : (-d - 1).toNat = a.heard - 2 - k := by omega
        rw [if_pos (by omega), if_pos c3, e]
        by_cases c4 : a.mask.testBit (a.heard - 2 - k) = true
        · rw [if_pos c4, if_pos (by simpa [AEnd.conc] using c4)]
        · rw [if_neg c4, if_neg (by simpa [AEnd.conc] using c4)]; rfl
      · rw [if_neg (by omega), if_neg c3]
        have e1 : d.toNat = k + 1 - a.heard := by omega
        have e2 : (d - 1).toNat = k - a.heard := by omega
        have e3 : (a.conc own other).newest + d = other + ((k + 1 : Nat) : Int) - 1 := by simp only [AEnd.conc]; omega
        have e4 : ((a.conc own other).other ≤ (a.conc own other).newest) ↔ 0 < a.heard := by simp only [AEnd.conc]; omega
        rw [e1, e2, e3]
        simp only [e4]
        rfl

/-- A packet that an honest side has made. -/
structure APkt.Fits (p : APkt) (a : AEnd) : Prop where
  any : p.body ≠ none ∨ p.ack ≠ none
  body : ∀ k xs, p.body = some (k, xs) → 1 ≤ xs.length ∧ xs.length ≤ 1191 ∧ k ≤ 30000
  ack : ∀ m mk, p.ack = some (m, mk) → m < a.n ∧ mk < 4294967296 ∧ ∀ i, mk.testBit i = true → i + 1 ≤ m

theorem not_early_conc {own : Int} {m mk : Nat} (h : ∀ i, mk.testBit i = true → i + 1 ≤ m) : earlyB (own + (m : Int)) own mk = false := by
  cases he : earlyB (own + (m : Int)) own mk with
  | false => rfl
  | true =>
    obtain ⟨n, h1, h2, h3⟩ := (early_iff _ _ _ (by omega)).1 he
    unfold named at h3
    simp only [Bool.or_eq_true, beq_iff_eq, Bool.and_eq_true, decide_eq_true_eq] at h3
    rcases h3 with h3 | ⟨_, h3⟩
    · omega
    · have := h _ h3; omega

theorem recv_enc (own other : Int) (ho : 0 ≤ own) (hp : 0 ≤ other) (a : AEnd) (ha : a.n ≤ 30000) (hh : a.heard ≤ 30000) (p : APkt) (h : p.Fits a) :
    recvP (a.conc own other) (p.enc other own) = ((recvA a p).1.conc own other, (recvA a p).2.1, (recvA a p).2.2.1.map (fun r => (own + (r.1 : Int), r.2)), (recvA a p).2.2.2) := by
  obtain ⟨body, ack⟩ := p
  obtain ⟨hs, hb, hk⟩ := h
  cases body with
  | none =>
    cases ack with
    | none => simp at hs
    | some q =>
      obtain ⟨m, mk⟩ := q
      obtain ⟨k1, k2, k3⟩ := hk m mk rfl
      have hpz := parse_two ((own + (m : Int)) % 65536).toNat mk (by omega) k2
      have hn : near ((a.conc own other).next - 1) (((own + (m : Int)) % 65536).toNat : Int) = own + (m : Int) := near_mod _ _ (by simp only [AEnd.conc]; omega) (by simp only [AEnd.conc]; omega) (by omega)
      simp only [APkt.enc, recvP, hpz, hn]
      rw [if_neg (by omega), if_neg (by
        rw [show (a.conc own other).own = own from rfl, not_early_conc k3]
        simp only [AEnd.conc]; simp; omega)]
      simp only [recvA, Nat.reduceMod, if_true]
      simp [AEnd.conc, ackR_conc, ackL_conc]
  | some q =>
    obtain ⟨k, xs⟩ := q
    obtain ⟨b1, b2, b3⟩ := hb k xs rfl
    have hn2 : near (a.conc own other).newest (((other + (k : Int)) % 65536).toNat : Int) = other + (k : Int) := near_mod _ _ (by simp only [AEnd.conc]; omega) (by simp only [AEnd.conc]; omega) (by omega)
    cases ack with
    | none =>
      have hpz := parse_one ((other + (k : Int)) % 65536).toNat xs (by omega) b1 b2
      have hac := accept_conc own other a k
      simp only [APkt.enc, recvP, hpz, hn2]
      rw [if_neg (by simp only [AEnd.conc]; omega), if_neg (by omega)]
      simp only [recvA, Nat.reduceDiv, if_true, Nat.zero_ne_one, if_false, Nat.zero_mod, hac, List.map_nil]
    | some q =>
      obtain ⟨m, mk⟩ := q
      obtain ⟨k1, k2, k3⟩ := hk m mk rfl
      have hpz := parse_three ((other + (k : Int)) % 65536).toNat ((own + (m : Int)) % 65536).toNat mk xs (by omega) (by omega) k2 b1 b2
      have hn : near ((a.conc own other).next - 1) (((own + (m : Int)) % 65536).toNat : Int) = own + (m : Int) := near_mod _ _ (by simp only [AEnd.conc]; omega) (by simp only [AEnd.conc]; omega) (by omega)
      simp only [APkt.enc, recvP, hpz, hn, hn2]
      rw [if_neg (by simp only [AEnd.conc]; omega), if_neg (by
        rw [show (a.conc own other).own = own from rfl, not_early_conc k3]
        simp only [AEnd.conc]; simp; omega)]
      have hac := accept_conc own other { a with pend := ackLA m mk a.pend } k
      have e1 : ({ a.conc own other with pend := ackL (own + (m : Int)) mk (a.conc own other).pend } : EndS) = AEnd.conc own other { a with pend := ackLA m mk a.pend } := by simp [AEnd.conc, ackL_conc]
      have e2 : (AEnd.conc own other { a with pend := ackLA m mk a.pend }).newest = (a.conc own other).newest := rfl
      rw [e2] at hac
      have e3 : ackR (own + (m : Int)) mk (a.conc own other).pend = (ackRA m mk a.pend).map fun r => (own + (r.1 : Int), r.2) := ackR_conc _ _ _ _
      simp only [recvA, if_true, e1, hac, e3]
end Go.Proofs.Ythjjipcbpmdfnaa
