/-
  A Channel in memory: its block, its End, its three maps.
-/
import Derived.Test.YthjjipcbpmdfnaaChMap
import Derived.Test.YthjjipcbpmdfnaaChA
namespace Go.Proofs.Ythjjipcbpmdfnaa
open Go.RowKit

/-- Where a Channel's parts lie. -/
structure ChB where
  eb : Nat
  mo : Nat
  me : Nat
  mp : Nat
/-- Whose is what: the Channel's own blocks, its End, the bodies of what it sends, the body of an early message n. -/
structure ChT where
  τ : Nat
  τe : Nat
  σ : Nat
  ε : Nat → Nat
structure ChT.Ok (T : ChT) : Prop where
  te : T.τe ≠ T.τ
  s1 : T.σ ≠ T.τ
  s2 : T.σ ≠ T.τe
  e1 : ∀ n, T.ε n ≠ T.τ
  e2 : ∀ n, T.ε n ≠ T.τe

def chCells (s : ChS) (k : ChB) : Array Value :=
  #[.int .i64 s.first, .int .i64 s.sent, .int .i64 s.next, .int .i64 s.tick, .bool s.owes, .pointer (some ⟨k.eb, 0, none⟩), .map (some k.mo), .map (some k.me), .map (some k.mp)]

/-- A function of natural keys as one of integers. -/
def natF (f : Nat → Option Value) : Int → Option Value := fun i => if i < 0 then none else f i.toNat
theorem natF_nat (f : Nat → Option Value) (n : Nat) : natF f (n : Int) = f n := by
  unfold natF
  rw [if_neg (by omega), Int.toNat_natCast]

def outF (blk : Nat → Nat) (out : Nat → Option OutM) : Int → Option Value := natF fun n => (out n).map fun _ => .pointer (some ⟨blk n, 0, none⟩)
def earlyF (adr : Nat → Option Addr) (cap : Nat → Nat) (early : Nat → Option (List UInt8)) : Int → Option Value := natF fun n => (early n).map fun b => .slice (adr n) b.length (cap n)
def packF (adr : Int → Option Addr) (cap : Int → Nat) (packets : Int → Option (List Nat)) : Int → Option Value := fun i => (packets i).map fun l => .slice (adr i) l.length (cap i)
abbrev nats (l : List Nat) : List Value := ints (l.map fun (n : Nat) => (n : Int))

/-- A message that is not done, in memory. -/
def MsgAt (w : World) (o : Own) (τ σ g : Nat) (x : OutM) : Prop :=
  ∃ A c, Blk w g 103 #[.slice A x.b.length c, .int .i64 x.packet, .int .i64 x.tick] ∧ o g = τ ∧ Sl w o σ 1 A x.b.length c (byts x.b)

structure OutAt (w : World) (o : Own) (τ σ m sent : Nat) (blk : Nat → Nat) (out : Nat → Option OutM) : Prop where
  map : MapV w m (cntN out sent) (outF blk out)
  om : o m = τ
  msg : ∀ n x, out n = some x → MsgAt w o τ σ (blk n) x
  inj : ∀ i j, out i ≠ none → out j ≠ none → blk i = blk j → i = j
  lt : ∀ n, out n ≠ none → n < sent

structure EarlyAt (w : World) (o : Own) (τ : Nat) (ε : Nat → Nat) (m N : Nat) (early : Nat → Option (List UInt8)) : Prop where
  map : ∃ adr cap, MapV w m (cntN early N) (earlyF adr cap early) ∧ ∀ n b, early n = some b → Row w o (ε n) 5 1 (adr n) b.length (cap n) (byts b)
  om : o m = τ
  lt : ∀ n, early n ≠ none → n < N

structure PackAt (w : World) (o : Own) (τ σ m : Nat) (K : Int) (packets : Int → Option (List Nat)) : Prop where
  map : ∃ adr cap cnt, MapV w m cnt (packF adr cap packets) ∧ (cnt : Int) ≤ K ∧ ∀ i l, packets i = some l → Sl w o σ 1 (adr i) l.length (cap i) (nats l)
  om : o m = τ

structure ChIs (w : World) (o : Own) (T : ChT) (b : Nat) (s : ChS) (k : ChB) (blk : Nat → Nat) : Prop where
  cb : Blk w b 93 (chCells s k)
  ob : o b = T.τ
  e : EndAt w o T.τe k.eb s.e
  out : OutAt w o T.τ T.σ k.mo s.sent blk s.out
  early : EarlyAt w o T.τ T.ε k.me (s.next + 64) s.early
  pack : PackAt w o T.τ T.σ k.mp (s.e.next - s.e.own) s.packets
  d1 : k.mo ≠ k.me
  d2 : k.mo ≠ k.mp
  d3 : k.me ≠ k.mp

/-- The Channel at block b has the state s. -/
def ChAt (w : World) (o : Own) (T : ChT) (b : Nat) (s : ChS) : Prop := ∃ k blk, ChIs w o T b s k blk

/-- Numbers in their bounds. -/
structure ChS.Fit (s : ChS) : Prop where
  e : s.e.Fit
  fs : s.first ≤ s.sent
  sl : s.sent ≤ 1000000000
  nl : s.next ≤ 1000000000
  t0 : 0 ≤ s.tick
  t1 : s.tick ≤ 9223372036854775807
  lo : ∀ n, s.out n ≠ none → s.first ≤ n ∧ n < s.sent
  msg : ∀ n m, s.out n = some m → m.b.length ≤ 1024 ∧ -1 ≤ m.packet ∧ m.packet ≤ 2000000000000 ∧ 0 ≤ m.tick ∧ m.tick ≤ s.tick
  el : ∀ n b, s.early n = some b → s.next ≤ n ∧ n < s.next + 64 ∧ b.length ≤ 1024
  pk : ∀ i l, s.packets i = some l → l.length ≤ 64 ∧ ∀ n ∈ l, n < s.sent

/-! ### counting -/
section
variable {α : Type} {f : Nat → Option α} {N n : Nat}
theorem cntN_succ (f : Nat → Option α) (N : Nat) : cntN f (N + 1) = cntN f N + if (f N).isSome then 1 else 0 := by
  unfold cntN
  rw [List.range_succ, List.filter_append, List.length_append]
  congr 1
  by_cases h : (f N).isSome <;> simp [h]
theorem cntN_le (f : Nat → Option α) (N : Nat) : cntN f N ≤ N := by
  unfold cntN
  exact Nat.le_trans (List.length_filter_le _ _) (by simp)
theorem cntN_congr {g : Nat → Option α} : ∀ {N : Nat}, (∀ i, i < N → (f i).isSome = (g i).isSome) → cntN f N = cntN g N
  | 0, _ => rfl
  | N + 1, h => by rw [cntN_succ, cntN_succ, cntN_congr (fun i hi => h i (Nat.lt_succ_of_lt hi)), h N (Nat.lt_succ_self N)]
theorem cntN_put {v : α} : ∀ {N : Nat}, n < N → cntN (updN f n (some v)) N = if (f n).isSome then cntN f N else cntN f N + 1
  | 0, h => absurd h (Nat.not_lt_zero _)
  | N + 1, h => by
    rw [cntN_succ, cntN_succ]
    rcases Nat.lt_or_ge n N with h1 | h1
    · rw [cntN_put h1, show updN f n (some v) N = f N from by simp only [updN]; rw [if_neg (by omega)]]
      split <;> omega
    · obtain rfl : n = N := by omega
      have e : cntN (updN f n (some v)) n = cntN f n := cntN_congr fun i hi => by simp only [updN]; rw [if_neg (by omega)]
      rw [e, show updN f n (some v) n = some v from by simp [updN]]
      cases f n <;> simp
theorem cntN_del : ∀ {N : Nat}, n < N → cntN (updN f n none) N = if (f n).isSome then cntN f N - 1 else cntN f N
  | 0, h => absurd h (Nat.not_lt_zero _)
  | N + 1, h => by
    rw [cntN_succ, cntN_succ]
    rcases Nat.lt_or_ge n N with h1 | h1
    · have ih := cntN_del h1
      have hp : (f n).isSome = true → 0 < cntN f N := by
        intro h2
        unfold cntN
        exact List.length_pos_of_mem (List.mem_filter.2 ⟨List.mem_range.2 h1, h2⟩)
      rw [ih, show updN f n none N = f N from by simp only [updN]; rw [if_neg (by omega)]]
      by_cases h2 : (f n).isSome = true
      · have := hp h2; simp only [h2, if_true]; omega
      · simp only [h2]; rfl
    · obtain rfl : n = N := by omega
      have e : cntN (updN f n (none : Option α)) n = cntN f n := cntN_congr fun i hi => by simp only [updN]; rw [if_neg (by omega)]
      rw [e, show updN f n (none : Option α) n = none from by simp [updN]]
      cases f n <;> simp
theorem cntN_ext {M : Nat} (h : ∀ n, f n ≠ none → n < N) (hM : N ≤ M) : cntN f M = cntN f N := by
  induction M with
  | zero =>
    obtain rfl : N = 0 := by omega
    rfl
  | succ M ih =>
    rcases Nat.lt_or_ge M N with h1 | h1
    · obtain rfl : N = M + 1 := by omega
      rfl
    · rw [cntN_succ, ih h1]
      have : f M = none := by
        rcases Classical.em (f M = none) with h2 | h2
        · exact h2
        · have := h M h2; omega
      rw [this]; rfl
end

/-! ### what carries -/
section
variable {w w' : World} {o o' : Own} {τ τe σ m sent N : Nat} {ts : List Nat} {blk : Nat → Nat} {out : Nat → Option OutM} {early : Nat → Option (List UInt8)} {packets : Int → Option (List Nat)} {ε : Nat → Nat} {K : Int}
theorem MsgAt.step {g : Nat} {x : OutM} (h : MsgAt w o τ σ g x) (hs : Step ts w o w' o') (h1 : τ ∉ ts) (h2 : σ ∉ ts) : MsgAt w' o' τ σ g x := by
  obtain ⟨A, c, q1, q2, q3⟩ := h
  exact ⟨A, c, q1.step hs (by rw [q2]; exact h1), (hs.own _ q1.lt).trans q2, q3.step hs h2⟩
theorem OutAt.step (h : OutAt w o τ σ m sent blk out) (hs : Step ts w o w' o') (h1 : τ ∉ ts) (h2 : σ ∉ ts) : OutAt w' o' τ σ m sent blk out :=
  ⟨h.map.step hs (by rw [h.om]; exact h1), (hs.own _ h.map.lt).trans h.om, fun n x hx => (h.msg n x hx).step hs h1 h2, h.inj, h.lt⟩
theorem EarlyAt.step (h : EarlyAt w o τ ε m N early) (hs : Step ts w o w' o') (h1 : τ ∉ ts) (h2 : ∀ n, early n ≠ none → ε n ∉ ts) : EarlyAt w' o' τ ε m N early := by
  obtain ⟨⟨adr, cap, q1, q2⟩, q3, q4⟩ := h
  exact ⟨⟨adr, cap, q1.step hs (by rw [q3]; exact h1), fun n b hb => (q2 n b hb).step hs (h2 n (by rw [hb]; simp))⟩, (hs.own _ q1.lt).trans q3, q4⟩
theorem PackAt.step (h : PackAt w o τ σ m K packets) (hs : Step ts w o w' o') (h1 : τ ∉ ts) (h2 : σ ∉ ts) : PackAt w' o' τ σ m K packets := by
  obtain ⟨⟨adr, cap, cnt, q1, q2, q4⟩, q3⟩ := h
  exact ⟨⟨adr, cap, cnt, q1.step hs (by rw [q3]; exact h1), q2, fun i l hl => (q4 i l hl).step hs h2⟩, (hs.own _ q1.lt).trans q3⟩
theorem ChIs.step {T : ChT} {b : Nat} {s : ChS} {k : ChB} (h : ChIs w o T b s k blk) (hs : Step ts w o w' o') (h1 : T.τ ∉ ts) (h2 : T.τe ∉ ts) (h3 : T.σ ∉ ts) (h4 : ∀ n, s.early n ≠ none → T.ε n ∉ ts) : ChIs w' o' T b s k blk :=
  ⟨h.cb.step hs (by rw [h.ob]; exact h1), (hs.own _ h.cb.lt).trans h.ob, h.e.step hs h2, h.out.step hs h1 h3, h.early.step hs h1 h4, h.pack.step hs h1 h3, h.d1, h.d2, h.d3⟩
theorem ChAt.step {T : ChT} {b : Nat} {s : ChS} (h : ChAt w o T b s) (hs : Step ts w o w' o') (h1 : T.τ ∉ ts) (h2 : T.τe ∉ ts) (h3 : T.σ ∉ ts) (h4 : ∀ n, s.early n ≠ none → T.ε n ∉ ts) : ChAt w' o' T b s := by
  obtain ⟨k, blk, q⟩ := h
  exact ⟨k, blk, q.step hs h1 h2 h3 h4⟩
/-- A write to the Channel's own cells leaves the rest. -/
theorem OutAt.setb {b i : Nat} {t : TypeId} {cs : Array Value} (h : OutAt w o τ σ m sent blk out) (hb : Blk w b t cs) (ht : t ≠ 103) (ob : o b = τ) (hσ : σ ≠ τ) (u : Value) : OutAt (w.setCell ⟨b, i, none⟩ u) o τ σ m sent blk out :=
  ⟨h.map.far (h.map.ne_blk hb) u, h.om, fun n x hx => by
    obtain ⟨A, c, q1, q2, q3⟩ := h.msg n x hx
    exact ⟨A, c, q1.far (Blk.ne_ q1 hb (Ne.symm ht)) u, q2, q3.step ((Step.refl [τ] w o).setCell (.inr (by simp only [ob]; simp)) u) (by simpa using hσ)⟩, h.inj, h.lt⟩
theorem EarlyAt.setb {b i : Nat} {t : TypeId} {cs : Array Value} (h : EarlyAt w o τ ε m N early) (hb : Blk w b t cs) (ob : o b = τ) (hε : ∀ n, ε n ≠ τ) (u : Value) : EarlyAt (w.setCell ⟨b, i, none⟩ u) o τ ε m N early := by
  obtain ⟨⟨adr, cap, q1, q2⟩, q3, q4⟩ := h
  exact ⟨⟨adr, cap, q1.far (q1.ne_blk hb) u, fun n x hx => (q2 n x hx).step ((Step.refl [τ] w o).setCell (.inr (by simp only [ob]; simp)) u) (by simpa using hε n)⟩, q3, q4⟩
theorem PackAt.setb {b i : Nat} {t : TypeId} {cs : Array Value} (h : PackAt w o τ σ m K packets) (hb : Blk w b t cs) (ob : o b = τ) (hσ : σ ≠ τ) (u : Value) : PackAt (w.setCell ⟨b, i, none⟩ u) o τ σ m K packets := by
  obtain ⟨⟨adr, cap, cnt, q1, q2, q4⟩, q3⟩ := h
  exact ⟨⟨adr, cap, cnt, q1.far (q1.ne_blk hb) u, q2, fun i l hl => (q4 i l hl).step ((Step.refl [τ] w o).setCell (.inr (by simp only [ob]; simp)) u) (by simpa using hσ)⟩, q3⟩
theorem PackAt.mono {K' : Int} (h : PackAt w o τ σ m K packets) (hk : K ≤ K') : PackAt w o τ σ m K' packets := by
  obtain ⟨⟨adr, cap, cnt, q1, q2, q4⟩, q3⟩ := h
  exact ⟨⟨adr, cap, cnt, q1, Int.le_trans q2 hk, q4⟩, q3⟩
end

/-- One cell of the Channel is written: the state behind it. -/
theorem ChIs.set {w : World} {o : Own} {T : ChT} {b : Nat} {s s' : ChS} {k : ChB} {blk : Nat → Nat} (h : ChIs w o T b s k blk) (hT : T.Ok) (i : Nat) (u : Value) (hc : (chCells s k).setIfInBounds i u = chCells s' k) (h1 : s'.e = s.e) (h2 : s'.sent = s.sent) (h3 : s'.out = s.out) (h4 : s'.next = s.next) (h5 : s'.early = s.early) (h6 : s'.packets = s.packets) :
    ChIs (w.setCell ⟨b, i, none⟩ u) o T b s' k blk ∧ Step [T.τ] w o (w.setCell ⟨b, i, none⟩ u) o := by
  have hst : Step [T.τ] w o (w.setCell ⟨b, i, none⟩ u) o := (Step.refl _ _ _).setCell (.inr (by simp [h.ob])) u
  refine ⟨⟨by rw [← hc]; exact h.cb.set_ i u, h.ob, by rw [h1]; exact h.e.step hst (by simpa using hT.te), by rw [h2, h3]; exact h.out.setb h.cb (by decide) h.ob hT.s1 u, by rw [h4, h5]; exact h.early.setb h.cb h.ob hT.e1 u, by rw [h1, h6]; exact h.pack.setb h.cb h.ob hT.s1 u, h.d1, h.d2, h.d3⟩, hst⟩
end Go.Proofs.Ythjjipcbpmdfnaa
