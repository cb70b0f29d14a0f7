/-
  A CALL THAT ONLY MAKES MEMORY: the blocks from B on are its own.
-/
import Derived.Test.YthjjipcbpmdfnaaBase
namespace Go.Proofs.Ythjjipcbpmdfnaa
open Go.RowKit

/-- Blocks from B on are new: tag 1. -/
def Nw (B : Nat) : Own := ext (fun _ => 0) B 1
theorem Nw_ext {B n : Nat} (h : B ≤ n) : ext (Nw B) n 1 = Nw B := ext_ext h
/-- From w to w' only blocks from B on may have changed. -/
structure NS (B : Nat) (w w' : World) : Prop where
  le : B ≤ w.heap.size
  st : Step [1] w (Nw B) w' (Nw B)
/-- A row of the call's own. -/
abbrev NRow (B : Nat) (w : World) (e : TypeId) (sz : Nat) (A : Option Addr) (n c : Nat) (xs : List Value) : Prop := Row w (Nw B) 1 e sz A n c xs
/-- A slice in old memory. -/
abbrev NSl (B : Nat) (w : World) (sz : Nat) (A : Option Addr) (n c : Nat) (xs : List Value) : Prop := Sl w (Nw B) 0 sz A n c xs

section
variable {B : Nat} {w w' w'' : World} {e : TypeId} {sz n c : Nat} {A : Option Addr} {xs : List Value}
theorem Sl.plain {o : Own} {τ : Nat} (h : Sl w o τ sz A n c xs) : Sl w (fun _ => 0) 0 sz A n c xs := by
  refine ⟨h.1, h.2.1, h.2.2.1, fun hn => ?_⟩
  obtain ⟨g, off, hA, -, hg, hc⟩ := h.2.2.2 hn
  exact ⟨g, off, hA, rfl, hg, hc⟩
theorem Sl.toN {o : Own} {τ : Nat} (h : Sl w o τ sz A n c xs) : NSl w.heap.size w sz A n c xs := by
  refine ⟨h.1, h.2.1, h.2.2.1, fun hn => ?_⟩
  obtain ⟨g, off, hA, -, hg, hc⟩ := h.2.2.2 hn
  exact ⟨g, off, hA, ext_lt hg, hg, hc⟩
theorem Sl.below {o : Own} {τ : Nat} (h : Sl w o τ sz A n c xs) (hb : Below w.heap.size w w') : Sl w' o τ sz A n c xs := by
  refine ⟨h.1, h.2.1, h.2.2.1, fun hn => ?_⟩
  obtain ⟨g, off, hA, ho, hg, hc⟩ := h.2.2.2 hn
  exact ⟨g, off, hA, ho, Nat.lt_of_lt_of_le hg hb.size, fun j u hu => (World.cell?_of_block (a := ⟨g, off + j, none⟩) (hb.block g hg)).trans (hc j u hu)⟩
theorem NS.refl (w : World) : NS w.heap.size w w := ⟨Nat.le_refl _, Step.refl _ _ _⟩
theorem NS.le' (h : NS B w w') : B ≤ w'.heap.size := Nat.le_trans h.le h.st.size
theorem NS.trans (h : NS B w w') (k : NS B w' w'') : NS B w w'' := ⟨h.le, h.st.trans k.st⟩
theorem NS.alloc (h : NS B w w') (ob : Obj) : NS B w (w'.alloc ob) := ⟨h.le, by have := h.st.alloc ob 1; rwa [Nw_ext h.le'] at this⟩
theorem NS.drew (h : NS B w w') : NS B w w'.drew := ⟨h.le, h.st.drew⟩
theorem NS.drewN (h : NS B w w') (k : Nat) : NS B w (w'.drewN k) := ⟨h.le, h.st.drewN k⟩
theorem NS.below (h : NS B w w') (hb : Below w'.heap.size w' w'') : NS B w w'' := ⟨h.le, by have := h.st.below hb 1; rwa [Nw_ext h.le'] at this⟩
theorem NS.setCell (h : NS B w w') {p : Addr} (hp : B ≤ p.block) (u : Value) : NS B w (w'.setCell p u) := ⟨h.le, h.st.setCell (.inr (by rw [show Nw B p.block = 1 from ext_ge hp]; simp)) u⟩
theorem NS.app (h : NS B w w') (hR : NRow B w' e sz A n c xs) (hg : w'.grownBy w'' (Value.slice A n c).ownBlock) : NS B w w'' :=
  ⟨h.le, by have := h.st.trans (Step.append hR hg 1); rwa [Nw_ext h.le'] at this⟩
theorem NS.fin (h : NS w.heap.size w w') : Below w.heap.size w w' := h.st.to_below fun k hk => by rw [show Nw w.heap.size k = 0 from ext_lt hk]; decide
theorem NSl.step (h : NSl B w sz A n c xs) (k : NS B w w') : NSl B w' sz A n c xs := Sl.step h k.st (by decide)
theorem NRow.alloc (h : NRow B w e sz A n c xs) (hB : B ≤ w.heap.size) (ob : Obj) : NRow B (w.alloc ob) e sz A n c xs := by
  have := Row.step h ((Step.refl [] w (Nw B)).alloc ob 1) (by simp)
  rwa [Nw_ext hB] at this
theorem NRow.below (h : NRow B w e sz A n c xs) (hB : B ≤ w.heap.size) (hb : Below w.heap.size w w') : NRow B w' e sz A n c xs := by
  have := Row.step h ((Step.refl [] w (Nw B)).below hb 1) (by simp)
  rwa [Nw_ext hB] at this
theorem NRow.made {cs : Array Value} (hB : B ≤ w.heap.size) (e : TypeId) (sz n : Nat) (hs : cs.size = n * sz) (hm : n ≤ maxLen) (k : Nat) (hk : k ≤ n) :
    NRow B (w.alloc (.cells cs e)) e sz (some ⟨w.heap.size, 0, none⟩) k n (cs.toList.take (k * sz)) := by
  have := Row.made (w := w) (Nw B) 1 e sz cs n hs hm k hk
  rwa [Nw_ext hB] at this
end

theorem wpList_append_new {P : Program} {w0 : World} {B : Nat} (w : World) {ops : Array Oper} {rest : List Oper} {o : Oper} {a : Act} {Q : Exit → Act → World → Prop} (hgd : o.guard = none) (s x : Operand) (t : TypeId)
    (ho : o.op = .call { callee := .builtin .append, args := #[s, x], argTypes := #[t, t] })
    {e : TypeId} {sz bytes : Nat} {z : Value} (he : Elem P t e sz bytes z) (hk : NS B w0 w)
    (A : Option Addr) (n c : Nat) (xs : List Value) (hs : a.eval s = .slice A n c) (hR : NRow B w e sz A n c xs) {o2 : Own} {τ2 : Nat} (A2 : Option Addr) (m d : Nat) (news : List Value) (hx : a.eval x = .slice A2 m d) (hS : Sl w o2 τ2 sz A2 m d news)
    (h1 : ∀ u ∈ news, u.oneCell' = true) (hbytes : (n + m) * bytes ≤ 140737488355328) (h63 : n + m ≤ maxLen)
    (h : ∀ A' c' w', NRow B w' e sz A' (n + m) c' (xs ++ news) → NS B w0 w' → w.heap.size ≤ w'.heap.size → (∀ (g : Nat) (tt : TypeId) (cs : Array Value), Blk w g tt cs → e ≠ tt → Blk w' g tt cs) → wpList P ops Q rest (a.put o.dst (.slice A' (n + m) c')) w') : wpList P ops Q (o :: rest) a w := by
  refine wpList_append_row w hgd s x t ho he (Nw B) 1 A n c xs hs hR o2 τ2 A2 m d news hx hS h1 hbytes h63 ?_
  intro A' c' w' hr hg _
  rw [Nw_ext hk.le'] at hr
  refine h A' c' w' hr (hk.app hR hg) hg.size fun g tt cs hb hne => hb.grown hg ?_
  cases A with
  | none => simp [Value.ownBlock]
  | some ad =>
    have := hR.ne_blk hb hne ad rfl
    simp only [Value.ownBlock, ne_eq, Option.some.injEq]
    exact fun e => this e.symm
/-- A slice literal, just made. -/
theorem Sl.fresh (w : World) (t : TypeId) (sz n : Nat) (xs : List Value) (hn : xs.length = n * sz) (hm : n ≤ maxLen) : Sl (w.alloc (.cells xs.toArray t)) (fun _ => 0) 0 sz (some ⟨w.heap.size, 0, none⟩) n n xs :=
  ⟨hn, Nat.le_refl _, hm, fun _ => ⟨w.heap.size, 0, rfl, rfl, by simp, fun j u hu => by rw [Nat.zero_add, (Blk.new w t xs.toArray).cell, List.getElem?_toArray]; exact hu⟩⟩

/-- A slice that a call made. -/
def NewTo (w : World) (sz n : Nat) (xs : List Value) (e : Ending) (w' : World) : Prop := ∃ A c, e = .returned (.slice A n c) ∧ Below w.heap.size w w' ∧ Sl w' (fun _ => 0) 0 sz A n c xs ∧ ∀ ad, A = some ad → w.heap.size ≤ ad.block
/-- It may be given a tag. -/
theorem Sl.tag {w w' : World} {sz n c : Nat} {A : Option Addr} {xs : List Value} (h : Sl w' (fun _ => 0) 0 sz A n c xs) (hA : ∀ ad, A = some ad → w.heap.size ≤ ad.block) (o : Own) (σ : Nat) : Sl w' (ext o w.heap.size σ) σ sz A n c xs := by
  refine ⟨h.1, h.2.1, h.2.2.1, fun hn => ?_⟩
  obtain ⟨g, off, hA', -, hg, hc⟩ := h.2.2.2 hn
  exact ⟨g, off, hA', ext_ge (hA _ hA'), hg, hc⟩
theorem NRow.new {B : Nat} {w : World} {e : TypeId} {sz n c : Nat} {A : Option Addr} {xs : List Value} (h : NRow B w e sz A n c xs) : ∀ ad, A = some ad → B ≤ ad.block := fun ad ha => by
  have := h.2 ad ha
  unfold Nw ext at this
  split at this
  · cases this
  · omega
/-- What bears a tag of the call's own is new. -/
theorem Sl.fresh_of {w W : World} {o : Own} {τ sz n c : Nat} {A : Option Addr} {xs : List Value} {ts : List Nat} (h : Sl W o τ sz A n c xs) (st : Step ts w (fun _ => 0) W o) (hτ : τ ≠ 0) : 0 < n → ∀ ad, A = some ad → w.heap.size ≤ ad.block := fun hn ad ha => by
  obtain ⟨g, off, hA, ho, -, -⟩ := h.2.2.2 hn
  rw [hA] at ha; injection ha with ha; subst ha
  rcases Nat.lt_or_ge g w.heap.size with h1 | h1
  · have := st.own g h1
    rw [ho] at this
    exact absurd this hτ
  · exact h1
theorem Sl.tag' {w w' : World} {sz n c : Nat} {A : Option Addr} {xs : List Value} (h : Sl w' (fun _ => 0) 0 sz A n c xs) (hA : 0 < n → ∀ ad, A = some ad → w.heap.size ≤ ad.block) (o : Own) (σ : Nat) : Sl w' (ext o w.heap.size σ) σ sz A n c xs := by
  refine ⟨h.1, h.2.1, h.2.2.1, fun hn => ?_⟩
  obtain ⟨g, off, hA', -, hg, hc⟩ := h.2.2.2 hn
  exact ⟨g, off, hA', ext_ge (hA hn _ hA'), hg, hc⟩
/-- The old place, or a new one. -/
def Loc (B : Nat) (A : Option Addr) (n : Nat) (A0 : Option Addr) : Prop := A = A0 ∨ (0 < n → ∀ ad, A = some ad → B ≤ ad.block)
theorem Sl.loc {w w' : World} {o : Own} {τ sz n c : Nat} {A A0 : Option Addr} {n0 c0 : Nat} {xs xs0 : List Value} (h : Sl w' (fun _ => 0) 0 sz A n c xs) (h0 : Sl w o τ sz A0 n0 c0 xs0) (hl : Loc w.heap.size A n A0) (hn : 0 < n → 0 < n0 ∨ A ≠ A0) : Sl w' (ext o w.heap.size τ) τ sz A n c xs := by
  refine ⟨h.1, h.2.1, h.2.2.1, fun hp => ?_⟩
  obtain ⟨g, off, hA', -, hg, hc⟩ := h.2.2.2 hp
  refine ⟨g, off, hA', ?_, hg, hc⟩
  rcases hl with hl | hl
  · rcases hn hp with h1 | h1
    · obtain ⟨g0, off0, hA0, ho, hg0, -⟩ := h0.2.2.2 h1
      rw [← hl, hA'] at hA0
      injection hA0 with e; injection e with e1 e2
      subst e1
      rw [ext_lt hg0]; exact ho
    · exact absurd hl h1
  · exact ext_ge (hl hp _ hA')
end Go.Proofs.Ythjjipcbpmdfnaa
