/-
  MEMORY WORDS for this seat's walks: ghost ownership of blocks (a tag for each block), 'Step' (only blocks of some tags, and new ones, may have changed), owned rows, read slices, known blocks.
-/
import Derived.WalkKit
import Derived.WalkSpells
import Derived.WalkLawsBesides
import Derived.Lib.Hide
import Derived.Deep.Draws
import Derived.Maps.AppendAt
import Derived.Outline
import Derived.RegionTactic
import Derived.BigRegion
import Derived.Deep.QuietTactic
import Derived.BigQuiet
import Derived.StillTailTactics
import Derived.Deep.RegionHeld3
import Derived.Test.YthjjipcbpmdfnaaRows
namespace Go.Proofs.Ythjjipcbpmdfnaa
open Go.RowKit

/-- A ghost: whose each block is. -/
abbrev Own := Nat → Nat

/-- New blocks from n on get the tag t. -/
def ext (o : Own) (n t : Nat) : Own := fun i => if i < n then o i else t

theorem ext_lt {o : Own} {n t k : Nat} (h : k < n) : ext o n t k = o k := by simp [ext, h]
theorem ext_ge {o : Own} {n t k : Nat} (h : n ≤ k) : ext o n t k = t := by simp [ext]; omega

/-- From (w, o) to (w', o'): only blocks whose tag is in ts, and new ones, may differ. -/
structure Step (ts : List Nat) (w : World) (o : Own) (w' : World) (o' : Own) : Prop where
  os : w'.os = w.os
  tape : w'.tape = w.tape
  output : w'.output = w.output
  size : w.heap.size ≤ w'.heap.size
  own : ∀ k, k < w.heap.size → o' k = o k
  block : ∀ k, k < w.heap.size → o k ∉ ts → w'.heap[k]? = w.heap[k]?

theorem Step.refl (ts : List Nat) (w : World) (o : Own) : Step ts w o w o := ⟨rfl, rfl, rfl, Nat.le_refl _, fun _ _ => rfl, fun _ _ _ => rfl⟩

theorem Step.trans {ts : List Nat} {w w1 w2 : World} {o o1 o2 : Own} (h : Step ts w o w1 o1) (k : Step ts w1 o1 w2 o2) : Step ts w o w2 o2 :=
  ⟨k.os.trans h.os, k.tape.trans h.tape, k.output.trans h.output, Nat.le_trans h.size k.size,
   fun i hi => (k.own i (Nat.lt_of_lt_of_le hi h.size)).trans (h.own i hi),
   fun i hi hn => (k.block i (Nat.lt_of_lt_of_le hi h.size) (by rw [h.own i hi]; exact hn)).trans (h.block i hi hn)⟩

theorem Step.mono {ts ts' : List Nat} {w w' : World} {o o' : Own} (h : Step ts w o w' o') (hs : ∀ t ∈ ts, t ∈ ts') : Step ts' w o w' o' :=
  ⟨h.os, h.tape, h.output, h.size, h.own, fun k hk hn => h.block k hk (fun hm => hn (hs _ hm))⟩

theorem Step.nil {ts : List Nat} {w w' : World} {o o' : Own} (h : Step [] w o w' o') : Step ts w o w' o' := h.mono (by simp)

theorem Step.drew {ts : List Nat} {w w' : World} {o o' : Own} (h : Step ts w o w' o') : Step ts w o w'.drew o' := ⟨h.os, h.tape, h.output, h.size, h.own, h.block⟩
theorem Step.drewN {ts : List Nat} {w w' : World} {o o' : Own} (h : Step ts w o w' o') (n : Nat) : Step ts w o (w'.drewN n) o' := ⟨h.os, h.tape, h.output, h.size, h.own, h.block⟩

theorem Step.alloc {ts : List Nat} {w w' : World} {o o' : Own} (h : Step ts w o w' o') (ob : Obj) (t : Nat) : Step ts w o (w'.alloc ob) (ext o' w'.heap.size t) :=
  h.trans ⟨rfl, rfl, rfl, by simp, fun _ hk => ext_lt hk, fun _ hk _ => Below.heap_alloc _ _ _ hk⟩

theorem Step.setCell {ts : List Nat} {w w' : World} {o o' : Own} (h : Step ts w o w' o') {p : Addr} (hp : w.heap.size ≤ p.block ∨ o' p.block ∈ ts) (u : Value) : Step ts w o (w'.setCell p u) o' := by
  refine ⟨h.os, h.tape, h.output, by simpa [World.setCell] using h.size, h.own, fun k hk hn => ?_⟩
  refine (Below.heap_setCell _ _ _ _ ?_).trans (h.block k hk hn)
  rintro rfl
  rcases hp with hp | hp
  · omega
  · rw [h.own _ hk] at hp; exact hn hp

theorem Step.below {ts : List Nat} {w w' w'' : World} {o o' : Own} (h : Step ts w o w' o') (hb : Below w'.heap.size w' w'') (t : Nat) : Step ts w o w'' (ext o' w'.heap.size t) :=
  h.trans ⟨hb.os, hb.tape, hb.output, hb.size, fun _ hk => ext_lt hk, fun k hk _ => hb.block k hk⟩

theorem Step.grown {ts : List Nat} {w w' w'' : World} {o o' : Own} {row : Option Nat} (h : Step ts w o w' o') (hb : w'.grownBy w'' row) (hr : ∀ g, row = some g → w.heap.size ≤ g ∨ o' g ∈ ts) (t : Nat) : Step ts w o w'' (ext o' w'.heap.size t) := by
  refine ⟨hb.os.trans h.os, hb.tape.trans h.tape, hb.output.trans h.output, Nat.le_trans h.size hb.size, fun k hk => (ext_lt (Nat.lt_of_lt_of_le hk h.size)).trans (h.own k hk), fun k hk hn => ?_⟩
  refine (hb.block k (Nat.lt_of_lt_of_le hk h.size) ?_).trans (h.block k hk hn)
  intro e
  rcases hr k e.symm with h1 | h1
  · omega
  · rw [h.own k hk] at h1; exact hn h1

theorem only_drewN {a w : World} {row : Option Nat} (h : a.grownBy w row) (n : Nat) : a.grownBy (w.drewN n) row := ⟨h.os, h.tape, h.output, h.size, h.block⟩
theorem only_drew {a w : World} {row : Option Nat} (h : a.grownBy w row) : a.grownBy w.drew row := ⟨h.os, h.tape, h.output, h.size, h.block⟩
theorem only_alloc {a w : World} {row : Option Nat} (h : a.grownBy w row) (o : Obj) : a.grownBy (w.alloc o) row :=
  ⟨h.os, h.tape, h.output, Nat.le_trans h.size (by simp), fun i hi hne => (Below.heap_alloc w o i (Nat.lt_of_lt_of_le hi h.size)).trans (h.block i hi hne)⟩
theorem only_setCell {a w : World} {g : Nat} (h : a.grownBy w (some g)) {p : Addr} (hp : p.block = g ∨ a.heap.size ≤ p.block) (u : Value) : a.grownBy (w.setCell p u) (some g) :=
  ⟨h.os, h.tape, h.output, by simpa [World.setCell] using h.size, fun i hi hne => (Below.heap_setCell w p u i (by
    rintro rfl
    rcases hp with hp | hp
    · exact hne (by rw [hp])
    · omega)).trans (h.block i hi hne)⟩
theorem only_of_below {a w : World} (h : Below a.heap.size a w) (row : Option Nat) : a.grownBy w row := ⟨h.os, h.tape, h.output, h.size, fun i hi _ => h.block i hi⟩
theorem Step.of_only {w w' : World} {o : Own} {ts : List Nat} {g : Nat} (h : w.grownBy w' (some g)) (hg : o g ∈ ts) : Step ts w o w' o :=
  ⟨h.os, h.tape, h.output, h.size, fun _ _ => rfl, fun k hk hn => h.block k hk (fun e => by injection e with e; subst e; exact hn hg)⟩
theorem Blk.only {w w' : World} {g b : Nat} {t : TypeId} {cs : Array Value} (h : w.heap[g]? = some (.cells cs t (0, 0))) (hlt : g < w.heap.size) (hs : w.grownBy w' (some b)) (hne : g ≠ b) : w'.heap[g]? = some (.cells cs t (0, 0)) :=
  (hs.block g hlt (fun e => hne (by injection e))).trans h

/-- Nothing old has changed: what the row's proof asks. -/
theorem Step.to_below {w w' : World} {o o' : Own} {ts : List Nat} (h : Step ts w o w' o') (ht : ∀ k, k < w.heap.size → o k ∉ ts) : Below w.heap.size w w' :=
  ⟨h.os, h.tape, h.output, h.size, fun k hk => h.block k hk (ht k hk)⟩

/-- Block g is just these cells, none frozen. -/
def Blk (w : World) (g : Nat) (t : TypeId) (cs : Array Value) : Prop := w.heap[g]? = some (.cells cs t (0, 0))

section
variable {w w' : World} {g : Nat} {t : TypeId} {cs : Array Value}
theorem Blk.lt (h : Blk w g t cs) : g < w.heap.size := by
  rcases Nat.lt_or_ge g w.heap.size with hlt | hge
  · exact hlt
  · unfold Blk at h; rw [Array.getElem?_eq_none hge] at h; cases h
theorem Blk.cell (h : Blk w g t cs) (i : Nat) : w.cell? ⟨g, i, none⟩ = cs[i]? := cell_of_row w g i cs t (0, 0) h
theorem Blk.frozen (h : Blk w g t cs) (i : Nat) : w.frozen? ⟨g, i, none⟩ = false := by
  unfold Blk at h
  simp [World.frozen?, h]
theorem Blk.new (w : World) (t : TypeId) (cs : Array Value) : Blk (w.alloc (.cells cs t)) w.heap.size t cs := heap_alloc_new w _
theorem Blk.drew (h : Blk w g t cs) : Blk w.drew g t cs := h
theorem Blk.drewN (h : Blk w g t cs) (n : Nat) : Blk (w.drewN n) g t cs := h
theorem Blk.alloc (h : Blk w g t cs) (o : Obj) : Blk (w.alloc o) g t cs := (Below.heap_alloc w o g h.lt).trans h
theorem Blk.set_ (h : Blk w g t cs) (i : Nat) (u : Value) : Blk (w.setCell ⟨g, i, none⟩ u) g t (cs.setIfInBounds i u) := by
  unfold Blk at h ⊢
  simp [World.setCell, Array.getElem?_modify, h]
theorem Blk.far (h : Blk w g t cs) {p : Addr} (hp : g ≠ p.block) (u : Value) : Blk (w.setCell p u) g t cs := (Below.heap_setCell w p u g hp).trans h
theorem Blk.below {B : Nat} (h : Blk w g t cs) (hb : Below B w w') (hg : g < B) : Blk w' g t cs := (hb.block g hg).trans h
theorem Blk.grown {row : Option Nat} (h : Blk w g t cs) (hb : w.grownBy w' row) (hg : some g ≠ row) : Blk w' g t cs := (hb.block g h.lt hg).trans h
theorem Blk.ne_ {g' : Nat} {t' : TypeId} {cs' : Array Value} (h : Blk w g t cs) (h' : Blk w g' t' cs') (hne : t ≠ t') : g ≠ g' := by
  rintro rfl
  unfold Blk at h h'
  rw [h] at h'
  injection h' with h'
  injection h' with _ ht
  exact hne ht
theorem Blk.step {ts : List Nat} {o o' : Own} (h : Blk w g t cs) (hs : Step ts w o w' o') (hg : o g ∉ ts) : Blk w' g t cs := (hs.block g h.lt hg).trans h
theorem Blk.of_cells {w : World} {g : Nat} {t : TypeId} {cs : Array Value} (h : w.heap[g]? = some (.cells cs t (0, 0))) : Blk w g t cs := h
end

/-- An owned row: nil, or at the head of a block of tag τ; n elements of sz cells each. -/
def Row (w : World) (o : Own) (τ : Nat) (e : TypeId) (sz : Nat) (A : Option Addr) (n c : Nat) (xs : List Value) : Prop :=
  w.ownsRow 0 e sz (.slice A n c) n xs ∧ ∀ ad, A = some ad → o ad.block = τ

section
variable {w w' : World} {o o' : Own} {τ : Nat} {e : TypeId} {sz n c : Nat} {A : Option Addr} {xs : List Value} {ts : List Nat}
theorem Row.nil_ (w : World) (o : Own) (τ : Nat) (e : TypeId) (sz : Nat) : Row w o τ e sz none 0 0 [] := ⟨World.ownsRow_nil _ _ _ _, fun _ h => by cases h⟩
theorem Row.len (h : Row w o τ e sz A n c xs) : xs.length = n * sz := h.1.1
theorem Row.lt (h : Row w o τ e sz A n c xs) {ad : Addr} (ha : A = some ad) : ad.block < w.heap.size := (h.1.lt ad.block (by subst ha; rfl)).2
theorem Row.step (h : Row w o τ e sz A n c xs) (hs : Step ts w o w' o') (hτ : τ ∉ ts) : Row w' o' τ e sz A n c xs := by
  obtain ⟨⟨h1, h2⟩, h3⟩ := h
  refine ⟨⟨h1, ?_⟩, fun ad ha => ?_⟩
  · rcases h2 with h2 | ⟨g, cap, cur, hv, hg, hh, r⟩
    · exact .inl h2
    · refine .inr ⟨g, cap, cur, hv, hg, ?_, r⟩
      have hA : A = some ⟨g, 0, none⟩ := by injection hv
      have := h3 _ hA
      exact (hs.block g (Blk.lt (cs := cur) (t := e) hh) (by simpa [this] using hτ)).trans hh
  · have h4 := h3 ad ha
    rcases h2 with ⟨h2, _⟩ | ⟨g, cap, cur, hv, hg, hh, r⟩
    · injection h2 with h5; rw [h5] at ha; cases ha
    · have hA : A = some ⟨g, 0, none⟩ := by injection hv
      rw [hA] at ha; injection ha with ha; subst ha
      rw [hs.own _ (Blk.lt (cs := cur) (t := e) hh)]; exact h4
theorem Row.form (h : Row w o τ e sz A n c xs) (hn : 0 < n) : ∃ g cur, A = some ⟨g, 0, none⟩ ∧ o g = τ ∧ Blk w g e cur ∧ n ≤ c ∧ c ≤ maxLen ∧ cur.size = c * sz ∧ cur.toList.take (n * sz) = xs := by
  obtain ⟨⟨h1, h2⟩, h3⟩ := h
  rcases h2 with ⟨h2, h4⟩ | ⟨g, cap, cur, hv, hg, hh, hr⟩
  · omega
  · have hA : A = some ⟨g, 0, none⟩ := by injection hv
    have hc : c = cap := by injection hv
    subst hc
    exact ⟨g, cur, hA, h3 _ hA, hh, hr⟩
theorem Row.at_ {k : Nat} (h : Row w o τ e 1 A n c xs) (hk : k < n) : ∃ g, A = some ⟨g, 0, none⟩ ∧ o g = τ ∧ w.cell? ⟨g, k, none⟩ = xs[k]? ∧ w.frozen? ⟨g, k, none⟩ = false := by
  obtain ⟨g, cur, hA, ho, hb, hnc, hm, hsz, ht⟩ := h.form (by omega)
  refine ⟨g, hA, ho, ?_, hb.frozen k⟩
  rw [hb.cell, ← ht, List.getElem?_take, if_pos (by omega)]
  simp
end

theorem Row.setCell_far {w : World} {o : Own} {τ : Nat} {e : TypeId} {sz n c : Nat} {A : Option Addr} {xs : List Value} (h : Row w o τ e sz A n c xs) {p : Addr} (hp : ∀ ad, A = some ad → ad.block ≠ p.block) (u : Value) : Row (w.setCell p u) o τ e sz A n c xs := by
  obtain ⟨⟨h1, h2⟩, h3⟩ := h
  refine ⟨⟨h1, ?_⟩, h3⟩
  rcases h2 with h2 | ⟨g, cap, cur, hv, hg, hh, r⟩
  · exact .inl h2
  · have hA : A = some ⟨g, 0, none⟩ := by injection hv
    exact .inr ⟨g, cap, cur, hv, hg, (Below.heap_setCell _ _ _ _ (hp _ hA)).trans hh, r⟩
theorem Row.set_ {w : World} {o : Own} {τ : Nat} {e : TypeId} {h n c k : Nat} {xs : List Value} (hR : Row w o τ e 1 (some ⟨h, 0, none⟩) n c xs) (hk : k < n) (u : Value) : Row (w.setCell ⟨h, k, none⟩ u) o τ e 1 (some ⟨h, 0, none⟩) n c (xs.set k u) := by
  have hl := hR.len
  obtain ⟨g, cur, hA, ho, hb, hnc, hm, hsz, ht⟩ := hR.form (by omega)
  injection hA with hA; injection hA with hA; subst hA
  refine ⟨⟨by simpa using hl, .inr ⟨h, c, cur.setIfInBounds k u, rfl, Nat.zero_le _, hb.set_ k u, hnc, hm, by simpa using hsz, ?_⟩⟩, fun ad ha => by injection ha with ha; subst ha; exact ho⟩
  rw [← ht, Array.toList_setIfInBounds, List.take_set]
theorem Row.cellAt {w : World} {o : Own} {τ : Nat} {e : TypeId} {h n c k : Nat} {xs : List Value} {u : Value} (hR : Row w o τ e 1 (some ⟨h, 0, none⟩) n c xs) (hk : xs[k]? = some u) : w.cell? ⟨h, k, none⟩ = some u ∧ w.frozen? ⟨h, k, none⟩ = false := by
  have hl := hR.len
  have hlt : k < n := by have := (List.getElem?_eq_some_iff.1 hk).1; omega
  obtain ⟨g, hA, _, hc, hf⟩ := hR.at_ hlt
  injection hA with hA; injection hA with hA
  subst hA
  exact ⟨hc.trans hk, hf⟩
theorem Row.ne_blk {w : World} {o : Own} {τ : Nat} {e : TypeId} {sz n c : Nat} {A : Option Addr} {xs : List Value} (h : Row w o τ e sz A n c xs) {g : Nat} {t : TypeId} {cs : Array Value} (hb : Blk w g t cs) (hne : e ≠ t) : ∀ ad, A = some ad → ad.block ≠ g := by
  intro ad ha
  obtain ⟨⟨h1, h2⟩, h3⟩ := h
  rcases h2 with ⟨h2, _⟩ | ⟨g', cap, cur, hv, hg, hh, r⟩
  · injection h2 with h5; rw [h5] at ha; cases ha
  · have hA : A = some ⟨g', 0, none⟩ := by injection hv
    rw [hA] at ha; injection ha with ha; subst ha
    exact Blk.ne_ (t := e) hh hb hne
theorem Row.drewN {w : World} {o : Own} {τ : Nat} {e : TypeId} {sz n c : Nat} {A : Option Addr} {xs : List Value} (h : Row w o τ e sz A n c xs) (k : Nat) : Row (w.drewN k) o τ e sz A n c xs := h

theorem Row.only {w w' : World} {o : Own} {τ : Nat} {e : TypeId} {sz n c b : Nat} {A : Option Addr} {xs : List Value} (h : Row w o τ e sz A n c xs) (hs : w.grownBy w' (some b)) (hne : ∀ ad, A = some ad → ad.block ≠ b) : Row w' o τ e sz A n c xs := by
  obtain ⟨⟨h1, h2⟩, h3⟩ := h
  refine ⟨⟨h1, ?_⟩, h3⟩
  rcases h2 with h2 | ⟨g, cap, cur, hv, hg, hh, r⟩
  · exact .inl h2
  · have hA : A = some ⟨g, 0, none⟩ := by injection hv
    exact .inr ⟨g, cap, cur, hv, hg, (hs.block g (Blk.lt (cs := cur) (t := e) hh) (fun e => hne _ hA (by injection e))).trans hh, r⟩

/-- A slice that is only read: n elements of sz cells each, in a block of tag τ (if there are any). -/
def Sl (w : World) (o : Own) (τ : Nat) (sz : Nat) (A : Option Addr) (n c : Nat) (xs : List Value) : Prop :=
  xs.length = n * sz ∧ n ≤ c ∧ c ≤ maxLen ∧ (0 < n → ∃ g off, A = some ⟨g, off, none⟩ ∧ o g = τ ∧ g < w.heap.size ∧ ∀ j u, xs[j]? = some u → w.cell? ⟨g, off + j, none⟩ = some u)

section
variable {w w' : World} {o o' : Own} {τ : Nat} {sz n c : Nat} {A : Option Addr} {xs : List Value} {ts : List Nat}
theorem Sl.step (h : Sl w o τ sz A n c xs) (hs : Step ts w o w' o') (hτ : τ ∉ ts) : Sl w' o' τ sz A n c xs := by
  refine ⟨h.1, h.2.1, h.2.2.1, fun hn => ?_⟩
  obtain ⟨g, off, hA, ho, hg, hc⟩ := h.2.2.2 hn
  exact ⟨g, off, hA, (hs.own g hg).trans ho, Nat.lt_of_lt_of_le hg hs.size, fun j u hu => (World.cell?_of_block (a := ⟨g, off + j, none⟩) (hs.block g hg (by rw [ho]; exact hτ))).trans (hc j u hu)⟩
theorem Sl.nil_ (w : World) (o : Own) (τ sz : Nat) (A : Option Addr) (c : Nat) (hc : c ≤ maxLen) : Sl w o τ sz A 0 c [] := ⟨by simp, Nat.zero_le _, hc, fun h => absurd h (by omega)⟩
theorem Sl.at_ {k : Nat} (h : Sl w o τ 1 A n c xs) (hk : k < n) : ∃ g off, A = some ⟨g, off, none⟩ ∧ o g = τ ∧ g < w.heap.size ∧ ∃ u, xs[k]? = some u ∧ w.cell? ⟨g, off + k, none⟩ = some u := by
  obtain ⟨g, off, hA, ho, hg, hc⟩ := h.2.2.2 (by omega)
  have hl : k < xs.length := by have := h.1; omega
  exact ⟨g, off, hA, ho, hg, xs[k], List.getElem?_eq_getElem hl, hc k _ (List.getElem?_eq_getElem hl)⟩
theorem Row.sl {e : TypeId} (h : Row w o τ e sz A n c xs) : Sl w o τ sz A n c xs := by
  rcases Nat.eq_zero_or_pos n with hn | hn
  · subst hn
    obtain ⟨⟨h1, h2⟩, h3⟩ := h
    refine ⟨h1, Nat.zero_le _, ?_, fun h => absurd h (by omega)⟩
    rcases h2 with ⟨h2, _⟩ | ⟨g, cap, cur, hv, hg, hh, hnc, hm, _⟩
    · have : c = 0 := by injection h2
      subst this; exact Nat.zero_le _
    · have hc : c = cap := by injection hv
      subst hc; exact hm
  · obtain ⟨g, cur, hA, ho, hb, hnc, hm, hsz, ht⟩ := h.form hn
    refine ⟨h.len, hnc, hm, fun _ => ⟨g, 0, hA, ho, hb.lt, fun j u hu => ?_⟩⟩
    rw [Nat.zero_add, hb.cell]
    rw [← ht, List.getElem?_take] at hu
    split at hu
    · simpa using hu
    · cases hu
/-- 's[i:j]' of a slice that is read. -/
theorem Sl.cut (h : Sl w o τ sz A n c xs) {i j : Nat} (hij : i ≤ j) (hj : j ≤ n) (A' : Option Addr) (hA : ∀ g off, A = some ⟨g, off, none⟩ → i < j → A' = some ⟨g, off + i * sz, none⟩) :
    Sl w o τ sz A' (j - i) (c - i) ((xs.drop (i * sz)).take ((j - i) * sz)) := by
  have h1 := h.1
  have h2 := h.2.1
  have h3 := h.2.2.1
  refine ⟨?_, by omega, by omega, fun hn => ?_⟩
  · rw [List.length_take, List.length_drop, h1, ← Nat.sub_mul]
    exact Nat.min_eq_left (Nat.mul_le_mul_right _ (by omega))
  · obtain ⟨g, off, hA0, ho, hg, hc⟩ := h.2.2.2 (by omega)
    refine ⟨g, _, hA g off hA0 (by omega), ho, hg, fun k u hu => ?_⟩
    rw [List.getElem?_take] at hu
    split at hu
    · rw [List.getElem?_drop] at hu
      rw [Nat.add_assoc]
      exact hc _ u hu
    · cases hu
end

theorem ret_int {k : IntKind} {a b : Int} (h : a = b) : Ending.returned (.int k a) = .returned (.int k b) := by rw [h]

theorem results_tmp4 {fn : Func} {t u v x : Tmp} (h : fn.results = #[.tmp t, .tmp u, .tmp v, .tmp x]) (tmps : Array Value) (P : Program) (w : World) :
    (results fn tmps).run P w = .ok (.tuple #[tmps.getD t undef, tmps.getD u undef, tmps.getD v undef, tmps.getD x undef]) w := by simp [results, h]
theorem results_tmp5 {fn : Func} {t u v x y : Tmp} (h : fn.results = #[.tmp t, .tmp u, .tmp v, .tmp x, .tmp y]) (tmps : Array Value) (P : Program) (w : World) :
    (results fn tmps).run P w = .ok (.tuple #[tmps.getD t undef, tmps.getD u undef, tmps.getD v undef, tmps.getD x undef, tmps.getD y undef]) w := by simp [results, h]

/-- The numbers of a list as cells. -/
abbrev ints (l : List Int) : List Value := l.map (Value.int .i64)
abbrev byts (l : List UInt8) : List Value := l.map fun b => Value.int .u8 (b.toNat : Int)

/-- Reports as cells, two for each. -/
abbrev reps (l : List (Int × Bool)) : List Value := l.flatMap fun r => [Value.int .i64 r.1, Value.bool r.2]
theorem len_reps (l : List (Int × Bool)) : (reps l).length = l.length * 2 := by
  induction l with
  | nil => rfl
  | cons a l ih => simp only [reps, List.flatMap_cons, List.length_append, List.length_cons, List.length_nil] at ih ⊢; omega
theorem one_reps (l : List (Int × Bool)) : ∀ u ∈ reps l, u.oneCell' = true := by
  intro u hu
  obtain ⟨r, _, hr⟩ := List.mem_flatMap.1 hu
  simp at hr
  rcases hr with rfl | rfl <;> rfl

theorem one_ints (l : List Int) : ∀ u ∈ ints l, u.oneCell' = true := by
  intro u hu; obtain ⟨_, _, rfl⟩ := List.mem_map.1 hu; rfl
theorem one_byts (l : List UInt8) : ∀ u ∈ byts l, u.oneCell' = true := by
  intro u hu; obtain ⟨_, _, rfl⟩ := List.mem_map.1 hu; rfl

/-- A tag that no old block has, other than some given ones. -/
theorem fresh_tag (w : World) (o : Own) (l : List Nat) : ∃ ρ, (∀ k, k < w.heap.size → o k ≠ ρ) ∧ ρ ∉ l := by
  have key : ∀ n : Nat, ∃ B, ∀ k, k < n → o k < B := by
    intro n
    induction n with
    | zero => exact ⟨0, fun k h => absurd h (by omega)⟩
    | succ n ih =>
      obtain ⟨B, hB⟩ := ih
      refine ⟨max B (o n + 1), fun k hk => ?_⟩
      by_cases h : k = n
      · subst h; omega
      · have := hB k (by omega); omega
  have key2 : ∀ l : List Nat, ∃ B, ∀ x ∈ l, x < B := by
    intro l
    induction l with
    | nil => exact ⟨0, fun x h => by cases h⟩
    | cons a l ih =>
      obtain ⟨B, hB⟩ := ih
      refine ⟨max B (a + 1), fun x hx => ?_⟩
      rcases List.mem_cons.1 hx with rfl | hx
      · omega
      · have := hB x hx; omega
  obtain ⟨B, hB⟩ := key w.heap.size
  obtain ⟨C, hC⟩ := key2 l
  refine ⟨max B C, fun k hk => ?_, fun h => ?_⟩
  · have := hB k hk; omega
  · have := hC _ h; omega

/-- A tag that no old block has may be left out. -/
theorem Step.forget {ts ts' : List Nat} {w w' : World} {o o' : Own} (h : Step ts w o w' o') (hf : ∀ t ∈ ts, t ∉ ts' → ∀ k, k < w.heap.size → o k ≠ t) : Step ts' w o w' o' :=
  ⟨h.os, h.tape, h.output, h.size, h.own, fun k hk hn => h.block k hk (fun hm => by
    by_cases h1 : o k ∈ ts'
    · exact hn h1
    · exact hf _ hm h1 k hk rfl)⟩

theorem ext_ext {o : Own} {n m t : Nat} (h : n ≤ m) : ext (ext o n t) m t = ext o n t := by
  funext k
  simp only [ext]
  split
  · rfl
  · rename_i hk; rw [if_neg (by omega)]

/-- What the table says of a slice type t and its element type e: sz cells, so many bytes, the zero value z. -/
structure Elem (P : Program) (t e : TypeId) (sz bytes : Nat) (z : Value) : Prop where
  under : P.underlying t = some (.slice e)
  info : (P.info? e).map (fun i => (i.zero, i.size, i.bytes)) = some (some z, sz, bytes)
  zero : z.cells.size = sz
  pos : 0 < sz

theorem Row.grown {w w' : World} {o : Own} {τ : Nat} {e : TypeId} {sz n c : Nat} {A : Option Addr} {xs : List Value} {row : Option Nat} (h : Row w o τ e sz A n c xs) (hs : w.grownBy w' row) (hne : ∀ ad, A = some ad → some ad.block ≠ row) (t : Nat) : Row w' (ext o w.heap.size t) τ e sz A n c xs := by
  obtain ⟨⟨h1, h2⟩, h3⟩ := h
  rcases h2 with h2 | ⟨g, cap, cur, hv, hg, hh, r⟩
  · refine ⟨⟨h1, .inl h2⟩, fun ad ha => ?_⟩
    obtain ⟨h2, _⟩ := h2
    injection h2 with h5; rw [h5] at ha; cases ha
  · have hA : A = some ⟨g, 0, none⟩ := by injection hv
    have hlt := Blk.lt (cs := cur) (t := e) hh
    refine ⟨⟨h1, .inr ⟨g, cap, cur, hv, hg, (hs.block g hlt (hne _ hA)).trans hh, r⟩⟩, fun ad ha => ?_⟩
    have := h3 ad ha
    rw [hA] at ha; injection ha with ha; subst ha
    rw [ext_lt hlt]; exact this

theorem run_append_row {P : Program} (w : World) {t e : TypeId} {sz bytes : Nat} {z : Value} (ty : TypeId) (he : Elem P t e sz bytes z) (o : Own) (τ : Nat)
    {A : Option Addr} {n c : Nat} {xs : List Value} (hR : Row w o τ e sz A n c xs) {τ2 : Nat} {o2 : Own} {B : Option Addr} {m d : Nat} {news : List Value} (hS : Sl w o2 τ2 sz B m d news)
    (h1 : ∀ u ∈ news, u.oneCell' = true) (hbytes : (n + m) * bytes ≤ 140737488355328) (h63 : n + m ≤ maxLen) :
    ∃ A' c' w', (Builtin.append_ #[t, t] ty #[.slice A n c, .slice B m d]).run P w = .ok (.slice A' (n + m) c') w' ∧ Row w' (ext o w.heap.size τ) τ e sz A' (n + m) c' (xs ++ news) ∧
      w.grownBy w' (Value.slice A n c).ownBlock ∧ (∀ ad, A' = some ad → (∃ ad0, A = some ad0 ∧ ad.block = ad0.block) ∨ ad.block = w.heap.size) := by
  obtain ⟨i, hi, hz0, hz1, hz2⟩ := info_parts he.info
  have own_of : ∀ A' c' w', w'.ownsRow 0 e sz (.slice A' (n + m) c') (n + m) (xs ++ news) → w.grownBy w' (Value.slice A n c).ownBlock → ((Value.slice A' (n + m) c').ownBlock = (Value.slice A n c).ownBlock ∨ (Value.slice A' (n + m) c').ownBlock = some w.heap.size) →
      Row w' (ext o w.heap.size τ) τ e sz A' (n + m) c' (xs ++ news) ∧ (∀ ad, A' = some ad → (∃ ad0, A = some ad0 ∧ ad.block = ad0.block) ∨ ad.block = w.heap.size) := by
    intro A' c' w' h _ hat
    have key : ∀ ad, A' = some ad → (∃ ad0, A = some ad0 ∧ ad.block = ad0.block) ∨ ad.block = w.heap.size := by
      intro ad ha
      subst ha
      rcases hat with hat | hat
      · cases A with
        | none => simp [Value.ownBlock] at hat
        | some ad0 => exact .inl ⟨ad0, rfl, by simpa [Value.ownBlock] using hat⟩
      · exact .inr (by simpa [Value.ownBlock] using hat)
    refine ⟨⟨h, fun ad ha => ?_⟩, key⟩
    rcases key ad ha with ⟨ad0, h0, hb⟩ | hb
    · rw [hb, ext_lt (hR.lt h0)]; exact hR.2 _ h0
    · rw [hb]; exact ext_ge (Nat.le_refl _)
  have fin : ∀ v' w', (Builtin.append_ #[t, t] ty #[.slice A n c, .slice B m d]).run P w = .ok v' w' → w'.ownsRow 0 e sz v' (n + m) (xs ++ news) → w.grownBy w' (Value.slice A n c).ownBlock →
      (v'.ownBlock = (Value.slice A n c).ownBlock ∨ v'.ownBlock = some w.heap.size) → ∃ A' c' w', (Builtin.append_ #[t, t] ty #[.slice A n c, .slice B m d]).run P w = .ok (.slice A' (n + m) c') w' ∧ Row w' (ext o w.heap.size τ) τ e sz A' (n + m) c' (xs ++ news) ∧
      w.grownBy w' (Value.slice A n c).ownBlock ∧ (∀ ad, A' = some ad → (∃ ad0, A = some ad0 ∧ ad.block = ad0.block) ∨ ad.block = w.heap.size) := by
    intro v' w' hrun hown hg hat
    have hv : ∃ A' c', v' = .slice A' (n + m) c' := by
      rcases hown.2 with ⟨h, h0⟩ | ⟨g, cap, cur, h, _⟩
      · exact ⟨none, 0, by rw [h, h0]⟩
      · exact ⟨_, _, h⟩
    obtain ⟨A', c', rfl⟩ := hv
    exact ⟨A', c', w', hrun, (own_of _ _ _ hown hg hat).1, hg, (own_of _ _ _ hown hg hat).2⟩
  rcases Nat.eq_zero_or_pos m with hm | hm
  · subst hm
    have hn : news = [] := List.eq_nil_of_length_eq_zero (by simpa using hS.1)
    subst hn
    have hrun : (Builtin.append_ #[t, t] ty #[.slice A n c, .slice B 0 d]).run P w = .ok (.slice A n c) w := by
      rcases hR.1.2 with ⟨hv, hn0⟩ | ⟨g, cap, cur, hv, _, _, hnc, _⟩
      · injection hv with ha hb hc
        subst ha; subst hb; subst hc
        cases B <;> simp [Builtin.append_, run_underlying he.under, sizeOf, typeInfo, hi, Builtin.lenOf, Builtin.firstCells, loadCells, loadCellsFrom]
      · injection hv with ha hb hc
        subst ha; subst hc
        cases B <;> simp [Builtin.append_, run_underlying he.under, sizeOf, typeInfo, hi, Builtin.lenOf, Builtin.firstCells, hnc, storeCells, loadCells, loadCellsFrom]
    refine fin _ _ hrun (by simpa using hR.1) (World.grownBy.refl _ _) (.inl rfl)
  · obtain ⟨g, off, hB, _, _, hc⟩ := hS.2.2.2 hm
    subst hB
    obtain ⟨v', w', hrun, h2, h3, _, h5⟩ := run_append_own_at (P := P) w 0 t ty e i z sz bytes he.under hi hz0 hz1 hz2 he.zero he.pos (.slice A n c) n xs hR.1 ⟨g, off, none⟩ m d news hS.1
      (fun j u hu => by rw [Addr.add_lit]; exact hc j u hu) h1 h63 hbytes (Nat.zero_le _)
    exact fin _ _ hrun h2 h3 h5

theorem wpList_append_row {P : Program} (w : World) {ops : Array Oper} {rest : List Oper} {o : Oper} {a : Act} {Q : Exit → Act → World → Prop} (hgd : o.guard = none) (s x : Operand) (t : TypeId)
    (ho : o.op = .call { callee := .builtin .append, args := #[s, x], argTypes := #[t, t] })
    {e : TypeId} {sz bytes : Nat} {z : Value} (he : Elem P t e sz bytes z) (ow : Own) (τ : Nat)
    (A : Option Addr) (n c : Nat) (xs : List Value) (hs : a.eval s = .slice A n c) (hR : Row w ow τ e sz A n c xs) (o2 : Own) (τ2 : Nat) (B : Option Addr) (m d : Nat) (news : List Value) (hx : a.eval x = .slice B m d) (hS : Sl w o2 τ2 sz B m d news)
    (h1 : ∀ u ∈ news, u.oneCell' = true) (hbytes : (n + m) * bytes ≤ 140737488355328) (h63 : n + m ≤ maxLen)
    (h : ∀ A' c' w', Row w' (ext ow w.heap.size τ) τ e sz A' (n + m) c' (xs ++ news) → w.grownBy w' (Value.slice A n c).ownBlock → (∀ ad, A' = some ad → (∃ ad0, A = some ad0 ∧ ad.block = ad0.block) ∨ ad.block = w.heap.size) →
      wpList P ops Q rest (a.put o.dst (.slice A' (n + m) c')) w') : wpList P ops Q (o :: rest) a w := by
  refine wpList_plain hgd fun K hK => ?_
  obtain ⟨A', c', w', hrun, h2, h3, h4⟩ := run_append_row (P := P) w o.type he ow τ hR hS h1 hbytes h63
  unfold Oper.wp execOp
  simp only [ho, resolve, invoke, builtin, Sem.run_bind, Sem.run_pure, Result.andThen_ok, List.map_toArray, List.map_cons, List.map_nil, hs, hx, hrun]
  exact hK _ _ (h A' c' w' h2 h3 h4)

/-- From what an append leaves: the step that was made. -/
theorem Step.append {w w' : World} {o : Own} {τ : Nat} {e : TypeId} {sz n c : Nat} {A : Option Addr} {xs : List Value} (hR : Row w o τ e sz A n c xs) (hg : w.grownBy w' (Value.slice A n c).ownBlock) (t : Nat) : Step [τ] w o w' (ext o w.heap.size t) := by
  refine (Step.refl [τ] w o).grown hg ?_ t
  intro g hg'
  cases A with
  | none => simp [Value.ownBlock] at hg'
  | some ad =>
    simp [Value.ownBlock] at hg'
    subst hg'
    exact .inr (by simp [hR.2 ad rfl])

/-- A new block that holds an empty row. -/
theorem Row.made {w : World} (o : Own) (τ : Nat) (e : TypeId) (sz : Nat) (cs : Array Value) (n : Nat) (hs : cs.size = n * sz) (hm : n ≤ maxLen) (k : Nat) (hk : k ≤ n) :
    Row (w.alloc (.cells cs e)) (ext o w.heap.size τ) τ e sz (some ⟨w.heap.size, 0, none⟩) k n (cs.toList.take (k * sz)) := by
  have h1 : k * sz ≤ n * sz := Nat.mul_le_mul_right _ hk
  refine ⟨⟨by rw [List.length_take, Array.length_toList, hs]; omega, .inr ⟨w.heap.size, n, cs, rfl, Nat.zero_le _, heap_alloc_new w _, hk, hm, hs, rfl⟩⟩, fun ad ha => ?_⟩
  injection ha with ha; subst ha
  exact ext_ge (Nat.le_refl _)

end Go.Proofs.Ythjjipcbpmdfnaa
