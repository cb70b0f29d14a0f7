/-
  WALK of tells (first part: contracts in plainest words).
-/
import Derived.Test.YtkiknbjokknemaaGreatBudYF
import Derived.Test.YtkiknbjokknemaaGreatBudYE
namespace Go.Proofs.YtkiknbjokknemaaGreat
open Go.RowKit Go.Maps

theorem drewK_below {w : World} (k : Nat) : Below w.heap.size w (w.drewN k) := ⟨rfl, rfl, rfl, Nat.le_refl _, fun _ _ => rfl⟩
theorem same_t (W : World) (A B : Option Addr) (n c m d : Nat) (ls : List It) (hS : Sl W (fun _ => 0) 0 3 A n c (itms ls)) (hT : Sl W (fun _ => 0) 0 3 B m d (itms ls)) : Calls Tryz.prog 19 #[.slice A n c, .slice B m d] W (SaysTo W true) := by
  refine (same_any W _ _ 0 0 A B n c m d ls ls hS hT).mono ?_
  rintro e w' ⟨rfl, k, rfl⟩
  exact ⟨by rw [decide_eq_true rfl], drewK_below k⟩
theorem ints_t (W : World) (A B : Option Addr) (n c m d : Nat) (ls : List Int) (hS : Sl W (fun _ => 0) 0 1 A n c (ints ls)) (hT : Sl W (fun _ => 0) 0 1 B m d (ints ls)) : Calls Tryz.prog 20 #[.slice A n c, .slice B m d] W (SaysTo W true) := by
  refine (SameInts_any W _ _ 0 0 A B n c m d ls ls hS hT).mono ?_
  rintro e w' ⟨rfl, k, rfl⟩
  exact ⟨by rw [decide_eq_true rfl], drewK_below k⟩
theorem lists_t (W : World) (A B : Option Addr) (n c m d : Nat) (ls : List (List Int)) (hS : ListsAt W (fun _ => 0) 0 0 A n c ls) (hT : ListsAt W (fun _ => 0) 0 0 B m d ls) : Calls Tryz.prog 21 #[.slice A n c, .slice B m d] W (SaysTo W true) := by
  refine (sameLists_any W _ _ 0 0 0 0 A B n c m d ls ls hS hT).mono ?_
  rintro e w' ⟨rfl, k, rfl⟩
  exact ⟨by rw [decide_eq_true rfl], drewK_below k⟩

def SlTo (w : World) (sz n : Nat) (vs : List Value) (e : Ending) (w' : World) : Prop := ∃ B d, e = .returned (.slice B n d) ∧ Below w.heap.size w w' ∧ Sl w' (fun _ => 0) 0 sz B n d vs
theorem items_t (W : World) (A : Option Addr) (n c : Nat) (l : List It) (hS : Sl W (fun _ => 0) 0 3 A n c (itms l)) (hn : n ≤ 1000) : Calls Tryz.prog 12 #[.slice A n c] W (SlTo W 3 n (itms l)) := by
  refine (items_any W _ 0 A n c l hS hn).mono ?_
  rintro e w' ⟨B, d, o', rfl, r1, r2⟩
  exact ⟨B, d, rfl, r1.to_below (fun _ _ => by simp), r2.sl.old0⟩
theorem wants_t (W : World) (A : Option Addr) (n c : Nat) (l : List (Int × Int)) (hS : Sl W (fun _ => 0) 0 2 A n c (wnts l)) (hn : n ≤ 1000) : Calls Tryz.prog 13 #[.slice A n c] W (SlTo W 2 n (wnts l)) := by
  refine (wants_any W _ 0 A n c l hS hn).mono ?_
  rintro e w' ⟨B, d, o', rfl, r1, r2⟩
  exact ⟨B, d, rfl, r1.to_below (fun _ _ => by simp), r2.sl.old0⟩
theorem rstep_t (W : World) (A : Option Addr) (n c : Nat) (l : List It) (hA : Sl W (fun _ => 0) 0 3 A n c (itms l)) (hn : n ≤ 1000) (B : Option Addr) (m d : Nat) (ws : List (Int × Int)) (hB : Sl W (fun _ => 0) 0 2 B m d (wnts ws)) (k : Int) (hk0 : -9223372036854775808 ≤ k) (hk : k ≤ 9223372036854775807) :
    Calls Tryz.prog 11 #[.slice A n c, .slice B m d, .int .i64 k] W (StepPU W l ws k) := by
  refine (RStep_any W A n c l hA hn B m d ws hB k hk0 hk).mono ?_
  rintro e w' ⟨OA, on, oc, SA, sn, sc, o', rfl, r1, r2, r3⟩
  exact ⟨OA, on, oc, SA, sn, sc, rfl, r1.to_below (fun _ _ => by simp), r2.sl.old0, r3.any0, r3.fresh r1 (by decide)⟩
def RRunPU (w : World) (l : List It) (ws : List (Int × Int)) (k s : Int) (e : Ending) (w' : World) : Prop := ∃ OA on oc LA ln lc,
  e = .returned (.tuple #[.slice OA on oc, .slice LA ln lc, .int .i64 (runU l ws k s).2.2]) ∧ Below w.heap.size w w' ∧ Sl w' (fun _ => 0) 0 3 OA on oc (itms (runU l ws k s).1) ∧ ListsAt w' (fun _ => 0) 0 0 LA ln lc (runU l ws k s).2.1
theorem rrun_t (W : World) (A : Option Addr) (n c : Nat) (l : List It) (hA : Sl W (fun _ => 0) 0 3 A n c (itms l)) (hn : n ≤ 1000) (B : Option Addr) (m d : Nat) (ws : List (Int × Int)) (hB : Sl W (fun _ => 0) 0 2 B m d (wnts ws)) (k s : Int) (hk0 : -9223372036854775808 ≤ k) (hk : k ≤ 9223372036854775807) (hs0 : -9223372036854775808 ≤ s) (hs : s ≤ 9223372036854775807) :
    Calls Tryz.prog 14 #[.slice A n c, .slice B m d, .int .i64 k, .int .i64 s] W (RRunPU W l ws k s) := by
  refine (RRun_any W A n c l hA hn B m d ws hB k s hk0 hk hs0 hs).mono ?_
  rintro e w' ⟨OA, on, oc, LA, ln, lc, o', rfl, r1, r2, r3⟩
  exact ⟨OA, on, oc, LA, ln, lc, rfl, r1.to_below (fun _ _ => by simp), r2.old0, r3.any0⟩
theorem wnts_one (l : List (Int × Int)) : ∀ u ∈ wnts l, u.oneCell' = true := by
  intro u hu
  simp only [wnts, List.mem_flatMap] at hu
  obtain ⟨x, -, hx⟩ := hu
  simp at hx
  rcases hx with rfl | rfl <;> rfl

/-- What stays to be read, whatever is made later. -/
structure TF (w : World) (A : Option Addr) (n c : Nat) (l : List It) (B : Option Addr) (m d : Nat) (ws : List (Int × Int)) (A1 : Option Addr) (c1 : Nat) (B1 : Option Addr) (d1 : Nat) : Prop where
  hl : Sl w (fun _ => 0) 0 3 A n c (itms l)
  hw : Sl w (fun _ => 0) 0 2 B m d (wnts ws)
  hi : Sl w (fun _ => 0) 0 3 A1 n c1 (itms l)
  hv : Sl w (fun _ => 0) 0 2 B1 m d1 (wnts ws)
theorem TF.up {w w' : World} {A : Option Addr} {n c : Nat} {l : List It} {B : Option Addr} {m d : Nat} {ws : List (Int × Int)} {A1 : Option Addr} {c1 : Nat} {B1 : Option Addr} {d1 : Nat} (h : TF w A n c l B m d ws A1 c1 B1 d1) (hb : Below w.heap.size w w') : TF w' A n c l B m d ws A1 c1 B1 d1 := ⟨h.hl.up0 hb, h.hw.up0 hb, h.hi.up0 hb, h.hv.up0 hb⟩

/-- The beginning of tells: the copies. -/
theorem first_copy {w w1 : World} {A : Option Addr} {n c : Nat} {l : List It} {B : Option Addr} {m d : Nat} {ws : List (Int × Int)} (hA : Sl w (fun _ => 0) 0 3 A n c (itms l)) (hB : Sl w (fun _ => 0) 0 2 B m d (wnts ws)) {A1 : Option Addr} {c1 : Nat}
    (hR : Row w1 (ext (ext (fun _ => 0) w.heap.size 6) (w.alloc (.cells #[] 28)).heap.size 6) 6 28 3 A1 (0 + n) c1 ([] ++ itms l)) (hg : (w.alloc (.cells #[] 28)).grownBy w1 (Value.slice (some ⟨w.heap.size, 0, none⟩) 0 0).ownBlock) :
    Below w.heap.size w w1 ∧ Sl w1 (fun _ => 0) 0 3 A n c (itms l) ∧ Sl w1 (fun _ => 0) 0 2 B m d (wnts ws) ∧ Sl w1 (fun _ => 0) 0 3 A1 n c1 (itms l) := by
  have r0 := row_lit0 w (fun _ => 0) 6 28 3
  have st := Step.append r0 hg 6
  have s0 : Step [] w (fun _ => 0) (w.alloc (.cells #[] 28)) (ext (fun _ => 0) w.heap.size 6) := (Step.refl [] w (fun _ => 0)).alloc _ 6
  have hb : Below w.heap.size w w1 := (((s0.nil (ts := [6])).trans st).forget (ts' := []) (fun t ht _ k hk => by simp at ht; subst ht; simp)).to_below (fun _ _ => by simp)
  rw [Nat.zero_add, List.nil_append] at hR
  exact ⟨hb, hA.up0 hb, hB.up0 hb, hR.sl.old0⟩
theorem second_copy {w w1 : World} {B : Option Addr} {m d : Nat} {ws : List (Int × Int)} (_hB : Sl w (fun _ => 0) 0 2 B m d (wnts ws)) {B1 : Option Addr} {d1 : Nat}
    (hR : Row w1 (ext (ext (fun _ => 0) w.heap.size 6) (w.alloc (.cells #[] 26)).heap.size 6) 6 26 2 B1 (0 + m) d1 ([] ++ wnts ws)) (hg : (w.alloc (.cells #[] 26)).grownBy w1 (Value.slice (some ⟨w.heap.size, 0, none⟩) 0 0).ownBlock) :
    Below w.heap.size w w1 ∧ Sl w1 (fun _ => 0) 0 2 B1 m d1 (wnts ws) := by
  have r0 := row_lit0 w (fun _ => 0) 6 26 2
  have st := Step.append r0 hg 6
  have s0 : Step [] w (fun _ => 0) (w.alloc (.cells #[] 26)) (ext (fun _ => 0) w.heap.size 6) := (Step.refl [] w (fun _ => 0)).alloc _ 6
  have hb : Below w.heap.size w w1 := (((s0.nil (ts := [6])).trans st).forget (ts' := []) (fun t ht _ k hk => by simp at ht; subst ht; simp)).to_below (fun _ _ => by simp)
  rw [Nat.zero_add, List.nil_append] at hR
  exact ⟨hb, hR.sl.old0⟩

def Since (w0 w : World) : Prop := Below w0.heap.size w0 w
theorem Since.up {w0 w w' : World} (h : Since w0 w) (hb : Below w.heap.size w w') : Since w0 w' := Go.RowKit.Below.trans h (hb.mono (Go.RowKit.Below.size h))

/-- The items that Run returned get a tag of their own. -/
theorem carve {W W0 : World} {cA : Option Addr} {cn cc : Nat} {xs : List Value} (h : Row W (fun _ => 0) 0 28 3 cA cn cc xs) (hf : ∀ p, cA = some p → W0.heap.size ≤ p.block) : ∃ o : Own, Row W o 50 28 3 cA cn cc xs ∧ (∀ k, k < W0.heap.size → o k = 0) ∧
    ∀ {e : TypeId} {sz n c : Nat} {A : Option Addr} {ys : List Value}, e ≠ 28 → Row W (fun _ => 0) 0 e sz A n c ys → Row W o 0 e sz A n c ys := by
  rcases h.1.2 with ⟨hv, h0⟩ | ⟨g, cap, cur, hv, hg, hb, r⟩
  · injection hv with ha
    subst ha
    exact ⟨fun _ => 0, ⟨h.1, fun ad had => (by cases had)⟩, fun _ _ => rfl, fun _ hr => hr⟩
  · injection hv with ha
    subst ha
    have hgl := hf _ rfl
    refine ⟨fun b => if b = g then 50 else 0, ⟨h.1, fun ad had => ?_⟩, fun k hk => ?_, fun {e sz n c A ys} hne hr => ⟨hr.1, fun ad had => ?_⟩⟩
    · injection had with had; subst had; simp
    · have : k ≠ g := by simp only at hgl; omega
      simp [this]
    · rcases hr.1.2 with ⟨hv', -⟩ | ⟨g', cap', cur', hv', -, hb', -⟩
      · injection hv' with ha'; rw [ha'] at had; cases had
      · injection hv' with ha'
        rw [ha'] at had
        injection had with had
        subst had
        have : g' ≠ g := Blk.ne_ (Blk.of_cells hb') (Blk.of_cells hb) hne
        simp [this]
theorem Sl.carve {W W0 : World} {o : Own} {sz n c : Nat} {A : Option Addr} {xs : List Value} (h : Sl W0 (fun _ => 0) 0 sz A n c xs) (hb : Below W0.heap.size W0 W) (ho : ∀ k, k < W0.heap.size → o k = 0) : Sl W o 0 sz A n c xs := by
  refine ⟨h.1, h.2.1, h.2.2.1, fun hn => ?_⟩
  obtain ⟨g, off, hA, -, hg, hc⟩ := h.2.2.2 hn
  exact ⟨g, off, hA, ho g hg, Nat.lt_of_lt_of_le hg hb.size, fun j u hu => (hb.cell (p := ⟨g, off + j, none⟩) hg).trans (hc j u hu)⟩
theorem Row.carve {W W0 : World} {o : Own} {e : TypeId} {sz n c : Nat} {A : Option Addr} {xs : List Value} (h : Row W0 (fun _ => 0) 0 e sz A n c xs) (hb : Below W0.heap.size W0 W) (ho : ∀ k, k < W0.heap.size → o k = 0) : Row W o 0 e sz A n c xs :=
  ⟨(h.up0 hb).1, fun _ had => ho _ (h.lt had)⟩
theorem ApartAt.carve {W : World} {o : Own} {B0 n c : Nat} {A : Option Addr} {ls : List (List Int)} (h : ApartAt W (fun _ => 0) 0 0 B0 A n c ls)
    (hc : ∀ {e : TypeId} {sz n c : Nat} {A : Option Addr} {ys : List Value}, e ≠ 28 → Row W (fun _ => 0) 0 e sz A n c ys → Row W o 0 e sz A n c ys) : ApartAt W o 0 0 B0 A n c ls := by
  obtain ⟨L, a, b, c, d, f⟩ := h
  refine ⟨L, hc (by decide) a, b, fun i r hi => ?_, d, f⟩
  obtain ⟨x, e1, e2, e3⟩ := c i r hi
  exact ⟨x, e1, e2, hc (by decide) e3⟩
theorem below_carve {w W0 W W2 : World} {o : Own} (h0 : Below w.heap.size w W0) (h1 : Below w.heap.size w W) (ho : ∀ k, k < W0.heap.size → o k = 0) (hs : Step [50] W o W2 o) : Below w.heap.size w W2 := by
  refine ⟨hs.os.trans h1.os, hs.tape.trans h1.tape, hs.output.trans h1.output, Nat.le_trans h1.size hs.size, fun k hk => ?_⟩
  have h0s := h0.size
  exact (hs.block k (Nat.lt_of_lt_of_le hk h1.size) (by rw [ho k (by omega)]; decide)).trans (h1.block k hk)

/-- Rows that lie apart get tags by their places. -/
theorem rws_of {W : World} {L : List Rw} {X : Nat → List Int} {LA : Option Addr} {N lc : Nat} (hr : ∀ k r, L[k]? = some r → Row W (fun _ => 0) 0 3 1 r.S r.n r.c (ints (X k))) (hp : L.Pairwise fun a b => ∀ p q, a.S = some p → b.S = some q → p.block ≠ q.block)
    (hO : Row W (fun _ => 0) 0 30 1 LA N lc (L.map Rw.v)) (B0 : Nat) (hB : ∀ r ∈ L, ∀ p, r.S = some p → B0 ≤ p.block) : ∃ o : Own, Rws W o L X ∧ Sl W o 4 1 LA N lc (L.map Rw.v) ∧ ∀ k, k < B0 → o k = 4 ∨ o k = 0 := by
  have hidx : ∀ k r p, L[k]? = some r → r.S = some p → L.findIdx? (fun a => a.S.map (fun q => q.block) == some p.block) = some k := by
    intro k r p hk hS
    have hlt := (List.getElem?_eq_some_iff.1 hk).1
    have hkk := (List.getElem?_eq_some_iff.1 hk).2
    rw [List.findIdx?_eq_some_iff_getElem]
    refine ⟨hlt, ?_, fun j hj => ?_⟩
    · rw [hkk, hS]; simp
    · have hpj := List.pairwise_iff_getElem.1 hp j k (by omega) hlt hj
      rw [hkk] at hpj
      cases hSj : L[j].S with
      | none => simp
      | some q =>
        have := hpj q p hSj hS
        simpa using this
  refine ⟨fun b => match L.findIdx? (fun a => a.S.map (fun q => q.block) == some b) with | some k => 100 + k | none => if LA.map (fun q => q.block) = some b then 4 else 0, fun k r hk => ⟨(hr k r hk).1, fun ad had => ?_⟩, ?_, fun k hk => ?_⟩
  · simp only
    rw [hidx k r ad hk had]
  · have hs := hO.sl
    refine ⟨hs.1, hs.2.1, hs.2.2.1, fun hn => ?_⟩
    obtain ⟨g, off, hA, -, hg, hc⟩ := hs.2.2.2 hn
    refine ⟨g, off, hA, ?_, hg, hc⟩
    have hnone : L.findIdx? (fun a => a.S.map (fun q => q.block) == some g) = none := by
      rw [List.findIdx?_eq_none_iff]
      intro a ha
      cases hS : a.S with
      | none => simp
      | some q =>
        obtain ⟨i, hi⟩ := List.mem_iff_getElem?.1 ha
        have hrow := hr i a hi
        rw [hS] at hrow
        have hq : q.block ≠ g := by
          rcases hrow.1.2 with ⟨hv', -⟩ | ⟨g', cap', cur', hv', -, hb', -⟩
          · cases hv'
          · injection hv' with ha'
            injection ha' with ha'
            subst ha'
            obtain ⟨g2, cur2, hA2, -, hb2, -⟩ := hO.form hn
            rw [hA] at hA2
            injection hA2 with hA2
            injection hA2 with hA2
            subst hA2
            exact Blk.ne_ (Blk.of_cells hb') hb2 (by decide)
        simpa using hq
    simp only
    rw [hnone, hA]
    simp
  · have hnone : L.findIdx? (fun a => a.S.map (fun q => q.block) == some k) = none := by
      rw [List.findIdx?_eq_none_iff]
      intro a ha
      cases hS : a.S with
      | none => simp
      | some q =>
        have := hB a ha q hS
        simp
        omega
    simp only
    rw [hnone]
    simp only
    split
    · exact .inl rfl
    · exact .inr rfl
end Go.Proofs.YtkiknbjokknemaaGreat
