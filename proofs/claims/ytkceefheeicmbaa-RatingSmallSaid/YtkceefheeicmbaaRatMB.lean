/-
  Rows of integers that a call fills: what lists and waiting hold.
-/
import Derived.Test.YtkceefheeicmbaaRatKI
import Derived.Test.YtkceefheeicmbaaRatLD
import Derived.Test.YtkceefheeicmbaaKitG
namespace Go.Proofs.Ytkceefheeicmbaa
open Go.RowKit

theorem ints_pls : ∀ (n : Nat) (zs : List Int), zs.length = n * 2 → ∃ l : List Pl, ints zs = pls l
  | 0, zs, h => ⟨[], by rw [show zs = [] from List.eq_nil_of_length_eq_zero (by omega)]; rfl⟩
  | n + 1, a :: b :: zs, h => by
    obtain ⟨l, hl⟩ := ints_pls n zs (by simp at h; omega)
    exact ⟨⟨a, b⟩ :: l, by rw [pls, List.flatMap_cons, ← pls, ← hl]; rfl⟩
  | n + 1, [], h => by simp at h
  | n + 1, [_], h => by simp at h; omega
theorem ints_gms : ∀ (n : Nat) (zs : List Int), zs.length = n * 3 → ∃ l : List Gm, ints zs = gms l
  | 0, zs, h => ⟨[], by rw [show zs = [] from List.eq_nil_of_length_eq_zero (by omega)]; rfl⟩
  | n + 1, a :: b :: c :: zs, h => by
    obtain ⟨l, hl⟩ := ints_gms n zs (by simp at h; omega)
    exact ⟨⟨a, b, c⟩ :: l, by rw [gms, List.flatMap_cons, ← gms, ← hl]; rfl⟩
  | n + 1, [], h => by simp at h
  | n + 1, [_], h => by simp at h; omega
  | n + 1, [_, _], h => by simp at h; omega
theorem ints_tks : ∀ (n : Nat) (zs : List Int), zs.length = n * 3 → ∃ l : List Tk, ints zs = tks l
  | 0, zs, h => ⟨[], by rw [show zs = [] from List.eq_nil_of_length_eq_zero (by omega)]; rfl⟩
  | n + 1, a :: b :: c :: zs, h => by
    obtain ⟨l, hl⟩ := ints_tks n zs (by simp at h; omega)
    exact ⟨⟨a, b, c⟩ :: l, by rw [tks, List.flatMap_cons, ← tks, ← hl]; rfl⟩
  | n + 1, [], h => by simp at h
  | n + 1, [_], h => by simp at h; omega
  | n + 1, [_, _], h => by simp at h; omega
/-- A row of a number of integers. -/
def RowI (W : World) (o : Own) (τ : Nat) (e : TypeId) (sz : Nat) (A : Option Addr) (n c : Nat) : Prop := ∃ zs : List Int, Row W o τ e sz A n c (ints zs)
section
variable {W W' : World} {o o' : Own} {τ sz n c : Nat} {e : TypeId} {A : Option Addr}
theorem RowI.nil_ (W : World) (o : Own) (τ : Nat) (e : TypeId) (sz : Nat) : RowI W o τ e sz none 0 0 := ⟨[], Row.nil_ _ _ _ _ _⟩
theorem RowI.step (h : RowI W o τ e sz A n c) {ts : List Nat} (k : Step ts W o W' o') (ht : τ ∉ ts) : RowI W' o' τ e sz A n c := by obtain ⟨zs, hz⟩ := h; exact ⟨zs, hz.step k ht⟩
theorem RowI.bound (h : RowI W o τ e sz A n c) : n ≤ c := by obtain ⟨zs, hz⟩ := h; exact hz.sl.2.1
theorem RowI.form (h : RowI W o τ e sz A n c) (hn : 0 < n) : ∃ g, A = some ⟨g, 0, none⟩ ∧ o g = τ := by
  obtain ⟨zs, hz⟩ := h
  obtain ⟨g, cur, hA, ho, -⟩ := hz.form hn
  exact ⟨g, hA, ho⟩
theorem RowI.cell {g : Nat} (h : RowI W o τ e sz (some ⟨g, 0, none⟩) n c) (j : Nat) (hj : j < n * sz) : ∃ x : Int, W.cell? ⟨g, j, none⟩ = some (.int .i64 x) ∧ W.frozen? ⟨g, j, none⟩ = false := by
  obtain ⟨zs, hz⟩ := h
  have hl := hz.len
  simp only [ints, List.length_map] at hl
  obtain ⟨x, hx⟩ : ∃ x, zs[j]? = some x := ⟨_, List.getElem?_eq_getElem (by omega)⟩
  have hn : 0 < n := by
    rcases Nat.eq_zero_or_pos n with h0 | h0
    · subst h0; omega
    · exact h0
  obtain ⟨c1, f1⟩ := Row.cellN hz hn (j := j) (u := .int .i64 x) (by simp [ints, hx])
  exact ⟨x, c1, f1⟩
theorem RowI.set {g : Nat} (h : RowI W o τ e sz (some ⟨g, 0, none⟩) n c) (hn : 0 < n) (j : Nat) (x : Int) : RowI (W.setCell ⟨g, j, none⟩ (.int .i64 x)) o τ e sz (some ⟨g, 0, none⟩) n c := by
  obtain ⟨zs, hz⟩ := h
  have := hz.setc (k := j) hn (.int .i64 x)
  exact ⟨zs.set j x, by rw [show ints (zs.set j x) = (ints zs).set j (.int .i64 x) by simp [ints, List.map_set]]; exact this⟩
theorem RowI.of {vs : List Value} {zs : List Int} (h : Row W o τ e sz A n c vs) (ev : vs = ints zs) : RowI W o τ e sz A n c := ⟨zs, by rw [← ev]; exact h⟩
theorem Sl.headI {zs : List Int} {k : Nat} (h : Sl W o τ sz A n c (ints zs)) (hk : k ≤ n) : Sl W (fun _ => 0) 0 sz A k c (ints (zs.take (k * sz))) := by
  obtain ⟨h1, h2, h3, h4⟩ := h
  have h5 : k * sz ≤ n * sz := Nat.mul_le_mul_right _ hk
  simp only [ints, List.length_map] at h1
  refine ⟨by simp [ints]; omega, by omega, h3, fun hk0 => ?_⟩
  obtain ⟨g, off, hA, -, hg, hc⟩ := h4 (by omega)
  refine ⟨g, off, hA, rfl, hg, fun j u hj => hc j u ?_⟩
  simp only [ints, List.getElem?_map] at hj ⊢
  rw [List.getElem?_take] at hj
  split at hj
  · exact hj
  · simp at hj
theorem RowI.pls (h : RowI W o τ e 2 A n c) {k : Nat} (hk : k ≤ n) : ∃ l, Sl W (fun _ => 0) 0 2 A k c (Go.Proofs.Ytkceefheeicmbaa.pls l) := by
  obtain ⟨zs, hz⟩ := h
  have hs := hz.sl.headI hk
  obtain ⟨l, hl⟩ := ints_pls k (zs.take (k * 2)) (by have := hs.1; simpa [ints] using this)
  exact ⟨l, by rw [← hl]; exact hs⟩
theorem RowI.gms (h : RowI W o τ e 3 A n c) {k : Nat} (hk : k ≤ n) : ∃ l, Sl W (fun _ => 0) 0 3 A k c (Go.Proofs.Ytkceefheeicmbaa.gms l) := by
  obtain ⟨zs, hz⟩ := h
  have hs := hz.sl.headI hk
  obtain ⟨l, hl⟩ := ints_gms k (zs.take (k * 3)) (by have := hs.1; simpa [ints] using this)
  exact ⟨l, by rw [← hl]; exact hs⟩
theorem RowI.tks (h : RowI W o τ e 3 A n c) {k : Nat} (hk : k ≤ n) : ∃ l, Sl W (fun _ => 0) 0 3 A k c (Go.Proofs.Ytkceefheeicmbaa.tks l) := by
  obtain ⟨zs, hz⟩ := h
  have hs := hz.sl.headI hk
  obtain ⟨l, hl⟩ := ints_tks k (zs.take (k * 3)) (by have := hs.1; simpa [ints] using this)
  exact ⟨l, by rw [← hl]; exact hs⟩
theorem step_old {w : World} {t : Nat} (h : Step [] w (fun _ => 0) W o) (k : Step [t] W o W' o') (ht : t ≠ 0) : Step [] w (fun _ => 0) W' o' :=
  ((h.mono (ts' := [t]) (by simp)).trans k).forget (ts' := []) (fun t' ht' _ j _ => by simp at ht'; subst ht'; exact ht.symm)
end
theorem wp_name_set {P : Program} {C : Code} {Q : Exit → Act → World → Prop} {a : Act} {w : World} {ad : Addr} {x : Int} (h : ∀ (v : Int) (W : World), W = w.setCell ad (.int .i64 v) → C.wp P Q a W) : C.wp P Q a (w.setCell ad (.int .i64 x)) := h x _ rfl

/-- Players and games. -/
def LG (w W : World) (o : Own) (n : Nat) (A : Option Addr) (c m : Nat) (B : Option Addr) (d : Nat) : Prop := Step [] w (fun _ => 0) W o ∧ RowI W o 61 61 2 A n c ∧ RowI W o 62 59 3 B m d
section
variable {w W W' : World} {o o' : Own} {n c m d n' c' : Nat} {A B A' : Option Addr}
theorem LG.start (w : World) : LG w w (fun _ => 0) 0 none 0 0 none 0 := ⟨Step.refl _ _ _, RowI.nil_ _ _ _ _ _, RowI.nil_ _ _ _ _ _⟩
theorem LG.step (h : LG w W o n A c m B d) {ts : List Nat} (k : Step ts W o W' o') (hf : ∀ t ∈ ts, t ≠ 0 ∧ t ≠ 61 ∧ t ≠ 62) : LG w W' o' n A c m B d :=
  ⟨((h.1.mono (ts' := ts) (by simp)).trans k).forget (ts' := []) (fun t ht _ j _ => (hf t ht).1.symm), h.2.1.step k (fun h => (hf _ h).2.1 rfl), h.2.2.step k (fun h => (hf _ h).2.2 rfl)⟩
theorem LG.appL {xs : List Int} {a b : Int} (h : LG w W o n A c m B d) (k : Step [61] W o W' o') (hr : Row W' o' 61 61 2 A' n' c' (ints xs ++ [.int .i64 a, .int .i64 b])) : LG w W' o' n' A' c' m B d :=
  ⟨step_old h.1 k (by decide), RowI.of hr (zs := xs ++ [a, b]) (by simp [ints]), h.2.2.step k (by simp)⟩
theorem LG.appG {xs : List Int} {a b s : Int} (h : LG w W o n A c m B d) (k : Step [62] W o W' o') (hr : Row W' o' 62 59 3 A' n' c' (ints xs ++ [.int .i64 a, .int .i64 b, .int .i64 s])) : LG w W' o' n A c n' A' c' :=
  ⟨step_old h.1 k (by decide), h.2.1.step k (by simp), RowI.of hr (zs := xs ++ [a, b, s]) (by simp [ints])⟩
theorem LG.set {g : Nat} (h : LG w W o n A c m (some ⟨g, 0, none⟩) d) (hm : 0 < m) (j : Nat) (x : Int) : LG w (W.setCell ⟨g, j, none⟩ (.int .i64 x)) o n A c m (some ⟨g, 0, none⟩) d := by
  obtain ⟨g', hg, ho⟩ := h.2.2.form hm
  injection hg with hg; injection hg with hg; subst hg
  have k := (Step.refl [62] W o).setCell (p := ⟨g, j, none⟩) (.inr (by rw [ho]; simp)) (.int .i64 x)
  exact ⟨step_old h.1 k (by decide), h.2.1.step k (by simp), h.2.2.set hm j x⟩
theorem LG.cells {g : Nat} (h : LG w W o n A c m (some ⟨g, 0, none⟩) d) (i : Nat) (hi : i < m) :
    ∃ a b : Int, W.cell? ⟨g, i * 3, none⟩ = some (.int .i64 a) ∧ W.cell? ⟨g, i * 3 + 1, none⟩ = some (.int .i64 b) ∧ W.frozen? ⟨g, i * 3 + 1, none⟩ = false := by
  obtain ⟨a, h1, -⟩ := h.2.2.cell (i * 3) (by omega)
  obtain ⟨b, h2, h3⟩ := h.2.2.cell (i * 3 + 1) (by omega)
  exact ⟨a, b, h1, h2, h3⟩
theorem plays_rows {τ τ' a cp b cg : Nat} {e e' : TypeId} {P G : Option Addr} (h1 : RowI W o τ e 2 P a cp) (h2 : RowI W o τ' e' 3 G b cg) (ha : a ≤ 300) (hb : b ≤ 2000) (k : Int) : Calls Try.prog 28 #[.slice P a cp, .slice G b cg, .int .i64 k] W (SaysTo W true) := by
  obtain ⟨l, hl⟩ := h1.pls (Nat.le_refl _)
  obtain ⟨gs, hg⟩ := h2.gms (Nat.le_refl _)
  exact plays_any W P a cp l hl G b cg gs hg k ha hb
theorem LG.plays (h : LG w W o n A c m B d) {i j : Nat} (hi : i ≤ n) (hj : j ≤ m) (hi3 : i ≤ 300) (hj2 : j ≤ 2000) (k : Int) : Calls Try.prog 28 #[.slice A i c, .slice B j d, .int .i64 k] W (SaysTo W true) := by
  obtain ⟨l, hl⟩ := h.2.1.pls hi
  obtain ⟨gs, hg⟩ := h.2.2.gms hj
  exact plays_any W A i c l hl B j d gs hg k hi3 hj2
end
/-- Players and games, and a list of each beside them. -/
def PG (w W : World) (o : Own) (n : Nat) (A : Option Addr) (c m : Nat) (B : Option Addr) (d : Nat) (P : Option Addr) (a cp : Nat) (G : Option Addr) (b cg : Nat) : Prop := LG w W o n A c m B d ∧ RowI W o 71 61 2 P a cp ∧ RowI W o 72 59 3 G b cg
section
variable {w W W' : World} {o o' : Own} {n c m d a cp b cg : Nat} {A B P G : Option Addr}
theorem PG.setP {g : Nat} (h : PG w W o n A c m B d (some ⟨g, 0, none⟩) a cp G b cg) (ha : 0 < a) (j : Nat) (x : Int) : PG w (W.setCell ⟨g, j, none⟩ (.int .i64 x)) o n A c m B d (some ⟨g, 0, none⟩) a cp G b cg := by
  obtain ⟨h1, h2, h3⟩ := h
  obtain ⟨g', hg, ho⟩ := h2.form ha
  injection hg with hg; injection hg with hg; subst hg
  have k := (Step.refl [71] W o).setCell (p := ⟨g, j, none⟩) (.inr (by rw [ho]; simp)) (.int .i64 x)
  exact ⟨h1.step k (by simp), h2.set ha j x, h3.step k (by simp)⟩
theorem PG.setG {g : Nat} (h : PG w W o n A c m B d P a cp (some ⟨g, 0, none⟩) b cg) (hb : 0 < b) (j : Nat) (x : Int) : PG w (W.setCell ⟨g, j, none⟩ (.int .i64 x)) o n A c m B d P a cp (some ⟨g, 0, none⟩) b cg := by
  obtain ⟨h1, h2, h3⟩ := h
  obtain ⟨g', hg, ho⟩ := h3.form hb
  injection hg with hg; injection hg with hg; subst hg
  have k := (Step.refl [72] W o).setCell (p := ⟨g, j, none⟩) (.inr (by rw [ho]; simp)) (.int .i64 x)
  exact ⟨h1.step k (by simp), h2.step k (by simp), h3.set hb j x⟩
theorem PG.nilP (h : PG w W o n A c m B d P a cp G b cg) : PG w W o n A c m B d none 0 0 G b cg := ⟨h.1, RowI.nil_ _ _ _ _ _, h.2.2⟩
theorem PG.nilG (h : PG w W o n A c m B d P a cp G b cg) : PG w W o n A c m B d P a cp none 0 0 := ⟨h.1, h.2.1, RowI.nil_ _ _ _ _ _⟩
theorem PG.plays (h : PG w W o n A c m B d P a cp G b cg) (ha : a ≤ 300) (hb : b ≤ 2000) (k : Int) : Calls Try.prog 28 #[.slice P a cp, .slice G b cg, .int .i64 k] W (SaysTo W true) := plays_rows h.2.1 h.2.2 ha hb k
end
end Go.Proofs.Ytkceefheeicmbaa
