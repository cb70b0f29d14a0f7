/-
  WALK of Pairs where it accepts.
-/
import Derived.Test.YtkceefheeicmbaaRatX
import Derived.Test.YtkceefheeicmbaaRatT
import Derived.Maps.AppendAt
import Derived.Maps.Own
import Derived.Maps.OwnOps
import Derived.Maps.Views
namespace Go.Proofs.Ytkceefheeicmbaa
open Go.RowKit Go.Shelf Go.Maps

attribute [local go_sem] Oper.semAt_some

theorem keyI : Keyed Try.prog 3 := int_keyed Try.underlying3
theorem zeroI (w : World) : (zeroValue 3).run Try.prog w = .ok (.int .i64 0) w := by kernel_rfl
theorem wf_i64 {x : Int} (h : -9223372036854775808 ≤ x) (h' : x ≤ 9223372036854775807) : (Lit.int .i64 x).wf = true := by
  simp only [Lit.wf, Bool.and_eq_true, decide_eq_true_eq]
  have e1 : IntKind.i64.min = -9223372036854775808 := by decide +kernel
  have e2 : IntKind.i64.max = 9223372036854775807 := by decide +kernel
  rw [e1, e2]
  exact ⟨h, h'⟩
theorem ownsMap_heap {w w' : World} {P : Program} {k : TypeId} {R : Value → Option (DataW Unit × List MemPlace)} {b n : Nat} {D : DataW Unit} (h : w.ownsMap P k R b n D) (hh : w'.heap[b]? = w.heap[b]?) : w'.ownsMap P k R b n D := by
  obtain ⟨es, clock, h1, h2⟩ := h
  exact ⟨es, clock, hh.trans h1, h2⟩
theorem isMap_put {D : DataW Unit} (h : IsMap D) (k : Lit) (d : DataW Unit) : IsMap (D.put k d) := by
  obtain ⟨es, rfl⟩ := h; exact ⟨_, rfl⟩

set_option maxHeartbeats 400000 in
theorem meetings_any (w : World) (A : Option Addr) (n c : Nat) (t : Int) :
    Calls Try.prog 52 #[.slice A n c, .int .i64 t] w fun e w' => e = .returned (.func (.func 73) #[] #[.pointer (some ⟨w.heap.size, 0, none⟩), .pointer (some ⟨w.heap.size + 1, 0, none⟩)]) ∧ w' = (w.alloc (.cells #[.slice A n c] 34)).alloc (.cells #[.int .i64 t] 3) := by
  go_enter Try.func52, Try.ntmps52
  go_wp2_with fail
  go_ret
  exact ⟨rfl, rfl⟩

/-- The sort, at rows: nil or not. -/
theorem sortV (W : World) (o : Own) (τ : Nat) (A : Option Addr) (n c : Nat) (ms : List Key) (hn : n ≤ 4096) (hR : Row W o τ 89 6 A n c (mts ms)) :
    Calls Try.prog 53 #[.slice A n c, .func (.func 54) #[] #[]] W fun e w' => e = .returned (.tuple #[]) ∧
      ∃ o', Step [τ] W o w' o' ∧ Sl w' o' τ 6 A n c (mts (sortK ms)) := by
  have hlen : ms.length = n := by have := hR.len; rw [len_mts] at this; omega
  have hsl := hR.sl
  rcases Nat.eq_zero_or_pos n with h0 | h0
  · subst h0
    have hms : ms = [] := List.eq_nil_of_length_eq_zero hlen
    subst hms
    refine (AnyF.slices_SortFunc_none Try.sortMeet A c _ W).mono ?_
    rintro e w' ⟨he, rfl⟩
    exact ⟨he, o, Step.refl _ _ _, by simpa [sortK] using hsl⟩
  · obtain ⟨g, cur, rfl, hog, hb, hnc, hcm, hcs, htk⟩ := hR.form h0
    have hcell : ∀ i m, ms[i]? = some m → ∀ j, j < 6 → W.cell? ⟨g, i * 6 + j, none⟩ = (encM m)[j]? := by
      intro i m hi j hj
      have hin := (List.getElem?_eq_some_iff.1 hi).1
      obtain ⟨g', off, hA, -, -, hc⟩ := hsl.2.2.2 h0
      injection hA with hA; injection hA with hA hoff
      subst hA hoff
      have h1 := mts_get ms i m hi j hj
      rw [encM_at m hj] at h1 ⊢
      have := hc _ _ h1
      rwa [Nat.zero_add] at this
    refine (sortM_any W o τ g n c h0 ms hlen hb.lt hog hn hcell (fun k => hb.frozen k)).mono ?_
    rintro e w' ⟨he, hst, hq⟩
    refine ⟨he, _, hst, ⟨by rw [len_mts, sortK_len, hlen], hnc, hcm, fun _ => ⟨g, 0, rfl, (hst.own _ hb.lt).trans hog, Nat.lt_of_lt_of_le hb.lt hst.size, fun j u hj => ?_⟩⟩⟩
    have hjl := (List.getElem?_eq_some_iff.1 hj).1
    rw [len_mts, sortK_len, hlen] at hjl
    obtain ⟨m, hm⟩ : ∃ m, (sortK ms)[j / 6]? = some m := ⟨_, List.getElem?_eq_getElem (by rw [sortK_len, hlen]; omega)⟩
    have h1 := mts_get _ _ _ hm (j % 6) (by omega)
    have h2 := hq _ _ hm (j % 6) (by omega)
    rw [show j / 6 * 6 + j % 6 = j by omega] at h1 h2
    rw [Nat.zero_add, h2, ← h1, hj]

/-- The iterator, in the caller's words. -/
theorem meet_stops (r : Nat) (hr : 1 ≤ r) (bl bt : Nat) (w0 W : World) (A : Option Addr) (n c : Nat) (ts : List Tk) (t : Int) (hS : Sl w0 (fun _ => 0) 0 3 A n c (tks ts)) (hok : ∀ (i : Nat) x, ts[i]? = some x → okT x = true) (ht : 0 ≤ t ∧ t ≤ 1073741824) (h64 : n ≤ 64)
    (hb : Below w0.heap.size w0 W) (hl : Blk W bl 34 #[.slice A n c]) (hbt : Blk W bt 3 #[.int .i64 t]) :
    SeqStopsK Fence.wide r Try.prog 73 #[.pointer (some ⟨bl, 0, none⟩), .pointer (some ⟨bt, 0, none⟩)] (fun x : Key => #[mV x]) (KpM w0.heap.size) (fun ys => ys = mtgs t ts) (fun _ => True) 4096 W :=
  fun l J Jx W' hW hJ _ hY h0 => meet1_in r hr l bl bt w0 A n c ts t hS hok ht h64 J Jx W' hJ (Nat.le_trans hb.size hW.size) hY
    ⟨h0, hb.trans (hW.mono hb.size), hl.below hW hl.lt, hbt.below hW hbt.lt⟩

abbrev prs (l : List (Int × Int)) : List Value := l.flatMap fun x => [.int .i64 x.1, .int .i64 x.2]

/-- What Pairs comes to. -/
def PairsTo (w : World) (l : List Tk) (t : Int) (e : Ending) (w' : World) : Prop := ∃ A' c' o', e = .returned (.tuple #[.slice A' (pairsM l t).length c', .int .i64 0]) ∧
  Step [] w (fun _ => 0) w' o' ∧ Row w' o' 33 48 2 A' (pairsM l t).length c' (prs (pairsM l t))

/-- Who owns what behind the loop: what lay 0, the row 40, all else that is new 5. -/
def own3 (n0 : Nat) (v : Value) : Own := fun i => if i < n0 then 0 else if some i = v.ownBlock then 40 else 5
theorem row_of {n0 : Nat} {W : World} {e : TypeId} {sz k : Nat} {v : Value} {xs : List Value} (h : W.ownsRow n0 e sz v k xs) : ∃ A c, v = .slice A k c ∧ Row W (own3 n0 v) 40 e sz A k c xs := by
  rcases h.2 with ⟨rfl, rfl⟩ | ⟨g, cap, cur, rfl, hg, hgb, hr⟩
  · exact ⟨none, 0, rfl, ⟨⟨h.1, .inl ⟨rfl, rfl⟩⟩, fun _ h => by cases h⟩⟩
  · exact ⟨_, _, rfl, ⟨⟨h.1, .inr ⟨g, cap, cur, rfl, Nat.zero_le _, hgb, hr⟩⟩, fun ad had => by
      injection had with had; subst had
      unfold own3
      rw [if_neg (Nat.not_lt.2 hg)]; exact if_pos rfl⟩⟩
theorem step_own3 {w W : World} (hb : Below w.heap.size w W) (v : Value) : Step [] w (fun _ => 0) W (own3 w.heap.size v) :=
  ⟨hb.os, hb.tape, hb.output, hb.size, fun k hk => by unfold own3; rw [if_pos hk], fun k hk _ => hb.block k hk⟩
theorem own3_other {n0 D : Nat} {W : World} {e : TypeId} {sz k : Nat} {v : Value} {xs : List Value} (h : W.ownsRow n0 e sz v k xs) {o : Obj} (hD : W.heap[D]? = some o) (ho : o.isCells = false) : own3 n0 v D ≠ 40 := by
  unfold own3
  split
  · decide
  · split
    · rename_i h2
      exfalso
      rcases h.2 with ⟨rfl, rfl⟩ | ⟨g, cap, cur, rfl, hg, hgb, hr⟩
      · simp [Value.ownBlock] at h2
      · obtain rfl : D = g := by simpa [Value.ownBlock] using h2
        rw [hgb] at hD; injection hD with hD; subst hD; simp [Obj.isCells] at ho
    · decide
theorem own3_vals (n0 : Nat) (v : Value) (i : Nat) : own3 n0 v i = 0 ∨ own3 n0 v i = 40 ∨ own3 n0 v i = 5 := by
  unfold own3
  split
  · exact .inl rfl
  · split
    · exact .inr (.inl rfl)
    · exact .inr (.inr rfl)
/-- The block of the rounds' deferred calls is taken. -/
theorem put_end {w W : World} {ow : Own} {τ D : Nat} {e : TypeId} {sz n c : Nat} {A : Option Addr} {xs : List Value} {o : Obj} (hst : Step [] w (fun _ => 0) W ow) (hr : Row W ow τ e sz A n c xs) (hD : W.heap[D]? = some o) (ho : o.isCells = false) (hw : w.heap.size ≤ D) (o' : Obj) :
    Step [] w (fun _ => 0) (W.putObj D o') (ext ow W.heap.size 5) ∧ Row (W.putObj D o') (ext ow W.heap.size 5) τ e sz A n c xs := by
  refine ⟨hst.grown (grownBy_putObj' W D o') (fun g hg => by injection hg with hg; subst hg; exact .inl hw) 5, ownsRow_putObj hr.1 _ hD ho, fun ad had => ?_⟩
  rw [ext_lt (hr.lt had)]
  exact hr.2 ad had
theorem cell_six_new (w : World) (x : Key) (t : TypeId) : ∀ j u, (encM x)[j]? = some u → (w.alloc (.cells (mC x) t)).cell? ((⟨w.heap.size, 0, none⟩ : Addr).add j) = some u := by
  intro j u hj
  have e : (⟨w.heap.size, 0, none⟩ : Addr).add j = ⟨w.heap.size, j, none⟩ := by simp [Addr.add]; omega
  have h := (Blk.new w t (mC x)).cell j
  have e2 : (mC x)[j]? = (encM x)[j]? := by
    show ((encM x).toArray)[j]? = _
    rw [List.getElem?_toArray]
  rw [e, h, ← hj, e2]
theorem mts_snoc (pre : List Key) (x : Key) : mts (pre ++ [x]) = mts pre ++ encM x := by simp [mts]
theorem kp_append {n0 B : Nat} {W w1 : World} {v v' : Value} {k : Nat} {xs : List Value} {tmp : Obj} (hv : Boxed W B 83 v) (hrow : W.ownsRow n0 89 6 v k xs) (hg : (W.alloc tmp).grownBy w1 v.ownBlock) (hb : Below n0 W (w1.setCell ⟨B, 0, none⟩ v')) : KpM n0 W (w1.setCell ⟨B, 0, none⟩ v') := by
  refine ⟨hb, fun g t cs h1 h2 hbl => ?_⟩
  have hgB : g ≠ B := by
    rintro rfl
    have := (show W.heap[g]? = _ from hv).symm.trans hbl
    simp at this
    exact h1 this.2.symm
  have hgr : some g ≠ v.ownBlock := by
    rcases hrow.2 with ⟨rfl, _⟩ | ⟨g', cap, cur, rfl, _, hgb, _⟩
    · simp [Value.ownBlock]
    · intro e'
      obtain rfl : g = g' := by simpa [Value.ownBlock] using e'
      have := hgb.symm.trans hbl
      simp at this
      exact h2 this.2.symm
  exact ((hbl.alloc tmp).grown hg hgr).far (p := ⟨B, 0, none⟩) hgB v'

/-! who is taken, as a map -/
abbrev keyL1 (x : Int) : Lit := .int .i64 x
abbrev litD (x : Int) : DataW Unit := .lit (.int .i64 x)
def TakenIs (D : DataW Unit) (T : List Int) : Prop := IsMap D ∧ ∀ id, ∃ c : Int, D.atKey (keyL1 id) (litD 0) = litD c ∧ 0 ≤ c ∧ c ≤ 2 ∧ (c = 0 ↔ id ∉ T)
theorem taken_nil : TakenIs (.map []) [] := ⟨⟨[], rfl⟩, fun id => ⟨0, rfl, by omega, by omega, by simp⟩⟩
theorem taken_two {D : DataW Unit} {T : List Int} (h : TakenIs D T) {a b : Int} (ha : a ∉ T) (hb : b ∉ T) :
    ∃ cb : Int, (D.put (keyL1 a) (litD 1)).atKey (keyL1 b) (litD 0) = litD cb ∧ 0 ≤ cb ∧ cb ≤ 1 ∧ TakenIs ((D.put (keyL1 a) (litD 1)).put (keyL1 b) (litD (cb + 1))) (a :: b :: T) := by
  obtain ⟨hm, hD⟩ := h
  have hm1 := isMap_put hm (keyL1 a) (litD 1)
  have fin : ∀ cb : Int, 0 ≤ cb → cb ≤ 1 → TakenIs ((D.put (keyL1 a) (litD 1)).put (keyL1 b) (litD (cb + 1))) (a :: b :: T) := fun cb h0 h1 => by
    refine ⟨isMap_put hm1 _ _, fun id => ?_⟩
    by_cases hib : id = b
    · subst hib
      exact ⟨cb + 1, atKey_put_same hm1 (show WideAt.IsKeyLit (.int .i64 id) from trivial) _ _, by omega, by omega, by simp; omega⟩
    · rw [atKey_put_other (by intro e; injection e with _ e; exact hib e)]
      by_cases hia : id = a
      · subst hia
        exact ⟨1, atKey_put_same hm (show WideAt.IsKeyLit (.int .i64 id) from trivial) _ _, by omega, by omega, by simp⟩
      · rw [atKey_put_other (by intro e; injection e with _ e; exact hia e)]
        obtain ⟨c, h1, h2, h3, h4⟩ := hD id
        exact ⟨c, h1, h2, h3, by rw [h4]; simp [hia, hib]⟩
  by_cases hab : b = a
  · subst hab
    exact ⟨1, atKey_put_same hm (show WideAt.IsKeyLit (.int .i64 b) from trivial) _ _, by omega, by omega, fin 1 (by omega) (by omega)⟩
  · refine ⟨0, ?_, by omega, by omega, fin 0 (by omega) (by omega)⟩
    rw [atKey_put_other (by intro e; injection e with _ e; exact hab e)]
    obtain ⟨c, h1, -, -, h4⟩ := hD b
    rw [h1, h4.2 hb]

/-- One meeting of a row of meetings. -/
theorem Sl.mt {w : World} {o : Own} {τ n c : Nat} {A : Option Addr} {l : List Key} (h : Sl w o τ 6 A n c (mts l)) {k : Nat} {x : Key} (hx : l[k]? = some x) :
    ∃ g off, A = some ⟨g, off, none⟩ ∧ o g = τ ∧ g < w.heap.size ∧ w.cell? ⟨g, off + k * 6, none⟩ = some (.int .i64 x.a) ∧ w.cell? ⟨g, off + k * 6 + 1, none⟩ = some (.int .i64 x.b) ∧ w.cell? ⟨g, off + k * 6 + 2, none⟩ = some (.int .i64 x.d) ∧
      w.cell? ⟨g, off + k * 6 + 3, none⟩ = some (.int .i64 x.s) ∧ w.cell? ⟨g, off + k * 6 + 4, none⟩ = some (.int .i64 x.a) ∧ w.cell? ⟨g, off + k * 6 + 5, none⟩ = some (.int .i64 x.b) := by
  have hk := (List.getElem?_eq_some_iff.1 hx).1
  have h1 := h.1
  rw [len_mts] at h1
  obtain ⟨g, off, hA, ho, hg, hc⟩ := h.2.2.2 (by omega)
  have hj := fun j (hj : j < 6) => mts_get l k x hx j hj
  exact ⟨g, off, hA, ho, hg, hc _ _ (hj 0 (by omega)), hc _ _ (hj 1 (by omega)), hc _ _ (hj 2 (by omega)), hc _ _ (hj 3 (by omega)), hc _ _ (hj 4 (by omega)), hc _ _ (hj 5 (by omega))⟩

/-- Inside the last loop: k meetings have been looked at, q pairs chosen. -/
structure MapI (w6 wt : World) (o6 ow : Own) (mb k q : Nat) (A : Option Addr) (c : Nat) (S : List Key) : Prop where
  st : Step [41, 33] w6 o6 wt ow
  map : ∃ cnt D, cnt ≤ 2 * k ∧ wt.ownsMap Try.prog 3 (plainElem (H := Unit) Try.prog 3) mb cnt D ∧ TakenIs D (gfold (S.take k)).1
  row : Row wt ow 33 48 2 A q c (prs (gfold (S.take k)).2)
  q : q = (gfold (S.take k)).2.length
  mo : ow mb = 41
  ml : mb < w6.heap.size
theorem MapI.take {w6 wt : World} {o6 ow : Own} {mb k q : Nat} {A : Option Addr} {c : Nat} {S : List Key} (h : MapI w6 wt o6 ow mb k q A c S) {m : Key} (hm : S[k]? = some m) (ht : m.a ∈ (gfold (S.take k)).1 ∨ m.b ∈ (gfold (S.take k)).1) (X : Obj) :
    MapI w6 (wt.alloc X) o6 (ext ow wt.heap.size 5) mb (k + 1) q A c S := by
  obtain ⟨st, ⟨cnt, D, h1, h2, h3⟩, hr, hq, ho, hl⟩ := h
  have e : gfold (S.take (k + 1)) = gfold (S.take k) := by rw [gfold_snoc hm]; unfold gstep; rw [if_pos ht]
  have hml : mb < wt.heap.size := Nat.lt_of_lt_of_le hl st.size
  refine ⟨st.alloc X 5, ⟨cnt, D, by omega, h2.alloc X, by rw [e]; exact h3⟩, ?_, by rw [e]; exact hq, by rw [ext_lt hml]; exact ho, hl⟩
  rw [e]
  exact hr.step ((Step.refl [] wt ow).alloc X 5) (by simp)
theorem MapI.mid {w6 wt w7 w8 : World} {o6 ow : Own} {mb k q : Nat} {A : Option Addr} {c : Nat} {S : List Key} (h : MapI w6 wt o6 ow mb k q A c S) (X : Obj) (h7 : (wt.alloc X).grownBy w7 (some mb)) (h8 : w7.grownBy w8 (some mb)) (a b : Int) :
    ∃ oX, Step [41, 33] w6 o6 (w8.alloc (.cells #[.int .i64 a, .int .i64 b] 48)) oX ∧ Row (w8.alloc (.cells #[.int .i64 a, .int .i64 b] 48)) oX 33 48 2 A q c (prs (gfold (S.take k)).2) ∧ oX mb = 41 ∧
      Sl (w8.alloc (.cells #[.int .i64 a, .int .i64 b] 48)) oX 5 2 (some ⟨w8.heap.size, 0, none⟩) 1 1 [.int .i64 a, .int .i64 b] := by
  obtain ⟨st, -, hr, hq, ho, hl⟩ := h
  have hml : mb < wt.heap.size := Nat.lt_of_lt_of_le hl st.size
  have sA := (Step.refl [41] wt ow).alloc X 5
  have m1 : ext ow wt.heap.size 5 mb = 41 := by rw [ext_lt hml]; exact ho
  have sB := sA.grown h7 (fun g hg => by injection hg with hg; subst hg; exact .inr (by rw [m1]; simp)) 5
  have hml1 : mb < (wt.alloc X).heap.size := by rw [World.size_alloc]; omega
  have m2 : ext (ext ow wt.heap.size 5) (wt.alloc X).heap.size 5 mb = 41 := by rw [ext_lt hml1]; exact m1
  have sC := sB.grown h8 (fun g hg => by injection hg with hg; subst hg; exact .inr (by rw [m2]; simp)) 5
  have hml2 : mb < w7.heap.size := Nat.lt_of_lt_of_le hml1 h7.size
  have m3 : ext (ext (ext ow wt.heap.size 5) (wt.alloc X).heap.size 5) w7.heap.size 5 mb = 41 := by rw [ext_lt hml2]; exact m2
  have sD := sC.alloc (.cells #[.int .i64 a, .int .i64 b] 48) 5
  have hml3 : mb < w8.heap.size := Nat.lt_of_lt_of_le hml2 h8.size
  have bN := Blk.new w8 48 #[.int .i64 a, .int .i64 b]
  refine ⟨_, st.trans (sD.mono (by simp)), hr.step sD (by decide), by rw [ext_lt hml3]; exact m3, ⟨rfl, Nat.le_refl _, by decide, fun _ => ⟨w8.heap.size, 0, rfl, ext_ge (Nat.le_refl _), bN.lt, fun j u hj => ?_⟩⟩⟩
  rw [Nat.zero_add, bN.cell]
  simpa using hj
theorem prs_snoc (l : List (Int × Int)) (a b : Int) : prs (l ++ [(a, b)]) = prs l ++ [.int .i64 a, .int .i64 b] := by simp [prs]
theorem MapI.next {w6 wX w9 : World} {o6 oX : Own} {mb k q cnt : Nat} {A A' : Option Addr} {c c' : Nat} {S : List Key} {m : Key} {D : DataW Unit} (hm : S[k]? = some m) (ha : m.a ∉ (gfold (S.take k)).1) (hb : m.b ∉ (gfold (S.take k)).1) (hq : q = (gfold (S.take k)).2.length) (hl : mb < w6.heap.size)
    (hst : Step [41, 33] w6 o6 wX oX) (hmo : oX mb = 41) (hrow : Row wX oX 33 48 2 A q c (prs (gfold (S.take k)).2)) (hcnt : cnt ≤ 2 * k) (hmap : wX.ownsMap Try.prog 3 (plainElem (H := Unit) Try.prog 3) mb (cnt + 1 + 1) D) (hT : TakenIs D (m.a :: m.b :: (gfold (S.take k)).1))
    (hg : wX.grownBy w9 (Value.slice A q c).ownBlock) (hr9 : Row w9 (ext oX wX.heap.size 33) 33 48 2 A' (q + 1) c' (prs (gfold (S.take k)).2 ++ [.int .i64 m.a, .int .i64 m.b])) :
    MapI w6 w9 o6 (ext oX wX.heap.size 33) mb (k + 1) (q + 1) A' c' S := by
  have s9 := Step.append hrow hg 33
  have hml : mb < wX.heap.size := Nat.lt_of_lt_of_le hl hst.size
  have e : gfold (S.take (k + 1)) = (m.a :: m.b :: (gfold (S.take k)).1, (gfold (S.take k)).2 ++ [(m.a, m.b)]) := by
    rw [gfold_snoc hm]; unfold gstep; rw [if_neg (by rintro (h | h); exact ha h; exact hb h)]
  refine ⟨hst.trans (s9.mono (by simp)), ⟨cnt + 1 + 1, D, by omega, ownsMap_heap hmap (s9.block mb hml (by rw [hmo]; decide)), by rw [e]; exact hT⟩, ?_, by rw [e, List.length_append, hq]; rfl, by rw [ext_lt hml]; exact hmo, hl⟩
  rw [e]
  show Row _ _ _ _ _ _ _ _ (prs (_ ++ [(m.a, m.b)]))
  rw [prs_snoc]
  exact hr9
theorem el_pair : Elem Try.prog 43 48 2 16 (.agg #[.int .i64 0, .int .i64 0]) := ⟨Try.underlying43, by kernel_rfl, rfl, by decide⟩

theorem key_ids {l : List Tk} {t : Int} (hok : ∀ (i : Nat) x, l[i]? = some x → okT x = true) {k : Nat} {m : Key} (hm : (sortK (mtgs t l))[k]? = some m) : 1 ≤ m.a ∧ m.a ≤ 65536 ∧ 1 ≤ m.b ∧ m.b ≤ 65536 := by
  have h1 := (sortK_perm (mtgs t l)).mem_iff.1 (List.mem_of_getElem? hm)
  obtain ⟨x, hx, y, hy, -, rfl⟩ := mem_mtgs h1
  obtain ⟨i, hi⟩ := List.getElem?_of_mem hx
  obtain ⟨j, hj⟩ := List.getElem?_of_mem hy
  have hx := okT_iff.1 (hok i x hi)
  have hy := okT_iff.1 (hok j y hj)
  unfold keyT
  simp only
  omega

theorem infoM : (Try.prog.info? 89).map (fun i => (i.zero, i.size, i.bytes)) = some (some (.agg #[.int .i64 0, .int .i64 0, .int .i64 0, .int .i64 0, .int .i64 0, .int .i64 0]), 6, 48) := by kernel_rfl

set_option maxRecDepth 100000 in
set_option maxHeartbeats 8000000 in
theorem Pairs_ok (w : World) (A : Option Addr) (n c : Nat) (l : List Tk) (t : Int) (hS : Sl w (fun _ => 0) 0 3 A n c (tks l)) (hok : pairsOk l t = true) :
    Calls Try.prog 26 #[.slice A n c, .int .i64 t] w (PairsTo w l t) := by
  have hl : l.length = n := by have := hS.1; rw [len_tks] at this; omega
  have hcn := hS.2.1
  have hcm := hS.2.2.1
  unfold maxLen at hcm
  unfold pairsOk at hok
  simp only [Bool.and_eq_true, decide_eq_true_eq] at hok
  obtain ⟨⟨⟨h64, ht0⟩, ht1⟩, hall⟩ := hok
  rw [hl] at h64 hall
  have d1 : decide (64 < (n : Int)) = false := by simp; omega
  have d2 : decide (t < 0) = false := by simp; omega
  have d3 : decide (1073741824 < t) = false := by simp; omega
  have hoki : ∀ (i : Nat) x, l[i]? = some x → okT x = true := fun i x hx => okTo_get hall (by have := (List.getElem?_eq_some_iff.1 hx).1; omega) hx
  obtain ⟨i0, hi0, hz0, hz1, hz2⟩ := info_parts infoM
  have HS := Lib.hid hS; have HL := Lib.hid hl; have HALL := Lib.hid hall; have HOKI := Lib.hid hoki
  clear hS hl hall hoki
  refine (callsIn_wide (n := 5)).1 ?_
  refine callsIn_of_wp_marks Try.func26 rfl trivial ?_ rfl
  simp only [Try.ntmps26, List.size_toArray, List.length_cons, List.length_nil, Nat.reduceAdd, Nat.reduceSub, Array.replicate_succ, Array.replicate_zero, List.push_toArray, List.append_toArray, List.nil_append, List.cons_append]
  refine wpIn_wide.2 ?_
  go_wp2_with fail
  go_loopw [27, 6, 7] (fun s _ _ wr => ∃ k : Nat, k ≤ n ∧ s = .int .i64 k ∧ Hid (Below w.heap.size w wr)) (fun s _ _ _ => n - (intOf s).toNat)
  case atStart => exact ⟨0, Nat.zero_le _, rfl, Lib.hid (Below.refl _ _)⟩
  case round =>
    obtain ⟨k, hk, rfl, HK⟩ := hrel
    by_cases hlt : k < n
    · obtain ⟨x, hx⟩ : ∃ x, l[k]? = some x := ⟨_, List.getElem?_eq_getElem (by rw [HL.out]; exact hlt)⟩
      have hsl := HS.out.step ((Step.refl [] w (fun _ => 0)).below HK.out 5) (by simp)
      obtain ⟨g, off, rfl, -, hg2, c0, c1, c2⟩ := hsl.tk hx
      have hox := okT_iff.1 (HOKI.out k x hx)
      have hok := okTo_succ hx
      rw [okTo_mono HALL.out (show k + 1 ≤ n by omega), okTo_mono HALL.out hk, HOKI.out k x hx] at hok
      have hC : false = ((l.take k).any fun u => u.id == x.id) := by
        cases h : ((l.take k).any fun u => u.id == x.id) with
        | false => rfl
        | true => rw [h] at hok; simp at hok
      obtain ⟨x1, x2, x3, x4, x5, x6⟩ := hox
      have hr := fun W => isRating_any W x.rt true (inR_iff.2 ⟨x3, x4⟩).symm
      have hbx := (Below.refl wr.heap.size wr).alloc (Nat.le_refl _) (.cells (tC x) 24)
      have hct := containsT_any _ _ _ _ _ _ (l.take k) ((hsl.step ((Step.refl [] wr _).below hbx 5) (by simp)).ahead hk) wr.heap.size x.id ((Blk.new wr 24 (tC x)).cell 0) false hC
      have q1 : decide (x.id < 1) = false := by simp; omega
      have q2 : decide (65536 < x.id) = false := by simp; omega
      have q3 : decide (x.si < 0) = false := by simp; omega
      have q4 : decide (1073741824 < x.si) = false := by simp; omega
      have HR := Lib.hid hr; have HCT := Lib.hid hct; have HBX := Lib.hid (HK.out.trans (hbx.mono HK.out.size))
      clear hok hr hct hbx hC hx hsl x1 x2 x3 x4 x5 x6
      go_wp2_with fail
      refine (HR.out _).mono ?_
      rintro e w1 ⟨rfl, rfl⟩
      go_wp2_with fail
      refine HCT.out.mono ?_
      rintro e w2 ⟨rfl, hb2⟩
      have HB2 := Lib.hid (HBX.out.trans (hb2.mono HBX.out.size)); clear hb2
      go_wp2_with fail
      go_roundw
      case rel => exact ⟨k + 1, by omega, by go_num, HB2⟩
      case measure => simp [intOf]; omega
    · obtain rfl : n = k := by omega
      go_wp2_with fail
      refine (meetings_any _ _ _ _ _).mono ?_
      rintro e w1 ⟨rfl, rfl⟩
      go_wp2_with fail
      obtain ⟨bA, hbA⟩ : ∃ b, b = wr.heap.size := ⟨_, rfl⟩
      have b1 := ((Boxed.new wr 83 (.slice none 0 0)).alloc (.cells #[.slice A n c] 34)).alloc (.cells #[.int .i64 t] 3)
      have b2 := (Blk.new (wr.alloc (.cells #[.slice none 0 0] 83)) 34 #[.slice A n c]).alloc (.cells #[.int .i64 t] 3)
      have b3 := Blk.new ((wr.alloc (.cells #[.slice none 0 0] 83)).alloc (.cells #[.slice A n c] 34)) 3 #[.int .i64 t]
      have hB0 : Below w.heap.size w (((wr.alloc (.cells #[.slice none 0 0] 83)).alloc (.cells #[.slice A n c] 34)).alloc (.cells #[.int .i64 t] 3)) := HK.out.trans (((((Below.refl _ wr).alloc (Nat.le_refl _) _).alloc (by simp) _).alloc (by simp; omega) _).mono HK.out.size)
      have hsz : (((wr.alloc (.cells #[.slice none 0 0] 83)).alloc (.cells #[.slice A n c] 34)).alloc (.cells #[.int .i64 t] 3)).heap.size = wr.heap.size + 3 := by simp
      have hwA := HK.out.size
      simp only [World.size_alloc] at b2 b3
      obtain ⟨W0, hW0⟩ : ∃ W0, ((wr.alloc (.cells #[.slice none 0 0] 83)).alloc (.cells #[.slice A n c] 34)).alloc (.cells #[.int .i64 t] 3) = W0 := ⟨_, rfl⟩
      rw [hW0] at b1 b2 b3 hB0 hsz ⊢
      rw [← hbA] at b1 b2 b3 hsz hwA ⊢
      clear hW0 hbA HK
      refine (wpIn_wide (n := 5)).1 ?_
      have hml := mtgs_len t l
      refine wpIn_rangeFunc_ownH (F := Fence.wide) rfl (by omega) (gf := 73) (lb := #[.pointer (some ⟨bA + 1, 0, none⟩), .pointer (some ⟨bA + 1 + 1, 0, none⟩)]) rfl trivial (enters_of Try.func73 (by kernel_rfl) rfl)
        (meet_stops 4 (by omega) (bA + 1) (bA + 1 + 1) w W0 A n c l t HS.out HOKI.out ⟨ht0, ht1⟩ h64 hB0 b2 b3) KpM.trans (fun W l0 o o' h1 h2 h3 _ => KpM.put W l0 o o' (by omega) h2 h3) (Below.refl _ _) (fun _ => rfl)
        (fun pre W => (∃ v, Boxed W bA 83 v ∧ W.ownsRow w.heap.size 89 6 v pre.length (mts pre) ∧ True) ∧ Below w.heap.size w W)
        (fun _ _ _ => False)
        (OwnFrom.and (Own.from (holdsRow_own w.heap.size bA 83 89 6 (fun pre => pre.length) (fun pre => mts pre) (fun _ _ => True)) _) (ownFrom_below (Nat.le_refl _) (by omega)))
        (fun _ _ _ _ _ hs _ _ => hs)
        ⟨⟨_, b1, World.ownsRow_nil _ _ _ _, trivial⟩, hB0⟩
        (fun x a' W => ∃ Bx, bA < Bx ∧ Blk W Bx 89 (mC x) ∧ a' = { tmps := #[.slice A n c, .int .i64 t, undef, undef, u4, u5, u6, u7, .pointer (some ⟨bA, 0, none⟩), .pointer (some ⟨Bx, 0, none⟩), undef, undef, undef, undef, .slice A n c, .int .i64 n, .bool false, .bool false, .int .i64 t, .bool false, .bool false, .bool false, .int .i64 t, .bool false, .bool false, .slice A n c, .int .i64 n, .int .i64 n, .bool false, u29, u30, u31, u32, u33, u34, u35, u36, u37, u38, u39, u40, u41, u42, u43, u44, u45, u46, u47, u48, u49, u50, u51, u52, u53, u54, u55, u56, u57, u58, u59, u60, u61, u62, u63, .slice A n c, .int .i64 t, .func (.func 73) #[] #[.pointer (some ⟨bA + 1, 0, none⟩), .pointer (some ⟨bA + 1 + 1, 0, none⟩)], mV x, undef, undef, undef, undef, undef, undef, undef, undef, undef, undef, undef, undef, undef, undef, undef, undef, undef, undef, undef, undef, undef, undef, undef, undef, undef, undef, undef, undef, undef, undef, undef, undef, undef, undef, undef, undef, undef, undef, undef, undef, undef, undef, undef, undef], defers := [] })
        (fun x a' _ X Y row hs hg hr => by
          obtain ⟨Bx, h1, h2, h3⟩ := hs
          refine ⟨Bx, h1, h2.grown hg (fun e => ?_), h3⟩
          obtain ⟨o, ho, hc⟩ := (hr Bx e.symm).2
          rw [show X.heap[Bx]? = _ from h2] at ho; cases ho; cases hc)
        ?assign ?body ?done ?stop
      case assign =>
        rintro l2 pre x W K ⟨⟨v, bv, hv, -⟩, hB1⟩ hK
        gi_wp2
        exact hK _ _ ((KeepsOthers.alloc _ _).from _) (KpM.of_below ((Below.refl _ W).alloc (Nat.le_refl _) _) hB1.size) ⟨⟨v, bv.alloc _, hv.alloc _, trivial⟩, hB1.alloc hB1.size _⟩ ⟨W.heap.size, bv.lt, Blk.new W 89 (mC x), rfl⟩
      case body =>
        rintro l2 pre x a' W hl2 ⟨r2, hr2⟩ ⟨⟨v, hv, hrow, -⟩, hB1⟩ ⟨Bx, hBx, bX, rfl⟩ hlt
        have hc := hv.cell
        have e0 := bX.cell 0; have e1 := bX.cell 1; have e2 := bX.cell 2; have e3 := bX.cell 3; have e4 := bX.cell 4; have e5 := bX.cell 5
        simp only [List.getElem?_toArray, List.getElem?_cons_zero, List.getElem?_cons_succ] at e0 e1 e2 e3 e4 e5
        gi_wp2_with (gi_at_builtin; refine wpListIn_append_own _ rfl _ _ 83 rfl w.heap.size 89 i0 _ 6 48 Try.underlying83 hi0 hz0 hz1 hz2 rfl (by decide) _ _ _ rfl (hrow.alloc _) ⟨W.heap.size, 0, none⟩ 1 1 (encM x) rfl rfl (cell_six_new _ _ _) (by intro u hu; simp [encM] at hu; rcases hu with rfl | rfl | rfl | rfl | rfl | rfl <;> rfl) (by simp only [maxLen]; omega) (by omega) (by have := hB1.size; simp; omega) ?_; intro v' w1 hown' hgrow _; obtain ⟨g', cap', rfl⟩ := ownsRow_succ hown'; obtain ⟨hv1, hv2, hr2', hk2, hb2⟩ := hv.appended (by decide) hrow hB1.size hwA hown' hgrow; have hkp := Lib.hid (kp_append hv hrow hgrow hb2); have hc1 := hv1.cell; have hf1 := hv1.frozen)
        exact ⟨hk2.from _, hkp.out, ⟨_, hv2, by rw [mts_snoc]; simpa using hr2', trivial⟩, hB1.trans hb2⟩
      case done =>
        rintro D ys W hD rfl ⟨⟨v, hv, hrow, -⟩, hB⟩ hK
        have hD40 := own3_other hrow hK rfl
        have hA40 : own3 w.heap.size v bA ≠ 40 := by
          unfold own3
          split
          · decide
          · rw [if_neg (hv.not_row (by decide) hrow)]; decide
        have st0 := step_own3 hB v
        obtain ⟨Am, cm, hvv, hR⟩ := row_of hrow
        obtain ⟨o1, ho1⟩ : ∃ o, o = own3 w.heap.size v := ⟨_, rfl⟩
        have hvals1 := own3_vals w.heap.size v D
        rw [← ho1] at hR st0 hD40 hA40 hvals1
        subst hvv
        obtain ⟨N, hN⟩ : ∃ N, N = (mtgs t l).length := ⟨_, rfl⟩
        rw [← hN] at hR hv
        have hl8 : l.length * l.length ≤ 64 * 64 := Nat.mul_le_mul (by rw [HL.out]; omega) (by rw [HL.out]; omega)
        have hN4 : N ≤ 4096 := by omega
        have hsrt := sortV W o1 40 Am N cm (mtgs t l) hN4 hR
        have hc := hv.cell
        have HSRT := Lib.hid hsrt; have HST := Lib.hid st0; have HNN := Lib.hid hN; have HKD := Lib.hid hK; have HVV := Lib.hid hv; have HD40 := Lib.hid hD40
        clear hsrt st0 hR hN hK hv hrow ho1 hml hl8 b1 b2 b3 hB0 hB hD40
        go_wp2_with fail
        refine HSRT.out.mono ?_
        rintro e w5 ⟨rfl, o5, hst5, hsl5⟩
        have hv5 : Blk w5 bA 83 #[.slice Am N cm] := Blk.step (Blk.of_cells HVV.out) hst5 (by simpa using hA40)
        have hc5 := hv5.cell 0
        simp only [List.getElem?_toArray, List.getElem?_cons_zero] at hc5
        have hK5 : w5.heap[D]? = some (.deferred (some [])) := (hst5.block D (Array.getElem?_eq_some_iff.1 HKD.out).1 (by simpa using HD40.out)).trans HKD.out
        have hvals : o5 D = 0 ∨ o5 D = 40 ∨ o5 D = 5 := by
          rw [hst5.own D (Array.getElem?_eq_some_iff.1 HKD.out).1]; exact hvals1
        have HVALS := Lib.hid hvals; clear hvals hvals1
        have st5 := (HST.out.nil.trans hst5).forget (ts' := []) (fun t ht _ k hk => by simp at ht; subst ht; simp)
        have hlA := hv5.lt
        have hD5 := (Array.getElem?_eq_some_iff.1 hK5).1
        have hmm := @run_makeMap Try.prog
        have HST5 := Lib.hid st5; have HSL5 := Lib.hid hsl5; have HK5 := Lib.hid hK5
        clear st5 hst5 hsl5 hv5 hK5 hA40 hc HSRT HST HKD HVV HD40 hi0 hz0 hz1 hz2
        go_wp2_with fail
        obtain ⟨mb, hmb⟩ : ∃ b, b = w5.heap.size := ⟨_, rfl⟩
        rw [← hmb]
        obtain ⟨w6, hw6⟩ : ∃ w6, w6 = w5.alloc (.map #[] 0) := ⟨_, rfl⟩
        have s6 := (Step.refl [] w5 o5).alloc (.map #[] 0) 41
        have hmap6 := World.ownsMap_made (H := Unit) (P := Try.prog) (k := 3) (R := plainElem (H := Unit) Try.prog 3) w5
        have hml : mb < w6.heap.size := by rw [hw6, hmb]; simp
        rw [← hw6] at s6 hmap6 ⊢
        rw [← hmb] at hmap6 s6
        obtain ⟨o6, ho6⟩ : ∃ o, o = ext o5 mb 41 := ⟨_, rfl⟩
        rw [← ho6] at s6
        have hmo : o6 mb = 41 := by rw [ho6]; exact ext_ge (Nat.le_refl _)
        have hM0 : MapI w6 w6 o6 o6 mb 0 0 none 0 (sortK (mtgs t l)) := ⟨Step.refl _ _ _, ⟨0, _, by omega, hmap6, taken_nil⟩, Row.nil_ _ _ _ _ _, rfl, hmo, hml⟩
        have HM0 := Lib.hid hM0; have HS6 := Lib.hid s6
        have hSN : (sortK (mtgs t l)).length = N := by rw [sortK_len]; exact HNN.out.symm
        have HSN := Lib.hid hSN
        clear hmb hw6 hmap6 hml ho6 hmo hM0 s6 hmm hSN
        go_loopw [77, 11, 13] (fun s s11 _ wt => ∃ (k q : Nat) (Ap : Option Addr) (cp : Nat) (ow : Own), k ≤ N ∧ s = .int .i64 k ∧ s11 = .slice Ap q cp ∧ Hid (MapI w6 wt o6 ow mb k q Ap cp (sortK (mtgs t l)))) (fun s _ _ _ => N - (intOf s).toNat)
        case atStart => exact ⟨0, 0, none, 0, o6, Nat.zero_le _, rfl, rfl, HM0⟩
        case round => as_aux_lemma =>
          obtain ⟨k, q, Ap, cp, ow, hk, rfl, rfl, HM⟩ := hrel
          by_cases hlt : k < N
          · obtain ⟨⟨d, s, a, b⟩, hm⟩ : ∃ m, (sortK (mtgs t l))[k]? = some m := ⟨_, List.getElem?_eq_getElem (by rw [HSN.out]; exact hlt)⟩
            obtain ⟨g, off, rfl, -, hg, e0, e1, e2, e3, e4, e5⟩ := ((HSL5.out.step HS6.out (by simp)).step HM.out.st (by decide)).mt hm
            simp only at e0 e1 e2 e3 e4 e5
            obtain ⟨i1, i2, i3, i4⟩ := key_ids HOKI.out hm
            simp only at i1 i2 i3 i4
            have hkA : keyOf Try.prog 3 (.int .i64 a) = some (.int .i64 a) := keyOf_int_mk Try.underlying3 (wf_i64 (by omega) (by omega))
            have hkB : keyOf Try.prog 3 (.int .i64 b) = some (.int .i64 b) := keyOf_int_mk Try.underlying3 (wf_i64 (by omega) (by omega))
            obtain ⟨cnt, DD, hcnt, hmap, hT⟩ := HM.out.map
            obtain ⟨ca, a1, a2, a3, a4⟩ := hT.2 a
            obtain ⟨cb, b1, b2, b3, b4⟩ := hT.2 b
            obtain ⟨T, hTT⟩ : ∃ T, T = (gfold ((sortK (mtgs t l)).take k)).1 := ⟨_, rfl⟩
            rw [← hTT] at a4 b4 hT
            have HMM := Lib.hid hm; have HTT := Lib.hid hTT; have HA1 := Lib.hid a1; have HB1 := Lib.hid b1; have HT := Lib.hid hT; have HMP := Lib.hid hmap
            clear hm hTT a1 b1 hT hmap
            by_cases htk : a ∈ T ∨ b ∈ T
            · have hsum : ((ca + cb) == 0) = false := by
                rw [beq_eq_false_iff_ne]
                rcases htk with h | h
                · have : ca ≠ 0 := fun e => a4.1 e h
                  omega
                · have : cb ≠ 0 := fun e => b4.1 e h
                  omega
              have HTK := Lib.hid htk
              clear a4 b4 htk
              go_wp2_with (first
                | (at_lookup; refine wpList_lookup_own_int _ rfl _ _ 46 rfl 3 3 .i64 keyI Try.underlying46 Try.underlying3 (zeroI _) mb cnt DD rfl (HMP.out.alloc _) _ _ rfl hkA ?_; intro c hat hwc; have hcS : c = ca := (by have e := hat.symm.trans HA1.out; simp only [DataW.lit.injEq, Lit.int.injEq, true_and] at e; exact e); subst hcS; clear hat hwc)
                | (at_lookup; refine wpList_lookup_own_int _ rfl _ _ 46 rfl 3 3 .i64 keyI Try.underlying46 Try.underlying3 (zeroI _) mb cnt DD rfl (HMP.out.alloc _) _ _ rfl hkB ?_; intro c hat hwc; have hcS : c = cb := (by have e := hat.symm.trans HB1.out; simp only [DataW.lit.injEq, Lit.int.injEq, true_and] at e; exact e); subst hcS; clear hat hwc))
              go_roundw
              case rel => exact ⟨k + 1, q, Ap, cp, _, by omega, by go_num, rfl, Lib.hid (HM.out.take HMM.out (by rw [← HTT.out]; exact HTK.out) _)⟩
              case measure => simp [intOf]; omega
            · rw [not_or] at htk
              have hca : ca = 0 := a4.2 htk.1
              have hcb : cb = 0 := b4.2 htk.2
              subst hca hcb
              obtain ⟨cv, v1, v2, v3, v4⟩ := taken_two HT.out htk.1 htk.2
              have HV1 := Lib.hid v1; have HV4 := Lib.hid v4; have HTK := Lib.hid htk
              have hw1 : (Lit.int .i64 (1 : Int)).wf = true := wf_i64 (by omega) (by omega)
              have hw2 : (Lit.int .i64 (cv + 1)).wf = true := wf_i64 (by omega) (by omega)
              have hmx : mb < wr.heap.size := Nat.lt_of_lt_of_le HM.out.ml HM.out.st.size
              have hq2 : q ≤ 4096 := by
                have h1 := HM.out.q
                have h2 := gfold_len ((sortK (mtgs t l)).take k)
                rw [List.length_take] at h2
                omega
              clear v1 v4 htk a4 b4
              have bx := Blk.new wr 89 (mC ⟨d, s, a, b⟩)
              have hbm : wr.heap.size ≠ mb := by omega
              have HBX := Lib.hid bx; clear bx
              go_wp2_with (first
                | (at_lookup; refine wpList_lookup_own_int _ rfl _ _ 46 rfl 3 3 .i64 keyI Try.underlying46 Try.underlying3 (zeroI _) mb cnt DD rfl (HMP.out.alloc _) _ _ rfl hkA ?_; intro c hat hwc; have hcS : c = 0 := (by have e := hat.symm.trans HA1.out; simp only [DataW.lit.injEq, Lit.int.injEq, true_and] at e; exact e); subst hcS; clear hat hwc)
                | (at_lookup; refine wpList_lookup_own_int _ rfl _ _ 46 rfl 3 3 .i64 keyI Try.underlying46 Try.underlying3 (zeroI _) mb cnt DD rfl (HMP.out.alloc _) _ _ rfl hkB ?_; intro c hat hwc; have hcS : c = 0 := (by have e := hat.symm.trans HB1.out; simp only [DataW.lit.injEq, Lit.int.injEq, true_and] at e; exact e); subst hcS; clear hat hwc)
                | (at_mapUpdate; refine wpList_mapUpdate_own _ rfl _ _ _ 46 rfl 3 3 keyI Try.underlying46 _ mb cnt _ rfl (HMP.out.alloc _) (by unfold maxLen; omega) _ _ _ rfl rfl hkA _ [] (plainElem_int Try.underlying3 hw1) ?_; intro w7 hown7 hg7; have HW7 := Lib.hid hown7; have HG7 := Lib.hid hg7; have b7 := HBX.out.grown hg7 (by simpa using hbm); have r0 := b7.cell 0; have r1 := b7.cell 1; have l7 := b7.lt; simp only [List.getElem?_toArray, List.getElem?_cons_zero, List.getElem?_cons_succ] at r0 r1; have HB7 := Lib.hid b7; clear hown7 hg7 b7)
                | (at_lookup; refine wpList_lookup_own_int _ rfl _ _ 46 rfl 3 3 .i64 keyI Try.underlying46 Try.underlying3 (zeroI _) mb (cnt + 1) _ rfl HW7.out _ _ rfl hkB ?_; intro c hat hwc; have hcS : c = cv := (by have e := hat.symm.trans HV1.out; simp only [DataW.lit.injEq, Lit.int.injEq, true_and] at e; exact e); subst hcS; clear hat hwc)
                | (at_mapUpdate; refine wpList_mapUpdate_own _ rfl _ _ _ 46 rfl 3 3 keyI Try.underlying46 _ mb (cnt + 1) _ rfl HW7.out (by unfold maxLen; omega) _ _ _ rfl rfl hkB _ [] (plainElem_int Try.underlying3 hw2) ?_; intro w8 hown8 hg8; have HW8 := Lib.hid hown8; have b8 := HB7.out.grown hg8 (by simpa using hbm); have t0 := b8.cell 0; have t1 := b8.cell 1; have l8 := b8.lt; simp only [List.getElem?_toArray, List.getElem?_cons_zero, List.getElem?_cons_succ] at t0 t1; obtain ⟨oX, p1, p2, p3, p4⟩ := HM.out.mid (.cells (mC ⟨d, s, a, b⟩) 89) HG7.out hg8 a b; have HP1 := Lib.hid p1; have HP2 := Lib.hid p2; have HP3 := Lib.hid p3; have HP4 := Lib.hid p4; clear hown8 hg8 b8 p1 p2 p3 p4)
                | (at_builtin; refine wpList_append_row _ rfl (.tmp 105) (.tmp 108) _ rfl el_pair oX 33 Ap q cp _ rfl HP2.out oX 5 _ 1 1 [.int .i64 a, .int .i64 b] rfl HP4.out (by simp [Value.oneCell']) (by omega) (by simp only [maxLen]; omega) ?_; intro A9 c9 w9 hr9 hg9 hat9; have HR9 := Lib.hid hr9; have HG9 := Lib.hid hg9; clear hr9 hg9 hat9))
              go_roundw
              case rel =>
                exact ⟨k + 1, q + 1, A9, c9, _, by omega, by go_num, rfl, Lib.hid (MapI.next HMM.out (by rw [← HTT.out]; exact HTK.out.1) (by rw [← HTT.out]; exact HTK.out.2) HM.out.q HM.out.ml HP1.out HP3.out HP2.out hcnt (HW8.out.alloc _) (by rw [← HTT.out]; exact HV4.out) HG9.out HR9.out)⟩
              case measure => simp [intOf]; omega
          · obtain rfl : N = k := by omega
            have hq := HM.out.q
            have hrow := HM.out.row
            have hfold : (gfold ((sortK (mtgs t l)).take N)).2 = pairsM l t := by
              rw [List.take_of_length_le (by rw [HSN.out]; exact Nat.le_refl _), gfold_all]; rfl
            rw [hfold] at hq hrow
            subst hq
            have stA := ((((HST5.out.nil (ts := [41, 33])).trans HS6.out.nil).trans HM.out.st).forget (ts' := []) (fun t ht _ k hk => by simp at ht; rcases ht with rfl | rfl <;> simp))
            have hK9 : wr.heap[D]? = some (.deferred (some [])) := by
              have h6 : D < w5.heap.size := hD5
              have h7 := Nat.lt_of_lt_of_le h6 HS6.out.size
              have e6 := HS6.out.own D h6
              rw [HM.out.st.block D h7 (by rw [e6]; rcases HVALS.out with h | h | h <;> rw [h] <;> decide), HS6.out.block D h6 (by simp)]
              exact HK5.out
            obtain ⟨st9, row9⟩ := put_end stA hrow hK9 rfl (Nat.le_trans (by omega) hD) (.deferred none)
            have HROW := Lib.hid row9; have HSTA := Lib.hid st9
            clear hfold hrow stA st9 row9
            go_wp2_with fail
            refine ⟨by simp, .inl ⟨_, _, rfl, run_takeDeferred hK9, ?_⟩⟩
            exact ⟨_, results_tmp2 rfl _ _ _, Ap, cp, _, rfl, HSTA.out, HROW.out⟩
      case stop =>
        rintro D c pre W _ _ h _
        exact h.elim
end Go.Proofs.Ytkceefheeicmbaa
