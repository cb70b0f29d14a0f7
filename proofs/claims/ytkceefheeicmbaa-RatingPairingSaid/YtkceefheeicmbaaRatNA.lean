/-
  A map from int to int as a function: what a look-up gives, what a store turns. Plain laws of RatingPairing's map 'at'.
-/
import Derived.Test.YtkceefheeicmbaaRatU
import Derived.Test.YtkceefheeicmbaaRatBB
import Derived.Maps.Own
import Derived.Maps.OwnOps
import Derived.Maps.Views
namespace Go.Proofs.Ytkceefheeicmbaa
open Go.RowKit Go.Shelf Go.Maps

/-- Block b is a map from int to int of at most cnt keys; key id stands for f id. -/
def MapIs (W : World) (b cnt : Nat) (f : Int → Int) : Prop := ∃ D : DataW Unit, W.ownsMap Try.prog 3 (plainElem (H := Unit) Try.prog 3) b cnt D ∧ IsMap D ∧ ∀ id, D.atKey (keyL1 id) (litD 0) = litD (f id)
theorem MapIs.made (W : World) : MapIs (W.alloc (.map #[] 0)) W.heap.size 0 fun _ => 0 := ⟨_, World.ownsMap_made (H := Unit) (P := Try.prog) (k := 3) (R := plainElem (H := Unit) Try.prog 3) W, ⟨[], rfl⟩, fun _ => rfl⟩
theorem MapIs.lt {W : World} {b cnt : Nat} {f : Int → Int} (h : MapIs W b cnt f) : b < W.heap.size := by obtain ⟨D, h1, -⟩ := h; exact h1.lt
theorem MapIs.mono {W : World} {b cnt m : Nat} {f : Int → Int} (h : MapIs W b cnt f) (hm : cnt ≤ m) : MapIs W b m f := by obtain ⟨D, h1, h2⟩ := h; exact ⟨D, h1.mono hm, h2⟩
theorem MapIs.kept {W W' : World} {b cnt : Nat} {f : Int → Int} {row : Option Nat} (h : MapIs W b cnt f) (hg : W.grownBy W' row) (hne : some b ≠ row) : MapIs W' b cnt f := by obtain ⟨D, h1, h2⟩ := h; exact ⟨D, h1.kept hg hne, h2⟩
theorem MapIs.alloc {W : World} {b cnt : Nat} {f : Int → Int} (h : MapIs W b cnt f) (o : Obj) : MapIs (W.alloc o) b cnt f := by obtain ⟨D, h1, h2⟩ := h; exact ⟨D, h1.alloc o, h2⟩
theorem MapIs.below {W W' : World} {b cnt : Nat} {f : Int → Int} (h : MapIs W b cnt f) (hb : Below W.heap.size W W') : MapIs W' b cnt f := by
  have hl := h.lt
  obtain ⟨D, h1, h2⟩ := h
  exact ⟨D, ownsMap_heap h1 (hb.block b hl), h2⟩
theorem MapIs.drewN {W : World} {b cnt : Nat} {f : Int → Int} (h : MapIs W b cnt f) (k : Nat) : MapIs (W.drewN k) b cnt f := by obtain ⟨D, h1, h2⟩ := h; exact ⟨D, ownsMap_heap h1 rfl, h2⟩
theorem keyI64 {id : Int} (h : -9223372036854775808 ≤ id ∧ id ≤ 9223372036854775807) : keyOf Try.prog 3 (.int .i64 id) = some (.int .i64 id) := keyOf_int_mk Try.underlying3 (wf_i64 h.1 h.2)
/-- The look-up, as an equation. -/
theorem MapIs.look {W : World} {b cnt : Nat} {f : Int → Int} (h : MapIs W b cnt f) {id c : Int} (hid : -9223372036854775808 ≤ id ∧ id ≤ 9223372036854775807) (hc : f id = c) :
    (Instr.lookup 46 (.map (some b)) (.int .i64 id) false).run Try.prog W = .ok (.int .i64 c) W := by
  obtain ⟨D, h1, -, h3⟩ := h
  obtain ⟨c', hrun, hat, -⟩ := h1.lookup_int keyI Try.underlying46 Try.underlying3 (zeroI W) (keyI64 hid)
  have e := hat.symm.trans (h3 id)
  simp only [DataW.lit.injEq, Lit.int.injEq, true_and] at e
  rw [← hc, ← e]
  exact hrun
/-- The store. -/
theorem wpList_put_is {P : Program} (hP : P = Try.prog) (w : World) {ops : Array Oper} {rest : List Oper} {o : Oper} {a : Act} {Q : Exit → Act → World → Prop}
    (hg : o.guard = none) (m x v : Operand) (hop : o.op = Op.mapUpdate 46 m x v) (b cnt : Nat) (f : Int → Int)
    (hm : a.eval m = .map (some b)) (h : MapIs w b cnt f) (hn : cnt < maxLen) (key val : Int) (hx : a.eval x = .int .i64 key) (hv : a.eval v = .int .i64 val) (hid : -9223372036854775808 ≤ key ∧ key ≤ 9223372036854775807) (hvl : -9223372036854775808 ≤ val ∧ val ≤ 9223372036854775807)
    (hK : ∀ w', MapIs w' b (cnt + 1) (fun id => if id = key then val else f id) → w.grownBy w' (some b) → wpList P ops Q rest (a.put o.dst undef) w') :
    wpList P ops Q (o :: rest) a w := by
  subst hP
  obtain ⟨D, h1, h2, h3⟩ := h
  refine wpList_mapUpdate_own w hg m x v 46 hop 3 3 keyI Try.underlying46 _ b cnt D hm h1 hn _ _ _ hx hv (keyI64 hid) _ [] (plainElem_int Try.underlying3 (wf_i64 hvl.1 hvl.2)) fun w' k1 k2 => hK w' ⟨_, k1, isMap_put h2 _ _, fun id => ?_⟩ k2
  show _ = litD (if id = key then val else f id)
  by_cases e : id = key
  · subst e
    rw [if_pos rfl]
    exact atKey_put_same h2 (show WideAt.IsKeyLit (.int .i64 id) from trivial) _ _
  · rw [if_neg e, atKey_put_other (by intro e2; injection e2 with _ e2; exact e e2), h3]

/-- The law's map 'at', behind i tickets. -/
def atF (l : List Tk) : Nat → Int → Int
  | 0, _ => 0
  | i + 1, id => if (l[i]?.map Tk.id) = some id then i + 1 else atF l i id
theorem atF_snoc {l : List Tk} {i : Nat} {x : Tk} (hx : l[i]? = some x) : (fun id => if id = x.id then (i : Int) + 1 else atF l i id) = atF l (i + 1) := by
  funext id
  rw [atF, hx, Option.map_some]
  by_cases h : id = x.id
  · rw [if_pos h, if_pos (by rw [h])]
  · rw [if_neg h, if_neg (by intro e; injection e with e; exact h e.symm)]
theorem atF_get {l : List Tk} (hp : l.Pairwise fun x y => x.id ≠ y.id) {j : Nat} {x : Tk} (hx : l[j]? = some x) : ∀ i, j < i → i ≤ l.length → atF l i x.id = (j : Int) + 1
  | 0, h, _ => absurd h (Nat.not_lt_zero _)
  | i + 1, h, hl => by
    rw [atF]
    rcases Nat.lt_or_ge j i with hji | hji
    · obtain ⟨y, hy⟩ : ∃ y, l[i]? = some y := ⟨_, List.getElem?_eq_getElem (by omega)⟩
      obtain ⟨lj, ej⟩ := List.getElem?_eq_some_iff.1 hx
      obtain ⟨li, ei⟩ := List.getElem?_eq_some_iff.1 hy
      have := List.pairwise_iff_getElem.1 hp j i lj li hji
      rw [ej, ei] at this
      rw [if_neg (by rw [hy, Option.map_some]; intro e; injection e with e; exact this e.symm)]
      exact atF_get hp hx i hji (by omega)
    · obtain rfl : i = j := by omega
      rw [if_pos (by rw [hx, Option.map_some])]
theorem wth_map {l : List Tk} {t : Int} {i : Nat} {m : Key} (hm : (chosen l t)[i]? = some m) :
    (fun id => if id = m.b then m.d + 1 else if id = m.a then m.d + 1 else wth ((chosen l t).take i) id) = wth ((chosen l t).take (i + 1)) := by
  funext id
  rw [wth_snoc hm]
  by_cases h1 : id = m.b
  · rw [if_pos h1, if_pos (.inr h1.symm)]
  · rw [if_neg h1]
    by_cases h2 : id = m.a
    · rw [if_pos h2, if_pos (.inl h2.symm)]
    · rw [if_neg h2, if_neg (by omega)]
theorem wth_range {l : List Tk} {t : Int} (hok : pairsOk l t = true) (i : Nat) (id : Int) : 0 ≤ wth ((chosen l t).take i) id ∧ wth ((chosen l t).take i) id ≤ 4001 := by
  have hall := (pairsOk_iff.1 hok).2.2.2.1
  have : ∀ r : List Key, (∀ m ∈ r, m ∈ chosen l t) → 0 ≤ wth r id ∧ wth r id ≤ 4001 := by
    intro r
    induction r with
    | nil => intro _; exact ⟨Int.le_refl _, show (0 : Int) ≤ 4001 by decide⟩
    | cons m r ih =>
      intro h
      rw [wth]
      split
      · obtain ⟨i, j, x, y, hx, hy, -, -, -, hd, -, -, h0⟩ := chosen_who hok (h m (by simp))
        have ox := okT_iff.1 (hall x (List.mem_of_getElem? hx))
        have oy := okT_iff.1 (hall y (List.mem_of_getElem? hy))
        rw [hd] at h0 ⊢
        unfold diffT at h0 ⊢
        omega
      · exact ih fun m hm => h m (List.mem_cons_of_mem _ hm)
  exact this _ fun m hm => List.mem_of_mem_take hm
/-- How many have waited for long and are left, among the first i. -/
def longM (l : List Tk) (t : Int) : Nat → Nat
  | 0 => 0
  | i + 1 => longM l t i + (match l[i]? with | some x => if wth (chosen l t) x.id = 0 ∧ 1975 ≤ t - x.si then 1 else 0 | none => 0)
theorem longM_pos {l : List Tk} {t : Int} : ∀ {i : Nat}, longM l t i ≠ 0 → ∃ (j : Nat) (x : Tk), j < i ∧ l[j]? = some x ∧ wth (chosen l t) x.id = 0 ∧ 1975 ≤ t - x.si
  | 0, h => absurd rfl h
  | i + 1, h => by
    by_cases h0 : longM l t i = 0
    · rw [longM, h0] at h
      split at h
      · rename_i x hx
        split at h
        · rename_i hc; exact ⟨i, x, Nat.lt_succ_self _, hx, hc⟩
        · exact absurd rfl h
      · exact absurd rfl h
    · obtain ⟨j, x, hj, h1⟩ := longM_pos h0
      exact ⟨j, x, by omega, h1⟩
theorem longM_le {l : List Tk} {t : Int} (hok : pairsOk l t = true) : ∀ i : Nat, longM l t i ≤ 1
  | 0 => Nat.zero_le _
  | i + 1 => by
    have ih := longM_le hok i
    rw [longM]
    split
    · rename_i y hy
      split
      · rename_i hc
        by_cases h0 : longM l t i = 0
        · omega
        · obtain ⟨j, x, hj, hx, c1, c2⟩ := longM_pos h0
          exact absurd ⟨c1, hc.1⟩ (long_law hok hj hx hy c2 hc.2)
      · omega
    · omega
theorem longM_step {l : List Tk} {t : Int} {i : Nat} {x : Tk} (hx : l[i]? = some x) : longM l t (i + 1) = longM l t i + if wth (chosen l t) x.id = 0 ∧ 1975 ≤ t - x.si then 1 else 0 := by
  rw [longM, hx]
end Go.Proofs.Ytkceefheeicmbaa
