/-
  THE SORT OF THE QUEUE: what slices.SortFunc does with Step's entries.
-/
import Derived.Test.YtkiknbjokknemaaGreatBudH
namespace Go.Proofs.YtkiknbjokknemaaGreat
open Go.RowKit Go.Sort

/-- An entry's two cells. -/
def encE (ob : Nat) {n : Nat} (p : Fin n) : List Value := [.pointer (some ⟨ob, p.1 * 3, none⟩), .int .i64 (p.1 : Int)]
def scAt (out : List It) (i : Nat) : Int := (out.getD i default).sc
def cfE (out : List It) {n : Nat} (x y : Fin n) : Int := cmpE (scAt out x.1) (scAt out y.1) x.1 y.1

theorem cmp_law (a b : Int) (i j : Nat) : decide ((if (if b < a then (-1 : Int) else if a < b then 1 else 0) = 0 then (if (i : Int) < (j : Int) then (-1 : Int) else if (j : Int) < (i : Int) then 1 else 0) else (if b < a then (-1 : Int) else if a < b then 1 else 0)) < 0) = (decide (b < a) || (decide (a = b) && decide (i < j))) := by
  rw [Bool.eq_iff_iff]
  simp only [decide_eq_true_eq, Bool.or_eq_true, Bool.and_eq_true]
  by_cases h1 : b < a
  · simp [h1]
  · by_cases h2 : a < b
    · simp only [h1, h2, if_false, if_true]
      constructor
      · intro h; simp at h
      · intro h; exfalso; simp only [false_or] at h; omega
    · simp only [h1, h2, if_false, if_true]
      by_cases h3 : (i : Int) < (j : Int)
      · simp only [h3, if_true]; constructor
        · intro _; right; omega
        · intro _; decide
      · by_cases h4 : (j : Int) < (i : Int)
        · simp only [h3, h4, if_false, if_true]; constructor
          · intro h; simp at h
          · intro h; exfalso; simp only [false_or] at h; omega
        · simp only [h3, h4, if_false]; constructor
          · intro h; simp at h
          · intro h; exfalso; simp only [false_or] at h; omega

theorem lt_before (out : List It) {n : Nat} (x y : Fin n) : ltOf (cfE out) x y = before out x.1 y.1 := cmp_law _ _ _ _

theorem before_swo (out : List It) (n : Nat) : SWO (ltOf (cfE out) (α := Fin n)) where
  irrefl x := by rw [lt_before, before_false]; omega
  trans x y z := by rw [lt_before, lt_before, lt_before, before_iff, before_iff, before_iff]; omega
  ntrans x y z := by rw [lt_before, lt_before, lt_before, before_false, before_false, before_false]; omega

theorem before_tot (out : List It) (n : Nat) (x y : Fin n) (h1 : ltOf (cfE out) x y = false) (h2 : ltOf (cfE out) y x = false) : x = y := by
  rw [lt_before, before_false] at h1 h2
  exact Fin.ext (by omega)

/-- The queue, sorted. -/
def sortedE (out : List It) (n : Nat) : List (Fin n) := (List.finRange n).mergeSort fun x y => !(ltOf (cfE out)) y x

theorem sortedE_order (out : List It) (n : Nat) (hn : out.length = n) : (sortedE out n).map Fin.val = order out := by
  unfold sortedE order
  rw [List.map_mergeSort (s := fun i j => !before out j i) (fun a _ b _ => by rw [lt_before])]
  congr 1
  rw [hn]
  apply List.ext_getElem <;> simp

theorem heap_putRowK {α : Type} [Inhabited α] (enc : α → List Value) (k : Nat) (w : World) (blk off m : Nat) (d : Array α) (os : Array Obj) (j : Nat) (hj : j < w.heap.size) (hne : j ≠ blk) : (sortWorldK enc k w blk off m d os).heap[j]? = w.heap[j]? := by
  unfold sortWorldK putRowK putRow mapBlock grow Sort.ahead
  have hs : j < (Array.modify w.heap blk (onCells (putCells id off (flatK enc k d)))).size := by rw [Array.size_modify]; exact hj
  show (Array.modify w.heap blk (onCells (putCells id off (flatK enc k d))) ++ os)[j]? = _
  rw [Array.getElem?_append_left hs, Array.getElem?_modify, if_neg (Ne.symm hne)]

set_option maxHeartbeats 1000000 in
theorem sortE_any (W : World) (o : Own) (τ ob qb n cap : Nat) (hn : 0 < n) (out : List It) (hlen : out.length = n) (hob : ob < W.heap.size) (hqb : qb < W.heap.size) (hne : ob ≠ qb) (hoq : o qb = τ) (hn64 : n ≤ 64)
    (hsc : ∀ i, i < n → W.cell? ⟨ob, i * 3 + 2, none⟩ = some (.int .i64 (scAt out i)))
    (hq : ∀ i, i < n → W.cell? ⟨qb, i * 2, none⟩ = some (.pointer (some ⟨ob, i * 3, none⟩)) ∧ W.cell? ⟨qb, i * 2 + 1, none⟩ = some (.int .i64 (i : Int)))
    (hfz : ∀ k, W.frozen? ⟨qb, k, none⟩ = false) :
    Calls Tryz.prog 28 #[.slice (some ⟨qb, 0, none⟩) n cap, .func (.func 29) #[] #[]] W fun e w' => e = .returned (.tuple #[]) ∧
      Step [τ] W o w' (ext o W.heap.size 0) ∧ ∀ j p, (order out)[j]? = some p → w'.cell? ⟨qb, j * 2, none⟩ = some (.pointer (some ⟨ob, p * 3, none⟩)) ∧ w'.cell? ⟨qb, j * 2 + 1, none⟩ = some (.int .i64 (p : Int)) := by
  haveI : Inhabited (Fin n) := ⟨⟨0, hn⟩⟩
  have hds : (Array.finRange n).size = n := by simp
  have hlk : ∀ x : Fin n, (encE ob x).length = 2 := fun _ => rfl
  have hone : ∀ x : Fin n, ∀ v ∈ encE ob x, v.oneCell' = true := by intro x v hv; simp [encE] at hv; rcases hv with rfl | rfl <;> rfl
  have hH : HoldsK (encE ob) 2 W qb 0 (Array.finRange n) := by
    intro t ht
    rw [size_flatK, hds] at ht
    refine ⟨?_, hfz _⟩
    rw [id, get_flatK _ _ _ _ (by rw [hds]; exact ht)]
    have hd : (Array.finRange n)[t / 2]! = ⟨t / 2, by omega⟩ := by rw [getElem!_pos _ _ (by rw [hds]; omega)]; simp
    rw [hd, Nat.zero_add]
    have h2 := hq (t / 2) (by omega)
    have hm : t % 2 = 0 ∨ t % 2 = 1 := by omega
    rcases hm with hm | hm
    · rw [hm]
      have e : t = t / 2 * 2 := by omega
      have := h2.1
      rw [← e] at this
      exact this
    · rw [hm]
      have e : t = t / 2 * 2 + 1 := by omega
      have := h2.2
      rw [← e] at this
      exact this
  have hcmp : CmpLays Tryz.prog 29 #[] (encE ob) 2 (cfE out (n := n)) qb 0 (Array.finRange n).size W := by
    intro m os dk hs x y
    have up : ∀ i, i < n → (sortWorldK (encE ob) 2 W qb 0 m dk os).cell? ⟨ob, i * 3 + 2, none⟩ = some (.int .i64 (scAt out i)) :=
      fun i hi => (World.cell?_of_block (a := ⟨ob, i * 3 + 2, none⟩) (heap_putRowK (encE ob) 2 W qb 0 m dk os ob hob hne)).trans (hsc i hi)
    exact step1_any _ ob x.1 y.1 _ _ (up x.1 x.2) (up y.1 y.2)
  have key := AnyQ.slices_SortFunc_total Tryz.sortEntry 2 Tryz.isAgg66 Tryz.sizeOf66 (encE ob) hlk hone (cfE out (n := n)) (before_swo out n) 29 #[] qb 0 cap (Array.finRange n) W
    (enters_of Tryz.func29 (by kernel_rfl) rfl) hcmp hH hqb (by rw [hds]; omega) (before_tot out n)
  rw [hds] at key
  refine key.mono ?_
  rintro e w' ⟨he, m, os, rfl⟩
  have hl : (Array.finRange n).toList = List.finRange n := by unfold Array.finRange List.finRange; rw [Array.toList_ofFn]
  rw [hl]
  have hso : ((List.finRange n).mergeSort fun x y => !(ltOf (cfE out)) y x) = sortedE out n := rfl
  rw [hso]
  have hsl : (sortedE out n).toArray.size = n := by simp [sortedE]
  refine ⟨he, ⟨rfl, rfl, rfl, ?_, fun _ hk => ext_lt hk, fun k hk hm => heap_putRowK _ _ _ _ _ _ _ _ _ hk (by rintro rfl; exact hm (by simp [hoq]))⟩, ?_⟩
  · show _ ≤ (Array.modify W.heap qb (onCells (putCells id 0 (flatK (encE ob) 2 (sortedE out n).toArray))) ++ os).size
    rw [Array.size_append, Array.size_modify]; omega
  · intro j p hj
    rw [← sortedE_order out n hlen, List.getElem?_map, Option.map_eq_some_iff] at hj
    obtain ⟨q, hq1, rfl⟩ := hj
    have hjn : j < n := by have := (List.getElem?_eq_some_iff.1 hq1).1; rw [← hsl]; simpa using this
    have h2 := holdsK_putRowK (enc := encE ob) (k := 2) (Sort.ahead W m) qb 0 (Array.finRange n) (sortedE out n).toArray hH (by rw [hsl, hds])
    have hgr : ∀ k, (sortWorldK (encE ob) 2 W qb 0 m (sortedE out n).toArray os).cell? ⟨qb, k, none⟩ = (putRowK (encE ob) 2 (Sort.ahead W m) qb 0 (sortedE out n).toArray).cell? ⟨qb, k, none⟩ := by
      intro k
      refine World.cell?_of_block (a := ⟨qb, k, none⟩) ?_
      show (Array.modify W.heap qb (onCells (putCells id 0 (flatK (encE ob) 2 (sortedE out n).toArray))) ++ os)[qb]? = (Array.modify W.heap qb (onCells (putCells id 0 (flatK (encE ob) 2 (sortedE out n).toArray))))[qb]?
      rw [Array.getElem?_append_left (by rw [Array.size_modify]; exact hqb)]
    have hd : (sortedE out n).toArray[j]! = q := by
      rw [getElem!_pos _ _ (by rw [hsl]; exact hjn)]
      have := List.getElem?_eq_some_iff.1 hq1
      obtain ⟨_, h⟩ := this
      simpa using h
    have c0 := (h2 (j * 2) (by rw [size_flatK, hsl]; omega)).1
    have c1 := (h2 (j * 2 + 1) (by rw [size_flatK, hsl]; omega)).1
    rw [id, get_flatK _ _ _ _ (by rw [hsl]; omega), Nat.zero_add] at c0 c1
    rw [show j * 2 / 2 = j by omega, show j * 2 % 2 = 0 by omega, hd] at c0
    rw [show (j * 2 + 1) / 2 = j by omega, show (j * 2 + 1) % 2 = 1 by omega, hd] at c1
    exact ⟨(hgr _).trans c0, (hgr _).trans c1⟩
end Go.Proofs.YtkiknbjokknemaaGreat
