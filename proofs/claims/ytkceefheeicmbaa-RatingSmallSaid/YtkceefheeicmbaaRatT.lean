/-
  THE SORT OF THE MEETINGS: what slices.SortFunc does with them.
-/
import Derived.Test.YtkceefheeicmbaaRatS
namespace Go.Proofs.Ytkceefheeicmbaa
open Go.RowKit Go.Sort

/-- A meeting's six cells. -/
def encM (m : Key) : List Value := [.int .i64 m.a, .int .i64 m.b, .int .i64 m.d, .int .i64 m.s, .int .i64 m.a, .int .i64 m.b]
theorem encM_at (m : Key) {j : Nat} (h : j < 6) : (encM m)[j]? = some ((encM m)[j]!) := by
  rcases j with _ | _ | _ | _ | _ | _ | j
  · rfl
  · rfl
  · rfl
  · rfl
  · rfl
  · rfl
  · omega
theorem ltOf_key (x y : Key) : ltOf cmpK x y = ltK x y := by
  unfold ltOf cmpK
  cases h : ltK x y with
  | true => simp
  | false =>
    cases h2 : ltK y x with
    | true => simp
    | false => simp
theorem key_swo : SWO (ltOf cmpK) where
  irrefl x := by rw [ltOf_key, ltK_false]; omega
  trans x y z := by rw [ltOf_key, ltOf_key, ltOf_key, ltK_iff, ltK_iff, ltK_iff]; omega
  ntrans x y z := by rw [ltOf_key, ltOf_key, ltOf_key, ltK_false, ltK_false, ltK_false]; omega
theorem key_tot (x y : Key) (h1 : ltOf cmpK x y = false) (h2 : ltOf cmpK y x = false) : x = y := by
  rw [ltOf_key] at h1 h2; exact ltK_tot h1 h2
theorem sortK_lib (l : List Key) : (l.mergeSort fun x y => !(ltOf cmpK) y x) = sortK l := by
  unfold sortK
  congr 1
  funext x y
  rw [ltOf_key]

theorem heap_putRowK {α : Type} [Inhabited α] (enc : α → List Value) (k : Nat) (w : World) (blk off m : Nat) (d : Array α) (os : Array Obj) (j : Nat) (hj : j < w.heap.size) (hne : j ≠ blk) : (sortWorldK enc k w blk off m d os).heap[j]? = w.heap[j]? := by
  unfold sortWorldK putRowK putRow mapBlock grow Sort.ahead
  have hs : j < (Array.modify w.heap blk (onCells (putCells id off (flatK enc k d)))).size := by rw [Array.size_modify]; exact hj
  show (Array.modify w.heap blk (onCells (putCells id off (flatK enc k d))) ++ os)[j]? = _
  rw [Array.getElem?_append_left hs, Array.getElem?_modify, if_neg (Ne.symm hne)]

abbrev mts (l : List Key) : List Value := l.flatMap encM
theorem len_mts (l : List Key) : (mts l).length = l.length * 6 := by
  induction l with
  | nil => rfl
  | cons x l ih => rw [mts, List.flatMap_cons, List.length_append, ih]; simp [encM]; omega
theorem mts_get (l : List Key) : ∀ (k : Nat) (x : Key), l[k]? = some x → ∀ j, j < 6 → (mts l)[k * 6 + j]? = (encM x)[j]? := by
  induction l with
  | nil => intro k x h; simp at h
  | cons y l ih =>
    intro k x h j hj
    rw [mts, List.flatMap_cons]
    have hlen : (encM y).length = 6 := rfl
    cases k with
    | zero => simp at h; subst h; rw [List.getElem?_append_left (by rw [hlen]; omega)]; simp
    | succ k =>
      rw [List.getElem?_append_right (by rw [hlen]; omega), hlen, show (k + 1) * 6 + j - 6 = k * 6 + j by omega]
      exact ih k x (by simpa using h) j hj

set_option maxHeartbeats 1000000 in
theorem sortM_any (W : World) (o : Own) (τ qb n cap : Nat) (hn : 0 < n) (ms : List Key) (hlen : ms.length = n) (hqb : qb < W.heap.size) (hoq : o qb = τ) (hn64 : n ≤ 4096)
    (hq : ∀ i m, ms[i]? = some m → ∀ j, j < 6 → W.cell? ⟨qb, i * 6 + j, none⟩ = (encM m)[j]?)
    (hfz : ∀ k, W.frozen? ⟨qb, k, none⟩ = false) :
    Calls Try.prog 53 #[.slice (some ⟨qb, 0, none⟩) n cap, .func (.func 54) #[] #[]] W fun e w' => e = .returned (.tuple #[]) ∧
      Step [τ] W o w' (ext o W.heap.size 0) ∧ ∀ i m, (sortK ms)[i]? = some m → ∀ j, j < 6 → w'.cell? ⟨qb, i * 6 + j, none⟩ = (encM m)[j]? := by
  have hds : ms.toArray.size = n := by simpa using hlen
  have hlk : ∀ x : Key, (encM x).length = 6 := fun _ => rfl
  have hone : ∀ x : Key, ∀ v ∈ encM x, v.oneCell' = true := by intro x v hv; simp [encM] at hv; rcases hv with rfl | rfl | rfl | rfl | rfl | rfl <;> rfl
  have hH : HoldsK encM 6 W qb 0 ms.toArray := by
    intro t ht
    rw [size_flatK, hds] at ht
    refine ⟨?_, hfz _⟩
    rw [id, get_flatK _ _ _ _ (by rw [hds]; exact ht), Nat.zero_add]
    obtain ⟨m, hm⟩ : ∃ m, ms[t / 6]? = some m := ⟨_, List.getElem?_eq_getElem (by omega)⟩
    have hd : ms.toArray[t / 6]! = m := by
      rw [getElem!_pos _ _ (by rw [hds]; omega)]
      obtain ⟨_, h⟩ := List.getElem?_eq_some_iff.1 hm
      simpa using h
    rw [hd]
    have := hq _ m hm (t % 6) (by omega)
    rw [show t / 6 * 6 + t % 6 = t by omega, encM_at m (by omega)] at this
    exact this
  have hcmp : CmpLays Try.prog 54 #[] encM 6 cmpK qb 0 ms.toArray.size W := by
    intro m os dk hs x y
    exact pairs2_any _ x y
  have key := AnyQ.slices_SortFunc_total Try.sortMeet 6 Try.isAgg89 Try.sizeOf89 encM hlk hone cmpK key_swo 54 #[] qb 0 cap ms.toArray W
    (enters_of Try.func54 (by kernel_rfl) rfl) hcmp hH hqb (by rw [hds]; omega) key_tot
  rw [hds] at key
  refine key.mono ?_
  rintro e w' ⟨he, m, os, rfl⟩
  rw [sortK_lib]
  have hsl : (sortK ms).toArray.size = n := by simp [sortK_len, hlen]
  refine ⟨he, ⟨rfl, rfl, rfl, ?_, fun _ hk => ext_lt hk, fun k hk hm => heap_putRowK _ _ _ _ _ _ _ _ _ hk (by rintro rfl; exact hm (by simp [hoq]))⟩, ?_⟩
  · show _ ≤ (Array.modify W.heap qb (onCells (putCells id 0 (flatK encM 6 (sortK ms).toArray))) ++ os).size
    rw [Array.size_append, Array.size_modify]; omega
  · intro i p hi j hj
    have hin : i < n := by have := (List.getElem?_eq_some_iff.1 hi).1; rw [sortK_len] at this; omega
    have h2 := holdsK_putRowK (enc := encM) (k := 6) (Sort.ahead W m) qb 0 ms.toArray (sortK ms).toArray hH (by rw [hsl, hds])
    have hgr : ∀ k, (sortWorldK encM 6 W qb 0 m (sortK ms).toArray os).cell? ⟨qb, k, none⟩ = (putRowK encM 6 (Sort.ahead W m) qb 0 (sortK ms).toArray).cell? ⟨qb, k, none⟩ := by
      intro k
      refine World.cell?_of_block (a := ⟨qb, k, none⟩) ?_
      show (Array.modify W.heap qb (onCells (putCells id 0 (flatK encM 6 (sortK ms).toArray))) ++ os)[qb]? = (Array.modify W.heap qb (onCells (putCells id 0 (flatK encM 6 (sortK ms).toArray))))[qb]?
      rw [Array.getElem?_append_left (by rw [Array.size_modify]; exact hqb)]
    have hd : (sortK ms).toArray[i]! = p := by
      rw [getElem!_pos _ _ (by rw [hsl]; exact hin)]
      obtain ⟨_, h⟩ := List.getElem?_eq_some_iff.1 hi
      simpa using h
    have c0 := (h2 (i * 6 + j) (by rw [size_flatK, hsl]; omega)).1
    rw [id, get_flatK _ _ _ _ (by rw [hsl]; omega), Nat.zero_add, show (i * 6 + j) / 6 = i by omega, show (i * 6 + j) % 6 = j by omega, hd] at c0
    rw [encM_at p hj]
    exact (hgr _).trans c0
end Go.Proofs.Ytkceefheeicmbaa
