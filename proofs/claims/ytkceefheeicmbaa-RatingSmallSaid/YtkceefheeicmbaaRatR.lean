/-
  WALK of the iterator that meetings hands back.
-/
import Derived.RangeFuncNested
import Derived.RangeFuncBound
import Derived.RangeFuncCalls
import Derived.RangeFuncLeaves
import Derived.Shelf.Abstract
import Derived.Shelf.RegionOpen
import Derived.WalkKit
import Derived.OwnWalkIn
import Derived.TacticsInMore
import Derived.LoopNIn
import Derived.LoopIn
import Derived.Test.YtkceefheeicmbaaRatQ
import Derived.Test.YtkceefheeicmbaaRatD
import Derived.Test.YtkceefheeicmbaaHeldIn
namespace Go.Proofs.Ytkceefheeicmbaa
open Go.RowKit Go.Shelf

attribute [local go_sem] Oper.semAt_some

abbrev tks (l : List Tk) : List Value := l.flatMap fun x => [.int .i64 x.id, .int .i64 x.rt, .int .i64 x.si]
theorem len_tks (l : List Tk) : (tks l).length = l.length * 3 := by
  induction l with
  | nil => rfl
  | cons x l ih => rw [tks, List.flatMap_cons, List.length_append, ih]; simp; omega
theorem tks_get (l : List Tk) : ∀ (k : Nat) (x : Tk), l[k]? = some x → (tks l)[k * 3]? = some (.int .i64 x.id) ∧ (tks l)[k * 3 + 1]? = some (.int .i64 x.rt) ∧ (tks l)[k * 3 + 2]? = some (.int .i64 x.si) := by
  induction l with
  | nil => intro k x h; simp at h
  | cons y l ih =>
    intro k x h
    rw [tks, List.flatMap_cons]
    cases k with
    | zero => simp at h; subst h; exact ⟨rfl, rfl, rfl⟩
    | succ k =>
      obtain ⟨h0, h1, h2⟩ := ih k x (by simpa using h)
      refine ⟨?_, ?_, ?_⟩
      · rw [List.getElem?_append_right (by simp; omega)]; simp only [List.length_cons, List.length_nil]; rw [show (k + 1) * 3 - (0 + 1 + 1 + 1) = k * 3 by omega]; exact h0
      · rw [List.getElem?_append_right (by simp; omega)]; simp only [List.length_cons, List.length_nil]; rw [show (k + 1) * 3 + 1 - (0 + 1 + 1 + 1) = k * 3 + 1 by omega]; exact h1
      · rw [List.getElem?_append_right (by simp; omega)]; simp only [List.length_cons, List.length_nil]; rw [show (k + 1) * 3 + 2 - (0 + 1 + 1 + 1) = k * 3 + 2 by omega]; exact h2
abbrev tV (x : Tk) : Value := .agg #[.int .i64 x.id, .int .i64 x.rt, .int .i64 x.si]
abbrev tC (x : Tk) : Array Value := #[.int .i64 x.id, .int .i64 x.rt, .int .i64 x.si]

/-- One ticket of a slice of tickets. -/
theorem Sl.tk {w : World} {o : Own} {τ n c : Nat} {A : Option Addr} {l : List Tk} (h : Sl w o τ 3 A n c (tks l)) {k : Nat} {x : Tk} (hx : l[k]? = some x) :
    ∃ g off, A = some ⟨g, off, none⟩ ∧ o g = τ ∧ g < w.heap.size ∧ w.cell? ⟨g, off + k * 3, none⟩ = some (.int .i64 x.id) ∧ w.cell? ⟨g, off + k * 3 + 1, none⟩ = some (.int .i64 x.rt) ∧ w.cell? ⟨g, off + k * 3 + 2, none⟩ = some (.int .i64 x.si) := by
  have hk := (List.getElem?_eq_some_iff.1 hx).1
  have h1 := h.1
  rw [len_tks] at h1
  obtain ⟨g, off, hA, ho, hg, hc⟩ := h.2.2.2 (by omega)
  obtain ⟨i0, i1, i2⟩ := tks_get l k x hx
  exact ⟨g, off, hA, ho, hg, hc _ _ i0, hc _ _ i1, hc _ _ i2⟩

/-- What a round of the caller's keeps: whatever lay below n0, and all blocks but those of meetings. -/
def KpM (n0 : Nat) (W W' : World) : Prop := Below n0 W W' ∧ ∀ g t cs, t ≠ 83 → t ≠ 89 → Blk W g t cs → Blk W' g t cs
theorem KpM.refl (n0 : Nat) (W : World) : KpM n0 W W := ⟨Below.refl _ _, fun _ _ _ _ _ h => h⟩
theorem KpM.trans {n0 : Nat} {A B C : World} (h : KpM n0 A B) (k : KpM n0 B C) : KpM n0 A C := ⟨h.1.trans k.1, fun g t cs h1 h2 hb => k.2 g t cs h1 h2 (h.2 g t cs h1 h2 hb)⟩
theorem KpM.of_below {n0 : Nat} {A B : World} (h : Below A.heap.size A B) (hn : n0 ≤ A.heap.size) : KpM n0 A B := ⟨h.mono hn, fun _ _ _ _ _ hb => hb.below h hb.lt⟩
theorem KpM.put {n0 : Nat} (W : World) (l : Nat) (o o' : Obj) (hl : n0 ≤ l) (h : W.heap[l]? = some o) (ho : o.isCells = false) : KpM n0 W (W.putObj l o') :=
  ⟨(Below.refl n0 W).grown (grownBy_putObj' W l o') (by have := (Array.getElem?_eq_some_iff.1 h).1; omega) (fun k e => by cases e; omega), fun g t cs _ _ hb => by
    have hne : l ≠ g := by
      rintro rfl
      rw [Blk, h] at hb; injection hb with hb; subst hb; simp [Obj.isCells] at ho
    exact (World.putObj_heap_other (Ne.symm hne)).trans hb⟩

def MS (bx bY bp bt : Nat) (x y : Tk) (p q t : Int) (w : World) : Prop :=
  w.cell? ⟨bx, 0, none⟩ = some (.int .i64 x.id) ∧ w.cell? ⟨bx, 1, none⟩ = some (.int .i64 x.rt) ∧ w.cell? ⟨bx, 2, none⟩ = some (.int .i64 x.si) ∧
  w.cell? ⟨bY, 0, none⟩ = some (.int .i64 y.id) ∧ w.cell? ⟨bY, 1, none⟩ = some (.int .i64 y.rt) ∧ w.cell? ⟨bY, 2, none⟩ = some (.int .i64 y.si) ∧
  w.cell? ⟨bp, 0, none⟩ = some (.int .i64 p) ∧ w.cell? ⟨bp, 1, none⟩ = some (.int .i64 q) ∧ w.cell? ⟨bt, 0, none⟩ = some (.int .i64 t)

def MB (bx bY bp bt : Nat) (x y : Tk) (p q t : Int) (W : World) : Prop :=
  Blk W bx 24 (tC x) ∧ Blk W bY 24 (tC y) ∧ Blk W bp 48 #[.int .i64 p, .int .i64 q] ∧ Blk W bt 3 #[.int .i64 t]
theorem MB.ms {bx bY bp bt : Nat} {x y : Tk} {p q t : Int} {W : World} (h : MB bx bY bp bt x y p q t W) : MS bx bY bp bt x y p q t W := by
  obtain ⟨k1, k2, k3, k4⟩ := h
  exact ⟨k1.cell 0, k1.cell 1, k1.cell 2, k2.cell 0, k2.cell 1, k2.cell 2, k3.cell 0, k3.cell 1, k4.cell 0⟩
theorem MB.below {bx bY bp bt : Nat} {x y : Tk} {p q t : Int} {W W' : World} (h : MB bx bY bp bt x y p q t W) (hb : Below W.heap.size W W') : MB bx bY bp bt x y p q t W' := by
  obtain ⟨k1, k2, k3, k4⟩ := h
  exact ⟨k1.below hb k1.lt, k2.below hb k2.lt, k3.below hb k3.lt, k4.below hb k4.lt⟩
theorem MB.kp {bx bY bp bt : Nat} {x y : Tk} {p q t : Int} {W W' : World} {n0 : Nat} (h : MB bx bY bp bt x y p q t W) (hk : KpM n0 W W') : MB bx bY bp bt x y p q t W' := by
  obtain ⟨k1, k2, k3, k4⟩ := h
  exact ⟨hk.2 _ _ _ (by decide) (by decide) k1, hk.2 _ _ _ (by decide) (by decide) k2, hk.2 _ _ _ (by decide) (by decide) k3, hk.2 _ _ _ (by decide) (by decide) k4⟩

/-- Between two rounds of the iterator. -/
structure MInv (n0 : Nat) (w0 : World) (bl bt : Nat) (A : Option Addr) (n c : Nat) (t : Int) (J : List Key → World → Prop) (pre : List Key) (w : World) : Prop where
  j : J pre w
  b : Below n0 w0 w
  l : Blk w bl 34 #[.slice A n c]
  t : Blk w bt 3 #[.int .i64 t]
section
variable {n0 : Nat} {w0 w w' : World} {bl bt : Nat} {A : Option Addr} {n c : Nat} {t : Int} {J : List Key → World → Prop} {pre : List Key} {W : World}
theorem MInv.below (h : MInv n0 w0 bl bt A n c t J pre w) (hJ : AbidesFrom W.heap.size J) (hn : n0 ≤ w.heap.size) (hb : Below w.heap.size w w') : MInv n0 w0 bl bt A n c t J pre w' :=
  ⟨hJ pre w w' none h.j (only_of_below hb none) (fun _ e => by cases e), h.b.trans (hb.mono hn), h.l.below hb h.l.lt, h.t.below hb h.t.lt⟩
theorem MInv.kp {pre' : List Key} (h : MInv n0 w0 bl bt A n c t J pre w) (hj : J pre' w') (hk : KpM n0 w w') : MInv n0 w0 bl bt A n c t J pre' w' :=
  ⟨hj, h.b.trans hk.1, hk.2 _ _ _ (by decide) (by decide) h.l, hk.2 _ _ _ (by decide) (by decide) h.t⟩
end

set_option maxRecDepth 100000 in
set_option maxHeartbeats 4000000 in
theorem meet1_in (r : Nat) (hr : 1 ≤ r) (l bl bt : Nat) (w0 : World) (A : Option Addr) (n c : Nat) (ts : List Tk) (t : Int) (hS : Sl w0 (fun _ => 0) 0 3 A n c (tks ts)) (hok : ∀ (i : Nat) x, ts[i]? = some x → okT x = true) (ht : 0 ≤ t ∧ t ≤ 1073741824) (h64 : n ≤ 64)
    (J Jx : List Key → World → Prop) (W : World) (hJ : AbidesFrom W.heap.size J) (hn0 : w0.heap.size ≤ W.heap.size)
    (hY : ∀ pre x W1, J pre W1 → pre.length < 4096 → YieldAt Fence.wide (r - 1) Try.prog l #[mV x] W1 fun e W' =>
      (e = .returned (.bool true) ∧ J (pre ++ [x]) W' ∧ KpM w0.heap.size W1 W') ∨ (e = .returned (.bool false) ∧ Jx (pre ++ [x]) W'))
    (hM : MInv w0.heap.size w0 bl bt A n c t J [] W) :
    CallsIn Fence.wide r Try.prog 73 #[.func (.yield l) #[] #[], .pointer (some ⟨bl, 0, none⟩), .pointer (some ⟨bt, 0, none⟩)] W fun e W' => (∃ v, e = .returned v) ∧
      ((∃ ys, ys = mtgs t ts ∧ J ys W') ∨ (∃ pre, True ∧ Jx pre W')) := by
  have hl : ts.length = n := by have := hS.1; rw [len_tks] at this; omega
  obtain ⟨t0, t1⟩ := ht
  have HS := Lib.hid hS; have HOK := Lib.hid hok; have HJ := Lib.hid hJ; have HY := Lib.hid hY; have HL := Lib.hid hl; have HM := Lib.hid hM
  have cl := hM.l.cell 0; have ct := hM.t.cell 0
  simp only [List.getElem?_toArray, List.getElem?_cons_zero] at cl ct
  clear hS hok hJ hY hl hM
  refine callsIn_of_wp Try.func73 rfl trivial ?_ rfl
  simp only [Try.ntmps73, List.size_toArray, List.length_cons, List.length_nil, Nat.reduceAdd, Nat.reduceSub, Array.replicate_succ, Array.replicate_zero, List.push_toArray, List.append_toArray, List.nil_append, List.cons_append]
  gi_wp2
  gi_loopw [12, 4, 5, 7, 8, 9] (fun s _ _ _ _ _ wr => ∃ i : Nat, i ≤ n ∧ s = .int .i64 i ∧ Hid (w0.heap.size ≤ wr.heap.size ∧ MInv w0.heap.size w0 bl bt A n c t J (mtgsTo t ts i) wr)) (fun s _ _ _ _ _ _ => n - (intOf s).toNat)
  case atStart => exact ⟨0, Nat.zero_le _, rfl, Lib.hid ⟨hn0, HM.out⟩⟩
  case round =>
    obtain ⟨i, hi, rfl, HI⟩ := hrel
    by_cases hlt : i < n
    · obtain ⟨x, hx⟩ : ∃ x, ts[i]? = some x := ⟨_, List.getElem?_eq_getElem (by rw [HL.out]; exact hlt)⟩
      obtain ⟨g, off, rfl, -, hg, c0, c1, c2⟩ := (HS.out.step ((Step.refl [] w0 (fun _ => 0)).below HI.out.2.b 5) (by simp)).tk hx
      have cl := HI.out.2.l.cell 0; have ct := HI.out.2.t.cell 0
      simp only [List.getElem?_toArray, List.getElem?_cons_zero] at cl ct
      have hll := HI.out.2.l.lt; have hlt' := HI.out.2.t.lt
      have HX := Lib.hid hx
      clear hx
      have hbx : wr.heap.size < (wr.alloc (.cells (tC x) 24)).heap.size := by simp
      have bX0 := Blk.new wr 24 (tC x)
      have hM1 := HI.out.2.below HJ.out HI.out.1 ((Below.refl wr.heap.size wr).alloc (Nat.le_refl _) (.cells (tC x) 24))
      have HLE := Lib.hid (Nat.le_of_lt (Nat.lt_of_le_of_lt HI.out.1 hbx))
      have HBX := Lib.hid bX0; have HM1 := Lib.hid hM1
      clear bX0 hM1 hbx
      by_cases hcap : c = i + 1
      · have hni : n = i + 1 := by have := HS.out.2.1; omega
        have hz : mtgOf t x (ts.drop (i + 1)) = [] := by rw [List.drop_eq_nil_of_le (by rw [HL.out]; omega)]; rfl
        have hnx : mtgsTo t ts (i + 1) = mtgsTo t ts i := by
          rw [mtgsTo, List.getD_eq_getElem?_getD, HX.out]
          show _ ++ mtgOf t x _ = _
          rw [hz, List.append_nil]
        have HNX := Lib.hid hnx; clear hz hnx
        subst hcap
        gi_wp2
        gi_loopw [22, 7, 8, 9] (fun s _ _ _ wt => s = .int .i64 0 ∧ wt = wr.alloc (.cells (tC x) 24)) (fun _ _ _ _ _ => 0)
        case atStart => exact ⟨rfl, rfl⟩
        case round =>
          obtain ⟨rfl, rfl⟩ := hrel
          gi_wp2
          go_roundw
          case rel => exact ⟨i + 1, by omega, by go_num, Lib.hid ⟨HLE.out, by rw [HNX.out]; exact HM1.out⟩⟩
          case measure => simp [intOf]; omega
      · gi_wp2
        obtain ⟨N, hN⟩ : ∃ N, N = n - (i + 1) := ⟨_, rfl⟩
        rw [← hN]
        have hNn : N + (i + 1) = n := by omega
        have HNN := Lib.hid hN
        clear hN
        obtain ⟨bx, hbx⟩ : ∃ bx, bx = wr.heap.size := ⟨_, rfl⟩
        rw [← hbx] at HBX ⊢
        have HBE := Lib.hid hbx
        clear hbx
        gi_loopw [22, 7, 8, 9] (fun s _ _ _ wt => ∃ j : Nat, j ≤ N ∧ s = .int .i64 j ∧ Hid (w0.heap.size ≤ wt.heap.size ∧ MInv w0.heap.size w0 bl bt (some ⟨g, off, none⟩) n c t J (mtgsTo t ts i ++ mtgOf t x ((ts.drop (i + 1)).take j)) wt ∧ Blk wt bx 24 (tC x))) (fun s _ _ _ _ => N - (intOf s).toNat)
        case atStart => exact ⟨0, Nat.zero_le _, rfl, Lib.hid ⟨HLE.out, by simpa [mtgOf] using HM1.out, HBX.out⟩⟩
        case round =>
          obtain ⟨j, hj, rfl, HJJ⟩ := hrel
          by_cases hlt2 : j < N
          · obtain ⟨y, hy⟩ : ∃ y, ts[i + 1 + j]? = some y := ⟨_, List.getElem?_eq_getElem (by rw [HL.out]; omega)⟩
            have hyd : (ts.drop (i + 1))[j]? = some y := by rw [List.getElem?_drop]; exact hy
            have hsn := mtgOf_snoc t x (ts.drop (i + 1)) j y hyd
            obtain ⟨g', off', he', -, hg', d0, d1, d2⟩ := (HS.out.step ((Step.refl [] w0 (fun _ => 0)).below HJJ.out.2.1.b 5) (by simp)).tk hy
            injection he' with he'; injection he' with he1 he2
            subst he1 he2
            rw [show off + (i + 1 + j) * 3 = off + (i + 1) * 3 + j * 3 by omega] at d0 d1 d2
            have hox := okT_iff.1 (HOK.out i x HX.out)
            have hoy := okT_iff.1 (HOK.out _ y hy)
            obtain ⟨x1, x2, x3, x4, x5, x6⟩ := hox
            obtain ⟨y1, y2, y3, y4, y5, y6⟩ := hoy
            have bX := HJJ.out.2.2
            have e0 := bX.cell 0; have e1 := bX.cell 1; have e2 := bX.cell 2
            simp only [List.getElem?_toArray, List.getElem?_cons_zero, List.getElem?_cons_succ] at e0 e1 e2
            have lX := bX.lt; have lT := HJJ.out.2.1.t.lt
            have ctt := HJJ.out.2.1.t.cell 0
            simp only [List.getElem?_toArray, List.getElem?_cons_zero] at ctt
            obtain ⟨d, hd⟩ : ∃ d, d = diffT x y := ⟨_, rfl⟩
            obtain ⟨P, hP⟩ : ∃ p, p = min x.id y.id := ⟨_, rfl⟩
            obtain ⟨Q, hQ⟩ : ∃ q, q = max x.id y.id := ⟨_, rfl⟩
            obtain ⟨wx, hwx⟩ : ∃ p, p = winM x.si t := ⟨_, rfl⟩
            obtain ⟨wy, hwy⟩ : ∃ q, q = winM y.si t := ⟨_, rfl⟩
            obtain ⟨wm, hwm⟩ : ∃ q, q = min wx wy := ⟨_, rfl⟩
            obtain ⟨S, hSS⟩ : ∃ q, q = x.si + y.si := ⟨_, rfl⟩
            have hkey : keyT x y = ⟨d, S, P, Q⟩ := by rw [hd, hSS, hP, hQ]; rfl
            have hmay : mayT t x y = decide (d ≤ wm) := by rw [hd, hwm, hwx, hwy]; rfl
            have r1 := fun W => run_max2 (P := Try.prog) W #[3, 3] 3 (x.rt - y.rt) (y.rt - x.rt) d hd
            have r2 := fun W => run_min2 (P := Try.prog) W #[3, 3] 3 x.id y.id P hP
            have r3 := fun W => run_max2 (P := Try.prog) W #[3, 3] 3 x.id y.id Q hQ
            have r4 := fun W => run_min2 (P := Try.prog) W #[3, 3] 3 wx wy wm hwm
            have c1' := fun W => callsIn_wide (n := r - 1).2 (Window_any W x.id x.rt x.si t wx hwx)
            have c2' := fun W => callsIn_wide (n := r - 1).2 (Window_any W y.id y.rt y.si t wy hwy)
            have hS1 : IntKind.i64.wrap (x.si + y.si) = S := (IntWalk.i64_in (x.si + y.si) (by omega)).trans hSS.symm
            rw [hkey] at hsn
            have HC1 := Lib.hid c1'; have HC2 := Lib.hid c2'; have HKEY := Lib.hid hkey; have HMAY := Lib.hid hmay; have HSN := Lib.hid hsn; have HS1 := Lib.hid hS1
            clear hkey hmay hsn c1' c2' hd hP hQ hwx hwy hwm hSS hy hyd bX hS1
            gi_wp2
            obtain ⟨X, hX⟩ : ∃ X, X = (wr.alloc (.cells (tC y) 24)).alloc (.cells #[.int .i64 P, .int .i64 Q] 48) := ⟨_, rfl⟩
            obtain ⟨bY, hbY⟩ : ∃ b, b = wr.heap.size := ⟨_, rfl⟩
            obtain ⟨bp, hbp⟩ : ∃ b, b = wr.heap.size + 1 := ⟨_, rfl⟩
            have b1 := ((Blk.new wr 24 (tC y)).alloc (.cells #[.int .i64 P, .int .i64 Q] 48))
            have b2 := Blk.new (wr.alloc (.cells (tC y) 24)) 48 #[.int .i64 P, .int .i64 Q]
            rw [World.size_alloc, ← hbp] at b2
            rw [← hbY] at b1
            have hbe := ((Below.refl wr.heap.size wr).alloc (Nat.le_refl _) (.cells (tC y) 24)).alloc (by simp) (.cells #[.int .i64 P, .int .i64 Q] 48)
            rw [← hX] at b1 b2 hbe
            have hmx := HJJ.out.2.1.below HJ.out HJJ.out.1 hbe
            have hbx := HJJ.out.2.2.below hbe lX
            have hle : w0.heap.size ≤ X.heap.size := Nat.le_trans HJJ.out.1 hbe.size
            rw [← hX, ← hbp, ← hbY]
            have hmb : MB bx bY bp bt x y P Q t X.drew := ⟨hbx, b1, b2, hmx.t⟩
            have hmx1 := hmx.below HJ.out hle (w' := X.drew) (Below.refl _ X).drew
            have hle1 : w0.heap.size ≤ X.drew.heap.size := hle
            have hpl : (mtgsTo t ts i ++ mtgOf t x ((ts.drop (i + 1)).take j)).length < 4096 := by
              have h1 := mtgsTo_len t ts i
              have h2 := mtgOf_len t x ((ts.drop (i + 1)).take j)
              rw [List.length_take] at h2
              have h3 : i * ts.length ≤ 63 * 64 := Nat.mul_le_mul (by omega) (by rw [HL.out]; omega)
              rw [List.length_append]; omega
            have HMX := Lib.hid hmx1; have HMB := Lib.hid hmb; have HLX := Lib.hid hle1; have HPL := Lib.hid hpl
            clear hX hbY hbp b1 b2 hbe hmx hbx hle d0 d1 d2 e0 e1 e2 lX lT ctt r1 r2 r3 hmb hmx1 hle1 hpl
            obtain ⟨hdd, hdec⟩ : ∃ b, decide (d ≤ wm) = b := ⟨_, rfl⟩
            have HSN2 := Lib.hid (show mtgOf t x ((ts.drop (i + 1)).take (j + 1)) = if hdd = true then mtgOf t x ((ts.drop (i + 1)).take j) ++ [⟨d, S, P, Q⟩] else mtgOf t x ((ts.drop (i + 1)).take j) by rw [HSN.out, HMAY.out, hdec])
            clear HSN HMAY HKEY
            cases hdd
            · refine wpIn_region_held (S := MS bx bY bp bt x y P Q t) (by kernel_rfl) ?_
              change wpAnyHIn _ _ _ _ _ _ _ _ _ _ (World.drew _)
              refine wpAnyHIn_take (i := 0) (v := ?_) rfl rfl (by kernel_rfl) (by kernel_rfl) (by kernel_rfl) (fun _ _ _ h => h) ⟨Or.inl ⟨by rfl, ?_⟩, ?_⟩ HMB.out.ms ?_
              rotate_left
              · rintro w' ⟨z0, z1, z2, z3, z4, z5, z6, z7, z8⟩; go_simp; try with_reducible rfl
              · intro _; rfl
              try simp only [Act.put, List.getElem_toArray, List.getElem_cons_zero, List.setIfInBounds_toArray, List.set_cons_zero, List.set_cons_succ]
              refine wpAnyHIn_take (i := 1) (v := ?_) rfl rfl (by kernel_rfl) (by kernel_rfl) (by kernel_rfl) (fun _ _ _ h => h) ⟨Or.inl ⟨by rfl, ?_⟩, ?_⟩ HMB.out.ms ?_
              rotate_left
              · rintro w' ⟨z0, z1, z2, z3, z4, z5, z6, z7, z8⟩; go_simp; try with_reducible rfl
              · intro _; rfl
              try simp only [Act.put, List.getElem_toArray, List.getElem_cons_zero, List.getElem_cons_succ, List.setIfInBounds_toArray, List.set_cons_zero, List.set_cons_succ]
              refine wpAnyHIn_take (i := 2) (v := ?_) rfl rfl (by kernel_rfl) (by kernel_rfl) (by kernel_rfl) (fun _ _ _ h => h) ⟨Or.inl ⟨by rfl, ?_⟩, ?_⟩ HMB.out.ms ?_
              rotate_left
              · rintro w' ⟨z0, z1, z2, z3, z4, z5, z6, z7, z8⟩; go_simp; try with_reducible rfl
              · intro _; rfl
              try simp only [Act.put, List.getElem_toArray, List.getElem_cons_zero, List.getElem_cons_succ, List.setIfInBounds_toArray, List.set_cons_zero, List.set_cons_succ]
              refine wpAnyHIn_take (i := 4) (v := ?_) rfl rfl (by kernel_rfl) (by kernel_rfl) (by kernel_rfl) (fun _ _ _ h => h) ⟨Or.inl ⟨by rfl, ?_⟩, ?_⟩ HMB.out.ms ?_
              rotate_left
              · rintro w' ⟨z0, z1, z2, z3, z4, z5, z6, z7, z8⟩; go_simp; try with_reducible rfl
              · intro _; rfl
              try simp only [Act.put, List.getElem_toArray, List.getElem_cons_zero, List.getElem_cons_succ, List.setIfInBounds_toArray, List.set_cons_zero, List.set_cons_succ]
              refine wpAnyHIn_take (i := 5) (v := ?_) rfl rfl (by kernel_rfl) (by kernel_rfl) (by kernel_rfl) (fun _ _ _ h => h) ⟨Or.inl ⟨by rfl, ?_⟩, ?_⟩ HMB.out.ms ?_
              rotate_left
              · rintro w' ⟨z0, z1, z2, z3, z4, z5, z6, z7, z8⟩; go_simp; try with_reducible rfl
              · intro _; rfl
              try simp only [Act.put, List.getElem_toArray, List.getElem_cons_zero, List.getElem_cons_succ, List.setIfInBounds_toArray, List.set_cons_zero, List.set_cons_succ]
              refine wpAnyHIn_all (rs := [3]) (by kernel_rfl) (by simp) ?_
              rintro i3 hi3
              obtain rfl : i3 = 3 := by simpa using hi3
              refine wpOpIn_go rfl (by rfl) ?_
              refine ⟨fun _ _ => trivial, ?_⟩
              go_simp
              refine (HC1.out _).mono ?_
              rintro e w1 ⟨rfl, hw1⟩
              have HMB1 := Lib.hid (HMB.out.below hw1); have HMX1 := Lib.hid (HMX.out.below HJ.out HLX.out hw1); have HLX1 := Lib.hid (Nat.le_trans HLX.out hw1.size)
              clear hw1 HMB HMX HLX hi3
              go_simp
              refine ⟨HMB1.out.ms, ?_⟩
              refine wpAnyHIn_all (rs := [6]) (by kernel_rfl) (by simp) ?_
              rintro i3 hi3
              obtain rfl : i3 = 6 := by simpa using hi3
              refine wpOpIn_go rfl (by rfl) ?_
              refine ⟨fun _ _ => trivial, ?_⟩
              go_simp
              refine (HC2.out _).mono ?_
              rintro e w2 ⟨rfl, hw2⟩
              have HMB2 := Lib.hid (HMB1.out.below hw2); have HMX2 := Lib.hid (HMX1.out.below HJ.out HLX1.out hw2); have HLX2 := Lib.hid (Nat.le_trans HLX1.out hw2.size)
              clear hw2 HMB1 HMX1 HLX1 hi3
              go_simp
              refine ⟨HMB2.out.ms, ?_⟩
              refine wpAnyHIn_take (i := 7) (v := ?_) rfl rfl (by kernel_rfl) (by kernel_rfl) (by kernel_rfl) (fun _ _ _ h => h) ⟨Or.inl ⟨by rfl, ?_⟩, ?_⟩ HMB2.out.ms ?_
              rotate_left
              · rintro w' ⟨z0, z1, z2, z3, z4, z5, z6, z7, z8⟩; go_simp; try with_reducible rfl
              · intro _; rfl
              try simp only [Act.put, List.getElem_toArray, List.getElem_cons_zero, List.getElem_cons_succ, List.setIfInBounds_toArray, List.set_cons_zero, List.set_cons_succ]
              refine wpAnyHIn_take (i := 8) (v := ?_) rfl rfl (by kernel_rfl) (by kernel_rfl) (by kernel_rfl) (fun _ _ _ h => h) ⟨Or.inl ⟨by rfl, ?_⟩, ?_⟩ HMB2.out.ms ?_
              rotate_left
              · rintro w' ⟨z0, z1, z2, z3, z4, z5, z6, z7, z8⟩; go_simp; try with_reducible rfl
              · intro _; rfl
              try simp only [Act.put, List.getElem_toArray, List.getElem_cons_zero, List.getElem_cons_succ, List.setIfInBounds_toArray, List.set_cons_zero, List.set_cons_succ]
              refine wpAnyHIn_take (i := 9) (v := ?_) rfl rfl (by kernel_rfl) (by kernel_rfl) (by kernel_rfl) (fun _ _ _ h => h) ⟨Or.inl ⟨by rfl, ?_⟩, ?_⟩ HMB2.out.ms ?_
              rotate_left
              · rintro w' ⟨z0, z1, z2, z3, z4, z5, z6, z7, z8⟩; go_simp; try with_reducible rfl
              · intro _; rfl
              try simp only [Act.put, List.getElem_toArray, List.getElem_cons_zero, List.getElem_cons_succ, List.setIfInBounds_toArray, List.set_cons_zero, List.set_cons_succ]
              refine wpAnyHIn_take (i := 10) (v := undef) rfl rfl (by kernel_rfl) (by kernel_rfl) (by kernel_rfl) (fun _ _ _ h => h) ⟨Or.inr ⟨by rfl, rfl⟩, fun _ => rfl⟩ HMB2.out.ms ?_
              try simp only [Act.put, List.getElem_toArray, List.getElem_cons_zero, List.getElem_cons_succ, List.setIfInBounds_toArray, List.set_cons_zero, List.set_cons_succ]
              refine wpAnyHIn_take (i := 11) (v := undef) rfl rfl (by kernel_rfl) (by kernel_rfl) (by kernel_rfl) (fun _ _ _ h => h) ⟨Or.inr ⟨by rfl, rfl⟩, fun _ => rfl⟩ HMB2.out.ms ?_
              try simp only [Act.put, List.getElem_toArray, List.getElem_cons_zero, List.getElem_cons_succ, List.setIfInBounds_toArray, List.set_cons_zero, List.set_cons_succ]
              refine wpAnyHIn_take (i := 12) (v := undef) rfl rfl (by kernel_rfl) (by kernel_rfl) (by kernel_rfl) (fun _ _ _ h => h) ⟨Or.inr ⟨by rfl, rfl⟩, fun _ => rfl⟩ HMB2.out.ms ?_
              try simp only [Act.put, List.getElem_toArray, List.getElem_cons_zero, List.getElem_cons_succ, List.setIfInBounds_toArray, List.set_cons_zero, List.set_cons_succ]
              refine wpAnyHIn_take (i := 13) (v := undef) rfl rfl (by kernel_rfl) (by kernel_rfl) (by kernel_rfl) (fun _ _ _ h => h) ⟨Or.inr ⟨by rfl, rfl⟩, fun _ => rfl⟩ HMB2.out.ms ?_
              try simp only [Act.put, List.getElem_toArray, List.getElem_cons_zero, List.getElem_cons_succ, List.setIfInBounds_toArray, List.set_cons_zero, List.set_cons_succ]
              refine wpAnyHIn_take (i := 14) (v := undef) rfl rfl (by kernel_rfl) (by kernel_rfl) (by kernel_rfl) (fun _ _ _ h => h) ⟨Or.inr ⟨by rfl, rfl⟩, fun _ => rfl⟩ HMB2.out.ms ?_
              try simp only [Act.put, List.getElem_toArray, List.getElem_cons_zero, List.getElem_cons_succ, List.setIfInBounds_toArray, List.set_cons_zero, List.set_cons_succ]
              refine wpAnyHIn_take (i := 15) (v := undef) rfl rfl (by kernel_rfl) (by kernel_rfl) (by kernel_rfl) (fun _ _ _ h => h) ⟨Or.inr ⟨by rfl, rfl⟩, fun _ => rfl⟩ HMB2.out.ms ?_
              try simp only [Act.put, List.getElem_toArray, List.getElem_cons_zero, List.getElem_cons_succ, List.setIfInBounds_toArray, List.set_cons_zero, List.set_cons_succ]
              refine wpAnyHIn_take (i := 16) (v := undef) rfl rfl (by kernel_rfl) (by kernel_rfl) (by kernel_rfl) (fun _ _ _ h => h) ⟨Or.inr ⟨by rfl, rfl⟩, fun _ => rfl⟩ HMB2.out.ms ?_
              try simp only [Act.put, List.getElem_toArray, List.getElem_cons_zero, List.getElem_cons_succ, List.setIfInBounds_toArray, List.set_cons_zero, List.set_cons_succ]
              refine wpAnyHIn_take (i := 17) (v := undef) rfl rfl (by kernel_rfl) (by kernel_rfl) (by kernel_rfl) (fun _ _ _ h => h) ⟨Or.inr ⟨by rfl, rfl⟩, fun _ => rfl⟩ HMB2.out.ms ?_
              try simp only [Act.put, List.getElem_toArray, List.getElem_cons_zero, List.getElem_cons_succ, List.setIfInBounds_toArray, List.set_cons_zero, List.set_cons_succ]
              refine wpAnyHIn_take (i := 18) (v := undef) rfl rfl (by kernel_rfl) (by kernel_rfl) (by kernel_rfl) (fun _ _ _ h => h) ⟨Or.inr ⟨by rfl, rfl⟩, fun _ => rfl⟩ HMB2.out.ms ?_
              try simp only [Act.put, List.getElem_toArray, List.getElem_cons_zero, List.getElem_cons_succ, List.setIfInBounds_toArray, List.set_cons_zero, List.set_cons_succ]
              refine wpAnyHIn_take (i := 19) (v := undef) rfl rfl (by kernel_rfl) (by kernel_rfl) (by kernel_rfl) (fun _ _ _ h => h) ⟨Or.inr ⟨by rfl, rfl⟩, fun _ => rfl⟩ HMB2.out.ms ?_
              try simp only [Act.put, List.getElem_toArray, List.getElem_cons_zero, List.getElem_cons_succ, List.setIfInBounds_toArray, List.set_cons_zero, List.set_cons_succ]
              refine wpAnyHIn_take (i := 20) (v := undef) rfl rfl (by kernel_rfl) (by kernel_rfl) (by kernel_rfl) (fun _ _ _ h => h) ⟨Or.inr ⟨by rfl, rfl⟩, fun _ => rfl⟩ HMB2.out.ms ?_
              try simp only [Act.put, List.getElem_toArray, List.getElem_cons_zero, List.getElem_cons_succ, List.setIfInBounds_toArray, List.set_cons_zero, List.set_cons_succ]
              refine wpAnyHIn_take (i := 21) (v := undef) rfl rfl (by kernel_rfl) (by kernel_rfl) (by kernel_rfl) (fun _ _ _ h => h) ⟨Or.inr ⟨by rfl, rfl⟩, fun _ => rfl⟩ HMB2.out.ms ?_
              try simp only [Act.put, List.getElem_toArray, List.getElem_cons_zero, List.getElem_cons_succ, List.setIfInBounds_toArray, List.set_cons_zero, List.set_cons_succ]
              refine wpAnyHIn_take (i := 22) (v := undef) rfl rfl (by kernel_rfl) (by kernel_rfl) (by kernel_rfl) (fun _ _ _ h => h) ⟨Or.inr ⟨by rfl, rfl⟩, fun _ => rfl⟩ HMB2.out.ms ?_
              try simp only [Act.put, List.getElem_toArray, List.getElem_cons_zero, List.getElem_cons_succ, List.setIfInBounds_toArray, List.set_cons_zero, List.set_cons_succ]
              refine wpAnyHIn_take (i := 23) (v := undef) rfl rfl (by kernel_rfl) (by kernel_rfl) (by kernel_rfl) (fun _ _ _ h => h) ⟨Or.inr ⟨by rfl, rfl⟩, fun _ => rfl⟩ HMB2.out.ms ?_
              try simp only [Act.put, List.getElem_toArray, List.getElem_cons_zero, List.getElem_cons_succ, List.setIfInBounds_toArray, List.set_cons_zero, List.set_cons_succ]
              refine wpAnyHIn_take (i := 24) (v := undef) rfl rfl (by kernel_rfl) (by kernel_rfl) (by kernel_rfl) (fun _ _ _ h => h) ⟨Or.inr ⟨by rfl, rfl⟩, fun _ => rfl⟩ HMB2.out.ms ?_
              try simp only [Act.put, List.getElem_toArray, List.getElem_cons_zero, List.getElem_cons_succ, List.setIfInBounds_toArray, List.set_cons_zero, List.set_cons_succ]
              refine wpAnyHIn_take (i := 25) (v := undef) rfl rfl (by kernel_rfl) (by kernel_rfl) (by kernel_rfl) (fun _ _ _ h => h) ⟨Or.inr ⟨by rfl, rfl⟩, fun _ => rfl⟩ HMB2.out.ms ?_
              try simp only [Act.put, List.getElem_toArray, List.getElem_cons_zero, List.getElem_cons_succ, List.setIfInBounds_toArray, List.set_cons_zero, List.set_cons_succ]
              refine wpAnyHIn_take (i := 26) (v := ?_) rfl rfl (by kernel_rfl) (by kernel_rfl) (by kernel_rfl) (fun _ _ _ h => h) ⟨Or.inl ⟨by rfl, ?_⟩, ?_⟩ HMB2.out.ms ?_
              rotate_left
              · rintro w' ⟨z0, z1, z2, z3, z4, z5, z6, z7, z8⟩; go_simp; try with_reducible rfl
              · intro _; rfl
              try simp only [Act.put, List.getElem_toArray, List.getElem_cons_zero, List.getElem_cons_succ, List.setIfInBounds_toArray, List.set_cons_zero, List.set_cons_succ]
              refine wpAnyHIn_done (by kernel_rfl) ?_ _
              gi_wp2
              go_roundw
              case rel => exact ⟨j + 1, by omega, by go_num, Lib.hid ⟨HLX2.out, by rw [HSN2.out]; exact HMX2.out, HMB2.out.1⟩⟩
              case measure => simp [intOf]; omega
            · refine wpIn_region_till (S := MS bx bY bp bt x y P Q t) (st := 24) (by kernel_rfl) ?_
              change wpAnyTIn _ _ _ _ _ _ _ _ _ _ _ (World.drew _)
              refine wpAnyTIn_take (i := 0) (st := 24) (f := 30) (v := ?_) rfl rfl (by kernel_rfl) (by kernel_rfl) (by kernel_rfl) (by kernel_rfl) (by kernel_rfl) (by kernel_rfl) (fun _ _ _ h => h) ⟨Or.inl ⟨by rfl, ?_⟩, ?_⟩ HMB.out.ms ?_
              rotate_left
              · rintro w' ⟨z0, z1, z2, z3, z4, z5, z6, z7, z8⟩; go_simp; try with_reducible rfl
              · intro _; rfl
              try simp only [Act.put, List.getElem_toArray, List.getElem_cons_zero, List.setIfInBounds_toArray, List.set_cons_zero, List.set_cons_succ]
              refine wpAnyTIn_take (i := 1) (st := 24) (f := 30) (v := ?_) rfl rfl (by kernel_rfl) (by kernel_rfl) (by kernel_rfl) (by kernel_rfl) (by kernel_rfl) (by kernel_rfl) (fun _ _ _ h => h) ⟨Or.inl ⟨by rfl, ?_⟩, ?_⟩ HMB.out.ms ?_
              rotate_left
              · rintro w' ⟨z0, z1, z2, z3, z4, z5, z6, z7, z8⟩; go_simp; try with_reducible rfl
              · intro _; rfl
              try simp only [Act.put, List.getElem_toArray, List.getElem_cons_zero, List.getElem_cons_succ, List.setIfInBounds_toArray, List.set_cons_zero, List.set_cons_succ]
              refine wpAnyTIn_take (i := 2) (st := 24) (f := 30) (v := ?_) rfl rfl (by kernel_rfl) (by kernel_rfl) (by kernel_rfl) (by kernel_rfl) (by kernel_rfl) (by kernel_rfl) (fun _ _ _ h => h) ⟨Or.inl ⟨by rfl, ?_⟩, ?_⟩ HMB.out.ms ?_
              rotate_left
              · rintro w' ⟨z0, z1, z2, z3, z4, z5, z6, z7, z8⟩; go_simp; try with_reducible rfl
              · intro _; rfl
              try simp only [Act.put, List.getElem_toArray, List.getElem_cons_zero, List.getElem_cons_succ, List.setIfInBounds_toArray, List.set_cons_zero, List.set_cons_succ]
              refine wpAnyTIn_take (i := 4) (st := 24) (f := 30) (v := ?_) rfl rfl (by kernel_rfl) (by kernel_rfl) (by kernel_rfl) (by kernel_rfl) (by kernel_rfl) (by kernel_rfl) (fun _ _ _ h => h) ⟨Or.inl ⟨by rfl, ?_⟩, ?_⟩ HMB.out.ms ?_
              rotate_left
              · rintro w' ⟨z0, z1, z2, z3, z4, z5, z6, z7, z8⟩; go_simp; try with_reducible rfl
              · intro _; rfl
              try simp only [Act.put, List.getElem_toArray, List.getElem_cons_zero, List.getElem_cons_succ, List.setIfInBounds_toArray, List.set_cons_zero, List.set_cons_succ]
              refine wpAnyTIn_take (i := 5) (st := 24) (f := 30) (v := ?_) rfl rfl (by kernel_rfl) (by kernel_rfl) (by kernel_rfl) (by kernel_rfl) (by kernel_rfl) (by kernel_rfl) (fun _ _ _ h => h) ⟨Or.inl ⟨by rfl, ?_⟩, ?_⟩ HMB.out.ms ?_
              rotate_left
              · rintro w' ⟨z0, z1, z2, z3, z4, z5, z6, z7, z8⟩; go_simp; try with_reducible rfl
              · intro _; rfl
              try simp only [Act.put, List.getElem_toArray, List.getElem_cons_zero, List.getElem_cons_succ, List.setIfInBounds_toArray, List.set_cons_zero, List.set_cons_succ]
              refine wpAnyTIn_one (i := 3) (by kernel_rfl) (by kernel_rfl) ?_
              refine wpOpIn_go rfl (by rfl) ?_
              refine ⟨fun _ _ => trivial, ?_⟩
              go_simp
              refine (HC1.out _).mono ?_
              rintro e w1 ⟨rfl, hw1⟩
              have HMB1 := Lib.hid (HMB.out.below hw1); have HMX1 := Lib.hid (HMX.out.below HJ.out HLX.out hw1); have HLX1 := Lib.hid (Nat.le_trans HLX.out hw1.size)
              clear hw1 HMB HMX HLX
              go_simp
              refine ⟨HMB1.out.ms, ?_⟩
              refine wpAnyTIn_one (i := 6) (by kernel_rfl) (by kernel_rfl) ?_
              refine wpOpIn_go rfl (by rfl) ?_
              refine ⟨fun _ _ => trivial, ?_⟩
              go_simp
              refine (HC2.out _).mono ?_
              rintro e w2 ⟨rfl, hw2⟩
              have HMB2 := Lib.hid (HMB1.out.below hw2); have HMX2 := Lib.hid (HMX1.out.below HJ.out HLX1.out hw2); have HLX2 := Lib.hid (Nat.le_trans HLX1.out hw2.size)
              clear hw2 HMB1 HMX1 HLX1
              go_simp
              refine ⟨HMB2.out.ms, ?_⟩
              refine wpAnyTIn_take (i := 7) (st := 24) (f := 30) (v := ?_) rfl rfl (by kernel_rfl) (by kernel_rfl) (by kernel_rfl) (by kernel_rfl) (by kernel_rfl) (by kernel_rfl) (fun _ _ _ h => h) ⟨Or.inl ⟨by rfl, ?_⟩, ?_⟩ HMB2.out.ms ?_
              rotate_left
              · rintro w' ⟨z0, z1, z2, z3, z4, z5, z6, z7, z8⟩; go_simp; try with_reducible rfl
              · intro _; rfl
              try simp only [Act.put, List.getElem_toArray, List.getElem_cons_zero, List.getElem_cons_succ, List.setIfInBounds_toArray, List.set_cons_zero, List.set_cons_succ]
              refine wpAnyTIn_take (i := 8) (st := 24) (f := 30) (v := ?_) rfl rfl (by kernel_rfl) (by kernel_rfl) (by kernel_rfl) (by kernel_rfl) (by kernel_rfl) (by kernel_rfl) (fun _ _ _ h => h) ⟨Or.inl ⟨by rfl, ?_⟩, ?_⟩ HMB2.out.ms ?_
              rotate_left
              · rintro w' ⟨z0, z1, z2, z3, z4, z5, z6, z7, z8⟩; go_simp; try with_reducible rfl
              · intro _; rfl
              try simp only [Act.put, List.getElem_toArray, List.getElem_cons_zero, List.getElem_cons_succ, List.setIfInBounds_toArray, List.set_cons_zero, List.set_cons_succ]
              refine wpAnyTIn_take (i := 9) (st := 24) (f := 30) (v := ?_) rfl rfl (by kernel_rfl) (by kernel_rfl) (by kernel_rfl) (by kernel_rfl) (by kernel_rfl) (by kernel_rfl) (fun _ _ _ h => h) ⟨Or.inl ⟨by rfl, ?_⟩, ?_⟩ HMB2.out.ms ?_
              rotate_left
              · rintro w' ⟨z0, z1, z2, z3, z4, z5, z6, z7, z8⟩; go_simp; try with_reducible rfl
              · intro _; rfl
              try simp only [Act.put, List.getElem_toArray, List.getElem_cons_zero, List.getElem_cons_succ, List.setIfInBounds_toArray, List.set_cons_zero, List.set_cons_succ]
              refine wpAnyTIn_take (i := 10) (st := 24) (f := 30) (v := ?_) rfl rfl (by kernel_rfl) (by kernel_rfl) (by kernel_rfl) (by kernel_rfl) (by kernel_rfl) (by kernel_rfl) (fun _ _ _ h => h) ⟨Or.inl ⟨by rfl, ?_⟩, ?_⟩ HMB2.out.ms ?_
              rotate_left
              · rintro w' ⟨z0, z1, z2, z3, z4, z5, z6, z7, z8⟩; go_simp; try with_reducible rfl
              · intro _; rfl
              try simp only [Act.put, List.getElem_toArray, List.getElem_cons_zero, List.getElem_cons_succ, List.setIfInBounds_toArray, List.set_cons_zero, List.set_cons_succ]
              refine wpAnyTIn_take (i := 11) (st := 24) (f := 30) (v := ?_) rfl rfl (by kernel_rfl) (by kernel_rfl) (by kernel_rfl) (by kernel_rfl) (by kernel_rfl) (by kernel_rfl) (fun _ _ _ h => h) ⟨Or.inl ⟨by rfl, ?_⟩, ?_⟩ HMB2.out.ms ?_
              rotate_left
              · rintro w' ⟨z0, z1, z2, z3, z4, z5, z6, z7, z8⟩; go_simp; try with_reducible rfl
              · intro _; rfl
              try simp only [Act.put, List.getElem_toArray, List.getElem_cons_zero, List.getElem_cons_succ, List.setIfInBounds_toArray, List.set_cons_zero, List.set_cons_succ]
              refine wpAnyTIn_take (i := 12) (st := 24) (f := 30) (v := ?_) rfl rfl (by kernel_rfl) (by kernel_rfl) (by kernel_rfl) (by kernel_rfl) (by kernel_rfl) (by kernel_rfl) (fun _ _ _ h => h) ⟨Or.inl ⟨by rfl, ?_⟩, ?_⟩ HMB2.out.ms ?_
              rotate_left
              · rintro w' ⟨z0, z1, z2, z3, z4, z5, z6, z7, z8⟩; go_simp; try with_reducible rfl
              · intro _; rfl
              try simp only [Act.put, List.getElem_toArray, List.getElem_cons_zero, List.getElem_cons_succ, List.setIfInBounds_toArray, List.set_cons_zero, List.set_cons_succ]
              refine wpAnyTIn_take (i := 13) (st := 24) (f := 30) (v := ?_) rfl rfl (by kernel_rfl) (by kernel_rfl) (by kernel_rfl) (by kernel_rfl) (by kernel_rfl) (by kernel_rfl) (fun _ _ _ h => h) ⟨Or.inl ⟨by rfl, ?_⟩, ?_⟩ HMB2.out.ms ?_
              rotate_left
              · rintro w' ⟨z0, z1, z2, z3, z4, z5, z6, z7, z8⟩; go_simp; try with_reducible rfl
              · intro _; rfl
              try simp only [Act.put, List.getElem_toArray, List.getElem_cons_zero, List.getElem_cons_succ, List.setIfInBounds_toArray, List.set_cons_zero, List.set_cons_succ]
              refine wpAnyTIn_take (i := 14) (st := 24) (f := 30) (v := ?_) rfl rfl (by kernel_rfl) (by kernel_rfl) (by kernel_rfl) (by kernel_rfl) (by kernel_rfl) (by kernel_rfl) (fun _ _ _ h => h) ⟨Or.inl ⟨by rfl, ?_⟩, ?_⟩ HMB2.out.ms ?_
              rotate_left
              · rintro w' ⟨z0, z1, z2, z3, z4, z5, z6, z7, z8⟩; go_simp; try with_reducible rfl
              · intro _; rfl
              try simp only [Act.put, List.getElem_toArray, List.getElem_cons_zero, List.getElem_cons_succ, List.setIfInBounds_toArray, List.set_cons_zero, List.set_cons_succ]
              refine wpAnyTIn_take (i := 15) (st := 24) (f := 30) (v := ?_) rfl rfl (by kernel_rfl) (by kernel_rfl) (by kernel_rfl) (by kernel_rfl) (by kernel_rfl) (by kernel_rfl) (fun _ _ _ h => h) ⟨Or.inl ⟨by rfl, ?_⟩, ?_⟩ HMB2.out.ms ?_
              rotate_left
              · rintro w' ⟨z0, z1, z2, z3, z4, z5, z6, z7, z8⟩; go_simp; try with_reducible rfl
              · intro _; rfl
              try simp only [Act.put, List.getElem_toArray, List.getElem_cons_zero, List.getElem_cons_succ, List.setIfInBounds_toArray, List.set_cons_zero, List.set_cons_succ]
              refine wpAnyTIn_take (i := 16) (st := 24) (f := 30) (v := ?_) rfl rfl (by kernel_rfl) (by kernel_rfl) (by kernel_rfl) (by kernel_rfl) (by kernel_rfl) (by kernel_rfl) (fun _ _ _ h => h) ⟨Or.inl ⟨by rfl, ?_⟩, ?_⟩ HMB2.out.ms ?_
              rotate_left
              · rintro w' ⟨z0, z1, z2, z3, z4, z5, z6, z7, z8⟩; go_simp; try with_reducible rfl
              · intro _; rfl
              try simp only [Act.put, List.getElem_toArray, List.getElem_cons_zero, List.getElem_cons_succ, List.setIfInBounds_toArray, List.set_cons_zero, List.set_cons_succ]
              refine wpAnyTIn_take (i := 17) (st := 24) (f := 30) (v := .int .i64 S) rfl rfl (by kernel_rfl) (by kernel_rfl) (by kernel_rfl) (by kernel_rfl) (by kernel_rfl) (by kernel_rfl) (fun _ _ _ h => h) ⟨Or.inl ⟨by rfl, ?_⟩, ?_⟩ HMB2.out.ms ?_
              · have hs1 := HS1.out; intro w' _; go_simp
              · intro _; rfl
              try simp only [Act.put, List.getElem_toArray, List.getElem_cons_zero, List.getElem_cons_succ, List.setIfInBounds_toArray, List.set_cons_zero, List.set_cons_succ]
              refine wpAnyTIn_take (i := 18) (st := 24) (f := 30) (v := ?_) rfl rfl (by kernel_rfl) (by kernel_rfl) (by kernel_rfl) (by kernel_rfl) (by kernel_rfl) (by kernel_rfl) (fun _ _ _ h => h) ⟨Or.inl ⟨by rfl, ?_⟩, ?_⟩ HMB2.out.ms ?_
              rotate_left
              · rintro w' ⟨z0, z1, z2, z3, z4, z5, z6, z7, z8⟩; go_simp; try with_reducible rfl
              · intro _; rfl
              try simp only [Act.put, List.getElem_toArray, List.getElem_cons_zero, List.getElem_cons_succ, List.setIfInBounds_toArray, List.set_cons_zero, List.set_cons_succ]
              refine wpAnyTIn_take (i := 19) (st := 24) (f := 30) (v := ?_) rfl rfl (by kernel_rfl) (by kernel_rfl) (by kernel_rfl) (by kernel_rfl) (by kernel_rfl) (by kernel_rfl) (fun _ _ _ h => h) ⟨Or.inl ⟨by rfl, ?_⟩, ?_⟩ HMB2.out.ms ?_
              rotate_left
              · rintro w' ⟨z0, z1, z2, z3, z4, z5, z6, z7, z8⟩; go_simp; try with_reducible rfl
              · intro _; rfl
              try simp only [Act.put, List.getElem_toArray, List.getElem_cons_zero, List.getElem_cons_succ, List.setIfInBounds_toArray, List.set_cons_zero, List.set_cons_succ]
              refine wpAnyTIn_take (i := 20) (st := 24) (f := 30) (v := ?_) rfl rfl (by kernel_rfl) (by kernel_rfl) (by kernel_rfl) (by kernel_rfl) (by kernel_rfl) (by kernel_rfl) (fun _ _ _ h => h) ⟨Or.inl ⟨by rfl, ?_⟩, ?_⟩ HMB2.out.ms ?_
              rotate_left
              · rintro w' ⟨z0, z1, z2, z3, z4, z5, z6, z7, z8⟩; go_simp; try with_reducible rfl
              · intro _; rfl
              try simp only [Act.put, List.getElem_toArray, List.getElem_cons_zero, List.getElem_cons_succ, List.setIfInBounds_toArray, List.set_cons_zero, List.set_cons_succ]
              refine wpAnyTIn_take (i := 21) (st := 24) (f := 30) (v := ?_) rfl rfl (by kernel_rfl) (by kernel_rfl) (by kernel_rfl) (by kernel_rfl) (by kernel_rfl) (by kernel_rfl) (fun _ _ _ h => h) ⟨Or.inl ⟨by rfl, ?_⟩, ?_⟩ HMB2.out.ms ?_
              rotate_left
              · rintro w' ⟨z0, z1, z2, z3, z4, z5, z6, z7, z8⟩; go_simp; try with_reducible rfl
              · intro _; rfl
              try simp only [Act.put, List.getElem_toArray, List.getElem_cons_zero, List.getElem_cons_succ, List.setIfInBounds_toArray, List.set_cons_zero, List.set_cons_succ]
              refine wpAnyTIn_take (i := 22) (st := 24) (f := 30) (v := ?_) rfl rfl (by kernel_rfl) (by kernel_rfl) (by kernel_rfl) (by kernel_rfl) (by kernel_rfl) (by kernel_rfl) (fun _ _ _ h => h) ⟨Or.inl ⟨by rfl, ?_⟩, ?_⟩ HMB2.out.ms ?_
              rotate_left
              · rintro w' ⟨z0, z1, z2, z3, z4, z5, z6, z7, z8⟩; go_simp; try with_reducible rfl
              · intro _; rfl
              try simp only [Act.put, List.getElem_toArray, List.getElem_cons_zero, List.getElem_cons_succ, List.setIfInBounds_toArray, List.set_cons_zero, List.set_cons_succ]
              refine wpAnyTIn_take (i := 23) (st := 24) (f := 30) (v := ?_) rfl rfl (by kernel_rfl) (by kernel_rfl) (by kernel_rfl) (by kernel_rfl) (by kernel_rfl) (by kernel_rfl) (fun _ _ _ h => h) ⟨Or.inl ⟨by rfl, ?_⟩, ?_⟩ HMB2.out.ms ?_
              rotate_left
              · rintro w' ⟨z0, z1, z2, z3, z4, z5, z6, z7, z8⟩; go_simp; try with_reducible rfl
              · intro _; rfl
              try simp only [Act.put, List.getElem_toArray, List.getElem_cons_zero, List.getElem_cons_succ, List.setIfInBounds_toArray, List.set_cons_zero, List.set_cons_succ]
              refine wpAnyTIn_st (by kernel_rfl) ?_
              refine wpOpIn_go rfl (by rfl) ?_
              obtain ⟨fn, tmps, assign, body, hy, hR⟩ := HY.out _ ⟨d, S, P, Q⟩ w2 HMX2.out.j HPL.out
              have hy' : (Instr.yield l #[.agg #[.int .i64 P, .int .i64 Q, .int .i64 d, .int .i64 S, .int .i64 P, .int .i64 Q]]).run Try.prog w2 = .ok (.round l fn tmps assign body) w2 := hy
              clear hy
              refine ⟨fun _ _ => trivial, ?_⟩
              go_simp
              refine hR.mono ?_
              rintro e w3 (⟨rfl, hj3, hk3⟩ | ⟨rfl, hjx3⟩)
              · have HMX3 := Lib.hid (HMX2.out.kp hj3 hk3); have HBX3 := Lib.hid (HMB2.out.kp hk3).1
                clear hj3 hk3 HMB2 HLX2 hy' hR
                go_simp
                refine wpAnyIn_take (i := 25) (v := ?_) rfl rfl (by kernel_rfl) (by kernel_rfl) (by kernel_rfl) (fun _ _ _ h => h) ⟨Or.inl ⟨by rfl, ?_⟩, ?_⟩ ?_
                rotate_left
                · intro w'; go_simp; try with_reducible rfl
                · intro _; rfl
                try simp only [Act.put, List.getElem_toArray, List.getElem_cons_zero, List.getElem_cons_succ, List.setIfInBounds_toArray, List.set_cons_zero, List.set_cons_succ]
                refine wpAnyIn_take (i := 26) (v := ?_) rfl rfl (by kernel_rfl) (by kernel_rfl) (by kernel_rfl) (fun _ _ _ h => h) ⟨Or.inl ⟨by rfl, ?_⟩, ?_⟩ ?_
                rotate_left
                · intro w'; go_simp; try with_reducible rfl
                · intro _; rfl
                try simp only [Act.put, List.getElem_toArray, List.getElem_cons_zero, List.getElem_cons_succ, List.setIfInBounds_toArray, List.set_cons_zero, List.set_cons_succ]
                refine wpAnyIn_done (by kernel_rfl) ?_ _
                gi_wp2
                go_roundw
                case rel => exact ⟨j + 1, by omega, by go_num, Lib.hid ⟨HMX3.out.b.size, by rw [HSN2.out, if_pos rfl, ← List.append_assoc]; exact HMX3.out, HBX3.out⟩⟩
                case measure => simp [intOf]; omega
              · clear hy' hR
                go_simp
                refine wpAnyIn_take (i := 25) (v := ?_) rfl rfl (by kernel_rfl) (by kernel_rfl) (by kernel_rfl) (fun _ _ _ h => h) ⟨Or.inl ⟨by rfl, ?_⟩, ?_⟩ ?_
                rotate_left
                · intro w'; go_simp; try with_reducible rfl
                · intro _; rfl
                try simp only [Act.put, List.getElem_toArray, List.getElem_cons_zero, List.getElem_cons_succ, List.setIfInBounds_toArray, List.set_cons_zero, List.set_cons_succ]
                refine wpAnyIn_take (i := 26) (v := ?_) rfl rfl (by kernel_rfl) (by kernel_rfl) (by kernel_rfl) (fun _ _ _ h => h) ⟨Or.inl ⟨by rfl, ?_⟩, ?_⟩ ?_
                rotate_left
                · intro w'; go_simp; try with_reducible rfl
                · intro _; rfl
                try simp only [Act.put, List.getElem_toArray, List.getElem_cons_zero, List.getElem_cons_succ, List.setIfInBounds_toArray, List.set_cons_zero, List.set_cons_succ]
                refine wpAnyIn_done (by kernel_rfl) ?_ _
                gi_wp2
                refine bodyPost_ret (results_none rfl _ _ _) rfl ?_
                first | exact ⟨⟨_, rfl⟩, .inr ⟨_, trivial, hjx3⟩⟩ | exact ⟨⟨_, rfl⟩, .inr ⟨_, hjx3⟩⟩
          · obtain rfl : N = j := by omega
            have hnx : mtgsTo t ts (i + 1) = mtgsTo t ts i ++ mtgOf t x ((ts.drop (i + 1)).take N) := by
              rw [mtgsTo, List.getD_eq_getElem?_getD, HX.out, List.take_of_length_le (by rw [List.length_drop, HL.out]; omega)]
              rfl
            have HNX := Lib.hid hnx; clear hnx
            gi_wp2
            go_roundw
            case rel => exact ⟨i + 1, by omega, by go_num, Lib.hid ⟨HJJ.out.1, by rw [HNX.out]; exact HJJ.out.2.1⟩⟩
            case measure => simp [intOf]; omega
    · obtain rfl : n = i := by omega
      have hall : mtgsTo t ts n = mtgs t ts := by rw [← HL.out]; exact mtgsTo_all t ts
      have HALL := Lib.hid hall; clear hall
      gi_wp2
      go_end0
      exact ⟨⟨_, rfl⟩, .inl ⟨_, HALL.out, HI.out.2.j⟩⟩
end Go.Proofs.Ytkceefheeicmbaa
