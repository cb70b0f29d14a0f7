/-
  NOBODY WAITS LONGER THAN THE BOUND, in the plain model of package budget.
-/
import Derived.Test.YtkiknbjokknemaaGreatBudA
namespace Go.Proofs.YtkiknbjokknemaaGreat

def sumR : Nat → (Nat → Int) → Int
  | 0, _ => 0
  | n + 1, f => sumR n f + f n

theorem sumR_le {n : Nat} {f g : Nat → Int} (h : ∀ i, i < n → f i ≤ g i) : sumR n f ≤ sumR n g := by
  induction n with
  | zero => exact Int.le_refl _
  | succ n ih => have := ih fun i hi => h i (by omega); have := h n (by omega); simp only [sumR]; omega
theorem sumR_congr {n : Nat} {f g : Nat → Int} (h : ∀ i, i < n → f i = g i) : sumR n f = sumR n g := by
  induction n with
  | zero => rfl
  | succ n ih => have := ih fun i hi => h i (by omega); have := h n (by omega); simp only [sumR]; omega
theorem sumR_add (n : Nat) (f g : Nat → Int) : sumR n (fun i => f i + g i) = sumR n f + sumR n g := by
  induction n with
  | zero => rfl
  | succ n ih => simp only [sumR]; omega
theorem sumR_sub (n : Nat) (f g : Nat → Int) : sumR n (fun i => f i - g i) = sumR n f - sumR n g := by
  induction n with
  | zero => rfl
  | succ n ih => simp only [sumR]; omega
theorem sumR_nonneg {n : Nat} {f : Nat → Int} (h : ∀ i, i < n → 0 ≤ f i) : 0 ≤ sumR n f := by
  induction n with
  | zero => exact Int.le_refl _
  | succ n ih => have := ih fun i hi => h i (by omega); have := h n (by omega); simp only [sumR]; omega
theorem sumR_zero (n : Nat) : sumR n (fun _ => 0) = 0 := by
  induction n with
  | zero => rfl
  | succ n ih => simp only [sumR, ih]; rfl
theorem sumR_left (n : Nat) (f : Nat → Int) : sumR (n + 1) f = f 0 + sumR n fun i => f (i + 1) := by
  induction n with
  | zero => simp [sumR]
  | succ n ih => rw [sumR, ih]; simp only [sumR]; omega
theorem sum_map_sumR {α : Type} [Inhabited α] (l : List α) (g : α → Int) : (l.map g).sum = sumR l.length fun i => g (l.getD i default) := by
  induction l with
  | nil => rfl
  | cons a l ih => rw [List.map_cons, List.sum_cons, ih, List.length_cons, sumR_left]; rfl

theorem sumR_one (n a : Nat) (C : Int) (h : a < n) : sumR n (fun i => if i = a then C else 0) = C := by
  induction n with
  | zero => omega
  | succ n ih =>
    simp only [sumR]
    by_cases c : a = n
    · subst c
      rw [sumR_congr (g := fun _ => 0) (fun i hi => if_neg (by omega)), sumR_zero]; simp
    · rw [ih (by omega), if_neg (by omega)]; omega
theorem sumR_mem (n : Nat) (C : Int) (p : List Nat) (hn : p.Nodup) (hp : ∀ i ∈ p, i < n) : sumR n (fun i => if i ∈ p then C else 0) = p.length * C := by
  induction p with
  | nil => simp [sumR_zero]
  | cons a p ih =>
    rw [List.nodup_cons] at hn
    have h1 : sumR n (fun i => if i ∈ a :: p then C else 0) = sumR n (fun i => (if i = a then C else 0) + if i ∈ p then C else 0) := by
      refine sumR_congr fun i hi => ?_
      by_cases c : i = a
      · subst c; simp [hn.1]
      · simp [c]
    rw [h1, sumR_add, sumR_one n a C (hp a (by simp)), ih hn.2 (fun i hi => hp i (by simp [hi]))]
    simp only [List.length_cons]
    rw [show ((p.length + 1 : Nat) : Int) = (p.length : Int) + 1 by simp, Int.add_mul, Int.one_mul]; omega

/-- What the others hold, each at most C. -/
def phi (C d : Int) (l : List It) (ws : List (Int × Int)) : Int := (ws.map fun x => if x.1 = d then 0 else min (scoreOf l x.1) C).sum
def psi (C d : Int) (l : List It) : Int := (l.map fun x => if x.id = d then 0 else min x.sc C).sum

theorem sum_nonneg {α : Type} {l : List α} {f : α → Int} (h : ∀ x ∈ l, 0 ≤ f x) : 0 ≤ (l.map f).sum := by
  induction l with
  | nil => simp
  | cons a l ih => have := ih fun x hx => h x (by simp [hx]); have := h a (by simp); simp only [List.map_cons, List.sum_cons]; omega

theorem sum_one {ws : List (Int × Int)} (hp : ws.Pairwise fun a b => a.1 < b.1) (id A : Int) (B : Int → Int) (hA : 0 ≤ A) (hB : ∀ x ∈ ws, 0 ≤ B x.1) :
    (ws.map fun x => if id = x.1 then A else B x.1).sum ≤ A + (ws.map fun x => B x.1).sum := by
  induction ws with
  | nil => simpa using hA
  | cons a ws ih =>
    rw [List.pairwise_cons] at hp
    have hB' := fun x (hx : x ∈ ws) => hB x (by simp [hx])
    have ha := hB a (by simp)
    simp only [List.map_cons, List.sum_cons]
    by_cases c : id = a.1
    · rw [if_pos c]
      have : ws.map (fun x => if id = x.1 then A else B x.1) = ws.map fun x => B x.1 := by
        refine List.map_congr_left fun x hx => ?_
        rw [if_neg (by have := hp.1 x hx; omega)]
      rw [this]; omega
    · rw [if_neg c]
      have := ih hp.2 hB'
      omega

theorem scoreOf_pos {l : List It} (hl : ∀ x ∈ l, 0 ≤ x.sc) (id : Int) : 0 ≤ scoreOf l id := by
  induction l with
  | nil => simp [scoreOf]
  | cons a l ih =>
    rw [scoreOf_cons]
    split
    · exact hl a (by simp)
    · exact ih fun x hx => hl x (by simp [hx])

theorem phi_psi {C d : Int} (hC : 0 ≤ C) {l : List It} (hl : ∀ x ∈ l, 0 ≤ x.sc) {ws : List (Int × Int)} (hp : ws.Pairwise fun a b => a.1 < b.1) : phi C d l ws ≤ psi C d l := by
  induction l with
  | nil =>
    have : phi C d [] ws = 0 := by
      unfold phi
      have h : ∀ x : Int × Int, (if x.1 = d then (0 : Int) else min (scoreOf [] x.1) C) = 0 := fun x => by rw [scoreOf_nil]; split <;> omega
      simp only [h]
      induction ws with
      | nil => rfl
      | cons a ws ih => rw [List.map_cons, List.sum_cons, ih (List.pairwise_cons.1 hp).2]; rfl
    rw [this]; simp [psi]
  | cons y l ih =>
    have ih := ih fun x hx => hl x (by simp [hx])
    have hy := hl y (by simp)
    have hs : ∀ id, 0 ≤ scoreOf l id := scoreOf_pos fun x hx => hl x (by simp [hx])
    have h1 : phi C d (y :: l) ws = (ws.map fun x => if y.id = x.1 then (if y.id = d then 0 else min y.sc C) else (if x.1 = d then 0 else min (scoreOf l x.1) C)).sum := by
      unfold phi
      congr 1
      refine List.map_congr_left fun x _ => ?_
      rw [scoreOf_cons]
      by_cases c : y.id = x.1
      · rw [if_pos c, if_pos c, c]
      · rw [if_neg c, if_neg c]
    have h2 := sum_one hp y.id (if y.id = d then 0 else min y.sc C) (fun id => if id = d then 0 else min (scoreOf l id) C) (by split <;> omega) (fun x _ => by have := hs x.1; show 0 ≤ (if x.1 = d then (0:Int) else _); split <;> omega)
    rw [h1]
    refine Int.le_trans h2 ?_
    unfold psi
    rw [List.map_cons, List.sum_cons]
    unfold phi psi at ih
    omega

theorem sum_le_mul {α : Type} {l : List α} {f : α → Int} {C : Int} (h : ∀ x ∈ l, f x ≤ C) : (l.map f).sum ≤ l.length * C := by
  induction l with
  | nil => simp
  | cons a l ih =>
    have := ih fun x hx => h x (by simp [hx]); have := h a (by simp)
    simp only [List.map_cons, List.sum_cons, List.length_cons]
    rw [show ((l.length + 1 : Nat) : Int) = (l.length : Int) + 1 by simp, Int.add_mul, Int.one_mul]; omega

/-- With d among the wants the others hold at most C each. -/
theorem phi_start {C d : Int} (hC : 0 ≤ C) {l : List It} {ws : List (Int × Int)} (hp : ws.Pairwise fun a b => a.1 < b.1) {wt : Int} (hd : (d, wt) ∈ ws) : phi C d l ws ≤ ((ws.length : Int) - 1) * C := by
  unfold phi
  induction ws with
  | nil => cases hd
  | cons a ws ih =>
    rw [List.pairwise_cons] at hp
    simp only [List.map_cons, List.sum_cons, List.length_cons]
    rw [show ((ws.length + 1 : Nat) : Int) - 1 = (ws.length : Int) by omega]
    rcases List.mem_cons.1 hd with h | h
    · rw [← h, if_pos rfl]
      have : (ws.map fun x => if x.1 = d then (0 : Int) else min (scoreOf l x.1) C).sum ≤ ws.length * C := sum_le_mul fun x _ => by split <;> omega
      omega
    · have := ih hp.2 h
      have h1 : (if a.1 = d then (0 : Int) else min (scoreOf l a.1) C) ≤ C := by split <;> omega
      rw [Int.sub_mul, Int.one_mul] at this
      omega

/-- The number of the others, by places. -/
theorem others {d : Int} {ws : List (Int × Int)} (hp : ws.Pairwise fun a b => a.1 < b.1) {wt : Int} (hd : (d, wt) ∈ ws) (M : Int) : sumR ws.length (fun i => if (ws.getD i default).1 = d then 0 else M) = ((ws.length : Int) - 1) * M := by
  rw [← sum_map_sumR ws (fun x => if x.1 = d then 0 else M)]
  induction ws with
  | nil => cases hd
  | cons a ws ih =>
    rw [List.pairwise_cons] at hp
    simp only [List.map_cons, List.sum_cons, List.length_cons]
    rw [show ((ws.length + 1 : Nat) : Int) - 1 = (ws.length : Int) by omega]
    rcases List.mem_cons.1 hd with h | h
    · rw [← h, if_pos rfl]
      have : ws.map (fun x => if x.1 = d then (0 : Int) else M) = ws.map fun _ => M := List.map_congr_left fun x hx => if_neg (by have := hp.1 x hx; rw [← h] at this; simp only at this; omega)
      rw [this]
      have : ∀ (l : List (Int × Int)), (l.map fun _ => M).sum = l.length * M := fun l => by
        induction l with
        | nil => simp
        | cons b l ih => simp only [List.map_cons, List.sum_cons, List.length_cons, ih]; rw [show ((l.length + 1 : Nat) : Int) = (l.length : Int) + 1 by simp, Int.add_mul, Int.one_mul]; omega
      rw [this]; omega
    · rw [ih hp.2 h, if_neg (by have := hp.1 _ h; simp only at this; omega)]
      rw [Int.sub_mul, Int.one_mul]; omega

/-- One step: whoever is sent had at least C. -/
theorem phi_step {C d M : Int} (hC : 0 ≤ C) (hCt : C ≤ topScore) (hM : 0 ≤ M) {l : List It} (hl : ValidP l) {ws ws' : List (Int × Int)} (hw : RightP ws) (hw' : ws'.Pairwise fun a b => a.1 < b.1) {k : Nat} {wt : Int} (hd : (d, wt) ∈ ws) (hns : d ∉ (stepM l ws k).2)
    (hm : ∀ x ∈ ws, x.2 ≤ M) (hsent : ∀ i w, i ∈ places l ws k → ws[i]? = some w → C ≤ (gitm l w).sc) :
    phi C d (stepM l ws k).1 ws' ≤ phi C d l ws + ((ws.length : Int) - 1) * M - (k : Int) * C := by
  have hlen : k < ws.length := by
    rcases Nat.lt_or_ge k ws.length with h | h
    · exact h
    · exfalso
      obtain ⟨i, hi⟩ := List.mem_iff_getElem?.1 hd
      refine hns ?_
      simp only [stepM, List.mem_map]
      have hil := (List.getElem?_eq_some_iff.1 hi).1
      refine ⟨i, ?_, by rw [outs_getD hi]; rfl⟩
      unfold places
      rw [List.take_of_length_le (by rw [order_len, outs_len]; exact h)]
      rw [mem_order, outs_len]; exact hil
  have hpl : (places l ws k).length = k := by rw [places_len]; omega
  refine Int.le_trans (phi_psi hC (fun x hx => (stepM_bd hl.2 hw k x hx).1) hw') ?_
  unfold psi phi
  rw [sum_map_sumR, sum_map_sumR, stepM_len, ← others hw.2.2 hd M, show (k : Int) * C = ((places l ws k).length : Int) * C by rw [hpl], ← sumR_mem ws.length C (places l ws k) (places_nodup _ _ _) (fun i hi => mem_places hi)]
  rw [← sumR_add, ← sumR_sub]
  refine sumR_le fun i hi => ?_
  obtain ⟨w, hwi⟩ : ∃ w, ws[i]? = some w := ⟨_, List.getElem?_eq_getElem hi⟩
  have e1 : ws.getD i default = w := by rw [List.getD_eq_getElem?_getD, hwi]; rfl
  have e2 : (stepM l ws k).1.getD i default = if i ∈ places l ws k then ⟨w.1, w.2, 0⟩ else gitm l w := by rw [List.getD_eq_getElem?_getD, stepM_get _ _ _ _ hwi]; rfl
  rw [e1, e2]
  have hwm := List.mem_of_getElem? hwi
  have b1 := hm w hwm
  have b2 := (hw.2.1 w hwm).2.2
  have b3 := scoreOf_bd hl.2 w.1
  by_cases c : i ∈ places l ws k
  · have hne : w.1 ≠ d := by
      intro h
      refine hns ?_
      simp only [stepM, List.mem_map]
      exact ⟨i, c, by rw [outs_getD hwi]; exact h⟩
    have := hsent i w c hwi
    rw [gitm_sc] at this
    simp only [if_pos c, if_neg hne]
    omega
  · simp only [if_neg c]
    by_cases c2 : w.1 = d
    · rw [if_pos (show (gitm l w).id = d from c2), if_pos c2, if_pos c2]; omega
    · rw [if_neg (show ¬ (gitm l w).id = d from c2), if_neg c2, if_neg c2, gitm_sc]; omega

/-- What is known of t steps in which d waits. -/
structure Waits (l : Nat → List It) (ws : Nat → List (Int × Int)) (ks : Nat → Nat) (d : Int) (s t : Nat) (w M : Int) (n k : Nat) : Prop where
  step : ∀ j, j < t → l (s + j + 1) = (stepM (l (s + j)) (ws (s + j)) (ks (s + j))).1
  right : ∀ j, j < t → RightP (ws (s + j))
  want : ∀ j, j < t → ∃ wt, (d, wt) ∈ ws (s + j) ∧ w ≤ wt
  not : ∀ j, j < t → d ∉ (stepM (l (s + j)) (ws (s + j)) (ks (s + j))).2
  len : ∀ j, j < t → (ws (s + j)).length ≤ n
  most : ∀ j, j < t → ∀ x ∈ ws (s + j), x.2 ≤ M
  kk : ∀ j, j < t → k ≤ ks (s + j)

section
variable {l : Nat → List It} {ws : Nat → List (Int × Int)} {ks : Nat → Nat} {d : Int} {s t : Nat} {w M : Int} {n k : Nat}

theorem Waits.valid (h : Waits l ws ks d s t w M n k) (h0 : ValidP (l s)) : ∀ j, j ≤ t → ValidP (l (s + j)) := by
  intro j
  induction j with
  | zero => exact fun _ => h0
  | succ j ih => intro hj; rw [← Nat.add_assoc, h.step j (by omega)]; exact stepM_valid (ih (by omega)) (h.right j (by omega)) _

theorem Waits.score (h : Waits l ws ks d s t w M n k) (h0 : ValidP (l s)) (hw : 0 ≤ w) (ht : (t : Int) * w ≤ topScore) : ∀ j, j ≤ t → (j : Int) * w ≤ scoreOf (l (s + j)) d := by
  intro j
  induction j with
  | zero => intro _; have := (scoreOf_bd h0.2 d).1; simpa using this
  | succ j ih =>
    intro hj
    have ih := ih (by omega)
    have hv := h.valid h0 j (by omega)
    obtain ⟨wt, hm, hwt⟩ := h.want j (by omega)
    obtain ⟨i, hi⟩ := List.mem_iff_getElem?.1 hm
    have hnp : i ∉ places (l (s + j)) (ws (s + j)) (ks (s + j)) := by
      intro hp
      refine h.not j (by omega) ?_
      simp only [stepM, List.mem_map]
      exact ⟨i, hp, by rw [outs_getD hi]; rfl⟩
    have := score_step hv (h.right j (by omega)) (ks (s + j)) i hi
    rw [if_neg hnp, gitm_sc] at this
    rw [← Nat.add_assoc, h.step j (by omega)]
    rw [show (d : Int) = ((d, wt) : Int × Int).1 from rfl, this]
    have e : ((j + 1 : Nat) : Int) * w = (j : Int) * w + w := by rw [show ((j + 1 : Nat) : Int) = (j : Int) + 1 by simp, Int.add_mul, Int.one_mul]
    have le : ((j + 1 : Nat) : Int) * w ≤ (t : Int) * w := Int.mul_le_mul_of_nonneg_right (by omega) hw
    simp only
    omega

/-- At step j whoever is sent has at least what d has then. -/
theorem Waits.sent (h : Waits l ws ks d s t w M n k) (h0 : ValidP (l s)) (hw : 0 ≤ w) (ht : (t : Int) * w ≤ topScore) (j : Nat) (hj : j < t) (i : Nat) (v : Int × Int) (hi : i ∈ places (l (s + j)) (ws (s + j)) (ks (s + j))) (hv : (ws (s + j))[i]? = some v) :
    ((j + 1 : Nat) : Int) * w ≤ (gitm (l (s + j)) v).sc := by
  obtain ⟨wt, hm, hwt⟩ := h.want j hj
  obtain ⟨a, ha⟩ := List.mem_iff_getElem?.1 hm
  have hnp : a ∉ places (l (s + j)) (ws (s + j)) (ks (s + j)) := by
    intro hp
    refine h.not j hj ?_
    simp only [stepM, List.mem_map]
    exact ⟨a, hp, by rw [outs_getD ha]; rfl⟩
  have h1 := h.score h0 hw ht (j + 1) (by omega)
  have h2 := score_step (h.valid h0 j (by omega)) (h.right j hj) (ks (s + j)) a ha
  rw [if_neg hnp] at h2
  rw [← Nat.add_assoc, h.step j hj, show (d : Int) = ((d, wt) : Int × Int).1 from rfl, h2] at h1
  rcases Int.lt_or_le (gitm (l (s + j)) v).sc (gitm (l (s + j)) (d, wt)).sc with c | c
  · exact absurd (places_before ha hv hi (.inl c)) hnp
  · omega

theorem Waits.pot (h : Waits l ws ks d s t w M n k) (h0 : ValidP (l s)) (hw : 0 ≤ w) (hM : 0 ≤ M) (ht : (t : Int) * w ≤ topScore) (a : Nat) (C : Int) (hC : C = ((a + 1 : Nat) : Int) * w) (ha : a < t) :
    ∀ j, a + j < t → 0 ≤ phi C d (l (s + (a + j))) (ws (s + (a + j))) ∧ phi C d (l (s + (a + j))) (ws (s + (a + j))) + (j : Int) * ((k : Int) * C) ≤ ((n : Int) - 1) * C + (j : Int) * (((n : Int) - 1) * M) := by
  have hC0 : 0 ≤ C := by rw [hC]; exact Int.mul_nonneg (by omega) hw
  have hCt : C ≤ topScore := by
    rw [hC]; exact Int.le_trans (Int.mul_le_mul_of_nonneg_right (by omega) hw) ht
  have hpos : ∀ j, a + j < t → 0 ≤ phi C d (l (s + (a + j))) (ws (s + (a + j))) := by
    intro j hj
    refine sum_nonneg fun x _ => ?_
    have := scoreOf_bd (h.valid h0 (a + j) (by omega)).2 x.1
    split <;> omega
  intro j
  induction j with
  | zero =>
    intro hj
    refine ⟨hpos 0 hj, ?_⟩
    obtain ⟨wt, hm, _⟩ := h.want (a + 0) (by omega)
    have := phi_start (C := C) (d := d) hC0 (l := l (s + (a + 0))) (h.right (a + 0) (by omega)).2.2 hm
    have hl := h.len (a + 0) (by omega)
    have : ((ws (s + (a + 0))).length - 1 : Int) * C ≤ ((n : Int) - 1) * C := Int.mul_le_mul_of_nonneg_right (by omega) hC0
    simp only [Nat.add_zero] at *
    simp
    omega
  | succ j ih =>
    intro hj
    obtain ⟨_, ih⟩ := ih (by omega)
    refine ⟨hpos (j + 1) hj, ?_⟩
    obtain ⟨wt, hm, _⟩ := h.want (a + j) (by omega)
    have hr := h.right (a + j) (by omega)
    have st := phi_step (C := C) (d := d) (M := M) hC0 hCt hM (h.valid h0 (a + j) (by omega)) hr (h.right (a + (j + 1)) hj).2.2 (k := ks (s + (a + j))) hm (h.not (a + j) (by omega)) (h.most (a + j) (by omega))
      (fun i v hi hv => by
        have := h.sent h0 hw ht (a + j) (by omega) i v hi hv
        rw [hC]
        exact Int.le_trans (Int.mul_le_mul_of_nonneg_right (by omega) hw) this)
    rw [← h.step (a + j) (by omega)] at st
    rw [show s + (a + j) + 1 = s + (a + (j + 1)) by omega] at st
    have hl := h.len (a + j) (by omega)
    have hk := h.kk (a + j) (by omega)
    have m1 : ((ws (s + (a + j))).length - 1 : Int) * M ≤ ((n : Int) - 1) * M := Int.mul_le_mul_of_nonneg_right (by omega) hM
    have m2 : (k : Int) * C ≤ (ks (s + (a + j)) : Int) * C := Int.mul_le_mul_of_nonneg_right (by omega) hC0
    have e1 : ((j + 1 : Nat) : Int) * ((k : Int) * C) = (j : Int) * ((k : Int) * C) + (k : Int) * C := by rw [show ((j + 1 : Nat) : Int) = (j : Int) + 1 by simp, Int.add_mul, Int.one_mul]
    have e2 : ((j + 1 : Nat) : Int) * (((n : Int) - 1) * M) = (j : Int) * (((n : Int) - 1) * M) + ((n : Int) - 1) * M := by rw [show ((j + 1 : Nat) : Int) = (j : Int) + 1 by simp, Int.add_mul, Int.one_mul]
    omega

theorem Waits.last (h : Waits l ws ks d s t w M n k) (h0 : ValidP (l s)) (hw : 0 ≤ w) (hM : 0 ≤ M) (ht : (t : Int) * w ≤ topScore) (a r : Nat) (C : Int) (hC : C = ((a + 1 : Nat) : Int) * w) (hr : a + (r + 1) = t) :
    ((r + 1 : Nat) : Int) * ((k : Int) * C) ≤ ((n : Int) - 1) * C + ((r + 1 : Nat) : Int) * (((n : Int) - 1) * M) := by
  have hC0 : 0 ≤ C := by rw [hC]; exact Int.mul_nonneg (by omega) hw
  have hCt : C ≤ topScore := by
    rw [hC]; exact Int.le_trans (Int.mul_le_mul_of_nonneg_right (by omega) hw) ht
  obtain ⟨_, hp⟩ := h.pot h0 hw hM ht a C hC (by omega) r (by omega)
  obtain ⟨wt, hm, _⟩ := h.want (a + r) (by omega)
  have hr' := h.right (a + r) (by omega)
  have st := phi_step (C := C) (d := d) (M := M) hC0 hCt hM (h.valid h0 (a + r) (by omega)) hr' (ws' := []) List.Pairwise.nil (k := ks (s + (a + r))) hm (h.not (a + r) (by omega)) (h.most (a + r) (by omega))
    (fun i v hi hv => by
      have := h.sent h0 hw ht (a + r) (by omega) i v hi hv
      rw [hC]
      exact Int.le_trans (Int.mul_le_mul_of_nonneg_right (by omega) hw) this)
  have hz : ∀ l', phi C d l' [] = 0 := fun _ => rfl
  rw [hz] at st
  have hl := h.len (a + r) (by omega)
  have hk := h.kk (a + r) (by omega)
  have m1 : ((ws (s + (a + r))).length - 1 : Int) * M ≤ ((n : Int) - 1) * M := Int.mul_le_mul_of_nonneg_right (by omega) hM
  have m2 : (k : Int) * C ≤ (ks (s + (a + r)) : Int) * C := Int.mul_le_mul_of_nonneg_right (by omega) hC0
  have e1 : ((r + 1 : Nat) : Int) * ((k : Int) * C) = (r : Int) * ((k : Int) * C) + (k : Int) * C := by rw [show ((r + 1 : Nat) : Int) = (r : Int) + 1 by simp, Int.add_mul, Int.one_mul]
  have e2 : ((r + 1 : Nat) : Int) * (((n : Int) - 1) * M) = (r : Int) * (((n : Int) - 1) * M) + ((n : Int) - 1) * M := by rw [show ((r + 1 : Nat) : Int) = (r : Int) + 1 by simp, Int.add_mul, Int.one_mul]
  omega

/-- THE BOUND. -/
theorem Waits.bound (h : Waits l ws ks d s t w M n k) (h0 : ValidP (l s)) (hw : 1 ≤ w) (hM : 0 ≤ M) (ht : (t : Int) * w ≤ topScore) (hn : 1 ≤ n) :
    (t : Int) * ((k : Int) * w) ≤ 2 * ((n : Int) - 1) * (w + M) := by
  rcases Nat.eq_zero_or_pos t with h1 | h1
  · subst h1
    have : 0 ≤ 2 * ((n : Int) - 1) * (w + M) := Int.mul_nonneg (by omega) (by omega)
    simpa using this
  obtain ⟨a, r, har, hcase⟩ : ∃ a r, a + (r + 1) = t ∧ (r + 1 = a ∨ r = a) := ⟨t / 2, t - t / 2 - 1, by omega, by omega⟩
  have key := h.last h0 (by omega) hM ht a r _ rfl har
  obtain ⟨N, hN⟩ : ∃ N : Int, N = (n : Int) - 1 := ⟨_, rfl⟩
  have hN0 : 0 ≤ N := by omega
  rw [← hN] at key ⊢
  obtain ⟨A, hA⟩ : ∃ A : Int, A = ((a + 1 : Nat) : Int) := ⟨_, rfl⟩
  obtain ⟨R, hR⟩ : ∃ R : Int, R = ((r + 1 : Nat) : Int) := ⟨_, rfl⟩
  have hT : (t : Int) = A - 1 + R := by omega
  have hRA : R ≤ A ∧ A ≤ R + 1 := by omega
  have hA1 : 1 ≤ A := by omega
  rw [← hA, ← hR] at key
  -- R * (k * (A * w)) ≤ N * (A * w) + R * (N * M)
  have k1 : R * ((k : Int) * (A * w)) = A * (R * ((k : Int) * w)) := by
    rw [Int.mul_left_comm (k : Int) A w, Int.mul_left_comm R A]
  have k2 : N * (A * w) + R * (N * M) ≤ A * (N * (w + M)) := by
    have e1 : A * (N * (w + M)) = N * (A * w) + A * (N * M) := by rw [Int.mul_add, Int.mul_add, Int.mul_left_comm A N w]
    have e2 : R * (N * M) ≤ A * (N * M) := Int.mul_le_mul_of_nonneg_right hRA.1 (Int.mul_nonneg hN0 hM)
    omega
  rw [k1] at key
  have k3 : R * ((k : Int) * w) ≤ N * (w + M) := Int.le_of_mul_le_mul_left (Int.le_trans key k2) (by omega)
  have k4 : (t : Int) * ((k : Int) * w) ≤ (2 * R) * ((k : Int) * w) := Int.mul_le_mul_of_nonneg_right (by omega) (Int.mul_nonneg (by omega) (by omega))
  have e3 : (2 * R) * ((k : Int) * w) = 2 * (R * ((k : Int) * w)) := Int.mul_assoc _ _ _
  have e4 : 2 * N * (w + M) = 2 * (N * (w + M)) := Int.mul_assoc _ _ _
  omega

theorem Waits.bound_div (h : Waits l ws ks d s t w M n k) (h0 : ValidP (l s)) (hw : 1 ≤ w) (hM : 0 ≤ M) (ht : (t : Int) * w ≤ topScore) (hn : 1 ≤ n) (hk : 1 ≤ k) :
    (t : Int) ≤ 2 * ((n : Int) - 1) * (w + 2 * M) / ((k : Int) * w) := by
  have h1 := h.bound h0 hw hM ht hn
  refine Int.le_ediv_of_mul_le (Int.mul_pos (by omega) (by omega)) (Int.le_trans h1 ?_)
  exact Int.mul_le_mul_of_nonneg_left (by omega) (by omega)
end
end Go.Proofs.YtkiknbjokknemaaGreat
