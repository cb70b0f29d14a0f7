/-
  An append that stays where it is, or goes to a new block: told apart.
-/
import Derived.Test.YtkiknbjokknemaaGreatBudYA
namespace Go.Proofs.YtkiknbjokknemaaGreat
open Go.RowKit Go.Maps

theorem run_append_fork {P : Program} (w : World) {t e : TypeId} {sz bytes : Nat} {z : Value} (ty : TypeId) (he : Elem P t e sz bytes z) (o : Own) (τ : Nat)
    {A : Option Addr} {n c : Nat} {xs : List Value} (hR : Row w o τ e sz A n c xs) {τ2 : Nat} {o2 : Own} {B : Option Addr} {m d : Nat} {news : List Value} (hS : Sl w o2 τ2 sz B m d news) (hm : 0 < m)
    (h1 : ∀ u ∈ news, u.oneCell' = true) (hbytes : (n + m) * bytes ≤ 140737488355328) (h63 : n + m ≤ maxLen) :
    ∃ A' c' w', (Builtin.append_ #[t, t] ty #[.slice A n c, .slice B m d]).run P w = .ok (.slice A' (n + m) c') w' ∧ Row w' (ext o w.heap.size τ) τ e sz A' (n + m) c' (xs ++ news) ∧
      w.grownBy w' (Value.slice A n c).ownBlock ∧ ((A' = A ∧ c' = c ∧ w'.heap.size = w.heap.size) ∨ (A' = some ⟨w.heap.size, 0, none⟩ ∧ Below w.heap.size w w')) := by
  obtain ⟨A', c', w', hrun, h2, h3, h4⟩ := run_append_row (P := P) w ty he o τ hR hS h1 hbytes h63
  refine ⟨A', c', w', hrun, h2, h3, ?_⟩
  obtain ⟨i, hi, hz0, hz1, hz2⟩ := info_parts he.info
  obtain ⟨g, off, hB, _, _, hc⟩ := hS.2.2.2 hm
  subst hB
  have hnews : ∀ j u, news[j]? = some u → w.cell? ((⟨g, off, none⟩ : Addr).add j) = some u := fun j u hu => by rw [Addr.add_lit]; exact hc j u hu
  have hl := hS.1
  subst hz1; subst hz2
  rcases hR.1.2 with ⟨hv, hn0⟩ | ⟨b, cap, cur, hv, _, hb, hnc, hcm, hcs, ht⟩
  · right
    injection hv with ha hb hc
    subst ha
    refine ⟨?_, ⟨h3.os, h3.tape, h3.output, h3.size, fun k hk => h3.block k hk (by simp [Value.ownBlock])⟩⟩
    rcases h2.1.2 with ⟨hv', h0⟩ | ⟨b', cap', cur', hv', _, hb', _⟩
    · omega
    · injection hv' with ha'
      rcases h4 _ ha' with ⟨ad, h, -⟩ | h
      · cases h
      · simp only at h; rw [ha', h]
  · injection hv with ha hbn hcc
    subst ha; subst hcc
    by_cases hroom : n + m ≤ c
    · left
      have hfit : n * i.size + news.length ≤ cur.size := by rw [hl, hcs, ← Nat.add_mul]; exact Nat.mul_le_mul_right _ hroom
      have hr := run_append_room (P := P) w t ty e i he.under hi b n c cur hb ⟨g, off, none⟩ m d news hl hnews h1 hroom hfit
      rw [hrun] at hr
      injection hr with hr1 hr2
      injection hr1 with q1 q2 q3
      exact ⟨q1, q3, by rw [hr2]; simp [World.setRow]⟩
    · right
      have holds : ∀ j u, xs[j]? = some u → w.cell? ((⟨b, 0, none⟩ : Addr).add j) = some u := hR.1.cells (g := b) rfl
      have hr := run_append_grow (P := P) w t ty e i z he.under hi hz0 ⟨b, 0, none⟩ n c xs hR.1.1 holds ⟨g, off, none⟩ m d news hl hnews (by omega) (by simp only [maxLen] at h63; omega) (growslice_fits (by omega) hbytes)
      rw [hrun] at hr
      injection hr with hr1 hr2
      injection hr1 with q1 q2 q3
      refine ⟨q1, ?_⟩
      rw [hr2]
      exact ((Below.refl _ w).drew).alloc (Nat.le_refl _) _

theorem wpList_append_fork {P : Program} (w : World) {ops : Array Oper} {rest : List Oper} {o : Oper} {a : Act} {Q : Exit → Act → World → Prop} (hgd : o.guard = none) (s x : Operand) (t : TypeId)
    (ho : o.op = .call { callee := .builtin .append, args := #[s, x], argTypes := #[t, t] })
    {e : TypeId} {sz bytes : Nat} {z : Value} (he : Elem P t e sz bytes z) (ow : Own) (τ : Nat)
    (A : Option Addr) (n c : Nat) (xs : List Value) (hs : a.eval s = .slice A n c) (hR : Row w ow τ e sz A n c xs) (o2 : Own) (τ2 : Nat) (B : Option Addr) (m d : Nat) (news : List Value) (hx : a.eval x = .slice B m d) (hS : Sl w o2 τ2 sz B m d news) (hm : 0 < m)
    (h1 : ∀ u ∈ news, u.oneCell' = true) (hbytes : (n + m) * bytes ≤ 140737488355328) (h63 : n + m ≤ maxLen)
    (h : ∀ A' c' w', Row w' (ext ow w.heap.size τ) τ e sz A' (n + m) c' (xs ++ news) → w.grownBy w' (Value.slice A n c).ownBlock → ((A' = A ∧ c' = c ∧ w'.heap.size = w.heap.size) ∨ (A' = some ⟨w.heap.size, 0, none⟩ ∧ Below w.heap.size w w')) →
      wpList P ops Q rest (a.put o.dst (.slice A' (n + m) c')) w') : wpList P ops Q (o :: rest) a w := by
  refine wpList_plain hgd fun K hK => ?_
  obtain ⟨A', c', w', hrun, h2, h3, h4⟩ := run_append_fork (P := P) w o.type he ow τ hR hS hm h1 hbytes h63
  unfold Oper.wp execOp
  simp only [ho, resolve, invoke, builtin, Sem.run_bind, Sem.run_pure, Result.andThen_ok, List.map_toArray, List.map_cons, List.map_nil, hs, hx, hrun]
  exact hK _ _ (h A' c' w' h2 h3 h4)

theorem Row.prefix_ {w : World} {o : Own} {τ : Nat} {e : TypeId} {n n' c : Nat} {A : Option Addr} {xs : List Value} (h : Row w o τ e 1 A n' c xs) (hn : n ≤ n') : Row w o τ e 1 A n c (xs.take n) := by
  have hl := h.len
  rcases h.1.2 with ⟨hv, h0⟩ | ⟨g, cap, cur, hv, hg, hb, hnc, hcm, hcs, ht⟩
  · injection hv with ha hb hc
    subst ha; subst hc
    obtain rfl : n = 0 := by omega
    rw [List.take_zero]
    exact Row.nil_ _ _ _ _ _
  · injection hv with ha hb' hc
    subst ha; subst hc
    refine ⟨⟨by simp; omega, .inr ⟨g, c, cur, rfl, hg, hb, by omega, hcm, hcs, ?_⟩⟩, h.2⟩
    rw [← ht, List.take_take]
    congr 1
    omega
end Go.Proofs.YtkiknbjokknemaaGreat
