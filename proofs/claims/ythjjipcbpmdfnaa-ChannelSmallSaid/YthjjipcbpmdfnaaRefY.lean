/-
  Joined: RefC, ChRH.
-/
import Derived.Test.YthjjipcbpmdfnaaRefB

/- THE REFERENCE's Make and Only. -/
namespace Go.Proofs.Ythjjipcbpmdfnaa
open Go.RowKit

theorem Blk.setw {W : World} {b : Nat} {t : TypeId} {cs cs' : Array Value} (h : Blk W b t cs) (i : Nat) (u : Value) (hc : cs.setIfInBounds i u = cs') : Blk (W.setCell ⟨b, i, none⟩ u) b t cs' := by rw [← hc]; exact h.set_ i u

/-- The state of Make: its box (b), its result (z), the packet's bytes. -/
structure MkSt (w W : World) (o : Own) (b : Nat) (cb cz : Array Value) (A : Option Addr) (n c : Nat) (ys : List UInt8) : Prop where
  st : Step [2, 3, 5, 6] w (fun _ => 0) W o
  bb : Blk W b 27 cb
  bz : Blk W (b + 1) 27 cz
  ob : o b = 2
  oz : o (b + 1) = 3
  y : Sl W o 4 1 A n c (byts ys)
section
variable {w W W' : World} {o o' : Own} {b : Nat} {cb cz cs : Array Value} {A : Option Addr} {n c : Nat} {ys : List UInt8}
theorem MkSt.step (h : MkSt w W o b cb cz A n c ys) {ts : List Nat} (k : Step ts W o W' o') (hs : ∀ t ∈ ts, t = 5 ∨ t = 6) : MkSt w W' o' b cb cz A n c ys := by
  have n2 : 2 ∉ ts := fun h => by rcases hs 2 h with h | h <;> omega
  have n3 : 3 ∉ ts := fun h => by rcases hs 3 h with h | h <;> omega
  have n4 : 4 ∉ ts := fun h => by rcases hs 4 h with h | h <;> omega
  exact ⟨h.st.trans (k.mono fun t ht => by rcases hs t ht with h | h <;> simp [h]), h.bb.step k (by rw [h.ob]; exact n2), h.bz.step k (by rw [h.oz]; exact n3), (k.own _ h.bb.lt).trans h.ob, (k.own _ h.bz.lt).trans h.oz, h.y.step k n4⟩
theorem MkSt.setb (h : MkSt w W o b cb cz A n c ys) (i : Nat) (u : Value) (hc : cb.setIfInBounds i u = cs) : MkSt w (W.setCell ⟨b, i, none⟩ u) o b cs cz A n c ys :=
  ⟨h.st.setCell (.inr (by rw [h.ob]; simp)) u, h.bb.setw i u hc, h.bz.far (by simp only; omega) u, h.ob, h.oz, h.y.step ((Step.refl [2] W o).setCell (.inr (by rw [h.ob]; simp)) u) (by decide)⟩
theorem MkSt.setz (h : MkSt w W o b cb cz A n c ys) (i : Nat) (u : Value) (hc : cz.setIfInBounds i u = cs) : MkSt w (W.setCell ⟨b + 1, i, none⟩ u) o b cb cs A n c ys :=
  ⟨h.st.setCell (.inr (by rw [h.oz]; simp)) u, h.bb.far (by simp only; omega) u, h.bz.setw i u hc, h.ob, h.oz, h.y.step ((Step.refl [3] W o).setCell (.inr (by rw [h.oz]; simp)) u) (by decide)⟩
theorem MkSt.cb5 {a0 a1 a2 a3 a4 : Value} (h : MkSt w W o b #[a0, a1, a2, a3, a4] cz A n c ys) : (W.cell? ⟨b, 0, none⟩ = some a0 ∧ W.cell? ⟨b, 1, none⟩ = some a1 ∧ W.cell? ⟨b, 2, none⟩ = some a2 ∧ W.cell? ⟨b, 3, none⟩ = some a3 ∧ W.cell? ⟨b, 4, none⟩ = some a4) ∧ b < W.heap.size ∧ b + 1 < W.heap.size ∧
    W.frozen? ⟨b, 2, none⟩ = false ∧ W.frozen? ⟨b, 3, none⟩ = false := ⟨box5 h.bb, h.bb.lt, h.bz.lt, h.bb.frozen 2, h.bb.frozen 3⟩
theorem MkSt.cz5 {a0 a1 a2 a3 a4 : Value} (h : MkSt w W o b cb #[a0, a1, a2, a3, a4] A n c ys) : (W.cell? ⟨b + 1, 0, none⟩ = some a0 ∧ W.cell? ⟨b + 1, 1, none⟩ = some a1 ∧ W.cell? ⟨b + 1, 2, none⟩ = some a2 ∧ W.cell? ⟨b + 1, 3, none⟩ = some a3 ∧ W.cell? ⟨b + 1, 4, none⟩ = some a4) ∧
    W.frozen? ⟨b + 1, 0, none⟩ = false ∧ W.frozen? ⟨b + 1, 1, none⟩ = false ∧ W.frozen? ⟨b + 1, 2, none⟩ = false ∧ W.frozen? ⟨b + 1, 3, none⟩ = false ∧ W.frozen? ⟨b + 1, 4, none⟩ = false := ⟨box5 h.bz, h.bz.frozen 0, h.bz.frozen 1, h.bz.frozen 2, h.bz.frozen 3, h.bz.frozen 4⟩
theorem MkSt.setz5 {a0 a1 a2 a3 a4 : Value} (h : MkSt w W o b cb #[a0, a1, a2, a3, a4] A n c ys) (u0 u1 u2 u3 u4 : Value) :
    MkSt w (((((W.setCell ⟨b + 1, 0, none⟩ u0).setCell ⟨b + 1, 1, none⟩ u1).setCell ⟨b + 1, 2, none⟩ u2).setCell ⟨b + 1, 3, none⟩ u3).setCell ⟨b + 1, 4, none⟩ u4) o b cb #[u0, u1, u2, u3, u4] A n c ys ∧
    Step [3] W o (((((W.setCell ⟨b + 1, 0, none⟩ u0).setCell ⟨b + 1, 1, none⟩ u1).setCell ⟨b + 1, 2, none⟩ u2).setCell ⟨b + 1, 3, none⟩ u3).setCell ⟨b + 1, 4, none⟩ u4) o :=
  ⟨((((h.setz 0 u0 rfl).setz 1 u1 rfl).setz 2 u2 rfl).setz 3 u3 rfl).setz 4 u4 rfl, (((((Step.refl [3] W o).setCell (.inr (by rw [h.oz]; simp)) u0).setCell (.inr (by rw [h.oz]; simp)) u1).setCell (.inr (by rw [h.oz]; simp)) u2).setCell (.inr (by rw [h.oz]; simp)) u3).setCell (.inr (by rw [h.oz]; simp)) u4⟩
end

set_option maxRecDepth 100000 in
set_option maxHeartbeats 2000000 in
theorem RMake_main (w : World) (o : Own) (τ τ2 : Nat) (r : RefS) (hf : r.Fit) (PA : Option Addr) (pn pc : Nat) (GA : Option Addr) (gn gc : Nat) (hP : Sl w o τ 1 PA pn pc (ints r.pend)) (hG : Sl w o τ 1 GA gn gc (ints r.got)) (hpl : r.pend.length ≤ 256)
    (A : Option Addr) (n c : Nat) (xs : List UInt8) (hS : Sl w o τ2 1 A n c (byts xs)) (hn0 : 1 ≤ n) (hn1 : n ≤ 1191) :
    Calls Try.prog 50 #[r.val PA pn pc GA gn gc, .slice A n c] w (RMakeTo w PA pn (refMakeS r) GA gn gc (refBytes r r.next xs) r.next (refLost r) 0) := by
  have hx0 := hf.x0; have hx1 := hf.x1
  have HBY := Lib.hid (fun W (hb : Below w.heap.size w W) => RBytes_num W o τ τ2 r hf PA pn pc GA gn gc (hG.below hb) r.next hx0 (by omega) A n c xs (hS.below hb) (by omega))
  have h0 : ((n : Int) == 0) = false := by simp; omega
  have h1 : decide ((1191 : Int) < (n : Int)) = false := by simp; omega
  obtain ⟨Q, hQ⟩ : ∃ Q, Q = refMakeS r := ⟨_, rfl⟩
  obtain ⟨L, hL⟩ : ∃ L, L = refLost r := ⟨_, rfl⟩
  obtain ⟨Y, hY⟩ : ∃ Y, Y = refBytes r r.next xs := ⟨_, rfl⟩
  rw [← hQ, ← hL, ← hY]
  rw [← hY] at HBY
  obtain ⟨own, other, next, pend, got⟩ := r
  simp only at hx0 hx1 hpl hP hG HBY ⊢
  obtain ⟨hpn, -⟩ := hP.int_len
  have HP := Lib.hid hP.toN
  have HQ := Lib.hid hQ; have HL := Lib.hid hL; have HPN := Lib.hid hpn
  have hpn2 : pn ≤ 256 := by omega
  clear hQ hL hY hP hG hS hf hpn hpl
  go_enter Try.func50, Try.ntmps50
  go_wp2_with fail
  have m0 : ∀ (w1 : World) (A1 : Option Addr) (n1 c1 : Nat) (ys : List UInt8), Below ((w.alloc (.cells #[.int .i64 own, .int .i64 other, .int .i64 next, .slice PA pn pc, .slice GA gn gc] 27)).alloc (.cells #[.int .i64 0, .int .i64 0, .int .i64 0, .slice none 0 0, .slice none 0 0] 27)).heap.size ((w.alloc (.cells #[.int .i64 own, .int .i64 other, .int .i64 next, .slice PA pn pc, .slice GA gn gc] 27)).alloc (.cells #[.int .i64 0, .int .i64 0, .int .i64 0, .slice none 0 0, .slice none 0 0] 27)) w1 →
      Sl w1 (fun _ => 0) 0 1 A1 n1 c1 (byts ys) → (∀ ad, A1 = some ad → ((w.alloc (.cells #[.int .i64 own, .int .i64 other, .int .i64 next, .slice PA pn pc, .slice GA gn gc] 27)).alloc (.cells #[.int .i64 0, .int .i64 0, .int .i64 0, .slice none 0 0, .slice none 0 0] 27)).heap.size ≤ ad.block) →
      ∃ o1, MkSt w w1 o1 w.heap.size #[.int .i64 own, .int .i64 other, .int .i64 next, .slice PA pn pc, .slice GA gn gc] #[.int .i64 0, .int .i64 0, .int .i64 0, .slice none 0 0, .slice none 0 0] A1 n1 c1 ys := by
    intro w1 A1 n1 c1 ys hb hs ha
    have b0 := (Blk.new w 27 #[.int .i64 own, .int .i64 other, .int .i64 next, .slice PA pn pc, .slice GA gn gc]).alloc (.cells #[.int .i64 0, .int .i64 0, .int .i64 0, .slice none 0 0, .slice none 0 0] 27)
    have z0 := Blk.new (w.alloc (.cells #[.int .i64 own, .int .i64 other, .int .i64 next, .slice PA pn pc, .slice GA gn gc] 27)) 27 #[.int .i64 0, .int .i64 0, .int .i64 0, .slice none 0 0, .slice none 0 0]
    have s0 := ((Step.refl [2, 3, 5, 6] w (fun _ => 0)).alloc (.cells #[.int .i64 own, .int .i64 other, .int .i64 next, .slice PA pn pc, .slice GA gn gc] 27) 2).alloc (.cells #[.int .i64 0, .int .i64 0, .int .i64 0, .slice none 0 0, .slice none 0 0] 27) 3
    have hst := s0.below hb 4
    refine ⟨_, hst, b0.below hb b0.lt, ?_, ?_, ?_, hs.tag ha _ 4⟩
    · have := z0.below hb z0.lt
      simpa only [World.size_alloc] using this
    · rw [ext_lt (by simp; omega), ext_lt (by simp), ext_ge (Nat.le_refl _)]
    · rw [ext_lt (by simp), ext_ge (by simp)]
  have M0 := Lib.hid m0
  clear m0
  refine (HBY.out _ (((Below.refl _ _).alloc (Nat.le_refl _) _).alloc (by simp) _)).mono ?_
  rintro e w1 ⟨A1, c1, rfl, hb1, hs1, ha1⟩
  obtain ⟨o1, hm1⟩ := M0.out w1 A1 _ c1 _ hb1 hs1 ha1
  obtain ⟨b, hb⟩ : ∃ b, b = w.heap.size := ⟨_, rfl⟩
  rw [← hb] at hm1 ⊢
  have M1 := Lib.hid hm1
  obtain ⟨⟨q0, q1, q2, q3, q4⟩, l0, l1, f2, f3⟩ := hm1.cb5
  clear hb1 hs1 ha1 M0 HBY hm1 hb
  go_upto_region 8 with fail
  have M2 := Lib.hid (M1.out.setb 2 (.int .i64 (next + 1)) rfl)
  obtain ⟨W2, hW2⟩ : ∃ W2, W2 = w1.setCell ⟨b, 2, none⟩ (.int .i64 (next + 1)) := ⟨_, rfl⟩
  rw [← hW2] at M2 ⊢
  clear M1 q0 q1 q2 q3 q4 l0 l1 f2 f3 hW2
  have s3 := (Step.refl [] W2 o1).alloc (.cells #[] 3) 5
  have M3 := Lib.hid (M2.out.step s3 (by simp))
  have R3 := Lib.hid (Row.made (w := W2) o1 5 3 1 #[] 0 rfl (by decide) 0 (Nat.le_refl _))
  obtain ⟨o3, ho3⟩ : ∃ o3, o3 = ext o1 W2.heap.size 5 := ⟨_, rfl⟩
  rw [← ho3] at M3 R3
  have P3 := Lib.hid ((HP.out.plain.step M2.out.st (by decide)).below ((Below.refl _ _).alloc (Nat.le_refl _) (.cells #[] 3)))
  clear s3 ho3 HP
  obtain ⟨⟨q0, q1, q2, q3, q4⟩, l0, l1, f2, f3⟩ := M2.out.cb5
  go_upto_region 10 with (first
    | (at_builtin; refine wpList_append_row _ rfl (.tmp 30) (.tmp 32) _ rfl el_int o3 5 _ 0 0 _ rfl R3.out _ _ PA pn pc (ints pend) rfl P3.out (one_ints _) (by omega) (by simp only [maxLen]; omega) ?_; intro A4 c4 w4 hr4 hg4 hat4; have st4 := Step.append R3.out hg4 5; have M4 := Lib.hid (M3.out.step st4 (by simp)); rw [Nat.zero_add] at hr4; have R4 := Lib.hid hr4; clear hr4 hg4 hat4 st4 q0 q1 q2 q3 q4 l0 l1 f2 f3)
    | (at_builtin; refine wpList_append_row _ rfl (.tmp 33) (.tmp 35) _ rfl el_int (ext (ext o3 (W2.alloc (.cells #[] 3)).heap.size 5) w4.heap.size 5) 5 A4 pn c4 _ rfl (R4.out.step ((Step.refl [] _ _).alloc (.cells #[.int .i64 next] 3) 5) (by simp)) _ _ _ 1 1 _ rfl (Sl.fresh w4 3 1 1 [.int .i64 next] rfl (by decide)) (by simp [Value.oneCell']) (by omega) (by simp only [maxLen]; omega) ?_; intro A5 c5 w5 hr5 hg5 hat5; have st5 := (Step.append (R4.out.step ((Step.refl [] _ _).alloc (.cells #[.int .i64 next] 3) 5) (by simp)) hg5 5); have M5 := Lib.hid ((M4.out.step ((Step.refl [] _ _).alloc (.cells #[.int .i64 next] 3) 5) (by simp)).step st5 (by simp)); have R5 := Lib.hid hr5; clear hr5 hg5 hat5 st5; obtain ⟨⟨q0, q1, q2, q3, q4⟩, l0, l1, f2, f3⟩ := M5.out.cb5))
  obtain ⟨o5, ho5⟩ : ∃ o5, o5 = ext (ext (ext o3 (W2.alloc (.cells #[] 3)).heap.size 5) w4.heap.size 5) (w4.alloc (.cells #[.int .i64 next] 3)).heap.size 5 := ⟨_, rfl⟩
  rw [← ho5] at M5 R5
  have M6 := Lib.hid (M5.out.setb 3 (.slice A5 (pn + 1) c5) rfl)
  have R6 := Lib.hid (Row.step R5.out ((Step.refl [2] w5 o5).setCell (p := ⟨b, 3, none⟩) (.inr (by rw [M5.out.ob]; simp)) (.slice A5 (pn + 1) c5)) (by decide))
  obtain ⟨W6, hW6⟩ : ∃ W6, W6 = w5.setCell ⟨b, 3, none⟩ (.slice A5 (pn + 1) c5) := ⟨_, rfl⟩
  rw [← hW6] at M6 R6 ⊢
  clear M5 R5 hW6 ho5 q0 q1 q2 q3 q4 l0 l1 f2 f3 P3 M4 R4 M3 R3 M2
  obtain ⟨⟨q0, q1, q2, q3, q4⟩, l0, l1, f2, f3⟩ := M6.out.cb5
  obtain ⟨⟨z0, z1, z2, z3, z4⟩, y0, y1, y2, y3, y4⟩ := M6.out.cz5
  by_cases hlt : pn < 256
  · have hd : decide ((256 : Int) < (pn : Int) + 1) = false := by simp; omega
    have hQ : Q = ⟨own, other, next + 1, pend ++ [next], got⟩ := by rw [HQ.out]; unfold refMakeS; rw [if_pos (by rw [HPN.out]; exact hlt)]
    have hL : L = [] := by rw [HL.out]; unfold refLost; rw [if_pos (by rw [HPN.out]; exact hlt)]
    subst hQ; subst hL
    clear HQ HL
    go_wp2_with fail
    obtain ⟨m9, s9⟩ := M6.out.setz5 (.int .i64 own) (.int .i64 other) (.int .i64 (next + 1)) (.slice A5 (pn + 1) c5) (.slice GA gn gc)
    obtain ⟨W9, hW9⟩ : ∃ W9, W9 = ((((W6.setCell ⟨b + 1, 0, none⟩ (.int .i64 own)).setCell ⟨b + 1, 1, none⟩ (.int .i64 other)).setCell ⟨b + 1, 2, none⟩ (.int .i64 (next + 1))).setCell ⟨b + 1, 3, none⟩ (.slice A5 (pn + 1) c5)).setCell ⟨b + 1, 4, none⟩ (.slice GA gn gc) := ⟨_, rfl⟩
    rw [← hW9] at m9 s9 ⊢
    obtain ⟨⟨r0, r1, r2, r3, r4⟩, -⟩ := m9.cz5
    refine bodyPost_ret (v := .tuple #[.agg #[.int .i64 own, .int .i64 other, .int .i64 (next + 1), .slice A5 (pn + 1) c5, .slice GA gn gc], .slice A1 Y.length c1, .int .i64 next, .slice none 0 0, .int .i64 0]) (by simp [results, Try.results50, go_sem, r0, r1, r2, r3, r4]) rfl ?_
    refine ⟨A5, pn + 1, c5, A1, c1, none, 0, rfl, m9.st.to_below (by simp), ?_, m9.y.plain, Sl.nil_ _ _ _ _ _ _ (Nat.zero_le _), .inr ((R6.out.sl.step s9 (by decide)).fresh_of m9.st (by decide)), m9.y.fresh_of m9.st (by decide)⟩
    have := (R6.out.sl.step s9 (by decide)).plain
    simpa [ints, List.map_append] using this
  · obtain rfl : pn = 256 := by omega
    have hQ : Q = ⟨own, other, next + 1, (pend ++ [next]).tail, got⟩ := by rw [HQ.out]; unfold refMakeS; rw [if_neg (by rw [HPN.out]; exact hlt)]
    have hL : L = [((pend ++ [next]).headD 0, false)] := by rw [HL.out]; unfold refLost; rw [if_neg (by rw [HPN.out]; exact hlt)]
    have hrow := R6.out
    have hrw : ([] ++ ints pend ++ [Value.int .i64 next] : List Value) = ints (pend ++ [next]) := by simp [ints]
    rw [show (List.take (0 * 1) (#[] : Array Value).toList) = [] from rfl, hrw] at hrow
    obtain ⟨x, t, hxt⟩ : ∃ x t, pend ++ [next] = x :: t := by cases hp : pend with | nil => exact ⟨_, _, rfl⟩ | cons y l => exact ⟨_, _, rfl⟩
    rw [hxt] at hrow hQ hL
    simp only [List.tail_cons, List.headD_cons] at hQ hL
    subst hQ; subst hL
    obtain ⟨g5, cur, hA5, -, -, hc5, hc5', -, -⟩ := hrow.form (by omega)
    subst hA5
    obtain ⟨x0, -⟩ := hrow.cellAt (k := 0) (u := .int .i64 x) rfl
    have hg5 := World.block_lt_of_cell? W6 _ x0
    simp only at hg5
    unfold maxLen at hc5'
    have hc5i : (257 : Int) ≤ (c5 : Int) := by omega
    have S6 := Lib.hid hrow.cons_tail
    clear hrow hrw HQ HL R6 hxt hc5
    have sN := (Step.refl [] W6 o5).alloc (.cells #[.int .i64 x, .bool false] 144) 0
    go_upto_region 12 with (at_builtin; refine wpList_append_row _ rfl (.tmp 42) (.tmp 48) _ rfl el_rrep (ext o5 W6.heap.size 0) 6 none 0 0 [] rfl (Row.nil_ _ _ _ _ _) _ _ _ 1 1 _ rfl (Sl.fresh W6 144 2 1 [.int .i64 x, .bool false] rfl (by decide)) (by simp [Value.oneCell']) (by omega) (by simp only [maxLen]; omega) ?_; intro A7 c7 w7 hr7 hg7 hat7; have st7 := Step.append (Row.nil_ (W6.alloc (.cells #[.int .i64 x, .bool false] 144)) (ext o5 W6.heap.size 0) 6 144 2) hg7 6; have M7 := Lib.hid ((M6.out.step sN (by simp)).step st7 (by simp)); have R7 := Lib.hid hr7; have S7 := Lib.hid ((S6.out.step sN (by simp)).step st7 (by decide)); clear hr7 hg7 hat7 st7 q0 q1 q2 q3 q4 l0 l1 f2 f3 z0 z1 z2 z3 z4 y0 y1 y2 y3 y4 x0; obtain ⟨⟨q0, q1, q2, q3, q4⟩, l0, l1, f2, f3⟩ := M7.out.cb5)
    obtain ⟨o7, ho7⟩ : ∃ o7, o7 = ext (ext o5 W6.heap.size 0) (W6.alloc (.cells #[.int .i64 x, .bool false] 144)).heap.size 6 := ⟨_, rfl⟩
    rw [← ho7] at M7 R7 S7
    clear sN ho7 M6 S6
    go_upto_region 13 with fail
    have M8 := Lib.hid (M7.out.setb 3 (.slice (some ⟨g5, 1, none⟩) 256 (c5 - 1)) rfl)
    have k8 := (Step.refl [2] w7 o7).setCell (p := ⟨b, 3, none⟩) (.inr (by rw [M7.out.ob]; simp)) (.slice (some ⟨g5, 1, none⟩) 256 (c5 - 1))
    have R8 := Lib.hid (R7.out.sl.step k8 (by decide)); have S8 := Lib.hid (S7.out.step k8 (by decide))
    obtain ⟨W8, hW8⟩ : ∃ W8, W8 = w7.setCell ⟨b, 3, none⟩ (.slice (some ⟨g5, 1, none⟩) 256 (c5 - 1)) := ⟨_, rfl⟩
    rw [← hW8] at M8 R8 S8 ⊢
    clear hW8 k8 M7 R7 S7 q0 q1 q2 q3 q4 l0 l1 f2 f3
    obtain ⟨⟨q0, q1, q2, q3, q4⟩, l0, l1, f2, f3⟩ := M8.out.cb5
    obtain ⟨⟨z0, z1, z2, z3, z4⟩, y0, y1, y2, y3, y4⟩ := M8.out.cz5
    go_wp2_with fail
    obtain ⟨m9, s9⟩ := M8.out.setz5 (.int .i64 own) (.int .i64 other) (.int .i64 (next + 1)) (.slice (some ⟨g5, 1, none⟩) 256 (c5 - 1)) (.slice GA gn gc)
    obtain ⟨W9, hW9⟩ : ∃ W9, W9 = ((((W8.setCell ⟨b + 1, 0, none⟩ (.int .i64 own)).setCell ⟨b + 1, 1, none⟩ (.int .i64 other)).setCell ⟨b + 1, 2, none⟩ (.int .i64 (next + 1))).setCell ⟨b + 1, 3, none⟩ (.slice (some ⟨g5, 1, none⟩) 256 (c5 - 1))).setCell ⟨b + 1, 4, none⟩ (.slice GA gn gc) := ⟨_, rfl⟩
    rw [← hW9] at m9 s9 ⊢
    obtain ⟨⟨r0, r1, r2, r3, r4⟩, -⟩ := m9.cz5
    refine bodyPost_ret (v := .tuple #[.agg #[.int .i64 own, .int .i64 other, .int .i64 (next + 1), .slice (some ⟨g5, 1, none⟩) 256 (c5 - 1), .slice GA gn gc], .slice A1 Y.length c1, .int .i64 next, .slice A7 1 c7, .int .i64 0]) (by simp [results, Try.results50, go_sem, r0, r1, r2, r3, r4]) rfl ?_
    refine ⟨some ⟨g5, 1, none⟩, 256, c5 - 1, A1, c1, A7, c7, rfl, m9.st.to_below (by simp), (S8.out.step s9 (by decide)).plain, m9.y.plain, (R8.out.step s9 (by decide)).plain, .inr ((S8.out.step s9 (by decide)).fresh_of m9.st (by decide)), m9.y.fresh_of m9.st (by decide)⟩

set_option maxHeartbeats 400000 in
theorem ROnly_none (w : World) (r : RefS) (hg : r.got = []) (PA : Option Addr) (pn pc : Nat) (GA : Option Addr) (gn gc : Nat) (o : Own) (τ : Nat) (hG : Sl w o τ 1 GA gn gc (ints r.got)) :
    Calls Try.prog 52 #[r.val PA pn pc GA gn gc] w fun e w' => e = .returned (.tuple #[.slice none 0 0, .int .i64 6]) ∧ Below w.heap.size w w' := by
  obtain ⟨own, other, next, pend, got⟩ := r
  simp only at hg hG
  obtain ⟨hl, -⟩ := hG.int_len
  obtain rfl : gn = 0 := by rw [← hl, hg]; rfl
  clear hG hl hg
  go_enter Try.func52, Try.ntmps52
  go_wp2_with fail
  go_ret2
  exact ⟨rfl, (Below.refl _ _).alloc (Nat.le_refl _) _⟩

set_option maxHeartbeats 400000 in
theorem ROnly_some (w : World) (o : Own) (τ : Nat) (r : RefS) (hf : r.Fit) (hg : r.got ≠ []) (PA : Option Addr) (pn pc : Nat) (GA : Option Addr) (gn gc : Nat) (hG : Sl w o τ 1 GA gn gc (ints r.got)) :
    Calls Try.prog 52 #[r.val PA pn pc GA gn gc] w fun e w' => ∃ A c, e = .returned (.tuple #[.slice A (refBytes r (-1) []).length c, .int .i64 0]) ∧ Below w.heap.size w w' ∧ Sl w' (fun _ => 0) 0 1 A (refBytes r (-1) []).length c (byts (refBytes r (-1) [])) := by
  have HC := Lib.hid (fun W (hb : Below w.heap.size w W) => RBytes_ft W o τ r hf PA pn pc GA gn gc (hG.below hb) hg)
  obtain ⟨Y, hY⟩ : ∃ Y, Y = refBytes r (-1) [] := ⟨_, rfl⟩
  rw [← hY] at HC ⊢
  obtain ⟨own, other, next, pend, got⟩ := r
  simp only at hg hG HC
  obtain ⟨hl, -⟩ := hG.int_len
  have hd : ((gn : Int) == 0) = false := by
    have : 0 < got.length := List.length_pos_iff.2 hg
    simp; omega
  clear hG hl hg hf hY
  go_enter Try.func52, Try.ntmps52
  go_wp2_with fail
  refine (HC.out _ ((Below.refl _ _).alloc (Nat.le_refl _) _)).mono ?_
  rintro e w1 ⟨A1, c1, rfl, hb1, hs1, -⟩
  have HB := Lib.hid (((Below.refl w.heap.size w).alloc (Nat.le_refl _) (.cells #[.int .i64 own, .int .i64 other, .int .i64 next, .slice PA pn pc, .slice GA gn gc] 27)).trans (hb1.mono (by simp)))
  have HS := Lib.hid hs1
  clear hb1 hs1
  go_wp2_with fail
  go_ret2
  exact ⟨A1, c1, rfl, HB.out, HS.out⟩
end Go.Proofs.Ythjjipcbpmdfnaa

/- The reference's Make once more: all that it answers with lies in new memory. -/
namespace Go.Proofs.Ythjjipcbpmdfnaa
open Go.RowKit

/-- What Make comes to; all is new. -/
def RMakeN (w : World) (r' : RefS) (GA : Option Addr) (gn gc : Nat) (ys : List UInt8) (num : Int) (rs : List (Int × Bool)) (e : Ending) (w' : World) : Prop :=
  ∃ PA pn pc BA bc LA lc, e = .returned (.tuple #[r'.val PA pn pc GA gn gc, .slice BA ys.length bc, .int .i64 num, .slice LA rs.length lc, .int .i64 0]) ∧ Below w.heap.size w w' ∧ Sl w' (fun _ => 0) 0 1 PA pn pc (ints r'.pend) ∧
    Sl w' (fun _ => 0) 0 1 BA ys.length bc (byts ys) ∧ Sl w' (fun _ => 0) 0 2 LA rs.length lc (reps rs) ∧ (0 < pn → ∀ ad, PA = some ad → w.heap.size ≤ ad.block) ∧ (0 < ys.length → ∀ ad, BA = some ad → w.heap.size ≤ ad.block) ∧ (0 < rs.length → ∀ ad, LA = some ad → w.heap.size ≤ ad.block)

set_option maxRecDepth 100000 in
set_option maxHeartbeats 2000000 in
theorem r19Make_main (w : World) (o : Own) (τ τ2 : Nat) (r : RefS) (hf : r.Fit) (PA : Option Addr) (pn pc : Nat) (GA : Option Addr) (gn gc : Nat) (hP : Sl w o τ 1 PA pn pc (ints r.pend)) (hG : Sl w o τ 1 GA gn gc (ints r.got)) (hpl : r.pend.length ≤ 256)
    (A : Option Addr) (n c : Nat) (xs : List UInt8) (hS : Sl w o τ2 1 A n c (byts xs)) (hn0 : 1 ≤ n) (hn1 : n ≤ 1191) :
    Calls Try.prog 50 #[r.val PA pn pc GA gn gc, .slice A n c] w (RMakeN w (refMakeS r) GA gn gc (refBytes r r.next xs) r.next (refLost r)) := by
  have hx0 := hf.x0; have hx1 := hf.x1
  have HBY := Lib.hid (fun W (hb : Below w.heap.size w W) => RBytes_num W o τ τ2 r hf PA pn pc GA gn gc (hG.below hb) r.next hx0 (by omega) A n c xs (hS.below hb) (by omega))
  have h0 : ((n : Int) == 0) = false := by simp; omega
  have h1 : decide ((1191 : Int) < (n : Int)) = false := by simp; omega
  obtain ⟨Q, hQ⟩ : ∃ Q, Q = refMakeS r := ⟨_, rfl⟩
  obtain ⟨L, hL⟩ : ∃ L, L = refLost r := ⟨_, rfl⟩
  obtain ⟨Y, hY⟩ : ∃ Y, Y = refBytes r r.next xs := ⟨_, rfl⟩
  rw [← hQ, ← hL, ← hY]
  rw [← hY] at HBY
  obtain ⟨own, other, next, pend, got⟩ := r
  simp only at hx0 hx1 hpl hP hG HBY ⊢
  obtain ⟨hpn, -⟩ := hP.int_len
  have HP := Lib.hid hP.toN
  have HQ := Lib.hid hQ; have HL := Lib.hid hL; have HPN := Lib.hid hpn
  have hpn2 : pn ≤ 256 := by omega
  clear hQ hL hY hP hG hS hf hpn hpl
  go_enter Try.func50, Try.ntmps50
  go_wp2_with fail
  have m0 : ∀ (w1 : World) (A1 : Option Addr) (n1 c1 : Nat) (ys : List UInt8), Below ((w.alloc (.cells #[.int .i64 own, .int .i64 other, .int .i64 next, .slice PA pn pc, .slice GA gn gc] 27)).alloc (.cells #[.int .i64 0, .int .i64 0, .int .i64 0, .slice none 0 0, .slice none 0 0] 27)).heap.size ((w.alloc (.cells #[.int .i64 own, .int .i64 other, .int .i64 next, .slice PA pn pc, .slice GA gn gc] 27)).alloc (.cells #[.int .i64 0, .int .i64 0, .int .i64 0, .slice none 0 0, .slice none 0 0] 27)) w1 →
      Sl w1 (fun _ => 0) 0 1 A1 n1 c1 (byts ys) → (∀ ad, A1 = some ad → ((w.alloc (.cells #[.int .i64 own, .int .i64 other, .int .i64 next, .slice PA pn pc, .slice GA gn gc] 27)).alloc (.cells #[.int .i64 0, .int .i64 0, .int .i64 0, .slice none 0 0, .slice none 0 0] 27)).heap.size ≤ ad.block) →
      ∃ o1, MkSt w w1 o1 w.heap.size #[.int .i64 own, .int .i64 other, .int .i64 next, .slice PA pn pc, .slice GA gn gc] #[.int .i64 0, .int .i64 0, .int .i64 0, .slice none 0 0, .slice none 0 0] A1 n1 c1 ys := by
    intro w1 A1 n1 c1 ys hb hs ha
    have b0 := (Blk.new w 27 #[.int .i64 own, .int .i64 other, .int .i64 next, .slice PA pn pc, .slice GA gn gc]).alloc (.cells #[.int .i64 0, .int .i64 0, .int .i64 0, .slice none 0 0, .slice none 0 0] 27)
    have z0 := Blk.new (w.alloc (.cells #[.int .i64 own, .int .i64 other, .int .i64 next, .slice PA pn pc, .slice GA gn gc] 27)) 27 #[.int .i64 0, .int .i64 0, .int .i64 0, .slice none 0 0, .slice none 0 0]
    have s0 := ((Step.refl [2, 3, 5, 6] w (fun _ => 0)).alloc (.cells #[.int .i64 own, .int .i64 other, .int .i64 next, .slice PA pn pc, .slice GA gn gc] 27) 2).alloc (.cells #[.int .i64 0, .int .i64 0, .int .i64 0, .slice none 0 0, .slice none 0 0] 27) 3
    have hst := s0.below hb 4
    refine ⟨_, hst, b0.below hb b0.lt, ?_, ?_, ?_, hs.tag ha _ 4⟩
    · have := z0.below hb z0.lt
      simpa only [World.size_alloc] using this
    · rw [ext_lt (by simp; omega), ext_lt (by simp), ext_ge (Nat.le_refl _)]
    · rw [ext_lt (by simp), ext_ge (by simp)]
  have M0 := Lib.hid m0
  clear m0
  refine (HBY.out _ (((Below.refl _ _).alloc (Nat.le_refl _) _).alloc (by simp) _)).mono ?_
  rintro e w1 ⟨A1, c1, rfl, hb1, hs1, ha1⟩
  obtain ⟨o1, hm1⟩ := M0.out w1 A1 _ c1 _ hb1 hs1 ha1
  obtain ⟨b, hb⟩ : ∃ b, b = w.heap.size := ⟨_, rfl⟩
  rw [← hb] at hm1 ⊢
  have M1 := Lib.hid hm1
  obtain ⟨⟨q0, q1, q2, q3, q4⟩, l0, l1, f2, f3⟩ := hm1.cb5
  clear hb1 hs1 ha1 M0 HBY hm1 hb
  go_upto_region 8 with fail
  have M2 := Lib.hid (M1.out.setb 2 (.int .i64 (next + 1)) rfl)
  obtain ⟨W2, hW2⟩ : ∃ W2, W2 = w1.setCell ⟨b, 2, none⟩ (.int .i64 (next + 1)) := ⟨_, rfl⟩
  rw [← hW2] at M2 ⊢
  clear M1 q0 q1 q2 q3 q4 l0 l1 f2 f3 hW2
  have s3 := (Step.refl [] W2 o1).alloc (.cells #[] 3) 5
  have M3 := Lib.hid (M2.out.step s3 (by simp))
  have R3 := Lib.hid (Row.made (w := W2) o1 5 3 1 #[] 0 rfl (by decide) 0 (Nat.le_refl _))
  obtain ⟨o3, ho3⟩ : ∃ o3, o3 = ext o1 W2.heap.size 5 := ⟨_, rfl⟩
  rw [← ho3] at M3 R3
  have P3 := Lib.hid ((HP.out.plain.step M2.out.st (by decide)).below ((Below.refl _ _).alloc (Nat.le_refl _) (.cells #[] 3)))
  clear s3 ho3 HP
  obtain ⟨⟨q0, q1, q2, q3, q4⟩, l0, l1, f2, f3⟩ := M2.out.cb5
  go_upto_region 10 with (first
    | (at_builtin; refine wpList_append_row _ rfl (.tmp 30) (.tmp 32) _ rfl el_int o3 5 _ 0 0 _ rfl R3.out _ _ PA pn pc (ints pend) rfl P3.out (one_ints _) (by omega) (by simp only [maxLen]; omega) ?_; intro A4 c4 w4 hr4 hg4 hat4; have st4 := Step.append R3.out hg4 5; have M4 := Lib.hid (M3.out.step st4 (by simp)); rw [Nat.zero_add] at hr4; have R4 := Lib.hid hr4; clear hr4 hg4 hat4 st4 q0 q1 q2 q3 q4 l0 l1 f2 f3)
    | (at_builtin; refine wpList_append_row _ rfl (.tmp 33) (.tmp 35) _ rfl el_int (ext (ext o3 (W2.alloc (.cells #[] 3)).heap.size 5) w4.heap.size 5) 5 A4 pn c4 _ rfl (R4.out.step ((Step.refl [] _ _).alloc (.cells #[.int .i64 next] 3) 5) (by simp)) _ _ _ 1 1 _ rfl (Sl.fresh w4 3 1 1 [.int .i64 next] rfl (by decide)) (by simp [Value.oneCell']) (by omega) (by simp only [maxLen]; omega) ?_; intro A5 c5 w5 hr5 hg5 hat5; have st5 := (Step.append (R4.out.step ((Step.refl [] _ _).alloc (.cells #[.int .i64 next] 3) 5) (by simp)) hg5 5); have M5 := Lib.hid ((M4.out.step ((Step.refl [] _ _).alloc (.cells #[.int .i64 next] 3) 5) (by simp)).step st5 (by simp)); have R5 := Lib.hid hr5; clear hr5 hg5 hat5 st5; obtain ⟨⟨q0, q1, q2, q3, q4⟩, l0, l1, f2, f3⟩ := M5.out.cb5))
  obtain ⟨o5, ho5⟩ : ∃ o5, o5 = ext (ext (ext o3 (W2.alloc (.cells #[] 3)).heap.size 5) w4.heap.size 5) (w4.alloc (.cells #[.int .i64 next] 3)).heap.size 5 := ⟨_, rfl⟩
  rw [← ho5] at M5 R5
  have M6 := Lib.hid (M5.out.setb 3 (.slice A5 (pn + 1) c5) rfl)
  have R6 := Lib.hid (Row.step R5.out ((Step.refl [2] w5 o5).setCell (p := ⟨b, 3, none⟩) (.inr (by rw [M5.out.ob]; simp)) (.slice A5 (pn + 1) c5)) (by decide))
  obtain ⟨W6, hW6⟩ : ∃ W6, W6 = w5.setCell ⟨b, 3, none⟩ (.slice A5 (pn + 1) c5) := ⟨_, rfl⟩
  rw [← hW6] at M6 R6 ⊢
  clear M5 R5 hW6 ho5 q0 q1 q2 q3 q4 l0 l1 f2 f3 P3 M4 R4 M3 R3 M2
  obtain ⟨⟨q0, q1, q2, q3, q4⟩, l0, l1, f2, f3⟩ := M6.out.cb5
  obtain ⟨⟨z0, z1, z2, z3, z4⟩, y0, y1, y2, y3, y4⟩ := M6.out.cz5
  by_cases hlt : pn < 256
  · have hd : decide ((256 : Int) < (pn : Int) + 1) = false := by simp; omega
    have hQ : Q = ⟨own, other, next + 1, pend ++ [next], got⟩ := by rw [HQ.out]; unfold refMakeS; rw [if_pos (by rw [HPN.out]; exact hlt)]
    have hL : L = [] := by rw [HL.out]; unfold refLost; rw [if_pos (by rw [HPN.out]; exact hlt)]
    subst hQ; subst hL
    clear HQ HL
    go_wp2_with fail
    obtain ⟨m9, s9⟩ := M6.out.setz5 (.int .i64 own) (.int .i64 other) (.int .i64 (next + 1)) (.slice A5 (pn + 1) c5) (.slice GA gn gc)
    obtain ⟨W9, hW9⟩ : ∃ W9, W9 = ((((W6.setCell ⟨b + 1, 0, none⟩ (.int .i64 own)).setCell ⟨b + 1, 1, none⟩ (.int .i64 other)).setCell ⟨b + 1, 2, none⟩ (.int .i64 (next + 1))).setCell ⟨b + 1, 3, none⟩ (.slice A5 (pn + 1) c5)).setCell ⟨b + 1, 4, none⟩ (.slice GA gn gc) := ⟨_, rfl⟩
    rw [← hW9] at m9 s9 ⊢
    obtain ⟨⟨r0, r1, r2, r3, r4⟩, -⟩ := m9.cz5
    refine bodyPost_ret (v := .tuple #[.agg #[.int .i64 own, .int .i64 other, .int .i64 (next + 1), .slice A5 (pn + 1) c5, .slice GA gn gc], .slice A1 Y.length c1, .int .i64 next, .slice none 0 0, .int .i64 0]) (by simp [results, Try.results50, go_sem, r0, r1, r2, r3, r4]) rfl ?_
    refine ⟨A5, pn + 1, c5, A1, c1, none, 0, rfl, m9.st.to_below (by simp), ?_, m9.y.plain, Sl.nil_ _ _ _ _ _ _ (Nat.zero_le _), (R6.out.sl.step s9 (by decide)).fresh_of m9.st (by decide), m9.y.fresh_of m9.st (by decide), fun _ ad ha => by cases ha⟩
    have := (R6.out.sl.step s9 (by decide)).plain
    simpa [ints, List.map_append] using this
  · obtain rfl : pn = 256 := by omega
    have hQ : Q = ⟨own, other, next + 1, (pend ++ [next]).tail, got⟩ := by rw [HQ.out]; unfold refMakeS; rw [if_neg (by rw [HPN.out]; exact hlt)]
    have hL : L = [((pend ++ [next]).headD 0, false)] := by rw [HL.out]; unfold refLost; rw [if_neg (by rw [HPN.out]; exact hlt)]
    have hrow := R6.out
    have hrw : ([] ++ ints pend ++ [Value.int .i64 next] : List Value) = ints (pend ++ [next]) := by simp [ints]
    rw [show (List.take (0 * 1) (#[] : Array Value).toList) = [] from rfl, hrw] at hrow
    obtain ⟨x, t, hxt⟩ : ∃ x t, pend ++ [next] = x :: t := by cases hp : pend with | nil => exact ⟨_, _, rfl⟩ | cons y l => exact ⟨_, _, rfl⟩
    rw [hxt] at hrow hQ hL
    simp only [List.tail_cons, List.headD_cons] at hQ hL
    subst hQ; subst hL
    obtain ⟨g5, cur, hA5, -, -, hc5, hc5', -, -⟩ := hrow.form (by omega)
    subst hA5
    obtain ⟨x0, -⟩ := hrow.cellAt (k := 0) (u := .int .i64 x) rfl
    have hg5 := World.block_lt_of_cell? W6 _ x0
    simp only at hg5
    unfold maxLen at hc5'
    have hc5i : (257 : Int) ≤ (c5 : Int) := by omega
    have S6 := Lib.hid hrow.cons_tail
    clear hrow hrw HQ HL R6 hxt hc5
    have sN := (Step.refl [] W6 o5).alloc (.cells #[.int .i64 x, .bool false] 144) 0
    go_upto_region 12 with (at_builtin; refine wpList_append_row _ rfl (.tmp 42) (.tmp 48) _ rfl el_rrep (ext o5 W6.heap.size 0) 6 none 0 0 [] rfl (Row.nil_ _ _ _ _ _) _ _ _ 1 1 _ rfl (Sl.fresh W6 144 2 1 [.int .i64 x, .bool false] rfl (by decide)) (by simp [Value.oneCell']) (by omega) (by simp only [maxLen]; omega) ?_; intro A7 c7 w7 hr7 hg7 hat7; have st7 := Step.append (Row.nil_ (W6.alloc (.cells #[.int .i64 x, .bool false] 144)) (ext o5 W6.heap.size 0) 6 144 2) hg7 6; have M7 := Lib.hid ((M6.out.step sN (by simp)).step st7 (by simp)); have R7 := Lib.hid hr7; have S7 := Lib.hid ((S6.out.step sN (by simp)).step st7 (by decide)); clear hr7 hg7 hat7 st7 q0 q1 q2 q3 q4 l0 l1 f2 f3 z0 z1 z2 z3 z4 y0 y1 y2 y3 y4 x0; obtain ⟨⟨q0, q1, q2, q3, q4⟩, l0, l1, f2, f3⟩ := M7.out.cb5)
    obtain ⟨o7, ho7⟩ : ∃ o7, o7 = ext (ext o5 W6.heap.size 0) (W6.alloc (.cells #[.int .i64 x, .bool false] 144)).heap.size 6 := ⟨_, rfl⟩
    rw [← ho7] at M7 R7 S7
    clear sN ho7 M6 S6
    go_upto_region 13 with fail
    have M8 := Lib.hid (M7.out.setb 3 (.slice (some ⟨g5, 1, none⟩) 256 (c5 - 1)) rfl)
    have k8 := (Step.refl [2] w7 o7).setCell (p := ⟨b, 3, none⟩) (.inr (by rw [M7.out.ob]; simp)) (.slice (some ⟨g5, 1, none⟩) 256 (c5 - 1))
    have R8 := Lib.hid (R7.out.sl.step k8 (by decide)); have S8 := Lib.hid (S7.out.step k8 (by decide))
    obtain ⟨W8, hW8⟩ : ∃ W8, W8 = w7.setCell ⟨b, 3, none⟩ (.slice (some ⟨g5, 1, none⟩) 256 (c5 - 1)) := ⟨_, rfl⟩
    rw [← hW8] at M8 R8 S8 ⊢
    clear hW8 k8 M7 R7 S7 q0 q1 q2 q3 q4 l0 l1 f2 f3
    obtain ⟨⟨q0, q1, q2, q3, q4⟩, l0, l1, f2, f3⟩ := M8.out.cb5
    obtain ⟨⟨z0, z1, z2, z3, z4⟩, y0, y1, y2, y3, y4⟩ := M8.out.cz5
    go_wp2_with fail
    obtain ⟨m9, s9⟩ := M8.out.setz5 (.int .i64 own) (.int .i64 other) (.int .i64 (next + 1)) (.slice (some ⟨g5, 1, none⟩) 256 (c5 - 1)) (.slice GA gn gc)
    obtain ⟨W9, hW9⟩ : ∃ W9, W9 = ((((W8.setCell ⟨b + 1, 0, none⟩ (.int .i64 own)).setCell ⟨b + 1, 1, none⟩ (.int .i64 other)).setCell ⟨b + 1, 2, none⟩ (.int .i64 (next + 1))).setCell ⟨b + 1, 3, none⟩ (.slice (some ⟨g5, 1, none⟩) 256 (c5 - 1))).setCell ⟨b + 1, 4, none⟩ (.slice GA gn gc) := ⟨_, rfl⟩
    rw [← hW9] at m9 s9 ⊢
    obtain ⟨⟨r0, r1, r2, r3, r4⟩, -⟩ := m9.cz5
    refine bodyPost_ret (v := .tuple #[.agg #[.int .i64 own, .int .i64 other, .int .i64 (next + 1), .slice (some ⟨g5, 1, none⟩) 256 (c5 - 1), .slice GA gn gc], .slice A1 Y.length c1, .int .i64 next, .slice A7 1 c7, .int .i64 0]) (by simp [results, Try.results50, go_sem, r0, r1, r2, r3, r4]) rfl ?_
    refine ⟨some ⟨g5, 1, none⟩, 256, c5 - 1, A1, c1, A7, c7, rfl, m9.st.to_below (by simp), (S8.out.step s9 (by decide)).plain, m9.y.plain, (R8.out.step s9 (by decide)).plain, (S8.out.step s9 (by decide)).fresh_of m9.st (by decide), m9.y.fresh_of m9.st (by decide), (R8.out.step s9 (by decide)).fresh_of m9.st (by decide)⟩
end Go.Proofs.Ythjjipcbpmdfnaa
