/-
  WALK of marchesref20.Flush.
-/
import Derived.Test.YthjjipcbpmdfnaaChRZ
import Derived.Test.YthjjipcbpmdfnaaChD
import Derived.Test.YthjjipcbpmdfnaaRefY
namespace Go.Proofs.Ythjjipcbpmdfnaa
open Go.RowKit

/-- What Flush comes to. -/
def RFlushTo (w : World) (o : Own) (τ : Nat) (R : RCh × List UInt8 × Int) (e : Ending) (w' : World) : Prop := ∃ (v' : RV) (A : Option Addr) (ac : Nat), e = .returned (.tuple #[.agg (rcells R.1 v'), .slice A R.2.1.length ac, .int .i64 R.2.2]) ∧ Below w.heap.size w w' ∧ RChIn w' (ext o w.heap.size τ) τ τ R.1 v' ∧ Sl w' (fun _ => 0) 0 1 A R.2.1.length ac (byts R.2.1) ∧ (0 < R.2.1.length → ∀ ad, A = some ad → w.heap.size ≤ ad.block)
theorem RChR.fin {w w' : World} {o o' : Own} {τ : Nat} {ts : List Nat} {c : RCh} {v : RV} (h : RChR w' o' c v) (st : Step ts w (one01 o τ) w' o') : RChIn w' (ext o w.heap.size τ) τ τ c v :=
  h.calm.fin (st.calmR_ (fun k _ => by have := one01_le o τ k; omega)) (by decide) (by decide)
theorem RChR.ticked {w : World} {o : Own} {c : RCh} {v : RV} (h : RChR w o c v) (t : Int) : RChR w o { c with tick := t } v := ⟨h.pend, h.got, h.out, h.ms, h.box⟩
theorem RChR.owing {w : World} {o : Own} {c : RCh} {v : RV} (h : RChR w o c v) (t : Bool) : RChR w o { c with owes := t } v := ⟨h.pend, h.got, h.out, h.ms, h.box⟩
/-- Flush's memory behind the copy: its box holds c. -/
structure FS (w : World) (oI : Own) (W : World) (o : Own) (b : Nat) (c : RCh) (v : RV) : Prop where
  rs : RS 2 3 w oI W o b (rcells c v) zero11
  ch : RChR W o c v
/-- Tags that a step may write: none of those that a Channel's parts have. -/
def FarTag (t : Nat) : Prop := t ≠ 1 ∧ t ≠ 2 ∧ t ≠ 3 ∧ t ≠ 4 ∧ t ≠ 10 ∧ t ≠ 11 ∧ t < 100
theorem FS.step {w W W' : World} {oI o o' : Own} {b : Nat} {c : RCh} {v : RV} (h : FS w oI W o b c v) {ts : List Nat} (k : Step ts W o W' o') (hs : ∀ t ∈ ts, FarTag t ∧ ∀ j, j < w.heap.size → oI j ≠ t) : FS w oI W' o' b c v :=
  ⟨h.rs.stepN k (fun t ht => ⟨.inr (hs t ht).2, (hs t ht).1.2.1, (hs t ht).1.2.2.1⟩), h.ch.step k (fun t ht => by have := (hs t ht).1; unfold FarTag at this; omega)⟩
theorem FS.row {w W : World} {oI o : Own} {b : Nat} {c : RCh} {v : RV} (h : FS w oI W o b c v) : Row W o 4 107 4 v.OA c.out.length v.oc (msCells (c.out.map RMsg.m4) v.mvs) := h.ch.out
theorem RChIn.ticked {w : World} {o : Own} {τ σ : Nat} {c : RCh} {v : RV} (h : RChIn w o τ σ c v) (t : Int) : RChIn w o τ σ { c with tick := t } v := ⟨h.pend, h.got, h.out, h.ms, h.box⟩
theorem RChIn.owing {w : World} {o : Own} {τ σ : Nat} {c : RCh} {v : RV} (h : RChIn w o τ σ c v) (t : Bool) : RChIn w o τ σ { c with owes := t } v := ⟨h.pend, h.got, h.out, h.ms, h.box⟩

theorem r19Only_new (w : World) (o : Own) (τ : Nat) (r : RefS) (hf : r.Fit) (hg : r.got ≠ []) (PA : Option Addr) (pn pc : Nat) (GA : Option Addr) (gn gc : Nat) (hG : Sl w o τ 1 GA gn gc (ints r.got)) :
    Calls Try.prog 52 #[r.val PA pn pc GA gn gc] w fun e w' => ∃ A c, e = .returned (.tuple #[.slice A (refBytes r (-1) []).length c, .int .i64 0]) ∧ Below w.heap.size w w' ∧ Sl w' (fun _ => 0) 0 1 A (refBytes r (-1) []).length c (byts (refBytes r (-1) [])) ∧ ∀ ad, A = some ad → w.heap.size ≤ ad.block := by
  have HC := Lib.hid (fun W (hb : Below w.heap.size w W) => RBytes_ft W o τ r hf PA pn pc GA gn gc (hG.below hb) hg)
  obtain ⟨Y, hY⟩ : ∃ Y, Y = refBytes r (-1) [] := ⟨_, rfl⟩
  rw [← hY] at HC ⊢
  obtain ⟨own, other, next, pend, got⟩ := r
  simp only at hg hG HC
  obtain ⟨hl, -⟩ := hG.int_len
  have hd : ((gn : Int) == 0) = false := by
    have : 0 < got.length := List.length_pos_iff.2 hg
    simp; omega
  clear hG hl hg hf hY
  go_enter Try.func52, Try.ntmps52
  go_wp2_with fail
  refine (HC.out _ ((Below.refl _ _).alloc (Nat.le_refl _) _)).mono ?_
  rintro e w1 ⟨A1, c1, rfl, hb1, hs1, hf1⟩
  have HF := Lib.hid (show ∀ ad, A1 = some ad → w.heap.size ≤ ad.block from fun ad h => Nat.le_trans (Nat.le_of_lt (by rw [World.size_alloc]; omega)) (hf1 ad h))
  have HB := Lib.hid (((Below.refl w.heap.size w).alloc (Nat.le_refl _) (.cells #[.int .i64 own, .int .i64 other, .int .i64 next, .slice PA pn pc, .slice GA gn gc] 27)).trans (hb1.mono (by simp)))
  have HS := Lib.hid hs1
  clear hb1 hs1 hf1
  go_wp2_with fail
  go_ret2
  exact ⟨A1, c1, rfl, HB.out, HS.out, HF.out⟩
/-- What of a Channel is not its messages. -/
structure RRest (W : World) (o : Own) (c : RCh) (v : RV) : Prop where
  pend : Sl W o 1 1 v.PA c.e.pend.length v.pc (ints c.e.pend)
  got : Sl W o 1 1 v.GA c.e.got.length v.gc (ints c.e.got)
  box : BoxIn W o 1 c.box v.IA v.ic v.ivs v.SA v.sc
theorem RRest.step {W W' : World} {o o' : Own} {c : RCh} {v : RV} (h : RRest W o c v) {ts : List Nat} (k : Step ts W o W' o') (h1 : 1 ∉ ts) : RRest W' o' c v := ⟨h.pend.step k h1, h.got.step k h1, h.box.step k h1⟩
structure RRestR (W : World) (o : Own) (c : RCh) (v : RV) : Prop where
  pend : Sl W o 1 1 v.PA c.e.pend.length v.pc (ints c.e.pend)
  got : Sl W o 1 1 v.GA c.e.got.length v.gc (ints c.e.got)
  box : BoxR W o c.box v.IA v.ic v.ivs v.SA v.sc
theorem RRestR.step {W W' : World} {o o' : Own} {c : RCh} {v : RV} (h : RRestR W o c v) {ts : List Nat} (k : Step ts W o W' o') (h1 : ∀ t ∈ ts, t ≠ 1 ∧ t ≠ 10 ∧ t ≠ 11) : RRestR W' o' c v := ⟨h.pend.step k (fun hm => (h1 _ hm).1 rfl), h.got.step k (fun hm => (h1 _ hm).1 rfl), h.box.step k h1⟩
/-- The law on drawn regions behind a letter. -/
theorem wp_region_tillK {P : Program} {ops : Array Oper} {Q : Exit → Act → World → Prop} {S0 : World → Prop} {st : Nat} {id : Nat} {a : Act} {w : World} (hm : P.follows .mixedOrders = true) (hQ : ∀ c (a : Act) (d : Tmp) v w, Q (.panic c) (a.put (some d) v) w → Q (.panic c) a w)
    (h : ∀ K : Exit → Act → World → Prop, Hid (∀ c (a : Act) (d : Tmp) v w, K (.panic c) (a.put (some d) v) w → K (.panic c) a w) → Hid (∀ a w, Q .normal a w → K .normal a w) → wpAnyG P .any ops K S0 st ops.size (Array.replicate ops.size false) a w.drew) : (Code.region id ops true).wp P Q a w :=
  wp_region_till hm (h Q (Lib.hid hQ) (Lib.hid fun _ _ h => h))
theorem Step.cell {ts : List Nat} {w w' : World} {o o' : Own} (h : Step ts w o w' o') {p : Addr} (hp : p.block < w.heap.size) (hn : o p.block ∉ ts) : w'.cell? p = w.cell? p ∧ w'.frozen? p = w.frozen? p := by
  have := h.block p.block hp hn
  constructor
  · unfold World.cell?; rw [this]
  · unfold World.frozen?; rw [this]
/-- Message n has got a longer row. -/
theorem MsX.grow {W W' : World} {o o' : Own} {k n τ : Nat} {ms : List M4} {vs : List MV} {m' : M4} {v' : MV} (h : MsX W o k k ms vs) (hnk : n < k) (st : Step [τ] W o W' o') (hτ : τ = 100 + 2 * n ∨ τ = 101 + 2 * n) (hi : MRow W' o' n m' v') : MsX W' o' k k (ms.set n m') (vs.set n v') := by
  refine ⟨by rw [List.length_set, List.length_set]; exact h.len, fun i m v hik hm hv => ?_, fun i m v hik hm hv => ?_⟩
  · by_cases hj : n = i
    · subst hj
      rw [List.getElem?_set, if_pos rfl] at hm hv
      split at hm
      · injection hm with hm
        split at hv
        · injection hv with hv; subst hm; subst hv; exact hi
        · cases hv
      · cases hm
    · rw [List.getElem?_set_ne hj] at hm hv
      exact (h.new i m v hik hm hv).step st (fun t ht => by simp at ht; omega)
  · have hkn : n ≠ i := by omega
    rw [List.getElem?_set_ne hkn] at hm hv
    exact (h.old i m v hik hm hv).step st (by simp; omega)
/-- Flush while it marks: messages by M4, rows of their own. -/
structure FM (w : World) (oI : Own) (W : World) (o : Own) (b : Nat) (c : RCh) (v : RV) (Lm : List M4) (vs : List MV) : Prop where
  rs : RS 2 3 w oI W o b (rcells c v) zero11
  row : Row W o 4 107 4 v.OA c.out.length v.oc (msCells Lm vs)
  len : Lm.length = c.out.length
  ms : MsX W o c.out.length c.out.length Lm vs
  rest : RRestR W o c v
theorem FM.step {w W W' : World} {oI o o' : Own} {b : Nat} {c : RCh} {v : RV} {Lm : List M4} {vs : List MV} (h : FM w oI W o b c v Lm vs) {ts : List Nat} (k : Step ts W o W' o') (hs : ∀ t ∈ ts, FarTag t ∧ ∀ j, j < w.heap.size → oI j ≠ t) : FM w oI W' o' b c v Lm vs :=
  ⟨h.rs.stepN k (fun t ht => ⟨.inr (hs t ht).2, (hs t ht).1.2.1, (hs t ht).1.2.2.1⟩), h.row.step k (fun hm => (hs 4 hm).1.2.2.2.1 rfl), h.len, h.ms.step k (fun t ht => by have := (hs t ht).1; unfold FarTag at this; omega), h.rest.step k (fun t ht => by have := (hs t ht).1; unfold FarTag at this; omega)⟩
/-- Message n's row of tag τ has grown, and the slice that tells of it is stored in cell j. -/
theorem FM.push {w W W' : World} {oI o o' : Own} {b h n j τ : Nat} {c : RCh} {v : RV} {Lm : List M4} {vs : List MV} {m m' : M4} {x x' : MV} {u : Value} (H : FM w oI W o b c v Lm vs) (hle : ∀ k, oI k ≤ 1) (hA : v.OA = some ⟨h, 0, none⟩) (hn : n < c.out.length) (hm : Lm[n]? = some m) (hx : vs[n]? = some x) (hj : j < 4) (hset : (mCells m x).set j u = mCells m' x')
    (st : Step [τ] W o W' o') (hτ : τ = 100 + 2 * n ∨ τ = 101 + 2 * n) (hin : MRow W' o' n m' x') :
    FM w oI (W'.setCell ⟨h, n * 4 + j, none⟩ u) o' b c v (Lm.set n m') (vs.set n x') := by
  have hr := H.row.step st (by simp; omega)
  rw [hA] at hr
  have stS := hr.stored (n * 4 + j) u
  have hrs := H.rs.stepN st (fun t ht => by simp at ht; exact ⟨.inr fun k _ => by have := hle k; omega, by omega, by omega⟩)
  refine ⟨hrs.step stS (by simp) (by decide) (by decide), ?_, by rw [List.length_set]; exact H.len, (H.ms.grow hn st hτ hin).step stS (by simp), (H.rest.step st (fun t ht => by simp at ht; omega)).step stS (by simp)⟩
  rw [hA, ← msCells_set hm hx hj hset]
  exact hr.setG (by omega) u
/-- All that is above 4 becomes memory that nobody writes. -/
def calm4 (o : Own) : Own := fun k => if o k ≤ 4 then o k else 1
theorem calm4_le (o : Own) (k : Nat) : calm4 o k ≤ 4 := by unfold calm4; split <;> omega
theorem calm4_low {o : Own} {k t : Nat} (h : o k = t) (h4 : t ≤ 4) : calm4 o k = t := by unfold calm4; rw [if_pos (by omega), h]
theorem calm4_in {o : Own} {k t : Nat} (h : o k = t) (h4 : 4 < t) : calm4 o k = 1 := by unfold calm4; rw [if_neg (by omega)]
/-- Flush when all is marked: all parts are memory that nobody writes. -/
structure FC (w : World) (oI : Own) (W : World) (o : Own) (b : Nat) (c : RCh) (v : RV) (Lm : List M4) (vs : List MV) : Prop where
  rs : RS 2 3 w oI W o b (rcells c v) zero11
  row : Row W o 4 107 4 v.OA c.out.length v.oc (msCells Lm vs)
  ms : MsIn W o 1 Lm vs
  rest : RRest W o c v
theorem MRow.calm4_ {W : World} {o : Own} {i : Nat} {m : M4} {v : MV} (h : MRow W o i m v) : MIn W (calm4 o) 1 m v :=
  ⟨h.b.re (fun k _ hk => calm4_low hk (by decide)), h.p.sl.re (fun k _ hk => calm4_in hk (by omega)), h.t.sl.re (fun k _ hk => calm4_in hk (by omega))⟩
theorem BoxR.calm4_ {W : World} {o : Own} {box : List (Option (List UInt8))} {IA SA : Option Addr} {ic sc : Nat} {ivs : List Value} (h : BoxR W o box IA ic ivs SA sc) : BoxIn W (calm4 o) 1 box IA ic ivs SA sc :=
  ⟨h.inn.sl.re (fun k _ hk => calm4_in hk (by omega)), h.som.sl.re (fun k _ hk => calm4_in hk (by omega)), h.one, fun i b hb => by obtain ⟨xA, xc, q1, q2⟩ := h.el i b hb; exact ⟨xA, xc, q1, q2.re (fun k _ hk => calm4_low hk (by decide))⟩⟩
theorem FM.calm {w W : World} {oI o : Own} {b : Nat} {c : RCh} {v : RV} {Lm : List M4} {vs : List MV} (h : FM w oI W o b c v Lm vs) (hle : ∀ k, oI k ≤ 1) : FC w oI W (calm4 o) b c v Lm vs :=
  ⟨h.rs.reown (fun k hk => calm4_low rfl (by rw [h.rs.st.own k hk]; have := hle k; omega)) (calm4_low h.rs.ob (by decide)) (calm4_low h.rs.oz (by decide)), h.row.re (fun k hk => calm4_low hk (by decide)),
    ⟨h.ms.len, fun i m v hm hv => (h.ms.new i m v (by rw [← h.len]; exact (List.getElem?_eq_some_iff.1 hm).1) hm hv).calm4_⟩,
    ⟨h.rest.pend.re (fun k _ hk => calm4_low hk (by decide)), h.rest.got.re (fun k _ hk => calm4_low hk (by decide)), h.rest.box.calm4_⟩⟩
theorem rMark1_ps {nu t : Int} {out : List RMsg} {n B : Nat} (h : ∀ m ∈ out, m.ps.length ≤ B) : ∀ m ∈ rMark1 nu t out n, m.ps.length ≤ B + 1 := by
  intro m hm
  unfold rMark1 at hm
  split at hm
  · exact Nat.le_succ_of_le (h m hm)
  · rename_i x hx
    rcases List.mem_or_eq_of_mem_set hm with hm | rfl
    · exact Nat.le_succ_of_le (h m hm)
    · have := h x (List.mem_of_getElem? hx)
      simp; omega
theorem rMark_ps (nu t : Int) (l : List Nat) : ∀ (out : List RMsg) (B : Nat), (∀ m ∈ out, m.ps.length ≤ B) → ∀ m ∈ rMark nu t out l, m.ps.length ≤ B + l.length := by
  induction l with
  | nil => intro out B h; exact h
  | cons n l ih =>
    intro out B h m hm
    have := ih (rMark1 nu t out n) (B + 1) (rMark1_ps h) m hm
    simp only [List.length_cons]; omega
theorem rMark_succ {nu t : Int} {out : List RMsg} {l : List Nat} {i n : Nat} (h : l[i]? = some n) : rMark nu t out (l.take (i + 1)) = rMark1 nu t (rMark nu t out (l.take i)) n := by
  obtain ⟨hk, he⟩ := List.getElem?_eq_some_iff.1 h
  unfold rMark
  rw [List.take_succ_eq_append_getElem hk, he, List.foldl_append]
  rfl
theorem rMark_m4 {nu t : Int} {out : List RMsg} {l : List Nat} {i n : Nat} {m : M4} (hn : l[i]? = some n) (hm : ((rMark nu t out (l.take i)).map RMsg.m4)[n]? = some m) :
    (rMark nu t out (l.take (i + 1))).map RMsg.m4 = ((rMark nu t out (l.take i)).map RMsg.m4).set n ⟨m.b, m.done, m.pks ++ [nu], m.tks ++ [t]⟩ := by
  rw [rMark_succ hn]
  unfold rMark1
  rw [List.getElem?_map] at hm
  cases h : (rMark nu t out (l.take i))[n]? with
  | none => rw [h] at hm; cases hm
  | some x =>
    rw [h] at hm
    injection hm with hm
    subst hm
    simp only [List.map_set]
    simp [RMsg.m4]
theorem rMark1_len (nu t : Int) (out : List RMsg) (n : Nat) : (rMark1 nu t out n).length = out.length := by
  unfold rMark1; split
  · rfl
  · rw [List.length_set]
theorem rMark_len (nu t : Int) (l : List Nat) : ∀ (out : List RMsg), (rMark nu t out l).length = out.length := by
  induction l with
  | nil => intro out; rfl
  | cons n l ih => intro out; exact (ih _).trans (rMark1_len nu t out n)
theorem rBodyG_lt (l : List RMsg) (tick : Int) (k : Nat) : ∀ n ∈ (rBodyG l tick k).2, n < k := by
  induction k with
  | zero => intro n hn; simp [rBodyG] at hn
  | succ k ih =>
    intro n hn
    change n ∈ (rStep l tick k (rBodyG l tick k)).2 at hn
    unfold rStep at hn
    split at hn
    · exact Nat.lt_succ_of_lt (ih n hn)
    · split at hn
      · simp only [List.mem_append, List.mem_singleton] at hn
        rcases hn with hn | rfl
        · exact Nat.lt_succ_of_lt (ih n hn)
        · exact Nat.lt_succ_self _
      · exact Nat.lt_succ_of_lt (ih n hn)
theorem BodyAt.below {w W W' : World} {B : List UInt8} {L : List Nat} {BA LA : Option Addr} {bn bc ln lc : Nat} (h : BodyAt w W B L BA bn bc LA ln lc) (hb : Below W.heap.size W W') : BodyAt w W' B L BA bn bc LA ln lc := ⟨h.ns.below hb, h.b.below h.ns.le' hb, h.l.below h.ns.le' hb⟩
theorem rBodyG_le (l : List RMsg) (tick : Int) (k : Nat) : (rBodyG l tick k).1.length ≤ 1191 ∧ (rBodyG l tick k).2.length * 4 ≤ (rBodyG l tick k).1.length := by
  induction k with
  | zero => exact ⟨Nat.zero_le _, Nat.le_refl _⟩
  | succ k ih =>
    show (rStep l tick k (rBodyG l tick k)).1.length ≤ 1191 ∧ (rStep l tick k (rBodyG l tick k)).2.length * 4 ≤ (rStep l tick k (rBodyG l tick k)).1.length
    unfold rStep
    split
    · exact ih
    · split
      · rename_i h; simp [hdrB]; have := h.2; omega
      · exact ih
theorem rBodyG_due {l : List RMsg} {tick : Int} {k : Nat} {m : RMsg} (hm : l[k]? = some m) (hd : rDue l k tick = true) (hl : (rBodyG l tick k).1.length + 4 + m.b.length ≤ 1191) :
    rBodyG l tick (k + 1) = ((rBodyG l tick k).1 ++ hdrB k m.b.length ++ m.b, (rBodyG l tick k).2 ++ [k]) := by
  show rStep l tick k (rBodyG l tick k) = _
  simp only [rStep, hm]
  rw [if_pos ⟨hd, hl⟩]
theorem rBodyG_not {l : List RMsg} {tick : Int} {k : Nat} (h : rDue l k tick = false) : rBodyG l tick (k + 1) = rBodyG l tick k := by
  show rStep l tick k (rBodyG l tick k) = _
  simp only [rStep]
  cases l[k]? with
  | none => rfl
  | some m => simp only [h]; rw [if_neg (by simp)]
theorem rBodyG_long {l : List RMsg} {tick : Int} {k : Nat} {m : RMsg} (hm : l[k]? = some m) (hl : ¬ (rBodyG l tick k).1.length + 4 + m.b.length ≤ 1191) : rBodyG l tick (k + 1) = rBodyG l tick k := by
  show rStep l tick k (rBodyG l tick k) = _
  simp only [rStep, hm]
  rw [if_neg (fun h => hl h.2)]

set_option maxRecDepth 100000 in
set_option maxHeartbeats 8000000 in
theorem rFlush_any {w : World} {o : Own} {τ : Nat} {c : RCh} {v : RV} (h : RChIn w o τ τ c v) (hb : RBd c) (hf : c.e.Fit) (hpl : c.e.pend.length ≤ 256) (tick : Int) (ht : tick ≤ 9223372036854775807) (ht0 : 0 ≤ c.tick) :
    Calls Try.prog 21 #[.agg (rcells c v), .int .i64 tick] w (RFlushTo w o τ (rFlush c tick)) := by
  obtain ⟨P, hP⟩ : ∃ P, P = RFlushTo w o τ (rFlush c tick) := ⟨_, rfl⟩
  rw [← hP]
  have HP := Lib.hid hP
  clear hP
  have hI := h.begin_
  obtain ⟨oI, hoI⟩ : ∃ oI, oI = one01 o τ := ⟨_, rfl⟩
  rw [← hoI] at hI
  have hle : ∀ k, oI k ≤ 1 := fun k => by rw [hoI]; exact one01_le o τ k
  have hrs := RS.start 2 3 w oI (rcells c v) zero11
  have stI := ((Step.refl [] w oI).alloc (.cells (rcells c v) 32) 2).alloc (.cells zero11 32) 3
  have hch := hI.step stI (by simp) (by simp)
  have ho1 : ∀ k, ext (ext oI w.heap.size 2) (w.alloc (.cells (rcells c v) 32)).heap.size 3 k ≤ 3 := fun k => by
    unfold ext; have := hle k; split <;> (try split) <;> omega
  obtain ⟨tk, htk⟩ : ∃ tk, tk = c.tick := ⟨_, rfl⟩
  have HO1 := Lib.hid ho1
  clear ho1
  have HRS := Lib.hid hrs; have HCH := Lib.hid hch; have HB := Lib.hid hb; have HOI := Lib.hid hoI; have HLE := Lib.hid hle; have HT := Lib.hid ht; have HT0 := Lib.hid ht0; have HTK := Lib.hid htk
  have HFT := Lib.hid hf; have HPL := Lib.hid hpl
  clear hrs stI hch hb hoI hle h hI ht ht0 htk hf hpl
  go_enter Try.func21, Try.ntmps21
  go_upto_region 1 with fail
  have hrs := HRS.out; have hch := HCH.out; have ho1 := HO1.out
  clear HRS HCH HO1
  unfold zero11 at hrs hch
  generalize (w.alloc (.cells (rcells c v) 32)).alloc (.cells _ 32) = w1 at hrs hch ⊢
  generalize ext (ext oI _ 2) _ 3 = o1 at hrs hch ho1
  have HO1 := Lib.hid ho1
  clear ho1
  generalize w.heap.size = b at hrs ⊢
  obtain ⟨q0, q1, q2, q3, q4, q5, q6, q7, q8, q9, q10⟩ := box11 hrs.bb
  rw [← HTK.out] at q9
  have HRS := Lib.hid hrs; have HCH := Lib.hid hch
  clear hrs hch q0 q1 q2 q3 q4 q5 q6 q7 q8 q10
  by_cases hlt : tick < tk
  · have hd : decide (tick < tk) = true := decide_eq_true hlt
    go_wp2_with (first | (refine wpList_load_rc rfl (.tmp 2) rfl rfl HRS.out.bb ?_) | (refine wpList_store_rc rfl (.tmp 4) (.tmp 23) rfl rfl rfl HRS.out.bz rfl ?_))
    have hz := HRS.out.bz.setRow (rcells c v)
    have stz := step_setRow (W := w1) HRS.out.oz (rcells c v)
    generalize w1.setRow (b + 1) (rcells c v) = W9 at hz stz ⊢
    obtain ⟨r0, r1, r2, r3, r4, r5, r6, r7, r8, r9, r10⟩ := box11 hz
    refine bodyPost_ret (v := .tuple #[.agg (rcells c v), .slice none 0 0, .int .i64 2]) (by simp [results, Try.results21, go_sem, r0, r1, r2, r3, r4, r5, r6, r7, r8, r9, r10, rcells]) rfl ?_
    have hst := (HRS.out.st.mono (ts' := [2, 3, 4]) (by simp)).trans (stz.mono (ts' := [2, 3, 4]) (by simp))
    have e : rFlush c tick = (c, [], 2) := by unfold rFlush; rw [if_pos (by rw [← HTK.out]; exact hlt)]
    rw [HP.out, e]
    rw [HOI.out] at hst
    exact ⟨v, none, 0, rfl, hst.to_below (fun k _ => by have := one01_le o τ k; simp; omega), (HCH.out.step stz (by simp) (by simp)).fin hst (by decide) (by decide), Sl.nil_ _ _ _ _ _ _ (Nat.zero_le _), fun h => absurd h (Nat.lt_irrefl 0)⟩
  · have hd : decide (tick < tk) = false := decide_eq_false hlt
    have CC := Lib.hid (copied_rows HCH.out (by have := HB.out.out; omega) (by have := HB.out.box; omega) (fun m hm => by have := HB.out.ps m hm; omega) (fun j hj => by
      have := HO1.out j; omega))
    go_upto_region 4 with (first | (refine wpList_load_rc rfl (.tmp 2) rfl rfl HRS.out.bb ?_) | (go_at_call 44; refine CC.out.mono ?_; rintro e w3 ⟨v3, o3, rfl, st3, ch3⟩; have ST3 := Lib.hid st3; have CH3 := Lib.hid ch3; clear st3 ch3) | (refine wpList_store_rc rfl (.tmp 2) (.tmp 25) rfl rfl rfl (HRS.out.step ST3.out (by simp) (by decide) (by decide)).bb rfl ?_))
    have hrs3 := HRS.out.step ST3.out (by simp) (by decide) (by decide)
    have hrs4 := hrs3.setRowB (rcells c v3)
    have st4 := step_setRow (W := w3) hrs3.ob (rcells c v3)
    have ch4 := CH3.out.step st4 (by simp)
    generalize w3.setRow b (rcells c v3) = w4 at hrs4 ch4 ⊢
    have fz := hrs4.bb.frozen 9
    have z9 := hrs4.bb.cell 9
    simp [rcells] at z9
    have RS4 := Lib.hid hrs4; have CH4 := Lib.hid ch4
    clear hrs3 hrs4 st4 ch4 ST3 CH3 CC HRS HCH
    go_upto_region 5 with fail
    have st5 := RS4.out.setbStep 9 (.int .i64 tick)
    obtain ⟨c5, hc5⟩ : ∃ c5 : RCh, c5 = { c with tick := tick } := ⟨_, rfl⟩
    have hfs : FS w oI (w4.setCell ⟨b, 9, none⟩ (.int .i64 tick)) o3 b c5 v3 := by
      rw [hc5]
      exact ⟨RS4.out.setb 9 (.int .i64 tick) rfl, (CH4.out.step st5 (by simp)).ticked tick⟩
    obtain ⟨N, hN⟩ : ∃ N, N = c5.out.length := ⟨_, rfl⟩
    have hNb : N ≤ 1000000 := by rw [hN, hc5]; exact HB.out.out
    generalize w4.setCell ⟨b, 9, none⟩ (.int .i64 tick) = w5 at hfs ⊢
    have HFS := Lib.hid hfs; have HC5 := Lib.hid hc5; have HN := Lib.hid hN
    clear hfs hc5 hN st5 RS4 CH4 fz z9
    go_upto_region 8 with fail
    go_loopw [7, 8, 9] (fun sb sl i wx => ∃ (k : Nat) (BA : Option Addr) (bn bc : Nat) (LA : Option Addr) (ln lc : Nat), k ≤ N ∧ i = .int .i64 (k : Int) ∧ sb = .slice BA bn bc ∧ sl = .slice LA ln lc ∧ Hid (BodyAt w5 wx (rBodyG c5.out tick k).1 (rBodyG c5.out tick k).2 BA bn bc LA ln lc)) (fun _ _ i _ => N - (intOf i).toNat)
    case atStart => exact ⟨0, none, 0, 0, none, 0, 0, Nat.zero_le _, rfl, rfl, rfl, Lib.hid ⟨NS.refl _, Row.nil_ _ _ _ _ _, Row.nil_ _ _ _ _ _⟩⟩
    case round => as_aux_lemma =>
      obtain ⟨k, BA, bn, bc, LA, ln, lc, hk, rfl, rfl, rfl, HJ⟩ := hrel
      have hfs := HFS.out.step ((Step.refl [] w5 o3).below HJ.out.ns.fin 9) (by simp)
      have hlen := rBodyG_le c5.out tick k
      have hbn : bn ≤ 1191 := by have := HJ.out.b.len; simp at this; omega
      have hln : ln ≤ 1191 := by have h1 := HJ.out.l.len; simp at h1; omega
      obtain ⟨-, -, -, -, -, q5, -⟩ := box11 hfs.rs.bb
      rw [← HN.out] at q5
      have HF := Lib.hid hfs
      clear hfs hlen
      by_cases hkN : k < N
      ·
        have hkI : (k : Int) < (N : Int) := by omega
        have hk0 : (0 : Int) ≤ (k : Int) := by omega
        have hd2 : decide ((k : Int) < (N : Int)) = true := decide_eq_true hkI
        obtain ⟨m, hm⟩ : ∃ m, c5.out[k]? = some m := ⟨_, List.getElem?_eq_getElem (by rw [← HN.out]; exact hkN)⟩
        have hm4 : (c5.out.map RMsg.m4)[k]? = some m.m4 := by rw [List.getElem?_map, hm]; rfl
        obtain ⟨x, hx⟩ : ∃ x, v3.mvs[k]? = some x := ⟨_, List.getElem?_eq_getElem (by rw [HF.out.ch.ms.len, List.length_map, ← HN.out]; exact hkN)⟩
        have hin := HF.out.ch.ms.new k _ x (by rw [← HN.out]; exact hkN) hm4 hx
        obtain ⟨h, hA, -, hhl, m0, -⟩ := HF.out.row.cellG (show _ = some (.slice x.bA m.b.length x.bc) from (msCells_at hm4 hx 0 (by decide)).trans rfl) (by rw [← HN.out]; omega)
        rw [Nat.add_zero] at m0
        rw [hA] at q5
        obtain ⟨xl, hxl⟩ : ∃ xl, xl = m.b.length := ⟨_, rfl⟩
        rw [← hxl] at m0
        have HXS0 : Hid (Sl w5 (fun _ => 0) 0 1 x.bA xl x.bc (byts m.b)) := Lib.hid (by rw [hxl]; exact (HFS.out.ch.ms.new k _ x (by rw [← HN.out]; exact hkN) hm4 hx).b.plain)
        have hxb : xl ≤ 1024 := by
          have hm2 := hm
          rw [HC5.out] at hm2
          rw [hxl]; exact HB.out.bs m (List.mem_of_getElem? hm2)
        have CD := Lib.hid (rdue_any HF.out.ch.calm (by rw [← HN.out]; omega) hm tick (by have := HT0.out; have := HTK.out; omega) HT.out)
        have HM := Lib.hid hm; have HIN := Lib.hid hin; have HXL := Lib.hid hxl
        clear hm hm4 hx hin hA hxl
        cases hdue : rDue c5.out k tick with
        | false =>
          rw [hdue] at CD
          have HDU := Lib.hid hdue
          clear hdue
          go_wp2_with (first | (refine wpList_load_rc rfl (.tmp 2) rfl rfl HF.out.rs.bb ?_) | (go_at_call 49; refine CD.out.mono ?_; rintro e w2 ⟨rfl, hb⟩; have HB2 := Lib.hid hb; clear hb))
          have HJ2 : Hid (BodyAt w5 w2 (rBodyG c5.out tick (k + 1)).1 (rBodyG c5.out tick (k + 1)).2 BA bn bc LA ln lc) := Lib.hid (by rw [rBodyG_not HDU.out]; exact HJ.out.below HB2.out)
          go_roundw
          case rel => exact ⟨k + 1, _, _, _, _, _, _, by omega, by go_num, rfl, rfl, HJ2⟩
          case measure => simp [intOf]; omega
        | true =>
          rw [hdue] at CD
          have HDU := Lib.hid hdue
          clear hdue
          by_cases hfit : bn + 4 + xl ≤ 1191
          · have hfd : decide ((bn : Int) + 4 + (xl : Int) ≤ 1191) = true := by simp; omega
            go_upto_region 12 with (first | (refine wpList_load_rc rfl (.tmp 2) rfl rfl HF.out.rs.bb ?_) | (go_at_call 49; refine CD.out.mono ?_; rintro e w2 ⟨rfl, hb⟩; have HB2 := Lib.hid hb; clear hb))
            clear hfd m0 q5 hd2
            have hfr : Sl (w2.alloc (.cells #[.int .u8 ((k : Int) / 256 % 256), .int .u8 ((k : Int) % 256), .int .u8 ((xl : Int) / 256), .int .u8 ((xl : Int) % 256)] 5)) (fun _ => 0) 0 1 (some ⟨w2.heap.size, 0, none⟩) 4 4 (byts (hdrB k xl)) := by
              rw [hdr_byts, show (xl : Int) / 256 % 256 = (xl : Int) / 256 by omega]
              exact Sl.fresh w2 5 1 4 _ rfl (by decide)
            have HJ1 := Lib.hid (HJ.out.below HB2.out)
            have HFR := Lib.hid hfr
            clear hfr
            go_upto_region 13 with (at_builtin; refine wpList_append_new _ rfl (.tmp 54) (.tmp 67) _ rfl el_byte (HJ1.out.ns.alloc _) _ bn bc _ rfl (HJ1.out.b.alloc HJ1.out.ns.le' _) _ 4 4 _ rfl HFR.out (one_byts _) (by omega) (by unfold maxLen; omega) ?_; intro A3 c3 w3 hr3 hk3 _ hk3'; have HR3 := Lib.hid hr3; have HK3 := Lib.hid hk3; have HL3 := Lib.hid ((HJ1.out.l.alloc HJ1.out.ns.le' _).keep hk3' (by decide)); clear hr3 hk3 hk3')
            have HXS3 := Lib.hid (HXS0.out.below HK3.out.fin)
            have HBL : Hid (bn = (rBodyG c5.out tick k).1.length) := Lib.hid (by have := HJ1.out.b.len; simpa using this.symm)
            clear HFR HJ1 HJ HIN HF
            go_wp2_with (first
              | (at_builtin; refine wpList_append_new _ rfl (.tmp 69) (.tmp 70) _ rfl el_byte HK3.out _ (bn + 4) c3 _ rfl HR3.out _ xl x.bc _ rfl HXS3.out (one_byts _) (by omega) (by unfold maxLen; omega) ?_; intro A4 c4 w4 hr4 hk4 _ hk4'; have HR4 := Lib.hid hr4; have HK4 := Lib.hid hk4; have HL4 := Lib.hid (HL3.out.keep hk4' (by decide)); clear hr4 hk4 hk4')
              | (at_builtin; refine wpList_append_new _ rfl (.tmp 72) (.tmp 74) _ rfl el_int (HK4.out.alloc _) _ ln lc _ rfl (HL4.out.alloc HK4.out.le' _) _ 1 1 _ rfl (Sl.fresh w4 3 1 1 [.int .i64 (k : Int)] rfl (by decide)) (one_ints [(k : Int)]) (by omega) (by unfold maxLen; omega) ?_; intro A5 c5' w6 hr5 hk5 _ hk5'; have HR5 := Lib.hid hr5; have HK5 := Lib.hid hk5; have HB5 := Lib.hid ((HR4.out.alloc HK4.out.le' _).keep hk5' (by decide)); clear hr5 hk5 hk5'))
            have HJ6 : Hid (BodyAt w5 w6 (rBodyG c5.out tick (k + 1)).1 (rBodyG c5.out tick (k + 1)).2 A4 (bn + 4 + xl) c4 A5 (ln + 1) c5') := Lib.hid (by
              rw [rBodyG_due HM.out HDU.out (by rw [← HXL.out]; have hbl := HBL.out; omega), ← HXL.out]
              refine ⟨HK5.out, ?_, ?_⟩
              · simp only [byts, List.map_append]; exact HB5.out
              · rw [nats_append]; exact HR5.out)
            clear HB5 HR5 HK5 HR4 HK4 HL4 HR3 HK3 HL3 HXS3
            go_roundw
            case rel => exact ⟨k + 1, _, _, _, _, _, _, by omega, by go_num, rfl, rfl, HJ6⟩
            case measure => simp [intOf]; omega
          · have hfd : decide ((bn : Int) + 4 + (xl : Int) ≤ 1191) = false := by simp; omega
            go_wp2_with (first | (refine wpList_load_rc rfl (.tmp 2) rfl rfl HF.out.rs.bb ?_) | (go_at_call 49; refine CD.out.mono ?_; rintro e w2 ⟨rfl, hb⟩; have HB2 := Lib.hid hb; clear hb))
            have HJ2 : Hid (BodyAt w5 w2 (rBodyG c5.out tick (k + 1)).1 (rBodyG c5.out tick (k + 1)).2 BA bn bc LA ln lc) := Lib.hid (by
              have hbl := HJ.out.b.len
              rw [rBodyG_long HM.out (by rw [← HXL.out]; simp at hbl; omega)]; exact HJ.out.below HB2.out)
            go_roundw
            case rel => exact ⟨k + 1, _, _, _, _, _, _, by omega, by go_num, rfl, rfl, HJ2⟩
            case measure => simp [intOf]; omega
      · obtain rfl : k = N := by omega
        have hd2 : decide ((k : Int) < (k : Int)) = false := decide_eq_false (by omega)
        have HE5 : Hid (c5.e = c.e) := Lib.hid (by rw [HC5.out])
        have HLN : Hid (ln = (rBody c5.out tick).2.length) := Lib.hid (by unfold rBody; rw [← HN.out]; have := HJ.out.l.len; simpa using this.symm)
        by_cases hl0 : ln = 0
        · subst hl0
          obtain ⟨ow, how⟩ : ∃ ow, ow = c5.owes := ⟨_, rfl⟩
          have z10 : wr.cell? ⟨b, 10, none⟩ = some (.bool ow) := by rw [how]; exact (HF.out.rs.bb.cell 10).trans rfl
          have HOW := Lib.hid how
          clear how
          cases ow with
          | false =>
            go_wp2_with (first | (refine wpList_load_rc rfl (.tmp 2) rfl rfl HF.out.rs.bb ?_) | (refine wpList_store_rc rfl (.tmp 4) (.tmp 146) rfl rfl rfl HF.out.rs.bz rfl ?_))
            have hz := HF.out.rs.bz.setRow (rcells c5 v3)
            have stz := step_setRow (W := wr) HF.out.rs.oz (rcells c5 v3)
            generalize wr.setRow (b + 1) (rcells c5 v3) = W9 at hz stz ⊢
            obtain ⟨r0, r1, r2, r3, r4, r5, r6, r7, r8, r9, r10⟩ := box11 hz
            refine bodyPost_ret (v := .tuple #[.agg (rcells c5 v3), .slice none 0 0, .int .i64 0]) (by simp [results, Try.results21, go_sem, r0, r1, r2, r3, r4, r5, r6, r7, r8, r9, r10, rcells]) rfl ?_
            have hst := (HF.out.rs.st.mono (ts' := [2, 3, 4]) (by simp)).trans (stz.mono (ts' := [2, 3, 4]) (by simp))
            have e : rFlush c tick = (c5, [], 0) := by
              have h1 : 0 = (rBody c.out tick).2.length := by have h := HLN.out; rw [HC5.out] at h; exact h
              have h2 : false = c.owes := by have h := HOW.out; rw [HC5.out] at h; exact h
              have h3 : ¬ tick < c.tick := by have h := HTK.out; omega
              have h4 : ¬ 0 < (rBody c.out tick).2.length := by omega
              have h5 : ¬ c.owes = true := by rw [← h2]; decide
              rw [HC5.out]
              simp only [rFlush]
              rw [if_neg h3, if_neg h4, if_neg h5]
            rw [HP.out, e]
            rw [HOI.out] at hst
            exact ⟨v3, none, 0, rfl, hst.to_below (fun k _ => by have := one01_le o τ k; simp; omega), (HF.out.ch.step stz (by simp)).fin hst, Sl.nil_ _ _ _ _ _ _ (Nat.zero_le _), fun h => absurd h (Nat.lt_irrefl 0)⟩
          | true =>
            have f10 := HF.out.rs.bb.frozen 10
            go_upto_region 29 with fail
            obtain ⟨c6, hc6⟩ : ∃ c6 : RCh, c6 = { c5 with owes := false } := ⟨_, rfl⟩
            have hrs6 := HF.out.rs.setb (cb' := rcells c6 v3) 10 (.bool false) (by rw [hc6]; rfl)
            have hch6 : RChR (wr.setCell ⟨b, 10, none⟩ (.bool false)) (ext o3 w5.heap.size 9) c6 v3 := by rw [hc6]; exact (HF.out.ch.step (HF.out.rs.setbStep 10 (.bool false)) (by simp)).owing false
            generalize ext o3 w5.heap.size 9 = o6 at hrs6 hch6
            generalize wr.setCell ⟨b, 10, none⟩ (.bool false) = w6 at hrs6 hch6 ⊢
            obtain ⟨own, hown⟩ : ∃ x, x = c6.e.own := ⟨_, rfl⟩
            obtain ⟨oth, hoth⟩ : ∃ x, x = c6.e.other := ⟨_, rfl⟩
            obtain ⟨nxt, hnxt⟩ : ∃ x, x = c6.e.next := ⟨_, rfl⟩
            obtain ⟨pl, hpl⟩ : ∃ x, x = c6.e.pend.length := ⟨_, rfl⟩
            obtain ⟨gl, hgl⟩ : ∃ x, x = c6.e.got.length := ⟨_, rfl⟩
            obtain ⟨r0, r1, r2, r3, r4, -⟩ := box11 hrs6.bb
            rw [← hown] at r0; rw [← hoth] at r1; rw [← hnxt] at r2; rw [← hpl] at r3; rw [← hgl] at r4
            have hE6 : c6.e = c.e := by rw [hc6, HC5.out]
            have RS6 := Lib.hid hrs6; have CH6 := Lib.hid hch6; have HC6 := Lib.hid hc6; have HE6 := Lib.hid hE6
            by_cases hg : c6.e.got = []
            · have HON := Lib.hid (ROnly_none w6 c6.e hg v3.PA pl v3.pc v3.GA gl v3.gc o6 1 (by rw [hgl]; exact hch6.got))
              rw [show RefS.val c6.e v3.PA pl v3.pc v3.GA gl v3.gc = .agg #[.int .i64 own, .int .i64 oth, .int .i64 nxt, .slice v3.PA pl v3.pc, .slice v3.GA gl v3.gc] by rw [hown, hoth, hnxt]] at HON
              have HG := Lib.hid hg
              clear hown hoth hnxt hpl hgl hrs6 hch6 hc6 hE6 hg f10 z10
              go_upto_region 30 with (go_at_call 52; refine HON.out.mono ?_; rintro e w7 ⟨rfl, hb⟩; have HB7 := Lib.hid hb; clear hb)
              have st7 := (Step.refl [] w6 o6).below HB7.out 9
              have RS7 := Lib.hid (RS6.out.step st7 (by simp) (by decide) (by decide))
              have CH7 := Lib.hid (CH6.out.step st7 (by simp))
              clear st7
              go_wp2_with (first | (refine wpList_load_rc rfl (.tmp 2) rfl rfl RS7.out.bb ?_) | (refine wpList_store_rc rfl (.tmp 4) (.tmp 154) rfl rfl rfl RS7.out.bz rfl ?_))
              have hz := RS7.out.bz.setRow (rcells c6 v3)
              have stz := step_setRow (W := w7) RS7.out.oz (rcells c6 v3)
              obtain ⟨W9, hW9⟩ : ∃ W9, W9 = w7.setRow (b + 1) (rcells c6 v3) := ⟨_, rfl⟩
              rw [← hW9] at hz stz ⊢
              obtain ⟨r0, r1, r2, r3, r4, r5, r6, r7, r8, r9, r10⟩ := box11 hz
              refine bodyPost_ret (v := .tuple #[.agg (rcells c6 v3), .slice none 0 0, .int .i64 0]) (by simp [results, Try.results21, go_sem, r0, r1, r2, r3, r4, r5, r6, r7, r8, r9, r10, rcells]) rfl ?_
              have hst := (RS7.out.st.mono (ts' := [2, 3, 4]) (by simp)).trans (stz.mono (ts' := [2, 3, 4]) (by simp))
              have e : rFlush c tick = (c6, [], 0) := by
                have h1 : 0 = (rBody c.out tick).2.length := by have h := HLN.out; rw [HC5.out] at h; exact h
                have h2 : true = c.owes := by have h := HOW.out; rw [HC5.out] at h; exact h
                have h3 : ¬ tick < c.tick := by have h := HTK.out; omega
                have h4 : ¬ 0 < (rBody c.out tick).2.length := by omega
                have h5 : c.owes = true := h2.symm
                have h6 := HG.out
                rw [HE6.out] at h6
                rw [HC6.out, HC5.out]
                simp only [rFlush]
                rw [if_neg h3, if_neg h4, if_pos h5]
                simp only [h6, if_true]
              rw [HP.out, e]
              rw [HOI.out] at hst
              exact ⟨v3, none, 0, rfl, hst.to_below (fun k _ => by have := one01_le o τ k; simp; omega), (CH7.out.step stz (by simp)).fin hst, Sl.nil_ _ _ _ _ _ _ (Nat.zero_le _), fun h => absurd h (Nat.lt_irrefl 0)⟩
            · have HON := Lib.hid (r19Only_new w6 o6 1 c6.e (by rw [hE6]; exact HFT.out) hg v3.PA pl v3.pc v3.GA gl v3.gc (by rw [hgl]; exact hch6.got))
              rw [show RefS.val c6.e v3.PA pl v3.pc v3.GA gl v3.gc = .agg #[.int .i64 own, .int .i64 oth, .int .i64 nxt, .slice v3.PA pl v3.pc, .slice v3.GA gl v3.gc] by rw [hown, hoth, hnxt]] at HON
              obtain ⟨Y, hY⟩ : ∃ Y, Y = refBytes c6.e (-1) [] := ⟨_, rfl⟩
              rw [← hY] at HON
              rw [hE6] at hY
              obtain ⟨yn, hyn⟩ : ∃ k, k = Y.length := ⟨_, rfl⟩
              rw [← hyn] at HON
              have HG := Lib.hid hg; have HY := Lib.hid hY; have HYN := Lib.hid hyn
              have hsz : w.heap.size ≤ w6.heap.size := hrs6.st.size
              have HSZ := Lib.hid hsz
              clear hown hoth hnxt hpl hgl hrs6 hch6 hc6 hE6 hg f10 z10 hY hyn hsz
              go_upto_region 30 with (go_at_call 52; refine HON.out.mono ?_; rintro e w7 ⟨YA, yc, rfl, hb, hys, hyn⟩; have HB7 := Lib.hid hb; have HYS := Lib.hid hys; have HYW := Lib.hid hyn; clear hb hys hyn)
              have st7 := (Step.refl [] w6 o6).below HB7.out 9
              have RS7 := Lib.hid (RS6.out.step st7 (by simp) (by decide) (by decide))
              have CH7 := Lib.hid (CH6.out.step st7 (by simp))
              clear st7
              go_wp2_with (first | (refine wpList_load_rc rfl (.tmp 2) rfl rfl RS7.out.bb ?_) | (refine wpList_store_rc rfl (.tmp 4) (.tmp 154) rfl rfl rfl RS7.out.bz rfl ?_))
              have hz := RS7.out.bz.setRow (rcells c6 v3)
              have stz := step_setRow (W := w7) RS7.out.oz (rcells c6 v3)
              obtain ⟨W9, hW9⟩ : ∃ W9, W9 = w7.setRow (b + 1) (rcells c6 v3) := ⟨_, rfl⟩
              rw [← hW9] at hz stz ⊢
              obtain ⟨r0, r1, r2, r3, r4, r5, r6, r7, r8, r9, r10⟩ := box11 hz
              refine bodyPost_ret (v := .tuple #[.agg (rcells c6 v3), .slice YA yn yc, .int .i64 0]) (by simp [results, Try.results21, go_sem, r0, r1, r2, r3, r4, r5, r6, r7, r8, r9, r10, rcells]) rfl ?_
              have hst := (RS7.out.st.mono (ts' := [2, 3, 4]) (by simp)).trans (stz.mono (ts' := [2, 3, 4]) (by simp))
              have e : rFlush c tick = (c6, Y, 0) := by
                have h1 : 0 = (rBody c.out tick).2.length := by have h := HLN.out; rw [HC5.out] at h; exact h
                have h2 : true = c.owes := by have h := HOW.out; rw [HC5.out] at h; exact h
                have h3 : ¬ tick < c.tick := by have h := HTK.out; omega
                have h4 : ¬ 0 < (rBody c.out tick).2.length := by omega
                have h5 : c.owes = true := h2.symm
                have h6 := HG.out
                rw [HE6.out] at h6
                rw [HC6.out, HC5.out]
                simp only [rFlush]
                rw [if_neg h3, if_neg h4, if_pos h5]
                simp only [h6, if_false]; rw [HY.out]
              rw [HP.out, e]
              rw [HOI.out] at hst
              have hyb := ((HYS.out.tag HYW.out o6 9).step stz (by simp)).plain
              refine ⟨v3, YA, yc, ?_, hst.to_below (fun k _ => by have := one01_le o τ k; simp; omega), (CH7.out.step stz (by simp)).fin hst, ?_, fun _ ad ha => Nat.le_trans HSZ.out (HYW.out ad ha)⟩
              · show _ = Ending.returned (.tuple #[.agg (rcells c6 v3), .slice YA Y.length yc, .int .i64 0])
                rw [← HYN.out]
              · show Sl W9 (fun _ => 0) 0 1 YA Y.length yc (byts Y)
                rw [← HYN.out]; exact hyb
        · have hlp : 0 < ln := by omega
          have hlI : decide ((0 : Int) < (ln : Int)) = true := decide_eq_true (by omega)
          have hbl : 1 ≤ bn := by
            have h1 := rBodyG_le c5.out tick k
            have h2 := HJ.out.b.len; have h3 := HJ.out.l.len
            simp at h2 h3
            omega
          obtain ⟨own, hown⟩ : ∃ x, x = c5.e.own := ⟨_, rfl⟩
          obtain ⟨oth, hoth⟩ : ∃ x, x = c5.e.other := ⟨_, rfl⟩
          obtain ⟨nxt, hnxt⟩ : ∃ x, x = c5.e.next := ⟨_, rfl⟩
          obtain ⟨pl, hpl⟩ : ∃ x, x = c5.e.pend.length := ⟨_, rfl⟩
          obtain ⟨gl, hgl⟩ : ∃ x, x = c5.e.got.length := ⟨_, rfl⟩
          obtain ⟨r0, r1, r2, r3, r4, -⟩ := box11 HF.out.rs.bb
          rw [← hown] at r0; rw [← hoth] at r1; rw [← hnxt] at r2; rw [← hpl] at r3; rw [← hgl] at r4
          obtain ⟨X, hX⟩ : ∃ X, X = (rBody c5.out tick).1 := ⟨_, rfl⟩
          obtain ⟨Ls, hLs⟩ : ∃ Ls, Ls = (rBody c5.out tick).2 := ⟨_, rfl⟩
          have hJ : BodyAt w5 wr X Ls BA bn bc LA ln lc := by rw [hX, hLs]; unfold rBody; rw [← HN.out]; exact HJ.out
          have HON := Lib.hid (r19Make_main wr (ext o3 w5.heap.size 9) 1 9 c5.e (by rw [HE5.out]; exact HFT.out) v3.PA pl v3.pc v3.GA gl v3.gc (by rw [hpl]; exact HF.out.ch.pend) (by rw [hgl]; exact HF.out.ch.got) (by rw [HE5.out]; exact HPL.out) BA bn bc X ((hJ.b.tagged o3 9).sl) hbl hbn)
          rw [show RefS.val c5.e v3.PA pl v3.pc v3.GA gl v3.gc = .agg #[.int .i64 own, .int .i64 oth, .int .i64 nxt, .slice v3.PA pl v3.pc, .slice v3.GA gl v3.gc] by rw [hown, hoth, hnxt]] at HON
          have HJ1 := Lib.hid hJ; have HX := Lib.hid hX; have HLS := Lib.hid hLs
          have HOWN := Lib.hid hown; have HOTH := Lib.hid hoth; have HNXT := Lib.hid hnxt; have HGL := Lib.hid hgl
          clear hown hoth hnxt hpl hgl hX hLs hJ HJ hl0
          have HLSL := Lib.hid (HJ1.out.l.tagged o3 9).sl
          generalize ext o3 w5.heap.size 9 = oW at HF HLSL
          go_upto_region 17 with (go_at_call 50; refine HON.out.mono ?_; rintro e w7 ⟨PA7, pn7, pc7, YA, yc, QA, qc, rfl, hb, s1, s2, s3, l1, l2, l3⟩; have HB7 := Lib.hid hb; have HS1 := Lib.hid s1; have HS2 := Lib.hid s2; have HS3 := Lib.hid s3; have HL1 := Lib.hid l1; have HL2 := Lib.hid l2; have HL3 := Lib.hid l3; clear hb s1 s2 s3 l1 l2 l3)
          obtain ⟨e7, he7⟩ : ∃ e7, e7 = refMakeS c5.e := ⟨_, rfl⟩
          obtain ⟨Y, hY⟩ : ∃ Y, Y = refBytes c5.e c5.e.next X := ⟨_, rfl⟩
          obtain ⟨rs, hrs7⟩ : ∃ rs, rs = refLost c5.e := ⟨_, rfl⟩
          rw [← he7] at HS1 ⊢
          rw [← hY] at HS2 HL2 ⊢
          rw [← hrs7] at HS3 HL3 ⊢
          rw [← HNXT.out]
          have st7 := (Step.refl [] wr oW).below HB7.out 1
          have p7 := HS1.out.tag' HL1.out oW 1
          have y7 := HS2.out.tag' HL2.out oW 1
          have r7 := HS3.out.tag' HL3.out oW 1
          have f7 : FS w oI w7 (ext oW wr.heap.size 1) b c5 v3 := HF.out.step st7 (by simp)
          have l7 := HLSL.out.step st7 (by simp)
          generalize ext oW wr.heap.size 1 = o7 at p7 y7 r7 f7 l7
          have n8 := Blk.new w7 27 #[.int .i64 e7.own, .int .i64 e7.other, .int .i64 e7.next, .slice PA7 pn7 pc7, .slice v3.GA gl v3.gc]
          have st8 := (Step.refl [] w7 o7).alloc (.cells #[.int .i64 e7.own, .int .i64 e7.other, .int .i64 e7.next, .slice PA7 pn7 pc7, .slice v3.GA gl v3.gc] 27) 9
          have p8 := p7.step st8 (by simp); have y8 := y7.step st8 (by simp); have r8 := r7.step st8 (by simp); have l8 := l7.step st8 (by simp)
          have f8 : FS w oI _ _ b c5 v3 := f7.step st8 (by simp)
          generalize ext o7 w7.heap.size 9 = o8 at p8 y8 r8 l8 f8
          generalize w7.alloc _ = w8 at n8 p8 y8 r8 l8 f8 ⊢
          have g8 := n8.lt
          generalize w7.heap.size = g at n8 g8 ⊢
          obtain ⟨n0, n1, n2, n3, n4⟩ : w8.cell? ⟨g, 0, none⟩ = some (.int .i64 e7.own) ∧ w8.cell? ⟨g, 1, none⟩ = some (.int .i64 e7.other) ∧ w8.cell? ⟨g, 2, none⟩ = some (.int .i64 e7.next) ∧ w8.cell? ⟨g, 3, none⟩ = some (.slice PA7 pn7 pc7) ∧ w8.cell? ⟨g, 4, none⟩ = some (.slice v3.GA gl v3.gc) := ⟨n8.cell 0, n8.cell 1, n8.cell 2, n8.cell 3, n8.cell 4⟩
          obtain ⟨b0, b1, b2, b3, b4, -⟩ := box11 f8.rs.bb
          have fz0 := f8.rs.bb.frozen 0; have fz1 := f8.rs.bb.frozen 1; have fz2 := f8.rs.bb.frozen 2; have fz3 := f8.rs.bb.frozen 3; have fz4 := f8.rs.bb.frozen 4
          have hbl8 := f8.rs.bb.lt
          have HF8 := Lib.hid f8; have HP8 := Lib.hid p8; have HY8 := Lib.hid y8; have HR8 := Lib.hid r8; have HL8 := Lib.hid l8; have HE7 := Lib.hid he7; have HYY := Lib.hid hY; have HRS7 := Lib.hid hrs7
          have HSZ := Lib.hid (HF.out.rs.st.size)
          clear st7 st8 p7 y7 r7 f7 l7 n8 p8 y8 r8 l8 f8 he7 hY hrs7 HB7 HS1 HS2 HS3 HL1 HL3 HLSL HJ1 HON HF r0 r1 r2 r3 r4 g8
          go_upto_region 18 with fail
          obtain ⟨c7, hc7⟩ : ∃ c7 : RCh, c7 = { c5 with e := e7 } := ⟨_, rfl⟩
          obtain ⟨v7, hv7⟩ : ∃ v7 : RV, v7 = { v3 with PA := PA7, pc := pc7 } := ⟨_, rfl⟩
          have hpn7 : pn7 = e7.pend.length := by have := HP8.out.1; simp at this; omega
          have hgt7 : e7.got = c5.e.got := by rw [HE7.out]; rfl
          have s1 := HF8.out.rs.setb (cb' := (rcells c5 v3).setIfInBounds 0 (.int .i64 e7.own)) 0 (.int .i64 e7.own) rfl
          have s2 := s1.setb (cb' := ((rcells c5 v3).setIfInBounds 0 (.int .i64 e7.own)).setIfInBounds 1 (.int .i64 e7.other)) 1 (.int .i64 e7.other) rfl
          have s3 := s2.setb (cb' := (((rcells c5 v3).setIfInBounds 0 (.int .i64 e7.own)).setIfInBounds 1 (.int .i64 e7.other)).setIfInBounds 2 (.int .i64 e7.next)) 2 (.int .i64 e7.next) rfl
          have s4 := s3.setb (cb' := ((((rcells c5 v3).setIfInBounds 0 (.int .i64 e7.own)).setIfInBounds 1 (.int .i64 e7.other)).setIfInBounds 2 (.int .i64 e7.next)).setIfInBounds 3 (.slice PA7 pn7 pc7)) 3 (.slice PA7 pn7 pc7) rfl
          have s5 := s4.setb (cb' := rcells c7 v7) 4 (.slice v3.GA gl v3.gc) (by rw [hc7, hv7, HGL.out, hpn7]; simp [rcells, hgt7])
          have st9 := ((((HF8.out.rs.setbStep 0 (.int .i64 e7.own)).trans (s1.setbStep 1 (.int .i64 e7.other))).trans (s2.setbStep 2 (.int .i64 e7.next))).trans (s3.setbStep 3 (.slice PA7 pn7 pc7))).trans (s4.setbStep 4 (.slice v3.GA gl v3.gc))
          obtain ⟨W9, hW9⟩ : ∃ W9, W9 = ((((w8.setCell ⟨b, 0, none⟩ (.int .i64 e7.own)).setCell ⟨b, 1, none⟩ (.int .i64 e7.other)).setCell ⟨b, 2, none⟩ (.int .i64 e7.next)).setCell ⟨b, 3, none⟩ (.slice PA7 pn7 pc7)).setCell ⟨b, 4, none⟩ (.slice v3.GA gl v3.gc) := ⟨_, rfl⟩
          rw [← hW9] at s5 st9 ⊢
          have m9 : FM w oI W9 o8 b c7 v7 (c7.out.map RMsg.m4) v3.mvs := by
            refine ⟨s5, ?_, by rw [List.length_map], ?_, ?_, ?_, ?_⟩
            · rw [hc7, hv7]; exact HF8.out.row.step st9 (by simp)
            · rw [hc7]; exact HF8.out.ch.ms.step st9 (by simp)
            · have := HP8.out.step st9 (by simp)
              rw [hc7, hv7]; rw [hpn7] at this; exact this
            · have := HF8.out.ch.got.step st9 (by simp)
              rw [hc7, hv7]; show Sl _ _ _ _ _ e7.got.length _ (ints e7.got); rw [hgt7]; exact this
            · rw [hc7, hv7]; exact HF8.out.ch.box.step st9 (by simp)
          have y9 := HY8.out.step st9 (by simp); have r9 := HR8.out.step st9 (by simp); have l9 := HL8.out.step st9 (by simp)
          have hN7 : k = c7.out.length := by rw [hc7]; exact HN.out
          have HJ0 : Hid (∃ oo vs, FM w oI W9 oo b c7 v7 ((rMark nxt tick c7.out (Ls.take 0)).map RMsg.m4) vs ∧ Sl W9 oo 1 1 YA Y.length yc (byts Y) ∧ Sl W9 oo 1 2 QA rs.length qc (reps rs) ∧ Sl W9 oo 9 1 LA ln lc (nats Ls)) := Lib.hid ⟨o8, v3.mvs, m9, y9, r9, l9⟩
          have HC7 := Lib.hid hc7; have HN7 := Lib.hid hN7; have HLL : Hid (∀ n ∈ Ls, n < k) := Lib.hid (by rw [HLS.out]; unfold rBody; rw [← HN.out]; exact rBodyG_lt _ _ _)
          have HLE2 : Hid (Ls.length = ln) := Lib.hid (by have := HL8.out.1; simpa using this)
          clear hc7 hv7 hpn7 hgt7 s1 s2 s3 s4 s5 st9 hW9 m9 y9 r9 l9 hN7 HF8 HP8 HY8 HR8 HL8 n0 n1 n2 n3 n4 b0 b1 b2 b3 b4 fz0 fz1 fz2 fz3 fz4 hbl8
          have HLN1 : Hid (ln ≤ 1191) := Lib.hid hln
          go_upto_region 19 with fail
          go_loopw [16] (fun iv wx => ∃ i : Nat, i ≤ ln ∧ iv = .int .i64 i ∧ Hid (∃ oo vs, FM w oI wx oo b c7 v7 ((rMark nxt tick c7.out (Ls.take i)).map RMsg.m4) vs ∧ Sl wx oo 1 1 YA Y.length yc (byts Y) ∧ Sl wx oo 1 2 QA rs.length qc (reps rs) ∧ Sl wx oo 9 1 LA ln lc (nats Ls))) (fun iv _ => ln - (intOf iv).toNat)
          case atStart => exact ⟨0, Nat.zero_le _, rfl, HJ0⟩
          case round => as_aux_lemma =>
            clear HJ0
            obtain ⟨i, hi, rfl, HJ⟩ := hrel
            obtain ⟨oo, vs, hm, hy, hr, hl⟩ := HJ.out
            clear HJ
            by_cases hiln : i < ln
            · have hiI : (i : Int) < (ln : Int) := by omega
              have hi0 : (0 : Int) ≤ (i : Int) := by omega
              have hd3 : decide ((i : Int) < (ln : Int)) = true := decide_eq_true hiI
              obtain ⟨n, hn⟩ : ∃ n, Ls[i]? = some n := ⟨_, List.getElem?_eq_getElem (by have := HLE2.out; omega)⟩
              have hnk : n < k := HLL.out n (List.mem_of_getElem? hn)
              have hnI : (n : Int) < (k : Int) := by omega
              have hn0 : (0 : Int) ≤ (n : Int) := by omega
              obtain ⟨Lm, hLm⟩ : ∃ Lm, Lm = (rMark nxt tick c7.out (Ls.take i)).map RMsg.m4 := ⟨_, rfl⟩
              rw [← hLm] at hm
              have hnc : n < c7.out.length := by rw [← HN7.out]; exact hnk
              obtain ⟨m, hm4⟩ : ∃ m, Lm[n]? = some m := ⟨_, List.getElem?_eq_getElem (by rw [hm.len]; exact hnc)⟩
              obtain ⟨x, hx⟩ : ∃ x, vs[n]? = some x := ⟨_, List.getElem?_eq_getElem (by rw [hm.ms.len, hm.len]; exact hnc)⟩
              have hin := hm.ms.new n m x hnc hm4 hx
              have hpk : m.pks.length ≤ 1001191 ∧ m.tks.length ≤ 1001191 := by
                rw [hLm] at hm4
                obtain ⟨m0, hm0, rfl⟩ := List.mem_map.1 (List.mem_of_getElem? hm4)
                have h1 := rMark_ps nxt tick (Ls.take i) c7.out 1000000 (by rw [HC7.out, HC5.out]; exact HB.out.ps) m0 hm0
                have h2 := HLE2.out; have h3 := HLN1.out
                rw [List.length_take] at h1
                simp only [RMsg.m4, List.length_map]
                omega
              obtain ⟨gL, oL, hLA, hogL, hgL, hcL⟩ := hl.2.2.2 (by omega)
              have cL := hcL i (.int .i64 (n : Int)) (by simp [nats, ints, hn])
              subst hLA
              obtain ⟨h, hA, hoh, hhl, c2, f2⟩ := hm.row.cellG ((msCells_at hm4 hx 2 (by decide)).trans rfl) (by omega)
              obtain ⟨-, -, -, -, -, q5, -⟩ := box11 hm.rs.bb
              rw [hA, ← HN7.out] at q5
              obtain ⟨pn, hpn⟩ : ∃ pn, pn = m.pks.length := ⟨_, rfl⟩
              obtain ⟨tn, htn⟩ : ∃ tn, tn = m.tks.length := ⟨_, rfl⟩
              rw [← hpn, ← htn] at hpk
              rw [← hpn] at c2
              obtain ⟨hpk1, htk1⟩ := hpk
              have rp := hin.p
              rw [← hpn] at rp
              have HM := Lib.hid hm; have HY := Lib.hid hy; have HR := Lib.hid hr; have HL := Lib.hid hl; have HIN := Lib.hid hin; have HNN := Lib.hid hn; have HM4 := Lib.hid hm4; have HX := Lib.hid hx; have HLM := Lib.hid hLm; have HPN := Lib.hid hpn; have HTN := Lib.hid htn; have HA := Lib.hid hA; have HNC := Lib.hid hnc; have HGL0 := Lib.hid hogL; have HHL0 := Lib.hid hoh; have RP0 := Lib.hid rp; have LK0 := Lib.hid (And.intro q5 (And.intro cL c2)); have HFZ0 := Lib.hid f2
              clear hm hy hr hl hin hn hm4 hx hLm hpn htn hcL hA hnk hnc c2 q5 cL hogL hoh rp f2
              go_upto_region 21 with fail
              clear hd3
              obtain ⟨W0, hW0⟩ : ∃ W0, W0 = wr.drew := ⟨_, rfl⟩
              have stD : Step [] wr oo W0 oo := by rw [hW0]; exact (Step.refl [] _ _).drew
              have LK : Hid (W0.cell? ⟨b, 5, none⟩ = some (.slice (some ⟨h, 0, none⟩) k v7.oc) ∧ W0.cell? ⟨gL, oL + i, none⟩ = some (.int .i64 (n : Int)) ∧ W0.cell? ⟨h, n * 4 + 2, none⟩ = some (.slice x.pA pn x.pc)) := by rw [hW0]; exact LK0
              have HFZ : Hid (W0.frozen? ⟨h, n * 4 + 2, none⟩ = false) := by rw [hW0]; exact HFZ0
              have HM := Lib.hid (HM.out.step stD (by simp)); have HY := Lib.hid (HY.out.step stD (by simp)); have HR := Lib.hid (HR.out.step stD (by simp)); have HL := Lib.hid (HL.out.step stD (by simp)); have HIN := Lib.hid (HIN.out.step stD (by simp)); have RP := Lib.hid (RP0.out.step stD (by simp))
              have HGL : Hid (oo gL = 9 ∧ gL < W0.heap.size) := Lib.hid ⟨HGL0.out, by rw [hW0]; exact hgL⟩
              have HHL : Hid (oo h = 4 ∧ h < W0.heap.size) := Lib.hid ⟨HHL0.out, by rw [hW0]; exact hhl⟩
              clear stD LK0 HFZ0 RP0 HGL0 HHL0 hgL hhl
              refine wp_region_tillK (S0 := fun w' => w'.cell? ⟨b, 5, none⟩ = some (.slice (some ⟨h, 0, none⟩) k v7.oc) ∧ w'.cell? ⟨gL, oL + i, none⟩ = some (.int .i64 (n : Int)) ∧ w'.cell? ⟨h, n * 4 + 2, none⟩ = some (.slice x.pA pn x.pc)) (st := 20) (by kernel_rfl) (fun _ _ _ _ _ h => h) ?_
              intro KQ HQ HKN
              rw [← hW0]
              clear hW0
              refine wpAnyG_take (i := 0) (v := ?_) rfl (by kernel_rfl) (by kernel_rfl) (by kernel_rfl) (by kernel_rfl) (fun _ _ _ h => HQ.out _ _ _ _ _ h) (Or.inl ⟨by rfl, ?_⟩) (.inr LK.out) ?_
              rotate_left
              · intro w' _; go_simp; try with_reducible rfl
              simp only [Act.put, List.getElem_toArray, List.getElem_cons_zero, List.setIfInBounds_toArray, List.set_cons_zero, List.set_cons_succ]
              refine wpAnyG_load (i := 1) (v := ?_) rfl rfl (by kernel_rfl) (by kernel_rfl) (by kernel_rfl) (by kernel_rfl) (by kernel_rfl) (by kernel_rfl) (fun _ _ _ h => HQ.out _ _ _ _ _ h) (Or.inl ⟨by rfl, ?_⟩) LK.out ?_
              rotate_left
              · intro w' hSw; obtain ⟨s1, s2, s3⟩ := hSw; go_simp; try with_reducible rfl
              simp only [Act.put, List.getElem_toArray, List.getElem_cons_zero, List.getElem_cons_succ, List.setIfInBounds_toArray, List.set_cons_zero, List.set_cons_succ]
              refine wpAnyG_take (i := 2) (v := ?_) rfl (by kernel_rfl) (by kernel_rfl) (by kernel_rfl) (by kernel_rfl) (fun _ _ _ h => HQ.out _ _ _ _ _ h) (Or.inl ⟨by rfl, ?_⟩) (.inr LK.out) ?_
              rotate_left
              · intro w' _; go_simp; try with_reducible rfl
              simp only [Act.put, List.getElem_toArray, List.getElem_cons_zero, List.getElem_cons_succ, List.setIfInBounds_toArray, List.set_cons_zero, List.set_cons_succ]
              refine wpAnyG_take (i := 3) (v := ?_) rfl (by kernel_rfl) (by kernel_rfl) (by kernel_rfl) (by kernel_rfl) (fun _ _ _ h => HQ.out _ _ _ _ _ h) (Or.inl ⟨by rfl, ?_⟩) (.inr LK.out) ?_
              rotate_left
              · intro w' _; go_simp; try with_reducible rfl
              simp only [Act.put, List.getElem_toArray, List.getElem_cons_zero, List.getElem_cons_succ, List.setIfInBounds_toArray, List.set_cons_zero, List.set_cons_succ]
              refine wpAnyG_take (i := 4) (v := ?_) rfl (by kernel_rfl) (by kernel_rfl) (by kernel_rfl) (by kernel_rfl) (fun _ _ _ h => HQ.out _ _ _ _ _ h) (Or.inl ⟨by rfl, ?_⟩) (.inr LK.out) ?_
              rotate_left
              · intro w' _; go_simp; try with_reducible rfl
              simp only [Act.put, List.getElem_toArray, List.getElem_cons_zero, List.getElem_cons_succ, List.setIfInBounds_toArray, List.set_cons_zero, List.set_cons_succ]
              refine wpAnyG_load (i := 5) (v := ?_) rfl rfl (by kernel_rfl) (by kernel_rfl) (by kernel_rfl) (by kernel_rfl) (by kernel_rfl) (by kernel_rfl) (fun _ _ _ h => HQ.out _ _ _ _ _ h) (Or.inl ⟨by rfl, ?_⟩) LK.out ?_
              rotate_left
              · intro w' hSw; obtain ⟨s1, s2, s3⟩ := hSw; go_simp; try with_reducible rfl
              simp only [Act.put, List.getElem_toArray, List.getElem_cons_zero, List.getElem_cons_succ, List.setIfInBounds_toArray, List.set_cons_zero, List.set_cons_succ]
              refine wpAnyG_take (i := 6) (v := ?_) rfl (by kernel_rfl) (by kernel_rfl) (by kernel_rfl) (by kernel_rfl) (fun _ _ _ h => HQ.out _ _ _ _ _ h) (Or.inl ⟨by rfl, ?_⟩) (.inr LK.out) ?_
              rotate_left
              · intro w' _; go_simp; try with_reducible rfl
              simp only [Act.put, List.getElem_toArray, List.getElem_cons_zero, List.getElem_cons_succ, List.setIfInBounds_toArray, List.set_cons_zero, List.set_cons_succ]
              refine wpAnyG_load (i := 7) (v := ?_) rfl rfl (by kernel_rfl) (by kernel_rfl) (by kernel_rfl) (by kernel_rfl) (by kernel_rfl) (by kernel_rfl) (fun _ _ _ h => HQ.out _ _ _ _ _ h) (Or.inl ⟨by rfl, ?_⟩) LK.out ?_
              rotate_left
              · intro w' hSw; obtain ⟨s1, s2, s3⟩ := hSw; go_simp; try with_reducible rfl
              simp only [Act.put, List.getElem_toArray, List.getElem_cons_zero, List.getElem_cons_succ, List.setIfInBounds_toArray, List.set_cons_zero, List.set_cons_succ]
              refine wpAnyG_take (i := 8) (v := ?_) rfl (by kernel_rfl) (by kernel_rfl) (by kernel_rfl) (by kernel_rfl) (fun _ _ _ h => HQ.out _ _ _ _ _ h) (Or.inl ⟨by rfl, ?_⟩) (.inr LK.out) ?_
              rotate_left
              · intro w' _; go_simp; try with_reducible rfl
              simp only [Act.put, List.getElem_toArray, List.getElem_cons_zero, List.getElem_cons_succ, List.setIfInBounds_toArray, List.set_cons_zero, List.set_cons_succ]
              refine wpAnyG_take (i := 9) (v := ?_) rfl (by kernel_rfl) (by kernel_rfl) (by kernel_rfl) (by kernel_rfl) (fun _ _ _ h => HQ.out _ _ _ _ _ h) (Or.inl ⟨by rfl, ?_⟩) (.inr LK.out) ?_
              rotate_left
              · intro w' _; go_simp; try with_reducible rfl
              simp only [Act.put, List.getElem_toArray, List.getElem_cons_zero, List.getElem_cons_succ, List.setIfInBounds_toArray, List.set_cons_zero, List.set_cons_succ]
              refine wpAnyG_take (i := 10) (v := ?_) rfl (by kernel_rfl) (by kernel_rfl) (by kernel_rfl) (by kernel_rfl) (fun _ _ _ h => HQ.out _ _ _ _ _ h) (Or.inl ⟨by rfl, ?_⟩) (.inr LK.out) ?_
              rotate_left
              · intro w' _; go_simp; try with_reducible rfl
              simp only [Act.put, List.getElem_toArray, List.getElem_cons_zero, List.getElem_cons_succ, List.setIfInBounds_toArray, List.set_cons_zero, List.set_cons_succ]
              refine wpAnyG_load (i := 11) (v := ?_) rfl rfl (by kernel_rfl) (by kernel_rfl) (by kernel_rfl) (by kernel_rfl) (by kernel_rfl) (by kernel_rfl) (fun _ _ _ h => HQ.out _ _ _ _ _ h) (Or.inl ⟨by rfl, ?_⟩) LK.out ?_
              rotate_left
              · intro w' hSw; obtain ⟨s1, s2, s3⟩ := hSw; go_simp; try with_reducible rfl
              simp only [Act.put, List.getElem_toArray, List.getElem_cons_zero, List.getElem_cons_succ, List.setIfInBounds_toArray, List.set_cons_zero, List.set_cons_succ]
              refine wpAnyG_take (i := 12) (v := ?_) rfl (by kernel_rfl) (by kernel_rfl) (by kernel_rfl) (by kernel_rfl) (fun _ _ _ h => HQ.out _ _ _ _ _ h) (Or.inl ⟨by rfl, ?_⟩) (.inr LK.out) ?_
              rotate_left
              · intro w' _; go_simp; try with_reducible rfl
              simp only [Act.put, List.getElem_toArray, List.getElem_cons_zero, List.getElem_cons_succ, List.setIfInBounds_toArray, List.set_cons_zero, List.set_cons_succ]
              refine wpAnyG_take (i := 13) (v := ?_) rfl (by kernel_rfl) (by kernel_rfl) (by kernel_rfl) (by kernel_rfl) (fun _ _ _ h => HQ.out _ _ _ _ _ h) (Or.inl ⟨by rfl, ?_⟩) (.inr LK.out) ?_
              rotate_left
              · intro w' _; go_simp; try with_reducible rfl
              simp only [Act.put, List.getElem_toArray, List.getElem_cons_zero, List.getElem_cons_succ, List.setIfInBounds_toArray, List.set_cons_zero, List.set_cons_succ]
              refine wpAnyG_load (i := 14) (v := ?_) rfl rfl (by kernel_rfl) (by kernel_rfl) (by kernel_rfl) (by kernel_rfl) (by kernel_rfl) (by kernel_rfl) (fun _ _ _ h => HQ.out _ _ _ _ _ h) (Or.inl ⟨by rfl, ?_⟩) LK.out ?_
              rotate_left
              · intro w' hSw; obtain ⟨s1, s2, s3⟩ := hSw; go_simp; try with_reducible rfl
              simp only [Act.put, List.getElem_toArray, List.getElem_cons_zero, List.getElem_cons_succ, List.setIfInBounds_toArray, List.set_cons_zero, List.set_cons_succ]
              refine wpAnyG_take (i := 15) (v := ?_) rfl (by kernel_rfl) (by kernel_rfl) (by kernel_rfl) (by kernel_rfl) (fun _ _ _ h => HQ.out _ _ _ _ _ h) (Or.inl ⟨by rfl, ?_⟩) (.inr LK.out) ?_
              rotate_left
              · intro w' _; go_simp; try with_reducible rfl
              simp only [Act.put, List.getElem_toArray, List.getElem_cons_zero, List.getElem_cons_succ, List.setIfInBounds_toArray, List.set_cons_zero, List.set_cons_succ]
              have hS0 : Hid (∀ (w' : World) (o' : Own), Step [100 + 2 * n] W0 oo w' o' → w'.cell? ⟨b, 5, none⟩ = some (.slice (some ⟨h, 0, none⟩) k v7.oc) ∧ w'.cell? ⟨gL, oL + i, none⟩ = some (.int .i64 (n : Int)) ∧ w'.cell? ⟨h, n * 4 + 2, none⟩ = some (.slice x.pA pn x.pc)) := Lib.hid (fun w' o' hst =>
                ⟨(hst.cell HM.out.rs.bb.lt (by rw [HM.out.rs.ob]; simp; omega)).1.trans LK.out.1, (hst.cell (p := ⟨gL, oL + i, none⟩) HGL.out.2 (by rw [show oo gL = 9 from HGL.out.1]; simp; omega)).1.trans LK.out.2.1, (hst.cell (p := ⟨h, n * 4 + 2, none⟩) HHL.out.2 (by rw [show oo h = 4 from HHL.out.1]; simp; omega)).1.trans LK.out.2.2⟩)
              refine wpAnyG_ready (rs := [16]) (by kernel_rfl) (by simp) ?_
              refine AllReadyG.cons rfl (fun K hK => ?_) AllReadyG.nil
              go_simp
              have stA := (Step.refl [100 + 2 * n] W0 oo).alloc (.cells #[.int .i64 nxt] 3) 9
              have SLA := Lib.hid (Row.made (w := W0) oo 9 3 1 #[.int .i64 nxt] 1 rfl (by decide) 1 (Nat.le_refl _)).sl
              have RPA := Lib.hid (RP.out.step ((Step.refl [] W0 oo).alloc (.cells #[.int .i64 nxt] 3) 9) (by simp))
              have STA := Lib.hid stA
              refine hK.out _ _ (.inr (hS0.out _ _ stA)) ?_
              clear hK K stA
              generalize ext oo W0.heap.size 9 = oA at SLA RPA STA
              generalize W0.alloc _ = WA at SLA RPA STA ⊢
              refine wpAnyG_ready (rs := [17]) (by kernel_rfl) (by simp) ?_
              refine AllReadyG.cons rfl (fun K hK => ?_) AllReadyG.nil
              refine step_append_row rfl (.tmp 111) (.tmp 113) _ rfl el_int oA (100 + 2 * n) x.pA pn x.pc _ rfl RPA.out oA 9 _ 1 1 [.int .i64 nxt] rfl SLA.out (by simp [Value.oneCell']) (by omega) (by unfold maxLen; omega) ?_
              intro A5 c5 w5 hr5 hg5 hat5
              have st5 := STA.out.trans (Step.append RPA.out hg5 (100 + 2 * n))
              refine hK.out _ _ (.inr (hS0.out _ _ st5)) ?_
              clear hK K hat5 hg5
              have HR5 := Lib.hid hr5; have ST5 := Lib.hid st5
              clear hr5 st5 STA RPA SLA
              generalize ext oA WA.heap.size (100 + 2 * n) = o5 at HR5 ST5
              refine wpAnyG_ready (rs := [18]) (by kernel_rfl) (by simp) ?_
              refine AllReadyG.cons rfl (fun K hK => ?_) AllReadyG.nil
              go_simp
              refine hK.out _ _ (.inr (hS0.out _ _ ST5.out)) ?_
              clear hK K
              refine wpAnyG_ready (rs := [19]) (by kernel_rfl) (by simp) ?_
              refine AllReadyG.cons rfl (fun K hK => ?_) AllReadyG.nil
              go_simp
              refine hK.out _ _ (.inr (hS0.out _ _ ST5.out)) ?_
              clear hK K
              have z1 := (hS0.out _ _ ST5.out).2.2
              have z0 : w5.frozen? ⟨h, n * 4 + 2, none⟩ = false := ((ST5.out.cell (p := ⟨h, n * 4 + 2, none⟩) HHL.out.2 (by rw [show oo h = 4 from HHL.out.1]; simp; omega)).2).trans HFZ.out
              refine wpAnyG_ready (rs := [20]) (by kernel_rfl) (by simp) ?_
              refine AllReadyG.cons rfl (fun K hK => ?_) AllReadyG.nil
              go_simp
              refine hK.out _ _ (.inl rfl) ?_
              clear hK K
              refine wpAnyG_done (by kernel_rfl) (HKN.out _ _ ?_) _
              clear HKN HQ KQ
              clear z0 z1 hS0
              obtain ⟨m1, hm1⟩ : ∃ m1 : M4, m1 = { m with pks := m.pks ++ [nxt] } := ⟨_, rfl⟩
              obtain ⟨x1, hx1⟩ : ∃ x1 : MV, x1 = { x with pA := A5, pc := c5 } := ⟨_, rfl⟩
              have hin5 : MRow w5 o5 n m1 x1 := by
                rw [hm1, hx1]
                refine ⟨HIN.out.b.step ST5.out (by simp <;> omega), ?_, HIN.out.t.step ST5.out (by simp <;> omega)⟩
                have := HR5.out
                rw [HPN.out] at this
                simpa [ints] using this
              have hm5 := HM.out.push HLE.out HA.out HNC.out HM4.out HX.out (j := 2) (by decide) (m' := m1) (x' := x1) (u := .slice A5 (pn + 1) c5) (by rw [hm1, hx1, HPN.out]; simp [mCells]) ST5.out (.inl rfl) hin5
              have stS : Step [4] w5 o5 (w5.setCell ⟨h, n * 4 + 2, none⟩ (.slice A5 (pn + 1) c5)) o5 := (Step.refl [4] w5 o5).setCell (.inr (by show o5 h ∈ [4]; rw [ST5.out.own _ HHL.out.2, HHL.out.1]; simp)) _
              have hy5 := (HY.out.step ST5.out (by simp <;> omega)).step stS (by simp)
              have hr5 := (HR.out.step ST5.out (by simp <;> omega)).step stS (by simp)
              have hl5 := (HL.out.step ST5.out (by simp <;> omega)).step stS (by simp)
              have hin6 := hin5.step stS (by simp <;> omega)
              have hgl5 : o5 gL = 9 ∧ gL < (w5.setCell ⟨h, n * 4 + 2, none⟩ (.slice A5 (pn + 1) c5)).heap.size := ⟨(ST5.out.own _ HGL.out.2).trans HGL.out.1, Nat.lt_of_lt_of_le HGL.out.2 (Nat.le_trans ST5.out.size stS.size)⟩
              have hhl5 : o5 h = 4 ∧ h < (w5.setCell ⟨h, n * 4 + 2, none⟩ (.slice A5 (pn + 1) c5)).heap.size := ⟨(ST5.out.own _ HHL.out.2).trans HHL.out.1, Nat.lt_of_lt_of_le HHL.out.2 (Nat.le_trans ST5.out.size stS.size)⟩
              have cL5 : (w5.setCell ⟨h, n * 4 + 2, none⟩ (.slice A5 (pn + 1) c5)).cell? ⟨gL, oL + i, none⟩ = some (.int .i64 (n : Int)) :=
                (stS.cell (p := ⟨gL, oL + i, none⟩) (Nat.lt_of_lt_of_le HGL.out.2 ST5.out.size) (by show o5 gL ∉ [4]; rw [hgl5.1]; decide)).1.trans ((ST5.out.cell (p := ⟨gL, oL + i, none⟩) HGL.out.2 (by show oo gL ∉ _; rw [HGL.out.1]; simp; omega)).1.trans LK.out.2.1)
              have hlm1 : (Lm.set n m1)[n]? = some m1 := by rw [List.getElem?_set, if_pos rfl, if_pos (List.getElem?_eq_some_iff.1 HM4.out).1]
              have hlx1 : (vs.set n x1)[n]? = some x1 := by rw [List.getElem?_set, if_pos rfl, if_pos (List.getElem?_eq_some_iff.1 HX.out).1]
              have hbp1 : m1.b = m.b ∧ m1.done = m.done ∧ m1.pks = m.pks ++ [nxt] ∧ m1.tks = m.tks := by rw [hm1]; exact ⟨rfl, rfl, rfl, rfl⟩
              have htn1 : tn = m1.tks.length := by rw [hm1]; exact HTN.out
              clear hm1 hx1 hin5 stS HM HY HR HL HIN RP HGL HHL HR5 ST5 LK HFZ HPN HTN hpk1
              obtain ⟨W1, hW1⟩ : ∃ W1, W1 = w5.setCell ⟨h, n * 4 + 2, none⟩ (.slice A5 (pn + 1) c5) := ⟨_, rfl⟩
              rw [← hW1] at hm5 hy5 hr5 hl5 hin6 hgl5 hhl5 cL5 ⊢
              clear hW1
              obtain ⟨L1, hL1⟩ : ∃ L1, L1 = Lm.set n m1 := ⟨_, rfl⟩
              obtain ⟨vs1, hvs1⟩ : ∃ vs1, vs1 = vs.set n x1 := ⟨_, rfl⟩
              rw [← hL1] at hm5 hlm1
              rw [← hvs1] at hm5 hlx1
              obtain ⟨h', hA', -, -, c3, f3⟩ := hm5.row.cellG ((msCells_at hlm1 hlx1 3 (by decide)).trans rfl) (by have := HNC.out; omega)
              rw [HA.out] at hA'
              injection hA' with hA'; injection hA' with hA' _; subst hA'
              rw [← htn1] at c3
              obtain ⟨-, -, -, -, -, q5, -⟩ := box11 hm5.rs.bb
              rw [HA.out, ← HN7.out] at q5
              have rp := hin6.t
              rw [← htn1] at rp
              have HM := Lib.hid hm5; have HY := Lib.hid hy5; have HR := Lib.hid hr5; have HL := Lib.hid hl5; have HIN := Lib.hid hin6; have HM1 := Lib.hid hlm1; have HX1 := Lib.hid hlx1; have HBP := Lib.hid hbp1; have HTN := Lib.hid htn1; have HGL0 := Lib.hid hgl5; have HHL0 := Lib.hid hhl5; have RP0 := Lib.hid rp; have LK0 := Lib.hid (And.intro q5 (And.intro cL5 c3)); have HFZ0 := Lib.hid f3; have HL1 := Lib.hid hL1
              clear hm5 hy5 hr5 hl5 hin6 hlm1 hlx1 hbp1 htn1 hgl5 hhl5 rp q5 cL5 c3 f3 hL1 hvs1
              as_aux_lemma =>
                go_upto_region 22 with fail
                obtain ⟨WB, hW0⟩ : ∃ WB, WB = W1.drew := ⟨_, rfl⟩
                have stD : Step [] W1 o5 WB o5 := by rw [hW0]; exact (Step.refl [] _ _).drew
                have LK : Hid (WB.cell? ⟨b, 5, none⟩ = some (.slice (some ⟨h, 0, none⟩) k v7.oc) ∧ WB.cell? ⟨gL, oL + i, none⟩ = some (.int .i64 (n : Int)) ∧ WB.cell? ⟨h, n * 4 + 3, none⟩ = some (.slice x1.tA tn x1.tc)) := by rw [hW0]; exact LK0
                have HFZ : Hid (WB.frozen? ⟨h, n * 4 + 3, none⟩ = false) := by rw [hW0]; exact HFZ0
                have HM := Lib.hid (HM.out.step stD (by simp)); have HY := Lib.hid (HY.out.step stD (by simp)); have HR := Lib.hid (HR.out.step stD (by simp)); have HL := Lib.hid (HL.out.step stD (by simp)); have HIN := Lib.hid (HIN.out.step stD (by simp)); have RP := Lib.hid (RP0.out.step stD (by simp))
                have HGL : Hid (o5 gL = 9 ∧ gL < WB.heap.size) := Lib.hid ⟨HGL0.out.1, by rw [hW0]; exact HGL0.out.2⟩
                have HHL : Hid (o5 h = 4 ∧ h < WB.heap.size) := Lib.hid ⟨HHL0.out.1, by rw [hW0]; exact HHL0.out.2⟩
                clear stD LK0 HFZ0 RP0 HGL0 HHL0
                refine wp_region_tillK (S0 := fun w' => w'.cell? ⟨b, 5, none⟩ = some (.slice (some ⟨h, 0, none⟩) k v7.oc) ∧ w'.cell? ⟨gL, oL + i, none⟩ = some (.int .i64 (n : Int)) ∧ w'.cell? ⟨h, n * 4 + 3, none⟩ = some (.slice x1.tA tn x1.tc)) (st := 20) (by kernel_rfl) (fun _ _ _ _ _ h => h) ?_
                intro KQ HQ HKN
                rw [← hW0]
                clear hW0
                refine wpAnyG_take (i := 0) (v := ?_) rfl (by kernel_rfl) (by kernel_rfl) (by kernel_rfl) (by kernel_rfl) (fun _ _ _ h => HQ.out _ _ _ _ _ h) (Or.inl ⟨by rfl, ?_⟩) (.inr LK.out) ?_
                rotate_left
                · intro w' _; go_simp; try with_reducible rfl
                simp only [Act.put, List.getElem_toArray, List.getElem_cons_zero, List.setIfInBounds_toArray, List.set_cons_zero, List.set_cons_succ]
                refine wpAnyG_load (i := 1) (v := ?_) rfl rfl (by kernel_rfl) (by kernel_rfl) (by kernel_rfl) (by kernel_rfl) (by kernel_rfl) (by kernel_rfl) (fun _ _ _ h => HQ.out _ _ _ _ _ h) (Or.inl ⟨by rfl, ?_⟩) LK.out ?_
                rotate_left
                · intro w' hSw; obtain ⟨s1, s2, s3⟩ := hSw; go_simp; try with_reducible rfl
                simp only [Act.put, List.getElem_toArray, List.getElem_cons_zero, List.getElem_cons_succ, List.setIfInBounds_toArray, List.set_cons_zero, List.set_cons_succ]
                refine wpAnyG_take (i := 2) (v := ?_) rfl (by kernel_rfl) (by kernel_rfl) (by kernel_rfl) (by kernel_rfl) (fun _ _ _ h => HQ.out _ _ _ _ _ h) (Or.inl ⟨by rfl, ?_⟩) (.inr LK.out) ?_
                rotate_left
                · intro w' _; go_simp; try with_reducible rfl
                simp only [Act.put, List.getElem_toArray, List.getElem_cons_zero, List.getElem_cons_succ, List.setIfInBounds_toArray, List.set_cons_zero, List.set_cons_succ]
                refine wpAnyG_take (i := 3) (v := ?_) rfl (by kernel_rfl) (by kernel_rfl) (by kernel_rfl) (by kernel_rfl) (fun _ _ _ h => HQ.out _ _ _ _ _ h) (Or.inl ⟨by rfl, ?_⟩) (.inr LK.out) ?_
                rotate_left
                · intro w' _; go_simp; try with_reducible rfl
                simp only [Act.put, List.getElem_toArray, List.getElem_cons_zero, List.getElem_cons_succ, List.setIfInBounds_toArray, List.set_cons_zero, List.set_cons_succ]
                refine wpAnyG_take (i := 4) (v := ?_) rfl (by kernel_rfl) (by kernel_rfl) (by kernel_rfl) (by kernel_rfl) (fun _ _ _ h => HQ.out _ _ _ _ _ h) (Or.inl ⟨by rfl, ?_⟩) (.inr LK.out) ?_
                rotate_left
                · intro w' _; go_simp; try with_reducible rfl
                simp only [Act.put, List.getElem_toArray, List.getElem_cons_zero, List.getElem_cons_succ, List.setIfInBounds_toArray, List.set_cons_zero, List.set_cons_succ]
                refine wpAnyG_load (i := 5) (v := ?_) rfl rfl (by kernel_rfl) (by kernel_rfl) (by kernel_rfl) (by kernel_rfl) (by kernel_rfl) (by kernel_rfl) (fun _ _ _ h => HQ.out _ _ _ _ _ h) (Or.inl ⟨by rfl, ?_⟩) LK.out ?_
                rotate_left
                · intro w' hSw; obtain ⟨s1, s2, s3⟩ := hSw; go_simp; try with_reducible rfl
                simp only [Act.put, List.getElem_toArray, List.getElem_cons_zero, List.getElem_cons_succ, List.setIfInBounds_toArray, List.set_cons_zero, List.set_cons_succ]
                refine wpAnyG_take (i := 6) (v := ?_) rfl (by kernel_rfl) (by kernel_rfl) (by kernel_rfl) (by kernel_rfl) (fun _ _ _ h => HQ.out _ _ _ _ _ h) (Or.inl ⟨by rfl, ?_⟩) (.inr LK.out) ?_
                rotate_left
                · intro w' _; go_simp; try with_reducible rfl
                simp only [Act.put, List.getElem_toArray, List.getElem_cons_zero, List.getElem_cons_succ, List.setIfInBounds_toArray, List.set_cons_zero, List.set_cons_succ]
                refine wpAnyG_load (i := 7) (v := ?_) rfl rfl (by kernel_rfl) (by kernel_rfl) (by kernel_rfl) (by kernel_rfl) (by kernel_rfl) (by kernel_rfl) (fun _ _ _ h => HQ.out _ _ _ _ _ h) (Or.inl ⟨by rfl, ?_⟩) LK.out ?_
                rotate_left
                · intro w' hSw; obtain ⟨s1, s2, s3⟩ := hSw; go_simp; try with_reducible rfl
                simp only [Act.put, List.getElem_toArray, List.getElem_cons_zero, List.getElem_cons_succ, List.setIfInBounds_toArray, List.set_cons_zero, List.set_cons_succ]
                refine wpAnyG_take (i := 8) (v := ?_) rfl (by kernel_rfl) (by kernel_rfl) (by kernel_rfl) (by kernel_rfl) (fun _ _ _ h => HQ.out _ _ _ _ _ h) (Or.inl ⟨by rfl, ?_⟩) (.inr LK.out) ?_
                rotate_left
                · intro w' _; go_simp; try with_reducible rfl
                simp only [Act.put, List.getElem_toArray, List.getElem_cons_zero, List.getElem_cons_succ, List.setIfInBounds_toArray, List.set_cons_zero, List.set_cons_succ]
                refine wpAnyG_take (i := 9) (v := ?_) rfl (by kernel_rfl) (by kernel_rfl) (by kernel_rfl) (by kernel_rfl) (fun _ _ _ h => HQ.out _ _ _ _ _ h) (Or.inl ⟨by rfl, ?_⟩) (.inr LK.out) ?_
                rotate_left
                · intro w' _; go_simp; try with_reducible rfl
                simp only [Act.put, List.getElem_toArray, List.getElem_cons_zero, List.getElem_cons_succ, List.setIfInBounds_toArray, List.set_cons_zero, List.set_cons_succ]
                refine wpAnyG_take (i := 10) (v := ?_) rfl (by kernel_rfl) (by kernel_rfl) (by kernel_rfl) (by kernel_rfl) (fun _ _ _ h => HQ.out _ _ _ _ _ h) (Or.inl ⟨by rfl, ?_⟩) (.inr LK.out) ?_
                rotate_left
                · intro w' _; go_simp; try with_reducible rfl
                simp only [Act.put, List.getElem_toArray, List.getElem_cons_zero, List.getElem_cons_succ, List.setIfInBounds_toArray, List.set_cons_zero, List.set_cons_succ]
                refine wpAnyG_load (i := 11) (v := ?_) rfl rfl (by kernel_rfl) (by kernel_rfl) (by kernel_rfl) (by kernel_rfl) (by kernel_rfl) (by kernel_rfl) (fun _ _ _ h => HQ.out _ _ _ _ _ h) (Or.inl ⟨by rfl, ?_⟩) LK.out ?_
                rotate_left
                · intro w' hSw; obtain ⟨s1, s2, s3⟩ := hSw; go_simp; try with_reducible rfl
                simp only [Act.put, List.getElem_toArray, List.getElem_cons_zero, List.getElem_cons_succ, List.setIfInBounds_toArray, List.set_cons_zero, List.set_cons_succ]
                refine wpAnyG_take (i := 12) (v := ?_) rfl (by kernel_rfl) (by kernel_rfl) (by kernel_rfl) (by kernel_rfl) (fun _ _ _ h => HQ.out _ _ _ _ _ h) (Or.inl ⟨by rfl, ?_⟩) (.inr LK.out) ?_
                rotate_left
                · intro w' _; go_simp; try with_reducible rfl
                simp only [Act.put, List.getElem_toArray, List.getElem_cons_zero, List.getElem_cons_succ, List.setIfInBounds_toArray, List.set_cons_zero, List.set_cons_succ]
                refine wpAnyG_take (i := 13) (v := ?_) rfl (by kernel_rfl) (by kernel_rfl) (by kernel_rfl) (by kernel_rfl) (fun _ _ _ h => HQ.out _ _ _ _ _ h) (Or.inl ⟨by rfl, ?_⟩) (.inr LK.out) ?_
                rotate_left
                · intro w' _; go_simp; try with_reducible rfl
                simp only [Act.put, List.getElem_toArray, List.getElem_cons_zero, List.getElem_cons_succ, List.setIfInBounds_toArray, List.set_cons_zero, List.set_cons_succ]
                refine wpAnyG_load (i := 14) (v := ?_) rfl rfl (by kernel_rfl) (by kernel_rfl) (by kernel_rfl) (by kernel_rfl) (by kernel_rfl) (by kernel_rfl) (fun _ _ _ h => HQ.out _ _ _ _ _ h) (Or.inl ⟨by rfl, ?_⟩) LK.out ?_
                rotate_left
                · intro w' hSw; obtain ⟨s1, s2, s3⟩ := hSw; go_simp; try with_reducible rfl
                simp only [Act.put, List.getElem_toArray, List.getElem_cons_zero, List.getElem_cons_succ, List.setIfInBounds_toArray, List.set_cons_zero, List.set_cons_succ]
                refine wpAnyG_take (i := 15) (v := ?_) rfl (by kernel_rfl) (by kernel_rfl) (by kernel_rfl) (by kernel_rfl) (fun _ _ _ h => HQ.out _ _ _ _ _ h) (Or.inl ⟨by rfl, ?_⟩) (.inr LK.out) ?_
                rotate_left
                · intro w' _; go_simp; try with_reducible rfl
                simp only [Act.put, List.getElem_toArray, List.getElem_cons_zero, List.getElem_cons_succ, List.setIfInBounds_toArray, List.set_cons_zero, List.set_cons_succ]
                have hS0 : Hid (∀ (w' : World) (o' : Own), Step [101 + 2 * n] WB o5 w' o' → w'.cell? ⟨b, 5, none⟩ = some (.slice (some ⟨h, 0, none⟩) k v7.oc) ∧ w'.cell? ⟨gL, oL + i, none⟩ = some (.int .i64 (n : Int)) ∧ w'.cell? ⟨h, n * 4 + 3, none⟩ = some (.slice x1.tA tn x1.tc)) := Lib.hid (fun w' o' hst =>
                  ⟨(hst.cell HM.out.rs.bb.lt (by rw [HM.out.rs.ob]; simp; omega)).1.trans LK.out.1, (hst.cell (p := ⟨gL, oL + i, none⟩) HGL.out.2 (by rw [show o5 gL = 9 from HGL.out.1]; simp; omega)).1.trans LK.out.2.1, (hst.cell (p := ⟨h, n * 4 + 3, none⟩) HHL.out.2 (by rw [show o5 h = 4 from HHL.out.1]; simp; omega)).1.trans LK.out.2.2⟩)
                refine wpAnyG_ready (rs := [16]) (by kernel_rfl) (by simp) ?_
                refine AllReadyG.cons rfl (fun K hK => ?_) AllReadyG.nil
                go_simp
                have stA := (Step.refl [101 + 2 * n] WB o5).alloc (.cells #[.int .i64 tick] 3) 9
                have SLA := Lib.hid (Row.made (w := WB) o5 9 3 1 #[.int .i64 tick] 1 rfl (by decide) 1 (Nat.le_refl _)).sl
                have RPA := Lib.hid (RP.out.step ((Step.refl [] WB o5).alloc (.cells #[.int .i64 tick] 3) 9) (by simp))
                have STA := Lib.hid stA
                refine hK.out _ _ (.inr (hS0.out _ _ stA)) ?_
                clear hK K stA
                generalize ext o5 WB.heap.size 9 = oC at SLA RPA STA
                generalize WB.alloc _ = WC at SLA RPA STA ⊢
                refine wpAnyG_ready (rs := [17]) (by kernel_rfl) (by simp) ?_
                refine AllReadyG.cons rfl (fun K hK => ?_) AllReadyG.nil
                refine step_append_row rfl (.tmp 131) (.tmp 133) _ rfl el_int oC (101 + 2 * n) x1.tA tn x1.tc _ rfl RPA.out oC 9 _ 1 1 [.int .i64 tick] rfl SLA.out (by simp [Value.oneCell']) (by omega) (by unfold maxLen; omega) ?_
                intro A6 c6 w6 hr6 hg5 hat5
                have st6 := STA.out.trans (Step.append RPA.out hg5 (101 + 2 * n))
                refine hK.out _ _ (.inr (hS0.out _ _ st6)) ?_
                clear hK K hat5 hg5
                have HR6 := Lib.hid hr6; have ST6 := Lib.hid st6
                clear hr6 st6 STA RPA SLA
                generalize ext oC WC.heap.size (101 + 2 * n) = o6 at HR6 ST6
                refine wpAnyG_ready (rs := [18]) (by kernel_rfl) (by simp) ?_
                refine AllReadyG.cons rfl (fun K hK => ?_) AllReadyG.nil
                go_simp
                refine hK.out _ _ (.inr (hS0.out _ _ ST6.out)) ?_
                clear hK K
                refine wpAnyG_ready (rs := [19]) (by kernel_rfl) (by simp) ?_
                refine AllReadyG.cons rfl (fun K hK => ?_) AllReadyG.nil
                go_simp
                refine hK.out _ _ (.inr (hS0.out _ _ ST6.out)) ?_
                clear hK K
                have z1 := (hS0.out _ _ ST6.out).2.2
                have z0 : w6.frozen? ⟨h, n * 4 + 3, none⟩ = false := ((ST6.out.cell (p := ⟨h, n * 4 + 3, none⟩) HHL.out.2 (by rw [show o5 h = 4 from HHL.out.1]; simp; omega)).2).trans HFZ.out
                refine wpAnyG_ready (rs := [20]) (by kernel_rfl) (by simp) ?_
                refine AllReadyG.cons rfl (fun K hK => ?_) AllReadyG.nil
                go_simp
                refine hK.out _ _ (.inl rfl) ?_
                clear hK K
                refine wpAnyG_done (by kernel_rfl) (HKN.out _ _ ?_) _
                clear HKN HQ KQ
                clear z0 z1 hS0
                obtain ⟨m2, hm2⟩ : ∃ m2 : M4, m2 = { m1 with tks := m1.tks ++ [tick] } := ⟨_, rfl⟩
                obtain ⟨x2, hx2⟩ : ∃ x2 : MV, x2 = { x1 with tA := A6, tc := c6 } := ⟨_, rfl⟩
                have hin7 : MRow w6 o6 n m2 x2 := by
                  rw [hm2, hx2]
                  refine ⟨HIN.out.b.step ST6.out (by simp <;> omega), HIN.out.p.step ST6.out (by simp <;> omega), ?_⟩
                  have := HR6.out
                  rw [HTN.out] at this
                  simpa [ints] using this
                have hm7 := HM.out.push HLE.out HA.out HNC.out HM1.out HX1.out (j := 3) (by decide) (m' := m2) (x' := x2) (u := .slice A6 (tn + 1) c6) (by rw [hm2, hx2, HTN.out]; simp [mCells]) ST6.out (.inr rfl) hin7
                have stS : Step [4] w6 o6 (w6.setCell ⟨h, n * 4 + 3, none⟩ (.slice A6 (tn + 1) c6)) o6 := (Step.refl [4] w6 o6).setCell (.inr (by show o6 h ∈ [4]; rw [ST6.out.own _ HHL.out.2, HHL.out.1]; simp)) _
                have hy7 := (HY.out.step ST6.out (by simp <;> omega)).step stS (by simp)
                have hr7 := (HR.out.step ST6.out (by simp <;> omega)).step stS (by simp)
                have hl7 := (HL.out.step ST6.out (by simp <;> omega)).step stS (by simp)
                have hl1 : L1.set n m2 = (rMark nxt tick c7.out (Ls.take (i + 1))).map RMsg.m4 := by
                  have h4 := HM4.out
                  rw [HLM.out] at h4
                  obtain ⟨e1, e2, e3, e4⟩ := HBP.out
                  rw [rMark_m4 HNN.out h4, hm2, HL1.out, List.set_set, ← HLM.out, e1, e2, e3, e4]
                rw [hl1] at hm7
                have HJ2 := Lib.hid (show ∃ oo vs, FM w oI (w6.setCell ⟨h, n * 4 + 3, none⟩ (.slice A6 (tn + 1) c6)) oo b c7 v7 ((rMark nxt tick c7.out (Ls.take (i + 1))).map RMsg.m4) vs ∧ Sl (w6.setCell ⟨h, n * 4 + 3, none⟩ (.slice A6 (tn + 1) c6)) oo 1 1 YA Y.length yc (byts Y) ∧ Sl (w6.setCell ⟨h, n * 4 + 3, none⟩ (.slice A6 (tn + 1) c6)) oo 1 2 QA rs.length qc (reps rs) ∧ Sl (w6.setCell ⟨h, n * 4 + 3, none⟩ (.slice A6 (tn + 1) c6)) oo 9 1 (some ⟨gL, oL, none⟩) ln lc (nats Ls) from ⟨_, _, hm7, hy7, hr7, hl7⟩)
                clear hm2 hx2 hin7 hm7 stS hy7 hr7 hl7 hl1 HM HY HR HL HIN RP HGL HHL HR6 ST6 LK HFZ HTN HM1 HX1 HBP HL1 HM4 HX HLM HNN HNC HA
                generalize w6.setCell ⟨h, n * 4 + 3, none⟩ (.slice A6 (tn + 1) c6) = W9 at HJ2 ⊢
                go_wp2_with fail
                go_roundw
                case rel => exact ⟨i + 1, by omega, by go_num, HJ2⟩
                case measure => simp [intOf]; omega
            · obtain rfl : i = ln := by omega
              have hd3 : decide ((i : Int) < (i : Int)) = false := decide_eq_false (by omega)
              obtain ⟨c8, hc8⟩ : ∃ c8 : RCh, c8 = { c7 with out := rMark nxt tick c7.out Ls } := ⟨_, rfl⟩
              obtain ⟨v8, hv8⟩ : ∃ v8 : RV, v8 = { v7 with mvs := vs } := ⟨_, rfl⟩
              have htk : Ls.take i = Ls := List.take_of_length_le (by have := HLE2.out; omega)
              rw [htk] at hm
              have hlen8 : c8.out.length = c7.out.length := by rw [hc8]; exact rMark_len _ _ _ _
              have hcell : rcells c7 v7 = rcells c8 v8 := by rw [hc8, hv8]; simp [rcells, rMark_len]
              have hm1 := hm.calm HLE.out
              have rs1 := hm1.rs
              rw [hcell] at rs1
              have row1 : Row wr (calm4 oo) 4 107 4 v8.OA c8.out.length v8.oc (msCells (c8.out.map RMsg.m4) v8.mvs) := by
                rw [hlen8]; rw [hc8, hv8]; exact hm1.row
              have ms1 : MsIn wr (calm4 oo) 1 (c8.out.map RMsg.m4) v8.mvs := by rw [hc8, hv8]; exact hm1.ms
              have rest1 : RRest wr (calm4 oo) c8 v8 := by rw [hc8, hv8]; exact ⟨hm1.rest.pend, hm1.rest.got, hm1.rest.box⟩
              have y1 := hy.re (o' := calm4 oo) (τ' := 1) (fun k _ hk => calm4_low hk (by decide))
              have r1 := hr.re (o' := calm4 oo) (τ' := 1) (fun k _ hk => calm4_low hk (by decide))
              have hps : ∀ m ∈ c8.out, m.ps.length ≤ 1000000000 := by
                intro m hmm
                rw [hc8] at hmm
                have h1 := rMark_ps nxt tick Ls c7.out 1000000 (by rw [HC7.out, HC5.out]; exact HB.out.ps) m hmm
                have h2 := HLE2.out; have h3 := HLN1.out
                omega
              have CD := Lib.hid (decided_any row1 ms1 (by rw [hlen8, ← HN7.out]; omega) hps r1 (fun k hk => by have := calm4_le oo k; omega))
              generalize calm4 oo = o1' at rs1 row1 ms1 rest1 y1 r1 CD
              have RS1 := Lib.hid rs1; have RE1 := Lib.hid rest1; have HY1 := Lib.hid y1; have HC8 := Lib.hid hc8
              clear hm hy hr hl htk hc8 hv8 hcell hm1 rs1 row1 ms1 rest1 y1 r1 hps hlen8
              go_upto_region 24 with (first | (refine wpList_load_rc rfl (.tmp 2) rfl rfl RS1.out.bb ?_) | (go_at_call 51; refine CD.out.mono ?_; rintro e w3 ⟨vs3, o3', rfl, st3, row3, ms3⟩; have ST3 := Lib.hid st3; have ROW3 := Lib.hid row3; have MS3 := Lib.hid ms3; clear st3 row3 ms3) | (refine wpList_store_rc rfl (.tmp 2) (.tmp 139) rfl rfl rfl (RS1.out.step ST3.out (by simp) (by decide) (by decide)).bb rfl ?_))
              have rs3 := RS1.out.step ST3.out (by simp) (by decide) (by decide)
              have rs4 := rs3.setRowB (rcells c8 v8)
              have st4 := step_setRow (W := w3) rs3.ob (rcells c8 v8)
              have row4 := ROW3.out.step st4 (by simp)
              have ms4 := MS3.out.step st4 (by simp)
              have re4 := (RE1.out.step ST3.out (by simp)).step st4 (by simp)
              have y4 := (HY1.out.step ST3.out (by simp)).step st4 (by simp)
              generalize w3.setRow b (rcells c8 v8) = w4 at rs4 row4 ms4 re4 y4 ⊢
              have fz := rs4.bb.frozen 10
              have z10 := (rs4.bb.cell 10).trans (show _ = some (.bool c8.owes) from rfl)
              obtain ⟨c10, hc10⟩ : ∃ c10 : RCh, c10 = { c8 with out := rDec c8.out rs, owes := false } := ⟨_, rfl⟩
              obtain ⟨v10, hv10⟩ : ∃ v10 : RV, v10 = { v8 with mvs := vs3 } := ⟨_, rfl⟩
              have st5 := rs4.setbStep 10 (.bool false)
              have rs5 := rs4.setb (cb' := rcells c10 v10) 10 (.bool false) (by rw [hc10, hv10]; simp [rcells, rdec_len])
              have ch5 : RChIn (w4.setCell ⟨b, 10, none⟩ (.bool false)) o3' 4 1 c10 v10 := by
                rw [hc10, hv10]
                refine ⟨re4.pend.step st5 (by simp), re4.got.step st5 (by simp), ?_, ms4.step st5 (by simp), re4.box.step st5 (by simp)⟩
                show Sl _ _ _ _ _ (rDec c8.out rs).length _ _
                rw [rdec_len]; exact (row4.step st5 (by simp)).sl
              have y5 := y4.step st5 (by simp)
              have RS5 := Lib.hid rs5; have CH5 := Lib.hid ch5; have HY5 := Lib.hid y5; have HC10 := Lib.hid hc10
              clear rs3 rs4 st4 row4 ms4 re4 y4 hc10 hv10 st5 rs5 ch5 y5 RS1 RE1 HY1 ST3 ROW3 MS3 CD
              go_upto_region 25 with fail
              generalize w4.setCell ⟨b, 10, none⟩ (.bool false) = w5' at RS5 CH5 HY5 ⊢
              clear fz z10
              obtain ⟨yn, hyn⟩ : ∃ k, k = Y.length := ⟨_, rfl⟩
              rw [← hyn]
              have HYN := Lib.hid hyn
              clear hyn
              go_wp2_with (first | (refine wpList_load_rc rfl (.tmp 2) rfl rfl RS5.out.bb ?_) | (refine wpList_store_rc rfl (.tmp 4) (.tmp 141) rfl rfl rfl RS5.out.bz rfl ?_))
              have hz := RS5.out.bz.setRow (rcells c10 v10)
              have stz := step_setRow (W := w5') RS5.out.oz (rcells c10 v10)
              obtain ⟨W9, hW9⟩ : ∃ W9, W9 = w5'.setRow (b + 1) (rcells c10 v10) := ⟨_, rfl⟩
              rw [← hW9] at hz stz ⊢
              obtain ⟨r0, r1, r2, r3, r4, r5, r6, r7, r8, r9, r10⟩ := box11 hz
              refine bodyPost_ret (v := .tuple #[.agg (rcells c10 v10), .slice YA yn yc, .int .i64 0]) (by simp [results, Try.results21, go_sem, r0, r1, r2, r3, r4, r5, r6, r7, r8, r9, r10, rcells]) rfl ?_
              have hst := (RS5.out.st.mono (ts' := [2, 3, 4]) (by simp)).trans (stz.mono (ts' := [2, 3, 4]) (by simp))
              have e : rFlush c tick = (c10, Y, 0) := by
                have h3 : ¬ tick < c.tick := by have h := HTK.out; omega
                have h1 : 0 < (rBody c.out tick).2.length := by
                  have h := HLE2.out
                  rw [HLS.out, HC5.out] at h
                  dsimp only at h
                  omega
                rw [HC10.out, HC8.out, HC7.out, HE7.out, HRS7.out, HYY.out, HX.out, HLS.out, HNXT.out, HC5.out]
                simp only [rFlush]
                rw [if_neg h3, if_pos h1]
              rw [HP.out, e]
              rw [HOI.out] at hst
              refine ⟨v10, YA, yc, ?_, hst.to_below (fun k _ => by have := one01_le o τ k; simp; omega), (CH5.out.step stz (by simp) (by simp)).fin hst (by decide) (by decide), ?_, fun h ad ha => Nat.le_trans HSZ.out (HL2.out h ad ha)⟩
              · show _ = Ending.returned (.tuple #[.agg (rcells c10 v10), .slice YA Y.length yc, .int .i64 0])
                rw [← HYN.out]
              · exact (HY5.out.step stz (by simp)).plain
end Go.Proofs.Ythjjipcbpmdfnaa
