/-
  Joined: ChRP, ChRO.
-/
import Derived.Test.YthjjipcbpmdfnaaChRG
import Derived.Test.YthjjipcbpmdfnaaChRY
import Derived.Test.YthjjipcbpmdfnaaChK

/- For the reference's Receive: the box as it grows, plain and in memory. -/
namespace Go.Proofs.Ythjjipcbpmdfnaa
open Go.RowKit

/-! ### plain -/
theorem refTail_body (r : RefS) (hb ha : Bool) (number ack : Int) (mask : Nat) (body : List UInt8) : (refTail r hb ha number ack mask body).2.1.length ≤ body.length := by
  unfold refTail; (repeat' split) <;> simp
theorem refRecv_body (r : RefS) (xs : List UInt8) : (refRecv r xs).2.1.length ≤ xs.length := by
  unfold refRecv refRecv1 refRecv2
  (repeat' split) <;> first | exact Nat.zero_le _ | exact Nat.le_trans (refTail_body _ _ _ _ _ _ _) (by rw [List.length_drop]; omega)
theorem refTail_nx (r : RefS) (hb ha : Bool) (number ack : Int) (mask : Nat) (body : List UInt8) : (refTail r hb ha number ack mask body).1.next = r.next := by
  unfold refTail; (repeat' split) <;> rfl
theorem leftR_le (nm : List Int) (ha : Bool) (ack : Int) : ∀ l : List Int, (leftR nm ha ack l).length ≤ l.length
  | [] => Nat.le_refl _
  | n :: l => by
    have := leftR_le nm ha ack l
    unfold leftR
    (repeat' split) <;> simp only [List.length_cons] <;> omega
theorem rPad_len (box : List (Option (List UInt8))) (n : Nat) : (rPad box n).length = max box.length (n + 1) := by
  unfold rPad; rw [List.length_append, List.length_replicate]; omega
theorem rFill_len (box : List (Option (List UInt8))) (p : Nat × List UInt8) : (rFill box p).length = max box.length (p.1 + 1) := by
  unfold rFill; split
  · rw [List.length_set, rPad_len]
  · rw [rPad_len]
theorem rFills_len {N : Nat} : ∀ (l : List (Nat × List UInt8)) (box : List (Option (List UInt8))), (∀ p ∈ l, p.1 < N) → box.length ≤ N → (l.foldl rFill box).length ≤ N
  | [], _, _, h => h
  | p :: l, box, hl, h => rFills_len l (rFill box p) (fun q hq => hl q (by simp [hq])) (by rw [rFill_len]; have := hl p (by simp); omega)
theorem rFills_ge : ∀ (l : List (Nat × List UInt8)) (box : List (Option (List UInt8))), box.length ≤ (l.foldl rFill box).length
  | [], _ => Nat.le_refl _
  | p :: l, box => Nat.le_trans (by rw [rFill_len]; omega) (rFills_ge l (rFill box p))
theorem rFill_take {l : List (Nat × List UInt8)} {box : List (Option (List UInt8))} {i : Nat} {p : Nat × List UInt8} (h : l[i]? = some p) : (l.take (i + 1)).foldl rFill box = rFill ((l.take i).foldl rFill box) p := by
  obtain ⟨hk, he⟩ := List.getElem?_eq_some_iff.1 h
  rw [List.take_succ_eq_append_getElem hk, he, List.foldl_append]; rfl
theorem pad_succ (box : List (Option (List UInt8))) (j : Nat) : (box ++ List.replicate j none) ++ [none] = box ++ List.replicate (j + 1) none := by
  rw [List.append_assoc, List.replicate_succ']
theorem rOut_in {box : List (Option (List UInt8))} {k n : Nat} {b : List UInt8} (h : box[n]? = some (some b)) : rOut box (k + 1) n = b :: rOut box k (n + 1) := by
  simp only [rOut, h]
theorem rOut_no {box : List (Option (List UInt8))} {k n : Nat} (h : ∀ b, box[n]? ≠ some (some b)) : rOut box k n = [] := by
  cases k with
  | zero => rfl
  | succ k =>
    unfold rOut
    split
    · rename_i b hb; exact absurd hb (h b)
    · rfl

/-! ### in memory -/
/-- The inner parts of a Channel: σ 1 is memory that nobody writes. -/
structure RBP (W : World) (o : Own) (c : RCh) (v : RV) : Prop where
  pend : Sl W o 1 1 v.PA c.e.pend.length v.pc (ints c.e.pend)
  got : Sl W o 1 1 v.GA c.e.got.length v.gc (ints c.e.got)
  out : Sl W o 4 4 v.OA c.out.length v.oc (msCells (c.out.map RMsg.m4) v.mvs)
  ms : MsIn W o 1 (c.out.map RMsg.m4) v.mvs
/-- The box's two rows. -/
structure RBX (W : World) (o : Own) (box : List (Option (List UInt8))) (IA : Option Addr) (il ic : Nat) (ivs : List Value) (SA : Option Addr) (sl sc : Nat) (svs : List Value) : Prop where
  inn : Row W o 10 41 1 IA il ic ivs
  som : Row W o 11 4 1 SA sl sc svs
  one : ∀ u ∈ ivs, u.oneCell' = true
  el : ∀ (i : Nat) (b : List UInt8), box[i]? = some (some b) → ∃ (xA : Option Addr) (xc : Nat), ivs[i]? = some (.slice xA b.length xc) ∧ Sl W o 1 1 xA b.length xc (byts b)
/-- Receive behind its reports. -/
structure RB (w : World) (oI : Own) (W : World) (o : Own) (b : Nat) (cb : Array Value) (c : RCh) (v : RV) (box : List (Option (List UInt8))) (IA : Option Addr) (il ic : Nat) (ivs : List Value) (SA : Option Addr) (sl sc : Nat) (svs : List Value) : Prop where
  rs : RS 2 3 w oI W o b cb zero11
  par : RBP W o c v
  bx : RBX W o box IA il ic ivs SA sl sc svs
section
variable {w W W' : World} {oI o o' : Own} {b : Nat} {cb cb' : Array Value} {c : RCh} {v : RV} {box box' : List (Option (List UInt8))} {IA IA' SA SA' : Option Addr} {il ic sl sc il' ic' sl' sc' : Nat} {ivs ivs' svs svs' : List Value} {ts : List Nat}
theorem RBP.step (h : RBP W o c v) (k : Step ts W o W' o') (h1 : ∀ t ∈ ts, t ≠ 1 ∧ t ≠ 4) : RBP W' o' c v :=
  ⟨h.pend.step k (fun hm => (h1 _ hm).1 rfl), h.got.step k (fun hm => (h1 _ hm).1 rfl), h.out.step k (fun hm => (h1 _ hm).2 rfl), h.ms.step k (fun hm => (h1 _ hm).1 rfl)⟩
theorem RBX.step (h : RBX W o box IA il ic ivs SA sl sc svs) (k : Step ts W o W' o') (h1 : ∀ t ∈ ts, t ≠ 1 ∧ t ≠ 10 ∧ t ≠ 11) : RBX W' o' box IA il ic ivs SA sl sc svs :=
  ⟨h.inn.step k (fun hm => (h1 _ hm).2.1 rfl), h.som.step k (fun hm => (h1 _ hm).2.2 rfl), h.one, fun i b hb => by obtain ⟨xA, xc, q1, q2⟩ := h.el i b hb; exact ⟨xA, xc, q1, q2.step k (fun hm => (h1 _ hm).1 rfl)⟩⟩
theorem RB.step (h : RB w oI W o b cb c v box IA il ic ivs SA sl sc svs) (k : Step ts W o W' o') (hs : ∀ t ∈ ts, FarTag t ∧ ∀ j, j < w.heap.size → oI j ≠ t) : RB w oI W' o' b cb c v box IA il ic ivs SA sl sc svs :=
  ⟨h.rs.stepN k (fun t ht => ⟨.inr (hs t ht).2, (hs t ht).1.2.1, (hs t ht).1.2.2.1⟩), h.par.step k (fun t ht => by have := (hs t ht).1; unfold FarTag at this; omega), h.bx.step k (fun t ht => by have := (hs t ht).1; unfold FarTag at this; omega)⟩
/-- The row of bodies has grown or changed. -/
theorem RB.inn (h : RB w oI W o b cb c v box IA il ic ivs SA sl sc svs) (hle : ∀ k, oI k ≤ 1) (k : Step [10] W o W' o') (hr : Row W' o' 10 41 1 IA' il' ic' ivs') (h1 : ∀ u ∈ ivs', u.oneCell' = true)
    (he : ∀ (i : Nat) (b : List UInt8), box'[i]? = some (some b) → ∃ (xA : Option Addr) (xc : Nat), ivs'[i]? = some (.slice xA b.length xc) ∧ Sl W o 1 1 xA b.length xc (byts b)) : RB w oI W' o' b cb c v box' IA' il' ic' ivs' SA sl sc svs :=
  ⟨h.rs.stepN k (fun t ht => by simp at ht; subst ht; exact ⟨.inr fun j _ => by have := hle j; omega, by decide, by decide⟩), h.par.step k (by simp), ⟨hr, h.bx.som.step k (by simp), h1, fun i b hb => by obtain ⟨xA, xc, q1, q2⟩ := he i b hb; exact ⟨xA, xc, q1, q2.step k (by simp)⟩⟩⟩
/-- The row of marks has grown or changed. -/
theorem RB.som (h : RB w oI W o b cb c v box IA il ic ivs SA sl sc svs) (hle : ∀ k, oI k ≤ 1) (k : Step [11] W o W' o') (hr : Row W' o' 11 4 1 SA' sl' sc' svs') : RB w oI W' o' b cb c v box IA il ic ivs SA' sl' sc' svs' :=
  ⟨h.rs.stepN k (fun t ht => by simp at ht; subst ht; exact ⟨.inr fun j _ => by have := hle j; omega, by decide, by decide⟩), h.par.step k (by simp), ⟨h.bx.inn.step k (by simp), hr, h.bx.one, fun i b hb => by obtain ⟨xA, xc, q1, q2⟩ := h.bx.el i b hb; exact ⟨xA, xc, q1, q2.step k (by simp)⟩⟩⟩
theorem RB.setb (h : RB w oI W o b cb c v box IA il ic ivs SA sl sc svs) (i : Nat) (u : Value) (hc : cb.setIfInBounds i u = cb') : RB w oI (W.setCell ⟨b, i, none⟩ u) o b cb' c v box IA il ic ivs SA sl sc svs :=
  ⟨h.rs.setb i u hc, h.par.step (h.rs.setbStep i u) (by simp), h.bx.step (h.rs.setbStep i u) (by simp)⟩
end
abbrev svsOf (box : List (Option (List UInt8))) : List Value := box.map fun x => .bool x.isSome
/-- .. as a Channel. -/
theorem RB.chan {w W W' : World} {o o' : Own} {b τ : Nat} {c : RCh} {v : RV} {cb : Array Value} (h : RB w (one01 o τ) W o' b cb c v c.box v.IA c.box.length v.ic v.ivs v.SA c.box.length v.sc (svsOf c.box)) {o2 : Own} (k : Step [3] W o' W' o2) : RChIn W' (ext o w.heap.size τ) τ τ c v := by
  have hst := (h.rs.st.mono (ts' := [2, 3, 4]) (by simp)).trans (k.mono (ts' := [2, 3, 4]) (by simp))
  have hp := h.par.step k (by simp)
  have hx := h.bx.step k (by simp)
  have hb : BoxR W' o2 c.box v.IA v.ic v.ivs v.SA v.sc := ⟨hx.inn, hx.som, hx.one, hx.el⟩
  have hc : RChIn W' (calmR o2) 4 1 c v :=
    ⟨hp.pend.re (fun k _ hk => calmR_low hk (by decide)), hp.got.re (fun k _ hk => calmR_low hk (by decide)), hp.out.re (fun k _ hk => calmR_low hk (by decide)), hp.ms.re (fun k _ hk => calmR_low hk (by decide)), hb.calm⟩
  exact hc.fin (hst.calmR_ (fun k _ => by have := one01_le o τ k; omega)) (by decide) (by decide)
/-- A mark more. -/
theorem el_pad {W : World} {o : Own} {box : List (Option (List UInt8))} {ivs : List Value} (h : ∀ (i : Nat) (b : List UInt8), box[i]? = some (some b) → ∃ (xA : Option Addr) (xc : Nat), ivs[i]? = some (.slice xA b.length xc) ∧ Sl W o 1 1 xA b.length xc (byts b)) (hl : ivs.length = box.length) (u : Value) :
    ∀ (i : Nat) (b : List UInt8), (box ++ [none])[i]? = some (some b) → ∃ (xA : Option Addr) (xc : Nat), (ivs ++ [u])[i]? = some (.slice xA b.length xc) ∧ Sl W o 1 1 xA b.length xc (byts b) := by
  intro i b hb
  rcases Nat.lt_or_ge i box.length with hi | hi
  · rw [List.getElem?_append_left hi] at hb
    obtain ⟨xA, xc, q1, q2⟩ := h i b hb
    exact ⟨xA, xc, by rw [List.getElem?_append_left (by omega)]; exact q1, q2⟩
  · rw [List.getElem?_append_right hi] at hb
    cases hj : i - box.length with
    | zero => rw [hj] at hb; simp at hb
    | succ j => rw [hj] at hb; simp at hb
theorem el_set {W : World} {o : Own} {box : List (Option (List UInt8))} {ivs : List Value} (h : ∀ (i : Nat) (b : List UInt8), box[i]? = some (some b) → ∃ (xA : Option Addr) (xc : Nat), ivs[i]? = some (.slice xA b.length xc) ∧ Sl W o 1 1 xA b.length xc (byts b)) (hl : ivs.length = box.length) {n : Nat} {x : List UInt8} {XA : Option Addr} {yc : Nat} (hx : Sl W o 1 1 XA x.length yc (byts x)) :
    ∀ (i : Nat) (b : List UInt8), (box.set n (some x))[i]? = some (some b) → ∃ (xA : Option Addr) (xc : Nat), (ivs.set n (.slice XA x.length yc))[i]? = some (.slice xA b.length xc) ∧ Sl W o 1 1 xA b.length xc (byts b) := by
  intro i b hb
  rw [List.getElem?_set] at hb
  by_cases hn : n = i
  · subst hn
    rw [if_pos rfl] at hb
    split at hb
    · injection hb with hb; injection hb with hb; subst hb
      exact ⟨XA, yc, by rw [List.getElem?_set, if_pos rfl, if_pos (by omega)], hx⟩
    · cases hb
  · rw [if_neg hn] at hb
    obtain ⟨xA, zc, q1, q2⟩ := h i b hb
    exact ⟨xA, zc, by rw [List.getElem?_set, if_neg hn]; exact q1, q2⟩
theorem one_set {ivs : List Value} (h : ∀ u ∈ ivs, u.oneCell' = true) (n : Nat) {u : Value} (hu : u.oneCell' = true) : ∀ x ∈ ivs.set n u, x.oneCell' = true := by
  intro x hx
  rcases List.mem_or_eq_of_mem_set hx with hx | rfl
  · exact h x hx
  · exact hu
theorem one_snoc {ivs : List Value} (h : ∀ u ∈ ivs, u.oneCell' = true) {u : Value} (hu : u.oneCell' = true) : ∀ x ∈ ivs ++ [u], x.oneCell' = true := by
  intro x hx
  rcases List.mem_append.1 hx with hx | hx
  · exact h x hx
  · rw [List.mem_singleton.1 hx]; exact hu
end Go.Proofs.Ythjjipcbpmdfnaa

/- WALK of marchesref20.Parse (turned from ChK's parse). -/
namespace Go.Proofs.Ythjjipcbpmdfnaa
open Go.RowKit

abbrev incNums (l : List IncV) : List Value := nats (l.map IncV.n)
abbrev incMsgs (l : List IncV) : List Value := l.map fun e => .slice e.A e.ln e.c
theorem one_incMsgs (l : List IncV) : ∀ u ∈ incMsgs l, u.oneCell' = true := by
  intro u hu
  obtain ⟨e, -, rfl⟩ := List.mem_map.1 hu; rfl
/-- The state of the loop in the reference's Parse. -/
structure RParseAt (w W : World) (o : Own) (τb : Nat) (es : List IncV) (NA : Option Addr) (nn nc : Nat) (MA : Option Addr) (mn mc : Nat) : Prop where
  ns : NS w.heap.size w W
  num : NRow w.heap.size W 3 1 NA nn nc (incNums es)
  msg : NRow w.heap.size W 41 1 MA mn mc (incMsgs es)
  bs : ∀ e ∈ es, Sl w o τb 1 e.A e.ln e.c (byts e.b) ∧ e.ln = e.b.length
theorem RParseAt.drewN {w W : World} {o : Own} {τb : Nat} {es : List IncV} {NA MA : Option Addr} {nn nc mn mc : Nat} (h : RParseAt w W o τb es NA nn nc MA mn mc) (q : Nat) : RParseAt w (W.drewN q) o τb es NA nn nc MA mn mc := ⟨h.ns.drewN q, h.num, h.msg, h.bs⟩
def RParseTo (w : World) (o : Own) (τb next : Nat) (xs : List UInt8) (e : Ending) (w' : World) : Prop :=
  (parseP' next xs = none ∧ e = .returned (.tuple #[.slice none 0 0, .slice none 0 0, .bool false]) ∧ Below w.heap.size w w') ∨
  (∃ es NA nn nc MA mn mc, parseP' next xs = some (es.map IncV.pair) ∧ e = .returned (.tuple #[.slice NA nn nc, .slice MA mn mc, .bool true]) ∧ RParseAt w w' o τb es NA nn nc MA mn mc)

set_option maxRecDepth 100000 in
set_option maxHeartbeats 4000000 in
theorem rParse_any {w : World} {o : Own} (next : Nat) (hnx : next ≤ 1000000000000) (τb : Nat) (A : Option Addr) (n c : Nat) (xs : List UInt8) (hS : Sl w o τb 1 A n c (byts xs)) (hn : n ≤ 1000000) :
    Calls Try.prog 56 #[.int .i64 next, .slice A n c] w (RParseTo w o τb next xs) := by
  have HS := Lib.hid hS
  have hxl : n = xs.length := by have := hS.1; simp at this; omega
  have HXL := Lib.hid hxl
  clear hS hxl
  obtain ⟨P, hP⟩ : ∃ P, P = RParseTo w o τb next xs := ⟨_, rfl⟩
  rw [← hP]
  have HP := Lib.hid hP; clear hP
  go_enter Try.func56, Try.ntmps56
  go_wp2_with fail
  go_loopw [7, 8, 9] (fun s1 s2 s3 wr => ∃ (p : Nat) (es : List IncV) (NA : Option Addr) (nn nc : Nat) (MA : Option Addr) (mn mc : Nat), s1 = .slice NA nn nc ∧ s2 = .slice MA mn mc ∧ s3 = .int .i64 p ∧ p ≤ n ∧ nn * 4 ≤ p ∧ mn * 4 ≤ p ∧ Hid (RParseAt w wr o τb es NA nn nc MA mn mc) ∧ Hid (parseP' next xs = (parseP' next (xs.drop p)).map fun r => es.map IncV.pair ++ r)) (fun _ _ s3 _ => n - (intOf s3).toNat)
  case atStart => exact ⟨0, [], none, 0, 0, none, 0, 0, rfl, rfl, rfl, Nat.zero_le _, Nat.zero_le _, Nat.zero_le _, Lib.hid ⟨NS.refl _, Row.nil_ _ _ _ _ _, Row.nil_ _ _ _ _ _, by simp⟩, Lib.hid (by simp)⟩
  case round => as_aux_lemma =>
    obtain ⟨p, es, NA, nn, nc, MA, mn, mc, rfl, rfl, rfl, hp, hnn4, hmn4, HA, HE⟩ := hrel
    rcases Nat.eq_or_lt_of_le hp with hz | hz
    · subst hz
      have HE2 : Hid (parseP' next xs = some (es.map IncV.pair)) := Lib.hid (by rw [HE.out, List.drop_of_length_le (by rw [← HXL.out]; exact Nat.le_refl _)]; simp [parseP', parseC])
      have hd0 : decide ((p : Int) < (p : Int)) = false := decide_eq_false (by omega)
      go_wp2_with fail
      refine bodyPost_ret (v := .tuple #[.slice NA nn nc, .slice MA mn mc, .bool true]) (by simp [results, Try.results56, go_sem]) rfl ?_
      rw [HP.out]
      exact .inr ⟨es, NA, nn, nc, MA, mn, mc, HE2.out, rfl, HA.out⟩
    · have hd0 : decide ((p : Int) < (n : Int)) = true := decide_eq_true (by omega)
      rcases Nat.lt_or_ge n (p + 4) with h4 | h4
      · have HE2 : Hid (parseP' next xs = none) := Lib.hid (by
          have hxl := HXL.out
          rw [HE.out, parse_short (by intro e; have := congrArg List.length e; rw [List.length_drop] at this; simp at this; omega) (by rw [List.length_drop]; omega)]; rfl)
        have hd4 : decide ((n : Int) < (p : Int) + 4) = true := by simp; omega
        go_wp2_with fail
        refine bodyPost_ret (v := .tuple #[.slice none 0 0, .slice none 0 0, .bool false]) (by simp [results, Try.results56, go_sem]) rfl ?_
        rw [HP.out]
        exact .inl ⟨HE2.out, rfl, HA.out.ns.fin⟩
      · have hd4 : decide ((n : Int) < (p : Int) + 4) = false := by simp; omega
        obtain ⟨ys, hys⟩ : ∃ ys, ys = xs.drop p := ⟨_, rfl⟩
        have hyl : ys.length = n - p := by rw [hys, List.length_drop, HXL.out]
        rw [← hys] at HE
        obtain ⟨g, off, rfl, -, hg, hcl⟩ := HS.out.2.2.2 (by omega)
        have hcell : ∀ j u, (byts ys)[j]? = some u → wr.cell? ⟨g, off + (p + j), none⟩ = some u := fun j u hj => (HA.out.ns.fin.cell (p := ⟨g, off + (p + j), none⟩) hg).trans (hcl (p + j) u (by
          rw [hys] at hj
          simpa [byts, List.getElem?_drop] using hj))
        have HYS := Lib.hid hys
        clear hys
        obtain ⟨x0, x1, x2, x3, r, rfl⟩ := four_bytes (show 4 ≤ ys.length by omega)
        have u0 := hcell 0 _ rfl; have u1 := hcell 1 _ rfl; have u2 := hcell 2 _ rfl; have u3 := hcell 3 _ rfl
        rw [Nat.add_zero] at u0
        have i0 : (p : Int) < (n : Int) := by omega
        have i1 : (p : Int) + 1 < (n : Int) := by omega
        have i2 : (p : Int) + 2 < (n : Int) := by omega
        have i3 : (p : Int) + 3 < (n : Int) := by omega
        have HYL := Lib.hid hyl
        have HCL := Lib.hid hcell; have HG := Lib.hid hg
        clear hcell hcl hyl hg
        have b0 := x0.toNat_lt; have b1 := x1.toNat_lt; have b2 := x2.toNat_lt; have b3 := x3.toNat_lt
        obtain ⟨rest, hrest⟩ : ∃ rest : Int, rest = (x0.toNat : Int) * 256 + (x1.toNat : Int) := ⟨_, rfl⟩
        have hrb : rest = ((beNum ((x0 :: x1 :: x2 :: x3 :: r).take 2) : Nat) : Int) := by rw [hrest]; simp [beNum]
        have HNU := Lib.hid (fun W => (rNumber_any W next rest (by omega) (by omega) (by omega) (by omega)).mono (fun e w' (h : _ ∧ W = w') => (⟨h.1, h.2.symm⟩ : e = .returned (.int .i64 (near next rest)) ∧ w' = W)))
        obtain ⟨nu, hnu⟩ : ∃ nu, nu = near (next : Int) rest := ⟨_, rfl⟩
        rw [← hnu] at HNU
        have hnear := near_bd (next : Int) rest
        rw [← hnu] at hnear
        obtain ⟨hnr0, hnr1⟩ := hnear
        have HNN : Hid (nu = near (next : Int) (beNum ((x0 :: x1 :: x2 :: x3 :: r).take 2) : Int)) := Lib.hid (by rw [hnu, hrb])
        clear hnu hrb
        have e0 : IntKind.i64.wrap (x0.toNat : Int) = x0.toNat := IntWalk.i64_in _ (by omega)
        have e1 : IntKind.i64.wrap (x1.toNat : Int) = x1.toNat := IntWalk.i64_in _ (by omega)
        have e2 : IntKind.i64.wrap (x2.toNat : Int) = x2.toNat := IntWalk.i64_in _ (by omega)
        have e3 : IntKind.i64.wrap (x3.toNat : Int) = x3.toNat := IntWalk.i64_in _ (by omega)
        have e4 : IntKind.i64.wrap ((x0.toNat : Int) * 256) = (x0.toNat : Int) * 256 := IntWalk.i64_in _ (by omega)
        have e5 : IntKind.i64.wrap ((x2.toNat : Int) * 256) = (x2.toNat : Int) * 256 := IntWalk.i64_in _ (by omega)
        have e6 : IntKind.i64.wrap ((x0.toNat : Int) * 256 + (x1.toNat : Int)) = rest := (IntWalk.i64_in _ (by omega)).trans hrest.symm
        have f1 : IntKind.i64.wrap ((p : Int) + 1) = (p : Int) + 1 := IntWalk.i64_in _ (by omega)
        have f2 : IntKind.i64.wrap ((p : Int) + 2) = (p : Int) + 2 := IntWalk.i64_in _ (by omega)
        have f3 : IntKind.i64.wrap ((p : Int) + 3) = (p : Int) + 3 := IntWalk.i64_in _ (by omega)
        have HREST := Lib.hid hrest
        clear hrest
        go_wp2_with fail
        go_quiet ((go_at_call 74; with_reducible exact Calls.quiet_of_same (HNU.out _)))
        have HA1 := Lib.hid (HA.out.drewN nq)
        generalize wr.drewN nq = w1 at HA1 ⊢
        clear HA u0 u1 u2 u3 HNU e0 e1 e4 e6 f1
        have hcell : ∀ j u, (byts (x0 :: x1 :: x2 :: x3 :: r))[j]? = some u → w1.cell? ⟨g, off + (p + j), none⟩ = some u := fun j u hj => (HA1.out.ns.fin.cell (p := ⟨g, off + (p + j), none⟩) HG.out).trans (HS.out.2.2.2 (by omega) |> fun ⟨g2, o2, e, _, _, hc⟩ => by
          injection e with e; injection e with e1 e2; subst e1; subst e2
          exact hc (p + j) u (by
            rw [HYS.out] at hj
            simpa [byts, List.getElem?_drop] using hj))
        have v2 := hcell 2 _ rfl; have v3 := hcell 3 _ rfl
        clear hcell HCL
        obtain ⟨size, hsz⟩ : ∃ size : Nat, size = beNum (((x0 :: x1 :: x2 :: x3 :: r).drop 2).take 2) := ⟨_, rfl⟩
        have hsz2 : (x2.toNat : Int) * 256 + (x3.toNat : Int) = (size : Int) := by rw [hsz]; simp [beNum]
        have e6 : IntKind.i64.wrap ((x2.toNat : Int) * 256 + (x3.toNat : Int)) = (size : Int) := (IntWalk.i64_in _ (by omega)).trans hsz2
        have hsb : size < 65536 := by omega
        have HSZ := Lib.hid hsz
        clear hsz hsz2
        go_wp2_with fail
        go_quiet (fail)
        have HA2 := Lib.hid (HA1.out.drewN nq)
        generalize w1.drewN nq = w2 at HA2 ⊢
        clear HA1 v2 v3 b0 b1 b2 b3 i0 i1 i2 i3 e2 e3 e5 e6 f2 f3
        by_cases hbad : badHead next nu size (n - p)
        · have HE2 : Hid (parseP' next xs = none) := Lib.hid (by
            rw [HE.out, parse_bad (by simp) (by rw [← HNN.out, ← HSZ.out, HYL.out]; exact hbad)]; rfl)
          have hbad' := hbad
          unfold badHead at hbad'
          clear hbad
          rcases Nat.lt_or_ge 1024 size with k1 | k1
          · have e1 : decide ((1024 : Int) < (size : Int)) = true := by simp; omega
            clear hbad'
            go_wp2_with fail
            refine bodyPost_ret (v := .tuple #[.slice none 0 0, .slice none 0 0, .bool false]) (by simp [results, Try.results56, go_sem]) rfl ?_
            rw [HP.out]
            exact .inl ⟨HE2.out, rfl, HA2.out.ns.fin⟩
          · have e1 : decide ((1024 : Int) < (size : Int)) = false := by simp; omega
            rcases Nat.lt_or_ge n (p + 4 + size) with k2 | k2
            · have e2 : decide ((n : Int) < (p : Int) + 4 + (size : Int)) = true := by simp; omega
              clear hbad'
              go_wp2_with fail
              refine bodyPost_ret (v := .tuple #[.slice none 0 0, .slice none 0 0, .bool false]) (by simp [results, Try.results56, go_sem]) rfl ?_
              rw [HP.out]
              exact .inl ⟨HE2.out, rfl, HA2.out.ns.fin⟩
            · have e2 : decide ((n : Int) < (p : Int) + 4 + (size : Int)) = false := by simp; omega
              rcases Int.lt_or_le nu 0 with k3 | k3
              · have e3 : decide (nu < 0) = true := by simp; omega
                clear hbad'
                go_wp2_with fail
                refine bodyPost_ret (v := .tuple #[.slice none 0 0, .slice none 0 0, .bool false]) (by simp [results, Try.results56, go_sem]) rfl ?_
                rw [HP.out]
                exact .inl ⟨HE2.out, rfl, HA2.out.ns.fin⟩
              · have e3 : decide (nu < 0) = false := by simp; omega
                rcases Int.lt_or_le ((next : Int) + 63) nu with k4 | k4
                · have e4 : decide ((next : Int) + 63 < nu) = true := by simp; omega
                  clear hbad'
                  go_wp2_with fail
                  refine bodyPost_ret (v := .tuple #[.slice none 0 0, .slice none 0 0, .bool false]) (by simp [results, Try.results56, go_sem]) rfl ?_
                  rw [HP.out]
                  exact .inl ⟨HE2.out, rfl, HA2.out.ns.fin⟩
                · have e4 : decide ((next : Int) + 63 < nu) = false := by simp; omega
                  have e5 : decide (nu < (next : Int) - 30000) = true := by simp; omega
                  clear hbad'
                  go_wp2_with fail
                  refine bodyPost_ret (v := .tuple #[.slice none 0 0, .slice none 0 0, .bool false]) (by simp [results, Try.results56, go_sem]) rfl ?_
                  rw [HP.out]
                  exact .inl ⟨HE2.out, rfl, HA2.out.ns.fin⟩
        · have HBAD := Lib.hid hbad
          have hbad' := hbad
          unfold badHead at hbad'
          simp only [not_or, Nat.not_lt, Int.not_lt, Int.not_le] at hbad'
          obtain ⟨k1, k2, k3, k4, k5⟩ := hbad'
          clear hbad
          obtain ⟨m, rfl⟩ : ∃ m : Nat, nu = (m : Int) := ⟨nu.toNat, by omega⟩
          have e1 : decide ((1024 : Int) < (size : Int)) = false := by simp; omega
          have e2 : decide ((n : Int) < (p : Int) + 4 + (size : Int)) = false := by simp; omega
          have e3 : decide ((m : Int) < 0) = false := by simp
          have e4 : decide ((next : Int) + 63 < (m : Int)) = false := by simp; omega
          have e5 : decide ((m : Int) < (next : Int) - 30000) = false := by simp; omega
          have hc' : n ≤ c := HS.out.2.1
          obtain ⟨B1, hB1, hB1a⟩ := run_midC Try.prog 41 5 (.int .u8 0) 1 1 Try.underlying41 (by kernel_rfl) (some ⟨g, off, none⟩) n c (p + 4) (p + 4 + size) (by omega) (by omega)
          rw [show p + 4 + size - (p + 4) = size by omega] at hB1
          have hC1 := HS.out.cut (i := p + 4) (j := p + 4 + size) (by omega) (by omega) B1 (fun g2 o2 e hij => by rw [hB1a (by omega) g2 o2 e])
          have hsm : ∀ W, (Instr.slice 41 (.slice (some ⟨g, off, none⟩) n c) (some (.int .i64 ((p : Int) + 4))) (some (.int .i64 ((p : Int) + 4 + (size : Int)))) none).run Try.prog W = .ok (.slice B1 size (c - (p + 4))) W := fun W => by
            have := hB1 W
            rwa [show ((p + 4 : Nat) : Int) = (p : Int) + 4 by simp, show ((p + 4 + size : Nat) : Int) = (p : Int) + 4 + (size : Int) by simp] at this
          have HC1 : Hid (Sl w o τb 1 B1 size (c - (p + 4)) (byts (((x0 :: x1 :: x2 :: x3 :: r).drop 4).take size))) := Lib.hid (by
            rw [show p + 4 + size - (p + 4) = size by omega] at hC1
            rw [HYS.out, List.drop_drop]
            simpa [byts, List.map_take, List.map_drop] using hC1)
          have HE2 : Hid (parseP' next xs = (parseP' next (xs.drop (p + 4 + size))).map fun q => (es ++ [IncV.mk m B1 size (c - (p + 4)) (((x0 :: x1 :: x2 :: x3 :: r).drop 4).take size)]).map IncV.pair ++ q) := Lib.hid (by
            rw [HE.out, parse_good (by simp) (by rw [← HNN.out, ← HSZ.out, HYL.out]; exact HBAD.out), ← HNN.out, ← HSZ.out, Option.map_map]
            rw [show (x0 :: x1 :: x2 :: x3 :: r).drop (4 + size) = xs.drop (p + 4 + size) by rw [HYS.out, List.drop_drop]; congr 1; omega]
            congr 1
            funext q
            simp [IncV.pair])
          have hlb : size = (((x0 :: x1 :: x2 :: x3 :: r).drop 4).take size).length := by have := HC1.out.1; simpa [byts] using this.symm
          have HBS : Hid (∀ e ∈ es ++ [IncV.mk m B1 size (c - (p + 4)) (((x0 :: x1 :: x2 :: x3 :: r).drop 4).take size)], Sl w o τb 1 e.A e.ln e.c (byts e.b) ∧ e.ln = e.b.length) := Lib.hid (by
            intro e he
            rcases List.mem_append.1 he with he | he
            · exact HA2.out.bs e he
            · rw [List.mem_singleton.1 he]; exact ⟨HC1.out, hlb⟩)
          generalize ((x0 :: x1 :: x2 :: x3 :: r).drop 4).take size = bb at HC1 HE2 HBS hlb
          clear hC1 hB1 hB1a HE HSZ HNN HBAD HYL HG hlb hc' HREST hnr0 hnr1 k3 k4 k5
          go_upto_region 12 with (at_builtin; refine wpList_append_new _ rfl (.tmp 77) (.tmp 79) _ rfl el_int (HA2.out.ns.alloc _) NA nn nc _ rfl (HA2.out.num.alloc HA2.out.ns.le' _) _ 1 1 _ rfl (Sl.fresh w2 3 1 1 [.int .i64 (m : Int)] rfl (by decide)) (one_ints [(m : Int)]) (by omega) (by unfold maxLen; omega) ?_; intro A5 c5 w5 hr5 hk5 _ hk5'; have HR5 := Lib.hid hr5; have HK5 := Lib.hid hk5; have HM5 := Lib.hid ((HA2.out.msg.alloc HA2.out.ns.le' _).keep hk5' (by decide)); clear hr5 hk5 hk5')
          clear HA2
          go_wp2_with (at_builtin; refine wpList_append_new _ rfl (.tmp 81) (.tmp 90) _ rfl el_bss (HK5.out.alloc _) MA mn mc _ rfl (HM5.out.alloc HK5.out.le' _) _ 1 1 _ rfl (Sl.fresh w5 41 1 1 [.slice B1 size (c - (p + 4))] rfl (by decide)) (by simp [Value.oneCell']) (by omega) (by unfold maxLen; omega) ?_; intro A6 c6 w6 hr6 hk6 _ hk6'; have HR6 := Lib.hid hr6; have HK6 := Lib.hid hk6; have HN6 := Lib.hid ((HR5.out.alloc HK5.out.le' _).keep hk6' (by decide)); clear hr6 hk6 hk6')
          have HA5 : Hid (RParseAt w w6 o τb (es ++ [⟨m, B1, size, c - (p + 4), bb⟩]) A5 (nn + 1) c5 A6 (mn + 1) c6) := Lib.hid ⟨HK6.out, by rw [incNums, List.map_append, show List.map IncV.n [(⟨m, B1, size, c - (p + 4), bb⟩ : IncV)] = [m] from rfl, nats_append]; exact HN6.out, by rw [incMsgs, List.map_append]; exact HR6.out, HBS.out⟩
          clear HR5 HK5 HM5 HR6 HK6 HN6 HBS hsm e1 e2 e3 e4 e5
          go_roundw
          case rel => exact ⟨p + 4 + size, _, A5, nn + 1, c5, A6, mn + 1, c6, rfl, rfl, by go_num, by omega, by omega, by omega, HA5, HE2⟩
          case measure => simp [intOf]; omega
end Go.Proofs.Ythjjipcbpmdfnaa
