/-
  WALK of (*Channel).parse.
-/
import Derived.Test.YthjjipcbpmdfnaaChJ
namespace Go.Proofs.Ythjjipcbpmdfnaa
open Go.RowKit

/-- The state of the loop in parse. -/
structure ParseAt (w W : World) (o : Own) (τb : Nat) (es : List IncV) (OA : Option Addr) (on oc : Nat) : Prop where
  ns : NS w.heap.size w W
  row : NRow w.heap.size W 128 2 OA on oc (incCells es)
  bs : ∀ e ∈ es, Sl w o τb 1 e.A e.ln e.c (byts e.b) ∧ e.ln = e.b.length
theorem ParseAt.drewN {w W : World} {o : Own} {τb : Nat} {es : List IncV} {OA : Option Addr} {on oc : Nat} (h : ParseAt w W o τb es OA on oc) (q : Nat) : ParseAt w (W.drewN q) o τb es OA on oc := ⟨h.ns.drewN q, h.row, h.bs⟩
def CParseTo (w : World) (o : Own) (τb next : Nat) (xs : List UInt8) (e : Ending) (w' : World) : Prop :=
  (parseP' next xs = none ∧ e = .returned (.tuple #[.slice none 0 0, .bool false]) ∧ Below w.heap.size w w') ∨
  (∃ es OA on oc, parseP' next xs = some (es.map IncV.pair) ∧ e = .returned (.tuple #[.slice OA on oc, .bool true]) ∧ ParseAt w w' o τb es OA on oc)
theorem i64_or_natC (a b : Nat) (ha : a < 65536) (hb : b < 65536) : bits .or .i64 (a : Int) (b : Int) = ((a ||| b : Nat) : Int) := by
  have hx : a ||| b < 2 ^ 16 := Nat.or_lt_two_pow (by omega) (by omega)
  show IntKind.i64.wrap ((BitVec.ofInt 64 (a : Int) ||| BitVec.ofInt 64 (b : Int)).toNat : Int) = _
  rw [BitVec.toNat_or, ofInt_u64 a (by omega), ofInt_u64 b (by omega)]
  generalize a ||| b = z at hx ⊢
  simp [IntKind.wrap, IntKind.bits, IntKind.signed]
  omega
theorem four_bytes {ys : List UInt8} (h : 4 ≤ ys.length) : ∃ x0 x1 x2 x3 r, ys = x0 :: x1 :: x2 :: x3 :: r := by
  match ys, h with
  | x0 :: x1 :: x2 :: x3 :: r, _ => exact ⟨x0, x1, x2, x3, r, rfl⟩

set_option maxRecDepth 100000 in
set_option maxHeartbeats 2000000 in
theorem parse_walk {w : World} {o : Own} {T : ChT} {b : Nat} {s : ChS} {k : ChB} {blk : Nat → Nat} (h : ChIs w o T b s k blk) (hs : s.Fit) (τb : Nat) (A : Option Addr) (n c : Nat) (xs : List UInt8) (hS : Sl w o τb 1 A n c (byts xs)) (hn : n ≤ 1191) :
    Calls Try.prog 54 #[.pointer (some ⟨b, 0, none⟩), .slice A n c] w (CParseTo w o τb s.next xs) := by
  have HC := Lib.hid h; have HF := Lib.hid hs; have HS := Lib.hid hS
  have q1 := hs.nl
  clear h hs hS
  obtain ⟨P, hP⟩ : ∃ P, P = CParseTo w o τb s.next xs := ⟨_, rfl⟩
  rw [← hP]
  have HP := Lib.hid hP; clear hP
  go_enter Try.func54, Try.ntmps54
  go_wp2_with fail
  go_loopw [1, 6] (fun s1 s6 wr => ∃ (A' : Option Addr) (n' c' : Nat) (ys : List UInt8) (es : List IncV) (OA : Option Addr) (on oc : Nat), s1 = .slice A' n' c' ∧ s6 = .slice OA on oc ∧ on * 4 + n' ≤ 1191 ∧ Hid (Sl w o τb 1 A' n' c' (byts ys)) ∧ Hid (ParseAt w wr o τb es OA on oc) ∧ Hid (parseP' s.next xs = (parseP' s.next ys).map fun r => es.map IncV.pair ++ r)) (fun s1 _ _ => match s1 with | .slice _ m _ => m | _ => 0)
  case atStart => exact ⟨A, n, c, xs, [], none, 0, 0, rfl, rfl, by omega, HS, Lib.hid ⟨NS.refl _, Row.nil_ _ _ _ _ _, by simp⟩, Lib.hid (by simp)⟩
  case round => as_aux_lemma =>
    obtain ⟨A', n', c', ys, es, OA, on, oc, rfl, rfl, hon, HY, HA, HE⟩ := hrel
    have hyl : n' = ys.length := by have := HY.out.1; simp at this; omega
    rcases Nat.eq_zero_or_pos n' with hz | hz
    · subst hz
      have hy0 : ys = [] := List.length_eq_zero_iff.1 hyl.symm
      have HE2 : Hid (parseP' s.next xs = some (es.map IncV.pair)) := Lib.hid (by rw [HE.out, hy0]; simp [parseP', parseC])
      clear hyl hy0
      go_wp2_with fail
      rw [HP.out]
      exact .inr ⟨es, OA, on, oc, HE2.out, rfl, HA.out⟩
    · rcases Nat.lt_or_ge n' 4 with h4 | h4
      · have HE2 : Hid (parseP' s.next xs = none) := Lib.hid (by rw [HE.out, parse_short (by intro e; rw [e] at hyl; simp at hyl; omega) (by omega)]; rfl)
        have hd4 : decide ((n' : Int) < 4) = true := by simp; omega
        clear hyl
        go_wp2_with fail
        rw [HP.out]
        exact .inl ⟨HE2.out, rfl, HA.out.ns.fin⟩
      · have hd4 : decide ((n' : Int) < 4) = false := by simp; omega
        obtain ⟨x0, x1, x2, x3, r, rfl⟩ := four_bytes (show 4 ≤ ys.length by omega)
        obtain ⟨g, off, rfl, -, hg, hcl⟩ := HY.out.2.2.2 hz
        have hcell : ∀ j u, (byts (x0 :: x1 :: x2 :: x3 :: r))[j]? = some u → wr.cell? ⟨g, off + j, none⟩ = some u := fun j u hj => (HA.out.ns.fin.cell (p := ⟨g, off + j, none⟩) hg).trans (hcl j u hj)
        have u0 := hcell 0 _ rfl; have u1 := hcell 1 _ rfl; have u2 := hcell 2 _ rfl; have u3 := hcell 3 _ rfl
        rw [Nat.add_zero] at u0
        obtain ⟨d0, d1, d2, d3, d4, d5, d6, d7, d8⟩ := (HC.out.below HA.out.ns.fin 0).cells
        have i0 : (0 : Int) < (n' : Int) := by omega
        have i1 : (1 : Int) < (n' : Int) := by omega
        have i2 : (2 : Int) < (n' : Int) := by omega
        have i3 : (3 : Int) < (n' : Int) := by omega
        have HYL := Lib.hid hyl
        have HCL := Lib.hid hcl; have HG := Lib.hid hg
        clear hcell hcl hyl hg
        have b0 := x0.toNat_lt; have b1 := x1.toNat_lt; have b2 := x2.toNat_lt; have b3 := x3.toNat_lt
        go_wp2_with fail
        go_quiet (fail)
        have hor : bits BinOp.or IntKind.u16 ((x0.toNat : Int) * 256) (x1.toNat : Int) = ((beNum ((x0 :: x1 :: x2 :: x3 :: r).take 2) : Nat) : Int) := by
          have := u16_or_nat (x0.toNat * 256) x1.toNat (by omega) (by omega)
          rw [or_bytes _ _ b0 b1] at this
          rw [show ((x0.toNat : Int) * 256) = ((x0.toNat * 256 : Nat) : Int) by simp, this]
          simp [beNum]
        rw [hor]
        have hnb : beNum ((x0 :: x1 :: x2 :: x3 :: r).take 2) < 65536 := by simp [beNum]; omega
        have hsb : beNum (((x0 :: x1 :: x2 :: x3 :: r).drop 2).take 2) < 65536 := by simp [beNum]; omega
        rw [near_arith (s.next : Int) _ (by omega) (by omega) (by omega) (by omega)]
        obtain ⟨nn, hnn⟩ : ∃ nn, nn = near (s.next : Int) (beNum ((x0 :: x1 :: x2 :: x3 :: r).take 2) : Int) := ⟨_, rfl⟩
        rw [← hnn]
        have hnear := near_bd (s.next : Int) (beNum ((x0 :: x1 :: x2 :: x3 :: r).take 2) : Int)
        rw [← hnn] at hnear
        obtain ⟨hnr0, hnr1⟩ := hnear
        have HNN := Lib.hid hnn; have HNB := Lib.hid hnb
        have HA1 := Lib.hid (HA.out.drewN nq)
        generalize wr.drewN nq = w1 at HA1 ⊢
        clear hor hnb hnn HA
        have hcell : ∀ j u, (byts (x0 :: x1 :: x2 :: x3 :: r))[j]? = some u → w1.cell? ⟨g, off + j, none⟩ = some u := fun j u hj => (HA1.out.ns.fin.cell (p := ⟨g, off + j, none⟩) HG.out).trans (HCL.out j u hj)
        have v2 := hcell 2 _ rfl; have v3 := hcell 3 _ rfl
        clear hcell
        go_wp2_with fail
        go_quiet (fail)
        obtain ⟨size, hsz⟩ : ∃ size : Nat, size = beNum (((x0 :: x1 :: x2 :: x3 :: r).drop 2).take 2) := ⟨_, rfl⟩
        have hor2 : bits BinOp.or IntKind.i64 ((x2.toNat : Int) * 256) (x3.toNat : Int) = (size : Int) := by
          have := i64_or_natC (x2.toNat * 256) x3.toNat (by omega) (by omega)
          rw [or_bytes _ _ b2 b3] at this
          rw [show ((x2.toNat : Int) * 256) = ((x2.toNat * 256 : Nat) : Int) by simp, this, hsz]
          simp [beNum]
        rw [hor2]
        rw [← hsz] at hsb
        have HSZ := Lib.hid hsz
        have HA2 := Lib.hid (HA1.out.drewN nq)
        have hd2' := (HC.out.below HA2.out.ns.fin 0).cells.2.2.1
        generalize w1.drewN nq = w2 at HA2 hd2' ⊢
        clear hor2 hsz HA1 u0 u1 u2 u3 v2 v3 d0 d1 d2 d3 d4 d5 d6 d7 d8 b0 b1 b2 b3 i0 i1 i2 i3
        by_cases hbad : badHead s.next nn size n'
        · have HE2 : Hid (parseP' s.next xs = none) := Lib.hid (by
            rw [HE.out, parse_bad (by simp) (by rw [← HNN.out, ← HSZ.out, ← HYL.out]; exact hbad)]; rfl)
          have hbad' := hbad
          unfold badHead at hbad'
          clear hbad
          rcases Nat.lt_or_ge 1024 size with k1 | k1
          · have e1 : decide ((1024 : Int) < (size : Int)) = true := by simp; omega
            clear hbad'
            go_wp2_with fail
            rw [HP.out]
            exact .inl ⟨HE2.out, rfl, HA2.out.ns.fin⟩
          · have e1 : decide ((1024 : Int) < (size : Int)) = false := by simp; omega
            rcases Nat.lt_or_ge n' (4 + size) with k2 | k2
            · have e2 : decide ((n' : Int) - 4 < (size : Int)) = true := by simp; omega
              clear hbad'
              go_wp2_with fail
              rw [HP.out]
              exact .inl ⟨HE2.out, rfl, HA2.out.ns.fin⟩
            · have e2 : decide ((n' : Int) - 4 < (size : Int)) = false := by simp; omega
              rcases Int.lt_or_le nn 0 with k3 | k3
              · have e3 : decide (nn < 0) = true := by simp; omega
                clear hbad'
                go_wp2_with fail
                rw [HP.out]
                exact .inl ⟨HE2.out, rfl, HA2.out.ns.fin⟩
              · have e3 : decide (nn < 0) = false := by simp; omega
                rcases Int.lt_or_le (nn - s.next) 64 with k4 | k4
                · have e4 : decide ((64 : Int) ≤ nn - s.next) = false := by simp; omega
                  have e5 : decide ((30000 : Int) < s.next - nn) = true := by simp; omega
                  clear hbad'
                  go_wp2_with fail
                  rw [HP.out]
                  exact .inl ⟨HE2.out, rfl, HA2.out.ns.fin⟩
                · have e4 : decide ((64 : Int) ≤ nn - s.next) = true := by simp; omega
                  clear hbad'
                  go_wp2_with fail
                  rw [HP.out]
                  exact .inl ⟨HE2.out, rfl, HA2.out.ns.fin⟩
        · have HBAD := Lib.hid hbad
          have hbad' := hbad
          unfold badHead at hbad'
          simp only [not_or, Nat.not_lt, Int.not_lt, Int.not_le] at hbad'
          obtain ⟨k1, k2, k3, k4, k5⟩ := hbad'
          clear hbad
          obtain ⟨m, rfl⟩ : ∃ m : Nat, nn = (m : Int) := ⟨nn.toNat, by omega⟩
          have e1 : decide ((1024 : Int) < (size : Int)) = false := by simp; omega
          have e2 : decide ((n' : Int) - 4 < (size : Int)) = false := by simp; omega
          have e3 : decide ((m : Int) < 0) = false := by simp
          have e4 : decide ((64 : Int) ≤ (m : Int) - s.next) = false := by simp; omega
          have e5 : decide ((30000 : Int) < (s.next : Int) - m) = false := by simp; omega
          have hc' : n' ≤ c' := HY.out.2.1
          obtain ⟨B1, hB1, hB1a⟩ := run_midC Try.prog 41 5 (.int .u8 0) 1 1 Try.underlying41 (by kernel_rfl) (some ⟨g, off, none⟩) n' c' 4 (4 + size) (by omega) (by omega)
          obtain ⟨B2, hB2, hB2a⟩ := run_tailC Try.prog 41 5 (.int .u8 0) 1 1 Try.underlying41 (by kernel_rfl) (some ⟨g, off, none⟩) n' c' (4 + size) (by omega) (by omega)
          rw [show 4 + size - 4 = size by omega] at hB1
          have hC1 := HY.out.cut (i := 4) (j := 4 + size) (by omega) (by omega) B1 (fun g2 o2 e hij => by rw [hB1a (by omega) g2 o2 e])
          have hC2 := HY.out.cut (i := 4 + size) (j := n') (by omega) (Nat.le_refl _) B2 (fun g2 o2 e hij => by rw [hB2a (by omega) g2 o2 e])
          have hsm : ∀ W, (Instr.slice 41 (.slice (some ⟨g, off, none⟩) n' c') (some (.int .i64 4)) (some (.int .i64 (4 + (size : Int)))) none).run Try.prog W = .ok (.slice B1 size (c' - 4)) W := fun W => by
            have := hB1 W
            rwa [show ((4 + size : Nat) : Int) = 4 + (size : Int) by simp] at this
          have hst : ∀ W, (Instr.slice 41 (.slice (some ⟨g, off, none⟩) n' c') (some (.int .i64 (4 + (size : Int)))) none none).run Try.prog W = .ok (.slice B2 (n' - (4 + size)) (c' - (4 + size))) W := fun W => by
            have := hB2 W
            rwa [show ((4 + size : Nat) : Int) = 4 + (size : Int) by simp] at this
          have HC1 : Hid (Sl w o τb 1 B1 size (c' - 4) (byts (((x0 :: x1 :: x2 :: x3 :: r).drop 4).take size))) := Lib.hid (by
            rw [show 4 + size - 4 = size by omega] at hC1
            simpa [byts, List.map_take, List.map_drop] using hC1)
          have HC2 : Hid (Sl w o τb 1 B2 (n' - (4 + size)) (c' - (4 + size)) (byts ((x0 :: x1 :: x2 :: x3 :: r).drop (4 + size)))) := Lib.hid (by
            have hl : ((byts (x0 :: x1 :: x2 :: x3 :: r)).drop ((4 + size) * 1)).length = n' - (4 + size) := by rw [List.length_drop, HY.out.1]; omega
            rw [List.take_of_length_le (by rw [hl]; omega), Nat.mul_one] at hC2
            simpa [byts, List.map_drop] using hC2)
          have HE2 : Hid (parseP' s.next xs = (parseP' s.next ((x0 :: x1 :: x2 :: x3 :: r).drop (4 + size))).map fun q => (es ++ [IncV.mk m B1 size (c' - 4) (((x0 :: x1 :: x2 :: x3 :: r).drop 4).take size)]).map IncV.pair ++ q) := Lib.hid (by
            rw [HE.out, parse_good (by simp) (by rw [← HNN.out, ← HSZ.out, ← HYL.out]; exact HBAD.out), ← HNN.out, ← HSZ.out, Option.map_map]
            congr 1
            funext q
            simp [IncV.pair])
          have hlb : size = (((x0 :: x1 :: x2 :: x3 :: r).drop 4).take size).length := by have := HC1.out.1; simpa [byts] using this.symm
          have HBS : Hid (∀ e ∈ es ++ [IncV.mk m B1 size (c' - 4) (((x0 :: x1 :: x2 :: x3 :: r).drop 4).take size)], Sl w o τb 1 e.A e.ln e.c (byts e.b) ∧ e.ln = e.b.length) := Lib.hid (by
            intro e he
            rcases List.mem_append.1 he with he | he
            · exact HA2.out.bs e he
            · rw [List.mem_singleton.1 he]; exact ⟨HC1.out, hlb⟩)
          generalize ((x0 :: x1 :: x2 :: x3 :: r).drop 4).take size = bb at HC1 HE2 HBS hlb
          generalize (x0 :: x1 :: x2 :: x3 :: r).drop (4 + size) = ys' at HC2 HE2
          clear hC1 hC2 hB1 hB2 hB1a hB2a HE HSZ HNN HNB HBAD HYL HCL HG hlb hc'
          have hN3 := HA2.out.ns.alloc (.cells #[.int .i64 (m : Int), .slice B1 size (c' - 4)] 128)
          have hR3 := HA2.out.row.alloc HA2.out.ns.le' (.cells #[.int .i64 (m : Int), .slice B1 size (c' - 4)] 128)
          have hS3 := Sl.fresh w2 128 2 1 (incCells [⟨m, B1, size, c' - 4, bb⟩]) rfl (by decide)
          have HN3 := Lib.hid hN3; have HR3 := Lib.hid hR3; have HS3 := Lib.hid hS3
          clear hN3 hR3 hS3
          go_wp2_with (at_builtin; refine wpList_append_new _ rfl (.tmp 83) (.tmp 90) _ rfl el_inc HN3.out OA on oc _ rfl HR3.out _ 1 1 _ rfl HS3.out (one_inc _) (by omega) (by unfold maxLen; omega) ?_; intro A5 c5 w5 hr5 hk5 _ _; have HR5 := Lib.hid hr5; have HK5 := Lib.hid hk5; clear hr5 hk5)
          have HA5 : Hid (ParseAt w w5 o τb (es ++ [⟨m, B1, size, c' - 4, bb⟩]) A5 (on + 1) c5) := Lib.hid ⟨HK5.out, by rw [incCells, List.flatMap_append]; exact HR5.out, HBS.out⟩
          clear HN3 HR3 HS3 HR5 HK5 HBS HA2
          go_roundw
          case rel => exact ⟨B2, _, _, ys', _, A5, on + 1, c5, rfl, rfl, by omega, HC2, HA5, HE2⟩
          case measure => show n' - (4 + size) < n'; omega
end Go.Proofs.Ythjjipcbpmdfnaa
