/-
  WALKS of the link's methods: noted.
-/
import Derived.Test.YtpmbfgpfpdenbaaLinkC
namespace Go.Proofs.Ytpmbfgpfpdenbaa
open Go.RowKit

abbrev nats (l : List Nat) : List Value := l.map fun (n : Nat) => Value.int .i64 (n : Int)
theorem nats_get {l : List Nat} {k : Nat} (hk : k < l.length) : (nats l)[k]? = some (.int .i64 (l.getD k 0 : Nat)) := by
  simp [nats, List.getD_eq_getElem?_getD, hk]

/-- The numbers of reports, moved by a beginning. -/
abbrev movR (own : Int) (rs : List (Nat × Bool)) : List (Int × Bool) := rs.map fun r => (own + (r.1 : Int), r.2)

theorem reps_get (l : List (Int × Bool)) (k : Nat) (x : Int) (b : Bool) (h : l[k]? = some (x, b)) : (reps l)[k * 2]? = some (.int .i64 x) ∧ (reps l)[k * 2 + 1]? = some (.bool b) := by
  induction l generalizing k with
  | nil => simp at h
  | cons r l ih =>
    cases k with
    | zero => simp at h; subst h; exact ⟨rfl, rfl⟩
    | succ k =>
      have := ih k (by simpa using h)
      rw [show (k + 1) * 2 = k * 2 + 1 + 1 by omega, show k * 2 + 1 + 1 + 1 = (k * 2 + 1) + 1 + 1 by omega]
      simpa [reps] using this

theorem noteL_snoc (l : List Nat) (rs : List (Nat × Bool)) (r : Nat × Bool) : noteL l (rs ++ [r]) = (noteL l rs).set r.1 1 := by simp [noteL]

/-- The state of the loop of 'noted'. -/
def NotedRel (w : World) (o : Own) (tR : Nat) (RA : Option Addr) (rn rc : Nat) (R : List Nat) (wr : World) : Prop := ∃ o', Step [tR] w o wr o' ∧ Row wr o' tR 3 1 RA rn rc (nats R)

theorem NotedRel.next {w wr : World} {o o1 : Own} {tR gr rn rc r1 n : Nat} {R R' : List Nat} {ob : Obj} (hst : Step [tR] w o wr o1) (hr : Row wr o1 tR 3 1 (some ⟨gr, 0, none⟩) rn rc (nats R)) (ho : o1 gr = tR) (hk : r1 < rn) (hR : R' = R.set r1 1) :
    NotedRel w o tR (some ⟨gr, 0, none⟩) rn rc R' (((wr.alloc ob).drewN n).setCell ⟨gr, r1, none⟩ (.int .i64 1)) := by
  have hst1 := (hst.alloc ob (tR + 1)).drewN n
  have hr1 := (hr.step ((Step.refl [] wr o1).alloc ob (tR + 1)) (by simp)).drewN n
  have ho1 : ext o1 wr.heap.size (tR + 1) gr = tR := by rw [ext_lt (hr.lt rfl)]; exact ho
  refine ⟨_, hst1.setCell (.inr (List.mem_singleton.2 ho1)) _, ?_⟩
  have := hr1.set_ (k := r1) hk (.int .i64 1)
  rw [hR]
  simpa [nats, List.map_set] using this

set_option maxRecDepth 100000 in
set_option maxHeartbeats 8000000 in
theorem noted_any (w : World) (o : Own) (l s tB tR τ2 : Nat) (hs : s < 2) (own : Int) (X : ASide) (rs : List (Nat × Bool)) (cells : Array Value) (BA RA SA : Option Addr) (bn bc rn rc sn sc : Nat) (hb : Blk w l 94 cells) (hol : o l ≠ tR)
    (h2 : cells[s * 5 + 2]? = some (.slice BA bn bc)) (h3 : cells[s * 5 + 3]? = some (.slice RA rn rc)) (h4 : cells[s * 5 + 4]? = some (.int .i64 own))
    (hB : Row w o tB 3 1 BA bn bc (nats X.bodies)) (hR : Row w o tR 3 1 RA rn rc (nats X.reports)) (hS : Sl w o τ2 2 SA sn sc (reps (movR own rs))) (ht : τ2 ≠ tR) (hBR : tB ≠ tR)
    (hok : NoteOk X rs) (hlen : X.reports.length = X.bodies.length) (hown : 0 ≤ own) (hown' : own ≤ 1099511627776) (hbl : X.bodies.length ≤ 100000) (hsn : sn ≤ 100000) :
    Calls Try.prog 19 #[.pointer (some ⟨l, 0, none⟩), .int .i64 s, .slice SA sn sc] w fun e w' => e = .returned (.bool true) ∧ NotedRel w o tR RA rn rc (noteL X.reports rs) w' := by
  have c2 := (hb.cell (s * 5 + 2)).trans h2
  have c3 := (hb.cell (s * 5 + 3)).trans h3
  have c4 := (hb.cell (s * 5 + 4)).trans h4
  have hsl : sn = rs.length := by have := hS.1; rw [len_reps] at this; simp at this; omega
  have hbn : bn = X.bodies.length := by have := hB.len; simp at this; omega
  have hrn : rn = X.reports.length := by have := hR.len; simp at this; omega
  have hold : ∀ wr o', Step [tR] w o wr o' → wr.heap[l]? = w.heap[l]? := fun wr o' h => h.block l hb.lt (by simpa using hol)
  have HOLD := Lib.hid hold; have HB := Lib.hid hB; have HR := Lib.hid hR; have HS := Lib.hid hS; have HOK := Lib.hid hok; have HC2 := Lib.hid c2; have HC3 := Lib.hid c3; have HC4 := Lib.hid c4; have HSL := Lib.hid hsl; have HBN := Lib.hid hbn; have HRN := Lib.hid hrn; have HL := Lib.hid hlen
  clear hold hB hR hS hok hb c2 c3 c4 h2 h3 h4 hsl hbn hrn hlen
  have hrl := fun k => noteL_len (rs.take k) X.reports
  have HRL := Lib.hid hrl; clear hrl
  go_enter Try.func19, Try.ntmps19
  go_wp2_with fail
  go_loopw [17] (fun i wr => ∃ k : Nat, k ≤ sn ∧ i = .int .i64 k ∧ NotedRel w o tR RA rn rc (noteL X.reports (rs.take k)) wr) (fun i _ => sn - (intOf i).toNat)
  case atStart => exact ⟨0, Nat.zero_le _, rfl, o, Step.refl _ _ _, HR.out⟩
  case round =>
    obtain ⟨k, hk, rfl, o1, hst, hr1⟩ := hrel
    by_cases hlt : k < sn
    · have hkl : k < rs.length := by have := HSL.out; omega
      obtain ⟨r, hr⟩ : ∃ r, r = rs[k] := ⟨_, rfl⟩
      have hmem := HOK.out.mem r (by rw [hr]; exact List.getElem_mem hkl)
      obtain ⟨r1, r2⟩ := r
      obtain ⟨m1, m2, m3⟩ := hmem
      simp only at m1 m2 m3
      have hget : (movR own rs)[k]? = some (own + (r1 : Int), r2) := by simp [movR, hkl, ← hr]
      obtain ⟨nm, hnm⟩ : ∃ nm : Int, nm = own + (r1 : Int) := ⟨_, rfl⟩
      rw [← hnm] at hget
      have hrow := reps_get _ k nm r2 hget
      have hS1 := HS.out.step hst (by simpa using ht)
      obtain ⟨g, off, hA, hog, hg, hc⟩ := hS1.2.2.2 (by omega)
      subst hA
      have d0 := hc _ _ hrow.1
      have d1 := hc _ _ hrow.2
      rw [← Nat.add_assoc] at d1
      have c2 := (World.cell?_of_block (w := w) (a := ⟨l, s * 5 + 2, none⟩) (HOLD.out wr o1 hst)).trans HC2.out
      have c3 := (World.cell?_of_block (w := w) (a := ⟨l, s * 5 + 3, none⟩) (HOLD.out wr o1 hst)).trans HC3.out
      have c4 := (World.cell?_of_block (w := w) (a := ⟨l, s * 5 + 4, none⟩) (HOLD.out wr o1 hst)).trans HC4.out
      have hsd := HOK.out.sorted
      have hnot : r1 ∉ (rs.take k).map Prod.fst := by
        intro hm
        obtain ⟨q, hq, hq1⟩ := List.mem_map.1 hm
        obtain ⟨j, hj, hj2⟩ := List.mem_iff_getElem.1 hq
        rw [List.length_take] at hj
        rw [List.getElem_take] at hj2
        have := List.pairwise_iff_getElem.1 hsd j k (by simp; omega) (by simp; omega) (by omega)
        simp only [List.getElem_map, hj2, ← hr] at this
        omega
      have hz : (noteL X.reports (rs.take k)).getD r1 0 = 0 := by
        rw [noteL_getD _ _ (fun q hq => (HOK.out.mem q (List.mem_of_mem_take hq)).1), if_neg hnot]; exact m2
      have hrn2 := HRN.out
      obtain ⟨gr, cur, hRA, hogr, hbr, -, -, -, -⟩ := hr1.form (by omega)
      subst hRA
      obtain ⟨e0, e0f⟩ := hr1.cellAt (k := r1) (u := .int .i64 0) (by rw [nats_get (by rw [HRL.out]; exact m1), hz]; rfl)
      have hB1 := HB.out.step hst (by simpa using hBR)
      have hbod : r2 = true → ∃ gb, BA = some ⟨gb, 0, none⟩ ∧ wr.cell? ⟨gb, r1, none⟩ = some (.int .i64 1) ∧ gb ≠ gr ∧ gb < wr.heap.size ∧ r1 < bn := by
        intro h2
        have hb1 := m3 h2
        have hr1b : r1 < bn := by have := HBN.out; have := HL.out; omega
        obtain ⟨gb, hBA, hogb, hcb, -⟩ := hB1.at_ hr1b
        refine ⟨gb, hBA, ?_, ?_⟩
        · rw [hcb, nats_get (by have := HL.out; omega), hb1]; rfl
        · exact ⟨by rintro rfl; rw [hogb] at hogr; exact hBR hogr, hB1.lt hBA, hr1b⟩
      have hprev : 0 < k → ∃ (pk : Nat) (pm : Int), (k : Int) - 1 = (pk : Int) ∧ wr.cell? ⟨g, off + pk * 2, none⟩ = some (.int .i64 pm) ∧ pm < nm ∧ pk < sn := by
        intro h0
        have hkl' : k - 1 < rs.length := by omega
        have hp := reps_get (movR own rs) (k - 1) (own + (rs[k - 1].1 : Int)) rs[k - 1].2 (by simp [movR, hkl'])
        refine ⟨k - 1, own + (rs[k - 1].1 : Int), by omega, hc _ _ hp.1, ?_, by omega⟩
        have := List.pairwise_iff_getElem.1 hsd (k - 1) k (by simp; omega) (by simp; omega) (by omega)
        simp only [List.getElem_map, ← hr] at this
        omega
      have hlr : l ≠ gr := by
        rintro rfl
        exact hol (by rw [← hst.own l (World.block_lt_of_cell? w ⟨l, s * 5 + 2, none⟩ HC2.out)]; exact hogr)
      have hgr : g ≠ gr := by rintro rfl; rw [hog] at hogr; exact ht hogr
      have hlg : gr < wr.heap.size := hr1.lt rfl
      have hns : nm - own = (r1 : Int) := by omega
      have hr1n : r1 < rn := by omega
      have hrnb : rn ≤ 100000 := by have := HL.out; omega
      have hlsz : l < wr.heap.size := World.block_lt_of_cell? wr ⟨l, s * 5 + 2, none⟩ c2
      have hnb : 0 ≤ nm ∧ nm ≤ 2000000000000 := by omega
      obtain ⟨hnb1, hnb2⟩ := hnb
      have hsnoc : noteL X.reports (rs.take (k + 1)) = (noteL X.reports (rs.take k)).set r1 1 := by
        rw [List.take_succ_eq_append_getElem hkl, noteL_snoc, ← hr]
      have hrl2 : wr.heap.size ≠ gr := by omega
      have HR1 := Lib.hid hr1; have HST := Lib.hid hst; have HSN := Lib.hid hsnoc; have HO := Lib.hid hogr
      clear hr1 hst hsnoc hogr hS1 hB1 hc hsd hnot hz hr hrow hget hnm m1 m2 m3 hbr hrn2 hog
      have t1 : decide ((r1 : Int) < 0) = false := by simp
      have t2 : decide (rn ≤ r1) = false := by simp; omega
      by_cases hk0 : 0 < k
      · obtain ⟨pk, pm, hpk, d2, hpm, hpk2⟩ := hprev hk0
        clear hprev
        cases r2 with
        | false =>
          clear hbod
          go_wp2_with fail
          go_quiet (fail)
          go_wp2_with fail
          go_quiet (fail)
          go_wp2_with fail
          go_roundw
          case rel => exact ⟨k + 1, by omega, by go_num, NotedRel.next HST.out HR1.out HO.out hr1n HSN.out⟩
          case measure => simp [intOf]; omega
        | true =>
          obtain ⟨gb, rfl, f0, hgb, hgb2, hgb3⟩ := hbod rfl
          go_wp2_with fail
          go_quiet (fail)
          go_wp2_with fail
          go_quiet (fail)
          go_wp2_with fail
          go_roundw
          case rel => exact ⟨k + 1, by omega, by go_num, NotedRel.next HST.out HR1.out HO.out hr1n HSN.out⟩
          case measure => simp [intOf]; omega
      · clear hprev
        cases r2 with
        | false =>
          clear hbod
          go_wp2_with fail
          go_quiet (fail)
          go_wp2_with fail
          go_quiet (fail)
          go_wp2_with fail
          go_roundw
          case rel => exact ⟨k + 1, by omega, by go_num, NotedRel.next HST.out HR1.out HO.out hr1n HSN.out⟩
          case measure => simp [intOf]; omega
        | true =>
          obtain ⟨gb, rfl, f0, hgb, hgb2, hgb3⟩ := hbod rfl
          go_wp2_with fail
          go_quiet (fail)
          go_wp2_with fail
          go_quiet (fail)
          go_wp2_with fail
          go_roundw
          case rel => exact ⟨k + 1, by omega, by go_num, NotedRel.next HST.out HR1.out HO.out hr1n HSN.out⟩
          case measure => simp [intOf]; omega
    · have hkn : k = sn := by omega
      subst hkn
      go_wp2_with fail
      go_ret
      refine ⟨rfl, o1, hst, ?_⟩
      have := hr1
      rwa [List.take_of_length_le (by have := HSL.out; omega)] at this
end Go.Proofs.Ytpmbfgpfpdenbaa
