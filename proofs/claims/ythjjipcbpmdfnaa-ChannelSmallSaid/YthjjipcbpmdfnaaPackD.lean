/-
  WALKS of New, Make, Only, Pending, Received.
-/
import Derived.Test.YthjjipcbpmdfnaaPackC
namespace Go.Proofs.Ythjjipcbpmdfnaa
open Go.RowKit

/-- The bytes of a packet: with a number and a body, or none. -/
def packP (s : EndS) (num : Int) (xs : List UInt8) : List UInt8 :=
  if s.other ≤ s.newest then bytesOf 3 1 ++ bytesOf (num % 65536).toNat 2 ++ bytesOf (s.newest % 65536).toNat 2 ++ bytesOf s.mask 4 ++ xs
  else bytesOf 1 1 ++ bytesOf (num % 65536).toNat 2 ++ xs
def ackP (s : EndS) : List UInt8 := bytesOf 2 1 ++ bytesOf (s.newest % 65536).toNat 2 ++ bytesOf s.mask 4

theorem EndAt.step {w w' : World} {o o' : Own} {ts : List Nat} {τ b : Nat} {s : EndS} (h : EndAt w o τ b s) (hs : Step ts w o w' o') (hτ : τ ∉ ts) : EndAt w' o' τ b s := by
  obtain ⟨A, n, c, hb, ho, hr⟩ := h
  exact ⟨A, n, c, hb.step hs (by rw [ho]; exact hτ), (hs.own _ hb.lt).trans ho, hr.step hs hτ⟩

theorem bytes_body (w : World) (o : Own) (τ τ2 σ b : Nat) (s : EndS) (hE : EndAt w o τ b s) (hs : s.Fit) (num : Int) (hn0 : 0 ≤ num) (hn1 : num ≤ 4000000000000) (ad : Addr) (n c : Nat) (xs : List UInt8) (hS : Sl w o τ2 1 (some ad) n c (byts xs)) (hn : n ≤ 100000) :
    Calls Try.prog 62 #[.pointer (some ⟨b, 0, none⟩), .int .i64 num, .slice (some ad) n c] w fun e w' => ∃ A c o', e = .returned (.slice A (packP s num xs).length c) ∧ Step [] w o w' o' ∧ Row w' o' σ 5 1 A (packP s num xs).length c (byts (packP s num xs)) := by
  obtain ⟨ρ, hρ, hρ2⟩ := fresh_tag w o [τ2]
  obtain ⟨κ, hκ, hκ2⟩ := fresh_tag w o [τ2, ρ]
  simp only [List.mem_cons, List.not_mem_nil, or_false, not_or] at hρ2 hκ2
  have fin : ∀ e w', BytesTo w o ρ κ σ (packP s num xs) e w' → ∃ A c o', e = .returned (.slice A (packP s num xs).length c) ∧ Step [] w o w' o' ∧ Row w' o' σ 5 1 A (packP s num xs).length c (byts (packP s num xs)) := by
    rintro e w' ⟨A, c, o', he, hst, hR⟩
    refine ⟨A, c, o', he, hst.forget ?_, hR⟩
    intro t ht _ k hk
    rcases List.mem_cons.1 ht with rfl | ht
    · exact hρ k hk
    · rw [List.mem_singleton.1 ht]; exact hκ k hk
  by_cases hh : s.other ≤ s.newest
  · refine (bytes_tt w o τ τ2 ρ κ σ b s hE hs (Ne.symm hρ2) (Ne.symm hκ2.1) hκ2.2 num hn0 hn1 ad n c xs hS hn hh).mono fun e w' h => fin e w' ?_
    rw [packP, if_pos hh]; exact h
  · refine (bytes_tf w o τ τ2 ρ κ σ b s hE hs (Ne.symm hρ2) (Ne.symm hκ2.1) hκ2.2 num hn0 hn1 ad n c xs hS hn hh).mono fun e w' h => fin e w' ?_
    rw [packP, if_neg hh]; exact h

theorem bytes_ack (w : World) (o : Own) (τ σ b : Nat) (s : EndS) (hE : EndAt w o τ b s) (hs : s.Fit) (num : Int) (hh : s.other ≤ s.newest) :
    Calls Try.prog 62 #[.pointer (some ⟨b, 0, none⟩), .int .i64 num, .slice none 0 0] w fun e w' => ∃ A c o', e = .returned (.slice A (ackP s).length c) ∧ Step [] w o w' o' ∧ Row w' o' σ 5 1 A (ackP s).length c (byts (ackP s)) := by
  obtain ⟨ρ, hρ, hρ2⟩ := fresh_tag w o [0]
  obtain ⟨κ, hκ, hκ2⟩ := fresh_tag w o [0, ρ]
  simp only [List.mem_cons, List.not_mem_nil, or_false, not_or] at hρ2 hκ2
  refine (bytes_ft w o τ 0 ρ κ σ b s hE hs (Ne.symm hρ2) (Ne.symm hκ2.1) hκ2.2 num hh).mono ?_
  rintro e w' ⟨A, c, o', he, hst, hR⟩
  refine ⟨A, c, o', he, hst.forget ?_, hR⟩
  intro t ht _ k hk
  rcases List.mem_cons.1 ht with rfl | ht
  · exact hρ k hk
  · rw [List.mem_singleton.1 ht]; exact hκ k hk

set_option maxHeartbeats 400000 in
theorem Only_ok (w : World) (o : Own) (τ σ b : Nat) (s : EndS) (hE : EndAt w o τ b s) (hs : s.Fit) (hh : s.other ≤ s.newest) :
    Calls Try.prog 48 #[.pointer (some ⟨b, 0, none⟩)] w fun e w' => ∃ A c o', e = .returned (.tuple #[.slice A (ackP s).length c, .int .i64 0]) ∧ Step [] w o w' o' ∧ Row w' o' σ 5 1 A (ackP s).length c (byts (ackP s)) := by
  have HE := Lib.hid hE
  obtain ⟨A, m, cc, hb, ho, hr⟩ := hE
  obtain ⟨h0, h1, h2, h3, h4, h5, h6⟩ := endCell hb
  obtain ⟨l, hl⟩ : ∃ l, l = (ackP s).length := ⟨_, rfl⟩
  rw [← hl]
  have HL := Lib.hid hl
  clear hb ho hr hl
  go_enter Try.func48, Try.ntmps48
  go_wp2_with (first
    | (go_at_call 60; refine (there_end h0).mono ?_; rintro e w' ⟨rfl, rfl⟩)
    | (go_at_call 63; refine (heard_end s.other s.newest h3 h4).mono ?_; rintro e w' ⟨rfl, k, rfl⟩)
    | (go_at_call 62; refine (bytes_ack _ o τ σ b s (HE.out.step ((Step.refl [] _ _).drewN _) (by simp)) hs _ hh).mono ?_; rintro e w' ⟨A', c', o', rfl, H1⟩; have H2 := Lib.hid H1; clear H1))
  go_ret2
  rw [HL.out]
  exact ⟨A', c', o', rfl, ((Step.refl [] w o).drewN _).trans H2.out.1, H2.out.2⟩

set_option maxHeartbeats 400000 in
theorem Only_none (w : World) (o : Own) (τ b : Nat) (s : EndS) (hE : EndAt w o τ b s) (hh : ¬ s.other ≤ s.newest) :
    Calls Try.prog 48 #[.pointer (some ⟨b, 0, none⟩)] w fun e w' => e = .returned (.tuple #[.slice none 0 0, .int .i64 6]) ∧ ∃ k, w' = w.drewN k := by
  obtain ⟨A, m, cc, hb, ho, hr⟩ := hE
  obtain ⟨h0, h1, h2, h3, h4, h5, h6⟩ := endCell hb
  have hd : decide (s.other ≤ s.newest) = false := by simpa using hh
  clear hb ho hr
  go_enter Try.func48, Try.ntmps48
  go_wp2_with (first
    | (go_at_call 60; refine (there_end h0).mono ?_; rintro e w' ⟨rfl, rfl⟩)
    | (go_at_call 63; refine (heard_end s.other s.newest h3 h4).mono ?_; rintro e w' ⟨rfl, k, rfl⟩))
  go_ret2
  exact ⟨rfl, _, rfl⟩

set_option maxHeartbeats 400000 in
theorem New_ok (w : World) (o : Own) (τ : Nat) (own other : Int) (h0 : 0 ≤ own) (h1 : own ≤ 1099511627776) (h2 : 0 ≤ other) (h3 : other ≤ 1099511627776) :
    Calls Try.prog 38 #[.int .i64 own, .int .i64 other] w fun e w' => e = .returned (.tuple #[.pointer (some ⟨w.heap.size, 0, none⟩), .int .i64 0]) ∧
      Step [] w o w' (ext o w.heap.size τ) ∧ EndAt w' (ext o w.heap.size τ) τ w.heap.size ⟨own, own, other, other - 1, 0, []⟩ := by
  go_enter Try.func38, Try.ntmps38
  go_wp2
  go_ret2
  exact ⟨rfl, (Step.refl [] w o).alloc _ τ, none, 0, 0, Blk.new _ _ _, ext_ge (Nat.le_refl _), Row.nil_ _ _ _ _ _⟩

set_option maxHeartbeats 400000 in
theorem New_bad (w : World) (own other : Int) (h : own < 0 ∨ 1099511627776 < own ∨ other < 0 ∨ 1099511627776 < other) :
    Calls Try.prog 38 #[.int .i64 own, .int .i64 other] w fun e w' => e = .returned (.tuple #[.pointer none, .int .i64 2]) ∧ w = w' := by
  by_cases c1 : own < 0
  · go_enter Try.func38, Try.ntmps38
    go_wp2
    go_ret2
    exact ⟨rfl, rfl⟩
  · by_cases c2 : 1099511627776 < own
    · go_enter Try.func38, Try.ntmps38
      go_wp2
      go_ret2
      exact ⟨rfl, rfl⟩
    · by_cases c3 : other < 0
      · go_enter Try.func38, Try.ntmps38
        go_wp2
        go_ret2
        exact ⟨rfl, rfl⟩
      · have c4 : 1099511627776 < other := by omega
        clear h
        go_enter Try.func38, Try.ntmps38
        go_wp2
        go_ret2
        exact ⟨rfl, rfl⟩
/-! ### Make -/
theorem el_rep : Elem Try.prog 110 140 2 16 (.agg #[.int .i64 0, .bool false]) := ⟨Try.underlying110, by kernel_rfl, rfl, by decide⟩

/-- What the append to 'pending' leaves. -/
theorem make_grow {w w1 : World} {o : Own} {τ b : Nat} {s : EndS} {A A' : Option Addr} {m c c' : Nat} (hb : Blk w b 136 (endCells s A m c)) (ho : o b = τ) (hr : Row w o τ 3 1 A m c (ints s.pend))
    (hR : Row w1 (ext (ext o w.heap.size τ) (w.heap.size + 1) τ) τ 3 1 A' (m + 1) c' (ints s.pend ++ [.int .i64 s.next]))
    (hg : ((w.setCell ⟨b, 2, none⟩ (.int .i64 (s.next + 1))).alloc (.cells #[.int .i64 s.next] 3)).grownBy w1 (Value.slice A m c).ownBlock) :
    Blk w1 b 136 (endCells { s with next := s.next + 1 } A m c) ∧ Step [τ] w o w1 (ext (ext o w.heap.size τ) (w.heap.size + 1) τ) ∧ ∃ g, A' = some ⟨g, 0, none⟩ ∧ g ≠ b ∧ b ≠ g := by
  have hne := hr.ne_blk hb (by decide)
  have h1 : Blk (w.setCell ⟨b, 2, none⟩ (.int .i64 (s.next + 1))) b 136 (endCells { s with next := s.next + 1 } A m c) := hb.set_ 2 _
  have hb1 : Blk w1 b 136 (endCells { s with next := s.next + 1 } A m c) := (h1.alloc _).grown hg (by
    cases A with
    | none => simp [Value.ownBlock]
    | some ad => simp [Value.ownBlock]; exact (hne ad rfl).symm)
  obtain ⟨g, cur, rfl, _⟩ := hR.form (by omega)
  have hg2 := hR.ne_blk hb1 (by decide) _ rfl
  refine ⟨hb1, ?_, g, rfl, hg2, Ne.symm hg2⟩
  have st1 := ((Step.refl [τ] w o).setCell (p := ⟨b, 2, none⟩) (.inr (List.mem_singleton.2 ho)) (.int .i64 (s.next + 1))).alloc (.cells #[.int .i64 s.next] 3) τ
  have hsz : (w.setCell ⟨b, 2, none⟩ (.int .i64 (s.next + 1))).heap.size = w.heap.size := by simp [World.setCell]
  rw [hsz] at st1
  have := st1.grown hg (fun k hk => by
    cases A with
    | none => simp [Value.ownBlock] at hk
    | some ad =>
      simp [Value.ownBlock] at hk
      subst hk
      exact .inr (List.mem_singleton.2 (by rw [ext_lt (hr.lt rfl)]; exact hr.2 ad rfl))) τ
  simpa [World.setCell] using this

set_option maxRecDepth 100000 in
set_option maxHeartbeats 1000000 in
theorem Make_room (w : World) (o : Own) (τ τ2 σ b : Nat) (s : EndS) (hE : EndAt w o τ b s) (hs : s.Fit) (ht : τ2 ≠ τ) (hl : s.pend.length < 256) (ad : Addr) (n c : Nat) (xs : List UInt8) (hS : Sl w o τ2 1 (some ad) n c (byts xs)) (hn0 : 1 ≤ n) (hn1 : n ≤ 1191) (hnx : s.next ≤ 1999999999999) :
    Calls Try.prog 46 #[.pointer (some ⟨b, 0, none⟩), .slice (some ad) n c] w fun e w' => ∃ A c o', e = .returned (.tuple #[.slice A (packP (makeS s) s.next xs).length c, .int .i64 s.next, .slice none 0 0, .int .i64 0]) ∧
      Step [τ] w o w' o' ∧ EndAt w' o' τ b (makeS s) ∧ Row w' o' σ 5 1 A (packP (makeS s) s.next xs).length c (byts (packP (makeS s) s.next xs)) := by
  obtain ⟨A, m, cc, hb, ho, hr⟩ := hE
  obtain ⟨h0, h1, h2, h3, h4, h5, h6⟩ := endCell hb
  have f2 := hb.frozen 2; have f6 := hb.frozen 6
  have hm : m = s.pend.length := by have := hr.len; simpa using this.symm
  have q1 := hs.own0; have q2 := hs.own1
  have bm : m < 256 := by omega
  have hmk : makeS s = { s with next := s.next + 1, pend := s.pend ++ [s.next] } := by simp [makeS, hl]
  have hfit : (makeS s).Fit := by
    rw [hmk]
    refine ⟨hs.own0, by have := hs.own1; show s.own ≤ s.next + 1; omega, by show s.next + 1 ≤ _; omega, hs.oth0, hs.oth1, hs.new1, hs.mask1, by simp; omega, ?_⟩
    intro x hx
    rcases List.mem_append.1 hx with hx | hx
    · have := hs.mem x hx; exact ⟨this.1, by show x < s.next + 1; omega⟩
    · rw [List.mem_singleton.1 hx]; exact ⟨hs.own1, by show s.next < s.next + 1; omega⟩
  have hszz : (w.setCell ⟨b, 2, none⟩ (.int .i64 (s.next + 1))).heap.size = w.heap.size := by simp [World.setCell]
  have hr1 : Row ((w.setCell ⟨b, 2, none⟩ (.int .i64 (s.next + 1))).alloc (.cells #[.int .i64 s.next] 3)) (ext o w.heap.size τ) τ 3 1 A m cc (ints s.pend) := by
    have := (hr.setCell_far (p := ⟨b, 2, none⟩) (hr.ne_blk hb (by decide)) (.int .i64 (s.next + 1))).step ((Step.refl [] _ o).alloc (.cells #[.int .i64 s.next] 3) τ) (by simp)
    rwa [hszz] at this
  have hs1 : Sl ((w.setCell ⟨b, 2, none⟩ (.int .i64 (s.next + 1))).alloc (.cells #[.int .i64 s.next] 3)) (ext o w.heap.size τ) τ 1 (some ⟨w.heap.size, 0, none⟩) 1 1 [.int .i64 s.next] := by
    have := (Row.made (w := w.setCell ⟨b, 2, none⟩ (.int .i64 (s.next + 1))) o τ 3 1 #[.int .i64 s.next] 1 rfl (by decide) 1 (Nat.le_refl _)).sl
    rwa [hszz] at this
  have HS := Lib.hid hS; have HB := Lib.hid hb; have HR := Lib.hid hr; have HR1 := Lib.hid hr1; have HS1 := Lib.hid hs1; have HO := Lib.hid ho; have HMK := Lib.hid hmk; have HF := Lib.hid hfit; have HM := Lib.hid hm; have HZ := Lib.hid hszz
  clear hS hb hr hr1 hs1 ho hmk hfit hszz hs hm
  obtain ⟨l, hl2⟩ : ∃ l, l = (packP (makeS s) s.next xs).length := ⟨_, rfl⟩
  rw [← hl2]
  have HL := Lib.hid hl2; clear hl2
  go_enter Try.func46, Try.ntmps46
  go_wp2_with (first
    | (go_at_call 60; refine (there_end h0).mono ?_; rintro e w' ⟨rfl, rfl⟩)
    | (at_builtin; go_loud (refine wpList_append_row _ rfl (.tmp 35) (.tmp 37) _ rfl el_int _ τ A m cc _ rfl HR1.out _ τ _ 1 1 [.int .i64 s.next] rfl HS1.out (by simp [Value.oneCell']) (by omega) (by simp only [maxLen]; omega) ?_); intro A' c' w1 hR1 hg hat; go_loud (have hR1 := hR1; rw [World.size_alloc, HZ.out] at hR1); go_loud (have hmg := make_grow HB.out HO.out HR.out hR1 hg); obtain ⟨hb1, hst1, g, rfl, hgb, hbg⟩ := hmg; have c6 := hb1.cell 6; have c6f := hb1.frozen 6; simp only [endCells, List.getElem?_toArray, List.getElem?_cons_zero, List.getElem?_cons_succ] at c6; have HB1 := Lib.hid hb1; have HST1 := Lib.hid hst1; have HR2 := Lib.hid hR1; clear hb1 hst1 hR1 hg hat))
  have hE2 : EndAt (w1.setCell ⟨b, 6, none⟩ (.slice (some ⟨g, 0, none⟩) (m + 1) c')) (ext (ext o w.heap.size τ) (w.heap.size + 1) τ) τ b (makeS s) := by
    refine ⟨some ⟨g, 0, none⟩, m + 1, c', ?_, ?_, ?_⟩
    · rw [HMK.out]; exact HB1.out.set_ 6 _
    · rw [ext_lt (by have := HB.out.lt; omega), ext_lt HB.out.lt]; exact HO.out
    · rw [HMK.out]
      have := HR2.out.setCell_far (p := ⟨b, 6, none⟩) (fun ad ha => by injection ha with ha; subst ha; exact hgb) (.slice (some ⟨g, 0, none⟩) (m + 1) c')
      simpa using this
  have hob : ext (ext o w.heap.size τ) (w.heap.size + 1) τ b = τ := by rw [ext_lt (by have := HB.out.lt; omega), ext_lt HB.out.lt]; exact HO.out
  have hst2 : Step [τ] w o (w1.setCell ⟨b, 6, none⟩ (.slice (some ⟨g, 0, none⟩) (m + 1) c')) (ext (ext o w.heap.size τ) (w.heap.size + 1) τ) :=
    HST1.out.setCell (.inr (List.mem_singleton.2 hob)) _
  refine (bytes_body _ _ τ τ2 σ b (makeS s) hE2 HF.out s.next (by omega) (by omega) ad n c xs (HS.out.step hst2 (by simpa using ht)) (by omega)).mono ?_
  rintro e w2 ⟨A3, c3, o3, rfl, H1⟩
  rw [← HL.out]
  have H2 := Lib.hid H1; have HE2 := Lib.hid hE2; have HST2 := Lib.hid hst2; clear H1 hE2 hst2
  go_wp2
  refine bodyPost_ret (results_tmp4 rfl _ _ _) rfl ?_
  refine ⟨A3, c3, o3, rfl, HST2.out.trans H2.out.1.nil, HE2.out.step H2.out.1 (by simp), ?_⟩
  rw [HL.out]; exact H2.out.2

/-- The cut '[1:]' of the full row. -/
theorem Row.cons_tail {w : World} {o : Own} {τ g n c : Nat} {xs : List Int} (h : Row w o τ 3 1 (some ⟨g, 0, none⟩) (n + 1) c (ints xs)) : Sl w o τ 1 (some ⟨g, 1, none⟩) n (c - 1) (ints xs.tail) := by
  have hl : xs.length = n + 1 := by have := h.len; simpa using this
  have := h.sl.cut (i := 1) (j := n + 1) (by omega) (Nat.le_refl _) (some ⟨g, 1, none⟩) (fun g' off hA _ => by injection hA with hA; injection hA with h1 h2; subst h1; subst h2; rfl)
  rw [Nat.add_sub_cancel, Nat.mul_one, Nat.mul_one, List.take_of_length_le (by simp [hl])] at this
  simpa [ints, List.drop_one, List.map_tail] using this

set_option maxRecDepth 100000 in
set_option maxHeartbeats 1000000 in
theorem Make_full (w : World) (o : Own) (τ τ2 σ b : Nat) (s : EndS) (hE : EndAt w o τ b s) (hs : s.Fit) (ht : τ2 ≠ τ) (hσ : σ ≠ τ) (hl : s.pend.length = 256) (ad : Addr) (n c : Nat) (xs : List UInt8) (hS : Sl w o τ2 1 (some ad) n c (byts xs)) (hn0 : 1 ≤ n) (hn1 : n ≤ 1191) (hnx : s.next ≤ 1999999999999) :
    Calls Try.prog 46 #[.pointer (some ⟨b, 0, none⟩), .slice (some ad) n c] w fun e w' => ∃ A c o' LA, e = .returned (.tuple #[.slice A (packP (makeS s) s.next xs).length c, .int .i64 s.next, .slice LA 1 1, .int .i64 0]) ∧
      Step [τ] w o w' o' ∧ EndAt w' o' τ b (makeS s) ∧ Row w' o' σ 5 1 A (packP (makeS s) s.next xs).length c (byts (packP (makeS s) s.next xs)) ∧ Sl w' o' σ 2 LA 1 1 (reps (lostP s)) := by
  obtain ⟨A, m, cc, hb, ho, hr⟩ := hE
  obtain ⟨h0, h1, h2, h3, h4, h5, h6⟩ := endCell hb
  have f2 := hb.frozen 2; have f6 := hb.frozen 6
  have hm : m = s.pend.length := by have := hr.len; simpa using this.symm
  have q1 := hs.own0; have q2 := hs.own1
  obtain rfl : m = 256 := by omega
  obtain ⟨p0, pr, hp⟩ : ∃ p0 pr, s.pend = p0 :: pr := by
    cases h : s.pend with
    | nil => rw [h] at hl; cases hl
    | cons a l => exact ⟨a, l, rfl⟩
  have hmk : makeS s = { s with next := s.next + 1, pend := pr ++ [s.next] } := by rw [makeS, if_neg (by omega), hp]; rfl
  have hlo : lostP s = [(p0, false)] := by rw [lostP, if_neg (by omega), hp]; rfl
  have hfit : (makeS s).Fit := by
    rw [hmk]
    have hpl : pr.length = 255 := by rw [hp] at hl; simpa using hl
    refine ⟨hs.own0, by have := hs.own1; show s.own ≤ s.next + 1; omega, by show s.next + 1 ≤ _; omega, hs.oth0, hs.oth1, hs.new1, hs.mask1, by simp [hpl], ?_⟩
    intro x hx
    rcases List.mem_append.1 hx with hx | hx
    · have := hs.mem x (by rw [hp]; exact List.mem_cons_of_mem _ hx); exact ⟨this.1, by show x < s.next + 1; omega⟩
    · rw [List.mem_singleton.1 hx]; exact ⟨hs.own1, by show s.next < s.next + 1; omega⟩
  have hszz : (w.setCell ⟨b, 2, none⟩ (.int .i64 (s.next + 1))).heap.size = w.heap.size := by simp [World.setCell]
  have hr1 : Row ((w.setCell ⟨b, 2, none⟩ (.int .i64 (s.next + 1))).alloc (.cells #[.int .i64 s.next] 3)) (ext o w.heap.size τ) τ 3 1 A 256 cc (ints s.pend) := by
    have := (hr.setCell_far (p := ⟨b, 2, none⟩) (hr.ne_blk hb (by decide)) (.int .i64 (s.next + 1))).step ((Step.refl [] _ o).alloc (.cells #[.int .i64 s.next] 3) τ) (by simp)
    rwa [hszz] at this
  have hs1 : Sl ((w.setCell ⟨b, 2, none⟩ (.int .i64 (s.next + 1))).alloc (.cells #[.int .i64 s.next] 3)) (ext o w.heap.size τ) τ 1 (some ⟨w.heap.size, 0, none⟩) 1 1 [.int .i64 s.next] := by
    have := (Row.made (w := w.setCell ⟨b, 2, none⟩ (.int .i64 (s.next + 1))) o τ 3 1 #[.int .i64 s.next] 1 rfl (by decide) 1 (Nat.le_refl _)).sl
    rwa [hszz] at this
  have HS := Lib.hid hS; have HB := Lib.hid hb; have HR := Lib.hid hr; have HR1 := Lib.hid hr1; have HS1 := Lib.hid hs1; have HO := Lib.hid ho; have HMK := Lib.hid hmk; have HF := Lib.hid hfit; have HM := Lib.hid hm; have HZ := Lib.hid hszz
  have HP := Lib.hid hp; have HLO := Lib.hid hlo
  clear hS hb hr hr1 hs1 ho hmk hfit hszz hs hm hp hlo hl
  obtain ⟨l, hl2⟩ : ∃ l, l = (packP (makeS s) s.next xs).length := ⟨_, rfl⟩
  rw [← hl2]
  have HL := Lib.hid hl2; clear hl2
  go_enter Try.func46, Try.ntmps46
  go_wp2_with (first
    | (go_at_call 60; refine (there_end h0).mono ?_; rintro e w' ⟨rfl, rfl⟩)
    | (at_builtin; refine wpList_append_row _ rfl (.tmp 35) (.tmp 37) _ rfl el_int _ τ A 256 cc _ rfl HR1.out _ τ _ 1 1 [.int .i64 s.next] rfl HS1.out (by simp [Value.oneCell']) (by omega) (by simp only [maxLen]; omega) ?_; intro A' c' w1 hR1 hg hat; have hR1 := hR1; rw [World.size_alloc, HZ.out] at hR1; have hmg := make_grow HB.out HO.out HR.out hR1 hg; obtain ⟨hb1, hst1, g, rfl, hgb, hbg⟩ := hmg; have c6 := hb1.cell 6; have c6f := hb1.frozen 6; simp only [endCells, List.getElem?_toArray, List.getElem?_cons_zero, List.getElem?_cons_succ] at c6; obtain ⟨c7, _⟩ := hR1.cellAt (k := 0) (u := .int .i64 p0) (by rw [HP.out]; rfl); have hb1lt := hb1.lt; have hglt : g < w1.heap.size := hR1.lt rfl; have HB1 := Lib.hid hb1; have HST1 := Lib.hid hst1; have HR2 := Lib.hid hR1; clear hb1 hst1 hR1 hg hat))
  rotate_left

  have hob : ext (ext o w.heap.size τ) (w.heap.size + 1) τ b = τ := by rw [ext_lt (by have := HB.out.lt; omega), ext_lt HB.out.lt]; exact HO.out
  have hwsz : (w1.setCell ⟨b, 6, none⟩ (.slice (some ⟨g, 0, none⟩) 257 c')).heap.size = w1.heap.size := by simp [World.setCell]
  have hst2 := (HST1.out.setCell (p := ⟨b, 6, none⟩) (.inr (List.mem_singleton.2 hob)) (.slice (some ⟨g, 0, none⟩) 257 c')).alloc (.cells #[.int .i64 p0, .bool false] 140) σ
  rw [hwsz] at hst2
  have hr2 := (HR2.out.setCell_far (p := ⟨b, 6, none⟩) (fun ad ha => by injection ha with ha; subst ha; exact hgb) (.slice (some ⟨g, 0, none⟩) 257 c')).step ((Step.refl [] _ _).alloc (.cells #[.int .i64 p0, .bool false] 140) σ) (by simp)
  rw [hwsz, show ints s.pend ++ [Value.int .i64 s.next] = ints (p0 :: (pr ++ [s.next])) by rw [HP.out]; simp] at hr2
  have hs2 := Row.cons_tail hr2
  have hrep := (Row.made (w := w1.setCell ⟨b, 6, none⟩ (.slice (some ⟨g, 0, none⟩) 257 c')) (ext (ext o w.heap.size τ) (w.heap.size + 1) τ) σ 140 2 #[.int .i64 p0, .bool false] 1 rfl (by decide) 1 (Nat.le_refl _)).sl
  rw [hwsz] at hrep
  have hb2 := (HB1.out.set_ 6 (.slice (some ⟨g, 0, none⟩) 257 c')).alloc (.cells #[.int .i64 p0, .bool false] 140)
  have hob2 : ext (ext (ext o w.heap.size τ) (w.heap.size + 1) τ) w1.heap.size σ b = τ := by rw [ext_lt HB1.out.lt]; exact hob
  have HST2 := Lib.hid hst2; have HSR := Lib.hid hrep; have HB2 := Lib.hid hb2; have HOB2 := Lib.hid hob2
  refine (cloneI _ _ τ τ _ 256 (c' - 1) _ hs2 (one_ints _) (by omega)).mono ?_
  clear hst2 hr2 hs2 hrep hb2 hob hob2 hwsz
  rintro e w3 ⟨A3, c3, rfl, hR3, hB3, hF3⟩
  have hb3 := HB2.out.below hB3 HB2.out.lt
  have d6 := hb3.cell 6; have d6f := hb3.frozen 6
  simp only [endCells, List.setIfInBounds_toArray, List.set_cons_succ, List.set_cons_zero, List.getElem?_toArray, List.getElem?_cons_zero, List.getElem?_cons_succ] at d6
  have hne3 : ∀ ad, A3 = some ad → ad.block ≠ b := fun ad ha => by have := hF3 ad ha; have := HB2.out.lt; omega
  have HB3 := Lib.hid hb3; have HR3 := Lib.hid hR3; have HW3 := Lib.hid hB3; have HN3 := Lib.hid hne3
  clear hb3 hR3 hB3 hF3 hne3
  go_wp2_with fail
  have hst3 := HST2.out.below HW3.out τ
  have hob3 : ext (ext (ext (ext o w.heap.size τ) (w.heap.size + 1) τ) w1.heap.size σ) ((w1.setCell ⟨b, 6, none⟩ (.slice (some ⟨g, 0, none⟩) 257 c')).alloc (.cells #[.int .i64 p0, .bool false] 140)).heap.size τ b = τ := by rw [ext_lt HB2.out.lt]; exact HOB2.out
  have hst4 := hst3.setCell (p := ⟨b, 6, none⟩) (.inr (List.mem_singleton.2 hob3)) (.slice A3 256 c3)
  have hE4 : EndAt (w3.setCell ⟨b, 6, none⟩ (.slice A3 256 c3)) (ext (ext (ext (ext o w.heap.size τ) (w.heap.size + 1) τ) w1.heap.size σ) ((w1.setCell ⟨b, 6, none⟩ (.slice (some ⟨g, 0, none⟩) 257 c')).alloc (.cells #[.int .i64 p0, .bool false] 140)).heap.size τ) τ b (makeS s) := by
    refine ⟨A3, 256, c3, ?_, hob3, ?_⟩
    · rw [HMK.out]; exact HB3.out.set_ 6 _
    · rw [HMK.out]; exact HR3.out.setCell_far HN3.out _
  have hsr4 := (HSR.out.step ((Step.refl [] _ _).below HW3.out τ) (by simp)).step ((Step.refl [τ] _ _).setCell (p := ⟨b, 6, none⟩) (.inr (List.mem_singleton.2 hob3)) (.slice A3 256 c3)) (by simpa using hσ)
  refine (bytes_body _ _ τ τ2 σ b (makeS s) hE4 HF.out s.next (by omega) (by omega) ad n c xs (HS.out.step hst4 (by simpa using ht)) (by omega)).mono ?_
  rintro e w5 ⟨A5, c5, o5, rfl, H1⟩
  rw [← HL.out]
  have H2 := Lib.hid H1; have HE4 := Lib.hid hE4; have HST4 := Lib.hid hst4; have HSR4 := Lib.hid hsr4; clear H1 hE4 hst4 hst3 hsr4 hob3
  go_wp2
  refine bodyPost_ret (results_tmp4 rfl _ _ _) rfl ?_
  refine ⟨A5, c5, o5, _, rfl, HST4.out.trans H2.out.1.nil, HE4.out.step H2.out.1 (by simp), ?_, ?_⟩
  · rw [HL.out]; exact H2.out.2
  · rw [HLO.out]; exact HSR4.out.step H2.out.1 (by simp)
  · have hh := HR2.out.sl.2.1
    exfalso
    omega
end Go.Proofs.Ythjjipcbpmdfnaa
