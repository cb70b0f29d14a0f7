/-
  PLAIN LAW of ChannelTwice: each message in a packet of its own, packets that arrive in the opposite order, each of them twice; no program in sight.
-/
import Derived.Test.YthjjipcbpmdfnaaChLM
namespace Go.Proofs.Ythjjipcbpmdfnaa

/-- Message i of M. -/
def mg (M : List (List UInt8)) (i : Nat) : List UInt8 := M.getD i []
/-- The sender: k messages were sent, those below d are not done. -/
def tA (M : List (List UInt8)) (k d : Nat) : ChS :=
  ⟨AEnd.conc 7 9 ⟨k, 0, 0, List.range d⟩, if d = 0 then k else 0, k, 0, 0, false, fun i => if i < d then some ⟨mg M i, 7 + (i : Int), 0⟩ else none, fun _ => none, fun p => if 7 ≤ p ∧ p < 7 + (d : Int) then some [(p - 7).toNat] else none⟩
def pkA (M : List (List UInt8)) (k : Nat) : APkt := ⟨some (k, hdrB k (mg M k).length ++ mg M k), none⟩
def bytA (M : List (List UInt8)) (k : Nat) : List UInt8 := APkt.enc 7 9 (pkA M k)

theorem cntN_full {α : Type} {f : Nat → Option α} : ∀ {N : Nat}, (∀ i, i < N → (f i).isSome = true) → cntN f N = N
  | 0, _ => rfl
  | N + 1, h => by rw [cntN_succ, h N (Nat.lt_succ_self N), cntN_full fun i hi => h i (by omega)]; rfl
theorem cntN_below {α : Type} {f : Nat → Option α} {d : Nat} (h : ∀ i, (f i).isSome = decide (i < d)) : ∀ {N : Nat}, d ≤ N → cntN f N = d
  | 0, hd => by
    obtain rfl : d = 0 := by omega
    rfl
  | N + 1, hd => by
    rcases Nat.lt_or_ge N d with h1 | h1
    · obtain rfl : d = N + 1 := by omega
      exact cntN_full fun i hi => by rw [h i]; simpa using hi
    · rw [cntN_succ, h N, cntN_below h h1]
      have : ¬ N < d := by omega
      simp [this]
theorem waitA (M : List (List UInt8)) {k d : Nat} (hd : d ≤ k) : waitS (tA M k d) = d := by
  unfold waitS
  show cntN (fun i => if i < d then some (⟨mg M i, 7 + (i : Int), 0⟩ : OutM) else none) k = d
  exact cntN_below (fun i => by by_cases hi : i < d <;> simp [hi]) hd

/-- The sender between Send and Flush. -/
def tS (M : List (List UInt8)) (k : Nat) : ChS :=
  { tA M k k with out := updN (tA M k k).out k (some ⟨mg M k, -1, 0⟩), sent := k + 1 }
theorem send_tA {M : List (List UInt8)} {k : Nat} (hk : k < 256) (hM : (mg M k).length ≤ 1024) : sendS (tA M k k) (mg M k) = (tS M k, 0) := by
  unfold sendS
  rw [if_neg (by omega), if_neg (by rw [waitA M (Nat.le_refl _)]; omega)]
  rfl
theorem tS_first (M : List (List UInt8)) (k : Nat) : (tS M k).first = 0 := by
  show (if k = 0 then k else 0) = 0
  split <;> omega
theorem body_tS {M : List (List UInt8)} {k : Nat} (hk : k < 60) (hM : (mg M k).length ≤ 1024) : bodyS { tS M k with tick := 0 } = (hdrB k (mg M k).length ++ mg M k, [k]) := by
  have hf : ({ tS M k with tick := 0 } : ChS).first = 0 := tS_first M k
  have hs : ({ tS M k with tick := 0 } : ChS).sent = k + 1 := rfl
  have hout : ∀ i, ({ tS M k with tick := 0 } : ChS).out i = if i = k then some ⟨mg M k, -1, 0⟩ else if i < k then some ⟨mg M i, 7 + (i : Int), 0⟩ else none := fun i => rfl
  have htk : ({ tS M k with tick := 0 } : ChS).tick = 0 := rfl
  generalize ({ tS M k with tick := 0 } : ChS) = s at hf hs hout htk
  have h0 : ∀ j, j ≤ k → bodyG s j = ([], []) := by
    intro j
    induction j with
    | zero => intro _; rfl
    | succ j ih =>
      intro hj
      rw [show bodyG s (j + 1) = bodyStep s (s.first + j) (bodyG s j) from rfl, ih (by omega), hf, Nat.zero_add]
      have ho : s.out j = some ⟨mg M j, 7 + (j : Int), 0⟩ := by rw [hout, if_neg (by omega), if_pos (by omega)]
      unfold bodyStep
      rw [ho]
      simp only
      rw [if_neg]
      rintro ⟨hd, -⟩
      unfold dueS at hd
      rw [ho, htk] at hd
      simp at hd
      omega
  unfold bodyS
  rw [hf, hs, Nat.zero_add, show min (k + 1) 64 - 0 = k + 1 by omega, show bodyG s (k + 1) = bodyStep s (s.first + k) (bodyG s k) from rfl, h0 k (Nat.le_refl _), hf, Nat.zero_add]
  have ho : s.out k = some ⟨mg M k, -1, 0⟩ := by rw [hout, if_pos rfl]
  unfold bodyStep
  rw [ho]
  simp only
  rw [if_pos]
  · simp
  · refine ⟨?_, by simp; omega⟩
    unfold dueS
    rw [ho]
    simp
theorem adv_stop {out : Nat → Option OutM} {sent k f : Nat} (h : out f ≠ none) : adv out sent k f = f := by
  cases k with
  | zero => rfl
  | succ k => rw [adv, if_neg (fun hc => h hc.2)]
theorem adv_run {out : Nat → Option OutM} {sent : Nat} (h : ∀ i, i < sent → out i = none) : ∀ {k f : Nat}, f + k = sent → adv out sent k f = sent
  | 0, f, e => by rw [adv]; omega
  | k + 1, f, e => by
    rw [adv, if_pos ⟨by omega, h f (by omega)⟩]
    exact adv_run h (by omega)

theorem flush_tS {M : List (List UInt8)} {k : Nat} (hk : k < 60) (hM : (mg M k).length ≤ 1024) : flushS (tS M k) 0 = (tA M (k + 1) (k + 1), bytA M k, 0) := by
  have hb := body_tS hk hM
  have hlt : ¬ (0 : Int) < (tS M k).tick := show ¬ (0 : Int) < 0 by decide
  rw [flushS_send hlt rfl (by rw [hb]; simp), hb]
  have he : ({ tS M k with tick := 0 } : ChS).e = AEnd.conc 7 9 ⟨k, 0, 0, List.range k⟩ := rfl
  have hlost : lostP (AEnd.conc 7 9 ⟨k, 0, 0, List.range k⟩) = [] := by
    unfold lostP
    rw [if_pos]
    simp [AEnd.conc]; omega
  have hmk : makeS (AEnd.conc 7 9 ⟨k, 0, 0, List.range k⟩) = AEnd.conc 7 9 ⟨k + 1, 0, 0, List.range (k + 1)⟩ := by
    rw [conc_make]
    unfold AEnd.make
    simp only [List.length_range]
    rw [if_pos (by omega), List.range_succ]
  rw [he, hlost, conc_pack, hmk]
  have hnx : (AEnd.conc 7 9 ⟨k, 0, 0, List.range k⟩).next = 7 + (k : Int) := rfl
  rw [hnx]
  have hout : markS ({ tS M k with tick := 0 } : ChS).out (7 + (k : Int)) 0 [k] = fun i => if i < k + 1 then some ⟨mg M i, 7 + (i : Int), 0⟩ else none := by
    funext i
    rw [markS_at]
    show (if i ∈ [k] then ((if i = k then some (⟨mg M k, -1, 0⟩ : OutM) else if i < k then some (⟨mg M i, 7 + (i : Int), 0⟩ : OutM) else none)).map (fun m => { m with packet := 7 + (k : Int), tick := 0 }) else (if i = k then some (⟨mg M k, -1, 0⟩ : OutM) else if i < k then some (⟨mg M i, 7 + (i : Int), 0⟩ : OutM) else none)) = _
    by_cases hi : i = k
    · subst hi; simp
    · simp only [List.mem_singleton, hi, if_false]
      by_cases h2 : i < k
      · rw [if_pos h2, if_pos (by omega)]
      · rw [if_neg h2, if_neg (by omega)]
  have hpk : updI ({ tS M k with tick := 0 } : ChS).packets (7 + (k : Int)) (some [k]) = fun p => if 7 ≤ p ∧ p < 7 + ((k + 1 : Nat) : Int) then some [(p - 7).toNat] else none := by
    funext p
    show (if p = 7 + (k : Int) then some [k] else if 7 ≤ p ∧ p < 7 + (k : Int) then some [(p - 7).toNat] else none) = _
    by_cases hp : p = 7 + (k : Int)
    · subst hp
      rw [if_pos rfl, if_pos (by omega)]
      congr 2; omega
    · rw [if_neg hp]
      by_cases h2 : 7 ≤ p ∧ p < 7 + (k : Int)
      · rw [if_pos h2, if_pos (by omega)]
      · rw [if_neg h2, if_neg (by omega)]
  rw [hout, hpk]
  refine Prod.ext ?_ rfl
  show ({ decS _ [] with owes := false } : ChS) = tA M (k + 1) (k + 1)
  unfold decS
  simp only [List.foldl_nil]
  rw [adv_stop (by rw [show ({ tS M k with tick := 0 } : ChS).first = 0 from tS_first M k]; simp)]
  unfold tA
  rw [if_neg (Nat.succ_ne_zero k)]
  rw [show ({ tS M k with tick := 0 } : ChS).first = 0 from tS_first M k]
  rfl

/-! ### the other side -/
/-- The receiver behind i packets of n (the last ones). -/
def eB (n i : Nat) : AEnd := if i = 0 then ⟨0, 0, 0, []⟩ else ⟨0, n, 2 ^ (i - 1) - 1, []⟩
def tB (M : List (List UInt8)) (n i : Nat) (ow : Bool) : ChS :=
  ⟨AEnd.conc 9 7 (eB n i), 0, 0, if i = n then n else 0, 0, ow, fun _ => none, fun j => if i < n ∧ n - i ≤ j ∧ j < n then some (mg M j) else none, fun _ => none⟩
theorem tB_new (M : List (List UInt8)) {n : Nat} (hn : 0 < n) : tB M n 0 false = chNew 9 7 := by
  unfold tB chNew eB
  rw [if_pos rfl, if_neg (by omega)]
  simp only [AEnd.conc]
  congr 1
  funext j
  rw [if_neg (by omega)]
theorem masks : ∀ i : Nat, i < 21 → (2 ^ i - 1 ||| 2 ^ i = 2 ^ (i + 1) - 1) ∧ (2 ^ i - 1).testBit i = false ∧ (2 ^ (i + 1) - 1).testBit i = true := by decide
/-- The End of the receiver takes the packet n-1-i. -/
theorem accB {n i : Nat} (hi : i < n) (hn : n ≤ 20) : acceptA (eB n i) (n - 1 - i) = (eB n (i + 1), 0) := by
  unfold eB
  rw [if_neg (Nat.succ_ne_zero i)]
  rcases Nat.eq_zero_or_pos i with h0 | h0
  · subst h0
    rw [if_pos rfl]
    unfold acceptA
    simp only
    rw [if_neg (by omega), if_neg (by omega), if_neg (by omega), if_neg (by omega)]
    simp only [Nat.zero_mul, Nat.zero_mod]
    congr 2
    all_goals simp <;> omega
  · rw [if_neg (by omega)]
    unfold acceptA
    simp only
    obtain ⟨m1, m2, -⟩ := masks (i - 1) (by omega)
    have e1 : n - 2 - (n - 1 - i) = i - 1 := by omega
    rw [if_neg (by omega), if_neg (by omega), if_pos (by omega), e1, if_neg (by rw [m2]; decide), m1, show i - 1 + 1 = i by omega, show i + 1 - 1 = i by omega]
theorem accB2 {n i : Nat} (hi : i < n) (hn : n ≤ 20) : acceptA (eB n (i + 1)) (n - 1 - i) = (eB n (i + 1), 192) := by
  unfold eB
  rw [if_neg (Nat.succ_ne_zero i)]
  unfold acceptA
  simp only
  rw [if_neg (by omega)]
  rcases Nat.eq_zero_or_pos i with h0 | h0
  · subst h0
    rw [if_pos (by omega)]
  · rw [if_neg (by omega), if_pos (by omega)]
    obtain ⟨-, -, m3⟩ := masks (i - 1) (by omega)
    have e1 : n - 2 - (n - 1 - i) = i - 1 := by omega
    rw [e1, show i + 1 - 1 = i - 1 + 1 by omega, if_pos m3]
theorem eB_heard (n i : Nat) (_hi : i ≤ n) (hn : n ≤ 20) : (eB n i).heard ≤ 20 ∧ (eB n i).n = 0 ∧ (eB n i).pend = [] := by
  unfold eB; split <;> exact ⟨by simp; try omega, rfl, rfl⟩
theorem fitsA {M : List (List UInt8)} {k : Nat} (hk : k < 20) (hM : (mg M k).length ≤ 1024) (a : AEnd) : (pkA M k).Fits a :=
  ⟨.inl (by simp [pkA]), fun j xs h => by
    simp only [pkA, Option.some.injEq, Prod.mk.injEq] at h
    obtain ⟨rfl, rfl⟩ := h
    simp [hdrB]; omega, fun m mk h => by simp [pkA] at h⟩
theorem recvB {M : List (List UInt8)} {n i k : Nat} (hi : i ≤ n) (hn : n ≤ 20) (hk : k < 20) (hM : (mg M k).length ≤ 1024) : recvP (AEnd.conc 9 7 (eB n i)) (bytA M k) = ((acceptA (eB n i) k).1.conc 9 7, if (acceptA (eB n i) k).2 = 0 then hdrB k (mg M k).length ++ mg M k else [], [], (acceptA (eB n i) k).2) := by
  obtain ⟨h1, h2, h3⟩ := eB_heard n i hi hn
  have := recv_enc 9 7 (by decide) (by decide) (eB n i) (by omega) (by omega) (pkA M k) (fitsA hk hM _)
  unfold bytA
  rw [this, recvA_eq]
  simp only [pkA, repA, pendA, List.map_nil, h3]
  rw [← h3, show (eB n i).pend = (acceptA (eB n i) k).1.pend from (acceptA_pend _ _).symm]

/-- What is delivered behind the packet n-1-i. -/
def dB (M : List (List UInt8)) (n i : Nat) : List (List UInt8) := if i + 1 = n then (List.range n).map (mg M) else []
theorem decS_nil0 {s : ChS} (hf : s.first = 0) (hs : s.sent = 0) : decS s [] = s := by
  unfold decS
  simp only [List.foldl_nil, hf, hs]
  rw [show adv s.out 0 (0 - 0) 0 = 0 from rfl]
  cases s; simp only at hf hs; subst hf hs; rfl
theorem near_k {k : Nat} (h : k < 20) : near ((0 : Nat) : Int) ((k % 65536 : Nat) : Int) = k := by unfold near; omega
theorem parse_mg {M : List (List UInt8)} {k nx : Nat} (hk : k < 20) (hM : (mg M k).length ≤ 1024) (hx : nx ≤ 20) : parseC nx (hdrB k (mg M k).length ++ mg M k).length (hdrB k (mg M k).length ++ mg M k) = some [(k, mg M k)] := by
  have := parse_good (next := nx) (xs := hdrB k (mg M k).length ++ mg M k) (by simp [hdrB]) ?_
  · unfold parseP' at this
    rw [this]
    have e1 : beNum ((hdrB k (mg M k).length ++ mg M k).take 2) = k % 65536 := beNum_hdr k _ _ _
    have e2 : beNum (((hdrB k (mg M k).length ++ mg M k).drop 2).take 2) = (mg M k).length := beNum_hdr2 _ _ _ _ hM
    have e4 : near (nx : Int) ((k % 65536 : Nat) : Int) = k := by unfold near; omega
    rw [e1, e2, e4]
    have e5 : (hdrB k (mg M k).length ++ mg M k).drop (4 + (mg M k).length) = [] := List.drop_eq_nil_of_le (by simp [hdrB]; omega)
    have e6 : ((hdrB k (mg M k).length ++ mg M k).drop 4).take (mg M k).length = mg M k := by
      rw [show (hdrB k (mg M k).length ++ mg M k).drop 4 = mg M k from rfl, List.take_length]
    rw [e5, e6]
    simp [parseC]
  · have e1 : beNum ((hdrB k (mg M k).length ++ mg M k).take 2) = k % 65536 := beNum_hdr k _ _ _
    have e2 : beNum (((hdrB k (mg M k).length ++ mg M k).drop 2).take 2) = (mg M k).length := beNum_hdr2 _ _ _ _ hM
    have e4 : near (nx : Int) ((k % 65536 : Nat) : Int) = k := by unfold near; omega
    rw [e1, e2, e4]
    unfold badHead
    have e3 : (hdrB k (mg M k).length ++ mg M k).length = 4 + (mg M k).length := by simp [hdrB]; omega
    omega
theorem dlv_none {early : Nat → Option (List UInt8)} {k n : Nat} (h : early n = none) : dlv early k n = [] := by
  cases k with
  | zero => rfl
  | succ k => rw [dlv, h]
theorem dlv_all {M : List (List UInt8)} {n : Nat} {early : Nat → Option (List UInt8)} (h : ∀ j, early j = if j < n then some (mg M j) else none) : ∀ {k a : Nat}, a ≤ n → n - a < k → dlv early k a = ((List.range n).map (mg M)).drop a
  | 0, _, _, hk => by omega
  | k + 1, a, ha, hk => by
    rw [dlv, h a]
    rcases Nat.lt_or_ge a n with h1 | h1
    · rw [if_pos h1]
      simp only
      rw [dlv_all h (k := k) (a := a + 1) (by omega) (by omega)]
      have e : a < ((List.range n).map (mg M)).length := by simpa using h1
      rw [List.drop_eq_getElem_cons e]
      congr 1
      simp
    · rw [if_neg (by omega)]
      obtain rfl : a = n := by omega
      simp
/-- R1: the packet n-1-i comes for the first time. -/
theorem recv1 {M : List (List UInt8)} {n i : Nat} (hi : i < n) (hn : n ≤ 20) (hM : ∀ k, (mg M k).length ≤ 1024) : recvS (tB M n i false) (bytA M (n - 1 - i)) = (tB M n (i + 1) true, dB M n i, 0) := by
  have hr := recvB (M := M) (k := n - 1 - i) (Nat.le_of_lt hi) hn (by omega) (hM _)
  rw [accB hi hn] at hr
  simp only [if_true] at hr
  unfold recvS
  rw [show (tB M n i false).e = AEnd.conc 9 7 (eB n i) from rfl, hr]
  simp only
  rw [if_neg (by decide), if_neg (by simp [hdrB]), if_neg (by simp)]
  rw [decS_nil0 (s := { tB M n i false with e := AEnd.conc 9 7 (eB n (i + 1)) }) rfl rfl]
  have hnx : (tB M n i false).next = 0 := by show (if i = n then n else 0) = 0; rw [if_neg (by omega)]
  rw [hnx, parse_mg (by omega) (hM _) (by omega)]
  simp only
  have hkeep : keepS 0 (tB M n i false).early [(n - 1 - i, mg M (n - 1 - i))] = fun j => if n - (i + 1) ≤ j ∧ j < n then some (mg M j) else none := by
    funext j
    show keep1 0 (fun j => if i < n ∧ n - i ≤ j ∧ j < n then some (mg M j) else none) (n - 1 - i, mg M (n - 1 - i)) j = _
    unfold keep1
    simp only
    rw [if_pos ⟨Nat.zero_le _, by rw [if_neg (by omega)]⟩]
    unfold updN
    by_cases hj : j = n - 1 - i
    · rw [if_pos hj, if_pos (by omega), hj]
    · rw [if_neg hj]
      show (if i < n ∧ n - i ≤ j ∧ j < n then some (mg M j) else none) = _
      by_cases h2 : i < n ∧ n - i ≤ j ∧ j < n
      · rw [if_pos h2, if_pos (by omega)]
      · rw [if_neg h2, if_neg (by omega)]
  rw [hkeep]
  unfold dB
  by_cases hl : i + 1 = n
  · rw [if_pos hl]
    have hd := dlv_all (M := M) (n := n) (early := fun j => if n - (i + 1) ≤ j ∧ j < n then some (mg M j) else none) (fun j => by
      by_cases h2 : j < n
      · rw [if_pos (by omega), if_pos h2]
      · rw [if_neg (by omega), if_neg h2]) (k := 64) (a := 0) (Nat.zero_le _) (by omega)
    rw [List.drop_zero] at hd
    rw [hd]
    refine Prod.ext ?_ rfl
    unfold tB
    rw [if_pos hl]
    simp only [List.length_map, List.length_range, Nat.zero_add]
    congr 1
    funext j
    unfold dropN
    rw [if_neg (by omega : ¬ (i + 1 < n ∧ n - (i + 1) ≤ j ∧ j < n))]
    split
    · rfl
    · show (if n - (i + 1) ≤ j ∧ j < n then some (mg M j) else none) = none
      rw [if_neg (by omega)]
  · rw [if_neg hl, dlv_none (by rw [if_neg (by omega)])]
    refine Prod.ext ?_ rfl
    unfold tB
    rw [if_neg hl]
    simp only [List.length_nil, Nat.add_zero]
    congr 1
    funext j
    unfold dropN
    rw [if_neg (by omega)]
    show (if n - (i + 1) ≤ j ∧ j < n then some (mg M j) else none) = _
    by_cases h2 : n - (i + 1) ≤ j ∧ j < n
    · rw [if_pos h2, if_pos (by omega)]
    · rw [if_neg h2, if_neg (by omega)]
/-- R4: it comes again. -/
theorem recv2 {M : List (List UInt8)} {n i : Nat} (hi : i < n) (hn : n ≤ 20) (hM : ∀ k, (mg M k).length ≤ 1024) : recvS (tB M n (i + 1) false) (bytA M (n - 1 - i)) = (tB M n (i + 1) true, [], 192) := by
  have hr := recvB (M := M) (k := n - 1 - i) (i := i + 1) (by omega) hn (by omega) (hM _)
  rw [accB2 hi hn] at hr
  simp only [show ¬ ((192 : Int) = 0) by decide, if_false] at hr
  unfold recvS
  rw [show (tB M n (i + 1) false).e = AEnd.conc 9 7 (eB n (i + 1)) from rfl, hr]
  simp only
  rw [if_neg (by decide), if_neg (by decide), if_pos (by decide)]
  rw [decS_nil0 (s := { tB M n (i + 1) false with e := AEnd.conc 9 7 (eB n (i + 1)) }) rfl rfl]
  rfl
/-- What acknowledges. -/
def ackB (n i : Nat) : List UInt8 := APkt.enc 9 7 ⟨none, some (n - 1, 2 ^ i - 1)⟩
/-- R2, R5. -/
theorem flush1 {M : List (List UInt8)} {n i : Nat} (hi : i < n) : flushS (tB M n (i + 1) true) 0 = (tB M n (i + 1) false, ackB n i, 0) := by
  rw [flushS_none (s1 := tB M n (i + 1) true) (show ¬ (0 : Int) < 0 by decide) rfl (show (bodyS (tB M n (i + 1) true)).2.length = 0 from rfl)]
  have he : (tB M n (i + 1) true).e = AEnd.conc 9 7 (eB n (i + 1)) := rfl
  have hh : 0 < (eB n (i + 1)).heard := by unfold eB; rw [if_neg (Nat.succ_ne_zero i)]; show 0 < n; omega
  rw [if_pos (show (tB M n (i + 1) true).owes = true from rfl), he, if_pos (by simp only [AEnd.conc]; omega), conc_ack 9 7 _ hh]
  have hnote : (eB n (i + 1)).note = some (n - 1, 2 ^ i - 1) := by
    unfold AEnd.note
    rw [if_pos hh]
    unfold eB
    rw [if_neg (Nat.succ_ne_zero i)]
    rfl
  rw [hnote]
  rfl
/-- R3. -/
theorem flush2 {M : List (List UInt8)} {n i : Nat} : flushS (tB M n i false) 0 = (tB M n i false, [], 0) := by
  rw [flushS_none (s1 := tB M n i false) (show ¬ (0 : Int) < 0 by decide) rfl (show (bodyS (tB M n i false)).2.length = 0 from rfl)]
  rw [if_neg (show ¬ (tB M n i false).owes = true from by simp [tB])]

/-! ### the acknowledgement -/
theorem named_ack {n i k : Nat} (hi : i < n) (hn : n ≤ 20) (hk : k < n - i) : namedA (n - 1) (2 ^ i - 1) k = decide (k = n - 1 - i) := by
  unfold namedA
  rcases Nat.eq_zero_or_pos i with h0 | h0
  · subst h0
    rw [Bool.eq_iff_iff]
    simp
  · rw [Bool.eq_iff_iff]
    simp only [Bool.or_eq_true, beq_iff_eq, Bool.and_eq_true, decide_eq_true_eq]
    constructor
    · rintro (h | ⟨⟨h1, h2⟩, h3⟩)
      · omega
      · rw [Nat.testBit_two_pow_sub_one] at h3
        simp only [decide_eq_true_eq] at h3
        omega
    · intro h
      refine .inr ⟨⟨by omega, by omega⟩, ?_⟩
      rw [Nat.testBit_two_pow_sub_one]
      simp; omega
theorem ack_left {n i : Nat} (hi : i < n) (hn : n ≤ 20) : ackLA (n - 1) (2 ^ i - 1) (List.range (n - i)) = List.range (n - 1 - i) ∧ ackRA (n - 1) (2 ^ i - 1) (List.range (n - i)) = [(n - 1 - i, true)] := by
  obtain ⟨d, hd⟩ : ∃ d, d = n - 1 - i := ⟨_, rfl⟩
  have e : n - i = d + 1 := by omega
  have hnm : ∀ k, k < d + 1 → namedA (n - 1) (2 ^ i - 1) k = decide (k = d) := fun k hk => by rw [hd]; exact named_ack hi hn (by omega)
  rw [← hd, e, ackLA_eq, ackRA_eq, List.range_succ]
  have f1 : ∀ k, k < d + 1 → decide (k + 32 < n - 1) = false := fun k hk => by simp; omega
  constructor
  · rw [List.filter_append]
    have h1 : (List.range d).filter (fun k => !(namedA (n - 1) (2 ^ i - 1) k) && !(decide (k + 32 < n - 1))) = List.range d := by
      rw [List.filter_eq_self]
      intro k hk
      have hk' := List.mem_range.1 hk
      rw [hnm k (by omega), f1 k (by omega)]
      simp; omega
    rw [h1]
    simp [hnm d (by omega)]
  · rw [List.filter_append]
    have h1 : (List.range d).filter (fun k => namedA (n - 1) (2 ^ i - 1) k || decide (k + 32 < n - 1)) = [] := by
      rw [List.filter_eq_nil_iff]
      intro k hk
      have hk' := List.mem_range.1 hk
      rw [hnm k (by omega), f1 k (by omega)]
      simp; omega
    rw [h1]
    simp [hnm d (by omega)]
/-- R6: the sender hears of it. -/
theorem recv6 {M : List (List UInt8)} {n i : Nat} (hi : i < n) (hn : n ≤ 20) : recvS (tA M n (n - i)) (ackB n i) = (tA M n (n - (i + 1)), [], 0) := by
  obtain ⟨e1, e2⟩ := ack_left hi hn
  have hm : 2 ^ i - 1 < 4294967296 := by
    have := Nat.pow_le_pow_right (n := 2) (by decide) (show i ≤ 20 by omega)
    omega
  have hb : ∀ j, (2 ^ i - 1).testBit j = true → j + 1 ≤ n - 1 := fun j hj => by
    rw [Nat.testBit_two_pow_sub_one] at hj
    simp only [decide_eq_true_eq] at hj
    omega
  have hr := recv_enc 7 9 (by decide) (by decide) ⟨n, 0, 0, List.range (n - i)⟩ (by show n ≤ 30000; omega) (Nat.zero_le _) ⟨none, some (n - 1, 2 ^ i - 1)⟩ ⟨.inr (by simp), fun k xs h => (by cases h), fun m mk h => by
    simp only [Option.some.injEq, Prod.mk.injEq] at h
    obtain ⟨rfl, rfl⟩ := h
    exact ⟨by show n - 1 < n; omega, hm, hb⟩⟩
  rw [recvA_eq] at hr
  simp only [pendA, repA] at hr
  rw [e1, e2] at hr
  unfold recvS ackB
  rw [show (tA M n (n - i)).e = AEnd.conc 7 9 ⟨n, 0, 0, List.range (n - i)⟩ from rfl, hr]
  simp only [List.map_cons, List.map_nil]
  rw [if_neg (by decide), if_pos (by simp)]
  refine Prod.ext ?_ rfl
  obtain ⟨d, hd⟩ : ∃ d, d = n - 1 - i := ⟨_, rfl⟩
  rw [← hd, show n - i = d + 1 by omega, show n - (i + 1) = d by omega]
  have hdn : d < n := by omega
  show decS { tA M n (d + 1) with e := AEnd.conc 7 9 ⟨n, 0, 0, List.range d⟩ } [(7 + (d : Int), true)] = tA M n d
  unfold decS
  simp only [List.foldl_cons, List.foldl_nil]
  have hpk : ({ tA M n (d + 1) with e := AEnd.conc 7 9 ⟨n, 0, 0, List.range d⟩ } : ChS).packets (7 + (d : Int)) = some [d] := by
    show (if 7 ≤ 7 + (d : Int) ∧ 7 + (d : Int) < 7 + ((d + 1 : Nat) : Int) then some [(7 + (d : Int) - 7).toNat] else none) = _
    rw [if_pos (by omega)]
    congr 2; omega
  have hdec : decR { tA M n (d + 1) with e := AEnd.conc 7 9 ⟨n, 0, 0, List.range d⟩ } (7 + (d : Int), true) = { tA M n d with first := 0 } := by
    unfold decR
    rw [hpk]
    simp only [Option.getD_some, List.foldl_cons, List.foldl_nil]
    have ho : dec1 (7 + (d : Int), true) (tA M n (d + 1)).out d = (tA M n d).out := by
      have hs : (tA M n (d + 1)).out d = some ⟨mg M d, 7 + (d : Int), 0⟩ := by
        show (if d < d + 1 then some (⟨mg M d, 7 + (d : Int), 0⟩ : OutM) else none) = _
        rw [if_pos (by omega)]
      unfold dec1
      rw [hs]
      simp only [if_true]
      funext j
      show (if j = d then none else if j < d + 1 then some (⟨mg M j, 7 + (j : Int), 0⟩ : OutM) else none) = if j < d then some ⟨mg M j, 7 + (j : Int), 0⟩ else none
      by_cases h1 : j = d
      · rw [if_pos h1, if_neg (by omega)]
      · rw [if_neg h1]
        by_cases h2 : j < d
        · rw [if_pos (by omega), if_pos h2]
        · rw [if_neg (by omega), if_neg h2]
    have hp : updI (tA M n (d + 1)).packets (7 + (d : Int)) none = (tA M n d).packets := by
      funext p
      show (if p = 7 + (d : Int) then none else if 7 ≤ p ∧ p < 7 + ((d + 1 : Nat) : Int) then some [(p - 7).toNat] else none) = if 7 ≤ p ∧ p < 7 + (d : Int) then some [(p - 7).toNat] else none
      by_cases h1 : p = 7 + (d : Int)
      · rw [if_pos h1, if_neg (by omega)]
      · rw [if_neg h1]
        by_cases h2 : 7 ≤ p ∧ p < 7 + (d : Int)
        · rw [if_pos (by omega), if_pos h2]
        · rw [if_neg (by omega), if_neg h2]
    rw [ho, hp]
    unfold tA
    rw [if_neg (Nat.succ_ne_zero d)]
  rw [hdec]
  rcases Nat.eq_zero_or_pos d with h0 | h0
  · subst h0
    have ha : adv (tA M n 0).out n (n - 0) 0 = n := adv_run (fun j _ => by show (if j < 0 then some (⟨mg M j, 7 + (j : Int), 0⟩ : OutM) else none) = none; rw [if_neg (by omega)]) (by omega)
    show ({ tA M n 0 with first := adv (tA M n 0).out n (n - 0) 0 } : ChS) = _
    rw [ha]
    unfold tA
    simp
  · have ha : adv (tA M n d).out n (n - 0) 0 = 0 := adv_stop (by show (if 0 < d then some (⟨mg M 0, 7 + ((0 : Nat) : Int), 0⟩ : OutM) else none) ≠ none; rw [if_pos h0]; simp)
    show ({ tA M n d with first := adv (tA M n d).out n (n - 0) 0 } : ChS) = _
    rw [ha]
    unfold tA
    rw [if_neg (by omega)]

/-! ### bounds -/
theorem tA_zero (M : List (List UInt8)) : tA M 0 0 = chNew 7 9 := by
  unfold tA chNew
  simp only [if_true, AEnd.conc, List.range_zero, List.map_nil]
  congr 1
  funext p; rw [if_neg (by omega)]
theorem tA_fit {M : List (List UInt8)} (hM : ∀ k, (mg M k).length ≤ 1024) : ∀ {k : Nat}, k ≤ 20 → (tA M k k).Fit
  | 0, _ => by rw [tA_zero]; exact chNew_fit (by decide) (by decide) (by decide) (by decide)
  | k + 1, hk => by
    have ih := tA_fit hM (k := k) (by omega)
    have h1 := sendS_fit ih (mg M k) (by show k + 1 ≤ 1000000000; omega)
    rw [send_tA (by omega) (hM k)] at h1
    have h2 := (flushS_keep h1 (t := 0) (by decide) (by show (7 : Int) + (k : Int) + 1 ≤ _; omega)).1
    rw [flush_tS (by omega) (hM k)] at h2
    exact h2
theorem tS_fit {M : List (List UInt8)} (hM : ∀ k, (mg M k).length ≤ 1024) {k : Nat} (hk : k ≤ 20) : (tS M k).Fit := by
  have h1 := sendS_fit (tA_fit hM hk) (mg M k) (by show k + 1 ≤ 1000000000; omega)
  rw [send_tA (by omega) (hM k)] at h1
  exact h1
theorem tA2_fit {M : List (List UInt8)} (hM : ∀ k, (mg M k).length ≤ 1024) {n : Nat} (hn : n ≤ 20) : ∀ {i : Nat}, i ≤ n → (tA M n (n - i)).Fit
  | 0, _ => tA_fit hM hn
  | i + 1, hi => by
    have ih := tA2_fit hM hn (i := i) (by omega)
    have h1 := recvS_fit ih (ackB n i) (show 0 + 64 ≤ 1000000000 by decide) (show (9 : Int) + ((0 : Nat) : Int) - 1 ≤ 1999999900000 by decide)
    rw [recv6 (by omega) hn] at h1
    exact h1
theorem tB_fit {M : List (List UInt8)} (hM : ∀ k, (mg M k).length ≤ 1024) {n : Nat} (hn : n ≤ 20) : ∀ {i : Nat}, i ≤ n → 0 < n → (tB M n i false).Fit ∧ (0 < i → (tB M n i true).Fit)
  | 0, _, h0 => ⟨by rw [tB_new M h0]; exact chNew_fit (by decide) (by decide) (by decide) (by decide), fun h => absurd h (Nat.lt_irrefl _)⟩
  | i + 1, hi, h0 => by
    have ih := (tB_fit hM hn (i := i) (by omega) h0).1
    have hnw : (tB M n i false).e.newest ≤ 1999999900000 := by
      have := eB_heard n i (by omega) hn
      show (7 : Int) + ((eB n i).heard : Int) - 1 ≤ _
      omega
    have h1 := recvS_fit ih (bytA M (n - 1 - i)) (by show (if i = n then n else 0) + 64 ≤ 1000000000; split <;> omega) hnw
    rw [recv1 (by omega) hn hM] at h1
    have h2 := (flushS_keep h1 (t := 0) (by decide) (by
      have := eB_heard n (i + 1) hi hn
      show (9 : Int) + ((eB n (i + 1)).n : Int) + 1 ≤ _
      rw [this.2.1]; decide)).1
    rw [flush1 (by omega)] at h2
    exact ⟨h2, fun _ => h1⟩

/-! ### the two sides -/
def sA (M : List (List UInt8)) (n d : Nat) : CSide := ⟨tA M n d, (List.range n).map (mg M), [], (List.range n).map (bytA M)⟩
def sB (M : List (List UInt8)) (n i : Nat) (ow : Bool) : CSide := ⟨tB M n i ow, [], if i = n then (List.range n).map (mg M) else [], []⟩
def sAm (M : List (List UInt8)) (k : Nat) : CSide := ⟨tS M k, (List.range (k + 1)).map (mg M), [], (List.range k).map (bytA M)⟩
theorem sA_sd {M : List (List UInt8)} {k : Nat} (hk : k < 20) (hM : (mg M k).length ≤ 1024) : (sA M k k).sd (mg M k) = sAm M k := by
  unfold CSide.sd sA
  simp only
  rw [if_pos ⟨hM, by rw [waitA M (Nat.le_refl _)]; omega⟩, send_tA (by omega) hM]
  unfold sAm
  rw [List.range_succ, List.map_append]; rfl
theorem bytA_len (M : List (List UInt8)) {k : Nat} (hM : (mg M k).length ≤ 1024) : 1 ≤ (bytA M k).length ∧ (bytA M k).length ≤ 1200 := enc_len _ _ _ _ _ (by simp [hdrB]; omega)
theorem sAm_fl {M : List (List UInt8)} {k : Nat} (hk : k < 20) (hM : (mg M k).length ≤ 1024) : (sAm M k).fl 0 = sA M (k + 1) (k + 1) := by
  have hl := bytA_len M hM
  have e : flushS (sAm M k).c 0 = (tA M (k + 1) (k + 1), bytA M k, 0) := flush_tS (by omega) hM
  unfold CSide.fl
  rw [e]
  simp only
  rw [if_neg (by omega)]
  unfold sA sAm
  rw [List.range_succ, List.map_append, List.map_append]; rfl
theorem sB_tk {M : List (List UInt8)} {n i : Nat} (hi : i < n) (hn : n ≤ 20) (hM : ∀ k, (mg M k).length ≤ 1024) : (sB M n i false).tk (bytA M (n - 1 - i)) = sB M n (i + 1) true := by
  have e : recvS (sB M n i false).c (bytA M (n - 1 - i)) = (tB M n (i + 1) true, dB M n i, 0) := recv1 hi hn hM
  unfold CSide.tk
  rw [e]
  unfold sB dB
  simp only
  rw [if_neg (by omega : ¬ i = n)]
  rfl
end Go.Proofs.Ythjjipcbpmdfnaa
