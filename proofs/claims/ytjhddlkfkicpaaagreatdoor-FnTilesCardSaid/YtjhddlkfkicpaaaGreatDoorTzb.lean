/- Rooms that are read: which texts are rooms. -/
import Derived.Test.YtjhddlkfkicpaaaGreatDoorTza
namespace Go.Proofs.YtjhddlkfkicpaaaGreatDoor.Vx
open Go Go.RowKit Fl
set_option maxRecDepth 100000
set_option maxHeartbeats 4000000
set_option linter.unusedSimpArgs false
set_option linter.unusedVariables false
/-- The text of a valid room. -/
structure Fine (t : List UInt8) (r : Rom) (us : Nat → Win) (n : Nat) : Prop where
  hv : vRoom r us n = true
  hb : ∀ i, i < n → (us i).l < 4294967296
  ht : romT r us n = t
theorem part_nn {l : Nat} (h : isPart l = true) : nn l := isPart_nn h
theorem tbits_nnR {a : Nat} (h : nn a) : tbits a = a := by rw [tbits, if_pos]; rw [feq_self]; exact decide_eq_true h
theorem num_part {l : Nat} (h : isPart l = true) (hl : l < 4294967296) : num (hexN (tbits l) 8) = some l := by
  have := tbits_nnR (part_nn h)
  rw [this]; exact num_iff.2 ⟨rfl, hl, this⟩
theorem itoa_ne {k : Nat} (h : k ≤ 10) : 1 ≤ (Lib.itoa (k : Int)).length ∧ (k ≤ 9 → (Lib.itoa (k : Int)).length = 1) := by
  rw [itoa_small h]
  split
  · simp
  · simp; omega
theorem winL_c (u : Win) : winL u = lett u.w :: (Lib.itoa u.a ++ 47 :: hexN (tbits u.l) 8) := by simp [winL]
theorem win_at {r : Rom} {u : Win} (hr : r.sz) (h : u.ok r = true) : ∃ k : Nat, k ≤ 9 ∧ u.a = (k : Int) := by
  obtain ⟨_, h2, _⟩ := win_ok hr h
  exact ⟨u.a.toNat, by omega, by omega⟩
/-- What the reference reads of a window's line. -/
theorem lnS_win {r : Rom} {u : Win} (hr : r.sz) (h : u.ok r = true) (hl : u.l < 4294967296) : lnOk (winL u) = true ∧ lnU (winL u) = u := by
  obtain ⟨k, hk, ea⟩ := win_at hr h
  obtain ⟨hw, _, hp, _⟩ := win_ok hr h
  have e0 : winL u = (lett u.w :: Lib.itoa (k : Int)) ++ 47 :: hexN (tbits u.l) 8 := by rw [winL_c, ea]; simp
  have hsp : sp 47 (winL u) = [lett u.w :: Lib.itoa (k : Int), hexN (tbits u.l) 8] := by
    rw [e0, spc_cut (by
      simp only [List.mem_cons, not_or]
      exact ⟨fun e => (lett_no u.w).2.1 e.symm, itoa_no (.inr (.inl rfl))⟩), spc_whole (hex_no (.inr (.inl rfl)))]
  have eA : pA (winL u) = lett u.w :: Lib.itoa (k : Int) := by unfold pA; rw [hsp]; rfl
  have eB : pB (winL u) = hexN (tbits u.l) 8 := by unfold pB; rw [hsp]; rfl
  have hn := num_part hp hl
  have hF : lnF (winL u) = true := by
    unfold lnF; rw [hsp, eA]
    have := (itoa_ne (k := k) (by omega)).1
    simp; omega
  have hW : lnW (winL u) = u.w := by unfold lnW; rw [eA]; exact wl_lett hw
  have hS : sN ((pA (winL u)).drop 1) = some k := by rw [eA]; exact sN_itoa (by omega)
  have hN : lnN (winL u) = k := by unfold lnN; rw [hS]; rfl
  refine ⟨?_, ?_⟩
  · unfold lnOk; rw [hF, hS, eB, hn, hW]; simp; omega
  · unfold lnU
    rw [if_pos hF, hW, hN, eB, srF_num hn, Nat.min_eq_left (by omega), ← ea]
/-- A line that the reference takes is a window's line. -/
theorem win_lnS {s : List UInt8} (h : lnOk s = true) (ha : (lnU s).a ≤ 9) : winL (lnU s) = s ∧ (lnU s).l < 4294967296 := by
  simp only [lnOk, Bool.and_eq_true, decide_eq_true_eq] at h
  obtain ⟨hF, hS, hN, hW⟩ := h
  obtain ⟨q, hq⟩ := Option.isSome_iff_exists.1 hS
  obtain ⟨b, hb⟩ := Option.isSome_iff_exists.1 hN
  have hF' := hF
  simp only [lnF, Bool.and_eq_true, decide_eq_true_eq] at hF'
  have eN : lnN s = q := by unfold lnN; rw [hq]; rfl
  have eU : lnU s = ⟨lnW s, (min q 100 : Nat), b⟩ := by unfold lnU; rw [if_pos hF, eN, srF_num hb]
  rw [eU] at ha ⊢
  have hq9 : q ≤ 9 := by simp only at ha; omega
  obtain ⟨hb1, hb2, hb3⟩ := num_iff.1 hb
  refine ⟨?_, hb2⟩
  have hs : sp 47 s = [pA s, pB s] := by
    unfold pA pB
    match hh : sp 47 s, hF'.1 with
    | [x, y], _ => rfl
  have hj := joinC_sp 47 s
  rw [hs] at hj
  have hj2 : pA s ++ 47 :: pB s = s := hj
  have hp : pA s = (pA s).getD 0 0 :: (pA s).drop 1 := by
    match hh : pA s, hF'.2 with
    | x :: y, _ => rfl
  have hl := (wl_told ((pA s).getD 0 0)).2.1 hW
  rw [winL_c]
  simp only
  rw [Nat.min_eq_left (by omega), ← sN_dec hq, hb3, ← hb1]
  show lett (lnW s) :: _ = s
  rw [show lett (lnW s) = (pA s).getD 0 0 from hl, ← List.cons_append, ← hp, hj2]
theorem rom_nat {r : Rom} (h : r.sz) : ∃ a b : Nat, r.wi = (a : Int) ∧ r.hi = (b : Int) ∧ (1 ≤ a ∧ a ≤ 10) ∧ 1 ≤ b ∧ b ≤ 10 := by
  obtain ⟨⟨_, _⟩, _, _⟩ := h
  exact ⟨r.wi.toNat, r.hi.toNat, by omega, by omega, ⟨by omega, by omega⟩, by omega, by omega⟩
namespace Fine
variable {t : List UInt8} {r : Rom} {us : Nat → Win} {n : Nat}
theorem sz (h : Fine t r us n) : r.sz := (vRoom_at h.hv).1
theorem n12 (h : Fine t r us n) : n ≤ 12 := (vRoom_at h.hv).2.1
theorem ok (h : Fine t r us n) {i : Nat} (hi : i < n) : (us i).ok r = true := allW_at (vRoom_at h.hv).2.2 hi
theorem spl (h : Fine t r us n) : sp 10 t = headL r :: (linesT us n ++ [ [] ]) := by
  rw [← h.ht]
  exact romT_sp h.sz fun i hi => by have := (win_ok h.sz (h.ok hi)).2.1; omega
theorem cn (h : Fine t r us n) : cnt t = n + 2 := by unfold cnt; rw [h.spl]; simp [linesT]
theorem l0 (h : Fine t r us n) : lnA t 0 = headL r := by unfold lnA; rw [h.spl]; rfl
theorem lk (h : Fine t r us n) {k : Nat} (hk : k < n) : lnA t (k + 1) = winL (us k) := by
  unfold lnA; rw [h.spl]
  simp [linesT, List.getD_eq_getElem?_getD, List.getElem?_append, hk]
theorem ln (h : Fine t r us n) : lnA t (n + 1) = [] := by
  unfold lnA; rw [h.spl]
  simp [linesT, List.getD_eq_getElem?_getD, List.getElem?_append]
theorem hp (h : Fine t r us n) : hpP t = [Lib.itoa r.wi, Lib.itoa r.hi] := by
  obtain ⟨a, b, ea, eb, _⟩ := rom_nat h.sz
  unfold hpP; rw [h.l0, headL, ea, eb, spc_cut (itoa_no (.inr (.inr rfl))), spc_whole (itoa_no (.inr (.inr rfl)))]
theorem specOk_true (h : Fine t r us n) : specOk t = true ∧ rS t = r ∧ ∀ i, i < n → uS t i = us i := by
  obtain ⟨a, b, ea, eb, ha, hb⟩ := rom_nat h.sz
  have eA : hpA t = Lib.itoa (a : Int) := by unfold hpA; rw [h.hp, ea]; rfl
  have eB : hpB t = Lib.itoa (b : Int) := by unfold hpB; rw [h.hp, eb]; rfl
  have sA : sN (hpA t) = some a := by rw [eA]; exact sN_itoa (by omega)
  have sB : sN (hpB t) = some b := by rw [eB]; exact sN_itoa (by omega)
  have n12 := h.n12
  have eR : rS t = r := by unfold rS; rw [sA, sB]; cases r; simp only at ea eb; simp [ea, eb]
  have eU : ∀ i, i < n → uS t i = us i := fun i hi => by
    unfold uS; rw [h.lk hi]; exact (lnS_win h.sz (h.ok hi) (h.hb i hi)).2
  refine ⟨?_, eR, eU⟩
  have h1 : sH t = true := by
    unfold sH; rw [h.cn, show n + 2 - 1 = n + 1 by omega, h.ln, h.hp]
    simp; omega
  have h2 : sS t = true := by unfold sS; rw [sA, sB]; simp; omega
  have h3 : oS t n = true := List.all_eq_true.2 fun k hk => by
    have hk : k < n := by simpa using hk
    rw [h.lk hk]; exact (lnS_win h.sz (h.ok hk) (h.hb k hk)).1
  have h4 : vRoom r (uS t) n = true := by
    have := h.hv
    unfold vRoom at this ⊢
    rw [show allW r (uS t) n = allW r us n from ?_]; exact this
    unfold allW
    apply Bool.eq_iff_iff.2
    simp only [List.all_eq_true, List.mem_range]
    exact ⟨fun q i hi => by rw [← eU i hi]; exact q i hi, fun q i hi => by rw [eU i hi]; exact q i hi⟩
  unfold specOk
  rw [h1, h2, h.cn, show n + 2 - 2 = n by omega, h3, eR, h4]; rfl
end Fine
theorem Fine.of_spec {t : List UInt8} (h : specOk t = true) : Fine t (rS t) (uS t) (cnt t - 2) := by
  simp only [specOk, Bool.and_eq_true] at h
  obtain ⟨⟨⟨h1, h2⟩, h3⟩, h4⟩ := h
  obtain ⟨hz, h12, hw⟩ := vRoom_at h4
  simp only [sH, Bool.and_eq_true, decide_eq_true_eq, beq_iff_eq] at h1
  obtain ⟨⟨⟨e1, e2⟩, e3⟩, e4⟩ := h1
  simp only [sS, Bool.and_eq_true, decide_eq_true_eq] at h2
  obtain ⟨⟨⟨s1, s2⟩, s3⟩, s4⟩ := h2
  obtain ⟨a, hA⟩ := Option.isSome_iff_exists.1 s1
  obtain ⟨b, hB⟩ := Option.isSome_iff_exists.1 s2
  obtain ⟨n, hn⟩ : ∃ n, cnt t = n + 2 := ⟨cnt t - 2, by omega⟩
  have en : cnt t - 2 = n := by omega
  rw [en] at h3 h4 hw ⊢
  rw [show cnt t - 1 = n + 1 by omega] at e1
  have eR : rS t = ⟨a, b⟩ := by unfold rS; rw [hA, hB]; rfl
  have hl : ∀ k, k < n → winL (uS t k) = lnA t (k + 1) ∧ (uS t k).l < 4294967296 := fun k hk =>
    win_lnS (List.all_eq_true.1 h3 k (by simpa using hk)) (win_ok hz (allW_at hw hk)).2.1.2
  have h0 : headL (rS t) = lnA t 0 := by
    have hs : hpP t = [hpA t, hpB t] := by
      unfold hpA hpB
      match hh : hpP t, e4 with
      | [x, y], _ => rfl
    have hj := joinC_sp 120 (lnA t 0)
    rw [show sp 120 (lnA t 0) = hpP t from rfl, hs] at hj
    have hj2 : hpA t ++ 120 :: hpB t = lnA t 0 := hj
    rw [← hj2, sN_dec hA, sN_dec hB, eR]; rfl
  refine ⟨h4, fun i hi => (hl i hi).2, ?_⟩
  have hsp : sp 10 t = headL (rS t) :: (linesT (uS t) n ++ [ [] ]) := by
    have hc : (sp 10 t).length = n + 2 := hn
    refine List.ext_getElem (by simp [linesT, hc]) fun i h1' h2' => ?_
    have hg : (sp 10 t)[i] = lnA t i := by unfold lnA; simp [List.getD_eq_getElem?_getD, h1']
    rw [hg]
    rcases i with _ | k
    · simp [h0]
    · by_cases hk : k < n
      · rw [← (hl k hk).1]; simp [linesT, List.getElem_append, hk]
      · obtain rfl : k = n := by omega
        rw [show lnA t (k + 1) = [] from e1]
        simp [linesT, List.getElem_append]
  have := romT_sp (us := uS t) (n := n) hz fun i hi => by have := (win_ok hz (allW_at hw hi)).2.1; omega
  rw [← hsp] at this
  rw [← joinC_sp 10 (romT _ _ _), this, joinC_sp]
/-- Two rooms of one text. -/
theorem Fine.uniq {t : List UInt8} {r r' : Rom} {us us' : Nat → Win} {n n' : Nat} (h : Fine t r us n) (h' : Fine t r' us' n') : r = r' ∧ n = n' ∧ ∀ i, i < n → us i = us' i := by
  have hc : n = n' := by have := h.cn; have := h'.cn; omega
  subst hc
  exact ⟨h.specOk_true.2.1.symm.trans h'.specOk_true.2.1, rfl, fun i hi => (h.specOk_true.2.2 i hi).symm.trans (h'.specOk_true.2.2 i hi)⟩
/-- What is answered to a text. -/
def RRes (t : List UInt8) (v : SV) (h : List Blk) : Prop := (∃ r us n, Fine t r us n ∧ RoomRes r us n v h) ∨ ((∀ r us n, ¬ Fine t r us n) ∧ v = badV ∧ h = [])
theorem RRes.of_spec {t : List UInt8} {v : SV} {h : List Blk} (H : ReadRes (specOk t) (rS t) (uS t) (cnt t - 2) v h) : RRes t v h := by
  cases e : specOk t
  · rw [e] at H
    exact .inr ⟨fun r us n q => (by rw [q.specOk_true.1] at e; cases e), H⟩
  · rw [e] at H
    exact .inl ⟨_, _, _, Fine.of_spec e, H⟩
/-! ### the program's reading -/
def ihA (t : List UInt8) : List UInt8 := ctA 120 (lnA t 0)
def ihB (t : List UInt8) : List UInt8 := ctB 120 (lnA t 0)
def ilA (s : List UInt8) : List UInt8 := ctA 47 (s.drop 1)
def ilB (s : List UInt8) : List UInt8 := ctB 47 (s.drop 1)
def iLn (s : List UInt8) : Bool := whB (ilA s) && (num (ilB s)).isSome && inn (whV (ilA s)) 0 9
def iU (s : List UInt8) : Win := ⟨Lib.indexByte [110, 101, 115, 119] (s.getD 0 0), whV (ilA s), (num (ilB s)).getD 0⟩
def uI (t : List UInt8) (k : Nat) : Win := iU (lnA t (k + 1))
def rI (t : List UInt8) : Rom := ⟨whV (ihA t), whV (ihB t)⟩
def iH (t : List UInt8) : Bool := whB (ihA t) && whB (ihB t) && inn (whV (ihA t)) 1 10 && inn (whV (ihB t)) 1 10 && decide (cnt t ≤ 14)
theorem iU_sm {s : List UInt8} (h : iLn s = true) : (iU s).sm ∧ (iU s).l < 4294967296 := by
  simp only [iLn, Bool.and_eq_true, inn_true] at h
  obtain ⟨⟨h1, h2⟩, h3, h4⟩ := h
  obtain ⟨b, hb⟩ := Option.isSome_iff_exists.1 h2
  obtain ⟨w1, _, w2, w3⟩ := wl_told (s.getD 0 0)
  refine ⟨⟨⟨?_, ?_⟩, ?_, ?_⟩, ?_⟩
  · show -128 ≤ Lib.indexByte _ _; omega
  · show Lib.indexByte _ _ ≤ 127; omega
  · show -128 ≤ whV (ilA s); omega
  · show whV (ilA s) ≤ 127; omega
  · show (num (ilB s)).getD 0 < 4294967296
    rw [hb]; exact (num_iff.1 hb).2.1
theorem lnI_win {r : Rom} {u : Win} (hr : r.sz) (h : u.ok r = true) (hl : u.l < 4294967296) : iLn (winL u) = true ∧ iU (winL u) = u ∧ winL u ≠ [] := by
  obtain ⟨k, hk, ea⟩ := win_at hr h
  obtain ⟨hw, _, hp, _⟩ := win_ok hr h
  have e0 : (winL u).drop 1 = Lib.itoa (k : Int) ++ 47 :: hexN (tbits u.l) 8 := by rw [winL_c, ea]; rfl
  have hc := cut_at (c := 47) (p := Lib.itoa (k : Int)) (r := hexN (tbits u.l) 8) (itoa_no (.inr (.inl rfl)))
  have eA : ilA (winL u) = Lib.itoa (k : Int) := by unfold ilA; rw [e0]; exact hc.1
  have eB : ilB (winL u) = hexN (tbits u.l) 8 := by unfold ilB; rw [e0]; exact hc.2
  have hn := num_part hp hl
  obtain ⟨w1, w2⟩ := wh_small (k := k) (by omega)
  refine ⟨?_, ?_, by rw [winL_c]; simp⟩
  · unfold iLn; rw [eA, eB, w1, w2, hn]
    have : inn (k : Int) 0 9 = true := inn_true.2 ⟨by omega, by omega⟩
    rw [this]; rfl
  · unfold iU; rw [eA, eB, w1, hn]
    have hq : (winL u).getD 0 0 = lett u.w := by rw [winL_c]; rfl
    rw [hq, ← (wl_told (lett u.w)).1, wl_lett hw, ← ea]; rfl
theorem Fine.hdr {t : List UInt8} {r : Rom} {us : Nat → Win} {n : Nat} (h : Fine t r us n) : iH t = true ∧ rI t = r := by
  obtain ⟨a, b, ea, eb, ha, hb⟩ := rom_nat h.sz
  have hc := cut_at (c := 120) (p := Lib.itoa (a : Int)) (r := Lib.itoa (b : Int)) (itoa_no (.inr (.inr rfl)))
  have e0 : lnA t 0 = Lib.itoa (a : Int) ++ 120 :: Lib.itoa (b : Int) := by rw [h.l0, headL, ea, eb]
  have eA : ihA t = Lib.itoa (a : Int) := by unfold ihA; rw [e0]; exact hc.1
  have eB : ihB t = Lib.itoa (b : Int) := by unfold ihB; rw [e0]; exact hc.2
  obtain ⟨w1, w2⟩ := wh_small (k := a) (by omega)
  obtain ⟨w3, w4⟩ := wh_small (k := b) (by omega)
  have n12 := h.n12
  refine ⟨?_, ?_⟩
  · unfold iH; rw [eA, eB, w1, w2, w3, w4, h.cn]
    have i1 : inn (a : Int) 1 10 = true := inn_true.2 ⟨by omega, by omega⟩
    have i2 : inn (b : Int) 1 10 = true := inn_true.2 ⟨by omega, by omega⟩
    rw [i1, i2]; simp; omega
  · unfold rI; rw [eA, eB, w1, w3]; cases r; simp only at ea eb; simp [ea, eb]
/-- The program has read so many lines. -/
def Red (t : List UInt8) (m : Nat) : Prop := ∀ k, k < m → lnA t (k + 1) ≠ [] ∧ iLn (lnA t (k + 1)) = true
theorem Red.succ {t : List UInt8} {m : Nat} (h : Red t m) (h1 : lnA t (m + 1) ≠ []) (h2 : iLn (lnA t (m + 1)) = true) : Red t (m + 1) := fun k hk => by
  by_cases e : k = m
  · subst e; exact ⟨h1, h2⟩
  · exact h k (by omega)
theorem Fine.no_line {t : List UInt8} {r : Rom} {us : Nat → Win} {n m : Nat} (h : Fine t r us n) (hm : m + 1 < cnt t) (h1 : lnA t (m + 1) ≠ []) (h2 : iLn (lnA t (m + 1)) = false) : False := by
  have hc := h.cn
  by_cases e : m = n
  · subst e; exact h1 h.ln
  · have := (lnI_win h.sz (h.ok (i := m) (by omega)) (h.hb m (by omega))).1
    rw [← h.lk (by omega), h2] at this; cases this
theorem Fine.end_at {t : List UInt8} {r : Rom} {us : Nat → Win} {n m : Nat} (h : Fine t r us n) (hR : Red t m) (hm : m + 1 ≤ cnt t) (he : m + 1 = cnt t ∨ lnA t (m + 1) = []) : m = n ∧ ∀ i, i < n → uI t i = us i := by
  have hc := h.cn
  have hle : m ≤ n := Nat.le_of_not_lt fun hlt => (hR n hlt).1 h.ln
  have hge : n ≤ m := Nat.le_of_not_lt fun hlt => by
    rcases he with he | he
    · omega
    · rw [h.lk hlt, winL_c] at he; cases he
  refine ⟨by omega, fun i hi => ?_⟩
  unfold uI; rw [h.lk hi]
  exact (lnI_win h.sz (h.ok hi) (h.hb i hi)).2.1
theorem vRoom_congr {r : Rom} {us us' : Nat → Win} {n : Nat} (h : ∀ i, i < n → us i = us' i) : vRoom r us n = vRoom r us' n := by
  unfold vRoom
  rw [show allW r us n = allW r us' n from ?_]
  unfold allW
  apply Bool.eq_iff_iff.2
  simp only [List.all_eq_true, List.mem_range]
  exact ⟨fun q i hi => by rw [← h i hi]; exact q i hi, fun q i hi => by rw [h i hi]; exact q i hi⟩
theorem winsT_congr {us us' : Nat → Win} {r0 : List UInt8} : ∀ n, (∀ i, i < n → us i = us' i) → winsT r0 us n = winsT r0 us' n
  | 0, _ => rfl
  | n + 1, h => by rw [winsT, winsT, winsT_congr n fun i hi => h i (by omega), h n (by omega)]
theorem iH_ne {t : List UInt8} (h : iH t = true) : t ≠ [] := by
  rintro rfl
  revert h
  unfold iH ihA
  rw [show lnA [] 0 = [] from rfl]
  rw [show ctA 120 [] = [] from by decide]
  rw [show whB [] = false from by decide]
  simp
theorem Fine.of_impl {t : List UInt8} {m : Nat} (hH : iH t = true) (hR : Red t m) (h : romS (rI t) (uI t) m = t) : Fine t (rI t) (uI t) m := by
  cases hv : vRoom (rI t) (uI t) m
  · rw [romS, hv] at h
    exact absurd h.symm (iH_ne hH)
  · rw [romS, hv] at h
    exact ⟨hv, fun i hi => (iU_sm (hR i hi).2).2, h⟩
theorem Fine.not_impl {t : List UInt8} {m : Nat} (hR : Red t m) (hm : m + 1 ≤ cnt t) (he : m + 1 = cnt t ∨ lnA t (m + 1) = []) (h : romS (rI t) (uI t) m ≠ t) : ∀ r us n, ¬ Fine t r us n := fun r us n q => by
  obtain ⟨rfl, hu⟩ := q.end_at hR hm he
  apply h
  rw [q.hdr.2, romS, vRoom_congr hu, q.hv]
  exact (winsT_congr m hu).trans q.ht
end Go.Proofs.YtjhddlkfkicpaaaGreatDoor.Vx
