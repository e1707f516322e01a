/- What the law on desks asks, in plain: bits, glare and light, seats, places. -/
import Derived.Test.YtdncopphjamilaaRsp
import Derived.Test.YtdncopphjamilaaRpd
import Derived.Test.YtdncopphjamilaaRgl
namespace Go.Proofs.Ytdncopphjamilaa.Vx
open Go Go.RowKit Fl
set_option linter.unusedSimpArgs false
set_option linter.unusedVariables false

/-! ### bits of sixteen -/
theorem wrap_u16 {n : Nat} (h : n < 65536) : IntKind.u16.wrap (n : Int) = n := wr_u16 _ (by omega) (by omega)
theorem ofI16 (n : Nat) : BitVec.ofInt 16 (n : Int) = BitVec.ofNat 16 n := by
  apply BitVec.eq_of_toNat_eq
  simp
theorem shl16 {k : Nat} (hk : k < 16) : shlI .u16 1 k = ((2 ^ k : Nat) : Int) := by
  have : 2 ^ k < 2 ^ 16 := Nat.pow_lt_pow_right (by decide) hk
  unfold shlI
  have e : min (k : Int).toNat IntKind.u16.bits = k := by
    have : IntKind.u16.bits = 16 := rfl
    rw [this, Int.toNat_natCast]; omega
  rw [e, Int.one_mul]
  have e2 : ((2 : Int) ^ k) = ((2 ^ k : Nat) : Int) := by simp
  rw [e2]
  exact wrap_u16 (by omega)
theorem or16 {n k : Nat} (hn : n < 65536) (hk : k < 16) : bitI .or .u16 (n : Int) (shlI .u16 1 k) = ((n ||| 2 ^ k : Nat) : Int) ∧ n ||| 2 ^ k < 65536 := by
  have h2 : 2 ^ k < 2 ^ 16 := Nat.pow_lt_pow_right (by decide) hk
  have hb : n ||| 2 ^ k < 65536 := Nat.or_lt_two_pow (n := 16) hn h2
  refine ⟨?_, hb⟩
  rw [shl16 hk]
  have e : bitI .or .u16 (n : Int) ((2 ^ k : Nat) : Int) = IntKind.u16.wrap ((BitVec.ofInt 16 (n : Int) ||| BitVec.ofInt 16 ((2 ^ k : Nat) : Int)).toNat : Int) := rfl
  rw [e, ofI16, ofI16, BitVec.toNat_or, BitVec.toNat_ofNat, BitVec.toNat_ofNat, Nat.mod_eq_of_lt (by simpa using hn), Nat.mod_eq_of_lt (by simpa using h2)]
  exact wrap_u16 hb
theorem and16 {n h : Nat} (hn : n < 65536) (hh : h < 16) : bitI .and .u16 (shrI .u16 (n : Int) h) 1 = ((n / 2 ^ h % 2 : Nat) : Int) := by
  have e1 : min (h : Int).toNat IntKind.u16.bits = h := by
    have : IntKind.u16.bits = 16 := rfl
    rw [this, Int.toNat_natCast]; omega
  have e2 : shrI .u16 (n : Int) h = ((n / 2 ^ h : Nat) : Int) := by
    unfold shrI
    rw [e1, Int.fdiv_eq_ediv_of_nonneg _ (by have := Int.pow_pos (n := 2) (m := h) (by omega); omega)]
    simp
  rw [e2]
  have hq : n / 2 ^ h < 65536 := Nat.lt_of_le_of_lt (Nat.div_le_self _ _) hn
  generalize n / 2 ^ h = y at *
  have e : bitI .and .u16 (y : Int) 1 = IntKind.u16.wrap ((BitVec.ofInt 16 (y : Int) &&& BitVec.ofInt 16 ((1 : Nat) : Int)).toNat : Int) := rfl
  rw [e, ofI16, ofI16, BitVec.toNat_and, BitVec.toNat_ofNat, BitVec.toNat_ofNat, Nat.mod_eq_of_lt (by simpa using hq)]
  have : y &&& 1 % 2 ^ 16 = y % 2 := by
    rw [show (1 : Nat) % 2 ^ 16 = 1 by decide, Nat.and_one_is_mod]
  rw [this]
  exact wrap_u16 (by omega)
theorem bit16 {n h : Nat} (hn : n < 65536) (hh : h < 16) : decide (bitI .and .u16 (shrI .u16 (n : Int) h) 1 = 1) = n.testBit h ∧ decide (bitI .and .u16 (shrI .u16 (n : Int) h) 1 = 0) = !n.testBit h := by
  rw [and16 hn hh, Nat.testBit_eq_decide_div_mod_eq]
  have := Nat.mod_two_eq_zero_or_one (n / 2 ^ h)
  rcases this with c | c <;> rw [c] <;> simp
/-- Bits, one after the other. -/
def b16 (g : Nat → Bool) : Nat → Nat
  | 0 => 0
  | k + 1 => if g k then b16 g k ||| 2 ^ k else b16 g k
theorem b16_lt (g : Nat → Bool) : ∀ k, k ≤ 16 → b16 g k < 65536
  | 0, _ => by show 0 < 65536; decide
  | k + 1, h => by
    have ih := b16_lt g k (by omega)
    simp only [b16]
    split
    · exact (or16 ih (by omega)).2
    · exact ih
theorem b16_at (g : Nat → Bool) (h : Nat) : ∀ k, (b16 g k).testBit h = (decide (h < k) && g h)
  | 0 => by simp [b16]
  | k + 1 => by
    have ih := b16_at g h k
    simp only [b16]
    by_cases e : h = k
    · subst e
      split
      · rename_i c; rw [Nat.testBit_or, Nat.testBit_two_pow_self, c]; simp
      · rename_i c; rw [ih]; simp at c; simp [c]
    · have e2 : decide (h < k + 1) = decide (h < k) := by rw [decide_eq_decide]; omega
      rw [e2]
      split
      · rw [Nat.testBit_or, ih, Nat.testBit_two_pow_of_ne (fun c => e c.symm)]; simp
      · exact ih
theorem gbI_b (r : Rom) (us : Nat → Win) (n : Nat) (ds : Nat → Dsk) (bound : Nat) : ∀ k, k ≤ 16 → gbI r us n ds bound k = (b16 (fun j => flt bound (glaF r us (ds j) n)) k : Nat)
  | 0, _ => rfl
  | k + 1, h => by
    have ih := gbI_b r us n ds bound k (by omega)
    simp only [gbI, b16]
    split
    · rw [ih]; exact (or16 (b16_lt _ k (by omega)) (by omega)).1
    · exact ih
theorem gb_bit (r : Rom) (us : Nat → Win) (n : Nat) (ds : Nat → Dsk) (bound : Nat) {m k : Nat} (hm : m ≤ 8) (hk : k < m) :
    decide (bitI .and .u16 (shrI .u16 (gbI r us n ds bound m) k) 1 = 1) = flt bound (glaF r us (ds k) n) := by
  rw [gbI_b r us n ds bound m (by omega), (bit16 (b16_lt _ m (by omega)) (by omega)).1, b16_at]
  simp [hk]
theorem sbI_b (r : Rom) (us : Nat → Win) (n : Nat) (ps : Nat → Psn) (d : Dsk) : ∀ k, k ≤ 16 → sbI r us n ps d k = (b16 (fun j => suB r us n d (ps j)) k : Nat)
  | 0, _ => rfl
  | k + 1, h => by
    have ih := sbI_b r us n ps d k (by omega)
    simp only [sbI, b16]
    split
    · rw [ih]; exact (or16 (b16_lt _ k (by omega)) (by omega)).1
    · exact ih
theorem sb_bit (r : Rom) (us : Nat → Win) (n : Nat) (ps : Nat → Psn) (d : Dsk) {q i : Nat} (hq : q ≤ 8) (hi : i < q) :
    decide (bitI .and .u16 (shrI .u16 (sbI r us n ps d q) i) 1 = 1) = suB r us n d (ps i) := by
  rw [sbI_b r us n ps d q (by omega), (bit16 (b16_lt _ q (by omega)) (by omega)).1, b16_at]
  simp [hi]

/-! ### glare and light -/
theorem gla_lit {r : Rom} {us : Nat → Win} {d : Dsk} {n : Nat} (hr : r.sz) (hw : allW r us n = true) (hp : inR d.at) : ∀ k, k ≤ n → key (glaF r us d k) ≤ key (litF r us d.at k)
  | 0, _ => Int.le_refl _
  | k + 1, h => by
    have ih := gla_lit hr hw hp k (by omega)
    have a := glaF_P0 hr hw hp k (by omega)
    have b := litF_P0 (p := d.at) hr hw hp k (by omega)
    have c := (from_ok hr (allW_at hw (k := k) (by omega)) hp).2
    simp only [glaF, litF]
    split
    · exact add_mono a c b c ih (Int.le_refl _)
    · exact Int.le_trans ih (add_P0 b c).2.2.1
theorem lgB_le {V : Int → Nat} (hV : ∀ w : Int, 0 ≤ w → w ≤ 3 → nn (V w)) : ∀ k, k ≤ 3 → ∀ w : Nat, w ≤ k → key (V (lgB V k)) ≤ key (V w)
  | 0, _, w, hw => by
    have e : w = 0 := by omega
    rw [e]; exact Int.le_refl _
  | k + 1, hk, w, hw => by
    have ih := lgB_le hV k (by omega)
    have hb := lgB_in V k
    have n1 := hV (lgB V k) hb.1 (by omega)
    have n2 := hV ((k + 1 : Nat) : Int) (by omega) (by omega)
    simp only [lgB]
    split
    · rename_i c
      have := (flt_key c).2.2
      by_cases e : w = k + 1
      · subst e; exact Int.le_refl _
      · have := ih w (by omega); omega
    · rename_i c
      have := flt_not n2 n1 (by simpa using c)
      by_cases e : w = k + 1
      · subst e; exact this
      · exact ih w (by omega)

/-! ### places -/
theorem plc_far : ∀ {L : List (Int × Int)} {m : Nat} {bs o : List (Int × Int)}, plc L m bs = some o → ∃ s, o = bs ++ s ∧ s.length = m ∧ s.Sublist L ∧ ∀ i, i < s.length → farK (tlN s i) (bs ++ s) (bs.length + i) = true
  | L, 0, bs, o, h => by
    rw [plc_zero] at h; cases h
    exact ⟨[], by simp, rfl, List.nil_sublist _, fun i hi => by simp at hi⟩
  | [], m + 1, bs, o, h => by cases h
  | t :: ts, m + 1, bs, o, h => by
    rw [plc] at h
    split at h
    · rename_i hf
      split at h
      · rename_i o' hq
        cases h
        obtain ⟨s, e1, e2, e3, e4⟩ := plc_far hq
        refine ⟨t :: s, by rw [e1]; simp, by simp [e2], e3.cons_cons t, fun i hi => ?_⟩
        cases i with
        | zero =>
          have key : ∀ (k : Nat) (a b : List (Int × Int)), k ≤ a.length → farK t (a ++ b) k = farK t a k := by
            intro k a b
            induction k with
            | zero => intro _; rfl
            | succ k ih =>
              intro hk
              simp only [farK]
              rw [ih (by omega)]
              have : tlN (a ++ b) k = tlN a k := by simp only [tlN, List.getD_eq_getElem?_getD]; rw [List.getElem?_append_left (by omega)]
              rw [this]
          have : tlN (t :: s) 0 = t := rfl
          rw [this, Nat.add_zero, key _ _ _ (Nat.le_refl _)]; exact hf
        | succ i =>
          have := e4 i (by simpa using hi)
          have e5 : tlN (t :: s) (i + 1) = tlN s i := by simp [tlN]
          rw [e5]
          have e6 : bs ++ [t] ++ s = bs ++ t :: s := by simp
          rw [e6] at this
          rw [show bs.length + (i + 1) = (bs ++ [t]).length + i by simp; omega]
          exact this
      · obtain ⟨s, e1, e2, e3, e4⟩ := plc_far h
        exact ⟨s, e1, e2, e3.cons t, e4⟩
    · obtain ⟨s, e1, e2, e3, e4⟩ := plc_far h
      exact ⟨s, e1, e2, e3.cons t, e4⟩
theorem farK_at {p : Int × Int} {bs : List (Int × Int)} : ∀ {n}, farK p bs n = true → ∀ k, k < n → near p (tlN bs k) = false
  | 0, _, k, h => by omega
  | n + 1, h, k, hk => by
    simp only [farK, Bool.and_eq_true, Bool.not_eq_true'] at h
    by_cases e : k = n
    · subst e; exact h.2
    · exact farK_at h.1 k (by omega)
/-- By Y, and then by X. -/
def befT (p o : Int × Int) : Prop := p.2 < o.2 ∨ (p.2 = o.2 ∧ p.1 < o.1)
theorem rowT_pw (y : Int) : ∀ k, (rowT y k).Pairwise befT
  | 0 => List.Pairwise.nil
  | k + 1 => by
    rw [rowT, List.pairwise_append]
    refine ⟨rowT_pw y k, List.pairwise_singleton _ _, fun a ha b hb => ?_⟩
    have h1 := rowT_mem ha
    rw [List.mem_singleton] at hb; subst hb
    exact .inr ⟨h1.2, by simp only; omega⟩
theorem allT_pw (w : Nat) : ∀ k, (allT w k).Pairwise befT
  | 0 => List.Pairwise.nil
  | k + 1 => by
    rw [allT, List.pairwise_append]
    refine ⟨allT_pw w k, rowT_pw _ _, fun a ha b hb => ?_⟩
    have h1 := allT_mem ha
    have h2 := rowT_mem hb
    exact .inl (by rw [h2.2]; omega)
theorem litT_sub (r : Rom) (us : Nat → Win) (n least : Nat) : ∀ k, k ≤ (tilesL r).length → (litT r us n least k).Sublist ((tilesL r).take k)
  | 0, _ => List.nil_sublist _
  | k + 1, h => by
    have ih := litT_sub r us n least k (by omega)
    have e : (tilesL r).take (k + 1) = (tilesL r).take k ++ [tlN (tilesL r) k] := by
      rw [List.take_succ_eq_append_getElem (by omega)]
      congr 1
      simp [tlN, List.getD_eq_getElem?_getD, List.getElem?_eq_getElem (show k < (tilesL r).length by omega)]
    rw [litT, e]
    split
    · exact ih.append (List.Sublist.refl _)
    · exact ih.trans (List.sublist_append_left _ _)
theorem litT_lit (r : Rom) (us : Nat → Win) (n least : Nat) : ∀ k, ∀ p ∈ litT r us n least k, fle least (litF r us p n) = true
  | 0, p, h => by cases h
  | k + 1, p, h => by
    rw [litT] at h
    split at h
    · rename_i c
      rcases List.mem_append.1 h with h | h
      · exact litT_lit r us n least k p h
      · rw [List.mem_singleton] at h; subst h; exact c
    · exact litT_lit r us n least k p h
/-- What is told of places that are found. -/
theorem pl_told {r : Rom} {us : Nat → Win} {n least : Nat} {many : Int} {o : List (Int × Int)} (hr : r.sz) (h : plO r us n least many = some o) :
    o.length = many.toNat ∧ ∀ i, i < o.length → (inR (tlN o i) ∧ hasT r (tlN o i) = true ∧ fle least (litF r us (tlN o i) n) = true) ∧ ∀ k, k < i → befT (tlN o k) (tlN o i) ∧ near (tlN o i) (tlN o k) = false := by
  obtain ⟨s, e1, e2, e3, e4⟩ := plc_far h
  rw [List.nil_append] at e1
  subst e1
  have hs : o.Sublist (tilesL r) := e3.trans ((litT_sub r us n least _ (Nat.le_refl _)).trans (List.take_sublist _ _))
  have hpw : o.Pairwise befT := (allT_pw _ _).sublist hs
  refine ⟨e2, fun i hi => ⟨⟨litT_in hr us n least _ (Nat.le_refl _) _ (e3.subset (tlN_mem hi)), tilesL_mem (hs.subset (tlN_mem hi)), litT_lit r us n least _ _ (e3.subset (tlN_mem hi))⟩, fun k hk => ⟨?_, ?_⟩⟩⟩
  · have := List.pairwise_iff_getElem.1 hpw k i (by omega) hi hk
    simpa [tlN, List.getD_eq_getElem?_getD, List.getElem?_eq_getElem hi, List.getElem?_eq_getElem (show k < o.length by omega)] using this
  · have := e4 i hi
    simp only [List.nil_append, List.length_nil, Nat.zero_add] at this
    exact farK_at this k hk
end Go.Proofs.Ytdncopphjamilaa.Vx
