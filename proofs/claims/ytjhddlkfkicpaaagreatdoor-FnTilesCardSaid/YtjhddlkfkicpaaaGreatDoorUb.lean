/- Tiles, in plain: the map, the brightest, the bits; mirrored rooms; dimmed rooms. -/
import Derived.Test.YtjhddlkfkicpaaaGreatDoorRu
import Derived.Test.YtjhddlkfkicpaaaGreatDoorRbr
import Derived.Test.YtjhddlkfkicpaaaGreatDoorRlt
import Derived.Test.YtjhddlkfkicpaaaGreatDoorRd
namespace Go.Proofs.YtjhddlkfkicpaaaGreatDoor.Vx
open Go Go.RowKit Fl
set_option linter.unusedSimpArgs false
set_option linter.unusedVariables false

/-! ### bits of sixteen -/
theorem wrap_u16 {n : Nat} (h : n < 65536) : IntKind.u16.wrap (n : Int) = n := wr_u16 _ (by omega) (by omega)
theorem ofI16 (n : Nat) : BitVec.ofInt 16 (n : Int) = BitVec.ofNat 16 n := by
  apply BitVec.eq_of_toNat_eq
  simp
theorem shl16 {k : Nat} (hk : k < 16) : shlI .u16 1 k = ((2 ^ k : Nat) : Int) := by
  have : 2 ^ k < 2 ^ 16 := Nat.pow_lt_pow_right (by decide) hk
  unfold shlI
  have e : min (k : Int).toNat IntKind.u16.bits = k := by
    have : IntKind.u16.bits = 16 := rfl
    rw [this, Int.toNat_natCast]; omega
  rw [e, Int.one_mul]
  have e2 : ((2 : Int) ^ k) = ((2 ^ k : Nat) : Int) := by simp
  rw [e2]
  exact wrap_u16 (by omega)
theorem or16 {n k : Nat} (hn : n < 65536) (hk : k < 16) : bitI .or .u16 (n : Int) (shlI .u16 1 k) = ((n ||| 2 ^ k : Nat) : Int) ∧ n ||| 2 ^ k < 65536 := by
  have h2 : 2 ^ k < 2 ^ 16 := Nat.pow_lt_pow_right (by decide) hk
  have hb : n ||| 2 ^ k < 65536 := Nat.or_lt_two_pow (n := 16) hn h2
  refine ⟨?_, hb⟩
  rw [shl16 hk]
  have e : bitI .or .u16 (n : Int) ((2 ^ k : Nat) : Int) = IntKind.u16.wrap ((BitVec.ofInt 16 (n : Int) ||| BitVec.ofInt 16 ((2 ^ k : Nat) : Int)).toNat : Int) := rfl
  rw [e, ofI16, ofI16, BitVec.toNat_or, BitVec.toNat_ofNat, BitVec.toNat_ofNat, Nat.mod_eq_of_lt (by simpa using hn), Nat.mod_eq_of_lt (by simpa using h2)]
  exact wrap_u16 hb
theorem and16 {n h : Nat} (hn : n < 65536) (hh : h < 16) : bitI .and .u16 (shrI .u16 (n : Int) h) 1 = ((n / 2 ^ h % 2 : Nat) : Int) := by
  have e1 : min (h : Int).toNat IntKind.u16.bits = h := by
    have : IntKind.u16.bits = 16 := rfl
    rw [this, Int.toNat_natCast]; omega
  have e2 : shrI .u16 (n : Int) h = ((n / 2 ^ h : Nat) : Int) := by
    unfold shrI
    rw [e1, Int.fdiv_eq_ediv_of_nonneg _ (by have := Int.pow_pos (n := 2) (m := h) (by omega); omega)]
    simp
  rw [e2]
  have hq : n / 2 ^ h < 65536 := Nat.lt_of_le_of_lt (Nat.div_le_self _ _) hn
  generalize n / 2 ^ h = y at *
  have e : bitI .and .u16 (y : Int) 1 = IntKind.u16.wrap ((BitVec.ofInt 16 (y : Int) &&& BitVec.ofInt 16 ((1 : Nat) : Int)).toNat : Int) := rfl
  rw [e, ofI16, ofI16, BitVec.toNat_and, BitVec.toNat_ofNat, BitVec.toNat_ofNat, Nat.mod_eq_of_lt (by simpa using hq)]
  have : y &&& 1 % 2 ^ 16 = y % 2 := by
    rw [show (1 : Nat) % 2 ^ 16 = 1 by decide, Nat.and_one_is_mod]
  rw [this]
  exact wrap_u16 (by omega)
theorem bit16 {n h : Nat} (hn : n < 65536) (hh : h < 16) : decide (bitI .and .u16 (shrI .u16 (n : Int) h) 1 = 1) = n.testBit h := by
  rw [and16 hn hh, Nat.testBit_eq_decide_div_mod_eq]
  have := Nat.mod_two_eq_zero_or_one (n / 2 ^ h)
  rcases this with c | c <;> rw [c] <;> simp

/-! ### the map -/
theorem mapG_at {r : Rom} {us : Nat → Win} {n : Nat} (hr : r.sz) : ∀ K, K ≤ (tilesL r).length → ∀ k, k < K → mapG r us n K (mapI r k) = .flt .f32 (litF r us (tlN (tilesL r) k) n)
  | 0, _, k, hk => by omega
  | K + 1, hK, k, hk => by
    have ih := mapG_at (us := us) (n := n) hr K (by omega)
    show updC (mapG r us n K) (mapI r K) (.flt .f32 (litF r us (tlN (tilesL r) K) n)) (mapI r k) = _
    unfold updC
    by_cases e : mapI r k = mapI r K
    · rw [if_pos e]
      obtain ⟨⟨a1, a2⟩, a3, a4⟩ := tl_in hr (k := k) (by omega)
      obtain ⟨⟨b1, b2⟩, b3, b4⟩ := tl_in hr (k := K) (by omega)
      have : tlN (tilesL r) k = tlN (tilesL r) K := by
        unfold mapI at e
        exact Prod.ext (by omega) (by omega)
      rw [this]
    · rw [if_neg e]
      have : k ≠ K := fun c => e (by rw [c])
      exact ih k (by omega)
theorem mapV_at {r : Rom} {us : Nat → Win} {n : Nat} (hv : vRoom r us n = true) {k : Nat} (hk : k < (tilesL r).length) : mapV r us n ((tlN (tilesL r) k).2.toNat * 10 + (tlN (tilesL r) k).1.toNat) = .flt .f32 (litF r us (tlN (tilesL r) k) n) := by
  unfold mapV
  rw [if_pos hv]
  exact mapG_at (vRoom_at hv).1 _ (Nat.le_refl _) k hk

/-! ### the brightest -/
theorem mxN_ge {V : Nat → Nat} : ∀ m, (∀ i, i ≤ m → nn (V i)) → ∀ k, k ≤ m → key (V k) ≤ key (mxN V m).2
  | 0, _, k, hk => by
    obtain rfl : k = 0 := by omega
    exact Int.le_refl _
  | m + 1, h, k, hk => by
    have ih := mxN_ge m (fun i hi => h i (by omega))
    have hm : nn (mxN V m).2 := by rw [mxN_eq]; exact h _ (by have := mxN_le V m; omega)
    have hn := h (m + 1) (Nat.le_refl _)
    simp only [mxN]
    by_cases c : flt (mxN V m).2 (V (m + 1)) = true
    · rw [if_pos c]
      have := (flt_key c).2.2
      by_cases e : k = m + 1
      · subst e; exact Int.le_refl _
      · have := ih k (by omega)
        simp only; omega
    · rw [if_neg c]
      by_cases e : k = m + 1
      · subst e; exact flt_not hm hn (by simpa using c)
      · exact ih k (by omega)
theorem brP_eq {r : Rom} {us : Nat → Win} {n : Nat} (hv : vRoom r us n = true) : (brP r us n).2 = (mxN (fun k => litF r us (tlN (tilesL r) k) n) ((tilesL r).length - 1)).2 := by
  unfold brP; rw [if_pos hv]
theorem brP_ge {r : Rom} {us : Nat → Win} {n : Nat} (hv : vRoom r us n = true) {k : Nat} (hk : k < (tilesL r).length) : flt (brP r us n).2 (litF r us (tlN (tilesL r) k) n) = false := by
  obtain ⟨hz, h12, hw⟩ := vRoom_at hv
  have hnn : ∀ i, i ≤ (tilesL r).length - 1 → nn (litF r us (tlN (tilesL r) i) n) := fun i hi => (litF_P0 hz hw (tl_in hz (k := i) (by omega)) n (Nat.le_refl _)).1
  have a := mxN_ge (V := fun k => litF r us (tlN (tilesL r) k) n) ((tilesL r).length - 1) hnn k (by omega)
  rw [flt_iff (brP_nn r us n) (hnn k (by omega)), brP_eq hv]
  exact decide_eq_false (by omega)
theorem brP_zero {r : Rom} {us : Nat → Win} (hv : vRoom r us 0 = true) : (brP r us 0).2 = 0 := by
  rw [brP_eq hv, mxN_eq]; rfl

/-! ### the bits -/
theorem ltI_bits {r : Rom} {us : Nat → Win} {n least : Nat} (hr : r.sz) (j : Nat) : ∀ K, K ≤ (tilesL r).length → ∃ N : Nat, ltI r us n least K j = (N : Int) ∧ N < 65536 ∧ ∀ h : Nat, N.testBit h = true ↔ ∃ k, k < K ∧ tlN (tilesL r) k = ((h : Int), (j : Int)) ∧ fle least (litF r us (tlN (tilesL r) k) n) = true
  | 0, _ => ⟨0, rfl, by decide, fun h => by simp⟩
  | K + 1, hK => by
    obtain ⟨N, e, hN, hb⟩ := ltI_bits (us := us) (n := n) (least := least) hr j K (by omega)
    obtain ⟨⟨a1, a2⟩, a3, a4⟩ := tl_in hr (k := K) (by omega)
    have skip : (∀ h : Nat, ¬ (tlN (tilesL r) K = ((h : Int), (j : Int)) ∧ fle least (litF r us (tlN (tilesL r) K) n) = true)) → ∀ h : Nat, N.testBit h = true ↔ ∃ k, k < K + 1 ∧ tlN (tilesL r) k = ((h : Int), (j : Int)) ∧ fle least (litF r us (tlN (tilesL r) k) n) = true := fun hno h => by
      rw [hb h]
      constructor
      · rintro ⟨k, h1, h2⟩; exact ⟨k, by omega, h2⟩
      · rintro ⟨k, h1, h2⟩
        by_cases c : k = K
        · subst c; exact absurd h2 (hno h)
        · exact ⟨k, by omega, h2⟩
    simp only [ltI]
    cases hf : fle least (litF r us (tlN (tilesL r) K) n)
    · simp only [Bool.false_eq_true, if_false]
      exact ⟨N, e, hN, skip fun h c => by rw [hf] at c; cases c.2⟩
    · simp only [if_true]
      by_cases c : j = (tlN (tilesL r) K).2.toNat
      · rw [if_pos c]
        obtain ⟨x, hx⟩ : ∃ x : Nat, (tlN (tilesL r) K).1 = (x : Int) := ⟨(tlN (tilesL r) K).1.toNat, by omega⟩
        have o := or16 (n := N) (k := x) hN (by omega)
        refine ⟨N ||| 2 ^ x, by rw [e, hx]; exact o.1, o.2, fun h => ?_⟩
        rw [Nat.testBit_or, Bool.or_eq_true, hb h, Nat.testBit_two_pow]
        constructor
        · rintro (⟨k, h1, h2⟩ | h1)
          · exact ⟨k, by omega, h2⟩
          · have h1 : x = h := by simpa using h1
            exact ⟨K, by omega, Prod.ext (by rw [hx, h1]) (by simp only; omega), hf⟩
        · rintro ⟨k, h1, h2, h3⟩
          by_cases ck : k = K
          · subst ck
            have := congrArg Prod.fst h2
            simp only at this
            exact .inr (by simp; omega)
          · exact .inl ⟨k, by omega, h2, h3⟩
      · rw [if_neg c]
        exact ⟨N, e, hN, skip fun h q => c (by rw [q.1]; simp)⟩
theorem lit_bit {r : Rom} {us : Nat → Win} {n least : Nat} (hv : vRoom r us n = true) (hl : feq least least = true) {k : Nat} (hk : k < (tilesL r).length) :
    decide (bitI .and .u16 (shrI .u16 (ltV r us n least (tlN (tilesL r) k).2.toNat) (tlN (tilesL r) k).1) 1 = 1) = fle least (litF r us (tlN (tilesL r) k) n) := by
  have hz := (vRoom_at hv).1
  have ha : askC (vRoom r us n) (feq least least) = 0 := by rw [hv, hl]; rfl
  unfold ltV
  rw [if_pos ha]
  obtain ⟨⟨a1, a2⟩, a3, a4⟩ := tl_in hz hk
  obtain ⟨N, e, hN, hb⟩ := ltI_bits (us := us) (n := n) (least := least) hz (tlN (tilesL r) k).2.toNat _ (Nat.le_refl _)
  obtain ⟨x, hx⟩ : ∃ x : Nat, (tlN (tilesL r) k).1 = (x : Int) := ⟨(tlN (tilesL r) k).1.toNat, by omega⟩
  have hT : tlN (tilesL r) k = ((x : Int), (((tlN (tilesL r) k).2.toNat : Nat) : Int)) := Prod.ext hx (by simp only; omega)
  rw [e, hx, bit16 hN (by omega), Bool.eq_iff_iff, hb x]
  constructor
  · rintro ⟨k', h1, h2, h3⟩
    rw [← hT] at h2
    rw [← h2]; exact h3
  · intro h
    exact ⟨k, hk, hT, h⟩

/-! ### mirrored rooms -/
theorem mirW_l (r : Rom) (u : Win) : (mirW r u).l = u.l := by unfold mirW; (repeat' split) <;> rfl
theorem mirW_ok {r : Rom} {u : Win} (hr : r.sz) (h : u.ok r = true) : (mirW r u).ok r = true := by
  obtain ⟨⟨_, _⟩, _, _⟩ := hr
  simp only [Win.ok, Bool.and_eq_true, inn_true, mirW_l] at h ⊢
  obtain ⟨⟨⟨h1, h2⟩, h3, h4⟩, h5⟩ := h
  refine ⟨?_, h5⟩
  unfold lastI at h4 ⊢
  unfold mirW
  by_cases c1 : u.w = 1
  · rw [if_pos c1]; rw [c1] at h4; simp at h4 ⊢; omega
  · rw [if_neg c1]
    by_cases c3 : u.w = 3
    · rw [if_pos c3]; rw [c3] at h4; simp at h4 ⊢; omega
    · rw [if_neg c3]
      have : u.w = 0 ∨ u.w = 2 := by omega
      rcases this with c | c <;> rw [c] at h4 ⊢ <;> simp at h4 ⊢ <;> omega
theorem mirW_two {r : Rom} {u : Win} : mirW r (mirW r u) = u := by
  obtain ⟨w, a, l⟩ := u
  unfold mirW
  simp only
  by_cases c1 : w = 1
  · subst c1; simp
  · by_cases c3 : w = 3
    · subst c3; simp
    · simp only [if_neg c1, if_neg c3]
      congr 1
      omega
theorem mir_dist {r : Rom} {u : Win} (hr : r.sz) (h : u.ok r = true) (p : Int × Int) : distI r (mirW r u) (r.wi - 1 - p.1, p.2) = distI r u p := by
  obtain ⟨⟨w0, w3⟩, _, _, _, _⟩ := win_ok hr h
  have e1 : (tileP r (mirW r u)).1 - (r.wi - 1 - p.1) = -((tileP r u).1 - p.1) := by
    have : u.w = 0 ∨ u.w = 1 ∨ u.w = 2 ∨ u.w = 3 := by omega
    rcases this with c | c | c | c <;> simp [mirW, tileP, c] <;> omega
  have e2 : (tileP r (mirW r u)).2 = (tileP r u).2 := by
    have : u.w = 0 ∨ u.w = 1 ∨ u.w = 2 ∨ u.w = 3 := by omega
    rcases this with c | c | c | c <;> simp [mirW, tileP, c]
  unfold distI
  simp only
  rw [e1, e2, Int.neg_mul_neg]
theorem mir_lit {r : Rom} {us : Nat → Win} {n : Nat} (hr : r.sz) (hw : allW r us n = true) (p : Int × Int) : ∀ k, k ≤ n → litF r (fun i => mirW r (us i)) (r.wi - 1 - p.1, p.2) k = litF r us p k
  | 0, _ => rfl
  | k + 1, h => by
    have ih := mir_lit hr hw p k (by omega)
    show fadd _ _ = fadd _ _
    rw [ih]
    unfold fromF
    rw [mir_dist hr (allW_at hw (by omega)) p, mirW_l]
theorem mir_all {r : Rom} {us : Nat → Win} {n : Nat} (hr : r.sz) (hw : allW r us n = true) : allW r (fun i => mirW r (us i)) n = true :=
  List.all_eq_true.2 fun i hi => mirW_ok hr (allW_at hw (by simpa using hi))
theorem vRoom_of {r : Rom} {us us' : Nat → Win} {n : Nat} (hv : vRoom r us n = true) (h : allW r us' n = true) : vRoom r us' n = true := by
  simp only [vRoom, Bool.and_eq_true] at hv ⊢
  exact ⟨hv.1, h⟩
theorem ok_sm {r : Rom} {u : Win} (hr : r.sz) (h : u.ok r = true) : u.sm := by
  obtain ⟨⟨_, _⟩, ⟨_, _⟩, _⟩ := win_ok hr h
  exact ⟨by omega, by omega⟩
theorem mir_has {r : Rom} {p : Int × Int} (h : hasT r p = true) : hasT r (r.wi - 1 - p.1, p.2) = true := by
  simp only [hasT, decide_eq_true_eq] at h ⊢
  omega

/-! ### dimmed rooms -/
theorem isPart_of {x : Nat} (h : F0 x) (h1 : key x ≤ key 1065353216) : isPart x = true := by
  unfold isPart btw
  have k0 : key 0 = 0 := by decide
  rw [fle_of (by decide) h.1.nn (by have := h.2; omega), fle_of h.1.nn (by decide) h1]; rfl
theorem dimW_ok {r : Rom} {u : Win} {window i : Int} {part : Nat} (hr : r.sz) (hp : isPart part = true) (h : u.ok r = true) : (dimW window part i u).ok r = true ∧ tileP r (dimW window part i u) = tileP r u ∧ key (dimW window part i u).l ≤ key u.l := by
  unfold dimW
  split
  · have hl := (win_ok hr h).2.2.1
    have a := isPart_F0 hl
    have b := isPart_F0 hp
    have m := mul_part a.1 b.1 b.2
    refine ⟨?_, rfl, m.2.2⟩
    simp only [Win.ok, Bool.and_eq_true] at h ⊢
    exact ⟨h.1, isPart_of m.2.1 (Int.le_trans m.2.2 a.2)⟩
  · exact ⟨h, rfl, Int.le_refl _⟩
theorem dim_all {r : Rom} {us : Nat → Win} {n : Nat} {window : Int} {part : Nat} (hr : r.sz) (hp : isPart part = true) (hw : allW r us n = true) : allW r (fun i => dimW window part (i : Int) (us i)) n = true :=
  List.all_eq_true.2 fun i hi => (dimW_ok hr hp (allW_at hw (by simpa using hi))).1
theorem dim_lit {r : Rom} {us : Nat → Win} {n : Nat} {window : Int} {part : Nat} {p : Int × Int} (hr : r.sz) (hp : isPart part = true) (hw : allW r us n = true) (hI : inR p) : ∀ k, k ≤ n → key (litF r (fun i => dimW window part (i : Int) (us i)) p k) ≤ key (litF r us p k)
  | 0, _ => Int.le_refl _
  | k + 1, h => by
    have ih := dim_lit (window := window) hr hp hw hI k (by omega)
    have hu := allW_at hw (k := k) (by omega)
    have hd := dimW_ok (window := window) (i := (k : Int)) hr hp hu
    have P1 := litF_P0 hr (dim_all (window := window) hr hp hw) hI k (by omega)
    have P2 := litF_P0 hr hw hI k (by omega)
    have f1 := (from_ok hr hd.1 hI).2
    have f2 := (from_ok hr hu hI).2
    have ds := dist_at hr hu hI
    refine add_mono P1 f1 P2 f2 ih ?_
    have e : distI r (dimW window part (k : Int) (us k)) p = distI r (us k) p := by unfold distI; rw [hd.2.1]
    unfold fromF
    rw [e]
    exact div_mono (isPart_F0 (win_ok hr hd.1).2.2.1).1.1 (isPart_F0 (win_ok hr hu).2.2.1).1.1 ds.2.2 ds.2.1 hd.2.2
theorem dim_flt {r : Rom} {us : Nat → Win} {n : Nat} {window : Int} {part : Nat} {p : Int × Int} (hr : r.sz) (hp : isPart part = true) (hw : allW r us n = true) (hI : inR p) : flt (litF r us p n) (litF r (fun i => dimW window part (i : Int) (us i)) p n) = false := by
  have := dim_lit (window := window) hr hp hw hI n (Nat.le_refl _)
  rw [flt_iff (litF_P0 hr hw hI n (Nat.le_refl _)).1 (litF_P0 hr (dim_all (window := window) hr hp hw) hI n (Nat.le_refl _)).1]
  exact decide_eq_false (by omega)
end Go.Proofs.YtjhddlkfkicpaaaGreatDoor.Vx
