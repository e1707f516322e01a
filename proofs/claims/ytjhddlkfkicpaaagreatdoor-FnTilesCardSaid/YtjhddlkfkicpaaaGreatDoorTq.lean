/- Texts: cut at a byte. -/
import Derived.Test.YtjhddlkfkicpaaaGreatDoorTa
import Derived.Test.YtjhddlkfkicpaaaGreatDoorTsp
import Derived.Lib.SplitLaws
import Derived.Lib.IndexBytes
namespace Go.Proofs.YtjhddlkfkicpaaaGreatDoor.Vx
set_option linter.unusedSimpArgs false
set_option linter.unusedVariables false
open Go Go.RowKit Fl
set_option maxRecDepth 100000
set_option maxHeartbeats 4000000
set_option linter.unusedSimpArgs false
set_option linter.unusedVariables false
/-- Text ahead of the first piece. -/
def consH (p : List UInt8) : List (List UInt8) → List (List UInt8)
  | [] => [p]
  | q :: r => (p ++ q) :: r
/-- The pieces of a text. -/
def sp (c : UInt8) : List UInt8 → List (List UInt8)
  | [] => [ [] ]
  | b :: r => if b = c then [] :: sp c r else consH [b] (sp c r)
theorem sp_ne (c : UInt8) (s : List UInt8) : sp c s ≠ [] := by
  cases s with
  | nil => simp [sp]
  | cons b r => simp only [sp]; split; simp; cases sp c r <;> simp [consH]
theorem consH_nil {l : List (List UInt8)} (h : l ≠ []) : consH [] l = l := by
  cases l with
  | nil => exact absurd rfl h
  | cons q r => rfl
theorem consH_consH (p q : List UInt8) (l : List (List UInt8)) : consH p (consH q l) = consH (p ++ q) l := by
  cases l with
  | nil => rfl
  | cons a r => simp [consH]
theorem consH_len {p : List UInt8} {l : List (List UInt8)} (h : l ≠ []) : (consH p l).length = l.length := by
  cases l with
  | nil => exact absurd rfl h
  | cons a r => rfl
theorem sp_len (c : UInt8) : ∀ s, (sp c s).length ≤ s.length + 1
  | [] => by simp [sp]
  | b :: r => by
    have := sp_len c r
    simp only [sp]; split
    · simp; omega
    · rw [consH_len (sp_ne c r)]; simp; omega
theorem sp_miss {c : UInt8} : ∀ {s : List UInt8}, Lib.indexByte s c = -1 → sp c s = [s]
  | [], _ => rfl
  | b :: r, h => by
    simp only [Lib.indexByte] at h
    have := Lib.indexByte_ge r c
    split at h
    · omega
    · rename_i hb
      have hb' : ¬ b = c := fun e => hb (by simp [e])
      split at h
      · rename_i h2
        simp only [sp, if_neg hb', sp_miss (beq_iff_eq.1 h2)]; rfl
      · omega
theorem sp_hit {c : UInt8} : ∀ {s : List UInt8} {i : Nat}, Lib.indexByte s c = i → sp c s = s.take i :: sp c (s.drop (i + 1))
  | [], i, h => by simp only [Lib.indexByte] at h; omega
  | b :: r, i, h => by
    simp only [Lib.indexByte] at h
    split at h
    · rename_i hb
      have hb' : b = c := by simpa using hb
      obtain rfl : i = 0 := by omega
      simp only [sp, if_pos hb']; rfl
    · rename_i hb
      have hb' : ¬ b = c := fun e => hb (by simp [e])
      have := Lib.indexByte_ge r c
      split at h
      · omega
      · rename_i h2
        have hne : ¬ Lib.indexByte r c = -1 := fun e => h2 (by simp [e])
        obtain ⟨j, rfl⟩ : ∃ j, i = j + 1 := ⟨i - 1, by omega⟩
        simp only [sp, if_neg hb', sp_hit (show Lib.indexByte r c = (j : Int) by omega)]
        rfl
theorem splitK_sp (c : UInt8) : ∀ (k : Nat) (s : List UInt8), Lib.count s [c] = k → Lib.splitK [c] 0 k s = sp c s
  | 0, s, h => by
    by_cases hm : Lib.indexByte s c = -1
    · rw [sp_miss hm]; rfl
    · have := Lib.indexByte_ge s c
      obtain ⟨i, hi⟩ : ∃ i : Nat, Lib.indexByte s c = i := ⟨(Lib.indexByte s c).toNat, by omega⟩
      rw [Lib.count_hit (by simp) (by rw [Lib.index_one]; exact hi)] at h
      omega
  | k + 1, s, h => by
    by_cases hm : Lib.indexByte s c = -1
    · rw [Lib.count_miss (by rw [Lib.index_one]; exact hm)] at h; omega
    · have := Lib.indexByte_ge s c
      obtain ⟨i, hi⟩ : ∃ i : Nat, Lib.indexByte s c = i := ⟨(Lib.indexByte s c).toNat, by omega⟩
      have hx : Lib.index s [c] = i := by rw [Lib.index_one]; exact hi
      rw [Lib.count_hit (by simp) hx] at h
      rw [Lib.splitK, hx, if_neg (by simp), sp_hit hi, Int.toNat_natCast]
      rw [splitK_sp c k _ (by omega)]
      rfl
theorem splitB_sp (c : UInt8) (t : List UInt8) : Lib.splitB (bs [c]) 0 (Lib.countB (bs t) (bs [c])) (bs t) = (sp c t).map bs := by
  have e := Lib.splitB_data (bs [c]) 0 (Lib.countB (bs t) (bs [c])) (bs t)
  have e2 : Lib.splitK [c] 0 (Lib.countB (bs t) (bs [c])) t = sp c t := splitK_sp c _ t rfl
  have e3 : (Lib.splitB (bs [c]) 0 (Lib.countB (bs t) (bs [c])) (bs t)).map (·.data.toList) = sp c t := by rw [e]; simpa [bs] using e2
  rw [← e3, List.map_map]
  conv => lhs; rw [← List.map_id (Lib.splitB _ _ _ _)]
  apply List.map_congr_left
  intro x _
  simp [bs]
theorem countB_sp (c : UInt8) (t : List UInt8) : Lib.countB (bs t) (bs [c]) + 1 = (sp c t).length := by
  have := Lib.splitB_all (bs [c]) (by rw [bs_size]; simp) 0 _ (bs t) rfl
  rw [splitB_sp, List.length_map] at this
  exact this.symm
/-- The rows of some texts. -/
def strsR (l : List (List UInt8)) : Nat → List FV := fun k => [.str (bs (l.getD k []))]
/-- strings.Split at one byte. -/
theorem Split_cv (t : List UInt8) (c : UInt8) (ht : t.length ≤ 1048576) :
    CV Tryz.prog 34 [.f (.str (bs t)), .f (.str (bs [c]))] [] (fun v h => v = .slc 0 0 (sp c t).length (sp c t).length ∧ h = [.rows (sp c t).length (sp c t).length 1 (strsR (sp c t)) true]) := by
  refine ⟨(enters_of Tryz.func34 (by kernel_rfl) (by kernel_rfl)), fun w β H => ?_⟩
  obtain ⟨m, hm⟩ := H.gl.2.ml
  refine (Any.strings_Split Tryz.lays146 (by kernel_rfl) (bs t) (bs [c]) m w (by rw [bs_size]; omega) hm (by rw [bs_size]; simp)).mono fun e w' ⟨he, hw⟩ => ?_
  rw [splitB_sp] at hw
  rw [countB_sp] at he
  subst hw
  have x : Ext w (w.alloc (.cells ((sp c t).map bs |>.map Value.string).toArray (9))) := (Below.refl _ w).alloc (Nat.le_refl _) _
  have ok := rows_new (β := β) w (sp c t).length (sp c t).length 1 (strsR (sp c t)) ((sp c t).map bs |>.map Value.string).toArray (9) (Nat.le_refl _) (fun i _ => rfl) (by simp) (fun i j hi hj => by
    obtain rfl : j = 0 := by omega
    simp [strsR, FV.val, hi])
  exact ⟨.slc 0 0 (sp c t).length (sp c t).length, [.rows (sp c t).length (sp c t).length 1 (strsR (sp c t)) true], bput β 0 ⟨w.heap.size, 0, 1, false⟩, by rw [he]; rfl, ⟨rfl, rfl⟩, H.new x (Nat.le_refl _) rfl ok trivial, (Since.refl w β []).new x (Nat.le_refl _) _, by simp [SV.bd]⟩
/-! ### The reference's cut -/
theorem bs_ex (l : List UInt8) (a b : Nat) : (bs l).extract a b = bs ((l.drop a).take (b - a)) := by
  apply ByteArray.ext
  simp [bs, ByteArray.data_extract, List.extract_eq_take_drop]
theorem bs_at (l : List UInt8) (i : Nat) (h : i < l.length) : btAt (bs l) i = ((l[i]).toNat : Int) := by
  simp [btAt, bs, h]
def frag (t : List UInt8) (a b : Nat) : List UInt8 := (t.drop a).take (b - a)
theorem frag_succ {t : List UInt8} {a i : Nat} (ha : a ≤ i) (hi : i < t.length) : frag t a i ++ [t[i]] = frag t a (i + 1) := by
  unfold frag
  rw [show i + 1 - a = (i - a) + 1 by omega, List.take_add_one, List.getElem?_drop, show a + (i - a) = i by omega, List.getElem?_eq_getElem hi]
  rfl
theorem frag_end {t : List UInt8} {a : Nat} (ha : a ≤ t.length) : frag t a t.length = t.drop a := by
  unfold frag
  rw [List.take_of_length_le (by simp)]
theorem bs_frag (t : List UInt8) (a b : Nat) : (bs t).extract a b = bs (frag t a b) := bs_ex t a b
theorem u8_eq {a b : UInt8} : ((a.toNat : Int) = (b.toNat : Int)) ↔ a = b := by
  constructor
  · intro h; exact UInt8.toNat_inj.1 (by omega)
  · rintro rfl; rfl
end Go.Proofs.YtjhddlkfkicpaaaGreatDoor.Vx
