/- Rooms, in the abstract: windows, their light. -/
import Derived.Test.YtpcnpmhpelbndaaDoorVs
import Derived.Test.YtpcnpmhpelbndaaDoorVt
namespace Go.Proofs.YtpcnpmhpelbndaaDoor.Vx
open Go Go.RowKit Fl
set_option maxRecDepth 100000
set_option maxHeartbeats 2000000
set_option linter.unusedSimpArgs false
set_option linter.unusedVariables false

structure Win where
  w : Int
  a : Int
  l : Nat
structure Rom where
  wi : Int
  hi : Int
def Win.fv (u : Win) : List FV := [.int .i8 u.w, .int .i8 u.a, .flt .f32 u.l]
abbrev winV (u : Win) : SV := .agg [.f (.int .i8 u.w), .f (.int .i8 u.a), .f (.flt .f32 u.l)]
abbrev tilV (p : Int × Int) : SV := .agg [.f (.int .i8 p.1), .f (.int .i8 p.2)]
abbrev romB (r : Rom) (n cap : Nat) (o : Bool) : Blk := .lit [.f (.int .i8 r.wi), .f (.int .i8 r.hi), .slc 1 0 n cap] o
/-- The sizes are right. -/
def Rom.sz (r : Rom) : Prop := (1 ≤ r.wi ∧ r.wi ≤ 10) ∧ (1 ≤ r.hi ∧ r.hi ≤ 10)
def lastI (r : Rom) (w : Int) : Int := if w = 0 then r.wi else if w = 2 then r.wi else r.hi
def Win.ok (r : Rom) (u : Win) : Bool := inn u.w 0 3 && inn u.a 0 (lastI r u.w - 1) && isPart u.l
def tileP (r : Rom) (u : Win) : Int × Int := if u.w = 0 then (u.a, 0) else if u.w = 1 then (r.wi - 1, u.a) else if u.w = 2 then (u.a, r.hi - 1) else (0, u.a)
theorem win_ok {r : Rom} {u : Win} (hr : r.sz) (h : u.ok r = true) : (0 ≤ u.w ∧ u.w ≤ 3) ∧ (0 ≤ u.a ∧ u.a ≤ 9) ∧ isPart u.l = true ∧ (0 ≤ (tileP r u).1 ∧ (tileP r u).1 ≤ 9) ∧ (0 ≤ (tileP r u).2 ∧ (tileP r u).2 ≤ 9) := by
  obtain ⟨⟨_, _⟩, _, _⟩ := hr
  simp only [Win.ok, Bool.and_eq_true, inn_true, lastI] at h
  obtain ⟨⟨⟨h1, h2⟩, h3, h4⟩, h5⟩ := h
  have ha : u.a ≤ 9 := by repeat' (split at h4) <;> omega
  refine ⟨⟨h1, h2⟩, ⟨h3, ha⟩, h5, ?_, ?_⟩ <;> unfold tileP <;> (repeat' split) <;> simp only <;> omega
def distI (r : Rom) (u : Win) (p : Int × Int) : Int := 1 + ((tileP r u).1 - p.1) * ((tileP r u).1 - p.1) + ((tileP r u).2 - p.2) * ((tileP r u).2 - p.2)
def fromF (r : Rom) (u : Win) (p : Int × Int) : Nat := fdiv u.l (fofInt (distI r u p))
def disT (k : Nat) : Bool := decide (0 < key (fofInt ((k : Int) + 1))) && decide (rung (fofInt ((k : Int) + 1)) < 2139095040)
theorem disT_all : (List.range 200).all disT = true := by decide +kernel
theorem sq_le {a b : Int} (h1 : 0 ≤ a) (h2 : a ≤ 9) (h3 : 0 ≤ b) (h4 : b ≤ 9) : 0 ≤ (a - b) * (a - b) ∧ (a - b) * (a - b) ≤ 81 := by
  have e : ∀ x : Int, -9 ≤ x → x ≤ 9 → 0 ≤ x * x ∧ x * x ≤ 81 := by
    intro x h1 h2
    constructor
    · rcases Int.le_total 0 x with h | h
      · exact Int.mul_nonneg h h
      · exact Int.mul_nonneg_of_nonpos_of_nonpos h h
    · have : (9 - x) * (9 + x) ≥ 0 := Int.mul_nonneg (by omega) (by omega)
      have e : (9 - x) * (9 + x) = 81 - x * x := by rw [Int.sub_mul, Int.mul_add, Int.mul_add, Int.mul_comm x 9]; omega
      omega
  exact e _ (by omega) (by omega)
/-- A tile of the room. -/
def inR (p : Int × Int) : Prop := (0 ≤ p.1 ∧ p.1 ≤ 9) ∧ (0 ≤ p.2 ∧ p.2 ≤ 9)
theorem dist_at {r : Rom} {u : Win} {p : Int × Int} (hr : r.sz) (hu : u.ok r = true) (hp : inR p) : (1 ≤ distI r u p ∧ distI r u p ≤ 163) ∧ 0 < key (fofInt (distI r u p)) ∧ fin (fofInt (distI r u p)) := by
  obtain ⟨_, _, _, ⟨t1, t2⟩, t3, t4⟩ := win_ok hr hu
  obtain ⟨⟨p1, p2⟩, p3, p4⟩ := hp
  have a := sq_le t1 t2 p1 p2
  have b := sq_le t3 t4 p3 p4
  have hd : 1 ≤ distI r u p ∧ distI r u p ≤ 163 := by unfold distI; omega
  obtain ⟨m, hm⟩ : ∃ m : Nat, distI r u p = (m : Int) + 1 := ⟨(distI r u p - 1).toNat, by omega⟩
  have := List.all_eq_true.1 disT_all m (by simp; omega)
  simp only [disT, Bool.and_eq_true, decide_eq_true_eq] at this
  rw [hm] at hd ⊢
  exact ⟨hd, this.1, this.2⟩
theorem from_ok {r : Rom} {u : Win} {p : Int × Int} (hr : r.sz) (hu : u.ok r = true) (hp : inR p) : DivOk u.l (fofInt (distI r u p)) ∧ P0 (fromF r u p) := by
  have d := dist_at hr hu hp
  have q := div_F0 (isPart_F0 (win_ok hr hu).2.2.1).1 d.2.2 d.2.1
  exact ⟨q.1, q.2⟩
def allW (r : Rom) (us : Nat → Win) (n : Nat) : Bool := (List.range n).all fun i => (us i).ok r
theorem allW_at {r : Rom} {us : Nat → Win} {n k : Nat} (h : allW r us n = true) (hk : k < n) : (us k).ok r = true := List.all_eq_true.1 h k (by simpa using hk)
def litF (r : Rom) (us : Nat → Win) (p : Int × Int) : Nat → Nat
  | 0 => 0
  | k + 1 => fadd (litF r us p k) (fromF r (us k) p)
theorem litF_P0 {r : Rom} {us : Nat → Win} {p : Int × Int} {n : Nat} (hr : r.sz) (hw : allW r us n = true) (hp : inR p) : ∀ k, k ≤ n → P0 (litF r us p k)
  | 0, _ => show P0 0 from ⟨by decide, by decide⟩
  | k + 1, h => (add_P0 (litF_P0 hr hw hp k (by omega)) (from_ok hr (allW_at hw (k := k) (by omega)) hp).2).2.1
end Go.Proofs.YtpcnpmhpelbndaaDoor.Vx
