/- Rooms that are read: the reference's room. -/
import Derived.Test.YtjhddlkfkicpaaaGreatDoorTx
namespace Go.Proofs.YtjhddlkfkicpaaaGreatDoor.Vx
open Go Go.RowKit Fl
set_option maxRecDepth 100000
set_option maxHeartbeats 8000000
set_option linter.unusedSimpArgs false
set_option linter.unusedVariables false
/-- The lines of a text. -/
def lnA (t : List UInt8) (k : Nat) : List UInt8 := (sp 10 t).getD k []
def cnt (t : List UInt8) : Nat := (sp 10 t).length
def hpP (t : List UInt8) : List (List UInt8) := sp 120 (lnA t 0)
def hpA (t : List UInt8) : List UInt8 := (hpP t).getD 0 []
def hpB (t : List UInt8) : List UInt8 := (hpP t).getD 1 []
def sH (t : List UInt8) : Bool := (lnA t (cnt t - 1) == []) && decide (1 ≤ cnt t - 1) && decide (cnt t - 1 ≤ 13) && decide ((hpP t).length = 2)
def sS (t : List UInt8) : Bool := (sN (hpA t)).isSome && (sN (hpB t)).isSome && decide ((sN (hpA t)).getD 0 ≤ 10) && decide ((sN (hpB t)).getD 0 ≤ 10)
def rS (t : List UInt8) : Rom := ⟨((sN (hpA t)).getD 0 : Nat), ((sN (hpB t)).getD 0 : Nat)⟩
def uS (t : List UInt8) (k : Nat) : Win := lnU (lnA t (k + 1))
def oS (t : List UInt8) (n : Nat) : Bool := (List.range n).all fun k => lnOk (lnA t (k + 1))
def specOk (t : List UInt8) : Bool := sH t && sS t && oS t (cnt t - 2) && vRoom (rS t) (uS t) (cnt t - 2)
theorem oS_succ (t : List UInt8) (n : Nat) : oS t (n + 1) = (oS t n && lnOk (lnA t (n + 1))) := by simp [oS, List.range_succ, List.all_append]
theorem oS_no {t : List UInt8} {n k : Nat} (hk : k < n) (h : lnOk (lnA t (k + 1)) = false) : oS t n = false := List.all_eq_false.2 ⟨k, by simpa using hk, by simp [h]⟩
theorem cnt_pos (t : List UInt8) : 1 ≤ cnt t := List.length_pos_iff.2 (sp_ne 10 t)
theorem lnA_len (t : List UInt8) (k : Nat) : (lnA t k).length ≤ t.length := getD_len 10 t k
theorem lnU_sm (t : List UInt8) : (lnU t).sm := by
  unfold lnU
  split
  · have := wl_told ((pA t).getD 0 0)
    have h2 := Nat.min_le_right (lnN t) 100
    exact ⟨⟨by have := this.2.2.1; show -128 ≤ lnW t; unfold lnW; omega, by have := this.2.2.2; show lnW t ≤ 127; unfold lnW; omega⟩, by show -128 ≤ ((min (lnN t) 100 : Nat) : Int); omega, by show ((min (lnN t) 100 : Nat) : Int) ≤ 127; omega⟩
  · exact ⟨⟨by decide, by decide⟩, by decide, by decide⟩
abbrev rmB (wi hi : Int) (m : Nat) : Option (Nat × (Nat → List FV)) → Blk
  | none => .lit [.f (.int .i8 wi), .f (.int .i8 hi), .f .nils] true
  | some s => .lit [.f (.int .i8 wi), .f (.int .i8 hi), .slc 4 0 m s.1] true
abbrev rmE (m : Nat) : Option (Nat × (Nat → List FV)) → List Blk
  | none => []
  | some s => [.rows m s.1 3 s.2 true]
def rmI (us : Nat → Win) (m : Nat) : Option (Nat × (Nat → List FV)) → Prop
  | none => m = 0
  | some s => 1 ≤ m ∧ m ≤ s.1 ∧ ∀ i, i < m → s.2 i = (us i).fv
/-- What is answered: a room of so many windows. -/
def RoomRes (r : Rom) (us : Nat → Win) (n : Nat) (v : SV) (h : List Blk) : Prop :=
  (n = 0 ∧ v = .tup [.agg [.f (.int .i8 r.wi), .f (.int .i8 r.hi), .f .nils], .f (.int .i64 0)] ∧ h = []) ∨
  ∃ cap g, 1 ≤ n ∧ n ≤ cap ∧ (∀ i, i < n → g i = (us i).fv) ∧ v = .tup [.agg [.f (.int .i8 r.wi), .f (.int .i8 r.hi), .slc 0 0 n cap], .f (.int .i64 0)] ∧ h = [.rows n cap 3 g true]
abbrev badV : SV := .tup [.agg [.f (.int .i8 0), .f (.int .i8 0), .f .nils], .f (.int .i64 5)]
def ReadRes (ok : Bool) (r : Rom) (us : Nat → Win) (n : Nat) (v : SV) (h : List Blk) : Prop := if ok then RoomRes r us n v h else v = badV ∧ h = []
theorem romPush {us : Nat → Win} {m : Nat} {g : Nat → List FV} (h : ∀ i, i < m → g i = (us i).fv) (u : Win) (hu : u = us m) : ∀ i, i < m + 1 → catR g m (shR (nthR [ u.fv ]) 0) i = (us i).fv := fun i hi => by
  simp only [catR, shR]
  split
  · exact h i (by assumption)
  · obtain rfl : i = m := by omega
    rw [hu]; simp [nthR]
end Go.Proofs.YtjhddlkfkicpaaaGreatDoor.Vx
