/- What tables of the library hold, in every world that is met. -/
import Derived.Test.YtjhddlkfkicpaaaGreatDoorB
import Derived.Test.YtjhddlkfkicpaaaGreatDoorProg
import Derived.Lib.LaidTab
import Derived.Lib.ItoaNum
namespace Go.Proofs.YtjhddlkfkicpaaaGreatDoor.Vx
open Go Go.RowKit
set_option maxRecDepth 100000
def dbTab : List Int := [0, 1, 56, 2, 57, 49, 28, 3, 61, 58, 42, 50, 38, 29, 17, 4, 62, 47, 59, 36, 45, 43, 51, 22, 53, 39, 33, 30, 24, 18, 12, 5, 63, 55, 48, 27, 60, 41, 37, 16, 46, 35, 44, 21, 52, 32, 23, 11, 54, 26, 40, 15, 34, 20, 31, 10, 25, 14, 19, 9, 13, 8, 7, 6]
structure GlW (w : World) : Prop where
  pow : Lib.TabIs Tryz.prog w "internal/strconv.uint64pow10" .u64 Lib.pow10Tab
  db : Lib.TabIs Tryz.prog w "math/bits.deBruijn64tab" .u8 dbTab
  es : ∃ te pe, w.cell? ⟨2, 0, none⟩ = some (.iface te pe)
  er : ∃ te pe, w.cell? ⟨3, 0, none⟩ = some (.iface te pe)
  ml : ∃ m, w.cell? ⟨1, 0, none⟩ = some (.int .i64 m)
/-- Blocks below this may hold such tables. -/
def ng : Nat := 9
theorem gpow : (Tryz.prog.globalNamed "internal/strconv.uint64pow10").all (fun g => decide (g < 9)) = true := by kernel_rfl
theorem gdb : Tryz.prog.globalNamed "math/bits.deBruijn64tab" = some 8 := by kernel_rfl
theorem tab_keep {P : Program} {w w' : World} {name : String} {k : IntKind} {zs : List Int} (hg : (P.globalNamed name).all (fun g => decide (g < 9)) = true) (h : ∀ b, b < ng → w'.heap[b]? = w.heap[b]?) (t : Lib.TabIs P w name k zs) : Lib.TabIs P w' name k zs := by
  unfold Lib.TabIs World.var? at *
  cases e : P.globalNamed name with
  | none => rw [e] at t; exact t
  | some g =>
    rw [e] at t hg
    have : g < ng := by simpa [ng] using hg
    simp only [Option.bind_some] at t ⊢
    rw [h g this]; exact t
theorem cell_keep {w w' : World} (k : ∀ b, b < ng → w'.heap[b]? = w.heap[b]?) {b : Nat} (hb : b < ng) : w'.cell? ⟨b, 0, none⟩ = w.cell? ⟨b, 0, none⟩ := by
  simp only [World.cell?, k b hb]
theorem GlW.keep {w w' : World} (h : GlW w) (k : ∀ b, b < ng → w'.heap[b]? = w.heap[b]?) : GlW w' :=
  ⟨tab_keep gpow k h.pow, tab_keep (by rw [gdb]; rfl) k h.db, by rw [cell_keep k (by decide)]; exact h.es, by rw [cell_keep k (by decide)]; exact h.er, by rw [cell_keep k (by decide)]; exact h.ml⟩
def Gl (w : World) : Prop := ng ≤ w.heap.size ∧ GlW w
theorem GlW.gl {w : World} (h : GlW w) : Gl w := by
  refine ⟨?_, h⟩
  have := h.db
  unfold Lib.TabIs World.var? at this
  rw [gdb] at this
  simp only [Option.bind_some] at this
  cases e : w.heap[8]? with
  | none => rw [e] at this; cases this
  | some o =>
    have := (Array.getElem?_eq_some_iff.1 e).1
    exact this
theorem Gl.keep {w w' : World} (h : Gl w) (hs : w.heap.size ≤ w'.heap.size) (k : ∀ b, b < ng → w'.heap[b]? = w.heap[b]?) : Gl w' :=
  ⟨Nat.le_trans h.1 hs, h.2.keep k⟩
theorem Gl.ext {w w' : World} (h : Gl w) (x : Ext w w') : Gl w' :=
  h.keep x.size fun b hb => x.block b (Nat.lt_of_lt_of_le hb h.1)
end Go.Proofs.YtjhddlkfkicpaaaGreatDoor.Vx
