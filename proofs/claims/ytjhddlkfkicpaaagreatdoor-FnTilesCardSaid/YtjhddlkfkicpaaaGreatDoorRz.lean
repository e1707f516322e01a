/- A struct of two small whole numbers and a slice, among the arguments of a law. -/
import Derived.Test.YtjhddlkfkicpaaaGreatDoorVs
namespace Go.Proofs.YtjhddlkfkicpaaaGreatDoor.Vx
open Go Go.ChangeShapes Go.WideShapes Go.RowKit Fl
set_option linter.unusedVariables false
set_option linter.unusedSimpArgs false

section
variable {H : Type} {enc : TypeId × Value → H} {P : Program} {w : World} {base : Nat} {spare : Nat → Bool} {held : Bool}
theorem cell_i8 {t : TypeId} {x : Value} {b0 : Nat} (h0 : P.underlying t = some (.int .i8)) (h : Cell.okWide P w .any b0 t x) : ∃ a : Int, x = .int .i8 a ∧ -128 ≤ a ∧ a ≤ 127 := by
  simp only [Cell.okWide, h0, Cell.ok] at h
  cases x <;> (try (exact h.elim))
  obtain ⟨rfl, h⟩ := h
  rename_i n
  exact ⟨n, rfl, h⟩
theorem open_room {t e t0 t1 t2 : TypeId} {fs : Array Field} {f2 : Field} {v : Value} {dt : DataW H} {ps : List MemPlace} {ks : List CK} {b0 : Nat}
    (ht : P.underlying t = some (.struct fs)) (hts : P.cellTypes P.depth t = some [t0, t1, t2]) (h0 : P.underlying t0 = some (.int .i8)) (h1 : P.underlying t1 = some (.int .i8)) (h2 : P.underlying t2 = some (.slice e))
    (hf2 : fs[2]? = some f2) (ho : f2.offset = 2) (hty : f2.type = t2) (hc2 : P.cellsOf t2 = 1) (hct : P.cellsOf t = 3)
    (hk : flatK P 5 e = some ks) (hC : P.cellsOf e = ks.length) (hpos : 0 < ks.length)
    (hv : Value.okWide P w .any b0 t v) (h : DataW.Trod enc P w base spare held t v dt ps) :
    ∃ (a b : Int) (x : Value) (n cap : Nat) (f : Nat → List FV), v = .agg #[.int .i8 a, .int .i8 b, x] ∧ (-128 ≤ a ∧ a ≤ 127) ∧ (-128 ≤ b ∧ b ≤ 127) ∧ SlcArg w x n cap ks.length f ∧ ∀ i, i < n → RowK ks (f i) := by
  have hv' : ∃ cs, v = .agg cs ∧ cs.size = P.cellsOf t ∧ Row.okWide P w .any b0 t cs := by
    simpa only [Value.okWide, ht] using hv
  obtain ⟨cs, rfl, hsz, ts, hts', _, hrow⟩ := hv'
  rw [hts] at hts'; cases hts'
  rw [hct] at hsz
  obtain ⟨l⟩ := cs
  match l, hsz with
  | [x0, x1, x2], _ =>
    obtain ⟨u0, e0, k0⟩ := hrow 0 x0 rfl
    obtain ⟨u1, e1, k1⟩ := hrow 1 x1 rfl
    obtain ⟨u2, e2, k2⟩ := hrow 2 x2 rfl
    simp at e0 e1 e2
    subst e0 e1 e2
    obtain ⟨a, rfl, ha⟩ := cell_i8 h0 k0
    obtain ⟨b, rfl, hb⟩ := cell_i8 h1 k1
    obtain ⟨fuel, hf⟩ := h
    obtain ⟨xs, m, _, _, _, hl, hg⟩ := DataW.trod_struct ht hf
    have h3 := hg 2 f2 hf2
    rw [ho, hty, hc2] at h3
    have hlt : 2 < xs.length := by
      rw [hl]
      obtain ⟨q, _⟩ := Array.getElem?_eq_some_iff.1 hf2
      exact q
    rw [List.getElem?_eq_getElem hlt] at h3
    have h4 : Cell.ok P w .any b0 t2 x2 := by simpa only [Cell.okWide, h2] using k2
    have h5 : x2.cells.toList = [x2] := by
      simp only [Cell.ok, h2] at h4
      cases x2 <;> (try (exact h4.elim)) <;> rfl
    obtain ⟨n, cap, f, hs, hr⟩ := open_slc (enc := enc) h2 hk hC hpos h4 ⟨m, by rw [h5]; exact h3⟩
    exact ⟨a, b, x2, n, cap, f, rfl, ha, hb, hs, hr⟩
end
end Go.Proofs.YtjhddlkfkicpaaaGreatDoor.Vx
