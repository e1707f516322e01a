/- Slices among the arguments of a law, for the abstract executor. -/
import Derived.Test.YtjhddlkfkicpaaaGreatDoorVp
import Derived.Test.YtjhddlkfkicpaaaGreatDoorN
import Derived.Test.YtjhddlkfkicpaaaGreatDoorVt
namespace Go.Proofs.YtjhddlkfkicpaaaGreatDoor.Vx
open Go Go.ChangeShapes Go.WideShapes Go.RowKit Fl
set_option linter.unusedVariables false
set_option linter.unusedSimpArgs false

def toFV : Value → FV
  | .int k n => .int k n
  | .float k b => .flt k b
  | _ => .nilp
theorem toFV_val {k : CK} {v : Value} (h : k.ok v) : (toFV v).val = v := by
  cases k <;> (obtain ⟨n, rfl, _⟩ := h; rfl)
theorem toFV_all : ∀ {ks : List CK} {vs : List Value}, CKs ks vs → (vs.map toFV).map FV.val = vs
  | [], [], _ => rfl
  | k :: ks, v :: vs, h => by simp only [List.map_cons, toFV_val h.1, toFV_all h.2]
/-- A row of cells of these kinds. -/
def RowK (ks : List CK) (r : List FV) : Prop := CKs ks (r.map FV.val)
theorem RowK.len {ks : List CK} {r : List FV} (h : RowK ks r) : r.length = ks.length := by have := CKs.length h; simpa using this

/-- The rows lie there. -/
structure SlcAt (w : World) (b off n cap c : Nat) (f : Nat → List FV) : Prop where
  le : n ≤ cap
  top : cap ≤ 9223372036854775807
  there : b < w.heap.size
  len : ∀ i, i < n → (f i).length = c
  cell : ∀ i, i < n → ∀ j x, (f i)[j]? = some x → w.cell? ⟨b, off + i * c + j, none⟩ = some x.val
/-- A value that is such a slice. -/
def SlcArg (w : World) (v : Value) (n cap c : Nat) (f : Nat → List FV) : Prop :=
  (v = .slice none 0 0 ∧ n = 0 ∧ cap = 0) ∨ ∃ b off, v = .slice (some ⟨b, off, none⟩) n cap ∧ SlcAt w b off n cap c f
theorem SlcAt.blk {w : World} {b off n cap c : Nat} {f : Nat → List FV} (h : SlcAt w b off n cap c f) (β : Nat → Loc) : BlkOk w β ⟨b, off, c, false⟩ (.rows n cap c f false) := by
  refine ⟨fun _ => h.there, ⟨⟨rfl, fun c => by cases c⟩, h.le, h.len⟩, fun i j v hv _ => ?_, fun ho => by cases ho⟩
  simp only [Blk.cell] at hv
  split at hv
  · rename_i hi
    obtain ⟨x, hx, rfl⟩ := Option.map_eq_some_iff.1 hv
    rw [rget_eq] at hx
    exact ⟨rfl, h.cell i hi j x hx⟩
  · cases hv
theorem holds_ro {w : World} {β : Nat → Loc} {h : List Blk} (hok : ∀ l, BlkOk w β (β l) (hget h l)) (hn : ∀ l, (hget h l).own = false) (hb : ∀ l, (hget h l).bd h.length) (hg : Gl w) : Holds w β h :=
  ⟨hok, fun l m _ _ _ ho => by rw [hn, hn] at ho; simp at ho, hb, hg, fun l ho => by rw [hn] at ho; cases ho⟩
/-- An argument that is a slice, nil or not: the place of its rows. -/
theorem SlcArg.loc {w : World} {v : Value} {n cap c : Nat} {f : Nat → List FV} (h : SlcArg w v n cap c f) :
    ∃ L : Loc, (∀ (β : Nat → Loc) (l : Nat), β l = L → den β (.slc l 0 n cap) = v) ∧ (∀ β : Nat → Loc, BlkOk w β L (.rows n cap c f false)) ∧ n ≤ cap := by
  rcases h with ⟨rfl, rfl, rfl⟩ | ⟨b, off, rfl, hh⟩
  · refine ⟨⟨0, 0, c, true⟩, fun β l e => by simp [den, e], fun β => ⟨fun q => ?_, ⟨⟨rfl, fun _ => ⟨rfl, rfl⟩⟩, Nat.le_refl _, fun i hi => by omega⟩, fun i j u hu => ?_, fun q => by cases q⟩, Nat.le_refl _⟩
    · rcases q with q | q
      · cases q
      · exact absurd q (Nat.lt_irrefl 0)
    · simp [Blk.cell] at hu
  · exact ⟨⟨b, off, c, false⟩, fun β l e => by simp [den, e], fun β => hh.blk β, hh.le⟩
theorem dead_ok (w : World) (β : Nat → Loc) (L : Loc) : BlkOk w β L .dead := ⟨fun c => c.elim, trivial, fun i j v hv => (by cases hv), fun c => (by cases c)⟩
theorem SlcAt.holds {w : World} {b off n cap c : Nat} {f : Nat → List FV} (h : SlcAt w b off n cap c f) (hg : Gl w) : Holds w (fun _ => ⟨b, off, c, false⟩) [.rows n cap c f false] := by
  refine holds_ro (fun l => ?_) (fun l => ?_) (fun l => ?_) hg <;> (rcases l with _ | l)
  · exact h.blk _
  · exact dead_ok _ _ _
  · rfl
  · rfl
  · trivial
  · trivial

theorem shape_lt {w : World} {b : Nat} {x : TypeId × Nat} (h : w.shape? b = some x) : b < w.heap.size := by
  rcases Nat.lt_or_ge b w.heap.size with c | c
  · exact c
  · have : w.heap[b]? = none := Array.getElem?_eq_none c
    simp [World.shape?, this] at h

section
variable {H : Type} {enc : TypeId × Value → H} {P : Program} {w : World} {base : Nat} {spare : Nat → Bool} {held : Bool}
theorem open_slc {t e : TypeId} {v : Value} {dt : DataW H} {ps : List MemPlace} {ks : List CK} (ht : P.underlying t = some (.slice e)) (hk : flatK P 5 e = some ks) (hC : P.cellsOf e = ks.length) (hpos : 0 < ks.length) {b0 : Nat}
    (hv : Cell.ok P w .any b0 t v) (h : DataW.Trod enc P w base spare held t v dt ps) : ∃ n cap f, SlcArg w v n cap ks.length f ∧ ∀ i, i < n → RowK ks (f i) := by
  simp only [Cell.ok, ht] at hv
  cases v <;> (try (exact hv.elim))
  rename_i a len cap
  cases a with
  | none =>
    have : len = 0 ∧ cap = 0 := by
      cases len <;> cases cap <;> simp_all
    obtain ⟨rfl, rfl⟩ := this
    exact ⟨0, 0, fun _ => [], .inl ⟨rfl, rfl, rfl⟩, fun i hi => by omega⟩
  | some ad =>
    obtain ⟨hlc, hcm, _, hsp, row, cells, hsh, _⟩ := hv
    obtain ⟨b, off, spot⟩ := ad
    simp only at hsp hsh
    subst hsp
    obtain ⟨⟨S⟩, _, hl⟩ := open_flats ht hk hC hpos h
    have hml : IntKind.i64.max = 9223372036854775807 := by decide
    rw [hml] at hcm
    refine ⟨len, cap, fun i => (S.es.getD i []).map toFV, .inr ⟨b, off, rfl, hlc, by omega, shape_lt hsh, fun i hi => ?_, fun i hi j x hx => ?_⟩, fun i hi => ?_⟩
    · have hi' : i < S.es.length := by rw [S.len_eq]; exact hi
      rw [List.length_map, List.getD_eq_getElem?_getD, List.getElem?_eq_getElem hi']
      exact S.elems.1 _ (List.getElem_mem hi')
    · have hi' : i < S.es.length := by rw [S.len_eq]; exact hi
      obtain ⟨b', off', he, _, hr⟩ := S.elems.at hi'
      cases he
      have hx' : (S.es[i].map toFV)[j]? = some x := by
        rw [List.getD_eq_getElem?_getD, List.getElem?_eq_getElem hi'] at hx; exact hx
      rw [List.getElem?_map] at hx'
      obtain ⟨u, hu, rfl⟩ := Option.map_eq_some_iff.1 hx'
      have hck := S.kinds _ (List.getElem_mem hi')
      have := hr i hi' j u hu
      rw [this]
      have hall := toFV_all hck
      have h2 : ((S.es[i].map toFV).map FV.val)[j]? = some u := by rw [hall]; exact hu
      rw [List.getElem?_map, List.getElem?_map, hu] at h2
      simpa using h2.symm
    · have hi' : i < S.es.length := by rw [S.len_eq]; exact hi
      have hck := S.kinds _ (List.getElem_mem hi')
      unfold RowK
      show CKs ks (List.map FV.val (List.map toFV (S.es.getD i [])))
      rw [List.getD_eq_getElem?_getD, List.getElem?_eq_getElem hi']
      simp only [Option.getD_some]
      rw [toFV_all hck]; exact hck
theorem open_slcV {t e : TypeId} {v : Value} {dt : DataW H} {ps : List MemPlace} {ks : List CK} (ht : P.underlying t = some (.slice e)) (hk : flatK P 5 e = some ks) (hC : P.cellsOf e = ks.length) (hpos : 0 < ks.length) {b0 : Nat}
    (hv : Value.okWide P w .any b0 t v) (h : DataW.Trod enc P w base spare held t v dt ps) : ∃ n cap f, SlcArg w v n cap ks.length f ∧ ∀ i, i < n → RowK ks (f i) := by
  refine open_slc ht hk hC hpos (b0 := b0) ?_ h
  simp only [Value.okWide, ht, Cell.okWide] at hv
  exact hv
end
section
variable {P : Program}
/-- A contract, over blocks that are only read, as a law wants it. -/
theorem CV.lawH {f : FuncId} {args : List SV} {h : List Blk} (c : CV P f args h fun v hh => v = .f (.bool true) ∧ hh = h) {w : World} {β : Nat → Loc} (H : Holds w β h) (hn : ∀ l, (hget h l).own = false) :
    Calls P f (denL β args).toArray w fun e w' => e = .returned (.bool true) ∧ Below w.heap.size w w' :=
  Calls.mono (c.calls w _ H) fun e w' ⟨v, hh, β', he, ⟨hv, hq⟩, _, s, _⟩ => ⟨by rw [he, hv]; rfl, s.below hn⟩
end
/-- The value in a cell. -/
def fN : FV → Nat
  | .flt _ b => b
  | _ => 0
def fZ : FV → Int
  | .int _ n => n
  | _ => 0
def cN (f : Nat → List FV) (j i : Nat) : Nat := fN ((f i).getD j .nilp)
def cZ (f : Nat → List FV) (j i : Nat) : Int := fZ ((f i).getD j .nilp)
/-- One cell of a kind. -/
def CK.row : CK → FV → Prop
  | .i k, x => ∃ n : Int, x = .int k n ∧ k.min ≤ n ∧ n ≤ k.max
  | .f k, x => ∃ b : Nat, x = .flt k b
theorem ck_f {k : FloatKind} {x : FV} (h : (CK.f k).ok x.val) : x = .flt k (fN x) := by
  obtain ⟨b, e, _⟩ := h
  cases x <;> simp [FV.val] at e
  obtain ⟨rfl, rfl⟩ := e; rfl
theorem ck_i {k : IntKind} {x : FV} (h : (CK.i k).ok x.val) : x = .int k (fZ x) ∧ k.min ≤ fZ x ∧ fZ x ≤ k.max := by
  obtain ⟨b, e, hw⟩ := h
  cases x <;> simp [FV.val] at e
  obtain ⟨rfl, rfl⟩ := e
  rename_i k0 n0
  have h2 : k0.min ≤ n0 ∧ n0 ≤ k0.max := by simpa [Lit.wf] using hw
  exact ⟨rfl, h2⟩
section
variable {H : Type} {enc : TypeId × Value → H} {P : Program} {w : World} {base : Nat} {spare : Nat → Bool} {held : Bool}
/-- An array that lies flat: its cells. -/
theorem open_arr {r : Reach} {b0 : Nat} {t : TypeId} {v : Value} {dt : DataW H} {ps : List MemPlace} {ks : List CK} {n : Nat} {e : TypeId} (hs : P.underlying t = some (.array n e)) (hk : flatK P 5 t = some ks)
    (hv : Value.okWide P w r b0 t v) (h : DataW.Trod enc P w base spare held t v dt ps) : ∃ l : List Value, v = .agg l.toArray ∧ CKs ks l := by
  have hv' : ∃ cs, v = .agg cs ∧ cs.size = P.cellsOf t ∧ Row.okWide P w r b0 t cs := by
    simpa only [Value.okWide, hs] using hv
  obtain ⟨cs, rfl, hsz, _⟩ := hv'
  obtain ⟨fuel, hf⟩ := h
  exact ⟨cs.toList, by simp, flat_cells 5 hk hf⟩
end
theorem floats_of {n : Nat} {l : List Value} (h : CKs (List.replicate n (.f .f32)) l) : ∃ x : Nat → Nat, l = (List.range n).map fun i => .float .f32 (x i) := by
  have hl := CKs.length h
  rw [List.length_replicate] at hl
  refine ⟨fun i => match l[i]? with | some (.float .f32 b) => b | _ => 0, List.ext_getElem? fun i => ?_⟩
  by_cases c : i < n
  · obtain ⟨v, hv, hk⟩ := CKs.get h i (.f .f32) (by simp [c])
    obtain ⟨b, rfl, _⟩ := okf hk
    simp [hv, c]
  · rw [List.getElem?_eq_none (by omega), List.getElem?_eq_none (by simp; omega)]
theorem rowK_nil {r : List FV} (h : RowK [] r) : r = [] := by cases r; rfl; exact h.elim
theorem rowK_cons {k : CK} {ks : List CK} {r : List FV} (h : RowK (k :: ks) r) : ∃ x s, r = x :: s ∧ k.ok x.val ∧ RowK ks s := by
  cases r with
  | nil => exact h.elim
  | cons x s => exact ⟨x, s, rfl, h.1, h.2⟩
end Go.Proofs.YtjhddlkfkicpaaaGreatDoor.Vx

namespace Go.Proofs.YtjhddlkfkicpaaaGreatDoor.Vx
open Go Go.RowKit Fl
set_option maxRecDepth 100000
set_option linter.unusedSimpArgs false
set_option linter.unusedVariables false

def szI (left : Int) (n : Nat) : Int := if left < n then -1 else left - n

end Go.Proofs.YtjhddlkfkicpaaaGreatDoor.Vx

namespace Go.Proofs.YtjhddlkfkicpaaaGreatDoor.Vx
open Go Go.RowKit Fl
set_option maxRecDepth 100000
set_option linter.unusedSimpArgs false
set_option linter.unusedVariables false

theorem mul_unit {a b : Nat} (ha : fin a ∧ -(key 1065353216) ≤ key a ∧ key a ≤ key 1065353216) (hb : fin b ∧ -(key 1065353216) ≤ key b ∧ key b ≤ key 1065353216) :
    MulOk a b ∧ nn (fmul a b) := ⟨(mul_fin ha.1 hb.1).1, (mul_fin ha.1 hb.1).2.2⟩
theorem Q_anti {a b b' : Nat} (h0 : 0 < b) (h : b ≤ b') : Q a b' ≤ Q a b := by
  unfold Q
  apply R_mono
  generalize a * 2 ^ far = u
  have hq : u / b' ≤ u / b := Nat.div_le_div_left h h0
  rcases Nat.lt_or_eq_of_le hq with hlt | heq
  · split <;> split <;> omega
  · have eu := Nat.div_add_mod u b
    have ev := Nat.div_add_mod u b'
    split
    · split <;> omega
    · rename_i c
      split
      · rename_i d
        exfalso
        rw [d] at eu
        rw [heq] at ev
        have : b * (u / b) ≤ b' * (u / b) := Nat.mul_le_mul_right _ h
        omega
      · omega
theorem div_anti {x y y' : Nat} (hx : F0 x) (hy : fin y) (hy' : fin y') (h : 0 < key y) (k : key y ≤ key y') : key (fdiv x y') ≤ key (fdiv x y) := by
  rw [key_div_pos hx hy h, key_div_pos hx hy' (by omega)]
  have r1 := rung_of (Int.le_of_lt h)
  have r2 := rung_of (x := y') (by omega)
  have := Q_anti (a := MAG (rung x)) (MAG_pos hy h) ((MAG_le hy hy').2 (by omega))
  omega
theorem one_le {n : Nat} (h0 : 1 ≤ n) (h : n ≤ 64) : key 1019804380 ≤ key (quart n) := by
  have : ((List.range 65).all fun n => n == 0 || decide (key 1019804380 ≤ key (quart n))) = true := by decide +kernel
  have := List.all_eq_true.1 this n (by simp; omega)
  simpa [show n ≠ 0 by omega] using this
theorem quart_F0 {n : Nat} (h : n ≤ 64) : F0 (quart n) ∧ key (quart n) ≤ key 1065353216 := by
  have := quart_ok h
  exact ⟨this.pos, this.one⟩
theorem quart_zero : quart 0 = 0 := by decide +kernel
theorem sinN_pos {r : Nat} (h : r < 256) (hk : 0 < key (sinN r)) : ∃ j, 1 ≤ j ∧ j ≤ 64 ∧ sinN r = quart j := by
  have k0 : key 0 = 0 := by decide
  have no : ∀ n, n ≤ 64 → sinN r = quart n → ∃ j, 1 ≤ j ∧ j ≤ 64 ∧ sinN r = quart j := fun n hn e => by
    refine ⟨n, ?_, hn, e⟩
    rcases Nat.eq_zero_or_pos n with z | z
    · rw [e, z, quart_zero, k0] at hk; omega
    · exact z
  have neg : ∀ n, n ≤ 64 → sinN r = fsub 0 (quart n) → False := fun n hn e => by
    have q := quart_ok hn
    rw [e, q.kneg] at hk
    have := q.pos.2
    omega
  by_cases c1 : r ≤ 64
  · exact no r c1 (by simp [sinN, c1])
  · by_cases c2 : r ≤ 128
    · exact no (128 - r) (by omega) (by simp [sinN, c1, c2])
    · by_cases c3 : r ≤ 192
      · exact (neg (r - 128) (by omega) (by simp [sinN, c1, c2, c3])).elim
      · exact (neg (256 - r) (by omega) (by simp [sinN, c1, c2, c3])).elim
theorem cos_up {n : Nat} (h : n ≤ 64) : cosF (n : Int) = quart (64 - n) := by
  have e1 : ang (n : Int) = n := ang_id (by omega)
  have e2 : ang ((n : Int) + 64) = n + 64 := by have := ang_id (n := n + 64) (by omega); push_cast at this; exact this
  unfold cosF sineF
  rw [e1, e2]
  unfold sinN
  by_cases c : n = 0
  · subst c; rfl
  · rw [if_neg (by omega), if_pos (by omega)]; congr 1; omega
theorem sine_up {n : Nat} (h : n ≤ 64) : sineF (n : Int) = quart n := by
  have e1 : ang (n : Int) = n := ang_id (by omega)
  unfold sineF
  rw [e1]; simp [sinN, h]
end Go.Proofs.YtjhddlkfkicpaaaGreatDoor.Vx
