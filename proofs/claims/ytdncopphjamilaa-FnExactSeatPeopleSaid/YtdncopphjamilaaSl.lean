/- Slices whose elements lie flat: what a slice of such elements holds, and how it is kept. -/
import Derived.Test.YtdncopphjamilaaReg
import Derived.Test.YtdncopphjamilaaFlat
import Derived.Deep.MidRow
namespace Go.Proofs.Ytdncopphjamilaa
open Go.ChangeShapes Go.WideShapes Go.RowKit

/-- The slice at 'a' holds the elements 'es', of 'c' cells each. -/
def Elems (w : World) (a : Option Addr) (es : List (List Value)) (c : Nat) : Prop :=
  (∀ cs ∈ es, cs.length = c) ∧ (es = [] ∨ ∃ b off, a = some ⟨b, off, none⟩ ∧ b < w.heap.size ∧ ∀ i (h : i < es.length), w.rangeAt b (off + i * c) es[i])

theorem rangeAt_ext {w w' : World} (x : Ext w w') {b o : Nat} {cs : List Value} (hb : b < w.heap.size) (h : w.rangeAt b o cs) : w'.rangeAt b o cs := fun j v hv => by
  rw [Below.cell x (p := ⟨b, o + j, none⟩) hb]; exact h j v hv
theorem there_ext {w w' : World} (x : Ext w w') {b o n : Nat} (hb : b < w.heap.size) (h : w.there b o n) : w'.there b o n := fun j hj => by
  rw [Below.cell x (p := ⟨b, o + j, none⟩) hb, Below.frozen x (p := ⟨b, o + j, none⟩) hb]; exact h j hj

theorem Elems.ext {w w' : World} {a : Option Addr} {es : List (List Value)} {c : Nat} (h : Elems w a es c) (x : Ext w w') : Elems w' a es c := by
  refine ⟨h.1, h.2.imp id ?_⟩
  rintro ⟨b, off, e, hb, hr⟩
  exact ⟨b, off, e, Nat.lt_of_lt_of_le hb x.size, fun i hi => rangeAt_ext x hb (hr i hi)⟩

theorem Elems.at {w : World} {a : Option Addr} {es : List (List Value)} {c : Nat} (h : Elems w a es c) {k : Nat} (hk : k < es.length) :
    ∃ b off, a = some ⟨b, off, none⟩ ∧ b < w.heap.size ∧ ∀ i (h : i < es.length), w.rangeAt b (off + i * c) es[i] := by
  rcases h.2 with h0 | h0
  · subst h0; simp at hk
  · exact h0

theorem rangeAt_cell {w : World} {b o : Nat} {cs : List Value} (h : w.rangeAt b o cs) (j : Nat) (hj : j < cs.length) : w.cell? ⟨b, o + j, none⟩ = some cs[j] :=
  h j cs[j] (List.getElem?_eq_getElem hj)

theorem setCells_size (b : Nat) : ∀ (vs : List Value) (o : Nat) (w : World), (w.setCells b o vs).heap.size = w.heap.size
  | [], _, _ => rfl
  | v :: r, o, w => by unfold World.setCells; rw [setCells_size b r]; simp
theorem Below.setCells {B : Nat} {a : World} {b : Nat} (hb : B ≤ b) : ∀ (vs : List Value) (o : Nat) {w : World}, Below B a w → Below B a (w.setCells b o vs)
  | [], _, _, h => h
  | v :: r, o, _, h => Below.setCells hb r (o + 1) (h.setCell (p := ⟨b, o, none⟩) hb v)

/-- What a call makes: a new slice with the elements 'es'. -/
def MadeS (n : Nat) (es : List (List Value)) (c : Nat) (w : World) (e : Ending) (w' : World) : Prop :=
  ∃ g, e = .returned (.slice (some ⟨g, 0, none⟩) n n) ∧ w.heap.size ≤ g ∧ Elems w' (some ⟨g, 0, none⟩) es c ∧ Ext w w'

/-- In a loop that fills a new slice: k elements are there. -/
structure Filling (w : World) (g : Nat) (es : List (List Value)) (c k : Nat) (wr : World) : Prop where
  below : Below w.heap.size w wr
  new : w.heap.size ≤ g
  old : g < wr.heap.size
  room : wr.there g 0 (es.length * c)
  done : ∀ i (h : i < es.length), i < k → wr.rangeAt g (i * c) es[i]

theorem Filling.ext {w : World} {g : Nat} {es : List (List Value)} {c k : Nat} {wr w1 : World} (h : Filling w g es c k wr) (x : Ext wr w1) : Filling w g es c k w1 :=
  ⟨Below.trans h.below (Below.mono x h.below.size), h.new, Nat.lt_of_lt_of_le h.old x.size, there_ext x h.old h.room, fun i hi hk => rangeAt_ext x h.old (h.done i hi hk)⟩

theorem Filling.there {w : World} {g : Nat} {es : List (List Value)} {c k : Nat} {wr : World} (h : Filling w g es c k wr) (hk : k < es.length) : wr.there g (k * c) c := fun j hj => by
  have : k * c + j < es.length * c := by
    have := Nat.mul_le_mul_right c hk
    rw [Nat.succ_mul] at this; omega
  simpa using h.room (k * c + j) this

theorem Filling.put {w : World} {g : Nat} {es : List (List Value)} {c k : Nat} {wr : World} (h : Filling w g es c k wr) (hc : ∀ cs ∈ es, cs.length = c) (hk : k < es.length) :
    Filling w g es c (k + 1) (wr.setCells g (k * c) es[k]) := by
  have hl : es[k].length = c := hc _ (List.getElem_mem hk)
  refine ⟨Below.setCells h.new _ _ h.below, h.new, by rw [setCells_size]; exact h.old, World.there_setCells h.room _ _ _, fun i hi hik => ?_⟩
  by_cases e : i = k
  · subst e
    exact World.rangeAt_setCells_same _ _ _ _ (by rw [hl]; exact h.there hk)
  · have h1 : i < k := by omega
    refine World.rangeAt_setCells_apart (h.done i hi h1) _ _ _ (.inr (.inl ?_))
    rw [hc _ (List.getElem_mem hi)]
    have := Nat.mul_le_mul_right c h1
    rw [Nat.succ_mul] at this; exact this

theorem Filling.made {w : World} {g n : Nat} {es : List (List Value)} {c : Nat} {wr : World} (h : Filling w g es c n wr) (hn : es.length = n) (hc : ∀ cs ∈ es, cs.length = c) :
    MadeS n es c w (.returned (.slice (some ⟨g, 0, none⟩) n n)) wr := by
  subst hn
  exact ⟨g, rfl, h.new, ⟨hc, .inr ⟨g, 0, rfl, h.old, fun i hi => by simpa using h.done i hi hi⟩⟩, h.below⟩

theorem there_made (w : World) (z : Array Value) (n : Nat) (t : TypeId) : (w.alloc (.cells (madeCells z n) t)).there w.heap.size 0 n := fun j hj => by
  constructor
  · have hs : j < (madeCells z n).size := by rw [size_madeCells]; exact hj
    rw [Nat.zero_add, World.cell?_alloc_new, Array.getElem?_eq_getElem hs]; rfl
  · simp

/-- The beginning: the slice has just been made. -/
theorem Filling.start (w : World) (z : Array Value) (t : TypeId) (es : List (List Value)) (c : Nat) : Filling w w.heap.size es c 0 (w.alloc (.cells (madeCells z (es.length * c)) t)) :=
  ⟨(Below.refl _ _).alloc (Nat.le_refl _) _, Nat.le_refl _, by simp, there_made w z _ t, fun i hi h => by omega⟩

theorem make_at {P : Program} {t e : TypeId} {z : Value} {size bytes : Nat} (ht : P.underlying t = some (.slice e)) (hi : (P.info? e).map (fun i => (i.zero, i.size, i.bytes)) = some (some z, size, bytes)) (hb : bytes ≤ 1000)
    (n : Nat) (hn : n ≤ 1048576) (w : World) : (Instr.makeSlice t (.int .i64 (n : Int)) (.int .i64 (n : Int))).run P w = .ok (.slice (some ⟨w.heap.size, 0, none⟩) n n) (w.alloc (.cells (madeCells z.cells (n * size)) e)) := by
  obtain ⟨i, h1, h2, h3, h4⟩ := info_parts hi
  have hbn : i.bytes * n ≤ 1000 * 1048576 := Nat.mul_le_mul (by omega) hn
  have hbn' : ((i.bytes : Int) * (n : Int)) ≤ 1048576000 := by rw [← Int.natCast_mul]; omega
  have := run_make w t e i z ht h1 h2 .i64 .i64 n n (by omega) (Int.le_refl _) (by omega) (by omega)
  rw [this, h3]; simp

/-- A struct result that lies in a cell. -/
theorem ret_cell {fn : Func} {p : Tmp} {ty : TypeId} {a : Addr} {tmps : Array Value} {v : Value} {P : Program} {w : World} (h : fn.results = #[.cell p ty]) (hp : tmps.getD p undef = .pointer (some a))
    (hl : (loadVar ty a).run P w = .ok v w) : (results fn tmps).run P w = .ok v w := by
  have hp' : tmps[p]?.getD undef = .pointer (some a) := by simpa using hp
  simp only [results, h]
  simp [hp', asAddr, hl]

/-! ### boxes -/
theorem box_range (w : World) (l : List Value) (t : TypeId) : (w.alloc (.cells l.toArray t)).rangeAt w.heap.size 0 l := fun j v hv => by
  rw [Nat.zero_add, World.cell?_alloc_new]; simpa using hv
theorem box_there (w : World) (C : Array Value) (t : TypeId) (n : Nat) (hn : C.size = n) : (w.alloc (.cells C t)).there w.heap.size 0 n := fun j hj => by
  constructor
  · rw [Nat.zero_add, World.cell?_alloc_new, Array.getElem?_eq_getElem (by omega)]; rfl
  · simp
theorem box2_there (w : World) (a : Obj) (C : Array Value) (t : TypeId) (n : Nat) (hn : C.size = n) : ((w.alloc a).alloc (.cells C t)).there (w.heap.size + 1) 0 n := by
  have := box_there (w.alloc a) C t n hn
  rwa [World.size_alloc] at this
theorem box3_there (w : World) (a b : Obj) (C : Array Value) (t : TypeId) (n : Nat) (hn : C.size = n) : (((w.alloc a).alloc b).alloc (.cells C t)).there (w.heap.size + 1 + 1) 0 n := by
  have := box_there ((w.alloc a).alloc b) C t n hn
  rwa [World.size_alloc, World.size_alloc] at this
theorem rangeAt_set {w : World} {b' o' : Nat} {cs : List Value} (h : w.rangeAt b' o' cs) (b o : Nat) (v : Value) (hne : b' ≠ b) : (w.setCell ⟨b, o, none⟩ v).rangeAt b' o' cs :=
  World.rangeAt_setCells_apart h b o [v] (.inl hne)
theorem there_set {w : World} {b' o' n : Nat} (h : w.there b' o' n) (b o : Nat) (v : Value) : (w.setCell ⟨b, o, none⟩ v).there b' o' n :=
  World.there_setCells h b o [v]
/-- An argument that is a slice of flat elements. -/
structure FlatSlice (w : World) (ks : List CK) (a : Option Addr) (len : Nat) where
  es : List (List Value)
  len_eq : es.length = len
  elems : Elems w a es ks.length
  kinds : ∀ cs ∈ es, CKs ks cs

section
variable {H : Type} {enc : TypeId × Value → H} {P : Program} {w : World} {base : Nat} {spare : Nat → Bool} {held : Bool}
theorem open_flats {t e : TypeId} {a : Option Addr} {len cap : Nat} {dt : DataW H} {ps : List MemPlace} {ks : List CK} (ht : P.underlying t = some (.slice e)) (hk : flatK P 5 e = some ks) (hC : P.cellsOf e = ks.length) (hpos : 0 < ks.length)
    (h : DataW.Trod enc P w base spare held t (.slice a len cap) dt ps) : Nonempty (FlatSlice w ks a len) ∧ (a = none → len = 0) ∧ len ≤ 9223372036854775807 := by
  obtain ⟨fuel, hf⟩ := h
  rcases Go.Deep.open_slice ht hf with ⟨hcs, _⟩ | ⟨ad, len', cap', m, n, D, Pl, hcs, hb, hl, hm, hmm, hx, hi⟩
  · simp [Value.cells] at hcs
    obtain ⟨rfl, rfl, rfl⟩ := hcs
    exact ⟨⟨⟨[], rfl, ⟨by simp, .inl rfl⟩, by simp⟩⟩, fun _ => rfl, by omega⟩
  · simp [Value.cells] at hcs
    obtain ⟨rfl, rfl, rfl⟩ := hcs
    have hml : maxLen = 9223372036854775807 := by decide
    refine ⟨?_, (fun h => by cases h), by omega⟩
    have hlm : len ≤ m := by rw [hmm]; split <;> omega
    have key : ∀ i, i < len → ∃ cs, w.cells? base (ad.add (i * ks.length)) ks.length = some cs ∧ CKs ks cs := fun i hil => by
      obtain ⟨cs, hc, htr⟩ := hi i (by omega)
      rw [hC] at hc
      exact ⟨cs, hc, flat_cells 5 hk htr⟩
    let el : Nat → List Value := fun i => if hil : i < len then (key i hil).choose else []
    have hel : ∀ i, i < len → w.cells? base (ad.add (i * ks.length)) ks.length = some (el i) ∧ CKs ks (el i) := fun i hil => by
      simp only [el, dif_pos hil]; exact (key i hil).choose_spec
    refine ⟨⟨(List.range len).map el, by simp, ⟨?_, ?_⟩, ?_⟩⟩
    · intro cs hcs
      obtain ⟨i, hi, rfl⟩ := List.mem_map.1 hcs
      exact (hel i (by simpa using hi)).2.length
    · by_cases h0 : len = 0
      · left; simp [h0]
      · right
        obtain ⟨b, off, spot⟩ := ad
        have h1 := (hel 0 (by omega)).1
        obtain ⟨_, hcl, hat⟩ := World.cells?_some h1
        obtain ⟨v0, hv0⟩ : ∃ v, (el 0)[0]? = some v := ⟨_, List.getElem?_eq_getElem (by rw [(hel 0 (by omega)).2.length]; exact hpos)⟩
        have c0 : w.cell? ((Addr.mk b off spot).add (0 * ks.length)) = some v0 := by
          have := hat 0 hpos
          rw [hv0] at this
          simpa [Addr.add] using this
        have hs : spot = none := by simpa [Addr.add] using World.cell?_spot c0
        subst hs
        refine ⟨b, off, rfl, ?_, fun i hi => ?_⟩
        · have := World.block_lt_of_cell? w _ c0
          simpa [Addr.add] using this
        · simp only [List.length_map, List.length_range] at hi
          simp only [List.getElem_map, List.getElem_range]
          obtain ⟨_, hcl', hat'⟩ := World.cells?_some (hel i hi).1
          intro j v hv
          have hj : j < ks.length := by
            have := (List.getElem?_eq_some_iff.1 hv).1
            rw [(hel i hi).2.length] at this; exact this
          have := hat' j hj
          rw [hv] at this
          rw [← this, Addr.add_mid, Addr.add_mid]
    · intro cs hcs
      obtain ⟨i, hi, rfl⟩ := List.mem_map.1 hcs
      exact (hel i (by simpa using hi)).2
end

end Go.Proofs.Ytdncopphjamilaa
