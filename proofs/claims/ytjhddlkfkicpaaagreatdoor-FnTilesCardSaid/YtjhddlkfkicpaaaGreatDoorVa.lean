/- Abstract execution: abstract values and blocks, and what they stand for in a world. Over any program. -/
import Derived.Test.YtjhddlkfkicpaaaGreatDoorGl
import Derived.Test.YtjhddlkfkicpaaaGreatDoorFl
import Derived.ChangeKeysEq
import Derived.Laws.StructEq
namespace Go.Proofs.YtjhddlkfkicpaaaGreatDoor.Vx
open Go Go.RowKit
set_option linter.unusedVariables false
set_option linter.unusedSimpArgs false

/-- Values of one cell that lead to no memory. -/
inductive FV where
  | int (k : IntKind) (n : Int)
  | bool (b : Bool)
  | flt (k : FloatKind) (b : Nat)
  | str (s : ByteArray)
  | nilp
  | nils
  | nilf

def FV.val : FV → Value
  | .int k n => .int k n
  | .bool b => .bool b
  | .flt k b => .float k b
  | .str s => .string s
  | .nilp => .pointer none
  | .nils => .slice none 0 0
  | .nilf => .nilFunc
theorem FV.one (v : FV) : v.val.oneCell' = true := by cases v <;> rfl

structure Loc where
  b : Nat
  lo : Nat
  c : Nat
  nl : Bool

inductive SV where
  | f (v : FV)
  | ptr (l i j : Nat)
  | slc (l i len cap : Nat)
  | fn (g : FuncId) (first caps : List SV)
  | agg (l : List SV)
  | arr (n : Nat) (g : Nat → FV)
  | tup (l : List SV)
  | any

mutual
def den (β : Nat → Loc) : SV → Value
  | .f v => v.val
  | .ptr l i j => .pointer (some ⟨(β l).b, (β l).lo + i * (β l).c + j, none⟩)
  | .slc l i n c => .slice (if (β l).nl = true ∧ n = 0 ∧ c = 0 then none else some ⟨(β l).b, (β l).lo + i * (β l).c, none⟩) n c
  | .fn g a b => .func (.func g) (denL β a).toArray (denL β b).toArray
  | .agg l => .agg (denL β l).toArray
  | .arr n g => .agg ((List.range n).map fun i => (g i).val).toArray
  | .tup l => .tuple (denL β l).toArray
  | .any => undef
def denL (β : Nat → Loc) : List SV → List Value
  | [] => []
  | v :: r => den β v :: denL β r
end
theorem denL_map (β : Nat → Loc) : ∀ l, denL β l = l.map (den β)
  | [] => rfl
  | v :: r => by rw [denL, denL_map β r]; rfl
theorem denL_append (β : Nat → Loc) (a b : List SV) : denL β (a ++ b) = denL β a ++ denL β b := by simp [denL_map]

mutual
/-- All labels are less than n. -/
def SV.bd (n : Nat) : SV → Prop
  | .ptr l _ _ => l < n
  | .slc l _ _ _ => l < n
  | .fn _ a b => bdL n a ∧ bdL n b
  | .agg l => bdL n l
  | .tup l => bdL n l
  | _ => True
def bdL (n : Nat) : List SV → Prop
  | [] => True
  | v :: r => v.bd n ∧ bdL n r
end
theorem bdL_iff (n : Nat) : ∀ l, bdL n l ↔ ∀ v ∈ l, v.bd n
  | [] => by simp [bdL]
  | v :: r => by simp [bdL, bdL_iff n r]

mutual
theorem den_congr {β β' : Nat → Loc} {n : Nat} (h : ∀ l, l < n → β l = β' l) : ∀ v : SV, v.bd n → den β v = den β' v
  | .f _, _ => rfl
  | .ptr l i j, hv => by simp only [den, h l hv]
  | .slc l i _ _, hv => by simp only [den, h l hv]
  | .fn _ a b, hv => by simp only [den, denL_congr h a hv.1, denL_congr h b hv.2]
  | .agg l, hv => by simp only [den, denL_congr h l hv]
  | .arr _ _, _ => rfl
  | .tup l, hv => by simp only [den, denL_congr h l hv]
  | .any, _ => rfl
theorem denL_congr {β β' : Nat → Loc} {n : Nat} (h : ∀ l, l < n → β l = β' l) : ∀ l : List SV, bdL n l → denL β l = denL β' l
  | [], _ => rfl
  | v :: r, hv => by simp only [denL, den_congr h v hv.1, denL_congr h r hv.2]
end
mutual
theorem SV.bd_mono {n m : Nat} (h : n ≤ m) : ∀ v : SV, v.bd n → v.bd m
  | .f _, _ => trivial
  | .ptr l i j, hv => Nat.lt_of_lt_of_le hv h
  | .slc l i _ _, hv => Nat.lt_of_lt_of_le hv h
  | .fn _ a b, hv => ⟨bdL_mono h a hv.1, bdL_mono h b hv.2⟩
  | .agg l, hv => bdL_mono h l hv
  | .arr _ _, _ => trivial
  | .tup l, hv => bdL_mono h l hv
  | .any, _ => trivial
theorem bdL_mono {n m : Nat} (h : n ≤ m) : ∀ l : List SV, bdL n l → bdL m l
  | [], _ => trivial
  | v :: r, hv => ⟨SV.bd_mono h v hv.1, bdL_mono h r hv.2⟩
end

mutual
/-- Labels named anew. -/
def SV.ren (r : Nat → Nat) : SV → SV
  | .ptr l i j => .ptr (r l) i j
  | .slc l i n c => .slc (r l) i n c
  | .fn g a b => .fn g (renL r a) (renL r b)
  | .agg l => .agg (renL r l)
  | .tup l => .tup (renL r l)
  | .f v => .f v
  | .arr n g => .arr n g
  | .any => .any
def renL (r : Nat → Nat) : List SV → List SV
  | [] => []
  | v :: l => v.ren r :: renL r l
end
mutual
theorem den_ren (β : Nat → Loc) (r : Nat → Nat) : ∀ v : SV, den β (v.ren r) = den (fun l => β (r l)) v
  | .f _ => rfl
  | .ptr l i j => rfl
  | .slc l i _ _ => rfl
  | .fn _ a b => by simp only [SV.ren, den, denL_ren β r a, denL_ren β r b]
  | .agg l => by simp only [SV.ren, den, denL_ren β r l]
  | .arr _ _ => rfl
  | .tup l => by simp only [SV.ren, den, denL_ren β r l]
  | .any => rfl
theorem denL_ren (β : Nat → Loc) (r : Nat → Nat) : ∀ l : List SV, denL β (renL r l) = denL (fun l => β (r l)) l
  | [] => rfl
  | v :: l => by simp only [renL, denL, den_ren β r v, denL_ren β r l]
end
mutual
theorem SV.bd_ren {n m : Nat} {r : Nat → Nat} (h : ∀ l, l < n → r l < m) : ∀ v : SV, v.bd n → (v.ren r).bd m
  | .f _, _ => trivial
  | .ptr l i j, hv => h l hv
  | .slc l i _ _, hv => h l hv
  | .fn _ a b, hv => ⟨bdL_ren h a hv.1, bdL_ren h b hv.2⟩
  | .agg l, hv => bdL_ren h l hv
  | .arr _ _, _ => trivial
  | .tup l, hv => bdL_ren h l hv
  | .any, _ => trivial
theorem bdL_ren {n m : Nat} {r : Nat → Nat} (h : ∀ l, l < n → r l < m) : ∀ l : List SV, bdL n l → bdL m (renL r l)
  | [], _ => trivial
  | v :: l, hv => ⟨SV.bd_ren h v hv.1, bdL_ren h l hv.2⟩
end
mutual
theorem SV.ren_ren {n : Nat} {r s : Nat → Nat} (h : ∀ l, l < n → s (r l) = l) : ∀ v : SV, v.bd n → (v.ren r).ren s = v
  | .f _, _ => rfl
  | .ptr l i j, hv => by simp only [SV.ren, h l hv]
  | .slc l i _ _, hv => by simp only [SV.ren, h l hv]
  | .fn _ a b, hv => by simp only [SV.ren, renL_renL h a hv.1, renL_renL h b hv.2]
  | .agg l, hv => by simp only [SV.ren, renL_renL h l hv]
  | .arr _ _, _ => rfl
  | .tup l, hv => by simp only [SV.ren, renL_renL h l hv]
  | .any, _ => rfl
theorem renL_renL {n : Nat} {r s : Nat → Nat} (h : ∀ l, l < n → s (r l) = l) : ∀ l : List SV, bdL n l → renL s (renL r l) = l
  | [], _ => rfl
  | v :: l, hv => by simp only [renL, SV.ren_ren h v hv.1, renL_renL h l hv.2]
end

/-- Of one cell? -/
def SV.one : SV → Bool
  | .agg _ | .arr _ _ | .tup _ | .any => false
  | _ => true
theorem SV.one_den {β : Nat → Loc} {v : SV} (h : v.one = true) : (den β v).oneCell' = true := by
  cases v <;> first | rfl | (simp [SV.one] at h; done) | exact FV.one _
def SV.known : SV → Bool
  | .any => false
  | _ => true
theorem SV.one_known {v : SV} (h : v.one = true) : v.known = true := by cases v <;> first | rfl | (simp [SV.one] at h; done)

/-! ### Blocks -/
inductive Blk where
  | lit (row : List SV) (own : Bool)
  | rows (n cap c : Nat) (f : Nat → List FV) (own : Bool)
  | cells (n : Nat) (g : Nat → FV) (own : Bool)
  | dead

def rget {α : Type} : List α → Nat → Option α
  | [], _ => none
  | v :: _, 0 => some v
  | _ :: r, n + 1 => rget r n
theorem rget_eq {α : Type} : ∀ (l : List α) (n : Nat), rget l n = l[n]?
  | [], _ => by simp [rget]
  | v :: _, 0 => by simp [rget]
  | _ :: r, n + 1 => by simp [rget, rget_eq r n]
def rset {α : Type} : List α → Nat → α → List α
  | [], _, _ => []
  | _ :: r, 0, u => u :: r
  | v :: r, n + 1, u => v :: rset r n u
theorem rset_eq {α : Type} : ∀ (l : List α) (n : Nat) (u : α), rset l n u = l.set n u
  | [], _, _ => by simp [rset]
  | v :: _, 0, _ => by simp [rset]
  | _ :: r, n + 1, u => by simp [rset, rset_eq r n]

/-- What is known of the cell j of row i. -/
def Blk.cell : Blk → Nat → Nat → Option SV
  | .lit row _, i, j => if i = 0 then rget row j else none
  | .rows n _ _ f _, i, j => if i < n then (rget (f i) j).map .f else none
  | .cells n g _, i, j => if i = 0 ∧ j < n then some (.f (g j)) else none
  | .dead, _, _ => none
/-- Is there such a cell? -/
def Blk.room : Blk → Nat → Nat → Prop
  | .lit row _, i, j => i = 0 ∧ j < row.length
  | .rows _ cap c _ _, i, j => i < cap ∧ j < c
  | .cells n _ _, i, j => i = 0 ∧ j < n
  | .dead, _, _ => False
def Blk.own : Blk → Bool
  | .lit _ o | .rows _ _ _ _ o | .cells _ _ o => o
  | .dead => false
/-- Of rows: the width is right; a slice that may be nil has no cells and is nobody's own. -/
def RowFit (L : Loc) (c cap : Nat) (own : Bool) : Prop := L.c = c ∧ (L.nl = true → own = false ∧ cap = 0)
/-- A slice of these rows is not nil. -/
def NN (cap : Nat) : Bool → Prop
  | true => True
  | false => 0 < cap
theorem RowFit.nn {L : Loc} {c cap : Nat} {own : Bool} (h : RowFit L c cap own) (k : NN cap own) : L.nl = false := by
  cases e : L.nl with
  | false => rfl
  | true =>
    obtain ⟨a, b⟩ := h.2 e
    subst a
    have : 0 < cap := k
    omega
def Blk.fit (L : Loc) : Blk → Prop
  | .rows n cap c' f own => RowFit L c' cap own ∧ n ≤ cap ∧ ∀ i, i < n → (f i).length = c'
  | _ => True
def Blk.live : Blk → Prop
  | .dead => False
  | .rows _ cap _ _ own => own = true ∨ 0 < cap
  | _ => True
def Blk.bd (n : Nat) : Blk → Prop
  | .lit row _ => bdL n row
  | _ => True

structure BlkOk (w : World) (β : Nat → Loc) (L : Loc) (blk : Blk) : Prop where
  there : blk.live → L.b < w.heap.size
  fit : blk.fit L
  cell : ∀ i j v, blk.cell i j = some v → v.known = true → v.one = true ∧ w.cell? ⟨L.b, L.lo + i * L.c + j, none⟩ = some (den β v)
  wr : blk.own = true → L.lo = 0 ∧ ∀ i j, blk.room i j → (w.cell? ⟨L.b, L.lo + i * L.c + j, none⟩).isSome = true ∧ w.frozen? ⟨L.b, L.lo + i * L.c + j, none⟩ = false

def hget : List Blk → Nat → Blk
  | [], _ => .dead
  | b :: _, 0 => b
  | _ :: r, n + 1 => hget r n
theorem hget_eq : ∀ (h : List Blk) (n : Nat), hget h n = (h[n]?).getD .dead
  | [], _ => by simp [hget]
  | _ :: _, 0 => by simp [hget]
  | _ :: r, n + 1 => by simp [hget, hget_eq r n]
def hset : List Blk → Nat → Blk → List Blk
  | [], _, _ => []
  | _ :: r, 0, u => u :: r
  | v :: r, n + 1, u => v :: hset r n u
theorem hset_length : ∀ (h : List Blk) (n : Nat) (b : Blk), (hset h n b).length = h.length
  | [], _, _ => rfl
  | _ :: _, 0, _ => rfl
  | _ :: r, n + 1, b => by simp [hset, hset_length r n b]
theorem hget_hset : ∀ (h : List Blk) (n m : Nat) (b : Blk), hget (hset h n b) m = if m = n ∧ n < h.length then b else hget h m
  | [], n, m, b => by simp [hset, hget]
  | x :: r, 0, 0, b => by simp [hset, hget]
  | x :: r, 0, m + 1, b => by simp [hset, hget]
  | x :: r, n + 1, 0, b => by simp [hset, hget]
  | x :: r, n + 1, m + 1, b => by simp [hset, hget, hget_hset r n m b]
theorem hget_append (h : List Blk) (b : Blk) (m : Nat) : hget (h ++ [b]) m = if m = h.length then b else hget h m := by
  rw [hget_eq, hget_eq]
  by_cases e : m = h.length
  · subst e; simp
  · rw [if_neg e]
    rcases Nat.lt_or_ge m h.length with c | c
    · rw [List.getElem?_append_left c]
    · rw [List.getElem?_eq_none (by simp; omega), List.getElem?_eq_none c]
theorem hget_out {h : List Blk} {m : Nat} (c : h.length ≤ m) : hget h m = .dead := by rw [hget_eq, List.getElem?_eq_none c]; rfl
theorem hget_lt {h : List Blk} {m : Nat} (c : (hget h m).live) : m < h.length := by
  rcases Nat.lt_or_ge m h.length with d | d
  · exact d
  · rw [hget_out d] at c; exact c.elim
theorem Blk.own_live {b : Blk} (h : b.own = true) : b.live := by cases b <;> first | trivial | exact .inl h | (simp [Blk.own] at h; done)

theorem BlkOk.cell_live {w : World} {β : Nat → Loc} {L : Loc} {blk : Blk} (h : BlkOk w β L blk) {i j : Nat} {v : SV} (hv : blk.cell i j = some v) : blk.live := by
  cases blk with
  | lit _ _ => trivial
  | cells _ _ _ => trivial
  | dead => cases hv
  | rows n cap c f own =>
    have hf := h.fit.2.1
    simp only [Blk.cell] at hv
    split at hv
    · exact .inr (by omega)
    · cases hv
theorem den_slc {β : Nat → Loc} {l i n c : Nat} (h : (β l).nl = false) : den β (.slc l i n c) = .slice (some ⟨(β l).b, (β l).lo + i * (β l).c, none⟩) n c := by
  simp only [den]; rw [if_neg (by rw [h]; simp)]
theorem den_slc_pos {β : Nat → Loc} {l i n c : Nat} (h : 0 < n) : den β (.slc l i n c) = .slice (some ⟨(β l).b, (β l).lo + i * (β l).c, none⟩) n c := by
  simp only [den]; rw [if_neg (by omega)]

structure Holds (w : World) (β : Nat → Loc) (h : List Blk) : Prop where
  ok : ∀ l, BlkOk w β (β l) (hget h l)
  inj : ∀ l m, (hget h l).live → (hget h m).live → l ≠ m → ((hget h l).own = true ∨ (hget h m).own = true) → (β l).b ≠ (β m).b
  bd : ∀ l, (hget h l).bd h.length
  gl : Gl w
  go : ∀ l, (hget h l).own = true → ng ≤ (β l).b

theorem BlkOk.ext {w w' : World} {β : Nat → Loc} {L : Loc} {blk : Blk} (h : BlkOk w β L blk) (x : Ext w w') : BlkOk w' β L blk := by
  refine ⟨fun hl => Nat.lt_of_lt_of_le (h.there hl) x.size, h.fit, fun i j v hv hk => ?_, fun ho => ⟨(h.wr ho).1, fun i j hr => ?_⟩⟩
  · have := h.cell i j v hv hk
    have hb := World.block_lt_of_cell? w _ this.2
    exact ⟨this.1, by rw [Below.cell x (p := ⟨L.b, L.lo + i * L.c + j, none⟩) hb]; exact this.2⟩
  · have hb := h.there (Blk.own_live ho)
    rw [Below.cell x (p := ⟨L.b, L.lo + i * L.c + j, none⟩) hb, Below.frozen x (p := ⟨L.b, L.lo + i * L.c + j, none⟩) hb]
    exact (h.wr ho).2 i j hr
theorem Holds.ext {w w' : World} {β : Nat → Loc} {h : List Blk} (H : Holds w β h) (x : Ext w w') : Holds w' β h :=
  ⟨fun l => (H.ok l).ext x, H.inj, H.bd, H.gl.ext x, H.go⟩

/-- What has become of the world, the places and the blocks since a call began. -/
structure Since (w0 : World) (β0 : Nat → Loc) (h0 : List Blk) (w : World) (β : Nat → Loc) (h : List Blk) : Prop where
  os : w.os = w0.os
  tape : w.tape = w0.tape
  output : w.output = w0.output
  size : w0.heap.size ≤ w.heap.size
  len : h0.length ≤ h.length
  same : ∀ l, l < h0.length → β l = β0 l
  frame : ∀ b, b < w0.heap.size → (∀ l, (hget h0 l).own = true → (β0 l).b ≠ b) → w.heap[b]? = w0.heap[b]?
  liv : ∀ l, l < h0.length → (hget h l).live → (hget h0 l).live
  ownk : ∀ l, l < h0.length → (hget h l).own = true → (hget h0 l).own = true
  fresh : ∀ l, h0.length ≤ l → (hget h l).live → w0.heap.size ≤ (β l).b ∨ ∃ l0, (hget h0 l0).own = true ∧ (β0 l0).b = (β l).b

theorem Since.own {w0 : World} {β0 : Nat → Loc} {h0 : List Blk} {w : World} {β : Nat → Loc} {h : List Blk} (s : Since w0 β0 h0 w β h) (l : Nat) (hl : (hget h l).own = true) : w0.heap.size ≤ (β l).b ∨ ∃ l0, (hget h0 l0).own = true ∧ (β0 l0).b = (β l).b := by
  rcases Nat.lt_or_ge l h0.length with c | c
  · exact .inr ⟨l, s.ownk l c hl, by rw [s.same l c]⟩
  · exact s.fresh l c (Blk.own_live hl)

theorem Since.refl (w : World) (β : Nat → Loc) (h : List Blk) : Since w β h w β h :=
  ⟨rfl, rfl, rfl, Nat.le_refl _, Nat.le_refl _, fun _ _ => rfl, fun _ _ _ => rfl, fun _ _ h => h, fun _ _ h => h, fun l hl hv => by rw [hget_out hl] at hv; exact hv.elim⟩
theorem Since.ext {w0 : World} {β0 : Nat → Loc} {h0 : List Blk} {w w' : World} {β : Nat → Loc} {h : List Blk} (s : Since w0 β0 h0 w β h) (x : Ext w w') : Since w0 β0 h0 w' β h :=
  ⟨x.os.trans s.os, x.tape.trans s.tape, x.output.trans s.output, Nat.le_trans s.size x.size, s.len, s.same, fun b hb hn => (x.block b (Nat.lt_of_lt_of_le hb s.size)).trans (s.frame b hb hn), s.liv, s.ownk, s.fresh⟩

def bput (β : Nat → Loc) (n : Nat) (L : Loc) : Nat → Loc := fun l => if l = n then L else β l
theorem bput_lt {β : Nat → Loc} {n : Nat} {L : Loc} {l : Nat} (h : l < n) : bput β n L l = β l := by unfold bput; rw [if_neg (by omega)]
theorem bput_self {β : Nat → Loc} {n : Nat} {L : Loc} : bput β n L n = L := by simp [bput]

/-- Whatever of a block is known does not hang on places behind its bound. -/
theorem BlkOk.congr {w : World} {β β' : Nat → Loc} {L : Loc} {blk : Blk} {n : Nat} (h : BlkOk w β L blk) (hb : blk.bd n) (e : ∀ l, l < n → β l = β' l) : BlkOk w β' L blk := by
  refine ⟨h.there, h.fit, fun i j v hv hk => ?_, h.wr⟩
  have := h.cell i j v hv hk
  refine ⟨this.1, ?_⟩
  rw [this.2]
  congr 1
  refine den_congr e v ?_
  cases blk with
  | lit row o =>
    simp only [Blk.cell] at hv
    split at hv
    · rw [rget_eq] at hv; exact (bdL_iff n row).1 hb v (List.mem_of_getElem? hv)
    · cases hv
  | rows n' cap c f o =>
    simp only [Blk.cell] at hv
    split at hv
    · obtain ⟨u, _, rfl⟩ := Option.map_eq_some_iff.1 hv; trivial
    · cases hv
  | cells n' g o =>
    simp only [Blk.cell] at hv
    split at hv
    · cases hv; trivial
    · cases hv
  | dead => cases hv
theorem Blk.bd_mono {n m : Nat} (h : n ≤ m) {b : Blk} (hb : b.bd n) : b.bd m := by
  cases b <;> first | trivial | exact bdL_mono h _ hb

/-- A new block of one's own. -/
theorem Holds.new {w w' : World} {β : Nat → Loc} {h : List Blk} (H : Holds w β h) (x : Ext w w') {g : Nat} (hg : w.heap.size ≤ g) {L : Loc} (hL : L.b = g) {blk : Blk}
    (ok : BlkOk w' β L blk) (hb : blk.bd h.length) : Holds w' (bput β h.length L) (h ++ [blk]) := by
  have hc : ∀ l, l < h.length → β l = bput β h.length L l := fun l hl => (bput_lt hl).symm
  refine ⟨fun l => ?_, fun l m hl hm hne ho => ?_, fun l => ?_, H.gl.ext x, fun l ho => ?_⟩
  · rw [hget_append]
    by_cases e : l = h.length
    · subst e; rw [if_pos rfl, bput_self]; exact ok.congr hb hc
    · rw [if_neg e]
      have := ((H.ok l).ext x).congr (H.bd l) hc
      unfold bput at this ⊢
      simp only [if_neg e]; exact this
  · rw [hget_append] at hl hm ho
    rw [hget_append] at ho
    by_cases e : l = h.length
    · by_cases e' : m = h.length
      · omega
      · rw [if_neg e'] at hm ho
        have hm' := hget_lt hm
        subst e
        rw [bput_self, bput_lt hm', hL]
        have := (H.ok m).there hm
        omega
    · rw [if_neg e] at hl ho
      have hl' := hget_lt hl
      by_cases e' : m = h.length
      · subst e'
        rw [bput_self, bput_lt hl', hL]
        have := (H.ok l).there hl
        omega
      · rw [if_neg e'] at hm ho
        rw [bput_lt hl', bput_lt (hget_lt hm)]
        exact H.inj l m hl hm hne ho
  · rw [hget_append, List.length_append]
    split
    · exact Blk.bd_mono (by simp) hb
    · exact Blk.bd_mono (by simp) (H.bd l)
  · rw [hget_append] at ho
    by_cases e : l = h.length
    · subst e; rw [bput_self, hL]; exact Nat.le_trans H.gl.1 hg
    · rw [if_neg e] at ho; rw [bput_lt (hget_lt (Blk.own_live ho))]; exact H.go l ho
theorem Since.new {w0 : World} {β0 : Nat → Loc} {h0 : List Blk} {w w' : World} {β : Nat → Loc} {h : List Blk} (s : Since w0 β0 h0 w β h) (x : Ext w w') {L : Loc} (hL : w.heap.size ≤ L.b) (blk : Blk) :
    Since w0 β0 h0 w' (bput β h.length L) (h ++ [blk]) := by
  have s' := s.ext x
  have hlen := s.len
  refine ⟨s'.os, s'.tape, s'.output, s'.size, by simp; omega, fun l hl => by rw [bput_lt (by omega)]; exact s.same l hl, s'.frame, fun l hl hv => ?_, fun l hl hv => ?_, fun l hl hv => ?_⟩
  · rw [hget_append, if_neg (by omega)] at hv; exact s.liv l hl hv
  · rw [hget_append, if_neg (by omega)] at hv; exact s.ownk l hl hv
  · rw [hget_append] at hv
    by_cases e : l = h.length
    · subst e; left; rw [bput_self]; have := s.size; omega
    · rw [if_neg e] at hv
      rw [bput_lt (hget_lt hv)]; exact s.fresh l hl hv
end Go.Proofs.YtjhddlkfkicpaaaGreatDoor.Vx

namespace Go.Proofs.YtjhddlkfkicpaaaGreatDoor.Vx
open Go Go.RowKit Fl
set_option linter.unusedVariables false
set_option linter.unusedSimpArgs false

/-! ### Types -/
inductive TK where
  | int (k : IntKind) | flt (k : FloatKind) | bool | str | ptr | slice (e : Nat) | arr (n e : Nat) | struct (fs : List (Nat × Nat)) | fn
inductive TZ where
  | row (l : List FV)
  | all (v : FV)
structure TI where
  k : TK
  size : Nat
  bytes : Nat
  z : TZ
  eq : Bool := false
  eqa : Bool := false
  rw : Bool := false
def TZ.cells (s : Nat) : TZ → List Value
  | .row l => l.map FV.val
  | .all v => List.replicate s v.val
def TK.agg : TK → Bool
  | .arr _ _ | .struct _ => true
  | _ => false
def TK.ok (d : TypeDesc) : TK → Prop
  | .int k => d = .int k
  | .flt k => d = .float k
  | .bool => d = .bool
  | .str => d = .string
  | .ptr => ∃ e, d = .pointer e
  | .slice e => d = .slice e
  | .arr n e => d = .array n e
  | .struct fs => ∃ F, d = .struct F ∧ F.toList.map (fun f => (f.offset, f.type)) = fs
  | .fn => ∃ a b c, d = .func a b c
/-- Fields that are whole numbers, one cell each. -/
def flatI (P : Program) : List Field → Nat → Nat → Prop
  | [], o, n => o = n
  | f :: r, o, n => f.name ≠ "_" ∧ f.offset = o ∧ (∃ k, P.underlying f.type = some (.int k)) ∧ flatI P r (o + 1) n
def flatIB (P : Program) : List Field → Nat → Nat → Bool
  | [], o, n => o == n
  | f :: r, o, n => f.name != "_" && f.offset == o && (match P.underlying f.type with | some (.int _) => true | _ => false) && flatIB P r (o + 1) n
theorem flatIB_ok {P : Program} : ∀ (l : List Field) (o n : Nat), flatIB P l o n = true → flatI P l o n
  | [], o, n, h => by
    show o = n
    exact beq_iff_eq.1 h
  | f :: r, o, n, h => by
    simp only [flatIB, Bool.and_eq_true, bne_iff_ne, beq_iff_eq] at h
    obtain ⟨⟨⟨h1, h2⟩, h3⟩, h4⟩ := h
    refine ⟨h1, h2, ?_, flatIB_ok r (o + 1) n h4⟩
    split at h3
    · rename_i k hk; exact ⟨k, hk⟩
    · cases h3
/-- A struct of whole numbers, of so many cells: told equal field by field. -/
def EqT (P : Program) (t : Nat) (n : Nat) : Prop := P.stoodInHeld t = false ∧ P.eqGuardType P.depth t = false ∧ ∃ F, P.underlying t = some (.struct F) ∧ flatI P F.toList 0 n
def eqtB (P : Program) (t : Nat) (n : Nat) : Bool := P.stoodInHeld t == false && P.eqGuardType P.depth t == false && (match P.underlying t with | some (.struct F) => flatIB P F.toList 0 n | _ => false)
theorem eqtB_ok {P : Program} {t n : Nat} (h : eqtB P t n = true) : EqT P t n := by
  simp only [eqtB, Bool.and_eq_true, beq_iff_eq] at h
  obtain ⟨⟨h1, h2⟩, h3⟩ := h
  split at h3
  · rename_i F hF; exact ⟨h1, h2, F, hF, flatIB_ok _ _ _ h3⟩
  · cases h3
/-- Fields that are arrays of whole numbers, one cell each. -/
def nestI (P : Program) : List Field → Nat → Nat → Prop
  | [], o, n => o = n
  | f :: r, o, n => f.name ≠ "_" ∧ f.offset = o ∧ ∃ m e k i j, P.underlying f.type = some (.array m e) ∧ P.info? f.type = some j ∧ j.size = m ∧ P.underlying e = some (.int k) ∧ P.info? e = some i ∧ i.size = 1 ∧ nestI P r (o + m) n
def nestIB (P : Program) : List Field → Nat → Nat → Bool
  | [], o, n => o == n
  | f :: r, o, n => f.name != "_" && f.offset == o && (match P.underlying f.type, P.info? f.type with
    | some (.array m e), some j => j.size == m && (match P.underlying e, P.info? e with
      | some (.int _), some i => i.size == 1
      | _, _ => false) && nestIB P r (o + m) n
    | _, _ => false)
theorem nestIB_ok {P : Program} : ∀ (l : List Field) (o n : Nat), nestIB P l o n = true → nestI P l o n
  | [], o, n, h => beq_iff_eq.1 h
  | f :: r, o, n, h => by
    simp only [nestIB, Bool.and_eq_true, bne_iff_ne, beq_iff_eq] at h
    obtain ⟨⟨h1, h2⟩, h3⟩ := h
    split at h3
    · rename_i m e j hu hi
      simp only [Bool.and_eq_true, beq_iff_eq] at h3
      obtain ⟨⟨h4, h5⟩, h6⟩ := h3
      split at h5
      · rename_i k i hk hj
        exact ⟨h1, h2, m, e, k, i, j, hu, hi, h4, hk, hj, beq_iff_eq.1 h5, nestIB_ok r (o + m) n h6⟩
      · cases h5
    · cases h3
/-- A struct of arrays of whole numbers, or an array of whole numbers. -/
def EqA (P : Program) (t : Nat) (n : Nat) : Prop := P.stoodInHeld t = false ∧ P.eqGuardType P.depth t = false ∧ ((∃ F, P.underlying t = some (.struct F) ∧ nestI P F.toList 0 n) ∨ ∃ e k i, P.underlying t = some (.array n e) ∧ P.underlying e = some (.int k) ∧ P.info? e = some i ∧ i.size = 1)
def eqaB (P : Program) (t : Nat) (n : Nat) : Bool := P.stoodInHeld t == false && P.eqGuardType P.depth t == false && (match P.underlying t with
  | some (.struct F) => nestIB P F.toList 0 n
  | some (.array m e) => m == n && (match P.underlying e, P.info? e with
    | some (.int _), some i => i.size == 1
    | _, _ => false)
  | _ => false)
theorem eqaB_ok {P : Program} {t n : Nat} (h : eqaB P t n = true) : EqA P t n := by
  simp only [eqaB, Bool.and_eq_true, beq_iff_eq] at h
  obtain ⟨⟨h1, h2⟩, h3⟩ := h
  split at h3
  · rename_i F hF; exact ⟨h1, h2, .inl ⟨F, hF, nestIB_ok _ _ _ h3⟩⟩
  · rename_i m e hu
    simp only [Bool.and_eq_true, beq_iff_eq] at h3
    obtain ⟨rfl, h4⟩ := h3
    split at h4
    · rename_i k i hk hi; exact ⟨h1, h2, .inr ⟨e, k, i, hu, hk, hi, beq_iff_eq.1 h4⟩⟩
    · cases h4
  · cases h3
/-- The table of types tells the truth. -/
def TabOk (P : Program) (tab : Nat → Option TI) : Prop :=
  ∀ t i, tab t = some i → ∃ d q, P.underlying t = some d ∧ i.k.ok d ∧ d.isRow = i.k.agg ∧ P.info? t = some q ∧ q.size = i.size ∧ q.bytes = i.bytes ∧ ∃ v, q.zero = some v ∧ v.cells.toList = i.z.cells i.size ∧ v.cells.size = i.size ∧ (i.eq = true → EqT P t i.size) ∧ (i.eqa = true → EqA P t i.size)

/-- Checks a table, type by type. -/
def tkB (d : TypeDesc) : TK → Bool
  | .int k => match d with | .int k' => k == k' | _ => false
  | .flt k => match d with | .float k' => k == k' | _ => false
  | .bool => match d with | .bool => true | _ => false
  | .str => match d with | .string => true | _ => false
  | .ptr => match d with | .pointer _ => true | _ => false
  | .slice e => match d with | .slice e' => e == e' | _ => false
  | .arr n e => match d with | .array n' e' => n == n' && e == e' | _ => false
  | .struct fs => match d with | .struct F => F.toList.map (fun f => (f.offset, f.type)) == fs | _ => false
  | .fn => match d with | .func _ _ _ => true | _ => false
def fvB : FV → Value → Bool
  | .int k n, .int k' n' => k == k' && n == n'
  | .bool b, .bool b' => b == b'
  | .flt k b, .float k' b' => k == k' && b == b'
  | .str s, .string s' => s.size == 0 && s'.size == 0
  | .nilp, .pointer none => true
  | .nils, .slice none a b => a == 0 && b == 0
  | .nilf, .nilFunc => true
  | _, _ => false
theorem fvB_eq {v : FV} {u : Value} (h : fvB v u = true) : u = v.val := by
  unfold fvB at h
  split at h <;> simp_all [FV.val]
def zB (s : Nat) : TZ → List Value → Bool
  | .row l, vs => l.length == vs.length && (l.zip vs).all fun p => fvB p.1 p.2
  | .all v, vs => vs.length == s && vs.all (fvB v)
theorem zip_all : ∀ (l : List FV) (vs : List Value), l.length = vs.length → (l.zip vs).all (fun p => fvB p.1 p.2) = true → vs = l.map FV.val
  | [], [], _, _ => rfl
  | a :: l, v :: vs, h, h' => by
    simp only [List.zip_cons_cons, List.all_cons, Bool.and_eq_true] at h'
    rw [List.map_cons, ← fvB_eq h'.1, ← zip_all l vs (by simpa using h) h'.2]
theorem zB_eq {s : Nat} {z : TZ} {vs : List Value} (h : zB s z vs = true) : vs = z.cells s := by
  cases z with
  | row l => simp only [zB, Bool.and_eq_true, beq_iff_eq] at h; exact zip_all l vs h.1 h.2
  | all v =>
    simp only [zB, Bool.and_eq_true, beq_iff_eq, List.all_eq_true] at h
    simp only [TZ.cells]
    rw [List.eq_replicate_iff]
    exact ⟨h.1, fun u hu => fvB_eq (h.2 u hu)⟩
def tiB (P : Program) (t : Nat) (i : TI) : Bool :=
  match P.underlying t, P.info? t with
  | some d, some q => tkB d i.k && q.size == i.size && q.bytes == i.bytes && (match q.zero with | some v => zB i.size i.z v.cells.toList && v.cells.size == i.size && (!i.eq || eqtB P t i.size) && (!i.eqa || eqaB P t i.size) | none => false)
  | _, _ => false
theorem tkB_ok {d : TypeDesc} {k : TK} (h : tkB d k = true) : k.ok d ∧ d.isRow = k.agg := by
  cases k <;> simp only [tkB] at h <;> (try (cases h; done)) <;> cases d <;> simp_all [TK.ok, TK.agg, TypeDesc.isRow]
theorem tabOk_of {P : Program} {l : List (Nat × TI)} {tab : Nat → Option TI} (h : ∀ t i, tab t = some i → (t, i) ∈ l) (hb : l.all (fun p => tiB P p.1 p.2) = true) : TabOk P tab := by
  intro t i ht
  have := List.all_eq_true.1 hb _ (h t i ht)
  simp only [tiB] at this
  split at this
  · rename_i d q hd hq
    simp only [Bool.and_eq_true, beq_iff_eq] at this
    obtain ⟨⟨⟨h1, h2⟩, h3⟩, h4⟩ := this
    obtain ⟨k1, k2⟩ := tkB_ok h1
    split at h4
    · rename_i v hv
      simp only [Bool.and_eq_true, beq_iff_eq] at h4
      exact ⟨d, q, hd, k1, k2, hq, h2, h3, v, hv, zB_eq h4.1.1.1, h4.1.1.2, fun e => eqtB_ok (by simpa [e] using h4.1.2), fun e => eqaB_ok (by simpa [e] using h4.2)⟩
    · cases h4
  · cases this

/-! ### Operands -/
abbrev Env := List (Nat × SV)
def look : Env → Nat → SV
  | [], _ => .any
  | (j, v) :: r, i => if j = i then v else look r i
def ofVal : Value → SV
  | .int k n => .f (.int k n)
  | .bool b => .f (.bool b)
  | .float k b => .f (.flt k b)
  | .string s => .f (.str s)
  | .pointer none => .f .nilp
  | .slice none 0 0 => .f .nils
  | .nilFunc => .f .nilf
  | _ => .any
theorem ofVal_den {β : Nat → Loc} {v : Value} (h : (ofVal v).known = true) : den β (ofVal v) = v := by
  unfold ofVal at *
  split <;> simp_all [den, FV.val, SV.known]
theorem ofVal_bd {v : Value} {n : Nat} : (ofVal v).bd n := by
  unfold ofVal; split <;> trivial
def ev (e : Env) : Operand → SV
  | .tmp t => look e t
  | .const v => ofVal v
  | .global _ => .any
  | .func f => .fn f [] []
def evL (e : Env) : List Operand → List SV
  | [] => []
  | x :: r => ev e x :: evL e r
theorem evL_map (e : Env) : ∀ l, evL e l = l.map (ev e)
  | [] => rfl
  | x :: r => by rw [evL, evL_map e r]; rfl

/-- The slots hold what is told. -/
structure Slots (n m : Nat) (β : Nat → Loc) (a : Act) (e : Env) : Prop where
  size : a.tmps.size = n
  ag : ∀ i, (look e i).known = true → (look e i).bd m ∧ a.tmps.getD i undef = den β (look e i)
  df : a.defers = []
theorem Slots.ev {n m : Nat} {β : Nat → Loc} {a : Act} {e : Env} (s : Slots n m β a e) {x : Operand} (hk : (ev e x).known = true) : (Vx.ev e x).bd m ∧ a.eval x = den β (Vx.ev e x) := by
  cases x with
  | tmp t => exact s.ag t hk
  | const v => exact ⟨ofVal_bd, (ofVal_den hk).symm⟩
  | global g => simp [Vx.ev, SV.known] at hk
  | func f => exact ⟨⟨trivial, trivial⟩, by simp [Act.eval, Vx.ev, den, denL]⟩

def put (n : Nat) (d : Option Nat) (v : SV) (e : Env) : Env :=
  match d with
  | none => e
  | some d => if d < n then (d, v) :: e else e
theorem Slots.put {n m : Nat} {β : Nat → Loc} {a : Act} {e : Env} (s : Slots n m β a e) (d : Option Nat) {v : SV} {u : Value} (h : v.known = true → v.bd m ∧ u = den β v) : Slots n m β (a.put d u) (Vx.put n d v e) := by
  cases d with
  | none => exact s
  | some d =>
    refine ⟨by simpa [Act.put] using s.size, fun i hk => ?_, s.df⟩
    simp only [Vx.put] at hk ⊢
    by_cases hd : d < n
    · rw [if_pos hd] at hk ⊢
      simp only [look] at hk ⊢
      by_cases c : d = i
      · subst c
        rw [if_pos rfl] at hk ⊢
        have := h hk
        exact ⟨this.1, by rw [← this.2]; simp [Act.put, s.size, hd]⟩
      · rw [if_neg c] at hk ⊢
        have := s.ag i hk
        exact ⟨this.1, by rw [← this.2]; simp [Act.put, Array.getElem?_setIfInBounds_ne c]⟩
    · rw [if_neg hd] at hk ⊢
      have := s.ag i hk
      refine ⟨this.1, by rw [← this.2]; simp only [Act.put]; congr 1; exact Array.setIfInBounds_eq_of_size_le (by rw [s.size]; omega)⟩
theorem Slots.mono {n m m' : Nat} {β β' : Nat → Loc} {a : Act} {e : Env} (s : Slots n m β a e) (h : m ≤ m') (hb : ∀ l, l < m → β l = β' l) : Slots n m' β' a e :=
  ⟨s.size, fun i hk => ⟨SV.bd_mono h _ (s.ag i hk).1, by rw [(s.ag i hk).2]; exact den_congr hb _ (s.ag i hk).1⟩, s.df⟩
end Go.Proofs.YtjhddlkfkicpaaaGreatDoor.Vx

namespace Go.Proofs.YtjhddlkfkicpaaaGreatDoor.Vx
open Go Go.RowKit Fl
set_option linter.unusedVariables false
set_option linter.unusedSimpArgs false

/-- What an operation does. -/
inductive OR where
  | val (p : Prop) (v : SV)
  | new (p : Prop) (b : Blk) (mk : Nat → SV)
  | upd (p : Prop) (l : Nat) (b : Blk)
  | call (f : FuncId) (args : List SV)
  | pick (c : Bool) (a b : SV)
  | app (p : Prop) (l i len cap c : Nat) (f : Nat → List FV) (m : Nat) (g : Nat → List FV)
  | bad

def bitI (op : BinOp) (k : IntKind) (a b : Int) : Int :=
  match op with
  | .and => k.wrap (BitVec.ofInt k.bits a &&& BitVec.ofInt k.bits b).toNat
  | .or => k.wrap (BitVec.ofInt k.bits a ||| BitVec.ofInt k.bits b).toNat
  | .xor => k.wrap (BitVec.ofInt k.bits a ^^^ BitVec.ofInt k.bits b).toNat
  | _ => k.wrap (BitVec.ofInt k.bits a &&& ~~~BitVec.ofInt k.bits b).toNat
def shlI (k : IntKind) (a b : Int) : Int := k.wrap (a * 2 ^ min b.toNat k.bits)
def shrI (k : IntKind) (a b : Int) : Int := a.fdiv (2 ^ min b.toNat k.bits)
def binI (op : BinOp) (k : IntKind) (a b : Int) : OR :=
  match op with
  | .add => .val True (.f (.int k (k.wrap (a + b))))
  | .sub => .val True (.f (.int k (k.wrap (a - b))))
  | .mul => .val True (.f (.int k (k.wrap (a * b))))
  | .quo => .val (b ≠ 0) (.f (.int k (k.wrap (a.tdiv b))))
  | .rem => .val (b ≠ 0) (.f (.int k (a.tmod b)))
  | .and => .val True (.f (.int k (bitI .and k a b)))
  | .or => .val True (.f (.int k (bitI .or k a b)))
  | .xor => .val True (.f (.int k (bitI .xor k a b)))
  | .andNot => .val True (.f (.int k (bitI .andNot k a b)))
  | .eql => .val True (.f (.bool (decide (a = b))))
  | .neq => .val True (.f (.bool (!decide (a = b))))
  | .lss => .val True (.f (.bool (decide (a < b))))
  | .leq => .val True (.f (.bool (decide (a ≤ b))))
  | .gtr => .val True (.f (.bool (decide (b < a))))
  | .geq => .val True (.f (.bool (decide (b ≤ a))))
  | _ => .bad
def binF (op : BinOp) (a b : Nat) : OR :=
  match op with
  | .add => .val (AddOk a b) (.f (.flt .f32 (fadd a b)))
  | .sub => .val (SubOk a b) (.f (.flt .f32 (fsub a b)))
  | .mul => .val (MulOk a b) (.f (.flt .f32 (fmul a b)))
  | .quo => .val (DivOk a b) (.f (.flt .f32 (fdiv a b)))
  | .eql => .val True (.f (.bool (feq a b)))
  | .neq => .val True (.f (.bool (!feq a b)))
  | .lss => .val True (.f (.bool (flt a b)))
  | .leq => .val True (.f (.bool (fle a b)))
  | .gtr => .val True (.f (.bool (flt b a)))
  | .geq => .val True (.f (.bool (fle b a)))
  | _ => .bad
def binB (op : BinOp) (a b : Bool) : OR :=
  match op with
  | .eql => .val True (.f (.bool (a == b)))
  | .neq => .val True (.f (.bool (a != b)))
  | _ => .bad
def strEq (a b : ByteArray) : Bool := a.toList == b.toList
def binS (op : BinOp) (a b : ByteArray) : OR :=
  match op with
  | .add => .val (a.size + b.size ≤ 9223372036854775807) (.f (.str (a ++ b)))
  | .eql => .val True (.f (.bool (strEq a b)))
  | .neq => .val True (.f (.bool (!strEq a b)))
  | _ => .bad
def binFV (tb : Bool) (op : BinOp) (u v : FV) : OR :=
  match u with
  | .int k a => (match v with
    | .int k' b => (match op with
      | .shl => .val (0 ≤ b) (.f (.int k (shlI k a b)))
      | .shr => .val (0 ≤ b) (.f (.int k (shrI k a b)))
      | op => if k = k' then binI op k a b else .bad)
    | _ => .bad)
  | .flt k a => (match v with
    | .flt k' b => (match k with
      | .f32 => (match k' with
        | .f32 => binF op a b
        | .f64 => .bad)
      | .f64 => .bad)
    | _ => .bad)
  | .bool a => (match v with
    | .bool b => (match tb with | true => binB op a b | false => .bad)
    | _ => .bad)
  | .str a => (match v with
    | .str b => binS op a b
    | _ => .bad)
  | _ => .bad
/-- Rows of whole numbers of the same kinds: are they the same. -/
def eqIs : List SV → List SV → Option Bool
  | [], ys => (match ys with
    | [] => some true
    | _ => none)
  | x :: xs, ys => (match x with
    | .f (.int k a) => (match ys with
      | y :: ys => (match y with
        | .f (.int k' b) => (if k = k' then (match eqIs xs ys with
          | some r => some (decide (a = b) && r)
          | none => none) else none)
        | _ => none)
      | [] => none)
    | _ => none)
def aggR (op : BinOp) (q : Option Bool) : OR :=
  match q with
  | some b => (match op with
    | .eql => .val True (.f (.bool b))
    | .neq => .val True (.f (.bool (!b)))
    | _ => .bad)
  | none => .bad
def aeqR (te : Option Nat) (op : BinOp) (xs ys : List SV) : OR :=
  match te with
  | some n => (if xs.length = n then aggR op (eqIs xs ys) else .bad)
  | none => .bad
def nilEq (ts : Bool) (np : Prop) (op : BinOp) : OR :=
  match ts with
  | true => (match op with
    | .eql => .val np (.f (.bool false))
    | .neq => .val np (.f (.bool true))
    | _ => .bad)
  | false => .bad
/-- Rows of whole numbers that are the same. -/
def SameI (n : Nat) (g g' : Nat → FV) : Prop := ∀ j, j < n → g j = g' j ∧ ∃ k a, g j = .int k a
def arrEq (ta : Option Nat) (op : BinOp) (n : Nat) (g : Nat → FV) (n' : Nat) (g' : Nat → FV) : OR :=
  match ta with
  | some m => (match op with
    | .eql => .val (n = m ∧ n' = m ∧ SameI m g g') (.f (.bool true))
    | .neq => .val (n = m ∧ n' = m ∧ SameI m g g') (.f (.bool false))
    | _ => .bad)
  | none => .bad
def binR (tb ts : Bool) (te ta : Option Nat) (np : Prop) (op : BinOp) (x y : SV) : OR :=
  match x with
  | .f u => (match y with
    | .f v => binFV tb op u v
    | _ => .bad)
  | .agg xs => (match y with
    | .agg ys => aeqR te op xs ys
    | _ => .bad)
  | .arr n g => (match y with
    | .arr n' g' => arrEq ta op n g n' g'
    | _ => .bad)
  | .slc _ _ _ _ => (match y with
    | .f .nils => nilEq ts np op
    | _ => .bad)
  | _ => .bad

def fneg (b : Nat) : Nat := Op.negFloat .f32 b
def unR (op : UnOp) (x : SV) : OR :=
  match x with
  | .f (.bool b) => (match op with
    | .not => .val True (.f (.bool (!b)))
    | _ => .bad)
  | .f (.int k n) => (match op with
    | .neg => .val True (.f (.int k (k.wrap (0 - n))))
    | _ => .bad)
  | .f (.flt .f32 b) => (match op with
    | .neg => .val True (.f (.flt .f32 (fneg b)))
    | _ => .bad)
  | _ => .bad

def FWok (b : Nat) : Prop := ∀ (P : Program) (w : World), (Conv.floatToFloat .f32 b .f64).run P w = .ok (.float .f64 (fwide b)) w
theorem FWok_nn {b : Nat} (h : nn b) : FWok b := by
  intro P w
  rcases Nat.lt_or_eq_of_le h with hf | hi
  · have hw := wide_finite hf
    obtain ⟨m, p, e, _⟩ := read_fin hf
    have e' : FloatKind.decode .f32 b = .number (sgn b) m (-149 + p) := e
    have e2 : fwide b = FloatKind.f64.encode (.number (sgn b) m (-149 + p)) := by unfold fwide; rw [e]; rfl
    have hw' : (FloatKind.decode .f64 (FloatKind.encode .f64 (.number (sgn b) m (-149 + p)))).isInfinity = false := by rw [e2] at hw; exact hw
    simp [Conv.floatToFloat, e', hw', e2]
  · have e := read_inf hi
    have e' : FloatKind.decode .f32 b = .infinity (sgn b) := e
    have e2 : fwide b = FloatKind.f64.encode (.infinity (sgn b)) := by unfold fwide; rw [e]; rfl
    simp [Conv.floatToFloat, e', e2]
/-- A float32 made wide: a NaN may become any NaN. -/
def Wid (b c : Nat) : Prop := (nn b ∧ c = fwide b) ∨ (¬ nn b ∧ deq c c = false)
theorem nan64 {c : Nat} (h : ∃ r s, D.read c = .nan r s) : deq c c = false := by
  obtain ⟨r, s, e⟩ := h
  unfold deq Ieee.Format.order
  rw [e]; rfl
theorem read_nan64 (t : Nat) : ∃ r s, D.read ((t % 2) * 2 ^ 63 + 0x7ff0000000000000 + 1 + (t / 2) % (2 ^ 52 - 1)) = .nan r s := by
  have f2 : D.binade = 4503599627370496 := by decide
  have f3 : D.infRung = 9218868437227405312 := by decide
  have f4 : D.signWeight = 9223372036854775808 := by decide
  unfold Ieee.Format.read
  simp only [f2, f3, f4]
  have e1 : ((t % 2) * 2 ^ 63 + 0x7ff0000000000000 + 1 + (t / 2) % (2 ^ 52 - 1)) % 9223372036854775808 = 0x7ff0000000000000 + 1 + (t / 2) % (2 ^ 52 - 1) := by omega
  rw [e1, if_neg (by omega), if_neg (by omega), if_neg (by omega)]
  exact ⟨_, _, rfl⟩
theorem wid_run (b : Nat) (P : Program) (w : World) : ∃ c w', (Conv.floatToFloat .f32 b .f64).run P w = .ok (.float .f64 c) w' ∧ Wid b c ∧ Ext w w' := by
  by_cases h : nn b
  · exact ⟨_, w, FWok_nn h P w, .inl ⟨h, rfl⟩, Ext.refl _⟩
  · obtain ⟨x, y, e⟩ := read_nan h
    have e' : FloatKind.decode .f32 b = .nan x y := e
    refine ⟨Question.cut (.nanConv .f64 b) (w.tape w.drawn (.nanConv .f64 b)), w.drew, ?_, .inr ⟨h, nan64 (read_nan64 _)⟩, (Ext.refl _).drew⟩
    simp [Conv.floatToFloat, e', Question.forced]
def widR (tab : Nat → Option TI) (src dst : Nat) (x : SV) : Option Nat :=
  match tab src with
  | none => none
  | some _ => match tab dst with
    | none => none
    | some i => match i.k with
      | .flt .f64 => (match x with
        | .f (.flt .f32 b) => some b
        | _ => none)
      | _ => none
def convR (tab : Nat → Option TI) (src dst : Nat) (x : SV) : OR :=
  match tab src with
  | none => .bad
  | some _ => match tab dst with
    | none => .bad
    | some i => match i.k with
      | .int k => (match x with
        | .f (.int _ n) => .val True (.f (.int k (k.wrap n)))
        | _ => .bad)
      | .flt .f32 => (match x with
        | .f (.int _ n) => .val True (.f (.flt .f32 (fofInt n)))
        | .f (.flt .f32 b) => .val True (.f (.flt .f32 b))
        | _ => .bad)
      | .flt .f64 => (match x with
        | .f (.flt .f32 b) => .val (FWok b) (.f (.flt .f64 (fwide b)))
        | _ => .bad)
      | .str => (match x with
        | .f (.str s) => .val True (.f (.str s))
        | _ => .bad)
      | _ => .bad

/-- The value that is told is the value that comes. -/
def Gives (P : Program) (β : Nat → Loc) (n : Nat) (w : World) (s : Sem Value) (r : SV) : Prop := r.bd n ∧ s.run P w = .ok (den β r) w

section
variable {P : Program} {β : Nat → Loc} {n : Nat} {w : World}
theorem eqGuard_flat {op : BinOp} {t : TypeId} {x y : Operand} (u v : FV) : (eqGuard op t x y u.val v.val).run P w = .ok () w := by
  unfold eqGuard
  cases u <;> cases v <;> (cases op <;> simp [FV.val])
theorem binI_ok {op : BinOp} {k : IntKind} {a b : Int} {p : Prop} {r : SV} {t : TypeId} (h : binI op k a b = .val p r) (hp : p) (h1 : op ≠ .shl) (h2 : op ≠ .shr) : Gives P β n w (binOp op t (.int k a) (.int k b)) r := by
  cases op <;> simp only [binI, OR.val.injEq] at h <;> (try (cases h; done)) <;> (obtain ⟨rfl, rfl⟩ := h) <;> refine ⟨trivial, ?_⟩ <;>
    (first | (exact absurd rfl h1) | (exact absurd rfl h2) | skip) <;> simp [binOp, Op.intArith, Op.intDiv, Op.intBits, Op.intCmp, den, FV.val, bitI, hp] <;> first | rfl | (simp [bne]; done) | skip
theorem binF_ok {op : BinOp} {a b : Nat} {p : Prop} {r : SV} {t : TypeId} (h : binF op a b = .val p r) (hp : p) : Gives P β n w (binOp op t (.float .f32 a) (.float .f32 b)) r := by
  cases op <;> simp only [binF, OR.val.injEq] at h <;> (try (cases h; done)) <;> (obtain ⟨rfl, rfl⟩ := h) <;> refine ⟨trivial, ?_⟩
  · rw [f_add w t a b hp]; rfl
  · rw [f_sub w t a b hp]; rfl
  · rw [f_mul w t a b hp]; rfl
  · rw [f_quo w t a b hp]; rfl
  · rw [f_eql]; rfl
  · rw [f_neq]; rfl
  · rw [f_lss]; rfl
  · rw [f_leq]; rfl
  · rw [f_gtr]; rfl
  · rw [f_geq]; rfl
theorem equalIn_bool (w : World) (d : Nat) {t : TypeId} (ht : P.underlying t = some .bool) (a b : Bool) : (Op.equalIn (d + 1) t (.bool a) (.bool b)).run P w = .ok (a == b) w := by
  simp [Op.equalIn, run_underlying ht]
theorem binB_ok {op : BinOp} {a b : Bool} {p : Prop} {r : SV} {t : TypeId} (ht : P.underlying t = some .bool) (h : binB op a b = .val p r) (hp : p) : Gives P β n w (binOp op t (.bool a) (.bool b)) r := by
  cases op <;> simp only [binB, OR.val.injEq] at h <;> (try (cases h; done)) <;> (obtain ⟨rfl, rfl⟩ := h) <;> refine ⟨trivial, ?_⟩ <;> simp only [binOp] <;> simp [Op.equal, Op.maxDepth, equalIn_bool w 9999 ht, den, FV.val, bne]
theorem max64 : IntKind.i64.max = 9223372036854775807 := by decide
theorem binS_ok {op : BinOp} {a b : ByteArray} {p : Prop} {r : SV} {t : TypeId} (h : binS op a b = .val p r) (hp : p) : Gives P β n w (binOp op t (.string a) (.string b)) r := by
  cases op <;> simp only [binS, OR.val.injEq] at h <;> (try (cases h; done)) <;> (obtain ⟨rfl, rfl⟩ := h) <;> refine ⟨trivial, ?_⟩ <;> simp only [binOp]
  · have : ¬ ((a.size + b.size : Nat) : Int) > IntKind.i64.max := by rw [max64]; omega
    simp only [Op.stringOp, if_neg this]; rfl
  · rfl
  · rfl
theorem part_int {t : TypeId} {k : IntKind} (h : P.underlying t = some (.int k)) {cs : Array Value} {o : Nat} {v : Value} (hv : cs[o]? = some v) : (part t cs o).run P w = .ok v w := by
  simp [part, isAgg, run_underlying h, hv]
theorem eqFields_ok {β : Nat → Loc} (d : Nat) : ∀ (fs : List Field) (xs ys : List SV) (px py : List Value) (o n : Nat) (b : Bool), flatI P fs o n → px.length = o → py.length = o → o + xs.length = n → eqIs xs ys = some b →
    (Op.eqFields (d + 1) (px ++ denL β xs).toArray (py ++ denL β ys).toArray fs).run P w = .ok b w
  | [], xs, ys, px, py, o, n, b, hf, h1, h2, h3, hb => by
    have : o = n := hf
    obtain rfl : xs = [] := List.eq_nil_of_length_eq_zero (by omega)
    cases ys with
    | nil => simp only [eqIs, Option.some.injEq] at hb; subst hb; rfl
    | cons y ys => simp [eqIs] at hb
  | f :: fs, xs, ys, px, py, o, n, b, hf, h1, h2, h3, hb => by
    obtain ⟨g1, g2, ⟨k, g3⟩, g4⟩ := hf
    cases xs with
    | nil =>
      exfalso
      have : ∀ (l : List Field) (o n : Nat), flatI P l o n → o ≤ n := by
        intro l
        induction l with
        | nil => intro o n h; exact Nat.le_of_eq h
        | cons a l ih => intro o n h; have := ih _ _ h.2.2.2; omega
      have := this _ _ _ g4
      simp only [List.length_nil] at h3
      omega
    | cons x xs =>
      unfold eqIs at hb
      split at hb
      · rename_i kx a
        split at hb
        · rename_i y ys'
          split at hb
          · rename_i ky c
            split at hb
            · rename_i hk
              subst hk
              split at hb
              · rename_i r hr
                simp only [Option.some.injEq] at hb
                have e1 : (px ++ denL β (.f (.int kx a) :: xs)).toArray[f.offset]? = some (.int kx a) := by simp [g2, ← h1, denL, den, FV.val]
                have e2 : (py ++ denL β (.f (.int kx c) :: ys')).toArray[f.offset]? = some (.int kx c) := by simp [g2, ← h2, denL, den, FV.val]
                have ih := eqFields_ok (β := β) d fs xs ys' (px ++ [.int kx a]) (py ++ [.int kx c]) (o + 1) n r g4 (by simp [h1]) (by simp [h2]) (by simp only [List.length_cons] at h3; omega) hr
                have q1 : px ++ denL β (.f (.int kx a) :: xs) = (px ++ [.int kx a]) ++ denL β xs := by simp [denL, den, FV.val]
                have q2 : py ++ denL β (.f (.int kx c) :: ys') = (py ++ [.int kx c]) ++ denL β ys' := by simp [denL, den, FV.val]
                rw [q1] at e1 ⊢
                rw [q2] at e2 ⊢
                simp only [Op.eqFields, if_pos g1, Sem.run_bind, part_int g3 e1, part_int g3 e2, Result.andThen_ok, run_equalIn_int w d f.type kx k a c g3]
                subst hb
                by_cases hac : a = c
                · subst hac; simpa using ih
                · simp [hac]
              · cases hb
            · cases hb
          · cases hb
        · cases hb
      · cases hb
theorem aeqR_ok {te : Option Nat} {op : BinOp} {xs ys : List SV} {p : Prop} {r : SV} {t : TypeId} {a b : Operand} (hte : ∀ n, te = some n → EqT P t n) (h : aeqR te op xs ys = .val p r) (hp : p) :
    Gives P β n w (do eqGuard op t a b (den β (.agg xs)) (den β (.agg ys)); binOp op t (den β (.agg xs)) (den β (.agg ys))) r := by
  unfold aeqR at h
  split at h
  · rename_i m
    obtain ⟨h1, h2, F, h3, h4⟩ := hte m rfl
    split at h
    · rename_i hl
      unfold aggR at h
      split at h
      · rename_i c hc
        have hF : P.fieldsOf t = F := by unfold Program.fieldsOf; rw [h3]
        have hu : P.underlying t = some (.struct (P.fieldsOf t)) := by rw [hF, h3]
        have ef := eqFields_ok (P := P) (w := w) (β := β) 9998 F.toList xs ys [] [] 0 m c h4 rfl rfl (by omega) hc
        simp only [List.nil_append] at ef
        have e := run_equalIn_agg (P := P) w 9999 t (denL β xs).toArray (denL β ys).toArray hu h1
        rw [hF, ef] at e
        split at h
        · simp only [OR.val.injEq] at h
          obtain ⟨rfl, rfl⟩ := h
          refine ⟨trivial, ?_⟩
          simp only [den]
          rw [Sem.run_bind, run_eqGuard_agg w _ t a b _ _ h2]
          show (binOp .eql t _ _).run P w = _
          rw [run_eql_struct, e]; rfl
        · simp only [OR.val.injEq] at h
          obtain ⟨rfl, rfl⟩ := h
          refine ⟨trivial, ?_⟩
          simp only [den]
          rw [Sem.run_bind, run_eqGuard_agg w _ t a b _ _ h2]
          show (binOp .neq t _ _).run P w = _
          rw [run_neq_struct, e]; rfl
        · cases h
      · cases h
    · cases h
  · cases h
theorem nilEq_ok {ts : Bool} {np : Prop} {op : BinOp} {l i m c : Nat} {p : Prop} {r : SV} {t : TypeId} {a b : Operand} (hts : ts = true → ∃ e, P.underlying t = some (.slice e)) (hnl : np → (β l).nl = false) (h : nilEq ts np op = .val p r) (hp : p) :
    Gives P β n w (do eqGuard op t a b (den β (.slc l i m c)) (den β (.f .nils)); binOp op t (den β (.slc l i m c)) (den β (.f .nils))) r := by
  unfold nilEq at h
  split at h
  · obtain ⟨e, hu⟩ := hts rfl
    have he : (β l).nl = false → (Op.equal t (den β (.slc l i m c)) (den β (.f .nils))).run P w = .ok false w := fun hn => by
      rw [den_slc hn]
      show (Op.equalIn (9999 + 1) t (.slice (some _) m c) (.slice none 0 0)).run P w = .ok false w
      unfold Op.equalIn
      rw [Sem.run_bind, run_underlying hu]
      rfl
    split at h
    · simp only [OR.val.injEq] at h
      obtain ⟨rfl, rfl⟩ := h
      have hn := hnl hp
      have he := he hn
      refine ⟨trivial, ?_⟩
      rw [den_slc hn] at he ⊢
      rw [Sem.run_bind]
      show (binOp .eql t (.slice (some _) m c) (.slice none 0 0)).run P w = _
      simp only [binOp]
      rw [Sem.run_bind, show (Op.equal t (.slice (some _) m c) (.slice none 0 0)).run P w = .ok false w from he]
      rfl
    · simp only [OR.val.injEq] at h
      obtain ⟨rfl, rfl⟩ := h
      have hn := hnl hp
      have he := he hn
      refine ⟨trivial, ?_⟩
      rw [den_slc hn] at he ⊢
      rw [Sem.run_bind]
      show (binOp .neq t (.slice (some _) m c) (.slice none 0 0)).run P w = _
      simp only [binOp]
      rw [Sem.run_bind, show (Op.equal t (.slice (some _) m c) (.slice none 0 0)).run P w = .ok false w from he]
      rfl
    · cases h
  · cases h
theorem int_cell {g : Nat → FV} {n j : Nat} (hg : ∀ j, j < n → ∃ k a, g j = .int k a) (hj : j < n) : ∃ k a, (((List.range n).map fun i => (g i).val).toArray)[j]? = some (.int k a) := by
  obtain ⟨k, a, e⟩ := hg j hj
  exact ⟨k, a, by simp [hj, e, FV.val]⟩
theorem eqItems_self {e : TypeId} {k : IntKind} {i : TypeInfo} {xs : Array Value} {m : Nat} (d : Nat) (hu : P.underlying e = some (.int k)) (hi : P.info? e = some i) (hs : i.size = 1) (hx : ∀ j, j < m → ∃ k a, xs[j]? = some (.int k a)) :
    ∀ is : List Nat, (∀ j ∈ is, j < m) → (Op.eqItems (d + 1) e (P.cellsOf e) xs xs is).run P w = .ok true w
  | [], _ => by simp [Op.eqItems]
  | j :: is, h => by
    obtain ⟨k', a, ha⟩ := hx j (h j (by simp))
    have hc : P.cellsOf e = 1 := by simp [Program.cellsOf, hi, hs]
    have ih := eqItems_self d hu hi hs hx is fun j hj => h j (by simp [hj])
    rw [hc] at ih ⊢
    have hp := part_int (P := P) (w := w) hu (cs := xs) (o := j * 1) (v := .int k' a) (by simpa using ha)
    simp only [Op.eqItems, Sem.run_bind, hp, Result.andThen_ok, run_equalIn_int w d e k' k a a hu]
    simpa using ih
theorem eqNest_self {xs : Array Value} (d N : Nat) (hx : ∀ j, j < N → ∃ k a, xs[j]? = some (.int k a)) (hN : xs.size = N) : ∀ (fs : List Field) (o n : Nat), nestI P fs o n → n ≤ N →
    (Op.eqFields (d + 2) xs xs fs).run P w = .ok true w
  | [], _, _, _, _ => rfl
  | f :: fs, o, n, hf, hn => by
    obtain ⟨g1, g2, m, e, k, i, j, hu, hj, hjm, hk, hi, hs, hr⟩ := hf
    have hle : ∀ (l : List Field) (o n : Nat), nestI P l o n → o ≤ n := by
      intro l
      induction l with
      | nil => intro o n h; exact Nat.le_of_eq h
      | cons a l ih =>
        intro o n h
        obtain ⟨_, _, m', _, _, _, _, _, _, _, _, _, _, h⟩ := h
        have := ih _ _ h; omega
    have h1 := hle _ _ _ hr
    have ih := eqNest_self d N hx hN fs (o + m) n hr hn
    have hp : (part f.type xs f.offset).run P w = .ok (.agg (xs.extract o (o + m))) w := by
      simp [part, isAgg, run_underlying hu, sizeOf, typeInfo, hj, hjm, g2]
    have hq : ∀ q, q < m → ∃ k a, (xs.extract o (o + m))[q]? = some (.int k a) := fun q hq => by
      obtain ⟨k, a, e⟩ := hx (o + q) (by omega)
      exact ⟨k, a, by rw [Array.getElem?_extract]; simp [hN, e]; omega⟩
    have hself := run_equalIn_array w (d + 1) (xs.extract o (o + m)) (xs.extract o (o + m)) hu hi
    rw [eqItems_self (w := w) d hk hi hs hq _ (fun j hj => by simpa using hj)] at hself
    simp only [Op.eqFields, if_pos g1, Sem.run_bind, hp, Result.andThen_ok, hself]
    simpa using ih
theorem arrEq_ok {ta : Option Nat} {op : BinOp} {n1 n2 : Nat} {g g' : Nat → FV} {p : Prop} {r : SV} {t : TypeId} {a b : Operand} (hta : ∀ n, ta = some n → EqA P t n) (h : arrEq ta op n1 g n2 g' = .val p r) (hp : p) :
    Gives P β n w (do eqGuard op t a b (den β (.arr n1 g)) (den β (.arr n2 g')); binOp op t (den β (.arr n1 g)) (den β (.arr n2 g'))) r := by
  unfold arrEq at h
  split at h
  · rename_i m
    obtain ⟨h1, h2, hor⟩ := hta m rfl
    have main : n1 = m ∧ n2 = m ∧ SameI m g g' → den β (.arr n1 g) = den β (.arr n2 g') ∧ (Op.equalIn 10000 t (den β (.arr n1 g)) (den β (.arr n1 g))).run P w = .ok true w := by
      rintro ⟨rfl, rfl, hs⟩
      refine ⟨?_, ?_⟩
      · simp only [den]
        congr 2
        apply List.map_congr_left
        intro j hj
        rw [(hs j (by simpa using hj)).1]
      · simp only [den]
        rcases hor with ⟨F, h3, h4⟩ | ⟨e, k, i, hu, hk, hi, h5⟩
        · have hF : P.fieldsOf t = F := by unfold Program.fieldsOf; rw [h3]
          have hu : P.underlying t = some (.struct (P.fieldsOf t)) := by rw [hF, h3]
          rw [run_equalIn_agg (P := P) w 9999 t _ _ hu h1, hF]
          exact eqNest_self 9997 n2 (fun j hj => int_cell (fun j hj => (hs j hj).2) hj) (by simp) F.toList 0 n2 h4 (Nat.le_refl _)
        · rw [run_equalIn_array w 9999 _ _ hu hi]
          exact eqItems_self 9998 hk hi h5 (fun j hj => int_cell (fun j hj => (hs j hj).2) hj) _ (fun j hj => by simpa using hj)
    split at h
    · simp only [OR.val.injEq] at h
      obtain ⟨rfl, rfl⟩ := h
      obtain ⟨e1, e2⟩ := main hp
      refine ⟨trivial, ?_⟩
      rw [← e1]
      simp only [den] at e2 ⊢
      rw [Sem.run_bind, run_eqGuard_agg w _ t a b _ _ h2]
      show (binOp .eql t _ _).run P w = _
      rw [run_eql_struct, e2]; rfl
    · simp only [OR.val.injEq] at h
      obtain ⟨rfl, rfl⟩ := h
      obtain ⟨e1, e2⟩ := main hp
      refine ⟨trivial, ?_⟩
      rw [← e1]
      simp only [den] at e2 ⊢
      rw [Sem.run_bind, run_eqGuard_agg w _ t a b _ _ h2]
      show (binOp .neq t _ _).run P w = _
      rw [run_neq_struct, e2]; rfl
    · cases h
  · cases h
theorem binR_ok {tb ts : Bool} {te ta : Option Nat} {np : Prop} {op : BinOp} {x y : SV} {p : Prop} {r : SV} {t : TypeId} {a b : Operand} (ht : tb = true → P.underlying t = some .bool) (hts : ts = true → ∃ e, P.underlying t = some (.slice e)) (hte : ∀ n, te = some n → EqT P t n) (hta : ∀ n, ta = some n → EqA P t n) (hnp : ∀ l i m c, x = .slc l i m c → np → (β l).nl = false) (h : binR tb ts te ta np op x y = .val p r) (hp : p) :
    Gives P β n w (do eqGuard op t a b (den β x) (den β y); binOp op t (den β x) (den β y)) r := by
  unfold binR at h
  split at h
  · rename_i u
    split at h
    · rename_i v
      have hg : ∀ s : Sem Value, ((do eqGuard op t a b u.val v.val; s).run P w) = s.run P w := fun s => by rw [Sem.run_bind, eqGuard_flat]; rfl
      suffices Gives P β n w (binOp op t u.val v.val) r from ⟨this.1, (hg _).trans this.2⟩
      unfold binFV at h
      split at h
      · rename_i k a1
        split at h
        · rename_i k' b1
          split at h
          · obtain ⟨rfl, rfl⟩ : (0 ≤ b1) = p ∧ _ = r := by simpa using h
            refine ⟨trivial, ?_⟩
            have : ¬ b1 < 0 := by omega
            simp [binOp, FV.val, Op.shift, this, den, shlI]
          · obtain ⟨rfl, rfl⟩ : (0 ≤ b1) = p ∧ _ = r := by simpa using h
            refine ⟨trivial, ?_⟩
            have : ¬ b1 < 0 := by omega
            simp [binOp, FV.val, Op.shift, this, den, shrI]
          · rename_i h1 h2
            split at h
            · subst k'; exact binI_ok h hp h1 h2
            · cases h
        · cases h
      · rename_i k a1
        split at h
        · rename_i k' b1
          split at h
          · split at h
            · exact binF_ok h hp
            · cases h
          · cases h
        · cases h
      · split at h
        · split at h
          · exact binB_ok (ht rfl) h hp
          · cases h
        · cases h
      · split at h
        · exact binS_ok h hp
        · cases h
      · cases h
    · cases h
  · split at h
    · exact aeqR_ok hte h hp
    · cases h
  · split at h
    · exact arrEq_ok hta h hp
    · cases h
  · split at h
    · exact nilEq_ok hts (hnp _ _ _ _ rfl) h hp
    · cases h
  · cases h
theorem unR_ok {op : UnOp} {x : SV} {p : Prop} {r : SV} (h : unR op x = .val p r) (hp : p) : Gives P β n w (Op.unary op (den β x)) r := by
  unfold unR at h
  split at h <;> (try (cases h; done)) <;> (split at h <;> (try (cases h; done))) <;> simp only [OR.val.injEq] at h <;> (obtain ⟨rfl, rfl⟩ := h) <;> refine ⟨trivial, ?_⟩ <;> simp [Op.unary, den, FV.val, Op.intArith, fneg]
theorem convR_ok {tab : Nat → Option TI} (ht : TabOk P tab) {src dst : Nat} {x : SV} {p : Prop} {r : SV} (h : convR tab src dst x = .val p r) (hp : p) : Gives P β n w (convert src dst (den β x)) r := by
  unfold convR at h
  split at h
  · cases h
  · rename_i i1 hs
    obtain ⟨ds, _, us, _⟩ := ht _ _ hs
    split at h
    · cases h
    · rename_i i hd
      obtain ⟨dd, _, ud, kd, _⟩ := ht _ _ hd
      split at h
      · rename_i k hk
        rw [hk] at kd; simp only [TK.ok] at kd; subst kd
        split at h
        · simp only [OR.val.injEq] at h; obtain ⟨rfl, rfl⟩ := h
          refine ⟨trivial, ?_⟩
          cases ds <;> simp [convert, run_underlying us, run_underlying ud, den, FV.val, Conv.intToInt]
        · cases h
      · rename_i hk
        rw [hk] at kd; simp only [TK.ok] at kd; subst kd
        split at h
        · simp only [OR.val.injEq] at h; obtain ⟨rfl, rfl⟩ := h
          exact ⟨trivial, f_ofInt w src dst _ _ (by rw [us]; rfl) ud⟩
        · simp only [OR.val.injEq] at h; obtain ⟨rfl, rfl⟩ := h
          exact ⟨trivial, f_same w src dst _ (by rw [us]; rfl) ud⟩
        · cases h
      · rename_i hk
        rw [hk] at kd; simp only [TK.ok] at kd; subst kd
        split at h
        · simp only [OR.val.injEq] at h; obtain ⟨rfl, rfl⟩ := h
          refine ⟨trivial, ?_⟩
          have := hp P w
          cases ds <;> simp [convert, run_underlying us, run_underlying ud, den, FV.val, this]
        · cases h
      · rename_i hk
        rw [hk] at kd; simp only [TK.ok] at kd; subst kd
        split at h
        · simp only [OR.val.injEq] at h; obtain ⟨rfl, rfl⟩ := h
          refine ⟨trivial, ?_⟩
          cases ds <;> simp [convert, run_underlying us, run_underlying ud, den, FV.val]
        · cases h
      · cases h
end
end Go.Proofs.YtjhddlkfkicpaaaGreatDoor.Vx

namespace Go.Proofs.YtjhddlkfkicpaaaGreatDoor.Vx
open Go Go.RowKit Fl
set_option linter.unusedVariables false
set_option linter.unusedSimpArgs false

def allKnown : List SV → Bool
  | [] => true
  | v :: r => v.one && allKnown r
theorem allKnown_iff : ∀ l, allKnown l = true ↔ ∀ v ∈ l, v.one = true
  | [] => by simp [allKnown]
  | v :: r => by simp [allKnown, allKnown_iff r]
def shf (g : Nat → FV) (j : Nat) : Nat → FV := fun k => g (j + k)
theorem shf_zero (g : Nat → FV) : shf g 0 = g := by funext k; simp [shf]
def mapF : List FV → List SV
  | [] => []
  | v :: r => .f v :: mapF r
theorem mapF_eq : ∀ l, mapF l = l.map SV.f
  | [] => rfl
  | v :: r => by rw [mapF, mapF_eq r]; rfl
def sub {α : Type} (l : List α) (j s : Nat) : List α := (l.drop j).take s

def ldOne (blk : Blk) (i j : Nat) : OR :=
  match blk with
  | .lit row _ => (match i with
    | 0 => (match rget row j with
      | some v => (match v.one with | true => .val True v | false => .bad)
      | none => .bad)
    | _ => .bad)
  | .rows n _ _ f _ => (match rget (f i) j with
    | some v => .val (i < n) (.f v)
    | none => .bad)
  | .cells n g _ => (match i with
    | 0 => .val (j < n) (.f (g j))
    | _ => .bad)
  | .dead => .bad
def ldAgg (blk : Blk) (i j s : Nat) : OR :=
  match blk with
  | .lit row _ => (match i with
    | 0 => if j + s ≤ row.length then (match allKnown (sub row j s) with | true => .val True (.agg (sub row j s)) | false => .bad) else .bad
    | _ => .bad)
  | .rows n _ c f _ => if j + s ≤ c then .val (i < n) (.agg (mapF (sub (f i) j s))) else .bad
  | .cells n g _ => (match i with
    | 0 => .val (j + s ≤ n) (.arr s (shf g j))
    | _ => .bad)
  | .dead => .bad
def ldR (tab : Nat → Option TI) (h : List Blk) (t : Nat) (x : SV) : OR :=
  match x with
  | .ptr l i j => (match tab t with
    | some ti => (match ti.k.agg with
      | true => ldAgg (hget h l) i j ti.size
      | false => ldOne (hget h l) i j)
    | none => .bad)
  | _ => .bad

section
variable {P : Program} {β : Nat → Loc} {w : World} {h : List Blk} {tab : Nat → Option TI}
theorem loadVar_one {t : TypeId} {d : TypeDesc} (hu : P.underlying t = some d) (hd : d.isRow = false) {a : Addr} {v : Value} (hc : w.cell? a = some v) : (loadVar t a).run P w = .ok v w := by
  have : (isAgg t).run P w = .ok false w := by
    unfold isAgg
    rw [Sem.run_bind, run_underlying hu w]
    cases d <;> simp_all [TypeDesc.isRow]
  simp [loadVar, this, hc]
theorem loadAt_of {t : TypeId} {b o : Nat} {v : Value} (hl : (loadVar t ⟨b, o, none⟩).run P w = .ok v w) : (Instr.loadAt t (.pointer (some ⟨b, o, none⟩))).run P w = .ok v w := by
  simp [Instr.loadAt, Instr.sureAddr, hl]
theorem Blk.bd_cell {blk : Blk} {n i j : Nat} {v : SV} (hb : blk.bd n) (hv : blk.cell i j = some v) : v.bd n := by
  cases blk with
  | lit row o =>
    simp only [Blk.cell] at hv
    split at hv
    · rw [rget_eq] at hv; exact (bdL_iff n row).1 hb v (List.mem_of_getElem? hv)
    · cases hv
  | rows n' cap c f o =>
    simp only [Blk.cell] at hv
    split at hv
    · obtain ⟨u, _, rfl⟩ := Option.map_eq_some_iff.1 hv; trivial
    · cases hv
  | cells n' g o =>
    simp only [Blk.cell] at hv
    split at hv
    · cases hv; trivial
    · cases hv
  | dead => cases hv
theorem ldOne_ok (H : Holds w β h) {l i j : Nat} {p : Prop} {r : SV} (ho : ldOne (hget h l) i j = .val p r) (hp : p) :
    r.bd h.length ∧ w.cell? ⟨(β l).b, (β l).lo + i * (β l).c + j, none⟩ = some (den β r) := by
  have hb := H.bd l
  have hk := H.ok l
  generalize hget h l = blk at *
  have key : ∀ v : SV, blk.cell i j = some v → v.known = true → v.bd h.length ∧ w.cell? ⟨(β l).b, (β l).lo + i * (β l).c + j, none⟩ = some (den β v) := fun v hv hkn => ⟨Blk.bd_cell hb hv, (hk.cell i j v hv hkn).2⟩
  cases blk with
  | lit row o =>
    simp only [ldOne] at ho
    split at ho
    · split at ho
      · rename_i v hv
        split at ho
        · rename_i h1
          simp only [OR.val.injEq] at ho; obtain ⟨rfl, rfl⟩ := ho
          exact key v (by simp [Blk.cell, hv]) (SV.one_known h1)
        · cases ho
      · cases ho
    · cases ho
  | rows n cap c f o =>
    simp only [ldOne] at ho
    split at ho
    · rename_i v hv
      simp only [OR.val.injEq] at ho; obtain ⟨rfl, rfl⟩ := ho
      exact key _ (by simp [Blk.cell, hv, hp]) rfl
    · cases ho
  | cells n g o =>
    simp only [ldOne] at ho
    split at ho
    · simp only [OR.val.injEq] at ho; obtain ⟨rfl, rfl⟩ := ho
      exact key _ (by simp [Blk.cell, hp]) rfl
    · cases ho
  | dead => cases ho
theorem sub_get {α : Type} (l : List α) (j s k : Nat) : (sub l j s)[k]? = if k < s then l[j + k]? else none := by
  unfold sub
  rw [List.getElem?_take]
  split
  · rw [List.getElem?_drop]
  · rfl
theorem ldAgg_ok (H : Holds w β h) {l i j s : Nat} {p : Prop} {r : SV} (ho : ldAgg (hget h l) i j s = .val p r) (hp : p) :
    r.bd h.length ∧ ∃ cs : List Value, den β r = .agg cs.toArray ∧ cs.length = s ∧ w.rangeAt (β l).b ((β l).lo + i * (β l).c + j) cs := by
  have hb := H.bd l
  have hk := H.ok l
  generalize hget h l = blk at *
  cases blk with
  | lit row o =>
    simp only [ldAgg] at ho
    split at ho
    · split at ho
      · rename_i hl
        split at ho
        · rename_i ha
          simp only [OR.val.injEq] at ho; obtain ⟨rfl, rfl⟩ := ho
          rw [allKnown_iff] at ha
          refine ⟨(bdL_iff _ _).2 fun v hv => (bdL_iff _ row).1 hb v (List.mem_of_mem_drop (List.mem_of_mem_take hv)), denL β (sub row j s), by simp [den], by rw [denL_map]; simp [sub]; omega, fun k v hv => ?_⟩
          rw [denL_map, List.getElem?_map] at hv
          obtain ⟨u, hu, rfl⟩ := Option.map_eq_some_iff.1 hv
          have h1 := ha u (List.mem_of_getElem? hu)
          rw [sub_get] at hu
          split at hu
          · have := (hk.cell 0 (j + k) u (by simp [Blk.cell, rget_eq, hu]) (SV.one_known h1)).2
            rw [← this]; congr 2; omega
          · cases hu
        · cases ho
      · cases ho
    · cases ho
  | rows n cap c f o =>
    simp only [ldAgg] at ho
    split at ho
    · rename_i hl
      simp only [OR.val.injEq] at ho; obtain ⟨rfl, rfl⟩ := ho
      have hlen := (hk.fit).2.2 i hp
      refine ⟨(bdL_iff _ _).2 fun v hv => ?_, denL β (mapF (sub (f i) j s)), by simp [den], by rw [denL_map, mapF_eq]; simp [sub]; omega, fun k v hv => ?_⟩
      · rw [mapF_eq] at hv; obtain ⟨u, _, rfl⟩ := List.mem_map.1 hv; trivial
      · rw [denL_map, mapF_eq, List.getElem?_map, List.getElem?_map] at hv
        obtain ⟨u, hu, rfl⟩ := Option.map_eq_some_iff.1 hv
        obtain ⟨u, hu, rfl⟩ := Option.map_eq_some_iff.1 hu
        rw [sub_get] at hu
        split at hu
        · have := (hk.cell i (j + k) (.f u) (by simp [Blk.cell, rget_eq, hu, hp]) rfl).2
          rw [← this]; congr 2; omega
        · cases hu
    · cases ho
  | cells n g o =>
    simp only [ldAgg] at ho
    split at ho
    · simp only [OR.val.injEq] at ho; obtain ⟨rfl, rfl⟩ := ho
      refine ⟨trivial, (List.range s).map fun k => (shf g j k).val, by simp [den], by simp, fun k v hv => ?_⟩
      rw [List.getElem?_map] at hv
      obtain ⟨u, hu, rfl⟩ := Option.map_eq_some_iff.1 hv
      have hu' := List.getElem?_eq_some_iff.1 hu
      obtain ⟨hks, he⟩ := hu'
      simp at hks he
      subst he
      have := (hk.cell 0 (j + k) (.f (g (j + k))) (if_pos ⟨rfl, by omega⟩) rfl).2
      rw [show (shf g j k).val = den β (.f (g (j + k))) from rfl, ← this]; congr 2; omega
    · cases ho
  | dead => cases ho
theorem ldR_ok (ht : TabOk P tab) (H : Holds w β h) {t : Nat} {x : SV} {p : Prop} {r : SV} (ho : ldR tab h t x = .val p r) (hp : p) :
    r.bd h.length ∧ (Instr.loadAt t (den β x)).run P w = .ok (den β r) w := by
  unfold ldR at ho
  split at ho
  · rename_i l i j
    split at ho
    · rename_i ti hti
      obtain ⟨d, q, hu, _, hrow, hq, hsz, _⟩ := ht _ _ hti
      split at ho
      · rename_i ha
        obtain ⟨hb, cs, he, hl, hr⟩ := ldAgg_ok H ho hp
        refine ⟨hb, loadAt_of ?_⟩
        rw [he]
        exact run_loadVar_mid w _ _ t cs d hr hu (by rw [hrow, ha]) (by rw [hq, hl, ← hsz]; rfl)
      · rename_i ha
        obtain ⟨hb, hc⟩ := ldOne_ok H ho hp
        exact ⟨hb, loadAt_of (loadVar_one hu (by rw [hrow, ha]) hc)⟩
    · cases ho
  · cases ho
end

/-! ### Places -/
def fieldR (tab : Nat → Option TI) (t : Nat) (x : SV) (f : Nat) : OR :=
  match x with
  | .ptr l i j => (match tab t with
    | some ti => (match ti.k with
      | .struct fs => (match rget fs f with
        | some q => (match tab q.2 with
          | some tf => if tf.size = 0 then .bad else .val True (.ptr l i (j + q.1))
          | none => .bad)
        | none => .bad)
      | _ => .bad)
    | none => .bad)
  | _ => .bad
/-- An array of single cells that is told as rows. -/
def rw1 (b : Blk) (j s : Nat) : Bool :=
  match b with
  | .rows _ _ c _ _ => (match j with
    | 0 => (match s with
      | 1 => c == 1
      | _ => false)
    | _ => false)
  | _ => false
def arrP (q : Bool) (l i j n s : Nat) : SV :=
  match q with
  | true => .ptr l (i + n) 0
  | false => .ptr l i (j + n * s)
def indexR (tab : Nat → Option TI) (h : List Blk) (t : Nat) (x ix : SV) : OR :=
  match ix with
  | .f (.int _ n) => (match tab t with
    | some ti => (match ti.k with
      | .slice e => (match x with
        | .slc l i len _ => (match tab e with
          | some te => (match hget h l with
            | .rows _ _ c _ _ => if te.size = c then .val (0 ≤ n ∧ n < len) (.ptr l (i + n.toNat) 0) else .bad
            | _ => .bad)
          | none => .bad)
        | _ => .bad)
      | .arr m e => (match x with
        | .ptr l i j => (match tab e with
          | some te => .val (0 ≤ n ∧ n < m) (arrP (rw1 (hget h l) j te.size) l i j n.toNat te.size)
          | none => .bad)
        | _ => .bad)
      | _ => .bad)
    | none => .bad)
  | _ => .bad
def nilR (x : SV) : OR :=
  match x with
  | .ptr l i j => .val True (.ptr l i j)
  | .fn f a b => .val True (.fn f a b)
  | _ => .bad

section
variable {P : Program} {β : Nat → Loc} {w : World} {h : List Blk} {tab : Nat → Option TI} {n : Nat}
theorem fieldR_ok (ht : TabOk P tab) {t f : Nat} {x : SV} {p : Prop} {r : SV} (ho : fieldR tab t x f = .val p r) (hx : x.bd n) : r.bd n ∧ (Instr.fieldAt t (den β x) f).run P w = .ok (den β r) w := by
  unfold fieldR at ho
  split at ho
  · rename_i l i j
    split at ho
    · rename_i ti hti
      obtain ⟨d, q, hu, hk, _⟩ := ht _ _ hti
      split at ho
      · rename_i fs hfs
        rw [hfs] at hk
        obtain ⟨F, rfl, hF⟩ := hk
        split at ho
        · rename_i qf hqf
          split at ho
          · rename_i tf htf
            obtain ⟨_, qi, _, _, _, hqi, hsz, _⟩ := ht _ _ htf
            split at ho
            · cases ho
            · rename_i hne
              simp only [OR.val.injEq] at ho; obtain ⟨rfl, rfl⟩ := ho
              refine ⟨hx, ?_⟩
              rw [rget_eq, ← hF, List.getElem?_map] at hqf
              obtain ⟨fd, hfd, rfl⟩ := Option.map_eq_some_iff.1 hqf
              have hfd' : F[f]? = some fd := by simpa using hfd
              have hs : qi.size ≠ 0 := by omega
              have hadd : ∀ (b o k : Nat), (⟨b, o, none⟩ : Addr).add k = ⟨b, o + k, none⟩ := fun b o k => Addr.add_mid b o k
              simp [Instr.fieldAt, run_underlying hu, hfd', den, Instr.sureAddr, fieldPlace, sizeOf, typeInfo, hqi, hs, hadd, Nat.add_assoc]
          · cases ho
        · cases ho
      · cases ho
    · cases ho
  · cases ho
theorem indexR_ok (ht : TabOk P tab) (H : Holds w β h) {t : Nat} {x ix : SV} {p : Prop} {r : SV} (ho : indexR tab h t x ix = .val p r) (hp : p) (hx : x.bd n) : r.bd n ∧ (Instr.indexAt t (den β x) (den β ix)).run P w = .ok (den β r) w := by
  unfold indexR at ho
  split at ho
  · rename_i k m
    split at ho
    · rename_i ti hti
      obtain ⟨d, q, hu, hk, _⟩ := ht _ _ hti
      have hadd : ∀ (b o k : Nat), (⟨b, o, none⟩ : Addr).add k = ⟨b, o + k, none⟩ := fun b o k => Addr.add_mid b o k
      split at ho
      · rename_i e he
        rw [he] at hk; simp only [TK.ok] at hk; subst hk
        split at ho
        · rename_i l i len cap
          split at ho
          · rename_i te hte
            obtain ⟨_, qi, _, _, _, hqi, hsz, _⟩ := ht _ _ hte
            split at ho
            · rename_i nb cb c f o hblk
              split at ho
              · rename_i hc
                simp only [OR.val.injEq] at ho; obtain ⟨rfl, rfl⟩ := ho
                have hL : (β l).c = c := by have := (H.ok l).fit; rw [hblk] at this; exact this.1.1
                have hlen : len ≠ 0 := by omega
                refine ⟨hx, ?_⟩
                have he2 : (β l).lo + i * (β l).c + m.toNat * (β l).c = (β l).lo + (i + m.toNat) * (β l).c := by rw [Nat.add_mul]; omega
                have hs2 : qi.size = (β l).c := by omega
                simp [Instr.indexAt, asIntOf, run_underlying hu, den, FV.val, hp.1, hp.2, sizeOf, typeInfo, hqi, hs2, hadd, he2, hlen]
              · cases ho
            · cases ho
          · cases ho
        · cases ho
      · rename_i len e he
        rw [he] at hk; simp only [TK.ok] at hk; subst hk
        split at ho
        · rename_i l i j
          split at ho
          · rename_i te hte
            obtain ⟨_, qi, _, _, _, hqi, hsz, _⟩ := ht _ _ hte
            simp only [OR.val.injEq] at ho; obtain ⟨rfl, rfl⟩ := ho
            have hrun : (Instr.indexAt t (den β (.ptr l i j)) (den β (.f (.int k m)))).run P w = .ok (den β (.ptr l i (j + m.toNat * te.size))) w := by
              simp [Instr.indexAt, asIntOf, run_underlying hu, den, FV.val, Instr.sureAddr, hp.1, hp.2, sizeOf, typeInfo, hqi, hsz, hadd, Nat.add_assoc]
            cases hq : rw1 (hget h l) j te.size with
            | false => exact ⟨hx, hrun⟩
            | true =>
              refine ⟨hx, ?_⟩
              rw [hrun]
              unfold rw1 at hq
              split at hq
              · rename_i n1 cb c f o hblk
                have hL : (β l).c = c := by have := (H.ok l).fit; rw [hblk] at this; exact this.1.1
                split at hq
                · split at hq
                  · rename_i hs1
                    have hc1 : c = 1 := by simpa using hq
                    simp only [arrP, den, hL, hc1, hs1, Nat.mul_one, Nat.zero_add, Nat.add_zero, Nat.add_assoc]
                  · cases hq
                · cases hq
              · cases hq
          · cases ho
        · cases ho
      · cases ho
    · cases ho
  · cases ho
end
end Go.Proofs.YtjhddlkfkicpaaaGreatDoor.Vx

namespace Go.Proofs.YtjhddlkfkicpaaaGreatDoor.Vx
open Go Go.RowKit Fl
set_option linter.unusedVariables false
set_option linter.unusedSimpArgs false

theorem heap_setCells (b k : Nat) (hk : k ≠ b) : ∀ (vs : List Value) (o : Nat) (w : World), (w.setCells b o vs).heap[k]? = w.heap[k]?
  | [], _, _ => rfl
  | v :: r, o, w => by
    unfold World.setCells
    rw [heap_setCells b k hk r]
    exact Below.heap_setCell _ _ _ _ hk
theorem size_setCells (b : Nat) : ∀ (vs : List Value) (o : Nat) (w : World), (w.setCells b o vs).heap.size = w.heap.size
  | [], _, _ => rfl
  | v :: r, o, w => by unfold World.setCells; rw [size_setCells b r]; simp
theorem rest_setCells (b : Nat) : ∀ (vs : List Value) (o : Nat) (w : World), (w.setCells b o vs).os = w.os ∧ (w.setCells b o vs).tape = w.tape ∧ (w.setCells b o vs).output = w.output
  | [], _, _ => ⟨rfl, rfl, rfl⟩
  | v :: r, o, w => by unfold World.setCells; exact rest_setCells b r (o + 1) _
theorem cell_other (w : World) {b k o : Nat} (hk : k ≠ b) (vs : List Value) (q : Nat) : (w.setCells b q vs).cell? ⟨k, o, none⟩ = w.cell? ⟨k, o, none⟩ :=
  World.cell?_of_block (w := w) (heap_setCells b k hk vs q w)

theorem BlkOk.other {w : World} {β : Nat → Loc} {L : Loc} {blk : Blk} (h : BlkOk w β L blk) {b : Nat} (hb : blk.live → L.b ≠ b) (q : Nat) (vs : List Value) : BlkOk (w.setCells b q vs) β L blk := by
  refine ⟨fun hl => by rw [size_setCells]; exact h.there hl, h.fit, fun i j v hv hk => ?_, fun ho => ⟨(h.wr ho).1, fun i j hr => ?_⟩⟩
  · have hl : blk.live := h.cell_live hv
    rw [cell_other w (hb hl)]; exact h.cell i j v hv hk
  · have hl := Blk.own_live ho
    rw [cell_other w (hb hl), World.frozen?_setCells]; exact (h.wr ho).2 i j hr

theorem Holds.upd {w : World} {β : Nat → Loc} {h : List Blk} (H : Holds w β h) {l : Nat} (ho : (hget h l).own = true) {blk : Blk} {q : Nat} {vs : List Value}
    (ok : BlkOk (w.setCells (β l).b q vs) β (β l) blk) (hb : blk.bd h.length) (hlv : blk.own = true) : Holds (w.setCells (β l).b q vs) β (hset h l blk) := by
  have hl := hget_lt (Blk.own_live ho)
  have key : ∀ m, hget (hset h l blk) m = if m = l then blk else hget h m := fun m => by
    rw [hget_hset]; by_cases e : m = l
    · rw [if_pos ⟨e, hl⟩, if_pos e]
    · rw [if_neg (fun c => e c.1), if_neg e]
  refine ⟨fun m => ?_, fun m k hm hk hne hor => ?_, fun m => ?_, H.gl.keep (by rw [size_setCells]; exact Nat.le_refl _) fun b hb2 => heap_setCells _ _ (by have := H.go l ho; omega) vs q w, fun m hm => ?_⟩
  · rw [key]
    by_cases e : m = l
    · subst e; rw [if_pos rfl]; exact ok
    · rw [if_neg e]
      exact (H.ok m).other (fun hm => H.inj m l hm (Blk.own_live ho) e (.inr ho)) q vs
  · rw [key] at hm hk hor
    rw [key] at hor
    by_cases e : m = l
    · subst e
      have : k ≠ m := fun c => hne c.symm
      rw [if_neg this] at hk
      exact H.inj m k (Blk.own_live ho) hk hne (.inl ho)
    · rw [if_neg e] at hm hor
      by_cases e' : k = l
      · subst e'; exact H.inj m k hm (Blk.own_live ho) hne (.inr ho)
      · rw [if_neg e'] at hk hor; exact H.inj m k hm hk hne hor
  · rw [key, hset_length]
    split
    · exact hb
    · exact H.bd m
  · rw [key] at hm
    by_cases e : m = l
    · subst e; exact H.go m ho
    · rw [if_neg e] at hm; exact H.go m hm
theorem Since.upd {w0 : World} {β0 : Nat → Loc} {h0 : List Blk} {w : World} {β : Nat → Loc} {h : List Blk} (s : Since w0 β0 h0 w β h) {l : Nat} (ho : (hget h l).own = true) {blk : Blk} (hb : blk.own = true) (q : Nat) (vs : List Value) :
    Since w0 β0 h0 (w.setCells (β l).b q vs) β (hset h l blk) := by
  obtain ⟨r1, r2, r3⟩ := rest_setCells (β l).b vs q w
  refine ⟨r1.trans s.os, r2.trans s.tape, r3.trans s.output, by rw [size_setCells]; exact s.size, by rw [hset_length]; exact s.len, s.same, fun b hb2 hn => ?_, fun m hl hm => ?_, fun m hl hm => ?_, fun m hl hm => ?_⟩
  · rw [heap_setCells _ _ ?_]
    · exact s.frame b hb2 hn
    · rcases s.own l ho with c | ⟨l0, o0, e0⟩
      · omega
      · intro e; exact hn l0 o0 (by rw [e0, e])
  · rw [hget_hset] at hm
    split at hm
    · rename_i c; exact s.liv m hl (by rw [c.1]; exact Blk.own_live ho)
    · exact s.liv m hl hm
  · rw [hget_hset] at hm
    split at hm
    · rename_i c; exact s.ownk m hl (by rw [c.1]; exact ho)
    · exact s.ownk m hl hm
  · rw [hget_hset] at hm
    split at hm
    · rename_i c; rw [c.1] at hl ⊢; exact s.fresh l hl (Blk.own_live ho)
    · exact s.fresh m hl hm

def updR (f : Nat → List FV) (i j : Nat) (u : FV) : Nat → List FV := fun k => if k = i then rset (f i) j u else f k
def updW (f : Nat → List FV) (i : Nat) (us : List FV) : Nat → List FV := fun k => if k = i then us else f k
def updC (g : Nat → FV) (j : Nat) (u : FV) : Nat → FV := fun k => if k = j then u else g k
def updA (g : Nat → FV) (j s : Nat) (g2 : Nat → FV) : Nat → FV := fun k => if j ≤ k ∧ k < j + s then g2 (k - j) else g k

def stOne (blk : Blk) (l i j : Nat) (v : SV) : OR :=
  match blk with
  | .lit row own => (match own with
    | true => (match i with
      | 0 => if j < row.length then (match v.one with | true => .upd True l (.lit (rset row j v) true) | false => .bad) else .bad
      | _ => .bad)
    | false => .bad)
  | .rows n cap c f own => (match own with
    | true => (match v with
      | .f u => if j < c then .upd (i < n) l (.rows n cap c (updR f i j u) true) else .bad
      | _ => .bad)
    | false => .bad)
  | .cells n g own => (match own with
    | true => (match i with
      | 0 => (match v with
        | .f u => .upd (j < n) l (.cells n (updC g j u) true)
        | _ => .bad)
      | _ => .bad)
    | false => .bad)
  | .dead => .bad
section
variable {P : Program} {β : Nat → Loc} {w : World} {h : List Blk} {tab : Nat → Option TI} {n : Nat}
theorem cell_set (w : World) {b o : Nat} (hs : (w.cell? ⟨b, o, none⟩).isSome = true) (v : Value) (o' : Nat) : (w.setCells b o [v]).cell? ⟨b, o', none⟩ = if o' = o then some v else w.cell? ⟨b, o', none⟩ := by
  by_cases e : o' = o
  · subst e
    rw [if_pos rfl]
    have := World.cell?_setCells_in b [v] o' w (fun j hj => by simp at hj; subst hj; exact hs) 0 (by simp)
    simpa using this
  · rw [if_neg e, World.cell?_setCells_out b [v] o w ⟨b, o', none⟩ (fun _ _ => by show o' < o ∨ o + 1 ≤ o'; omega)]
theorem SV.bd_f {v : FV} {n : Nat} : (SV.f v).bd n := trivial
theorem rset_length {α : Type} (l : List α) (n : Nat) (u : α) : (rset l n u).length = l.length := by rw [rset_eq]; simp
theorem rget_rset {α : Type} (l : List α) (n m : Nat) (u : α) : rget (rset l n u) m = if m = n ∧ n < l.length then some u else rget l m := by
  rw [rget_eq, rset_eq, rget_eq, List.getElem?_set]
  by_cases e : n = m
  · subst e
    by_cases c : n < l.length
    · simp [c]
    · simp [c]
  · rw [if_neg e, if_neg (fun c => e c.1.symm)]
theorem stOne_ok (H : Holds w β h) {l i j : Nat} {v : SV} {p : Prop} {l' : Nat} {blk : Blk} (ho : stOne (hget h l) l i j v = .upd p l' blk) (hp : p) (hv : v.bd h.length) :
    l' = l ∧ v.one = true ∧ (hget h l).own = true ∧ (hget h l).room i j ∧ blk.own = true ∧ blk.bd h.length ∧ BlkOk (w.setCells (β l).b ((β l).lo + i * (β l).c + j) [den β v]) β (β l) blk := by
  have hb := H.bd l
  have hk := H.ok l
  generalize hget h l = B at *
  cases B with
  | lit row o =>
    simp only [stOne] at ho
    split at ho
    · split at ho
      · split at ho
        · rename_i hj
          split at ho
          · rename_i h1
            simp only [OR.upd.injEq] at ho; obtain ⟨rfl, rfl, rfl⟩ := ho
            have hrm : (Blk.lit row true).room 0 j := ⟨rfl, hj⟩
            refine ⟨rfl, h1, rfl, hrm, rfl, ?_, ?_⟩
            · exact (bdL_iff _ _).2 fun u hu => by
                rw [rset_eq] at hu
                rcases List.mem_or_eq_of_mem_set hu with c | c
                · exact (bdL_iff _ _).1 hb u c
                · rw [c]; exact hv
            · have hs := ((hk.wr rfl).2 0 j hrm).1
              refine ⟨fun hl => by rw [size_setCells]; exact hk.there hl, trivial, fun i' j' u hu hkn => ?_, fun _ => ⟨(hk.wr rfl).1, fun i' j' hr => ?_⟩⟩
              · simp only [Blk.cell] at hu
                split at hu
                · rename_i e; subst e
                  rw [rget_rset] at hu
                  rw [cell_set w hs]
                  by_cases c : j' = j
                  · subst c
                    rw [if_pos ⟨rfl, hj⟩] at hu; cases hu
                    exact ⟨h1, by rw [if_pos rfl]⟩
                  · rw [if_neg (fun q => c q.1)] at hu
                    rw [if_neg (by omega)]
                    exact hk.cell 0 j' u (by simp [Blk.cell, hu]) hkn
                · cases hu
              · have hr' : (Blk.lit row true).room i' j' := ⟨hr.1, by have := hr.2; rw [rset_length] at this; exact this⟩
                have := (hk.wr rfl).2 i' j' hr'
                exact ⟨World.isSome_setCells _ _ _ _ _ this.1, by rw [World.frozen?_setCells]; exact this.2⟩
          · cases ho
        · cases ho
      · cases ho
    · cases ho
  | rows m cap c f o =>
    simp only [stOne] at ho
    split at ho
    · split at ho
      · rename_i u
        split at ho
        · rename_i hj
          simp only [OR.upd.injEq] at ho; obtain ⟨rfl, rfl, rfl⟩ := ho
          have hfit := hk.fit
          have hrm : (Blk.rows m cap c f true).room i j := ⟨Nat.lt_of_lt_of_le hp hfit.2.1, hj⟩
          have hlen := hfit.2.2 i hp
          refine ⟨rfl, rfl, rfl, hrm, rfl, trivial, ?_⟩
          have hs := ((hk.wr rfl).2 i j hrm).1
          refine ⟨fun hl => by rw [size_setCells]; exact hk.there hl, ⟨hfit.1, hfit.2.1, fun k hkm => ?_⟩, fun i' j' u' hu hkn => ?_, fun _ => ⟨(hk.wr rfl).1, fun i' j' hr => ?_⟩⟩
          · unfold updR; split
            · rw [rset_length]; exact hlen
            · exact hfit.2.2 k hkm
          · simp only [Blk.cell] at hu
            split at hu
            · rename_i him
              obtain ⟨x, hx, rfl⟩ := Option.map_eq_some_iff.1 hu
              have hj' : j' < c := by
                have := hfit.2.2 i' him
                rw [rget_eq] at hx
                have := (List.getElem?_eq_some_iff.1 hx).1
                unfold updR at this; split at this
                · rw [rset_length] at this; omega
                · omega
              rw [cell_set w hs]
              by_cases e : i' = i
              · subst e
                unfold updR at hx; rw [if_pos rfl, rget_rset] at hx
                by_cases e2 : j' = j
                · subst e2
                  rw [if_pos ⟨rfl, by omega⟩] at hx; cases hx
                  exact ⟨rfl, by rw [if_pos rfl]⟩
                · rw [if_neg (fun q => e2 q.1)] at hx
                  rw [if_neg (by omega)]
                  exact hk.cell i' j' _ (by simp [Blk.cell, him, hx]) rfl
              · unfold updR at hx; rw [if_neg e] at hx
                have hne : (β l).lo + i' * (β l).c + j' ≠ (β l).lo + i * (β l).c + j := by
                  rw [hfit.1.1]
                  rcases Nat.lt_or_gt_of_ne e with q | q
                  · have := Nat.mul_le_mul_right c q; rw [Nat.succ_mul] at this; omega
                  · have := Nat.mul_le_mul_right c q; rw [Nat.succ_mul] at this; omega
                rw [if_neg hne]
                exact hk.cell i' j' _ (by simp [Blk.cell, him, hx]) rfl
            · cases hu
          · have := (hk.wr rfl).2 i' j' hr
            exact ⟨World.isSome_setCells _ _ _ _ _ this.1, by rw [World.frozen?_setCells]; exact this.2⟩
        · cases ho
      · cases ho
    · cases ho
  | cells m g o =>
    simp only [stOne] at ho
    split at ho
    · split at ho
      · split at ho
        · rename_i u
          simp only [OR.upd.injEq] at ho; obtain ⟨rfl, rfl, rfl⟩ := ho
          have hrm : (Blk.cells m g true).room 0 j := ⟨rfl, hp⟩
          refine ⟨rfl, rfl, rfl, hrm, rfl, trivial, ?_⟩
          have hs := ((hk.wr rfl).2 0 j hrm).1
          refine ⟨fun hl => by rw [size_setCells]; exact hk.there hl, trivial, fun i' j' u' hu hkn => ?_, fun _ => ⟨(hk.wr rfl).1, fun i' j' hr => ?_⟩⟩
          · simp only [Blk.cell] at hu
            split at hu
            · rename_i c; obtain ⟨rfl, hj'⟩ := c
              cases hu
              rw [cell_set w hs]
              unfold updC
              by_cases e : j' = j
              · subst e; rw [if_pos rfl, if_pos rfl]; exact ⟨rfl, rfl⟩
              · rw [if_neg e, if_neg (by omega)]
                exact hk.cell 0 j' _ (by simp [Blk.cell, hj']) rfl
            · cases hu
          · have := (hk.wr rfl).2 i' j' hr
            exact ⟨World.isSome_setCells _ _ _ _ _ this.1, by rw [World.frozen?_setCells]; exact this.2⟩
        · cases ho
      · cases ho
    · cases ho
  | dead => cases ho
end

def splice {α : Type} (row : List α) (j : Nat) (cs : List α) : List α := row.take j ++ (cs ++ row.drop (j + cs.length))
def allF : List SV → Bool
  | [] => true
  | .f _ :: r => allF r
  | _ :: _ => false
def unF : List SV → List FV
  | [] => []
  | .f v :: r => v :: unF r
  | _ :: r => unF r
theorem allF_map : ∀ l, allF l = true → l = (unF l).map .f
  | [], _ => rfl
  | .f v :: r, h => by simp only [unF, List.map_cons]; rw [← allF_map r (by simpa [allF] using h)]
  | .ptr .. :: r, h | .slc .. :: r, h | .fn .. :: r, h | .agg .. :: r, h | .arr .. :: r, h | .tup .. :: r, h | .any :: r, h => by simp [allF] at h
def stAgg (blk : Blk) (l i j s : Nat) (v : SV) : OR :=
  match blk with
  | .lit row own => (match own with
    | true => (match i with
      | 0 => (match v with
        | .agg cs => if cs.length = s ∧ j + cs.length ≤ row.length then (match allKnown cs with | true => .upd True l (.lit (splice row j cs) true) | false => .bad) else .bad
        | _ => .bad)
      | _ => .bad)
    | false => .bad)
  | .rows n cap c f own => (match own with
    | true => (match j with
      | 0 => (match v with
        | .agg cs => if cs.length = s ∧ s = c then (match allF cs with | true => .upd (i < n) l (.rows n cap c (updW f i (unF cs)) true) | false => .bad) else .bad
        | _ => .bad)
      | _ => .bad)
    | false => .bad)
  | .cells n g own => (match own with
    | true => (match i with
      | 0 => (match v with
        | .arr m g2 => if m = s then .upd (j + m ≤ n) l (.cells n (if j = 0 ∧ m = n then g2 else updA g j m g2) true) else .bad
        | _ => .bad)
      | _ => .bad)
    | false => .bad)
  | .dead => .bad

section
variable {P : Program} {β : Nat → Loc} {w : World} {h : List Blk} {tab : Nat → Option TI} {n : Nat}
theorem cells_set (w : World) {b o : Nat} (vs : List Value) (hs : ∀ k, k < vs.length → (w.cell? ⟨b, o + k, none⟩).isSome = true) (o' : Nat) :
    (w.setCells b o vs).cell? ⟨b, o', none⟩ = if o ≤ o' ∧ o' < o + vs.length then vs[o' - o]? else w.cell? ⟨b, o', none⟩ := by
  by_cases e : o ≤ o' ∧ o' < o + vs.length
  · rw [if_pos e]
    have := World.cell?_setCells_in b vs o w hs (o' - o) (by omega)
    rw [show o + (o' - o) = o' from by omega] at this
    rw [this, List.getElem?_eq_getElem (by omega)]
  · rw [if_neg e, World.cell?_setCells_out b vs o w ⟨b, o', none⟩ (fun _ _ => by show o' < o ∨ o + vs.length ≤ o'; omega)]

/-- The cells of a value, as it lies in memory. -/
def cellsOf (β : Nat → Loc) (v : SV) : List Value := (den β v).cells.toList
theorem cellsOf_agg (β : Nat → Loc) (l : List SV) : cellsOf β (.agg l) = l.map (den β) := by simp [cellsOf, den, Value.cells, denL_map]
theorem cellsOf_arr (β : Nat → Loc) (n : Nat) (g : Nat → FV) : cellsOf β (.arr n g) = (List.range n).map fun i => (g i).val := by simp [cellsOf, den, Value.cells]
theorem cellsOf_one {β : Nat → Loc} {v : SV} (h : v.one = true) : cellsOf β v = [den β v] := by
  unfold cellsOf
  have := SV.one_den (β := β) h
  generalize den β v = u at *
  cases u <;> first | rfl | (simp [Value.oneCell'] at this; done)

theorem splice_get {α : Type} (row cs : List α) (j k : Nat) (hj : j + cs.length ≤ row.length) : (splice row j cs)[k]? = if j ≤ k ∧ k < j + cs.length then cs[k - j]? else row[k]? := by
  unfold splice
  rw [List.getElem?_append]
  have hl : (row.take j).length = j := by simp; omega
  rw [hl]
  by_cases c : k < j
  · rw [if_pos c, if_neg (by omega), List.getElem?_take, if_pos c]
  · rw [if_neg c, List.getElem?_append]
    by_cases d : k - j < cs.length
    · rw [if_pos d, if_pos (by omega)]
    · rw [if_neg d, if_neg (by omega), List.getElem?_drop]; congr 1; omega
theorem splice_length {α : Type} (row cs : List α) (j : Nat) (hj : j + cs.length ≤ row.length) : (splice row j cs).length = row.length := by
  unfold splice; simp; omega

theorem stAgg_ok (H : Holds w β h) {l i j s : Nat} {v : SV} {p : Prop} {l' : Nat} {blk : Blk} (ho : stAgg (hget h l) l i j s v = .upd p l' blk) (hp : p) (hv : v.bd h.length) :
    l' = l ∧ (cellsOf β v).length = s ∧ (∀ u ∈ cellsOf β v, u.oneCell' = true) ∧ (hget h l).own = true ∧ (∀ k, k < s → (hget h l).room i (j + k)) ∧ blk.own = true ∧ blk.bd h.length ∧ BlkOk (w.setCells (β l).b ((β l).lo + i * (β l).c + j) (cellsOf β v)) β (β l) blk := by
  have hb := H.bd l
  have hk := H.ok l
  generalize hget h l = B at *
  cases B with
  | lit row o =>
    simp only [stAgg] at ho
    split at ho
    · split at ho
      · split at ho
        · rename_i cs
          split at ho
          · rename_i hj
            split at ho
            · rename_i h1
              rw [allKnown_iff] at h1
              simp only [OR.upd.injEq] at ho; obtain ⟨rfl, rfl, rfl⟩ := ho
              have hce := cellsOf_agg β cs
              have hlen : (cellsOf β (.agg cs)).length = cs.length := by rw [hce]; simp
              have hrm : ∀ k, k < s → (Blk.lit row true).room 0 (j + k) := fun k hk => ⟨rfl, by omega⟩
              refine ⟨rfl, by omega, fun u hu => ?_, rfl, hrm, rfl, ?_, ?_⟩
              · rw [hce] at hu; obtain ⟨x, hx, rfl⟩ := List.mem_map.1 hu; exact SV.one_den (h1 x hx)
              · refine (bdL_iff _ _).2 fun u hu => ?_
                unfold splice at hu
                simp only [List.mem_append] at hu
                rcases hu with c | c | c
                · exact (bdL_iff _ _).1 hb u (List.mem_of_mem_take c)
                · exact (bdL_iff _ _).1 hv u c
                · exact (bdL_iff _ _).1 hb u (List.mem_of_mem_drop c)
              · have hs : ∀ k, k < (cellsOf β (.agg cs)).length → (w.cell? ⟨(β l).b, (β l).lo + 0 * (β l).c + j + k, none⟩).isSome = true := fun k hk2 => by
                  have := ((hk.wr rfl).2 0 (j + k) (hrm k (by omega))).1
                  rwa [← Nat.add_assoc] at this
                refine ⟨fun hl => by rw [size_setCells]; exact hk.there hl, trivial, fun i' j' u hu hkn => ?_, fun _ => ⟨(hk.wr rfl).1, fun i' j' hr => ?_⟩⟩
                · simp only [Blk.cell] at hu
                  split at hu
                  · rename_i e; subst e
                    rw [rget_eq, splice_get _ _ _ _ hj.2] at hu
                    rw [cells_set w _ hs, hlen]
                    split at hu
                    · rename_i c
                      rw [if_pos (by omega), hce, List.getElem?_map, show (β l).lo + 0 * (β l).c + j' - ((β l).lo + 0 * (β l).c + j) = j' - j from by omega, hu]
                      exact ⟨h1 u (List.mem_of_getElem? hu), rfl⟩
                    · rename_i c
                      rw [if_neg (by omega)]
                      exact hk.cell 0 j' u (by simp [Blk.cell, rget_eq, hu]) hkn
                  · cases hu
                · have hr' : (Blk.lit row true).room i' j' := ⟨hr.1, by have := hr.2; rw [splice_length _ _ _ hj.2] at this; exact this⟩
                  have := (hk.wr rfl).2 i' j' hr'
                  exact ⟨World.isSome_setCells _ _ _ _ _ this.1, by rw [World.frozen?_setCells]; exact this.2⟩
            · cases ho
          · cases ho
        · cases ho
      · cases ho
    · cases ho
  | rows m cap c f o =>
    simp only [stAgg] at ho
    split at ho
    · split at ho
      · split at ho
        · rename_i cs
          split at ho
          · rename_i hj
            split at ho
            · rename_i h1
              simp only [OR.upd.injEq] at ho; obtain ⟨rfl, rfl, rfl⟩ := ho
              have hfit := hk.fit
              have hce : cellsOf β (.agg cs) = (unF cs).map FV.val := by
                rw [cellsOf_agg, allF_map cs h1, List.map_map]
                have : unF (List.map SV.f (unF cs)) = unF cs := by rw [← allF_map cs h1]
                rw [this]; rfl
              have hul : (unF cs).length = cs.length := by have := congrArg List.length (allF_map cs h1); simpa using this.symm
              have hlen : (cellsOf β (.agg cs)).length = c := by rw [hce]; simp; omega
              have hrm : ∀ k, k < s → (Blk.rows m cap c f true).room i (0 + k) := fun k hk => ⟨Nat.lt_of_lt_of_le hp hfit.2.1, by omega⟩
              refine ⟨rfl, by omega, fun u hu => ?_, rfl, hrm, rfl, trivial, ?_⟩
              · rw [hce] at hu; obtain ⟨x, hx, rfl⟩ := List.mem_map.1 hu; exact FV.one x
              · have hs : ∀ k, k < (cellsOf β (.agg cs)).length → (w.cell? ⟨(β l).b, (β l).lo + i * (β l).c + 0 + k, none⟩).isSome = true := fun k hk2 => by
                  have := ((hk.wr rfl).2 i (0 + k) (hrm k (by omega))).1
                  rwa [← Nat.add_assoc] at this
                refine ⟨fun hl => by rw [size_setCells]; exact hk.there hl, ⟨hfit.1, hfit.2.1, fun k hkm => ?_⟩, fun i' j' u hu hkn => ?_, fun _ => ⟨(hk.wr rfl).1, fun i' j' hr => ?_⟩⟩
                · unfold updW; split
                  · omega
                  · exact hfit.2.2 k hkm
                · simp only [Blk.cell] at hu
                  split at hu
                  · rename_i him
                    obtain ⟨x, hx, rfl⟩ := Option.map_eq_some_iff.1 hu
                    rw [rget_eq] at hx
                    have hj' : j' < c := by
                      have := (List.getElem?_eq_some_iff.1 hx).1
                      unfold updW at this; split at this
                      · omega
                      · have := hfit.2.2 i' him; omega
                    rw [cells_set w _ hs, hlen, hfit.1.1]
                    by_cases e : i' = i
                    · subst e
                      unfold updW at hx; rw [if_pos rfl] at hx
                      rw [if_pos (by omega), hce, List.getElem?_map, show (β l).lo + i' * c + j' - ((β l).lo + i' * c + 0) = j' from by omega, hx]
                      exact ⟨rfl, rfl⟩
                    · unfold updW at hx; rw [if_neg e] at hx
                      have hne : ¬ ((β l).lo + i * c + 0 ≤ (β l).lo + i' * c + j' ∧ (β l).lo + i' * c + j' < (β l).lo + i * c + 0 + c) := by
                        rcases Nat.lt_or_gt_of_ne e with q | q
                        · have := Nat.mul_le_mul_right c q; rw [Nat.succ_mul] at this; omega
                        · have := Nat.mul_le_mul_right c q; rw [Nat.succ_mul] at this; omega
                      rw [if_neg hne, ← hfit.1.1]
                      exact hk.cell i' j' _ (by simp [Blk.cell, him, rget_eq, hx]) rfl
                  · cases hu
                · have := (hk.wr rfl).2 i' j' hr
                  exact ⟨World.isSome_setCells _ _ _ _ _ this.1, by rw [World.frozen?_setCells]; exact this.2⟩
            · cases ho
          · cases ho
        · cases ho
      · cases ho
    · cases ho
  | cells m g o =>
    simp only [stAgg] at ho
    split at ho
    · split at ho
      · split at ho
        · rename_i q g2
          split at ho
          · rename_i hq
            simp only [OR.upd.injEq] at ho; obtain ⟨rfl, rfl, rfl⟩ := ho
            have hce := cellsOf_arr β q g2
            have hlen : (cellsOf β (.arr q g2)).length = q := by rw [hce]; simp
            have hrm : ∀ k, k < s → (Blk.cells m g true).room 0 (j + k) := fun k hk => ⟨rfl, by omega⟩
            refine ⟨rfl, by omega, fun u hu => ?_, rfl, hrm, rfl, trivial, ?_⟩
            · rw [hce] at hu; obtain ⟨x, hx, rfl⟩ := List.mem_map.1 hu; exact FV.one _
            · have hs : ∀ k, k < (cellsOf β (.arr q g2)).length → (w.cell? ⟨(β l).b, (β l).lo + 0 * (β l).c + j + k, none⟩).isSome = true := fun k hk2 => by
                have := ((hk.wr rfl).2 0 (j + k) (hrm k (by omega))).1
                rwa [← Nat.add_assoc] at this
              refine ⟨fun hl => by rw [size_setCells]; exact hk.there hl, trivial, fun i' j' u hu hkn => ?_, fun _ => ⟨(hk.wr rfl).1, fun i' j' hr => ?_⟩⟩
              · simp only [Blk.cell] at hu
                split at hu
                · rename_i c; obtain ⟨rfl, hj'⟩ := c
                  cases hu
                  rw [cells_set w _ hs, hlen]
                  have hG : (if j = 0 ∧ q = m then g2 else updA g j q g2) j' = if j ≤ j' ∧ j' < j + q then g2 (j' - j) else g j' := by
                    split
                    · rename_i c; rw [if_pos (by omega), c.1]; simp
                    · rfl
                  rw [hG]
                  by_cases e : j ≤ j' ∧ j' < j + q
                  · rw [if_pos e, if_pos (by omega), hce, List.getElem?_map, show (β l).lo + 0 * (β l).c + j' - ((β l).lo + 0 * (β l).c + j) = j' - j from by omega, List.getElem?_range (by omega)]
                    exact ⟨rfl, rfl⟩
                  · rw [if_neg e, if_neg (by omega)]
                    exact hk.cell 0 j' _ (if_pos ⟨rfl, hj'⟩) rfl
                · cases hu
              · have := (hk.wr rfl).2 i' j' hr
                exact ⟨World.isSome_setCells _ _ _ _ _ this.1, by rw [World.frozen?_setCells]; exact this.2⟩
          · cases ho
        · cases ho
      · cases ho
    · cases ho
  | dead => cases ho

def stR (tab : Nat → Option TI) (h : List Blk) (t : Nat) (x v : SV) : OR :=
  match x with
  | .ptr l i j => (match tab t with
    | some ti => (match ti.k.agg with
      | true => stAgg (hget h l) l i j ti.size v
      | false => if ti.size = 1 then stOne (hget h l) l i j v else .bad)
    | none => .bad)
  | _ => .bad
theorem stR_ok (ht : TabOk P tab) (H : Holds w β h) {t : Nat} {x v : SV} {p : Prop} {l : Nat} {blk : Blk} (ho : stR tab h t x v = .upd p l blk) (hp : p) (hv : v.bd h.length) :
    (hget h l).own = true ∧ blk.own = true ∧ blk.bd h.length ∧ ∃ q vs, BlkOk (w.setCells (β l).b q vs) β (β l) blk ∧ (Instr.storeAt t (den β x) (den β v)).run P w = .ok () (w.setCells (β l).b q vs) := by
  unfold stR at ho
  split at ho
  · rename_i l0 i j
    split at ho
    · rename_i ti hti
      obtain ⟨d, qi, hu, _, hrow, hq, hsz, _⟩ := ht _ _ hti
      split at ho
      · rename_i ha
        obtain ⟨rfl, h1, h2, h3, h4, h5, h6, h7⟩ := stAgg_ok H ho hp hv
        refine ⟨h3, h5, h6, _, _, h7, ?_⟩
        have hw := ((H.ok l).wr h3).2
        have he : ∃ cells : Array Value, den β v = .agg cells ∧ cells.toList = cellsOf β v := by
          generalize hget h l = B at *
          unfold stAgg at ho
          cases v <;> first | exact ⟨_, rfl, rfl⟩ | (exfalso; repeat' (split at ho) <;> first | (cases ho; done) | skip)
        obtain ⟨cells, he, hc⟩ := he
        have hs : cells.size = ti.size := by rw [← h1, ← hc]; simp
        have := run_storeAt_mid (P := P) w (β l).b ((β l).lo + i * (β l).c + j) t cells (fun k hk => by
          have := hw i (j + k) (h4 k (by omega)); rw [← Nat.add_assoc] at this; exact this) (by rw [hq]; simp; omega) (Array.all_eq_true_iff_forall_mem.2 fun u hu => h2 u (by rw [← hc]; simpa using hu))
        rw [hc] at this
        rw [he]; exact this
      · split at ho
        · rename_i hsz1
          obtain ⟨rfl, h1, h3, h4, h5, h6, h7⟩ := stOne_ok H ho hp hv
          refine ⟨h3, h5, h6, _, _, h7, ?_⟩
          have hw := ((H.ok l).wr h3).2 i j h4
          have h1' := SV.one_den (β := β) h1
          have hcell : (den β v).cells = #[den β v] := by
            generalize den β v = u at *
            cases u <;> first | rfl | (simp [Value.oneCell'] at h1'; done)
          obtain ⟨u, hu⟩ := Option.isSome_iff_exists.1 hw.1
          have hadd : (⟨(β l).b, (β l).lo + i * (β l).c + j, none⟩ : Addr).add 0 = ⟨(β l).b, (β l).lo + i * (β l).c + j, none⟩ := by rw [Addr.add_mid]; rfl
          have hst : (store ⟨(β l).b, (β l).lo + i * (β l).c + j, none⟩ (den β v)).run P w = .ok () (w.setCell ⟨(β l).b, (β l).lo + i * (β l).c + j, none⟩ (den β v)) := by
            rw [run_store P w _ _ _ h1', hu]; simp [hw.2]
          have hs1 : qi.size = 1 := by omega
          simp [Instr.storeAt, den, Instr.sureAddr, storeVar, sizeOf, typeInfo, hq, hs1, hcell, storeCells, hadd, hst, World.setCells]
        · cases ho
    · cases ho
  · cases ho
end
end Go.Proofs.YtjhddlkfkicpaaaGreatDoor.Vx
