/- Abstract execution: abstract values and blocks, and what they stand for in a world. Over any program. -/
import Derived.Test.YtdncopphjamilaaReg
import Derived.Test.YtdncopphjamilaaFd
namespace Go.Proofs.Ytdncopphjamilaa.Vx
open Go Go.RowKit
set_option linter.unusedVariables false
set_option linter.unusedSimpArgs false

/-- Values of one cell that lead to no memory. -/
inductive FV where
  | int (k : IntKind) (n : Int)
  | bool (b : Bool)
  | flt (k : FloatKind) (b : Nat)
  | str (s : ByteArray)
  | nilp
  | nils
  | nilf

def FV.val : FV → Value
  | .int k n => .int k n
  | .bool b => .bool b
  | .flt k b => .float k b
  | .str s => .string s
  | .nilp => .pointer none
  | .nils => .slice none 0 0
  | .nilf => .nilFunc
theorem FV.one (v : FV) : v.val.oneCell' = true := by cases v <;> rfl

structure Loc where
  b : Nat
  lo : Nat
  c : Nat

inductive SV where
  | f (v : FV)
  | ptr (l i j : Nat)
  | slc (l i len cap : Nat)
  | fn (g : FuncId) (first caps : List SV)
  | agg (l : List SV)
  | arr (n : Nat) (g : Nat → FV)
  | tup (l : List SV)
  | any

mutual
def den (β : Nat → Loc) : SV → Value
  | .f v => v.val
  | .ptr l i j => .pointer (some ⟨(β l).b, (β l).lo + i * (β l).c + j, none⟩)
  | .slc l i n c => .slice (some ⟨(β l).b, (β l).lo + i * (β l).c, none⟩) n c
  | .fn g a b => .func (.func g) (denL β a).toArray (denL β b).toArray
  | .agg l => .agg (denL β l).toArray
  | .arr n g => .agg ((List.range n).map fun i => (g i).val).toArray
  | .tup l => .tuple (denL β l).toArray
  | .any => undef
def denL (β : Nat → Loc) : List SV → List Value
  | [] => []
  | v :: r => den β v :: denL β r
end
theorem denL_map (β : Nat → Loc) : ∀ l, denL β l = l.map (den β)
  | [] => rfl
  | v :: r => by rw [denL, denL_map β r]; rfl
theorem denL_append (β : Nat → Loc) (a b : List SV) : denL β (a ++ b) = denL β a ++ denL β b := by simp [denL_map]

mutual
/-- All labels are less than n. -/
def SV.bd (n : Nat) : SV → Prop
  | .ptr l _ _ => l < n
  | .slc l _ _ _ => l < n
  | .fn _ a b => bdL n a ∧ bdL n b
  | .agg l => bdL n l
  | .tup l => bdL n l
  | _ => True
def bdL (n : Nat) : List SV → Prop
  | [] => True
  | v :: r => v.bd n ∧ bdL n r
end
theorem bdL_iff (n : Nat) : ∀ l, bdL n l ↔ ∀ v ∈ l, v.bd n
  | [] => by simp [bdL]
  | v :: r => by simp [bdL, bdL_iff n r]

mutual
theorem den_congr {β β' : Nat → Loc} {n : Nat} (h : ∀ l, l < n → β l = β' l) : ∀ v : SV, v.bd n → den β v = den β' v
  | .f _, _ => rfl
  | .ptr l i j, hv => by simp only [den, h l hv]
  | .slc l i _ _, hv => by simp only [den, h l hv]
  | .fn _ a b, hv => by simp only [den, denL_congr h a hv.1, denL_congr h b hv.2]
  | .agg l, hv => by simp only [den, denL_congr h l hv]
  | .arr _ _, _ => rfl
  | .tup l, hv => by simp only [den, denL_congr h l hv]
  | .any, _ => rfl
theorem denL_congr {β β' : Nat → Loc} {n : Nat} (h : ∀ l, l < n → β l = β' l) : ∀ l : List SV, bdL n l → denL β l = denL β' l
  | [], _ => rfl
  | v :: r, hv => by simp only [denL, den_congr h v hv.1, denL_congr h r hv.2]
end
mutual
theorem SV.bd_mono {n m : Nat} (h : n ≤ m) : ∀ v : SV, v.bd n → v.bd m
  | .f _, _ => trivial
  | .ptr l i j, hv => Nat.lt_of_lt_of_le hv h
  | .slc l i _ _, hv => Nat.lt_of_lt_of_le hv h
  | .fn _ a b, hv => ⟨bdL_mono h a hv.1, bdL_mono h b hv.2⟩
  | .agg l, hv => bdL_mono h l hv
  | .arr _ _, _ => trivial
  | .tup l, hv => bdL_mono h l hv
  | .any, _ => trivial
theorem bdL_mono {n m : Nat} (h : n ≤ m) : ∀ l : List SV, bdL n l → bdL m l
  | [], _ => trivial
  | v :: r, hv => ⟨SV.bd_mono h v hv.1, bdL_mono h r hv.2⟩
end

mutual
/-- Labels named anew. -/
def SV.ren (r : Nat → Nat) : SV → SV
  | .ptr l i j => .ptr (r l) i j
  | .slc l i n c => .slc (r l) i n c
  | .fn g a b => .fn g (renL r a) (renL r b)
  | .agg l => .agg (renL r l)
  | .tup l => .tup (renL r l)
  | .f v => .f v
  | .arr n g => .arr n g
  | .any => .any
def renL (r : Nat → Nat) : List SV → List SV
  | [] => []
  | v :: l => v.ren r :: renL r l
end
mutual
theorem den_ren (β : Nat → Loc) (r : Nat → Nat) : ∀ v : SV, den β (v.ren r) = den (fun l => β (r l)) v
  | .f _ => rfl
  | .ptr l i j => rfl
  | .slc l i _ _ => rfl
  | .fn _ a b => by simp only [SV.ren, den, denL_ren β r a, denL_ren β r b]
  | .agg l => by simp only [SV.ren, den, denL_ren β r l]
  | .arr _ _ => rfl
  | .tup l => by simp only [SV.ren, den, denL_ren β r l]
  | .any => rfl
theorem denL_ren (β : Nat → Loc) (r : Nat → Nat) : ∀ l : List SV, denL β (renL r l) = denL (fun l => β (r l)) l
  | [] => rfl
  | v :: l => by simp only [renL, denL, den_ren β r v, denL_ren β r l]
end
mutual
theorem SV.bd_ren {n m : Nat} {r : Nat → Nat} (h : ∀ l, l < n → r l < m) : ∀ v : SV, v.bd n → (v.ren r).bd m
  | .f _, _ => trivial
  | .ptr l i j, hv => h l hv
  | .slc l i _ _, hv => h l hv
  | .fn _ a b, hv => ⟨bdL_ren h a hv.1, bdL_ren h b hv.2⟩
  | .agg l, hv => bdL_ren h l hv
  | .arr _ _, _ => trivial
  | .tup l, hv => bdL_ren h l hv
  | .any, _ => trivial
theorem bdL_ren {n m : Nat} {r : Nat → Nat} (h : ∀ l, l < n → r l < m) : ∀ l : List SV, bdL n l → bdL m (renL r l)
  | [], _ => trivial
  | v :: l, hv => ⟨SV.bd_ren h v hv.1, bdL_ren h l hv.2⟩
end
mutual
theorem SV.ren_ren {n : Nat} {r s : Nat → Nat} (h : ∀ l, l < n → s (r l) = l) : ∀ v : SV, v.bd n → (v.ren r).ren s = v
  | .f _, _ => rfl
  | .ptr l i j, hv => by simp only [SV.ren, h l hv]
  | .slc l i _ _, hv => by simp only [SV.ren, h l hv]
  | .fn _ a b, hv => by simp only [SV.ren, renL_renL h a hv.1, renL_renL h b hv.2]
  | .agg l, hv => by simp only [SV.ren, renL_renL h l hv]
  | .arr _ _, _ => rfl
  | .tup l, hv => by simp only [SV.ren, renL_renL h l hv]
  | .any, _ => rfl
theorem renL_renL {n : Nat} {r s : Nat → Nat} (h : ∀ l, l < n → s (r l) = l) : ∀ l : List SV, bdL n l → renL s (renL r l) = l
  | [], _ => rfl
  | v :: l, hv => by simp only [renL, SV.ren_ren h v hv.1, renL_renL h l hv.2]
end

/-- Of one cell? -/
def SV.one : SV → Bool
  | .agg _ | .arr _ _ | .tup _ | .any => false
  | _ => true
theorem SV.one_den {β : Nat → Loc} {v : SV} (h : v.one = true) : (den β v).oneCell' = true := by
  cases v <;> first | rfl | (simp [SV.one] at h; done) | exact FV.one _
def SV.known : SV → Bool
  | .any => false
  | _ => true
theorem SV.one_known {v : SV} (h : v.one = true) : v.known = true := by cases v <;> first | rfl | (simp [SV.one] at h; done)

/-! ### Blocks -/
inductive Blk where
  | lit (row : List SV) (own : Bool)
  | rows (n cap c : Nat) (f : Nat → List FV) (own : Bool)
  | cells (n : Nat) (g : Nat → FV) (own : Bool)
  | dead

def rget {α : Type} : List α → Nat → Option α
  | [], _ => none
  | v :: _, 0 => some v
  | _ :: r, n + 1 => rget r n
theorem rget_eq {α : Type} : ∀ (l : List α) (n : Nat), rget l n = l[n]?
  | [], _ => by simp [rget]
  | v :: _, 0 => by simp [rget]
  | _ :: r, n + 1 => by simp [rget, rget_eq r n]
def rset {α : Type} : List α → Nat → α → List α
  | [], _, _ => []
  | _ :: r, 0, u => u :: r
  | v :: r, n + 1, u => v :: rset r n u
theorem rset_eq {α : Type} : ∀ (l : List α) (n : Nat) (u : α), rset l n u = l.set n u
  | [], _, _ => by simp [rset]
  | v :: _, 0, _ => by simp [rset]
  | _ :: r, n + 1, u => by simp [rset, rset_eq r n]

/-- What is known of the cell j of row i. -/
def Blk.cell : Blk → Nat → Nat → Option SV
  | .lit row _, i, j => if i = 0 then rget row j else none
  | .rows n _ _ f _, i, j => if i < n then (rget (f i) j).map .f else none
  | .cells n g _, i, j => if i = 0 ∧ j < n then some (.f (g j)) else none
  | .dead, _, _ => none
/-- Is there such a cell? -/
def Blk.room : Blk → Nat → Nat → Prop
  | .lit row _, i, j => i = 0 ∧ j < row.length
  | .rows _ cap c _ _, i, j => i < cap ∧ j < c
  | .cells n _ _, i, j => i = 0 ∧ j < n
  | .dead, _, _ => False
def Blk.own : Blk → Bool
  | .lit _ o | .rows _ _ _ _ o | .cells _ _ o => o
  | .dead => false
def Blk.fit (c : Nat) : Blk → Prop
  | .rows n cap c' f _ => c = c' ∧ n ≤ cap ∧ ∀ i, i < n → (f i).length = c'
  | _ => True
def Blk.live : Blk → Prop
  | .dead => False
  | _ => True
def Blk.bd (n : Nat) : Blk → Prop
  | .lit row _ => bdL n row
  | _ => True

structure BlkOk (w : World) (β : Nat → Loc) (L : Loc) (blk : Blk) : Prop where
  there : blk.live → L.b < w.heap.size
  fit : blk.fit L.c
  cell : ∀ i j v, blk.cell i j = some v → v.known = true → v.one = true ∧ w.cell? ⟨L.b, L.lo + i * L.c + j, none⟩ = some (den β v)
  wr : blk.own = true → L.lo = 0 ∧ ∀ i j, blk.room i j → (w.cell? ⟨L.b, L.lo + i * L.c + j, none⟩).isSome = true ∧ w.frozen? ⟨L.b, L.lo + i * L.c + j, none⟩ = false

def hget : List Blk → Nat → Blk
  | [], _ => .dead
  | b :: _, 0 => b
  | _ :: r, n + 1 => hget r n
theorem hget_eq : ∀ (h : List Blk) (n : Nat), hget h n = (h[n]?).getD .dead
  | [], _ => by simp [hget]
  | _ :: _, 0 => by simp [hget]
  | _ :: r, n + 1 => by simp [hget, hget_eq r n]
def hset : List Blk → Nat → Blk → List Blk
  | [], _, _ => []
  | _ :: r, 0, u => u :: r
  | v :: r, n + 1, u => v :: hset r n u
theorem hset_length : ∀ (h : List Blk) (n : Nat) (b : Blk), (hset h n b).length = h.length
  | [], _, _ => rfl
  | _ :: _, 0, _ => rfl
  | _ :: r, n + 1, b => by simp [hset, hset_length r n b]
theorem hget_hset : ∀ (h : List Blk) (n m : Nat) (b : Blk), hget (hset h n b) m = if m = n ∧ n < h.length then b else hget h m
  | [], n, m, b => by simp [hset, hget]
  | x :: r, 0, 0, b => by simp [hset, hget]
  | x :: r, 0, m + 1, b => by simp [hset, hget]
  | x :: r, n + 1, 0, b => by simp [hset, hget]
  | x :: r, n + 1, m + 1, b => by simp [hset, hget, hget_hset r n m b]
theorem hget_append (h : List Blk) (b : Blk) (m : Nat) : hget (h ++ [b]) m = if m = h.length then b else hget h m := by
  rw [hget_eq, hget_eq]
  by_cases e : m = h.length
  · subst e; simp
  · rw [if_neg e]
    rcases Nat.lt_or_ge m h.length with c | c
    · rw [List.getElem?_append_left c]
    · rw [List.getElem?_eq_none (by simp; omega), List.getElem?_eq_none c]
theorem hget_out {h : List Blk} {m : Nat} (c : h.length ≤ m) : hget h m = .dead := by rw [hget_eq, List.getElem?_eq_none c]; rfl
theorem hget_lt {h : List Blk} {m : Nat} (c : (hget h m).live) : m < h.length := by
  rcases Nat.lt_or_ge m h.length with d | d
  · exact d
  · rw [hget_out d] at c; exact c.elim
theorem Blk.own_live {b : Blk} (h : b.own = true) : b.live := by cases b <;> first | trivial | (simp [Blk.own] at h; done)

structure Holds (w : World) (β : Nat → Loc) (h : List Blk) : Prop where
  ok : ∀ l, BlkOk w β (β l) (hget h l)
  inj : ∀ l m, (hget h l).live → (hget h m).live → l ≠ m → ((hget h l).own = true ∨ (hget h m).own = true) → (β l).b ≠ (β m).b
  bd : ∀ l, (hget h l).bd h.length

theorem BlkOk.ext {w w' : World} {β : Nat → Loc} {L : Loc} {blk : Blk} (h : BlkOk w β L blk) (x : Ext w w') : BlkOk w' β L blk := by
  refine ⟨fun hl => Nat.lt_of_lt_of_le (h.there hl) x.size, h.fit, fun i j v hv hk => ?_, fun ho => ⟨(h.wr ho).1, fun i j hr => ?_⟩⟩
  · have := h.cell i j v hv hk
    have hb := World.block_lt_of_cell? w _ this.2
    exact ⟨this.1, by rw [Below.cell x (p := ⟨L.b, L.lo + i * L.c + j, none⟩) hb]; exact this.2⟩
  · have hb := h.there (Blk.own_live ho)
    rw [Below.cell x (p := ⟨L.b, L.lo + i * L.c + j, none⟩) hb, Below.frozen x (p := ⟨L.b, L.lo + i * L.c + j, none⟩) hb]
    exact (h.wr ho).2 i j hr
theorem Holds.ext {w w' : World} {β : Nat → Loc} {h : List Blk} (H : Holds w β h) (x : Ext w w') : Holds w' β h :=
  ⟨fun l => (H.ok l).ext x, H.inj, H.bd⟩

/-- What has become of the world, the places and the blocks since a call began. -/
structure Since (w0 : World) (β0 : Nat → Loc) (h0 : List Blk) (w : World) (β : Nat → Loc) (h : List Blk) : Prop where
  os : w.os = w0.os
  tape : w.tape = w0.tape
  output : w.output = w0.output
  size : w0.heap.size ≤ w.heap.size
  len : h0.length ≤ h.length
  same : ∀ l, l < h0.length → β l = β0 l
  frame : ∀ b, b < w0.heap.size → (∀ l, (hget h0 l).own = true → (β0 l).b ≠ b) → w.heap[b]? = w0.heap[b]?
  liv : ∀ l, l < h0.length → (hget h l).live → (hget h0 l).live
  ownk : ∀ l, l < h0.length → (hget h l).own = true → (hget h0 l).own = true
  fresh : ∀ l, h0.length ≤ l → (hget h l).live → w0.heap.size ≤ (β l).b ∨ ∃ l0, (hget h0 l0).own = true ∧ (β0 l0).b = (β l).b

theorem Since.own {w0 : World} {β0 : Nat → Loc} {h0 : List Blk} {w : World} {β : Nat → Loc} {h : List Blk} (s : Since w0 β0 h0 w β h) (l : Nat) (hl : (hget h l).own = true) : w0.heap.size ≤ (β l).b ∨ ∃ l0, (hget h0 l0).own = true ∧ (β0 l0).b = (β l).b := by
  rcases Nat.lt_or_ge l h0.length with c | c
  · exact .inr ⟨l, s.ownk l c hl, by rw [s.same l c]⟩
  · exact s.fresh l c (Blk.own_live hl)

theorem Since.refl (w : World) (β : Nat → Loc) (h : List Blk) : Since w β h w β h :=
  ⟨rfl, rfl, rfl, Nat.le_refl _, Nat.le_refl _, fun _ _ => rfl, fun _ _ _ => rfl, fun _ _ h => h, fun _ _ h => h, fun l hl hv => by rw [hget_out hl] at hv; exact hv.elim⟩
theorem Since.ext {w0 : World} {β0 : Nat → Loc} {h0 : List Blk} {w w' : World} {β : Nat → Loc} {h : List Blk} (s : Since w0 β0 h0 w β h) (x : Ext w w') : Since w0 β0 h0 w' β h :=
  ⟨x.os.trans s.os, x.tape.trans s.tape, x.output.trans s.output, Nat.le_trans s.size x.size, s.len, s.same, fun b hb hn => (x.block b (Nat.lt_of_lt_of_le hb s.size)).trans (s.frame b hb hn), s.liv, s.ownk, s.fresh⟩

def bput (β : Nat → Loc) (n : Nat) (L : Loc) : Nat → Loc := fun l => if l = n then L else β l
theorem bput_lt {β : Nat → Loc} {n : Nat} {L : Loc} {l : Nat} (h : l < n) : bput β n L l = β l := by unfold bput; rw [if_neg (by omega)]
theorem bput_self {β : Nat → Loc} {n : Nat} {L : Loc} : bput β n L n = L := by simp [bput]

/-- Whatever of a block is known does not hang on places behind its bound. -/
theorem BlkOk.congr {w : World} {β β' : Nat → Loc} {L : Loc} {blk : Blk} {n : Nat} (h : BlkOk w β L blk) (hb : blk.bd n) (e : ∀ l, l < n → β l = β' l) : BlkOk w β' L blk := by
  refine ⟨h.there, h.fit, fun i j v hv hk => ?_, h.wr⟩
  have := h.cell i j v hv hk
  refine ⟨this.1, ?_⟩
  rw [this.2]
  congr 1
  refine den_congr e v ?_
  cases blk with
  | lit row o =>
    simp only [Blk.cell] at hv
    split at hv
    · rw [rget_eq] at hv; exact (bdL_iff n row).1 hb v (List.mem_of_getElem? hv)
    · cases hv
  | rows n' cap c f o =>
    simp only [Blk.cell] at hv
    split at hv
    · obtain ⟨u, _, rfl⟩ := Option.map_eq_some_iff.1 hv; trivial
    · cases hv
  | cells n' g o =>
    simp only [Blk.cell] at hv
    split at hv
    · cases hv; trivial
    · cases hv
  | dead => cases hv
theorem Blk.bd_mono {n m : Nat} (h : n ≤ m) {b : Blk} (hb : b.bd n) : b.bd m := by
  cases b <;> first | trivial | exact bdL_mono h _ hb

/-- A new block of one's own. -/
theorem Holds.new {w w' : World} {β : Nat → Loc} {h : List Blk} (H : Holds w β h) (x : Ext w w') {g : Nat} (hg : w.heap.size ≤ g) {L : Loc} (hL : L.b = g) {blk : Blk}
    (ok : BlkOk w' β L blk) (hb : blk.bd h.length) : Holds w' (bput β h.length L) (h ++ [blk]) := by
  have hc : ∀ l, l < h.length → β l = bput β h.length L l := fun l hl => (bput_lt hl).symm
  refine ⟨fun l => ?_, fun l m hl hm hne ho => ?_, fun l => ?_⟩
  · rw [hget_append]
    by_cases e : l = h.length
    · subst e; rw [if_pos rfl, bput_self]; exact ok.congr hb hc
    · rw [if_neg e]
      have := ((H.ok l).ext x).congr (H.bd l) hc
      unfold bput at this ⊢
      simp only [if_neg e]; exact this
  · rw [hget_append] at hl hm ho
    rw [hget_append] at ho
    by_cases e : l = h.length
    · by_cases e' : m = h.length
      · omega
      · rw [if_neg e'] at hm ho
        have hm' := hget_lt hm
        subst e
        rw [bput_self, bput_lt hm', hL]
        have := (H.ok m).there hm
        omega
    · rw [if_neg e] at hl ho
      have hl' := hget_lt hl
      by_cases e' : m = h.length
      · subst e'
        rw [bput_self, bput_lt hl', hL]
        have := (H.ok l).there hl
        omega
      · rw [if_neg e'] at hm ho
        rw [bput_lt hl', bput_lt (hget_lt hm)]
        exact H.inj l m hl hm hne ho
  · rw [hget_append, List.length_append]
    split
    · exact Blk.bd_mono (by simp) hb
    · exact Blk.bd_mono (by simp) (H.bd l)
theorem Since.new {w0 : World} {β0 : Nat → Loc} {h0 : List Blk} {w w' : World} {β : Nat → Loc} {h : List Blk} (s : Since w0 β0 h0 w β h) (x : Ext w w') {L : Loc} (hL : w.heap.size ≤ L.b) (blk : Blk) :
    Since w0 β0 h0 w' (bput β h.length L) (h ++ [blk]) := by
  have s' := s.ext x
  have hlen := s.len
  refine ⟨s'.os, s'.tape, s'.output, s'.size, by simp; omega, fun l hl => by rw [bput_lt (by omega)]; exact s.same l hl, s'.frame, fun l hl hv => ?_, fun l hl hv => ?_, fun l hl hv => ?_⟩
  · rw [hget_append, if_neg (by omega)] at hv; exact s.liv l hl hv
  · rw [hget_append, if_neg (by omega)] at hv; exact s.ownk l hl hv
  · rw [hget_append] at hv
    by_cases e : l = h.length
    · subst e; left; rw [bput_self]; have := s.size; omega
    · rw [if_neg e] at hv
      rw [bput_lt (hget_lt hv)]; exact s.fresh l hl hv
end Go.Proofs.Ytdncopphjamilaa.Vx
