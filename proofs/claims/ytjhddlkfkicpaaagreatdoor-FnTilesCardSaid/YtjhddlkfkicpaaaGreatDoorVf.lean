/- Abstract execution: new blocks, lengths, parts. Over any program. -/
import Derived.Test.YtjhddlkfkicpaaaGreatDoorVa
import Derived.Laws.MakeOwn
import Derived.ArgAppend
import Derived.Laws.IdiomStrings
import Derived.Laws.Tables
namespace Go.Proofs.YtjhddlkfkicpaaaGreatDoor.Vx
open Go Go.RowKit Fl
set_option linter.unusedVariables false
set_option linter.unusedSimpArgs false

def boxR (v : SV) : OR :=
  match v with
  | .agg cs => (match allKnown cs with | true => .new True (.lit cs true) (fun m => .ptr m 0 0) | false => .bad)
  | .arr n g => .new True (.cells n g true) (fun m => .ptr m 0 0)
  | .tup _ => .bad
  | .any => .bad
  | v => .new True (.lit [v] true) (fun m => .ptr m 0 0)
/-- A variable of so many cells: an array of single cells may be told as rows. -/
def allB (rw : Bool) (n : Nat) (v : FV) : Blk :=
  match rw with
  | true => .rows n n 1 (fun _ => [v]) true
  | false => .cells n (fun _ => v) true
def allocR (tab : Nat → Option TI) (t : Nat) : OR :=
  match tab t with
  | some ti => (match ti.z with
    | .row l => .new True (.lit (mapF l) true) (fun m => .ptr m 0 0)
    | .all v => .new True (allB ti.rw ti.size v) (fun m => .ptr m 0 0))
  | none => .bad

/-- A new block comes, and the value that is told. -/
def Makes (P : Program) (β : Nat → Loc) (n : Nat) (w : World) (s : Sem Value) (blk : Blk) (mk : Nat → SV) : Prop :=
  blk.bd n ∧ ∃ w' L, Ext w w' ∧ w.heap.size ≤ L.b ∧ BlkOk w' β L blk ∧ (mk n).bd (n + 1) ∧ s.run P w = .ok (den (bput β n L) (mk n)) w'

section
variable {P : Program} {β : Nat → Loc} {w : World} {h : List Blk} {tab : Nat → Option TI} {n : Nat}
theorem ext_alloc (w : World) (o : Obj) : Ext w (w.alloc o) := Below.alloc (Below.refl _ _) (Nat.le_refl _) o
theorem cell_new (w : World) (C : Array Value) (t : TypeId) (o : Nat) : (w.alloc (.cells C t)).cell? ⟨w.heap.size, o, none⟩ = C[o]? := World.cell?_alloc_new _ _ _ _
theorem lit_new (w : World) (row : List SV) (C : Array Value) (t : TypeId) (c : Nat) (h1 : ∀ v ∈ row, v.one = true) (hC : C.toList = row.map (den β)) : BlkOk (w.alloc (.cells C t)) β ⟨w.heap.size, 0, c, false⟩ (.lit row true) := by
  have hg : ∀ o, C[o]? = (row.map (den β))[o]? := fun o => by rw [← hC, Array.getElem?_toList]
  refine ⟨fun _ => by simp, trivial, fun i j v hv hk => ?_, fun _ => ⟨rfl, fun i j hr => ?_⟩⟩
  · simp only [Blk.cell] at hv
    split at hv
    · rename_i e; subst e
      rw [rget_eq] at hv
      refine ⟨h1 v (List.mem_of_getElem? hv), ?_⟩
      simp only [Nat.zero_mul, Nat.zero_add]
      rw [cell_new, hg, List.getElem?_map, hv]; rfl
    · cases hv
  · obtain ⟨rfl, hj⟩ := hr
    simp only [Nat.zero_mul, Nat.zero_add]
    rw [cell_new, hg, List.getElem?_map, List.getElem?_eq_getElem hj]
    simp
theorem cells_new (w : World) (m : Nat) (g : Nat → FV) (C : Array Value) (t : TypeId) (c : Nat) (hC : C.toList = (List.range m).map fun i => (g i).val) : BlkOk (w.alloc (.cells C t)) β ⟨w.heap.size, 0, c, false⟩ (.cells m g true) := by
  have hg : ∀ o, C[o]? = ((List.range m).map fun i => (g i).val)[o]? := fun o => by rw [← hC, Array.getElem?_toList]
  refine ⟨fun _ => by simp, trivial, fun i j v hv hk => ?_, fun _ => ⟨rfl, fun i j hr => ?_⟩⟩
  · simp only [Blk.cell] at hv
    split at hv
    · rename_i e; obtain ⟨rfl, hj⟩ := e
      cases hv
      refine ⟨rfl, ?_⟩
      simp only [Nat.zero_mul, Nat.zero_add]
      rw [cell_new, hg, List.getElem?_map, List.getElem?_range hj]; rfl
    · cases hv
  · obtain ⟨rfl, hj⟩ := hr
    simp only [Nat.zero_mul, Nat.zero_add]
    rw [cell_new, hg, List.getElem?_map, List.getElem?_range hj]
    simp
theorem boxR_ok {t : TypeId} {v : SV} {p : Prop} {blk : Blk} {mk : Nat → SV} (ho : boxR v = .new p blk mk) (hv : v.bd n) : Makes P β n w (Instr.box t (den β v)) blk mk := by
  have key : ∀ (C : Array Value), (Instr.box t (den β v)).run P w = .ok (.pointer (some ⟨w.heap.size, 0, none⟩)) (w.alloc (.cells (den β v).cells t)) := fun _ => by
    simp [Instr.box, newVar, newRow]
  have hone : v.one = true → boxR v = .new True (.lit [v] true) (fun m => .ptr m 0 0) := by
    intro h1; cases v <;> first | rfl | (simp [SV.one] at h1; done)
  by_cases h1 : v.one = true
  · rw [hone h1] at ho
    simp only [OR.new.injEq] at ho; obtain ⟨_, rfl, rfl⟩ := ho
    refine ⟨⟨hv, trivial⟩, _, ⟨w.heap.size, 0, 0, false⟩, ext_alloc w _, Nat.le_refl _, lit_new w [v] (den β v).cells t 0 (by simpa using h1) ?_, Nat.lt_succ_self n, ?_⟩
    · have := cellsOf_one (β := β) h1; unfold cellsOf at this; rw [this]; rfl
    · rw [key #[]]; simp [den, bput_self]
  · cases v with
    | agg cs =>
      simp only [boxR] at ho
      split at ho
      · rename_i hk
        rw [allKnown_iff] at hk
        simp only [OR.new.injEq] at ho; obtain ⟨_, rfl, rfl⟩ := ho
        refine ⟨hv, _, ⟨w.heap.size, 0, 0, false⟩, ext_alloc w _, Nat.le_refl _, lit_new w cs (den β (.agg cs)).cells t 0 hk (cellsOf_agg β cs), Nat.lt_succ_self n, ?_⟩
        rw [key #[]]; simp [den, bput_self]
      · cases ho
    | arr m g =>
      simp only [boxR, OR.new.injEq] at ho; obtain ⟨_, rfl, rfl⟩ := ho
      refine ⟨trivial, _, ⟨w.heap.size, 0, 0, false⟩, ext_alloc w _, Nat.le_refl _, cells_new w m g (den β (.arr m g)).cells t 0 (cellsOf_arr β m g), Nat.lt_succ_self n, ?_⟩
      rw [key #[]]; simp [den, bput_self]
    | tup l => cases ho
    | any => cases ho
    | _ => exact absurd rfl h1
theorem mapF_one (l : List FV) : ∀ v ∈ mapF l, v.one = true := fun v hv => by
  rw [mapF_eq] at hv; obtain ⟨u, _, rfl⟩ := List.mem_map.1 hv; rfl
theorem mapF_bd (l : List FV) (n : Nat) : bdL n (mapF l) := (bdL_iff _ _).2 fun v hv => by
  rw [mapF_eq] at hv; obtain ⟨u, _, rfl⟩ := List.mem_map.1 hv; trivial
theorem rows_new (w : World) (nn cap c : Nat) (f : Nat → List FV) (C : Array Value) (t : TypeId) (hn : nn ≤ cap) (hl : ∀ i, i < nn → (f i).length = c) (hs : C.size = cap * c)
    (hC : ∀ i j, i < nn → j < c → C[i * c + j]? = ((f i)[j]?).map FV.val) : BlkOk (w.alloc (.cells C t)) β ⟨w.heap.size, 0, c, false⟩ (.rows nn cap c f true) := by
  refine ⟨fun _ => by simp, ⟨⟨rfl, fun c => by cases c⟩, hn, hl⟩, fun i j v hv hk => ?_, fun _ => ⟨rfl, fun i j hr => ?_⟩⟩
  · simp only [Blk.cell] at hv
    split at hv
    · rename_i hi
      obtain ⟨u, hu, rfl⟩ := Option.map_eq_some_iff.1 hv
      rw [rget_eq] at hu
      have hj : j < c := by have := (List.getElem?_eq_some_iff.1 hu).1; have := hl i hi; omega
      refine ⟨rfl, ?_⟩
      simp only [Nat.zero_add]
      rw [cell_new, hC i j hi hj, hu]; rfl
    · cases hv
  · obtain ⟨hi, hj⟩ := hr
    simp only [Nat.zero_add]
    rw [cell_new]
    have : i * c + j < C.size := by rw [hs]; have := Nat.mul_le_mul_right c hi; rw [Nat.succ_mul] at this; omega
    rw [Array.getElem?_eq_getElem this]
    simp
theorem allocR_ok (ht : TabOk P tab) {t : Nat} {p : Prop} {blk : Blk} {mk : Nat → SV} (ho : allocR tab t = .new p blk mk) : Makes P β n w (Instr.alloc t true (.tuple #[])) blk mk := by
  unfold allocR at ho
  split at ho
  · rename_i ti hti
    obtain ⟨d, q, hu, _, hrow, hq, hsz, _, z, hz, hz2, hz3, _⟩ := ht _ _ hti
    have key : (Instr.alloc t true (.tuple #[])).run P w = .ok (.pointer (some ⟨w.heap.size, 0, none⟩)) (w.alloc (.cells z.cells t)) := by
      simp [Instr.alloc, zeroValue, typeInfo, hq, hz, newVar, newRow]
    split at ho
    · rename_i l hl
      simp only [OR.new.injEq] at ho; obtain ⟨_, rfl, rfl⟩ := ho
      rw [hl] at hz2
      refine ⟨mapF_bd l n, _, ⟨w.heap.size, 0, 0, false⟩, ext_alloc w _, Nat.le_refl _, lit_new w (mapF l) z.cells t 0 (mapF_one l) ?_, Nat.lt_succ_self n, ?_⟩
      · rw [hz2, mapF_eq, List.map_map]; rfl
      · rw [key]; simp [den, bput_self]
    · rename_i v hv
      simp only [OR.new.injEq] at ho; obtain ⟨_, rfl, rfl⟩ := ho
      rw [hv] at hz2
      have hrep : z.cells.toList = (List.range ti.size).map fun _ => v.val := by rw [hz2]; simp only [TZ.cells]; rw [List.map_const', List.length_range]
      cases hr : ti.rw with
      | false =>
        refine ⟨trivial, _, ⟨w.heap.size, 0, 0, false⟩, ext_alloc w _, Nat.le_refl _, cells_new w ti.size (fun _ => v) z.cells t 0 hrep, Nat.lt_succ_self n, ?_⟩
        rw [key]; simp [den, bput_self]
      | true =>
        refine ⟨trivial, _, ⟨w.heap.size, 0, 1, false⟩, ext_alloc w (.cells z.cells t), Nat.le_refl _, rows_new w ti.size ti.size 1 (fun _ => [v]) z.cells t (Nat.le_refl _) (fun _ _ => rfl) (by rw [hz3, Nat.mul_one]) (fun i j hi hj => ?_), Nat.lt_succ_self n, ?_⟩
        · have : j = 0 := by omega
          subst this
          rw [Nat.mul_one, Nat.add_zero, ← Array.getElem?_toList, hrep, List.getElem?_map, List.getElem?_range hi]; rfl
        · rw [key]; simp [den, bput_self]
  · cases ho

/-! ### Slices -/
def rowOf (s : Nat) (v : SV) : Option (List FV) :=
  match v with
  | .f u => if s = 1 then some [u] else none
  | .agg cs => (match allF cs with | true => if cs.length = s then some (unF cs) else none | false => none)
  | _ => none
def rowsOf (s : Nat) : Nat → List (Nat × SV) → Option (List (List FV))
  | _, [] => some []
  | k, (i, v) :: r => if i = k then (match rowOf s v with
    | some row => (match rowsOf s (k + 1) r with
      | some rs => some (row :: rs)
      | none => none)
    | none => none) else none
def nthR : List (List FV) → Nat → List FV
  | [], _ => []
  | r :: _, 0 => r
  | _ :: l, n + 1 => nthR l n
theorem nthR_eq : ∀ (l : List (List FV)) (n : Nat), nthR l n = l.getD n []
  | [], _ => by simp [nthR]
  | _ :: _, 0 => by simp [nthR]
  | _ :: l, n + 1 => by simp [nthR, nthR_eq l n]
def noRow : Nat → List FV := fun _ => []
def buildSR (tab : Nat → Option TI) (t len : Nat) (parts : List (Nat × SV)) : OR :=
  match tab t with
  | some ti => (match ti.k with
    | .slice e => (match tab e with
      | some te => (match parts with
        | [] => if len = 0 then .new True (.rows 0 0 te.size noRow true) (fun m => .slc m 0 0 0) else .bad
        | parts => if te.size = 0 then .bad else if len * te.size ≤ 16777216 then (match rowsOf te.size 0 parts with
          | some rs => if parts.length = len then .new True (.rows len len te.size (nthR rs) true) (fun m => .slc m 0 len len) else .bad
          | none => .bad) else .bad)
      | none => .bad)
    | _ => .bad)
  | none => .bad

theorem rowOf_cells {s : Nat} {v : SV} {row : List FV} (h : rowOf s v = some row) : row.length = s ∧ cellsOf β v = row.map FV.val := by
  unfold rowOf at h
  split at h
  · split at h
    · cases h; rename_i e; exact ⟨e.symm, by simp [cellsOf, den]; cases ‹FV› <;> rfl⟩
    · cases h
  · rename_i cs
    split at h
    · rename_i ha
      split at h
      · rename_i hl; cases h
        have := allF_map cs ha
        refine ⟨by have := congrArg List.length this; simp at this; omega, ?_⟩
        rw [cellsOf_agg]
        conv => lhs; rw [this]
        rw [List.map_map]; rfl
      · cases h
    · cases h
  · cases h

theorem fold_set : ∀ (cs : List Value) (k off : Nat) (A : Array Value) (q : Nat), off + k + cs.length ≤ A.size →
    ((cs.zipIdx k).foldl (fun a p => a.setIfInBounds (off + p.2) p.1) A).size = A.size ∧
    ((cs.zipIdx k).foldl (fun a p => a.setIfInBounds (off + p.2) p.1) A)[q]? = if off + k ≤ q ∧ q < off + k + cs.length then cs[q - (off + k)]? else A[q]?
  | [], k, off, A, q, h => by
    refine ⟨rfl, ?_⟩
    rw [if_neg (by simp)]; rfl
  | c :: cs, k, off, A, q, h => by
    simp only [List.length_cons] at h
    have ih := fold_set cs (k + 1) off (A.setIfInBounds (off + k) c) q (by rw [Array.size_setIfInBounds]; omega)
    simp only [List.zipIdx_cons, List.foldl_cons]
    refine ⟨by rw [ih.1]; simp, ?_⟩
    rw [ih.2]
    simp only [List.length_cons]
    by_cases e : q = off + k
    · subst e
      rw [if_neg (by omega), if_pos (by omega)]
      have : off + k < A.size := by omega
      simp [this]
    · by_cases e2 : off + (k + 1) ≤ q ∧ q < off + (k + 1) + cs.length
      · rw [if_pos e2, if_pos (by omega)]
        rw [show q - (off + k) = (q - (off + (k + 1))) + 1 from by omega, List.getElem?_cons_succ]
      · rw [if_neg e2, if_neg (by omega), Array.getElem?_setIfInBounds_ne (by omega)]
theorem fill_rows {s len : Nat} : ∀ (parts : List (Nat × SV)) (rs : List (List FV)) (k : Nat) (A : Array Value), rowsOf s k parts = some rs → A.size = len * s → k + parts.length = len →
    ∃ C, Instr.fill (fun i => some (i * s, s)) A (parts.map fun p => (p.1, den β p.2)) = some C ∧ C.size = A.size ∧ rs.length = parts.length ∧ (∀ r ∈ rs, r.length = s) ∧ ∀ i j, j < s → C[i * s + j]? = if k ≤ i ∧ i < len then ((rs.getD (i - k) [])[j]?).map FV.val else A[i * s + j]?
  | [], rs, k, A, h, hA, hl => by
    simp only [rowsOf, Option.some.injEq] at h; subst h
    simp only [List.length_nil, Nat.add_zero] at hl
    refine ⟨A, rfl, rfl, rfl, by simp, fun i j hj => ?_⟩
    rw [if_neg (by omega)]
  | (i0, v) :: r, rs, k, A, h, hA, hl => by
    simp only [rowsOf] at h
    split at h
    · rename_i e; subst e
      split at h
      · rename_i row hrow
        split at h
        · rename_i rs' hrs
          cases h
          obtain ⟨hlen, hc⟩ := rowOf_cells (β := β) hrow
          simp only [List.length_cons] at hl
          have hsz : (den β v).cells.size = s := by have := congrArg List.length hc; simp [cellsOf] at this; omega
          have hmul : i0 * s + s ≤ len * s := by have := Nat.mul_le_mul_right s (show i0 + 1 ≤ len by omega); rwa [Nat.succ_mul] at this
          have hfs := fun q => fold_set (den β v).cells.toList 0 (i0 * s) A q (by simp [hsz]; omega)
          have hfold : (den β v).cells.zipIdx.foldl (fun cs x => cs.setIfInBounds (i0 * s + x.2) x.1) A = ((den β v).cells.toList.zipIdx 0).foldl (fun a p => a.setIfInBounds (i0 * s + p.2) p.1) A := by
            rw [← Array.foldl_toList]; simp
          obtain ⟨C, hC, hCs, hrl, hra, hCg⟩ := fill_rows r rs' (i0 + 1) ((den β v).cells.zipIdx.foldl (fun cs x => cs.setIfInBounds (i0 * s + x.2) x.1) A) hrs (by rw [hfold, (hfs 0).1]; exact hA) (by omega)
          refine ⟨C, ?_, by rw [hCs, hfold, (hfs 0).1], by simp [hrl], ?_, fun i j hj => ?_⟩
          · simp only [List.map_cons, Instr.fill]
            rw [if_neg (by simp [hsz]; omega)]
            exact hC
          · intro r' hr'; rcases List.mem_cons.1 hr' with rfl | c
            · exact hlen
            · exact hra r' c
          · rw [hCg i j hj]
            by_cases c : i0 + 1 ≤ i ∧ i < len
            · rw [if_pos c, if_pos (by omega), show i - i0 = (i - (i0 + 1)) + 1 from by omega]
              simp
            · rw [if_neg c, hfold, (hfs _).2]
              by_cases c2 : i = i0
              · subst c2
                rw [if_pos (by simp [hsz]; omega), if_pos (by omega)]
                rw [show i * s + j - (i * s + 0) = j from by omega]
                simp only [Nat.sub_self, List.getD_cons_zero]
                have : (den β v).cells.toList = row.map FV.val := hc
                rw [this, List.getElem?_map]
              · have hne : ¬ (i0 * s + 0 ≤ i * s + j ∧ i * s + j < i0 * s + 0 + (den β v).cells.toList.length) := by
                  simp only [Array.length_toList, hsz]
                  rcases Nat.lt_or_gt_of_ne c2 with q | q
                  · have := Nat.mul_le_mul_right s q; rw [Nat.succ_mul] at this; omega
                  · have := Nat.mul_le_mul_right s q; rw [Nat.succ_mul] at this; omega
                rw [if_neg hne, if_neg (by omega)]
        · cases h
      · cases h
    · cases h
theorem buildSR_ok (ht : TabOk P tab) {t len : Nat} {parts : List (Nat × SV)} {p : Prop} {blk : Blk} {mk : Nat → SV} (ho : buildSR tab t len parts = .new p blk mk) :
    Makes P β n w (Instr.buildSlice t len (parts.map fun x => (x.1, den β x.2)).toArray) blk mk := by
  unfold buildSR at ho
  split at ho
  · rename_i ti hti
    obtain ⟨d, q, hu, hk, _⟩ := ht _ _ hti
    split at ho
    · rename_i e he
      rw [he] at hk; simp only [TK.ok] at hk; subst hk
      split at ho
      · rename_i te hte
        obtain ⟨d2, q2, hu2, _, _, hq2, hsz2, _, z, hz, hz2, hz3, _⟩ := ht _ _ hte
        split at ho
        · split at ho
          · rename_i hl; subst hl
            simp only [OR.new.injEq] at ho; obtain ⟨_, rfl, rfl⟩ := ho
            refine ⟨trivial, _, ⟨w.heap.size, 0, te.size, false⟩, ext_alloc w (.cells #[] e), Nat.le_refl _, rows_new w 0 0 te.size noRow #[] e (Nat.le_refl _) (by simp) (by simp) (by simp), Nat.lt_succ_self n, ?_⟩
            have h0 : (Array.map (fun i => (#[] : Array Value)[i % (#[] : Array Value).size]!) (Array.range 0)) = #[] := by simp [Array.range_zero']
            simp [Instr.buildSlice, run_underlying hu, sizeOf, typeInfo, hq2, Instr.fill, newRow, den, bput_self, Array.range_zero']
          · cases ho
        · rename_i hne
          split at ho
          · cases ho
          · rename_i hs0
            split at ho
            · rename_i hbig
              split at ho
              · rename_i rs hrs
                split at ho
                · rename_i hpl
                  simp only [OR.new.injEq] at ho; obtain ⟨_, rfl, rfl⟩ := ho
                  have hpos : 0 < parts.length := by
                    rcases Nat.eq_zero_or_pos parts.length with c | c
                    · exact absurd (List.length_eq_zero_iff.1 c) hne
                    · exact c
                  obtain ⟨C, hC, hCs, hrl, hra, hCg⟩ := fill_rows (β := β) (len := len) parts rs 0 ((Array.range (len * te.size)).map (z.cells[· % z.cells.size]!)) hrs (by simp) (by omega)
                  have hlr : ∀ i, i < len → (nthR rs i).length = te.size := fun i hi => by
                    rw [nthR_eq, List.getD_eq_getElem?_getD, List.getElem?_eq_getElem (by omega)]
                    exact hra _ (List.getElem_mem _)
                  refine ⟨trivial, _, ⟨w.heap.size, 0, te.size, false⟩, ext_alloc w (.cells C e), Nat.le_refl _, rows_new w len len te.size (nthR rs) C e (Nat.le_refl _) hlr (by rw [hCs]; simp) (fun i j hi hj => ?_), Nat.lt_succ_self n, ?_⟩
                  · rw [hCg i j hj, if_pos ⟨Nat.zero_le _, hi⟩, nthR_eq]; rfl
                  · have h24 : ¬ len * q2.size > 2 ^ 24 := by rw [hsz2]; simp; omega
                    have hn0 : ¬ (len * q2.size = 0) := by rw [hsz2]; intro c; rcases Nat.mul_eq_zero.1 c with c | c <;> omega
                    rw [← hsz2] at hC
                    simp only [Instr.buildSlice, Sem.run_bind, run_underlying hu, Result.andThen_ok, sizeOf, typeInfo, run_program, hq2, Sem.run_pure, if_neg h24, if_neg hn0, zeroValue, hz]
                    simp only [List.toList_toArray, hC, newRow, Sem.run_bind, run_newObj, Result.andThen_ok, Sem.run_pure, den, bput_self, Nat.zero_mul, Nat.add_zero]
                    rfl
                · cases ho
              · cases ho
            · cases ho
      · cases ho
    · cases ho
  · cases ho
end
end Go.Proofs.YtjhddlkfkicpaaaGreatDoor.Vx

namespace Go.Proofs.YtjhddlkfkicpaaaGreatDoor.Vx
open Go Go.RowKit Fl
set_option linter.unusedVariables false
set_option linter.unusedSimpArgs false

def zRow (s : Nat) (z : TZ) : List FV :=
  match z with
  | .row l => l
  | .all v => List.replicate s v
def constRow (r : List FV) : Nat → List FV := fun _ => r
def makeR (tab : Nat → Option TI) (t : Nat) (x y : SV) : OR :=
  match x with
  | .f (.int _ a) => (match y with
    | .f (.int _ b) => (match tab t with
      | some ti => (match ti.k with
        | .slice e => (match tab e with
          | some te => if te.bytes ≤ 1000 then .new (a = b ∧ 0 ≤ a ∧ a ≤ 1048576) (.rows a.toNat a.toNat te.size (constRow (zRow te.size te.z)) true) (fun m => .slc m 0 a.toNat a.toNat) else .bad
          | none => .bad)
        | _ => .bad)
      | none => .bad)
    | _ => .bad)
  | _ => .bad

def lenR (x : SV) : OR :=
  match x with
  | .slc _ _ n _ => .val True (.f (.int .i64 n))
  | .f .nils => .val True (.f (.int .i64 0))
  | .f (.str s) => .val True (.f (.int .i64 s.size))
  | _ => .bad
def capR (x : SV) : OR :=
  match x with
  | .slc _ _ _ c => .val True (.f (.int .i64 c))
  | .f .nils => .val True (.f (.int .i64 0))
  | _ => .bad
def mnI (a b : Int) : Int := if b < a then b else a
def mxI (a b : Int) : Int := if a < b then b else a
def fmn (a b : Nat) : Nat := if flt a b then a else if flt b a then b else if (FloatKind.f32.decode a).neg then a else b
def fmx (a b : Nat) : Nat := if flt b a then a else if flt a b then b else if (FloatKind.f32.decode a).neg then b else a
def minR (x y : SV) : OR :=
  match x with
  | .f (.int k a) => (match y with
    | .f (.int k' b) => if k = k' then .val True (.f (.int k (mnI a b))) else .bad
    | _ => .bad)
  | .f (.flt .f32 a) => (match y with
    | .f (.flt .f32 b) => .val (nn a ∧ nn b) (.f (.flt .f32 (fmn a b)))
    | _ => .bad)
  | _ => .bad
def maxR (x y : SV) : OR :=
  match x with
  | .f (.int k a) => (match y with
    | .f (.int k' b) => if k = k' then .val True (.f (.int k (mxI a b))) else .bad
    | _ => .bad)
  | .f (.flt .f32 a) => (match y with
    | .f (.flt .f32 b) => .val (nn a ∧ nn b) (.f (.flt .f32 (fmx a b)))
    | _ => .bad)
  | _ => .bad

def extrR (x : SV) (i : Nat) : OR :=
  match x with
  | .tup l => (match rget l i with
    | some v => (match v.known with | true => .val True v | false => .bad)
    | none => .bad)
  | _ => .bad
/-- The part from cell o on of a value, s cells, an aggregate or not. -/
def partR (agg : Bool) (s : Nat) (x : SV) (o : Nat) : OR :=
  match x with
  | .agg l => (match agg with
    | true => if o + s ≤ l.length then .val True (.agg (sub l o s)) else .bad
    | false => (match rget l o with
      | some v => (match v.known with | true => .val True v | false => .bad)
      | none => .bad))
  | .arr n g => (match agg with
    | true => .val (o + s ≤ n) (.arr s (shf g o))
    | false => .val (o < n) (.f (g o)))
  | _ => .bad
def fldR (tab : Nat → Option TI) (t : Nat) (x : SV) (f : Nat) : OR :=
  match tab t with
  | some ti => (match ti.k with
    | .struct fs => (match rget fs f with
      | some q => (match tab q.2 with
        | some tf => partR tf.k.agg tf.size x q.1
        | none => .bad)
      | none => .bad)
    | _ => .bad)
  | none => .bad
def btAt (s : ByteArray) (n : Nat) : Int := ((s.data[n]?).getD 0).toNat
def idxR (tab : Nat → Option TI) (t : Nat) (x ix : SV) : OR :=
  match ix with
  | .f (.int _ n) => (match tab t with
    | some ti => (match ti.k with
      | .arr m e => (match tab e with
        | some te => (match partR te.k.agg te.size x (n.toNat * te.size) with
          | .val p v => .val ((0 ≤ n ∧ n < m) ∧ p) v
          | _ => .bad)
        | none => .bad)
      | .str => (match x with
        | .f (.str s) => .val (0 ≤ n ∧ n < s.size) (.f (.int .u8 (btAt s n.toNat)))
        | _ => .bad)
      | _ => .bad)
    | none => .bad)
  | _ => .bad
def slRow (m lo i : Nat) : Nat := if m = lo then i else i + lo
/-- A bound of a slice: d if there is none. -/
def bnd (d : Nat) : Option SV → Option (Int)
  | none => some d
  | some (.f (.int _ n)) => some n
  | _ => none
/-- A part of a nil slice. -/
def slcN (lo hi mx : Option SV) : OR :=
  match lo with
  | none => (match bnd 0 mx with
    | some m => (match bnd 0 hi with
      | some b => .val ((0 ≤ b ∧ b ≤ m) ∧ m ≤ 0) (.f .nils)
      | none => .bad)
    | none => .bad)
  | _ => .bad
def slcR (tab : Nat → Option TI) (h : List Blk) (t : Nat) (x : SV) (lo hi mx : Option SV) : OR :=
  match tab t with
  | some ti => (match ti.k with
    | .slice e => (match tab e with
      | some te => (match x with
        | .slc l i len cap => (match hget h l with
          | .rows _ cb c _ own => if te.size = c then (match bnd cap mx with
            | some m => (match bnd len hi with
              | some b => (match lo with
                | none => .val (((0 ≤ b ∧ b ≤ m) ∧ m ≤ cap) ∧ NN cb own) (.slc l i b.toNat m.toNat)
                | some (.f (.int _ a)) => .val (((0 ≤ a ∧ a ≤ b) ∧ (b ≤ m ∧ m ≤ cap)) ∧ NN cb own) (.slc l (slRow m.toNat a.toNat i) (b.toNat - a.toNat) (m.toNat - a.toNat))
                | _ => .bad)
              | none => .bad)
            | none => .bad) else .bad
          | _ => .bad)
        | .f .nils => slcN lo hi mx
        | _ => .bad)
      | none => .bad)
    | _ => .bad)
  | none => .bad
/-- Texts that come of other texts, or of bytes. -/
inductive SO where
  | no
  | st (p : Prop) (s : ByteArray)
/-- A part of a text. -/
def strSl (tab : Nat → Option TI) (t : Nat) (x : SV) (lo hi : Option SV) : SO :=
  match x with
  | .f (.str s) => (match tab t with
    | some ti => (match ti.k with
      | .str => (match bnd 0 lo with
        | some a => (match bnd s.size hi with
          | some b => .st ((0 ≤ a ∧ a ≤ b) ∧ b ≤ s.size) (s.extract a.toNat b.toNat)
          | none => .no)
        | none => .no)
      | _ => .no)
    | none => .no)
  | _ => .no
/-- A part of an array that is told as rows. -/
def arrSl (tab : Nat → Option TI) (h : List Blk) (t : Nat) (x : SV) (lo hi : Option SV) : OR :=
  match x with
  | .ptr l i j => (match tab t with
    | some ti => (match ti.k with
      | .arr m e => (match tab e with
        | some te => (match hget h l with
          | .rows _ cb c _ own => (match c with
            | 1 => (match j with
              | 0 => if te.size = 1 then (match bnd 0 lo with
                | some a => (match bnd m hi with
                  | some b => .val (((0 ≤ a ∧ a ≤ b) ∧ b ≤ m) ∧ NN cb own) (.slc l (slRow m a.toNat i) (b.toNat - a.toNat) (m - a.toNat))
                  | none => .bad)
                | none => .bad) else .bad
              | _ => .bad)
            | _ => .bad)
          | _ => .bad)
        | none => .bad)
      | _ => .bad)
    | none => .bad)
  | _ => .bad
def byU (r : List FV) : UInt8 :=
  match r with
  | [.int .u8 x] => UInt8.ofNat x.toNat
  | _ => 0
/-- Rows that are bytes. -/
def BY (f : Nat → List FV) (i n : Nat) : Prop := ∀ k, k < n → ∃ x : Int, f (i + k) = [.int .u8 x] ∧ 0 ≤ x ∧ x ≤ 255
def bsOf (f : Nat → List FV) (i n : Nat) : ByteArray := ⟨((List.range n).map fun k => byU (f (i + k))).toArray⟩
/-- The text of some bytes. -/
def strC (tab : Nat → Option TI) (h : List Blk) (s d : Nat) (x : SV) : SO :=
  match x with
  | .slc l i n _ => (match tab d with
    | some di => (match di.k with
      | .str => (match tab s with
        | some si => (match si.k with
          | .slice e => (match tab e with
            | some ei => (match ei.k with
              | .int .u8 => (match hget h l with
                | .rows nb _ c f _ => (match c with
                  | 1 => .st (i + n ≤ nb ∧ BY f i n) (bsOf f i n)
                  | _ => .no)
                | _ => .no)
              | _ => .no)
            | none => .no)
          | _ => .no)
        | none => .no)
      | _ => .no)
    | none => .no)
  | _ => .no

section
variable {P : Program} {β : Nat → Loc} {w : World} {h : List Blk} {tab : Nat → Option TI} {n : Nat}
theorem made_get (z : Array Value) {s m q : Nat} (hz : z.size = s) (hq : q < m * s) : (madeCells z (m * s))[q]? = z[q % s]? := by
  have hs : 0 < s := by
    rcases Nat.eq_zero_or_pos s with c | c
    · subst c; simp at hq
    · exact c
  have hm : q % s < z.size := by rw [hz]; exact Nat.mod_lt _ hs
  unfold madeCells
  rw [Array.getElem?_map, Array.getElem?_range, if_pos hq]
  simp only [Option.map_some, hz]
  rw [getElem!_pos z (q % s) hm, Array.getElem?_eq_getElem hm]
theorem zRow_cells {s : Nat} {z : TZ} : z.cells s = (zRow s z).map FV.val := by
  cases z with
  | row l => rfl
  | all v => simp [zRow, TZ.cells]
theorem makeR_ok (ht : TabOk P tab) {t : Nat} {x y : SV} {p : Prop} {blk : Blk} {mk : Nat → SV} (ho : makeR tab t x y = .new p blk mk) (hp : p) : Makes P β n w (Instr.makeSlice t (den β x) (den β y)) blk mk := by
  unfold makeR at ho
  split at ho
  · rename_i k1 a
    split at ho
    · rename_i k2 b
      split at ho
      · rename_i ti hti
        obtain ⟨d, q, hu, hk, _⟩ := ht _ _ hti
        split at ho
        · rename_i e he
          rw [he] at hk; simp only [TK.ok] at hk; subst hk
          split at ho
          · rename_i te hte
            obtain ⟨d2, q2, hu2, _, _, hq2, hsz2, hby, z, hz, hz2, hz3, _⟩ := ht _ _ hte
            split at ho
            · rename_i hb1
              simp only [OR.new.injEq] at ho; obtain ⟨rfl, rfl, rfl⟩ := ho
              obtain ⟨rfl, h0, h1⟩ := hp
              have hbb : (q2.bytes : Int) * a ≤ 281474976710656 := by
                have : (q2.bytes : Int) * a ≤ 1000 * 1048576 := Int.mul_le_mul (by omega) h1 h0 (by omega)
                omega
              have hrun := run_make (P := P) w t e q2 z hu hq2 hz k1 k2 a a h0 (Int.le_refl _) hbb (by omega)
              have hzl : (zRow te.size te.z).length = te.size := by
                have := congrArg List.length (hz2.trans zRow_cells); simp at this; omega
              refine ⟨trivial, _, ⟨w.heap.size, 0, te.size, false⟩, ext_alloc w _, Nat.le_refl _, rows_new w a.toNat a.toNat te.size (constRow (zRow te.size te.z)) (madeCells z.cells (a.toNat * q2.size)) e (Nat.le_refl _) (fun i _ => hzl) (by rw [size_madeCells, hsz2]) (fun i j hi hj => ?_), Nat.lt_succ_self n, ?_⟩
              · have hlt : i * te.size + j < a.toNat * te.size := by have := Nat.mul_le_mul_right te.size hi; rw [Nat.succ_mul] at this; omega
                rw [hsz2, made_get z.cells hz3 hlt]
                have hmod : (i * te.size + j) % te.size = j := by rw [Nat.add_comm, Nat.add_mul_mod_self_right]; exact Nat.mod_eq_of_lt hj
                rw [hmod, ← Array.getElem?_toList, hz2.trans zRow_cells, List.getElem?_map]; rfl
              · simp only [den, FV.val]
                rw [hrun]; simp [bput_self]
            · cases ho
          · cases ho
        · cases ho
      · cases ho
    · cases ho
  · cases ho

theorem lenR_ok {t ty : TypeId} {d : TypeDesc} (hu : P.underlying t = some d) (hd : (∃ e, d = .slice e) ∨ d = .string) {x : SV} {p : Prop} {r : SV} (ho : lenR x = .val p r) (hs : d = .string → ∃ s, x = .f (.str s)) (hs2 : d ≠ .string → ∀ s, x ≠ .f (.str s)) :
    r.bd n ∧ (Builtin.len_ #[t] ty #[den β x]).run P w = .ok (den β r) w := by
  unfold lenR at ho
  split at ho <;> (try (cases ho; done)) <;> simp only [OR.val.injEq] at ho <;> (obtain ⟨rfl, rfl⟩ := ho) <;> refine ⟨trivial, ?_⟩
  · rcases hd with ⟨e, rfl⟩ | rfl
    · simp [Builtin.len_, run_underlying hu, den, FV.val, goInt]
    · obtain ⟨s, c⟩ := hs rfl; cases c
  · rcases hd with ⟨e, rfl⟩ | rfl
    · simp [Builtin.len_, run_underlying hu, den, FV.val, goInt]
    · obtain ⟨s, c⟩ := hs rfl; cases c
  · rcases hd with ⟨e, rfl⟩ | rfl
    · exact absurd rfl (hs2 (by simp) _)
    · simp [Builtin.len_, run_underlying hu, den, FV.val, goInt]
theorem order_flt (a b : Nat) (ha : nn a) (hb : nn b) : FloatKind.f32.format.order a b = some (if flt a b then .lt else if flt b a then .gt else .eq) := by
  show S.order a b = _
  rw [order_eq ha hb]
  congr 1
  rw [flt_iff ha hb, flt_iff hb ha]
  rcases Int.lt_trichotomy (key a) (key b) with c | c | c
  · rw [compare_lt c, if_pos (decide_eq_true c)]
  · rw [c]; simp [compare, compareOfLessAndEq]
  · rw [compare_gt c, if_neg (by simp; omega), if_pos (decide_eq_true c)]
theorem minR_ok {t1 : Array TypeId} {ty : TypeId} {x y : SV} {p : Prop} {r : SV} (ho : minR x y = .val p r) (hp : p) : r.bd n ∧ (Builtin.min_ t1 ty #[den β x, den β y]).run P w = .ok (den β r) w := by
  unfold minR at ho
  split at ho
  · split at ho
    · split at ho
      · rename_i e; subst e
        simp only [OR.val.injEq] at ho; obtain ⟨rfl, rfl⟩ := ho
        exact ⟨trivial, by simp [Builtin.min_, Builtin.min2, den, FV.val, mnI]⟩
      · cases ho
    · cases ho
  · rename_i a
    split at ho
    · rename_i b
      simp only [OR.val.injEq] at ho; obtain ⟨rfl, rfl⟩ := ho
      refine ⟨trivial, ?_⟩
      simp only [Builtin.min_, Builtin.min2, den, FV.val, List.foldlM_cons, List.foldlM_nil, order_flt a b hp.1 hp.2, fmn]
      cases flt a b <;> cases flt b a <;> simp
    · cases ho
  · cases ho
theorem maxR_ok {t1 : Array TypeId} {ty : TypeId} {x y : SV} {p : Prop} {r : SV} (ho : maxR x y = .val p r) (hp : p) : r.bd n ∧ (Builtin.max_ t1 ty #[den β x, den β y]).run P w = .ok (den β r) w := by
  unfold maxR at ho
  split at ho
  · split at ho
    · split at ho
      · rename_i e; subst e
        simp only [OR.val.injEq] at ho; obtain ⟨rfl, rfl⟩ := ho
        exact ⟨trivial, by simp [Builtin.max_, Builtin.max2, den, FV.val, mxI]⟩
      · cases ho
    · cases ho
  · rename_i a
    split at ho
    · rename_i b
      simp only [OR.val.injEq] at ho; obtain ⟨rfl, rfl⟩ := ho
      refine ⟨trivial, ?_⟩
      have h2 : flt a b = true → flt b a = false := fun h => by
        have := (flt_key h).2.2
        rw [flt_iff hp.2 hp.1]; exact decide_eq_false (by omega)
      simp only [Builtin.max_, Builtin.max2, den, FV.val, List.foldlM_cons, List.foldlM_nil, order_flt a b hp.1 hp.2, fmx]
      cases hf : flt a b <;> cases hg : flt b a <;> simp
      rw [h2 hf] at hg; cases hg
    · cases ho
  · cases ho
theorem extrR_ok {x : SV} {i : Nat} {p : Prop} {r : SV} (ho : extrR x i = .val p r) (hx : x.bd n) : r.bd n ∧ (Instr.extract (den β x) i).run P w = .ok (den β r) w := by
  unfold extrR at ho
  split at ho
  · rename_i l
    split at ho
    · rename_i v hv
      split at ho
      · simp only [OR.val.injEq] at ho; obtain ⟨rfl, rfl⟩ := ho
        rw [rget_eq] at hv
        refine ⟨(bdL_iff _ _).1 hx v (List.mem_of_getElem? hv), ?_⟩
        simp [Instr.extract, den, denL_map, hv]
      · cases ho
    · cases ho
  · cases ho

theorem partR_ok {agg : Bool} {t s o : Nat} {d : TypeDesc} {q : TypeInfo} (hu : P.underlying t = some d) (hd : d.isRow = agg) (hq : P.info? t = some q) (hsz : q.size = s) {x : SV} {p : Prop} {r : SV} (ho : partR agg s x o = .val p r) (hp : p) (hx : x.bd n) :
    r.bd n ∧ ∃ cs, den β x = .agg cs ∧ (part t cs o).run P w = .ok (den β r) w := by
  have hag : (isAgg t).run P w = .ok agg w := by
    unfold isAgg
    rw [Sem.run_bind, run_underlying hu w]
    cases d <;> simp_all [TypeDesc.isRow]
  unfold partR at ho
  split at ho
  · rename_i l
    have hx' : bdL n l := hx
    refine ⟨?_, _, rfl, ?_⟩
    · split at ho
      · split at ho
        · simp only [OR.val.injEq] at ho; obtain ⟨rfl, rfl⟩ := ho
          exact (bdL_iff _ _).2 fun v hv => (bdL_iff _ _).1 hx' v (List.mem_of_mem_drop (List.mem_of_mem_take hv))
        · cases ho
      · split at ho
        · rename_i v hv
          split at ho
          · simp only [OR.val.injEq] at ho; obtain ⟨rfl, rfl⟩ := ho
            rw [rget_eq] at hv; exact (bdL_iff _ _).1 hx' v (List.mem_of_getElem? hv)
          · cases ho
        · cases ho
    · split at ho
      · split at ho
        · rename_i hl
          simp only [OR.val.injEq] at ho; obtain ⟨rfl, rfl⟩ := ho
          simp only [part, Sem.run_bind, hag, Result.andThen_ok, if_true, sizeOf, typeInfo, run_program, hq, Sem.run_pure, hsz, den]
          congr 2
          apply Array.ext'
          simp [sub, denL_map, List.extract_eq_take_drop, List.map_take, List.map_drop]
        · cases ho
      · split at ho
        · rename_i v hv
          split at ho
          · simp only [OR.val.injEq] at ho; obtain ⟨rfl, rfl⟩ := ho
            rw [rget_eq] at hv
            simp [part, hag, denL_map, hv]
          · cases ho
        · cases ho
  · rename_i m g
    refine ⟨?_, _, rfl, ?_⟩
    · split at ho <;> (simp only [OR.val.injEq] at ho; obtain ⟨rfl, rfl⟩ := ho; trivial)
    · split at ho
      · simp only [OR.val.injEq] at ho; obtain ⟨rfl, rfl⟩ := ho
        simp only [part, Sem.run_bind, hag, Result.andThen_ok, if_true, sizeOf, typeInfo, run_program, hq, Sem.run_pure, hsz, den]
        congr 2
        apply Array.ext'
        apply List.ext_getElem?
        intro k
        simp only [List.extract_toArray, List.extract_eq_take_drop, List.getElem?_take, List.getElem?_drop, List.getElem?_map]
        by_cases c : k < s
        · rw [if_pos (by omega), List.getElem?_range (by omega), List.getElem?_range c]; rfl
        · rw [if_neg (by omega), List.getElem?_eq_none (by simp; omega)]; rfl
      · simp only [OR.val.injEq] at ho; obtain ⟨rfl, rfl⟩ := ho
        have : ((List.range m).map fun i => (g i).val)[o]? = some (g o).val := by rw [List.getElem?_map, List.getElem?_range hp]; rfl
        simp [part, hag, den, hp]
  · cases ho
theorem fldR_ok (ht : TabOk P tab) {t f : Nat} {x : SV} {p : Prop} {r : SV} (ho : fldR tab t x f = .val p r) (hp : p) (hx : x.bd n) : r.bd n ∧ (Instr.field t (den β x) f).run P w = .ok (den β r) w := by
  unfold fldR at ho
  split at ho
  · rename_i ti hti
    obtain ⟨d, q, hu, hk, _⟩ := ht _ _ hti
    split at ho
    · rename_i fs hfs
      rw [hfs] at hk
      obtain ⟨F, rfl, hF⟩ := hk
      split at ho
      · rename_i qf hqf
        split at ho
        · rename_i tf htf
          obtain ⟨d2, qi, hu2, _, hrow, hqi, hsz, _⟩ := ht _ _ htf
          rw [rget_eq, ← hF, List.getElem?_map] at hqf
          obtain ⟨fd, hfd, rfl⟩ := Option.map_eq_some_iff.1 hqf
          have hfd' : F[f]? = some fd := by simpa using hfd
          obtain ⟨hb, cs, hcs, hrun⟩ := partR_ok (β := β) (w := w) hu2 hrow hqi hsz ho hp hx
          refine ⟨hb, ?_⟩
          simp [Instr.field, run_underlying hu, hfd', hcs, asAgg, hrun]
        · cases ho
      · cases ho
    · cases ho
  · cases ho
theorem idxR_ok (ht : TabOk P tab) {t : Nat} {x ix : SV} {p : Prop} {r : SV} (ho : idxR tab t x ix = .val p r) (hp : p) (hx : x.bd n) : r.bd n ∧ (Instr.index t (den β x) (den β ix)).run P w = .ok (den β r) w := by
  unfold idxR at ho
  split at ho
  · rename_i k m
    split at ho
    · rename_i ti hti
      obtain ⟨d, q, hu, hk, _⟩ := ht _ _ hti
      split at ho
      · rename_i len e he
        rw [he] at hk; simp only [TK.ok] at hk; subst hk
        split at ho
        · rename_i te hte
          obtain ⟨d2, qi, hu2, _, hrow, hqi, hsz, _⟩ := ht _ _ hte
          split at ho
          · rename_i p' v hpart
            simp only [OR.val.injEq] at ho; obtain ⟨rfl, rfl⟩ := ho
            obtain ⟨hb, cs, hcs, hrun⟩ := partR_ok (β := β) (w := w) hu2 hrow hqi hsz hpart hp.2 hx
            refine ⟨hb, ?_⟩
            simp [Instr.index, asIntOf, run_underlying hu, hcs, den, FV.val, hp.1.1, hp.1.2, sizeOf, typeInfo, hqi, hsz, hrun]
          · cases ho
        · cases ho
      · rename_i he
        rw [he] at hk; simp only [TK.ok] at hk; subst hk
        split at ho
        · rename_i s
          simp only [OR.val.injEq] at ho; obtain ⟨rfl, rfl⟩ := ho
          refine ⟨trivial, ?_⟩
          have hlt : m.toNat < s.size := by omega
          have hg : s[m.toNat]? = some s[m.toNat] := getElem?_pos s m.toNat hlt
          have hb : btAt s m.toNat = (s[m.toNat].toNat : Int) := by
            unfold btAt
            rw [Array.getElem?_eq_getElem (show m.toNat < s.data.size from hlt)]; rfl
          simp [Instr.index, asIntOf, run_underlying hu, den, FV.val, hp.1, hg, hb]
        · cases ho
      · cases ho
    · cases ho
  · cases ho
theorem sliceBound_ok (k : IntKind) (n : Int) (y : Nat) (code : BoundsCode) (w : World) (h0 : 0 ≤ n) (h1 : n ≤ y) : (Instr.sliceBound (.int k n) y code).run P w = .ok n.toNat w := by
  simp [Instr.sliceBound, asIntOf, h0, h1]
theorem bnd_cases {d : Nat} {o : Option SV} {b : Int} (h : bnd d o = some b) : (o = none ∧ b = d) ∨ ∃ k, o = some (.f (.int k b)) := by
  unfold bnd at h
  split at h
  · simp only [Option.some.injEq] at h; exact .inl ⟨rfl, h.symm⟩
  · simp only [Option.some.injEq] at h; subst h; exact .inr ⟨_, rfl⟩
  · cases h
theorem slcN_ok {t e : Nat} {te : Nat} {qi : TypeInfo} (hu : P.underlying t = some (.slice e)) (hqi : P.info? e = some qi) {lo hi mx : Option SV} {p : Prop} {r : SV} (ho : slcN lo hi mx = .val p r) (hp : p) (hm : mx.isSome = true → hi.isSome = true) :
    r.bd n ∧ (Instr.sliceAt t (den β (.f .nils)) (lo.map (den β)) (hi.map (den β)) (mx.map (den β))).run P w = .ok (den β r) w := by
  unfold slcN at ho
  split at ho
  · split at ho
    · rename_i m hbm
      split at ho
      · rename_i b hbb
        simp only [OR.val.injEq] at ho
        obtain ⟨rfl, rfl⟩ := ho
        refine ⟨trivial, ?_⟩
        have hm0 : m = 0 := by omega
        have hb0 : b = 0 := by omega
        subst hm0 hb0
        have hbn : (Instr.sliceBounds true 0 0 none (hi.map (den β)) (mx.map (den β))).run P w = .ok (0, 0, 0) w := by
          unfold Instr.sliceBounds
          rcases bnd_cases hbm with ⟨e1, e2⟩ | ⟨k1, e1⟩ <;> rcases bnd_cases hbb with ⟨e3, e4⟩ | ⟨k2, e3⟩ <;> subst e1 <;> subst e3 <;> (try simp at hm)
          · simp
          · have hsb := fun code => sliceBound_ok (P := P) k2 0 0 code w (by omega) (by omega)
            simp [den, FV.val, hsb]
          · have hsm := fun code => sliceBound_ok (P := P) k1 0 0 code w (by omega) (by omega)
            have hsb := fun code => sliceBound_ok (P := P) k2 0 0 code w (by omega) (by omega)
            simp [den, FV.val, hsb, hsm]
        have h2 : (Instr.slice t (.slice none 0 0) none (hi.map (den β)) (mx.map (den β))).run P w = .ok (.slice none 0 0) w := by
          unfold Instr.slice
          simp only [Sem.run_bind, run_underlying hu, Result.andThen_ok, hbn, sizeOf, typeInfo]
          simp [hqi]
        unfold Instr.sliceAt
        simp only [Sem.run_bind, run_underlying hu, Result.andThen_ok]
        exact h2
      · cases ho
    · cases ho
  · cases ho
theorem slcR_ok (ht : TabOk P tab) (H : Holds w β h) {t : Nat} {x : SV} {lo hi mx : Option SV} {p : Prop} {r : SV} (ho : slcR tab h t x lo hi mx = .val p r) (hp : p) (hx : x.bd n) (hm : mx.isSome = true → hi.isSome = true) :
    r.bd n ∧ (Instr.sliceAt t (den β x) (lo.map (den β)) (hi.map (den β)) (mx.map (den β))).run P w = .ok (den β r) w := by
  unfold slcR at ho
  split at ho
  · rename_i ti hti
    obtain ⟨d, q, hu, hk, _⟩ := ht _ _ hti
    split at ho
    · rename_i e he
      rw [he] at hk; simp only [TK.ok] at hk; subst hk
      split at ho
      · rename_i te hte
        obtain ⟨_, qi, _, _, _, hqi, hsz, _⟩ := ht _ _ hte
        split at ho
        · rename_i l i len cap
          split at ho
          · rename_i nb cb c f o hblk
            split at ho
            · rename_i hc
              have hL : (β l).c = c := by have := (H.ok l).fit; rw [hblk] at this; exact this.1.1
              have hnn : NN cb o → (β l).nl = false := by have := (H.ok l).fit; rw [hblk] at this; exact this.1.nn
              have hs2 : qi.size = (β l).c := by omega
              have hadd : ∀ (b o k : Nat), (⟨b, o, none⟩ : Addr).add k = ⟨b, o + k, none⟩ := fun b o k => Addr.add_mid b o k
              split at ho
              · rename_i m hbm
                split at ho
                · rename_i b hbb
                  have key : ∀ (lov : Option Value) (a : Nat) (_ : ∀ code, (match lov with | some v => Instr.sliceBound v b.toNat code | none => pure 0).run P w = .ok a w) (_ : 0 ≤ b ∧ b ≤ m) (_ : m ≤ cap) (_ : (β l).nl = false), (Instr.sliceAt t (den β (.slc l i len cap)) lov (hi.map (den β)) (mx.map (den β))).run P w = .ok (.slice (some ⟨(β l).b, (β l).lo + (if m.toNat = a then i else i + a) * (β l).c, none⟩) (b.toNat - a) (m.toNat - a)) w := by
                    intro lov a hlo hb1 hm1 hnl
                    have hr : ∀ a : Nat, (if m.toNat = a then (some ⟨(β l).b, (β l).lo + i * (β l).c, none⟩ : Option Addr) else (some (⟨(β l).b, (β l).lo + i * (β l).c, none⟩ : Addr)).map (·.add (a * qi.size))) = some ⟨(β l).b, (β l).lo + (if m.toNat = a then i else i + a) * (β l).c, none⟩ := by
                      intro a
                      split
                      · rfl
                      · simp only [Option.map_some, hadd, hs2, Nat.add_mul, Nat.add_assoc]
                    have hbn : (Instr.sliceBounds true len cap lov (hi.map (den β)) (mx.map (den β))).run P w = .ok (a, b.toNat, m.toNat) w := by
                      unfold Instr.sliceBounds
                      rcases bnd_cases hbm with ⟨e1, e2⟩ | ⟨k1, e1⟩ <;> rcases bnd_cases hbb with ⟨e3, e4⟩ | ⟨k2, e3⟩ <;> subst e1 <;> subst e3 <;> (try simp at hm)
                      · subst e2 e4
                        simp only [Int.toNat_natCast] at hlo ⊢
                        cases lov with
                        | none => have := hlo .sliceB; simp at this ⊢; exact this
                        | some v => have := hlo .sliceB; simp at this ⊢; simp [this]
                      · subst e2
                        have hsb := fun code => sliceBound_ok (P := P) k2 b cap code w hb1.1 (by omega)
                        cases lov with
                        | none => have := hlo .sliceB; simp at this; simp [den, FV.val, hsb, this]
                        | some v => have := hlo .sliceB; simp at this; simp [den, FV.val, hsb, this]
                      · have hsm := fun code => sliceBound_ok (P := P) k1 m cap code w (by omega) (by omega)
                        have hsb := fun code => sliceBound_ok (P := P) k2 b m.toNat code w hb1.1 (by omega)
                        cases lov with
                        | none => have := hlo .slice3C; simp at this; simp [den, FV.val, hsb, hsm, this]
                        | some v => have := hlo .slice3C; simp at this; simp [den, FV.val, hsb, hsm, this]
                    have h2 : (Instr.slice t (den β (.slc l i len cap)) lov (hi.map (den β)) (mx.map (den β))).run P w = .ok (.slice (some ⟨(β l).b, (β l).lo + (if m.toNat = a then i else i + a) * (β l).c, none⟩) (b.toNat - a) (m.toNat - a)) w := by
                      unfold Instr.slice
                      simp only [Sem.run_bind, run_underlying hu, Result.andThen_ok, den_slc hnl]
                      rw [show Instr.sliceBounds true len cap lov (hi.map (den β)) (mx.map (den β)) = Instr.sliceBounds true len cap lov (hi.map (den β)) (mx.map (den β)) from rfl]
                      simp only [Sem.run_bind, hbn, Result.andThen_ok, sizeOf, typeInfo]
                      have := hr a
                      rw [Option.map_some] at this
                      simp [hqi]
                      exact this
                    unfold Instr.sliceAt
                    simp only [Sem.run_bind, run_underlying hu, Result.andThen_ok]
                    exact h2
                  split at ho
                  · simp only [OR.val.injEq] at ho; obtain ⟨rfl, rfl⟩ := ho
                    refine ⟨hx, ?_⟩
                    have := key none 0 (fun code => rfl) hp.1.1 hp.1.2 (hnn hp.2)
                    rw [Option.map_none, this, den_slc (hnn hp.2)]
                    simp
                  · rename_i k2 a2
                    simp only [OR.val.injEq] at ho; obtain ⟨rfl, rfl⟩ := ho
                    refine ⟨hx, ?_⟩
                    have := key (some (.int k2 a2)) a2.toNat (fun code => sliceBound_ok (P := P) k2 a2 b.toNat code w hp.1.1.1 (by have := hp.1.1; omega)) ⟨by have := hp.1; omega, hp.1.2.1⟩ hp.1.2.2 (hnn hp.2)
                    rw [Option.map_some]
                    show (Instr.sliceAt t (den β (.slc l i len cap)) (some (.int k2 a2)) _ _).run P w = _
                    rw [this, den_slc (hnn hp.2)]
                    simp [slRow]
                  · cases ho
                · cases ho
              · cases ho
            · cases ho
          · cases ho
        · exact slcN_ok (te := 0) hu hqi ho hp hm
        · cases ho
      · cases ho
    · cases ho
  · cases ho
theorem strSl_ok (ht : TabOk P tab) {t : Nat} {x : SV} {lo hi : Option SV} {p : Prop} {r : ByteArray} (ho : strSl tab t x lo hi = .st p r) (hp : p) :
    (∃ s, x = .f (.str s)) ∧ (∀ y, lo = some y → ∃ k a, y = .f (.int k a)) ∧ (∀ y, hi = some y → ∃ k a, y = .f (.int k a)) ∧ (Instr.sliceAt t (den β x) (lo.map (den β)) (hi.map (den β)) none).run P w = .ok (.string r) w := by
  unfold strSl at ho
  split at ho
  · rename_i s
    split at ho
    · rename_i ti hti
      obtain ⟨d, q, hu, hk, _⟩ := ht _ _ hti
      split at ho
      · rename_i he
        rw [he] at hk; simp only [TK.ok] at hk; subst hk
        split at ho
        · rename_i a hba
          split at ho
          · rename_i b hbb
            simp only [SO.st.injEq] at ho; obtain ⟨rfl, rfl⟩ := ho
            obtain ⟨⟨p1, p2⟩, p3⟩ := hp
            refine ⟨⟨s, rfl⟩, ?_, ?_, ?_⟩
            · rcases bnd_cases hba with ⟨rfl, _⟩ | ⟨k, rfl⟩
              · intro y hy; cases hy
              · intro y hy; cases hy; exact ⟨_, _, rfl⟩
            · rcases bnd_cases hbb with ⟨rfl, _⟩ | ⟨k, rfl⟩
              · intro y hy; cases hy
              · intro y hy; cases hy; exact ⟨_, _, rfl⟩
            · have hs : (Instr.sliceBounds false s.size s.size (lo.map (den β)) (hi.map (den β)) none).run P w = .ok (a.toNat, b.toNat, s.size) w := by
                unfold Instr.sliceBounds
                rcases bnd_cases hba with ⟨rfl, e2⟩ | ⟨k1, rfl⟩ <;> rcases bnd_cases hbb with ⟨rfl, e4⟩ | ⟨k2, rfl⟩
                · subst e2 e4; simp
                · subst e2
                  have hsb := fun code => sliceBound_ok (P := P) k2 b s.size code w (by omega) (by omega)
                  simp [den, FV.val, hsb]
                · subst e4
                  have hsb := fun code => sliceBound_ok (P := P) k1 a s.size code w (by omega) (by omega)
                  simp [den, FV.val, hsb]
                · have hsa := fun code => sliceBound_ok (P := P) k1 a b.toNat code w (by omega) (by omega)
                  have hsb := fun code => sliceBound_ok (P := P) k2 b s.size code w (by omega) (by omega)
                  simp [den, FV.val, hsa, hsb]
              unfold Instr.sliceAt Instr.slice
              simp only [Sem.run_bind, run_underlying hu, Result.andThen_ok, den, FV.val]
              simp [hs]
          · cases ho
        · cases ho
      · cases ho
    · cases ho
  · cases ho
theorem arrSl_ok (ht : TabOk P tab) (H : Holds w β h) {t : Nat} {x : SV} {lo hi : Option SV} {p : Prop} {r : SV} (ho : arrSl tab h t x lo hi = .val p r) (hp : p) (hx : x.bd n) :
    x.known = true ∧ (∀ y, lo = some y → ∃ k a, y = .f (.int k a)) ∧ (∀ y, hi = some y → ∃ k a, y = .f (.int k a)) ∧ r.bd n ∧ (Instr.sliceAt t (den β x) (lo.map (den β)) (hi.map (den β)) none).run P w = .ok (den β r) w := by
  unfold arrSl at ho
  split at ho
  · rename_i l i j
    split at ho
    · rename_i ti hti
      obtain ⟨d, q, hu, hk, _⟩ := ht _ _ hti
      split at ho
      · rename_i m e he
        rw [he] at hk; simp only [TK.ok] at hk; subst hk
        split at ho
        · rename_i te hte
          obtain ⟨_, qi, _, _, _, hqi, hsz, _⟩ := ht _ _ hte
          split at ho
          · rename_i nb cb c f o hblk
            split at ho
            · split at ho
              · split at ho
                · rename_i hs1
                  split at ho
                  · rename_i a hba
                    split at ho
                    · rename_i b hbb
                      simp only [OR.val.injEq] at ho; obtain ⟨rfl, rfl⟩ := ho
                      obtain ⟨⟨⟨p1, p2⟩, p3⟩, p4⟩ := hp
                      have hL : (β l).c = 1 := by have := (H.ok l).fit; rw [hblk] at this; exact this.1.1
                      have hnl : (β l).nl = false := by have := (H.ok l).fit; rw [hblk] at this; exact this.1.nn p4
                      have hadd : ∀ (b o k : Nat), (⟨b, o, none⟩ : Addr).add k = ⟨b, o + k, none⟩ := fun b o k => Addr.add_mid b o k
                      refine ⟨rfl, ?_, ?_, hx, ?_⟩
                      · rcases bnd_cases hba with ⟨rfl, _⟩ | ⟨k, rfl⟩
                        · intro y hy; cases hy
                        · intro y hy; cases hy; exact ⟨_, _, rfl⟩
                      · rcases bnd_cases hbb with ⟨rfl, _⟩ | ⟨k, rfl⟩
                        · intro y hy; cases hy
                        · intro y hy; cases hy; exact ⟨_, _, rfl⟩
                      · have hs : (Instr.sliceBounds false m m (lo.map (den β)) (hi.map (den β)) none).run P w = .ok (a.toNat, b.toNat, m) w := by
                          unfold Instr.sliceBounds
                          rcases bnd_cases hba with ⟨rfl, e2⟩ | ⟨k1, rfl⟩ <;> rcases bnd_cases hbb with ⟨rfl, e4⟩ | ⟨k2, rfl⟩
                          · subst e2 e4; simp
                          · subst e2
                            have hsb := fun code => sliceBound_ok (P := P) k2 b m code w (by omega) (by omega)
                            simp [den, FV.val, hsb]
                          · subst e4
                            have hsb := fun code => sliceBound_ok (P := P) k1 a m code w (by omega) (by omega)
                            simp [den, FV.val, hsb]
                          · have hsa := fun code => sliceBound_ok (P := P) k1 a b.toNat code w (by omega) (by omega)
                            have hsb := fun code => sliceBound_ok (P := P) k2 b m code w (by omega) (by omega)
                            simp [den, FV.val, hsa, hsb]
                        have hs2 : qi.size = 1 := by omega
                        unfold Instr.sliceAt
                        simp only [Sem.run_bind, run_underlying hu, Result.andThen_ok, den_slc hnl]
                        simp only [den, Instr.sureAddr, Sem.run_bind, Sem.run_pure, Result.andThen_ok, hs, sizeOf, typeInfo, hqi, hL, hs2, Nat.mul_one, Nat.add_zero, slRow, hadd]
                        by_cases hma : m = a.toNat
                        · simp [hma, hqi]
                        · simp [hma, hqi, hs2, hadd, Nat.add_assoc]
                    · cases ho
                  · cases ho
                · cases ho
              · cases ho
            · cases ho
          · cases ho
        · cases ho
      · cases ho
    · cases ho
  · cases ho
end
end Go.Proofs.YtjhddlkfkicpaaaGreatDoor.Vx

namespace Go.Proofs.YtjhddlkfkicpaaaGreatDoor.Vx
open Go Go.RowKit Fl
set_option linter.unusedVariables false
set_option linter.unusedSimpArgs false

def shR (g : Nat → List FV) (i : Nat) : Nat → List FV := fun k => g (i + k)
theorem shR_zero (g : Nat → List FV) : shR g 0 = g := by funext k; simp [shR]
def catR (f : Nat → List FV) (len : Nat) (g : Nat → List FV) : Nat → List FV := fun k => if k < len then f k else g (k - len)
def flatR (g : Nat → List FV) (m : Nat) : List Value := ((List.range m).map fun k => (g k).map FV.val).flatten
theorem flatR_succ (g : Nat → List FV) (m : Nat) : flatR g (m + 1) = flatR g m ++ (g m).map FV.val := by
  unfold flatR; rw [List.range_succ]; simp
theorem flatR_length {g : Nat → List FV} {c : Nat} : ∀ m, (∀ k, k < m → (g k).length = c) → (flatR g m).length = m * c
  | 0, _ => by simp [flatR]
  | m + 1, h => by rw [flatR_succ, List.length_append, flatR_length m (fun k hk => h k (by omega)), List.length_map, h m (by omega), Nat.succ_mul]
theorem flatR_get {g : Nat → List FV} {c : Nat} : ∀ m, (∀ k, k < m → (g k).length = c) → ∀ i j, i < m → j < c → (flatR g m)[i * c + j]? = ((g i)[j]?).map FV.val
  | 0, _, i, j, hi, _ => by omega
  | m + 1, h, i, j, hi, hj => by
    have hl := flatR_length m (fun k hk => h k (Nat.lt_succ_of_lt hk))
    rw [flatR_succ]
    by_cases e : i = m
    · subst e
      rw [List.getElem?_append_right (by omega), hl, Nat.add_sub_cancel_left, List.getElem?_map]
    · have hi' : i < m := by omega
      have hlt : i * c + j < m * c := by have := Nat.mul_le_mul_right c hi'; rw [Nat.succ_mul] at this; omega
      rw [List.getElem?_append_left (by omega)]
      exact flatR_get m (fun k hk => h k (by omega)) i j hi' hj
theorem flatR_one {g : Nat → List FV} {m : Nat} : ∀ u ∈ flatR g m, u.oneCell' = true := by
  intro u hu
  unfold flatR at hu
  obtain ⟨l, hl, hu⟩ := List.mem_flatten.1 hu
  obtain ⟨k, _, rfl⟩ := List.mem_map.1 hl
  obtain ⟨x, _, rfl⟩ := List.mem_map.1 hu
  exact FV.one x
theorem idx_split {c q m : Nat} (h : q < m * c) : q = q / c * c + q % c ∧ q / c < m ∧ q % c < c := by
  have hc : 0 < c := by
    rcases Nat.eq_zero_or_pos c with e | e
    · subst e; simp at h
    · exact e
  refine ⟨by have := Nat.div_add_mod q c; rw [Nat.mul_comm] at this; omega, Nat.div_lt_of_lt_mul (by rw [Nat.mul_comm]; exact h), Nat.mod_lt _ hc⟩

section
variable {P : Program} {β : Nat → Loc} {w : World} {h : List Blk} {tab : Nat → Option TI} {n : Nat}
theorem Holds.kill (H : Holds w β h) (l : Nat) : Holds w β (hset h l .dead) := by
  have key : ∀ m, hget (hset h l .dead) m = if m = l then .dead else hget h m := fun m => by
    rw [hget_hset]
    by_cases e : m = l
    · rw [if_pos e]
      by_cases c : l < h.length
      · rw [if_pos ⟨e, c⟩]
      · rw [if_neg (fun q => c q.2), e, hget_out (by omega)]
    · rw [if_neg e, if_neg (fun q => e q.1)]
  refine ⟨fun m => ?_, fun m k hm hk hne ho => ?_, fun m => ?_, H.gl, fun m hm => ?_⟩
  · rw [key]; split
    · exact ⟨fun c => c.elim, trivial, fun i j v hv => (by cases hv), fun c => (by cases c)⟩
    · exact H.ok m
  · rw [key] at hm hk ho
    rw [key] at ho
    split at hm
    · exact hm.elim
    · rename_i e1
      split at hk
      · exact hk.elim
      · rename_i e2
        rw [if_neg e1, if_neg e2] at ho
        exact H.inj m k hm hk hne ho
  · rw [key, hset_length]; split
    · trivial
    · exact H.bd m
  · rw [key] at hm
    split at hm
    · cases hm
    · exact H.go m hm
theorem Since.kill {w0 : World} {β0 : Nat → Loc} {h0 : List Blk} (s : Since w0 β0 h0 w β h) (l : Nat) : Since w0 β0 h0 w β (hset h l .dead) := by
  refine ⟨s.os, s.tape, s.output, s.size, by rw [hset_length]; exact s.len, s.same, s.frame, fun m hl hm => ?_, fun m hl hm => ?_, fun m hl hm => ?_⟩
  · rw [hget_hset] at hm
    split at hm
    · exact hm.elim
    · exact s.liv m hl hm
  · rw [hget_hset] at hm
    split at hm
    · cases hm
    · exact s.ownk m hl hm
  · rw [hget_hset] at hm
    split at hm
    · exact hm.elim
    · exact s.fresh m hl hm
/-- A block of one's own gets a new label. -/
theorem Holds.move (H : Holds w β h) {l : Nat} (ho : (hget h l).own = true) : Holds w (bput β h.length (β l)) (hset h l .dead ++ [hget h l]) := by
  have hl := hget_lt (Blk.own_live ho)
  have hlen : (hset h l .dead).length = h.length := hset_length h l .dead
  have K := H.kill l
  have hc : ∀ k, k < h.length → β k = bput β h.length (β l) k := fun k hk => (bput_lt hk).symm
  have hold : ∀ m, hget (hset h l .dead) m = if m = l then .dead else hget h m := fun m => by
    rw [hget_hset]
    by_cases e : m = l
    · rw [if_pos e, if_pos ⟨e, hl⟩]
    · rw [if_neg e, if_neg (fun q => e q.1)]
  refine ⟨fun m => ?_, fun m k hm hk hne hor => ?_, fun m => ?_, H.gl, fun m hm => ?_⟩
  · rw [hget_append, hlen]
    by_cases e : m = h.length
    · subst e; rw [if_pos rfl, bput_self]; exact (H.ok l).congr (H.bd l) hc
    · rw [if_neg e]
      have := (K.ok m).congr (by have := K.bd m; rwa [hlen] at this) hc
      unfold bput at this ⊢
      simp only [if_neg e]; exact this
  · rw [hget_append, hlen] at hm hk hor
    rw [hget_append, hlen] at hor
    by_cases e : m = h.length
    · by_cases e' : k = h.length
      · omega
      · rw [if_neg e', hold] at hk
        split at hk
        · exact hk.elim
        · rename_i hkl
          subst e
          rw [bput_self, bput_lt (hget_lt hk)]
          exact H.inj l k (Blk.own_live ho) hk (Ne.symm hkl) (.inl ho)
    · rw [if_neg e, hold] at hm
      split at hm
      · exact hm.elim
      · rename_i hml
        rw [bput_lt (hget_lt hm)]
        by_cases e' : k = h.length
        · subst e'
          rw [bput_self]
          exact H.inj m l hm (Blk.own_live ho) hml (.inr ho)
        · rw [if_neg e', hold] at hk
          split at hk
          · exact hk.elim
          · rename_i hkl
            rw [if_neg e, if_neg e', hold, hold, if_neg hml, if_neg hkl] at hor
            rw [bput_lt (hget_lt hk)]
            exact H.inj m k hm hk hne hor
  · rw [hget_append, List.length_append, hlen]
    split
    · exact Blk.bd_mono (by simp) (H.bd l)
    · exact Blk.bd_mono (n := h.length) (by simp) (by have := K.bd m; rwa [hlen] at this)
  · rw [hget_append, hlen] at hm
    by_cases e : m = h.length
    · subst e; rw [bput_self]; exact H.go l ho
    · rw [if_neg e] at hm
      have := hget_lt (Blk.own_live hm)
      rw [hlen] at this
      rw [bput_lt this]; exact K.go m hm
theorem Since.move {w0 : World} {β0 : Nat → Loc} {h0 : List Blk} (s : Since w0 β0 h0 w β h) {l : Nat} (ho : (hget h l).own = true) : Since w0 β0 h0 w (bput β h.length (β l)) (hset h l .dead ++ [hget h l]) := by
  have hlen : (hset h l .dead).length = h.length := hset_length h l .dead
  have K := s.kill l
  have hle := s.len
  refine ⟨s.os, s.tape, s.output, s.size, by rw [List.length_append, hlen]; omega, fun k hk => by rw [bput_lt (by omega)]; exact s.same k hk, s.frame, fun m hl hm => ?_, fun m hl hm => ?_, fun m hl hm => ?_⟩
  · rw [hget_append, hlen, if_neg (by omega)] at hm; exact K.liv m hl hm
  · rw [hget_append, hlen, if_neg (by omega)] at hm; exact K.ownk m hl hm
  · rw [hget_append, hlen] at hm
    by_cases e : m = h.length
    · subst e; rw [bput_self]; exact s.own l ho
    · rw [if_neg e] at hm
      have hm' := hget_lt hm
      rw [hlen] at hm'
      rw [bput_lt hm']
      exact K.fresh m hl hm

/-- The rows of a block, as the cells lie from row i on. -/
theorem rows_cells (H : Holds w β h) {l nb cb c : Nat} {f : Nat → List FV} {o : Bool} (hb : hget h l = .rows nb cb c f o) {i m : Nat} (hm : i + m ≤ nb) :
    (flatR (shR f i) m).length = m * c ∧ (∀ k, k < m → (shR f i k).length = c) ∧ ∀ j v, (flatR (shR f i) m)[j]? = some v → w.cell? ((⟨(β l).b, (β l).lo + i * (β l).c, none⟩ : Addr).add j) = some v := by
  have hk := H.ok l
  rw [hb] at hk
  have hfit := hk.fit
  have hlen : ∀ k, k < m → (shR f i k).length = c := fun k hk2 => hfit.2.2 (i + k) (by omega)
  have hl := flatR_length m hlen
  refine ⟨hl, hlen, fun j v hv => ?_⟩
  have hj : j < m * c := by have := (List.getElem?_eq_some_iff.1 hv).1; omega
  obtain ⟨e1, e2, e3⟩ := idx_split hj
  rw [e1, flatR_get m hlen _ _ e2 e3] at hv
  obtain ⟨u, hu, rfl⟩ := Option.map_eq_some_iff.1 hv
  have := (hk.cell (i + j / c) (j % c) (.f u) (by
    simp only [Blk.cell]; rw [if_pos (by omega), rget_eq]
    rw [show f (i + j / c) = shR f i (j / c) from rfl, hu]; rfl) rfl).2
  rw [Addr.add_mid, show den β (.f u) = u.val from rfl] at *
  rw [← this]
  congr 2
  rw [hfit.1.1, Nat.add_mul]
  omega
end

theorem bsOf_zero (f : Nat → List FV) (i : Nat) : bsOf f i 0 = ByteArray.empty := rfl
theorem strC_ok {P : Program} {β : Nat → Loc} {w : World} {h : List Blk} {tab : Nat → Option TI} (ht : TabOk P tab) (H : Holds w β h) {sr ds : Nat} {x : SV} {p : Prop} {r : ByteArray} (ho : strC tab h sr ds x = .st p r) (hp : p) :
    x.known = true ∧ (convert sr ds (den β x)).run P w = .ok (.string r) w := by
  unfold strC at ho
  split at ho
  · rename_i l i n cap
    split at ho
    · rename_i di hdi
      obtain ⟨dd, _, hud, hkd, _⟩ := ht _ _ hdi
      split at ho
      · rename_i hde
        rw [hde] at hkd; simp only [TK.ok] at hkd; subst hkd
        split at ho
        · rename_i si hsi
          obtain ⟨ds', _, hus, hks, _⟩ := ht _ _ hsi
          split at ho
          · rename_i e hse
            rw [hse] at hks; simp only [TK.ok] at hks; subst hks
            split at ho
            · rename_i ei hei
              obtain ⟨de, _, hue, hke, _⟩ := ht _ _ hei
              split at ho
              · rename_i hee
                rw [hee] at hke; simp only [TK.ok] at hke; subst hke
                split at ho
                · rename_i nb cb c f o hblk
                  split at ho
                  · simp only [SO.st.injEq] at ho; obtain ⟨rfl, rfl⟩ := ho
                    obtain ⟨hn, hby⟩ := hp
                    refine ⟨rfl, ?_⟩
                    by_cases hnl : (β l).nl = true ∧ n = 0 ∧ cap = 0
                    · have hd0 : den β (.slc l i n cap) = .slice none 0 cap := by simp only [den]; rw [if_pos hnl, hnl.2.1]
                      rw [hd0, hnl.2.1]
                      rw [run_convert_bytes_string w sr ds e none 0 cap hus hue hud]
                      rfl
                    · simp only [den, if_neg hnl]
                      have hL : (β l).c = 1 := by have := (H.ok l).fit; rw [hblk] at this; exact this.1.1
                      have key := run_convert_bytes_back (P := P) w sr ds e ⟨(β l).b, (β l).lo + i * (β l).c, none⟩ cap ((List.range n).map fun k => byU (f (i + k))) hus hue hud (fun j hj => by
                        have hjn : j < n := by simpa using hj
                        obtain ⟨x, hx, hx0, hx1⟩ := hby j hjn
                        have := ((H.ok l).cell (i + j) 0 (.f (.int .u8 x)) (by
                          rw [hblk]; simp only [Blk.cell]; rw [if_pos (by omega), hx]; rfl) rfl).2
                        rw [Addr.add_mid, hL, Nat.mul_one]
                        rw [hL, Nat.mul_one, Nat.add_zero, ← Nat.add_assoc] at this
                        rw [this]
                        simp only [List.getElem_map, List.getElem_range, hx, byU, den, FV.val]
                        congr 2
                        rw [UInt8.toNat_ofNat_of_lt' (by show x.toNat < 256; omega)]
                        omega)
                      simp only [List.length_map, List.length_range] at key
                      exact key
                  · cases ho
                · cases ho
              · cases ho
            · cases ho
          · cases ho
        · cases ho
      · cases ho
    · cases ho
  · cases ho

/-- What is appended: how many rows, which ones. -/
def srcR (h : List Blk) (c : Nat) (y : SV) : Option (Nat × (Nat → List FV) × Prop) :=
  match y with
  | .slc l i m _ => (match hget h l with
    | .rows n _ c' g _ => if c' = c then some (m, shR g i, i + m ≤ n) else none
    | _ => none)
  | _ => none

structure AppIn where
  l : Nat
  len : Nat
  cap : Nat
  c : Nat
  f : Nat → List FV
  m : Nat
  g : Nat → List FV
  nb : Nat
  cb : Nat
  own : Bool
inductive AP where
  | slc (p : Prop) (a : AppIn)
  | nil (p : Prop) (c m : Nat) (g : Nat → List FV)
  | bad
def appR (tab : Nat → Option TI) (h : List Blk) (t : Nat) (x y : SV) : AP :=
  match tab t with
  | some ti => (match ti.k with
    | .slice e => (match tab e with
      | some te => if te.bytes ≤ 1000 ∧ 0 < te.size then (match srcR h te.size y with
        | some (m, g, p) => (match x with
          | .f .nils => .nil ((p ∧ 0 < m) ∧ m ≤ 16777216) te.size m g
          | .slc l i len cap => (match i with
            | 0 => (match hget h l with
              | .rows nb cb c f own => if c = te.size then .slc ((p ∧ len ≤ nb ∧ NN cb own) ∧ len + m ≤ 16777216) ⟨l, len, cap, c, f, m, g, nb, cb, own⟩ else .bad
              | _ => .bad)
            | _ => .bad)
          | _ => .bad)
        | none => .bad) else .bad
      | none => .bad)
    | _ => .bad)
  | none => .bad

section
variable {P : Program} {β : Nat → Loc} {w : World} {h : List Blk} {tab : Nat → Option TI} {n : Nat}
theorem srcR_ok (H : Holds w β h) {c m : Nat} {y : SV} {g : Nat → List FV} {p : Prop} (hs : srcR h c y = some (m, g, p)) (hp : p) :
    ∃ a cap2, (den β y = .slice (some a) m cap2 ∨ (m = 0 ∧ den β y = .slice none 0 0)) ∧ (∀ k, k < m → (g k).length = c) ∧ (flatR g m).length = m * c ∧ ∀ j v, (flatR g m)[j]? = some v → w.cell? (a.add j) = some v := by
  unfold srcR at hs
  split at hs
  · rename_i l i m' cap
    split at hs
    · rename_i nb cb c' f o hb
      split at hs
      · rename_i e; subst e
        simp only [Option.some.injEq, Prod.mk.injEq] at hs
        obtain ⟨rfl, rfl, rfl⟩ := hs
        obtain ⟨h1, h2, h3⟩ := rows_cells H hb hp
        refine ⟨_, cap, ?_, h2, h1, h3⟩
        by_cases q : (β l).nl = true ∧ m' = 0 ∧ cap = 0
        · obtain ⟨q1, rfl, rfl⟩ := q
          exact .inr ⟨rfl, by simp [den, q1]⟩
        · left; simp only [den]; rw [if_neg q]
      · cases hs
    · cases hs
  · cases hs

theorem grown_ok {e : TypeId} {c len m cap' : Nat} {f g : Nat → List FV} {Z : Array Value} (hf : ∀ k, k < len → (f k).length = c) (hg : ∀ k, k < m → (g k).length = c) (hc : len + m ≤ cap') (hZ : Z.size = (cap' - (len + m)) * c) (w : World) :
    BlkOk (w.alloc (.cells ((flatR f len).toArray ++ (flatR g m).toArray ++ Z) e)) β ⟨w.heap.size, 0, c, false⟩ (.rows (len + m) cap' c (catR f len g) true) := by
  have l1 := flatR_length len hf
  have l2 := flatR_length m hg
  refine rows_new w (len + m) cap' c (catR f len g) _ e hc (fun i hi => ?_) ?_ (fun i j hi hj => ?_)
  · unfold catR; split
    · exact hf i ‹_›
    · exact hg (i - len) (by omega)
  · simp only [Array.size_append, List.size_toArray, l1, l2, hZ, ← Nat.add_mul]; congr 1; omega
  · rw [Array.append_assoc]
    unfold catR
    by_cases e1 : i < len
    · rw [if_pos e1, Array.getElem?_append_left (by simp [l1]; have := Nat.mul_le_mul_right c e1; rw [Nat.succ_mul] at this; omega)]
      simpa using flatR_get len hf i j e1 hj
    · rw [if_neg e1]
      have e2 : len * c ≤ i * c := Nat.mul_le_mul_right c (by omega)
      rw [Array.getElem?_append_right (by simp [l1]; omega), Array.getElem?_append_left (by
        simp only [List.size_toArray, l1, l2]
        have := Nat.mul_le_mul_right c hi; rw [Nat.succ_mul, Nat.add_mul] at this; omega)]
      have hi' : i - len < m := by omega
      have := flatR_get m hg (i - len) j hi' hj
      rw [← this]
      simp only [List.size_toArray, l1, List.getElem?_toArray]
      congr 1
      rw [Nat.sub_mul]; omega

/-- Nothing is appended from a nil slice. -/
theorem append_nil_src (w : World) {t ty e : TypeId} {q : TypeInfo} (hu : P.underlying t = some (.slice e)) (hq : P.info? e = some q) (base : Option Addr) (sLen sCap : Nat) (ay : Addr) (cy : Nat)
    (hfit : sLen ≤ sCap ∨ Builtin.nextslicecap sLen sCap * q.bytes ≤ 281474976710656) :
    (Builtin.append_ #[t, t] ty #[.slice base sLen sCap, .slice none 0 0]).run P w = (Builtin.append_ #[t, t] ty #[.slice base sLen sCap, .slice (some ay) 0 cy]).run P w := by
  by_cases h : sLen ≤ sCap
  · simp [Builtin.append_, run_underlying hu, sizeOf, typeInfo, hq, Builtin.lenOf, Builtin.firstCells, loadCells, loadCellsFrom, h]
  · have h48 : ¬ (281474976710656 < Builtin.nextslicecap sLen sCap * q.bytes) := by omega
    simp [Builtin.append_, run_underlying hu, sizeOf, typeInfo, hq, Builtin.lenOf, Builtin.firstCells, loadCells, loadCellsFrom, h, h48]
structure AppFacts (P : Program) (w : World) (β : Nat → Loc) (h : List Blk) (t : Nat) (x y : SV) (a : AppIn) (e : Nat) (q : TypeInfo) (z : Value) (ay : Addr) (cy : Nat) : Prop where
  hu : P.underlying t = some (.slice e)
  hq : P.info? e = some q
  hz : q.zero = some z
  hs : q.size = a.c
  hb : q.bytes ≤ 1000
  hc : 0 < a.c
  hzs : z.cells.size = a.c
  hx : x = .slc a.l 0 a.len a.cap
  blk : hget h a.l = .rows a.nb a.cb a.c a.f a.own
  hl : a.len ≤ a.nb
  nl : (β a.l).nl = false
  hm : a.len + a.m ≤ 16777216
  hy : den β y = .slice (some ay) a.m cy ∨ (a.m = 0 ∧ den β y = .slice none 0 0)
  g1 : ∀ k, k < a.m → (a.g k).length = a.c
  g2 : (flatR a.g a.m).length = a.m * a.c
  g3 : ∀ j v, (flatR a.g a.m)[j]? = some v → w.cell? (ay.add j) = some v
theorem AppFacts.src {t : Nat} {x y : SV} {a : AppIn} {e : Nat} {q : TypeInfo} {z : Value} {ay : Addr} {cy : Nat} (F : AppFacts P w β h t x y a e q z ay cy) (ty : TypeId) (base : Option Addr)
    (hfit : a.len + a.m ≤ a.cap ∨ Builtin.nextslicecap (a.len + a.m) a.cap * q.bytes ≤ 281474976710656) :
    (Builtin.append_ #[t, t] ty #[.slice base a.len a.cap, den β y]).run P w = (Builtin.append_ #[t, t] ty #[.slice base a.len a.cap, .slice (some ay) a.m cy]).run P w := by
  rcases F.hy with c | ⟨c1, c2⟩
  · rw [c]
  · rw [c2, c1]
    rw [c1, Nat.add_zero] at hfit
    exact append_nil_src w F.hu F.hq base a.len a.cap ay cy hfit
theorem appR_facts (ht : TabOk P tab) (H : Holds w β h) {t : Nat} {x y : SV} {p : Prop} {a : AppIn} (ho : appR tab h t x y = .slc p a) (hp : p) : ∃ e q z ay cy, AppFacts P w β h t x y a e q z ay cy := by
  unfold appR at ho
  split at ho
  · rename_i ti hti
    obtain ⟨d, q, hu, hk, _⟩ := ht _ _ hti
    split at ho
    · rename_i e he
      rw [he] at hk; simp only [TK.ok] at hk; subst hk
      split at ho
      · rename_i te hte
        obtain ⟨d2, q2, hu2, _, _, hq2, hsz2, hby, z, hz, hz2, hz3, _⟩ := ht _ _ hte
        split at ho
        · rename_i hb1
          split at ho
          · rename_i m g p' hsrc
            split at ho
            · cases ho
            · rename_i l i len cap
              split at ho
              · split at ho
                · rename_i nb cb c f own hblk
                  split at ho
                  · rename_i hc; subst hc
                    simp only [AP.slc.injEq] at ho
                    obtain ⟨rfl, rfl⟩ := ho
                    obtain ⟨⟨hp1, hp2, hp4⟩, hp3⟩ := hp
                    have hnl := (by have := (H.ok l).fit; rw [hblk] at this; exact this.1.nn hp4 : (β l).nl = false)
                    obtain ⟨ay, cy, hy, g1, g2, g3⟩ := srcR_ok H hsrc hp1
                    exact ⟨e, q2, z, ay, cy, hu, hq2, hz, hsz2, by omega, hb1.2, hz3, rfl, hblk, hp2, hnl, hp3, hy, g1, g2, g3⟩
                  · cases ho
                · cases ho
              · cases ho
            · cases ho
          · cases ho
        · cases ho
      · cases ho
    · cases ho
  · cases ho

/-- Where an append grows: a new block comes. -/
theorem app_grow (H : Holds w β h) {t : Nat} {x y : SV} {a : AppIn} {e : Nat} {q : TypeInfo} {z : Value} {ay : Addr} {cy : Nat} (F : AppFacts P w β h t x y a e q z ay cy) {ty : TypeId} (hg : a.cap < a.len + a.m) :
    ∃ cap' w' L, a.len + a.m ≤ cap' ∧ Ext w w' ∧ w.heap.size ≤ L.b ∧ BlkOk w' β L (.rows (a.len + a.m) cap' a.c (catR a.f a.len a.g) true) ∧
      (Builtin.append_ #[t, t] ty #[den β x, den β y]).run P w = .ok (den (bput β h.length L) (.slc h.length 0 (a.len + a.m) cap')) w' := by
  have hsrc := F.src ty
  obtain ⟨hu, hq, hz, hs, hb, hc, hzs, hx, blk, hl, hnl, hm, hy, g1, g2, g3⟩ := F
  obtain ⟨f1, f2, f3⟩ := rows_cells H blk (i := 0) (m := a.len) (by simpa using hl)
  rw [shR_zero] at f1 f2 f3
  have hbytes : (a.len + a.m) * q.bytes ≤ 140737488355328 := by
    have := Nat.mul_le_mul hm hb; omega
  have hrun := run_append_grow (P := P) w t ty e q z hu hq hz ⟨(β a.l).b, (β a.l).lo + 0 * (β a.l).c, none⟩ a.len a.cap (flatR a.f a.len) (by rw [f1, hs]) f3 ay a.m cy (flatR a.g a.m) (by rw [g2, hs]) g3 hg (by omega) (growslice_fits hg hbytes)
  have hge := grownCap_ge w (a.len + a.m) a.cap e
  refine ⟨grownCap w (a.len + a.m) a.cap e, _, ⟨w.heap.size, 0, a.c, false⟩, hge, (Below.refl _ _).drew.alloc (by simp) (.cells ((flatR a.f a.len).toArray ++ (flatR a.g a.m).toArray ++ Builtin.zeroCells z.cells (grownCap w (a.len + a.m) a.cap e - (a.len + a.m))) e), Nat.le_refl _, ?_, ?_⟩
  · exact grown_ok (β := β) (e := e) f2 g1 hge (by rw [size_zeroCells, hzs]) w.drew
  · rw [hx, den_slc hnl, hsrc _ (.inr (growslice_fits hg hbytes)), den_slc (by rw [bput_self])]
    simp only [bput_self]
    rw [hrun]; simp
/-- Where there is room in a block of one's own. -/
theorem app_room (H : Holds w β h) {t : Nat} {x y : SV} {a : AppIn} {e : Nat} {q : TypeInfo} {z : Value} {ay : Addr} {cy : Nat} (F : AppFacts P w β h t x y a e q z ay cy) {ty : TypeId} (hg : a.len + a.m ≤ a.cap) (hcb : a.cap ≤ a.cb) (hown : a.own = true) :
    ∃ o vs, BlkOk (w.setCells (β a.l).b o vs) β (β a.l) (.rows (a.len + a.m) a.cap a.c (catR a.f a.len a.g) true) ∧
      (Builtin.append_ #[t, t] ty #[den β x, den β y]).run P w = .ok (den β (.slc a.l 0 (a.len + a.m) a.cap)) (w.setCells (β a.l).b o vs) := by
  have hsrc := F.src ty
  obtain ⟨hu, hq, hz, hs, hb, hc, hzs, hx, blk, hl, hnl, hm, hy, g1, g2, g3⟩ := F
  obtain ⟨f1, f2, f3⟩ := rows_cells H blk (i := 0) (m := a.len) (by simpa using hl)
  rw [shR_zero] at f1 f2 f3
  have hk := H.ok a.l
  rw [blk] at hk
  have hfit := hk.fit
  have hlo := (hk.wr hown).1
  have hroom : ∀ j, j < (flatR a.g a.m).length → (w.cell? ⟨(β a.l).b, 0 + a.len * q.size + j, none⟩).isSome = true ∧ w.frozen? ⟨(β a.l).b, 0 + a.len * q.size + j, none⟩ = false := fun j hj => by
    rw [g2] at hj
    obtain ⟨e1, e2, e3⟩ := idx_split hj
    have := (hk.wr hown).2 (a.len + j / a.c) (j % a.c) ⟨by omega, e3⟩
    have e4 : (β a.l).lo + (a.len + j / a.c) * (β a.l).c + j % a.c = 0 + a.len * q.size + j := by
      rw [hfit.1.1, hs, Nat.add_mul, hlo]; omega
    rw [e4] at this; exact this
  have hrun := run_append_room_cells (P := P) w t ty e q hu hq (β a.l).b 0 a.len a.cap ay a.m cy (flatR a.g a.m) (by rw [g2, hs]) g3 flatR_one hg (fun j hj => (hroom j hj).1) (fun j hj => (hroom j hj).2)
  refine ⟨0 + a.len * q.size, flatR a.g a.m, ?_, ?_⟩
  · refine ⟨fun hlv => by rw [size_setCells]; exact hk.there (.inl hown), ⟨⟨hfit.1.1, fun q => by have := hfit.1.2 q; rw [hown] at this; cases this.1⟩, hg, fun i hi => ?_⟩, fun i j v hv hkn => ?_, fun _ => ⟨hlo, fun i j hr => ?_⟩⟩
    · unfold catR; split
      · exact f2 i ‹_›
      · exact g1 (i - a.len) (by omega)
    · simp only [Blk.cell] at hv
      split at hv
      · rename_i hi
        obtain ⟨u, hu', rfl⟩ := Option.map_eq_some_iff.1 hv
        refine ⟨rfl, ?_⟩
        rw [cells_set w _ (fun k hk2 => (hroom k hk2).1), g2, hs, hlo]
        rw [rget_eq] at hu'
        have hj : j < a.c := by
          have := (List.getElem?_eq_some_iff.1 hu').1
          unfold catR at this; split at this
          · have := f2 i ‹_›; omega
          · have := g1 (i - a.len) (by omega); omega
        unfold catR at hu'
        by_cases c : i < a.len
        · rw [if_pos c] at hu'
          have : i * a.c + a.c ≤ a.len * a.c := by have := Nat.mul_le_mul_right a.c c; rwa [Nat.succ_mul] at this
          rw [if_neg (by rw [hfit.1.1]; omega)]
          have h2 := (hk.cell i j (.f u) (by simp only [Blk.cell]; rw [if_pos (by omega), rget_eq, hu']; rfl) rfl).2
          rw [hlo] at h2; exact h2
        · rw [if_neg c] at hu'
          have h3 : i - a.len < a.m := by omega
          have h4 : a.len * a.c ≤ i * a.c := Nat.mul_le_mul_right a.c (by omega)
          have h5 : i * a.c + a.c ≤ (a.len + a.m) * a.c := by have := Nat.mul_le_mul_right a.c hi; rwa [Nat.succ_mul] at this
          rw [Nat.add_mul] at h5
          rw [if_pos (by rw [hfit.1.1]; omega), hfit.1.1]
          have h6 := flatR_get a.m g1 (i - a.len) j h3 hj
          rw [Nat.sub_mul] at h6
          rw [show 0 + i * a.c + j - (0 + a.len * a.c) = i * a.c - a.len * a.c + j from by omega, h6, hu']; rfl
      · cases hv
    · have := (hk.wr hown).2 i j ⟨by have := hr.1; omega, hr.2⟩
      exact ⟨World.isSome_setCells _ _ _ _ _ this.1, by rw [World.frozen?_setCells]; exact this.2⟩
  · rw [hx, den_slc hnl, hsrc _ (.inl hg), den_slc hnl]
    simp only [hlo, Nat.zero_mul, Nat.add_zero]
    exact hrun
/-- Nothing is appended. -/
theorem app_zero {t : Nat} {x y : SV} {a : AppIn} {e : Nat} {q : TypeInfo} {z : Value} {ay : Addr} {cy : Nat} (F : AppFacts P w β h t x y a e q z ay cy) {ty : TypeId} (hm : a.m = 0) (hlc : a.len ≤ a.cap) (hnz : a.len = 0) :
    (Builtin.append_ #[t, t] ty #[den β x, den β y]).run P w = .ok (den β x) w := by
  have hsrc := F.src ty
  obtain ⟨hu, hq, hz, hs, hb, hc, hzs, hx, blk, hl, hnl, hm', hy, g1, g2, g3⟩ := F
  rw [hx, den_slc hnl, hsrc _ (.inl (by omega))]
  simp [Builtin.append_, run_underlying hu, sizeOf, typeInfo, hq, Builtin.lenOf, hm, hlc, hnz, Builtin.firstCells, loadCells, loadCellsFrom, storeCells, den]
end
end Go.Proofs.YtjhddlkfkicpaaaGreatDoor.Vx

namespace Go.Proofs.YtjhddlkfkicpaaaGreatDoor.Vx
open Go Go.RowKit Fl
set_option linter.unusedVariables false
set_option linter.unusedSimpArgs false

/-! ### Building structs -/
def cellsL (v : SV) : Option (List SV) :=
  match v with
  | .agg l => some l
  | .arr _ _ => none
  | .tup _ => none
  | .any => none
  | v => some [v]
def bFill (tab : Nat → Option TI) (fs : List (Nat × Nat)) : List SV → List (Nat × SV) → Option (List SV)
  | row, [] => some row
  | row, (i, v) :: r => match rget fs i with
    | some q => (match tab q.2 with
      | some tf => (match cellsL v with
        | some cs => if cs.length = tf.size ∧ q.1 + cs.length ≤ row.length then bFill tab fs (splice row q.1 cs) r else none
        | none => none)
      | none => none)
    | none => none
def fsOk (tab : Nat → Option TI) : List (Nat × Nat) → Bool
  | [] => true
  | q :: r => (tab q.2).isSome && fsOk tab r
def constF (v : FV) : Nat → FV := fun _ => v
def buildR (tab : Nat → Option TI) (t : Nat) (parts : List (Nat × SV)) : OR :=
  match tab t with
  | some ti => (match ti.k with
    | .struct fs => (match fsOk tab fs with
      | true => (match ti.z with
        | .row l => (match bFill tab fs (mapF l) parts with
          | some row => (match allKnown row with | true => .val True (.agg row) | false => .bad)
          | none => .bad)
        | .all v => (match parts with
          | [] => .val True (.arr ti.size (constF v))
          | _ => .bad))
      | false => .bad)
    | .arr m e => (match tab e with
      | some _ => (match parts with
        | [] => (match ti.z with
          | .row l => .val True (.agg (mapF l))
          | .all v => .val True (.arr ti.size (constF v)))
        | _ => .bad)
      | none => .bad)
    | _ => .bad)
  | none => .bad

section
variable {P : Program} {β : Nat → Loc} {w : World} {h : List Blk} {tab : Nat → Option TI} {n : Nat}
theorem cellsL_ok {v : SV} {cs : List SV} (hv : cellsL v = some cs) (h1 : v.one = true ∨ ∃ l, v = .agg l) : cellsOf β v = cs.map (den β) ∧ (v.bd n → bdL n cs) := by
  rcases h1 with h1 | ⟨l, rfl⟩
  · have : cs = [v] := by cases v <;> simp_all [cellsL, SV.one]
    subst this
    exact ⟨cellsOf_one h1, fun hb => ⟨hb, trivial⟩⟩
  · simp only [cellsL, Option.some.injEq] at hv; subst hv
    exact ⟨cellsOf_agg β l, fun hb => hb⟩
theorem cellsL_kind {v : SV} {cs : List SV} (hv : cellsL v = some cs) : v.one = true ∨ ∃ l, v = .agg l := by
  cases v <;> first | (left; rfl) | (right; exact ⟨_, rfl⟩) | (simp [cellsL] at hv; done)
theorem bFill_ok {fs : List (Nat × Nat)} {place : Nat → Option (Nat × Nat)} (hp : ∀ i q tf, rget fs i = some q → tab q.2 = some tf → place i = some (q.1, tf.size)) :
    ∀ (parts : List (Nat × SV)) (row row' : List SV) (A : Array Value), bFill tab fs row parts = some row' → A.toList = row.map (den β) → bdL n row → (∀ x ∈ parts, x.2.bd n) →
      ∃ C, Instr.fill place A (parts.map fun x => (x.1, den β x.2)) = some C ∧ C.toList = row'.map (den β) ∧ bdL n row'
  | [], row, row', A, h, hA, hb, _ => by simp only [bFill, Option.some.injEq] at h; subst h; exact ⟨A, rfl, hA, hb⟩
  | (i, v) :: r, row, row', A, h, hA, hb, hpb => by
    simp only [bFill] at h
    split at h
    · rename_i q hq
      split at h
      · rename_i tf htf
        split at h
        · rename_i cs hcs
          split at h
          · rename_i hc
            obtain ⟨h1, h2⟩ := cellsL_ok (β := β) (n := n) hcs (cellsL_kind hcs)
            have hbv := h2 (hpb (i, v) (by simp))
            have hAs : A.size = row.length := by have := congrArg List.length hA; simpa using this
            have hcl : (den β v).cells.toList = cs.map (den β) := h1
            have hcz : (den β v).cells.size = cs.length := by have := congrArg List.length hcl; simpa using this
            have hfs := fun k => fold_set (den β v).cells.toList 0 q.1 A k (by simp [hcz]; omega)
            have hfold : (den β v).cells.zipIdx.foldl (fun cs x => cs.setIfInBounds (q.1 + x.2) x.1) A = ((den β v).cells.toList.zipIdx 0).foldl (fun a p => a.setIfInBounds (q.1 + p.2) p.1) A := by
              rw [← Array.foldl_toList]; simp
            have hnew : ((den β v).cells.zipIdx.foldl (fun cs x => cs.setIfInBounds (q.1 + x.2) x.1) A).toList = (splice row q.1 cs).map (den β) := by
              apply List.ext_getElem?
              intro k
              rw [Array.getElem?_toList, hfold, (hfs k).2, List.getElem?_map, splice_get _ _ _ _ hc.2]
              simp only [Nat.add_zero, Array.length_toList, hcz]
              split
              · rw [hcl, List.getElem?_map]
              · rw [← Array.getElem?_toList, hA, List.getElem?_map]
            obtain ⟨C, hC, hCl, hCb⟩ := bFill_ok hp r (splice row q.1 cs) row' _ h hnew ((bdL_iff _ _).2 fun u hu => by
              unfold splice at hu
              simp only [List.mem_append] at hu
              rcases hu with c | c | c
              · exact (bdL_iff _ _).1 hb u (List.mem_of_mem_take c)
              · exact (bdL_iff _ _).1 hbv u c
              · exact (bdL_iff _ _).1 hb u (List.mem_of_mem_drop c)) (fun x hx => hpb x (by simp [hx]))
            refine ⟨C, ?_, hCl, hCb⟩
            simp only [List.map_cons, Instr.fill, hp i q tf hq htf]
            rw [if_neg (by simp [hcz]; omega)]
            exact hC
          · cases h
        · cases h
      · cases h
    · cases h
theorem places_of (ht : TabOk P tab) : ∀ (F : List Field), fsOk tab (F.map fun f => (f.offset, f.type)) = true →
    ∃ places, F.mapM (fun f => (P.info? f.type).map fun i => (f.offset, i.size)) = some places ∧ ∀ i q tf, rget (F.map fun f => (f.offset, f.type)) i = some q → tab q.2 = some tf → places[i]? = some (q.1, tf.size)
  | [], _ => ⟨[], by simp, fun i q tf h => by simp [rget] at h⟩
  | f :: F, h => by
    simp only [List.map_cons, fsOk, Bool.and_eq_true] at h
    obtain ⟨places, hp, hg⟩ := places_of ht F h.2
    obtain ⟨ti, hti⟩ := Option.isSome_iff_exists.1 h.1
    obtain ⟨_, q, _, _, _, hq, hsz, _⟩ := ht _ _ hti
    refine ⟨(f.offset, q.size) :: places, by simp [List.mapM_cons, hq, hp], fun i q' tf hi htf => ?_⟩
    cases i with
    | zero =>
      simp only [List.map_cons, rget, Option.some.injEq] at hi; subst hi
      rw [hti] at htf; cases htf
      simp [hsz]
    | succ i =>
      simp only [List.map_cons, rget] at hi
      simpa using hg i q' tf hi htf
theorem buildR_ok (ht : TabOk P tab) {t : Nat} {parts : List (Nat × SV)} {p : Prop} {r : SV} (ho : buildR tab t parts = .val p r) (hb : ∀ x ∈ parts, x.2.bd n) :
    r.bd n ∧ (Instr.build t (parts.map fun x => (x.1, den β x.2)).toArray).run P w = .ok (den β r) w := by
  unfold buildR at ho
  split at ho
  · rename_i ti hti
    obtain ⟨d, q, hu, hk, _, hq, hsz, _, z, hz, hz2, hz3, _⟩ := ht _ _ hti
    split at ho
    · rename_i fs hfs
      rw [hfs] at hk
      obtain ⟨F, rfl, hF⟩ := hk
      split at ho
      · rename_i hok
        rw [← hF] at hok
        obtain ⟨places, hpl, hpg⟩ := places_of ht F.toList hok
        split at ho
        · rename_i l hl
          split at ho
          · rename_i row hrow
            split at ho
            · rename_i hak
              simp only [OR.val.injEq] at ho; obtain ⟨rfl, rfl⟩ := ho
              rw [hl] at hz2
              obtain ⟨C, hC, hCl, hCb⟩ := bFill_ok (β := β) (n := n) (place := fun i => places.toArray[i]?) (fun i q' tf h1 h2 => by simpa using hpg i q' tf (by rw [hF]; exact h1) h2) parts (mapF l) row z.cells hrow (by rw [hz2, mapF_eq, List.map_map]; rfl) (mapF_bd l n) hb
              refine ⟨hCb, ?_⟩
              have : P.built t (parts.map fun x => (x.1, den β x.2)) = some C := by
                simp only [Program.built, hq, hu, hz, hpl]; exact hC
              rw [run_build w t _ C this]
              congr 2
              apply Array.ext'
              simp [hCl, denL_map]
            · cases ho
          · cases ho
        · rename_i v hl
          split at ho
          · simp only [OR.val.injEq] at ho; obtain ⟨rfl, rfl⟩ := ho
            rw [hl] at hz2
            refine ⟨trivial, ?_⟩
            have : P.built t [] = some z.cells := by simp only [Program.built, hq, hu, hz, hpl]; rfl
            have h2 := run_build w t #[] z.cells this
            show (Instr.build t #[]).run P w = _
            rw [h2]
            congr 2
            apply Array.ext'
            rw [hz2]; simp only [TZ.cells, constF, List.map_const', List.length_range]
          · cases ho
      · cases ho
    · rename_i m e he
      rw [he] at hk; simp only [TK.ok] at hk; subst hk
      split at ho
      · rename_i te hte
        obtain ⟨_, q2, _, _, _, hq2, _⟩ := ht _ _ hte
        split at ho
        · have : P.built t [] = some z.cells := by simp only [Program.built, hq, hu, hz, hq2]; rfl
          have h2 := run_build w t #[] z.cells this
          split at ho
          · rename_i l hl
            simp only [OR.val.injEq] at ho; obtain ⟨rfl, rfl⟩ := ho
            rw [hl] at hz2
            refine ⟨mapF_bd l n, ?_⟩
            show (Instr.build t #[]).run P w = _
            rw [h2]
            congr 2
            apply Array.ext'
            rw [hz2]; simp [TZ.cells, denL_map, mapF_eq, den]
          · rename_i v hl
            simp only [OR.val.injEq] at ho; obtain ⟨rfl, rfl⟩ := ho
            rw [hl] at hz2
            refine ⟨trivial, ?_⟩
            show (Instr.build t #[]).run P w = _
            rw [h2]
            congr 2
            apply Array.ext'
            rw [hz2]; simp only [TZ.cells, constF, List.map_const', List.length_range]
        · cases ho
      · cases ho
    · cases ho
  · cases ho
end
end Go.Proofs.YtjhddlkfkicpaaaGreatDoor.Vx

namespace Go.Proofs.YtjhddlkfkicpaaaGreatDoor.Vx
open Go Go.RowKit Fl
set_option linter.unusedVariables false
set_option linter.unusedSimpArgs false

/-- Is a label among some? -/
def inL (l : Nat) : List Nat → Bool
  | [] => false
  | m :: r => if m = l then true else inL l r
theorem inL_iff (l : Nat) : ∀ r, inL l r = true ↔ l ∈ r
  | [] => by simp [inL]
  | m :: r => by
    simp only [inL]
    by_cases e : m = l
    · simp [e]
    · rw [if_neg e, inL_iff l r]; simp [Ne.symm e]
/-- Where a label stands. -/
def idx : List Nat → Nat → Nat
  | [], _ => 0
  | m :: r, l => if m = l then 0 else idx r l + 1
def lget : List Nat → Nat → Nat
  | [], n => n
  | m :: _, 0 => m
  | _ :: r, n + 1 => lget r n
theorem lget_eq : ∀ (r : List Nat) (n : Nat), n < r.length → r[n]? = some (lget r n)
  | [], _, h => by simp at h
  | m :: _, 0, _ => rfl
  | m :: r, n + 1, h => by simp only [List.length_cons] at h; simp only [List.getElem?_cons_succ, lget]; exact lget_eq r n (by omega)
theorem idx_ok : ∀ (r : List Nat) (l : Nat), l ∈ r → idx r l < r.length ∧ lget r (idx r l) = l
  | [], _, h => by cases h
  | m :: r, l, h => by
    simp only [idx]
    by_cases e : m = l
    · rw [if_pos e]; exact ⟨by simp, by simp [lget, e]⟩
    · rw [if_neg e]
      have hl : l ∈ r := (List.mem_cons.1 h).resolve_left (fun c => e c.symm)
      have := idx_ok r l hl
      exact ⟨by simp; exact this.1, by simp only [lget]; exact this.2⟩
theorem lget_mem {r : List Nat} {n : Nat} (h : n < r.length) : lget r n ∈ r := List.mem_of_getElem? (lget_eq r n h)
def distinct : List Nat → Bool
  | [] => true
  | m :: r => !inL m r && distinct r
theorem lget_inj : ∀ (r : List Nat), distinct r = true → ∀ i j, i < r.length → j < r.length → lget r i = lget r j → i = j
  | [], _, i, j, hi, _, _ => by simp at hi
  | m :: r, h, i, j, hi, hj, e => by
    simp only [distinct, Bool.and_eq_true, Bool.not_eq_true'] at h
    have hn : m ∉ r := fun c => by have := (inL_iff m r).2 c; rw [h.1] at this; cases this
    simp only [List.length_cons] at hi hj
    cases i with
    | zero =>
      cases j with
      | zero => rfl
      | succ j => simp only [lget] at e; exact absurd (e ▸ lget_mem (by omega)) hn
    | succ i =>
      cases j with
      | zero => simp only [lget] at e; exact absurd (e ▸ lget_mem (by omega)) hn
      | succ j => simp only [lget] at e; rw [lget_inj r h.2 i j (by omega) (by omega) e]

mutual
/-- All labels of a value are among some. -/
def SV.lin (r : List Nat) : SV → Bool
  | .ptr l _ _ => inL l r
  | .slc l _ _ _ => inL l r
  | .fn _ a b => linL r a && linL r b
  | .agg l => linL r l
  | .tup l => linL r l
  | _ => true
def linL (r : List Nat) : List SV → Bool
  | [] => true
  | v :: l => v.lin r && linL r l
end
mutual
theorem lin_ren {r : List Nat} (h : ∀ l ∈ r, lget r (idx r l) = l) : ∀ v : SV, v.lin r = true → (v.ren (idx r)).ren (lget r) = v
  | .f _, _ => rfl
  | .ptr l i j, hv => by simp only [SV.lin, inL_iff] at hv; simp only [SV.ren, h l hv]
  | .slc l i _ _, hv => by simp only [SV.lin, inL_iff] at hv; simp only [SV.ren, h l hv]
  | .fn _ a b, hv => by simp only [SV.lin, Bool.and_eq_true] at hv; simp only [SV.ren, linL_ren h a hv.1, linL_ren h b hv.2]
  | .agg l, hv => by simp only [SV.lin] at hv; simp only [SV.ren, linL_ren h l hv]
  | .arr _ _, _ => rfl
  | .tup l, hv => by simp only [SV.lin] at hv; simp only [SV.ren, linL_ren h l hv]
  | .any, _ => rfl
theorem linL_ren {r : List Nat} (h : ∀ l ∈ r, lget r (idx r l) = l) : ∀ l : List SV, linL r l = true → renL (lget r) (renL (idx r) l) = l
  | [], _ => rfl
  | v :: l, hv => by simp only [linL, Bool.and_eq_true] at hv; simp only [renL, lin_ren h v hv.1, linL_ren h l hv.2]
end
mutual
theorem lin_bd {r : List Nat} : ∀ v : SV, v.lin r = true → (v.ren (idx r)).bd r.length
  | .f _, _ => trivial
  | .ptr l i j, hv => by simp only [SV.lin, inL_iff] at hv; exact (idx_ok r l hv).1
  | .slc l i _ _, hv => by simp only [SV.lin, inL_iff] at hv; exact (idx_ok r l hv).1
  | .fn _ a b, hv => by simp only [SV.lin, Bool.and_eq_true] at hv; exact ⟨linL_bd a hv.1, linL_bd b hv.2⟩
  | .agg l, hv => by simp only [SV.lin] at hv; exact linL_bd l hv
  | .arr _ _, _ => trivial
  | .tup l, hv => by simp only [SV.lin] at hv; exact linL_bd l hv
  | .any, _ => trivial
theorem linL_bd {r : List Nat} : ∀ l : List SV, linL r l = true → bdL r.length (renL (idx r) l)
  | [], _ => trivial
  | v :: l, hv => by simp only [linL, Bool.and_eq_true] at hv; exact ⟨lin_bd v hv.1, linL_bd l hv.2⟩
end
def Blk.ren (r : Nat → Nat) : Blk → Blk
  | .lit row o => .lit (renL r row) o
  | b => b
def Blk.lin (r : List Nat) : Blk → Bool
  | .lit row _ => linL r row
  | _ => true
/-- The blocks of some labels, in their order, named anew. -/
def locH (r : List Nat) (h : List Blk) : List Nat → List Blk
  | [] => []
  | l :: s => (hget h l).ren (idx r) :: locH r h s
def locOk1 (r : List Nat) (h : List Blk) : List Nat → Bool
  | [] => true
  | l :: s => (hget h l).lin r && locOk1 r h s
def locOk (r : List Nat) (h : List Blk) : Bool := distinct r && locOk1 r h r

theorem locH_length (r : List Nat) (h : List Blk) : ∀ s, (locH r h s).length = s.length
  | [] => rfl
  | l :: s => by simp [locH, locH_length r h s]
theorem locH_get (r : List Nat) (h : List Blk) : ∀ (s : List Nat) (i : Nat), i < s.length → hget (locH r h s) i = (hget h (lget s i)).ren (idx r)
  | [], i, hi => by simp at hi
  | l :: s, 0, _ => rfl
  | l :: s, i + 1, hi => by simp only [List.length_cons] at hi; simp only [locH, hget, lget]; exact locH_get r h s i (by omega)
theorem locOk1_iff (r : List Nat) (h : List Blk) : ∀ s, locOk1 r h s = true ↔ ∀ l ∈ s, (hget h l).lin r = true
  | [] => by simp [locOk1]
  | l :: s => by simp [locOk1, locOk1_iff r h s]
theorem Blk.ren_live {r : Nat → Nat} {b : Blk} : (b.ren r).live ↔ b.live := by cases b <;> exact Iff.rfl
theorem Blk.ren_own {r : Nat → Nat} {b : Blk} : (b.ren r).own = b.own := by cases b <;> rfl
theorem renL_map (r : Nat → Nat) : ∀ l, renL r l = l.map (SV.ren r)
  | [] => rfl
  | v :: l => by rw [renL, renL_map r l]; rfl
theorem SV.ren_one {r : Nat → Nat} {v : SV} : (v.ren r).one = v.one := by cases v <;> rfl
theorem SV.ren_known {r : Nat → Nat} {v : SV} : (v.ren r).known = v.known := by cases v <;> rfl
theorem Blk.ren_cell {r : Nat → Nat} {b : Blk} {i j : Nat} {v : SV} (h : (b.ren r).cell i j = some v) : ∃ u, b.cell i j = some u ∧ v = u.ren r := by
  cases b with
  | lit row o =>
    simp only [Blk.ren, Blk.cell] at h ⊢
    split at h
    · rename_i e
      rw [if_pos e]
      rw [rget_eq, renL_map, List.getElem?_map] at h
      obtain ⟨u, hu, rfl⟩ := Option.map_eq_some_iff.1 h
      exact ⟨u, by rw [rget_eq]; exact hu, rfl⟩
    · cases h
  | rows n cap c f o =>
    simp only [Blk.ren] at h
    refine ⟨v, h, ?_⟩
    simp only [Blk.cell] at h
    split at h
    · obtain ⟨u, _, rfl⟩ := Option.map_eq_some_iff.1 h; rfl
    · cases h
  | cells n g o =>
    simp only [Blk.ren] at h
    refine ⟨v, h, ?_⟩
    simp only [Blk.cell] at h
    split at h
    · cases h; rfl
    · cases h
  | dead => cases h
theorem Blk.ren_room {r : Nat → Nat} {b : Blk} {i j : Nat} : (b.ren r).room i j ↔ b.room i j := by
  cases b with
  | lit row o => simp [Blk.ren, Blk.room, renL_map]
  | _ => exact Iff.rfl
/-- A block named anew, at places that go with the names. -/
theorem BlkOk.ren {w : World} {β β' : Nat → Loc} {L : Loc} {blk : Blk} (h : BlkOk w β L blk) {r : Nat → Nat} (hd : ∀ i j v, blk.cell i j = some v → den β' (v.ren r) = den β v) : BlkOk w β' L (blk.ren r) := by
  refine ⟨fun hl => h.there (Blk.ren_live.1 hl), ?_, fun i j v hv hk => ?_, fun ho => ?_⟩
  · have := h.fit
    cases blk <;> exact this
  · obtain ⟨u, hu, rfl⟩ := Blk.ren_cell hv
    have := h.cell i j u hu (by rwa [SV.ren_known] at hk)
    exact ⟨by rw [SV.ren_one]; exact this.1, by rw [hd i j u hu]; exact this.2⟩
  · rw [Blk.ren_own] at ho
    exact ⟨(h.wr ho).1, fun i j hr => (h.wr ho).2 i j (Blk.ren_room.1 hr)⟩
theorem Blk.lin_cell {r : List Nat} {b : Blk} {i j : Nat} {v : SV} (hb : b.lin r = true) (h : b.cell i j = some v) : v.lin r = true := by
  cases b with
  | lit row o =>
    simp only [Blk.cell] at h
    split at h
    · rw [rget_eq] at h
      simp only [Blk.lin] at hb
      have : ∀ l : List SV, linL r l = true → ∀ x ∈ l, x.lin r = true := by
        intro l
        induction l with
        | nil => intro _ x hx; cases hx
        | cons a l ih =>
          intro hl x hx
          simp only [linL, Bool.and_eq_true] at hl
          rcases List.mem_cons.1 hx with c | c
          · subst c; exact hl.1
          · exact ih hl.2 x c
      exact this row hb v (List.mem_of_getElem? h)
    · cases h
  | rows n cap c f o =>
    simp only [Blk.cell] at h
    split at h
    · obtain ⟨u, _, rfl⟩ := Option.map_eq_some_iff.1 h; rfl
    · cases h
  | cells n g o =>
    simp only [Blk.cell] at h
    split at h
    · cases h; rfl
    · cases h
  | dead => cases h

section
variable {w : World} {β : Nat → Loc} {h : List Blk}
theorem den_lin {r : List Nat} {v : SV} (hv : v.lin r = true) : den (fun i => β (lget r i)) (v.ren (idx r)) = den β v := by
  rw [← den_ren β (lget r), lin_ren (fun l hl => (idx_ok r l hl).2) v hv]
theorem denL_lin {r : List Nat} {l : List SV} (hv : linL r l = true) : denL (fun i => β (lget r i)) (renL (idx r) l) = denL β l := by
  rw [← denL_ren β (lget r), linL_ren (fun l hl => (idx_ok r l hl).2) l hv]
/-- Part of a heap, by itself. -/
theorem Holds.loc (H : Holds w β h) {r : List Nat} (ok : locOk r h = true) : Holds w (fun i => β (lget r i)) (locH r h r) := by
  simp only [locOk, Bool.and_eq_true] at ok
  obtain ⟨hd, h1⟩ := ok
  rw [locOk1_iff] at h1
  have hlen := locH_length r h r
  refine ⟨fun i => ?_, fun i j hi hj hne ho => ?_, fun i => ?_, H.gl, fun i ho => ?_⟩
  · rcases Nat.lt_or_ge i r.length with c | c
    · rw [locH_get r h r i c]
      exact (H.ok (lget r i)).ren fun i' j' v hv => den_lin (Blk.lin_cell (h1 _ (lget_mem c)) hv)
    · rw [hget_out (by omega)]
      exact ⟨fun c => c.elim, trivial, fun i j v hv => (by cases hv), fun c => (by cases c)⟩
  · have ci := hget_lt hi
    have cj := hget_lt hj
    rw [hlen] at ci cj
    rw [locH_get r h r i ci, Blk.ren_live] at hi
    rw [locH_get r h r j cj, Blk.ren_live] at hj
    rw [locH_get r h r i ci, locH_get r h r j cj, Blk.ren_own, Blk.ren_own] at ho
    exact H.inj _ _ hi hj (fun e => hne (lget_inj r hd i j ci cj e)) ho
  · rcases Nat.lt_or_ge i r.length with c | c
    · rw [locH_get r h r i c, hlen]
      have := h1 _ (lget_mem c)
      generalize hget h (lget r i) = b at *
      cases b <;> first | trivial | exact linL_bd _ this
    · rw [hget_out (by omega)]; trivial
  · have c := hget_lt (Blk.own_live ho)
    rw [hlen] at c
    rw [locH_get r h r i c, Blk.ren_own] at ho
    exact H.go _ ho

/-- The labels of a call's blocks, named as the caller names them. -/
def unl (r : List Nat) (N : Nat) (l : Nat) : Nat := if l < r.length then lget r l else N + (l - r.length)
def newB (u : Nat → Nat) : List Blk → List Blk
  | [] => []
  | b :: s => b.ren u :: newB u s
/-- The caller's blocks, behind a call. -/
def mrg (u : Nat → Nat) : List Nat → List Blk → List Blk → List Blk
  | [], h, hh => h ++ newB u hh
  | l :: s, h, b :: hh => mrg u s (hset h l (b.ren u)) hh
  | _ :: _, h, [] => h
theorem newB_length (u : Nat → Nat) : ∀ s, (newB u s).length = s.length
  | [] => rfl
  | _ :: s => by simp [newB, newB_length u s]
theorem newB_get (u : Nat → Nat) : ∀ s i, hget (newB u s) i = (hget s i).ren u
  | [], _ => rfl
  | _ :: _, 0 => rfl
  | _ :: s, i + 1 => by simp only [newB, hget]; exact newB_get u s i
theorem hget_app : ∀ (h s : List Blk) (m : Nat), hget (h ++ s) m = if m < h.length then hget h m else hget s (m - h.length)
  | [], s, m => by simp
  | b :: h, s, 0 => by simp [hget]
  | b :: h, s, m + 1 => by
    simp only [List.cons_append, hget, List.length_cons, hget_app h s m]
    by_cases c : m < h.length
    · rw [if_pos c, if_pos (by omega)]
    · rw [if_neg c, if_neg (by omega), show m + 1 - (h.length + 1) = m - h.length from by omega]
theorem mrg_length (u : Nat → Nat) : ∀ (r : List Nat) (h hh : List Blk), r.length ≤ hh.length → (mrg u r h hh).length = h.length + (hh.length - r.length)
  | [], h, hh, _ => by simp [mrg, newB_length]
  | l :: r, h, [], hl => by simp at hl
  | l :: r, h, b :: hh, hl => by simp only [List.length_cons] at hl; simp only [mrg]; rw [mrg_length u r _ hh (by omega), hset_length]; simp
theorem mrg_new (u : Nat → Nat) : ∀ (r : List Nat) (h hh : List Blk) (m : Nat), r.length ≤ hh.length → h.length ≤ m → hget (mrg u r h hh) m = (hget hh (m - h.length + r.length)).ren u
  | [], h, hh, m, _, hm => by simp only [mrg]; rw [hget_app, if_neg (by omega), newB_get]; rfl
  | l :: r, h, [], m, hl, _ => by simp at hl
  | l :: r, h, b :: hh, m, hl, hm => by
    simp only [List.length_cons] at hl
    simp only [mrg]
    rw [mrg_new u r _ hh m (by omega) (by rw [hset_length]; exact hm), hset_length]
    simp only [List.length_cons]
    rw [show m - h.length + (r.length + 1) = (m - h.length + r.length) + 1 from by omega]; rfl
theorem mrg_old (u : Nat → Nat) : ∀ (r : List Nat) (h hh : List Blk) (m : Nat), r.length ≤ hh.length → m < h.length → m ∉ r → hget (mrg u r h hh) m = hget h m
  | [], h, hh, m, _, hm, _ => by simp only [mrg]; rw [hget_app, if_pos hm]
  | l :: r, h, [], m, hl, _, _ => by simp at hl
  | l :: r, h, b :: hh, m, hl, hm, hn => by
    simp only [List.length_cons] at hl
    simp only [List.mem_cons, not_or] at hn
    simp only [mrg]
    rw [mrg_old u r _ hh m (by omega) (by rw [hset_length]; exact hm) hn.2, hget_hset, if_neg (fun c => hn.1 c.1)]
theorem mrg_at (u : Nat → Nat) : ∀ (r : List Nat) (h hh : List Blk) (i : Nat), r.length ≤ hh.length → distinct r = true → (∀ l ∈ r, l < h.length) → i < r.length → hget (mrg u r h hh) (lget r i) = (hget hh i).ren u
  | [], h, hh, i, _, _, _, hi => by simp at hi
  | l :: r, h, [], i, hl, _, _, _ => by simp at hl
  | l :: r, h, b :: hh, i, hl, hd, hr, hi => by
    simp only [List.length_cons] at hl hi
    simp only [distinct, Bool.and_eq_true, Bool.not_eq_true'] at hd
    have hn : l ∉ r := fun c => by have := (inL_iff l r).2 c; rw [hd.1] at this; cases this
    simp only [mrg]
    cases i with
    | zero =>
      simp only [lget, hget]
      rw [mrg_old u r _ hh l (by omega) (by rw [hset_length]; exact hr l (by simp)) hn, hget_hset, if_pos ⟨rfl, hr l (by simp)⟩]
    | succ i =>
      simp only [lget, hget]
      exact mrg_at u r _ hh i (by omega) hd.2 (fun k hk => by rw [hset_length]; exact hr k (by simp [hk])) (by omega)
end
end Go.Proofs.YtjhddlkfkicpaaaGreatDoor.Vx
