/- Abstract execution: new blocks, lengths, parts. Over any program. -/
import Derived.Test.YtdncopphjamilaaVe
import Derived.Laws.MakeOwn
import Derived.ArgAppend
namespace Go.Proofs.Ytdncopphjamilaa.Vx
open Go Go.RowKit Fl
set_option linter.unusedVariables false
set_option linter.unusedSimpArgs false

def boxR (v : SV) : OR :=
  match v with
  | .agg cs => (match allKnown cs with | true => .new True (.lit cs true) (fun m => .ptr m 0 0) | false => .bad)
  | .arr n g => .new True (.cells n g true) (fun m => .ptr m 0 0)
  | .tup _ => .bad
  | .any => .bad
  | v => .new True (.lit [v] true) (fun m => .ptr m 0 0)
def allocR (tab : Nat → Option TI) (t : Nat) : OR :=
  match tab t with
  | some ti => (match ti.z with
    | .row l => .new True (.lit (mapF l) true) (fun m => .ptr m 0 0)
    | .all v => .new True (.cells ti.size (fun _ => v) true) (fun m => .ptr m 0 0))
  | none => .bad

/-- A new block comes, and the value that is told. -/
def Makes (P : Program) (β : Nat → Loc) (n : Nat) (w : World) (s : Sem Value) (blk : Blk) (mk : Nat → SV) : Prop :=
  blk.bd n ∧ ∃ w' L, Ext w w' ∧ w.heap.size ≤ L.b ∧ BlkOk w' β L blk ∧ (mk n).bd (n + 1) ∧ s.run P w = .ok (den (bput β n L) (mk n)) w'

section
variable {P : Program} {β : Nat → Loc} {w : World} {h : List Blk} {tab : Nat → Option TI} {n : Nat}
theorem ext_alloc (w : World) (o : Obj) : Ext w (w.alloc o) := Below.alloc (Below.refl _ _) (Nat.le_refl _) o
theorem cell_new (w : World) (C : Array Value) (t : TypeId) (o : Nat) : (w.alloc (.cells C t)).cell? ⟨w.heap.size, o, none⟩ = C[o]? := World.cell?_alloc_new _ _ _ _
theorem lit_new (w : World) (row : List SV) (C : Array Value) (t : TypeId) (c : Nat) (h1 : ∀ v ∈ row, v.one = true) (hC : C.toList = row.map (den β)) : BlkOk (w.alloc (.cells C t)) β ⟨w.heap.size, 0, c⟩ (.lit row true) := by
  have hg : ∀ o, C[o]? = (row.map (den β))[o]? := fun o => by rw [← hC, Array.getElem?_toList]
  refine ⟨fun _ => by simp, trivial, fun i j v hv hk => ?_, fun _ => ⟨rfl, fun i j hr => ?_⟩⟩
  · simp only [Blk.cell] at hv
    split at hv
    · rename_i e; subst e
      rw [rget_eq] at hv
      refine ⟨h1 v (List.mem_of_getElem? hv), ?_⟩
      simp only [Nat.zero_mul, Nat.zero_add]
      rw [cell_new, hg, List.getElem?_map, hv]; rfl
    · cases hv
  · obtain ⟨rfl, hj⟩ := hr
    simp only [Nat.zero_mul, Nat.zero_add]
    rw [cell_new, hg, List.getElem?_map, List.getElem?_eq_getElem hj]
    simp
theorem cells_new (w : World) (m : Nat) (g : Nat → FV) (C : Array Value) (t : TypeId) (c : Nat) (hC : C.toList = (List.range m).map fun i => (g i).val) : BlkOk (w.alloc (.cells C t)) β ⟨w.heap.size, 0, c⟩ (.cells m g true) := by
  have hg : ∀ o, C[o]? = ((List.range m).map fun i => (g i).val)[o]? := fun o => by rw [← hC, Array.getElem?_toList]
  refine ⟨fun _ => by simp, trivial, fun i j v hv hk => ?_, fun _ => ⟨rfl, fun i j hr => ?_⟩⟩
  · simp only [Blk.cell] at hv
    split at hv
    · rename_i e; obtain ⟨rfl, hj⟩ := e
      cases hv
      refine ⟨rfl, ?_⟩
      simp only [Nat.zero_mul, Nat.zero_add]
      rw [cell_new, hg, List.getElem?_map, List.getElem?_range hj]; rfl
    · cases hv
  · obtain ⟨rfl, hj⟩ := hr
    simp only [Nat.zero_mul, Nat.zero_add]
    rw [cell_new, hg, List.getElem?_map, List.getElem?_range hj]
    simp
theorem boxR_ok {t : TypeId} {v : SV} {p : Prop} {blk : Blk} {mk : Nat → SV} (ho : boxR v = .new p blk mk) (hv : v.bd n) : Makes P β n w (Instr.box t (den β v)) blk mk := by
  have key : ∀ (C : Array Value), (Instr.box t (den β v)).run P w = .ok (.pointer (some ⟨w.heap.size, 0, none⟩)) (w.alloc (.cells (den β v).cells t)) := fun _ => by
    simp [Instr.box, newVar, newRow]
  have hone : v.one = true → boxR v = .new True (.lit [v] true) (fun m => .ptr m 0 0) := by
    intro h1; cases v <;> first | rfl | (simp [SV.one] at h1; done)
  by_cases h1 : v.one = true
  · rw [hone h1] at ho
    simp only [OR.new.injEq] at ho; obtain ⟨_, rfl, rfl⟩ := ho
    refine ⟨⟨hv, trivial⟩, _, ⟨w.heap.size, 0, 0⟩, ext_alloc w _, Nat.le_refl _, lit_new w [v] (den β v).cells t 0 (by simpa using h1) ?_, Nat.lt_succ_self n, ?_⟩
    · have := cellsOf_one (β := β) h1; unfold cellsOf at this; rw [this]; rfl
    · rw [key #[]]; simp [den, bput_self]
  · cases v with
    | agg cs =>
      simp only [boxR] at ho
      split at ho
      · rename_i hk
        rw [allKnown_iff] at hk
        simp only [OR.new.injEq] at ho; obtain ⟨_, rfl, rfl⟩ := ho
        refine ⟨hv, _, ⟨w.heap.size, 0, 0⟩, ext_alloc w _, Nat.le_refl _, lit_new w cs (den β (.agg cs)).cells t 0 hk (cellsOf_agg β cs), Nat.lt_succ_self n, ?_⟩
        rw [key #[]]; simp [den, bput_self]
      · cases ho
    | arr m g =>
      simp only [boxR, OR.new.injEq] at ho; obtain ⟨_, rfl, rfl⟩ := ho
      refine ⟨trivial, _, ⟨w.heap.size, 0, 0⟩, ext_alloc w _, Nat.le_refl _, cells_new w m g (den β (.arr m g)).cells t 0 (cellsOf_arr β m g), Nat.lt_succ_self n, ?_⟩
      rw [key #[]]; simp [den, bput_self]
    | tup l => cases ho
    | any => cases ho
    | _ => exact absurd rfl h1
theorem mapF_one (l : List FV) : ∀ v ∈ mapF l, v.one = true := fun v hv => by
  rw [mapF_eq] at hv; obtain ⟨u, _, rfl⟩ := List.mem_map.1 hv; rfl
theorem mapF_bd (l : List FV) (n : Nat) : bdL n (mapF l) := (bdL_iff _ _).2 fun v hv => by
  rw [mapF_eq] at hv; obtain ⟨u, _, rfl⟩ := List.mem_map.1 hv; trivial
theorem allocR_ok (ht : TabOk P tab) {t : Nat} {p : Prop} {blk : Blk} {mk : Nat → SV} (ho : allocR tab t = .new p blk mk) : Makes P β n w (Instr.alloc t true (.tuple #[])) blk mk := by
  unfold allocR at ho
  split at ho
  · rename_i ti hti
    obtain ⟨d, q, hu, _, hrow, hq, hsz, _, z, hz, hz2, hz3, _⟩ := ht _ _ hti
    have key : (Instr.alloc t true (.tuple #[])).run P w = .ok (.pointer (some ⟨w.heap.size, 0, none⟩)) (w.alloc (.cells z.cells t)) := by
      simp [Instr.alloc, zeroValue, typeInfo, hq, hz, newVar, newRow]
    split at ho
    · rename_i l hl
      simp only [OR.new.injEq] at ho; obtain ⟨_, rfl, rfl⟩ := ho
      rw [hl] at hz2
      refine ⟨mapF_bd l n, _, ⟨w.heap.size, 0, 0⟩, ext_alloc w _, Nat.le_refl _, lit_new w (mapF l) z.cells t 0 (mapF_one l) ?_, Nat.lt_succ_self n, ?_⟩
      · rw [hz2, mapF_eq, List.map_map]; rfl
      · rw [key]; simp [den, bput_self]
    · rename_i v hv
      simp only [OR.new.injEq] at ho; obtain ⟨_, rfl, rfl⟩ := ho
      rw [hv] at hz2
      refine ⟨trivial, _, ⟨w.heap.size, 0, 0⟩, ext_alloc w _, Nat.le_refl _, cells_new w ti.size (fun _ => v) z.cells t 0 ?_, Nat.lt_succ_self n, ?_⟩
      · rw [hz2]; simp only [TZ.cells]; rw [List.map_const', List.length_range]
      · rw [key]; simp [den, bput_self]
  · cases ho

/-! ### Slices -/
def rowOf (s : Nat) (v : SV) : Option (List FV) :=
  match v with
  | .f u => if s = 1 then some [u] else none
  | .agg cs => (match allF cs with | true => if cs.length = s then some (unF cs) else none | false => none)
  | _ => none
def rowsOf (s : Nat) : Nat → List (Nat × SV) → Option (List (List FV))
  | _, [] => some []
  | k, (i, v) :: r => if i = k then (match rowOf s v with
    | some row => (match rowsOf s (k + 1) r with
      | some rs => some (row :: rs)
      | none => none)
    | none => none) else none
def nthR : List (List FV) → Nat → List FV
  | [], _ => []
  | r :: _, 0 => r
  | _ :: l, n + 1 => nthR l n
theorem nthR_eq : ∀ (l : List (List FV)) (n : Nat), nthR l n = l.getD n []
  | [], _ => by simp [nthR]
  | _ :: _, 0 => by simp [nthR]
  | _ :: l, n + 1 => by simp [nthR, nthR_eq l n]
def noRow : Nat → List FV := fun _ => []
def buildSR (tab : Nat → Option TI) (t len : Nat) (parts : List (Nat × SV)) : OR :=
  match tab t with
  | some ti => (match ti.k with
    | .slice e => (match tab e with
      | some te => (match parts with
        | [] => if len = 0 then .new True (.rows 0 0 te.size noRow true) (fun m => .slc m 0 0 0) else .bad
        | parts => if te.size = 0 then .bad else if len * te.size ≤ 16777216 then (match rowsOf te.size 0 parts with
          | some rs => if parts.length = len then .new True (.rows len len te.size (nthR rs) true) (fun m => .slc m 0 len len) else .bad
          | none => .bad) else .bad)
      | none => .bad)
    | _ => .bad)
  | none => .bad

theorem rowOf_cells {s : Nat} {v : SV} {row : List FV} (h : rowOf s v = some row) : row.length = s ∧ cellsOf β v = row.map FV.val := by
  unfold rowOf at h
  split at h
  · split at h
    · cases h; rename_i e; exact ⟨e.symm, by simp [cellsOf, den]; cases ‹FV› <;> rfl⟩
    · cases h
  · rename_i cs
    split at h
    · rename_i ha
      split at h
      · rename_i hl; cases h
        have := allF_map cs ha
        refine ⟨by have := congrArg List.length this; simp at this; omega, ?_⟩
        rw [cellsOf_agg]
        conv => lhs; rw [this]
        rw [List.map_map]; rfl
      · cases h
    · cases h
  · cases h

theorem fold_set : ∀ (cs : List Value) (k off : Nat) (A : Array Value) (q : Nat), off + k + cs.length ≤ A.size →
    ((cs.zipIdx k).foldl (fun a p => a.setIfInBounds (off + p.2) p.1) A).size = A.size ∧
    ((cs.zipIdx k).foldl (fun a p => a.setIfInBounds (off + p.2) p.1) A)[q]? = if off + k ≤ q ∧ q < off + k + cs.length then cs[q - (off + k)]? else A[q]?
  | [], k, off, A, q, h => by
    refine ⟨rfl, ?_⟩
    rw [if_neg (by simp)]; rfl
  | c :: cs, k, off, A, q, h => by
    simp only [List.length_cons] at h
    have ih := fold_set cs (k + 1) off (A.setIfInBounds (off + k) c) q (by rw [Array.size_setIfInBounds]; omega)
    simp only [List.zipIdx_cons, List.foldl_cons]
    refine ⟨by rw [ih.1]; simp, ?_⟩
    rw [ih.2]
    simp only [List.length_cons]
    by_cases e : q = off + k
    · subst e
      rw [if_neg (by omega), if_pos (by omega)]
      have : off + k < A.size := by omega
      simp [this]
    · by_cases e2 : off + (k + 1) ≤ q ∧ q < off + (k + 1) + cs.length
      · rw [if_pos e2, if_pos (by omega)]
        rw [show q - (off + k) = (q - (off + (k + 1))) + 1 from by omega, List.getElem?_cons_succ]
      · rw [if_neg e2, if_neg (by omega), Array.getElem?_setIfInBounds_ne (by omega)]
theorem fill_rows {s len : Nat} : ∀ (parts : List (Nat × SV)) (rs : List (List FV)) (k : Nat) (A : Array Value), rowsOf s k parts = some rs → A.size = len * s → k + parts.length = len →
    ∃ C, Instr.fill (fun i => some (i * s, s)) A (parts.map fun p => (p.1, den β p.2)) = some C ∧ C.size = A.size ∧ rs.length = parts.length ∧ (∀ r ∈ rs, r.length = s) ∧ ∀ i j, j < s → C[i * s + j]? = if k ≤ i ∧ i < len then ((rs.getD (i - k) [])[j]?).map FV.val else A[i * s + j]?
  | [], rs, k, A, h, hA, hl => by
    simp only [rowsOf, Option.some.injEq] at h; subst h
    simp only [List.length_nil, Nat.add_zero] at hl
    refine ⟨A, rfl, rfl, rfl, by simp, fun i j hj => ?_⟩
    rw [if_neg (by omega)]
  | (i0, v) :: r, rs, k, A, h, hA, hl => by
    simp only [rowsOf] at h
    split at h
    · rename_i e; subst e
      split at h
      · rename_i row hrow
        split at h
        · rename_i rs' hrs
          cases h
          obtain ⟨hlen, hc⟩ := rowOf_cells (β := β) hrow
          simp only [List.length_cons] at hl
          have hsz : (den β v).cells.size = s := by have := congrArg List.length hc; simp [cellsOf] at this; omega
          have hmul : i0 * s + s ≤ len * s := by have := Nat.mul_le_mul_right s (show i0 + 1 ≤ len by omega); rwa [Nat.succ_mul] at this
          have hfs := fun q => fold_set (den β v).cells.toList 0 (i0 * s) A q (by simp [hsz]; omega)
          have hfold : (den β v).cells.zipIdx.foldl (fun cs x => cs.setIfInBounds (i0 * s + x.2) x.1) A = ((den β v).cells.toList.zipIdx 0).foldl (fun a p => a.setIfInBounds (i0 * s + p.2) p.1) A := by
            rw [← Array.foldl_toList]; simp
          obtain ⟨C, hC, hCs, hrl, hra, hCg⟩ := fill_rows r rs' (i0 + 1) ((den β v).cells.zipIdx.foldl (fun cs x => cs.setIfInBounds (i0 * s + x.2) x.1) A) hrs (by rw [hfold, (hfs 0).1]; exact hA) (by omega)
          refine ⟨C, ?_, by rw [hCs, hfold, (hfs 0).1], by simp [hrl], ?_, fun i j hj => ?_⟩
          · simp only [List.map_cons, Instr.fill]
            rw [if_neg (by simp [hsz]; omega)]
            exact hC
          · intro r' hr'; rcases List.mem_cons.1 hr' with rfl | c
            · exact hlen
            · exact hra r' c
          · rw [hCg i j hj]
            by_cases c : i0 + 1 ≤ i ∧ i < len
            · rw [if_pos c, if_pos (by omega), show i - i0 = (i - (i0 + 1)) + 1 from by omega]
              simp
            · rw [if_neg c, hfold, (hfs _).2]
              by_cases c2 : i = i0
              · subst c2
                rw [if_pos (by simp [hsz]; omega), if_pos (by omega)]
                rw [show i * s + j - (i * s + 0) = j from by omega]
                simp only [Nat.sub_self, List.getD_cons_zero]
                have : (den β v).cells.toList = row.map FV.val := hc
                rw [this, List.getElem?_map]
              · have hne : ¬ (i0 * s + 0 ≤ i * s + j ∧ i * s + j < i0 * s + 0 + (den β v).cells.toList.length) := by
                  simp only [Array.length_toList, hsz]
                  rcases Nat.lt_or_gt_of_ne c2 with q | q
                  · have := Nat.mul_le_mul_right s q; rw [Nat.succ_mul] at this; omega
                  · have := Nat.mul_le_mul_right s q; rw [Nat.succ_mul] at this; omega
                rw [if_neg hne, if_neg (by omega)]
        · cases h
      · cases h
    · cases h
theorem rows_new (w : World) (nn cap c : Nat) (f : Nat → List FV) (C : Array Value) (t : TypeId) (hn : nn ≤ cap) (hl : ∀ i, i < nn → (f i).length = c) (hs : C.size = cap * c)
    (hC : ∀ i j, i < nn → j < c → C[i * c + j]? = ((f i)[j]?).map FV.val) : BlkOk (w.alloc (.cells C t)) β ⟨w.heap.size, 0, c⟩ (.rows nn cap c f true) := by
  refine ⟨fun _ => by simp, ⟨rfl, hn, hl⟩, fun i j v hv hk => ?_, fun _ => ⟨rfl, fun i j hr => ?_⟩⟩
  · simp only [Blk.cell] at hv
    split at hv
    · rename_i hi
      obtain ⟨u, hu, rfl⟩ := Option.map_eq_some_iff.1 hv
      rw [rget_eq] at hu
      have hj : j < c := by have := (List.getElem?_eq_some_iff.1 hu).1; have := hl i hi; omega
      refine ⟨rfl, ?_⟩
      simp only [Nat.zero_add]
      rw [cell_new, hC i j hi hj, hu]; rfl
    · cases hv
  · obtain ⟨hi, hj⟩ := hr
    simp only [Nat.zero_add]
    rw [cell_new]
    have : i * c + j < C.size := by rw [hs]; have := Nat.mul_le_mul_right c hi; rw [Nat.succ_mul] at this; omega
    rw [Array.getElem?_eq_getElem this]
    simp
theorem buildSR_ok (ht : TabOk P tab) {t len : Nat} {parts : List (Nat × SV)} {p : Prop} {blk : Blk} {mk : Nat → SV} (ho : buildSR tab t len parts = .new p blk mk) :
    Makes P β n w (Instr.buildSlice t len (parts.map fun x => (x.1, den β x.2)).toArray) blk mk := by
  unfold buildSR at ho
  split at ho
  · rename_i ti hti
    obtain ⟨d, q, hu, hk, _⟩ := ht _ _ hti
    split at ho
    · rename_i e he
      rw [he] at hk; simp only [TK.ok] at hk; subst hk
      split at ho
      · rename_i te hte
        obtain ⟨d2, q2, hu2, _, _, hq2, hsz2, _, z, hz, hz2, hz3, _⟩ := ht _ _ hte
        split at ho
        · split at ho
          · rename_i hl; subst hl
            simp only [OR.new.injEq] at ho; obtain ⟨_, rfl, rfl⟩ := ho
            refine ⟨trivial, _, ⟨w.heap.size, 0, te.size⟩, ext_alloc w (.cells #[] e), Nat.le_refl _, rows_new w 0 0 te.size noRow #[] e (Nat.le_refl _) (by simp) (by simp) (by simp), Nat.lt_succ_self n, ?_⟩
            have h0 : (Array.map (fun i => (#[] : Array Value)[i % (#[] : Array Value).size]!) (Array.range 0)) = #[] := by simp [Array.range_zero']
            simp [Instr.buildSlice, run_underlying hu, sizeOf, typeInfo, hq2, Instr.fill, newRow, den, bput_self, Array.range_zero']
          · cases ho
        · rename_i hne
          split at ho
          · cases ho
          · rename_i hs0
            split at ho
            · rename_i hbig
              split at ho
              · rename_i rs hrs
                split at ho
                · rename_i hpl
                  simp only [OR.new.injEq] at ho; obtain ⟨_, rfl, rfl⟩ := ho
                  have hpos : 0 < parts.length := by
                    rcases Nat.eq_zero_or_pos parts.length with c | c
                    · exact absurd (List.length_eq_zero_iff.1 c) hne
                    · exact c
                  obtain ⟨C, hC, hCs, hrl, hra, hCg⟩ := fill_rows (β := β) (len := len) parts rs 0 ((Array.range (len * te.size)).map (z.cells[· % z.cells.size]!)) hrs (by simp) (by omega)
                  have hlr : ∀ i, i < len → (nthR rs i).length = te.size := fun i hi => by
                    rw [nthR_eq, List.getD_eq_getElem?_getD, List.getElem?_eq_getElem (by omega)]
                    exact hra _ (List.getElem_mem _)
                  refine ⟨trivial, _, ⟨w.heap.size, 0, te.size⟩, ext_alloc w (.cells C e), Nat.le_refl _, rows_new w len len te.size (nthR rs) C e (Nat.le_refl _) hlr (by rw [hCs]; simp) (fun i j hi hj => ?_), Nat.lt_succ_self n, ?_⟩
                  · rw [hCg i j hj, if_pos ⟨Nat.zero_le _, hi⟩, nthR_eq]; rfl
                  · have h24 : ¬ len * q2.size > 2 ^ 24 := by rw [hsz2]; simp; omega
                    have hn0 : ¬ (len * q2.size = 0) := by rw [hsz2]; intro c; rcases Nat.mul_eq_zero.1 c with c | c <;> omega
                    rw [← hsz2] at hC
                    simp only [Instr.buildSlice, Sem.run_bind, run_underlying hu, Result.andThen_ok, sizeOf, typeInfo, run_program, hq2, Sem.run_pure, if_neg h24, if_neg hn0, zeroValue, hz]
                    simp only [List.toList_toArray, hC, newRow, Sem.run_bind, run_newObj, Result.andThen_ok, Sem.run_pure, den, bput_self, Nat.zero_mul, Nat.add_zero]
                    rfl
                · cases ho
              · cases ho
            · cases ho
      · cases ho
    · cases ho
  · cases ho
end
end Go.Proofs.Ytdncopphjamilaa.Vx
