/- Abstract execution: structs that are built; localized heaps; what an operation does. Over any program. -/
import Derived.Test.YtdncopphjamilaaVh
import Derived.Laws.Tables
namespace Go.Proofs.Ytdncopphjamilaa.Vx
open Go Go.RowKit Fl
set_option linter.unusedVariables false
set_option linter.unusedSimpArgs false

/-! ### Building structs -/
def cellsL (v : SV) : Option (List SV) :=
  match v with
  | .agg l => some l
  | .arr _ _ => none
  | .tup _ => none
  | .any => none
  | v => some [v]
def bFill (tab : Nat → Option TI) (fs : List (Nat × Nat)) : List SV → List (Nat × SV) → Option (List SV)
  | row, [] => some row
  | row, (i, v) :: r => match rget fs i with
    | some q => (match tab q.2 with
      | some tf => (match cellsL v with
        | some cs => if cs.length = tf.size ∧ q.1 + cs.length ≤ row.length then bFill tab fs (splice row q.1 cs) r else none
        | none => none)
      | none => none)
    | none => none
def fsOk (tab : Nat → Option TI) : List (Nat × Nat) → Bool
  | [] => true
  | q :: r => (tab q.2).isSome && fsOk tab r
def constF (v : FV) : Nat → FV := fun _ => v
def buildR (tab : Nat → Option TI) (t : Nat) (parts : List (Nat × SV)) : OR :=
  match tab t with
  | some ti => (match ti.k with
    | .struct fs => (match fsOk tab fs with
      | true => (match ti.z with
        | .row l => (match bFill tab fs (mapF l) parts with
          | some row => (match allKnown row with | true => .val True (.agg row) | false => .bad)
          | none => .bad)
        | .all v => (match parts with
          | [] => .val True (.arr ti.size (constF v))
          | _ => .bad))
      | false => .bad)
    | .arr m e => (match tab e with
      | some _ => (match parts with
        | [] => (match ti.z with
          | .row l => .val True (.agg (mapF l))
          | .all v => .val True (.arr ti.size (constF v)))
        | _ => .bad)
      | none => .bad)
    | _ => .bad)
  | none => .bad

section
variable {P : Program} {β : Nat → Loc} {w : World} {h : List Blk} {tab : Nat → Option TI} {n : Nat}
theorem cellsL_ok {v : SV} {cs : List SV} (hv : cellsL v = some cs) (h1 : v.one = true ∨ ∃ l, v = .agg l) : cellsOf β v = cs.map (den β) ∧ (v.bd n → bdL n cs) := by
  rcases h1 with h1 | ⟨l, rfl⟩
  · have : cs = [v] := by cases v <;> simp_all [cellsL, SV.one]
    subst this
    exact ⟨cellsOf_one h1, fun hb => ⟨hb, trivial⟩⟩
  · simp only [cellsL, Option.some.injEq] at hv; subst hv
    exact ⟨cellsOf_agg β l, fun hb => hb⟩
theorem cellsL_kind {v : SV} {cs : List SV} (hv : cellsL v = some cs) : v.one = true ∨ ∃ l, v = .agg l := by
  cases v <;> first | (left; rfl) | (right; exact ⟨_, rfl⟩) | (simp [cellsL] at hv; done)
theorem bFill_ok {fs : List (Nat × Nat)} {place : Nat → Option (Nat × Nat)} (hp : ∀ i q tf, rget fs i = some q → tab q.2 = some tf → place i = some (q.1, tf.size)) :
    ∀ (parts : List (Nat × SV)) (row row' : List SV) (A : Array Value), bFill tab fs row parts = some row' → A.toList = row.map (den β) → bdL n row → (∀ x ∈ parts, x.2.bd n) →
      ∃ C, Instr.fill place A (parts.map fun x => (x.1, den β x.2)) = some C ∧ C.toList = row'.map (den β) ∧ bdL n row'
  | [], row, row', A, h, hA, hb, _ => by simp only [bFill, Option.some.injEq] at h; subst h; exact ⟨A, rfl, hA, hb⟩
  | (i, v) :: r, row, row', A, h, hA, hb, hpb => by
    simp only [bFill] at h
    split at h
    · rename_i q hq
      split at h
      · rename_i tf htf
        split at h
        · rename_i cs hcs
          split at h
          · rename_i hc
            obtain ⟨h1, h2⟩ := cellsL_ok (β := β) (n := n) hcs (cellsL_kind hcs)
            have hbv := h2 (hpb (i, v) (by simp))
            have hAs : A.size = row.length := by have := congrArg List.length hA; simpa using this
            have hcl : (den β v).cells.toList = cs.map (den β) := h1
            have hcz : (den β v).cells.size = cs.length := by have := congrArg List.length hcl; simpa using this
            have hfs := fun k => fold_set (den β v).cells.toList 0 q.1 A k (by simp [hcz]; omega)
            have hfold : (den β v).cells.zipIdx.foldl (fun cs x => cs.setIfInBounds (q.1 + x.2) x.1) A = ((den β v).cells.toList.zipIdx 0).foldl (fun a p => a.setIfInBounds (q.1 + p.2) p.1) A := by
              rw [← Array.foldl_toList]; simp
            have hnew : ((den β v).cells.zipIdx.foldl (fun cs x => cs.setIfInBounds (q.1 + x.2) x.1) A).toList = (splice row q.1 cs).map (den β) := by
              apply List.ext_getElem?
              intro k
              rw [Array.getElem?_toList, hfold, (hfs k).2, List.getElem?_map, splice_get _ _ _ _ hc.2]
              simp only [Nat.add_zero, Array.length_toList, hcz]
              split
              · rw [hcl, List.getElem?_map]
              · rw [← Array.getElem?_toList, hA, List.getElem?_map]
            obtain ⟨C, hC, hCl, hCb⟩ := bFill_ok hp r (splice row q.1 cs) row' _ h hnew ((bdL_iff _ _).2 fun u hu => by
              unfold splice at hu
              simp only [List.mem_append] at hu
              rcases hu with c | c | c
              · exact (bdL_iff _ _).1 hb u (List.mem_of_mem_take c)
              · exact (bdL_iff _ _).1 hbv u c
              · exact (bdL_iff _ _).1 hb u (List.mem_of_mem_drop c)) (fun x hx => hpb x (by simp [hx]))
            refine ⟨C, ?_, hCl, hCb⟩
            simp only [List.map_cons, Instr.fill, hp i q tf hq htf]
            rw [if_neg (by simp [hcz]; omega)]
            exact hC
          · cases h
        · cases h
      · cases h
    · cases h
theorem places_of (ht : TabOk P tab) : ∀ (F : List Field), fsOk tab (F.map fun f => (f.offset, f.type)) = true →
    ∃ places, F.mapM (fun f => (P.info? f.type).map fun i => (f.offset, i.size)) = some places ∧ ∀ i q tf, rget (F.map fun f => (f.offset, f.type)) i = some q → tab q.2 = some tf → places[i]? = some (q.1, tf.size)
  | [], _ => ⟨[], by simp, fun i q tf h => by simp [rget] at h⟩
  | f :: F, h => by
    simp only [List.map_cons, fsOk, Bool.and_eq_true] at h
    obtain ⟨places, hp, hg⟩ := places_of ht F h.2
    obtain ⟨ti, hti⟩ := Option.isSome_iff_exists.1 h.1
    obtain ⟨_, q, _, _, _, hq, hsz, _⟩ := ht _ _ hti
    refine ⟨(f.offset, q.size) :: places, by simp [List.mapM_cons, hq, hp], fun i q' tf hi htf => ?_⟩
    cases i with
    | zero =>
      simp only [List.map_cons, rget, Option.some.injEq] at hi; subst hi
      rw [hti] at htf; cases htf
      simp [hsz]
    | succ i =>
      simp only [List.map_cons, rget] at hi
      simpa using hg i q' tf hi htf
theorem buildR_ok (ht : TabOk P tab) {t : Nat} {parts : List (Nat × SV)} {p : Prop} {r : SV} (ho : buildR tab t parts = .val p r) (hb : ∀ x ∈ parts, x.2.bd n) :
    r.bd n ∧ (Instr.build t (parts.map fun x => (x.1, den β x.2)).toArray).run P w = .ok (den β r) w := by
  unfold buildR at ho
  split at ho
  · rename_i ti hti
    obtain ⟨d, q, hu, hk, _, hq, hsz, _, z, hz, hz2, hz3, _⟩ := ht _ _ hti
    split at ho
    · rename_i fs hfs
      rw [hfs] at hk
      obtain ⟨F, rfl, hF⟩ := hk
      split at ho
      · rename_i hok
        rw [← hF] at hok
        obtain ⟨places, hpl, hpg⟩ := places_of ht F.toList hok
        split at ho
        · rename_i l hl
          split at ho
          · rename_i row hrow
            split at ho
            · rename_i hak
              simp only [OR.val.injEq] at ho; obtain ⟨rfl, rfl⟩ := ho
              rw [hl] at hz2
              obtain ⟨C, hC, hCl, hCb⟩ := bFill_ok (β := β) (n := n) (place := fun i => places.toArray[i]?) (fun i q' tf h1 h2 => by simpa using hpg i q' tf (by rw [hF]; exact h1) h2) parts (mapF l) row z.cells hrow (by rw [hz2, mapF_eq, List.map_map]; rfl) (mapF_bd l n) hb
              refine ⟨hCb, ?_⟩
              have : P.built t (parts.map fun x => (x.1, den β x.2)) = some C := by
                simp only [Program.built, hq, hu, hz, hpl]; exact hC
              rw [run_build w t _ C this]
              congr 2
              apply Array.ext'
              simp [hCl, denL_map]
            · cases ho
          · cases ho
        · rename_i v hl
          split at ho
          · simp only [OR.val.injEq] at ho; obtain ⟨rfl, rfl⟩ := ho
            rw [hl] at hz2
            refine ⟨trivial, ?_⟩
            have : P.built t [] = some z.cells := by simp only [Program.built, hq, hu, hz, hpl]; rfl
            have h2 := run_build w t #[] z.cells this
            show (Instr.build t #[]).run P w = _
            rw [h2]
            congr 2
            apply Array.ext'
            rw [hz2]; simp only [TZ.cells, constF, List.map_const', List.length_range]
          · cases ho
      · cases ho
    · rename_i m e he
      rw [he] at hk; simp only [TK.ok] at hk; subst hk
      split at ho
      · rename_i te hte
        obtain ⟨_, q2, _, _, _, hq2, _⟩ := ht _ _ hte
        split at ho
        · have : P.built t [] = some z.cells := by simp only [Program.built, hq, hu, hz, hq2]; rfl
          have h2 := run_build w t #[] z.cells this
          split at ho
          · rename_i l hl
            simp only [OR.val.injEq] at ho; obtain ⟨rfl, rfl⟩ := ho
            rw [hl] at hz2
            refine ⟨mapF_bd l n, ?_⟩
            show (Instr.build t #[]).run P w = _
            rw [h2]
            congr 2
            apply Array.ext'
            rw [hz2]; simp [TZ.cells, denL_map, mapF_eq, den]
          · rename_i v hl
            simp only [OR.val.injEq] at ho; obtain ⟨rfl, rfl⟩ := ho
            rw [hl] at hz2
            refine ⟨trivial, ?_⟩
            show (Instr.build t #[]).run P w = _
            rw [h2]
            congr 2
            apply Array.ext'
            rw [hz2]; simp only [TZ.cells, constF, List.map_const', List.length_range]
        · cases ho
      · cases ho
    · cases ho
  · cases ho
end
end Go.Proofs.Ytdncopphjamilaa.Vx
