/- Abstract execution: stores, new blocks. Over any program. -/
import Derived.Test.YtdncopphjamilaaVd
namespace Go.Proofs.Ytdncopphjamilaa.Vx
open Go Go.RowKit Fl
set_option linter.unusedVariables false
set_option linter.unusedSimpArgs false

theorem heap_setCells (b k : Nat) (hk : k ≠ b) : ∀ (vs : List Value) (o : Nat) (w : World), (w.setCells b o vs).heap[k]? = w.heap[k]?
  | [], _, _ => rfl
  | v :: r, o, w => by
    unfold World.setCells
    rw [heap_setCells b k hk r]
    exact Below.heap_setCell _ _ _ _ hk
theorem size_setCells (b : Nat) : ∀ (vs : List Value) (o : Nat) (w : World), (w.setCells b o vs).heap.size = w.heap.size
  | [], _, _ => rfl
  | v :: r, o, w => by unfold World.setCells; rw [size_setCells b r]; simp
theorem rest_setCells (b : Nat) : ∀ (vs : List Value) (o : Nat) (w : World), (w.setCells b o vs).os = w.os ∧ (w.setCells b o vs).tape = w.tape ∧ (w.setCells b o vs).output = w.output
  | [], _, _ => ⟨rfl, rfl, rfl⟩
  | v :: r, o, w => by unfold World.setCells; exact rest_setCells b r (o + 1) _
theorem cell_other (w : World) {b k o : Nat} (hk : k ≠ b) (vs : List Value) (q : Nat) : (w.setCells b q vs).cell? ⟨k, o, none⟩ = w.cell? ⟨k, o, none⟩ :=
  World.cell?_of_block (w := w) (heap_setCells b k hk vs q w)

theorem BlkOk.other {w : World} {β : Nat → Loc} {L : Loc} {blk : Blk} (h : BlkOk w β L blk) {b : Nat} (hb : blk.live → L.b ≠ b) (q : Nat) (vs : List Value) : BlkOk (w.setCells b q vs) β L blk := by
  refine ⟨fun hl => by rw [size_setCells]; exact h.there hl, h.fit, fun i j v hv hk => ?_, fun ho => ⟨(h.wr ho).1, fun i j hr => ?_⟩⟩
  · have hl : blk.live := by cases blk <;> first | trivial | (simp [Blk.cell] at hv; done)
    rw [cell_other w (hb hl)]; exact h.cell i j v hv hk
  · have hl := Blk.own_live ho
    rw [cell_other w (hb hl), World.frozen?_setCells]; exact (h.wr ho).2 i j hr

theorem Holds.upd {w : World} {β : Nat → Loc} {h : List Blk} (H : Holds w β h) {l : Nat} (ho : (hget h l).own = true) {blk : Blk} {q : Nat} {vs : List Value}
    (ok : BlkOk (w.setCells (β l).b q vs) β (β l) blk) (hb : blk.bd h.length) (hlv : blk.own = true) : Holds (w.setCells (β l).b q vs) β (hset h l blk) := by
  have hl := hget_lt (Blk.own_live ho)
  have key : ∀ m, hget (hset h l blk) m = if m = l then blk else hget h m := fun m => by
    rw [hget_hset]; by_cases e : m = l
    · rw [if_pos ⟨e, hl⟩, if_pos e]
    · rw [if_neg (fun c => e c.1), if_neg e]
  refine ⟨fun m => ?_, fun m k hm hk hne hor => ?_, fun m => ?_⟩
  · rw [key]
    by_cases e : m = l
    · subst e; rw [if_pos rfl]; exact ok
    · rw [if_neg e]
      exact (H.ok m).other (fun hm => H.inj m l hm (Blk.own_live ho) e (.inr ho)) q vs
  · rw [key] at hm hk hor
    rw [key] at hor
    by_cases e : m = l
    · subst e
      have : k ≠ m := fun c => hne c.symm
      rw [if_neg this] at hk
      exact H.inj m k (Blk.own_live ho) hk hne (.inl ho)
    · rw [if_neg e] at hm hor
      by_cases e' : k = l
      · subst e'; exact H.inj m k hm (Blk.own_live ho) hne (.inr ho)
      · rw [if_neg e'] at hk hor; exact H.inj m k hm hk hne hor
  · rw [key, hset_length]
    split
    · exact hb
    · exact H.bd m
theorem Since.upd {w0 : World} {β0 : Nat → Loc} {h0 : List Blk} {w : World} {β : Nat → Loc} {h : List Blk} (s : Since w0 β0 h0 w β h) {l : Nat} (ho : (hget h l).own = true) {blk : Blk} (hb : blk.own = true) (q : Nat) (vs : List Value) :
    Since w0 β0 h0 (w.setCells (β l).b q vs) β (hset h l blk) := by
  obtain ⟨r1, r2, r3⟩ := rest_setCells (β l).b vs q w
  refine ⟨r1.trans s.os, r2.trans s.tape, r3.trans s.output, by rw [size_setCells]; exact s.size, by rw [hset_length]; exact s.len, s.same, fun b hb2 hn => ?_, fun m hl hm => ?_, fun m hl hm => ?_, fun m hl hm => ?_⟩
  · rw [heap_setCells _ _ ?_]
    · exact s.frame b hb2 hn
    · rcases s.own l ho with c | ⟨l0, o0, e0⟩
      · omega
      · intro e; exact hn l0 o0 (by rw [e0, e])
  · rw [hget_hset] at hm
    split at hm
    · rename_i c; exact s.liv m hl (by rw [c.1]; exact Blk.own_live ho)
    · exact s.liv m hl hm
  · rw [hget_hset] at hm
    split at hm
    · rename_i c; exact s.ownk m hl (by rw [c.1]; exact ho)
    · exact s.ownk m hl hm
  · rw [hget_hset] at hm
    split at hm
    · rename_i c; rw [c.1] at hl ⊢; exact s.fresh l hl (Blk.own_live ho)
    · exact s.fresh m hl hm

def updR (f : Nat → List FV) (i j : Nat) (u : FV) : Nat → List FV := fun k => if k = i then rset (f i) j u else f k
def updW (f : Nat → List FV) (i : Nat) (us : List FV) : Nat → List FV := fun k => if k = i then us else f k
def updC (g : Nat → FV) (j : Nat) (u : FV) : Nat → FV := fun k => if k = j then u else g k
def updA (g : Nat → FV) (j s : Nat) (g2 : Nat → FV) : Nat → FV := fun k => if j ≤ k ∧ k < j + s then g2 (k - j) else g k

def stOne (blk : Blk) (l i j : Nat) (v : SV) : OR :=
  match blk with
  | .lit row own => (match own with
    | true => (match i with
      | 0 => if j < row.length then (match v.one with | true => .upd True l (.lit (rset row j v) true) | false => .bad) else .bad
      | _ => .bad)
    | false => .bad)
  | .rows n cap c f own => (match own with
    | true => (match v with
      | .f u => if j < c then .upd (i < n) l (.rows n cap c (updR f i j u) true) else .bad
      | _ => .bad)
    | false => .bad)
  | .cells n g own => (match own with
    | true => (match i with
      | 0 => (match v with
        | .f u => .upd (j < n) l (.cells n (updC g j u) true)
        | _ => .bad)
      | _ => .bad)
    | false => .bad)
  | .dead => .bad
section
variable {P : Program} {β : Nat → Loc} {w : World} {h : List Blk} {tab : Nat → Option TI} {n : Nat}
theorem cell_set (w : World) {b o : Nat} (hs : (w.cell? ⟨b, o, none⟩).isSome = true) (v : Value) (o' : Nat) : (w.setCells b o [v]).cell? ⟨b, o', none⟩ = if o' = o then some v else w.cell? ⟨b, o', none⟩ := by
  by_cases e : o' = o
  · subst e
    rw [if_pos rfl]
    have := World.cell?_setCells_in b [v] o' w (fun j hj => by simp at hj; subst hj; exact hs) 0 (by simp)
    simpa using this
  · rw [if_neg e, World.cell?_setCells_out b [v] o w ⟨b, o', none⟩ (fun _ _ => by show o' < o ∨ o + 1 ≤ o'; omega)]
theorem SV.bd_f {v : FV} {n : Nat} : (SV.f v).bd n := trivial
theorem rset_length {α : Type} (l : List α) (n : Nat) (u : α) : (rset l n u).length = l.length := by rw [rset_eq]; simp
theorem rget_rset {α : Type} (l : List α) (n m : Nat) (u : α) : rget (rset l n u) m = if m = n ∧ n < l.length then some u else rget l m := by
  rw [rget_eq, rset_eq, rget_eq, List.getElem?_set]
  by_cases e : n = m
  · subst e
    by_cases c : n < l.length
    · simp [c]
    · simp [c]
  · rw [if_neg e, if_neg (fun c => e c.1.symm)]
theorem stOne_ok (H : Holds w β h) {l i j : Nat} {v : SV} {p : Prop} {l' : Nat} {blk : Blk} (ho : stOne (hget h l) l i j v = .upd p l' blk) (hp : p) (hv : v.bd h.length) :
    l' = l ∧ v.one = true ∧ (hget h l).own = true ∧ (hget h l).room i j ∧ blk.own = true ∧ blk.bd h.length ∧ BlkOk (w.setCells (β l).b ((β l).lo + i * (β l).c + j) [den β v]) β (β l) blk := by
  have hb := H.bd l
  have hk := H.ok l
  generalize hget h l = B at *
  cases B with
  | lit row o =>
    simp only [stOne] at ho
    split at ho
    · split at ho
      · split at ho
        · rename_i hj
          split at ho
          · rename_i h1
            simp only [OR.upd.injEq] at ho; obtain ⟨rfl, rfl, rfl⟩ := ho
            have hrm : (Blk.lit row true).room 0 j := ⟨rfl, hj⟩
            refine ⟨rfl, h1, rfl, hrm, rfl, ?_, ?_⟩
            · exact (bdL_iff _ _).2 fun u hu => by
                rw [rset_eq] at hu
                rcases List.mem_or_eq_of_mem_set hu with c | c
                · exact (bdL_iff _ _).1 hb u c
                · rw [c]; exact hv
            · have hs := ((hk.wr rfl).2 0 j hrm).1
              refine ⟨fun hl => by rw [size_setCells]; exact hk.there hl, trivial, fun i' j' u hu hkn => ?_, fun _ => ⟨(hk.wr rfl).1, fun i' j' hr => ?_⟩⟩
              · simp only [Blk.cell] at hu
                split at hu
                · rename_i e; subst e
                  rw [rget_rset] at hu
                  rw [cell_set w hs]
                  by_cases c : j' = j
                  · subst c
                    rw [if_pos ⟨rfl, hj⟩] at hu; cases hu
                    exact ⟨h1, by rw [if_pos rfl]⟩
                  · rw [if_neg (fun q => c q.1)] at hu
                    rw [if_neg (by omega)]
                    exact hk.cell 0 j' u (by simp [Blk.cell, hu]) hkn
                · cases hu
              · have hr' : (Blk.lit row true).room i' j' := ⟨hr.1, by have := hr.2; rw [rset_length] at this; exact this⟩
                have := (hk.wr rfl).2 i' j' hr'
                exact ⟨World.isSome_setCells _ _ _ _ _ this.1, by rw [World.frozen?_setCells]; exact this.2⟩
          · cases ho
        · cases ho
      · cases ho
    · cases ho
  | rows m cap c f o =>
    simp only [stOne] at ho
    split at ho
    · split at ho
      · rename_i u
        split at ho
        · rename_i hj
          simp only [OR.upd.injEq] at ho; obtain ⟨rfl, rfl, rfl⟩ := ho
          have hfit := hk.fit
          have hrm : (Blk.rows m cap c f true).room i j := ⟨Nat.lt_of_lt_of_le hp hfit.2.1, hj⟩
          have hlen := hfit.2.2 i hp
          refine ⟨rfl, rfl, rfl, hrm, rfl, trivial, ?_⟩
          have hs := ((hk.wr rfl).2 i j hrm).1
          refine ⟨fun hl => by rw [size_setCells]; exact hk.there hl, ⟨hfit.1, hfit.2.1, fun k hkm => ?_⟩, fun i' j' u' hu hkn => ?_, fun _ => ⟨(hk.wr rfl).1, fun i' j' hr => ?_⟩⟩
          · unfold updR; split
            · rw [rset_length]; exact hlen
            · exact hfit.2.2 k hkm
          · simp only [Blk.cell] at hu
            split at hu
            · rename_i him
              obtain ⟨x, hx, rfl⟩ := Option.map_eq_some_iff.1 hu
              have hj' : j' < c := by
                have := hfit.2.2 i' him
                rw [rget_eq] at hx
                have := (List.getElem?_eq_some_iff.1 hx).1
                unfold updR at this; split at this
                · rw [rset_length] at this; omega
                · omega
              rw [cell_set w hs]
              by_cases e : i' = i
              · subst e
                unfold updR at hx; rw [if_pos rfl, rget_rset] at hx
                by_cases e2 : j' = j
                · subst e2
                  rw [if_pos ⟨rfl, by omega⟩] at hx; cases hx
                  exact ⟨rfl, by rw [if_pos rfl]⟩
                · rw [if_neg (fun q => e2 q.1)] at hx
                  rw [if_neg (by omega)]
                  exact hk.cell i' j' _ (by simp [Blk.cell, him, hx]) rfl
              · unfold updR at hx; rw [if_neg e] at hx
                have hne : (β l).lo + i' * (β l).c + j' ≠ (β l).lo + i * (β l).c + j := by
                  rw [hfit.1]
                  rcases Nat.lt_or_gt_of_ne e with q | q
                  · have := Nat.mul_le_mul_right c q; rw [Nat.succ_mul] at this; omega
                  · have := Nat.mul_le_mul_right c q; rw [Nat.succ_mul] at this; omega
                rw [if_neg hne]
                exact hk.cell i' j' _ (by simp [Blk.cell, him, hx]) rfl
            · cases hu
          · have := (hk.wr rfl).2 i' j' hr
            exact ⟨World.isSome_setCells _ _ _ _ _ this.1, by rw [World.frozen?_setCells]; exact this.2⟩
        · cases ho
      · cases ho
    · cases ho
  | cells m g o =>
    simp only [stOne] at ho
    split at ho
    · split at ho
      · split at ho
        · rename_i u
          simp only [OR.upd.injEq] at ho; obtain ⟨rfl, rfl, rfl⟩ := ho
          have hrm : (Blk.cells m g true).room 0 j := ⟨rfl, hp⟩
          refine ⟨rfl, rfl, rfl, hrm, rfl, trivial, ?_⟩
          have hs := ((hk.wr rfl).2 0 j hrm).1
          refine ⟨fun hl => by rw [size_setCells]; exact hk.there hl, trivial, fun i' j' u' hu hkn => ?_, fun _ => ⟨(hk.wr rfl).1, fun i' j' hr => ?_⟩⟩
          · simp only [Blk.cell] at hu
            split at hu
            · rename_i c; obtain ⟨rfl, hj'⟩ := c
              cases hu
              rw [cell_set w hs]
              unfold updC
              by_cases e : j' = j
              · subst e; rw [if_pos rfl, if_pos rfl]; exact ⟨rfl, rfl⟩
              · rw [if_neg e, if_neg (by omega)]
                exact hk.cell 0 j' _ (by simp [Blk.cell, hj']) rfl
            · cases hu
          · have := (hk.wr rfl).2 i' j' hr
            exact ⟨World.isSome_setCells _ _ _ _ _ this.1, by rw [World.frozen?_setCells]; exact this.2⟩
        · cases ho
      · cases ho
    · cases ho
  | dead => cases ho
end

def splice {α : Type} (row : List α) (j : Nat) (cs : List α) : List α := row.take j ++ (cs ++ row.drop (j + cs.length))
def allF : List SV → Bool
  | [] => true
  | .f _ :: r => allF r
  | _ :: _ => false
def unF : List SV → List FV
  | [] => []
  | .f v :: r => v :: unF r
  | _ :: r => unF r
theorem allF_map : ∀ l, allF l = true → l = (unF l).map .f
  | [], _ => rfl
  | .f v :: r, h => by simp only [unF, List.map_cons]; rw [← allF_map r (by simpa [allF] using h)]
  | .ptr .. :: r, h | .slc .. :: r, h | .fn .. :: r, h | .agg .. :: r, h | .arr .. :: r, h | .tup .. :: r, h | .any :: r, h => by simp [allF] at h
def stAgg (blk : Blk) (l i j s : Nat) (v : SV) : OR :=
  match blk with
  | .lit row own => (match own with
    | true => (match i with
      | 0 => (match v with
        | .agg cs => if cs.length = s ∧ j + cs.length ≤ row.length then (match allKnown cs with | true => .upd True l (.lit (splice row j cs) true) | false => .bad) else .bad
        | _ => .bad)
      | _ => .bad)
    | false => .bad)
  | .rows n cap c f own => (match own with
    | true => (match j with
      | 0 => (match v with
        | .agg cs => if cs.length = s ∧ s = c then (match allF cs with | true => .upd (i < n) l (.rows n cap c (updW f i (unF cs)) true) | false => .bad) else .bad
        | _ => .bad)
      | _ => .bad)
    | false => .bad)
  | .cells n g own => (match own with
    | true => (match i with
      | 0 => (match v with
        | .arr m g2 => if m = s then .upd (j + m ≤ n) l (.cells n (if j = 0 ∧ m = n then g2 else updA g j m g2) true) else .bad
        | _ => .bad)
      | _ => .bad)
    | false => .bad)
  | .dead => .bad

section
variable {P : Program} {β : Nat → Loc} {w : World} {h : List Blk} {tab : Nat → Option TI} {n : Nat}
theorem cells_set (w : World) {b o : Nat} (vs : List Value) (hs : ∀ k, k < vs.length → (w.cell? ⟨b, o + k, none⟩).isSome = true) (o' : Nat) :
    (w.setCells b o vs).cell? ⟨b, o', none⟩ = if o ≤ o' ∧ o' < o + vs.length then vs[o' - o]? else w.cell? ⟨b, o', none⟩ := by
  by_cases e : o ≤ o' ∧ o' < o + vs.length
  · rw [if_pos e]
    have := World.cell?_setCells_in b vs o w hs (o' - o) (by omega)
    rw [show o + (o' - o) = o' from by omega] at this
    rw [this, List.getElem?_eq_getElem (by omega)]
  · rw [if_neg e, World.cell?_setCells_out b vs o w ⟨b, o', none⟩ (fun _ _ => by show o' < o ∨ o + vs.length ≤ o'; omega)]

/-- The cells of a value, as it lies in memory. -/
def cellsOf (β : Nat → Loc) (v : SV) : List Value := (den β v).cells.toList
theorem cellsOf_agg (β : Nat → Loc) (l : List SV) : cellsOf β (.agg l) = l.map (den β) := by simp [cellsOf, den, Value.cells, denL_map]
theorem cellsOf_arr (β : Nat → Loc) (n : Nat) (g : Nat → FV) : cellsOf β (.arr n g) = (List.range n).map fun i => (g i).val := by simp [cellsOf, den, Value.cells]
theorem cellsOf_one {β : Nat → Loc} {v : SV} (h : v.one = true) : cellsOf β v = [den β v] := by
  unfold cellsOf
  have := SV.one_den (β := β) h
  generalize den β v = u at *
  cases u <;> first | rfl | (simp [Value.oneCell'] at this; done)

theorem splice_get {α : Type} (row cs : List α) (j k : Nat) (hj : j + cs.length ≤ row.length) : (splice row j cs)[k]? = if j ≤ k ∧ k < j + cs.length then cs[k - j]? else row[k]? := by
  unfold splice
  rw [List.getElem?_append]
  have hl : (row.take j).length = j := by simp; omega
  rw [hl]
  by_cases c : k < j
  · rw [if_pos c, if_neg (by omega), List.getElem?_take, if_pos c]
  · rw [if_neg c, List.getElem?_append]
    by_cases d : k - j < cs.length
    · rw [if_pos d, if_pos (by omega)]
    · rw [if_neg d, if_neg (by omega), List.getElem?_drop]; congr 1; omega
theorem splice_length {α : Type} (row cs : List α) (j : Nat) (hj : j + cs.length ≤ row.length) : (splice row j cs).length = row.length := by
  unfold splice; simp; omega

theorem stAgg_ok (H : Holds w β h) {l i j s : Nat} {v : SV} {p : Prop} {l' : Nat} {blk : Blk} (ho : stAgg (hget h l) l i j s v = .upd p l' blk) (hp : p) (hv : v.bd h.length) :
    l' = l ∧ (cellsOf β v).length = s ∧ (∀ u ∈ cellsOf β v, u.oneCell' = true) ∧ (hget h l).own = true ∧ (∀ k, k < s → (hget h l).room i (j + k)) ∧ blk.own = true ∧ blk.bd h.length ∧ BlkOk (w.setCells (β l).b ((β l).lo + i * (β l).c + j) (cellsOf β v)) β (β l) blk := by
  have hb := H.bd l
  have hk := H.ok l
  generalize hget h l = B at *
  cases B with
  | lit row o =>
    simp only [stAgg] at ho
    split at ho
    · split at ho
      · split at ho
        · rename_i cs
          split at ho
          · rename_i hj
            split at ho
            · rename_i h1
              rw [allKnown_iff] at h1
              simp only [OR.upd.injEq] at ho; obtain ⟨rfl, rfl, rfl⟩ := ho
              have hce := cellsOf_agg β cs
              have hlen : (cellsOf β (.agg cs)).length = cs.length := by rw [hce]; simp
              have hrm : ∀ k, k < s → (Blk.lit row true).room 0 (j + k) := fun k hk => ⟨rfl, by omega⟩
              refine ⟨rfl, by omega, fun u hu => ?_, rfl, hrm, rfl, ?_, ?_⟩
              · rw [hce] at hu; obtain ⟨x, hx, rfl⟩ := List.mem_map.1 hu; exact SV.one_den (h1 x hx)
              · refine (bdL_iff _ _).2 fun u hu => ?_
                unfold splice at hu
                simp only [List.mem_append] at hu
                rcases hu with c | c | c
                · exact (bdL_iff _ _).1 hb u (List.mem_of_mem_take c)
                · exact (bdL_iff _ _).1 hv u c
                · exact (bdL_iff _ _).1 hb u (List.mem_of_mem_drop c)
              · have hs : ∀ k, k < (cellsOf β (.agg cs)).length → (w.cell? ⟨(β l).b, (β l).lo + 0 * (β l).c + j + k, none⟩).isSome = true := fun k hk2 => by
                  have := ((hk.wr rfl).2 0 (j + k) (hrm k (by omega))).1
                  rwa [← Nat.add_assoc] at this
                refine ⟨fun hl => by rw [size_setCells]; exact hk.there hl, trivial, fun i' j' u hu hkn => ?_, fun _ => ⟨(hk.wr rfl).1, fun i' j' hr => ?_⟩⟩
                · simp only [Blk.cell] at hu
                  split at hu
                  · rename_i e; subst e
                    rw [rget_eq, splice_get _ _ _ _ hj.2] at hu
                    rw [cells_set w _ hs, hlen]
                    split at hu
                    · rename_i c
                      rw [if_pos (by omega), hce, List.getElem?_map, show (β l).lo + 0 * (β l).c + j' - ((β l).lo + 0 * (β l).c + j) = j' - j from by omega, hu]
                      exact ⟨h1 u (List.mem_of_getElem? hu), rfl⟩
                    · rename_i c
                      rw [if_neg (by omega)]
                      exact hk.cell 0 j' u (by simp [Blk.cell, rget_eq, hu]) hkn
                  · cases hu
                · have hr' : (Blk.lit row true).room i' j' := ⟨hr.1, by have := hr.2; rw [splice_length _ _ _ hj.2] at this; exact this⟩
                  have := (hk.wr rfl).2 i' j' hr'
                  exact ⟨World.isSome_setCells _ _ _ _ _ this.1, by rw [World.frozen?_setCells]; exact this.2⟩
            · cases ho
          · cases ho
        · cases ho
      · cases ho
    · cases ho
  | rows m cap c f o =>
    simp only [stAgg] at ho
    split at ho
    · split at ho
      · split at ho
        · rename_i cs
          split at ho
          · rename_i hj
            split at ho
            · rename_i h1
              simp only [OR.upd.injEq] at ho; obtain ⟨rfl, rfl, rfl⟩ := ho
              have hfit := hk.fit
              have hce : cellsOf β (.agg cs) = (unF cs).map FV.val := by
                rw [cellsOf_agg, allF_map cs h1, List.map_map]
                have : unF (List.map SV.f (unF cs)) = unF cs := by rw [← allF_map cs h1]
                rw [this]; rfl
              have hul : (unF cs).length = cs.length := by have := congrArg List.length (allF_map cs h1); simpa using this.symm
              have hlen : (cellsOf β (.agg cs)).length = c := by rw [hce]; simp; omega
              have hrm : ∀ k, k < s → (Blk.rows m cap c f true).room i (0 + k) := fun k hk => ⟨Nat.lt_of_lt_of_le hp hfit.2.1, by omega⟩
              refine ⟨rfl, by omega, fun u hu => ?_, rfl, hrm, rfl, trivial, ?_⟩
              · rw [hce] at hu; obtain ⟨x, hx, rfl⟩ := List.mem_map.1 hu; exact FV.one x
              · have hs : ∀ k, k < (cellsOf β (.agg cs)).length → (w.cell? ⟨(β l).b, (β l).lo + i * (β l).c + 0 + k, none⟩).isSome = true := fun k hk2 => by
                  have := ((hk.wr rfl).2 i (0 + k) (hrm k (by omega))).1
                  rwa [← Nat.add_assoc] at this
                refine ⟨fun hl => by rw [size_setCells]; exact hk.there hl, ⟨hfit.1, hfit.2.1, fun k hkm => ?_⟩, fun i' j' u hu hkn => ?_, fun _ => ⟨(hk.wr rfl).1, fun i' j' hr => ?_⟩⟩
                · unfold updW; split
                  · omega
                  · exact hfit.2.2 k hkm
                · simp only [Blk.cell] at hu
                  split at hu
                  · rename_i him
                    obtain ⟨x, hx, rfl⟩ := Option.map_eq_some_iff.1 hu
                    rw [rget_eq] at hx
                    have hj' : j' < c := by
                      have := (List.getElem?_eq_some_iff.1 hx).1
                      unfold updW at this; split at this
                      · omega
                      · have := hfit.2.2 i' him; omega
                    rw [cells_set w _ hs, hlen, hfit.1]
                    by_cases e : i' = i
                    · subst e
                      unfold updW at hx; rw [if_pos rfl] at hx
                      rw [if_pos (by omega), hce, List.getElem?_map, show (β l).lo + i' * c + j' - ((β l).lo + i' * c + 0) = j' from by omega, hx]
                      exact ⟨rfl, rfl⟩
                    · unfold updW at hx; rw [if_neg e] at hx
                      have hne : ¬ ((β l).lo + i * c + 0 ≤ (β l).lo + i' * c + j' ∧ (β l).lo + i' * c + j' < (β l).lo + i * c + 0 + c) := by
                        rcases Nat.lt_or_gt_of_ne e with q | q
                        · have := Nat.mul_le_mul_right c q; rw [Nat.succ_mul] at this; omega
                        · have := Nat.mul_le_mul_right c q; rw [Nat.succ_mul] at this; omega
                      rw [if_neg hne, ← hfit.1]
                      exact hk.cell i' j' _ (by simp [Blk.cell, him, rget_eq, hx]) rfl
                  · cases hu
                · have := (hk.wr rfl).2 i' j' hr
                  exact ⟨World.isSome_setCells _ _ _ _ _ this.1, by rw [World.frozen?_setCells]; exact this.2⟩
            · cases ho
          · cases ho
        · cases ho
      · cases ho
    · cases ho
  | cells m g o =>
    simp only [stAgg] at ho
    split at ho
    · split at ho
      · split at ho
        · rename_i q g2
          split at ho
          · rename_i hq
            simp only [OR.upd.injEq] at ho; obtain ⟨rfl, rfl, rfl⟩ := ho
            have hce := cellsOf_arr β q g2
            have hlen : (cellsOf β (.arr q g2)).length = q := by rw [hce]; simp
            have hrm : ∀ k, k < s → (Blk.cells m g true).room 0 (j + k) := fun k hk => ⟨rfl, by omega⟩
            refine ⟨rfl, by omega, fun u hu => ?_, rfl, hrm, rfl, trivial, ?_⟩
            · rw [hce] at hu; obtain ⟨x, hx, rfl⟩ := List.mem_map.1 hu; exact FV.one _
            · have hs : ∀ k, k < (cellsOf β (.arr q g2)).length → (w.cell? ⟨(β l).b, (β l).lo + 0 * (β l).c + j + k, none⟩).isSome = true := fun k hk2 => by
                have := ((hk.wr rfl).2 0 (j + k) (hrm k (by omega))).1
                rwa [← Nat.add_assoc] at this
              refine ⟨fun hl => by rw [size_setCells]; exact hk.there hl, trivial, fun i' j' u hu hkn => ?_, fun _ => ⟨(hk.wr rfl).1, fun i' j' hr => ?_⟩⟩
              · simp only [Blk.cell] at hu
                split at hu
                · rename_i c; obtain ⟨rfl, hj'⟩ := c
                  cases hu
                  rw [cells_set w _ hs, hlen]
                  have hG : (if j = 0 ∧ q = m then g2 else updA g j q g2) j' = if j ≤ j' ∧ j' < j + q then g2 (j' - j) else g j' := by
                    split
                    · rename_i c; rw [if_pos (by omega), c.1]; simp
                    · rfl
                  rw [hG]
                  by_cases e : j ≤ j' ∧ j' < j + q
                  · rw [if_pos e, if_pos (by omega), hce, List.getElem?_map, show (β l).lo + 0 * (β l).c + j' - ((β l).lo + 0 * (β l).c + j) = j' - j from by omega, List.getElem?_range (by omega)]
                    exact ⟨rfl, rfl⟩
                  · rw [if_neg e, if_neg (by omega)]
                    exact hk.cell 0 j' _ (if_pos ⟨rfl, hj'⟩) rfl
                · cases hu
              · have := (hk.wr rfl).2 i' j' hr
                exact ⟨World.isSome_setCells _ _ _ _ _ this.1, by rw [World.frozen?_setCells]; exact this.2⟩
          · cases ho
        · cases ho
      · cases ho
    · cases ho
  | dead => cases ho

def stR (tab : Nat → Option TI) (h : List Blk) (t : Nat) (x v : SV) : OR :=
  match x with
  | .ptr l i j => (match tab t with
    | some ti => (match ti.k.agg with
      | true => stAgg (hget h l) l i j ti.size v
      | false => if ti.size = 1 then stOne (hget h l) l i j v else .bad)
    | none => .bad)
  | _ => .bad
theorem stR_ok (ht : TabOk P tab) (H : Holds w β h) {t : Nat} {x v : SV} {p : Prop} {l : Nat} {blk : Blk} (ho : stR tab h t x v = .upd p l blk) (hp : p) (hv : v.bd h.length) :
    (hget h l).own = true ∧ blk.own = true ∧ blk.bd h.length ∧ ∃ q vs, BlkOk (w.setCells (β l).b q vs) β (β l) blk ∧ (Instr.storeAt t (den β x) (den β v)).run P w = .ok () (w.setCells (β l).b q vs) := by
  unfold stR at ho
  split at ho
  · rename_i l0 i j
    split at ho
    · rename_i ti hti
      obtain ⟨d, qi, hu, _, hrow, hq, hsz, _⟩ := ht _ _ hti
      split at ho
      · rename_i ha
        obtain ⟨rfl, h1, h2, h3, h4, h5, h6, h7⟩ := stAgg_ok H ho hp hv
        refine ⟨h3, h5, h6, _, _, h7, ?_⟩
        have hw := ((H.ok l).wr h3).2
        have he : ∃ cells : Array Value, den β v = .agg cells ∧ cells.toList = cellsOf β v := by
          generalize hget h l = B at *
          unfold stAgg at ho
          cases v <;> first | exact ⟨_, rfl, rfl⟩ | (exfalso; repeat' (split at ho) <;> first | (cases ho; done) | skip)
        obtain ⟨cells, he, hc⟩ := he
        have hs : cells.size = ti.size := by rw [← h1, ← hc]; simp
        have := run_storeAt_mid (P := P) w (β l).b ((β l).lo + i * (β l).c + j) t cells (fun k hk => by
          have := hw i (j + k) (h4 k (by omega)); rw [← Nat.add_assoc] at this; exact this) (by rw [hq]; simp; omega) (Array.all_eq_true_iff_forall_mem.2 fun u hu => h2 u (by rw [← hc]; simpa using hu))
        rw [hc] at this
        rw [he]; exact this
      · split at ho
        · rename_i hsz1
          obtain ⟨rfl, h1, h3, h4, h5, h6, h7⟩ := stOne_ok H ho hp hv
          refine ⟨h3, h5, h6, _, _, h7, ?_⟩
          have hw := ((H.ok l).wr h3).2 i j h4
          have h1' := SV.one_den (β := β) h1
          have hcell : (den β v).cells = #[den β v] := by
            generalize den β v = u at *
            cases u <;> first | rfl | (simp [Value.oneCell'] at h1'; done)
          obtain ⟨u, hu⟩ := Option.isSome_iff_exists.1 hw.1
          have hadd : (⟨(β l).b, (β l).lo + i * (β l).c + j, none⟩ : Addr).add 0 = ⟨(β l).b, (β l).lo + i * (β l).c + j, none⟩ := by rw [Addr.add_mid]; rfl
          have hst : (store ⟨(β l).b, (β l).lo + i * (β l).c + j, none⟩ (den β v)).run P w = .ok () (w.setCell ⟨(β l).b, (β l).lo + i * (β l).c + j, none⟩ (den β v)) := by
            rw [run_store P w _ _ _ h1', hu]; simp [hw.2]
          have hs1 : qi.size = 1 := by omega
          simp [Instr.storeAt, den, Instr.sureAddr, storeVar, sizeOf, typeInfo, hq, hs1, hcell, storeCells, hadd, hst, World.setCells]
        · cases ho
    · cases ho
  · cases ho
end
end Go.Proofs.Ytdncopphjamilaa.Vx
