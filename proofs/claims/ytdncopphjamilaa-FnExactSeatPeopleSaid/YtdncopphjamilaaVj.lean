/- Abstract execution: localized heaps. Over any program. -/
import Derived.Test.YtdncopphjamilaaVi
namespace Go.Proofs.Ytdncopphjamilaa.Vx
open Go Go.RowKit Fl
set_option linter.unusedVariables false
set_option linter.unusedSimpArgs false

/-- Is a label among some? -/
def inL (l : Nat) : List Nat → Bool
  | [] => false
  | m :: r => if m = l then true else inL l r
theorem inL_iff (l : Nat) : ∀ r, inL l r = true ↔ l ∈ r
  | [] => by simp [inL]
  | m :: r => by
    simp only [inL]
    by_cases e : m = l
    · simp [e]
    · rw [if_neg e, inL_iff l r]; simp [Ne.symm e]
/-- Where a label stands. -/
def idx : List Nat → Nat → Nat
  | [], _ => 0
  | m :: r, l => if m = l then 0 else idx r l + 1
def lget : List Nat → Nat → Nat
  | [], n => n
  | m :: _, 0 => m
  | _ :: r, n + 1 => lget r n
theorem lget_eq : ∀ (r : List Nat) (n : Nat), n < r.length → r[n]? = some (lget r n)
  | [], _, h => by simp at h
  | m :: _, 0, _ => rfl
  | m :: r, n + 1, h => by simp only [List.length_cons] at h; simp only [List.getElem?_cons_succ, lget]; exact lget_eq r n (by omega)
theorem idx_ok : ∀ (r : List Nat) (l : Nat), l ∈ r → idx r l < r.length ∧ lget r (idx r l) = l
  | [], _, h => by cases h
  | m :: r, l, h => by
    simp only [idx]
    by_cases e : m = l
    · rw [if_pos e]; exact ⟨by simp, by simp [lget, e]⟩
    · rw [if_neg e]
      have hl : l ∈ r := (List.mem_cons.1 h).resolve_left (fun c => e c.symm)
      have := idx_ok r l hl
      exact ⟨by simp; exact this.1, by simp only [lget]; exact this.2⟩
theorem lget_mem {r : List Nat} {n : Nat} (h : n < r.length) : lget r n ∈ r := List.mem_of_getElem? (lget_eq r n h)
def distinct : List Nat → Bool
  | [] => true
  | m :: r => !inL m r && distinct r
theorem lget_inj : ∀ (r : List Nat), distinct r = true → ∀ i j, i < r.length → j < r.length → lget r i = lget r j → i = j
  | [], _, i, j, hi, _, _ => by simp at hi
  | m :: r, h, i, j, hi, hj, e => by
    simp only [distinct, Bool.and_eq_true, Bool.not_eq_true'] at h
    have hn : m ∉ r := fun c => by have := (inL_iff m r).2 c; rw [h.1] at this; cases this
    simp only [List.length_cons] at hi hj
    cases i with
    | zero =>
      cases j with
      | zero => rfl
      | succ j => simp only [lget] at e; exact absurd (e ▸ lget_mem (by omega)) hn
    | succ i =>
      cases j with
      | zero => simp only [lget] at e; exact absurd (e ▸ lget_mem (by omega)) hn
      | succ j => simp only [lget] at e; rw [lget_inj r h.2 i j (by omega) (by omega) e]

mutual
/-- All labels of a value are among some. -/
def SV.lin (r : List Nat) : SV → Bool
  | .ptr l _ _ => inL l r
  | .slc l _ _ _ => inL l r
  | .fn _ a b => linL r a && linL r b
  | .agg l => linL r l
  | .tup l => linL r l
  | _ => true
def linL (r : List Nat) : List SV → Bool
  | [] => true
  | v :: l => v.lin r && linL r l
end
mutual
theorem lin_ren {r : List Nat} (h : ∀ l ∈ r, lget r (idx r l) = l) : ∀ v : SV, v.lin r = true → (v.ren (idx r)).ren (lget r) = v
  | .f _, _ => rfl
  | .ptr l i j, hv => by simp only [SV.lin, inL_iff] at hv; simp only [SV.ren, h l hv]
  | .slc l i _ _, hv => by simp only [SV.lin, inL_iff] at hv; simp only [SV.ren, h l hv]
  | .fn _ a b, hv => by simp only [SV.lin, Bool.and_eq_true] at hv; simp only [SV.ren, linL_ren h a hv.1, linL_ren h b hv.2]
  | .agg l, hv => by simp only [SV.lin] at hv; simp only [SV.ren, linL_ren h l hv]
  | .arr _ _, _ => rfl
  | .tup l, hv => by simp only [SV.lin] at hv; simp only [SV.ren, linL_ren h l hv]
  | .any, _ => rfl
theorem linL_ren {r : List Nat} (h : ∀ l ∈ r, lget r (idx r l) = l) : ∀ l : List SV, linL r l = true → renL (lget r) (renL (idx r) l) = l
  | [], _ => rfl
  | v :: l, hv => by simp only [linL, Bool.and_eq_true] at hv; simp only [renL, lin_ren h v hv.1, linL_ren h l hv.2]
end
mutual
theorem lin_bd {r : List Nat} : ∀ v : SV, v.lin r = true → (v.ren (idx r)).bd r.length
  | .f _, _ => trivial
  | .ptr l i j, hv => by simp only [SV.lin, inL_iff] at hv; exact (idx_ok r l hv).1
  | .slc l i _ _, hv => by simp only [SV.lin, inL_iff] at hv; exact (idx_ok r l hv).1
  | .fn _ a b, hv => by simp only [SV.lin, Bool.and_eq_true] at hv; exact ⟨linL_bd a hv.1, linL_bd b hv.2⟩
  | .agg l, hv => by simp only [SV.lin] at hv; exact linL_bd l hv
  | .arr _ _, _ => trivial
  | .tup l, hv => by simp only [SV.lin] at hv; exact linL_bd l hv
  | .any, _ => trivial
theorem linL_bd {r : List Nat} : ∀ l : List SV, linL r l = true → bdL r.length (renL (idx r) l)
  | [], _ => trivial
  | v :: l, hv => by simp only [linL, Bool.and_eq_true] at hv; exact ⟨lin_bd v hv.1, linL_bd l hv.2⟩
end
def Blk.ren (r : Nat → Nat) : Blk → Blk
  | .lit row o => .lit (renL r row) o
  | b => b
def Blk.lin (r : List Nat) : Blk → Bool
  | .lit row _ => linL r row
  | _ => true
/-- The blocks of some labels, in their order, named anew. -/
def locH (r : List Nat) (h : List Blk) : List Nat → List Blk
  | [] => []
  | l :: s => (hget h l).ren (idx r) :: locH r h s
def locOk1 (r : List Nat) (h : List Blk) : List Nat → Bool
  | [] => true
  | l :: s => (hget h l).lin r && locOk1 r h s
def locOk (r : List Nat) (h : List Blk) : Bool := distinct r && locOk1 r h r

theorem locH_length (r : List Nat) (h : List Blk) : ∀ s, (locH r h s).length = s.length
  | [] => rfl
  | l :: s => by simp [locH, locH_length r h s]
theorem locH_get (r : List Nat) (h : List Blk) : ∀ (s : List Nat) (i : Nat), i < s.length → hget (locH r h s) i = (hget h (lget s i)).ren (idx r)
  | [], i, hi => by simp at hi
  | l :: s, 0, _ => rfl
  | l :: s, i + 1, hi => by simp only [List.length_cons] at hi; simp only [locH, hget, lget]; exact locH_get r h s i (by omega)
theorem locOk1_iff (r : List Nat) (h : List Blk) : ∀ s, locOk1 r h s = true ↔ ∀ l ∈ s, (hget h l).lin r = true
  | [] => by simp [locOk1]
  | l :: s => by simp [locOk1, locOk1_iff r h s]
theorem Blk.ren_live {r : Nat → Nat} {b : Blk} : (b.ren r).live ↔ b.live := by cases b <;> exact Iff.rfl
theorem Blk.ren_own {r : Nat → Nat} {b : Blk} : (b.ren r).own = b.own := by cases b <;> rfl
theorem renL_map (r : Nat → Nat) : ∀ l, renL r l = l.map (SV.ren r)
  | [] => rfl
  | v :: l => by rw [renL, renL_map r l]; rfl
theorem SV.ren_one {r : Nat → Nat} {v : SV} : (v.ren r).one = v.one := by cases v <;> rfl
theorem SV.ren_known {r : Nat → Nat} {v : SV} : (v.ren r).known = v.known := by cases v <;> rfl
theorem Blk.ren_cell {r : Nat → Nat} {b : Blk} {i j : Nat} {v : SV} (h : (b.ren r).cell i j = some v) : ∃ u, b.cell i j = some u ∧ v = u.ren r := by
  cases b with
  | lit row o =>
    simp only [Blk.ren, Blk.cell] at h ⊢
    split at h
    · rename_i e
      rw [if_pos e]
      rw [rget_eq, renL_map, List.getElem?_map] at h
      obtain ⟨u, hu, rfl⟩ := Option.map_eq_some_iff.1 h
      exact ⟨u, by rw [rget_eq]; exact hu, rfl⟩
    · cases h
  | rows n cap c f o =>
    simp only [Blk.ren] at h
    refine ⟨v, h, ?_⟩
    simp only [Blk.cell] at h
    split at h
    · obtain ⟨u, _, rfl⟩ := Option.map_eq_some_iff.1 h; rfl
    · cases h
  | cells n g o =>
    simp only [Blk.ren] at h
    refine ⟨v, h, ?_⟩
    simp only [Blk.cell] at h
    split at h
    · cases h; rfl
    · cases h
  | dead => cases h
theorem Blk.ren_room {r : Nat → Nat} {b : Blk} {i j : Nat} : (b.ren r).room i j ↔ b.room i j := by
  cases b with
  | lit row o => simp [Blk.ren, Blk.room, renL_map]
  | _ => exact Iff.rfl
/-- A block named anew, at places that go with the names. -/
theorem BlkOk.ren {w : World} {β β' : Nat → Loc} {L : Loc} {blk : Blk} (h : BlkOk w β L blk) {r : Nat → Nat} (hd : ∀ i j v, blk.cell i j = some v → den β' (v.ren r) = den β v) : BlkOk w β' L (blk.ren r) := by
  refine ⟨fun hl => h.there (Blk.ren_live.1 hl), ?_, fun i j v hv hk => ?_, fun ho => ?_⟩
  · have := h.fit
    cases blk <;> exact this
  · obtain ⟨u, hu, rfl⟩ := Blk.ren_cell hv
    have := h.cell i j u hu (by rwa [SV.ren_known] at hk)
    exact ⟨by rw [SV.ren_one]; exact this.1, by rw [hd i j u hu]; exact this.2⟩
  · rw [Blk.ren_own] at ho
    exact ⟨(h.wr ho).1, fun i j hr => (h.wr ho).2 i j (Blk.ren_room.1 hr)⟩
theorem Blk.lin_cell {r : List Nat} {b : Blk} {i j : Nat} {v : SV} (hb : b.lin r = true) (h : b.cell i j = some v) : v.lin r = true := by
  cases b with
  | lit row o =>
    simp only [Blk.cell] at h
    split at h
    · rw [rget_eq] at h
      simp only [Blk.lin] at hb
      have : ∀ l : List SV, linL r l = true → ∀ x ∈ l, x.lin r = true := by
        intro l
        induction l with
        | nil => intro _ x hx; cases hx
        | cons a l ih =>
          intro hl x hx
          simp only [linL, Bool.and_eq_true] at hl
          rcases List.mem_cons.1 hx with c | c
          · subst c; exact hl.1
          · exact ih hl.2 x c
      exact this row hb v (List.mem_of_getElem? h)
    · cases h
  | rows n cap c f o =>
    simp only [Blk.cell] at h
    split at h
    · obtain ⟨u, _, rfl⟩ := Option.map_eq_some_iff.1 h; rfl
    · cases h
  | cells n g o =>
    simp only [Blk.cell] at h
    split at h
    · cases h; rfl
    · cases h
  | dead => cases h

section
variable {w : World} {β : Nat → Loc} {h : List Blk}
theorem den_lin {r : List Nat} {v : SV} (hv : v.lin r = true) : den (fun i => β (lget r i)) (v.ren (idx r)) = den β v := by
  rw [← den_ren β (lget r), lin_ren (fun l hl => (idx_ok r l hl).2) v hv]
theorem denL_lin {r : List Nat} {l : List SV} (hv : linL r l = true) : denL (fun i => β (lget r i)) (renL (idx r) l) = denL β l := by
  rw [← denL_ren β (lget r), linL_ren (fun l hl => (idx_ok r l hl).2) l hv]
/-- Part of a heap, by itself. -/
theorem Holds.loc (H : Holds w β h) {r : List Nat} (ok : locOk r h = true) : Holds w (fun i => β (lget r i)) (locH r h r) := by
  simp only [locOk, Bool.and_eq_true] at ok
  obtain ⟨hd, h1⟩ := ok
  rw [locOk1_iff] at h1
  have hlen := locH_length r h r
  refine ⟨fun i => ?_, fun i j hi hj hne ho => ?_, fun i => ?_⟩
  · rcases Nat.lt_or_ge i r.length with c | c
    · rw [locH_get r h r i c]
      exact (H.ok (lget r i)).ren fun i' j' v hv => den_lin (Blk.lin_cell (h1 _ (lget_mem c)) hv)
    · rw [hget_out (by omega)]
      exact ⟨fun c => c.elim, trivial, fun i j v hv => (by cases hv), fun c => (by cases c)⟩
  · have ci := hget_lt hi
    have cj := hget_lt hj
    rw [hlen] at ci cj
    rw [locH_get r h r i ci, Blk.ren_live] at hi
    rw [locH_get r h r j cj, Blk.ren_live] at hj
    rw [locH_get r h r i ci, locH_get r h r j cj, Blk.ren_own, Blk.ren_own] at ho
    exact H.inj _ _ hi hj (fun e => hne (lget_inj r hd i j ci cj e)) ho
  · rcases Nat.lt_or_ge i r.length with c | c
    · rw [locH_get r h r i c, hlen]
      have := h1 _ (lget_mem c)
      generalize hget h (lget r i) = b at *
      cases b <;> first | trivial | exact linL_bd _ this
    · rw [hget_out (by omega)]; trivial

/-- The labels of a call's blocks, named as the caller names them. -/
def unl (r : List Nat) (N : Nat) (l : Nat) : Nat := if l < r.length then lget r l else N + (l - r.length)
def newB (u : Nat → Nat) : List Blk → List Blk
  | [] => []
  | b :: s => b.ren u :: newB u s
/-- The caller's blocks, behind a call. -/
def mrg (u : Nat → Nat) : List Nat → List Blk → List Blk → List Blk
  | [], h, hh => h ++ newB u hh
  | l :: s, h, b :: hh => mrg u s (hset h l (b.ren u)) hh
  | _ :: _, h, [] => h
theorem newB_length (u : Nat → Nat) : ∀ s, (newB u s).length = s.length
  | [] => rfl
  | _ :: s => by simp [newB, newB_length u s]
theorem newB_get (u : Nat → Nat) : ∀ s i, hget (newB u s) i = (hget s i).ren u
  | [], _ => rfl
  | _ :: _, 0 => rfl
  | _ :: s, i + 1 => by simp only [newB, hget]; exact newB_get u s i
theorem hget_app : ∀ (h s : List Blk) (m : Nat), hget (h ++ s) m = if m < h.length then hget h m else hget s (m - h.length)
  | [], s, m => by simp
  | b :: h, s, 0 => by simp [hget]
  | b :: h, s, m + 1 => by
    simp only [List.cons_append, hget, List.length_cons, hget_app h s m]
    by_cases c : m < h.length
    · rw [if_pos c, if_pos (by omega)]
    · rw [if_neg c, if_neg (by omega), show m + 1 - (h.length + 1) = m - h.length from by omega]
theorem mrg_length (u : Nat → Nat) : ∀ (r : List Nat) (h hh : List Blk), r.length ≤ hh.length → (mrg u r h hh).length = h.length + (hh.length - r.length)
  | [], h, hh, _ => by simp [mrg, newB_length]
  | l :: r, h, [], hl => by simp at hl
  | l :: r, h, b :: hh, hl => by simp only [List.length_cons] at hl; simp only [mrg]; rw [mrg_length u r _ hh (by omega), hset_length]; simp
theorem mrg_new (u : Nat → Nat) : ∀ (r : List Nat) (h hh : List Blk) (m : Nat), r.length ≤ hh.length → h.length ≤ m → hget (mrg u r h hh) m = (hget hh (m - h.length + r.length)).ren u
  | [], h, hh, m, _, hm => by simp only [mrg]; rw [hget_app, if_neg (by omega), newB_get]; rfl
  | l :: r, h, [], m, hl, _ => by simp at hl
  | l :: r, h, b :: hh, m, hl, hm => by
    simp only [List.length_cons] at hl
    simp only [mrg]
    rw [mrg_new u r _ hh m (by omega) (by rw [hset_length]; exact hm), hset_length]
    simp only [List.length_cons]
    rw [show m - h.length + (r.length + 1) = (m - h.length + r.length) + 1 from by omega]; rfl
theorem mrg_old (u : Nat → Nat) : ∀ (r : List Nat) (h hh : List Blk) (m : Nat), r.length ≤ hh.length → m < h.length → m ∉ r → hget (mrg u r h hh) m = hget h m
  | [], h, hh, m, _, hm, _ => by simp only [mrg]; rw [hget_app, if_pos hm]
  | l :: r, h, [], m, hl, _, _ => by simp at hl
  | l :: r, h, b :: hh, m, hl, hm, hn => by
    simp only [List.length_cons] at hl
    simp only [List.mem_cons, not_or] at hn
    simp only [mrg]
    rw [mrg_old u r _ hh m (by omega) (by rw [hset_length]; exact hm) hn.2, hget_hset, if_neg (fun c => hn.1 c.1)]
theorem mrg_at (u : Nat → Nat) : ∀ (r : List Nat) (h hh : List Blk) (i : Nat), r.length ≤ hh.length → distinct r = true → (∀ l ∈ r, l < h.length) → i < r.length → hget (mrg u r h hh) (lget r i) = (hget hh i).ren u
  | [], h, hh, i, _, _, _, hi => by simp at hi
  | l :: r, h, [], i, hl, _, _, _ => by simp at hl
  | l :: r, h, b :: hh, i, hl, hd, hr, hi => by
    simp only [List.length_cons] at hl hi
    simp only [distinct, Bool.and_eq_true, Bool.not_eq_true'] at hd
    have hn : l ∉ r := fun c => by have := (inL_iff l r).2 c; rw [hd.1] at this; cases this
    simp only [mrg]
    cases i with
    | zero =>
      simp only [lget, hget]
      rw [mrg_old u r _ hh l (by omega) (by rw [hset_length]; exact hr l (by simp)) hn, hget_hset, if_pos ⟨rfl, hr l (by simp)⟩]
    | succ i =>
      simp only [lget, hget]
      exact mrg_at u r _ hh i (by omega) hd.2 (fun k hk => by rw [hset_length]; exact hr k (by simp [hk])) (by omega)
end
end Go.Proofs.Ytdncopphjamilaa.Vx
