/- Abstract execution: slices of slices, append. Over any program. -/
import Derived.Test.YtdncopphjamilaaVg
namespace Go.Proofs.Ytdncopphjamilaa.Vx
open Go Go.RowKit Fl
set_option linter.unusedVariables false
set_option linter.unusedSimpArgs false

def shR (g : Nat → List FV) (i : Nat) : Nat → List FV := fun k => g (i + k)
theorem shR_zero (g : Nat → List FV) : shR g 0 = g := by funext k; simp [shR]
def catR (f : Nat → List FV) (len : Nat) (g : Nat → List FV) : Nat → List FV := fun k => if k < len then f k else g (k - len)
def flatR (g : Nat → List FV) (m : Nat) : List Value := ((List.range m).map fun k => (g k).map FV.val).flatten
theorem flatR_succ (g : Nat → List FV) (m : Nat) : flatR g (m + 1) = flatR g m ++ (g m).map FV.val := by
  unfold flatR; rw [List.range_succ]; simp
theorem flatR_length {g : Nat → List FV} {c : Nat} : ∀ m, (∀ k, k < m → (g k).length = c) → (flatR g m).length = m * c
  | 0, _ => by simp [flatR]
  | m + 1, h => by rw [flatR_succ, List.length_append, flatR_length m (fun k hk => h k (by omega)), List.length_map, h m (by omega), Nat.succ_mul]
theorem flatR_get {g : Nat → List FV} {c : Nat} : ∀ m, (∀ k, k < m → (g k).length = c) → ∀ i j, i < m → j < c → (flatR g m)[i * c + j]? = ((g i)[j]?).map FV.val
  | 0, _, i, j, hi, _ => by omega
  | m + 1, h, i, j, hi, hj => by
    have hl := flatR_length m (fun k hk => h k (Nat.lt_succ_of_lt hk))
    rw [flatR_succ]
    by_cases e : i = m
    · subst e
      rw [List.getElem?_append_right (by omega), hl, Nat.add_sub_cancel_left, List.getElem?_map]
    · have hi' : i < m := by omega
      have hlt : i * c + j < m * c := by have := Nat.mul_le_mul_right c hi'; rw [Nat.succ_mul] at this; omega
      rw [List.getElem?_append_left (by omega)]
      exact flatR_get m (fun k hk => h k (by omega)) i j hi' hj
theorem flatR_one {g : Nat → List FV} {m : Nat} : ∀ u ∈ flatR g m, u.oneCell' = true := by
  intro u hu
  unfold flatR at hu
  obtain ⟨l, hl, hu⟩ := List.mem_flatten.1 hu
  obtain ⟨k, _, rfl⟩ := List.mem_map.1 hl
  obtain ⟨x, _, rfl⟩ := List.mem_map.1 hu
  exact FV.one x
theorem idx_split {c q m : Nat} (h : q < m * c) : q = q / c * c + q % c ∧ q / c < m ∧ q % c < c := by
  have hc : 0 < c := by
    rcases Nat.eq_zero_or_pos c with e | e
    · subst e; simp at h
    · exact e
  refine ⟨by have := Nat.div_add_mod q c; rw [Nat.mul_comm] at this; omega, Nat.div_lt_of_lt_mul (by rw [Nat.mul_comm]; exact h), Nat.mod_lt _ hc⟩

section
variable {P : Program} {β : Nat → Loc} {w : World} {h : List Blk} {tab : Nat → Option TI} {n : Nat}
theorem Holds.kill (H : Holds w β h) (l : Nat) : Holds w β (hset h l .dead) := by
  have key : ∀ m, hget (hset h l .dead) m = if m = l then .dead else hget h m := fun m => by
    rw [hget_hset]
    by_cases e : m = l
    · rw [if_pos e]
      by_cases c : l < h.length
      · rw [if_pos ⟨e, c⟩]
      · rw [if_neg (fun q => c q.2), e, hget_out (by omega)]
    · rw [if_neg e, if_neg (fun q => e q.1)]
  refine ⟨fun m => ?_, fun m k hm hk hne ho => ?_, fun m => ?_⟩
  · rw [key]; split
    · exact ⟨fun c => c.elim, trivial, fun i j v hv => (by cases hv), fun c => (by cases c)⟩
    · exact H.ok m
  · rw [key] at hm hk ho
    rw [key] at ho
    split at hm
    · exact hm.elim
    · rename_i e1
      split at hk
      · exact hk.elim
      · rename_i e2
        rw [if_neg e1, if_neg e2] at ho
        exact H.inj m k hm hk hne ho
  · rw [key, hset_length]; split
    · trivial
    · exact H.bd m
theorem Since.kill {w0 : World} {β0 : Nat → Loc} {h0 : List Blk} (s : Since w0 β0 h0 w β h) (l : Nat) : Since w0 β0 h0 w β (hset h l .dead) := by
  refine ⟨s.os, s.tape, s.output, s.size, by rw [hset_length]; exact s.len, s.same, s.frame, fun m hl hm => ?_, fun m hl hm => ?_, fun m hl hm => ?_⟩
  · rw [hget_hset] at hm
    split at hm
    · exact hm.elim
    · exact s.liv m hl hm
  · rw [hget_hset] at hm
    split at hm
    · cases hm
    · exact s.ownk m hl hm
  · rw [hget_hset] at hm
    split at hm
    · exact hm.elim
    · exact s.fresh m hl hm
/-- A block of one's own gets a new label. -/
theorem Holds.move (H : Holds w β h) {l : Nat} (ho : (hget h l).own = true) : Holds w (bput β h.length (β l)) (hset h l .dead ++ [hget h l]) := by
  have hl := hget_lt (Blk.own_live ho)
  have hlen : (hset h l .dead).length = h.length := hset_length h l .dead
  have K := H.kill l
  have hc : ∀ k, k < h.length → β k = bput β h.length (β l) k := fun k hk => (bput_lt hk).symm
  have hold : ∀ m, hget (hset h l .dead) m = if m = l then .dead else hget h m := fun m => by
    rw [hget_hset]
    by_cases e : m = l
    · rw [if_pos e, if_pos ⟨e, hl⟩]
    · rw [if_neg e, if_neg (fun q => e q.1)]
  refine ⟨fun m => ?_, fun m k hm hk hne hor => ?_, fun m => ?_⟩
  · rw [hget_append, hlen]
    by_cases e : m = h.length
    · subst e; rw [if_pos rfl, bput_self]; exact (H.ok l).congr (H.bd l) hc
    · rw [if_neg e]
      have := (K.ok m).congr (by have := K.bd m; rwa [hlen] at this) hc
      unfold bput at this ⊢
      simp only [if_neg e]; exact this
  · rw [hget_append, hlen] at hm hk hor
    rw [hget_append, hlen] at hor
    by_cases e : m = h.length
    · by_cases e' : k = h.length
      · omega
      · rw [if_neg e', hold] at hk
        split at hk
        · exact hk.elim
        · rename_i hkl
          subst e
          rw [bput_self, bput_lt (hget_lt hk)]
          exact H.inj l k (Blk.own_live ho) hk (Ne.symm hkl) (.inl ho)
    · rw [if_neg e, hold] at hm
      split at hm
      · exact hm.elim
      · rename_i hml
        rw [bput_lt (hget_lt hm)]
        by_cases e' : k = h.length
        · subst e'
          rw [bput_self]
          exact H.inj m l hm (Blk.own_live ho) hml (.inr ho)
        · rw [if_neg e', hold] at hk
          split at hk
          · exact hk.elim
          · rename_i hkl
            rw [if_neg e, if_neg e', hold, hold, if_neg hml, if_neg hkl] at hor
            rw [bput_lt (hget_lt hk)]
            exact H.inj m k hm hk hne hor
  · rw [hget_append, List.length_append, hlen]
    split
    · exact Blk.bd_mono (by simp) (H.bd l)
    · exact Blk.bd_mono (n := h.length) (by simp) (by have := K.bd m; rwa [hlen] at this)
theorem Since.move {w0 : World} {β0 : Nat → Loc} {h0 : List Blk} (s : Since w0 β0 h0 w β h) {l : Nat} (ho : (hget h l).own = true) : Since w0 β0 h0 w (bput β h.length (β l)) (hset h l .dead ++ [hget h l]) := by
  have hlen : (hset h l .dead).length = h.length := hset_length h l .dead
  have K := s.kill l
  have hle := s.len
  refine ⟨s.os, s.tape, s.output, s.size, by rw [List.length_append, hlen]; omega, fun k hk => by rw [bput_lt (by omega)]; exact s.same k hk, s.frame, fun m hl hm => ?_, fun m hl hm => ?_, fun m hl hm => ?_⟩
  · rw [hget_append, hlen, if_neg (by omega)] at hm; exact K.liv m hl hm
  · rw [hget_append, hlen, if_neg (by omega)] at hm; exact K.ownk m hl hm
  · rw [hget_append, hlen] at hm
    by_cases e : m = h.length
    · subst e; rw [bput_self]; exact s.own l ho
    · rw [if_neg e] at hm
      have hm' := hget_lt hm
      rw [hlen] at hm'
      rw [bput_lt hm']
      exact K.fresh m hl hm

/-- The rows of a block, as the cells lie from row i on. -/
theorem rows_cells (H : Holds w β h) {l nb cb c : Nat} {f : Nat → List FV} {o : Bool} (hb : hget h l = .rows nb cb c f o) {i m : Nat} (hm : i + m ≤ nb) :
    (flatR (shR f i) m).length = m * c ∧ (∀ k, k < m → (shR f i k).length = c) ∧ ∀ j v, (flatR (shR f i) m)[j]? = some v → w.cell? ((⟨(β l).b, (β l).lo + i * (β l).c, none⟩ : Addr).add j) = some v := by
  have hk := H.ok l
  rw [hb] at hk
  have hfit := hk.fit
  have hlen : ∀ k, k < m → (shR f i k).length = c := fun k hk2 => hfit.2.2 (i + k) (by omega)
  have hl := flatR_length m hlen
  refine ⟨hl, hlen, fun j v hv => ?_⟩
  have hj : j < m * c := by have := (List.getElem?_eq_some_iff.1 hv).1; omega
  obtain ⟨e1, e2, e3⟩ := idx_split hj
  rw [e1, flatR_get m hlen _ _ e2 e3] at hv
  obtain ⟨u, hu, rfl⟩ := Option.map_eq_some_iff.1 hv
  have := (hk.cell (i + j / c) (j % c) (.f u) (by
    simp only [Blk.cell]; rw [if_pos (by omega), rget_eq]
    rw [show f (i + j / c) = shR f i (j / c) from rfl, hu]; rfl) rfl).2
  rw [Addr.add_mid, show den β (.f u) = u.val from rfl] at *
  rw [← this]
  congr 2
  rw [hfit.1, Nat.add_mul]
  omega
end

/-- What is appended: how many rows, which ones. -/
def srcR (h : List Blk) (c : Nat) (y : SV) : Option (Nat × (Nat → List FV) × Prop) :=
  match y with
  | .slc l i m _ => (match hget h l with
    | .rows n _ c' g _ => if c' = c then some (m, shR g i, i + m ≤ n) else none
    | _ => none)
  | _ => none

structure AppIn where
  l : Nat
  len : Nat
  cap : Nat
  c : Nat
  f : Nat → List FV
  m : Nat
  g : Nat → List FV
  nb : Nat
  cb : Nat
  own : Bool
inductive AP where
  | slc (p : Prop) (a : AppIn)
  | nil (p : Prop) (c m : Nat) (g : Nat → List FV)
  | bad
def appR (tab : Nat → Option TI) (h : List Blk) (t : Nat) (x y : SV) : AP :=
  match tab t with
  | some ti => (match ti.k with
    | .slice e => (match tab e with
      | some te => if te.bytes ≤ 1000 ∧ 0 < te.size then (match srcR h te.size y with
        | some (m, g, p) => (match x with
          | .f .nils => .nil ((p ∧ 0 < m) ∧ m ≤ 16777216) te.size m g
          | .slc l i len cap => (match i with
            | 0 => (match hget h l with
              | .rows nb cb c f own => if c = te.size then .slc ((p ∧ len ≤ nb) ∧ len + m ≤ 16777216) ⟨l, len, cap, c, f, m, g, nb, cb, own⟩ else .bad
              | _ => .bad)
            | _ => .bad)
          | _ => .bad)
        | none => .bad) else .bad
      | none => .bad)
    | _ => .bad)
  | none => .bad

section
variable {P : Program} {β : Nat → Loc} {w : World} {h : List Blk} {tab : Nat → Option TI} {n : Nat}
theorem srcR_ok (H : Holds w β h) {c m : Nat} {y : SV} {g : Nat → List FV} {p : Prop} (hs : srcR h c y = some (m, g, p)) (hp : p) :
    ∃ a cap2, den β y = .slice (some a) m cap2 ∧ (∀ k, k < m → (g k).length = c) ∧ (flatR g m).length = m * c ∧ ∀ j v, (flatR g m)[j]? = some v → w.cell? (a.add j) = some v := by
  unfold srcR at hs
  split at hs
  · rename_i l i m' cap
    split at hs
    · rename_i nb cb c' f o hb
      split at hs
      · rename_i e; subst e
        simp only [Option.some.injEq, Prod.mk.injEq] at hs
        obtain ⟨rfl, rfl, rfl⟩ := hs
        obtain ⟨h1, h2, h3⟩ := rows_cells H hb hp
        exact ⟨_, _, rfl, h2, h1, h3⟩
      · cases hs
    · cases hs
  · cases hs

theorem grown_ok {e : TypeId} {c len m cap' : Nat} {f g : Nat → List FV} {Z : Array Value} (hf : ∀ k, k < len → (f k).length = c) (hg : ∀ k, k < m → (g k).length = c) (hc : len + m ≤ cap') (hZ : Z.size = (cap' - (len + m)) * c) (w : World) :
    BlkOk (w.alloc (.cells ((flatR f len).toArray ++ (flatR g m).toArray ++ Z) e)) β ⟨w.heap.size, 0, c⟩ (.rows (len + m) cap' c (catR f len g) true) := by
  have l1 := flatR_length len hf
  have l2 := flatR_length m hg
  refine rows_new w (len + m) cap' c (catR f len g) _ e hc (fun i hi => ?_) ?_ (fun i j hi hj => ?_)
  · unfold catR; split
    · exact hf i ‹_›
    · exact hg (i - len) (by omega)
  · simp only [Array.size_append, List.size_toArray, l1, l2, hZ, ← Nat.add_mul]; congr 1; omega
  · rw [Array.append_assoc]
    unfold catR
    by_cases e1 : i < len
    · rw [if_pos e1, Array.getElem?_append_left (by simp [l1]; have := Nat.mul_le_mul_right c e1; rw [Nat.succ_mul] at this; omega)]
      simpa using flatR_get len hf i j e1 hj
    · rw [if_neg e1]
      have e2 : len * c ≤ i * c := Nat.mul_le_mul_right c (by omega)
      rw [Array.getElem?_append_right (by simp [l1]; omega), Array.getElem?_append_left (by
        simp only [List.size_toArray, l1, l2]
        have := Nat.mul_le_mul_right c hi; rw [Nat.succ_mul, Nat.add_mul] at this; omega)]
      have hi' : i - len < m := by omega
      have := flatR_get m hg (i - len) j hi' hj
      rw [← this]
      simp only [List.size_toArray, l1, List.getElem?_toArray]
      congr 1
      rw [Nat.sub_mul]; omega

structure AppFacts (P : Program) (w : World) (β : Nat → Loc) (h : List Blk) (t : Nat) (x y : SV) (a : AppIn) (e : Nat) (q : TypeInfo) (z : Value) (ay : Addr) (cy : Nat) : Prop where
  hu : P.underlying t = some (.slice e)
  hq : P.info? e = some q
  hz : q.zero = some z
  hs : q.size = a.c
  hb : q.bytes ≤ 1000
  hc : 0 < a.c
  hzs : z.cells.size = a.c
  hx : x = .slc a.l 0 a.len a.cap
  blk : hget h a.l = .rows a.nb a.cb a.c a.f a.own
  hl : a.len ≤ a.nb
  hm : a.len + a.m ≤ 16777216
  hy : den β y = .slice (some ay) a.m cy
  g1 : ∀ k, k < a.m → (a.g k).length = a.c
  g2 : (flatR a.g a.m).length = a.m * a.c
  g3 : ∀ j v, (flatR a.g a.m)[j]? = some v → w.cell? (ay.add j) = some v
theorem appR_facts (ht : TabOk P tab) (H : Holds w β h) {t : Nat} {x y : SV} {p : Prop} {a : AppIn} (ho : appR tab h t x y = .slc p a) (hp : p) : ∃ e q z ay cy, AppFacts P w β h t x y a e q z ay cy := by
  unfold appR at ho
  split at ho
  · rename_i ti hti
    obtain ⟨d, q, hu, hk, _⟩ := ht _ _ hti
    split at ho
    · rename_i e he
      rw [he] at hk; simp only [TK.ok] at hk; subst hk
      split at ho
      · rename_i te hte
        obtain ⟨d2, q2, hu2, _, _, hq2, hsz2, hby, z, hz, hz2, hz3, _⟩ := ht _ _ hte
        split at ho
        · rename_i hb1
          split at ho
          · rename_i m g p' hsrc
            split at ho
            · cases ho
            · rename_i l i len cap
              split at ho
              · split at ho
                · rename_i nb cb c f own hblk
                  split at ho
                  · rename_i hc; subst hc
                    simp only [AP.slc.injEq] at ho
                    obtain ⟨rfl, rfl⟩ := ho
                    obtain ⟨⟨hp1, hp2⟩, hp3⟩ := hp
                    obtain ⟨ay, cy, hy, g1, g2, g3⟩ := srcR_ok H hsrc hp1
                    exact ⟨e, q2, z, ay, cy, hu, hq2, hz, hsz2, by omega, hb1.2, hz3, rfl, hblk, hp2, hp3, hy, g1, g2, g3⟩
                  · cases ho
                · cases ho
              · cases ho
            · cases ho
          · cases ho
        · cases ho
      · cases ho
    · cases ho
  · cases ho

/-- Where an append grows: a new block comes. -/
theorem app_grow (H : Holds w β h) {t : Nat} {x y : SV} {a : AppIn} {e : Nat} {q : TypeInfo} {z : Value} {ay : Addr} {cy : Nat} (F : AppFacts P w β h t x y a e q z ay cy) {ty : TypeId} (hg : a.cap < a.len + a.m) :
    ∃ cap' w' L, a.len + a.m ≤ cap' ∧ Ext w w' ∧ w.heap.size ≤ L.b ∧ BlkOk w' β L (.rows (a.len + a.m) cap' a.c (catR a.f a.len a.g) true) ∧
      (Builtin.append_ #[t, t] ty #[den β x, den β y]).run P w = .ok (den (bput β h.length L) (.slc h.length 0 (a.len + a.m) cap')) w' := by
  obtain ⟨hu, hq, hz, hs, hb, hc, hzs, hx, blk, hl, hm, hy, g1, g2, g3⟩ := F
  obtain ⟨f1, f2, f3⟩ := rows_cells H blk (i := 0) (m := a.len) (by simpa using hl)
  rw [shR_zero] at f1 f2 f3
  have hbytes : (a.len + a.m) * q.bytes ≤ 140737488355328 := by
    have := Nat.mul_le_mul hm hb; omega
  have hrun := run_append_grow (P := P) w t ty e q z hu hq hz ⟨(β a.l).b, (β a.l).lo + 0 * (β a.l).c, none⟩ a.len a.cap (flatR a.f a.len) (by rw [f1, hs]) f3 ay a.m cy (flatR a.g a.m) (by rw [g2, hs]) g3 hg (by omega) (growslice_fits hg hbytes)
  have hge := grownCap_ge w (a.len + a.m) a.cap e
  refine ⟨grownCap w (a.len + a.m) a.cap e, _, ⟨w.heap.size, 0, a.c⟩, hge, (Below.refl _ _).drew.alloc (by simp) (.cells ((flatR a.f a.len).toArray ++ (flatR a.g a.m).toArray ++ Builtin.zeroCells z.cells (grownCap w (a.len + a.m) a.cap e - (a.len + a.m))) e), Nat.le_refl _, ?_, ?_⟩
  · exact grown_ok (β := β) (e := e) f2 g1 hge (by rw [size_zeroCells, hzs]) w.drew
  · rw [hy, hx]
    simp only [den, bput_self]
    rw [hrun]; simp
/-- Where there is room in a block of one's own. -/
theorem app_room (H : Holds w β h) {t : Nat} {x y : SV} {a : AppIn} {e : Nat} {q : TypeInfo} {z : Value} {ay : Addr} {cy : Nat} (F : AppFacts P w β h t x y a e q z ay cy) {ty : TypeId} (hg : a.len + a.m ≤ a.cap) (hcb : a.cap ≤ a.cb) (hown : a.own = true) :
    ∃ o vs, BlkOk (w.setCells (β a.l).b o vs) β (β a.l) (.rows (a.len + a.m) a.cap a.c (catR a.f a.len a.g) true) ∧
      (Builtin.append_ #[t, t] ty #[den β x, den β y]).run P w = .ok (den β (.slc a.l 0 (a.len + a.m) a.cap)) (w.setCells (β a.l).b o vs) := by
  obtain ⟨hu, hq, hz, hs, hb, hc, hzs, hx, blk, hl, hm, hy, g1, g2, g3⟩ := F
  obtain ⟨f1, f2, f3⟩ := rows_cells H blk (i := 0) (m := a.len) (by simpa using hl)
  rw [shR_zero] at f1 f2 f3
  have hk := H.ok a.l
  rw [blk] at hk
  have hfit := hk.fit
  have hlo := (hk.wr hown).1
  have hroom : ∀ j, j < (flatR a.g a.m).length → (w.cell? ⟨(β a.l).b, 0 + a.len * q.size + j, none⟩).isSome = true ∧ w.frozen? ⟨(β a.l).b, 0 + a.len * q.size + j, none⟩ = false := fun j hj => by
    rw [g2] at hj
    obtain ⟨e1, e2, e3⟩ := idx_split hj
    have := (hk.wr hown).2 (a.len + j / a.c) (j % a.c) ⟨by omega, e3⟩
    have e4 : (β a.l).lo + (a.len + j / a.c) * (β a.l).c + j % a.c = 0 + a.len * q.size + j := by
      rw [hfit.1, hs, Nat.add_mul, hlo]; omega
    rw [e4] at this; exact this
  have hrun := run_append_room_cells (P := P) w t ty e q hu hq (β a.l).b 0 a.len a.cap ay a.m cy (flatR a.g a.m) (by rw [g2, hs]) g3 flatR_one hg (fun j hj => (hroom j hj).1) (fun j hj => (hroom j hj).2)
  refine ⟨0 + a.len * q.size, flatR a.g a.m, ?_, ?_⟩
  · refine ⟨fun hlv => by rw [size_setCells]; exact hk.there trivial, ⟨hfit.1, hg, fun i hi => ?_⟩, fun i j v hv hkn => ?_, fun _ => ⟨hlo, fun i j hr => ?_⟩⟩
    · unfold catR; split
      · exact f2 i ‹_›
      · exact g1 (i - a.len) (by omega)
    · simp only [Blk.cell] at hv
      split at hv
      · rename_i hi
        obtain ⟨u, hu', rfl⟩ := Option.map_eq_some_iff.1 hv
        refine ⟨rfl, ?_⟩
        rw [cells_set w _ (fun k hk2 => (hroom k hk2).1), g2, hs, hlo]
        rw [rget_eq] at hu'
        have hj : j < a.c := by
          have := (List.getElem?_eq_some_iff.1 hu').1
          unfold catR at this; split at this
          · have := f2 i ‹_›; omega
          · have := g1 (i - a.len) (by omega); omega
        unfold catR at hu'
        by_cases c : i < a.len
        · rw [if_pos c] at hu'
          have : i * a.c + a.c ≤ a.len * a.c := by have := Nat.mul_le_mul_right a.c c; rwa [Nat.succ_mul] at this
          rw [if_neg (by rw [hfit.1]; omega)]
          have h2 := (hk.cell i j (.f u) (by simp only [Blk.cell]; rw [if_pos (by omega), rget_eq, hu']; rfl) rfl).2
          rw [hlo] at h2; exact h2
        · rw [if_neg c] at hu'
          have h3 : i - a.len < a.m := by omega
          have h4 : a.len * a.c ≤ i * a.c := Nat.mul_le_mul_right a.c (by omega)
          have h5 : i * a.c + a.c ≤ (a.len + a.m) * a.c := by have := Nat.mul_le_mul_right a.c hi; rwa [Nat.succ_mul] at this
          rw [Nat.add_mul] at h5
          rw [if_pos (by rw [hfit.1]; omega), hfit.1]
          have h6 := flatR_get a.m g1 (i - a.len) j h3 hj
          rw [Nat.sub_mul] at h6
          rw [show 0 + i * a.c + j - (0 + a.len * a.c) = i * a.c - a.len * a.c + j from by omega, h6, hu']; rfl
      · cases hv
    · have := (hk.wr hown).2 i j ⟨by have := hr.1; omega, hr.2⟩
      exact ⟨World.isSome_setCells _ _ _ _ _ this.1, by rw [World.frozen?_setCells]; exact this.2⟩
  · rw [hy, hx]
    simp only [den, hlo, Nat.zero_mul, Nat.add_zero]
    exact hrun
/-- Nothing is appended. -/
theorem app_zero {t : Nat} {x y : SV} {a : AppIn} {e : Nat} {q : TypeInfo} {z : Value} {ay : Addr} {cy : Nat} (F : AppFacts P w β h t x y a e q z ay cy) {ty : TypeId} (hm : a.m = 0) (hlc : a.len ≤ a.cap) (hnz : a.len = 0) :
    (Builtin.append_ #[t, t] ty #[den β x, den β y]).run P w = .ok (den β x) w := by
  obtain ⟨hu, hq, hz, hs, hb, hc, hzs, hx, blk, hl, hm', hy, g1, g2, g3⟩ := F
  rw [hx, hy]
  simp [Builtin.append_, run_underlying hu, sizeOf, typeInfo, hq, Builtin.lenOf, hm, hlc, hnz, Builtin.firstCells, loadCells, loadCellsFrom, storeCells, den]
end
end Go.Proofs.Ytdncopphjamilaa.Vx
