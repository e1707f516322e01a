/- Abstract execution: making slices, lengths, least and greatest, parts of values. Over any program. -/
import Derived.Test.YtdncopphjamilaaVf
namespace Go.Proofs.Ytdncopphjamilaa.Vx
open Go Go.RowKit Fl
set_option linter.unusedVariables false
set_option linter.unusedSimpArgs false

def zRow (s : Nat) (z : TZ) : List FV :=
  match z with
  | .row l => l
  | .all v => List.replicate s v
def constRow (r : List FV) : Nat → List FV := fun _ => r
def makeR (tab : Nat → Option TI) (t : Nat) (x y : SV) : OR :=
  match x with
  | .f (.int _ a) => (match y with
    | .f (.int _ b) => (match tab t with
      | some ti => (match ti.k with
        | .slice e => (match tab e with
          | some te => if te.bytes ≤ 1000 then .new (a = b ∧ 0 ≤ a ∧ a ≤ 1048576) (.rows a.toNat a.toNat te.size (constRow (zRow te.size te.z)) true) (fun m => .slc m 0 a.toNat a.toNat) else .bad
          | none => .bad)
        | _ => .bad)
      | none => .bad)
    | _ => .bad)
  | _ => .bad

def lenR (x : SV) : OR :=
  match x with
  | .slc _ _ n _ => .val True (.f (.int .i64 n))
  | .f .nils => .val True (.f (.int .i64 0))
  | .f (.str s) => .val True (.f (.int .i64 s.size))
  | _ => .bad
def capR (x : SV) : OR :=
  match x with
  | .slc _ _ _ c => .val True (.f (.int .i64 c))
  | .f .nils => .val True (.f (.int .i64 0))
  | _ => .bad
def mnI (a b : Int) : Int := if b < a then b else a
def mxI (a b : Int) : Int := if a < b then b else a
def fmn (a b : Nat) : Nat := if flt a b then a else if flt b a then b else if (FloatKind.f32.decode a).neg then a else b
def fmx (a b : Nat) : Nat := if flt b a then a else if flt a b then b else if (FloatKind.f32.decode a).neg then b else a
def minR (x y : SV) : OR :=
  match x with
  | .f (.int k a) => (match y with
    | .f (.int k' b) => if k = k' then .val True (.f (.int k (mnI a b))) else .bad
    | _ => .bad)
  | .f (.flt .f32 a) => (match y with
    | .f (.flt .f32 b) => .val (nn a ∧ nn b) (.f (.flt .f32 (fmn a b)))
    | _ => .bad)
  | _ => .bad
def maxR (x y : SV) : OR :=
  match x with
  | .f (.int k a) => (match y with
    | .f (.int k' b) => if k = k' then .val True (.f (.int k (mxI a b))) else .bad
    | _ => .bad)
  | .f (.flt .f32 a) => (match y with
    | .f (.flt .f32 b) => .val (nn a ∧ nn b) (.f (.flt .f32 (fmx a b)))
    | _ => .bad)
  | _ => .bad

def extrR (x : SV) (i : Nat) : OR :=
  match x with
  | .tup l => (match rget l i with
    | some v => (match v.known with | true => .val True v | false => .bad)
    | none => .bad)
  | _ => .bad
/-- The part from cell o on of a value, s cells, an aggregate or not. -/
def partR (agg : Bool) (s : Nat) (x : SV) (o : Nat) : OR :=
  match x with
  | .agg l => (match agg with
    | true => if o + s ≤ l.length then .val True (.agg (sub l o s)) else .bad
    | false => (match rget l o with
      | some v => (match v.known with | true => .val True v | false => .bad)
      | none => .bad))
  | .arr n g => (match agg with
    | true => .val (o + s ≤ n) (.arr s (shf g o))
    | false => .val (o < n) (.f (g o)))
  | _ => .bad
def fldR (tab : Nat → Option TI) (t : Nat) (x : SV) (f : Nat) : OR :=
  match tab t with
  | some ti => (match ti.k with
    | .struct fs => (match rget fs f with
      | some q => (match tab q.2 with
        | some tf => partR tf.k.agg tf.size x q.1
        | none => .bad)
      | none => .bad)
    | _ => .bad)
  | none => .bad
def btAt (s : ByteArray) (n : Nat) : Int := ((s.data[n]?).getD 0).toNat
def idxR (tab : Nat → Option TI) (t : Nat) (x ix : SV) : OR :=
  match ix with
  | .f (.int _ n) => (match tab t with
    | some ti => (match ti.k with
      | .arr m e => (match tab e with
        | some te => (match partR te.k.agg te.size x (n.toNat * te.size) with
          | .val p v => .val ((0 ≤ n ∧ n < m) ∧ p) v
          | _ => .bad)
        | none => .bad)
      | .str => (match x with
        | .f (.str s) => .val (0 ≤ n ∧ n < s.size) (.f (.int .u8 (btAt s n.toNat)))
        | _ => .bad)
      | _ => .bad)
    | none => .bad)
  | _ => .bad
def slRow (m lo i : Nat) : Nat := if m = lo then i else i + lo
/-- A bound of a slice: d if there is none. -/
def bnd (d : Nat) : Option SV → Option (Int)
  | none => some d
  | some (.f (.int _ n)) => some n
  | _ => none
/-- A part of a nil slice. -/
def slcN (lo hi mx : Option SV) : OR :=
  match lo with
  | none => (match bnd 0 mx with
    | some m => (match bnd 0 hi with
      | some b => .val ((0 ≤ b ∧ b ≤ m) ∧ m ≤ 0) (.f .nils)
      | none => .bad)
    | none => .bad)
  | _ => .bad
def slcR (tab : Nat → Option TI) (h : List Blk) (t : Nat) (x : SV) (lo hi mx : Option SV) : OR :=
  match tab t with
  | some ti => (match ti.k with
    | .slice e => (match tab e with
      | some te => (match x with
        | .slc l i len cap => (match hget h l with
          | .rows _ _ c _ _ => if te.size = c then (match bnd cap mx with
            | some m => (match bnd len hi with
              | some b => (match lo with
                | none => .val ((0 ≤ b ∧ b ≤ m) ∧ m ≤ cap) (.slc l i b.toNat m.toNat)
                | some (.f (.int _ a)) => .val ((0 ≤ a ∧ a ≤ b) ∧ (b ≤ m ∧ m ≤ cap)) (.slc l (slRow m.toNat a.toNat i) (b.toNat - a.toNat) (m.toNat - a.toNat))
                | _ => .bad)
              | none => .bad)
            | none => .bad) else .bad
          | _ => .bad)
        | .f .nils => slcN lo hi mx
        | _ => .bad)
      | none => .bad)
    | _ => .bad)
  | none => .bad

section
variable {P : Program} {β : Nat → Loc} {w : World} {h : List Blk} {tab : Nat → Option TI} {n : Nat}
theorem made_get (z : Array Value) {s m q : Nat} (hz : z.size = s) (hq : q < m * s) : (madeCells z (m * s))[q]? = z[q % s]? := by
  have hs : 0 < s := by
    rcases Nat.eq_zero_or_pos s with c | c
    · subst c; simp at hq
    · exact c
  have hm : q % s < z.size := by rw [hz]; exact Nat.mod_lt _ hs
  unfold madeCells
  rw [Array.getElem?_map, Array.getElem?_range, if_pos hq]
  simp only [Option.map_some, hz]
  rw [getElem!_pos z (q % s) hm, Array.getElem?_eq_getElem hm]
theorem zRow_cells {s : Nat} {z : TZ} : z.cells s = (zRow s z).map FV.val := by
  cases z with
  | row l => rfl
  | all v => simp [zRow, TZ.cells]
theorem makeR_ok (ht : TabOk P tab) {t : Nat} {x y : SV} {p : Prop} {blk : Blk} {mk : Nat → SV} (ho : makeR tab t x y = .new p blk mk) (hp : p) : Makes P β n w (Instr.makeSlice t (den β x) (den β y)) blk mk := by
  unfold makeR at ho
  split at ho
  · rename_i k1 a
    split at ho
    · rename_i k2 b
      split at ho
      · rename_i ti hti
        obtain ⟨d, q, hu, hk, _⟩ := ht _ _ hti
        split at ho
        · rename_i e he
          rw [he] at hk; simp only [TK.ok] at hk; subst hk
          split at ho
          · rename_i te hte
            obtain ⟨d2, q2, hu2, _, _, hq2, hsz2, hby, z, hz, hz2, hz3, _⟩ := ht _ _ hte
            split at ho
            · rename_i hb1
              simp only [OR.new.injEq] at ho; obtain ⟨rfl, rfl, rfl⟩ := ho
              obtain ⟨rfl, h0, h1⟩ := hp
              have hbb : (q2.bytes : Int) * a ≤ 281474976710656 := by
                have : (q2.bytes : Int) * a ≤ 1000 * 1048576 := Int.mul_le_mul (by omega) h1 h0 (by omega)
                omega
              have hrun := run_make (P := P) w t e q2 z hu hq2 hz k1 k2 a a h0 (Int.le_refl _) hbb (by omega)
              have hzl : (zRow te.size te.z).length = te.size := by
                have := congrArg List.length (hz2.trans zRow_cells); simp at this; omega
              refine ⟨trivial, _, ⟨w.heap.size, 0, te.size⟩, ext_alloc w _, Nat.le_refl _, rows_new w a.toNat a.toNat te.size (constRow (zRow te.size te.z)) (madeCells z.cells (a.toNat * q2.size)) e (Nat.le_refl _) (fun i _ => hzl) (by rw [size_madeCells, hsz2]) (fun i j hi hj => ?_), Nat.lt_succ_self n, ?_⟩
              · have hlt : i * te.size + j < a.toNat * te.size := by have := Nat.mul_le_mul_right te.size hi; rw [Nat.succ_mul] at this; omega
                rw [hsz2, made_get z.cells hz3 hlt]
                have hmod : (i * te.size + j) % te.size = j := by rw [Nat.add_comm, Nat.add_mul_mod_self_right]; exact Nat.mod_eq_of_lt hj
                rw [hmod, ← Array.getElem?_toList, hz2.trans zRow_cells, List.getElem?_map]; rfl
              · simp only [den, FV.val]
                rw [hrun]; simp [bput_self]
            · cases ho
          · cases ho
        · cases ho
      · cases ho
    · cases ho
  · cases ho

theorem lenR_ok {t ty : TypeId} {d : TypeDesc} (hu : P.underlying t = some d) (hd : (∃ e, d = .slice e) ∨ d = .string) {x : SV} {p : Prop} {r : SV} (ho : lenR x = .val p r) (hs : d = .string → ∃ s, x = .f (.str s)) (hs2 : d ≠ .string → ∀ s, x ≠ .f (.str s)) :
    r.bd n ∧ (Builtin.len_ #[t] ty #[den β x]).run P w = .ok (den β r) w := by
  unfold lenR at ho
  split at ho <;> (try (cases ho; done)) <;> simp only [OR.val.injEq] at ho <;> (obtain ⟨rfl, rfl⟩ := ho) <;> refine ⟨trivial, ?_⟩
  · rcases hd with ⟨e, rfl⟩ | rfl
    · simp [Builtin.len_, run_underlying hu, den, FV.val, goInt]
    · obtain ⟨s, c⟩ := hs rfl; cases c
  · rcases hd with ⟨e, rfl⟩ | rfl
    · simp [Builtin.len_, run_underlying hu, den, FV.val, goInt]
    · obtain ⟨s, c⟩ := hs rfl; cases c
  · rcases hd with ⟨e, rfl⟩ | rfl
    · exact absurd rfl (hs2 (by simp) _)
    · simp [Builtin.len_, run_underlying hu, den, FV.val, goInt]
theorem order_flt (a b : Nat) (ha : nn a) (hb : nn b) : FloatKind.f32.format.order a b = some (if flt a b then .lt else if flt b a then .gt else .eq) := by
  show S.order a b = _
  rw [order_eq ha hb]
  congr 1
  rw [flt_iff ha hb, flt_iff hb ha]
  rcases Int.lt_trichotomy (key a) (key b) with c | c | c
  · rw [compare_lt c, if_pos (decide_eq_true c)]
  · rw [c]; simp [compare, compareOfLessAndEq]
  · rw [compare_gt c, if_neg (by simp; omega), if_pos (decide_eq_true c)]
theorem minR_ok {t1 : Array TypeId} {ty : TypeId} {x y : SV} {p : Prop} {r : SV} (ho : minR x y = .val p r) (hp : p) : r.bd n ∧ (Builtin.min_ t1 ty #[den β x, den β y]).run P w = .ok (den β r) w := by
  unfold minR at ho
  split at ho
  · split at ho
    · split at ho
      · rename_i e; subst e
        simp only [OR.val.injEq] at ho; obtain ⟨rfl, rfl⟩ := ho
        exact ⟨trivial, by simp [Builtin.min_, Builtin.min2, den, FV.val, mnI]⟩
      · cases ho
    · cases ho
  · rename_i a
    split at ho
    · rename_i b
      simp only [OR.val.injEq] at ho; obtain ⟨rfl, rfl⟩ := ho
      refine ⟨trivial, ?_⟩
      simp only [Builtin.min_, Builtin.min2, den, FV.val, List.foldlM_cons, List.foldlM_nil, order_flt a b hp.1 hp.2, fmn]
      cases flt a b <;> cases flt b a <;> simp
    · cases ho
  · cases ho
theorem maxR_ok {t1 : Array TypeId} {ty : TypeId} {x y : SV} {p : Prop} {r : SV} (ho : maxR x y = .val p r) (hp : p) : r.bd n ∧ (Builtin.max_ t1 ty #[den β x, den β y]).run P w = .ok (den β r) w := by
  unfold maxR at ho
  split at ho
  · split at ho
    · split at ho
      · rename_i e; subst e
        simp only [OR.val.injEq] at ho; obtain ⟨rfl, rfl⟩ := ho
        exact ⟨trivial, by simp [Builtin.max_, Builtin.max2, den, FV.val, mxI]⟩
      · cases ho
    · cases ho
  · rename_i a
    split at ho
    · rename_i b
      simp only [OR.val.injEq] at ho; obtain ⟨rfl, rfl⟩ := ho
      refine ⟨trivial, ?_⟩
      have h2 : flt a b = true → flt b a = false := fun h => by
        have := (flt_key h).2.2
        rw [flt_iff hp.2 hp.1]; exact decide_eq_false (by omega)
      simp only [Builtin.max_, Builtin.max2, den, FV.val, List.foldlM_cons, List.foldlM_nil, order_flt a b hp.1 hp.2, fmx]
      cases hf : flt a b <;> cases hg : flt b a <;> simp
      rw [h2 hf] at hg; cases hg
    · cases ho
  · cases ho
theorem extrR_ok {x : SV} {i : Nat} {p : Prop} {r : SV} (ho : extrR x i = .val p r) (hx : x.bd n) : r.bd n ∧ (Instr.extract (den β x) i).run P w = .ok (den β r) w := by
  unfold extrR at ho
  split at ho
  · rename_i l
    split at ho
    · rename_i v hv
      split at ho
      · simp only [OR.val.injEq] at ho; obtain ⟨rfl, rfl⟩ := ho
        rw [rget_eq] at hv
        refine ⟨(bdL_iff _ _).1 hx v (List.mem_of_getElem? hv), ?_⟩
        simp [Instr.extract, den, denL_map, hv]
      · cases ho
    · cases ho
  · cases ho

theorem partR_ok {agg : Bool} {t s o : Nat} {d : TypeDesc} {q : TypeInfo} (hu : P.underlying t = some d) (hd : d.isRow = agg) (hq : P.info? t = some q) (hsz : q.size = s) {x : SV} {p : Prop} {r : SV} (ho : partR agg s x o = .val p r) (hp : p) (hx : x.bd n) :
    r.bd n ∧ ∃ cs, den β x = .agg cs ∧ (part t cs o).run P w = .ok (den β r) w := by
  have hag : (isAgg t).run P w = .ok agg w := by
    unfold isAgg
    rw [Sem.run_bind, run_underlying hu w]
    cases d <;> simp_all [TypeDesc.isRow]
  unfold partR at ho
  split at ho
  · rename_i l
    have hx' : bdL n l := hx
    refine ⟨?_, _, rfl, ?_⟩
    · split at ho
      · split at ho
        · simp only [OR.val.injEq] at ho; obtain ⟨rfl, rfl⟩ := ho
          exact (bdL_iff _ _).2 fun v hv => (bdL_iff _ _).1 hx' v (List.mem_of_mem_drop (List.mem_of_mem_take hv))
        · cases ho
      · split at ho
        · rename_i v hv
          split at ho
          · simp only [OR.val.injEq] at ho; obtain ⟨rfl, rfl⟩ := ho
            rw [rget_eq] at hv; exact (bdL_iff _ _).1 hx' v (List.mem_of_getElem? hv)
          · cases ho
        · cases ho
    · split at ho
      · split at ho
        · rename_i hl
          simp only [OR.val.injEq] at ho; obtain ⟨rfl, rfl⟩ := ho
          simp only [part, Sem.run_bind, hag, Result.andThen_ok, if_true, sizeOf, typeInfo, run_program, hq, Sem.run_pure, hsz, den]
          congr 2
          apply Array.ext'
          simp [sub, denL_map, List.extract_eq_take_drop, List.map_take, List.map_drop]
        · cases ho
      · split at ho
        · rename_i v hv
          split at ho
          · simp only [OR.val.injEq] at ho; obtain ⟨rfl, rfl⟩ := ho
            rw [rget_eq] at hv
            simp [part, hag, denL_map, hv]
          · cases ho
        · cases ho
  · rename_i m g
    refine ⟨?_, _, rfl, ?_⟩
    · split at ho <;> (simp only [OR.val.injEq] at ho; obtain ⟨rfl, rfl⟩ := ho; trivial)
    · split at ho
      · simp only [OR.val.injEq] at ho; obtain ⟨rfl, rfl⟩ := ho
        simp only [part, Sem.run_bind, hag, Result.andThen_ok, if_true, sizeOf, typeInfo, run_program, hq, Sem.run_pure, hsz, den]
        congr 2
        apply Array.ext'
        apply List.ext_getElem?
        intro k
        simp only [List.extract_toArray, List.extract_eq_take_drop, List.getElem?_take, List.getElem?_drop, List.getElem?_map]
        by_cases c : k < s
        · rw [if_pos (by omega), List.getElem?_range (by omega), List.getElem?_range c]; rfl
        · rw [if_neg (by omega), List.getElem?_eq_none (by simp; omega)]; rfl
      · simp only [OR.val.injEq] at ho; obtain ⟨rfl, rfl⟩ := ho
        have : ((List.range m).map fun i => (g i).val)[o]? = some (g o).val := by rw [List.getElem?_map, List.getElem?_range hp]; rfl
        simp [part, hag, den, hp]
  · cases ho
theorem fldR_ok (ht : TabOk P tab) {t f : Nat} {x : SV} {p : Prop} {r : SV} (ho : fldR tab t x f = .val p r) (hp : p) (hx : x.bd n) : r.bd n ∧ (Instr.field t (den β x) f).run P w = .ok (den β r) w := by
  unfold fldR at ho
  split at ho
  · rename_i ti hti
    obtain ⟨d, q, hu, hk, _⟩ := ht _ _ hti
    split at ho
    · rename_i fs hfs
      rw [hfs] at hk
      obtain ⟨F, rfl, hF⟩ := hk
      split at ho
      · rename_i qf hqf
        split at ho
        · rename_i tf htf
          obtain ⟨d2, qi, hu2, _, hrow, hqi, hsz, _⟩ := ht _ _ htf
          rw [rget_eq, ← hF, List.getElem?_map] at hqf
          obtain ⟨fd, hfd, rfl⟩ := Option.map_eq_some_iff.1 hqf
          have hfd' : F[f]? = some fd := by simpa using hfd
          obtain ⟨hb, cs, hcs, hrun⟩ := partR_ok (β := β) (w := w) hu2 hrow hqi hsz ho hp hx
          refine ⟨hb, ?_⟩
          simp [Instr.field, run_underlying hu, hfd', hcs, asAgg, hrun]
        · cases ho
      · cases ho
    · cases ho
  · cases ho
theorem idxR_ok (ht : TabOk P tab) {t : Nat} {x ix : SV} {p : Prop} {r : SV} (ho : idxR tab t x ix = .val p r) (hp : p) (hx : x.bd n) : r.bd n ∧ (Instr.index t (den β x) (den β ix)).run P w = .ok (den β r) w := by
  unfold idxR at ho
  split at ho
  · rename_i k m
    split at ho
    · rename_i ti hti
      obtain ⟨d, q, hu, hk, _⟩ := ht _ _ hti
      split at ho
      · rename_i len e he
        rw [he] at hk; simp only [TK.ok] at hk; subst hk
        split at ho
        · rename_i te hte
          obtain ⟨d2, qi, hu2, _, hrow, hqi, hsz, _⟩ := ht _ _ hte
          split at ho
          · rename_i p' v hpart
            simp only [OR.val.injEq] at ho; obtain ⟨rfl, rfl⟩ := ho
            obtain ⟨hb, cs, hcs, hrun⟩ := partR_ok (β := β) (w := w) hu2 hrow hqi hsz hpart hp.2 hx
            refine ⟨hb, ?_⟩
            simp [Instr.index, asIntOf, run_underlying hu, hcs, den, FV.val, hp.1.1, hp.1.2, sizeOf, typeInfo, hqi, hsz, hrun]
          · cases ho
        · cases ho
      · rename_i he
        rw [he] at hk; simp only [TK.ok] at hk; subst hk
        split at ho
        · rename_i s
          simp only [OR.val.injEq] at ho; obtain ⟨rfl, rfl⟩ := ho
          refine ⟨trivial, ?_⟩
          have hlt : m.toNat < s.size := by omega
          have hg : s[m.toNat]? = some s[m.toNat] := getElem?_pos s m.toNat hlt
          have hb : btAt s m.toNat = (s[m.toNat].toNat : Int) := by
            unfold btAt
            rw [Array.getElem?_eq_getElem (show m.toNat < s.data.size from hlt)]; rfl
          simp [Instr.index, asIntOf, run_underlying hu, den, FV.val, hp.1, hg, hb]
        · cases ho
      · cases ho
    · cases ho
  · cases ho
theorem sliceBound_ok (k : IntKind) (n : Int) (y : Nat) (code : BoundsCode) (w : World) (h0 : 0 ≤ n) (h1 : n ≤ y) : (Instr.sliceBound (.int k n) y code).run P w = .ok n.toNat w := by
  simp [Instr.sliceBound, asIntOf, h0, h1]
theorem bnd_cases {d : Nat} {o : Option SV} {b : Int} (h : bnd d o = some b) : (o = none ∧ b = d) ∨ ∃ k, o = some (.f (.int k b)) := by
  unfold bnd at h
  split at h
  · simp only [Option.some.injEq] at h; exact .inl ⟨rfl, h.symm⟩
  · simp only [Option.some.injEq] at h; subst h; exact .inr ⟨_, rfl⟩
  · cases h
theorem slcN_ok {t e : Nat} {te : Nat} {qi : TypeInfo} (hu : P.underlying t = some (.slice e)) (hqi : P.info? e = some qi) {lo hi mx : Option SV} {p : Prop} {r : SV} (ho : slcN lo hi mx = .val p r) (hp : p) (hm : mx.isSome = true → hi.isSome = true) :
    r.bd n ∧ (Instr.sliceAt t (den β (.f .nils)) (lo.map (den β)) (hi.map (den β)) (mx.map (den β))).run P w = .ok (den β r) w := by
  unfold slcN at ho
  split at ho
  · split at ho
    · rename_i m hbm
      split at ho
      · rename_i b hbb
        simp only [OR.val.injEq] at ho
        obtain ⟨rfl, rfl⟩ := ho
        refine ⟨trivial, ?_⟩
        have hm0 : m = 0 := by omega
        have hb0 : b = 0 := by omega
        subst hm0 hb0
        have hbn : (Instr.sliceBounds true 0 0 none (hi.map (den β)) (mx.map (den β))).run P w = .ok (0, 0, 0) w := by
          unfold Instr.sliceBounds
          rcases bnd_cases hbm with ⟨e1, e2⟩ | ⟨k1, e1⟩ <;> rcases bnd_cases hbb with ⟨e3, e4⟩ | ⟨k2, e3⟩ <;> subst e1 <;> subst e3 <;> (try simp at hm)
          · simp
          · have hsb := fun code => sliceBound_ok (P := P) k2 0 0 code w (by omega) (by omega)
            simp [den, FV.val, hsb]
          · have hsm := fun code => sliceBound_ok (P := P) k1 0 0 code w (by omega) (by omega)
            have hsb := fun code => sliceBound_ok (P := P) k2 0 0 code w (by omega) (by omega)
            simp [den, FV.val, hsb, hsm]
        have h2 : (Instr.slice t (.slice none 0 0) none (hi.map (den β)) (mx.map (den β))).run P w = .ok (.slice none 0 0) w := by
          unfold Instr.slice
          simp only [Sem.run_bind, run_underlying hu, Result.andThen_ok, hbn, sizeOf, typeInfo]
          simp [hqi]
        unfold Instr.sliceAt
        simp only [Sem.run_bind, run_underlying hu, Result.andThen_ok]
        exact h2
      · cases ho
    · cases ho
  · cases ho
theorem slcR_ok (ht : TabOk P tab) (H : Holds w β h) {t : Nat} {x : SV} {lo hi mx : Option SV} {p : Prop} {r : SV} (ho : slcR tab h t x lo hi mx = .val p r) (hp : p) (hx : x.bd n) (hm : mx.isSome = true → hi.isSome = true) :
    r.bd n ∧ (Instr.sliceAt t (den β x) (lo.map (den β)) (hi.map (den β)) (mx.map (den β))).run P w = .ok (den β r) w := by
  unfold slcR at ho
  split at ho
  · rename_i ti hti
    obtain ⟨d, q, hu, hk, _⟩ := ht _ _ hti
    split at ho
    · rename_i e he
      rw [he] at hk; simp only [TK.ok] at hk; subst hk
      split at ho
      · rename_i te hte
        obtain ⟨_, qi, _, _, _, hqi, hsz, _⟩ := ht _ _ hte
        split at ho
        · rename_i l i len cap
          split at ho
          · rename_i nb cb c f o hblk
            split at ho
            · rename_i hc
              have hL : (β l).c = c := by have := (H.ok l).fit; rw [hblk] at this; exact this.1
              have hs2 : qi.size = (β l).c := by omega
              have hadd : ∀ (b o k : Nat), (⟨b, o, none⟩ : Addr).add k = ⟨b, o + k, none⟩ := fun b o k => Addr.add_mid b o k
              split at ho
              · rename_i m hbm
                split at ho
                · rename_i b hbb
                  have key : ∀ (lov : Option Value) (a : Nat) (_ : ∀ code, (match lov with | some v => Instr.sliceBound v b.toNat code | none => pure 0).run P w = .ok a w) (_ : 0 ≤ b ∧ b ≤ m) (_ : m ≤ cap), (Instr.sliceAt t (den β (.slc l i len cap)) lov (hi.map (den β)) (mx.map (den β))).run P w = .ok (.slice (some ⟨(β l).b, (β l).lo + (if m.toNat = a then i else i + a) * (β l).c, none⟩) (b.toNat - a) (m.toNat - a)) w := by
                    intro lov a hlo hb1 hm1
                    have hr : ∀ a : Nat, (if m.toNat = a then (some ⟨(β l).b, (β l).lo + i * (β l).c, none⟩ : Option Addr) else (some (⟨(β l).b, (β l).lo + i * (β l).c, none⟩ : Addr)).map (·.add (a * qi.size))) = some ⟨(β l).b, (β l).lo + (if m.toNat = a then i else i + a) * (β l).c, none⟩ := by
                      intro a
                      split
                      · rfl
                      · simp only [Option.map_some, hadd, hs2, Nat.add_mul, Nat.add_assoc]
                    have hbn : (Instr.sliceBounds true len cap lov (hi.map (den β)) (mx.map (den β))).run P w = .ok (a, b.toNat, m.toNat) w := by
                      unfold Instr.sliceBounds
                      rcases bnd_cases hbm with ⟨e1, e2⟩ | ⟨k1, e1⟩ <;> rcases bnd_cases hbb with ⟨e3, e4⟩ | ⟨k2, e3⟩ <;> subst e1 <;> subst e3 <;> (try simp at hm)
                      · subst e2 e4
                        simp only [Int.toNat_natCast] at hlo ⊢
                        cases lov with
                        | none => have := hlo .sliceB; simp at this ⊢; exact this
                        | some v => have := hlo .sliceB; simp at this ⊢; simp [this]
                      · subst e2
                        have hsb := fun code => sliceBound_ok (P := P) k2 b cap code w hb1.1 (by omega)
                        cases lov with
                        | none => have := hlo .sliceB; simp at this; simp [den, FV.val, hsb, this]
                        | some v => have := hlo .sliceB; simp at this; simp [den, FV.val, hsb, this]
                      · have hsm := fun code => sliceBound_ok (P := P) k1 m cap code w (by omega) (by omega)
                        have hsb := fun code => sliceBound_ok (P := P) k2 b m.toNat code w hb1.1 (by omega)
                        cases lov with
                        | none => have := hlo .slice3C; simp at this; simp [den, FV.val, hsb, hsm, this]
                        | some v => have := hlo .slice3C; simp at this; simp [den, FV.val, hsb, hsm, this]
                    have h2 : (Instr.slice t (den β (.slc l i len cap)) lov (hi.map (den β)) (mx.map (den β))).run P w = .ok (.slice (some ⟨(β l).b, (β l).lo + (if m.toNat = a then i else i + a) * (β l).c, none⟩) (b.toNat - a) (m.toNat - a)) w := by
                      unfold Instr.slice
                      simp only [Sem.run_bind, run_underlying hu, Result.andThen_ok, den]
                      rw [show Instr.sliceBounds true len cap lov (hi.map (den β)) (mx.map (den β)) = Instr.sliceBounds true len cap lov (hi.map (den β)) (mx.map (den β)) from rfl]
                      simp only [Sem.run_bind, hbn, Result.andThen_ok, sizeOf, typeInfo]
                      have := hr a
                      rw [Option.map_some] at this
                      simp [hqi]
                      exact this
                    unfold Instr.sliceAt
                    simp only [Sem.run_bind, run_underlying hu, Result.andThen_ok]
                    exact h2
                  split at ho
                  · simp only [OR.val.injEq] at ho; obtain ⟨rfl, rfl⟩ := ho
                    refine ⟨hx, ?_⟩
                    have := key none 0 (fun code => rfl) hp.1 hp.2
                    rw [Option.map_none, this]
                    simp [den]
                  · rename_i k2 a2
                    simp only [OR.val.injEq] at ho; obtain ⟨rfl, rfl⟩ := ho
                    refine ⟨hx, ?_⟩
                    have := key (some (.int k2 a2)) a2.toNat (fun code => sliceBound_ok (P := P) k2 a2 b.toNat code w hp.1.1 (by omega)) ⟨by omega, hp.2.1⟩ hp.2.2
                    rw [Option.map_some]
                    show (Instr.sliceAt t (den β (.slc l i len cap)) (some (.int k2 a2)) _ _).run P w = _
                    rw [this]
                    simp [den, slRow]
                  · cases ho
                · cases ho
              · cases ho
            · cases ho
          · cases ho
        · exact slcN_ok (te := 0) hu hqi ho hp hm
        · cases ho
      · cases ho
    · cases ho
  · cases ho
end
end Go.Proofs.Ytdncopphjamilaa.Vx
