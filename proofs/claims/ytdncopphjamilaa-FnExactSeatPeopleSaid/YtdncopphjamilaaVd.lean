/- Abstract execution: loads, stores and places. Over any program. -/
import Derived.Test.YtdncopphjamilaaVc
namespace Go.Proofs.Ytdncopphjamilaa.Vx
open Go Go.RowKit Fl
set_option linter.unusedVariables false
set_option linter.unusedSimpArgs false

def allKnown : List SV → Bool
  | [] => true
  | v :: r => v.one && allKnown r
theorem allKnown_iff : ∀ l, allKnown l = true ↔ ∀ v ∈ l, v.one = true
  | [] => by simp [allKnown]
  | v :: r => by simp [allKnown, allKnown_iff r]
def shf (g : Nat → FV) (j : Nat) : Nat → FV := fun k => g (j + k)
theorem shf_zero (g : Nat → FV) : shf g 0 = g := by funext k; simp [shf]
def mapF : List FV → List SV
  | [] => []
  | v :: r => .f v :: mapF r
theorem mapF_eq : ∀ l, mapF l = l.map SV.f
  | [] => rfl
  | v :: r => by rw [mapF, mapF_eq r]; rfl
def sub {α : Type} (l : List α) (j s : Nat) : List α := (l.drop j).take s

def ldOne (blk : Blk) (i j : Nat) : OR :=
  match blk with
  | .lit row _ => (match i with
    | 0 => (match rget row j with
      | some v => (match v.one with | true => .val True v | false => .bad)
      | none => .bad)
    | _ => .bad)
  | .rows n _ _ f _ => (match rget (f i) j with
    | some v => .val (i < n) (.f v)
    | none => .bad)
  | .cells n g _ => (match i with
    | 0 => .val (j < n) (.f (g j))
    | _ => .bad)
  | .dead => .bad
def ldAgg (blk : Blk) (i j s : Nat) : OR :=
  match blk with
  | .lit row _ => (match i with
    | 0 => if j + s ≤ row.length then (match allKnown (sub row j s) with | true => .val True (.agg (sub row j s)) | false => .bad) else .bad
    | _ => .bad)
  | .rows n _ c f _ => if j + s ≤ c then .val (i < n) (.agg (mapF (sub (f i) j s))) else .bad
  | .cells n g _ => (match i with
    | 0 => .val (j + s ≤ n) (.arr s (shf g j))
    | _ => .bad)
  | .dead => .bad
def ldR (tab : Nat → Option TI) (h : List Blk) (t : Nat) (x : SV) : OR :=
  match x with
  | .ptr l i j => (match tab t with
    | some ti => (match ti.k.agg with
      | true => ldAgg (hget h l) i j ti.size
      | false => ldOne (hget h l) i j)
    | none => .bad)
  | _ => .bad

section
variable {P : Program} {β : Nat → Loc} {w : World} {h : List Blk} {tab : Nat → Option TI}
theorem loadVar_one {t : TypeId} {d : TypeDesc} (hu : P.underlying t = some d) (hd : d.isRow = false) {a : Addr} {v : Value} (hc : w.cell? a = some v) : (loadVar t a).run P w = .ok v w := by
  have : (isAgg t).run P w = .ok false w := by
    unfold isAgg
    rw [Sem.run_bind, run_underlying hu w]
    cases d <;> simp_all [TypeDesc.isRow]
  simp [loadVar, this, hc]
theorem loadAt_of {t : TypeId} {b o : Nat} {v : Value} (hl : (loadVar t ⟨b, o, none⟩).run P w = .ok v w) : (Instr.loadAt t (.pointer (some ⟨b, o, none⟩))).run P w = .ok v w := by
  simp [Instr.loadAt, Instr.sureAddr, hl]
theorem Blk.bd_cell {blk : Blk} {n i j : Nat} {v : SV} (hb : blk.bd n) (hv : blk.cell i j = some v) : v.bd n := by
  cases blk with
  | lit row o =>
    simp only [Blk.cell] at hv
    split at hv
    · rw [rget_eq] at hv; exact (bdL_iff n row).1 hb v (List.mem_of_getElem? hv)
    · cases hv
  | rows n' cap c f o =>
    simp only [Blk.cell] at hv
    split at hv
    · obtain ⟨u, _, rfl⟩ := Option.map_eq_some_iff.1 hv; trivial
    · cases hv
  | cells n' g o =>
    simp only [Blk.cell] at hv
    split at hv
    · cases hv; trivial
    · cases hv
  | dead => cases hv
theorem ldOne_ok (H : Holds w β h) {l i j : Nat} {p : Prop} {r : SV} (ho : ldOne (hget h l) i j = .val p r) (hp : p) :
    r.bd h.length ∧ w.cell? ⟨(β l).b, (β l).lo + i * (β l).c + j, none⟩ = some (den β r) := by
  have hb := H.bd l
  have hk := H.ok l
  generalize hget h l = blk at *
  have key : ∀ v : SV, blk.cell i j = some v → v.known = true → v.bd h.length ∧ w.cell? ⟨(β l).b, (β l).lo + i * (β l).c + j, none⟩ = some (den β v) := fun v hv hkn => ⟨Blk.bd_cell hb hv, (hk.cell i j v hv hkn).2⟩
  cases blk with
  | lit row o =>
    simp only [ldOne] at ho
    split at ho
    · split at ho
      · rename_i v hv
        split at ho
        · rename_i h1
          simp only [OR.val.injEq] at ho; obtain ⟨rfl, rfl⟩ := ho
          exact key v (by simp [Blk.cell, hv]) (SV.one_known h1)
        · cases ho
      · cases ho
    · cases ho
  | rows n cap c f o =>
    simp only [ldOne] at ho
    split at ho
    · rename_i v hv
      simp only [OR.val.injEq] at ho; obtain ⟨rfl, rfl⟩ := ho
      exact key _ (by simp [Blk.cell, hv, hp]) rfl
    · cases ho
  | cells n g o =>
    simp only [ldOne] at ho
    split at ho
    · simp only [OR.val.injEq] at ho; obtain ⟨rfl, rfl⟩ := ho
      exact key _ (by simp [Blk.cell, hp]) rfl
    · cases ho
  | dead => cases ho
theorem sub_get {α : Type} (l : List α) (j s k : Nat) : (sub l j s)[k]? = if k < s then l[j + k]? else none := by
  unfold sub
  rw [List.getElem?_take]
  split
  · rw [List.getElem?_drop]
  · rfl
theorem ldAgg_ok (H : Holds w β h) {l i j s : Nat} {p : Prop} {r : SV} (ho : ldAgg (hget h l) i j s = .val p r) (hp : p) :
    r.bd h.length ∧ ∃ cs : List Value, den β r = .agg cs.toArray ∧ cs.length = s ∧ w.rangeAt (β l).b ((β l).lo + i * (β l).c + j) cs := by
  have hb := H.bd l
  have hk := H.ok l
  generalize hget h l = blk at *
  cases blk with
  | lit row o =>
    simp only [ldAgg] at ho
    split at ho
    · split at ho
      · rename_i hl
        split at ho
        · rename_i ha
          simp only [OR.val.injEq] at ho; obtain ⟨rfl, rfl⟩ := ho
          rw [allKnown_iff] at ha
          refine ⟨(bdL_iff _ _).2 fun v hv => (bdL_iff _ row).1 hb v (List.mem_of_mem_drop (List.mem_of_mem_take hv)), denL β (sub row j s), by simp [den], by rw [denL_map]; simp [sub]; omega, fun k v hv => ?_⟩
          rw [denL_map, List.getElem?_map] at hv
          obtain ⟨u, hu, rfl⟩ := Option.map_eq_some_iff.1 hv
          have h1 := ha u (List.mem_of_getElem? hu)
          rw [sub_get] at hu
          split at hu
          · have := (hk.cell 0 (j + k) u (by simp [Blk.cell, rget_eq, hu]) (SV.one_known h1)).2
            rw [← this]; congr 2; omega
          · cases hu
        · cases ho
      · cases ho
    · cases ho
  | rows n cap c f o =>
    simp only [ldAgg] at ho
    split at ho
    · rename_i hl
      simp only [OR.val.injEq] at ho; obtain ⟨rfl, rfl⟩ := ho
      have hlen := (hk.fit).2.2 i hp
      refine ⟨(bdL_iff _ _).2 fun v hv => ?_, denL β (mapF (sub (f i) j s)), by simp [den], by rw [denL_map, mapF_eq]; simp [sub]; omega, fun k v hv => ?_⟩
      · rw [mapF_eq] at hv; obtain ⟨u, _, rfl⟩ := List.mem_map.1 hv; trivial
      · rw [denL_map, mapF_eq, List.getElem?_map, List.getElem?_map] at hv
        obtain ⟨u, hu, rfl⟩ := Option.map_eq_some_iff.1 hv
        obtain ⟨u, hu, rfl⟩ := Option.map_eq_some_iff.1 hu
        rw [sub_get] at hu
        split at hu
        · have := (hk.cell i (j + k) (.f u) (by simp [Blk.cell, rget_eq, hu, hp]) rfl).2
          rw [← this]; congr 2; omega
        · cases hu
    · cases ho
  | cells n g o =>
    simp only [ldAgg] at ho
    split at ho
    · simp only [OR.val.injEq] at ho; obtain ⟨rfl, rfl⟩ := ho
      refine ⟨trivial, (List.range s).map fun k => (shf g j k).val, by simp [den], by simp, fun k v hv => ?_⟩
      rw [List.getElem?_map] at hv
      obtain ⟨u, hu, rfl⟩ := Option.map_eq_some_iff.1 hv
      have hu' := List.getElem?_eq_some_iff.1 hu
      obtain ⟨hks, he⟩ := hu'
      simp at hks he
      subst he
      have := (hk.cell 0 (j + k) (.f (g (j + k))) (if_pos ⟨rfl, by omega⟩) rfl).2
      rw [show (shf g j k).val = den β (.f (g (j + k))) from rfl, ← this]; congr 2; omega
    · cases ho
  | dead => cases ho
theorem ldR_ok (ht : TabOk P tab) (H : Holds w β h) {t : Nat} {x : SV} {p : Prop} {r : SV} (ho : ldR tab h t x = .val p r) (hp : p) :
    r.bd h.length ∧ (Instr.loadAt t (den β x)).run P w = .ok (den β r) w := by
  unfold ldR at ho
  split at ho
  · rename_i l i j
    split at ho
    · rename_i ti hti
      obtain ⟨d, q, hu, _, hrow, hq, hsz, _⟩ := ht _ _ hti
      split at ho
      · rename_i ha
        obtain ⟨hb, cs, he, hl, hr⟩ := ldAgg_ok H ho hp
        refine ⟨hb, loadAt_of ?_⟩
        rw [he]
        exact run_loadVar_mid w _ _ t cs d hr hu (by rw [hrow, ha]) (by rw [hq, hl, ← hsz]; rfl)
      · rename_i ha
        obtain ⟨hb, hc⟩ := ldOne_ok H ho hp
        exact ⟨hb, loadAt_of (loadVar_one hu (by rw [hrow, ha]) hc)⟩
    · cases ho
  · cases ho
end

/-! ### Places -/
def fieldR (tab : Nat → Option TI) (t : Nat) (x : SV) (f : Nat) : OR :=
  match x with
  | .ptr l i j => (match tab t with
    | some ti => (match ti.k with
      | .struct fs => (match rget fs f with
        | some q => (match tab q.2 with
          | some tf => if tf.size = 0 then .bad else .val True (.ptr l i (j + q.1))
          | none => .bad)
        | none => .bad)
      | _ => .bad)
    | none => .bad)
  | _ => .bad
def indexR (tab : Nat → Option TI) (h : List Blk) (t : Nat) (x ix : SV) : OR :=
  match ix with
  | .f (.int _ n) => (match tab t with
    | some ti => (match ti.k with
      | .slice e => (match x with
        | .slc l i len _ => (match tab e with
          | some te => (match hget h l with
            | .rows _ _ c _ _ => if te.size = c then .val (0 ≤ n ∧ n < len) (.ptr l (i + n.toNat) 0) else .bad
            | _ => .bad)
          | none => .bad)
        | _ => .bad)
      | .arr m e => (match x with
        | .ptr l i j => (match tab e with
          | some te => .val (0 ≤ n ∧ n < m) (.ptr l i (j + n.toNat * te.size))
          | none => .bad)
        | _ => .bad)
      | _ => .bad)
    | none => .bad)
  | _ => .bad
def nilR (x : SV) : OR :=
  match x with
  | .ptr l i j => .val True (.ptr l i j)
  | .fn f a b => .val True (.fn f a b)
  | _ => .bad

section
variable {P : Program} {β : Nat → Loc} {w : World} {h : List Blk} {tab : Nat → Option TI} {n : Nat}
theorem fieldR_ok (ht : TabOk P tab) {t f : Nat} {x : SV} {p : Prop} {r : SV} (ho : fieldR tab t x f = .val p r) (hx : x.bd n) : r.bd n ∧ (Instr.fieldAt t (den β x) f).run P w = .ok (den β r) w := by
  unfold fieldR at ho
  split at ho
  · rename_i l i j
    split at ho
    · rename_i ti hti
      obtain ⟨d, q, hu, hk, _⟩ := ht _ _ hti
      split at ho
      · rename_i fs hfs
        rw [hfs] at hk
        obtain ⟨F, rfl, hF⟩ := hk
        split at ho
        · rename_i qf hqf
          split at ho
          · rename_i tf htf
            obtain ⟨_, qi, _, _, _, hqi, hsz, _⟩ := ht _ _ htf
            split at ho
            · cases ho
            · rename_i hne
              simp only [OR.val.injEq] at ho; obtain ⟨rfl, rfl⟩ := ho
              refine ⟨hx, ?_⟩
              rw [rget_eq, ← hF, List.getElem?_map] at hqf
              obtain ⟨fd, hfd, rfl⟩ := Option.map_eq_some_iff.1 hqf
              have hfd' : F[f]? = some fd := by simpa using hfd
              have hs : qi.size ≠ 0 := by omega
              have hadd : ∀ (b o k : Nat), (⟨b, o, none⟩ : Addr).add k = ⟨b, o + k, none⟩ := fun b o k => Addr.add_mid b o k
              simp [Instr.fieldAt, run_underlying hu, hfd', den, Instr.sureAddr, fieldPlace, sizeOf, typeInfo, hqi, hs, hadd, Nat.add_assoc]
          · cases ho
        · cases ho
      · cases ho
    · cases ho
  · cases ho
theorem indexR_ok (ht : TabOk P tab) (H : Holds w β h) {t : Nat} {x ix : SV} {p : Prop} {r : SV} (ho : indexR tab h t x ix = .val p r) (hp : p) (hx : x.bd n) : r.bd n ∧ (Instr.indexAt t (den β x) (den β ix)).run P w = .ok (den β r) w := by
  unfold indexR at ho
  split at ho
  · rename_i k m
    split at ho
    · rename_i ti hti
      obtain ⟨d, q, hu, hk, _⟩ := ht _ _ hti
      have hadd : ∀ (b o k : Nat), (⟨b, o, none⟩ : Addr).add k = ⟨b, o + k, none⟩ := fun b o k => Addr.add_mid b o k
      split at ho
      · rename_i e he
        rw [he] at hk; simp only [TK.ok] at hk; subst hk
        split at ho
        · rename_i l i len cap
          split at ho
          · rename_i te hte
            obtain ⟨_, qi, _, _, _, hqi, hsz, _⟩ := ht _ _ hte
            split at ho
            · rename_i nb cb c f o hblk
              split at ho
              · rename_i hc
                simp only [OR.val.injEq] at ho; obtain ⟨rfl, rfl⟩ := ho
                have hL : (β l).c = c := by have := (H.ok l).fit; rw [hblk] at this; exact this.1
                refine ⟨hx, ?_⟩
                have he2 : (β l).lo + i * (β l).c + m.toNat * (β l).c = (β l).lo + (i + m.toNat) * (β l).c := by rw [Nat.add_mul]; omega
                have hs2 : qi.size = (β l).c := by omega
                simp [Instr.indexAt, asIntOf, run_underlying hu, den, FV.val, hp.1, hp.2, sizeOf, typeInfo, hqi, hs2, hadd, he2]
              · cases ho
            · cases ho
          · cases ho
        · cases ho
      · rename_i len e he
        rw [he] at hk; simp only [TK.ok] at hk; subst hk
        split at ho
        · rename_i l i j
          split at ho
          · rename_i te hte
            obtain ⟨_, qi, _, _, _, hqi, hsz, _⟩ := ht _ _ hte
            simp only [OR.val.injEq] at ho; obtain ⟨rfl, rfl⟩ := ho
            refine ⟨hx, ?_⟩
            simp [Instr.indexAt, asIntOf, run_underlying hu, den, FV.val, Instr.sureAddr, hp.1, hp.2, sizeOf, typeInfo, hqi, hsz, hadd, Nat.add_assoc]
          · cases ho
        · cases ho
      · cases ho
    · cases ho
  · cases ho
end
end Go.Proofs.Ytdncopphjamilaa.Vx
