/- Values that lie flat (structs and arrays of integers and floats): their cells have the kinds of their type. -/
import Derived.Test.YtdncopphjamilaaB
import Derived.Deep.Slices
namespace Go.Proofs.Ytdncopphjamilaa
open Go.ChangeShapes Go.WideShapes Go.RowKit

inductive CK where
  | i (k : IntKind)
  | f (k : FloatKind)

def CK.ok : CK → Value → Prop
  | .i k, v => ∃ n : Int, v = .int k n ∧ (Lit.int k n).wf = true
  | .f k, v => ∃ b : Nat, v = .float k b ∧ (Lit.float k b).wf = true

def CKs : List CK → List Value → Prop
  | [], [] => True
  | k :: ks, v :: vs => k.ok v ∧ CKs ks vs
  | _, _ => False

def flatFs (P : Program) (g : TypeId → Option (List CK)) (total : Nat) : List Field → Nat → Option (List CK)
  | [], o => if o = total then some [] else none
  | f :: r, o => if f.offset = o then (g f.type).bind fun l => if l.length = P.cellsOf f.type then (flatFs P g total r (o + l.length)).map (l ++ ·) else none else none

def flatK (P : Program) : Nat → TypeId → Option (List CK)
  | 0, _ => none
  | d + 1, t =>
    match P.underlying t with
    | some (.int k) => some [.i k]
    | some (.float k) => some [.f k]
    | some (.struct fs) => flatFs P (flatK P d) (P.cellsOf t) fs.toList 0
    | some (.array n e) => (flatK P d e).bind fun l => if l.length = P.cellsOf e ∧ P.cellsOf t = n * P.cellsOf e then some (List.replicate n l).flatten else none
    | _ => none

theorem CKs.length : ∀ {ks : List CK} {vs : List Value}, CKs ks vs → vs.length = ks.length
  | [], [], _ => rfl
  | _ :: _, _ :: _, h => by simp [CKs.length h.2]

theorem CKs.append : ∀ {ks : List CK} {vs : List Value} {ks' : List CK} {vs' : List Value}, CKs ks vs → CKs ks' vs' → CKs (ks ++ ks') (vs ++ vs')
  | [], [], _, _, _, h' => h'
  | _ :: _, _ :: _, _, _, h, h' => ⟨h.1, CKs.append h.2 h'⟩

theorem CKs.get : ∀ {ks : List CK} {vs : List Value} (_ : CKs ks vs) (j : Nat) (k : CK), ks[j]? = some k → ∃ v, vs[j]? = some v ∧ k.ok v
  | [], [], _, _, _, hj => by simp at hj
  | a :: ks, v :: vs, h, 0, k, hj => ⟨v, rfl, by simp at hj; rw [← hj]; exact h.1⟩
  | a :: ks, v :: vs, h, j + 1, k, hj => by
    obtain ⟨u, hu, ok⟩ := CKs.get h.2 j k (by simpa using hj)
    exact ⟨u, by simpa using hu, ok⟩

section
variable {H : Type} {enc : TypeId × Value → H} {P : Program} {w : World} {base : Nat} {spare : Nat → Bool} {held : Bool}

theorem flatFs_cells {g : TypeId → Option (List CK)} {total m : Nat} {cs : List Value}
    (ih : ∀ {t : TypeId} {ks : List CK} {c : List Value} {y : DataW H × List MemPlace}, g t = some ks → DataW.trod enc P w base spare held m t c = some y → CKs ks c) (hl : cs.length = total) :
    ∀ (r : List Field) (o : Nat) (ks : List CK), flatFs P g total r o = some ks → o ≤ total → (∀ f ∈ r, ∃ y, DataW.trod enc P w base spare held m f.type ((cs.drop f.offset).take (P.cellsOf f.type)) = some y) → CKs ks (cs.drop o)
  | [], o, ks, h, _, _ => by
    simp only [flatFs] at h
    split at h
    · cases h; rename_i e; subst e; rw [← hl, List.drop_length]; trivial
    · cases h
  | f :: r, o, ks, h, ho, hf => by
    simp only [flatFs] at h
    split at h
    · rename_i e
      cases hg : g f.type with
      | none => rw [hg] at h; cases h
      | some l =>
        rw [hg] at h; simp only [Option.bind_some] at h
        split at h
        · rename_i hlen
          cases hr : flatFs P g total r (o + l.length) with
          | none => rw [hr] at h; cases h
          | some ks' =>
            rw [hr] at h; simp only [Option.map_some, Option.some.injEq] at h
            obtain ⟨y, hy⟩ := hf f (by simp)
            have h1 := ih hg hy
            have h1l := h1.length
            rw [e] at h1 h1l
            rw [← h]
            simp only [List.length_take, List.length_drop] at h1l
            have hle : o + l.length ≤ total := by omega
            have h2 := flatFs_cells ih hl r (o + l.length) ks' hr hle (fun f' hf' => hf f' (by simp [hf']))
            have e2 : cs.drop o = (cs.drop o).take (P.cellsOf f.type) ++ cs.drop (o + l.length) := by
              rw [hlen, ← List.drop_drop, List.take_append_drop]
            rw [e2]
            exact h1.append h2
        · cases h
    · cases h

theorem flatA_cells {l : List CK} {c m : Nat} {e : TypeId} (hc : l.length = c) (ih : ∀ {cs : List Value} {y : DataW H × List MemPlace}, DataW.trod enc P w base spare held m e cs = some y → CKs l cs) :
    ∀ (n : Nat) (cs : List Value), cs.length = n * c → (∀ i, i < n → ∃ y, DataW.trod enc P w base spare held m e ((cs.drop (i * c)).take c) = some y) → CKs (List.replicate n l).flatten cs
  | 0, cs, hl, _ => by
    have : cs = [] := List.length_eq_zero_iff.1 (by omega)
    subst this; trivial
  | n + 1, cs, hl, h => by
    obtain ⟨y, hy⟩ := h 0 (by omega)
    rw [Nat.zero_mul, List.drop_zero] at hy
    have h1 := ih hy
    have h2 := flatA_cells hc ih n (cs.drop c) (by rw [List.length_drop, hl, Nat.add_mul]; omega) (fun i hi => by
      obtain ⟨y, hy⟩ := h (i + 1) (by omega)
      refine ⟨y, ?_⟩
      rw [List.drop_drop, show c + i * c = (i + 1) * c from by rw [Nat.add_mul]; omega]; exact hy)
    rw [List.replicate_succ, List.flatten_cons, ← List.take_append_drop c cs]
    exact h1.append h2

theorem flat_cells : ∀ (d : Nat) {t : TypeId} {ks : List CK} {fuel : Nat} {cs : List Value} {x : DataW H × List MemPlace},
    flatK P d t = some ks → DataW.trod enc P w base spare held fuel t cs = some x → CKs ks cs
  | 0, _, _, _, _, _, h, _ => by cases h
  | d + 1, t, ks, fuel, cs, x, h, hx => by
    simp only [flatK] at h
    split at h
    · rename_i k hu
      cases h
      cases fuel with
      | zero => simp [DataW.trod] at hx
      | succ m =>
        unfold DataW.trod at hx
        rw [hu] at hx
        split at hx <;> simp_all [CKs, CK.ok]
    · rename_i k hu
      cases h
      cases fuel with
      | zero => simp [DataW.trod] at hx
      | succ m =>
        unfold DataW.trod at hx
        rw [hu] at hx
        split at hx <;> simp_all [CKs, CK.ok]
    · rename_i fs hu
      obtain ⟨xs, n, rfl, _, hl, hxs, hg⟩ := DataW.trod_struct hu hx
      have := flatFs_cells (enc := enc) (w := w) (base := base) (spare := spare) (held := held) (m := n) (cs := cs) (fun {t ks c y} h1 h2 => flat_cells d h1 h2) hl fs.toList 0 ks h (Nat.zero_le _) (fun f hf => by
        obtain ⟨i, hi, he⟩ := List.mem_iff_getElem.1 hf
        have h1 := hg i f (by rw [← he]; simp at hi; simp [hi])
        have h2 : i < xs.length := by simp at hi; omega
        exact ⟨xs[i], by rw [h1]; exact List.getElem?_eq_getElem h2⟩)
      simpa using this
    · rename_i n e hu
      cases he : flatK P d e with
      | none => rw [he] at h; cases h
      | some l =>
        rw [he] at h; simp only [Option.bind_some] at h
        split at h
        · rename_i hc
          cases h
          obtain ⟨xs, m, rfl, _, hl, hxs, hg⟩ := DataW.trod_array hu hx
          refine flatA_cells (enc := enc) (w := w) (base := base) (spare := spare) (held := held) (m := m) hc.1 (fun h1 => flat_cells d he h1) n cs (by rw [hl, hc.2]) (fun i hi => ?_)
          exact ⟨xs[i]'(by omega), by rw [hg i hi]; exact List.getElem?_eq_getElem (by omega)⟩
        · cases h
    · cases h

/-- An argument that lies flat: its cells. -/
theorem open_flat {r : Reach} {b0 : Nat} {t : TypeId} {v : Value} {dt : DataW H} {ps : List MemPlace} {ks : List CK} {fs : Array Field} (hs : P.underlying t = some (.struct fs)) (hk : flatK P 5 t = some ks)
    (hv : Value.okWide P w r b0 t v) (h : DataW.Trod enc P w base spare held t v dt ps) : ∃ l : List Value, v = .agg l.toArray ∧ CKs ks l := by
  obtain ⟨cs, rfl, hsz⟩ := okWide_struct hs hv
  obtain ⟨fuel, hf⟩ := h
  exact ⟨cs.toList, by simp, flat_cells 5 hk hf⟩
end

theorem okf {v : Value} (h : (CK.f .f32).ok v) : ∃ b : Nat, v = .float .f32 b ∧ b < 4294967296 := by
  obtain ⟨b, e, hw⟩ := h
  exact ⟨b, e, by simpa [Lit.wf, FloatKind.format] using hw⟩
theorem oki {k : IntKind} {v : Value} (h : (CK.i k).ok v) : ∃ n : Int, v = .int k n ∧ k.min ≤ n ∧ n ≤ k.max := by
  obtain ⟨b, e, hw⟩ := h
  exact ⟨b, e, by simpa [Lit.wf] using hw⟩

theorem oki8 {v : Value} (h : (CK.i .i8).ok v) : ∃ n : Int, v = .int .i8 n ∧ (-128 ≤ n ∧ n ≤ 127) := by
  obtain ⟨n, e, a, b⟩ := oki h
  have h1 : IntKind.i8.min = -128 := by decide
  have h2 : IntKind.i8.max = 127 := by decide
  exact ⟨n, e, by omega, by omega⟩
theorem oki16 {v : Value} (h : (CK.i .i16).ok v) : ∃ n : Int, v = .int .i16 n ∧ (-32768 ≤ n ∧ n ≤ 32767) := by
  obtain ⟨n, e, a, b⟩ := oki h
  have h1 : IntKind.i16.min = -32768 := by decide
  have h2 : IntKind.i16.max = 32767 := by decide
  exact ⟨n, e, by omega, by omega⟩

theorem CKs1 {a : CK} {l : List Value} (h : CKs [a] l) : ∃ x, l = [x] ∧ a.ok x := by
  match l, h with
  | [x], h => exact ⟨x, rfl, h.1⟩
theorem CKs2 {a b : CK} {l : List Value} (h : CKs [a, b] l) : ∃ x y, l = [x, y] ∧ a.ok x ∧ b.ok y := by
  match l, h with
  | [x, y], h => exact ⟨x, y, rfl, h.1, h.2.1⟩
theorem CKs3 {a b c : CK} {l : List Value} (h : CKs [a, b, c] l) : ∃ x y z, l = [x, y, z] ∧ a.ok x ∧ b.ok y ∧ c.ok z := by
  match l, h with
  | [x, y, z], h => exact ⟨x, y, z, rfl, h.1, h.2.1, h.2.2.1⟩
theorem CKs4 {a b c d : CK} {l : List Value} (h : CKs [a, b, c, d] l) : ∃ x y z u, l = [x, y, z, u] ∧ a.ok x ∧ b.ok y ∧ c.ok z ∧ d.ok u := by
  match l, h with
  | [x, y, z, u], h => exact ⟨x, y, z, u, rfl, h.1, h.2.1, h.2.2.1, h.2.2.2.1⟩
theorem CKs5 {a b c d e : CK} {l : List Value} (h : CKs [a, b, c, d, e] l) : ∃ x y z u v, l = [x, y, z, u, v] ∧ a.ok x ∧ b.ok y ∧ c.ok z ∧ d.ok u ∧ e.ok v := by
  match l, h with
  | [x, y, z, u, v], h => exact ⟨x, y, z, u, v, rfl, h.1, h.2.1, h.2.2.1, h.2.2.2.1, h.2.2.2.2.1⟩
theorem CKs6 {a b c d e f : CK} {l : List Value} (h : CKs [a, b, c, d, e, f] l) : ∃ x y z u v s, l = [x, y, z, u, v, s] ∧ a.ok x ∧ b.ok y ∧ c.ok z ∧ d.ok u ∧ e.ok v ∧ f.ok s := by
  match l, h with
  | [x, y, z, u, v, s], h => exact ⟨x, y, z, u, v, s, rfl, h.1, h.2.1, h.2.2.1, h.2.2.2.1, h.2.2.2.2.1, h.2.2.2.2.2.1⟩

end Go.Proofs.Ytdncopphjamilaa
