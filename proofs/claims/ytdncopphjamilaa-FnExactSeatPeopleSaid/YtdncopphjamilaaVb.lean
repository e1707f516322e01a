/- Abstract execution: single operations. Over any program. -/
import Derived.Test.YtdncopphjamilaaVa
namespace Go.Proofs.Ytdncopphjamilaa.Vx
open Go Go.RowKit Fl
set_option linter.unusedVariables false
set_option linter.unusedSimpArgs false

/-! ### Types -/
inductive TK where
  | int (k : IntKind) | flt (k : FloatKind) | bool | str | ptr | slice (e : Nat) | arr (n e : Nat) | struct (fs : List (Nat × Nat)) | fn
inductive TZ where
  | row (l : List FV)
  | all (v : FV)
structure TI where
  k : TK
  size : Nat
  bytes : Nat
  z : TZ
  eq : Bool := false
def TZ.cells (s : Nat) : TZ → List Value
  | .row l => l.map FV.val
  | .all v => List.replicate s v.val
def TK.agg : TK → Bool
  | .arr _ _ | .struct _ => true
  | _ => false
def TK.ok (d : TypeDesc) : TK → Prop
  | .int k => d = .int k
  | .flt k => d = .float k
  | .bool => d = .bool
  | .str => d = .string
  | .ptr => ∃ e, d = .pointer e
  | .slice e => d = .slice e
  | .arr n e => d = .array n e
  | .struct fs => ∃ F, d = .struct F ∧ F.toList.map (fun f => (f.offset, f.type)) = fs
  | .fn => ∃ a b c, d = .func a b c
/-- Fields that are whole numbers, one cell each. -/
def flatI (P : Program) : List Field → Nat → Nat → Prop
  | [], o, n => o = n
  | f :: r, o, n => f.name ≠ "_" ∧ f.offset = o ∧ (∃ k, P.underlying f.type = some (.int k)) ∧ flatI P r (o + 1) n
def flatIB (P : Program) : List Field → Nat → Nat → Bool
  | [], o, n => o == n
  | f :: r, o, n => f.name != "_" && f.offset == o && (match P.underlying f.type with | some (.int _) => true | _ => false) && flatIB P r (o + 1) n
theorem flatIB_ok {P : Program} : ∀ (l : List Field) (o n : Nat), flatIB P l o n = true → flatI P l o n
  | [], o, n, h => by
    show o = n
    exact beq_iff_eq.1 h
  | f :: r, o, n, h => by
    simp only [flatIB, Bool.and_eq_true, bne_iff_ne, beq_iff_eq] at h
    obtain ⟨⟨⟨h1, h2⟩, h3⟩, h4⟩ := h
    refine ⟨h1, h2, ?_, flatIB_ok r (o + 1) n h4⟩
    split at h3
    · rename_i k hk; exact ⟨k, hk⟩
    · cases h3
/-- A struct of whole numbers, of so many cells: told equal field by field. -/
def EqT (P : Program) (t : Nat) (n : Nat) : Prop := P.stoodInHeld t = false ∧ P.eqGuardType P.depth t = false ∧ ∃ F, P.underlying t = some (.struct F) ∧ flatI P F.toList 0 n
def eqtB (P : Program) (t : Nat) (n : Nat) : Bool := P.stoodInHeld t == false && P.eqGuardType P.depth t == false && (match P.underlying t with | some (.struct F) => flatIB P F.toList 0 n | _ => false)
theorem eqtB_ok {P : Program} {t n : Nat} (h : eqtB P t n = true) : EqT P t n := by
  simp only [eqtB, Bool.and_eq_true, beq_iff_eq] at h
  obtain ⟨⟨h1, h2⟩, h3⟩ := h
  split at h3
  · rename_i F hF; exact ⟨h1, h2, F, hF, flatIB_ok _ _ _ h3⟩
  · cases h3
/-- The table of types tells the truth. -/
def TabOk (P : Program) (tab : Nat → Option TI) : Prop :=
  ∀ t i, tab t = some i → ∃ d q, P.underlying t = some d ∧ i.k.ok d ∧ d.isRow = i.k.agg ∧ P.info? t = some q ∧ q.size = i.size ∧ q.bytes = i.bytes ∧ ∃ v, q.zero = some v ∧ v.cells.toList = i.z.cells i.size ∧ v.cells.size = i.size ∧ (i.eq = true → EqT P t i.size)

/-- Checks a table, type by type. -/
def tkB (d : TypeDesc) : TK → Bool
  | .int k => match d with | .int k' => k == k' | _ => false
  | .flt k => match d with | .float k' => k == k' | _ => false
  | .bool => match d with | .bool => true | _ => false
  | .str => match d with | .string => true | _ => false
  | .ptr => match d with | .pointer _ => true | _ => false
  | .slice e => match d with | .slice e' => e == e' | _ => false
  | .arr n e => match d with | .array n' e' => n == n' && e == e' | _ => false
  | .struct fs => match d with | .struct F => F.toList.map (fun f => (f.offset, f.type)) == fs | _ => false
  | .fn => match d with | .func _ _ _ => true | _ => false
def fvB : FV → Value → Bool
  | .int k n, .int k' n' => k == k' && n == n'
  | .bool b, .bool b' => b == b'
  | .flt k b, .float k' b' => k == k' && b == b'
  | .str s, .string s' => s.size == 0 && s'.size == 0
  | .nilp, .pointer none => true
  | .nils, .slice none a b => a == 0 && b == 0
  | .nilf, .nilFunc => true
  | _, _ => false
theorem fvB_eq {v : FV} {u : Value} (h : fvB v u = true) : u = v.val := by
  unfold fvB at h
  split at h <;> simp_all [FV.val]
def zB (s : Nat) : TZ → List Value → Bool
  | .row l, vs => l.length == vs.length && (l.zip vs).all fun p => fvB p.1 p.2
  | .all v, vs => vs.length == s && vs.all (fvB v)
theorem zip_all : ∀ (l : List FV) (vs : List Value), l.length = vs.length → (l.zip vs).all (fun p => fvB p.1 p.2) = true → vs = l.map FV.val
  | [], [], _, _ => rfl
  | a :: l, v :: vs, h, h' => by
    simp only [List.zip_cons_cons, List.all_cons, Bool.and_eq_true] at h'
    rw [List.map_cons, ← fvB_eq h'.1, ← zip_all l vs (by simpa using h) h'.2]
theorem zB_eq {s : Nat} {z : TZ} {vs : List Value} (h : zB s z vs = true) : vs = z.cells s := by
  cases z with
  | row l => simp only [zB, Bool.and_eq_true, beq_iff_eq] at h; exact zip_all l vs h.1 h.2
  | all v =>
    simp only [zB, Bool.and_eq_true, beq_iff_eq, List.all_eq_true] at h
    simp only [TZ.cells]
    rw [List.eq_replicate_iff]
    exact ⟨h.1, fun u hu => fvB_eq (h.2 u hu)⟩
def tiB (P : Program) (t : Nat) (i : TI) : Bool :=
  match P.underlying t, P.info? t with
  | some d, some q => tkB d i.k && q.size == i.size && q.bytes == i.bytes && (match q.zero with | some v => zB i.size i.z v.cells.toList && v.cells.size == i.size && (!i.eq || eqtB P t i.size) | none => false)
  | _, _ => false
theorem tkB_ok {d : TypeDesc} {k : TK} (h : tkB d k = true) : k.ok d ∧ d.isRow = k.agg := by
  cases k <;> simp only [tkB] at h <;> (try (cases h; done)) <;> cases d <;> simp_all [TK.ok, TK.agg, TypeDesc.isRow]
theorem tabOk_of {P : Program} {l : List (Nat × TI)} {tab : Nat → Option TI} (h : ∀ t i, tab t = some i → (t, i) ∈ l) (hb : l.all (fun p => tiB P p.1 p.2) = true) : TabOk P tab := by
  intro t i ht
  have := List.all_eq_true.1 hb _ (h t i ht)
  simp only [tiB] at this
  split at this
  · rename_i d q hd hq
    simp only [Bool.and_eq_true, beq_iff_eq] at this
    obtain ⟨⟨⟨h1, h2⟩, h3⟩, h4⟩ := this
    obtain ⟨k1, k2⟩ := tkB_ok h1
    split at h4
    · rename_i v hv
      simp only [Bool.and_eq_true, beq_iff_eq] at h4
      exact ⟨d, q, hd, k1, k2, hq, h2, h3, v, hv, zB_eq h4.1.1, h4.1.2, fun e => eqtB_ok (by simpa [e] using h4.2)⟩
    · cases h4
  · cases this

/-! ### Operands -/
abbrev Env := List (Nat × SV)
def look : Env → Nat → SV
  | [], _ => .any
  | (j, v) :: r, i => if j = i then v else look r i
def ofVal : Value → SV
  | .int k n => .f (.int k n)
  | .bool b => .f (.bool b)
  | .float k b => .f (.flt k b)
  | .string s => .f (.str s)
  | .pointer none => .f .nilp
  | .slice none 0 0 => .f .nils
  | .nilFunc => .f .nilf
  | _ => .any
theorem ofVal_den {β : Nat → Loc} {v : Value} (h : (ofVal v).known = true) : den β (ofVal v) = v := by
  unfold ofVal at *
  split <;> simp_all [den, FV.val, SV.known]
theorem ofVal_bd {v : Value} {n : Nat} : (ofVal v).bd n := by
  unfold ofVal; split <;> trivial
def ev (e : Env) : Operand → SV
  | .tmp t => look e t
  | .const v => ofVal v
  | .global _ => .any
  | .func f => .fn f [] []
def evL (e : Env) : List Operand → List SV
  | [] => []
  | x :: r => ev e x :: evL e r
theorem evL_map (e : Env) : ∀ l, evL e l = l.map (ev e)
  | [] => rfl
  | x :: r => by rw [evL, evL_map e r]; rfl

/-- The slots hold what is told. -/
structure Slots (n m : Nat) (β : Nat → Loc) (a : Act) (e : Env) : Prop where
  size : a.tmps.size = n
  ag : ∀ i, (look e i).known = true → (look e i).bd m ∧ a.tmps.getD i undef = den β (look e i)
  df : a.defers = []
theorem Slots.ev {n m : Nat} {β : Nat → Loc} {a : Act} {e : Env} (s : Slots n m β a e) {x : Operand} (hk : (ev e x).known = true) : (Vx.ev e x).bd m ∧ a.eval x = den β (Vx.ev e x) := by
  cases x with
  | tmp t => exact s.ag t hk
  | const v => exact ⟨ofVal_bd, (ofVal_den hk).symm⟩
  | global g => simp [Vx.ev, SV.known] at hk
  | func f => exact ⟨⟨trivial, trivial⟩, by simp [Act.eval, Vx.ev, den, denL]⟩

def put (n : Nat) (d : Option Nat) (v : SV) (e : Env) : Env :=
  match d with
  | none => e
  | some d => if d < n then (d, v) :: e else e
theorem Slots.put {n m : Nat} {β : Nat → Loc} {a : Act} {e : Env} (s : Slots n m β a e) (d : Option Nat) {v : SV} {u : Value} (h : v.known = true → v.bd m ∧ u = den β v) : Slots n m β (a.put d u) (Vx.put n d v e) := by
  cases d with
  | none => exact s
  | some d =>
    refine ⟨by simpa [Act.put] using s.size, fun i hk => ?_, s.df⟩
    simp only [Vx.put] at hk ⊢
    by_cases hd : d < n
    · rw [if_pos hd] at hk ⊢
      simp only [look] at hk ⊢
      by_cases c : d = i
      · subst c
        rw [if_pos rfl] at hk ⊢
        have := h hk
        exact ⟨this.1, by rw [← this.2]; simp [Act.put, s.size, hd]⟩
      · rw [if_neg c] at hk ⊢
        have := s.ag i hk
        exact ⟨this.1, by rw [← this.2]; simp [Act.put, Array.getElem?_setIfInBounds_ne c]⟩
    · rw [if_neg hd] at hk ⊢
      have := s.ag i hk
      refine ⟨this.1, by rw [← this.2]; simp only [Act.put]; congr 1; exact Array.setIfInBounds_eq_of_size_le (by rw [s.size]; omega)⟩
theorem Slots.mono {n m m' : Nat} {β β' : Nat → Loc} {a : Act} {e : Env} (s : Slots n m β a e) (h : m ≤ m') (hb : ∀ l, l < m → β l = β' l) : Slots n m' β' a e :=
  ⟨s.size, fun i hk => ⟨SV.bd_mono h _ (s.ag i hk).1, by rw [(s.ag i hk).2]; exact den_congr hb _ (s.ag i hk).1⟩, s.df⟩
end Go.Proofs.Ytdncopphjamilaa.Vx
