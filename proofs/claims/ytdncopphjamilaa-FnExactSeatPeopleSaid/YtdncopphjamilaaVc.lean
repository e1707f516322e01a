/- Abstract execution: operations on flat values. Over any program. -/
import Derived.Test.YtdncopphjamilaaVb
import Derived.Laws.StructEq
namespace Go.Proofs.Ytdncopphjamilaa.Vx
open Go Go.RowKit Fl
set_option linter.unusedVariables false
set_option linter.unusedSimpArgs false

/-- What an operation does. -/
inductive OR where
  | val (p : Prop) (v : SV)
  | new (p : Prop) (b : Blk) (mk : Nat → SV)
  | upd (p : Prop) (l : Nat) (b : Blk)
  | call (f : FuncId) (args : List SV)
  | pick (c : Bool) (a b : SV)
  | app (p : Prop) (l i len cap c : Nat) (f : Nat → List FV) (m : Nat) (g : Nat → List FV)
  | bad

def bitI (op : BinOp) (k : IntKind) (a b : Int) : Int :=
  match op with
  | .and => k.wrap (BitVec.ofInt k.bits a &&& BitVec.ofInt k.bits b).toNat
  | .or => k.wrap (BitVec.ofInt k.bits a ||| BitVec.ofInt k.bits b).toNat
  | .xor => k.wrap (BitVec.ofInt k.bits a ^^^ BitVec.ofInt k.bits b).toNat
  | _ => k.wrap (BitVec.ofInt k.bits a &&& ~~~BitVec.ofInt k.bits b).toNat
def shlI (k : IntKind) (a b : Int) : Int := k.wrap (a * 2 ^ min b.toNat k.bits)
def shrI (k : IntKind) (a b : Int) : Int := a.fdiv (2 ^ min b.toNat k.bits)
def binI (op : BinOp) (k : IntKind) (a b : Int) : OR :=
  match op with
  | .add => .val True (.f (.int k (k.wrap (a + b))))
  | .sub => .val True (.f (.int k (k.wrap (a - b))))
  | .mul => .val True (.f (.int k (k.wrap (a * b))))
  | .quo => .val (b ≠ 0) (.f (.int k (k.wrap (a.tdiv b))))
  | .rem => .val (b ≠ 0) (.f (.int k (a.tmod b)))
  | .and => .val True (.f (.int k (bitI .and k a b)))
  | .or => .val True (.f (.int k (bitI .or k a b)))
  | .xor => .val True (.f (.int k (bitI .xor k a b)))
  | .andNot => .val True (.f (.int k (bitI .andNot k a b)))
  | .eql => .val True (.f (.bool (decide (a = b))))
  | .neq => .val True (.f (.bool (!decide (a = b))))
  | .lss => .val True (.f (.bool (decide (a < b))))
  | .leq => .val True (.f (.bool (decide (a ≤ b))))
  | .gtr => .val True (.f (.bool (decide (b < a))))
  | .geq => .val True (.f (.bool (decide (b ≤ a))))
  | _ => .bad
def binF (op : BinOp) (a b : Nat) : OR :=
  match op with
  | .add => .val (AddOk a b) (.f (.flt .f32 (fadd a b)))
  | .sub => .val (SubOk a b) (.f (.flt .f32 (fsub a b)))
  | .mul => .val (MulOk a b) (.f (.flt .f32 (fmul a b)))
  | .quo => .val (DivOk a b) (.f (.flt .f32 (fdiv a b)))
  | .eql => .val True (.f (.bool (feq a b)))
  | .neq => .val True (.f (.bool (!feq a b)))
  | .lss => .val True (.f (.bool (flt a b)))
  | .leq => .val True (.f (.bool (fle a b)))
  | .gtr => .val True (.f (.bool (flt b a)))
  | .geq => .val True (.f (.bool (fle b a)))
  | _ => .bad
def binB (op : BinOp) (a b : Bool) : OR :=
  match op with
  | .eql => .val True (.f (.bool (a == b)))
  | .neq => .val True (.f (.bool (a != b)))
  | _ => .bad
def strEq (a b : ByteArray) : Bool := a.toList == b.toList
def binS (op : BinOp) (a b : ByteArray) : OR :=
  match op with
  | .add => .val (a.size + b.size ≤ 9223372036854775807) (.f (.str (a ++ b)))
  | .eql => .val True (.f (.bool (strEq a b)))
  | .neq => .val True (.f (.bool (!strEq a b)))
  | _ => .bad
def binFV (tb : Bool) (op : BinOp) (u v : FV) : OR :=
  match u with
  | .int k a => (match v with
    | .int k' b => (match op with
      | .shl => .val (0 ≤ b) (.f (.int k (shlI k a b)))
      | .shr => .val (0 ≤ b) (.f (.int k (shrI k a b)))
      | op => if k = k' then binI op k a b else .bad)
    | _ => .bad)
  | .flt k a => (match v with
    | .flt k' b => (match k with
      | .f32 => (match k' with
        | .f32 => binF op a b
        | .f64 => .bad)
      | .f64 => .bad)
    | _ => .bad)
  | .bool a => (match v with
    | .bool b => (match tb with | true => binB op a b | false => .bad)
    | _ => .bad)
  | .str a => (match v with
    | .str b => binS op a b
    | _ => .bad)
  | _ => .bad
/-- Rows of whole numbers of the same kinds: are they the same. -/
def eqIs : List SV → List SV → Option Bool
  | [], ys => (match ys with
    | [] => some true
    | _ => none)
  | x :: xs, ys => (match x with
    | .f (.int k a) => (match ys with
      | y :: ys => (match y with
        | .f (.int k' b) => (if k = k' then (match eqIs xs ys with
          | some r => some (decide (a = b) && r)
          | none => none) else none)
        | _ => none)
      | [] => none)
    | _ => none)
def aggR (op : BinOp) (q : Option Bool) : OR :=
  match q with
  | some b => (match op with
    | .eql => .val True (.f (.bool b))
    | .neq => .val True (.f (.bool (!b)))
    | _ => .bad)
  | none => .bad
def aeqR (te : Option Nat) (op : BinOp) (xs ys : List SV) : OR :=
  match te with
  | some n => (if xs.length = n then aggR op (eqIs xs ys) else .bad)
  | none => .bad
def nilEq (ts : Bool) (op : BinOp) : OR :=
  match ts with
  | true => (match op with
    | .eql => .val True (.f (.bool false))
    | .neq => .val True (.f (.bool true))
    | _ => .bad)
  | false => .bad
def binR (tb ts : Bool) (te : Option Nat) (op : BinOp) (x y : SV) : OR :=
  match x with
  | .f u => (match y with
    | .f v => binFV tb op u v
    | _ => .bad)
  | .agg xs => (match y with
    | .agg ys => aeqR te op xs ys
    | _ => .bad)
  | .slc _ _ _ _ => (match y with
    | .f .nils => nilEq ts op
    | _ => .bad)
  | _ => .bad

def fneg (b : Nat) : Nat := Op.negFloat .f32 b
def unR (op : UnOp) (x : SV) : OR :=
  match x with
  | .f (.bool b) => (match op with
    | .not => .val True (.f (.bool (!b)))
    | _ => .bad)
  | .f (.int k n) => (match op with
    | .neg => .val True (.f (.int k (k.wrap (0 - n))))
    | _ => .bad)
  | .f (.flt .f32 b) => (match op with
    | .neg => .val True (.f (.flt .f32 (fneg b)))
    | _ => .bad)
  | _ => .bad

def FWok (b : Nat) : Prop := ∀ (P : Program) (w : World), (Conv.floatToFloat .f32 b .f64).run P w = .ok (.float .f64 (fwide b)) w
theorem FWok_nn {b : Nat} (h : nn b) : FWok b := by
  intro P w
  rcases Nat.lt_or_eq_of_le h with hf | hi
  · have hw := wide_finite hf
    obtain ⟨m, p, e, _⟩ := read_fin hf
    have e' : FloatKind.decode .f32 b = .number (sgn b) m (-149 + p) := e
    have e2 : fwide b = FloatKind.f64.encode (.number (sgn b) m (-149 + p)) := by unfold fwide; rw [e]; rfl
    have hw' : (FloatKind.decode .f64 (FloatKind.encode .f64 (.number (sgn b) m (-149 + p)))).isInfinity = false := by rw [e2] at hw; exact hw
    simp [Conv.floatToFloat, e', hw', e2]
  · have e := read_inf hi
    have e' : FloatKind.decode .f32 b = .infinity (sgn b) := e
    have e2 : fwide b = FloatKind.f64.encode (.infinity (sgn b)) := by unfold fwide; rw [e]; rfl
    simp [Conv.floatToFloat, e', e2]
/-- A float32 made wide: a NaN may become any NaN. -/
def Wid (b c : Nat) : Prop := (nn b ∧ c = fwide b) ∨ (¬ nn b ∧ deq c c = false)
theorem nan64 {c : Nat} (h : ∃ r s, D.read c = .nan r s) : deq c c = false := by
  obtain ⟨r, s, e⟩ := h
  unfold deq Ieee.Format.order
  rw [e]; rfl
theorem read_nan64 (t : Nat) : ∃ r s, D.read ((t % 2) * 2 ^ 63 + 0x7ff0000000000000 + 1 + (t / 2) % (2 ^ 52 - 1)) = .nan r s := by
  have f2 : D.binade = 4503599627370496 := by decide
  have f3 : D.infRung = 9218868437227405312 := by decide
  have f4 : D.signWeight = 9223372036854775808 := by decide
  unfold Ieee.Format.read
  simp only [f2, f3, f4]
  have e1 : ((t % 2) * 2 ^ 63 + 0x7ff0000000000000 + 1 + (t / 2) % (2 ^ 52 - 1)) % 9223372036854775808 = 0x7ff0000000000000 + 1 + (t / 2) % (2 ^ 52 - 1) := by omega
  rw [e1, if_neg (by omega), if_neg (by omega), if_neg (by omega)]
  exact ⟨_, _, rfl⟩
theorem wid_run (b : Nat) (P : Program) (w : World) : ∃ c w', (Conv.floatToFloat .f32 b .f64).run P w = .ok (.float .f64 c) w' ∧ Wid b c ∧ Ext w w' := by
  by_cases h : nn b
  · exact ⟨_, w, FWok_nn h P w, .inl ⟨h, rfl⟩, Ext.refl _⟩
  · obtain ⟨x, y, e⟩ := read_nan h
    have e' : FloatKind.decode .f32 b = .nan x y := e
    refine ⟨Question.cut (.nanConv .f64 b) (w.tape w.drawn (.nanConv .f64 b)), w.drew, ?_, .inr ⟨h, nan64 (read_nan64 _)⟩, (Ext.refl _).drew⟩
    simp [Conv.floatToFloat, e', Question.forced]
def widR (tab : Nat → Option TI) (src dst : Nat) (x : SV) : Option Nat :=
  match tab src with
  | none => none
  | some _ => match tab dst with
    | none => none
    | some i => match i.k with
      | .flt .f64 => (match x with
        | .f (.flt .f32 b) => some b
        | _ => none)
      | _ => none
def convR (tab : Nat → Option TI) (src dst : Nat) (x : SV) : OR :=
  match tab src with
  | none => .bad
  | some _ => match tab dst with
    | none => .bad
    | some i => match i.k with
      | .int k => (match x with
        | .f (.int _ n) => .val True (.f (.int k (k.wrap n)))
        | _ => .bad)
      | .flt .f32 => (match x with
        | .f (.int _ n) => .val True (.f (.flt .f32 (fofInt n)))
        | .f (.flt .f32 b) => .val True (.f (.flt .f32 b))
        | _ => .bad)
      | .flt .f64 => (match x with
        | .f (.flt .f32 b) => .val (FWok b) (.f (.flt .f64 (fwide b)))
        | _ => .bad)
      | .str => (match x with
        | .f (.str s) => .val True (.f (.str s))
        | _ => .bad)
      | _ => .bad

/-- The value that is told is the value that comes. -/
def Gives (P : Program) (β : Nat → Loc) (n : Nat) (w : World) (s : Sem Value) (r : SV) : Prop := r.bd n ∧ s.run P w = .ok (den β r) w

section
variable {P : Program} {β : Nat → Loc} {n : Nat} {w : World}
theorem eqGuard_flat {op : BinOp} {t : TypeId} {x y : Operand} (u v : FV) : (eqGuard op t x y u.val v.val).run P w = .ok () w := by
  unfold eqGuard
  cases u <;> cases v <;> (cases op <;> simp [FV.val])
theorem binI_ok {op : BinOp} {k : IntKind} {a b : Int} {p : Prop} {r : SV} {t : TypeId} (h : binI op k a b = .val p r) (hp : p) (h1 : op ≠ .shl) (h2 : op ≠ .shr) : Gives P β n w (binOp op t (.int k a) (.int k b)) r := by
  cases op <;> simp only [binI, OR.val.injEq] at h <;> (try (cases h; done)) <;> (obtain ⟨rfl, rfl⟩ := h) <;> refine ⟨trivial, ?_⟩ <;>
    (first | (exact absurd rfl h1) | (exact absurd rfl h2) | skip) <;> simp [binOp, Op.intArith, Op.intDiv, Op.intBits, Op.intCmp, den, FV.val, bitI, hp] <;> first | rfl | (simp [bne]; done) | skip
theorem binF_ok {op : BinOp} {a b : Nat} {p : Prop} {r : SV} {t : TypeId} (h : binF op a b = .val p r) (hp : p) : Gives P β n w (binOp op t (.float .f32 a) (.float .f32 b)) r := by
  cases op <;> simp only [binF, OR.val.injEq] at h <;> (try (cases h; done)) <;> (obtain ⟨rfl, rfl⟩ := h) <;> refine ⟨trivial, ?_⟩
  · rw [f_add w t a b hp]; rfl
  · rw [f_sub w t a b hp]; rfl
  · rw [f_mul w t a b hp]; rfl
  · rw [f_quo w t a b hp]; rfl
  · rw [f_eql]; rfl
  · rw [f_neq]; rfl
  · rw [f_lss]; rfl
  · rw [f_leq]; rfl
  · rw [f_gtr]; rfl
  · rw [f_geq]; rfl
theorem equalIn_bool (w : World) (d : Nat) {t : TypeId} (ht : P.underlying t = some .bool) (a b : Bool) : (Op.equalIn (d + 1) t (.bool a) (.bool b)).run P w = .ok (a == b) w := by
  simp [Op.equalIn, run_underlying ht]
theorem binB_ok {op : BinOp} {a b : Bool} {p : Prop} {r : SV} {t : TypeId} (ht : P.underlying t = some .bool) (h : binB op a b = .val p r) (hp : p) : Gives P β n w (binOp op t (.bool a) (.bool b)) r := by
  cases op <;> simp only [binB, OR.val.injEq] at h <;> (try (cases h; done)) <;> (obtain ⟨rfl, rfl⟩ := h) <;> refine ⟨trivial, ?_⟩ <;> simp only [binOp] <;> simp [Op.equal, Op.maxDepth, equalIn_bool w 9999 ht, den, FV.val, bne]
theorem max64 : IntKind.i64.max = 9223372036854775807 := by decide
theorem binS_ok {op : BinOp} {a b : ByteArray} {p : Prop} {r : SV} {t : TypeId} (h : binS op a b = .val p r) (hp : p) : Gives P β n w (binOp op t (.string a) (.string b)) r := by
  cases op <;> simp only [binS, OR.val.injEq] at h <;> (try (cases h; done)) <;> (obtain ⟨rfl, rfl⟩ := h) <;> refine ⟨trivial, ?_⟩ <;> simp only [binOp]
  · have : ¬ ((a.size + b.size : Nat) : Int) > IntKind.i64.max := by rw [max64]; omega
    simp only [Op.stringOp, if_neg this]; rfl
  · rfl
  · rfl
theorem part_int {t : TypeId} {k : IntKind} (h : P.underlying t = some (.int k)) {cs : Array Value} {o : Nat} {v : Value} (hv : cs[o]? = some v) : (part t cs o).run P w = .ok v w := by
  simp [part, isAgg, run_underlying h, hv]
theorem eqFields_ok {β : Nat → Loc} (d : Nat) : ∀ (fs : List Field) (xs ys : List SV) (px py : List Value) (o n : Nat) (b : Bool), flatI P fs o n → px.length = o → py.length = o → o + xs.length = n → eqIs xs ys = some b →
    (Op.eqFields (d + 1) (px ++ denL β xs).toArray (py ++ denL β ys).toArray fs).run P w = .ok b w
  | [], xs, ys, px, py, o, n, b, hf, h1, h2, h3, hb => by
    have : o = n := hf
    obtain rfl : xs = [] := List.eq_nil_of_length_eq_zero (by omega)
    cases ys with
    | nil => simp only [eqIs, Option.some.injEq] at hb; subst hb; rfl
    | cons y ys => simp [eqIs] at hb
  | f :: fs, xs, ys, px, py, o, n, b, hf, h1, h2, h3, hb => by
    obtain ⟨g1, g2, ⟨k, g3⟩, g4⟩ := hf
    cases xs with
    | nil =>
      exfalso
      have : ∀ (l : List Field) (o n : Nat), flatI P l o n → o ≤ n := by
        intro l
        induction l with
        | nil => intro o n h; exact Nat.le_of_eq h
        | cons a l ih => intro o n h; have := ih _ _ h.2.2.2; omega
      have := this _ _ _ g4
      simp only [List.length_nil] at h3
      omega
    | cons x xs =>
      unfold eqIs at hb
      split at hb
      · rename_i kx a
        split at hb
        · rename_i y ys'
          split at hb
          · rename_i ky c
            split at hb
            · rename_i hk
              subst hk
              split at hb
              · rename_i r hr
                simp only [Option.some.injEq] at hb
                have e1 : (px ++ denL β (.f (.int kx a) :: xs)).toArray[f.offset]? = some (.int kx a) := by simp [g2, ← h1, denL, den, FV.val]
                have e2 : (py ++ denL β (.f (.int kx c) :: ys')).toArray[f.offset]? = some (.int kx c) := by simp [g2, ← h2, denL, den, FV.val]
                have ih := eqFields_ok (β := β) d fs xs ys' (px ++ [.int kx a]) (py ++ [.int kx c]) (o + 1) n r g4 (by simp [h1]) (by simp [h2]) (by simp only [List.length_cons] at h3; omega) hr
                have q1 : px ++ denL β (.f (.int kx a) :: xs) = (px ++ [.int kx a]) ++ denL β xs := by simp [denL, den, FV.val]
                have q2 : py ++ denL β (.f (.int kx c) :: ys') = (py ++ [.int kx c]) ++ denL β ys' := by simp [denL, den, FV.val]
                rw [q1] at e1 ⊢
                rw [q2] at e2 ⊢
                simp only [Op.eqFields, if_pos g1, Sem.run_bind, part_int g3 e1, part_int g3 e2, Result.andThen_ok, run_equalIn_int w d f.type kx k a c g3]
                subst hb
                by_cases hac : a = c
                · subst hac; simpa using ih
                · simp [hac]
              · cases hb
            · cases hb
          · cases hb
        · cases hb
      · cases hb
theorem aeqR_ok {te : Option Nat} {op : BinOp} {xs ys : List SV} {p : Prop} {r : SV} {t : TypeId} {a b : Operand} (hte : ∀ n, te = some n → EqT P t n) (h : aeqR te op xs ys = .val p r) (hp : p) :
    Gives P β n w (do eqGuard op t a b (den β (.agg xs)) (den β (.agg ys)); binOp op t (den β (.agg xs)) (den β (.agg ys))) r := by
  unfold aeqR at h
  split at h
  · rename_i m
    obtain ⟨h1, h2, F, h3, h4⟩ := hte m rfl
    split at h
    · rename_i hl
      unfold aggR at h
      split at h
      · rename_i c hc
        have hF : P.fieldsOf t = F := by unfold Program.fieldsOf; rw [h3]
        have hu : P.underlying t = some (.struct (P.fieldsOf t)) := by rw [hF, h3]
        have ef := eqFields_ok (P := P) (w := w) (β := β) 9998 F.toList xs ys [] [] 0 m c h4 rfl rfl (by omega) hc
        simp only [List.nil_append] at ef
        have e := run_equalIn_agg (P := P) w 9999 t (denL β xs).toArray (denL β ys).toArray hu h1
        rw [hF, ef] at e
        split at h
        · simp only [OR.val.injEq] at h
          obtain ⟨rfl, rfl⟩ := h
          refine ⟨trivial, ?_⟩
          simp only [den]
          rw [Sem.run_bind, run_eqGuard_agg w _ t a b _ _ h2]
          show (binOp .eql t _ _).run P w = _
          rw [run_eql_struct, e]; rfl
        · simp only [OR.val.injEq] at h
          obtain ⟨rfl, rfl⟩ := h
          refine ⟨trivial, ?_⟩
          simp only [den]
          rw [Sem.run_bind, run_eqGuard_agg w _ t a b _ _ h2]
          show (binOp .neq t _ _).run P w = _
          rw [run_neq_struct, e]; rfl
        · cases h
      · cases h
    · cases h
  · cases h
theorem nilEq_ok {ts : Bool} {op : BinOp} {l i m c : Nat} {p : Prop} {r : SV} {t : TypeId} {a b : Operand} (hts : ts = true → ∃ e, P.underlying t = some (.slice e)) (h : nilEq ts op = .val p r) (hp : p) :
    Gives P β n w (do eqGuard op t a b (den β (.slc l i m c)) (den β (.f .nils)); binOp op t (den β (.slc l i m c)) (den β (.f .nils))) r := by
  unfold nilEq at h
  split at h
  · obtain ⟨e, hu⟩ := hts rfl
    have he : (Op.equal t (den β (.slc l i m c)) (den β (.f .nils))).run P w = .ok false w := by
      show (Op.equalIn (9999 + 1) t (.slice (some _) m c) (.slice none 0 0)).run P w = .ok false w
      unfold Op.equalIn
      rw [Sem.run_bind, run_underlying hu]
      rfl
    split at h
    · simp only [OR.val.injEq] at h
      obtain ⟨rfl, rfl⟩ := h
      refine ⟨trivial, ?_⟩
      rw [Sem.run_bind]
      show (binOp .eql t (.slice (some _) m c) (.slice none 0 0)).run P w = _
      simp only [binOp]
      rw [Sem.run_bind, show (Op.equal t (.slice (some _) m c) (.slice none 0 0)).run P w = .ok false w from he]
      rfl
    · simp only [OR.val.injEq] at h
      obtain ⟨rfl, rfl⟩ := h
      refine ⟨trivial, ?_⟩
      rw [Sem.run_bind]
      show (binOp .neq t (.slice (some _) m c) (.slice none 0 0)).run P w = _
      simp only [binOp]
      rw [Sem.run_bind, show (Op.equal t (.slice (some _) m c) (.slice none 0 0)).run P w = .ok false w from he]
      rfl
    · cases h
  · cases h
theorem binR_ok {tb ts : Bool} {te : Option Nat} {op : BinOp} {x y : SV} {p : Prop} {r : SV} {t : TypeId} {a b : Operand} (ht : tb = true → P.underlying t = some .bool) (hts : ts = true → ∃ e, P.underlying t = some (.slice e)) (hte : ∀ n, te = some n → EqT P t n) (h : binR tb ts te op x y = .val p r) (hp : p) :
    Gives P β n w (do eqGuard op t a b (den β x) (den β y); binOp op t (den β x) (den β y)) r := by
  unfold binR at h
  split at h
  · rename_i u
    split at h
    · rename_i v
      have hg : ∀ s : Sem Value, ((do eqGuard op t a b u.val v.val; s).run P w) = s.run P w := fun s => by rw [Sem.run_bind, eqGuard_flat]; rfl
      suffices Gives P β n w (binOp op t u.val v.val) r from ⟨this.1, (hg _).trans this.2⟩
      unfold binFV at h
      split at h
      · rename_i k a1
        split at h
        · rename_i k' b1
          split at h
          · obtain ⟨rfl, rfl⟩ : (0 ≤ b1) = p ∧ _ = r := by simpa using h
            refine ⟨trivial, ?_⟩
            have : ¬ b1 < 0 := by omega
            simp [binOp, FV.val, Op.shift, this, den, shlI]
          · obtain ⟨rfl, rfl⟩ : (0 ≤ b1) = p ∧ _ = r := by simpa using h
            refine ⟨trivial, ?_⟩
            have : ¬ b1 < 0 := by omega
            simp [binOp, FV.val, Op.shift, this, den, shrI]
          · rename_i h1 h2
            split at h
            · subst k'; exact binI_ok h hp h1 h2
            · cases h
        · cases h
      · rename_i k a1
        split at h
        · rename_i k' b1
          split at h
          · split at h
            · exact binF_ok h hp
            · cases h
          · cases h
        · cases h
      · split at h
        · split at h
          · exact binB_ok (ht rfl) h hp
          · cases h
        · cases h
      · split at h
        · exact binS_ok h hp
        · cases h
      · cases h
    · cases h
  · split at h
    · exact aeqR_ok hte h hp
    · cases h
  · split at h
    · exact nilEq_ok hts h hp
    · cases h
  · cases h
theorem unR_ok {op : UnOp} {x : SV} {p : Prop} {r : SV} (h : unR op x = .val p r) (hp : p) : Gives P β n w (Op.unary op (den β x)) r := by
  unfold unR at h
  split at h <;> (try (cases h; done)) <;> (split at h <;> (try (cases h; done))) <;> simp only [OR.val.injEq] at h <;> (obtain ⟨rfl, rfl⟩ := h) <;> refine ⟨trivial, ?_⟩ <;> simp [Op.unary, den, FV.val, Op.intArith, fneg]
theorem convR_ok {tab : Nat → Option TI} (ht : TabOk P tab) {src dst : Nat} {x : SV} {p : Prop} {r : SV} (h : convR tab src dst x = .val p r) (hp : p) : Gives P β n w (convert src dst (den β x)) r := by
  unfold convR at h
  split at h
  · cases h
  · rename_i i1 hs
    obtain ⟨ds, _, us, _⟩ := ht _ _ hs
    split at h
    · cases h
    · rename_i i hd
      obtain ⟨dd, _, ud, kd, _⟩ := ht _ _ hd
      split at h
      · rename_i k hk
        rw [hk] at kd; simp only [TK.ok] at kd; subst kd
        split at h
        · simp only [OR.val.injEq] at h; obtain ⟨rfl, rfl⟩ := h
          refine ⟨trivial, ?_⟩
          cases ds <;> simp [convert, run_underlying us, run_underlying ud, den, FV.val, Conv.intToInt]
        · cases h
      · rename_i hk
        rw [hk] at kd; simp only [TK.ok] at kd; subst kd
        split at h
        · simp only [OR.val.injEq] at h; obtain ⟨rfl, rfl⟩ := h
          exact ⟨trivial, f_ofInt w src dst _ _ (by rw [us]; rfl) ud⟩
        · simp only [OR.val.injEq] at h; obtain ⟨rfl, rfl⟩ := h
          exact ⟨trivial, f_same w src dst _ (by rw [us]; rfl) ud⟩
        · cases h
      · rename_i hk
        rw [hk] at kd; simp only [TK.ok] at kd; subst kd
        split at h
        · simp only [OR.val.injEq] at h; obtain ⟨rfl, rfl⟩ := h
          refine ⟨trivial, ?_⟩
          have := hp P w
          cases ds <;> simp [convert, run_underlying us, run_underlying ud, den, FV.val, this]
        · cases h
      · rename_i hk
        rw [hk] at kd; simp only [TK.ok] at kd; subst kd
        split at h
        · simp only [OR.val.injEq] at h; obtain ⟨rfl, rfl⟩ := h
          refine ⟨trivial, ?_⟩
          cases ds <;> simp [convert, run_underlying us, run_underlying ud, den, FV.val]
        · cases h
      · cases h
end
end Go.Proofs.Ytdncopphjamilaa.Vx
