/- Abstract execution: the run of a function's code. Over any program. -/
import Derived.Test.YtjhddlkfkicpaaaGreatDoorVf
namespace Go.Proofs.YtjhddlkfkicpaaaGreatDoor.Vx
open Go Go.RowKit Fl
set_option linter.unusedVariables false
set_option linter.unusedSimpArgs false

/-- What calling f with these abstract values, over these blocks, comes to. -/
structure CV (P : Program) (f : FuncId) (args : List SV) (h : List Blk) (Q : SV → List Blk → Prop) : Prop where
  enters : ∀ (xs : Array Value) (w : World), (callFunc f xs).run P w = .ok (.enter f xs) w
  calls : ∀ (w : World) (β : Nat → Loc), Holds w β h → Calls P f (denL β args).toArray w fun e w' =>
    ∃ v hh β', e = .returned (den β' v) ∧ Q v hh ∧ Holds w' β' hh ∧ Since w β h w' β' hh ∧ v.bd hh.length
theorem CV.mono {P : Program} {f : FuncId} {args : List SV} {h : List Blk} {Q Q' : SV → List Blk → Prop} (c : CV P f args h Q) (hq : ∀ v hh, Q v hh → Q' v hh) : CV P f args h Q' :=
  ⟨c.enters, fun w β H => Calls.mono (c.calls w β H) fun e w' ⟨v, hh, β', he, q, r⟩ => ⟨v, hh, β', he, hq _ _ q, r⟩⟩
/-- Just this comes of it. -/
def CVE (P : Program) (f : FuncId) (args : List SV) (h : List Blk) (v : SV) (hh : List Blk) : Prop := CV P f args h fun v' hh' => v' = v ∧ hh' = hh

def evP (e : Env) : List (Nat × Operand) → List (Nat × SV)
  | [] => []
  | (i, x) :: r => (i, ev e x) :: evP e r
theorem evP_map (e : Env) : ∀ l, evP e l = l.map fun x => (x.1, ev e x.2)
  | [] => rfl
  | x :: r => by rw [evP, evP_map e r]; rfl
def knownL : List SV → Bool
  | [] => true
  | v :: r => v.known && knownL r
theorem knownL_iff : ∀ l, knownL l = true ↔ ∀ v ∈ l, v.known = true
  | [] => by simp [knownL]
  | v :: r => by simp [knownL, knownL_iff r]
def eqTN (tab : Nat → Option TI) (t : Nat) : Option Nat :=
  match tab t with
  | some i => (match i.eq with
    | true => some i.size
    | false => none)
  | none => none
def isBoolT (tab : Nat → Option TI) (t : Nat) : Bool :=
  match tab t with
  | some ti => (match ti.k with
    | .bool => true
    | _ => false)
  | none => false
def isSlcT (tab : Nat → Option TI) (t : Nat) : Bool :=
  match tab t with
  | some ti => (match ti.k with
    | .slice _ => true
    | _ => false)
  | none => false
def isStrT (tab : Nat → Option TI) (t : Nat) : Option Bool :=
  match tab t with
  | some ti => (match ti.k with
    | .str => some true
    | .slice _ => some false
    | _ => none)
  | none => none
def lenRT (tab : Nat → Option TI) (t : Nat) (x : SV) : OR :=
  match isStrT tab t with
  | some true => (match x with
    | .f (.str s) => .val True (.f (.int .i64 s.size))
    | _ => .bad)
  | some false => (match x with
    | .slc _ _ n _ => .val True (.f (.int .i64 n))
    | .f .nils => .val True (.f (.int .i64 0))
    | _ => .bad)
  | none => .bad
/-- A single operand, a single type. -/
inductive OR2 where
  | or (o : OR)
  | app (t : Nat) (x y : SV)
  | wid (b : Nat)
def cvR (tab : Nat → Option TI) (src dst : Nat) (x : SV) : OR2 :=
  match widR tab src dst x with
  | some b => .wid b
  | none => .or (convR tab src dst x)
def cvS (tab : Nat → Option TI) (h : List Blk) (src dst : Nat) (x : SV) : OR2 :=
  match strC tab h src dst x with
  | .st p r => .or (.val p (.f (.str r)))
  | .no => cvR tab src dst x
def isArrT (tab : Nat → Option TI) (t : Nat) : Bool :=
  match tab t with
  | some ti => (match ti.k with
    | .arr _ _ => true
    | _ => false)
  | none => false
def biR (tab : Nat → Option TI) (b : Builtin) (ts : List Nat) (xs : List SV) : OR2 :=
  match b with
  | .len => (match ts with
    | [t] => (match xs with
      | [x] => .or (lenRT tab t x)
      | _ => .or .bad)
    | _ => .or .bad)
  | .min => (match xs with
    | [x, y] => .or (minR x y)
    | _ => .or .bad)
  | .max => (match xs with
    | [x, y] => .or (maxR x y)
    | _ => .or .bad)
  | .append => (match ts with
    | [t, t'] => if t = t' then (match xs with
      | [x, y] => .app t x y
      | _ => .or .bad) else .or .bad
    | _ => .or .bad)
  | _ => .or .bad
def evO (e : Env) : Option Operand → Option SV
  | none => none
  | some x => some (ev e x)
/-- A slice of a slice; with a third bound there is a second one. -/
def sliR (tab : Nat → Option TI) (h : List Blk) (t : Nat) (x : SV) (lo hi mx : Option SV) : OR :=
  match mx with
  | none => slcR tab h t x lo hi none
  | some m => (match hi with
    | none => .bad
    | some b => slcR tab h t x lo (some b) (some m))
def sliA (tab : Nat → Option TI) (h : List Blk) (t : Nat) (x : SV) (lo hi : Option SV) (q : Bool) : OR :=
  match q with
  | true => arrSl tab h t x lo hi
  | false => sliR tab h t x lo hi none
def sliT (tab : Nat → Option TI) (h : List Blk) (t : Nat) (x : SV) (lo hi : Option SV) (q : SO) : OR :=
  match q with
  | .st p r => .val p (.f (.str r))
  | .no => sliA tab h t x lo hi (isArrT tab t)
def sliS (tab : Nat → Option TI) (h : List Blk) (t : Nat) (x : SV) (lo hi mx : Option SV) : OR :=
  match mx with
  | some m => sliR tab h t x lo hi (some m)
  | none => sliT tab h t x lo hi (strSl tab t x lo hi)
def eqaN (tab : Nat → Option TI) (t : Nat) : Option Nat :=
  match tab t with
  | some i => (match i.eqa with
    | true => some i.size
    | false => none)
  | none => none
/-- A slice is surely not nil. -/
def nnS (h : List Blk) (x : SV) : Prop :=
  match x with
  | .slc l _ _ _ => (match hget h l with
    | .rows _ cb _ _ own => NN cb own
    | _ => False)
  | _ => True
def opR (tab : Nat → Option TI) (e : Env) (h : List Blk) (op : Op) : OR2 :=
  match op with
  | .move x => .or (.val True (ev e x))
  | .assign x => .or (.val True (ev e x))
  | .pick c a b => (match ev e c with
    | .f (.bool t) => .or (.pick t (ev e a) (ev e b))
    | _ => .or .bad)
  | .alloc t => .or (allocR tab t)
  | .box _ x => .or (boxR (ev e x))
  | .build t ps => .or (buildR tab t (evP e ps.toList))
  | .buildSlice t n ps => .or (buildSR tab t n (evP e ps.toList))
  | .load t x => .or (ldR tab h t (ev e x))
  | .store t x y => .or (stR tab h t (ev e x) (ev e y))
  | .nilCheck x => .or (nilR (ev e x))
  | .binOp op t x y _ => .or (binR (isBoolT tab t) (isSlcT tab t) (eqTN tab t) (eqaN tab t) (nnS h (ev e x)) op (ev e x) (ev e y))
  | .unOp op _ x => .or (unR op (ev e x))
  | .convert s d x => cvS tab h s d (ev e x)
  | .makeFunc fn first caps => (match fn with
    | .func f => (match knownL (evL e first.toList) && knownL (evL e caps.toList) with
      | true => .or (.val True (.fn f (evL e first.toList) (evL e caps.toList)))
      | false => .or .bad)
    | _ => .or .bad)
  | .makeSlice t x y => .or (makeR tab t (ev e x) (ev e y))
  | .fieldAddr t x f => .or (fieldR tab t (ev e x) f)
  | .field t x f => .or (fldR tab t (ev e x) f)
  | .indexAddr t x ix => .or (indexR tab h t (ev e x) (ev e ix))
  | .index t x ix => .or (idxR tab t (ev e x) (ev e ix))
  | .extract x i => .or (extrR (ev e x) i)
  | .slice t x lo hi mx => .or (sliS tab h t (ev e x) (evO e lo) (evO e hi) (evO e mx))
  | .call c => (match c.callee with
    | .value f => (match ev e f with
      | .fn g first caps => .or (.call g (first ++ (evL e c.args.toList ++ caps)))
      | _ => .or .bad)
    | .builtin b => biR tab b c.argTypes.toList (evL e c.args.toList)
    | .invoke _ _ => .or .bad)
  | _ => .or .bad

/-! ### Labels that are reached -/
mutual
def SV.labs : SV → List Nat
  | .ptr l _ _ => [l]
  | .slc l _ _ _ => [l]
  | .fn _ a b => labsL a ++ labsL b
  | .agg l => labsL l
  | .tup l => labsL l
  | _ => []
def labsL : List SV → List Nat
  | [] => []
  | v :: r => v.labs ++ labsL r
end
def labsB : Blk → List Nat
  | .lit row _ => labsL row
  | _ => []
def ins (acc : List Nat) : List Nat → List Nat
  | [] => acc
  | l :: r => if inL l acc then ins acc r else ins (acc ++ [l]) r
/-- All labels that are reached from some. -/
def clo (h : List Blk) : Nat → List Nat → List Nat → List Nat
  | 0, acc, _ => acc
  | k + 1, acc, [] => acc
  | k + 1, acc, l :: r => clo h k (ins acc (labsB (hget h l))) r
def reach (h : List Blk) (acc : List Nat) : List Nat := clo h 3 (clo h 20 acc acc) (clo h 20 acc acc)
def allLt (n : Nat) : List Nat → Bool
  | [] => true
  | l :: r => decide (l < n) && allLt n r
theorem allLt_iff (n : Nat) : ∀ r, allLt n r = true ↔ ∀ l ∈ r, l < n
  | [] => by simp [allLt]
  | l :: r => by simp [allLt, allLt_iff n r]
def upto : Nat → List Nat
  | 0 => []
  | n + 1 => upto n ++ [n]

/-! ### The run -/
inductive SI where
  | q (i : Nat)
  | n (i : Nat)
  | e (i : Nat)
/-- In which order a region is carried out that stores as it goes: q: first, whatever else; e: a call that leads to no memory; n: the only one that may come; f: two may come. -/
inductive SB where
  | nil
  | q (i : Nat) (s : SB)
  | e (i : Nat) (s : SB)
  | n (i : Nat) (s : SB)
  | f (i : Nat) (s : SB) (j : Nat) (t : SB)
structure RX where
  tab : Nat → Option TI
  sb : Nat → Option (List Nat × Bool × SB)
  sc : Nat → List SI × List Nat
  n : Nat
  n0 : Nat
  F : Env → List Blk → Prop
inductive Item where
  | code (c : Code)
  | g (md : Nat) (all : List Oper) (o : Oper)
  | op (md : Nat) (o : Oper)
  | skp (d : Option Nat)
  | ops (all rest : List Oper)
  | drw (all : List Oper) (si : List SI) (tail : List Nat) (listed : Array Bool)
  | blk (id : Nat)
  | inv (J : Env → List Blk → Prop)

/-- Either way. -/
def Br (c : Bool) (X Y : Prop) : Prop := (c = true → X) ∧ (c = false → Y)
theorem Br_true (X Y : Prop) : Br true X Y = X := by simp [Br]
theorem Br_false (X Y : Prop) : Br false X Y = Y := by simp [Br]

abbrev Run := List Item → Env → List Blk → Prop
def CallG (P : Program) (R : Run) (n : Nat) (f : FuncId) (args : List SV) (hl : List Blk) (r : List Nat) (d : Option Nat) (its : List Item) (e : Env) (h : List Blk) : Prop :=
  ∃ Q, CV P f args hl Q ∧ ∀ v hh, Q v hh → R its (put n d (v.ren (unl r h.length)) e) (mrg (unl r h.length) r h hh)
def roB : Blk → Blk
  | .lit row _ => .lit row false
  | .rows n cap c f _ => .rows n cap c f false
  | .cells n g _ => .cells n g false
  | .dead => .dead
def roL : List Blk → List Blk
  | [] => []
  | b :: r => roB b :: roL r
def dropB : List Nat → List Blk → List Blk
  | [], hh => hh
  | _ :: r, _ :: hh => dropB r hh
  | _ :: _, [] => []
/-- The callee only reads what it is led to. -/
def CallR (P : Program) (R : Run) (n : Nat) (f : FuncId) (args : List SV) (hl : List Blk) (r : List Nat) (d : Option Nat) (its : List Item) (e : Env) (h : List Blk) : Prop :=
  ∃ Q, CV P f args hl Q ∧ ∀ v hh, Q v hh → R its (put n d (v.ren (unl r h.length)) e) (h ++ newB (unl r h.length) (dropB r hh))
/-- A function without a body of its own, that answers at once. -/
def CallX (P : Program) (R : Run) (n : Nat) (f : FuncId) (args : List SV) (d : Option Nat) (its : List Item) (e : Env) (h : List Blk) : Prop :=
  knownL args = true ∧ ∃ v : SV, v.bd h.length ∧ (∀ (β : Nat → Loc) (w : World), (callFunc f (denL β args).toArray).run P w = .ok (.value (den β v)) w) ∧ R its (put n d v e) h
def CallN (P : Program) (R : Run) (n : Nat) (f : FuncId) (args : List SV) (d : Option Nat) (its : List Item) (e : Env) (h : List Blk) (r : List Nat) : Prop :=
  (((knownL args && (locOk r h && (linL r args && allLt h.length r))) = true) ∧ (CallR P R n f (renL (idx r) args) (roL (locH r h r)) r d its e h ∨ CallG P R n f (renL (idx r) args) (locH r h r) r d its e h)) ∨ CallX P R n f args d its e h
def CallM (P : Program) (R : Run) (n : Nat) (f : FuncId) (args : List SV) (d : Option Nat) (its : List Item) (e : Env) (h : List Blk) (r : List Nat) : Prop :=
  ((knownL args && (locOk r h && (linL r args && allLt h.length r))) = true) ∧ CallR P R n f (renL (idx r) args) (roL (locH r h r)) r d its e h

def covE (m : Nat) : Env → Env → Prop
  | [], _ => True
  | (i, v) :: r, e => (v.known = true → v.bd m ∧ look e i = v) ∧ covE m r e
def covRow : List SV → List SV → Prop
  | [], [] => True
  | v :: r, u :: s => (v.known = true → u = v) ∧ covRow r s
  | _, _ => False
def covB : Blk → Blk → Prop
  | .dead, _ => True
  | .lit row o, b => (match b with
    | .lit row' o' => o = o' ∧ covRow row row'
    | _ => False)
  | .rows n cap c f o, b => (match b with
    | .rows n' cap' c' f' o' => (o = o' ∧ c = c') ∧ ((n ≤ n' ∧ n ≤ cap) ∧ cap ≤ cap') ∧ ∀ i, i < n → f' i = f i
    | _ => False)
  | .cells n g o, b => (match b with
    | .cells n' g' o' => (o = o' ∧ n = n') ∧ ∀ j, j < n → g' j = g j
    | _ => False)
def covH (m : Nat) : List Blk → List Blk → Prop
  | [], _ => True
  | b :: r, [] => False
  | b :: r, b' :: s => b.bd m ∧ covB b b' ∧ covH m r s
def isPre : List Nat → List Nat → Bool
  | [], _ => true
  | _ :: _, [] => false
  | a :: s, b :: r => a == b && isPre s r
/-- The slots, their labels named anew; what leads elsewhere is forgotten. -/
def locV (r : List Nat) (v : SV) : SV :=
  match v.lin r with
  | true => v.ren (idx r)
  | false => .any
def locE (r : List Nat) : Env → Env
  | [] => []
  | (i, v) :: e => (i, locV r v) :: locE r e
/-- The state may be seen so. -/
def Cov (e1 : Env) (h1 : List Blk) (e : Env) (h : List Blk) : Prop := covE h1.length e1 e ∧ covH h1.length h1 h
/-- The state may be seen so, its labels named anew. -/
def CovR (n0 : Nat) (e1 : Env) (h1 : List Blk) (e : Env) (h : List Blk) : Prop :=
  Cov e1 h1 e h ∨ ∃ r, (locOk r h && (allLt h.length r && isPre (upto n0) r)) = true ∧ Cov e1 h1 (locE r e) (locH r h r)
def LoopN (R : Run) (n0 : Nat) (c : Code) (its : List Item) (e : Env) (h : List Blk) : Prop :=
  ∃ (σ : Type) (I : σ → Prop) (m : σ → Nat) (car : σ → Env) (hp : σ → List Blk) (s0 : σ), (∀ s, n0 ≤ (hp s).length) ∧ I s0 ∧ Cov (car s0) (hp s0) e h ∧
    ∀ s, I s → R (.code c :: .inv (fun e' h' => ∃ s', I s' ∧ m s' < m s ∧ CovR n0 (car s') (hp s') e' h') :: its) (car s) (hp s)

/-- Append: where it grows, where the old slice is given up, where nothing is appended. -/
def AppN (R : Run) (n : Nat) (a : AppIn) (d : Option Nat) (its : List Item) (e : Env) (h : List Blk) (x : SV) : Prop :=
  (a.cap < a.len + a.m ∧ ∀ cap', a.len + a.m ≤ cap' → R its (put n d (.slc h.length 0 (a.len + a.m) cap') e) (h ++ [.rows (a.len + a.m) cap' a.c (catR a.f a.len a.g) true])) ∨
  ((a.own = true ∧ a.cap ≤ a.cb) ∧ ∀ cap', a.len + a.m ≤ cap' → R its (put n d (.slc h.length 0 (a.len + a.m) cap') e) (hset h a.l .dead ++ [.rows (a.len + a.m) cap' a.c (catR a.f a.len a.g) true])) ∨
  ((a.m = 0 ∧ a.len = 0) ∧ R its (put n d x e) h)
def AppZ (R : Run) (n : Nat) (c m : Nat) (g : Nat → List FV) (d : Option Nat) (its : List Item) (e : Env) (h : List Blk) : Prop :=
  ∀ cap', m ≤ cap' → R its (put n d (.slc h.length 0 m cap') e) (h ++ [.rows m cap' c g true])

def dropTo (id : Nat) : List Item → List Item
  | [] => []
  | .blk j :: r => if j = id then r else dropTo id r
  | _ :: r => dropTo id r
def hasBlk (id : Nat) : List Item → Bool
  | [] => false
  | .blk j :: r => if j = id then true else hasBlk id r
  | _ :: r => hasBlk id r
def dstOf (all : List Oper) (g : Nat) : Option Nat :=
  match rget all g with
  | some o => o.dst
  | none => none

def pickL (all : List Oper) : List Nat → List Oper
  | [] => []
  | i :: r => (match rget all i with
    | some o => o :: pickL all r
    | none => pickL all r)
/-- A call whose answer leads to no memory, whatever order is drawn. -/
def CallE (P : Program) (R : Run) (n : Nat) (f : FuncId) (args : List SV) (d : Option Nat) (its : List Item) (e : Env) (h : List Blk) : Prop :=
  ((knownL args && linL [] args) = true) ∧ ∃ v, (v.known && v.lin []) = true ∧ CVE P f args [] v [] ∧ R its (put n d v e) h
def SI.i : SI → Nat
  | .q i | .n i | .e i => i
def reachB (ops : Array Oper) (i : Nat) : Nat → Nat → Bool
  | 0, _ => false
  | k + 1, t => (match ops[t]? with
    | some o => (o.after.any fun e => Region.binds .any e && e.on == i) || (o.after.any fun e => Region.binds .any e && reachB ops i k e.on)
    | none => false)
def depB (ops : Array Oper) (i : Nat) : List Nat → Bool
  | [] => true
  | t :: r => reachB ops i 3 t && depB ops i r
def closedB (ops : Array Oper) (listed : Array Bool) : Bool :=
  (List.range ops.size).all fun j => !(listed.getD j false) || (match ops[j]? with
    | some o => o.after.all fun e => !(Region.binds .any e) || listed.getD e.on false
    | none => true)
def tailB (ops : Array Oper) : List Nat → Array Bool → Bool
  | [], listed => Region.ready .any ops listed == []
  | t :: ts, listed => Region.ready .any ops listed == [t] && (ops[t]?).isSome && tailB ops ts (listed.setIfInBounds t true)
def sOkB (ops : Array Oper) (tail : List Nat) : List SI → Array Bool → Bool
  | [], listed => tailB ops tail listed && (List.range ops.size).all fun j => inL j tail || listed.getD j true
  | s :: si, listed => (match s with
    | .n i => Region.ready .any ops listed == [i]
    | s => Region.free .any ops listed s.i && (Region.ready .any ops listed).contains s.i) && (ops[s.i]?).isSome && !inL s.i tail && (closedB ops listed && depB ops s.i tail) && sOkB ops tail si (listed.setIfInBounds s.i true)
/-- The schedule of a region that draws its order is sound. -/
def SOk (ops : Array Oper) (si : List SI) (tail : List Nat) : Prop :=
  (Region.noSelect ops && sOkB ops tail si (Array.replicate ops.size false) && si.length + tail.length == ops.size) = true

def SB.dep : SB → Nat
  | .nil => 0
  | .q _ s | .e _ s | .n _ s => s.dep + 1
  | .f _ s _ _ => s.dep + 1
def sbOk (ops : Array Oper) : SB → Array Bool → Bool
  | .nil, ls => Region.ready .any ops ls == []
  | .q i s, ls | .e i s, ls => Region.free .any ops ls i && (Region.ready .any ops ls).contains i && (ops[i]?).isSome && sbOk ops s (ls.setIfInBounds i true)
  | .n i s, ls => Region.ready .any ops ls == [i] && (ops[i]?).isSome && sbOk ops s (ls.setIfInBounds i true)
  | .f i s j t, ls => Region.ready .any ops ls == [i, j] && (ops[i]?).isSome && (ops[j]?).isSome && s.dep == t.dep && sbOk ops s (ls.setIfInBounds i true) && sbOk ops t (ls.setIfInBounds j true)
def SBOk (ops : Array Oper) (s : SB) : Prop := (Region.noSelect ops && sbOk ops s (Array.replicate ops.size false) && s.dep == ops.size) = true
/-- The labels to which some slots lead. -/
def slotsL (e : Env) : List Nat → List Nat
  | [] => []
  | s :: r => (match look e s with
    | .ptr l _ _ => l :: slotsL e r
    | .slc l _ _ _ => l :: slotsL e r
    | _ => slotsL e r)
def keepB (nb : Nat) (B : List Nat) : Nat → List Blk → List Blk
  | _, [] => []
  | i, b :: r => (match decide (i < nb) && !inL i B with
    | true => b
    | false => .dead) :: keepB nb B (i + 1) r
def isDead : Blk → Bool
  | .dead => true
  | _ => false
/-- A block is as much there as it was. -/
def kpR : Blk → Blk → Bool
  | b, .rows _ cap' _ _ own' => own' || (match b with
    | .rows _ cap _ _ own => !own && cap == cap'
    | _ => false)
  | _, .dead => false
  | _, _ => true
theorem kpR_live {b y : Blk} (h : kpR b y = true) (hb : b.live) : y.live := by
  cases y with
  | dead => cases b <;> simp [kpR] at h
  | lit _ _ => trivial
  | cells _ _ _ => trivial
  | rows n cap c f own =>
    cases own with
    | true => exact .inl rfl
    | false =>
      cases b with
      | rows n' cap' c' f' own' =>
        simp only [kpR, Bool.false_or, Bool.and_eq_true, Bool.not_eq_true', beq_iff_eq] at h
        obtain ⟨h1, rfl⟩ := h
        subst h1
        exact .inr (hb.elim (fun c => by cases c) id)
      | _ => simp [kpR] at h
/-- The blocks that are not stored to are all there. -/
def kpB (B : List Nat) : Nat → List Blk → List Blk → Bool
  | _, [], _ => true
  | i, b :: r, h => (inL i B || isDead b || kpR b (hget h i)) && kpB B (i + 1) r h
def ofB (nb : Nat) (B : List Nat) (l : Nat) : Bool := decide (nb ≤ l) || inL l B
def stQ (K : Env → Prop) (n : Nat) (d : Option Nat) (q : OR2) (e : Env) : Prop :=
  match q with
  | .or (.val p v) => p ∧ K (put n d v e)
  | .or (.pick c a b) => Br c (K (put n d a e)) (K (put n d b e))
  | .wid b => FWok b ∧ K (put n d (.f (.flt .f64 (fwide b))) e)
  | _ => False
def gV (want : Bool) (v : SV) (s : Nat) (e : Env) (rn sk : Env → Prop) : Prop :=
  match v with
  | .f (.bool t) => (match want with
    | true => Br t (rn ((s, .f (.bool true)) :: e)) (sk ((s, .f (.bool false)) :: e))
    | false => Br t (sk ((s, .f (.bool true)) :: e)) (rn ((s, .f (.bool false)) :: e)))
  | .tup [] => sk e
  | _ => False
def gB (all : List Oper) (o : Oper) (e : Env) (rn sk : Env → Prop) : Prop :=
  match o.guard with
  | none => rn e
  | some gw => (match dstOf all gw.1 with
    | some s => gV gw.2 (look e s) s e rn sk
    | none => False)
/-- A continuation that knows no items. -/
def kR (K : Env → List Blk → Prop) : Run := fun _ e h => K e h
def stE (P : Program) (K : Env → List Blk → Prop) (n : Nat) (d : Option Nat) (q : OR2) (e : Env) (h : List Blk) : Prop :=
  match q with
  | .or (.call f args) => CallE P (kR K) n f args d [] e h
  | _ => False
/-- Append, where it only adds to memory. -/
def AppB (K : Env → List Blk → Prop) (n : Nat) (d : Option Nat) (q : AP) (x : SV) (e : Env) (h : List Blk) : Prop :=
  match q with
  | .slc p a => p ∧ ((a.cap < a.len + a.m ∧ ∀ cap', a.len + a.m ≤ cap' → K (put n d (.slc h.length 0 (a.len + a.m) cap') e) (h ++ [.rows (a.len + a.m) cap' a.c (catR a.f a.len a.g) true])) ∨ ((a.m = 0 ∧ a.len = 0) ∧ K (put n d x e) h))
  | .nil p c m g => p ∧ ∀ cap', m ≤ cap' → K (put n d (.slc h.length 0 m cap') e) (h ++ [.rows m cap' c g true])
  | .bad => False
/-- Append where the old slice is given up, whether it grows or not. -/
def AppI (K : Env → List Blk → Prop) (n : Nat) (hS : List Blk) (B : List Nat) (d : Option Nat) (q : AP) (e : Env) (h : List Blk) : Prop :=
  match q with
  | .slc p a => p ∧ (((a.own = true ∧ a.cap ≤ a.cb) ∧ (ofB hS.length B a.l && kpB B 0 hS h) = true) ∧ ∀ cap', a.len + a.m ≤ cap' → K (put n d (.slc h.length 0 (a.len + a.m) cap') e) (hset h a.l .dead ++ [.rows (a.len + a.m) cap' a.c (catR a.f a.len a.g) true]))
  | _ => False
/-- A float32 made wide: either it is no NaN, or whatever comes of it. -/
def WidN (R : Run) (n md b : Nat) (d : Option Nat) (its : List Item) (e : Env) (h : List Blk) : Prop :=
  (md ≠ 2 ∧ FWok b ∧ R its (put n d (.f (.flt .f64 (fwide b))) e) h) ∨ ((md = 0 ∨ md = 3) ∧ ∀ c, Wid b c → R its (put n d (.f (.flt .f64 c)) e) h)
def isOwnB : Blk → Bool
  | .lit _ o => o
  | .rows _ _ _ _ o => o
  | .cells _ _ o => o
  | .dead => false
theorem isOwnB_eq (b : Blk) : isOwnB b = b.own := by cases b <;> rfl
/-- What of it is one's own may be stored to. -/
def ofL (nb : Nat) (B : List Nat) (h : List Blk) : List Nat → Bool
  | [] => true
  | l :: r => (!isOwnB (hget h l) || ofB nb B l) && ofL nb B h r
theorem ofL_at {nb : Nat} {B : List Nat} {h : List Blk} : ∀ {r : List Nat}, ofL nb B h r = true → ∀ l ∈ r, (hget h l).own = true → ofB nb B l = true
  | [], _, l, hl, _ => by cases hl
  | x :: r, hc, l, hl, ho => by
    simp only [ofL, Bool.and_eq_true, Bool.or_eq_true, Bool.not_eq_true', isOwnB_eq] at hc
    rcases List.mem_cons.1 hl with e | e
    · subst e
      rcases hc.1 with c | c
      · rw [c] at ho; cases ho
      · exact c
    · exact ofL_at hc.2 l e ho
/-- A call that stores, where the region may store. -/
def CallW (P : Program) (K : Env → List Blk → Prop) (n : Nat) (f : FuncId) (args : List SV) (hS : List Blk) (B : List Nat) (d : Option Nat) (e : Env) (h : List Blk) (r : List Nat) : Prop :=
  ((knownL args && (locOk r h && (linL r args && allLt h.length r))) = true) ∧ (ofL hS.length B h r && kpB B 0 hS h) = true ∧ CallG P (kR K) n f (renL (idx r) args) (locH r h r) r d [] e h
def stN (P : Program) (X : RX) (K : Env → List Blk → Prop) (hS : List Blk) (B : List Nat) (d : Option Nat) (q : OR2) (e : Env) (h : List Blk) : Prop :=
  match q with
  | .or (.val p v) => p ∧ K (put X.n d v e) h
  | .or (.pick c a b) => Br c (K (put X.n d a e) h) (K (put X.n d b e) h)
  | .or (.new p b mk) => p ∧ K (put X.n d (mk h.length) e) (h ++ [b])
  | .or (.upd p l b) => (ofB hS.length B l && kpB B 0 hS h) = true ∧ p ∧ K (put X.n d (.tup []) e) (hset h l b)
  | .or (.call f args) => CallM P (kR K) X.n f args d [] e h (reach h (ins [] (labsL args))) ∨ CallW P K X.n f args hS B d e h (reach h (ins [] (labsL args)))
  | .app t x y => AppB K X.n d (appR X.tab h t x y) x e h ∨ AppI K X.n hS B d (appR X.tab h t x y) e h
  | .wid b => WidN (kR K) X.n 3 b d [] e h
  | _ => False
def oB (all : List Oper) (i : Nat) (k : Oper → Prop) : Prop :=
  match rget all i with
  | some o => k o
  | none => False
def rB (P : Program) (X : RX) (K : Env → List Blk → Prop) (all : List Oper) (hS : List Blk) (B : List Nat) : SB → Env → List Blk → Prop
  | .nil, e, h => K e h
  | .q i s, e, h => oB all i fun o => gB all o e (fun e => stQ (fun e => rB P X K all hS B s e h) X.n o.dst (opR X.tab e (keepB hS.length B 0 h) o.op) e) (fun e => rB P X K all hS B s (put X.n o.dst (.tup []) e) h)
  | .e i s, e, h => oB all i fun o => gB all o e (fun e => stE P (fun e h => rB P X K all hS B s e h) X.n o.dst (opR X.tab e h o.op) e h) (fun e => rB P X K all hS B s (put X.n o.dst (.tup []) e) h)
  | .n i s, e, h => oB all i fun o => gB all o e (fun e => stN P X (fun e h => rB P X K all hS B s e h) hS B o.dst (opR X.tab e h o.op) e h) (fun e => rB P X K all hS B s (put X.n o.dst (.tup []) e) h)
  | .f i s j t, e, h =>
    (oB all i fun o => gB all o e (fun e => stN P X (fun e h => rB P X K all hS B s e h) hS B o.dst (opR X.tab e h o.op) e h) (fun e => rB P X K all hS B s (put X.n o.dst (.tup []) e) h)) ∧
    (oB all j fun o => gB all o e (fun e => stN P X (fun e h => rB P X K all hS B t e h) hS B o.dst (opR X.tab e h o.op) e h) (fun e => rB P X K all hS B t (put X.n o.dst (.tup []) e) h))
def jK (n0 : Nat) {σ : Type} (I : σ → Prop) (car : σ → Env) (hp : σ → List Blk) (e : Env) (h : List Blk) : Prop := ∃ s, I s ∧ CovR n0 (car s) (hp s) e h
/-- Several orders, one state behind them. -/
def JoinN (P : Program) (X : RX) (R : Run) (all : List Oper) (B : List Nat) (s : SB) (r : List Item) (e : Env) (h : List Blk) : Prop :=
  ∃ (σ : Type) (I : σ → Prop) (car : σ → Env) (hp : σ → List Blk), rB P X (jK X.n0 I car hp) all h B s e h ∧ ∀ s, I s → X.n0 ≤ (hp s).length ∧ R r (car s) (hp s)
def stRB (P : Program) (X : RX) (R : Run) (all : List Oper) (B : List Nat) (jn : Bool) (s : SB) (r : List Item) (e : Env) (h : List Blk) : Prop :=
  match jn with
  | false => rB P X (R r) all h B s e h
  | true => JoinN P X R all B s r e h
def stCode (P : Program) (X : RX) (R : Run) (c : Code) (r : List Item) (e : Env) (h : List Blk) : Prop :=
  match c with
  | .skip => R r e h
  | .seq a b => R (.code a :: .code b :: r) e h
  | .cond c a b => (match ev e c with
    | .f (.bool t) => Br t (R (.code a :: r) e h) (R (.code b :: r) e h)
    | _ => False)
  | .block id c => R (.code c :: .blk id :: r) e h
  | .exit id => (match hasBlk id r with
    | true => R (dropTo id r) e h
    | false => False)
  | .ret => X.F e h
  | .loop c => LoopN R X.n0 c r e h
  | .region id ops dr => (match dr with
    | false => R (.ops ops.toList ops.toList :: r) e h
    | true => (match X.sb id with
      | none => SOk ops (X.sc id).1 (X.sc id).2 ∧ R (.drw ops.toList (X.sc id).1 (X.sc id).2 (Array.replicate ops.size false) :: r) e h
      | some p => SBOk ops p.2.2 ∧ stRB P X R ops.toList (slotsL e p.1) p.2.1 p.2.2 r e h))
  | _ => False
def stOps (R : Run) (all rest : List Oper) (r : List Item) (e : Env) (h : List Blk) : Prop :=
  match rest with
  | [] => R r e h
  | o :: os => R (.g 0 all o :: .ops all os :: r) e h
def SI.md : SI → Nat
  | .q _ => 1
  | .n _ => 3
  | .e _ => 2
def stDrw (R : Run) (all : List Oper) (si : List SI) (tail : List Nat) (ls : Array Bool) (r : List Item) (e : Env) (h : List Blk) : Prop :=
  match si with
  | [] => R (.ops all (pickL all tail) :: r) e h
  | s :: si => (match rget all s.i with
    | some o => R (.g s.md all o :: .drw all si tail (ls.setIfInBounds s.i true) :: r) e h
    | none => False)
/-- A guard: t is what the guarding operation yielded, want what is wanted. -/
def stGd (R : Run) (md s : Nat) (want t : Bool) (o : Oper) (r : List Item) (e : Env) (h : List Blk) : Prop :=
  match want with
  | true => Br t (R (.op md o :: r) ((s, .f (.bool true)) :: e) h) (R (.skp o.dst :: r) ((s, .f (.bool false)) :: e) h)
  | false => Br t (R (.skp o.dst :: r) ((s, .f (.bool true)) :: e) h) (R (.op md o :: r) ((s, .f (.bool false)) :: e) h)
def stG (R : Run) (md : Nat) (all : List Oper) (o : Oper) (r : List Item) (e : Env) (h : List Blk) : Prop :=
  match o.guard with
  | none => R (.op md o :: r) e h
  | some gw => (match dstOf all gw.1 with
    | some s => (match look e s with
      | .f (.bool t) => stGd R md s gw.2 t o r e h
      | .tup l => (match l with
        | [] => R (.skp o.dst :: r) e h
        | _ :: _ => False)
      | _ => False)
    | none => False)
def stOr (P : Program) (X : RX) (R : Run) (md : Nat) (o : Oper) (q : OR) (r : List Item) (e : Env) (h : List Blk) : Prop :=
  match q with
  | .val p v => md ≠ 2 ∧ p ∧ R r (put X.n o.dst v e) h
  | .pick c a b => md ≠ 2 ∧ Br c (R r (put X.n o.dst a e) h) (R r (put X.n o.dst b e) h)
  | .new p b mk => (md = 0 ∨ md = 3) ∧ p ∧ R r (put X.n o.dst (mk h.length) e) (h ++ [b])
  | .upd p l b => md = 0 ∧ p ∧ R r (put X.n o.dst (.tup []) e) (hset h l b)
  | .call f args => (match md with
    | 0 => CallN P R X.n f args o.dst r e h (reach h (ins [] (labsL args)))
    | 3 => CallM P R X.n f args o.dst r e h (reach h (ins [] (labsL args)))
    | 2 => CallE P R X.n f args o.dst r e h
    | _ => False)
  | .app _ _ _ _ _ _ _ _ _ => False
  | .bad => False
def stAp (X : RX) (R : Run) (o : Oper) (q : AP) (x : SV) (r : List Item) (e : Env) (h : List Blk) : Prop :=
  match q with
  | .slc p a => p ∧ AppN R X.n a o.dst r e h x
  | .nil p c m g => p ∧ AppZ R X.n c m g o.dst r e h
  | .bad => False
def stOp (P : Program) (X : RX) (R : Run) (md : Nat) (o : Oper) (q : OR2) (r : List Item) (e : Env) (h : List Blk) : Prop :=
  match q with
  | .or q => stOr P X R md o q r e h
  | .app t x y => md = 0 ∧ stAp X R o (appR X.tab h t x y) x r e h
  | .wid b => WidN R X.n md b o.dst r e h
def stItem (P : Program) (X : RX) (R : Run) (it : Item) (r : List Item) (e : Env) (h : List Blk) : Prop :=
  match it with
  | .code c => stCode P X R c r e h
  | .ops all rest => stOps R all rest r e h
  | .drw all si tail ls => stDrw R all si tail ls r e h
  | .g md all o => stG R md all o r e h
  | .skp d => R r (put X.n d (.tup []) e) h
  | .op md o => md ≤ 3 ∧ stOp P X R md o (opR X.tab e h o.op) r e h
  | .blk _ => R r e h
  | .inv J => J e h
def run (P : Program) (X : RX) : Nat → Run
  | 0, _, _, _ => False
  | _ + 1, [], e, h => X.F e h
  | k + 1, it :: r, e, h => stItem P X (run P X k) it r e h

/-- The results. -/
def resL (tab : Nat → Option TI) (e : Env) (h : List Blk) : List ResultVar → Option (Prop × List SV)
  | [] => some (True, [])
  | .tmp t :: r => (match resL tab e h r with
    | some (p, l) => some (p, look e t :: l)
    | none => none)
  | .cell a t :: r => (match ldR tab h t (look e a) with
    | .val p v => (match resL tab e h r with
      | some (q, l) => some (p ∧ q, v :: l)
      | none => none)
    | _ => none)
def resV : List SV → SV
  | [v] => v
  | l => .tup l
def RetG (Q : SV → List Blk → Prop) (n0 : Nat) (v : SV) (h : List Blk) (r : List Nat) : Prop :=
  ((v.known && (locOk r h && (v.lin r && (allLt h.length r && isPre (upto n0) r)))) = true) ∧ Q (v.ren (idx r)) (locH r h r)
def finR (tab : Nat → Option TI) (rs : List ResultVar) (n0 : Nat) (Q : SV → List Blk → Prop) (e : Env) (h : List Blk) : Prop :=
  match resL tab e h rs with
  | some pl => pl.1 ∧ (knownL pl.2 = true ∧ RetG Q n0 (resV pl.2) h (reach h (ins (upto n0) (resV pl.2).labs)))
  | none => False
end Go.Proofs.YtjhddlkfkicpaaaGreatDoor.Vx

namespace Go.Proofs.YtjhddlkfkicpaaaGreatDoor.Vx
open Go Go.RowKit Fl
set_option linter.unusedVariables false
set_option linter.unusedSimpArgs false

section
variable {P : Program} {ops : Array Oper} {Q : Exit → Act → World → Prop} {md : Region.Mode} {T : List Nat} {nt : Nat}
def wpE2 (P : Program) (md : Region.Mode) (ops : Array Oper) (Q : Exit → Act → World → Prop) (T : List Nat) : Nat → Array Bool → Act → World → Prop
  | 0, listed, a, w => (∀ j o, ops[j]? = some o → j ∉ T → listed.getD j true = true) ∧ ∀ w', Ext w w' → wpAny P md ops Q T.length listed a w'
  | fuel + 1, listed, a, w => Region.ready md ops listed ≠ [] ∧ ∀ w', Ext w w' → ∀ i ∈ Region.ready md ops listed, wpOp P ops Q i (fun a' w'' => Ext w' w'' ∧ wpE2 P md ops Q T fuel (listed.setIfInBounds i true) a' w'') a w'

theorem wpE2.ext : ∀ {fuel : Nat} {listed : Array Bool} {a : Act} {w w' : World}, wpE2 P md ops Q T fuel listed a w → Ext w w' → wpE2 P md ops Q T fuel listed a w'
  | 0, _, _, _, _, h, x => ⟨h.1, fun w2 h2 => h.2 w2 (x.trans h2)⟩
  | _ + 1, _, _, _, _, h, x => ⟨h.1, fun w2 h2 => h.2 w2 (x.trans h2)⟩
theorem wpAny_of_wpE2 : ∀ (fuel : Nat) (listed : Array Bool) (a : Act) (w : World), wpE2 P md ops Q T fuel listed a w → wpAny P md ops Q (fuel + T.length) listed a w
  | 0, _, _, w, h => by rw [Nat.zero_add]; exact h.2 w (Ext.refl _)
  | fuel + 1, listed, a, w, h => by
    rw [show fuel + 1 + T.length = (fuel + T.length) + 1 from by omega]
    exact ⟨fun h0 => absurd h0 h.1, fun i hi => wpOp_mono (fun a' w' h' => wpAny_of_wpE2 fuel _ a' w' h'.2) (h.2 w (Ext.refl _) i hi)⟩
theorem closed_of {listed : Array Bool} (h : closedB ops listed = true) {j : Nat} {o : Oper} (hj : listed.getD j false = true) (ho : ops[j]? = some o) : ∀ e ∈ o.after, Region.binds .any e = true → listed.getD e.on false = true := fun e he hb => by
  have hlt : j < ops.size := (Array.getElem?_eq_some_iff.1 ho).1
  have h1 := List.all_eq_true.1 h j (by simpa using hlt)
  rw [hj, ho] at h1
  simp only [Bool.not_true, Bool.false_or] at h1
  have := Array.all_eq_true'.1 h1 e he
  rw [hb] at this
  simpa using this
theorem closed_set {listed : Array Bool} (h : closedB ops listed = true) {j : Nat} (hj : j ∈ Region.ready .any ops listed) : closedB ops (listed.setIfInBounds j true) = true := by
  refine List.all_eq_true.2 fun k hk => ?_
  obtain ⟨_, oj, hoj, hall⟩ := mem_ready.1 hj
  cases ho : ops[k]? with
  | none => simp
  | some o =>
    simp only
    cases c : (listed.setIfInBounds j true).getD k false with
    | false => simp
    | true =>
      simp only [Bool.not_true, Bool.false_or]
      refine Array.all_eq_true'.2 fun e he => ?_
      cases hb : Region.binds .any e with
      | false => simp
      | true =>
        simp only [Bool.not_true, Bool.false_or]
        apply getD_set_true
        by_cases e1 : k = j
        · subst e1; rw [hoj] at ho; cases ho; exact hall e he hb
        · have : listed.getD k false = true := by
            rw [getD_set_ne false (Ne.symm e1)] at c; exact c
          exact closed_of h this ho e he hb
theorem reach_listed {i : Nat} {listed : Array Bool} (hc : closedB ops listed = true) : ∀ (k j : Nat), reachB ops i k j = true → (∀ o, ops[j]? = some o → ∀ e ∈ o.after, Region.binds .any e = true → listed.getD e.on false = true) → listed.getD i false = true
  | 0, _, h, _ => by cases h
  | k + 1, j, h, hd => by
    unfold reachB at h
    cases ho : ops[j]? with
    | none => rw [ho] at h; cases h
    | some o =>
      rw [ho] at h
      simp only [Bool.or_eq_true] at h
      rcases h with h | h
      · obtain ⟨e, he, hb⟩ := Array.any_eq_true'.1 h
        simp only [Bool.and_eq_true, beq_iff_eq] at hb
        have := hd o ho e he hb.1
        rwa [hb.2] at this
      · obtain ⟨e, he, hb⟩ := Array.any_eq_true'.1 h
        simp only [Bool.and_eq_true] at hb
        have := hd o ho e he hb.1
        exact reach_listed hc k e.on hb.2 fun o2 ho2 => closed_of hc this ho2
theorem wpE2_first {i : Nat} {oi : Oper} {v : Value} (hi : ops[i]? = some oi) (hsel : ∀ (j : Nat) (o : Oper) cs b, ops[j]? = some o → o.op ≠ .select cs b)
    (hQ : ∀ c a w, Q (.panic c) (a.put oi.dst v) w → Q (.panic c) a w) (hdep : ∀ j ∈ T, reachB ops i 3 j = true) :
    ∀ (fuel : Nat) (listed : Array Bool) (a : Act) (w : World), closedB ops listed = true →
      (∀ j oj, ops[j]? = some oj → j ≠ i → listed.getD j true = false → (∀ e ∈ oj.after, Region.binds .any e = true → e.on ≠ i) → oi.apart ops oj = true) →
      i ∈ Region.ready .any ops listed → GivesE P ops oi v a w →
      wpE2 P .any ops Q T fuel (listed.setIfInBounds i true) (a.put oi.dst v) w → wpE2 P .any ops Q T (fuel + 1) listed a w := by
  intro fuel
  have hT : ∀ (listed : Array Bool) (j : Nat), closedB ops listed = true → i ∈ Region.ready .any ops listed → j ∈ Region.ready .any ops listed → j ∉ T := fun listed j hc hr hj ht => by
    obtain ⟨_, oj', ho', hall⟩ := mem_ready.1 hj
    have h1 := reach_listed hc 3 j (hdep j ht) fun o ho => by rw [ho'] at ho; cases ho; exact hall
    have h0 := (mem_ready.1 hr).1
    rcases Nat.lt_or_ge i listed.size with h' | h'
    · simp [h'] at h0 h1; rw [h0] at h1; cases h1
    · simp [Array.getElem?_eq_none h'] at h1
  induction fuel with
  | zero =>
    intro listed a w hcl _ hr hy H
    refine ⟨fun h => (by rw [h] at hr; cases hr), fun w' hx j hj => ?_⟩
    by_cases hji : j = i
    · subst hji; exact hy.wpOp hi hx fun w'' hx' => ⟨hx', H.ext (hx.trans hx')⟩
    · exfalso
      obtain ⟨hun, oj, ho, _⟩ := mem_ready.1 hj
      have := H.1 j oj ho (hT listed j hcl hr hj)
      rw [getD_set_ne true (Ne.symm hji), hun] at this
      cases this
  | succ fuel ih =>
    intro listed a w hcl hfree hr hy H
    refine ⟨fun h => (by rw [h] at hr; cases hr), fun w' hx j hj => ?_⟩
    by_cases hji : j = i
    · subst hji; exact hy.wpOp hi hx fun w'' hx' => ⟨hx', H.ext (hx.trans hx')⟩
    · have h1 := H.2 w' hx j (ready_mono hj hji)
      obtain ⟨hjun, oj, hoj, hall⟩ := mem_ready.1 hj
      have hnot : ∀ e ∈ oj.after, Region.binds .any e = true → e.on ≠ i := fun e he hb heq => by
        have h1 := hall e he hb
        have h0 := (mem_ready.1 hr).1
        rw [heq] at h1
        rcases Nat.lt_or_ge i listed.size with h' | h'
        · simp [h'] at h0 h1; rw [h0] at h1; cases h1
        · simp [Array.getElem?_eq_none h'] at h1
      have h2 := wpOp_putE hoj (hfree j oj hoj hji hjun hnot) (fun cs b => hsel i oi cs b hi) (fun cs b => hsel j oj cs b hoj) hQ hy h1
      have hfree' : ∀ k ok, ops[k]? = some ok → k ≠ i → (listed.setIfInBounds j true).getD k true = false →
          (∀ e ∈ ok.after, Region.binds .any e = true → e.on ≠ i) → oi.apart ops ok = true := fun k ok hk hki hun hno => by
        refine hfree k ok hk hki ?_ hno
        by_cases hjk : j = k
        · subst hjk; exact hjun
        · rw [getD_set_ne true hjk] at hun; exact hun
      refine wpOp_mono (fun a' w2 h3 => ⟨h3.2.1, ih (listed.setIfInBounds j true) a' w2 (closed_set hcl hj) hfree' (ready_mono hr (Ne.symm hji)) (h3.1.ext (hx.trans h3.2.1)) ?_⟩) h2
      rw [Array.setIfInBounds_comm _ _ hji]
      exact h3.2.2
theorem depB_ok {i : Nat} : ∀ {T : List Nat}, depB ops i T = true → ∀ j ∈ T, reachB ops i 3 j = true
  | [], _, j, hj => by cases hj
  | t :: r, h, j, hj => by
    simp only [depB, Bool.and_eq_true] at h
    rcases List.mem_cons.1 hj with c | c
    · subst c; exact h.1
    · exact depB_ok h.2 j c

/-- The tail, in its only order. -/
theorem wpAny_tail {all : List Oper} : ∀ (tail : List Nat) (listed : Array Bool) (a : Act) (w : World), tailB all.toArray tail listed = true → wpList P all.toArray Q (pickL all tail) a w → wpAny P .any all.toArray Q tail.length listed a w
  | [], listed, a, w, h, hw => by
    simp only [tailB, beq_iff_eq] at h
    exact wpAny_done h hw 0
  | t :: ts, listed, a, w, h, hw => by
    simp only [tailB, Bool.and_eq_true, beq_iff_eq] at h
    obtain ⟨⟨h1, h2⟩, h3⟩ := h
    obtain ⟨o, ho⟩ := Option.isSome_iff_exists.1 h2
    have ho' : rget all t = some o := by rw [rget_eq]; simpa using ho
    refine wpAny_all h1 (by simp) fun i hi => ?_
    obtain rfl : i = t := by simpa using hi
    simp only [pickL, ho'] at hw
    unfold Go.wpOp
    simp only [ho]
    unfold wpList at hw
    split at hw
    · rename_i hwt
      rw [if_pos hwt]
      refine hw.imp (fun h => ?_) id
      unfold Oper.wp at *
      exact upon_mono (fun a' w' h' => wpAny_tail ts _ a' w' h3 h') h
    · rename_i hwt
      rw [if_neg hwt]
      exact wpAny_tail ts _ _ _ h3 hw
where
  upon_mono {o : Oper} {a : Act} {K K' : Act → World → Prop} (hk : ∀ a w, K a w → K' a w) {r : Result Next} (h : o.upon P a K Q r) : o.upon P a K' Q r := by
    cases r with
    | ok n w =>
      cases n <;> simp only [Oper.upon] at h ⊢ <;> first
        | exact hk _ _ h
        | (refine Calls.mono h fun e w' he => ?_; cases e <;> first | exact hk _ _ he | exact he)
        | (exact Rows.mono h fun v w' he => hk _ _ he)
    | halt x w => cases x <;> exact h
theorem wp_region_E2 {id : Nat} {a : Act} {w : World} {m : Nat} (hm : P.follows .mixedOrders = true) (hs : ops.size = m + T.length)
    (h : wpE2 P .any ops Q T m (Array.replicate ops.size false) a w) : (Code.region id ops true).wp P Q a w :=
  wp_region_any hm (by rw [hs]; have := wpAny_of_wpE2 _ _ _ _ (h.ext ((Below.refl _ _).drew)); rwa [hs] at this)
end
end Go.Proofs.YtjhddlkfkicpaaaGreatDoor.Vx

namespace Go.Proofs.YtjhddlkfkicpaaaGreatDoor.Vx
open Go Go.RowKit Fl
set_option linter.unusedVariables false
set_option linter.unusedSimpArgs false

/-- The blocks of KP are as they were. -/
def Keep (KP : Nat → Prop) (w w' : World) : Prop := w.heap.size ≤ w'.heap.size ∧ ∀ b, KP b → b < w.heap.size → w'.heap[b]? = w.heap[b]?
theorem Keep.refl (KP : Nat → Prop) (w : World) : Keep KP w w := ⟨Nat.le_refl _, fun _ _ _ => rfl⟩
theorem Keep.trans {KP : Nat → Prop} {a b c : World} (h : Keep KP a b) (k : Keep KP b c) : Keep KP a c :=
  ⟨Nat.le_trans h.1 k.1, fun x hx hl => (k.2 x hx (Nat.lt_of_lt_of_le hl h.1)).trans (h.2 x hx hl)⟩
theorem Keep.of_ext {KP : Nat → Prop} {w w' : World} (x : Ext w w') : Keep KP w w' := ⟨x.size, fun b _ hb => x.block b hb⟩

section
variable {P : Program} {ops : Array Oper} {Q : Exit → Act → World → Prop} {KP : Nat → Prop}
def GivesK (P : Program) (ops : Array Oper) (KP : Nat → Prop) (o : Oper) (v : Value) (a : Act) (w : World) : Prop :=
  (Region.wanted o (yielded ops a.tmps) = true ∧ ∀ w', Keep KP w w' →
    (∃ w'', (execOp a.eval o).run P w' = .ok (.value v) w'' ∧ Ext w' w'') ∨
    (∃ f args w1, (execOp a.eval o).run P w' = .ok (.enter f args) w1 ∧ Calls P f args w1 (fun e w'' => e = .returned v ∧ Ext w' w''))) ∨
  (Region.wanted o (yielded ops a.tmps) = false ∧ v = undef)
theorem GivesK.keep {o : Oper} {v : Value} {a : Act} {w w' : World} (h : GivesK P ops KP o v a w) (x : Keep KP w w') : GivesK P ops KP o v a w' :=
  h.imp (fun ⟨hw, hv⟩ => ⟨hw, fun w2 h2 => hv w2 (x.trans h2)⟩) id
theorem GivesK.of_same {o : Oper} {v : Value} {a a' : Act} {w : World} (hy : GivesK P ops KP o v a w) (he : execOp a'.eval o = execOp a.eval o)
    (hw : Region.wanted o (yielded ops a'.tmps) = Region.wanted o (yielded ops a.tmps)) : GivesK P ops KP o v a' w := by
  unfold GivesK at *; rw [he, hw]; exact hy
theorem GivesK.wpOp {i : Nat} {o : Oper} {v : Value} {a : Act} {w : World} (hi : ops[i]? = some o) (hy : GivesK P ops KP o v a w)
    {K : Act → World → Prop} {w' : World} (hx : Keep KP w w') (h : ∀ w'', Ext w' w'' → K (a.put o.dst v) w'') : wpOp P ops Q i K a w' := by
  unfold Go.wpOp
  simp only [hi]
  rcases hy with ⟨hw, hv⟩ | ⟨hw, rfl⟩
  · simp only [hw, if_true, Oper.wp]
    refine .inl ?_
    rcases hv w' hx with ⟨w'', hr, hx'⟩ | ⟨f, args, w1, hr, hc⟩
    · rw [hr]; simp only [Oper.upon]; exact h _ hx'
    · rw [hr]; simp only [Oper.upon]
      exact Calls.mono hc fun e w'' ⟨he, hx'⟩ => by subst he; exact h _ hx'
  · simp only [hw, Bool.false_eq_true, if_false]; exact h _ (Ext.refl _)
theorem wpOp_putK {j : Nat} {oi oj : Oper} {v : Value} (hj : ops[j]? = some oj) (hap : oi.apart ops oj = true)
    (hsi : ∀ cs b, oi.op ≠ .select cs b) (hsj : ∀ cs b, oj.op ≠ .select cs b)
    (hQ : ∀ c a w, Q (.panic c) (a.put oi.dst v) w → Q (.panic c) a w) {K : Act → World → Prop} {a : Act} {w0 w : World}
    (hy : GivesK P ops KP oi v a w0) (h : wpOp P ops Q j K (a.put oi.dst v) w) :
    wpOp P ops Q j (fun a' w' => GivesK P ops KP oi v a' w0 ∧ K (a'.put oi.dst v) w') a w := by
  obtain ⟨h1, h2, h3⟩ := Oper.apart_spec hap
  have keep : ∀ (a : Act), GivesK P ops KP oi v a w0 → ∀ u, GivesK P ops KP oi v (a.put oj.dst u) w0 := fun a hy u =>
    hy.of_same (execOp_put oi hsi a oj.dst u h3) (wanted_put oi a oj.dst u h3)
  have keepD : ∀ d, GivesK P ops KP oi v { a with defers := d :: a.defers } w0 := fun d => hy.of_same rfl rfl
  unfold Go.wpOp at *
  simp only [hj] at *
  rw [wanted_put oj a oi.dst v h1] at h
  split
  · rename_i hw
    simp only [hw, if_true] at h
    rcases h with h | ⟨hasks, hlets⟩
    case inr => exact .inr ⟨by unfold Oper.asks at *; rw [execOp_put oj hsj a oi.dst v h1] at hasks; exact hasks, hlets⟩
    refine .inl ?_
    unfold Oper.wp at *
    rw [execOp_put oj hsj a oi.dst v h1] at h
    generalize (execOp a.eval oj).run P w = r at *
    cases r with
    | ok n w' =>
      cases n <;> simp only [Oper.upon] at h ⊢
      case value u => exact ⟨keep a hy u, by rw [← Act.put_comm a v u h2]; exact h⟩
      case skip => exact ⟨keep a hy _, by rw [← Act.put_comm a v undef h2]; exact h⟩
      case defer d =>
        refine ⟨keep _ (keepD d) _, ?_⟩
        rw [← Act.put_comm _ v undef h2, ← Act.put_defers]
        exact h
      case enter f args =>
        refine Calls.mono h fun e w'' he => ?_
        cases e with
        | returned u => exact ⟨keep a hy u, by rw [← Act.put_comm a v u h2]; exact he⟩
        | panicked c => exact hQ _ _ _ he
        | outgrown => exact he
      case row row args => exact Rows.mono h fun u w'' he => ⟨keep a hy u, by rw [← Act.put_comm a v u h2]; exact he⟩
    | halt x w' =>
      cases x <;> simp only [Oper.upon] at h ⊢
      case panic u => exact hQ _ _ _ h
  · rename_i hw
    simp only [hw] at h
    exact ⟨keep a hy _, by rw [← Act.put_comm a v undef h2]; exact h⟩

/-- Whatever order is picked; each operation keeps the blocks of KP. -/
def wpB (P : Program) (ops : Array Oper) (Q : Exit → Act → World → Prop) (KP : Nat → Prop) : Nat → Array Bool → Act → World → Prop
  | 0, listed, a, w => Region.ready .any ops listed = [] ∧ ∀ w', Ext w w' → Q .normal a w'
  | fuel + 1, listed, a, w => ∀ w', Ext w w' → (Region.ready .any ops listed = [] → Q .normal a w') ∧
    ∀ i ∈ Region.ready .any ops listed, wpOp P ops Q i (fun a' w'' => Keep KP w' w'' ∧ wpB P ops Q KP fuel (listed.setIfInBounds i true) a' w'') a w'
theorem wpB.ext : ∀ {fuel : Nat} {listed : Array Bool} {a : Act} {w w' : World}, wpB P ops Q KP fuel listed a w → Ext w w' → wpB P ops Q KP fuel listed a w'
  | 0, _, _, _, _, h, x => ⟨h.1, fun w2 h2 => h.2 w2 (x.trans h2)⟩
  | _ + 1, _, _, _, _, h, x => fun w2 h2 => h w2 (x.trans h2)
theorem wpAny_of_wpB : ∀ (fuel : Nat) (listed : Array Bool) (a : Act) (w : World), wpB P ops Q KP fuel listed a w → wpAny P .any ops Q fuel listed a w
  | 0, _, _, w, h => ⟨h.1, h.2 w (Ext.refl _)⟩
  | fuel + 1, _, _, w, h => ⟨(h w (Ext.refl _)).1, fun i hi => wpOp_mono (fun a' w' h' => wpAny_of_wpB fuel _ a' w' h'.2) ((h w (Ext.refl _)).2 i hi)⟩
theorem wpB_first {i : Nat} {oi : Oper} {v : Value} (hi : ops[i]? = some oi) (hsel : ∀ (j : Nat) (o : Oper) cs b, ops[j]? = some o → o.op ≠ .select cs b)
    (hQ : ∀ c a w, Q (.panic c) (a.put oi.dst v) w → Q (.panic c) a w) :
    ∀ (fuel : Nat) (listed : Array Bool) (a : Act) (w : World),
      (∀ j oj, ops[j]? = some oj → j ≠ i → listed.getD j true = false → (∀ e ∈ oj.after, Region.binds .any e = true → e.on ≠ i) → oi.apart ops oj = true) →
      i ∈ Region.ready .any ops listed → GivesK P ops KP oi v a w →
      wpB P ops Q KP fuel (listed.setIfInBounds i true) (a.put oi.dst v) w → wpB P ops Q KP (fuel + 1) listed a w := by
  intro fuel
  induction fuel with
  | zero =>
    intro listed a w _ hr hy H w' hx
    refine ⟨fun h => (by rw [h] at hr; cases hr), fun j hj => ?_⟩
    by_cases hji : j = i
    · subst hji; exact hy.wpOp hi (Keep.of_ext hx) fun w'' hx' => ⟨Keep.of_ext hx', H.ext (hx.trans hx')⟩
    · have := ready_mono hj hji
      rw [H.1] at this
      cases this
  | succ fuel ih =>
    intro listed a w hfree hr hy H w' hx
    refine ⟨fun h => (by rw [h] at hr; cases hr), fun j hj => ?_⟩
    by_cases hji : j = i
    · subst hji; exact hy.wpOp hi (Keep.of_ext hx) fun w'' hx' => ⟨Keep.of_ext hx', H.ext (hx.trans hx')⟩
    · have h1 := (H w' hx).2 j (ready_mono hj hji)
      obtain ⟨hjun, oj, hoj, hall⟩ := mem_ready.1 hj
      have hnot : ∀ e ∈ oj.after, Region.binds .any e = true → e.on ≠ i := fun e he hb heq => by
        have h1 := hall e he hb
        have h0 := (mem_ready.1 hr).1
        rw [heq] at h1
        rcases Nat.lt_or_ge i listed.size with h' | h'
        · simp [h'] at h0 h1; rw [h0] at h1; cases h1
        · simp [Array.getElem?_eq_none h'] at h1
      have h2 := wpOp_putK hoj (hfree j oj hoj hji hjun hnot) (fun cs b => hsel i oi cs b hi) (fun cs b => hsel j oj cs b hoj) hQ hy h1
      have hfree' : ∀ k ok, ops[k]? = some ok → k ≠ i → (listed.setIfInBounds j true).getD k true = false →
          (∀ e ∈ ok.after, Region.binds .any e = true → e.on ≠ i) → oi.apart ops ok = true := fun k ok hk hki hun hno => by
        refine hfree k ok hk hki ?_ hno
        by_cases hjk : j = k
        · subst hjk; exact hjun
        · rw [getD_set_ne true hjk] at hun; exact hun
      refine wpOp_mono (fun a' w2 h3 => ⟨h3.2.1, ih (listed.setIfInBounds j true) a' w2 hfree' (ready_mono hr (Ne.symm hji)) (h3.1.keep ((Keep.of_ext hx).trans h3.2.1)) ?_⟩) h2
      rw [Array.setIfInBounds_comm _ _ hji]
      exact h3.2.2
theorem wp_region_B {id : Nat} {a : Act} {w : World} {m : Nat} (hm : P.follows .mixedOrders = true) (hs : ops.size = m)
    (h : wpB P ops Q KP m (Array.replicate ops.size false) a w) : (Code.region id ops true).wp P Q a w :=
  wp_region_any hm (by have := wpAny_of_wpB _ _ _ _ (h.ext ((Below.refl _ _).drew)); rwa [← hs] at this)
end
end Go.Proofs.YtjhddlkfkicpaaaGreatDoor.Vx
