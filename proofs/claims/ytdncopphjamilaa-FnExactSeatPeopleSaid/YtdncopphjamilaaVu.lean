/- Abstract execution: small laws for the walks. Over any program. -/
import Derived.Test.YtdncopphjamilaaVr
namespace Go.Proofs.Ytdncopphjamilaa.Vx
open Go Go.RowKit Fl
set_option linter.unusedVariables false
set_option linter.unusedSimpArgs false
section
variable {P : Program}
theorem callR {R : Run} {n : Nat} {f : FuncId} {args args' : List SV} {d : Option Nat} {its : List Item} {e : Env} {h hl : List Blk} {r : List Nat} {Q : SV → List Blk → Prop}
    (hk : (knownL args && (locOk r h && (linL r args && allLt h.length r))) = true) (ha : renL (idx r) args = args') (hh : roL (locH r h r) = hl) (c : CV P f args' hl Q)
    (k : ∀ v hh, Q v hh → R its (put n d (v.ren (unl r h.length)) e) (h ++ newB (unl r h.length) (dropB r hh))) : CallN P R n f args d its e h r :=
  ⟨hk, .inl ⟨Q, by rw [ha, hh]; exact c, k⟩⟩
theorem callM {R : Run} {n : Nat} {f : FuncId} {args args' : List SV} {d : Option Nat} {its : List Item} {e : Env} {h hl : List Blk} {r : List Nat} {Q : SV → List Blk → Prop}
    (hk : (knownL args && (locOk r h && (linL r args && allLt h.length r))) = true) (ha : renL (idx r) args = args') (hh : roL (locH r h r) = hl) (c : CV P f args' hl Q)
    (k : ∀ v hh, Q v hh → R its (put n d (v.ren (unl r h.length)) e) (h ++ newB (unl r h.length) (dropB r hh))) : CallM P R n f args d its e h r :=
  ⟨hk, ⟨Q, by rw [ha, hh]; exact c, k⟩⟩
theorem callG {R : Run} {n : Nat} {f : FuncId} {args args' : List SV} {d : Option Nat} {its : List Item} {e : Env} {h hl : List Blk} {r : List Nat} {Q : SV → List Blk → Prop}
    (hk : (knownL args && (locOk r h && (linL r args && allLt h.length r))) = true) (ha : renL (idx r) args = args') (hh : locH r h r = hl) (c : CV P f args' hl Q)
    (k : ∀ v hh, Q v hh → R its (put n d (v.ren (unl r h.length)) e) (mrg (unl r h.length) r h hh)) : CallN P R n f args d its e h r :=
  ⟨hk, .inr ⟨Q, by rw [ha, hh]; exact c, k⟩⟩
theorem callE {R : Run} {n : Nat} {f : FuncId} {args : List SV} {d : Option Nat} {its : List Item} {e : Env} {h : List Blk} {v : SV}
    (hk : (knownL args && linL [] args) = true) (c : CV P f args [] fun u hh => u = v ∧ hh = []) (hv : (v.known && v.lin []) = true)
    (k : R its (put n d v e) h) : CallE P R n f args d its e h :=
  ⟨hk, v, hv, c, k⟩
/-- A contract of the old kind, of a function of flat values. -/
theorem CV.flat {f : FuncId} {fs : List FV} {v : FV} {h : List Blk} (he : ∀ (xs : Array Value) (w : World), (callFunc f xs).run P w = .ok (.enter f xs) w)
    (hc : ∀ w, Calls P f (fs.map FV.val).toArray w fun e w' => e = .returned v.val ∧ w = w') : CV P f (mapF fs) h fun u hh => u = .f v ∧ hh = h :=
  ⟨he, fun w β H => by
    have : denL β (mapF fs) = fs.map FV.val := by rw [denL_map, mapF_eq, List.map_map]; rfl
    rw [this]
    exact Calls.mono (hc w) fun e w' ⟨h1, h2⟩ => by subst h2; exact ⟨.f v, h, β, h1, ⟨rfl, rfl⟩, H, Since.refl w β h, trivial⟩⟩
theorem holds_nil (w : World) (β : Nat → Loc) : Holds w β [] :=
  ⟨fun l => ⟨fun h => h.elim, trivial, fun i j v h => (by cases h), fun h => (by cases h)⟩, fun l m h => h.elim, fun l => trivial⟩
theorem Since.below {w w' : World} {β β' : Nat → Loc} {h h' : List Blk} (hn : ∀ l, (hget h l).own = false) (s : Since w β h w' β' h') : Below w.heap.size w w' :=
  ⟨s.os, s.tape, s.output, s.size, fun k hk => s.frame k hk fun l hl => by rw [hn l] at hl; cases hl⟩
theorem CV.law {f : FuncId} {args : List SV} (c : CV P f args [] fun v h => v = .f (.bool true) ∧ h = []) (w : World) :
    Calls P f (denL (fun _ => ⟨0, 0, 1⟩) args).toArray w fun e w' => e = .returned (.bool true) ∧ Below w.heap.size w w' :=
  Calls.mono (c.calls w _ (holds_nil w _)) fun e w' ⟨v, hh, β', he, ⟨hv, hq⟩, _, s, _⟩ => ⟨by rw [he, hv]; rfl, s.below fun l => rfl⟩
/-- A contract of the old kind, of a function that only adds to memory. -/
theorem CV.old {f : FuncId} {args : List SV} {h : List Blk} {v : SV} (hb : v.bd h.length) (he : ∀ (xs : Array Value) (w : World), (callFunc f xs).run P w = .ok (.enter f xs) w)
    (hc : ∀ w β, Holds w β h → Calls P f (denL β args).toArray w fun e w' => e = .returned (den β v) ∧ Ext w w') : CV P f args h fun u hh => u = v ∧ hh = h :=
  ⟨he, fun w β H => Calls.mono (hc w β H) fun e w' ⟨h1, h2⟩ => ⟨v, h, β, h1, ⟨rfl, rfl⟩, H.ext h2, (Since.refl w β h).ext h2, hb⟩⟩
theorem CV.old0 {f : FuncId} {args : List SV} {h : List Blk} {v : SV} (hb : v.bd h.length) (he : ∀ (xs : Array Value) (w : World), (callFunc f xs).run P w = .ok (.enter f xs) w)
    (hc : ∀ w β, Holds w β h → Calls P f (denL β args).toArray w fun e w' => e = .returned (den β v) ∧ w = w') : CV P f args h fun u hh => u = v ∧ hh = h :=
  CV.old hb he fun w β H => Calls.mono (hc w β H) fun e w' ⟨h1, h2⟩ => ⟨h1, h2 ▸ Ext.refl w⟩
end
theorem Br_tr (X Y : Prop) : Br true X Y = X := Br_true X Y
theorem Br_fa (X Y : Prop) : Br false X Y = Y := Br_false X Y
theorem widL {R : Run} {n md b : Nat} {d : Option Nat} {its : List Item} {e : Env} {h : List Blk} (hm : md ≠ 2) (hb : FWok b) (k : R its (put n d (.f (.flt .f64 (fwide b))) e) h) : WidN R n md b d its e h := .inl ⟨hm, hb, k⟩
theorem widN {R : Run} {n md b : Nat} {d : Option Nat} {its : List Item} {e : Env} {h : List Blk} (hm : md = 0 ∨ md = 3) (k : ∀ c, Wid b c → R its (put n d (.f (.flt .f64 c)) e) h) : WidN R n md b d its e h := .inr ⟨hm, k⟩
theorem wr_i8 (n : Int) (h1 : -128 ≤ n) (h2 : n ≤ 127) : IntKind.wrap .i8 n = n := by
  have h : IntKind.wrap .i8 n = if (true && decide (n % 256 ≥ 128)) = true then n % 256 - 256 else n % 256 := rfl
  rw [h, Bool.true_and]
  by_cases c : n % 256 ≥ 128
  · rw [if_pos (decide_eq_true c)]; omega
  · rw [if_neg (by simpa using c)]; omega
theorem wr_i16 (n : Int) (h1 : -32768 ≤ n) (h2 : n ≤ 32767) : IntKind.wrap .i16 n = n := by
  have h : IntKind.wrap .i16 n = if (true && decide (n % 65536 ≥ 32768)) = true then n % 65536 - 65536 else n % 65536 := rfl
  rw [h, Bool.true_and]
  by_cases c : n % 65536 ≥ 32768
  · rw [if_pos (decide_eq_true c)]; omega
  · rw [if_neg (by simpa using c)]; omega
theorem wr_i32 (n : Int) (h1 : -2147483648 ≤ n) (h2 : n ≤ 2147483647) : IntKind.wrap .i32 n = n := by
  have h : IntKind.wrap .i32 n = if (true && decide (n % 4294967296 ≥ 2147483648)) = true then n % 4294967296 - 4294967296 else n % 4294967296 := rfl
  rw [h, Bool.true_and]
  by_cases c : n % 4294967296 ≥ 2147483648
  · rw [if_pos (decide_eq_true c)]; omega
  · rw [if_neg (by simpa using c)]; omega
theorem wr_i64 (n : Int) (h1 : -9223372036854775808 ≤ n) (h2 : n ≤ 9223372036854775807) : IntKind.wrap .i64 n = n := by
  have h : IntKind.wrap .i64 n = if (true && decide (n % 18446744073709551616 ≥ 9223372036854775808)) = true then n % 18446744073709551616 - 18446744073709551616 else n % 18446744073709551616 := rfl
  rw [h, Bool.true_and]
  by_cases c : n % 18446744073709551616 ≥ 9223372036854775808
  · rw [if_pos (decide_eq_true c)]; omega
  · rw [if_neg (by simpa using c)]; omega
theorem wr_u8 (n : Int) (h1 : 0 ≤ n) (h2 : n ≤ 255) : IntKind.wrap .u8 n = n := by
  have h : IntKind.wrap .u8 n = n % 256 := rfl
  rw [h]; omega
theorem wr_u16 (n : Int) (h1 : 0 ≤ n) (h2 : n ≤ 65535) : IntKind.wrap .u16 n = n := by
  have h : IntKind.wrap .u16 n = n % 65536 := rfl
  rw [h]; omega
theorem wr_u32 (n : Int) (h1 : 0 ≤ n) (h2 : n ≤ 4294967295) : IntKind.wrap .u32 n = n := by
  have h : IntKind.wrap .u32 n = n % 4294967296 := rfl
  rw [h]; omega
theorem wr_u64 (n : Int) (h1 : 0 ≤ n) (h2 : n ≤ 18446744073709551615) : IntKind.wrap .u64 n = n := by
  have h : IntKind.wrap .u64 n = n % 18446744073709551616 := rfl
  rw [h]; omega
theorem Br_intro {c : Bool} {X Y : Prop} (h1 : c = true → X) (h2 : c = false → Y) : Br c X Y := ⟨h1, h2⟩
theorem bk_ro_lit (row : List SV) (o : Bool) : roB (.lit row o) = .lit row false := rfl
theorem bk_ro_rows (n cap c : Nat) (f : Nat → List FV) (o : Bool) : roB (.rows n cap c f o) = .rows n cap c f false := rfl
theorem bk_ro_cells (n : Nat) (g : Nat → FV) (o : Bool) : roB (.cells n g o) = .cells n g false := rfl
theorem bk_ro_dead : roB .dead = .dead := rfl
theorem cb_dead (b : Blk) : covB .dead b = True := rfl
theorem cb_lit (row row' : List SV) (o o' : Bool) : covB (.lit row o) (.lit row' o') = (o = o' ∧ covRow row row') := rfl
theorem cb_rows (n cap c n' cap' c' : Nat) (f f' : Nat → List FV) (o o' : Bool) : covB (.rows n cap c f o) (.rows n' cap' c' f' o') = ((o = o' ∧ c = c') ∧ ((n ≤ n' ∧ n ≤ cap) ∧ cap ≤ cap') ∧ ∀ i, i < n → f' i = f i) := rfl
theorem cb_cells (n n' : Nat) (g g' : Nat → FV) (o o' : Bool) : covB (.cells n g o) (.cells n' g' o') = ((o = o' ∧ n = n') ∧ ∀ j, j < n → g' j = g j) := rfl
theorem cd_lit (n : Nat) (row : List SV) (o : Bool) : Blk.bd n (.lit row o) = bdL n row := rfl
theorem cd_rows (m n cap c : Nat) (f : Nat → List FV) (o : Bool) : Blk.bd m (.rows n cap c f o) = True := rfl
theorem cd_cells (m n : Nat) (g : Nat → FV) (o : Bool) : Blk.bd m (.cells n g o) = True := rfl
theorem cd_dead (m : Nat) : Blk.bd m .dead = True := rfl
theorem bk_dead_lit (row : List SV) (o : Bool) : isDead (.lit row o) = false := rfl
theorem bk_dead_rows (n cap c : Nat) (f : Nat → List FV) (o : Bool) : isDead (.rows n cap c f o) = false := rfl
theorem bk_dead_cells (n : Nat) (g : Nat → FV) (o : Bool) : isDead (.cells n g o) = false := rfl
theorem bk_dead_dead : isDead .dead = true := rfl
theorem bk_labs_lit (row : List SV) (o : Bool) : labsB (.lit row o) = labsL row := rfl
theorem bk_labs_rows (n cap c : Nat) (f : Nat → List FV) (o : Bool) : labsB (.rows n cap c f o) = [] := rfl
theorem bk_labs_cells (n : Nat) (g : Nat → FV) (o : Bool) : labsB (.cells n g o) = [] := rfl
theorem bk_labs_dead : labsB .dead = [] := rfl
theorem bk_lin_lit (r : List Nat) (row : List SV) (o : Bool) : Blk.lin r (.lit row o) = linL r row := rfl
theorem bk_lin_rows (r : List Nat) (n cap c : Nat) (f : Nat → List FV) (o : Bool) : Blk.lin r (.rows n cap c f o) = true := rfl
theorem bk_lin_cells (r : List Nat) (n : Nat) (g : Nat → FV) (o : Bool) : Blk.lin r (.cells n g o) = true := rfl
theorem bk_lin_dead (r : List Nat) : Blk.lin r .dead = true := rfl
theorem bk_ren_lit (r : Nat → Nat) (row : List SV) (o : Bool) : Blk.ren r (.lit row o) = .lit (renL r row) o := rfl
theorem bk_ren_rows (r : Nat → Nat) (n cap c : Nat) (f : Nat → List FV) (o : Bool) : Blk.ren r (.rows n cap c f o) = .rows n cap c f o := rfl
theorem bk_ren_cells (r : Nat → Nat) (n : Nat) (g : Nat → FV) (o : Bool) : Blk.ren r (.cells n g o) = .cells n g o := rfl
theorem bk_ren_dead (r : Nat → Nat) : Blk.ren r .dead = .dead := rfl
theorem ldo_lit (row : List SV) (own : Bool) (j : Nat) : ldOne (.lit row own) 0 j = (match rget row j with
      | some v => (match v.one with | true => .val True v | false => .bad)
      | none => .bad) := rfl
theorem ldo_rows (n cap c : Nat) (f : Nat → List FV) (own : Bool) (i j : Nat) : ldOne (.rows n cap c f own) i j = (match rget (f i) j with
    | some v => .val (i < n) (.f v)
    | none => .bad) := rfl
theorem ldo_cells (n : Nat) (g : Nat → FV) (own : Bool) (j : Nat) : ldOne (.cells n g own) 0 j = .val (j < n) (.f (g j)) := rfl
theorem lda_lit (row : List SV) (own : Bool) (j s : Nat) : ldAgg (.lit row own) 0 j s = if j + s ≤ row.length then (match allKnown (sub row j s) with | true => .val True (.agg (sub row j s)) | false => .bad) else .bad := rfl
theorem lda_rows (n cap c : Nat) (f : Nat → List FV) (own : Bool) (i j s : Nat) : ldAgg (.rows n cap c f own) i j s = if j + s ≤ c then .val (i < n) (.agg (mapF (sub (f i) j s))) else .bad := rfl
theorem lda_cells (n : Nat) (g : Nat → FV) (own : Bool) (j s : Nat) : ldAgg (.cells n g own) 0 j s = .val (j + s ≤ n) (.arr s (shf g j)) := rfl

/-! ### The steps of a run, one law for each form: what does not come to such a form stays as it is -/
section
variable {P : Program} {X : RX} {R : Run} {md : Nat} {o : Oper} {r : List Item} {e : Env} {h : List Blk}
theorem run_nil (k : Nat) : run P X (k + 1) [] e h = X.F e h := rfl
theorem run_it (k : Nat) (it : Item) : run P X (k + 1) (it :: r) e h = stItem P X (run P X k) it r e h := rfl
theorem it_code (c : Code) : stItem P X R (.code c) r e h = stCode P X R c r e h := rfl
theorem it_ops0 (all : List Oper) : stItem P X R (.ops all []) r e h = R r e h := rfl
theorem it_ops (all rest : List Oper) : stItem P X R (.ops all (o :: rest)) r e h = R (.g 0 all o :: .ops all rest :: r) e h := rfl
theorem it_drw0 (all : List Oper) (tail : List Nat) (ls : Array Bool) : stItem P X R (.drw all [] tail ls) r e h = R (.ops all (pickL all tail) :: r) e h := rfl
def stDr (R : Run) (md : Nat) (all : List Oper) (o : Option Oper) (its : List Item) (e : Env) (h : List Blk) : Prop :=
  match o with
  | some o => R (.g md all o :: its) e h
  | none => False
theorem it_drw (all : List Oper) (s : SI) (si : List SI) (tail : List Nat) (ls : Array Bool) : stItem P X R (.drw all (s :: si) tail ls) r e h = stDr R s.md all (rget all s.i) (.drw all si tail (ls.setIfInBounds s.i true) :: r) e h := by
  simp only [stItem, stDrw, stDr]; cases rget all s.i <;> rfl
theorem stDr_some (all : List Oper) (its : List Item) : stDr R md all (some o) its e h = R (.g md all o :: its) e h := rfl
def stGv (R : Run) (md s : Nat) (want : Bool) (v : SV) (o : Oper) (r : List Item) (e : Env) (h : List Blk) : Prop :=
  match v with
  | .f (.bool t) => stGd R md s want t o r e h
  | .tup l => (match l with
    | [] => R (.skp o.dst :: r) e h
    | _ :: _ => False)
  | _ => False
def stGg (R : Run) (md : Nat) (all : List Oper) (o : Oper) (gw : Option (Nat × Bool)) (r : List Item) (e : Env) (h : List Blk) : Prop :=
  match gw with
  | none => R (.op md o :: r) e h
  | some gw => (match dstOf all gw.1 with
    | some s => stGv R md s gw.2 (look e s) o r e h
    | none => False)
theorem it_g (all : List Oper) : stItem P X R (.g md all o) r e h = stGg R md all o o.guard r e h := by
  show stG R md all o r e h = _
  unfold stG stGg stGv
  cases o.guard with
  | none => rfl
  | some gw => rfl
theorem stGg_none (all : List Oper) : stGg R md all o none r e h = R (.op md o :: r) e h := rfl
def stGs (R : Run) (md : Nat) (want : Bool) (s : Option Nat) (o : Oper) (r : List Item) (e : Env) (h : List Blk) : Prop :=
  match s with
  | some s => stGv R md s want (look e s) o r e h
  | none => False
theorem stGg_some (all : List Oper) (gw : Nat × Bool) : stGg R md all o (some gw) r e h = stGs R md gw.2 (dstOf all gw.1) o r e h := rfl
theorem stGs_some (want : Bool) (s : Nat) : stGs R md want (some s) o r e h = stGv R md s want (look e s) o r e h := rfl
theorem stGv_t (s : Nat) (t : Bool) : stGv R md s true (.f (.bool t)) o r e h = Br t (R (.op md o :: r) ((s, .f (.bool true)) :: e) h) (R (.skp o.dst :: r) ((s, .f (.bool false)) :: e) h) := rfl
theorem stGv_f (s : Nat) (t : Bool) : stGv R md s false (.f (.bool t)) o r e h = Br t (R (.skp o.dst :: r) ((s, .f (.bool true)) :: e) h) (R (.op md o :: r) ((s, .f (.bool false)) :: e) h) := rfl
theorem stGv_no (s : Nat) (want : Bool) : stGv R md s want (.tup []) o r e h = R (.skp o.dst :: r) e h := rfl
theorem it_skp (d : Option Nat) : stItem P X R (.skp d) r e h = R r (put X.n d (.tup []) e) h := rfl
theorem it_op : stItem P X R (.op md o) r e h = (md ≤ 3 ∧ stOp P X R md o (opR X.tab e h o.op) r e h) := rfl
theorem it_blk (id : Nat) : stItem P X R (.blk id) r e h = R r e h := rfl
theorem it_inv (J : Env → List Blk → Prop) : stItem P X R (.inv J) r e h = J e h := rfl
theorem co_skip : stCode P X R .skip r e h = R r e h := rfl
theorem co_seq (a b : Code) : stCode P X R (.seq a b) r e h = R (.code a :: .code b :: r) e h := rfl
def stCnd (R : Run) (v : SV) (a b : Code) (r : List Item) (e : Env) (h : List Blk) : Prop :=
  match v with
  | .f (.bool t) => Br t (R (.code a :: r) e h) (R (.code b :: r) e h)
  | _ => False
theorem co_cond (c : Operand) (a b : Code) : stCode P X R (.cond c a b) r e h = stCnd R (ev e c) a b r e h := rfl
theorem stCnd_b (t : Bool) (a b : Code) : stCnd R (.f (.bool t)) a b r e h = Br t (R (.code a :: r) e h) (R (.code b :: r) e h) := rfl
theorem co_block (id : Nat) (c : Code) : stCode P X R (.block id c) r e h = R (.code c :: .blk id :: r) e h := rfl
def stEx (R : Run) (b : Bool) (it : List Item) (e : Env) (h : List Blk) : Prop :=
  match b with
  | true => R it e h
  | false => False
theorem co_exit (id : Nat) : stCode P X R (.exit id) r e h = stEx R (hasBlk id r) (dropTo id r) e h := rfl
theorem stEx_t (it : List Item) : stEx R true it e h = R it e h := rfl
theorem co_ret : stCode P X R .ret r e h = X.F e h := rfl
theorem co_loop (c : Code) : stCode P X R (.loop c) r e h = LoopN R X.n0 c r e h := rfl
theorem co_reg0 (id : Nat) (ops : Array Oper) : stCode P X R (.region id ops false) r e h = R (.ops ops.toList ops.toList :: r) e h := rfl
def stRg (P : Program) (X : RX) (R : Run) (id : Nat) (ops : Array Oper) (q : Option (List Nat × Bool × SB)) (r : List Item) (e : Env) (h : List Blk) : Prop :=
  match q with
  | none => SOk ops (X.sc id).1 (X.sc id).2 ∧ R (.drw ops.toList (X.sc id).1 (X.sc id).2 (Array.replicate ops.size false) :: r) e h
  | some p => SBOk ops p.2.2 ∧ stRB P X R ops.toList (slotsL e p.1) p.2.1 p.2.2 r e h
theorem co_reg1 (id : Nat) (ops : Array Oper) : stCode P X R (.region id ops true) r e h = stRg P X R id ops (X.sb id) r e h := by simp only [stCode, stRg]; cases X.sb id <;> rfl
theorem co_rg0 (id : Nat) (ops : Array Oper) : stRg P X R id ops none r e h = (SOk ops (X.sc id).1 (X.sc id).2 ∧ R (.drw ops.toList (X.sc id).1 (X.sc id).2 (Array.replicate ops.size false) :: r) e h) := rfl
theorem co_rg1 (id : Nat) (ops : Array Oper) (p : List Nat × Bool × SB) : stRg P X R id ops (some p) r e h = (SBOk ops p.2.2 ∧ stRB P X R ops.toList (slotsL e p.1) p.2.1 p.2.2 r e h) := rfl
theorem co_rb0 (all : List Oper) (B : List Nat) (s : SB) : stRB P X R all B false s r e h = rB P X (R r) all h B s e h := rfl
theorem co_rb1 (all : List Oper) (B : List Nat) (s : SB) : stRB P X R all B true s r e h = JoinN P X R all B s r e h := rfl
theorem op_or (q : OR) : stOp P X R md o (.or q) r e h = stOr P X R md o q r e h := rfl
theorem op_app (t : Nat) (x y : SV) : stOp P X R md o (.app t x y) r e h = (md = 0 ∧ stAp X R o (appR X.tab h t x y) x r e h) := rfl
theorem op_wid (b : Nat) : stOp P X R md o (.wid b) r e h = WidN R X.n md b o.dst r e h := rfl
theorem or_val (p : Prop) (v : SV) : stOr P X R md o (.val p v) r e h = (md ≠ 2 ∧ p ∧ R r (put X.n o.dst v e) h) := rfl
theorem or_pick (c : Bool) (a b : SV) : stOr P X R md o (.pick c a b) r e h = (md ≠ 2 ∧ Br c (R r (put X.n o.dst a e) h) (R r (put X.n o.dst b e) h)) := rfl
theorem or_new (p : Prop) (b : Blk) (mk : Nat → SV) : stOr P X R md o (.new p b mk) r e h = ((md = 0 ∨ md = 3) ∧ p ∧ R r (put X.n o.dst (mk h.length) e) (h ++ [b])) := rfl
theorem or_upd (p : Prop) (l : Nat) (b : Blk) : stOr P X R md o (.upd p l b) r e h = (md = 0 ∧ p ∧ R r (put X.n o.dst (.tup []) e) (hset h l b)) := rfl
theorem or_call0 (f : FuncId) (args : List SV) : stOr P X R 0 o (.call f args) r e h = CallN P R X.n f args o.dst r e h (reach h (ins [] (labsL args))) := rfl
theorem or_call3 (f : FuncId) (args : List SV) : stOr P X R 3 o (.call f args) r e h = CallM P R X.n f args o.dst r e h (reach h (ins [] (labsL args))) := rfl
theorem or_call2 (f : FuncId) (args : List SV) : stOr P X R 2 o (.call f args) r e h = CallE P R X.n f args o.dst r e h := rfl
theorem ap_slc (p : Prop) (a : AppIn) (x : SV) : stAp X R o (.slc p a) x r e h = (p ∧ AppN R X.n a o.dst r e h x) := rfl
theorem ap_nil (p : Prop) (c m : Nat) (g : Nat → List FV) (x : SV) : stAp X R o (.nil p c m g) x r e h = (p ∧ AppZ R X.n c m g o.dst r e h) := rfl
theorem fin_some (tab : Nat → Option TI) (rs : List ResultVar) (n0 : Nat) (Q : SV → List Blk → Prop) : finR tab rs n0 Q e h = (match resL tab e h rs with
  | some pl => pl.1 ∧ (knownL pl.2 = true ∧ RetG Q n0 (resV pl.2) h (reach h (ins (upto n0) (resV pl.2).labs)))
  | none => False) := rfl
section
variable {K : Env → List Blk → Prop} {all : List Oper} {hS : List Blk} {B : List Nat}
theorem co_bnil : rB P X K all hS B .nil e h = K e h := rfl
def bQr (K : Env → List Blk → Prop) (n : Nat) (d : Option Nat) (q : OR2) (e : Env) (h : List Blk) : Prop := stQ (fun e => K e h) n d q e
def bG (md : Nat) (P : Program) (X : RX) (K : Env → List Blk → Prop) (hS : List Blk) (B : List Nat) (o : Oper) (e : Env) (h : List Blk) : Prop :=
  match md with
  | 0 => bQr K X.n o.dst (opR X.tab e (keepB hS.length B 0 h) o.op) e h
  | 1 => stE P K X.n o.dst (opR X.tab e h o.op) e h
  | _ => stN P X K hS B o.dst (opR X.tab e h o.op) e h
theorem co_bg0 (o : Oper) : bG 0 P X K hS B o e h = bQr K X.n o.dst (opR X.tab e (keepB hS.length B 0 h) o.op) e h := rfl
theorem co_bg1 (o : Oper) : bG 1 P X K hS B o e h = stE P K X.n o.dst (opR X.tab e h o.op) e h := rfl
theorem co_bg2 (o : Oper) : bG 2 P X K hS B o e h = stN P X K hS B o.dst (opR X.tab e h o.op) e h := rfl
def gMv (md : Nat) (P : Program) (X : RX) (K : Env → List Blk → Prop) (hS : List Blk) (B : List Nat) (o : Oper) (want : Bool) (s : Nat) (v : SV) (e : Env) (h : List Blk) : Prop :=
  gV want v s e (fun e => bG md P X K hS B o e h) (fun e => K (put X.n o.dst (.tup []) e) h)
theorem co_gvt (md : Nat) (o : Oper) (s : Nat) (t : Bool) : gMv md P X K hS B o true s (.f (.bool t)) e h = Br t (bG md P X K hS B o ((s, .f (.bool true)) :: e) h) (K (put X.n o.dst (.tup []) ((s, .f (.bool false)) :: e)) h) := rfl
theorem co_gvf (md : Nat) (o : Oper) (s : Nat) (t : Bool) : gMv md P X K hS B o false s (.f (.bool t)) e h = Br t (K (put X.n o.dst (.tup []) ((s, .f (.bool true)) :: e)) h) (bG md P X K hS B o ((s, .f (.bool false)) :: e) h) := rfl
theorem co_gvs (md : Nat) (o : Oper) (s : Nat) (want : Bool) : gMv md P X K hS B o want s (.tup []) e h = K (put X.n o.dst (.tup []) e) h := rfl
def gMs (md : Nat) (P : Program) (X : RX) (K : Env → List Blk → Prop) (hS : List Blk) (B : List Nat) (o : Oper) (want : Bool) (q : Option Nat) (e : Env) (h : List Blk) : Prop :=
  match q with
  | some s => gMv md P X K hS B o want s (look e s) e h
  | none => False
theorem co_gms (md : Nat) (o : Oper) (want : Bool) (s : Nat) : gMs md P X K hS B o want (some s) e h = gMv md P X K hS B o want s (look e s) e h := rfl
def gMo (md : Nat) (P : Program) (X : RX) (K : Env → List Blk → Prop) (all : List Oper) (hS : List Blk) (B : List Nat) (o : Oper) (q : Option (Nat × Bool)) (e : Env) (h : List Blk) : Prop :=
  match q with
  | none => bG md P X K hS B o e h
  | some gw => gMs md P X K hS B o gw.2 (dstOf all gw.1) e h
theorem co_gm0 (md : Nat) (o : Oper) : gMo md P X K all hS B o none e h = bG md P X K hS B o e h := rfl
theorem co_gm1 (md : Nat) (o : Oper) (gw : Nat × Bool) : gMo md P X K all hS B o (some gw) e h = gMs md P X K hS B o gw.2 (dstOf all gw.1) e h := rfl
def oM (md : Nat) (P : Program) (X : RX) (K : Env → List Blk → Prop) (all : List Oper) (hS : List Blk) (B : List Nat) (oo : Option Oper) (e : Env) (h : List Blk) : Prop :=
  match oo with
  | some o => gMo md P X K all hS B o o.guard e h
  | none => False
theorem co_om (md : Nat) (o : Oper) : oM md P X K all hS B (some o) e h = gMo md P X K all hS B o o.guard e h := rfl
theorem gm_eq (md : Nat) (o : Oper) : gB all o e (fun e => bG md P X K hS B o e h) (fun e => K (put X.n o.dst (.tup []) e) h) = gMo md P X K all hS B o o.guard e h := by
  unfold gB gMo gMs gMv
  cases o.guard with
  | none => rfl
  | some gw => simp only; cases dstOf all gw.1 <;> rfl
theorem co_bq (i : Nat) (s : SB) : rB P X K all hS B (.q i s) e h = oM 0 P X (rB P X K all hS B s) all hS B (rget all i) e h := by
  simp only [rB, oB, oM]
  cases rget all i with
  | none => rfl
  | some o => exact gm_eq (K := rB P X K all hS B s) 0 o
theorem co_be (i : Nat) (s : SB) : rB P X K all hS B (.e i s) e h = oM 1 P X (rB P X K all hS B s) all hS B (rget all i) e h := by
  simp only [rB, oB, oM]
  cases rget all i with
  | none => rfl
  | some o => exact gm_eq (K := rB P X K all hS B s) 1 o
theorem co_bn (i : Nat) (s : SB) : rB P X K all hS B (.n i s) e h = oM 2 P X (rB P X K all hS B s) all hS B (rget all i) e h := by
  simp only [rB, oB, oM]
  cases rget all i with
  | none => rfl
  | some o => exact gm_eq (K := rB P X K all hS B s) 2 o
theorem co_bf (i : Nat) (s : SB) (j : Nat) (t : SB) : rB P X K all hS B (.f i s j t) e h = (rB P X K all hS B (.n i s) e h ∧ rB P X K all hS B (.n j t) e h) := rfl
variable {n : Nat} {d : Option Nat}
theorem co_qv (p : Prop) (v : SV) : bQr K n d (.or (.val p v)) e h = (p ∧ K (put n d v e) h) := rfl
theorem co_qp (c : Bool) (a b : SV) : bQr K n d (.or (.pick c a b)) e h = Br c (K (put n d a e) h) (K (put n d b e) h) := rfl
theorem co_qw (b : Nat) : bQr K n d (.wid b) e h = (FWok b ∧ K (put n d (.f (.flt .f64 (fwide b))) e) h) := rfl
theorem co_ec (f : FuncId) (args : List SV) : stE P K n d (.or (.call f args)) e h = CallE P (kR K) n f args d [] e h := rfl
theorem co_kr (its : List Item) : kR K its e h = K e h := rfl
theorem co_nv (p : Prop) (v : SV) : stN P X K hS B d (.or (.val p v)) e h = (p ∧ K (put X.n d v e) h) := rfl
theorem co_np (c : Bool) (a b : SV) : stN P X K hS B d (.or (.pick c a b)) e h = Br c (K (put X.n d a e) h) (K (put X.n d b e) h) := rfl
theorem co_nn (p : Prop) (b : Blk) (mk : Nat → SV) : stN P X K hS B d (.or (.new p b mk)) e h = (p ∧ K (put X.n d (mk h.length) e) (h ++ [b])) := rfl
theorem co_nu (p : Prop) (l : Nat) (b : Blk) : stN P X K hS B d (.or (.upd p l b)) e h = ((ofB hS.length B l && kpB B 0 hS h) = true ∧ p ∧ K (put X.n d (.tup []) e) (hset h l b)) := rfl
theorem co_nc (f : FuncId) (args : List SV) : stN P X K hS B d (.or (.call f args)) e h = CallM P (kR K) X.n f args d [] e h (reach h (ins [] (labsL args))) := rfl
theorem co_na (t : Nat) (x y : SV) : stN P X K hS B d (.app t x y) e h = (AppB K X.n d (appR X.tab h t x y) x e h ∨ AppI K X.n hS B d (appR X.tab h t x y) e h) := rfl
theorem co_nw (b : Nat) : stN P X K hS B d (.wid b) e h = WidN (kR K) X.n 3 b d [] e h := rfl
theorem co_as (p : Prop) (a : AppIn) (x : SV) : AppB K n d (.slc p a) x e h = (p ∧ ((a.cap < a.len + a.m ∧ ∀ cap', a.len + a.m ≤ cap' → K (put n d (.slc h.length 0 (a.len + a.m) cap') e) (h ++ [.rows (a.len + a.m) cap' a.c (catR a.f a.len a.g) true])) ∨ ((a.m = 0 ∧ a.len = 0) ∧ K (put n d x e) h))) := rfl
theorem co_is (p : Prop) (a : AppIn) : AppI K n hS B d (.slc p a) e h = (p ∧ (((a.own = true ∧ a.cap ≤ a.cb) ∧ (ofB hS.length B a.l && kpB B 0 hS h) = true) ∧ ∀ cap', a.len + a.m ≤ cap' → K (put n d (.slc h.length 0 (a.len + a.m) cap') e) (hset h a.l .dead ++ [.rows (a.len + a.m) cap' a.c (catR a.f a.len a.g) true]))) := rfl
theorem co_in (p : Prop) (c m : Nat) (g : Nat → List FV) : AppI K n hS B d (.nil p c m g) e h = False := rfl
theorem co_an (p : Prop) (c m : Nat) (g : Nat → List FV) (x : SV) : AppB K n d (.nil p c m g) x e h = (p ∧ ∀ cap', m ≤ cap' → K (put n d (.slc h.length 0 m cap') e) (h ++ [.rows m cap' c g true])) := rfl
end
end
end Go.Proofs.Ytdncopphjamilaa.Vx
