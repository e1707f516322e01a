/- The base of the walks: small laws on worlds. -/
import Derived.Test.YtjhddlkfkicpaaaGreatDoorRows
import Derived.Test.YtjhddlkfkicpaaaGreatDoorFl
import Derived.WalkSpells
import Derived.Outline
import Derived.ProofKit
import Derived.OpenShut
import Derived.ChangeOld
import Derived.Below
import Derived.Lib.Hide
import Derived.Orders
import Derived.Deep.MidRow
namespace Go.Proofs.YtjhddlkfkicpaaaGreatDoor
open Go.RowKit

theorem bcell {W w1 : World} (hb : Below W.heap.size W w1) : (∀ b o, b < W.heap.size → w1.cell? ⟨b, o, none⟩ = W.cell? ⟨b, o, none⟩) ∧ (∀ b o, b < W.heap.size → w1.frozen? ⟨b, o, none⟩ = W.frozen? ⟨b, o, none⟩) ∧ W.heap.size ≤ w1.heap.size :=
  ⟨fun b o h => hb.cell (p := ⟨b, o, none⟩) h, fun b o h => hb.frozen (p := ⟨b, o, none⟩) h, hb.size⟩

end Go.Proofs.YtjhddlkfkicpaaaGreatDoor

namespace Go.Proofs.YtjhddlkfkicpaaaGreatDoor
open Go Go.RowKit

def Ext (w w' : World) : Prop := Below w.heap.size w w'
theorem Ext.refl (w : World) : Ext w w := Below.refl _ _
theorem Ext.trans {a b c : World} (h : Ext a b) (k : Ext b c) : Ext a c := Below.trans h (Below.mono k h.size)

section
variable {P : Program} {ops : Array Oper} {Q : Exit → Act → World → Prop} {md : Region.Mode}

/-- In state 'a', in every world that w has grown to, the operation leaves 'v' in its temporary, and only adds to memory. -/
def GivesE (P : Program) (ops : Array Oper) (o : Oper) (v : Value) (a : Act) (w : World) : Prop :=
  (Region.wanted o (yielded ops a.tmps) = true ∧ ∀ w', Ext w w' →
    (∃ w'', (execOp a.eval o).run P w' = .ok (.value v) w'' ∧ Ext w' w'') ∨
    (∃ f args w1, (execOp a.eval o).run P w' = .ok (.enter f args) w1 ∧ Calls P f args w1 (fun e w'' => e = .returned v ∧ Ext w' w''))) ∨
  (Region.wanted o (yielded ops a.tmps) = false ∧ v = undef)

theorem GivesE.ext {o : Oper} {v : Value} {a : Act} {w w' : World} (h : GivesE P ops o v a w) (x : Ext w w') : GivesE P ops o v a w' :=
  h.imp (fun ⟨hw, hv⟩ => ⟨hw, fun w2 h2 => hv w2 (x.trans h2)⟩) id

theorem GivesE.of_same {o : Oper} {v : Value} {a a' : Act} {w : World} (hy : GivesE P ops o v a w) (he : execOp a'.eval o = execOp a.eval o)
    (hw : Region.wanted o (yielded ops a'.tmps) = Region.wanted o (yielded ops a.tmps)) : GivesE P ops o v a' w := by
  unfold GivesE at *; rw [he, hw]; exact hy

theorem GivesE.wpOp {i : Nat} {o : Oper} {v : Value} {a : Act} {w : World} (hi : ops[i]? = some o) (hy : GivesE P ops o v a w)
    {K : Act → World → Prop} {w' : World} (hx : Ext w w') (h : ∀ w'', Ext w' w'' → K (a.put o.dst v) w'') : wpOp P ops Q i K a w' := by
  unfold Go.wpOp
  simp only [hi]
  rcases hy with ⟨hw, hv⟩ | ⟨hw, rfl⟩
  · simp only [hw, if_true, Oper.wp]
    refine .inl ?_
    rcases hv w' hx with ⟨w'', hr, hx'⟩ | ⟨f, args, w1, hr, hc⟩
    · rw [hr]; simp only [Oper.upon]; exact h _ hx'
    · rw [hr]; simp only [Oper.upon]
      exact Calls.mono hc fun e w'' ⟨he, hx'⟩ => by subst he; exact h _ hx'
  · simp only [hw, Bool.false_eq_true, if_false]; exact h _ (Ext.refl _)

theorem wpOp_putE {j : Nat} {oi oj : Oper} {v : Value} (hj : ops[j]? = some oj) (hap : oi.apart ops oj = true)
    (hsi : ∀ cs b, oi.op ≠ .select cs b) (hsj : ∀ cs b, oj.op ≠ .select cs b)
    (hQ : ∀ c a w, Q (.panic c) (a.put oi.dst v) w → Q (.panic c) a w) {K : Act → World → Prop} {a : Act} {w0 w : World}
    (hy : GivesE P ops oi v a w0) (h : wpOp P ops Q j K (a.put oi.dst v) w) :
    wpOp P ops Q j (fun a' w' => GivesE P ops oi v a' w0 ∧ K (a'.put oi.dst v) w') a w := by
  obtain ⟨h1, h2, h3⟩ := Oper.apart_spec hap
  have keep : ∀ (a : Act), GivesE P ops oi v a w0 → ∀ u, GivesE P ops oi v (a.put oj.dst u) w0 := fun a hy u =>
    hy.of_same (execOp_put oi hsi a oj.dst u h3) (wanted_put oi a oj.dst u h3)
  have keepD : ∀ d, GivesE P ops oi v { a with defers := d :: a.defers } w0 := fun d => hy.of_same rfl rfl
  unfold Go.wpOp at *
  simp only [hj] at *
  rw [wanted_put oj a oi.dst v h1] at h
  split
  · rename_i hw
    simp only [hw, if_true] at h
    rcases h with h | ⟨hasks, hlets⟩
    case inr => exact .inr ⟨by unfold Oper.asks at *; rw [execOp_put oj hsj a oi.dst v h1] at hasks; exact hasks, hlets⟩
    refine .inl ?_
    unfold Oper.wp at *
    rw [execOp_put oj hsj a oi.dst v h1] at h
    generalize (execOp a.eval oj).run P w = r at *
    cases r with
    | ok n w' =>
      cases n <;> simp only [Oper.upon] at h ⊢
      case value u => exact ⟨keep a hy u, by rw [← Act.put_comm a v u h2]; exact h⟩
      case skip => exact ⟨keep a hy _, by rw [← Act.put_comm a v undef h2]; exact h⟩
      case defer d =>
        refine ⟨keep _ (keepD d) _, ?_⟩
        rw [← Act.put_comm _ v undef h2, ← Act.put_defers]
        exact h
      case enter f args =>
        refine Calls.mono h fun e w'' he => ?_
        cases e with
        | returned u => exact ⟨keep a hy u, by rw [← Act.put_comm a v u h2]; exact he⟩
        | panicked c => exact hQ _ _ _ he
        | outgrown => exact he
      case row row args => exact Rows.mono h fun u w'' he => ⟨keep a hy u, by rw [← Act.put_comm a v u h2]; exact he⟩
    | halt x w' =>
      cases x <;> simp only [Oper.upon] at h ⊢
      case panic u => exact hQ _ _ _ h
  · rename_i hw
    simp only [hw] at h
    exact ⟨keep a hy _, by rw [← Act.put_comm a v undef h2]; exact h⟩

/-- Whatever order is picked from here on, in every world that w has grown to; each operation only adds to memory. -/
def wpE (P : Program) (md : Region.Mode) (ops : Array Oper) (Q : Exit → Act → World → Prop) : Nat → Array Bool → Act → World → Prop
  | 0, listed, a, w => Region.ready md ops listed = [] ∧ ∀ w', Ext w w' → Q .normal a w'
  | fuel + 1, listed, a, w => ∀ w', Ext w w' → (Region.ready md ops listed = [] → Q .normal a w') ∧
    ∀ i ∈ Region.ready md ops listed, wpOp P ops Q i (fun a' w'' => Ext w' w'' ∧ wpE P md ops Q fuel (listed.setIfInBounds i true) a' w'') a w'

theorem wpE.ext : ∀ {fuel : Nat} {listed : Array Bool} {a : Act} {w w' : World}, wpE P md ops Q fuel listed a w → Ext w w' → wpE P md ops Q fuel listed a w'
  | 0, _, _, _, _, h, x => ⟨h.1, fun w2 h2 => h.2 w2 (x.trans h2)⟩
  | _ + 1, _, _, _, _, h, x => fun w2 h2 => h w2 (x.trans h2)

theorem wpAny_of_wpE : ∀ (fuel : Nat) (listed : Array Bool) (a : Act) (w : World), wpE P md ops Q fuel listed a w → wpAny P md ops Q fuel listed a w
  | 0, _, _, w, h => ⟨h.1, h.2 w (Ext.refl _)⟩
  | fuel + 1, _, _, w, h => ⟨(h w (Ext.refl _)).1, fun i hi => wpOp_mono (fun a' w' h' => wpAny_of_wpE fuel _ a' w' h'.2) ((h w (Ext.refl _)).2 i hi)⟩

theorem pureExt {f : FuncId} {args : Array Value} {w : World} {v : Value} (h : Calls P f args w fun e w' => e = .returned v ∧ w = w') : Calls P f args w fun e w' => e = .returned v ∧ Ext w w' :=
  Calls.mono h fun _ _ h => ⟨h.1, h.2 ▸ Ext.refl _⟩

theorem wpE_first {i : Nat} {oi : Oper} {v : Value} (hi : ops[i]? = some oi) (hsel : ∀ (j : Nat) (o : Oper) cs b, ops[j]? = some o → o.op ≠ .select cs b)
    (hQ : ∀ c a w, Q (.panic c) (a.put oi.dst v) w → Q (.panic c) a w) :
    ∀ (fuel : Nat) (listed : Array Bool) (a : Act) (w : World),
      (∀ j oj, ops[j]? = some oj → j ≠ i → listed.getD j true = false → (∀ e ∈ oj.after, Region.binds md e = true → e.on ≠ i) → oi.apart ops oj = true) →
      i ∈ Region.ready md ops listed → GivesE P ops oi v a w →
      wpE P md ops Q fuel (listed.setIfInBounds i true) (a.put oi.dst v) w → wpE P md ops Q (fuel + 1) listed a w := by
  intro fuel
  induction fuel with
  | zero =>
    intro listed a w _ hr hy H w' hx
    refine ⟨fun h => (by rw [h] at hr; cases hr), fun j hj => ?_⟩
    by_cases hji : j = i
    · subst hji; exact hy.wpOp hi hx fun w'' hx' => ⟨hx', H.ext (hx.trans hx')⟩
    · have := ready_mono hj hji
      rw [H.1] at this
      cases this
  | succ fuel ih =>
    intro listed a w hfree hr hy H w' hx
    refine ⟨fun h => (by rw [h] at hr; cases hr), fun j hj => ?_⟩
    by_cases hji : j = i
    · subst hji; exact hy.wpOp hi hx fun w'' hx' => ⟨hx', H.ext (hx.trans hx')⟩
    · have h1 := (H w' hx).2 j (ready_mono hj hji)
      obtain ⟨hjun, oj, hoj, hall⟩ := mem_ready.1 hj
      have hnot : ∀ e ∈ oj.after, Region.binds md e = true → e.on ≠ i := fun e he hb heq => by
        have h1 := hall e he hb
        have h0 := (mem_ready.1 hr).1
        rw [heq] at h1
        rcases Nat.lt_or_ge i listed.size with h' | h'
        · simp [h'] at h0 h1; rw [h0] at h1; cases h1
        · simp [Array.getElem?_eq_none h'] at h1
      have h2 := wpOp_putE hoj (hfree j oj hoj hji hjun hnot) (fun cs b => hsel i oi cs b hi) (fun cs b => hsel j oj cs b hoj) hQ hy h1
      have hfree' : ∀ k ok, ops[k]? = some ok → k ≠ i → (listed.setIfInBounds j true).getD k true = false →
          (∀ e ∈ ok.after, Region.binds md e = true → e.on ≠ i) → oi.apart ops ok = true := fun k ok hk hki hun hno => by
        refine hfree k ok hk hki ?_ hno
        by_cases hjk : j = k
        · subst hjk; exact hjun
        · rw [getD_set_ne true hjk] at hun; exact hun
      refine wpOp_mono (fun a' w2 h3 => ⟨h3.2.1, ih (listed.setIfInBounds j true) a' w2 hfree' (ready_mono hr (Ne.symm hji)) (h3.1.ext (hx.trans h3.2.1)) ?_⟩) h2
      rw [Array.setIfInBounds_comm _ _ hji]
      exact h3.2.2

/-- Take number 'i' first: a value in every grown world. -/
theorem wpE_val {i : Nat} {oi : Oper} {v : Value} {fuel : Nat} {listed : Array Bool} {a : Act} {w : World} (hi : ops.toList[i]? = some oi)
    (hs : Region.noSelect ops = true) (hf : Region.free md ops listed i = true) (hr : (Region.ready md ops listed).contains i = true)
    (hQ : ∀ c a w, Q (.panic c) (a.put oi.dst v) w → Q (.panic c) a w) (hw : Region.wanted oi (yielded ops a.tmps) = true)
    (hy : ∀ w', Ext w w' → (execOp a.eval oi).run P w' = .ok (.value v) w')
    (h : wpE P md ops Q fuel (listed.setIfInBounds i true) (a.put oi.dst v) w) : wpE P md ops Q (fuel + 1) listed a w :=
  wpE_first (by simpa using hi) (Region.noSelect_spec hs) hQ fuel listed a w (Region.free_spec (by simpa using hi) hf) (by simpa using hr) (.inl ⟨hw, fun w' hx => .inl ⟨w', hy w' hx, Ext.refl _⟩⟩) h

/-- Take number 'i' first: it is not wanted (its guard says so). -/
theorem wpE_skip {i : Nat} {oi : Oper} {fuel : Nat} {listed : Array Bool} {a : Act} {w : World} (hi : ops.toList[i]? = some oi)
    (hs : Region.noSelect ops = true) (hf : Region.free md ops listed i = true) (hr : (Region.ready md ops listed).contains i = true)
    (hQ : ∀ c a w, Q (.panic c) (a.put oi.dst undef) w → Q (.panic c) a w) (hw : Region.wanted oi (yielded ops a.tmps) = false)
    (h : wpE P md ops Q fuel (listed.setIfInBounds i true) (a.put oi.dst undef) w) : wpE P md ops Q (fuel + 1) listed a w :=
  wpE_first (by simpa using hi) (Region.noSelect_spec hs) hQ fuel listed a w (Region.free_spec (by simpa using hi) hf) (by simpa using hr) (.inr ⟨hw, rfl⟩) h

/-- Take number 'i' first: a call that answers v in every grown world, and only adds to memory. -/
theorem wpE_call {i : Nat} {oi : Oper} {v : Value} {f : FuncId} {args : Array Value} {fuel : Nat} {listed : Array Bool} {a : Act} {w : World} (hi : ops.toList[i]? = some oi)
    (hs : Region.noSelect ops = true) (hf : Region.free md ops listed i = true) (hr : (Region.ready md ops listed).contains i = true)
    (hQ : ∀ c a w, Q (.panic c) (a.put oi.dst v) w → Q (.panic c) a w) (hw : Region.wanted oi (yielded ops a.tmps) = true)
    (he : ∀ w', (execOp a.eval oi).run P w' = .ok (.enter f args) w')
    (hy : ∀ w', Ext w w' → Calls P f args w' (fun e w'' => e = .returned v ∧ Ext w' w''))
    (h : wpE P md ops Q fuel (listed.setIfInBounds i true) (a.put oi.dst v) w) : wpE P md ops Q (fuel + 1) listed a w :=
  wpE_first (by simpa using hi) (Region.noSelect_spec hs) hQ fuel listed a w (Region.free_spec (by simpa using hi) hf) (by simpa using hr) (.inl ⟨hw, fun w' hx => .inr ⟨f, args, w', he w', hy w' hx⟩⟩) h

/-- Only number 'i' may come up: a call; what it answers may hang on the world. -/
theorem wpE_next {i : Nat} {oi : Oper} {f : FuncId} {args : Array Value} {fuel : Nat} {listed : Array Bool} {a : Act} {w : World} (hi : ops.toList[i]? = some oi)
    (hr : Region.ready md ops listed = [i]) (hw : Region.wanted oi (yielded ops a.tmps) = true)
    (he : ∀ w', (execOp a.eval oi).run P w' = .ok (.enter f args) w')
    (hy : ∀ w', Ext w w' → Calls P f args w' (fun e w'' => ∃ v, e = .returned v ∧ Ext w' w'' ∧ wpE P md ops Q fuel (listed.setIfInBounds i true) (a.put oi.dst v) w'')) : wpE P md ops Q (fuel + 1) listed a w := fun w' hx => by
  refine ⟨fun h0 => (by rw [hr] at h0; cases h0), fun j hj => ?_⟩
  rw [hr] at hj
  obtain rfl : j = i := by simpa using hj
  unfold Go.wpOp
  simp only [show ops[j]? = some oi by simpa using hi, hw, if_true, Oper.wp, he w', Oper.upon]
  refine .inl (Calls.mono (hy w' hx) ?_)
  rintro e w'' ⟨v, rfl, hx', h⟩
  exact ⟨hx', h⟩

/-- Take number 'i' first: a load of a whole row. -/
theorem wpE_row {i : Nat} {oi : Oper} {fuel : Nat} {listed : Array Bool} {a : Act} {w : World} (hi : ops.toList[i]? = some oi)
    (hs : Region.noSelect ops = true) (hf : Region.free md ops listed i = true) (hr : (Region.ready md ops listed).contains i = true)
    (ty : TypeId) (x : Operand) (b o : Nat) (cs : List Value) (d : TypeDesc)
    (hQ : ∀ c a w, Q (.panic c) (a.put oi.dst (.agg cs.toArray)) w → Q (.panic c) a w) (hw : Region.wanted oi (yielded ops a.tmps) = true)
    (ho : oi.op = .load ty x) (hx : a.eval x = .pointer (some ⟨b, o, none⟩)) (hc : ∀ w', Ext w w' → w'.rangeAt b o cs)
    (hu : P.underlying ty = some d) (hd : d.isRow = true) (hz : (P.info? ty).map (·.size) = some cs.length)
    (h : wpE P md ops Q fuel (listed.setIfInBounds i true) (a.put oi.dst (.agg cs.toArray)) w) : wpE P md ops Q (fuel + 1) listed a w :=
  wpE_val hi hs hf hr hQ hw (fun w' hx' => by
    unfold execOp
    simp only [ho, hx, Instr.loadAt, Instr.sureAddr, Sem.run_bind, Sem.run_pure, Result.andThen_ok, run_loadVar_mid w' b o ty cs d (hc w' hx') hu hd hz]) h

/-- All have come up. -/
theorem wpE_done {listed : Array Bool} {a : Act} {w : World} (hr : Region.ready md ops listed = []) (h : ∀ w', Ext w w' → Q .normal a w') :
    wpE P md ops Q 0 listed a w := ⟨hr, h⟩

/-- From here on one by one: whatever stands in the list 'l' is what is left, in its only order. -/
theorem wpE_last {i : Nat} {oi : Oper} {listed : Array Bool} {a : Act} {w : World} (hi : ops.toList[i]? = some oi) (hr : Region.ready md ops listed = [i]) (hr2 : Region.ready md ops (listed.setIfInBounds i true) = [])
    (hw : Region.wanted oi (yielded ops a.tmps) = true) (h : ∀ w', Ext w w' → ∀ K : Act → World → Prop, (∀ a' w'', Ext w' w'' → (∀ w3, Ext w'' w3 → Q .normal a' w3) → K a' w'') → oi.wp P a w' K Q) : wpE P md ops Q 1 listed a w := fun w' hx => by
  refine ⟨fun h0 => (by rw [hr] at h0; cases h0), fun j hj => ?_⟩
  rw [hr] at hj
  obtain rfl : j = i := by simpa using hj
  unfold Go.wpOp
  simp only [show ops[j]? = some oi by simpa using hi, hw, if_true]
  refine .inl (h w' hx _ fun a' w'' hx' hq => ⟨hx', hr2, hq⟩)

theorem wp_region_E {id : Nat} {a : Act} {w : World} (hm : P.follows .mixedOrders = true)
    (h : wpE P .any ops Q ops.size (Array.replicate ops.size false) a w) : (Code.region id ops true).wp P Q a w :=
  wp_region_any hm (wpAny_of_wpE _ _ _ _ (h.ext ((Below.refl _ _).drew)))
end
end Go.Proofs.YtjhddlkfkicpaaaGreatDoor
