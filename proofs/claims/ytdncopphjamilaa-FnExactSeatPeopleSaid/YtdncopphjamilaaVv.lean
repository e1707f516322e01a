/- Abstract execution: regions that draw their order and store as they go. Over any program. -/
import Derived.Test.YtdncopphjamilaaVl
namespace Go.Proofs.Ytdncopphjamilaa.Vx
open Go Go.RowKit Fl
set_option linter.unusedVariables false
set_option linter.unusedSimpArgs false

/-- The blocks of KP are as they were. -/
def Keep (KP : Nat → Prop) (w w' : World) : Prop := w.heap.size ≤ w'.heap.size ∧ ∀ b, KP b → b < w.heap.size → w'.heap[b]? = w.heap[b]?
theorem Keep.refl (KP : Nat → Prop) (w : World) : Keep KP w w := ⟨Nat.le_refl _, fun _ _ _ => rfl⟩
theorem Keep.trans {KP : Nat → Prop} {a b c : World} (h : Keep KP a b) (k : Keep KP b c) : Keep KP a c :=
  ⟨Nat.le_trans h.1 k.1, fun x hx hl => (k.2 x hx (Nat.lt_of_lt_of_le hl h.1)).trans (h.2 x hx hl)⟩
theorem Keep.of_ext {KP : Nat → Prop} {w w' : World} (x : Ext w w') : Keep KP w w' := ⟨x.size, fun b _ hb => x.block b hb⟩

section
variable {P : Program} {ops : Array Oper} {Q : Exit → Act → World → Prop} {KP : Nat → Prop}
def GivesK (P : Program) (ops : Array Oper) (KP : Nat → Prop) (o : Oper) (v : Value) (a : Act) (w : World) : Prop :=
  (Region.wanted o (yielded ops a.tmps) = true ∧ ∀ w', Keep KP w w' →
    (∃ w'', (execOp a.eval o).run P w' = .ok (.value v) w'' ∧ Ext w' w'') ∨
    (∃ f args w1, (execOp a.eval o).run P w' = .ok (.enter f args) w1 ∧ Calls P f args w1 (fun e w'' => e = .returned v ∧ Ext w' w''))) ∨
  (Region.wanted o (yielded ops a.tmps) = false ∧ v = undef)
theorem GivesK.keep {o : Oper} {v : Value} {a : Act} {w w' : World} (h : GivesK P ops KP o v a w) (x : Keep KP w w') : GivesK P ops KP o v a w' :=
  h.imp (fun ⟨hw, hv⟩ => ⟨hw, fun w2 h2 => hv w2 (x.trans h2)⟩) id
theorem GivesK.of_same {o : Oper} {v : Value} {a a' : Act} {w : World} (hy : GivesK P ops KP o v a w) (he : execOp a'.eval o = execOp a.eval o)
    (hw : Region.wanted o (yielded ops a'.tmps) = Region.wanted o (yielded ops a.tmps)) : GivesK P ops KP o v a' w := by
  unfold GivesK at *; rw [he, hw]; exact hy
theorem GivesK.wpOp {i : Nat} {o : Oper} {v : Value} {a : Act} {w : World} (hi : ops[i]? = some o) (hy : GivesK P ops KP o v a w)
    {K : Act → World → Prop} {w' : World} (hx : Keep KP w w') (h : ∀ w'', Ext w' w'' → K (a.put o.dst v) w'') : wpOp P ops Q i K a w' := by
  unfold Go.wpOp
  simp only [hi]
  rcases hy with ⟨hw, hv⟩ | ⟨hw, rfl⟩
  · simp only [hw, if_true, Oper.wp]
    refine .inl ?_
    rcases hv w' hx with ⟨w'', hr, hx'⟩ | ⟨f, args, w1, hr, hc⟩
    · rw [hr]; simp only [Oper.upon]; exact h _ hx'
    · rw [hr]; simp only [Oper.upon]
      exact Calls.mono hc fun e w'' ⟨he, hx'⟩ => by subst he; exact h _ hx'
  · simp only [hw, Bool.false_eq_true, if_false]; exact h _ (Ext.refl _)
theorem wpOp_putK {j : Nat} {oi oj : Oper} {v : Value} (hj : ops[j]? = some oj) (hap : oi.apart ops oj = true)
    (hsi : ∀ cs b, oi.op ≠ .select cs b) (hsj : ∀ cs b, oj.op ≠ .select cs b)
    (hQ : ∀ c a w, Q (.panic c) (a.put oi.dst v) w → Q (.panic c) a w) {K : Act → World → Prop} {a : Act} {w0 w : World}
    (hy : GivesK P ops KP oi v a w0) (h : wpOp P ops Q j K (a.put oi.dst v) w) :
    wpOp P ops Q j (fun a' w' => GivesK P ops KP oi v a' w0 ∧ K (a'.put oi.dst v) w') a w := by
  obtain ⟨h1, h2, h3⟩ := Oper.apart_spec hap
  have keep : ∀ (a : Act), GivesK P ops KP oi v a w0 → ∀ u, GivesK P ops KP oi v (a.put oj.dst u) w0 := fun a hy u =>
    hy.of_same (execOp_put oi hsi a oj.dst u h3) (wanted_put oi a oj.dst u h3)
  have keepD : ∀ d, GivesK P ops KP oi v { a with defers := d :: a.defers } w0 := fun d => hy.of_same rfl rfl
  unfold Go.wpOp at *
  simp only [hj] at *
  rw [wanted_put oj a oi.dst v h1] at h
  split
  · rename_i hw
    simp only [hw, if_true] at h
    rcases h with h | ⟨hasks, hlets⟩
    case inr => exact .inr ⟨by unfold Oper.asks at *; rw [execOp_put oj hsj a oi.dst v h1] at hasks; exact hasks, hlets⟩
    refine .inl ?_
    unfold Oper.wp at *
    rw [execOp_put oj hsj a oi.dst v h1] at h
    generalize (execOp a.eval oj).run P w = r at *
    cases r with
    | ok n w' =>
      cases n <;> simp only [Oper.upon] at h ⊢
      case value u => exact ⟨keep a hy u, by rw [← Act.put_comm a v u h2]; exact h⟩
      case skip => exact ⟨keep a hy _, by rw [← Act.put_comm a v undef h2]; exact h⟩
      case defer d =>
        refine ⟨keep _ (keepD d) _, ?_⟩
        rw [← Act.put_comm _ v undef h2, ← Act.put_defers]
        exact h
      case enter f args =>
        refine Calls.mono h fun e w'' he => ?_
        cases e with
        | returned u => exact ⟨keep a hy u, by rw [← Act.put_comm a v u h2]; exact he⟩
        | panicked c => exact hQ _ _ _ he
        | outgrown => exact he
      case row row args => exact Rows.mono h fun u w'' he => ⟨keep a hy u, by rw [← Act.put_comm a v u h2]; exact he⟩
    | halt x w' =>
      cases x <;> simp only [Oper.upon] at h ⊢
      case panic u => exact hQ _ _ _ h
  · rename_i hw
    simp only [hw] at h
    exact ⟨keep a hy _, by rw [← Act.put_comm a v undef h2]; exact h⟩

/-- Whatever order is picked; each operation keeps the blocks of KP. -/
def wpB (P : Program) (ops : Array Oper) (Q : Exit → Act → World → Prop) (KP : Nat → Prop) : Nat → Array Bool → Act → World → Prop
  | 0, listed, a, w => Region.ready .any ops listed = [] ∧ ∀ w', Ext w w' → Q .normal a w'
  | fuel + 1, listed, a, w => ∀ w', Ext w w' → (Region.ready .any ops listed = [] → Q .normal a w') ∧
    ∀ i ∈ Region.ready .any ops listed, wpOp P ops Q i (fun a' w'' => Keep KP w' w'' ∧ wpB P ops Q KP fuel (listed.setIfInBounds i true) a' w'') a w'
theorem wpB.ext : ∀ {fuel : Nat} {listed : Array Bool} {a : Act} {w w' : World}, wpB P ops Q KP fuel listed a w → Ext w w' → wpB P ops Q KP fuel listed a w'
  | 0, _, _, _, _, h, x => ⟨h.1, fun w2 h2 => h.2 w2 (x.trans h2)⟩
  | _ + 1, _, _, _, _, h, x => fun w2 h2 => h w2 (x.trans h2)
theorem wpAny_of_wpB : ∀ (fuel : Nat) (listed : Array Bool) (a : Act) (w : World), wpB P ops Q KP fuel listed a w → wpAny P .any ops Q fuel listed a w
  | 0, _, _, w, h => ⟨h.1, h.2 w (Ext.refl _)⟩
  | fuel + 1, _, _, w, h => ⟨(h w (Ext.refl _)).1, fun i hi => wpOp_mono (fun a' w' h' => wpAny_of_wpB fuel _ a' w' h'.2) ((h w (Ext.refl _)).2 i hi)⟩
theorem wpB_first {i : Nat} {oi : Oper} {v : Value} (hi : ops[i]? = some oi) (hsel : ∀ (j : Nat) (o : Oper) cs b, ops[j]? = some o → o.op ≠ .select cs b)
    (hQ : ∀ c a w, Q (.panic c) (a.put oi.dst v) w → Q (.panic c) a w) :
    ∀ (fuel : Nat) (listed : Array Bool) (a : Act) (w : World),
      (∀ j oj, ops[j]? = some oj → j ≠ i → listed.getD j true = false → (∀ e ∈ oj.after, Region.binds .any e = true → e.on ≠ i) → oi.apart ops oj = true) →
      i ∈ Region.ready .any ops listed → GivesK P ops KP oi v a w →
      wpB P ops Q KP fuel (listed.setIfInBounds i true) (a.put oi.dst v) w → wpB P ops Q KP (fuel + 1) listed a w := by
  intro fuel
  induction fuel with
  | zero =>
    intro listed a w _ hr hy H w' hx
    refine ⟨fun h => (by rw [h] at hr; cases hr), fun j hj => ?_⟩
    by_cases hji : j = i
    · subst hji; exact hy.wpOp hi (Keep.of_ext hx) fun w'' hx' => ⟨Keep.of_ext hx', H.ext (hx.trans hx')⟩
    · have := ready_mono hj hji
      rw [H.1] at this
      cases this
  | succ fuel ih =>
    intro listed a w hfree hr hy H w' hx
    refine ⟨fun h => (by rw [h] at hr; cases hr), fun j hj => ?_⟩
    by_cases hji : j = i
    · subst hji; exact hy.wpOp hi (Keep.of_ext hx) fun w'' hx' => ⟨Keep.of_ext hx', H.ext (hx.trans hx')⟩
    · have h1 := (H w' hx).2 j (ready_mono hj hji)
      obtain ⟨hjun, oj, hoj, hall⟩ := mem_ready.1 hj
      have hnot : ∀ e ∈ oj.after, Region.binds .any e = true → e.on ≠ i := fun e he hb heq => by
        have h1 := hall e he hb
        have h0 := (mem_ready.1 hr).1
        rw [heq] at h1
        rcases Nat.lt_or_ge i listed.size with h' | h'
        · simp [h'] at h0 h1; rw [h0] at h1; cases h1
        · simp [Array.getElem?_eq_none h'] at h1
      have h2 := wpOp_putK hoj (hfree j oj hoj hji hjun hnot) (fun cs b => hsel i oi cs b hi) (fun cs b => hsel j oj cs b hoj) hQ hy h1
      have hfree' : ∀ k ok, ops[k]? = some ok → k ≠ i → (listed.setIfInBounds j true).getD k true = false →
          (∀ e ∈ ok.after, Region.binds .any e = true → e.on ≠ i) → oi.apart ops ok = true := fun k ok hk hki hun hno => by
        refine hfree k ok hk hki ?_ hno
        by_cases hjk : j = k
        · subst hjk; exact hjun
        · rw [getD_set_ne true hjk] at hun; exact hun
      refine wpOp_mono (fun a' w2 h3 => ⟨h3.2.1, ih (listed.setIfInBounds j true) a' w2 hfree' (ready_mono hr (Ne.symm hji)) (h3.1.keep ((Keep.of_ext hx).trans h3.2.1)) ?_⟩) h2
      rw [Array.setIfInBounds_comm _ _ hji]
      exact h3.2.2
theorem wp_region_B {id : Nat} {a : Act} {w : World} {m : Nat} (hm : P.follows .mixedOrders = true) (hs : ops.size = m)
    (h : wpB P ops Q KP m (Array.replicate ops.size false) a w) : (Code.region id ops true).wp P Q a w :=
  wp_region_any hm (by have := wpAny_of_wpB _ _ _ _ (h.ext ((Below.refl _ _).drew)); rwa [← hs] at this)
end
end Go.Proofs.Ytdncopphjamilaa.Vx
