/- Abstract execution: what the run tells comes true. Over any program. -/
import Derived.Test.YtdncopphjamilaaVm
namespace Go.Proofs.Ytdncopphjamilaa.Vx
open Go Go.RowKit Fl
set_option linter.unusedVariables false
set_option linter.unusedSimpArgs false

section
variable (P : Program)
def OpW (o : Oper) (K : Act → World → Prop) (a : Act) (w : World) : Prop :=
  (∃ v w', (execOp a.eval o).run P w = .ok (.value v) w' ∧ K (a.put o.dst v) w') ∨
  (∃ w', (execOp a.eval o).run P w = .ok .skip w' ∧ K (a.put o.dst undef) w') ∨
  (∃ f args w1, (execOp a.eval o).run P w = .ok (.enter f args) w1 ∧ Calls P f args w1 fun e w' => ∃ v, e = .returned v ∧ K (a.put o.dst v) w')
theorem OpW.wp {o : Oper} {K : Act → World → Prop} {a : Act} {w : World} {Q : Exit → Act → World → Prop} (h : OpW P o K a w) : o.wp P a w K Q := by
  unfold Oper.wp
  rcases h with ⟨v, w', hr, hk⟩ | ⟨w', hr, hk⟩ | ⟨f, args, w1, hr, hc⟩
  · rw [hr]; exact hk
  · rw [hr]; exact hk
  · rw [hr]; simp only [Oper.upon]
    refine Calls.mono hc fun e w' ⟨v, he, hk⟩ => ?_
    subst he; exact hk
def KOp (md : Nat) (o : Oper) (K : Act → World → Prop) (a : Act) (w : World) : Prop :=
  match md with
  | 0 => OpW P o K a w
  | 1 => ∃ v, (∀ w', Ext w w' → (execOp a.eval o).run P w' = .ok (.value v) w') ∧ K (a.put o.dst v) w
  | 2 => ∃ f args v, (∀ w', (execOp a.eval o).run P w' = .ok (.enter f args) w') ∧ (∀ w', Ext w w' → Calls P f args w' fun e w'' => e = .returned v ∧ Ext w' w'') ∧ K (a.put o.dst v) w
  | _ => ∀ w', Ext w w' → OpW P o (fun a' w'' => Ext w' w'' ∧ K a' w'') a w'
def KG (md : Nat) (all : List Oper) (o : Oper) (K : Act → World → Prop) (a : Act) (w : World) : Prop :=
  (Region.wanted o (yielded all.toArray a.tmps) = true ∧ KOp P md o K a w) ∨ (Region.wanted o (yielded all.toArray a.tmps) = false ∧ K (a.put o.dst undef) w)

variable (S : (Env → List Blk → Prop) → Act → World → Prop) (Fin : Act → World → Prop)
def kont : List Item → Exit → Act → World → Prop
  | [], ex, a, w => (match ex with
    | .normal => Fin a w
    | .ret => Fin a w
    | _ => False)
  | .code c :: r, ex, a, w => (match ex with
    | .normal => c.wp P (kont r) a w
    | ex => kont r ex a w)
  | .ops all rest :: r, ex, a, w => (match ex with
    | .normal => wpList P all.toArray (kont r) rest a w
    | ex => kont r ex a w)
  | .drw all si tail ls :: r, ex, a, w => (match ex with
    | .normal => Region.noSelect all.toArray = true → sOkB all.toArray tail si ls = true → wpE2 P .any all.toArray (kont r) tail si.length ls a w
    | ex => kont r ex a w)
  | .g md all o :: r, ex, a, w => (match ex with
    | .normal => KG P md all o (kont r .normal) a w
    | ex => kont r ex a w)
  | .op md o :: r, ex, a, w => (match ex with
    | .normal => KOp P md o (kont r .normal) a w
    | ex => kont r ex a w)
  | .skp d :: r, ex, a, w => (match ex with
    | .normal => kont r .normal (a.put d undef) w
    | ex => kont r ex a w)
  | .blk id :: r, ex, a, w => Exit.inBlock id (kont r) ex a w
  | .inv J :: r, ex, a, w => (match ex with
    | .normal => S J a w
    | ex => kont r ex a w)

theorem kont_panic (c : List PanicEntry) (a : Act) (w : World) : ∀ its, ¬ kont P S Fin its (.panic c) a w
  | [] => id
  | it :: r => by cases it <;> exact kont_panic c a w r
theorem kont_ret {a : Act} {w : World} : ∀ its, Fin a w → kont P S Fin its .ret a w
  | [], h => h
  | it :: r, h => by cases it <;> exact kont_ret r h
theorem kont_exit {id : Nat} {a : Act} {w : World} : ∀ its, hasBlk id its = true → kont P S Fin (dropTo id its) .normal a w → kont P S Fin its (.exit id) a w
  | [], h, _ => by cases h
  | it :: r, h, hk => by
    cases it with
    | blk j =>
      simp only [hasBlk] at h
      simp only [dropTo] at hk
      by_cases e : j = id
      · rw [if_pos e] at hk; subst e
        simp only [kont, Exit.inBlock, if_true]; exact hk
      · rw [if_neg e] at hk h
        have : ¬ id = j := fun c => e c.symm
        simp only [kont, Exit.inBlock, if_neg this]; exact kont_exit r h hk
    | _ => exact kont_exit r h hk
end
end Go.Proofs.Ytdncopphjamilaa.Vx
