/- Abstract execution: a function's contract out of its run. Over any program. -/
import Derived.Test.YtdncopphjamilaaVq
namespace Go.Proofs.Ytdncopphjamilaa.Vx
open Go Go.RowKit Fl
set_option linter.unusedVariables false
set_option linter.unusedSimpArgs false

def env0 : Nat → List SV → Env
  | _, [] => []
  | n, v :: r => (n, v) :: env0 (n + 1) r
section
variable {P : Program} {tab : Nat → Option TI}
theorem enters_of {f : FuncId} {fn : Func} (hf : P.funcs[f]? = some fn) (hb : fn.body.isNone = false) (hn : (fn.name == "runtime.NumGoroutine") = false) (xs : Array Value) (w : World) : (callFunc f xs).run P w = .ok (.enter f xs) w := by
  have h1 : ¬ fn.name = "runtime.NumGoroutine" := by simpa using hn
  have h2 : ¬ fn.body = none := by intro c; rw [c] at hb; cases hb
  simp [callFunc, hf, h1, h2]
theorem look_env0 : ∀ (l : List SV) (k i : Nat), look (env0 k l) i = if k ≤ i ∧ i < k + l.length then (l[i - k]?).getD .any else .any
  | [], k, i => by simp [env0, look]
  | v :: l, k, i => by
    simp only [env0, look, List.length_cons]
    by_cases c : k = i
    · subst c; rw [if_pos rfl, if_pos (by omega)]; simp
    · rw [if_neg c, look_env0 l (k + 1) i]
      by_cases d : k + 1 ≤ i ∧ i < k + 1 + l.length
      · rw [if_pos d, if_pos (by omega), show i - k = (i - (k + 1)) + 1 from by omega, List.getElem?_cons_succ]
      · rw [if_neg d, if_neg (by omega)]
theorem upto_mem : ∀ (n i : Nat), i ∈ upto n ↔ i < n
  | 0, i => by simp [upto]
  | n + 1, i => by simp only [upto, List.mem_append, upto_mem n i, List.mem_singleton]; omega
def rv (a : Act) : ResultVar → Sem Value
  | .tmp t => pure (a.tmps.getD t undef)
  | .cell x t => do loadVar t (← asAddr (a.tmps.getD x undef))
theorem resL_ok (ht : TabOk P tab) {n : Nat} {w : World} {β : Nat → Loc} {h : List Blk} {a : Act} {e : Env} (s : Slots n h.length β a e) (H : Holds w β h) :
    ∀ (rs : List ResultVar) (p : Prop) (l : List SV), resL tab e h rs = some (p, l) → p → knownL l = true →
      bdL h.length l ∧ (rs.mapM (rv a)).run P w = .ok (denL β l) w
  | [], p, l, h1, hp, hk => by
    simp only [resL, Option.some.injEq, Prod.mk.injEq] at h1
    obtain ⟨rfl, rfl⟩ := h1
    exact ⟨trivial, by simp [denL]⟩
  | .tmp t :: rs, p, l, h1, hp, hk => by
    simp only [resL] at h1
    split at h1
    · rename_i q l' hq
      simp only [Option.some.injEq, Prod.mk.injEq] at h1
      obtain ⟨rfl, rfl⟩ := h1
      simp only [knownL, Bool.and_eq_true] at hk
      obtain ⟨h2, h3⟩ := resL_ok ht s H rs _ _ hq hp hk.2
      have h4 := s.ag t hk.1
      refine ⟨⟨h4.1, h2⟩, ?_⟩
      simp only [List.mapM_cons, Sem.run_bind, rv, Sem.run_pure, Result.andThen_ok, h3, h4.2, denL]
    · cases h1
  | .cell x t :: rs, p, l, h1, hp, hk => by
    simp only [resL] at h1
    split at h1
    · rename_i p1 v hld
      split at h1
      · rename_i q l' hq
        simp only [Option.some.injEq, Prod.mk.injEq] at h1
        obtain ⟨rfl, rfl⟩ := h1
        simp only [knownL, Bool.and_eq_true] at hk
        obtain ⟨h2, h3⟩ := resL_ok ht s H rs _ _ hq hp.2 hk.2
        have hx : (look e x).known = true := kn fun c => by rw [c] at hld; simp [ldR] at hld
        have h4 := s.ag x hx
        obtain ⟨h6, h7⟩ := ldR_ok ht H hld hp.1
        have h5 : a.tmps.getD x undef = den β (look e x) := h4.2
        refine ⟨⟨h6, h2⟩, ?_⟩
        obtain ⟨l0, i0, j0, hp0⟩ : ∃ l i j, look e x = .ptr l i j := by
          unfold ldR at hld
          split at hld
          · rename_i l i j hl; exact ⟨l, i, j, hl⟩
          · cases hld
        rw [hp0] at h5 h7
        simp only [den] at h5 h7
        have h8 : (loadVar t ⟨(β l0).b, (β l0).lo + i0 * (β l0).c + j0, none⟩).run P w = .ok (den β v) w := by
          simpa [Instr.loadAt, Instr.sureAddr] using h7
        simp only [List.mapM_cons, Sem.run_bind, rv, Sem.run_pure, Result.andThen_ok, h3, h5, asAddr, h8, denL]
      · cases h1
    · cases h1
theorem resV_den (β : Nat → Loc) (l : List SV) : (if h : (denL β l).toArray.size = 1 then (denL β l).toArray[0] else .tuple (denL β l).toArray) = den β (resV l) := by
  match l with
  | [] => rfl
  | [v] => simp [denL, resV]
  | a :: b :: r => simp [denL, resV, den]
theorem resV_bd {n : Nat} {l : List SV} (h : bdL n l) : (resV l).bd n := by
  match l, h with
  | [], _ => exact trivial
  | [v], h => exact h.1
  | a :: b :: r, h => exact h

/-- The contract of a function: what its run comes to. -/
theorem cv_of_run {f : FuncId} {fn : Func} {c : Code} {args : List SV} {h : List Blk} {Q : SV → List Blk → Prop} (fuel : Nat) (sc : Nat → List SI × List Nat) (sb : Nat → Option (List Nat × Bool × SB)) (nt : Nat) (rs : List ResultVar)
    (ht : TabOk P tab) (hm : P.follows .mixedOrders = true) (hf : P.funcs[f]? = some fn) (hb : fn.body = some c) (hn : (fn.name == "runtime.NumGoroutine") = false) (hnt : fn.ntmps = nt) (hrs : fn.results.toList = rs) (hlen : args.length ≤ nt) (hk : knownL args = true) (hbd : bdL h.length args)
    (hr : run P { tab := tab, sb := sb, sc := sc, n := nt, n0 := h.length, F := finR tab rs h.length Q } fuel [.code c] (env0 0 args) h) : CV P f args h Q := by
  refine ⟨enters_of hf (by rw [hb]; rfl) hn, fun w β H => ?_⟩
  refine calls_of_wp hf hb ?_
  have hsz : (denL β args).toArray.size = args.length := by simp [denL_map]
  let X : RX := { tab := tab, sb := sb, sc := sc, n := nt, n0 := h.length, F := finR tab rs h.length Q }
  let R : Ending → World → Prop := fun e w' => ∃ v hh β', e = .returned (den β' v) ∧ Q v hh ∧ Holds w' β' hh ∧ Since w β h w' β' hh ∧ v.bd hh.length
  have st : St X w β h { tmps := (denL β args).toArray ++ Array.replicate (fn.ntmps - (denL β args).toArray.size) undef, defers := [] } (env0 0 args) h w β := by
    refine ⟨⟨by simp only [Array.size_append, hsz, Array.size_replicate, hnt]; show _ = nt; omega, fun i hi => ?_, rfl⟩, H, Since.refl w β h⟩
    rw [look_env0] at hi ⊢
    by_cases c1 : 0 ≤ i ∧ i < 0 + args.length
    · rw [if_pos c1] at hi ⊢
      simp only [Nat.sub_zero] at hi ⊢
      have hlt : i < args.length := by omega
      rw [List.getElem?_eq_getElem hlt] at hi ⊢
      simp only [Option.getD_some] at hi ⊢
      refine ⟨(bdL_iff _ _).1 hbd _ (List.getElem_mem hlt), ?_⟩
      have : ((denL β args).toArray ++ Array.replicate (fn.ntmps - (denL β args).toArray.size) undef)[i]? = some (den β args[i]) := by
        rw [Array.getElem?_append_left (by omega)]
        simp [denL_map, hlt]
      rw [Array.getD_eq_getD_getElem?, this]; rfl
    · rw [if_neg c1] at hi; simp [SV.known] at hi
  have key := run_ok (P := P) (X := X) (w0 := w) (β0 := β) (h0 := h) (Fin := fun a w' => bodyPost P fn R .ret a w') ht hm rfl (fun a e h' w' β' s hF => ?_) fuel [.code c] (env0 0 args) h hr _ w β st
  · refine wp_mono key fun ex a' w' q => ?_
    cases ex <;> first | exact q | exact q.elim
  · simp only [X, finR] at hF
    split at hF
    · rename_i pl hpl
      obtain ⟨p, l⟩ := pl
      obtain ⟨hp, hkl, hret, hq⟩ := hF
      obtain ⟨hb1, hrun⟩ := resL_ok ht s.sl s.hd rs p l hpl hp hkl
      simp only [Bool.and_eq_true] at hret
      obtain ⟨hvk, hloc, hlin, hlt, hpre⟩ := hret
      refine ⟨s.sl.df, den β' (resV l), ?_, ?_⟩
      · have e1 : results fn a.tmps = (do let vs ← fn.results.mapM (rv a); pure (if h : vs.size = 1 then vs[0] else .tuple vs)) := by
          unfold results
          congr 1
        rw [e1, Array.mapM_eq_mapM_toList, hrs]
        simp only [Sem.run_bind, Sem.run_map, hrun, Result.andThen_ok, Sem.run_pure, ← resV_den]
      · refine ⟨(resV l).ren (idx (reach h' (ins (upto h.length) (resV l).labs))), locH _ h' _, fun i => β' (lget (reach h' (ins (upto h.length) (resV l).labs)) i), ?_, hq, s.hd.loc hloc, ?_, by rw [locH_length]; exact lin_bd _ hlin⟩
        · rw [den_lin hlin]
        · exact s.sn.loc hloc hpre
    · exact hF.elim
end
end Go.Proofs.Ytdncopphjamilaa.Vx
