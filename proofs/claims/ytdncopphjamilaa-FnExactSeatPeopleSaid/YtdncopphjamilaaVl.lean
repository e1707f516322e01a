/- Abstract execution: regions that draw their order, in two phases. Over any program. -/
import Derived.Test.YtdncopphjamilaaVk
namespace Go.Proofs.Ytdncopphjamilaa.Vx
open Go Go.RowKit Fl
set_option linter.unusedVariables false
set_option linter.unusedSimpArgs false

section
variable {P : Program} {ops : Array Oper} {Q : Exit → Act → World → Prop} {md : Region.Mode} {T : List Nat} {nt : Nat}
def wpE2 (P : Program) (md : Region.Mode) (ops : Array Oper) (Q : Exit → Act → World → Prop) (T : List Nat) : Nat → Array Bool → Act → World → Prop
  | 0, listed, a, w => (∀ j o, ops[j]? = some o → j ∉ T → listed.getD j true = true) ∧ ∀ w', Ext w w' → wpAny P md ops Q T.length listed a w'
  | fuel + 1, listed, a, w => Region.ready md ops listed ≠ [] ∧ ∀ w', Ext w w' → ∀ i ∈ Region.ready md ops listed, wpOp P ops Q i (fun a' w'' => Ext w' w'' ∧ wpE2 P md ops Q T fuel (listed.setIfInBounds i true) a' w'') a w'

theorem wpE2.ext : ∀ {fuel : Nat} {listed : Array Bool} {a : Act} {w w' : World}, wpE2 P md ops Q T fuel listed a w → Ext w w' → wpE2 P md ops Q T fuel listed a w'
  | 0, _, _, _, _, h, x => ⟨h.1, fun w2 h2 => h.2 w2 (x.trans h2)⟩
  | _ + 1, _, _, _, _, h, x => ⟨h.1, fun w2 h2 => h.2 w2 (x.trans h2)⟩
theorem wpAny_of_wpE2 : ∀ (fuel : Nat) (listed : Array Bool) (a : Act) (w : World), wpE2 P md ops Q T fuel listed a w → wpAny P md ops Q (fuel + T.length) listed a w
  | 0, _, _, w, h => by rw [Nat.zero_add]; exact h.2 w (Ext.refl _)
  | fuel + 1, listed, a, w, h => by
    rw [show fuel + 1 + T.length = (fuel + T.length) + 1 from by omega]
    exact ⟨fun h0 => absurd h0 h.1, fun i hi => wpOp_mono (fun a' w' h' => wpAny_of_wpE2 fuel _ a' w' h'.2) (h.2 w (Ext.refl _) i hi)⟩
theorem closed_of {listed : Array Bool} (h : closedB ops listed = true) {j : Nat} {o : Oper} (hj : listed.getD j false = true) (ho : ops[j]? = some o) : ∀ e ∈ o.after, Region.binds .any e = true → listed.getD e.on false = true := fun e he hb => by
  have hlt : j < ops.size := (Array.getElem?_eq_some_iff.1 ho).1
  have h1 := List.all_eq_true.1 h j (by simpa using hlt)
  rw [hj, ho] at h1
  simp only [Bool.not_true, Bool.false_or] at h1
  have := Array.all_eq_true'.1 h1 e he
  rw [hb] at this
  simpa using this
theorem closed_set {listed : Array Bool} (h : closedB ops listed = true) {j : Nat} (hj : j ∈ Region.ready .any ops listed) : closedB ops (listed.setIfInBounds j true) = true := by
  refine List.all_eq_true.2 fun k hk => ?_
  obtain ⟨_, oj, hoj, hall⟩ := mem_ready.1 hj
  cases ho : ops[k]? with
  | none => simp
  | some o =>
    simp only
    cases c : (listed.setIfInBounds j true).getD k false with
    | false => simp
    | true =>
      simp only [Bool.not_true, Bool.false_or]
      refine Array.all_eq_true'.2 fun e he => ?_
      cases hb : Region.binds .any e with
      | false => simp
      | true =>
        simp only [Bool.not_true, Bool.false_or]
        apply getD_set_true
        by_cases e1 : k = j
        · subst e1; rw [hoj] at ho; cases ho; exact hall e he hb
        · have : listed.getD k false = true := by
            rw [getD_set_ne false (Ne.symm e1)] at c; exact c
          exact closed_of h this ho e he hb
theorem reach_listed {i : Nat} {listed : Array Bool} (hc : closedB ops listed = true) : ∀ (k j : Nat), reachB ops i k j = true → (∀ o, ops[j]? = some o → ∀ e ∈ o.after, Region.binds .any e = true → listed.getD e.on false = true) → listed.getD i false = true
  | 0, _, h, _ => by cases h
  | k + 1, j, h, hd => by
    unfold reachB at h
    cases ho : ops[j]? with
    | none => rw [ho] at h; cases h
    | some o =>
      rw [ho] at h
      simp only [Bool.or_eq_true] at h
      rcases h with h | h
      · obtain ⟨e, he, hb⟩ := Array.any_eq_true'.1 h
        simp only [Bool.and_eq_true, beq_iff_eq] at hb
        have := hd o ho e he hb.1
        rwa [hb.2] at this
      · obtain ⟨e, he, hb⟩ := Array.any_eq_true'.1 h
        simp only [Bool.and_eq_true] at hb
        have := hd o ho e he hb.1
        exact reach_listed hc k e.on hb.2 fun o2 ho2 => closed_of hc this ho2
theorem wpE2_first {i : Nat} {oi : Oper} {v : Value} (hi : ops[i]? = some oi) (hsel : ∀ (j : Nat) (o : Oper) cs b, ops[j]? = some o → o.op ≠ .select cs b)
    (hQ : ∀ c a w, Q (.panic c) (a.put oi.dst v) w → Q (.panic c) a w) (hdep : ∀ j ∈ T, reachB ops i 3 j = true) :
    ∀ (fuel : Nat) (listed : Array Bool) (a : Act) (w : World), closedB ops listed = true →
      (∀ j oj, ops[j]? = some oj → j ≠ i → listed.getD j true = false → (∀ e ∈ oj.after, Region.binds .any e = true → e.on ≠ i) → oi.apart ops oj = true) →
      i ∈ Region.ready .any ops listed → GivesE P ops oi v a w →
      wpE2 P .any ops Q T fuel (listed.setIfInBounds i true) (a.put oi.dst v) w → wpE2 P .any ops Q T (fuel + 1) listed a w := by
  intro fuel
  have hT : ∀ (listed : Array Bool) (j : Nat), closedB ops listed = true → i ∈ Region.ready .any ops listed → j ∈ Region.ready .any ops listed → j ∉ T := fun listed j hc hr hj ht => by
    obtain ⟨_, oj', ho', hall⟩ := mem_ready.1 hj
    have h1 := reach_listed hc 3 j (hdep j ht) fun o ho => by rw [ho'] at ho; cases ho; exact hall
    have h0 := (mem_ready.1 hr).1
    rcases Nat.lt_or_ge i listed.size with h' | h'
    · simp [h'] at h0 h1; rw [h0] at h1; cases h1
    · simp [Array.getElem?_eq_none h'] at h1
  induction fuel with
  | zero =>
    intro listed a w hcl _ hr hy H
    refine ⟨fun h => (by rw [h] at hr; cases hr), fun w' hx j hj => ?_⟩
    by_cases hji : j = i
    · subst hji; exact hy.wpOp hi hx fun w'' hx' => ⟨hx', H.ext (hx.trans hx')⟩
    · exfalso
      obtain ⟨hun, oj, ho, _⟩ := mem_ready.1 hj
      have := H.1 j oj ho (hT listed j hcl hr hj)
      rw [getD_set_ne true (Ne.symm hji), hun] at this
      cases this
  | succ fuel ih =>
    intro listed a w hcl hfree hr hy H
    refine ⟨fun h => (by rw [h] at hr; cases hr), fun w' hx j hj => ?_⟩
    by_cases hji : j = i
    · subst hji; exact hy.wpOp hi hx fun w'' hx' => ⟨hx', H.ext (hx.trans hx')⟩
    · have h1 := H.2 w' hx j (ready_mono hj hji)
      obtain ⟨hjun, oj, hoj, hall⟩ := mem_ready.1 hj
      have hnot : ∀ e ∈ oj.after, Region.binds .any e = true → e.on ≠ i := fun e he hb heq => by
        have h1 := hall e he hb
        have h0 := (mem_ready.1 hr).1
        rw [heq] at h1
        rcases Nat.lt_or_ge i listed.size with h' | h'
        · simp [h'] at h0 h1; rw [h0] at h1; cases h1
        · simp [Array.getElem?_eq_none h'] at h1
      have h2 := wpOp_putE hoj (hfree j oj hoj hji hjun hnot) (fun cs b => hsel i oi cs b hi) (fun cs b => hsel j oj cs b hoj) hQ hy h1
      have hfree' : ∀ k ok, ops[k]? = some ok → k ≠ i → (listed.setIfInBounds j true).getD k true = false →
          (∀ e ∈ ok.after, Region.binds .any e = true → e.on ≠ i) → oi.apart ops ok = true := fun k ok hk hki hun hno => by
        refine hfree k ok hk hki ?_ hno
        by_cases hjk : j = k
        · subst hjk; exact hjun
        · rw [getD_set_ne true hjk] at hun; exact hun
      refine wpOp_mono (fun a' w2 h3 => ⟨h3.2.1, ih (listed.setIfInBounds j true) a' w2 (closed_set hcl hj) hfree' (ready_mono hr (Ne.symm hji)) (h3.1.ext (hx.trans h3.2.1)) ?_⟩) h2
      rw [Array.setIfInBounds_comm _ _ hji]
      exact h3.2.2
theorem depB_ok {i : Nat} : ∀ {T : List Nat}, depB ops i T = true → ∀ j ∈ T, reachB ops i 3 j = true
  | [], _, j, hj => by cases hj
  | t :: r, h, j, hj => by
    simp only [depB, Bool.and_eq_true] at h
    rcases List.mem_cons.1 hj with c | c
    · subst c; exact h.1
    · exact depB_ok h.2 j c

/-- The tail, in its only order. -/
theorem wpAny_tail {all : List Oper} : ∀ (tail : List Nat) (listed : Array Bool) (a : Act) (w : World), tailB all.toArray tail listed = true → wpList P all.toArray Q (pickL all tail) a w → wpAny P .any all.toArray Q tail.length listed a w
  | [], listed, a, w, h, hw => by
    simp only [tailB, beq_iff_eq] at h
    exact wpAny_done h hw 0
  | t :: ts, listed, a, w, h, hw => by
    simp only [tailB, Bool.and_eq_true, beq_iff_eq] at h
    obtain ⟨⟨h1, h2⟩, h3⟩ := h
    obtain ⟨o, ho⟩ := Option.isSome_iff_exists.1 h2
    have ho' : rget all t = some o := by rw [rget_eq]; simpa using ho
    refine wpAny_all h1 (by simp) fun i hi => ?_
    obtain rfl : i = t := by simpa using hi
    simp only [pickL, ho'] at hw
    unfold Go.wpOp
    simp only [ho]
    unfold wpList at hw
    split at hw
    · rename_i hwt
      rw [if_pos hwt]
      refine hw.imp (fun h => ?_) id
      unfold Oper.wp at *
      exact upon_mono (fun a' w' h' => wpAny_tail ts _ a' w' h3 h') h
    · rename_i hwt
      rw [if_neg hwt]
      exact wpAny_tail ts _ _ _ h3 hw
where
  upon_mono {o : Oper} {a : Act} {K K' : Act → World → Prop} (hk : ∀ a w, K a w → K' a w) {r : Result Next} (h : o.upon P a K Q r) : o.upon P a K' Q r := by
    cases r with
    | ok n w =>
      cases n <;> simp only [Oper.upon] at h ⊢ <;> first
        | exact hk _ _ h
        | (refine Calls.mono h fun e w' he => ?_; cases e <;> first | exact hk _ _ he | exact he)
        | (exact Rows.mono h fun v w' he => hk _ _ he)
    | halt x w => cases x <;> exact h
theorem wp_region_E2 {id : Nat} {a : Act} {w : World} {m : Nat} (hm : P.follows .mixedOrders = true) (hs : ops.size = m + T.length)
    (h : wpE2 P .any ops Q T m (Array.replicate ops.size false) a w) : (Code.region id ops true).wp P Q a w :=
  wp_region_any hm (by rw [hs]; have := wpAny_of_wpE2 _ _ _ _ (h.ext ((Below.refl _ _).drew)); rwa [hs] at this)
end
end Go.Proofs.Ytdncopphjamilaa.Vx
