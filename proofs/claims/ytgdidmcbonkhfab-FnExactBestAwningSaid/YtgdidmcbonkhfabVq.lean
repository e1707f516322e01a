/- Abstract execution: the law: from the run to the call. Over any program. -/
import Derived.Test.YtgdidmcbonkhfabVp
namespace Go.Proofs.Ytgdidmcbonkhfab.Vx
open Go Go.RowKit Fl
set_option linter.unusedVariables false
set_option linter.unusedSimpArgs false

section
variable {P : Program} {X : RX} {w0 : World} {β0 : Nat → Loc} {h0 : List Blk} {Fin : Act → World → Prop}

theorem kop_mono {md : Nat} {o : Oper} {K K' : Act → World → Prop} (hk : ∀ a w, K a w → K' a w) {a : Act} {w : World} (h : KOp P md o K a w) : KOp P md o K' a w := by
  have hw : ∀ {K K' : Act → World → Prop} (hk : ∀ a w, K a w → K' a w) {a : Act} {w : World}, OpW P o K a w → OpW P o K' a w := by
    intro K K' hk a w h
    rcases h with ⟨v, w', h1, h2⟩ | ⟨w', h1, h2⟩ | ⟨f, xs, w1, h1, h2⟩
    · exact .inl ⟨v, w', h1, hk _ _ h2⟩
    · exact .inr (.inl ⟨w', h1, hk _ _ h2⟩)
    · exact .inr (.inr ⟨f, xs, w1, h1, Calls.mono h2 fun e w' ⟨v, he, h⟩ => ⟨v, he, hk _ _ h⟩⟩)
  unfold KOp at *
  split at h
  · exact hw hk h
  · obtain ⟨v, h1, h2⟩ := h; exact ⟨v, h1, hk _ _ h2⟩
  · obtain ⟨f, xs, v, h1, h2, h3⟩ := h; exact ⟨f, xs, v, h1, h2, hk _ _ h3⟩
  · exact fun w' x => hw (fun a' w'' h => ⟨h.1, hk _ _ h.2⟩) (h w' x)

theorem linL_nil_bd : ∀ {l : List SV} {n : Nat}, linL [] l = true → bdL n l := by
  intro l
  induction l with
  | nil => intro n _; trivial
  | cons v l ih =>
    intro n h
    simp only [linL, Bool.and_eq_true] at h
    refine ⟨?_, ih h.2⟩
    have := lin_bd v h.1
    have hr := lin_ren (r := []) (fun l hl => by cases hl) v h.1
    have h2 := SV.bd_ren (m := n) (r := lget []) (fun l (hl : l < 0) => absurd hl (by omega)) _ this
    rwa [hr] at h2
theorem lin_nil {v : SV} (h : v.lin [] = true) (β β' : Nat → Loc) (n : Nat) : v.bd n ∧ den β v = den β' v := by
  have h1 : linL [] [v] = true := by simp [linL, h]
  refine ⟨(linL_nil_bd (n := n) h1).1, den_congr (n := 0) (fun l hl => absurd hl (by omega)) v (linL_nil_bd (n := 0) h1).1⟩

theorem op_ok (ht : TabOk P X.tab) {R : Run} {its : List Item} {K : Act → World → Prop} (ih : ∀ e' h', R its e' h' → ∀ a' w' β', St X w0 β0 h0 a' e' h' w' β' → K a' w')
    {md : Nat} {o : Oper} {e : Env} {h : List Blk} {q : OR} (ho : opR X.tab e h o.op = .or q)
    (hr : stOr P X R md o q its e h)
    {a : Act} {w : World} {β : Nat → Loc} (s : St X w0 β0 h0 a e h w β) (hmd : md ≤ 3) : KOp P md o K a w := by
  have val : ∀ (u : Value), (∀ w', Ext w w' → (execOp a.eval o).run P w' = .ok (.value u) w') → (∀ w', Ext w w' → K (a.put o.dst u) w') → (md = 2 → False) → KOp P md o K a w := fun u h1 h2 h3 => by
    unfold KOp
    split
    · exact .inl ⟨u, w, h1 w (Ext.refl _), h2 w (Ext.refl _)⟩
    · exact ⟨u, h1, h2 w (Ext.refl _)⟩
    · exact absurd rfl h3
    · exact fun w' x => .inl ⟨u, w', h1 w' x, Ext.refl _, h2 w' x⟩
  cases q with
  | val p v =>
    obtain ⟨hno, hp, hr⟩ := hr
    obtain ⟨u, h1, h2⟩ := opR_val (P := P) ht s.hd s.sl ho hp
    exact val u (fun w' x => h1 w' (s.hd.ext x)) (fun w' x => ih _ _ hr _ _ _ ((s.ext x).put o.dst h2)) hno
  | pick c x y =>
    obtain ⟨hno, hr⟩ := hr
    obtain ⟨u, h1, h2⟩ := opR_pick (P := P) s.sl ho
    refine val u (fun w' _ => h1 w') (fun w' hx => ?_) hno
    cases c
    · exact ih _ _ (hr.2 rfl) _ _ _ ((s.ext hx).put o.dst h2)
    · exact ih _ _ (hr.1 rfl) _ _ _ ((s.ext hx).put o.dst h2)
  | new p b mk =>
    have key : ∀ w', Ext w w' → p → R its (put X.n o.dst (mk h.length) e) (h ++ [b]) → OpW P o (fun a' w'' => Ext w' w'' ∧ K a' w'') a w' := fun w' x hp hr => by
      obtain ⟨hb, w2, L, h2, h3, h4, h5, h6⟩ := opR_new (P := P) (w := w') ht s.sl ho hp
      exact .inl ⟨_, w2, h6, h2, ih _ _ hr _ _ _ (new_st (s.ext x) h2 h3 h4 hb o.dst h5)⟩
    obtain ⟨rfl | rfl, hp, hr⟩ := hr
    · exact kop_mono (md := 0) (K := fun a' w'' => Ext w w'' ∧ K a' w'') (fun _ _ h => h.2) (key w (Ext.refl _) hp hr)
    · exact fun w' x => key w' x hp hr
  | upd p l b =>
    obtain ⟨rfl, hp, hr⟩ := hr
    obtain ⟨hown, hbo, hbb, q, vs, h1, h2⟩ := opR_upd (P := P) ht s.hd s.sl ho hp
    exact .inr (.inl ⟨_, h2, ih _ _ hr _ _ β ⟨Slots.put (s.sl.mono (by rw [hset_length]; exact Nat.le_refl _) fun _ _ => rfl) o.dst fun _ => ⟨trivial, rfl⟩, s.hd.upd hown h1 hbb hbo, s.sn.upd hown hbo q vs⟩⟩)
  | call f args =>
    have chk : ∀ {r : List Nat}, ((knownL args && (locOk r h && (linL r args && allLt h.length r))) = true) → knownL args = true ∧ locOk r h = true ∧ linL r args = true ∧ ∀ l ∈ r, l < h.length := fun c => by
      simp only [Bool.and_eq_true] at c
      exact ⟨c.1, c.2.1, c.2.2.1, (allLt_iff _ _).1 c.2.2.2⟩
    have rd : ∀ {r : List Nat}, ((knownL args && (locOk r h && (linL r args && allLt h.length r))) = true) → CallR P R X.n f (renL (idx r) args) (roL (locH r h r)) r o.dst its e h → ∀ w', Ext w w' → OpW P o (fun a' w'' => Ext w' w'' ∧ K a' w'') a w' := fun {r} c hc w' x => by
      obtain ⟨c1, c2, c3, c4⟩ := chk c
      obtain ⟨Q, cv, hk⟩ := hc
      have s' := s.ext x
      obtain ⟨_, hrun⟩ := opR_call (P := P) s.sl ho c1 cv.enters
      refine .inr (.inr ⟨f, _, w', hrun w', Calls.mono (callR_ok s'.hd s'.sn c2 c3 c4 cv) ?_⟩)
      rintro ee w'' ⟨v, hh, β', he, hx, hq, hb, A⟩
      exact ⟨_, he, hx, ih _ _ (hk v hh hq) _ _ _ (after_st s' A o.dst hb)⟩
    match md, hr with
    | 0, hr =>
      obtain ⟨c, hc | hc⟩ := hr
      · exact kop_mono (md := 0) (K := fun a' w'' => Ext w w'' ∧ K a' w'') (fun _ _ h => h.2) (rd c hc w (Ext.refl _))
      · obtain ⟨c1, c2, c3, c4⟩ := chk c
        obtain ⟨Q, cv, hk⟩ := hc
        obtain ⟨_, hrun⟩ := opR_call (P := P) s.sl ho c1 cv.enters
        refine .inr (.inr ⟨f, _, w, hrun w, Calls.mono (callG_ok s.hd s.sn c2 c3 c4 cv) ?_⟩)
        rintro ee w'' ⟨v, hh, β', he, hq, hb, A⟩
        exact ⟨_, he, ih _ _ (hk v hh hq) _ _ _ (after_st s A o.dst hb)⟩
    | 3, hr => exact fun w' x => rd hr.1 hr.2 w' x
    | 2, hr =>
      obtain ⟨c, v, hv, cv, hk⟩ := hr
      simp only [Bool.and_eq_true] at c hv
      obtain ⟨_, hrun⟩ := opR_call (P := P) s.sl ho c.1 cv.enters
      have hH : ∀ w', Holds w' β [] := fun w' => ⟨fun l => ⟨fun c => c.elim, trivial, fun i j v hv => (by cases hv), fun c => (by cases c)⟩, fun l m c => c.elim, fun l => trivial⟩
      refine ⟨f, _, den β v, hrun, fun w' x => Calls.mono (cv.calls w' β (hH w')) ?_, ih _ _ hk _ _ _ (s.put o.dst fun _ => ⟨(lin_nil hv.2 β β h.length).1, rfl⟩)⟩
      rintro ee w'' ⟨v', hh, β', rfl, ⟨rfl, rfl⟩, H2, s2, _⟩
      exact ⟨by rw [(lin_nil hv.2 β' β 0).2], ⟨s2.os, s2.tape, s2.output, s2.size, fun b hb => s2.frame b hb fun l hl => (by cases hl)⟩⟩
    | 1, hr => exact hr.elim
    | n + 4, hr => omega
  | app _ _ _ _ _ _ _ _ _ => exact hr.elim
  | bad => exact hr.elim

theorem wid_ok (ht : TabOk P X.tab) {R : Run} {its : List Item} {K : Act → World → Prop} (ih : ∀ e' h', R its e' h' → ∀ a' w' β', St X w0 β0 h0 a' e' h' w' β' → K a' w')
    {md : Nat} {o : Oper} {e : Env} {h : List Blk} {b : Nat} (ho : opR X.tab e h o.op = .wid b)
    (hr : WidN R X.n md b o.dst its e h)
    {a : Act} {w : World} {β : Nat → Loc} (s : St X w0 β0 h0 a e h w β) (hmd : md ≤ 3) : KOp P md o K a w := by
  have hrun := opR_wid (P := P) ht s.sl ho
  rcases hr with ⟨hno, hp, hr⟩ | ⟨hmd0, hr⟩
  · have h1 := fun w' => hrun w' _ _ (hp P w')
    have h2 : ∀ w', Ext w w' → K (a.put o.dst (.float .f64 (fwide b))) w' := fun w' x => ih _ _ hr _ _ _ ((s.ext x).put o.dst fun _ => ⟨trivial, rfl⟩)
    unfold KOp
    split
    · exact .inl ⟨_, w, h1 w, h2 w (Ext.refl _)⟩
    · exact ⟨_, fun w' _ => h1 w', h2 w (Ext.refl _)⟩
    · exact absurd rfl hno
    · exact fun w' x => .inl ⟨_, w', h1 w', Ext.refl _, h2 w' x⟩
  · have key : ∀ w', Ext w w' → OpW P o (fun a' w'' => Ext w' w'' ∧ K a' w'') a w' := fun w' x => by
      obtain ⟨c, w2, h1, h2, h3⟩ := wid_run b P w'
      exact .inl ⟨_, w2, hrun w' _ _ h1, h3, ih _ _ (hr c h2) _ _ _ (((s.ext x).ext h3).put o.dst fun _ => ⟨trivial, rfl⟩)⟩
    rcases hmd0 with rfl | rfl
    · exact kop_mono (md := 0) (K := fun a' w'' => Ext w w'' ∧ K a' w'') (fun _ _ h => h.2) (key w (Ext.refl _))
    · exact fun w' x => key w' x
theorem wanted_of {n m : Nat} {β : Nat → Loc} {a : Act} {e : Env} (s : Slots n m β a e) {all : List Oper} {o : Oper} {g : Nat} {want : Bool} (hg : o.guard = some (g, want)) {sl : Nat} (hd : dstOf all g = some sl) {v : SV} (hl : look e sl = v) (hk : v.known = true) :
    Region.wanted o (yielded all.toArray a.tmps) = (match den β v with | .bool b => b == want | _ => false) := by
  have h1 := s.ag sl (by rw [hl]; exact hk)
  rw [hl] at h1
  unfold Region.wanted
  rw [hg]
  simp only
  have hd2 : (all.toArray[g]?).bind (·.dst) = some sl := by
    unfold dstOf at hd
    rw [rget_eq] at hd
    simp only [List.getElem?_toArray]
    cases hq : all[g]? with
    | none => rw [hq] at hd; cases hd
    | some o' => rw [hq] at hd; simpa using hd
  unfold yielded
  rw [hd2]
  simp only [Option.bind_some]
  have h2 : a.tmps[sl]?.getD undef = den β v := by simpa using h1.2
  cases hq : a.tmps[sl]? with
  | none =>
    rw [hq] at h2
    simp only [Option.getD_none] at h2
    rw [← h2]; simp [undef]
  | some u =>
    rw [hq] at h2
    simp only [Option.getD_some] at h2
    rw [← h2]
    cases u <;> simp

theorem least {p : Nat → Prop} (h : ∃ n, p n) : ∃ n, p n ∧ ∀ m, p m → n ≤ m := by
  obtain ⟨n, hn⟩ := h
  induction n using Nat.strongRecOn with
  | _ n ih =>
    by_cases c : ∃ m, m < n ∧ p m
    · obtain ⟨m, h1, h2⟩ := c; exact ih m h1 h2
    · refine ⟨n, hn, fun m hm => ?_⟩
      rcases Nat.lt_or_ge m n with d | d
      · exact absurd ⟨m, d, hm⟩ c
      · exact d

theorem run_ok (ht : TabOk P X.tab) (hm : P.follows .mixedOrders = true) (hn : X.n0 = h0.length) (hF : ∀ a e h w β, St X w0 β0 h0 a e h w β → X.F e h → Fin a w) :
    ∀ (k : Nat) (its : List Item) (e : Env) (h : List Blk), run P X k its e h → ∀ a w β, St X w0 β0 h0 a e h w β → kont P (SJ X w0 β0 h0) Fin its .normal a w
  | 0, _, _, _, hr, _, _, _, _ => hr.elim
  | k + 1, its, e, h, hr, a, w, β, s => by
    have ih := run_ok ht hm hn hF k
    cases its with
    | nil => exact hF a e h w β s hr
    | cons it r =>
      cases it with
      | code c =>
        replace hr : stCode P X (run P X k) c r e h := hr
        cases c <;> simp only [stCode] at hr
        case skip => exact wp_skip (ih r e h hr a w β s)
        case seq x y =>
          refine wp_seq (wp_mono (ih _ e h hr a w β s) fun ex a' w' q => ?_)
          cases ex <;> exact q
        case cond c x y =>
          split at hr
          · rename_i t hc
            have he := (s.sl.ev (x := c) (by rw [hc]; rfl)).2
            rw [hc] at he
            exact wp_cond_split he (fun ht' => ih _ e h (hr.1 ht') a w β s) (fun hf' => ih _ e h (hr.2 hf') a w β s)
          · exact hr.elim
        case block id c =>
          exact wp_block (ih _ e h hr a w β s)
        case exit id =>
          split at hr
          · rename_i hb
            exact wp_exit (kont_exit P _ Fin r hb (ih _ e h hr a w β s))
          · exact hr.elim
        case ret => exact wp_ret (kont_ret P _ Fin r (hF a e h w β s hr))
        case loop c =>
          obtain ⟨σ, I, m, car, hp, s0, hlen, h1, hcov, hbody⟩ := hr
          let rel : Act → World → σ → Prop := fun a w s => I s ∧ ∃ β, St X w0 β0 h0 a (car s) (hp s) w β
          have hex : ∀ a w, (∃ s, rel a w s) → ∃ n, ∃ s, rel a w s ∧ m s = n := fun a w ⟨s, hs⟩ => ⟨m s, s, hs, rfl⟩
          classical
          let μ : Act → World → Nat := fun a w => if hx : ∃ s, rel a w s then (least (hex a w hx)).choose else 0
          refine wp_loop (fun a w => ∃ s, rel a w s) μ ⟨s0, h1, β, s.cov hcov (by have := hlen s0; omega)⟩ fun a' w' hx => ?_
          obtain ⟨⟨s1, ⟨hI, β', s'⟩, hms⟩, _⟩ := (least (hex a' w' hx)).choose_spec
          refine wp_mono (ih _ _ _ (hbody s1 hI) a' w' β' s') fun ex a2 w2 q => ?_
          cases ex <;> try exact q
          obtain ⟨β2, e2, h2, s2, s3, hI3, hlt, hcov3⟩ := q
          obtain ⟨β3, s3'⟩ := s2.covR (by rw [← hn]; exact hcov3) (by have := hlen s3; omega)
          have hx2 : ∃ s, rel a2 w2 s := ⟨s3, hI3, β3, s3'⟩
          refine ⟨hx2, ?_⟩
          have hle : (least (hex a2 w2 hx2)).choose ≤ m s3 := (least (hex a2 w2 hx2)).choose_spec.2 _ ⟨s3, ⟨hI3, β3, s3'⟩, rfl⟩
          simp only [μ, dif_pos hx, dif_pos hx2]
          omega
        case region id ops dr =>
          cases dr
          · have := ih _ e h hr a w β s
            refine wp_region_list ?_
            simpa [kont] using this
          · obtain ⟨hs, hr⟩ := hr
            have := ih _ e h hr a w β s
            simp only [SOk, Bool.and_eq_true, beq_iff_eq] at hs
            refine wp_region_E2 (T := (X.sc id).2) (m := (X.sc id).1.length) hm hs.2.symm ?_
            have h2 := this (by simpa using hs.1.1) (by simpa using hs.1.2)
            simpa using h2
        all_goals exact hr.elim
      | ops all rest =>
        cases rest with
        | nil => exact wpList_nil (P := P) (ops := all.toArray) (ih r e h hr a w β s)
        | cons o os =>
          have := ih (.g 0 all o :: .ops all os :: r) e h hr a w β s
          show wpList P all.toArray (kont P _ Fin r) (o :: os) a w
          unfold wpList
          rcases this with ⟨hw, hk⟩ | ⟨hw, hk⟩
          · rw [if_pos hw]; exact .inl (OpW.wp P hk)
          · rw [hw]; simp only [Bool.false_eq_true, if_false]; exact hk
      | drw all si tail ls =>
        cases si with
        | nil =>
          have := fun w' (x : Ext w w') => ih (.ops all (pickL all tail) :: r) e h hr a w' β (s.ext x)
          intro hsel hok
          simp only [sOkB, Bool.and_eq_true] at hok
          refine ⟨fun j o ho hj => ?_, fun w' x => wpAny_tail tail ls a w' hok.1 (this w' x)⟩
          have hlt : j < all.toArray.size := (Array.getElem?_eq_some_iff.1 ho).1
          have h2 := List.all_eq_true.1 hok.2 j (by simpa using hlt)
          simp only [Bool.or_eq_true, inL_iff] at h2
          exact h2.resolve_left hj
        | cons x si =>
          replace hr : stDrw (run P X k) all (x :: si) tail ls r e h := hr
          simp only [stDrw] at hr
          intro hsel hok
          simp only [sOkB, Bool.and_eq_true, Bool.not_eq_true'] at hok
          obtain ⟨⟨⟨⟨hready, hsome⟩, hnt⟩, hdep⟩, hrest⟩ := hok
          obtain ⟨o, ho⟩ := Option.isSome_iff_exists.1 hsome
          have ho' : rget all x.i = some o := by rw [rget_eq]; simpa using ho
          have hdep' := depB_ok hdep
          have hnsel := Region.noSelect_spec hsel
          have hQ : ∀ (v : Value) c a w, kont P (SJ X w0 β0 h0) Fin r (.panic c) (a.put o.dst v) w → kont P (SJ X w0 β0 h0) Fin r (.panic c) a w := fun v c a w q => absurd q (kont_panic P _ Fin c _ _ r)
          rw [ho'] at hr
          simp only at hr
          cases x with
          | q i =>
            simp only [SI.i, Bool.and_eq_true] at hready hr hrest ho hdep'
            have hg := ih _ e h hr a w β s
            rcases hg with ⟨hw, v, h1, h2⟩ | ⟨hw, h2⟩
            · exact wpE2_first ho hnsel (hQ v) hdep' _ _ _ _ (Region.free_spec ho hready.1) (by simpa using hready.2) (.inl ⟨hw, fun w' hx => .inl ⟨w', h1 w' hx, Ext.refl _⟩⟩) (h2 hsel hrest)
            · exact wpE2_first ho hnsel (hQ undef) hdep' _ _ _ _ (Region.free_spec ho hready.1) (by simpa using hready.2) (.inr ⟨hw, rfl⟩) (h2 hsel hrest)
          | e i =>
            simp only [SI.i, Bool.and_eq_true] at hready hr hrest ho hdep'
            have hg := ih _ e h hr a w β s
            rcases hg with ⟨hw, f, xs, v, h1, h2, h3⟩ | ⟨hw, h2⟩
            · exact wpE2_first ho hnsel (hQ v) hdep' _ _ _ _ (Region.free_spec ho hready.1) (by simpa using hready.2) (.inl ⟨hw, fun w' hx => .inr ⟨f, xs, w', h1 w', h2 w' hx⟩⟩) (h3 hsel hrest)
            · exact wpE2_first ho hnsel (hQ undef) hdep' _ _ _ _ (Region.free_spec ho hready.1) (by simpa using hready.2) (.inr ⟨hw, rfl⟩) (h2 hsel hrest)
          | n i =>
            simp only [SI.i, beq_iff_eq] at hready hr hrest ho hdep'
            refine ⟨by rw [hready]; simp, fun w' hx j hj => ?_⟩
            rw [hready] at hj
            obtain rfl : j = i := by simpa using hj
            have hg := ih _ e h hr a w' β (s.ext hx)
            unfold Go.wpOp
            simp only [ho]
            rcases hg with ⟨hw, hk⟩ | ⟨hw, hk⟩
            · rw [if_pos hw]
              refine .inl (OpW.wp P ?_)
              have h3 : KOp P 0 o (fun a' w'' => Ext w' w'' ∧ kont P (SJ X w0 β0 h0) Fin (Item.drw all si tail (ls.setIfInBounds j true) :: r) Exit.normal a' w'') a w' := hk w' (Ext.refl _)
              have h4 : KOp P 0 o (fun a' w'' => Ext w' w'' ∧ wpE2 P .any all.toArray (kont P (SJ X w0 β0 h0) Fin r) tail si.length (ls.setIfInBounds j true) a' w'') a w' := kop_mono (fun a' w'' h => ⟨h.1, h.2 hsel hrest⟩) h3
              exact h4
            · rw [hw]; simp only [Bool.false_eq_true, if_false]
              exact ⟨Ext.refl _, hk hsel hrest⟩
      | g md all o =>
        replace hr : stG (run P X k) md all o r e h := hr
        unfold stG at hr
        split at hr
        · rename_i hg
          exact .inl ⟨by simp [Region.wanted, hg], ih _ e h hr a w β s⟩
        · rename_i gw hg
          obtain ⟨g, want⟩ := gw
          split at hr
          · rename_i sl hsl
            split at hr
            · rename_i t hl
              have hwd := wanted_of s.sl hg hsl hl rfl
              simp only [den, FV.val] at hwd
              have hkn : ∀ b, t = b → St X w0 β0 h0 a ((sl, .f (.bool b)) :: e) h w β := fun b hb => ⟨s.sl.know (by have := s.sl.ag sl (by rw [hl]; rfl); rw [hl, hb] at this; exact this), s.hd, s.sn⟩
              have hsk : ∀ b, t = b → run P X k (.skp o.dst :: r) ((sl, .f (.bool b)) :: e) h → kont P (SJ X w0 β0 h0) Fin r .normal (a.put o.dst undef) w := fun b hb hr => ih _ _ h hr a w β (hkn b hb)
              cases want <;> cases t <;> simp only [stGd] at hr
              · exact .inl ⟨by rw [hwd]; rfl, ih _ _ h (hr.2 rfl) a w β (hkn false rfl)⟩
              · exact .inr ⟨by rw [hwd]; rfl, hsk true rfl (hr.1 rfl)⟩
              · exact .inr ⟨by rw [hwd]; rfl, hsk false rfl (hr.2 rfl)⟩
              · exact .inl ⟨by rw [hwd]; rfl, ih _ _ h (hr.1 rfl) a w β (hkn true rfl)⟩
            · rename_i l hl
              split at hr
              · have hwd := wanted_of s.sl hg hsl hl rfl
                simp only [den] at hwd
                exact .inr ⟨hwd, ih _ e h hr a w β s⟩
              · exact hr.elim
            · exact hr.elim
          · exact hr.elim
      | skp d => exact ih r _ h hr (a.put d undef) w β (s.put d fun _ => ⟨trivial, rfl⟩)
      | op md o =>
        replace hr : md ≤ 3 ∧ stOp P X (run P X k) md o (opR X.tab e h o.op) r e h := hr
        obtain ⟨hmd, hr⟩ := hr
        cases hq : opR X.tab e h o.op with
        | or q =>
          rw [hq] at hr
          exact op_ok ht (ih r) hq hr s hmd
        | app t x y =>
          rw [hq] at hr
          obtain ⟨rfl, hr⟩ := hr
          cases hap : appR X.tab h t x y with
          | slc p q => rw [hap] at hr; exact app_ok ht s hq hap hr.1 hr.2 (ih r)
          | nil p c m g => rw [hap] at hr; exact appz_ok ht s hq hap hr.1 hr.2 (ih r)
          | bad => rw [hap] at hr; exact hr.elim
        | wid b =>
          rw [hq] at hr
          replace hr : WidN (run P X k) X.n md b o.dst r e h := hr
          exact wid_ok ht (ih r) hq hr s hmd
      | blk id => exact ih r e h hr a w β s
      | inv J => exact ⟨β, e, h, s, hr⟩
end
end Go.Proofs.Ytgdidmcbonkhfab.Vx
