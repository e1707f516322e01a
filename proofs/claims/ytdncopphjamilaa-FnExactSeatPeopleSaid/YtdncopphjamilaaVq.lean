/- Abstract execution: the law: from the run to the call. Over any program. -/
import Derived.Test.YtdncopphjamilaaVp
import Derived.Test.YtdncopphjamilaaVv
namespace Go.Proofs.Ytdncopphjamilaa.Vx
open Go Go.RowKit Fl
set_option linter.unusedVariables false
set_option linter.unusedSimpArgs false

section
variable {P : Program} {X : RX} {w0 : World} {β0 : Nat → Loc} {h0 : List Blk} {Fin : Act → World → Prop}

theorem OpW.mono {K K' : Act → World → Prop} (hk : ∀ a w, K a w → K' a w) {o : Oper} {a : Act} {w : World} (h : OpW P o K a w) : OpW P o K' a w := by
  rcases h with ⟨v, w', h1, h2⟩ | ⟨w', h1, h2⟩ | ⟨f, xs, w1, h1, h2⟩
  · exact .inl ⟨v, w', h1, hk _ _ h2⟩
  · exact .inr (.inl ⟨w', h1, hk _ _ h2⟩)
  · exact .inr (.inr ⟨f, xs, w1, h1, Calls.mono h2 fun e w' ⟨v, he, h⟩ => ⟨v, he, hk _ _ h⟩⟩)
theorem kop_mono {md : Nat} {o : Oper} {K K' : Act → World → Prop} (hk : ∀ a w, K a w → K' a w) {a : Act} {w : World} (h : KOp P md o K a w) : KOp P md o K' a w := by
  have hw : ∀ {K K' : Act → World → Prop} (hk : ∀ a w, K a w → K' a w) {a : Act} {w : World}, OpW P o K a w → OpW P o K' a w := by
    intro K K' hk a w h
    rcases h with ⟨v, w', h1, h2⟩ | ⟨w', h1, h2⟩ | ⟨f, xs, w1, h1, h2⟩
    · exact .inl ⟨v, w', h1, hk _ _ h2⟩
    · exact .inr (.inl ⟨w', h1, hk _ _ h2⟩)
    · exact .inr (.inr ⟨f, xs, w1, h1, Calls.mono h2 fun e w' ⟨v, he, h⟩ => ⟨v, he, hk _ _ h⟩⟩)
  unfold KOp at *
  split at h
  · exact hw hk h
  · obtain ⟨v, h1, h2⟩ := h; exact ⟨v, h1, hk _ _ h2⟩
  · obtain ⟨f, xs, v, h1, h2, h3⟩ := h; exact ⟨f, xs, v, h1, h2, hk _ _ h3⟩
  · exact fun w' x => hw (fun a' w'' h => ⟨h.1, hk _ _ h.2⟩) (h w' x)

theorem linL_nil_bd : ∀ {l : List SV} {n : Nat}, linL [] l = true → bdL n l := by
  intro l
  induction l with
  | nil => intro n _; trivial
  | cons v l ih =>
    intro n h
    simp only [linL, Bool.and_eq_true] at h
    refine ⟨?_, ih h.2⟩
    have := lin_bd v h.1
    have hr := lin_ren (r := []) (fun l hl => by cases hl) v h.1
    have h2 := SV.bd_ren (m := n) (r := lget []) (fun l (hl : l < 0) => absurd hl (by omega)) _ this
    rwa [hr] at h2
theorem lin_nil {v : SV} (h : v.lin [] = true) (β β' : Nat → Loc) (n : Nat) : v.bd n ∧ den β v = den β' v := by
  have h1 : linL [] [v] = true := by simp [linL, h]
  refine ⟨(linL_nil_bd (n := n) h1).1, den_congr (n := 0) (fun l hl => absurd hl (by omega)) v (linL_nil_bd (n := 0) h1).1⟩

theorem op_ok (ht : TabOk P X.tab) {R : Run} {its : List Item} {K : Act → World → Prop} (ih : ∀ e' h', R its e' h' → ∀ a' w' β', St X w0 β0 h0 a' e' h' w' β' → K a' w')
    {md : Nat} {o : Oper} {e : Env} {h : List Blk} {q : OR} (ho : opR X.tab e h o.op = .or q)
    (hr : stOr P X R md o q its e h)
    {a : Act} {w : World} {β : Nat → Loc} (s : St X w0 β0 h0 a e h w β) (hmd : md ≤ 3) : KOp P md o K a w := by
  have val : ∀ (u : Value), (∀ w', Ext w w' → (execOp a.eval o).run P w' = .ok (.value u) w') → (∀ w', Ext w w' → K (a.put o.dst u) w') → (md = 2 → False) → KOp P md o K a w := fun u h1 h2 h3 => by
    unfold KOp
    split
    · exact .inl ⟨u, w, h1 w (Ext.refl _), h2 w (Ext.refl _)⟩
    · exact ⟨u, h1, h2 w (Ext.refl _)⟩
    · exact absurd rfl h3
    · exact fun w' x => .inl ⟨u, w', h1 w' x, Ext.refl _, h2 w' x⟩
  cases q with
  | val p v =>
    obtain ⟨hno, hp, hr⟩ := hr
    obtain ⟨u, h1, h2⟩ := opR_val (P := P) ht s.hd s.sl ho hp
    exact val u (fun w' x => h1 w' (s.hd.ext x)) (fun w' x => ih _ _ hr _ _ _ ((s.ext x).put o.dst h2)) hno
  | pick c x y =>
    obtain ⟨hno, hr⟩ := hr
    obtain ⟨u, h1, h2⟩ := opR_pick (P := P) s.sl ho
    refine val u (fun w' _ => h1 w') (fun w' hx => ?_) hno
    cases c
    · exact ih _ _ (hr.2 rfl) _ _ _ ((s.ext hx).put o.dst h2)
    · exact ih _ _ (hr.1 rfl) _ _ _ ((s.ext hx).put o.dst h2)
  | new p b mk =>
    have key : ∀ w', Ext w w' → p → R its (put X.n o.dst (mk h.length) e) (h ++ [b]) → OpW P o (fun a' w'' => Ext w' w'' ∧ K a' w'') a w' := fun w' x hp hr => by
      obtain ⟨hb, w2, L, h2, h3, h4, h5, h6⟩ := opR_new (P := P) (w := w') ht s.sl ho hp
      exact .inl ⟨_, w2, h6, h2, ih _ _ hr _ _ _ (new_st (s.ext x) h2 h3 h4 hb o.dst h5)⟩
    obtain ⟨rfl | rfl, hp, hr⟩ := hr
    · exact kop_mono (md := 0) (K := fun a' w'' => Ext w w'' ∧ K a' w'') (fun _ _ h => h.2) (key w (Ext.refl _) hp hr)
    · exact fun w' x => key w' x hp hr
  | upd p l b =>
    obtain ⟨rfl, hp, hr⟩ := hr
    obtain ⟨hown, hbo, hbb, q, vs, h1, h2⟩ := opR_upd (P := P) ht s.hd s.sl ho hp
    exact .inr (.inl ⟨_, h2, ih _ _ hr _ _ β ⟨Slots.put (s.sl.mono (by rw [hset_length]; exact Nat.le_refl _) fun _ _ => rfl) o.dst fun _ => ⟨trivial, rfl⟩, s.hd.upd hown h1 hbb hbo, s.sn.upd hown hbo q vs⟩⟩)
  | call f args =>
    have chk : ∀ {r : List Nat}, ((knownL args && (locOk r h && (linL r args && allLt h.length r))) = true) → knownL args = true ∧ locOk r h = true ∧ linL r args = true ∧ ∀ l ∈ r, l < h.length := fun c => by
      simp only [Bool.and_eq_true] at c
      exact ⟨c.1, c.2.1, c.2.2.1, (allLt_iff _ _).1 c.2.2.2⟩
    have rd : ∀ {r : List Nat}, ((knownL args && (locOk r h && (linL r args && allLt h.length r))) = true) → CallR P R X.n f (renL (idx r) args) (roL (locH r h r)) r o.dst its e h → ∀ w', Ext w w' → OpW P o (fun a' w'' => Ext w' w'' ∧ K a' w'') a w' := fun {r} c hc w' x => by
      obtain ⟨c1, c2, c3, c4⟩ := chk c
      obtain ⟨Q, cv, hk⟩ := hc
      have s' := s.ext x
      obtain ⟨_, hrun⟩ := opR_call (P := P) s.sl ho c1 cv.enters
      refine .inr (.inr ⟨f, _, w', hrun w', Calls.mono (callR_ok s'.hd s'.sn c2 c3 c4 cv) ?_⟩)
      rintro ee w'' ⟨v, hh, β', he, hx, hq, hb, A⟩
      exact ⟨_, he, hx, ih _ _ (hk v hh hq) _ _ _ (after_st s' A o.dst hb)⟩
    match md, hr with
    | 0, hr =>
      obtain ⟨c, hc | hc⟩ := hr
      · exact kop_mono (md := 0) (K := fun a' w'' => Ext w w'' ∧ K a' w'') (fun _ _ h => h.2) (rd c hc w (Ext.refl _))
      · obtain ⟨c1, c2, c3, c4⟩ := chk c
        obtain ⟨Q, cv, hk⟩ := hc
        obtain ⟨_, hrun⟩ := opR_call (P := P) s.sl ho c1 cv.enters
        refine .inr (.inr ⟨f, _, w, hrun w, Calls.mono (callG_ok s.hd s.sn c2 c3 c4 cv) ?_⟩)
        rintro ee w'' ⟨v, hh, β', he, hq, hb, A⟩
        exact ⟨_, he, ih _ _ (hk v hh hq) _ _ _ (after_st s A o.dst hb)⟩
    | 3, hr => exact fun w' x => rd hr.1 hr.2 w' x
    | 2, hr =>
      obtain ⟨c, v, hv, cv, hk⟩ := hr
      simp only [Bool.and_eq_true] at c hv
      obtain ⟨_, hrun⟩ := opR_call (P := P) s.sl ho c.1 cv.enters
      have hH : ∀ w', Holds w' β [] := fun w' => ⟨fun l => ⟨fun c => c.elim, trivial, fun i j v hv => (by cases hv), fun c => (by cases c)⟩, fun l m c => c.elim, fun l => trivial⟩
      refine ⟨f, _, den β v, hrun, fun w' x => Calls.mono (cv.calls w' β (hH w')) ?_, ih _ _ hk _ _ _ (s.put o.dst fun _ => ⟨(lin_nil hv.2 β β h.length).1, rfl⟩)⟩
      rintro ee w'' ⟨v', hh, β', rfl, ⟨rfl, rfl⟩, H2, s2, _⟩
      exact ⟨by rw [(lin_nil hv.2 β' β 0).2], ⟨s2.os, s2.tape, s2.output, s2.size, fun b hb => s2.frame b hb fun l hl => (by cases hl)⟩⟩
    | 1, hr => exact hr.elim
    | n + 4, hr => omega
  | app _ _ _ _ _ _ _ _ _ => exact hr.elim
  | bad => exact hr.elim

theorem wid_ok (ht : TabOk P X.tab) {R : Run} {its : List Item} {K : Act → World → Prop} (ih : ∀ e' h', R its e' h' → ∀ a' w' β', St X w0 β0 h0 a' e' h' w' β' → K a' w')
    {md : Nat} {o : Oper} {e : Env} {h : List Blk} {b : Nat} (ho : opR X.tab e h o.op = .wid b)
    (hr : WidN R X.n md b o.dst its e h)
    {a : Act} {w : World} {β : Nat → Loc} (s : St X w0 β0 h0 a e h w β) (hmd : md ≤ 3) : KOp P md o K a w := by
  have hrun := opR_wid (P := P) ht s.sl ho
  rcases hr with ⟨hno, hp, hr⟩ | ⟨hmd0, hr⟩
  · have h1 := fun w' => hrun w' _ _ (hp P w')
    have h2 : ∀ w', Ext w w' → K (a.put o.dst (.float .f64 (fwide b))) w' := fun w' x => ih _ _ hr _ _ _ ((s.ext x).put o.dst fun _ => ⟨trivial, rfl⟩)
    unfold KOp
    split
    · exact .inl ⟨_, w, h1 w, h2 w (Ext.refl _)⟩
    · exact ⟨_, fun w' _ => h1 w', h2 w (Ext.refl _)⟩
    · exact absurd rfl hno
    · exact fun w' x => .inl ⟨_, w', h1 w', Ext.refl _, h2 w' x⟩
  · have key : ∀ w', Ext w w' → OpW P o (fun a' w'' => Ext w' w'' ∧ K a' w'') a w' := fun w' x => by
      obtain ⟨c, w2, h1, h2, h3⟩ := wid_run b P w'
      exact .inl ⟨_, w2, hrun w' _ _ h1, h3, ih _ _ (hr c h2) _ _ _ (((s.ext x).ext h3).put o.dst fun _ => ⟨trivial, rfl⟩)⟩
    rcases hmd0 with rfl | rfl
    · exact kop_mono (md := 0) (K := fun a' w'' => Ext w w'' ∧ K a' w'') (fun _ _ h => h.2) (key w (Ext.refl _))
    · exact fun w' x => key w' x
theorem wanted_of {n m : Nat} {β : Nat → Loc} {a : Act} {e : Env} (s : Slots n m β a e) {all : List Oper} {o : Oper} {g : Nat} {want : Bool} (hg : o.guard = some (g, want)) {sl : Nat} (hd : dstOf all g = some sl) {v : SV} (hl : look e sl = v) (hk : v.known = true) :
    Region.wanted o (yielded all.toArray a.tmps) = (match den β v with | .bool b => b == want | _ => false) := by
  have h1 := s.ag sl (by rw [hl]; exact hk)
  rw [hl] at h1
  unfold Region.wanted
  rw [hg]
  simp only
  have hd2 : (all.toArray[g]?).bind (·.dst) = some sl := by
    unfold dstOf at hd
    rw [rget_eq] at hd
    simp only [List.getElem?_toArray]
    cases hq : all[g]? with
    | none => rw [hq] at hd; cases hd
    | some o' => rw [hq] at hd; simpa using hd
  unfold yielded
  rw [hd2]
  simp only [Option.bind_some]
  have h2 : a.tmps[sl]?.getD undef = den β v := by simpa using h1.2
  cases hq : a.tmps[sl]? with
  | none =>
    rw [hq] at h2
    simp only [Option.getD_none] at h2
    rw [← h2]; simp [undef]
  | some u =>
    rw [hq] at h2
    simp only [Option.getD_some] at h2
    rw [← h2]
    cases u <;> simp

theorem Since.trans {w0 : World} {β0 : Nat → Loc} {h0 : List Blk} {w1 : World} {β1 : Nat → Loc} {h1 : List Blk} {w : World} {β : Nat → Loc} {h : List Blk} (s : Since w0 β0 h0 w1 β1 h1) (c : Since w1 β1 h1 w β h) : Since w0 β0 h0 w β h := by
  have ow : ∀ l, (hget h1 l).own = true → w0.heap.size ≤ (β1 l).b ∨ ∃ l0, (hget h0 l0).own = true ∧ (β0 l0).b = (β1 l).b := fun l hl => s.own l hl
  refine ⟨c.os.trans s.os, c.tape.trans s.tape, c.output.trans s.output, Nat.le_trans s.size c.size, Nat.le_trans s.len c.len, fun l hl => (c.same l (Nat.lt_of_lt_of_le hl s.len)).trans (s.same l hl), fun b hb hn => ?_, fun l hl hv => s.liv l hl (c.liv l (Nat.lt_of_lt_of_le hl s.len) hv), fun l hl hv => s.ownk l hl (c.ownk l (Nat.lt_of_lt_of_le hl s.len) hv), fun l hl hv => ?_⟩
  · rw [c.frame b (Nat.lt_of_lt_of_le hb s.size) fun l ho => ?_]
    · exact s.frame b hb hn
    · rcases ow l ho with d | ⟨l0, o0, e0⟩
      · omega
      · rw [← e0]; exact hn l0 o0
  · rcases Nat.lt_or_ge l h1.length with d | d
    · rw [c.same l d]
      exact s.fresh l hl (c.liv l d hv)
    · rcases c.fresh l d hv with e | ⟨l1, o1, e1⟩
      · left; have := s.size; omega
      · rw [← e1]; exact ow l1 o1
theorem keepB_length (nb : Nat) (B : List Nat) : ∀ (i : Nat) (h : List Blk), (keepB nb B i h).length = h.length
  | _, [] => rfl
  | i, b :: r => by simp [keepB, keepB_length nb B (i + 1) r]
theorem keepB_get (nb : Nat) (B : List Nat) : ∀ (i : Nat) (h : List Blk) (l : Nat), hget (keepB nb B i h) l = if i + l < nb ∧ i + l ∉ B then hget h l else .dead
  | _, [], l => by simp [keepB, hget]
  | i, b :: r, 0 => by
    simp only [keepB, hget, Nat.add_zero]
    by_cases c : i < nb ∧ i ∉ B
    · have : inL i B = false := by rw [Bool.eq_false_iff]; intro d; exact c.2 ((inL_iff _ _).1 d)
      simp [c, this]
    · rw [if_neg c]
      by_cases d : i < nb
      · have : inL i B = true := (inL_iff _ _).2 (Classical.not_not.1 fun e => c ⟨d, e⟩)
        simp [this]
      · simp [d]
  | i, b :: r, l + 1 => by
    simp only [keepB, hget]
    rw [keepB_get nb B (i + 1) r l, show i + 1 + l = i + (l + 1) from by omega]
theorem Holds.kept {w w' : World} {β : Nat → Loc} {h : List Blk} {KP : Nat → Prop} {nb : Nat} {B : List Nat} (H : Holds w β h) (k : Keep KP w w') (hk : ∀ l, l < nb → l ∉ B → (hget h l).live → KP (β l).b) : Holds w' β (keepB nb B 0 h) := by
  have key := keepB_get nb B 0 h
  simp only [Nat.zero_add] at key
  have lv : ∀ l, (hget (keepB nb B 0 h) l).live → (l < nb ∧ l ∉ B) ∧ (hget h l).live := fun l hl => by
    rw [key] at hl
    split at hl
    · exact ⟨by assumption, hl⟩
    · exact hl.elim
  refine ⟨fun l => ?_, fun l m hl hm hne ho => ?_, fun l => ?_⟩
  · rw [key]
    split
    · rename_i c
      by_cases hv : (hget h l).live
      · have ok := H.ok l
        have hblk := k.2 _ (hk l c.1 c.2 hv) (ok.there hv)
        refine ⟨fun _ => Nat.lt_of_lt_of_le (ok.there hv) k.1, ok.fit, fun i j u hu hkn => ⟨(ok.cell i j u hu hkn).1, (World.cell?_of_block (w := w) (w' := w') hblk).trans (ok.cell i j u hu hkn).2⟩, fun ho => ⟨(ok.wr ho).1, fun i j hr => ?_⟩⟩
        have := (ok.wr ho).2 i j hr
        exact ⟨by rw [World.cell?_of_block (w := w) (w' := w') hblk]; exact this.1, by rw [World.frozen?_of_block (w := w) (w' := w') hblk]; exact this.2⟩
      · have : hget h l = .dead := by
          generalize hget h l = b at *
          cases b <;> first | rfl | exact absurd trivial hv
        rw [this]
        exact ⟨fun c => c.elim, trivial, fun i j v hv => (by cases hv), fun c => (by cases c)⟩
    · exact ⟨fun c => c.elim, trivial, fun i j v hv => (by cases hv), fun c => (by cases c)⟩
  · obtain ⟨c1, l1⟩ := lv l hl
    obtain ⟨c2, l2⟩ := lv m hm
    rw [key, key, if_pos c1, if_pos c2] at ho
    exact H.inj l m l1 l2 hne ho
  · rw [key, keepB_length]
    split
    · exact H.bd l
    · trivial
theorem gB_ok {all : List Oper} {o : Oper} {e : Env} {rn sk : Env → Prop} (hg : gB all o e rn sk) {a : Act} {h : List Blk} {w : World} {β : Nat → Loc} (s : St X w0 β0 h0 a e h w β) :
    (Region.wanted o (yielded all.toArray a.tmps) = true ∧ ∃ e', rn e' ∧ St X w0 β0 h0 a e' h w β) ∨ (Region.wanted o (yielded all.toArray a.tmps) = false ∧ ∃ e', sk e' ∧ St X w0 β0 h0 a e' h w β) := by
  unfold gB at hg
  split at hg
  · rename_i hn
    exact .inl ⟨by simp [Region.wanted, hn], e, hg, s⟩
  · rename_i gw hgw
    obtain ⟨g, want⟩ := gw
    split at hg
    · rename_i sl hsl
      unfold gV at hg
      split at hg
      · rename_i t hl
        have hwd := wanted_of s.sl hgw hsl hl rfl
        simp only [den, FV.val] at hwd
        have hkn : ∀ b, t = b → St X w0 β0 h0 a ((sl, .f (.bool b)) :: e) h w β := fun b hb => ⟨s.sl.know (by have := s.sl.ag sl (by rw [hl]; rfl); rw [hl, hb] at this; exact this), s.hd, s.sn⟩
        cases want <;> cases t <;> simp only at hg
        · exact .inl ⟨by rw [hwd]; rfl, _, hg.2 rfl, hkn false rfl⟩
        · exact .inr ⟨by rw [hwd]; rfl, _, hg.1 rfl, hkn true rfl⟩
        · exact .inr ⟨by rw [hwd]; rfl, _, hg.2 rfl, hkn false rfl⟩
        · exact .inl ⟨by rw [hwd]; rfl, _, hg.1 rfl, hkn true rfl⟩
      · rename_i hl
        have hwd := wanted_of s.sl hgw hsl hl rfl
        simp only [den] at hwd
        exact .inr ⟨hwd, e, hg, s⟩
      · exact hg.elim
    · exact hg.elim
theorem appB_ok (ht : TabOk P X.tab) {a : Act} {e : Env} {h : List Blk} {w : World} {β : Nat → Loc} (s : St X w0 β0 h0 a e h w β) {o : Oper} {t : Nat} {x y : SV} (ho : opR X.tab e h o.op = .app t x y) {K : Env → List Blk → Prop}
    (hr : AppB K X.n o.dst (appR X.tab h t x y) x e h) {K' : Act → World → Prop} (ih : ∀ e' h', K e' h' → ∀ a' w' β', St X w0 β0 h0 a' e' h' w' β' → K' a' w') : OpW P o (fun a' w'' => Ext w w'' ∧ K' a' w'') a w := by
  cases hap : appR X.tab h t x y with
  | bad => rw [hap] at hr; exact hr.elim
  | slc p q =>
    rw [hap] at hr
    obtain ⟨hp, hr⟩ := hr
    obtain ⟨el, qi, z, ay, cy, F⟩ := appR_facts ht s.hd hap hp
    have hxk : x.known = true := by rw [F.hx]; rfl
    have hyk : y.known = true := by
      refine kn fun c => ?_
      have := F.hy
      rw [c] at this; simp [den, undef] at this
    obtain ⟨ty, hxb, hrun⟩ := opR_app (P := P) s.sl ho hxk hyk
    rcases hr with ⟨hg, hr⟩ | ⟨⟨hm, hlen⟩, hr⟩
    · obtain ⟨cap', w', L, h1, h2, h3, h4, h5⟩ := app_grow s.hd F (ty := ty) hg
      exact .inl ⟨_, w', by rw [hrun, h5]; rfl, h2, ih _ _ (hr cap' h1) _ _ _ (new_st s h2 h3 h4 trivial o.dst (v := .slc h.length 0 (q.len + q.m) cap') (Nat.lt_succ_self _))⟩
    · by_cases hlc : q.len ≤ q.cap
      · have := app_zero (P := P) (w := w) F (ty := ty) hm hlc hlen
        exact .inl ⟨_, w, by rw [hrun, this]; rfl, Ext.refl _, ih _ _ hr _ _ _ (s.put o.dst fun _ => ⟨hxb, rfl⟩)⟩
      · omega
  | nil p c m g =>
    rw [hap] at hr
    obtain ⟨hp, hr⟩ := hr
    exact appz_ok ht s ho hap hp (R := fun _ e h => K e h) (its := []) hr ih
/-- Append in place or by growing: what is apart from the old slice stays as it was. -/
theorem appI_ok (ht : TabOk P X.tab) {a : Act} {e : Env} {h : List Blk} {w : World} {β : Nat → Loc} (s : St X w0 β0 h0 a e h w β) {o : Oper} {t : Nat} {x y : SV} (ho : opR X.tab e h o.op = .app t x y) {K : Env → List Blk → Prop} {p : Prop} {q : AppIn} (hap : appR X.tab h t x y = .slc p q) (hp : p)
    (hown : q.own = true) (hcb : q.cap ≤ q.cb) {Z : Nat → Prop} (hZ : ∀ l', l' < h0.length → Z l' → (hget h0 l').live → (β0 l').b ≠ (β q.l).b)
    (hr : ∀ cap', q.len + q.m ≤ cap' → K (put X.n o.dst (.slc h.length 0 (q.len + q.m) cap') e) (hset h q.l .dead ++ [.rows (q.len + q.m) cap' q.c (catR q.f q.len q.g) true])) {K' : Act → World → Prop} (ih : ∀ e' h', K e' h' → ∀ a' w' β', St X w0 β0 h0 a' e' h' w' β' → K' a' w') :
    OpW P o (fun a' w'' => Keep (fun b => ∃ l, l < h0.length ∧ Z l ∧ (hget h0 l).live ∧ (β0 l).b = b) w w'' ∧ K' a' w'') a w := by
  obtain ⟨el, qi, z, ay, cy, F⟩ := appR_facts ht s.hd hap hp
  have hxk : x.known = true := by rw [F.hx]; rfl
  have hyk : y.known = true := by
    refine kn fun c => ?_
    have := F.hy
    rw [c] at this; simp [den, undef] at this
  obtain ⟨ty, hxb, hrun⟩ := opR_app (P := P) s.sl ho hxk hyk
  have hblk : (hget h q.l).own = true := by rw [F.blk]; exact hown
  have hlt := hget_lt (Blk.own_live hblk)
  by_cases hg : q.len + q.m ≤ q.cap
  · obtain ⟨o', vs, h1, h2⟩ := app_room s.hd F (ty := ty) hg hcb hown
    have H1 := s.hd.upd hblk h1 trivial rfl
    have C1 := s.sn.upd hblk (blk := .rows (q.len + q.m) q.cap q.c (catR q.f q.len q.g) true) rfl o' vs
    have hgl : hget (hset h q.l (.rows (q.len + q.m) q.cap q.c (catR q.f q.len q.g) true)) q.l = .rows (q.len + q.m) q.cap q.c (catR q.f q.len q.g) true := by rw [hget_hset, if_pos ⟨rfl, hlt⟩]
    have ho1 : (hget (hset h q.l (.rows (q.len + q.m) q.cap q.c (catR q.f q.len q.g) true)) q.l).own = true := by rw [hgl]; rfl
    have H2 := H1.move ho1
    have C2 := C1.move ho1
    rw [hgl, hset_length] at H2 C2
    have hss : ∀ b b' : Blk, ∀ (l : Nat) (h : List Blk), hset (hset h l b) l b' = hset h l b' := by
      intro b b' l h
      induction h generalizing l with
      | nil => rfl
      | cons c h ih => cases l with
        | zero => rfl
        | succ l => simp only [hset, ih]
    rw [hss] at H2 C2
    refine .inl ⟨_, _, by rw [hrun, h2]; rfl, ⟨by rw [size_setCells]; exact Nat.le_refl _, fun b' hb' _ => heap_setCells _ _ ?_ _ _ _⟩, ih _ _ (hr q.cap hg) _ _ _ ⟨Slots.put (s.sl.mono (by rw [List.length_append, hset_length]; simp) fun l hl => (bput_lt hl).symm) o.dst fun _ => ⟨by rw [List.length_append, hset_length]; exact Nat.lt_succ_self _, ?_⟩, H2, C2⟩⟩
    · obtain ⟨l', k1, k2, k3, rfl⟩ := hb'
      exact hZ l' k1 k2 k3
    · simp only [den, bput_self]
  · obtain ⟨cap', w', L, h1, h2, h3, h4, h5⟩ := app_grow s.hd F (ty := ty) (by omega)
    have S1 := new_st s h2 h3 h4 (blk := .rows (q.len + q.m) cap' q.c (catR q.f q.len q.g) true) trivial o.dst (v := .slc h.length 0 (q.len + q.m) cap') (Nat.lt_succ_self _)
    have hs : hset (h ++ [Blk.rows (q.len + q.m) cap' q.c (catR q.f q.len q.g) true]) q.l .dead = hset h q.l .dead ++ [Blk.rows (q.len + q.m) cap' q.c (catR q.f q.len q.g) true] := by
      have : ∀ (h : List Blk) (l : Nat) (s : List Blk), l < h.length → hset (h ++ s) l .dead = hset h l .dead ++ s := by
        intro h
        induction h with
        | nil => intro l s hl; simp at hl
        | cons b h ih => intro l s hl; cases l with
          | zero => rfl
          | succ l => simp only [List.cons_append, hset]; rw [ih l s (by simpa using hl)]
      exact this h q.l _ hlt
    refine .inl ⟨_, w', by rw [hrun, h5]; rfl, Keep.of_ext h2, ih _ _ (hr cap' h1) _ _ (bput β h.length L) ⟨?_, ?_, ?_⟩⟩
    · have := S1.sl
      rw [List.length_append] at this ⊢
      rwa [hset_length]
    · have := S1.hd.kill q.l; rwa [hs] at this
    · have := S1.sn.kill q.l; rwa [hs] at this
/-- Whatever order a region takes that stores as it goes. -/
theorem rB_ok (ht : TabOk P X.tab) {K : Env → List Blk → Prop} {all : List Oper} {B : List Nat} {Q : Exit → Act → World → Prop} (hQ : ∀ c a w, ¬ Q (.panic c) a w) (hsel : Region.noSelect all.toArray = true)
    (hK : ∀ e h, K e h → ∀ a w β, St X w0 β0 h0 a e h w β → Q .normal a w) :
    ∀ (s : SB) (ls : Array Bool) (e : Env) (h : List Blk), rB P X K all h0 B s e h → sbOk all.toArray s ls = true → ∀ a w β, St X w0 β0 h0 a e h w β →
      wpB P all.toArray Q (fun b => ∃ l, l < h0.length ∧ l ∉ B ∧ (hget h0 l).live ∧ (β0 l).b = b) s.dep ls a w := by
  have hQ' : ∀ (d : Option Nat) (v : Value) c a w, Q (.panic c) (a.put d v) w → Q (.panic c) a w := fun d v c a w q => absurd q (hQ _ _ _)
  have hnsel := Region.noSelect_spec hsel
  have hkp : ∀ {a e h w β}, St X w0 β0 h0 a e h w β → ∀ l, l < h0.length → l ∉ B → (hget h l).live → ∃ l', l' < h0.length ∧ l' ∉ B ∧ (hget h0 l').live ∧ (β0 l').b = (β l).b := fun {a e h w β} s l h1 h2 h3 => ⟨l, h1, h2, s.sn.liv l h1 h3, by rw [s.sn.same l h1]⟩
  have apart : ∀ {a : Act} {e : Env} {h : List Blk} {w : World} {β : Nat → Loc} {l : Nat}, (ofB h0.length B l && kpB B 0 h0 h) = true → (hget h l).own = true → St X w0 β0 h0 a e h w β → ∀ l', l' < h0.length → l' ∉ B → (hget h0 l').live → (β0 l').b ≠ (β l).b := by
    intro a e h w β l hch hown s l' k1 k2 k3
    simp only [Bool.and_eq_true] at hch
    have hl' : (hget h l').live := by
      have : ∀ (i : Nat) (hs : List Blk) (j : Nat), kpB B i hs h = true → j < hs.length → i + j ∉ B → (hget hs j).live → (hget h (i + j)).live := by
        intro i hs
        induction hs generalizing i with
        | nil => intro j _ hj; simp at hj
        | cons x hs ih =>
          intro j hkb hj hB hv
          simp only [kpB, Bool.and_eq_true, Bool.or_eq_true] at hkb
          cases j with
          | zero =>
            simp only [Nat.add_zero] at hB ⊢
            rcases hkb.1 with (c | c) | c
            · exact absurd ((inL_iff _ _).1 c) hB
            · simp only [hget] at hv; cases x <;> first | exact hv.elim | (simp [isDead] at c)
            · generalize hget h i = y at *
              cases y <;> first | trivial | (simp [isDead] at c)
          | succ j =>
            have := ih (i + 1) j hkb.2 (by simpa using hj) (by rw [show i + 1 + j = i + (j + 1) from by omega]; exact hB) hv
            rwa [show i + 1 + j = i + (j + 1) from by omega] at this
      have := this 0 h0 l' hch.2 k1 (by rwa [Nat.zero_add]) k3
      rwa [Nat.zero_add] at this
    have hne : l' ≠ l := by
      intro e1; subst e1
      simp only [ofB, Bool.or_eq_true, decide_eq_true_eq] at hch
      rcases hch.1 with c | c
      · omega
      · exact k2 ((inL_iff _ _).1 c)
    rw [← s.sn.same l' k1]
    exact s.hd.inj l' l hl' (Blk.own_live hown) hne (.inr hown)
  -- a single operation that comes by itself
  have one : ∀ {K1 : Env → List Blk → Prop} {K' : Act → World → Prop} (_ : ∀ e h, K1 e h → ∀ a w β, St X w0 β0 h0 a e h w β → K' a w) {o : Oper} {e : Env} {h : List Blk} {a : Act} {w : World} {β : Nat → Loc} (_ : stN P X K1 h0 B o.dst (opR X.tab e h o.op) e h) (_ : St X w0 β0 h0 a e h w β),
      OpW P o (fun a' w'' => Keep (fun b => ∃ l, l < h0.length ∧ l ∉ B ∧ (hget h0 l).live ∧ (β0 l).b = b) w w'' ∧ K' a' w'') a w := by
    intro K1 K' hk o e h a w β hn s
    have viaOr : ∀ q, opR X.tab e h o.op = .or q → stOr P X (kR K1) 3 o q [] e h → OpW P o (fun a' w'' => Keep (fun b => ∃ l, l < h0.length ∧ l ∉ B ∧ (hget h0 l).live ∧ (β0 l).b = b) w w'' ∧ K' a' w'') a w := fun q hq hr => by
      have : KOp P 3 o K' a w := op_ok ht (R := kR K1) (its := []) (fun e' h' hk1 => hk e' h' hk1) hq hr s (by omega)
      exact OpW.mono (fun a' w'' hx => ⟨Keep.of_ext hx.1, hx.2⟩) (this w (Ext.refl _))
    cases hq : opR X.tab e h o.op with
    | wid b =>
      rw [hq] at hn
      have : KOp P 3 o K' a w := wid_ok ht (R := kR K1) (its := []) (fun e' h' hk1 => hk e' h' hk1) hq hn s (by omega)
      exact OpW.mono (fun a' w'' hx => ⟨Keep.of_ext hx.1, hx.2⟩) (this w (Ext.refl _))
    | app t x y =>
      rw [hq] at hn
      rcases hn with hn | hn
      · have := appB_ok (P := P) ht s hq (K := K1) hn (K' := K') fun e' h' hk1 => hk e' h' hk1
        exact OpW.mono (fun a' w'' hx => ⟨Keep.of_ext hx.1, hx.2⟩) this
      · cases hap : appR X.tab h t x y with
        | bad => rw [hap] at hn; exact hn.elim
        | nil p c m g => rw [hap] at hn; exact hn.elim
        | slc p q =>
          rw [hap] at hn
          obtain ⟨hp, ⟨⟨hown, hcb⟩, hch⟩, hr⟩ := hn
          exact appI_ok ht s hq hap hp hown hcb (fun l h1 h2 h3 => apart hch (by obtain ⟨_, _, _, _, _, F⟩ := appR_facts ht s.hd hap hp; rw [F.blk]; exact hown) s l h1 h2 h3) hr (K' := K') fun e' h' hk1 => hk e' h' hk1
    | or q =>
      rw [hq] at hn
      cases q with
      | val p v => exact viaOr _ hq ⟨by decide, hn⟩
      | pick c x y => exact viaOr _ hq ⟨by decide, hn⟩
      | new p b mk => exact viaOr _ hq ⟨.inr rfl, hn⟩
      | call f args => exact viaOr _ hq hn
      | upd p l b =>
        obtain ⟨hch, hp, hr⟩ := hn
        obtain ⟨hown, hbo, hbb, q, vs, h1, h2⟩ := opR_upd (P := P) ht s.hd s.sl hq hp
        refine .inr (.inl ⟨_, h2, ⟨by rw [size_setCells]; exact Nat.le_refl _, fun b' hb' _ => heap_setCells _ _ ?_ _ _ _⟩, hk _ _ hr _ _ β ⟨Slots.put (s.sl.mono (by rw [hset_length]; exact Nat.le_refl _) fun _ _ => rfl) o.dst fun _ => ⟨trivial, rfl⟩, s.hd.upd hown h1 hbb hbo, s.sn.upd hown hbo q vs⟩⟩)
        obtain ⟨l', k1, k2, k3, rfl⟩ := hb'
        exact apart hch hown s l' k1 k2 k3
      | app _ _ _ _ _ _ _ _ _ => exact hn.elim
      | bad => exact hn.elim
  intro s
  induction s with
  | nil =>
    intro ls e h hr hok a w β st
    simp only [sbOk, beq_iff_eq] at hok
    exact ⟨hok, fun w' x => hK e h hr a w' β (st.ext x)⟩
  | q i s ih =>
    intro ls e h hr hok a w β st
    simp only [sbOk, Bool.and_eq_true] at hok
    obtain ⟨⟨⟨hfree, hready⟩, hsome⟩, hrest⟩ := hok
    obtain ⟨o, ho⟩ := Option.isSome_iff_exists.1 hsome
    have ho' : rget all i = some o := by rw [rget_eq]; simpa using ho
    simp only [rB, oB, ho'] at hr
    rcases gB_ok hr st with ⟨hw, e1, hq, s1⟩ | ⟨hw, e1, hq, s1⟩
    · have hlen := keepB_length h0.length B 0 h
      have hsl : Slots X.n (keepB h0.length B 0 h).length β a e1 := by rw [hlen]; exact s1.sl
      have fin : ∀ (u : Value) (e2 : Env), (∀ w', Keep (fun b => ∃ l, l < h0.length ∧ l ∉ B ∧ (hget h0 l).live ∧ (β0 l).b = b) w w' → (execOp a.eval o).run P w' = .ok (.value u) w') → rB P X K all h0 B s e2 h → St X w0 β0 h0 (a.put o.dst u) e2 h w β → wpB P all.toArray Q (fun b => ∃ l, l < h0.length ∧ l ∉ B ∧ (hget h0 l).live ∧ (β0 l).b = b) (s.dep + 1) ls a w := fun u e2 h1 h2 h3 =>
        wpB_first ho hnsel (hQ' _ u) _ _ _ _ (Region.free_spec ho hfree) (by simpa using hready) (.inl ⟨hw, fun w' k => .inl ⟨w', h1 w' k, Ext.refl _⟩⟩) (ih _ _ _ h2 hrest _ _ _ h3)
      cases hop : opR X.tab e1 (keepB h0.length B 0 h) o.op with
      | wid b =>
        rw [hop] at hq
        obtain ⟨hp, hr2⟩ := hq
        have hrun := opR_wid (P := P) ht hsl hop
        exact fin _ _ (fun w' _ => hrun w' _ _ (hp P w')) hr2 (s1.put o.dst fun _ => ⟨trivial, rfl⟩)
      | app t x y => rw [hop] at hq; exact hq.elim
      | or q =>
        rw [hop] at hq
        cases q with
        | val p v =>
          obtain ⟨hp, hr2⟩ := hq
          obtain ⟨u, h1, h2⟩ := opR_val (P := P) ht (s1.hd.kept (Keep.refl (fun b => ∃ l, l < h0.length ∧ l ∉ B ∧ (hget h0 l).live ∧ (β0 l).b = b) _) (hkp s1)) hsl hop hp
          exact fin u _ (fun w' k => h1 w' (s1.hd.kept k (hkp s1))) hr2 (s1.put o.dst (by rw [hlen] at h2; exact h2))
        | pick c x y =>
          obtain ⟨u, h1, h2⟩ := opR_pick (P := P) hsl hop
          rw [hlen] at h2
          cases c
          · exact fin u _ (fun w' k => h1 w') (hq.2 rfl) (s1.put o.dst h2)
          · exact fin u _ (fun w' k => h1 w') (hq.1 rfl) (s1.put o.dst h2)
        | _ => exact hq.elim
    · exact wpB_first ho hnsel (hQ' _ undef) _ _ _ _ (Region.free_spec ho hfree) (by simpa using hready) (.inr ⟨hw, rfl⟩) (ih _ _ _ hq hrest _ _ _ (s1.put o.dst fun _ => ⟨trivial, rfl⟩))
  | e i s ih =>
    intro ls e h hr hok a w β st
    simp only [sbOk, Bool.and_eq_true] at hok
    obtain ⟨⟨⟨hfree, hready⟩, hsome⟩, hrest⟩ := hok
    obtain ⟨o, ho⟩ := Option.isSome_iff_exists.1 hsome
    have ho' : rget all i = some o := by rw [rget_eq]; simpa using ho
    simp only [rB, oB, ho'] at hr
    rcases gB_ok hr st with ⟨hw, e1, hq, s1⟩ | ⟨hw, e1, hq, s1⟩
    · unfold stE at hq
      split at hq
      · rename_i f args hop
        obtain ⟨c, v, hv, cv, hk⟩ := hq
        simp only [Bool.and_eq_true] at c hv
        obtain ⟨_, hrun⟩ := opR_call (P := P) s1.sl hop c.1 cv.enters
        have hH : ∀ w', Holds w' β [] := fun w' => ⟨fun l => ⟨fun c => c.elim, trivial, fun i j v hv => (by cases hv), fun c => (by cases c)⟩, fun l m c => c.elim, fun l => trivial⟩
        refine wpB_first ho hnsel (hQ' _ (den β v)) _ _ _ _ (Region.free_spec ho hfree) (by simpa using hready) (.inl ⟨hw, fun w' k => .inr ⟨f, _, w', hrun w', Calls.mono (cv.calls w' β (hH w')) ?_⟩⟩) (ih _ _ _ hk hrest _ _ _ (s1.put o.dst fun _ => ⟨(lin_nil hv.2 β β h.length).1, rfl⟩))
        rintro ee w'' ⟨v', hh, β', rfl, ⟨rfl, rfl⟩, H2, s2, _⟩
        exact ⟨by rw [(lin_nil hv.2 β' β 0).2], ⟨s2.os, s2.tape, s2.output, s2.size, fun b hb => s2.frame b hb fun l hl => (by cases hl)⟩⟩
      · exact hq.elim
    · exact wpB_first ho hnsel (hQ' _ undef) _ _ _ _ (Region.free_spec ho hfree) (by simpa using hready) (.inr ⟨hw, rfl⟩) (ih _ _ _ hq hrest _ _ _ (s1.put o.dst fun _ => ⟨trivial, rfl⟩))
  | n i s ih =>
    intro ls e h hr hok a w β st
    simp only [sbOk, Bool.and_eq_true, beq_iff_eq] at hok
    obtain ⟨⟨hready, hsome⟩, hrest⟩ := hok
    obtain ⟨o, ho⟩ := Option.isSome_iff_exists.1 hsome
    have ho' : rget all i = some o := by rw [rget_eq]; simpa using ho
    simp only [rB, oB, ho'] at hr
    intro w' hx
    refine ⟨fun h0' => (by rw [hready] at h0'; cases h0'), fun j hj => ?_⟩
    rw [hready] at hj
    obtain rfl : j = i := by simpa using hj
    unfold Go.wpOp
    simp only [ho]
    rcases gB_ok hr (st.ext hx) with ⟨hw, e1, hq, s1⟩ | ⟨hw, e1, hq, s1⟩
    · rw [if_pos hw]
      exact .inl (OpW.wp P (one (fun e2 h2 hk a2 w2 β2 s2 => ih _ _ _ hk hrest _ _ _ s2) hq s1))
    · rw [hw]; simp only [Bool.false_eq_true, if_false]
      exact ⟨Keep.refl _ _, ih _ _ _ hq hrest _ _ _ (s1.put o.dst fun _ => ⟨trivial, rfl⟩)⟩
  | f i s k t ihs iht =>
    intro ls e h hr hok a w β st
    simp only [sbOk, Bool.and_eq_true, beq_iff_eq] at hok
    obtain ⟨⟨⟨⟨⟨hready, hsome⟩, hsome2⟩, hdep⟩, hrest⟩, hrest2⟩ := hok
    obtain ⟨o, ho⟩ := Option.isSome_iff_exists.1 hsome
    obtain ⟨o2, ho2⟩ := Option.isSome_iff_exists.1 hsome2
    have ho' : rget all i = some o := by rw [rget_eq]; simpa using ho
    have ho2' : rget all k = some o2 := by rw [rget_eq]; simpa using ho2
    simp only [rB, oB, ho', ho2'] at hr
    intro w' hx
    refine ⟨fun h0' => (by rw [hready] at h0'; cases h0'), fun j hj => ?_⟩
    rw [hready] at hj
    simp only [List.mem_cons, List.not_mem_nil, or_false] at hj
    rcases hj with rfl | rfl
    · unfold Go.wpOp
      simp only [ho]
      rcases gB_ok hr.1 (st.ext hx) with ⟨hw, e1, hq, s1⟩ | ⟨hw, e1, hq, s1⟩
      · rw [if_pos hw]
        exact .inl (OpW.wp P (one (fun e2 h2 hk a2 w2 β2 s2 => ihs _ _ _ hk hrest _ _ _ s2) hq s1))
      · rw [hw]; simp only [Bool.false_eq_true, if_false]
        exact ⟨Keep.refl _ _, ihs _ _ _ hq hrest _ _ _ (s1.put o.dst fun _ => ⟨trivial, rfl⟩)⟩
    · rw [hdep]
      unfold Go.wpOp
      simp only [ho2]
      rcases gB_ok hr.2 (st.ext hx) with ⟨hw, e1, hq, s1⟩ | ⟨hw, e1, hq, s1⟩
      · rw [if_pos hw]
        exact .inl (OpW.wp P (one (fun e2 h2 hk a2 w2 β2 s2 => iht _ _ _ hk hrest2 _ _ _ s2) hq s1))
      · rw [hw]; simp only [Bool.false_eq_true, if_false]
        exact ⟨Keep.refl _ _, iht _ _ _ hq hrest2 _ _ _ (s1.put o2.dst fun _ => ⟨trivial, rfl⟩)⟩

theorem least {p : Nat → Prop} (h : ∃ n, p n) : ∃ n, p n ∧ ∀ m, p m → n ≤ m := by
  obtain ⟨n, hn⟩ := h
  induction n using Nat.strongRecOn with
  | _ n ih =>
    by_cases c : ∃ m, m < n ∧ p m
    · obtain ⟨m, h1, h2⟩ := c; exact ih m h1 h2
    · refine ⟨n, hn, fun m hm => ?_⟩
      rcases Nat.lt_or_ge m n with d | d
      · exact absurd ⟨m, d, hm⟩ c
      · exact d

theorem run_ok (ht : TabOk P X.tab) (hm : P.follows .mixedOrders = true) (hn : X.n0 = h0.length) (hF : ∀ a e h w β, St X w0 β0 h0 a e h w β → X.F e h → Fin a w) :
    ∀ (k : Nat) (its : List Item) (e : Env) (h : List Blk), run P X k its e h → ∀ a w β, St X w0 β0 h0 a e h w β → kont P (SJ X w0 β0 h0) Fin its .normal a w
  | 0, _, _, _, hr, _, _, _, _ => hr.elim
  | k + 1, its, e, h, hr, a, w, β, s => by
    have ih := run_ok ht hm hn hF k
    cases its with
    | nil => exact hF a e h w β s hr
    | cons it r =>
      cases it with
      | code c =>
        replace hr : stCode P X (run P X k) c r e h := hr
        cases c <;> simp only [stCode] at hr
        case skip => exact wp_skip (ih r e h hr a w β s)
        case seq x y =>
          refine wp_seq (wp_mono (ih _ e h hr a w β s) fun ex a' w' q => ?_)
          cases ex <;> exact q
        case cond c x y =>
          split at hr
          · rename_i t hc
            have he := (s.sl.ev (x := c) (by rw [hc]; rfl)).2
            rw [hc] at he
            exact wp_cond_split he (fun ht' => ih _ e h (hr.1 ht') a w β s) (fun hf' => ih _ e h (hr.2 hf') a w β s)
          · exact hr.elim
        case block id c =>
          exact wp_block (ih _ e h hr a w β s)
        case exit id =>
          split at hr
          · rename_i hb
            exact wp_exit (kont_exit P _ Fin r hb (ih _ e h hr a w β s))
          · exact hr.elim
        case ret => exact wp_ret (kont_ret P _ Fin r (hF a e h w β s hr))
        case loop c =>
          obtain ⟨σ, I, m, car, hp, s0, hlen, h1, hcov, hbody⟩ := hr
          let rel : Act → World → σ → Prop := fun a w s => I s ∧ ∃ β, St X w0 β0 h0 a (car s) (hp s) w β
          have hex : ∀ a w, (∃ s, rel a w s) → ∃ n, ∃ s, rel a w s ∧ m s = n := fun a w ⟨s, hs⟩ => ⟨m s, s, hs, rfl⟩
          classical
          let μ : Act → World → Nat := fun a w => if hx : ∃ s, rel a w s then (least (hex a w hx)).choose else 0
          refine wp_loop (fun a w => ∃ s, rel a w s) μ ⟨s0, h1, β, s.cov hcov (by have := hlen s0; omega)⟩ fun a' w' hx => ?_
          obtain ⟨⟨s1, ⟨hI, β', s'⟩, hms⟩, _⟩ := (least (hex a' w' hx)).choose_spec
          refine wp_mono (ih _ _ _ (hbody s1 hI) a' w' β' s') fun ex a2 w2 q => ?_
          cases ex <;> try exact q
          obtain ⟨β2, e2, h2, s2, s3, hI3, hlt, hcov3⟩ := q
          obtain ⟨β3, s3'⟩ := s2.covR (by rw [← hn]; exact hcov3) (by have := hlen s3; omega)
          have hx2 : ∃ s, rel a2 w2 s := ⟨s3, hI3, β3, s3'⟩
          refine ⟨hx2, ?_⟩
          have hle : (least (hex a2 w2 hx2)).choose ≤ m s3 := (least (hex a2 w2 hx2)).choose_spec.2 _ ⟨s3, ⟨hI3, β3, s3'⟩, rfl⟩
          simp only [μ, dif_pos hx, dif_pos hx2]
          omega
        case region id ops dr =>
          cases dr
          · have := ih _ e h hr a w β s
            refine wp_region_list ?_
            simpa [kont] using this
          · simp only at hr
            split at hr
            rename_i hsb
            obtain ⟨hs, hr⟩ := hr
            have := ih _ e h hr a w β s
            simp only [SOk, Bool.and_eq_true, beq_iff_eq] at hs
            refine wp_region_E2 (T := (X.sc id).2) (m := (X.sc id).1.length) hm hs.2.symm ?_
            have h2 := this (by simpa using hs.1.1) (by simpa using hs.1.2)
            simpa using h2
            rename_i p hsb
            obtain ⟨hs, hr⟩ := hr
            simp only [SBOk, Bool.and_eq_true, beq_iff_eq] at hs
            have hst : St X w β h a e h w β := ⟨s.sl, s.hd, Since.refl w β h⟩
            have back : ∀ {a' : Act} {e' : Env} {h' : List Blk} {w' : World} {β' : Nat → Loc}, St X w β h a' e' h' w' β' → St X w0 β0 h0 a' e' h' w' β' := fun s' => ⟨s'.sl, s'.hd, s.sn.trans s'.sn⟩
            obtain ⟨sl, jn, sb⟩ := p
            simp only [stRB] at hr
            split at hr
            · exact wp_region_B hm hs.2.symm (rB_ok (P := P) ht (fun c a w => kont_panic P _ Fin c a w r) (by simpa using hs.1.1) (fun e' h' hr' a' w' β' s' => ih r e' h' hr' a' w' β' (back s')) sb _ e h hr (by simpa using hs.1.2) a w β hst)
            · obtain ⟨σ, I, car, hp, hrb, hcont⟩ := hr
              refine wp_region_B hm hs.2.symm (rB_ok (P := P) ht (fun c a w => kont_panic P _ Fin c a w r) (by simpa using hs.1.1) (fun e' h' hr' a' w' β' s' => ?_) sb _ e h hrb (by simpa using hs.1.2) a w β hst)
              obtain ⟨s1, hI, hcov⟩ := hr'
              obtain ⟨hlen, hgo⟩ := hcont s1 hI
              obtain ⟨β3, s3⟩ := (back s').covR (by rw [← hn]; exact hcov) (by omega)
              exact ih r _ _ hgo a' w' β3 s3
        all_goals exact hr.elim
      | ops all rest =>
        cases rest with
        | nil => exact wpList_nil (P := P) (ops := all.toArray) (ih r e h hr a w β s)
        | cons o os =>
          have := ih (.g 0 all o :: .ops all os :: r) e h hr a w β s
          show wpList P all.toArray (kont P _ Fin r) (o :: os) a w
          unfold wpList
          rcases this with ⟨hw, hk⟩ | ⟨hw, hk⟩
          · rw [if_pos hw]; exact .inl (OpW.wp P hk)
          · rw [hw]; simp only [Bool.false_eq_true, if_false]; exact hk
      | drw all si tail ls =>
        cases si with
        | nil =>
          have := fun w' (x : Ext w w') => ih (.ops all (pickL all tail) :: r) e h hr a w' β (s.ext x)
          intro hsel hok
          simp only [sOkB, Bool.and_eq_true] at hok
          refine ⟨fun j o ho hj => ?_, fun w' x => wpAny_tail tail ls a w' hok.1 (this w' x)⟩
          have hlt : j < all.toArray.size := (Array.getElem?_eq_some_iff.1 ho).1
          have h2 := List.all_eq_true.1 hok.2 j (by simpa using hlt)
          simp only [Bool.or_eq_true, inL_iff] at h2
          exact h2.resolve_left hj
        | cons x si =>
          replace hr : stDrw (run P X k) all (x :: si) tail ls r e h := hr
          simp only [stDrw] at hr
          intro hsel hok
          simp only [sOkB, Bool.and_eq_true, Bool.not_eq_true'] at hok
          obtain ⟨⟨⟨⟨hready, hsome⟩, hnt⟩, hclo, hdep⟩, hrest⟩ := hok
          obtain ⟨o, ho⟩ := Option.isSome_iff_exists.1 hsome
          have ho' : rget all x.i = some o := by rw [rget_eq]; simpa using ho
          have hdep' := depB_ok hdep
          have hnsel := Region.noSelect_spec hsel
          have hQ : ∀ (v : Value) c a w, kont P (SJ X w0 β0 h0) Fin r (.panic c) (a.put o.dst v) w → kont P (SJ X w0 β0 h0) Fin r (.panic c) a w := fun v c a w q => absurd q (kont_panic P _ Fin c _ _ r)
          rw [ho'] at hr
          simp only at hr
          cases x with
          | q i =>
            simp only [SI.i, Bool.and_eq_true] at hready hr hrest ho hdep'
            have hg := ih _ e h hr a w β s
            rcases hg with ⟨hw, v, h1, h2⟩ | ⟨hw, h2⟩
            · exact wpE2_first ho hnsel (hQ v) hdep' _ _ _ _ hclo (Region.free_spec ho hready.1) (by simpa using hready.2) (.inl ⟨hw, fun w' hx => .inl ⟨w', h1 w' hx, Ext.refl _⟩⟩) (h2 hsel hrest)
            · exact wpE2_first ho hnsel (hQ undef) hdep' _ _ _ _ hclo (Region.free_spec ho hready.1) (by simpa using hready.2) (.inr ⟨hw, rfl⟩) (h2 hsel hrest)
          | e i =>
            simp only [SI.i, Bool.and_eq_true] at hready hr hrest ho hdep'
            have hg := ih _ e h hr a w β s
            rcases hg with ⟨hw, f, xs, v, h1, h2, h3⟩ | ⟨hw, h2⟩
            · exact wpE2_first ho hnsel (hQ v) hdep' _ _ _ _ hclo (Region.free_spec ho hready.1) (by simpa using hready.2) (.inl ⟨hw, fun w' hx => .inr ⟨f, xs, w', h1 w', h2 w' hx⟩⟩) (h3 hsel hrest)
            · exact wpE2_first ho hnsel (hQ undef) hdep' _ _ _ _ hclo (Region.free_spec ho hready.1) (by simpa using hready.2) (.inr ⟨hw, rfl⟩) (h2 hsel hrest)
          | n i =>
            simp only [SI.i, beq_iff_eq] at hready hr hrest ho hdep'
            refine ⟨by rw [hready]; simp, fun w' hx j hj => ?_⟩
            rw [hready] at hj
            obtain rfl : j = i := by simpa using hj
            have hg := ih _ e h hr a w' β (s.ext hx)
            unfold Go.wpOp
            simp only [ho]
            rcases hg with ⟨hw, hk⟩ | ⟨hw, hk⟩
            · rw [if_pos hw]
              refine .inl (OpW.wp P ?_)
              have h3 : KOp P 0 o (fun a' w'' => Ext w' w'' ∧ kont P (SJ X w0 β0 h0) Fin (Item.drw all si tail (ls.setIfInBounds j true) :: r) Exit.normal a' w'') a w' := hk w' (Ext.refl _)
              have h4 : KOp P 0 o (fun a' w'' => Ext w' w'' ∧ wpE2 P .any all.toArray (kont P (SJ X w0 β0 h0) Fin r) tail si.length (ls.setIfInBounds j true) a' w'') a w' := kop_mono (fun a' w'' h => ⟨h.1, h.2 hsel hrest⟩) h3
              exact h4
            · rw [hw]; simp only [Bool.false_eq_true, if_false]
              exact ⟨Ext.refl _, hk hsel hrest⟩
      | g md all o =>
        replace hr : stG (run P X k) md all o r e h := hr
        unfold stG at hr
        split at hr
        · rename_i hg
          exact .inl ⟨by simp [Region.wanted, hg], ih _ e h hr a w β s⟩
        · rename_i gw hg
          obtain ⟨g, want⟩ := gw
          split at hr
          · rename_i sl hsl
            split at hr
            · rename_i t hl
              have hwd := wanted_of s.sl hg hsl hl rfl
              simp only [den, FV.val] at hwd
              have hkn : ∀ b, t = b → St X w0 β0 h0 a ((sl, .f (.bool b)) :: e) h w β := fun b hb => ⟨s.sl.know (by have := s.sl.ag sl (by rw [hl]; rfl); rw [hl, hb] at this; exact this), s.hd, s.sn⟩
              have hsk : ∀ b, t = b → run P X k (.skp o.dst :: r) ((sl, .f (.bool b)) :: e) h → kont P (SJ X w0 β0 h0) Fin r .normal (a.put o.dst undef) w := fun b hb hr => ih _ _ h hr a w β (hkn b hb)
              cases want <;> cases t <;> simp only [stGd] at hr
              · exact .inl ⟨by rw [hwd]; rfl, ih _ _ h (hr.2 rfl) a w β (hkn false rfl)⟩
              · exact .inr ⟨by rw [hwd]; rfl, hsk true rfl (hr.1 rfl)⟩
              · exact .inr ⟨by rw [hwd]; rfl, hsk false rfl (hr.2 rfl)⟩
              · exact .inl ⟨by rw [hwd]; rfl, ih _ _ h (hr.1 rfl) a w β (hkn true rfl)⟩
            · rename_i l hl
              split at hr
              · have hwd := wanted_of s.sl hg hsl hl rfl
                simp only [den] at hwd
                exact .inr ⟨hwd, ih _ e h hr a w β s⟩
              · exact hr.elim
            · exact hr.elim
          · exact hr.elim
      | skp d => exact ih r _ h hr (a.put d undef) w β (s.put d fun _ => ⟨trivial, rfl⟩)
      | op md o =>
        replace hr : md ≤ 3 ∧ stOp P X (run P X k) md o (opR X.tab e h o.op) r e h := hr
        obtain ⟨hmd, hr⟩ := hr
        cases hq : opR X.tab e h o.op with
        | or q =>
          rw [hq] at hr
          exact op_ok ht (ih r) hq hr s hmd
        | app t x y =>
          rw [hq] at hr
          obtain ⟨rfl, hr⟩ := hr
          cases hap : appR X.tab h t x y with
          | slc p q => rw [hap] at hr; exact app_ok ht s hq hap hr.1 hr.2 (ih r)
          | nil p c m g => rw [hap] at hr; exact OpW.mono (fun _ _ hx => hx.2) (appz_ok ht s hq hap hr.1 hr.2 (ih r))
          | bad => rw [hap] at hr; exact hr.elim
        | wid b =>
          rw [hq] at hr
          replace hr : WidN (run P X k) X.n md b o.dst r e h := hr
          exact wid_ok ht (ih r) hq hr s hmd
      | blk id => exact ih r e h hr a w β s
      | inv J => exact ⟨β, e, h, s, hr⟩
end
end Go.Proofs.Ytdncopphjamilaa.Vx
