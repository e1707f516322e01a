/- Abstract execution: what the run tells comes true: the law. Over any program. -/
import Derived.Test.YtdncopphjamilaaVo
namespace Go.Proofs.Ytdncopphjamilaa.Vx
open Go Go.RowKit Fl
set_option linter.unusedVariables false
set_option linter.unusedSimpArgs false

structure St (X : RX) (w0 : World) (β0 : Nat → Loc) (h0 : List Blk) (a : Act) (e : Env) (h : List Blk) (w : World) (β : Nat → Loc) : Prop where
  sl : Slots X.n h.length β a e
  hd : Holds w β h
  sn : Since w0 β0 h0 w β h
def SJ (X : RX) (w0 : World) (β0 : Nat → Loc) (h0 : List Blk) (J : Env → List Blk → Prop) (a : Act) (w : World) : Prop := ∃ β e h, St X w0 β0 h0 a e h w β ∧ J e h

theorem upto_get : ∀ (n i : Nat), i < n → (upto n)[i]? = some i
  | 0, i, h => by omega
  | n + 1, i, h => by
    have hl : (upto n).length = n := by
      have : ∀ k, (upto k).length = k := by intro k; induction k with
        | zero => rfl
        | succ k ih => simp [upto, ih]
      exact this n
    simp only [upto]
    by_cases c : i < n
    · rw [List.getElem?_append_left (by omega)]; exact upto_get n i c
    · have : i = n := by omega
      subst this
      rw [List.getElem?_append_right (by omega), hl, Nat.sub_self]; rfl
theorem isPre_get : ∀ (s r : List Nat), isPre s r = true → s.length ≤ r.length ∧ ∀ i v, s[i]? = some v → lget r i = v
  | [], r, _ => ⟨by simp, fun i v h => by simp at h⟩
  | a :: s, [], h => by cases h
  | a :: s, b :: r, h => by
    simp only [isPre, Bool.and_eq_true, beq_iff_eq] at h
    obtain ⟨h1, h2⟩ := isPre_get s r h.2
    refine ⟨by simp [h1], fun i v hv => ?_⟩
    cases i with
    | zero => simp only [List.getElem?_cons_zero, Option.some.injEq] at hv; simp [lget, ← h.1, hv]
    | succ i => simp only [List.getElem?_cons_succ] at hv; simp only [lget]; exact h2 i v hv
theorem Since.loc {w0 w : World} {β0 β : Nat → Loc} {h0 h : List Blk} (c : Since w0 β0 h0 w β h) {r : List Nat} (hloc : locOk r h = true) (hpre : isPre (upto h0.length) r = true) : Since w0 β0 h0 w (fun i => β (lget r i)) (locH r h r) := by
  have hdis : distinct r = true := by simp only [locOk, Bool.and_eq_true] at hloc; exact hloc.1
  obtain ⟨hpl1, hpg⟩ := isPre_get _ _ hpre
  have hul : (upto h0.length).length = h0.length := by
    have : ∀ k, (upto k).length = k := by intro k; induction k with
      | zero => rfl
      | succ k ih => simp [upto, ih]
    exact this _
  rw [hul] at hpl1
  have hid : ∀ i, i < h0.length → lget r i = i := fun i hi => hpg i i (upto_get _ _ hi)
  have hg := fun i (hi : i < r.length) => locH_get r h r i hi
  refine ⟨c.os, c.tape, c.output, c.size, by rw [locH_length]; exact hpl1, fun i hi => by show β (lget r i) = _; rw [hid i hi]; exact c.same i hi, c.frame, fun i hi hv => ?_, fun i hi hv => ?_, fun i hi hv => ?_⟩
  · rw [hg i (by omega), hid i hi, Blk.ren_live] at hv; exact c.liv i hi hv
  · rw [hg i (by omega), hid i hi, Blk.ren_own] at hv; exact c.ownk i hi hv
  · have hir := hget_lt hv
    rw [locH_length] at hir
    rw [hg i hir, Blk.ren_live] at hv
    refine c.fresh (lget r i) ?_ hv
    rcases Nat.lt_or_ge (lget r i) h0.length with d | d
    · exfalso
      have := lget_inj r hdis (lget r i) i (by omega) hir (hid _ d)
      omega
    · exact d
theorem look_locE (r : List Nat) : ∀ (e : Env) (i : Nat), look (locE r e) i = locV r (look e i)
  | [], i => by simp [locE, look, locV, SV.lin, SV.ren]
  | (j, v) :: e, i => by
    simp only [locE, look]
    by_cases c : j = i
    · rw [if_pos c, if_pos c]
    · rw [if_neg c, if_neg c]; exact look_locE r e i
theorem St.loc {X : RX} {w0 : World} {β0 : Nat → Loc} {h0 : List Blk} {a : Act} {e : Env} {h : List Blk} {w : World} {β : Nat → Loc} (s : St X w0 β0 h0 a e h w β) {r : List Nat}
    (hr : (locOk r h && (allLt h.length r && isPre (upto h0.length) r)) = true) : St X w0 β0 h0 a (locE r e) (locH r h r) w (fun i => β (lget r i)) := by
  simp only [Bool.and_eq_true] at hr
  obtain ⟨h1, h2, h3⟩ := hr
  refine ⟨⟨s.sl.size, fun i hi => ?_, s.sl.df⟩, s.hd.loc h1, s.sn.loc h1 h3⟩
  rw [look_locE] at hi ⊢
  unfold locV at hi ⊢
  cases hl : (look e i).lin r
  · rw [hl] at hi; simp [SV.known] at hi
  · rw [hl] at hi
    simp only at hi ⊢
    have hk : (look e i).known = true := by
      cases c : look e i <;> rw [c] at hi <;> simp_all [SV.known, SV.ren]
    have := s.sl.ag i hk
    rw [locH_length]
    exact ⟨lin_bd _ hl, by rw [den_lin hl]; exact this.2⟩
section
variable {P : Program} {X : RX} {w0 : World} {β0 : Nat → Loc} {h0 : List Blk}
theorem St.ext {a : Act} {e : Env} {h : List Blk} {w w' : World} {β : Nat → Loc} (s : St X w0 β0 h0 a e h w β) (x : Ext w w') : St X w0 β0 h0 a e h w' β := ⟨s.sl, s.hd.ext x, s.sn.ext x⟩
theorem Slots.know {n m : Nat} {β : Nat → Loc} {a : Act} {e : Env} (s : Slots n m β a e) {i : Nat} {v : SV} (hv : v.bd m ∧ a.tmps.getD i undef = den β v) : Slots n m β a ((i, v) :: e) :=
  ⟨s.size, fun j hk => by
    simp only [look] at hk ⊢
    by_cases c : i = j
    · subst c; rw [if_pos rfl]; exact hv
    · rw [if_neg c] at hk ⊢; exact s.ag j hk, s.df⟩
theorem St.put {a : Act} {e : Env} {h : List Blk} {w : World} {β : Nat → Loc} (s : St X w0 β0 h0 a e h w β) (d : Option Nat) {v : SV} {u : Value} (hv : v.known = true → v.bd h.length ∧ u = den β v) : St X w0 β0 h0 (a.put d u) (Vx.put X.n d v e) h w β := ⟨s.sl.put d hv, s.hd, s.sn⟩

theorem covE_ok {n m1 m : Nat} {β : Nat → Loc} {a : Act} {e : Env} (s : Slots n m β a e) : ∀ (e1 : Env), covE m1 e1 e → ∀ i, (look e1 i).known = true → (look e1 i).bd m1 ∧ a.tmps.getD i undef = den β (look e1 i)
  | [], _, i, hk => by simp [look, SV.known] at hk
  | (j, v) :: r, hc, i, hk => by
    simp only [covE] at hc
    simp only [look] at hk ⊢
    by_cases c : j = i
    · subst c
      rw [if_pos rfl] at hk ⊢
      obtain ⟨h1, h2⟩ := hc.1 hk
      have := s.ag j (by rw [h2]; exact hk)
      rw [h2] at this
      exact ⟨h1, this.2⟩
    · rw [if_neg c] at hk ⊢; exact covE_ok s r hc.2 i hk
theorem covRow_get : ∀ (row row' : List SV), covRow row row' → row.length = row'.length ∧ ∀ (j : Nat) (v : SV), row[j]? = some v → v.known = true → row'[j]? = some v
  | [], [], _ => ⟨rfl, fun j v h => by simp at h⟩
  | [], _ :: _, h => h.elim
  | _ :: _, [], h => h.elim
  | v :: r, u :: s, h => by
    obtain ⟨h1, h2⟩ := covRow_get r s h.2
    refine ⟨by simp [h1], fun j x hj hk => ?_⟩
    cases j with
    | zero => simp only [List.getElem?_cons_zero, Option.some.injEq] at hj ⊢; subst hj; exact h.1 hk
    | succ j => simp only [List.getElem?_cons_succ] at hj ⊢; exact h2 j x hj hk
theorem covB_ok {w : World} {β : Nat → Loc} {L : Loc} {b b' : Blk} (hc : covB b b') (ok : BlkOk w β L b') : BlkOk w β L b ∧ (b.live → b'.live) ∧ (b.live → b.own = b'.own) := by
  cases b with
  | dead => exact ⟨⟨fun c => c.elim, trivial, fun i j v hv => (by cases hv), fun c => (by cases c)⟩, fun c => c.elim, fun c => c.elim⟩
  | lit row o =>
    cases b' <;> simp only [covB] at hc <;> (try (exact hc.elim))
    rename_i row' o'
    obtain ⟨rfl, hr⟩ := hc
    obtain ⟨hl, hg⟩ := covRow_get row row' hr
    refine ⟨⟨ok.there, trivial, fun i j v hv hk => ?_, fun ho => ?_⟩, fun _ => trivial, fun _ => rfl⟩
    · simp only [Blk.cell] at hv
      split at hv
      · rename_i e; subst e
        rw [rget_eq] at hv
        exact ok.cell 0 j v (by simp [Blk.cell, rget_eq, hg j v hv hk]) hk
      · cases hv
    · exact ⟨(ok.wr ho).1, fun i j hr' => (ok.wr ho).2 i j ⟨hr'.1, by have := hr'.2; omega⟩⟩
  | rows n cap c f o =>
    cases b' <;> simp only [covB] at hc <;> (try (exact hc.elim))
    rename_i n' cap' c' f' o'
    obtain ⟨⟨rfl, rfl⟩, ⟨⟨h1, h2⟩, h3⟩, hf⟩ := hc
    have hfit := ok.fit
    refine ⟨⟨ok.there, ⟨hfit.1, h2, fun i hi => by rw [← hf i hi]; exact hfit.2.2 i (by omega)⟩, fun i j v hv hk => ?_, fun ho => ?_⟩, fun _ => trivial, fun _ => rfl⟩
    · simp only [Blk.cell] at hv
      split at hv
      · rename_i hi
        rw [← hf i hi] at hv
        exact ok.cell i j v (by simp only [Blk.cell]; rw [if_pos (by omega)]; exact hv) hk
      · cases hv
    · exact ⟨(ok.wr ho).1, fun i j hr' => (ok.wr ho).2 i j ⟨by have := hr'.1; omega, hr'.2⟩⟩
  | cells n g o =>
    cases b' <;> simp only [covB] at hc <;> (try (exact hc.elim))
    rename_i n' g' o'
    obtain ⟨⟨rfl, rfl⟩, hg⟩ := hc
    refine ⟨⟨ok.there, trivial, fun i j v hv hk => ?_, ok.wr⟩, fun _ => trivial, fun _ => rfl⟩
    simp only [Blk.cell] at hv
    split at hv
    · rename_i e
      cases hv
      exact ok.cell i j _ (by simp only [Blk.cell]; rw [if_pos e, hg j e.2]) rfl
    · cases hv
theorem covH_get {m : Nat} : ∀ (h1 h : List Blk), covH m h1 h → h1.length ≤ h.length ∧ ∀ l, l < h1.length → (hget h1 l).bd m ∧ covB (hget h1 l) (hget h l)
  | [], h, _ => ⟨by simp, fun l hl => by simp at hl⟩
  | b :: r, [], hc => hc.elim
  | b :: r, b' :: s, hc => by
    obtain ⟨h1, h2⟩ := covH_get r s hc.2.2
    refine ⟨by simp [h1], fun l hl => ?_⟩
    cases l with
    | zero => exact ⟨hc.1, hc.2.1⟩
    | succ l => exact h2 l (by simpa using hl)
theorem St.cov {a : Act} {e e1 : Env} {h h1 : List Blk} {w : World} {β : Nat → Loc} (s : St X w0 β0 h0 a e h w β) (hc : Cov e1 h1 e h) (hn : h0.length ≤ h1.length) : St X w0 β0 h0 a e1 h1 w β := by
  obtain ⟨hl, hg⟩ := covH_get h1 h hc.2
  have hok : ∀ l, BlkOk w β (β l) (hget h1 l) ∧ ((hget h1 l).live → (hget h l).live) ∧ ((hget h1 l).live → (hget h1 l).own = (hget h l).own) := fun l => by
    rcases Nat.lt_or_ge l h1.length with c | c
    · exact covB_ok (hg l c).2 (s.hd.ok l)
    · rw [hget_out c]; exact ⟨⟨fun c => c.elim, trivial, fun i j v hv => (by cases hv), fun c => (by cases c)⟩, fun c => c.elim, fun c => c.elim⟩
  have hown : ∀ l, (hget h1 l).own = true → (hget h l).own = true := fun l ho => by rw [← (hok l).2.2 (Blk.own_live ho)]; exact ho
  refine ⟨⟨s.sl.size, covE_ok s.sl e1 hc.1, s.sl.df⟩, ⟨fun l => (hok l).1, fun l m hl hm hne ho => ?_, fun l => ?_⟩, ⟨s.sn.os, s.sn.tape, s.sn.output, s.sn.size, hn, s.sn.same, s.sn.frame, fun l hl hv => s.sn.liv l hl ((hok l).2.1 hv), fun l hl hv => s.sn.ownk l hl (hown l hv), fun l hl hv => s.sn.fresh l hl ((hok l).2.1 hv)⟩⟩
  · exact s.hd.inj l m ((hok l).2.1 hl) ((hok m).2.1 hm) hne (ho.imp (hown l) (hown m))
  · rcases Nat.lt_or_ge l h1.length with c | c
    · exact (hg l c).1
    · rw [hget_out c]; trivial

theorem St.covR {a : Act} {e e1 : Env} {h h1 : List Blk} {w : World} {β : Nat → Loc} (s : St X w0 β0 h0 a e h w β) (hc : CovR h0.length e1 h1 e h) (hn : h0.length ≤ h1.length) : ∃ β', St X w0 β0 h0 a e1 h1 w β' := by
  rcases hc with hc | ⟨r, hr, hc⟩
  · exact ⟨β, s.cov hc hn⟩
  · exact ⟨_, (s.loc hr).cov hc hn⟩

variable {Fin : Act → World → Prop}
theorem new_st {a : Act} {e : Env} {h : List Blk} {w w' : World} {β : Nat → Loc} (s : St X w0 β0 h0 a e h w β) (x : Ext w w') {L : Loc} (hL : w.heap.size ≤ L.b) {blk : Blk} (ok : BlkOk w' β L blk) (hb : blk.bd h.length) (d : Option Nat) {v : SV} (hv : v.bd (h.length + 1)) :
    St X w0 β0 h0 (a.put d (den (bput β h.length L) v)) (put X.n d v e) (h ++ [blk]) w' (bput β h.length L) := by
  refine ⟨Slots.put (s.sl.mono (m' := (h ++ [blk]).length) (by simp) fun l hl => (bput_lt hl).symm) d fun _ => ⟨by simpa using hv, rfl⟩, s.hd.new x hL rfl ok hb, s.sn.new x hL blk⟩
theorem after_st {a : Act} {e : Env} {h h' : List Blk} {w w' : World} {β β' : Nat → Loc} (s : St X w0 β0 h0 a e h w β) (A : After w0 β0 h0 w β h w' β' h') (d : Option Nat) {v : SV} (hv : v.bd h'.length) :
    St X w0 β0 h0 (a.put d (den β' v)) (put X.n d v e) h' w' β' :=
  ⟨Slots.put (s.sl.mono A.len A.same) d fun _ => ⟨hv, rfl⟩, A.holds, A.since⟩

theorem app_ok (ht : TabOk P X.tab) {a : Act} {e : Env} {h : List Blk} {w : World} {β : Nat → Loc} (s : St X w0 β0 h0 a e h w β) {o : Oper} {t : Nat} {x y : SV} (ho : opR X.tab e h o.op = .app t x y) {p : Prop} {q : AppIn} (hap : appR X.tab h t x y = .slc p q) (hp : p) {R : Run} {its : List Item}
    (hr : AppN R X.n q o.dst its e h x) {K : Act → World → Prop} (ih : ∀ e' h', R its e' h' → ∀ a' w' β', St X w0 β0 h0 a' e' h' w' β' → K a' w') : OpW P o K a w := by
  obtain ⟨el, qi, z, ay, cy, F⟩ := appR_facts ht s.hd hap hp
  have hxk : x.known = true := by rw [F.hx]; rfl
  have hyk : y.known = true := by
    refine kn fun c => ?_
    have := F.hy
    rw [c] at this; simp [den, undef] at this
  obtain ⟨ty, hxb, hrun⟩ := opR_app (P := P) s.sl ho hxk hyk
  rcases hr with ⟨hg, hr⟩ | ⟨⟨hown, hcb⟩, hr⟩ | ⟨⟨hm, hlen⟩, hr⟩
  · obtain ⟨cap', w', L, h1, h2, h3, h4, h5⟩ := app_grow s.hd F (ty := ty) hg
    exact .inl ⟨_, w', by rw [hrun, h5]; rfl, ih _ _ (hr cap' h1) _ _ _ (new_st s h2 h3 h4 trivial o.dst (v := .slc h.length 0 (q.len + q.m) cap') (Nat.lt_succ_self _))⟩
  · have hblk : (hget h q.l).own = true := by rw [F.blk]; exact hown
    by_cases hg : q.len + q.m ≤ q.cap
    · obtain ⟨o', vs, h1, h2⟩ := app_room s.hd F (ty := ty) hg hcb hown
      have H1 := s.hd.upd hblk h1 trivial rfl
      have C1 := s.sn.upd hblk (blk := .rows (q.len + q.m) q.cap q.c (catR q.f q.len q.g) true) rfl o' vs
      have hlt := hget_lt (Blk.own_live hblk)
      have hgl : hget (hset h q.l (.rows (q.len + q.m) q.cap q.c (catR q.f q.len q.g) true)) q.l = .rows (q.len + q.m) q.cap q.c (catR q.f q.len q.g) true := by rw [hget_hset, if_pos ⟨rfl, hlt⟩]
      have ho1 : (hget (hset h q.l (.rows (q.len + q.m) q.cap q.c (catR q.f q.len q.g) true)) q.l).own = true := by rw [hgl]; rfl
      have H2 := H1.move ho1
      have C2 := C1.move ho1
      rw [hgl, hset_length] at H2 C2
      have hss : ∀ b b' : Blk, ∀ (l : Nat) (h : List Blk), hset (hset h l b) l b' = hset h l b' := by
        intro b b' l h
        induction h generalizing l with
        | nil => rfl
        | cons c h ih => cases l with
          | zero => rfl
          | succ l => simp only [hset, ih]
      rw [hss] at H2 C2
      refine .inl ⟨_, _, by rw [hrun, h2]; rfl, ih _ _ (hr q.cap hg) _ _ _ ⟨Slots.put (s.sl.mono (by rw [List.length_append, hset_length]; simp) fun l hl => (bput_lt hl).symm) o.dst fun _ => ⟨by rw [List.length_append, hset_length]; exact Nat.lt_succ_self _, ?_⟩, H2, C2⟩⟩
      simp only [den, bput_self]
    · obtain ⟨cap', w', L, h1, h2, h3, h4, h5⟩ := app_grow s.hd F (ty := ty) (by omega)
      have S1 := new_st s h2 h3 h4 (blk := .rows (q.len + q.m) cap' q.c (catR q.f q.len q.g) true) trivial o.dst (v := .slc h.length 0 (q.len + q.m) cap') (Nat.lt_succ_self _)
      have hlt := hget_lt (Blk.own_live hblk)
      have hs : hset (h ++ [Blk.rows (q.len + q.m) cap' q.c (catR q.f q.len q.g) true]) q.l .dead = hset h q.l .dead ++ [Blk.rows (q.len + q.m) cap' q.c (catR q.f q.len q.g) true] := by
        have : ∀ (h : List Blk) (l : Nat) (s : List Blk), l < h.length → hset (h ++ s) l .dead = hset h l .dead ++ s := by
          intro h
          induction h with
          | nil => intro l s hl; simp at hl
          | cons b h ih => intro l s hl; cases l with
            | zero => rfl
            | succ l => simp only [List.cons_append, hset]; rw [ih l s (by simpa using hl)]
        exact this h q.l _ hlt
      refine .inl ⟨_, w', by rw [hrun, h5]; rfl, ih _ _ (hr cap' h1) _ _ (bput β h.length L) ⟨?_, ?_, ?_⟩⟩
      · have := S1.sl
        rw [List.length_append] at this ⊢
        rwa [hset_length]
      · have := S1.hd.kill q.l; rwa [hs] at this
      · have := S1.sn.kill q.l; rwa [hs] at this
  · by_cases hlc : q.len ≤ q.cap
    · have := app_zero (P := P) (w := w) F (ty := ty) hm hlc hlen
      exact .inl ⟨_, w, by rw [hrun, this]; rfl, ih _ _ hr _ _ _ (s.put o.dst fun _ => ⟨hxb, rfl⟩)⟩
    · omega

theorem appz_ok (ht : TabOk P X.tab) {a : Act} {e : Env} {h : List Blk} {w : World} {β : Nat → Loc} (s : St X w0 β0 h0 a e h w β) {o : Oper} {t : Nat} {x y : SV} (ho : opR X.tab e h o.op = .app t x y) {p : Prop} {c m : Nat} {g : Nat → List FV} (hap : appR X.tab h t x y = .nil p c m g) (hp : p) {R : Run} {its : List Item}
    (hr : AppZ R X.n c m g o.dst its e h) {K : Act → World → Prop} (ih : ∀ e' h', R its e' h' → ∀ a' w' β', St X w0 β0 h0 a' e' h' w' β' → K a' w') : OpW P o (fun a' w'' => Ext w w'' ∧ K a' w'') a w := by
  unfold appR at hap
  split at hap
  · rename_i ti hti
    obtain ⟨d, q, hu, hk, _⟩ := ht _ _ hti
    split at hap
    · rename_i el he
      rw [he] at hk; simp only [TK.ok] at hk; subst hk
      split at hap
      · rename_i te hte
        obtain ⟨d2, q2, hu2, _, _, hq2, hsz2, hby, z, hz, hz2, hz3, _⟩ := ht _ _ hte
        split at hap
        · rename_i hb1
          split at hap
          · rename_i m' g' p' hsrc
            split at hap
            · simp only [AP.nil.injEq] at hap
              obtain ⟨rfl, rfl, rfl, rfl⟩ := hap
              obtain ⟨⟨hp1, hp2⟩, hp3⟩ := hp
              obtain ⟨ay, cy, hy, g1, g2, g3⟩ := srcR_ok s.hd hsrc hp1
              have hyk : y.known = true := by
                refine kn fun c => ?_
                rw [c] at hy; simp [den, undef] at hy
              obtain ⟨ty, _, hrun⟩ := opR_app (P := P) s.sl ho rfl hyk
              have hbytes : m' * q2.bytes ≤ 281474976710656 := by
                have := Nat.mul_le_mul hp3 (show q2.bytes ≤ 1000 by omega); omega
              have hap2 := run_append_nil (P := P) w t ty el q2 z hu hq2 hz ay m' cy (flatR g' m') (by rw [g2, hsz2]) g3 hp2 (by omega) hbytes
              have hge := grownCap_ge w m' 0 el
              have hbo := grown_ok (β := β) (e := el) (len := 0) (f := noRow) (Z := Builtin.zeroCells z.cells (grownCap w m' 0 el - m')) (fun k hk => by omega) g1 (cap' := grownCap w m' 0 el) (by omega) (by rw [size_zeroCells, hz3, Nat.zero_add]) w.drew
              have hcat : catR noRow 0 g' = g' := by funext k; simp [catR]
              rw [hcat] at hbo
              simp only [Nat.zero_add] at hbo
              have hfl : (flatR noRow 0).toArray ++ (flatR g' m').toArray ++ Builtin.zeroCells z.cells (grownCap w m' 0 el - m') = (flatR g' m').toArray ++ Builtin.zeroCells z.cells (grownCap w m' 0 el - m') := by simp [flatR]
              rw [hfl] at hbo
              refine .inl ⟨_, _, by rw [hrun, hy]; simp only [den, FV.val]; rw [hap2]; rfl, (Below.refl _ _).drew.alloc (by simp) _, ?_⟩
              have S1 := new_st (w' := w.drew.alloc (.cells ((flatR g' m').toArray ++ Builtin.zeroCells z.cells (grownCap w m' 0 el - m')) el)) s ((Below.refl _ _).drew.alloc (by simp) _) (L := ⟨w.heap.size, 0, te.size⟩) (Nat.le_refl _) hbo trivial o.dst (v := .slc h.length 0 m' (grownCap w m' 0 el)) (Nat.lt_succ_self _)
              have := ih _ _ (hr _ hge) _ _ _ S1
              simp only [den, bput_self, Nat.zero_mul, Nat.add_zero] at this
              exact this
            · split at hap
              · split at hap
                · split at hap <;> cases hap
                · cases hap
              · cases hap
            · cases hap
          · cases hap
        · cases hap
      · cases hap
    · cases hap
  · cases hap
end
end Go.Proofs.Ytdncopphjamilaa.Vx
