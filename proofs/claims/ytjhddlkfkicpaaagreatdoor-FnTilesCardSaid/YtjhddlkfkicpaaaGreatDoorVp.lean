/- Abstract execution: what the run tells comes true: the law. Over any program. -/
import Derived.Test.YtjhddlkfkicpaaaGreatDoorVm
import Derived.Test.YtjhddlkfkicpaaaGreatDoorVk
namespace Go.Proofs.YtjhddlkfkicpaaaGreatDoor.Vx
open Go Go.RowKit Fl
set_option linter.unusedVariables false
set_option linter.unusedSimpArgs false

structure St (X : RX) (w0 : World) (β0 : Nat → Loc) (h0 : List Blk) (a : Act) (e : Env) (h : List Blk) (w : World) (β : Nat → Loc) : Prop where
  sl : Slots X.n h.length β a e
  hd : Holds w β h
  sn : Since w0 β0 h0 w β h
def SJ (X : RX) (w0 : World) (β0 : Nat → Loc) (h0 : List Blk) (J : Env → List Blk → Prop) (a : Act) (w : World) : Prop := ∃ β e h, St X w0 β0 h0 a e h w β ∧ J e h

theorem upto_get : ∀ (n i : Nat), i < n → (upto n)[i]? = some i
  | 0, i, h => by omega
  | n + 1, i, h => by
    have hl : (upto n).length = n := by
      have : ∀ k, (upto k).length = k := by intro k; induction k with
        | zero => rfl
        | succ k ih => simp [upto, ih]
      exact this n
    simp only [upto]
    by_cases c : i < n
    · rw [List.getElem?_append_left (by omega)]; exact upto_get n i c
    · have : i = n := by omega
      subst this
      rw [List.getElem?_append_right (by omega), hl, Nat.sub_self]; rfl
theorem isPre_get : ∀ (s r : List Nat), isPre s r = true → s.length ≤ r.length ∧ ∀ i v, s[i]? = some v → lget r i = v
  | [], r, _ => ⟨by simp, fun i v h => by simp at h⟩
  | a :: s, [], h => by cases h
  | a :: s, b :: r, h => by
    simp only [isPre, Bool.and_eq_true, beq_iff_eq] at h
    obtain ⟨h1, h2⟩ := isPre_get s r h.2
    refine ⟨by simp [h1], fun i v hv => ?_⟩
    cases i with
    | zero => simp only [List.getElem?_cons_zero, Option.some.injEq] at hv; simp [lget, ← h.1, hv]
    | succ i => simp only [List.getElem?_cons_succ] at hv; simp only [lget]; exact h2 i v hv
theorem Since.loc {w0 w : World} {β0 β : Nat → Loc} {h0 h : List Blk} (c : Since w0 β0 h0 w β h) {r : List Nat} (hloc : locOk r h = true) (hpre : isPre (upto h0.length) r = true) : Since w0 β0 h0 w (fun i => β (lget r i)) (locH r h r) := by
  have hdis : distinct r = true := by simp only [locOk, Bool.and_eq_true] at hloc; exact hloc.1
  obtain ⟨hpl1, hpg⟩ := isPre_get _ _ hpre
  have hul : (upto h0.length).length = h0.length := by
    have : ∀ k, (upto k).length = k := by intro k; induction k with
      | zero => rfl
      | succ k ih => simp [upto, ih]
    exact this _
  rw [hul] at hpl1
  have hid : ∀ i, i < h0.length → lget r i = i := fun i hi => hpg i i (upto_get _ _ hi)
  have hg := fun i (hi : i < r.length) => locH_get r h r i hi
  refine ⟨c.os, c.tape, c.output, c.size, by rw [locH_length]; exact hpl1, fun i hi => by show β (lget r i) = _; rw [hid i hi]; exact c.same i hi, c.frame, fun i hi hv => ?_, fun i hi hv => ?_, fun i hi hv => ?_⟩
  · rw [hg i (by omega), hid i hi, Blk.ren_live] at hv; exact c.liv i hi hv
  · rw [hg i (by omega), hid i hi, Blk.ren_own] at hv; exact c.ownk i hi hv
  · have hir := hget_lt hv
    rw [locH_length] at hir
    rw [hg i hir, Blk.ren_live] at hv
    refine c.fresh (lget r i) ?_ hv
    rcases Nat.lt_or_ge (lget r i) h0.length with d | d
    · exfalso
      have := lget_inj r hdis (lget r i) i (by omega) hir (hid _ d)
      omega
    · exact d
theorem look_locE (r : List Nat) : ∀ (e : Env) (i : Nat), look (locE r e) i = locV r (look e i)
  | [], i => by simp [locE, look, locV, SV.lin, SV.ren]
  | (j, v) :: e, i => by
    simp only [locE, look]
    by_cases c : j = i
    · rw [if_pos c, if_pos c]
    · rw [if_neg c, if_neg c]; exact look_locE r e i
theorem St.loc {X : RX} {w0 : World} {β0 : Nat → Loc} {h0 : List Blk} {a : Act} {e : Env} {h : List Blk} {w : World} {β : Nat → Loc} (s : St X w0 β0 h0 a e h w β) {r : List Nat}
    (hr : (locOk r h && (allLt h.length r && isPre (upto h0.length) r)) = true) : St X w0 β0 h0 a (locE r e) (locH r h r) w (fun i => β (lget r i)) := by
  simp only [Bool.and_eq_true] at hr
  obtain ⟨h1, h2, h3⟩ := hr
  refine ⟨⟨s.sl.size, fun i hi => ?_, s.sl.df⟩, s.hd.loc h1, s.sn.loc h1 h3⟩
  rw [look_locE] at hi ⊢
  unfold locV at hi ⊢
  cases hl : (look e i).lin r
  · rw [hl] at hi; simp [SV.known] at hi
  · rw [hl] at hi
    simp only at hi ⊢
    have hk : (look e i).known = true := by
      cases c : look e i <;> rw [c] at hi <;> simp_all [SV.known, SV.ren]
    have := s.sl.ag i hk
    rw [locH_length]
    exact ⟨lin_bd _ hl, by rw [den_lin hl]; exact this.2⟩
section
variable {P : Program} {X : RX} {w0 : World} {β0 : Nat → Loc} {h0 : List Blk}
theorem St.ext {a : Act} {e : Env} {h : List Blk} {w w' : World} {β : Nat → Loc} (s : St X w0 β0 h0 a e h w β) (x : Ext w w') : St X w0 β0 h0 a e h w' β := ⟨s.sl, s.hd.ext x, s.sn.ext x⟩
theorem Slots.know {n m : Nat} {β : Nat → Loc} {a : Act} {e : Env} (s : Slots n m β a e) {i : Nat} {v : SV} (hv : v.bd m ∧ a.tmps.getD i undef = den β v) : Slots n m β a ((i, v) :: e) :=
  ⟨s.size, fun j hk => by
    simp only [look] at hk ⊢
    by_cases c : i = j
    · subst c; rw [if_pos rfl]; exact hv
    · rw [if_neg c] at hk ⊢; exact s.ag j hk, s.df⟩
theorem St.put {a : Act} {e : Env} {h : List Blk} {w : World} {β : Nat → Loc} (s : St X w0 β0 h0 a e h w β) (d : Option Nat) {v : SV} {u : Value} (hv : v.known = true → v.bd h.length ∧ u = den β v) : St X w0 β0 h0 (a.put d u) (Vx.put X.n d v e) h w β := ⟨s.sl.put d hv, s.hd, s.sn⟩

theorem covE_ok {n m1 m : Nat} {β : Nat → Loc} {a : Act} {e : Env} (s : Slots n m β a e) : ∀ (e1 : Env), covE m1 e1 e → ∀ i, (look e1 i).known = true → (look e1 i).bd m1 ∧ a.tmps.getD i undef = den β (look e1 i)
  | [], _, i, hk => by simp [look, SV.known] at hk
  | (j, v) :: r, hc, i, hk => by
    simp only [covE] at hc
    simp only [look] at hk ⊢
    by_cases c : j = i
    · subst c
      rw [if_pos rfl] at hk ⊢
      obtain ⟨h1, h2⟩ := hc.1 hk
      have := s.ag j (by rw [h2]; exact hk)
      rw [h2] at this
      exact ⟨h1, this.2⟩
    · rw [if_neg c] at hk ⊢; exact covE_ok s r hc.2 i hk
theorem covRow_get : ∀ (row row' : List SV), covRow row row' → row.length = row'.length ∧ ∀ (j : Nat) (v : SV), row[j]? = some v → v.known = true → row'[j]? = some v
  | [], [], _ => ⟨rfl, fun j v h => by simp at h⟩
  | [], _ :: _, h => h.elim
  | _ :: _, [], h => h.elim
  | v :: r, u :: s, h => by
    obtain ⟨h1, h2⟩ := covRow_get r s h.2
    refine ⟨by simp [h1], fun j x hj hk => ?_⟩
    cases j with
    | zero => simp only [List.getElem?_cons_zero, Option.some.injEq] at hj ⊢; subst hj; exact h.1 hk
    | succ j => simp only [List.getElem?_cons_succ] at hj ⊢; exact h2 j x hj hk
theorem covB_ok {w : World} {β : Nat → Loc} {L : Loc} {b b' : Blk} (hc : covB b b') (ok : BlkOk w β L b') : BlkOk w β L b ∧ (b.live → b'.live) ∧ (b.live → b.own = b'.own) := by
  cases b with
  | dead => exact ⟨⟨fun c => c.elim, trivial, fun i j v hv => (by cases hv), fun c => (by cases c)⟩, fun c => c.elim, fun c => c.elim⟩
  | lit row o =>
    cases b' <;> simp only [covB] at hc <;> (try (exact hc.elim))
    rename_i row' o'
    obtain ⟨rfl, hr⟩ := hc
    obtain ⟨hl, hg⟩ := covRow_get row row' hr
    refine ⟨⟨ok.there, trivial, fun i j v hv hk => ?_, fun ho => ?_⟩, fun _ => trivial, fun _ => rfl⟩
    · simp only [Blk.cell] at hv
      split at hv
      · rename_i e; subst e
        rw [rget_eq] at hv
        exact ok.cell 0 j v (by simp [Blk.cell, rget_eq, hg j v hv hk]) hk
      · cases hv
    · exact ⟨(ok.wr ho).1, fun i j hr' => (ok.wr ho).2 i j ⟨hr'.1, by have := hr'.2; omega⟩⟩
  | rows n cap c f o =>
    cases b' <;> simp only [covB] at hc <;> (try (exact hc.elim))
    rename_i n' cap' c' f' o'
    obtain ⟨⟨rfl, rfl⟩, ⟨⟨h1, h2⟩, h3⟩, hf⟩ := hc
    have hfit := ok.fit
    have hlv : (Blk.rows n cap c f o).live → (Blk.rows n' cap' c f' o).live := fun hl => hl.imp id fun q => by omega
    refine ⟨⟨fun hl => ok.there (hlv hl), ⟨⟨hfit.1.1, fun q => by have := hfit.1.2 q; exact ⟨this.1, by omega⟩⟩, h2, fun i hi => by rw [← hf i hi]; exact hfit.2.2 i (by omega)⟩, fun i j v hv hk => ?_, fun ho => ?_⟩, hlv, fun _ => rfl⟩
    · simp only [Blk.cell] at hv
      split at hv
      · rename_i hi
        rw [← hf i hi] at hv
        exact ok.cell i j v (by simp only [Blk.cell]; rw [if_pos (by omega)]; exact hv) hk
      · cases hv
    · exact ⟨(ok.wr ho).1, fun i j hr' => (ok.wr ho).2 i j ⟨by have := hr'.1; omega, hr'.2⟩⟩
  | cells n g o =>
    cases b' <;> simp only [covB] at hc <;> (try (exact hc.elim))
    rename_i n' g' o'
    obtain ⟨⟨rfl, rfl⟩, hg⟩ := hc
    refine ⟨⟨ok.there, trivial, fun i j v hv hk => ?_, ok.wr⟩, fun _ => trivial, fun _ => rfl⟩
    simp only [Blk.cell] at hv
    split at hv
    · rename_i e
      cases hv
      exact ok.cell i j _ (by simp only [Blk.cell]; rw [if_pos e, hg j e.2]) rfl
    · cases hv
theorem covH_get {m : Nat} : ∀ (h1 h : List Blk), covH m h1 h → h1.length ≤ h.length ∧ ∀ l, l < h1.length → (hget h1 l).bd m ∧ covB (hget h1 l) (hget h l)
  | [], h, _ => ⟨by simp, fun l hl => by simp at hl⟩
  | b :: r, [], hc => hc.elim
  | b :: r, b' :: s, hc => by
    obtain ⟨h1, h2⟩ := covH_get r s hc.2.2
    refine ⟨by simp [h1], fun l hl => ?_⟩
    cases l with
    | zero => exact ⟨hc.1, hc.2.1⟩
    | succ l => exact h2 l (by simpa using hl)
theorem St.cov {a : Act} {e e1 : Env} {h h1 : List Blk} {w : World} {β : Nat → Loc} (s : St X w0 β0 h0 a e h w β) (hc : Cov e1 h1 e h) (hn : h0.length ≤ h1.length) : St X w0 β0 h0 a e1 h1 w β := by
  obtain ⟨hl, hg⟩ := covH_get h1 h hc.2
  have hok : ∀ l, BlkOk w β (β l) (hget h1 l) ∧ ((hget h1 l).live → (hget h l).live) ∧ ((hget h1 l).live → (hget h1 l).own = (hget h l).own) := fun l => by
    rcases Nat.lt_or_ge l h1.length with c | c
    · exact covB_ok (hg l c).2 (s.hd.ok l)
    · rw [hget_out c]; exact ⟨⟨fun c => c.elim, trivial, fun i j v hv => (by cases hv), fun c => (by cases c)⟩, fun c => c.elim, fun c => c.elim⟩
  have hown : ∀ l, (hget h1 l).own = true → (hget h l).own = true := fun l ho => by rw [← (hok l).2.2 (Blk.own_live ho)]; exact ho
  refine ⟨⟨s.sl.size, covE_ok s.sl e1 hc.1, s.sl.df⟩, ⟨fun l => (hok l).1, fun l m hl hm hne ho => ?_, fun l => ?_, s.hd.gl, fun l ho => s.hd.go l (hown l ho)⟩, ⟨s.sn.os, s.sn.tape, s.sn.output, s.sn.size, hn, s.sn.same, s.sn.frame, fun l hl hv => s.sn.liv l hl ((hok l).2.1 hv), fun l hl hv => s.sn.ownk l hl (hown l hv), fun l hl hv => s.sn.fresh l hl ((hok l).2.1 hv)⟩⟩
  · exact s.hd.inj l m ((hok l).2.1 hl) ((hok m).2.1 hm) hne (ho.imp (hown l) (hown m))
  · rcases Nat.lt_or_ge l h1.length with c | c
    · exact (hg l c).1
    · rw [hget_out c]; trivial

theorem St.covR {a : Act} {e e1 : Env} {h h1 : List Blk} {w : World} {β : Nat → Loc} (s : St X w0 β0 h0 a e h w β) (hc : CovR h0.length e1 h1 e h) (hn : h0.length ≤ h1.length) : ∃ β', St X w0 β0 h0 a e1 h1 w β' := by
  rcases hc with hc | ⟨r, hr, hc⟩
  · exact ⟨β, s.cov hc hn⟩
  · exact ⟨_, (s.loc hr).cov hc hn⟩

variable {Fin : Act → World → Prop}
theorem new_st {a : Act} {e : Env} {h : List Blk} {w w' : World} {β : Nat → Loc} (s : St X w0 β0 h0 a e h w β) (x : Ext w w') {L : Loc} (hL : w.heap.size ≤ L.b) {blk : Blk} (ok : BlkOk w' β L blk) (hb : blk.bd h.length) (d : Option Nat) {v : SV} (hv : v.bd (h.length + 1)) :
    St X w0 β0 h0 (a.put d (den (bput β h.length L) v)) (put X.n d v e) (h ++ [blk]) w' (bput β h.length L) := by
  refine ⟨Slots.put (s.sl.mono (m' := (h ++ [blk]).length) (by simp) fun l hl => (bput_lt hl).symm) d fun _ => ⟨by simpa using hv, rfl⟩, s.hd.new x hL rfl ok hb, s.sn.new x hL blk⟩
theorem after_st {a : Act} {e : Env} {h h' : List Blk} {w w' : World} {β β' : Nat → Loc} (s : St X w0 β0 h0 a e h w β) (A : After w0 β0 h0 w β h w' β' h') (d : Option Nat) {v : SV} (hv : v.bd h'.length) :
    St X w0 β0 h0 (a.put d (den β' v)) (put X.n d v e) h' w' β' :=
  ⟨Slots.put (s.sl.mono A.len A.same) d fun _ => ⟨hv, rfl⟩, A.holds, A.since⟩

theorem app_ok (ht : TabOk P X.tab) {a : Act} {e : Env} {h : List Blk} {w : World} {β : Nat → Loc} (s : St X w0 β0 h0 a e h w β) {o : Oper} {t : Nat} {x y : SV} (ho : opR X.tab e h o.op = .app t x y) {p : Prop} {q : AppIn} (hap : appR X.tab h t x y = .slc p q) (hp : p) {R : Run} {its : List Item}
    (hr : AppN R X.n q o.dst its e h x) {K : Act → World → Prop} (ih : ∀ e' h', R its e' h' → ∀ a' w' β', St X w0 β0 h0 a' e' h' w' β' → K a' w') : OpW P o K a w := by
  obtain ⟨el, qi, z, ay, cy, F⟩ := appR_facts ht s.hd hap hp
  have hxk : x.known = true := by rw [F.hx]; rfl
  have hyk : y.known = true := by
    refine kn fun c => ?_
    have := F.hy
    rw [c] at this; simp [den, undef] at this
  obtain ⟨ty, hxb, hrun⟩ := opR_app (P := P) s.sl ho hxk hyk
  rcases hr with ⟨hg, hr⟩ | ⟨⟨hown, hcb⟩, hr⟩ | ⟨⟨hm, hlen⟩, hr⟩
  · obtain ⟨cap', w', L, h1, h2, h3, h4, h5⟩ := app_grow s.hd F (ty := ty) hg
    exact .inl ⟨_, w', by rw [hrun, h5]; rfl, ih _ _ (hr cap' h1) _ _ _ (new_st s h2 h3 h4 trivial o.dst (v := .slc h.length 0 (q.len + q.m) cap') (Nat.lt_succ_self _))⟩
  · have hblk : (hget h q.l).own = true := by rw [F.blk]; exact hown
    by_cases hg : q.len + q.m ≤ q.cap
    · obtain ⟨o', vs, h1, h2⟩ := app_room s.hd F (ty := ty) hg hcb hown
      have H1 := s.hd.upd hblk h1 trivial rfl
      have C1 := s.sn.upd hblk (blk := .rows (q.len + q.m) q.cap q.c (catR q.f q.len q.g) true) rfl o' vs
      have hlt := hget_lt (Blk.own_live hblk)
      have hgl : hget (hset h q.l (.rows (q.len + q.m) q.cap q.c (catR q.f q.len q.g) true)) q.l = .rows (q.len + q.m) q.cap q.c (catR q.f q.len q.g) true := by rw [hget_hset, if_pos ⟨rfl, hlt⟩]
      have ho1 : (hget (hset h q.l (.rows (q.len + q.m) q.cap q.c (catR q.f q.len q.g) true)) q.l).own = true := by rw [hgl]; rfl
      have H2 := H1.move ho1
      have C2 := C1.move ho1
      rw [hgl, hset_length] at H2 C2
      have hss : ∀ b b' : Blk, ∀ (l : Nat) (h : List Blk), hset (hset h l b) l b' = hset h l b' := by
        intro b b' l h
        induction h generalizing l with
        | nil => rfl
        | cons c h ih => cases l with
          | zero => rfl
          | succ l => simp only [hset, ih]
      rw [hss] at H2 C2
      refine .inl ⟨_, _, by rw [hrun, h2]; rfl, ih _ _ (hr q.cap hg) _ _ _ ⟨Slots.put (s.sl.mono (by rw [List.length_append, hset_length]; simp) fun l hl => (bput_lt hl).symm) o.dst fun _ => ⟨by rw [List.length_append, hset_length]; exact Nat.lt_succ_self _, ?_⟩, H2, C2⟩⟩
      simp only [den, bput_self]
    · obtain ⟨cap', w', L, h1, h2, h3, h4, h5⟩ := app_grow s.hd F (ty := ty) (by omega)
      have S1 := new_st s h2 h3 h4 (blk := .rows (q.len + q.m) cap' q.c (catR q.f q.len q.g) true) trivial o.dst (v := .slc h.length 0 (q.len + q.m) cap') (Nat.lt_succ_self _)
      have hlt := hget_lt (Blk.own_live hblk)
      have hs : hset (h ++ [Blk.rows (q.len + q.m) cap' q.c (catR q.f q.len q.g) true]) q.l .dead = hset h q.l .dead ++ [Blk.rows (q.len + q.m) cap' q.c (catR q.f q.len q.g) true] := by
        have : ∀ (h : List Blk) (l : Nat) (s : List Blk), l < h.length → hset (h ++ s) l .dead = hset h l .dead ++ s := by
          intro h
          induction h with
          | nil => intro l s hl; simp at hl
          | cons b h ih => intro l s hl; cases l with
            | zero => rfl
            | succ l => simp only [List.cons_append, hset]; rw [ih l s (by simpa using hl)]
        exact this h q.l _ hlt
      refine .inl ⟨_, w', by rw [hrun, h5]; rfl, ih _ _ (hr cap' h1) _ _ (bput β h.length L) ⟨?_, ?_, ?_⟩⟩
      · have := S1.sl
        rw [List.length_append] at this ⊢
        rwa [hset_length]
      · have := S1.hd.kill q.l; rwa [hs] at this
      · have := S1.sn.kill q.l; rwa [hs] at this
  · by_cases hlc : q.len ≤ q.cap
    · have := app_zero (P := P) (w := w) F (ty := ty) hm hlc hlen
      exact .inl ⟨_, w, by rw [hrun, this]; rfl, ih _ _ hr _ _ _ (s.put o.dst fun _ => ⟨hxb, rfl⟩)⟩
    · omega

theorem appz_ok (ht : TabOk P X.tab) {a : Act} {e : Env} {h : List Blk} {w : World} {β : Nat → Loc} (s : St X w0 β0 h0 a e h w β) {o : Oper} {t : Nat} {x y : SV} (ho : opR X.tab e h o.op = .app t x y) {p : Prop} {c m : Nat} {g : Nat → List FV} (hap : appR X.tab h t x y = .nil p c m g) (hp : p) {R : Run} {its : List Item}
    (hr : AppZ R X.n c m g o.dst its e h) {K : Act → World → Prop} (ih : ∀ e' h', R its e' h' → ∀ a' w' β', St X w0 β0 h0 a' e' h' w' β' → K a' w') : OpW P o (fun a' w'' => Ext w w'' ∧ K a' w'') a w := by
  unfold appR at hap
  split at hap
  · rename_i ti hti
    obtain ⟨d, q, hu, hk, _⟩ := ht _ _ hti
    split at hap
    · rename_i el he
      rw [he] at hk; simp only [TK.ok] at hk; subst hk
      split at hap
      · rename_i te hte
        obtain ⟨d2, q2, hu2, _, _, hq2, hsz2, hby, z, hz, hz2, hz3, _⟩ := ht _ _ hte
        split at hap
        · rename_i hb1
          split at hap
          · rename_i m' g' p' hsrc
            split at hap
            · simp only [AP.nil.injEq] at hap
              obtain ⟨rfl, rfl, rfl, rfl⟩ := hap
              obtain ⟨⟨hp1, hp2⟩, hp3⟩ := hp
              obtain ⟨ay, cy, hy', g1, g2, g3⟩ := srcR_ok s.hd hsrc hp1
              have hy := hy'.resolve_right fun c => by omega
              have hyk : y.known = true := by
                refine kn fun c => ?_
                rw [c] at hy; simp [den, undef] at hy
              obtain ⟨ty, _, hrun⟩ := opR_app (P := P) s.sl ho rfl hyk
              have hbytes : m' * q2.bytes ≤ 281474976710656 := by
                have := Nat.mul_le_mul hp3 (show q2.bytes ≤ 1000 by omega); omega
              have hap2 := run_append_nil (P := P) w t ty el q2 z hu hq2 hz ay m' cy (flatR g' m') (by rw [g2, hsz2]) g3 hp2 (by omega) hbytes
              have hge := grownCap_ge w m' 0 el
              have hbo := grown_ok (β := β) (e := el) (len := 0) (f := noRow) (Z := Builtin.zeroCells z.cells (grownCap w m' 0 el - m')) (fun k hk => by omega) g1 (cap' := grownCap w m' 0 el) (by omega) (by rw [size_zeroCells, hz3, Nat.zero_add]) w.drew
              have hcat : catR noRow 0 g' = g' := by funext k; simp [catR]
              rw [hcat] at hbo
              simp only [Nat.zero_add] at hbo
              have hfl : (flatR noRow 0).toArray ++ (flatR g' m').toArray ++ Builtin.zeroCells z.cells (grownCap w m' 0 el - m') = (flatR g' m').toArray ++ Builtin.zeroCells z.cells (grownCap w m' 0 el - m') := by simp [flatR]
              rw [hfl] at hbo
              refine .inl ⟨_, _, by rw [hrun, hy]; simp only [den, FV.val]; rw [hap2]; rfl, (Below.refl _ _).drew.alloc (by simp) _, ?_⟩
              have S1 := new_st (w' := w.drew.alloc (.cells ((flatR g' m').toArray ++ Builtin.zeroCells z.cells (grownCap w m' 0 el - m')) el)) s ((Below.refl _ _).drew.alloc (by simp) _) (L := ⟨w.heap.size, 0, te.size, false⟩) (Nat.le_refl _) hbo trivial o.dst (v := .slc h.length 0 m' (grownCap w m' 0 el)) (Nat.lt_succ_self _)
              have := ih _ _ (hr _ hge) _ _ _ S1
              simp only [den, bput_self, Nat.zero_mul, Nat.add_zero] at this
              exact this
            · split at hap
              · split at hap
                · split at hap <;> cases hap
                · cases hap
              · cases hap
            · cases hap
          · cases hap
        · cases hap
      · cases hap
    · cases hap
  · cases hap
end
end Go.Proofs.YtjhddlkfkicpaaaGreatDoor.Vx

namespace Go.Proofs.YtjhddlkfkicpaaaGreatDoor.Vx
open Go Go.RowKit Fl
set_option linter.unusedVariables false
set_option linter.unusedSimpArgs false

section
variable {P : Program} {X : RX} {w0 : World} {β0 : Nat → Loc} {h0 : List Blk} {Fin : Act → World → Prop}

theorem OpW.mono {K K' : Act → World → Prop} (hk : ∀ a w, K a w → K' a w) {o : Oper} {a : Act} {w : World} (h : OpW P o K a w) : OpW P o K' a w := by
  rcases h with ⟨v, w', h1, h2⟩ | ⟨w', h1, h2⟩ | ⟨f, xs, w1, h1, h2⟩
  · exact .inl ⟨v, w', h1, hk _ _ h2⟩
  · exact .inr (.inl ⟨w', h1, hk _ _ h2⟩)
  · exact .inr (.inr ⟨f, xs, w1, h1, Calls.mono h2 fun e w' ⟨v, he, h⟩ => ⟨v, he, hk _ _ h⟩⟩)
theorem kop_mono {md : Nat} {o : Oper} {K K' : Act → World → Prop} (hk : ∀ a w, K a w → K' a w) {a : Act} {w : World} (h : KOp P md o K a w) : KOp P md o K' a w := by
  have hw : ∀ {K K' : Act → World → Prop} (hk : ∀ a w, K a w → K' a w) {a : Act} {w : World}, OpW P o K a w → OpW P o K' a w := by
    intro K K' hk a w h
    rcases h with ⟨v, w', h1, h2⟩ | ⟨w', h1, h2⟩ | ⟨f, xs, w1, h1, h2⟩
    · exact .inl ⟨v, w', h1, hk _ _ h2⟩
    · exact .inr (.inl ⟨w', h1, hk _ _ h2⟩)
    · exact .inr (.inr ⟨f, xs, w1, h1, Calls.mono h2 fun e w' ⟨v, he, h⟩ => ⟨v, he, hk _ _ h⟩⟩)
  unfold KOp at *
  split at h
  · exact hw hk h
  · obtain ⟨v, h1, h2⟩ := h; exact ⟨v, h1, hk _ _ h2⟩
  · obtain ⟨f, xs, v, h1, h2, h3⟩ := h; exact ⟨f, xs, v, h1, h2, hk _ _ h3⟩
  · exact fun w' x => hw (fun a' w'' h => ⟨h.1, hk _ _ h.2⟩) (h w' x)

theorem linL_nil_bd : ∀ {l : List SV} {n : Nat}, linL [] l = true → bdL n l := by
  intro l
  induction l with
  | nil => intro n _; trivial
  | cons v l ih =>
    intro n h
    simp only [linL, Bool.and_eq_true] at h
    refine ⟨?_, ih h.2⟩
    have := lin_bd v h.1
    have hr := lin_ren (r := []) (fun l hl => by cases hl) v h.1
    have h2 := SV.bd_ren (m := n) (r := lget []) (fun l (hl : l < 0) => absurd hl (by omega)) _ this
    rwa [hr] at h2
theorem lin_nil {v : SV} (h : v.lin [] = true) (β β' : Nat → Loc) (n : Nat) : v.bd n ∧ den β v = den β' v := by
  have h1 : linL [] [v] = true := by simp [linL, h]
  refine ⟨(linL_nil_bd (n := n) h1).1, den_congr (n := 0) (fun l hl => absurd hl (by omega)) v (linL_nil_bd (n := 0) h1).1⟩

theorem op_ok (ht : TabOk P X.tab) {R : Run} {its : List Item} {K : Act → World → Prop} (ih : ∀ e' h', R its e' h' → ∀ a' w' β', St X w0 β0 h0 a' e' h' w' β' → K a' w')
    {md : Nat} {o : Oper} {e : Env} {h : List Blk} {q : OR} (ho : opR X.tab e h o.op = .or q)
    (hr : stOr P X R md o q its e h)
    {a : Act} {w : World} {β : Nat → Loc} (s : St X w0 β0 h0 a e h w β) (hmd : md ≤ 3) : KOp P md o K a w := by
  have val : ∀ (u : Value), (∀ w', Ext w w' → (execOp a.eval o).run P w' = .ok (.value u) w') → (∀ w', Ext w w' → K (a.put o.dst u) w') → (md = 2 → False) → KOp P md o K a w := fun u h1 h2 h3 => by
    unfold KOp
    split
    · exact .inl ⟨u, w, h1 w (Ext.refl _), h2 w (Ext.refl _)⟩
    · exact ⟨u, h1, h2 w (Ext.refl _)⟩
    · exact absurd rfl h3
    · exact fun w' x => .inl ⟨u, w', h1 w' x, Ext.refl _, h2 w' x⟩
  cases q with
  | val p v =>
    obtain ⟨hno, hp, hr⟩ := hr
    obtain ⟨u, h1, h2⟩ := opR_val (P := P) ht s.hd s.sl ho hp
    exact val u (fun w' x => h1 w' (s.hd.ext x)) (fun w' x => ih _ _ hr _ _ _ ((s.ext x).put o.dst h2)) hno
  | pick c x y =>
    obtain ⟨hno, hr⟩ := hr
    obtain ⟨u, h1, h2⟩ := opR_pick (P := P) s.sl ho
    refine val u (fun w' _ => h1 w') (fun w' hx => ?_) hno
    cases c
    · exact ih _ _ (hr.2 rfl) _ _ _ ((s.ext hx).put o.dst h2)
    · exact ih _ _ (hr.1 rfl) _ _ _ ((s.ext hx).put o.dst h2)
  | new p b mk =>
    have key : ∀ w', Ext w w' → p → R its (put X.n o.dst (mk h.length) e) (h ++ [b]) → OpW P o (fun a' w'' => Ext w' w'' ∧ K a' w'') a w' := fun w' x hp hr => by
      obtain ⟨hb, w2, L, h2, h3, h4, h5, h6⟩ := opR_new (P := P) (w := w') ht s.sl ho hp
      exact .inl ⟨_, w2, h6, h2, ih _ _ hr _ _ _ (new_st (s.ext x) h2 h3 h4 hb o.dst h5)⟩
    obtain ⟨rfl | rfl, hp, hr⟩ := hr
    · exact kop_mono (md := 0) (K := fun a' w'' => Ext w w'' ∧ K a' w'') (fun _ _ h => h.2) (key w (Ext.refl _) hp hr)
    · exact fun w' x => key w' x hp hr
  | upd p l b =>
    obtain ⟨rfl, hp, hr⟩ := hr
    obtain ⟨hown, hbo, hbb, q, vs, h1, h2⟩ := opR_upd (P := P) ht s.hd s.sl ho hp
    exact .inr (.inl ⟨_, h2, ih _ _ hr _ _ β ⟨Slots.put (s.sl.mono (by rw [hset_length]; exact Nat.le_refl _) fun _ _ => rfl) o.dst fun _ => ⟨trivial, rfl⟩, s.hd.upd hown h1 hbb hbo, s.sn.upd hown hbo q vs⟩⟩)
  | call f args =>
    have chk : ∀ {r : List Nat}, ((knownL args && (locOk r h && (linL r args && allLt h.length r))) = true) → knownL args = true ∧ locOk r h = true ∧ linL r args = true ∧ ∀ l ∈ r, l < h.length := fun c => by
      simp only [Bool.and_eq_true] at c
      exact ⟨c.1, c.2.1, c.2.2.1, (allLt_iff _ _).1 c.2.2.2⟩
    have rd : ∀ {r : List Nat}, ((knownL args && (locOk r h && (linL r args && allLt h.length r))) = true) → CallR P R X.n f (renL (idx r) args) (roL (locH r h r)) r o.dst its e h → ∀ w', Ext w w' → OpW P o (fun a' w'' => Ext w' w'' ∧ K a' w'') a w' := fun {r} c hc w' x => by
      obtain ⟨c1, c2, c3, c4⟩ := chk c
      obtain ⟨Q, cv, hk⟩ := hc
      have s' := s.ext x
      obtain ⟨_, hrun⟩ := opR_call (P := P) s.sl ho c1 cv.enters
      refine .inr (.inr ⟨f, _, w', hrun w', Calls.mono (callR_ok s'.hd s'.sn c2 c3 c4 cv) ?_⟩)
      rintro ee w'' ⟨v, hh, β', he, hx, hq, hb, A⟩
      exact ⟨_, he, hx, ih _ _ (hk v hh hq) _ _ _ (after_st s' A o.dst hb)⟩
    match md, hr with
    | 0, hr =>
      rcases hr with ⟨c, hc | hc⟩ | ⟨c, v, hv, hrun, hk⟩
      · exact kop_mono (md := 0) (K := fun a' w'' => Ext w w'' ∧ K a' w'') (fun _ _ h => h.2) (rd c hc w (Ext.refl _))
      · obtain ⟨c1, c2, c3, c4⟩ := chk c
        obtain ⟨Q, cv, hk⟩ := hc
        obtain ⟨_, hrun⟩ := opR_call (P := P) s.sl ho c1 cv.enters
        refine .inr (.inr ⟨f, _, w, hrun w, Calls.mono (callG_ok s.hd s.sn c2 c3 c4 cv) ?_⟩)
        rintro ee w'' ⟨v, hh, β', he, hq, hb, A, _⟩
        exact ⟨_, he, ih _ _ (hk v hh hq) _ _ _ (after_st s A o.dst hb)⟩
      · exact val (den β v) (fun w' x => by rw [(opR_callF (P := P) s.sl ho c).2 w', hrun]) (fun w' x => ih _ _ hk _ _ _ ((s.ext x).put o.dst fun _ => ⟨hv, rfl⟩)) (by omega)
    | 3, hr => exact fun w' x => rd hr.1 hr.2 w' x
    | 2, hr =>
      obtain ⟨c, v, hv, cv, hk⟩ := hr
      simp only [Bool.and_eq_true] at c hv
      obtain ⟨_, hrun⟩ := opR_call (P := P) s.sl ho c.1 cv.enters
      have hH : ∀ w', Gl w' → Holds w' β [] := fun w' hg => ⟨fun l => ⟨fun c => c.elim, trivial, fun i j v hv => (by cases hv), fun c => (by cases c)⟩, fun l m c => c.elim, fun l => trivial, hg, fun l c => (by cases c)⟩
      refine ⟨f, _, den β v, hrun, fun w' x => Calls.mono (cv.calls w' β (hH w' (s.hd.gl.ext x))) ?_, ih _ _ hk _ _ _ (s.put o.dst fun _ => ⟨(lin_nil hv.2 β β h.length).1, rfl⟩)⟩
      rintro ee w'' ⟨v', hh, β', rfl, ⟨rfl, rfl⟩, H2, s2, _⟩
      exact ⟨by rw [(lin_nil hv.2 β' β 0).2], ⟨s2.os, s2.tape, s2.output, s2.size, fun b hb => s2.frame b hb fun l hl => (by cases hl)⟩⟩
    | 1, hr => exact hr.elim
    | n + 4, hr => omega
  | app _ _ _ _ _ _ _ _ _ => exact hr.elim
  | bad => exact hr.elim

theorem wid_ok (ht : TabOk P X.tab) {R : Run} {its : List Item} {K : Act → World → Prop} (ih : ∀ e' h', R its e' h' → ∀ a' w' β', St X w0 β0 h0 a' e' h' w' β' → K a' w')
    {md : Nat} {o : Oper} {e : Env} {h : List Blk} {b : Nat} (ho : opR X.tab e h o.op = .wid b)
    (hr : WidN R X.n md b o.dst its e h)
    {a : Act} {w : World} {β : Nat → Loc} (s : St X w0 β0 h0 a e h w β) (hmd : md ≤ 3) : KOp P md o K a w := by
  have hrun := opR_wid (P := P) ht s.sl ho
  rcases hr with ⟨hno, hp, hr⟩ | ⟨hmd0, hr⟩
  · have h1 := fun w' => hrun w' _ _ (hp P w')
    have h2 : ∀ w', Ext w w' → K (a.put o.dst (.float .f64 (fwide b))) w' := fun w' x => ih _ _ hr _ _ _ ((s.ext x).put o.dst fun _ => ⟨trivial, rfl⟩)
    unfold KOp
    split
    · exact .inl ⟨_, w, h1 w, h2 w (Ext.refl _)⟩
    · exact ⟨_, fun w' _ => h1 w', h2 w (Ext.refl _)⟩
    · exact absurd rfl hno
    · exact fun w' x => .inl ⟨_, w', h1 w', Ext.refl _, h2 w' x⟩
  · have key : ∀ w', Ext w w' → OpW P o (fun a' w'' => Ext w' w'' ∧ K a' w'') a w' := fun w' x => by
      obtain ⟨c, w2, h1, h2, h3⟩ := wid_run b P w'
      exact .inl ⟨_, w2, hrun w' _ _ h1, h3, ih _ _ (hr c h2) _ _ _ (((s.ext x).ext h3).put o.dst fun _ => ⟨trivial, rfl⟩)⟩
    rcases hmd0 with rfl | rfl
    · exact kop_mono (md := 0) (K := fun a' w'' => Ext w w'' ∧ K a' w'') (fun _ _ h => h.2) (key w (Ext.refl _))
    · exact fun w' x => key w' x
theorem wanted_of {n m : Nat} {β : Nat → Loc} {a : Act} {e : Env} (s : Slots n m β a e) {all : List Oper} {o : Oper} {g : Nat} {want : Bool} (hg : o.guard = some (g, want)) {sl : Nat} (hd : dstOf all g = some sl) {v : SV} (hl : look e sl = v) (hk : v.known = true) :
    Region.wanted o (yielded all.toArray a.tmps) = (match den β v with | .bool b => b == want | _ => false) := by
  have h1 := s.ag sl (by rw [hl]; exact hk)
  rw [hl] at h1
  unfold Region.wanted
  rw [hg]
  simp only
  have hd2 : (all.toArray[g]?).bind (·.dst) = some sl := by
    unfold dstOf at hd
    rw [rget_eq] at hd
    simp only [List.getElem?_toArray]
    cases hq : all[g]? with
    | none => rw [hq] at hd; cases hd
    | some o' => rw [hq] at hd; simpa using hd
  unfold yielded
  rw [hd2]
  simp only [Option.bind_some]
  have h2 : a.tmps[sl]?.getD undef = den β v := by simpa using h1.2
  cases hq : a.tmps[sl]? with
  | none =>
    rw [hq] at h2
    simp only [Option.getD_none] at h2
    rw [← h2]; simp [undef]
  | some u =>
    rw [hq] at h2
    simp only [Option.getD_some] at h2
    rw [← h2]
    cases u <;> simp

theorem Since.trans {w0 : World} {β0 : Nat → Loc} {h0 : List Blk} {w1 : World} {β1 : Nat → Loc} {h1 : List Blk} {w : World} {β : Nat → Loc} {h : List Blk} (s : Since w0 β0 h0 w1 β1 h1) (c : Since w1 β1 h1 w β h) : Since w0 β0 h0 w β h := by
  have ow : ∀ l, (hget h1 l).own = true → w0.heap.size ≤ (β1 l).b ∨ ∃ l0, (hget h0 l0).own = true ∧ (β0 l0).b = (β1 l).b := fun l hl => s.own l hl
  refine ⟨c.os.trans s.os, c.tape.trans s.tape, c.output.trans s.output, Nat.le_trans s.size c.size, Nat.le_trans s.len c.len, fun l hl => (c.same l (Nat.lt_of_lt_of_le hl s.len)).trans (s.same l hl), fun b hb hn => ?_, fun l hl hv => s.liv l hl (c.liv l (Nat.lt_of_lt_of_le hl s.len) hv), fun l hl hv => s.ownk l hl (c.ownk l (Nat.lt_of_lt_of_le hl s.len) hv), fun l hl hv => ?_⟩
  · rw [c.frame b (Nat.lt_of_lt_of_le hb s.size) fun l ho => ?_]
    · exact s.frame b hb hn
    · rcases ow l ho with d | ⟨l0, o0, e0⟩
      · omega
      · rw [← e0]; exact hn l0 o0
  · rcases Nat.lt_or_ge l h1.length with d | d
    · rw [c.same l d]
      exact s.fresh l hl (c.liv l d hv)
    · rcases c.fresh l d hv with e | ⟨l1, o1, e1⟩
      · left; have := s.size; omega
      · rw [← e1]; exact ow l1 o1
theorem keepB_length (nb : Nat) (B : List Nat) : ∀ (i : Nat) (h : List Blk), (keepB nb B i h).length = h.length
  | _, [] => rfl
  | i, b :: r => by simp [keepB, keepB_length nb B (i + 1) r]
theorem keepB_get (nb : Nat) (B : List Nat) : ∀ (i : Nat) (h : List Blk) (l : Nat), hget (keepB nb B i h) l = if i + l < nb ∧ i + l ∉ B then hget h l else .dead
  | _, [], l => by simp [keepB, hget]
  | i, b :: r, 0 => by
    simp only [keepB, hget, Nat.add_zero]
    by_cases c : i < nb ∧ i ∉ B
    · have : inL i B = false := by rw [Bool.eq_false_iff]; intro d; exact c.2 ((inL_iff _ _).1 d)
      simp [c, this]
    · rw [if_neg c]
      by_cases d : i < nb
      · have : inL i B = true := (inL_iff _ _).2 (Classical.not_not.1 fun e => c ⟨d, e⟩)
        simp [this]
      · simp [d]
  | i, b :: r, l + 1 => by
    simp only [keepB, hget]
    rw [keepB_get nb B (i + 1) r l, show i + 1 + l = i + (l + 1) from by omega]
theorem Holds.kept {w w' : World} {β : Nat → Loc} {h : List Blk} {KP : Nat → Prop} {nb : Nat} {B : List Nat} (H : Holds w β h) (hg : Gl w') (k : Keep KP w w') (hk : ∀ l, l < nb → l ∉ B → (hget h l).live → KP (β l).b) : Holds w' β (keepB nb B 0 h) := by
  have key := keepB_get nb B 0 h
  simp only [Nat.zero_add] at key
  have lv : ∀ l, (hget (keepB nb B 0 h) l).live → (l < nb ∧ l ∉ B) ∧ (hget h l).live := fun l hl => by
    rw [key] at hl
    split at hl
    · exact ⟨by assumption, hl⟩
    · exact hl.elim
  refine ⟨fun l => ?_, fun l m hl hm hne ho => ?_, fun l => ?_, hg, fun l ho => by
    have := (lv l (Blk.own_live ho)).1
    rw [key, if_pos this] at ho
    exact H.go l ho⟩
  · rw [key]
    split
    · rename_i c
      by_cases hv : (hget h l).live
      · have ok := H.ok l
        have hblk := k.2 _ (hk l c.1 c.2 hv) (ok.there hv)
        refine ⟨fun _ => Nat.lt_of_lt_of_le (ok.there hv) k.1, ok.fit, fun i j u hu hkn => ⟨(ok.cell i j u hu hkn).1, (World.cell?_of_block (w := w) (w' := w') hblk).trans (ok.cell i j u hu hkn).2⟩, fun ho => ⟨(ok.wr ho).1, fun i j hr => ?_⟩⟩
        have := (ok.wr ho).2 i j hr
        exact ⟨by rw [World.cell?_of_block (w := w) (w' := w') hblk]; exact this.1, by rw [World.frozen?_of_block (w := w) (w' := w') hblk]; exact this.2⟩
      · have ok := H.ok l
        exact ⟨fun c => absurd c hv, ok.fit, fun i j u hu hkn => absurd (ok.cell_live hu) hv, fun ho => absurd (Blk.own_live ho) hv⟩
    · exact ⟨fun c => c.elim, trivial, fun i j v hv => (by cases hv), fun c => (by cases c)⟩
  · obtain ⟨c1, l1⟩ := lv l hl
    obtain ⟨c2, l2⟩ := lv m hm
    rw [key, key, if_pos c1, if_pos c2] at ho
    exact H.inj l m l1 l2 hne ho
  · rw [key, keepB_length]
    split
    · exact H.bd l
    · trivial
theorem gB_ok {all : List Oper} {o : Oper} {e : Env} {rn sk : Env → Prop} (hg : gB all o e rn sk) {a : Act} {h : List Blk} {w : World} {β : Nat → Loc} (s : St X w0 β0 h0 a e h w β) :
    (Region.wanted o (yielded all.toArray a.tmps) = true ∧ ∃ e', rn e' ∧ St X w0 β0 h0 a e' h w β) ∨ (Region.wanted o (yielded all.toArray a.tmps) = false ∧ ∃ e', sk e' ∧ St X w0 β0 h0 a e' h w β) := by
  unfold gB at hg
  split at hg
  · rename_i hn
    exact .inl ⟨by simp [Region.wanted, hn], e, hg, s⟩
  · rename_i gw hgw
    obtain ⟨g, want⟩ := gw
    split at hg
    · rename_i sl hsl
      unfold gV at hg
      split at hg
      · rename_i t hl
        have hwd := wanted_of s.sl hgw hsl hl rfl
        simp only [den, FV.val] at hwd
        have hkn : ∀ b, t = b → St X w0 β0 h0 a ((sl, .f (.bool b)) :: e) h w β := fun b hb => ⟨s.sl.know (by have := s.sl.ag sl (by rw [hl]; rfl); rw [hl, hb] at this; exact this), s.hd, s.sn⟩
        cases want <;> cases t <;> simp only at hg
        · exact .inl ⟨by rw [hwd]; rfl, _, hg.2 rfl, hkn false rfl⟩
        · exact .inr ⟨by rw [hwd]; rfl, _, hg.1 rfl, hkn true rfl⟩
        · exact .inr ⟨by rw [hwd]; rfl, _, hg.2 rfl, hkn false rfl⟩
        · exact .inl ⟨by rw [hwd]; rfl, _, hg.1 rfl, hkn true rfl⟩
      · rename_i hl
        have hwd := wanted_of s.sl hgw hsl hl rfl
        simp only [den] at hwd
        exact .inr ⟨hwd, e, hg, s⟩
      · exact hg.elim
    · exact hg.elim
theorem appB_ok (ht : TabOk P X.tab) {a : Act} {e : Env} {h : List Blk} {w : World} {β : Nat → Loc} (s : St X w0 β0 h0 a e h w β) {o : Oper} {t : Nat} {x y : SV} (ho : opR X.tab e h o.op = .app t x y) {K : Env → List Blk → Prop}
    (hr : AppB K X.n o.dst (appR X.tab h t x y) x e h) {K' : Act → World → Prop} (ih : ∀ e' h', K e' h' → ∀ a' w' β', St X w0 β0 h0 a' e' h' w' β' → K' a' w') : OpW P o (fun a' w'' => Ext w w'' ∧ K' a' w'') a w := by
  cases hap : appR X.tab h t x y with
  | bad => rw [hap] at hr; exact hr.elim
  | slc p q =>
    rw [hap] at hr
    obtain ⟨hp, hr⟩ := hr
    obtain ⟨el, qi, z, ay, cy, F⟩ := appR_facts ht s.hd hap hp
    have hxk : x.known = true := by rw [F.hx]; rfl
    have hyk : y.known = true := by
      refine kn fun c => ?_
      have := F.hy
      rw [c] at this; simp [den, undef] at this
    obtain ⟨ty, hxb, hrun⟩ := opR_app (P := P) s.sl ho hxk hyk
    rcases hr with ⟨hg, hr⟩ | ⟨⟨hm, hlen⟩, hr⟩
    · obtain ⟨cap', w', L, h1, h2, h3, h4, h5⟩ := app_grow s.hd F (ty := ty) hg
      exact .inl ⟨_, w', by rw [hrun, h5]; rfl, h2, ih _ _ (hr cap' h1) _ _ _ (new_st s h2 h3 h4 trivial o.dst (v := .slc h.length 0 (q.len + q.m) cap') (Nat.lt_succ_self _))⟩
    · by_cases hlc : q.len ≤ q.cap
      · have := app_zero (P := P) (w := w) F (ty := ty) hm hlc hlen
        exact .inl ⟨_, w, by rw [hrun, this]; rfl, Ext.refl _, ih _ _ hr _ _ _ (s.put o.dst fun _ => ⟨hxb, rfl⟩)⟩
      · omega
  | nil p c m g =>
    rw [hap] at hr
    obtain ⟨hp, hr⟩ := hr
    exact appz_ok ht s ho hap hp (R := fun _ e h => K e h) (its := []) hr ih
/-- Append in place or by growing: what is apart from the old slice stays as it was. -/
theorem appI_ok (ht : TabOk P X.tab) {a : Act} {e : Env} {h : List Blk} {w : World} {β : Nat → Loc} (s : St X w0 β0 h0 a e h w β) {o : Oper} {t : Nat} {x y : SV} (ho : opR X.tab e h o.op = .app t x y) {K : Env → List Blk → Prop} {p : Prop} {q : AppIn} (hap : appR X.tab h t x y = .slc p q) (hp : p)
    (hown : q.own = true) (hcb : q.cap ≤ q.cb) {Z : Nat → Prop} (hZ : ∀ l', l' < h0.length → Z l' → (hget h0 l').live → (β0 l').b ≠ (β q.l).b)
    (hr : ∀ cap', q.len + q.m ≤ cap' → K (put X.n o.dst (.slc h.length 0 (q.len + q.m) cap') e) (hset h q.l .dead ++ [.rows (q.len + q.m) cap' q.c (catR q.f q.len q.g) true])) {K' : Act → World → Prop} (ih : ∀ e' h', K e' h' → ∀ a' w' β', St X w0 β0 h0 a' e' h' w' β' → K' a' w') :
    OpW P o (fun a' w'' => Keep (fun b => b < ng ∨ ∃ l, l < h0.length ∧ Z l ∧ (hget h0 l).live ∧ (β0 l).b = b) w w'' ∧ K' a' w'') a w := by
  obtain ⟨el, qi, z, ay, cy, F⟩ := appR_facts ht s.hd hap hp
  have hxk : x.known = true := by rw [F.hx]; rfl
  have hyk : y.known = true := by
    refine kn fun c => ?_
    have := F.hy
    rw [c] at this; simp [den, undef] at this
  obtain ⟨ty, hxb, hrun⟩ := opR_app (P := P) s.sl ho hxk hyk
  have hblk : (hget h q.l).own = true := by rw [F.blk]; exact hown
  have hlt := hget_lt (Blk.own_live hblk)
  by_cases hg : q.len + q.m ≤ q.cap
  · obtain ⟨o', vs, h1, h2⟩ := app_room s.hd F (ty := ty) hg hcb hown
    have H1 := s.hd.upd hblk h1 trivial rfl
    have C1 := s.sn.upd hblk (blk := .rows (q.len + q.m) q.cap q.c (catR q.f q.len q.g) true) rfl o' vs
    have hgl : hget (hset h q.l (.rows (q.len + q.m) q.cap q.c (catR q.f q.len q.g) true)) q.l = .rows (q.len + q.m) q.cap q.c (catR q.f q.len q.g) true := by rw [hget_hset, if_pos ⟨rfl, hlt⟩]
    have ho1 : (hget (hset h q.l (.rows (q.len + q.m) q.cap q.c (catR q.f q.len q.g) true)) q.l).own = true := by rw [hgl]; rfl
    have H2 := H1.move ho1
    have C2 := C1.move ho1
    rw [hgl, hset_length] at H2 C2
    have hss : ∀ b b' : Blk, ∀ (l : Nat) (h : List Blk), hset (hset h l b) l b' = hset h l b' := by
      intro b b' l h
      induction h generalizing l with
      | nil => rfl
      | cons c h ih => cases l with
        | zero => rfl
        | succ l => simp only [hset, ih]
    rw [hss] at H2 C2
    refine .inl ⟨_, _, by rw [hrun, h2]; rfl, ⟨by rw [size_setCells]; exact Nat.le_refl _, fun b' hb' _ => heap_setCells _ _ ?_ _ _ _⟩, ih _ _ (hr q.cap hg) _ _ _ ⟨Slots.put (s.sl.mono (by rw [List.length_append, hset_length]; simp) fun l hl => (bput_lt hl).symm) o.dst fun _ => ⟨by rw [List.length_append, hset_length]; exact Nat.lt_succ_self _, ?_⟩, H2, C2⟩⟩
    · rcases hb' with hb' | ⟨l', k1, k2, k3, rfl⟩
      · have := s.hd.go _ hblk; omega
      · exact hZ l' k1 k2 k3
    · simp only [den, bput_self]
  · obtain ⟨cap', w', L, h1, h2, h3, h4, h5⟩ := app_grow s.hd F (ty := ty) (by omega)
    have S1 := new_st s h2 h3 h4 (blk := .rows (q.len + q.m) cap' q.c (catR q.f q.len q.g) true) trivial o.dst (v := .slc h.length 0 (q.len + q.m) cap') (Nat.lt_succ_self _)
    have hs : hset (h ++ [Blk.rows (q.len + q.m) cap' q.c (catR q.f q.len q.g) true]) q.l .dead = hset h q.l .dead ++ [Blk.rows (q.len + q.m) cap' q.c (catR q.f q.len q.g) true] := by
      have : ∀ (h : List Blk) (l : Nat) (s : List Blk), l < h.length → hset (h ++ s) l .dead = hset h l .dead ++ s := by
        intro h
        induction h with
        | nil => intro l s hl; simp at hl
        | cons b h ih => intro l s hl; cases l with
          | zero => rfl
          | succ l => simp only [List.cons_append, hset]; rw [ih l s (by simpa using hl)]
      exact this h q.l _ hlt
    refine .inl ⟨_, w', by rw [hrun, h5]; rfl, Keep.of_ext h2, ih _ _ (hr cap' h1) _ _ (bput β h.length L) ⟨?_, ?_, ?_⟩⟩
    · have := S1.sl
      rw [List.length_append] at this ⊢
      rwa [hset_length]
    · have := S1.hd.kill q.l; rwa [hs] at this
    · have := S1.sn.kill q.l; rwa [hs] at this
/-- Whatever order a region takes that stores as it goes. -/
theorem rB_ok (ht : TabOk P X.tab) {K : Env → List Blk → Prop} {all : List Oper} {B : List Nat} {Q : Exit → Act → World → Prop} (hQ : ∀ c a w, ¬ Q (.panic c) a w) (hsel : Region.noSelect all.toArray = true)
    (hK : ∀ e h, K e h → ∀ a w β, St X w0 β0 h0 a e h w β → Q .normal a w) :
    ∀ (s : SB) (ls : Array Bool) (e : Env) (h : List Blk), rB P X K all h0 B s e h → sbOk all.toArray s ls = true → ∀ a w β, St X w0 β0 h0 a e h w β →
      wpB P all.toArray Q (fun b => b < ng ∨ ∃ l, l < h0.length ∧ l ∉ B ∧ (hget h0 l).live ∧ (β0 l).b = b) s.dep ls a w := by
  have hQ' : ∀ (d : Option Nat) (v : Value) c a w, Q (.panic c) (a.put d v) w → Q (.panic c) a w := fun d v c a w q => absurd q (hQ _ _ _)
  have hnsel := Region.noSelect_spec hsel
  have hkp : ∀ {a e h w β}, St X w0 β0 h0 a e h w β → ∀ l, l < h0.length → l ∉ B → (hget h l).live → (β l).b < ng ∨ ∃ l', l' < h0.length ∧ l' ∉ B ∧ (hget h0 l').live ∧ (β0 l').b = (β l).b := fun {a e h w β} s l h1 h2 h3 => .inr ⟨l, h1, h2, s.sn.liv l h1 h3, by rw [s.sn.same l h1]⟩
  have apart : ∀ {a : Act} {e : Env} {h : List Blk} {w : World} {β : Nat → Loc} {l : Nat}, (ofB h0.length B l && kpB B 0 h0 h) = true → (hget h l).own = true → St X w0 β0 h0 a e h w β → ∀ l', l' < h0.length → l' ∉ B → (hget h0 l').live → (β0 l').b ≠ (β l).b := by
    intro a e h w β l hch hown s l' k1 k2 k3
    simp only [Bool.and_eq_true] at hch
    have hl' : (hget h l').live := by
      have : ∀ (i : Nat) (hs : List Blk) (j : Nat), kpB B i hs h = true → j < hs.length → i + j ∉ B → (hget hs j).live → (hget h (i + j)).live := by
        intro i hs
        induction hs generalizing i with
        | nil => intro j _ hj; simp at hj
        | cons x hs ih =>
          intro j hkb hj hB hv
          simp only [kpB, Bool.and_eq_true, Bool.or_eq_true] at hkb
          cases j with
          | zero =>
            simp only [Nat.add_zero] at hB ⊢
            rcases hkb.1 with (c | c) | c
            · exact absurd ((inL_iff _ _).1 c) hB
            · simp only [hget] at hv; cases x <;> first | exact hv.elim | (simp [isDead] at c)
            · simp only [hget] at hv
              exact kpR_live c hv
          | succ j =>
            have := ih (i + 1) j hkb.2 (by simpa using hj) (by rw [show i + 1 + j = i + (j + 1) from by omega]; exact hB) hv
            rwa [show i + 1 + j = i + (j + 1) from by omega] at this
      have := this 0 h0 l' hch.2 k1 (by rwa [Nat.zero_add]) k3
      rwa [Nat.zero_add] at this
    have hne : l' ≠ l := by
      intro e1; subst e1
      simp only [ofB, Bool.or_eq_true, decide_eq_true_eq] at hch
      rcases hch.1 with c | c
      · omega
      · exact k2 ((inL_iff _ _).1 c)
    rw [← s.sn.same l' k1]
    exact s.hd.inj l' l hl' (Blk.own_live hown) hne (.inr hown)
  -- a single operation that comes by itself
  have one : ∀ {K1 : Env → List Blk → Prop} {K' : Act → World → Prop} (_ : ∀ e h, K1 e h → ∀ a w β, St X w0 β0 h0 a e h w β → K' a w) {o : Oper} {e : Env} {h : List Blk} {a : Act} {w : World} {β : Nat → Loc} (_ : stN P X K1 h0 B o.dst (opR X.tab e h o.op) e h) (_ : St X w0 β0 h0 a e h w β),
      OpW P o (fun a' w'' => Keep (fun b => b < ng ∨ ∃ l, l < h0.length ∧ l ∉ B ∧ (hget h0 l).live ∧ (β0 l).b = b) w w'' ∧ K' a' w'') a w := by
    intro K1 K' hk o e h a w β hn s
    have viaOr : ∀ q, opR X.tab e h o.op = .or q → stOr P X (kR K1) 3 o q [] e h → OpW P o (fun a' w'' => Keep (fun b => b < ng ∨ ∃ l, l < h0.length ∧ l ∉ B ∧ (hget h0 l).live ∧ (β0 l).b = b) w w'' ∧ K' a' w'') a w := fun q hq hr => by
      have : KOp P 3 o K' a w := op_ok ht (R := kR K1) (its := []) (fun e' h' hk1 => hk e' h' hk1) hq hr s (by omega)
      exact OpW.mono (fun a' w'' hx => ⟨Keep.of_ext hx.1, hx.2⟩) (this w (Ext.refl _))
    cases hq : opR X.tab e h o.op with
    | wid b =>
      rw [hq] at hn
      have : KOp P 3 o K' a w := wid_ok ht (R := kR K1) (its := []) (fun e' h' hk1 => hk e' h' hk1) hq hn s (by omega)
      exact OpW.mono (fun a' w'' hx => ⟨Keep.of_ext hx.1, hx.2⟩) (this w (Ext.refl _))
    | app t x y =>
      rw [hq] at hn
      rcases hn with hn | hn
      · have := appB_ok (P := P) ht s hq (K := K1) hn (K' := K') fun e' h' hk1 => hk e' h' hk1
        exact OpW.mono (fun a' w'' hx => ⟨Keep.of_ext hx.1, hx.2⟩) this
      · cases hap : appR X.tab h t x y with
        | bad => rw [hap] at hn; exact hn.elim
        | nil p c m g => rw [hap] at hn; exact hn.elim
        | slc p q =>
          rw [hap] at hn
          obtain ⟨hp, ⟨⟨hown, hcb⟩, hch⟩, hr⟩ := hn
          exact appI_ok ht s hq hap hp hown hcb (fun l h1 h2 h3 => apart hch (by obtain ⟨_, _, _, _, _, F⟩ := appR_facts ht s.hd hap hp; rw [F.blk]; exact hown) s l h1 h2 h3) hr (K' := K') fun e' h' hk1 => hk e' h' hk1
    | or q =>
      rw [hq] at hn
      cases q with
      | val p v => exact viaOr _ hq ⟨by decide, hn⟩
      | pick c x y => exact viaOr _ hq ⟨by decide, hn⟩
      | new p b mk => exact viaOr _ hq ⟨.inr rfl, hn⟩
      | call f args =>
        rcases hn with hn | ⟨c, hch, Q, cv, hkq⟩
        · exact viaOr _ hq hn
        · have c' := c
          simp only [Bool.and_eq_true] at c'
          obtain ⟨c1, c2, c3, c4⟩ := c'
          simp only [Bool.and_eq_true] at hch
          obtain ⟨_, hrun⟩ := opR_call (P := P) s.sl hq c1 cv.enters
          refine .inr (.inr ⟨f, _, w, hrun w, Calls.mono (callG_ok s.hd s.sn c2 c3 ((allLt_iff _ _).1 c4) cv) ?_⟩)
          rintro ee w'' ⟨v, hh, β', he, hq', hb, A, hsz, hfr⟩
          refine ⟨_, he, ⟨hsz, fun b hb' hlt => hfr b hlt fun l hl ho => ?_⟩, hk _ _ (hkq v hh hq') _ _ _ (after_st s A o.dst hb)⟩
          rcases hb' with hb' | ⟨l', k1, k2, k3, rfl⟩
          · have := s.hd.go l ho; omega
          exact fun e => apart (by rw [ofL_at hch.1 l hl ho, hch.2]; rfl) ho s l' k1 k2 k3 e.symm
      | upd p l b =>
        obtain ⟨hch, hp, hr⟩ := hn
        obtain ⟨hown, hbo, hbb, q, vs, h1, h2⟩ := opR_upd (P := P) ht s.hd s.sl hq hp
        refine .inr (.inl ⟨_, h2, ⟨by rw [size_setCells]; exact Nat.le_refl _, fun b' hb' _ => heap_setCells _ _ ?_ _ _ _⟩, hk _ _ hr _ _ β ⟨Slots.put (s.sl.mono (by rw [hset_length]; exact Nat.le_refl _) fun _ _ => rfl) o.dst fun _ => ⟨trivial, rfl⟩, s.hd.upd hown h1 hbb hbo, s.sn.upd hown hbo q vs⟩⟩)
        rcases hb' with hb' | ⟨l', k1, k2, k3, rfl⟩
        · have := s.hd.go l hown; omega
        exact apart hch hown s l' k1 k2 k3
      | app _ _ _ _ _ _ _ _ _ => exact hn.elim
      | bad => exact hn.elim
  intro s
  induction s with
  | nil =>
    intro ls e h hr hok a w β st
    simp only [sbOk, beq_iff_eq] at hok
    exact ⟨hok, fun w' x => hK e h hr a w' β (st.ext x)⟩
  | q i s ih =>
    intro ls e h hr hok a w β st
    simp only [sbOk, Bool.and_eq_true] at hok
    obtain ⟨⟨⟨hfree, hready⟩, hsome⟩, hrest⟩ := hok
    obtain ⟨o, ho⟩ := Option.isSome_iff_exists.1 hsome
    have ho' : rget all i = some o := by rw [rget_eq]; simpa using ho
    simp only [rB, oB, ho'] at hr
    rcases gB_ok hr st with ⟨hw, e1, hq, s1⟩ | ⟨hw, e1, hq, s1⟩
    · have hlen := keepB_length h0.length B 0 h
      have hsl : Slots X.n (keepB h0.length B 0 h).length β a e1 := by rw [hlen]; exact s1.sl
      have fin : ∀ (u : Value) (e2 : Env), (∀ w', Keep (fun b => b < ng ∨ ∃ l, l < h0.length ∧ l ∉ B ∧ (hget h0 l).live ∧ (β0 l).b = b) w w' → (execOp a.eval o).run P w' = .ok (.value u) w') → rB P X K all h0 B s e2 h → St X w0 β0 h0 (a.put o.dst u) e2 h w β → wpB P all.toArray Q (fun b => b < ng ∨ ∃ l, l < h0.length ∧ l ∉ B ∧ (hget h0 l).live ∧ (β0 l).b = b) (s.dep + 1) ls a w := fun u e2 h1 h2 h3 =>
        wpB_first ho hnsel (hQ' _ u) _ _ _ _ (Region.free_spec ho hfree) (by simpa using hready) (.inl ⟨hw, fun w' k => .inl ⟨w', h1 w' k, Ext.refl _⟩⟩) (ih _ _ _ h2 hrest _ _ _ h3)
      cases hop : opR X.tab e1 (keepB h0.length B 0 h) o.op with
      | wid b =>
        rw [hop] at hq
        obtain ⟨hp, hr2⟩ := hq
        have hrun := opR_wid (P := P) ht hsl hop
        exact fin _ _ (fun w' _ => hrun w' _ _ (hp P w')) hr2 (s1.put o.dst fun _ => ⟨trivial, rfl⟩)
      | app t x y => rw [hop] at hq; exact hq.elim
      | or q =>
        rw [hop] at hq
        cases q with
        | val p v =>
          obtain ⟨hp, hr2⟩ := hq
          obtain ⟨u, h1, h2⟩ := opR_val (P := P) ht (s1.hd.kept s1.hd.gl (Keep.refl (fun b => b < ng ∨ ∃ l, l < h0.length ∧ l ∉ B ∧ (hget h0 l).live ∧ (β0 l).b = b) _) (hkp s1)) hsl hop hp
          exact fin u _ (fun w' k => h1 w' (s1.hd.kept (s1.hd.gl.keep k.1 fun b hb => k.2 b (.inl hb) (Nat.lt_of_lt_of_le hb s1.hd.gl.1)) k (hkp s1))) hr2 (s1.put o.dst (by rw [hlen] at h2; exact h2))
        | pick c x y =>
          obtain ⟨u, h1, h2⟩ := opR_pick (P := P) hsl hop
          rw [hlen] at h2
          cases c
          · exact fin u _ (fun w' k => h1 w') (hq.2 rfl) (s1.put o.dst h2)
          · exact fin u _ (fun w' k => h1 w') (hq.1 rfl) (s1.put o.dst h2)
        | _ => exact hq.elim
    · exact wpB_first ho hnsel (hQ' _ undef) _ _ _ _ (Region.free_spec ho hfree) (by simpa using hready) (.inr ⟨hw, rfl⟩) (ih _ _ _ hq hrest _ _ _ (s1.put o.dst fun _ => ⟨trivial, rfl⟩))
  | e i s ih =>
    intro ls e h hr hok a w β st
    simp only [sbOk, Bool.and_eq_true] at hok
    obtain ⟨⟨⟨hfree, hready⟩, hsome⟩, hrest⟩ := hok
    obtain ⟨o, ho⟩ := Option.isSome_iff_exists.1 hsome
    have ho' : rget all i = some o := by rw [rget_eq]; simpa using ho
    simp only [rB, oB, ho'] at hr
    rcases gB_ok hr st with ⟨hw, e1, hq, s1⟩ | ⟨hw, e1, hq, s1⟩
    · unfold stE at hq
      split at hq
      · rename_i f args hop
        obtain ⟨c, v, hv, cv, hk⟩ := hq
        simp only [Bool.and_eq_true] at c hv
        obtain ⟨_, hrun⟩ := opR_call (P := P) s1.sl hop c.1 cv.enters
        have hH : ∀ w', Gl w' → Holds w' β [] := fun w' hg => ⟨fun l => ⟨fun c => c.elim, trivial, fun i j v hv => (by cases hv), fun c => (by cases c)⟩, fun l m c => c.elim, fun l => trivial, hg, fun l c => (by cases c)⟩
        refine wpB_first ho hnsel (hQ' _ (den β v)) _ _ _ _ (Region.free_spec ho hfree) (by simpa using hready) (.inl ⟨hw, fun w' k => .inr ⟨f, _, w', hrun w', Calls.mono (cv.calls w' β (hH w' (s1.hd.gl.keep k.1 fun b hb => k.2 b (.inl hb) (Nat.lt_of_lt_of_le hb s1.hd.gl.1)))) ?_⟩⟩) (ih _ _ _ hk hrest _ _ _ (s1.put o.dst fun _ => ⟨(lin_nil hv.2 β β h.length).1, rfl⟩))
        rintro ee w'' ⟨v', hh, β', rfl, ⟨rfl, rfl⟩, H2, s2, _⟩
        exact ⟨by rw [(lin_nil hv.2 β' β 0).2], ⟨s2.os, s2.tape, s2.output, s2.size, fun b hb => s2.frame b hb fun l hl => (by cases hl)⟩⟩
      · exact hq.elim
    · exact wpB_first ho hnsel (hQ' _ undef) _ _ _ _ (Region.free_spec ho hfree) (by simpa using hready) (.inr ⟨hw, rfl⟩) (ih _ _ _ hq hrest _ _ _ (s1.put o.dst fun _ => ⟨trivial, rfl⟩))
  | n i s ih =>
    intro ls e h hr hok a w β st
    simp only [sbOk, Bool.and_eq_true, beq_iff_eq] at hok
    obtain ⟨⟨hready, hsome⟩, hrest⟩ := hok
    obtain ⟨o, ho⟩ := Option.isSome_iff_exists.1 hsome
    have ho' : rget all i = some o := by rw [rget_eq]; simpa using ho
    simp only [rB, oB, ho'] at hr
    intro w' hx
    refine ⟨fun h0' => (by rw [hready] at h0'; cases h0'), fun j hj => ?_⟩
    rw [hready] at hj
    obtain rfl : j = i := by simpa using hj
    unfold Go.wpOp
    simp only [ho]
    rcases gB_ok hr (st.ext hx) with ⟨hw, e1, hq, s1⟩ | ⟨hw, e1, hq, s1⟩
    · rw [if_pos hw]
      exact .inl (OpW.wp P (one (fun e2 h2 hk a2 w2 β2 s2 => ih _ _ _ hk hrest _ _ _ s2) hq s1))
    · rw [hw]; simp only [Bool.false_eq_true, if_false]
      exact ⟨Keep.refl _ _, ih _ _ _ hq hrest _ _ _ (s1.put o.dst fun _ => ⟨trivial, rfl⟩)⟩
  | f i s k t ihs iht =>
    intro ls e h hr hok a w β st
    simp only [sbOk, Bool.and_eq_true, beq_iff_eq] at hok
    obtain ⟨⟨⟨⟨⟨hready, hsome⟩, hsome2⟩, hdep⟩, hrest⟩, hrest2⟩ := hok
    obtain ⟨o, ho⟩ := Option.isSome_iff_exists.1 hsome
    obtain ⟨o2, ho2⟩ := Option.isSome_iff_exists.1 hsome2
    have ho' : rget all i = some o := by rw [rget_eq]; simpa using ho
    have ho2' : rget all k = some o2 := by rw [rget_eq]; simpa using ho2
    simp only [rB, oB, ho', ho2'] at hr
    intro w' hx
    refine ⟨fun h0' => (by rw [hready] at h0'; cases h0'), fun j hj => ?_⟩
    rw [hready] at hj
    simp only [List.mem_cons, List.not_mem_nil, or_false] at hj
    rcases hj with rfl | rfl
    · unfold Go.wpOp
      simp only [ho]
      rcases gB_ok hr.1 (st.ext hx) with ⟨hw, e1, hq, s1⟩ | ⟨hw, e1, hq, s1⟩
      · rw [if_pos hw]
        exact .inl (OpW.wp P (one (fun e2 h2 hk a2 w2 β2 s2 => ihs _ _ _ hk hrest _ _ _ s2) hq s1))
      · rw [hw]; simp only [Bool.false_eq_true, if_false]
        exact ⟨Keep.refl _ _, ihs _ _ _ hq hrest _ _ _ (s1.put o.dst fun _ => ⟨trivial, rfl⟩)⟩
    · rw [hdep]
      unfold Go.wpOp
      simp only [ho2]
      rcases gB_ok hr.2 (st.ext hx) with ⟨hw, e1, hq, s1⟩ | ⟨hw, e1, hq, s1⟩
      · rw [if_pos hw]
        exact .inl (OpW.wp P (one (fun e2 h2 hk a2 w2 β2 s2 => iht _ _ _ hk hrest2 _ _ _ s2) hq s1))
      · rw [hw]; simp only [Bool.false_eq_true, if_false]
        exact ⟨Keep.refl _ _, iht _ _ _ hq hrest2 _ _ _ (s1.put o2.dst fun _ => ⟨trivial, rfl⟩)⟩

theorem least {p : Nat → Prop} (h : ∃ n, p n) : ∃ n, p n ∧ ∀ m, p m → n ≤ m := by
  obtain ⟨n, hn⟩ := h
  induction n using Nat.strongRecOn with
  | _ n ih =>
    by_cases c : ∃ m, m < n ∧ p m
    · obtain ⟨m, h1, h2⟩ := c; exact ih m h1 h2
    · refine ⟨n, hn, fun m hm => ?_⟩
      rcases Nat.lt_or_ge m n with d | d
      · exact absurd ⟨m, d, hm⟩ c
      · exact d

theorem run_ok (ht : TabOk P X.tab) (hm : P.follows .mixedOrders = true) (hn : X.n0 = h0.length) (hF : ∀ a e h w β, St X w0 β0 h0 a e h w β → X.F e h → Fin a w) :
    ∀ (k : Nat) (its : List Item) (e : Env) (h : List Blk), run P X k its e h → ∀ a w β, St X w0 β0 h0 a e h w β → kont P (SJ X w0 β0 h0) Fin its .normal a w
  | 0, _, _, _, hr, _, _, _, _ => hr.elim
  | k + 1, its, e, h, hr, a, w, β, s => by
    have ih := run_ok ht hm hn hF k
    cases its with
    | nil => exact hF a e h w β s hr
    | cons it r =>
      cases it with
      | code c =>
        replace hr : stCode P X (run P X k) c r e h := hr
        cases c <;> simp only [stCode] at hr
        case skip => exact wp_skip (ih r e h hr a w β s)
        case seq x y =>
          refine wp_seq (wp_mono (ih _ e h hr a w β s) fun ex a' w' q => ?_)
          cases ex <;> exact q
        case cond c x y =>
          split at hr
          · rename_i t hc
            have he := (s.sl.ev (x := c) (by rw [hc]; rfl)).2
            rw [hc] at he
            exact wp_cond_split he (fun ht' => ih _ e h (hr.1 ht') a w β s) (fun hf' => ih _ e h (hr.2 hf') a w β s)
          · exact hr.elim
        case block id c =>
          exact wp_block (ih _ e h hr a w β s)
        case exit id =>
          split at hr
          · rename_i hb
            exact wp_exit (kont_exit P _ Fin r hb (ih _ e h hr a w β s))
          · exact hr.elim
        case ret => exact wp_ret (kont_ret P _ Fin r (hF a e h w β s hr))
        case loop c =>
          obtain ⟨σ, I, m, car, hp, s0, hlen, h1, hcov, hbody⟩ := hr
          let rel : Act → World → σ → Prop := fun a w s => I s ∧ ∃ β, St X w0 β0 h0 a (car s) (hp s) w β
          have hex : ∀ a w, (∃ s, rel a w s) → ∃ n, ∃ s, rel a w s ∧ m s = n := fun a w ⟨s, hs⟩ => ⟨m s, s, hs, rfl⟩
          classical
          let μ : Act → World → Nat := fun a w => if hx : ∃ s, rel a w s then (least (hex a w hx)).choose else 0
          refine wp_loop (fun a w => ∃ s, rel a w s) μ ⟨s0, h1, β, s.cov hcov (by have := hlen s0; omega)⟩ fun a' w' hx => ?_
          obtain ⟨⟨s1, ⟨hI, β', s'⟩, hms⟩, _⟩ := (least (hex a' w' hx)).choose_spec
          refine wp_mono (ih _ _ _ (hbody s1 hI) a' w' β' s') fun ex a2 w2 q => ?_
          cases ex <;> try exact q
          obtain ⟨β2, e2, h2, s2, s3, hI3, hlt, hcov3⟩ := q
          obtain ⟨β3, s3'⟩ := s2.covR (by rw [← hn]; exact hcov3) (by have := hlen s3; omega)
          have hx2 : ∃ s, rel a2 w2 s := ⟨s3, hI3, β3, s3'⟩
          refine ⟨hx2, ?_⟩
          have hle : (least (hex a2 w2 hx2)).choose ≤ m s3 := (least (hex a2 w2 hx2)).choose_spec.2 _ ⟨s3, ⟨hI3, β3, s3'⟩, rfl⟩
          simp only [μ, dif_pos hx, dif_pos hx2]
          omega
        case region id ops dr =>
          cases dr
          · have := ih _ e h hr a w β s
            refine wp_region_list ?_
            simpa [kont] using this
          · simp only at hr
            split at hr
            rename_i hsb
            obtain ⟨hs, hr⟩ := hr
            have := ih _ e h hr a w β s
            simp only [SOk, Bool.and_eq_true, beq_iff_eq] at hs
            refine wp_region_E2 (T := (X.sc id).2) (m := (X.sc id).1.length) hm hs.2.symm ?_
            have h2 := this (by simpa using hs.1.1) (by simpa using hs.1.2)
            simpa using h2
            rename_i p hsb
            obtain ⟨hs, hr⟩ := hr
            simp only [SBOk, Bool.and_eq_true, beq_iff_eq] at hs
            have hst : St X w β h a e h w β := ⟨s.sl, s.hd, Since.refl w β h⟩
            have back : ∀ {a' : Act} {e' : Env} {h' : List Blk} {w' : World} {β' : Nat → Loc}, St X w β h a' e' h' w' β' → St X w0 β0 h0 a' e' h' w' β' := fun s' => ⟨s'.sl, s'.hd, s.sn.trans s'.sn⟩
            obtain ⟨sl, jn, sb⟩ := p
            simp only [stRB] at hr
            split at hr
            · exact wp_region_B hm hs.2.symm (rB_ok (P := P) ht (fun c a w => kont_panic P _ Fin c a w r) (by simpa using hs.1.1) (fun e' h' hr' a' w' β' s' => ih r e' h' hr' a' w' β' (back s')) sb _ e h hr (by simpa using hs.1.2) a w β hst)
            · obtain ⟨σ, I, car, hp, hrb, hcont⟩ := hr
              refine wp_region_B hm hs.2.symm (rB_ok (P := P) ht (fun c a w => kont_panic P _ Fin c a w r) (by simpa using hs.1.1) (fun e' h' hr' a' w' β' s' => ?_) sb _ e h hrb (by simpa using hs.1.2) a w β hst)
              obtain ⟨s1, hI, hcov⟩ := hr'
              obtain ⟨hlen, hgo⟩ := hcont s1 hI
              obtain ⟨β3, s3⟩ := (back s').covR (by rw [← hn]; exact hcov) (by omega)
              exact ih r _ _ hgo a' w' β3 s3
        all_goals exact hr.elim
      | ops all rest =>
        cases rest with
        | nil => exact wpList_nil (P := P) (ops := all.toArray) (ih r e h hr a w β s)
        | cons o os =>
          have := ih (.g 0 all o :: .ops all os :: r) e h hr a w β s
          show wpList P all.toArray (kont P _ Fin r) (o :: os) a w
          unfold wpList
          rcases this with ⟨hw, hk⟩ | ⟨hw, hk⟩
          · rw [if_pos hw]; exact .inl (OpW.wp P hk)
          · rw [hw]; simp only [Bool.false_eq_true, if_false]; exact hk
      | drw all si tail ls =>
        cases si with
        | nil =>
          have := fun w' (x : Ext w w') => ih (.ops all (pickL all tail) :: r) e h hr a w' β (s.ext x)
          intro hsel hok
          simp only [sOkB, Bool.and_eq_true] at hok
          refine ⟨fun j o ho hj => ?_, fun w' x => wpAny_tail tail ls a w' hok.1 (this w' x)⟩
          have hlt : j < all.toArray.size := (Array.getElem?_eq_some_iff.1 ho).1
          have h2 := List.all_eq_true.1 hok.2 j (by simpa using hlt)
          simp only [Bool.or_eq_true, inL_iff] at h2
          exact h2.resolve_left hj
        | cons x si =>
          replace hr : stDrw (run P X k) all (x :: si) tail ls r e h := hr
          simp only [stDrw] at hr
          intro hsel hok
          simp only [sOkB, Bool.and_eq_true, Bool.not_eq_true'] at hok
          obtain ⟨⟨⟨⟨hready, hsome⟩, hnt⟩, hclo, hdep⟩, hrest⟩ := hok
          obtain ⟨o, ho⟩ := Option.isSome_iff_exists.1 hsome
          have ho' : rget all x.i = some o := by rw [rget_eq]; simpa using ho
          have hdep' := depB_ok hdep
          have hnsel := Region.noSelect_spec hsel
          have hQ : ∀ (v : Value) c a w, kont P (SJ X w0 β0 h0) Fin r (.panic c) (a.put o.dst v) w → kont P (SJ X w0 β0 h0) Fin r (.panic c) a w := fun v c a w q => absurd q (kont_panic P _ Fin c _ _ r)
          rw [ho'] at hr
          simp only at hr
          cases x with
          | q i =>
            simp only [SI.i, Bool.and_eq_true] at hready hr hrest ho hdep'
            have hg := ih _ e h hr a w β s
            rcases hg with ⟨hw, v, h1, h2⟩ | ⟨hw, h2⟩
            · exact wpE2_first ho hnsel (hQ v) hdep' _ _ _ _ hclo (Region.free_spec ho hready.1) (by simpa using hready.2) (.inl ⟨hw, fun w' hx => .inl ⟨w', h1 w' hx, Ext.refl _⟩⟩) (h2 hsel hrest)
            · exact wpE2_first ho hnsel (hQ undef) hdep' _ _ _ _ hclo (Region.free_spec ho hready.1) (by simpa using hready.2) (.inr ⟨hw, rfl⟩) (h2 hsel hrest)
          | e i =>
            simp only [SI.i, Bool.and_eq_true] at hready hr hrest ho hdep'
            have hg := ih _ e h hr a w β s
            rcases hg with ⟨hw, f, xs, v, h1, h2, h3⟩ | ⟨hw, h2⟩
            · exact wpE2_first ho hnsel (hQ v) hdep' _ _ _ _ hclo (Region.free_spec ho hready.1) (by simpa using hready.2) (.inl ⟨hw, fun w' hx => .inr ⟨f, xs, w', h1 w', h2 w' hx⟩⟩) (h3 hsel hrest)
            · exact wpE2_first ho hnsel (hQ undef) hdep' _ _ _ _ hclo (Region.free_spec ho hready.1) (by simpa using hready.2) (.inr ⟨hw, rfl⟩) (h2 hsel hrest)
          | n i =>
            simp only [SI.i, beq_iff_eq] at hready hr hrest ho hdep'
            refine ⟨by rw [hready]; simp, fun w' hx j hj => ?_⟩
            rw [hready] at hj
            obtain rfl : j = i := by simpa using hj
            have hg := ih _ e h hr a w' β (s.ext hx)
            unfold Go.wpOp
            simp only [ho]
            rcases hg with ⟨hw, hk⟩ | ⟨hw, hk⟩
            · rw [if_pos hw]
              refine .inl (OpW.wp P ?_)
              have h3 : KOp P 0 o (fun a' w'' => Ext w' w'' ∧ kont P (SJ X w0 β0 h0) Fin (Item.drw all si tail (ls.setIfInBounds j true) :: r) Exit.normal a' w'') a w' := hk w' (Ext.refl _)
              have h4 : KOp P 0 o (fun a' w'' => Ext w' w'' ∧ wpE2 P .any all.toArray (kont P (SJ X w0 β0 h0) Fin r) tail si.length (ls.setIfInBounds j true) a' w'') a w' := kop_mono (fun a' w'' h => ⟨h.1, h.2 hsel hrest⟩) h3
              exact h4
            · rw [hw]; simp only [Bool.false_eq_true, if_false]
              exact ⟨Ext.refl _, hk hsel hrest⟩
      | g md all o =>
        replace hr : stG (run P X k) md all o r e h := hr
        unfold stG at hr
        split at hr
        · rename_i hg
          exact .inl ⟨by simp [Region.wanted, hg], ih _ e h hr a w β s⟩
        · rename_i gw hg
          obtain ⟨g, want⟩ := gw
          split at hr
          · rename_i sl hsl
            split at hr
            · rename_i t hl
              have hwd := wanted_of s.sl hg hsl hl rfl
              simp only [den, FV.val] at hwd
              have hkn : ∀ b, t = b → St X w0 β0 h0 a ((sl, .f (.bool b)) :: e) h w β := fun b hb => ⟨s.sl.know (by have := s.sl.ag sl (by rw [hl]; rfl); rw [hl, hb] at this; exact this), s.hd, s.sn⟩
              have hsk : ∀ b, t = b → run P X k (.skp o.dst :: r) ((sl, .f (.bool b)) :: e) h → kont P (SJ X w0 β0 h0) Fin r .normal (a.put o.dst undef) w := fun b hb hr => ih _ _ h hr a w β (hkn b hb)
              cases want <;> cases t <;> simp only [stGd] at hr
              · exact .inl ⟨by rw [hwd]; rfl, ih _ _ h (hr.2 rfl) a w β (hkn false rfl)⟩
              · exact .inr ⟨by rw [hwd]; rfl, hsk true rfl (hr.1 rfl)⟩
              · exact .inr ⟨by rw [hwd]; rfl, hsk false rfl (hr.2 rfl)⟩
              · exact .inl ⟨by rw [hwd]; rfl, ih _ _ h (hr.1 rfl) a w β (hkn true rfl)⟩
            · rename_i l hl
              split at hr
              · have hwd := wanted_of s.sl hg hsl hl rfl
                simp only [den] at hwd
                exact .inr ⟨hwd, ih _ e h hr a w β s⟩
              · exact hr.elim
            · exact hr.elim
          · exact hr.elim
      | skp d => exact ih r _ h hr (a.put d undef) w β (s.put d fun _ => ⟨trivial, rfl⟩)
      | op md o =>
        replace hr : md ≤ 3 ∧ stOp P X (run P X k) md o (opR X.tab e h o.op) r e h := hr
        obtain ⟨hmd, hr⟩ := hr
        cases hq : opR X.tab e h o.op with
        | or q =>
          rw [hq] at hr
          exact op_ok ht (ih r) hq hr s hmd
        | app t x y =>
          rw [hq] at hr
          obtain ⟨rfl, hr⟩ := hr
          cases hap : appR X.tab h t x y with
          | slc p q => rw [hap] at hr; exact app_ok ht s hq hap hr.1 hr.2 (ih r)
          | nil p c m g => rw [hap] at hr; exact OpW.mono (fun _ _ hx => hx.2) (appz_ok ht s hq hap hr.1 hr.2 (ih r))
          | bad => rw [hap] at hr; exact hr.elim
        | wid b =>
          rw [hq] at hr
          replace hr : WidN (run P X k) X.n md b o.dst r e h := hr
          exact wid_ok ht (ih r) hq hr s hmd
      | blk id => exact ih r e h hr a w β s
      | inv J => exact ⟨β, e, h, s, hr⟩
end
end Go.Proofs.YtjhddlkfkicpaaaGreatDoor.Vx

namespace Go.Proofs.YtjhddlkfkicpaaaGreatDoor.Vx
open Go Go.RowKit Fl
set_option linter.unusedVariables false
set_option linter.unusedSimpArgs false

def env0 : Nat → List SV → Env
  | _, [] => []
  | n, v :: r => (n, v) :: env0 (n + 1) r
section
variable {P : Program} {tab : Nat → Option TI}
theorem enters_of {f : FuncId} {fn : Func} (hf : P.funcs[f]? = some fn) (hb : fn.body.isNone = false) (hn : (fn.name == "runtime.NumGoroutine") = false) (xs : Array Value) (w : World) : (callFunc f xs).run P w = .ok (.enter f xs) w := by
  have h1 : ¬ fn.name = "runtime.NumGoroutine" := by simpa using hn
  have h2 : ¬ fn.body = none := by intro c; rw [c] at hb; cases hb
  simp [callFunc, hf, h1, h2]
theorem look_env0 : ∀ (l : List SV) (k i : Nat), look (env0 k l) i = if k ≤ i ∧ i < k + l.length then (l[i - k]?).getD .any else .any
  | [], k, i => by simp [env0, look]
  | v :: l, k, i => by
    simp only [env0, look, List.length_cons]
    by_cases c : k = i
    · subst c; rw [if_pos rfl, if_pos (by omega)]; simp
    · rw [if_neg c, look_env0 l (k + 1) i]
      by_cases d : k + 1 ≤ i ∧ i < k + 1 + l.length
      · rw [if_pos d, if_pos (by omega), show i - k = (i - (k + 1)) + 1 from by omega, List.getElem?_cons_succ]
      · rw [if_neg d, if_neg (by omega)]
theorem upto_mem : ∀ (n i : Nat), i ∈ upto n ↔ i < n
  | 0, i => by simp [upto]
  | n + 1, i => by simp only [upto, List.mem_append, upto_mem n i, List.mem_singleton]; omega
def rv (a : Act) : ResultVar → Sem Value
  | .tmp t => pure (a.tmps.getD t undef)
  | .cell x t => do loadVar t (← asAddr (a.tmps.getD x undef))
theorem resL_ok (ht : TabOk P tab) {n : Nat} {w : World} {β : Nat → Loc} {h : List Blk} {a : Act} {e : Env} (s : Slots n h.length β a e) (H : Holds w β h) :
    ∀ (rs : List ResultVar) (p : Prop) (l : List SV), resL tab e h rs = some (p, l) → p → knownL l = true →
      bdL h.length l ∧ (rs.mapM (rv a)).run P w = .ok (denL β l) w
  | [], p, l, h1, hp, hk => by
    simp only [resL, Option.some.injEq, Prod.mk.injEq] at h1
    obtain ⟨rfl, rfl⟩ := h1
    exact ⟨trivial, by simp [denL]⟩
  | .tmp t :: rs, p, l, h1, hp, hk => by
    simp only [resL] at h1
    split at h1
    · rename_i q l' hq
      simp only [Option.some.injEq, Prod.mk.injEq] at h1
      obtain ⟨rfl, rfl⟩ := h1
      simp only [knownL, Bool.and_eq_true] at hk
      obtain ⟨h2, h3⟩ := resL_ok ht s H rs _ _ hq hp hk.2
      have h4 := s.ag t hk.1
      refine ⟨⟨h4.1, h2⟩, ?_⟩
      simp only [List.mapM_cons, Sem.run_bind, rv, Sem.run_pure, Result.andThen_ok, h3, h4.2, denL]
    · cases h1
  | .cell x t :: rs, p, l, h1, hp, hk => by
    simp only [resL] at h1
    split at h1
    · rename_i p1 v hld
      split at h1
      · rename_i q l' hq
        simp only [Option.some.injEq, Prod.mk.injEq] at h1
        obtain ⟨rfl, rfl⟩ := h1
        simp only [knownL, Bool.and_eq_true] at hk
        obtain ⟨h2, h3⟩ := resL_ok ht s H rs _ _ hq hp.2 hk.2
        have hx : (look e x).known = true := kn fun c => by rw [c] at hld; simp [ldR] at hld
        have h4 := s.ag x hx
        obtain ⟨h6, h7⟩ := ldR_ok ht H hld hp.1
        have h5 : a.tmps.getD x undef = den β (look e x) := h4.2
        refine ⟨⟨h6, h2⟩, ?_⟩
        obtain ⟨l0, i0, j0, hp0⟩ : ∃ l i j, look e x = .ptr l i j := by
          unfold ldR at hld
          split at hld
          · rename_i l i j hl; exact ⟨l, i, j, hl⟩
          · cases hld
        rw [hp0] at h5 h7
        simp only [den] at h5 h7
        have h8 : (loadVar t ⟨(β l0).b, (β l0).lo + i0 * (β l0).c + j0, none⟩).run P w = .ok (den β v) w := by
          simpa [Instr.loadAt, Instr.sureAddr] using h7
        simp only [List.mapM_cons, Sem.run_bind, rv, Sem.run_pure, Result.andThen_ok, h3, h5, asAddr, h8, denL]
      · cases h1
    · cases h1
theorem resV_den (β : Nat → Loc) (l : List SV) : (if h : (denL β l).toArray.size = 1 then (denL β l).toArray[0] else .tuple (denL β l).toArray) = den β (resV l) := by
  match l with
  | [] => rfl
  | [v] => simp [denL, resV]
  | a :: b :: r => simp [denL, resV, den]
theorem resV_bd {n : Nat} {l : List SV} (h : bdL n l) : (resV l).bd n := by
  match l, h with
  | [], _ => exact trivial
  | [v], h => exact h.1
  | a :: b :: r, h => exact h

/-- The contract of a function: what its run comes to. -/
theorem cv_of_run {f : FuncId} {fn : Func} {c : Code} {args : List SV} {h : List Blk} {Q : SV → List Blk → Prop} (fuel : Nat) (sc : Nat → List SI × List Nat) (sb : Nat → Option (List Nat × Bool × SB)) (nt : Nat) (rs : List ResultVar)
    (ht : TabOk P tab) (hm : P.follows .mixedOrders = true) (hf : P.funcs[f]? = some fn) (hb : fn.body = some c) (hn : (fn.name == "runtime.NumGoroutine") = false) (hnt : fn.ntmps = nt) (hrs : fn.results.toList = rs) (hlen : args.length ≤ nt) (hk : knownL args = true) (hbd : bdL h.length args)
    (hr : run P { tab := tab, sb := sb, sc := sc, n := nt, n0 := h.length, F := finR tab rs h.length Q } fuel [.code c] (env0 0 args) h) : CV P f args h Q := by
  refine ⟨enters_of hf (by rw [hb]; rfl) hn, fun w β H => ?_⟩
  refine calls_of_wp hf hb ?_
  have hsz : (denL β args).toArray.size = args.length := by simp [denL_map]
  let X : RX := { tab := tab, sb := sb, sc := sc, n := nt, n0 := h.length, F := finR tab rs h.length Q }
  let R : Ending → World → Prop := fun e w' => ∃ v hh β', e = .returned (den β' v) ∧ Q v hh ∧ Holds w' β' hh ∧ Since w β h w' β' hh ∧ v.bd hh.length
  have st : St X w β h { tmps := (denL β args).toArray ++ Array.replicate (fn.ntmps - (denL β args).toArray.size) undef, defers := [] } (env0 0 args) h w β := by
    refine ⟨⟨by simp only [Array.size_append, hsz, Array.size_replicate, hnt]; show _ = nt; omega, fun i hi => ?_, rfl⟩, H, Since.refl w β h⟩
    rw [look_env0] at hi ⊢
    by_cases c1 : 0 ≤ i ∧ i < 0 + args.length
    · rw [if_pos c1] at hi ⊢
      simp only [Nat.sub_zero] at hi ⊢
      have hlt : i < args.length := by omega
      rw [List.getElem?_eq_getElem hlt] at hi ⊢
      simp only [Option.getD_some] at hi ⊢
      refine ⟨(bdL_iff _ _).1 hbd _ (List.getElem_mem hlt), ?_⟩
      have : ((denL β args).toArray ++ Array.replicate (fn.ntmps - (denL β args).toArray.size) undef)[i]? = some (den β args[i]) := by
        rw [Array.getElem?_append_left (by omega)]
        simp [denL_map, hlt]
      rw [Array.getD_eq_getD_getElem?, this]; rfl
    · rw [if_neg c1] at hi; simp [SV.known] at hi
  have key := run_ok (P := P) (X := X) (w0 := w) (β0 := β) (h0 := h) (Fin := fun a w' => bodyPost P fn R .ret a w') ht hm rfl (fun a e h' w' β' s hF => ?_) fuel [.code c] (env0 0 args) h hr _ w β st
  · refine wp_mono key fun ex a' w' q => ?_
    cases ex <;> first | exact q | exact q.elim
  · simp only [X, finR] at hF
    split at hF
    · rename_i pl hpl
      obtain ⟨p, l⟩ := pl
      obtain ⟨hp, hkl, hret, hq⟩ := hF
      obtain ⟨hb1, hrun⟩ := resL_ok ht s.sl s.hd rs p l hpl hp hkl
      simp only [Bool.and_eq_true] at hret
      obtain ⟨hvk, hloc, hlin, hlt, hpre⟩ := hret
      refine ⟨s.sl.df, den β' (resV l), ?_, ?_⟩
      · have e1 : results fn a.tmps = (do let vs ← fn.results.mapM (rv a); pure (if h : vs.size = 1 then vs[0] else .tuple vs)) := by
          unfold results
          congr 1
        rw [e1, Array.mapM_eq_mapM_toList, hrs]
        simp only [Sem.run_bind, Sem.run_map, hrun, Result.andThen_ok, Sem.run_pure, ← resV_den]
      · refine ⟨(resV l).ren (idx (reach h' (ins (upto h.length) (resV l).labs))), locH _ h' _, fun i => β' (lget (reach h' (ins (upto h.length) (resV l).labs)) i), ?_, hq, s.hd.loc hloc, ?_, by rw [locH_length]; exact lin_bd _ hlin⟩
        · rw [den_lin hlin]
        · exact s.sn.loc hloc hpre
    · exact hF.elim
end
end Go.Proofs.YtjhddlkfkicpaaaGreatDoor.Vx

namespace Go.Proofs.YtjhddlkfkicpaaaGreatDoor.Vx
open Go Go.RowKit Fl
set_option linter.unusedVariables false
set_option linter.unusedSimpArgs false
section
variable {P : Program}
theorem callR {R : Run} {n : Nat} {f : FuncId} {args args' : List SV} {d : Option Nat} {its : List Item} {e : Env} {h hl : List Blk} {r : List Nat} {Q : SV → List Blk → Prop}
    (hk : (knownL args && (locOk r h && (linL r args && allLt h.length r))) = true) (ha : renL (idx r) args = args') (hh : roL (locH r h r) = hl) (c : CV P f args' hl Q)
    (k : ∀ v hh, Q v hh → R its (put n d (v.ren (unl r h.length)) e) (h ++ newB (unl r h.length) (dropB r hh))) : CallN P R n f args d its e h r :=
  .inl ⟨hk, .inl ⟨Q, by rw [ha, hh]; exact c, k⟩⟩
theorem callM {R : Run} {n : Nat} {f : FuncId} {args args' : List SV} {d : Option Nat} {its : List Item} {e : Env} {h hl : List Blk} {r : List Nat} {Q : SV → List Blk → Prop}
    (hk : (knownL args && (locOk r h && (linL r args && allLt h.length r))) = true) (ha : renL (idx r) args = args') (hh : roL (locH r h r) = hl) (c : CV P f args' hl Q)
    (k : ∀ v hh, Q v hh → R its (put n d (v.ren (unl r h.length)) e) (h ++ newB (unl r h.length) (dropB r hh))) : CallM P R n f args d its e h r :=
  ⟨hk, ⟨Q, by rw [ha, hh]; exact c, k⟩⟩
theorem callG {R : Run} {n : Nat} {f : FuncId} {args args' : List SV} {d : Option Nat} {its : List Item} {e : Env} {h hl : List Blk} {r : List Nat} {Q : SV → List Blk → Prop}
    (hk : (knownL args && (locOk r h && (linL r args && allLt h.length r))) = true) (ha : renL (idx r) args = args') (hh : locH r h r = hl) (c : CV P f args' hl Q)
    (k : ∀ v hh, Q v hh → R its (put n d (v.ren (unl r h.length)) e) (mrg (unl r h.length) r h hh)) : CallN P R n f args d its e h r :=
  .inl ⟨hk, .inr ⟨Q, by rw [ha, hh]; exact c, k⟩⟩
theorem callX {R : Run} {n : Nat} {f : FuncId} {args : List SV} {d : Option Nat} {its : List Item} {e : Env} {h : List Blk} {r : List Nat} (v : SV) (hk : knownL args = true) (hv : v.bd h.length)
    (hr : ∀ (β : Nat → Loc) (w : World), (callFunc f (denL β args).toArray).run P w = .ok (.value (den β v)) w) (k : R its (put n d v e) h) : CallN P R n f args d its e h r :=
  .inr ⟨hk, v, hv, hr, k⟩
theorem callMo {R : Run} {n : Nat} {f : FuncId} {args args' : List SV} {d : Option Nat} {its : List Item} {e : Env} {h hl : List Blk} {r : List Nat} {Q : SV → List Blk → Prop} {W : Prop}
    (hk : (knownL args && (locOk r h && (linL r args && allLt h.length r))) = true) (ha : renL (idx r) args = args') (hh : roL (locH r h r) = hl) (c : CV P f args' hl Q)
    (k : ∀ v hh, Q v hh → R its (put n d (v.ren (unl r h.length)) e) (h ++ newB (unl r h.length) (dropB r hh))) : CallM P R n f args d its e h r ∨ W :=
  .inl ⟨hk, ⟨Q, by rw [ha, hh]; exact c, k⟩⟩
theorem callW {K : Env → List Blk → Prop} {n : Nat} {f : FuncId} {args args' : List SV} {hS : List Blk} {B : List Nat} {d : Option Nat} {e : Env} {h hl : List Blk} {r : List Nat} {Q : SV → List Blk → Prop} {M : Prop}
    (hk : (knownL args && (locOk r h && (linL r args && allLt h.length r))) = true) (hb : (ofL hS.length B h r && kpB B 0 hS h) = true) (ha : renL (idx r) args = args') (hh : locH r h r = hl) (c : CV P f args' hl Q)
    (k : ∀ v hh, Q v hh → K (put n d (v.ren (unl r h.length)) e) (mrg (unl r h.length) r h hh)) : M ∨ CallW P K n f args hS B d e h r :=
  .inr ⟨hk, hb, Q, by rw [ha, hh]; exact c, k⟩
theorem callE {R : Run} {n : Nat} {f : FuncId} {args : List SV} {d : Option Nat} {its : List Item} {e : Env} {h : List Blk} {v : SV}
    (hk : (knownL args && linL [] args) = true) (c : CV P f args [] fun u hh => u = v ∧ hh = []) (hv : (v.known && v.lin []) = true)
    (k : R its (put n d v e) h) : CallE P R n f args d its e h :=
  ⟨hk, v, hv, c, k⟩
/-- A contract of the old kind, of a function of flat values. -/
theorem CV.flat {f : FuncId} {fs : List FV} {v : FV} {h : List Blk} (he : ∀ (xs : Array Value) (w : World), (callFunc f xs).run P w = .ok (.enter f xs) w)
    (hc : ∀ w, Calls P f (fs.map FV.val).toArray w fun e w' => e = .returned v.val ∧ w = w') : CV P f (mapF fs) h fun u hh => u = .f v ∧ hh = h :=
  ⟨he, fun w β H => by
    have : denL β (mapF fs) = fs.map FV.val := by rw [denL_map, mapF_eq, List.map_map]; rfl
    rw [this]
    exact Calls.mono (hc w) fun e w' ⟨h1, h2⟩ => by subst h2; exact ⟨.f v, h, β, h1, ⟨rfl, rfl⟩, H, Since.refl w β h, trivial⟩⟩
theorem holds_nil (w : World) (β : Nat → Loc) (hg : Gl w) : Holds w β [] :=
  ⟨fun l => ⟨fun h => h.elim, trivial, fun i j v h => (by cases h), fun h => (by cases h)⟩, fun l m h => h.elim, fun l => trivial, hg, fun l c => (by cases c)⟩
theorem Since.below {w w' : World} {β β' : Nat → Loc} {h h' : List Blk} (hn : ∀ l, (hget h l).own = false) (s : Since w β h w' β' h') : Below w.heap.size w w' :=
  ⟨s.os, s.tape, s.output, s.size, fun k hk => s.frame k hk fun l hl => by rw [hn l] at hl; cases hl⟩
theorem CV.law {f : FuncId} {args : List SV} (c : CV P f args [] fun v h => v = .f (.bool true) ∧ h = []) (w : World) (hg : Gl w) :
    Calls P f (denL (fun _ => ⟨0, 0, 1, false⟩) args).toArray w fun e w' => e = .returned (.bool true) ∧ Below w.heap.size w w' :=
  Calls.mono (c.calls w _ (holds_nil w _ hg)) fun e w' ⟨v, hh, β', he, ⟨hv, hq⟩, _, s, _⟩ => ⟨by rw [he, hv]; rfl, s.below fun l => rfl⟩
/-- A contract of the old kind, of a function that only adds to memory. -/
theorem CV.old {f : FuncId} {args : List SV} {h : List Blk} {v : SV} (hb : v.bd h.length) (he : ∀ (xs : Array Value) (w : World), (callFunc f xs).run P w = .ok (.enter f xs) w)
    (hc : ∀ w β, Holds w β h → Calls P f (denL β args).toArray w fun e w' => e = .returned (den β v) ∧ Ext w w') : CV P f args h fun u hh => u = v ∧ hh = h :=
  ⟨he, fun w β H => Calls.mono (hc w β H) fun e w' ⟨h1, h2⟩ => ⟨v, h, β, h1, ⟨rfl, rfl⟩, H.ext h2, (Since.refl w β h).ext h2, hb⟩⟩
theorem CV.old0 {f : FuncId} {args : List SV} {h : List Blk} {v : SV} (hb : v.bd h.length) (he : ∀ (xs : Array Value) (w : World), (callFunc f xs).run P w = .ok (.enter f xs) w)
    (hc : ∀ w β, Holds w β h → Calls P f (denL β args).toArray w fun e w' => e = .returned (den β v) ∧ w = w') : CV P f args h fun u hh => u = v ∧ hh = h :=
  CV.old hb he fun w β H => Calls.mono (hc w β H) fun e w' ⟨h1, h2⟩ => ⟨h1, h2 ▸ Ext.refl w⟩
end
theorem Br_tr (X Y : Prop) : Br true X Y = X := Br_true X Y
theorem Br_fa (X Y : Prop) : Br false X Y = Y := Br_false X Y
theorem widL {R : Run} {n md b : Nat} {d : Option Nat} {its : List Item} {e : Env} {h : List Blk} (hm : md ≠ 2) (hb : FWok b) (k : R its (put n d (.f (.flt .f64 (fwide b))) e) h) : WidN R n md b d its e h := .inl ⟨hm, hb, k⟩
theorem widN {R : Run} {n md b : Nat} {d : Option Nat} {its : List Item} {e : Env} {h : List Blk} (hm : md = 0 ∨ md = 3) (k : ∀ c, Wid b c → R its (put n d (.f (.flt .f64 c)) e) h) : WidN R n md b d its e h := .inr ⟨hm, k⟩
theorem wr_i8 (n : Int) (h1 : -128 ≤ n) (h2 : n ≤ 127) : IntKind.wrap .i8 n = n := by
  have h : IntKind.wrap .i8 n = if (true && decide (n % 256 ≥ 128)) = true then n % 256 - 256 else n % 256 := rfl
  rw [h, Bool.true_and]
  by_cases c : n % 256 ≥ 128
  · rw [if_pos (decide_eq_true c)]; omega
  · rw [if_neg (by simpa using c)]; omega
theorem wr_i16 (n : Int) (h1 : -32768 ≤ n) (h2 : n ≤ 32767) : IntKind.wrap .i16 n = n := by
  have h : IntKind.wrap .i16 n = if (true && decide (n % 65536 ≥ 32768)) = true then n % 65536 - 65536 else n % 65536 := rfl
  rw [h, Bool.true_and]
  by_cases c : n % 65536 ≥ 32768
  · rw [if_pos (decide_eq_true c)]; omega
  · rw [if_neg (by simpa using c)]; omega
theorem wr_i32 (n : Int) (h1 : -2147483648 ≤ n) (h2 : n ≤ 2147483647) : IntKind.wrap .i32 n = n := by
  have h : IntKind.wrap .i32 n = if (true && decide (n % 4294967296 ≥ 2147483648)) = true then n % 4294967296 - 4294967296 else n % 4294967296 := rfl
  rw [h, Bool.true_and]
  by_cases c : n % 4294967296 ≥ 2147483648
  · rw [if_pos (decide_eq_true c)]; omega
  · rw [if_neg (by simpa using c)]; omega
theorem wr_i64 (n : Int) (h1 : -9223372036854775808 ≤ n) (h2 : n ≤ 9223372036854775807) : IntKind.wrap .i64 n = n := by
  have h : IntKind.wrap .i64 n = if (true && decide (n % 18446744073709551616 ≥ 9223372036854775808)) = true then n % 18446744073709551616 - 18446744073709551616 else n % 18446744073709551616 := rfl
  rw [h, Bool.true_and]
  by_cases c : n % 18446744073709551616 ≥ 9223372036854775808
  · rw [if_pos (decide_eq_true c)]; omega
  · rw [if_neg (by simpa using c)]; omega
theorem wr_u8 (n : Int) (h1 : 0 ≤ n) (h2 : n ≤ 255) : IntKind.wrap .u8 n = n := by
  have h : IntKind.wrap .u8 n = n % 256 := rfl
  rw [h]; omega
theorem wr_u16 (n : Int) (h1 : 0 ≤ n) (h2 : n ≤ 65535) : IntKind.wrap .u16 n = n := by
  have h : IntKind.wrap .u16 n = n % 65536 := rfl
  rw [h]; omega
theorem wr_u32 (n : Int) (h1 : 0 ≤ n) (h2 : n ≤ 4294967295) : IntKind.wrap .u32 n = n := by
  have h : IntKind.wrap .u32 n = n % 4294967296 := rfl
  rw [h]; omega
theorem wr_u64 (n : Int) (h1 : 0 ≤ n) (h2 : n ≤ 18446744073709551615) : IntKind.wrap .u64 n = n := by
  have h : IntKind.wrap .u64 n = n % 18446744073709551616 := rfl
  rw [h]; omega
theorem Br_intro {c : Bool} {X Y : Prop} (h1 : c = true → X) (h2 : c = false → Y) : Br c X Y := ⟨h1, h2⟩
theorem bk_ro_lit (row : List SV) (o : Bool) : roB (.lit row o) = .lit row false := rfl
theorem bk_ro_rows (n cap c : Nat) (f : Nat → List FV) (o : Bool) : roB (.rows n cap c f o) = .rows n cap c f false := rfl
theorem bk_ro_cells (n : Nat) (g : Nat → FV) (o : Bool) : roB (.cells n g o) = .cells n g false := rfl
theorem bk_ro_dead : roB .dead = .dead := rfl
theorem cb_dead (b : Blk) : covB .dead b = True := rfl
theorem cb_lit (row row' : List SV) (o o' : Bool) : covB (.lit row o) (.lit row' o') = (o = o' ∧ covRow row row') := rfl
theorem cb_rows (n cap c n' cap' c' : Nat) (f f' : Nat → List FV) (o o' : Bool) : covB (.rows n cap c f o) (.rows n' cap' c' f' o') = ((o = o' ∧ c = c') ∧ ((n ≤ n' ∧ n ≤ cap) ∧ cap ≤ cap') ∧ ∀ i, i < n → f' i = f i) := rfl
theorem cb_cells (n n' : Nat) (g g' : Nat → FV) (o o' : Bool) : covB (.cells n g o) (.cells n' g' o') = ((o = o' ∧ n = n') ∧ ∀ j, j < n → g' j = g j) := rfl
theorem cd_lit (n : Nat) (row : List SV) (o : Bool) : Blk.bd n (.lit row o) = bdL n row := rfl
theorem cd_rows (m n cap c : Nat) (f : Nat → List FV) (o : Bool) : Blk.bd m (.rows n cap c f o) = True := rfl
theorem cd_cells (m n : Nat) (g : Nat → FV) (o : Bool) : Blk.bd m (.cells n g o) = True := rfl
theorem cd_dead (m : Nat) : Blk.bd m .dead = True := rfl
theorem bk_dead_lit (row : List SV) (o : Bool) : isDead (.lit row o) = false := rfl
theorem bk_dead_rows (n cap c : Nat) (f : Nat → List FV) (o : Bool) : isDead (.rows n cap c f o) = false := rfl
theorem bk_dead_cells (n : Nat) (g : Nat → FV) (o : Bool) : isDead (.cells n g o) = false := rfl
theorem bk_dead_dead : isDead .dead = true := rfl
theorem bk_labs_lit (row : List SV) (o : Bool) : labsB (.lit row o) = labsL row := rfl
theorem bk_labs_rows (n cap c : Nat) (f : Nat → List FV) (o : Bool) : labsB (.rows n cap c f o) = [] := rfl
theorem bk_labs_cells (n : Nat) (g : Nat → FV) (o : Bool) : labsB (.cells n g o) = [] := rfl
theorem bk_labs_dead : labsB .dead = [] := rfl
theorem bk_lin_lit (r : List Nat) (row : List SV) (o : Bool) : Blk.lin r (.lit row o) = linL r row := rfl
theorem bk_lin_rows (r : List Nat) (n cap c : Nat) (f : Nat → List FV) (o : Bool) : Blk.lin r (.rows n cap c f o) = true := rfl
theorem bk_lin_cells (r : List Nat) (n : Nat) (g : Nat → FV) (o : Bool) : Blk.lin r (.cells n g o) = true := rfl
theorem bk_lin_dead (r : List Nat) : Blk.lin r .dead = true := rfl
theorem bk_ren_lit (r : Nat → Nat) (row : List SV) (o : Bool) : Blk.ren r (.lit row o) = .lit (renL r row) o := rfl
theorem bk_ren_rows (r : Nat → Nat) (n cap c : Nat) (f : Nat → List FV) (o : Bool) : Blk.ren r (.rows n cap c f o) = .rows n cap c f o := rfl
theorem bk_ren_cells (r : Nat → Nat) (n : Nat) (g : Nat → FV) (o : Bool) : Blk.ren r (.cells n g o) = .cells n g o := rfl
theorem bk_ren_dead (r : Nat → Nat) : Blk.ren r .dead = .dead := rfl
theorem ldo_lit (row : List SV) (own : Bool) (j : Nat) : ldOne (.lit row own) 0 j = (match rget row j with
      | some v => (match v.one with | true => .val True v | false => .bad)
      | none => .bad) := rfl
theorem ldo_rows (n cap c : Nat) (f : Nat → List FV) (own : Bool) (i j : Nat) : ldOne (.rows n cap c f own) i j = (match rget (f i) j with
    | some v => .val (i < n) (.f v)
    | none => .bad) := rfl
theorem ldo_cells (n : Nat) (g : Nat → FV) (own : Bool) (j : Nat) : ldOne (.cells n g own) 0 j = .val (j < n) (.f (g j)) := rfl
theorem lda_lit (row : List SV) (own : Bool) (j s : Nat) : ldAgg (.lit row own) 0 j s = if j + s ≤ row.length then (match allKnown (sub row j s) with | true => .val True (.agg (sub row j s)) | false => .bad) else .bad := rfl
theorem lda_rows (n cap c : Nat) (f : Nat → List FV) (own : Bool) (i j s : Nat) : ldAgg (.rows n cap c f own) i j s = if j + s ≤ c then .val (i < n) (.agg (mapF (sub (f i) j s))) else .bad := rfl
theorem lda_cells (n : Nat) (g : Nat → FV) (own : Bool) (j s : Nat) : ldAgg (.cells n g own) 0 j s = .val (j + s ≤ n) (.arr s (shf g j)) := rfl

/-! ### The steps of a run, one law for each form: what does not come to such a form stays as it is -/
section
variable {P : Program} {X : RX} {R : Run} {md : Nat} {o : Oper} {r : List Item} {e : Env} {h : List Blk}
theorem run_nil (k : Nat) : run P X (k + 1) [] e h = X.F e h := rfl
theorem run_it (k : Nat) (it : Item) : run P X (k + 1) (it :: r) e h = stItem P X (run P X k) it r e h := rfl
theorem it_code (c : Code) : stItem P X R (.code c) r e h = stCode P X R c r e h := rfl
theorem it_ops0 (all : List Oper) : stItem P X R (.ops all []) r e h = R r e h := rfl
theorem it_ops (all rest : List Oper) : stItem P X R (.ops all (o :: rest)) r e h = R (.g 0 all o :: .ops all rest :: r) e h := rfl
theorem it_drw0 (all : List Oper) (tail : List Nat) (ls : Array Bool) : stItem P X R (.drw all [] tail ls) r e h = R (.ops all (pickL all tail) :: r) e h := rfl
def stDr (R : Run) (md : Nat) (all : List Oper) (o : Option Oper) (its : List Item) (e : Env) (h : List Blk) : Prop :=
  match o with
  | some o => R (.g md all o :: its) e h
  | none => False
theorem it_drw (all : List Oper) (s : SI) (si : List SI) (tail : List Nat) (ls : Array Bool) : stItem P X R (.drw all (s :: si) tail ls) r e h = stDr R s.md all (rget all s.i) (.drw all si tail (ls.setIfInBounds s.i true) :: r) e h := by
  simp only [stItem, stDrw, stDr]; cases rget all s.i <;> rfl
theorem stDr_some (all : List Oper) (its : List Item) : stDr R md all (some o) its e h = R (.g md all o :: its) e h := rfl
def stGv (R : Run) (md s : Nat) (want : Bool) (v : SV) (o : Oper) (r : List Item) (e : Env) (h : List Blk) : Prop :=
  match v with
  | .f (.bool t) => stGd R md s want t o r e h
  | .tup l => (match l with
    | [] => R (.skp o.dst :: r) e h
    | _ :: _ => False)
  | _ => False
def stGg (R : Run) (md : Nat) (all : List Oper) (o : Oper) (gw : Option (Nat × Bool)) (r : List Item) (e : Env) (h : List Blk) : Prop :=
  match gw with
  | none => R (.op md o :: r) e h
  | some gw => (match dstOf all gw.1 with
    | some s => stGv R md s gw.2 (look e s) o r e h
    | none => False)
theorem it_g (all : List Oper) : stItem P X R (.g md all o) r e h = stGg R md all o o.guard r e h := by
  show stG R md all o r e h = _
  unfold stG stGg stGv
  cases o.guard with
  | none => rfl
  | some gw => rfl
theorem stGg_none (all : List Oper) : stGg R md all o none r e h = R (.op md o :: r) e h := rfl
def stGs (R : Run) (md : Nat) (want : Bool) (s : Option Nat) (o : Oper) (r : List Item) (e : Env) (h : List Blk) : Prop :=
  match s with
  | some s => stGv R md s want (look e s) o r e h
  | none => False
theorem stGg_some (all : List Oper) (gw : Nat × Bool) : stGg R md all o (some gw) r e h = stGs R md gw.2 (dstOf all gw.1) o r e h := rfl
theorem stGs_some (want : Bool) (s : Nat) : stGs R md want (some s) o r e h = stGv R md s want (look e s) o r e h := rfl
theorem stGv_t (s : Nat) (t : Bool) : stGv R md s true (.f (.bool t)) o r e h = Br t (R (.op md o :: r) ((s, .f (.bool true)) :: e) h) (R (.skp o.dst :: r) ((s, .f (.bool false)) :: e) h) := rfl
theorem stGv_f (s : Nat) (t : Bool) : stGv R md s false (.f (.bool t)) o r e h = Br t (R (.skp o.dst :: r) ((s, .f (.bool true)) :: e) h) (R (.op md o :: r) ((s, .f (.bool false)) :: e) h) := rfl
theorem stGv_no (s : Nat) (want : Bool) : stGv R md s want (.tup []) o r e h = R (.skp o.dst :: r) e h := rfl
theorem it_skp (d : Option Nat) : stItem P X R (.skp d) r e h = R r (put X.n d (.tup []) e) h := rfl
theorem it_op : stItem P X R (.op md o) r e h = (md ≤ 3 ∧ stOp P X R md o (opR X.tab e h o.op) r e h) := rfl
theorem it_blk (id : Nat) : stItem P X R (.blk id) r e h = R r e h := rfl
theorem it_inv (J : Env → List Blk → Prop) : stItem P X R (.inv J) r e h = J e h := rfl
theorem co_skip : stCode P X R .skip r e h = R r e h := rfl
theorem co_seq (a b : Code) : stCode P X R (.seq a b) r e h = R (.code a :: .code b :: r) e h := rfl
def stCnd (R : Run) (v : SV) (a b : Code) (r : List Item) (e : Env) (h : List Blk) : Prop :=
  match v with
  | .f (.bool t) => Br t (R (.code a :: r) e h) (R (.code b :: r) e h)
  | _ => False
theorem co_cond (c : Operand) (a b : Code) : stCode P X R (.cond c a b) r e h = stCnd R (ev e c) a b r e h := rfl
theorem stCnd_b (t : Bool) (a b : Code) : stCnd R (.f (.bool t)) a b r e h = Br t (R (.code a :: r) e h) (R (.code b :: r) e h) := rfl
theorem co_block (id : Nat) (c : Code) : stCode P X R (.block id c) r e h = R (.code c :: .blk id :: r) e h := rfl
def stEx (R : Run) (b : Bool) (it : List Item) (e : Env) (h : List Blk) : Prop :=
  match b with
  | true => R it e h
  | false => False
theorem co_exit (id : Nat) : stCode P X R (.exit id) r e h = stEx R (hasBlk id r) (dropTo id r) e h := rfl
theorem stEx_t (it : List Item) : stEx R true it e h = R it e h := rfl
theorem co_ret : stCode P X R .ret r e h = X.F e h := rfl
theorem co_loop (c : Code) : stCode P X R (.loop c) r e h = LoopN R X.n0 c r e h := rfl
theorem co_reg0 (id : Nat) (ops : Array Oper) : stCode P X R (.region id ops false) r e h = R (.ops ops.toList ops.toList :: r) e h := rfl
def stRg (P : Program) (X : RX) (R : Run) (id : Nat) (ops : Array Oper) (q : Option (List Nat × Bool × SB)) (r : List Item) (e : Env) (h : List Blk) : Prop :=
  match q with
  | none => SOk ops (X.sc id).1 (X.sc id).2 ∧ R (.drw ops.toList (X.sc id).1 (X.sc id).2 (Array.replicate ops.size false) :: r) e h
  | some p => SBOk ops p.2.2 ∧ stRB P X R ops.toList (slotsL e p.1) p.2.1 p.2.2 r e h
theorem co_reg1 (id : Nat) (ops : Array Oper) : stCode P X R (.region id ops true) r e h = stRg P X R id ops (X.sb id) r e h := by simp only [stCode, stRg]; cases X.sb id <;> rfl
theorem co_rg0 (id : Nat) (ops : Array Oper) : stRg P X R id ops none r e h = (SOk ops (X.sc id).1 (X.sc id).2 ∧ R (.drw ops.toList (X.sc id).1 (X.sc id).2 (Array.replicate ops.size false) :: r) e h) := rfl
theorem co_rg1 (id : Nat) (ops : Array Oper) (p : List Nat × Bool × SB) : stRg P X R id ops (some p) r e h = (SBOk ops p.2.2 ∧ stRB P X R ops.toList (slotsL e p.1) p.2.1 p.2.2 r e h) := rfl
theorem co_rb0 (all : List Oper) (B : List Nat) (s : SB) : stRB P X R all B false s r e h = rB P X (R r) all h B s e h := rfl
theorem co_rb1 (all : List Oper) (B : List Nat) (s : SB) : stRB P X R all B true s r e h = JoinN P X R all B s r e h := rfl
theorem op_or (q : OR) : stOp P X R md o (.or q) r e h = stOr P X R md o q r e h := rfl
theorem op_app (t : Nat) (x y : SV) : stOp P X R md o (.app t x y) r e h = (md = 0 ∧ stAp X R o (appR X.tab h t x y) x r e h) := rfl
theorem op_wid (b : Nat) : stOp P X R md o (.wid b) r e h = WidN R X.n md b o.dst r e h := rfl
theorem or_val (p : Prop) (v : SV) : stOr P X R md o (.val p v) r e h = (md ≠ 2 ∧ p ∧ R r (put X.n o.dst v e) h) := rfl
theorem or_pick (c : Bool) (a b : SV) : stOr P X R md o (.pick c a b) r e h = (md ≠ 2 ∧ Br c (R r (put X.n o.dst a e) h) (R r (put X.n o.dst b e) h)) := rfl
theorem or_new (p : Prop) (b : Blk) (mk : Nat → SV) : stOr P X R md o (.new p b mk) r e h = ((md = 0 ∨ md = 3) ∧ p ∧ R r (put X.n o.dst (mk h.length) e) (h ++ [b])) := rfl
theorem or_upd (p : Prop) (l : Nat) (b : Blk) : stOr P X R md o (.upd p l b) r e h = (md = 0 ∧ p ∧ R r (put X.n o.dst (.tup []) e) (hset h l b)) := rfl
theorem or_call0 (f : FuncId) (args : List SV) : stOr P X R 0 o (.call f args) r e h = CallN P R X.n f args o.dst r e h (reach h (ins [] (labsL args))) := rfl
theorem or_call3 (f : FuncId) (args : List SV) : stOr P X R 3 o (.call f args) r e h = CallM P R X.n f args o.dst r e h (reach h (ins [] (labsL args))) := rfl
theorem or_call2 (f : FuncId) (args : List SV) : stOr P X R 2 o (.call f args) r e h = CallE P R X.n f args o.dst r e h := rfl
theorem ap_slc (p : Prop) (a : AppIn) (x : SV) : stAp X R o (.slc p a) x r e h = (p ∧ AppN R X.n a o.dst r e h x) := rfl
theorem ap_nil (p : Prop) (c m : Nat) (g : Nat → List FV) (x : SV) : stAp X R o (.nil p c m g) x r e h = (p ∧ AppZ R X.n c m g o.dst r e h) := rfl
theorem fin_some (tab : Nat → Option TI) (rs : List ResultVar) (n0 : Nat) (Q : SV → List Blk → Prop) : finR tab rs n0 Q e h = (match resL tab e h rs with
  | some pl => pl.1 ∧ (knownL pl.2 = true ∧ RetG Q n0 (resV pl.2) h (reach h (ins (upto n0) (resV pl.2).labs)))
  | none => False) := rfl
section
variable {K : Env → List Blk → Prop} {all : List Oper} {hS : List Blk} {B : List Nat}
theorem co_bnil : rB P X K all hS B .nil e h = K e h := rfl
def bQr (K : Env → List Blk → Prop) (n : Nat) (d : Option Nat) (q : OR2) (e : Env) (h : List Blk) : Prop := stQ (fun e => K e h) n d q e
def bG (md : Nat) (P : Program) (X : RX) (K : Env → List Blk → Prop) (hS : List Blk) (B : List Nat) (o : Oper) (e : Env) (h : List Blk) : Prop :=
  match md with
  | 0 => bQr K X.n o.dst (opR X.tab e (keepB hS.length B 0 h) o.op) e h
  | 1 => stE P K X.n o.dst (opR X.tab e h o.op) e h
  | _ => stN P X K hS B o.dst (opR X.tab e h o.op) e h
theorem co_bg0 (o : Oper) : bG 0 P X K hS B o e h = bQr K X.n o.dst (opR X.tab e (keepB hS.length B 0 h) o.op) e h := rfl
theorem co_bg1 (o : Oper) : bG 1 P X K hS B o e h = stE P K X.n o.dst (opR X.tab e h o.op) e h := rfl
theorem co_bg2 (o : Oper) : bG 2 P X K hS B o e h = stN P X K hS B o.dst (opR X.tab e h o.op) e h := rfl
def gMv (md : Nat) (P : Program) (X : RX) (K : Env → List Blk → Prop) (hS : List Blk) (B : List Nat) (o : Oper) (want : Bool) (s : Nat) (v : SV) (e : Env) (h : List Blk) : Prop :=
  gV want v s e (fun e => bG md P X K hS B o e h) (fun e => K (put X.n o.dst (.tup []) e) h)
theorem co_gvt (md : Nat) (o : Oper) (s : Nat) (t : Bool) : gMv md P X K hS B o true s (.f (.bool t)) e h = Br t (bG md P X K hS B o ((s, .f (.bool true)) :: e) h) (K (put X.n o.dst (.tup []) ((s, .f (.bool false)) :: e)) h) := rfl
theorem co_gvf (md : Nat) (o : Oper) (s : Nat) (t : Bool) : gMv md P X K hS B o false s (.f (.bool t)) e h = Br t (K (put X.n o.dst (.tup []) ((s, .f (.bool true)) :: e)) h) (bG md P X K hS B o ((s, .f (.bool false)) :: e) h) := rfl
theorem co_gvs (md : Nat) (o : Oper) (s : Nat) (want : Bool) : gMv md P X K hS B o want s (.tup []) e h = K (put X.n o.dst (.tup []) e) h := rfl
def gMs (md : Nat) (P : Program) (X : RX) (K : Env → List Blk → Prop) (hS : List Blk) (B : List Nat) (o : Oper) (want : Bool) (q : Option Nat) (e : Env) (h : List Blk) : Prop :=
  match q with
  | some s => gMv md P X K hS B o want s (look e s) e h
  | none => False
theorem co_gms (md : Nat) (o : Oper) (want : Bool) (s : Nat) : gMs md P X K hS B o want (some s) e h = gMv md P X K hS B o want s (look e s) e h := rfl
def gMo (md : Nat) (P : Program) (X : RX) (K : Env → List Blk → Prop) (all : List Oper) (hS : List Blk) (B : List Nat) (o : Oper) (q : Option (Nat × Bool)) (e : Env) (h : List Blk) : Prop :=
  match q with
  | none => bG md P X K hS B o e h
  | some gw => gMs md P X K hS B o gw.2 (dstOf all gw.1) e h
theorem co_gm0 (md : Nat) (o : Oper) : gMo md P X K all hS B o none e h = bG md P X K hS B o e h := rfl
theorem co_gm1 (md : Nat) (o : Oper) (gw : Nat × Bool) : gMo md P X K all hS B o (some gw) e h = gMs md P X K hS B o gw.2 (dstOf all gw.1) e h := rfl
def oM (md : Nat) (P : Program) (X : RX) (K : Env → List Blk → Prop) (all : List Oper) (hS : List Blk) (B : List Nat) (oo : Option Oper) (e : Env) (h : List Blk) : Prop :=
  match oo with
  | some o => gMo md P X K all hS B o o.guard e h
  | none => False
theorem co_om (md : Nat) (o : Oper) : oM md P X K all hS B (some o) e h = gMo md P X K all hS B o o.guard e h := rfl
theorem gm_eq (md : Nat) (o : Oper) : gB all o e (fun e => bG md P X K hS B o e h) (fun e => K (put X.n o.dst (.tup []) e) h) = gMo md P X K all hS B o o.guard e h := by
  unfold gB gMo gMs gMv
  cases o.guard with
  | none => rfl
  | some gw => simp only; cases dstOf all gw.1 <;> rfl
theorem co_bq (i : Nat) (s : SB) : rB P X K all hS B (.q i s) e h = oM 0 P X (rB P X K all hS B s) all hS B (rget all i) e h := by
  simp only [rB, oB, oM]
  cases rget all i with
  | none => rfl
  | some o => exact gm_eq (K := rB P X K all hS B s) 0 o
theorem co_be (i : Nat) (s : SB) : rB P X K all hS B (.e i s) e h = oM 1 P X (rB P X K all hS B s) all hS B (rget all i) e h := by
  simp only [rB, oB, oM]
  cases rget all i with
  | none => rfl
  | some o => exact gm_eq (K := rB P X K all hS B s) 1 o
theorem co_bn (i : Nat) (s : SB) : rB P X K all hS B (.n i s) e h = oM 2 P X (rB P X K all hS B s) all hS B (rget all i) e h := by
  simp only [rB, oB, oM]
  cases rget all i with
  | none => rfl
  | some o => exact gm_eq (K := rB P X K all hS B s) 2 o
theorem co_bf (i : Nat) (s : SB) (j : Nat) (t : SB) : rB P X K all hS B (.f i s j t) e h = (rB P X K all hS B (.n i s) e h ∧ rB P X K all hS B (.n j t) e h) := rfl
variable {n : Nat} {d : Option Nat}
theorem co_qv (p : Prop) (v : SV) : bQr K n d (.or (.val p v)) e h = (p ∧ K (put n d v e) h) := rfl
theorem co_qp (c : Bool) (a b : SV) : bQr K n d (.or (.pick c a b)) e h = Br c (K (put n d a e) h) (K (put n d b e) h) := rfl
theorem co_qw (b : Nat) : bQr K n d (.wid b) e h = (FWok b ∧ K (put n d (.f (.flt .f64 (fwide b))) e) h) := rfl
theorem co_ec (f : FuncId) (args : List SV) : stE P K n d (.or (.call f args)) e h = CallE P (kR K) n f args d [] e h := rfl
theorem co_kr (its : List Item) : kR K its e h = K e h := rfl
theorem co_nv (p : Prop) (v : SV) : stN P X K hS B d (.or (.val p v)) e h = (p ∧ K (put X.n d v e) h) := rfl
theorem co_np (c : Bool) (a b : SV) : stN P X K hS B d (.or (.pick c a b)) e h = Br c (K (put X.n d a e) h) (K (put X.n d b e) h) := rfl
theorem co_nn (p : Prop) (b : Blk) (mk : Nat → SV) : stN P X K hS B d (.or (.new p b mk)) e h = (p ∧ K (put X.n d (mk h.length) e) (h ++ [b])) := rfl
theorem co_nu (p : Prop) (l : Nat) (b : Blk) : stN P X K hS B d (.or (.upd p l b)) e h = ((ofB hS.length B l && kpB B 0 hS h) = true ∧ p ∧ K (put X.n d (.tup []) e) (hset h l b)) := rfl
theorem co_nc (f : FuncId) (args : List SV) : stN P X K hS B d (.or (.call f args)) e h = (CallM P (kR K) X.n f args d [] e h (reach h (ins [] (labsL args))) ∨ CallW P K X.n f args hS B d e h (reach h (ins [] (labsL args)))) := rfl
theorem co_na (t : Nat) (x y : SV) : stN P X K hS B d (.app t x y) e h = (AppB K X.n d (appR X.tab h t x y) x e h ∨ AppI K X.n hS B d (appR X.tab h t x y) e h) := rfl
theorem co_nw (b : Nat) : stN P X K hS B d (.wid b) e h = WidN (kR K) X.n 3 b d [] e h := rfl
theorem co_as (p : Prop) (a : AppIn) (x : SV) : AppB K n d (.slc p a) x e h = (p ∧ ((a.cap < a.len + a.m ∧ ∀ cap', a.len + a.m ≤ cap' → K (put n d (.slc h.length 0 (a.len + a.m) cap') e) (h ++ [.rows (a.len + a.m) cap' a.c (catR a.f a.len a.g) true])) ∨ ((a.m = 0 ∧ a.len = 0) ∧ K (put n d x e) h))) := rfl
theorem co_is (p : Prop) (a : AppIn) : AppI K n hS B d (.slc p a) e h = (p ∧ (((a.own = true ∧ a.cap ≤ a.cb) ∧ (ofB hS.length B a.l && kpB B 0 hS h) = true) ∧ ∀ cap', a.len + a.m ≤ cap' → K (put n d (.slc h.length 0 (a.len + a.m) cap') e) (hset h a.l .dead ++ [.rows (a.len + a.m) cap' a.c (catR a.f a.len a.g) true]))) := rfl
theorem co_in (p : Prop) (c m : Nat) (g : Nat → List FV) : AppI K n hS B d (.nil p c m g) e h = False := rfl
theorem co_an (p : Prop) (c m : Nat) (g : Nat → List FV) (x : SV) : AppB K n d (.nil p c m g) x e h = (p ∧ ∀ cap', m ≤ cap' → K (put n d (.slc h.length 0 m cap') e) (h ++ [.rows m cap' c g true])) := rfl
end
end
end Go.Proofs.YtjhddlkfkicpaaaGreatDoor.Vx
