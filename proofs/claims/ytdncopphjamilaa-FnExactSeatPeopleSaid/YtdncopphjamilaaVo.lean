/- Abstract execution: calls. Over any program. -/
import Derived.Test.YtdncopphjamilaaVn
namespace Go.Proofs.Ytdncopphjamilaa.Vx
open Go Go.RowKit Fl
set_option linter.unusedVariables false
set_option linter.unusedSimpArgs false

section
variable {P : Program} {w : World} {β : Nat → Loc} {h : List Blk}
theorem roB_own {b : Blk} : (roB b).own = false := by cases b <;> rfl
theorem roB_live {b : Blk} : (roB b).live ↔ b.live := by cases b <;> exact Iff.rfl
theorem roL_get : ∀ (h : List Blk) (l : Nat), hget (roL h) l = roB (hget h l)
  | [], _ => rfl
  | _ :: _, 0 => rfl
  | _ :: h, l + 1 => by simp only [roL, hget]; exact roL_get h l
theorem roL_length : ∀ h : List Blk, (roL h).length = h.length
  | [] => rfl
  | _ :: h => by simp [roL, roL_length h]
theorem Holds.ro (H : Holds w β h) : Holds w β (roL h) := by
  refine ⟨fun l => ?_, fun l m hl hm hne ho => ?_, fun l => ?_⟩
  · rw [roL_get]
    have := H.ok l
    generalize hget h l = b at *
    refine ⟨fun hl => this.there (roB_live.1 hl), ?_, fun i j v hv hk => ?_, fun ho => by rw [roB_own] at ho; cases ho⟩
    · have hf := this.fit; cases b <;> exact hf
    · exact this.cell i j v (by cases b <;> exact hv) hk
  · rw [roL_get, roL_get, roB_own, roB_own] at ho
    rcases ho with c | c <;> cases c
  · rw [roL_get, roL_length]
    have := H.bd l
    generalize hget h l = b at *
    cases b <;> exact this
theorem dropB_get : ∀ (r : List Nat) (hh : List Blk) (k : Nat), r.length ≤ hh.length → hget (dropB r hh) k = hget hh (k + r.length)
  | [], _, _, _ => rfl
  | _ :: r, [], _, hl => by simp at hl
  | _ :: r, _ :: hh, k, hl => by
    simp only [List.length_cons] at hl
    simp only [dropB, List.length_cons]
    rw [dropB_get r hh k (by omega), show k + (r.length + 1) = (k + r.length) + 1 from by omega]; rfl
theorem dropB_length : ∀ (r : List Nat) (hh : List Blk), (dropB r hh).length = hh.length - r.length
  | [], hh => by simp [dropB]
  | _ :: r, [] => by simp [dropB]
  | _ :: r, _ :: hh => by simp [dropB, dropB_length r hh]

/-- Places behind a call: the caller's own, then the callee's new ones. -/
def bnew (β β'' : Nat → Loc) (N k : Nat) : Nat → Loc := fun l => if l < N then β l else β'' (l - N + k)
theorem bnew_lt {β β'' : Nat → Loc} {N k l : Nat} (c : l < N) : bnew β β'' N k l = β l := by simp [bnew, c]
theorem bnew_ge {β β'' : Nat → Loc} {N k l : Nat} (c : N ≤ l) : bnew β β'' N k l = β'' (l - N + k) := by unfold bnew; rw [if_neg (by omega)]
theorem bnew_unl {β β'' : Nat → Loc} {r : List Nat} {N : Nat} (hr : ∀ l ∈ r, l < N) (hs : ∀ i, i < r.length → β'' i = β (lget r i)) (l : Nat) : bnew β β'' N r.length (unl r N l) = β'' l := by
  unfold unl
  by_cases c : l < r.length
  · rw [if_pos c, bnew_lt (hr _ (lget_mem c)), hs l c]
  · rw [if_neg c, bnew_ge (by omega)]; congr 1; omega
theorem unl_lt {r : List Nat} {N m l : Nat} (hr : ∀ l ∈ r, l < N) (hl : l < m) (hm : r.length ≤ m) : unl r N l < N + (m - r.length) := by
  unfold unl
  by_cases c : l < r.length
  · rw [if_pos c]; have := hr _ (lget_mem c); omega
  · rw [if_neg c]; omega

section
variable {w0 : World} {β0 : Nat → Loc} {h0 : List Blk}
/-- What a call leaves behind. -/
structure After (w0 : World) (β0 : Nat → Loc) (h0 : List Blk) (w : World) (β : Nat → Loc) (h : List Blk) (w' : World) (β' : Nat → Loc) (h' : List Blk) : Prop where
  holds : Holds w' β' h'
  since : Since w0 β0 h0 w' β' h'
  same : ∀ l, l < h.length → β l = β' l
  len : h.length ≤ h'.length

theorem callR_ok (H : Holds w β h) (s : Since w0 β0 h0 w β h) {f : FuncId} {args : List SV} {r : List Nat} (hr : locOk r h = true) (hl : linL r args = true) (hlt : ∀ l ∈ r, l < h.length)
    {Q : SV → List Blk → Prop} (c : CV P f (renL (idx r) args) (roL (locH r h r)) Q) :
    Calls P f (denL β args).toArray w fun e w' => ∃ v hh β', e = .returned (den β' (v.ren (unl r h.length))) ∧ Ext w w' ∧ Q v hh ∧ (v.ren (unl r h.length)).bd (h ++ newB (unl r h.length) (dropB r hh)).length ∧ After w0 β0 h0 w β h w' β' (h ++ newB (unl r h.length) (dropB r hh)) := by
  have Hl := (H.loc hr).ro
  have hc := c.calls w _ Hl
  rw [denL_lin hl] at hc
  refine Calls.mono hc ?_
  rintro e w' ⟨v, hh, β'', rfl, q, H2, s2, hvb⟩
  have hN : (roL (locH r h r)).length = r.length := by rw [roL_length, locH_length]
  have hlen := s2.len
  rw [hN] at hlen
  have hno : ∀ l, ¬ (hget (roL (locH r h r)) l).own = true := fun l c => by rw [roL_get, roB_own] at c; cases c
  have x : Ext w w' := ⟨s2.os, s2.tape, s2.output, s2.size, fun b hb => s2.frame b hb fun l hl => absurd hl (hno l)⟩
  have hsame : ∀ i, i < r.length → β'' i = β (lget r i) := fun i hi => s2.same i (by omega)
  have hb1 : ∀ l, l < h.length → β l = bnew β β'' h.length r.length l := fun l hl => (bnew_lt hl).symm
  have hfresh : ∀ i, r.length ≤ i → (hget hh i).live → w.heap.size ≤ (β'' i).b := fun i hi hv => by
    rcases s2.fresh i (by omega) hv with c | ⟨l0, o0, _⟩
    · exact c
    · exact absurd o0 (hno l0)
  have hget' : ∀ m, hget (h ++ newB (unl r h.length) (dropB r hh)) m = if m < h.length then hget h m else (hget hh (m - h.length + r.length)).ren (unl r h.length) := fun m => by
    rw [hget_app, newB_get, dropB_get _ _ _ hlen]
  have hL : (h ++ newB (unl r h.length) (dropB r hh)).length = h.length + (hh.length - r.length) := by rw [List.length_append, newB_length, dropB_length]
  refine ⟨v, hh, bnew β β'' h.length r.length, ?_, x, q, ?_, ?_⟩
  · rw [den_ren]
    congr 1
    exact (den_congr (fun l _ => (bnew_unl hlt hsame l).symm) v hvb)
  · rw [hL]; exact SV.bd_ren (fun l hl => unl_lt hlt hl hlen) v hvb
  · refine ⟨⟨fun m => ?_, fun m k hm hk hne ho => ?_, fun m => ?_⟩, ?_, hb1, by rw [hL]; omega⟩
    · rw [hget']
      by_cases c1 : m < h.length
      · rw [if_pos c1, bnew_lt c1]; exact ((H.ok m).ext x).congr (H.bd m) hb1
      · rw [if_neg c1, bnew_ge (by omega)]
        refine (H2.ok _).ren fun i j u hu => ?_
        rw [den_ren]
        exact den_congr (fun l _ => bnew_unl hlt hsame l) u (Blk.bd_cell (H2.bd _) hu)
    · rw [hget'] at hm hk ho
      rw [hget'] at ho
      by_cases c1 : m < h.length
      · rw [if_pos c1] at hm ho
        by_cases c2 : k < h.length
        · rw [if_pos c2] at hk ho
          rw [bnew_lt c1, bnew_lt c2]; exact H.inj m k hm hk hne ho
        · rw [if_neg c2, Blk.ren_live] at hk
          rw [bnew_lt c1, bnew_ge (by omega)]
          have := hfresh _ (by omega) hk
          have := (H.ok m).there hm
          omega
      · rw [if_neg c1, Blk.ren_live] at hm
        by_cases c2 : k < h.length
        · rw [if_pos c2] at hk
          rw [bnew_ge (by omega), bnew_lt c2]
          have := hfresh _ (by omega) hm
          have := (H.ok k).there hk
          omega
        · rw [if_neg c2, Blk.ren_live] at hk
          rw [if_neg c1, if_neg c2, Blk.ren_own, Blk.ren_own] at ho
          rw [bnew_ge (by omega), bnew_ge (by omega)]
          exact H2.inj _ _ hm hk (by omega) ho
    · rw [hget', hL]
      by_cases c1 : m < h.length
      · rw [if_pos c1]; exact Blk.bd_mono (by omega) (H.bd m)
      · rw [if_neg c1]
        have := H2.bd (m - h.length + r.length)
        generalize hget hh (m - h.length + r.length) = b at *
        cases b <;> first | trivial | exact bdL_ren (fun l hl => unl_lt hlt hl hlen) _ this
    · have s' := s.ext x
      have hle := s.len
      refine ⟨s'.os, s'.tape, s'.output, s'.size, by rw [hL]; omega, fun l hl => by rw [bnew_lt (by omega)]; exact s.same l hl, s'.frame, fun l hl hv => ?_, fun l hl hv => ?_, fun l hl hv => ?_⟩
      · rw [hget', if_pos (by omega)] at hv; exact s.liv l hl hv
      · rw [hget', if_pos (by omega)] at hv; exact s.ownk l hl hv
      · rw [hget'] at hv
        by_cases c1 : l < h.length
        · rw [if_pos c1] at hv; rw [bnew_lt c1]; exact s.fresh l hl hv
        · rw [if_neg c1, Blk.ren_live] at hv
          rw [bnew_ge (by omega)]
          have := hfresh _ (by omega) hv
          left; have := s.size; omega

theorem callG_ok (H : Holds w β h) (s : Since w0 β0 h0 w β h) {f : FuncId} {args : List SV} {r : List Nat} (hr : locOk r h = true) (hl : linL r args = true) (hlt : ∀ l ∈ r, l < h.length)
    {Q : SV → List Blk → Prop} (c : CV P f (renL (idx r) args) (locH r h r) Q) :
    Calls P f (denL β args).toArray w fun e w' => ∃ v hh β', e = .returned (den β' (v.ren (unl r h.length))) ∧ Q v hh ∧ (v.ren (unl r h.length)).bd (mrg (unl r h.length) r h hh).length ∧ After w0 β0 h0 w β h w' β' (mrg (unl r h.length) r h hh) := by
  have Hl := H.loc hr
  have hc := c.calls w _ Hl
  rw [denL_lin hl] at hc
  refine Calls.mono hc ?_
  rintro e w' ⟨v, hh, β'', rfl, q, H2, s2, hvb⟩
  have hdis : distinct r = true := by simp only [locOk, Bool.and_eq_true] at hr; exact hr.1
  have hN : (locH r h r).length = r.length := locH_length r h r
  have hlen := s2.len
  rw [hN] at hlen
  have hsame : ∀ i, i < r.length → β'' i = β (lget r i) := fun i hi => s2.same i (by omega)
  have hb1 : ∀ l, l < h.length → β l = bnew β β'' h.length r.length l := fun l hl => (bnew_lt hl).symm
  have hownl : ∀ i, (hget (locH r h r) i).own = true → i < r.length ∧ (hget h (lget r i)).own = true := fun i hi => by
    have c := hget_lt (Blk.own_live hi)
    rw [hN] at c
    rw [locH_get r h r i c, Blk.ren_own] at hi
    exact ⟨c, hi⟩
  have hL : (mrg (unl r h.length) r h hh).length = h.length + (hh.length - r.length) := mrg_length _ _ _ _ hlen
  -- which block lies at m
  have hcase : ∀ m, (∃ i, i < r.length ∧ m = lget r i ∧ m < h.length ∧ hget (mrg (unl r h.length) r h hh) m = (hget hh i).ren (unl r h.length) ∧ bnew β β'' h.length r.length m = β'' i) ∨
      (m < h.length ∧ m ∉ r ∧ hget (mrg (unl r h.length) r h hh) m = hget h m ∧ bnew β β'' h.length r.length m = β m) ∨
      (h.length ≤ m ∧ hget (mrg (unl r h.length) r h hh) m = (hget hh (m - h.length + r.length)).ren (unl r h.length) ∧ bnew β β'' h.length r.length m = β'' (m - h.length + r.length)) := fun m => by
    by_cases c1 : m < h.length
    · by_cases c2 : m ∈ r
      · obtain ⟨i1, i2⟩ := idx_ok r m c2
        refine .inl ⟨idx r m, i1, i2.symm, c1, ?_, ?_⟩
        · have := mrg_at (unl r h.length) r h hh (idx r m) hlen hdis hlt i1
          rwa [i2] at this
        · rw [bnew_lt c1, hsame _ i1, i2]
      · exact .inr (.inl ⟨c1, c2, mrg_old _ _ _ _ _ hlen c1 c2, bnew_lt c1⟩)
    · exact .inr (.inr ⟨by omega, mrg_new _ _ _ _ _ hlen (by omega), bnew_ge (by omega)⟩)
  -- a block that the callee was not led to is as it was
  have hframe : ∀ m, m < h.length → m ∉ r → (hget h m).live → ∀ l, (hget (locH r h r) l).own = true → (β (lget r l)).b ≠ (β m).b := fun m hm hnr hv l ho => by
    obtain ⟨c, o⟩ := hownl l ho
    exact H.inj _ _ (Blk.own_live o) hv (fun e => hnr (e ▸ lget_mem c)) (.inl o)
  have hold : ∀ m, m < h.length → m ∉ r → BlkOk w' (bnew β β'' h.length r.length) (β m) (hget h m) := fun m hm hnr => by
    have k := (H.ok m).congr (H.bd m) hb1
    by_cases hv : (hget h m).live
    · have hblk : w'.heap[(β m).b]? = w.heap[(β m).b]? := s2.frame _ (k.there hv) (hframe m hm hnr hv)
      refine ⟨fun _ => Nat.lt_of_lt_of_le (k.there hv) s2.size, k.fit, fun i j u hu hk => ?_, fun ho => ⟨(k.wr ho).1, fun i j hrm => ?_⟩⟩
      · exact ⟨(k.cell i j u hu hk).1, (World.cell?_of_block (w := w) (w' := w') hblk).trans (k.cell i j u hu hk).2⟩
      · have := (k.wr ho).2 i j hrm
        exact ⟨by rw [World.cell?_of_block (w := w) (w' := w') hblk]; exact this.1, by rw [World.frozen?_of_block (w := w) (w' := w') hblk]; exact this.2⟩
    · refine ⟨fun c => absurd c hv, k.fit, fun i j u hu hk => ?_, fun ho => absurd (Blk.own_live ho) hv⟩
      exfalso; apply hv
      generalize hget h m = b at *
      cases b <;> first | trivial | (cases hu; done)
  -- a block of the callee's lies apart from those that it was not led to
  have hapart : ∀ m i, m < h.length → m ∉ r → (hget h m).live → (hget hh i).live → ((hget h m).own = true ∨ (hget hh i).own = true ∨ r.length ≤ i) → (β m).b ≠ (β'' i).b := fun m i hm hnr hv hvi ho => by
    by_cases c : i < r.length
    · rw [hsame i c]
      have hvl := s2.liv i (by omega) hvi
      rw [locH_get r h r i c, Blk.ren_live] at hvl
      have hne : m ≠ lget r i := fun e => hnr (e ▸ lget_mem c)
      rcases ho with o | o | o
      · exact H.inj _ _ hv hvl hne (.inl o)
      · exact H.inj _ _ hv hvl hne (.inr (hownl i (s2.ownk i (by omega) o)).2)
      · omega
    · rcases s2.fresh i (by omega) hvi with d | ⟨l0, o0, e0⟩
      · have := (H.ok m).there hv; omega
      · have := hframe m hm hnr hv l0 o0
        rw [← e0]; exact fun e => this e.symm
  refine ⟨v, hh, bnew β β'' h.length r.length, ?_, q, ?_, ?_⟩
  · rw [den_ren]
    congr 1
    exact (den_congr (fun l _ => (bnew_unl hlt hsame l).symm) v hvb)
  · rw [hL]; exact SV.bd_ren (fun l hl => unl_lt hlt hl hlen) v hvb
  · have hren : ∀ i, BlkOk w' (bnew β β'' h.length r.length) (β'' i) ((hget hh i).ren (unl r h.length)) := fun i =>
      (H2.ok i).ren fun i' j u hu => by
        rw [den_ren]
        exact den_congr (fun l _ => bnew_unl hlt hsame l) u (Blk.bd_cell (H2.bd _) hu)
    refine ⟨⟨fun m => ?_, fun m k hm hk hne ho => ?_, fun m => ?_⟩, ?_, hb1, by rw [hL]; omega⟩
    · rcases hcase m with ⟨i, hi, e, hlm, e2, e3⟩ | ⟨c1, c2, e2, e3⟩ | ⟨c1, e2, e3⟩
      · rw [e2, e3]; exact hren i
      · rw [e2, e3]; exact hold m c1 c2
      · rw [e2, e3]; exact hren _
    · rcases hcase m with ⟨i, hi, e, hlm, e2, e3⟩ | ⟨c1, c2, e2, e3⟩ | ⟨c1, e2, e3⟩ <;> rcases hcase k with ⟨i', hi', e', hlk, e2', e3'⟩ | ⟨c1', c2', e2', e3'⟩ | ⟨c1', e2', e3'⟩ <;>
        rw [e2] at hm ho <;> rw [e2'] at hk ho <;> rw [e3, e3'] <;> (try rw [Blk.ren_live] at hm) <;> (try rw [Blk.ren_live] at hk) <;> (try rw [Blk.ren_own] at ho) <;> (try rw [Blk.ren_own] at ho)
      · exact H2.inj _ _ hm hk (fun c => hne (by rw [e, e', c])) ho
      · exact (hapart k i c1' c2' hk hm (ho.elim (fun o => .inr (.inl o)) .inl)).symm
      · exact H2.inj _ _ hm hk (by omega) ho
      · exact hapart m i' c1 c2 hm hk (ho.elim .inl (fun o => .inr (.inl o)))
      · exact H.inj _ _ hm hk hne ho
      · exact hapart m _ c1 c2 hm hk (.inr (.inr (by omega)))
      · exact H2.inj _ _ hm hk (by omega) ho
      · exact (hapart k _ c1' c2' hk hm (.inr (.inr (by omega)))).symm
      · exact H2.inj _ _ hm hk (by omega) ho
    · rw [hL]
      have hbd : ∀ i, ((hget hh i).ren (unl r h.length)).bd (h.length + (hh.length - r.length)) := fun i => by
        have := H2.bd i
        generalize hget hh i = b at *
        cases b <;> first | trivial | exact bdL_ren (fun l hl => unl_lt hlt hl hlen) _ this
      rcases hcase m with ⟨i, hi, e, hlm, e2, e3⟩ | ⟨c1, c2, e2, e3⟩ | ⟨c1, e2, e3⟩
      · rw [e2]; exact hbd i
      · rw [e2]; exact Blk.bd_mono (by omega) (H.bd m)
      · rw [e2]; exact hbd _
    · have hle := s.len
      have hsl : w0.heap.size ≤ w.heap.size := s.size
      refine ⟨s2.os.trans s.os, s2.tape.trans s.tape, s2.output.trans s.output, Nat.le_trans s.size s2.size, by rw [hL]; omega, fun l hl => by rw [bnew_lt (by omega)]; exact s.same l hl, fun b hb hn => ?_, fun l hl hv => ?_, fun l hl hv => ?_, fun l hl hv => ?_⟩
      · rw [s2.frame b (by omega) fun l ho => ?_]
        · exact s.frame b hb hn
        · obtain ⟨c, o⟩ := hownl l ho
          rcases s.own _ o with d | ⟨l0, o0, e0⟩
          · intro e; omega
          · intro e; exact hn l0 o0 (by rw [e0, e])
      · rcases hcase l with ⟨i, hi, e, hlm, e2, e3⟩ | ⟨c1, c2, e2, e3⟩ | ⟨c1, e2, e3⟩
        · rw [e2, Blk.ren_live] at hv
          have := s2.liv i (by omega) hv
          rw [locH_get r h r i hi, Blk.ren_live, ← e] at this
          exact s.liv l hl this
        · rw [e2] at hv; exact s.liv l hl hv
        · omega
      · rcases hcase l with ⟨i, hi, e, hlm, e2, e3⟩ | ⟨c1, c2, e2, e3⟩ | ⟨c1, e2, e3⟩
        · rw [e2, Blk.ren_own] at hv
          have := (hownl i (s2.ownk i (by omega) hv)).2
          rw [← e] at this
          exact s.ownk l hl this
        · rw [e2] at hv; exact s.ownk l hl hv
        · omega
      · rcases hcase l with ⟨i, hi, e, hlm, e2, e3⟩ | ⟨c1, c2, e2, e3⟩ | ⟨c1, e2, e3⟩
        · rw [e2, Blk.ren_live] at hv
          have := s2.liv i (by omega) hv
          rw [locH_get r h r i hi, Blk.ren_live, ← e] at this
          rw [e3, hsame i hi, ← e]
          exact s.fresh l hl this
        · rw [e2] at hv; rw [e3]; exact s.fresh l hl hv
        · rw [e2, Blk.ren_live] at hv
          rw [e3]
          rcases s2.fresh _ (by omega) hv with d | ⟨l0, o0, e0⟩
          · left; omega
          · obtain ⟨c, o⟩ := hownl l0 o0
            have e0' : (β (lget r l0)).b = (β'' (l - h.length + r.length)).b := e0
            rw [← e0']
            exact s.own _ o
end
end
end Go.Proofs.Ytdncopphjamilaa.Vx
