/- Abstract execution: what an operation does is what is told. Over any program. -/
import Derived.Test.YtjhddlkfkicpaaaGreatDoorVk
namespace Go.Proofs.YtjhddlkfkicpaaaGreatDoor.Vx
open Go Go.RowKit Fl
set_option linter.unusedVariables false
set_option linter.unusedSimpArgs false

theorem kn {x : SV} (h : x ≠ .any) : x.known = true := by cases x <;> first | rfl | exact absurd rfl h

def OR.kind : OR → Nat
  | .val _ _ => 0
  | .new _ _ _ => 1
  | .upd _ _ _ => 2
  | .call _ _ => 3
  | .pick _ _ _ => 4
  | .app _ _ _ _ _ _ _ _ _ => 5
  | .bad => 6
section
variable {P : Program} {β : Nat → Loc} {w : World} {h : List Blk} {tab : Nat → Option TI} {n m : Nat} {a : Act} {e : Env}

theorem eqTN_ok (ht : TabOk P tab) {t : Nat} (n : Nat) (hb : eqTN tab t = some n) : EqT P t n := by
  unfold eqTN at hb
  split at hb
  · rename_i i hi
    obtain ⟨_, _, _, _, _, _, _, _, _, _, _, _, he, _⟩ := ht _ _ hi
    split at hb
    · rename_i h1
      cases hb
      exact he h1
    · cases hb
  · cases hb
theorem eqaN_ok (ht : TabOk P tab) {t : Nat} (n : Nat) (hb : eqaN tab t = some n) : EqA P t n := by
  unfold eqaN at hb
  split at hb
  · rename_i i hi
    obtain ⟨_, _, _, _, _, _, _, _, _, _, _, _, _, he⟩ := ht _ _ hi
    split at hb
    · rename_i h1
      cases hb
      exact he h1
    · cases hb
  · cases hb
theorem isBoolT_ok (ht : TabOk P tab) {t : Nat} (hb : isBoolT tab t = true) : P.underlying t = some .bool := by
  unfold isBoolT at hb
  split at hb
  · rename_i ti hti
    obtain ⟨d, q, hu, hk, _⟩ := ht _ _ hti
    split at hb
    · rename_i he; rw [he] at hk; simp only [TK.ok] at hk; subst hk; exact hu
    · cases hb
  · cases hb
theorem isSlcT_ok (ht : TabOk P tab) {t : Nat} (hb : isSlcT tab t = true) : ∃ e, P.underlying t = some (.slice e) := by
  unfold isSlcT at hb
  split at hb
  · rename_i ti hti
    obtain ⟨d, q, hu, hk, _⟩ := ht _ _ hti
    split at hb
    · rename_i e he; rw [he] at hk; simp only [TK.ok] at hk; subst hk; exact ⟨_, hu⟩
    · cases hb
  · cases hb
theorem lenRT_ok (ht : TabOk P tab) {t ty : Nat} {x : SV} {p : Prop} {r : SV} (ho : lenRT tab t x = .val p r) : r.bd n ∧ (Builtin.len_ #[t] ty #[den β x]).run P w = .ok (den β r) w := by
  unfold lenRT at ho
  have key : ∀ b, isStrT tab t = some b → (b = true → P.underlying t = some .string) ∧ (b = false → ∃ e, P.underlying t = some (.slice e)) := by
    intro b hb
    unfold isStrT at hb
    split at hb
    · rename_i ti hti
      obtain ⟨d, q, hu, hk, _⟩ := ht _ _ hti
      split at hb
      · rename_i he; rw [he] at hk; simp only [TK.ok] at hk; subst hk; cases hb
        exact ⟨fun _ => hu, fun c => by cases c⟩
      · rename_i el he; rw [he] at hk; simp only [TK.ok] at hk; subst hk; cases hb
        exact ⟨fun c => (by cases c), fun _ => ⟨el, hu⟩⟩
      · cases hb
    · cases hb
  split at ho
  · rename_i hs
    have hu := (key true hs).1 rfl
    split at ho
    · simp only [OR.val.injEq] at ho; obtain ⟨rfl, rfl⟩ := ho
      exact ⟨trivial, by simp [Builtin.len_, run_underlying hu, den, FV.val, goInt]⟩
    · cases ho
  · rename_i hs
    obtain ⟨el, hu⟩ := (key false hs).2 rfl
    split at ho
    · simp only [OR.val.injEq] at ho; obtain ⟨rfl, rfl⟩ := ho
      exact ⟨trivial, by simp [Builtin.len_, run_underlying hu, den, FV.val, goInt]⟩
    · simp only [OR.val.injEq] at ho; obtain ⟨rfl, rfl⟩ := ho
      exact ⟨trivial, by simp [Builtin.len_, run_underlying hu, den, FV.val, goInt]⟩
    · cases ho
  · cases ho

theorem evL_ok (s : Slots n m β a e) : ∀ (l : List Operand), knownL (evL e l) = true → bdL m (evL e l) ∧ l.map a.eval = denL β (evL e l)
  | [], _ => ⟨trivial, rfl⟩
  | x :: r, hk => by
    simp only [evL, knownL, Bool.and_eq_true] at hk
    obtain ⟨h1, h2⟩ := s.ev hk.1
    obtain ⟨h3, h4⟩ := evL_ok s r hk.2
    exact ⟨⟨h1, h3⟩, by simp only [List.map_cons, evL, denL, h2, h4]⟩
theorem evP_ok (s : Slots n m β a e) (ps : List (Nat × Operand)) (hk : ∀ x ∈ evP e ps, x.2.known = true) : (∀ x ∈ evP e ps, x.2.bd m) ∧ (ps.toArray.map fun x => (x.1, a.eval x.2)) = ((evP e ps).map fun x => (x.1, den β x.2)).toArray := by
  rw [evP_map] at *
  refine ⟨fun x hx => ?_, ?_⟩
  · obtain ⟨y, hy, rfl⟩ := List.mem_map.1 hx
    exact (s.ev (hk _ hx)).1
  · apply Array.ext'
    simp only [List.map_toArray, List.map_map, List.toList_toArray]
    apply List.map_congr_left
    intro y hy
    simp only [Function.comp]
    rw [(s.ev (hk _ (List.mem_map.2 ⟨y, hy, rfl⟩))).2]
theorem rowsOf_known {s : Nat} : ∀ (k : Nat) (l : List (Nat × SV)) (rs : List (List FV)), rowsOf s k l = some rs → ∀ x ∈ l, x.2.known = true
  | _, [], _, _, x, hx => by cases hx
  | k, (i, v) :: r, rs, h, x, hx => by
    simp only [rowsOf] at h
    split at h
    · split at h
      · rename_i row hrow
        split at h
        · rename_i rs' hrs
          rcases List.mem_cons.1 hx with c | c
          · subst c; cases v <;> first | rfl | (simp [rowOf] at hrow; done)
          · exact rowsOf_known (k + 1) r rs' hrs x c
        · cases h
      · cases h
    · cases h
theorem buildSR_known {t k : Nat} {l : List (Nat × SV)} {p : Prop} {blk : Blk} {mk : Nat → SV} (ho : buildSR tab t k l = .new p blk mk) : ∀ x ∈ l, x.2.known = true := by
  unfold buildSR at ho
  split at ho
  · split at ho
    · split at ho
      · split at ho
        · intro x hx; cases hx
        · split at ho
          · cases ho
          · split at ho
            · split at ho
              · rename_i rs hrs
                exact rowsOf_known 0 l rs hrs
              · cases ho
            · cases ho
      · cases ho
    · cases ho
  · cases ho
theorem bFill_known {fs : List (Nat × Nat)} : ∀ (l : List (Nat × SV)) (row row' : List SV), bFill tab fs row l = some row' → ∀ x ∈ l, x.2.known = true
  | [], _, _, _, x, hx => by cases hx
  | (i, v) :: r, row, row', h, x, hx => by
    simp only [bFill] at h
    split at h
    · split at h
      · split at h
        · rename_i cs hcs
          split at h
          · rcases List.mem_cons.1 hx with c | c
            · subst c; cases v <;> first | rfl | (simp [cellsL] at hcs; done)
            · exact bFill_known r _ row' h x c
          · cases h
        · cases h
      · cases h
    · cases h
theorem buildR_known {t : Nat} {l : List (Nat × SV)} {p : Prop} {r : SV} (ho : buildR tab t l = .val p r) : ∀ x ∈ l, x.2.known = true := by
  unfold buildR at ho
  split at ho
  · split at ho
    · split at ho
      · split at ho
        · split at ho
          · rename_i row hrow; exact bFill_known l _ row hrow
          · cases ho
        · split at ho
          · intro x hx; cases hx
          · cases ho
      · cases ho
    · split at ho
      · split at ho
        · intro x hx; cases hx
        · cases ho
      · cases ho
    · cases ho
  · cases ho

theorem sliR_eq {t : Nat} {x : SV} {lo hi mx : Option SV} {p : Prop} {r : SV} (ho : sliR tab h t x lo hi mx = .val p r) : slcR tab h t x lo hi mx = .val p r ∧ (mx.isSome = true → hi.isSome = true) := by
  unfold sliR at ho
  split at ho
  · exact ⟨ho, fun c => by cases c⟩
  · split at ho
    · cases ho
    · exact ⟨ho, fun _ => rfl⟩
theorem bnd_known {d : Nat} {o : Option SV} {b : Int} (h : bnd d o = some b) : ∀ x, o = some x → x.known = true := fun x hx => by
  rcases bnd_cases h with ⟨e, _⟩ | ⟨k, e⟩ <;> rw [e] at hx <;> cases hx
  rfl
theorem slcR_known {t : Nat} {x : SV} {lo hi mx : Option SV} {p : Prop} {r : SV} (ho : slcR tab h t x lo hi mx = .val p r) : x.known = true ∧ (∀ y, lo = some y → y.known = true) ∧ (∀ y, hi = some y → y.known = true) ∧ (∀ y, mx = some y → y.known = true) := by
  unfold slcR at ho
  split at ho
  · split at ho
    · split at ho
      · split at ho
        · split at ho
          · split at ho
            · split at ho
              · rename_i hm
                split at ho
                · rename_i hb
                  refine ⟨rfl, ?_, bnd_known hb, bnd_known hm⟩
                  split at ho
                  · intro y hy; cases hy
                  · intro y hy; cases hy; rfl
                  · cases ho
                · cases ho
              · cases ho
            · cases ho
          · cases ho
        · unfold slcN at ho
          split at ho
          · split at ho
            · rename_i hm
              split at ho
              · rename_i hb
                exact ⟨rfl, fun y hy => (by cases hy), bnd_known hb, bnd_known hm⟩
              · cases ho
            · cases ho
          · cases ho
        · cases ho
      · cases ho
    · cases ho
  · cases ho
theorem evO_ok (s : Slots n m β a e) {o : Option Operand} (hk : ∀ y, evO e o = some y → y.known = true) : o.map a.eval = (evO e o).map (den β) := by
  cases o with
  | none => rfl
  | some x => simp only [evO, Option.map_some]; rw [(s.ev (x := x) (hk _ rfl)).2]
/-- An operation that only yields a value. -/
theorem opR_val (ht : TabOk P tab) (H0 : Holds w β h) (s : Slots n h.length β a e) {o : Oper} {p : Prop} {v : SV} (ho : opR tab e h o.op = .or (.val p v)) (hp : p) :
    ∃ u, (∀ w', Holds w' β h → (execOp a.eval o).run P w' = .ok (.value u) w') ∧ (v.known = true → v.bd h.length ∧ u = den β v) := by
  obtain ⟨dst, op, ty, pos, after, guard⟩ := o
  simp only at ho
  cases op <;> simp only [opR, OR2.or.injEq] at ho <;> (try (cases ho; done))
  case move x =>
    simp only [OR.val.injEq] at ho; obtain ⟨_, rfl⟩ := ho
    exact ⟨a.eval x, fun w' _ => by simp [execOp], fun hk => s.ev hk⟩
  case assign x =>
    simp only [OR.val.injEq] at ho; obtain ⟨_, rfl⟩ := ho
    exact ⟨a.eval x, fun w' _ => by simp [execOp], fun hk => s.ev hk⟩
  case pick c x y =>
    split at ho <;> simp at ho
  case alloc t =>
    exfalso; unfold allocR at ho; repeat' (split at ho) <;> first | (cases ho; done) | skip
  case box t x =>
    exfalso; unfold boxR at ho; repeat' (split at ho) <;> first | (cases ho; done) | skip
  case build t ps =>
    have hk := buildR_known ho
    obtain ⟨h1, h2⟩ := evP_ok s ps.toList hk
    have hb := fun w' => buildR_ok (β := β) (w := w') (n := h.length) ht ho h1
    refine ⟨den β v, fun w' _ => ?_, fun _ => ⟨(hb default).1, rfl⟩⟩
    have h2' : ps.map (fun x => (x.1, a.eval x.2)) = ((evP e ps.toList).map fun x => (x.1, den β x.2)).toArray := by simpa using h2
    simp only [execOp]
    rw [show (ps.map fun (x : Nat × Operand) => match x with | (i, x) => (i, a.eval x)) = ps.map (fun x => (x.1, a.eval x.2)) from rfl, h2']
    simp [(hb w').2]
  case buildSlice t k ps =>
    exfalso; unfold buildSR at ho; repeat' (split at ho) <;> first | (cases ho; done) | skip
  case load t x =>
    have hx : (ev e x).known = true := kn fun c => by rw [c] at ho; simp [ldR] at ho
    obtain ⟨hb, he⟩ := s.ev hx
    exact ⟨den β v, fun w' H => by simp [execOp, he, (ldR_ok ht H ho hp).2], fun _ => ⟨(ldR_ok ht H0 ho hp).1, rfl⟩⟩
  case store t x y =>
    exfalso; unfold stR at ho
    split at ho
    · split at ho
      · split at ho
        · unfold stAgg at ho; repeat' (split at ho) <;> first | (cases ho; done) | skip
        · split at ho
          · unfold stOne at ho; repeat' (split at ho) <;> first | (cases ho; done) | skip
          · cases ho
      · cases ho
    · cases ho
  case nilCheck x =>
    have hx : (ev e x).known = true := kn fun c => by rw [c] at ho; simp [nilR] at ho
    obtain ⟨hb, he⟩ := s.ev hx
    have hv : v = ev e x ∧ ((∃ l i j, ev e x = .ptr l i j) ∨ ∃ f b c, ev e x = .fn f b c) := by
      unfold nilR at ho
      split at ho
      · rename_i l i j hl; simp only [OR.val.injEq] at ho; exact ⟨by rw [hl]; exact ho.2.symm, .inl ⟨l, i, j, hl⟩⟩
      · rename_i f b c hl; simp only [OR.val.injEq] at ho; exact ⟨by rw [hl]; exact ho.2.symm, .inr ⟨f, b, c, hl⟩⟩
      · cases ho
    obtain ⟨rfl, hv⟩ := hv
    refine ⟨den β (ev e x), fun w' _ => ?_, fun _ => ⟨hb, rfl⟩⟩
    rcases hv with ⟨l, i, j, hl⟩ | ⟨f, b, c, hl⟩ <;> simp [execOp, he, hl, den]
  case binOp op xt x y yt =>
    have hx : (ev e x).known = true := kn fun c => by rw [c] at ho; simp [binR] at ho
    have hy : (ev e y).known = true := kn fun c => by rw [c] at ho; cases hq : ev e x <;> rw [hq] at ho <;> simp [binR] at ho
    obtain ⟨_, he⟩ := s.ev hx
    obtain ⟨_, he2⟩ := s.ev hy
    have hb := fun w' => binR_ok (P := P) (β := β) (n := h.length) (w := w') (t := xt) (a := x) (b := y) (isBoolT_ok ht) (isSlcT_ok ht) (eqTN_ok ht) (eqaN_ok ht) (fun l i m c hx hnn => by
      rw [hx] at hnn
      unfold nnS at hnn
      simp only at hnn
      split at hnn
      · rename_i hb
        have := (H0.ok l).fit; rw [hb] at this; exact this.1.nn hnn
      · exact hnn.elim) ho hp
    refine ⟨den β v, fun w' _ => ?_, fun _ => ⟨(hb default).1, rfl⟩⟩
    simp only [execOp, he, he2]
    rw [Sem.run_bind, (hb w').2]; rfl
  case unOp op t x =>
    have hx : (ev e x).known = true := kn fun c => by rw [c] at ho; simp [unR] at ho
    obtain ⟨_, he⟩ := s.ev hx
    have hb := fun w' => unR_ok (P := P) (β := β) (n := h.length) (w := w') ho hp
    exact ⟨den β v, fun w' _ => by simp [execOp, he, (hb w').2], fun _ => ⟨(hb default).1, rfl⟩⟩
  case convert sr ds x =>
    unfold cvS at ho
    split at ho
    · rename_i p' r hst
      simp only [OR2.or.injEq, OR.val.injEq] at ho; obtain ⟨rfl, rfl⟩ := ho
      obtain ⟨hx, _⟩ := strC_ok ht H0 hst hp
      obtain ⟨_, he⟩ := s.ev hx
      exact ⟨.string r, fun w' H => by simp [execOp, he, (strC_ok ht H hst hp).2], fun _ => ⟨trivial, rfl⟩⟩
    unfold cvR at ho
    split at ho
    · cases ho
    simp only [OR2.or.injEq] at ho
    have hx : (ev e x).known = true := kn fun c => by
      rw [c] at ho; unfold convR at ho
      split at ho
      · cases ho
      · split at ho
        · cases ho
        · split at ho <;> simp at ho
    obtain ⟨_, he⟩ := s.ev hx
    have hb := fun w' => convR_ok (P := P) (β := β) (n := h.length) (w := w') ht ho hp
    exact ⟨den β v, fun w' _ => by simp [execOp, he, (hb w').2], fun _ => ⟨(hb default).1, rfl⟩⟩
  case makeFunc fn first caps =>
    split at ho
    · rename_i f
      split at ho
      · rename_i hk
        simp only [Bool.and_eq_true] at hk
        simp only [OR2.or.injEq, OR.val.injEq] at ho; obtain ⟨_, rfl⟩ := ho
        obtain ⟨h1, h2⟩ := evL_ok s first.toList hk.1
        obtain ⟨h3, h4⟩ := evL_ok s caps.toList hk.2
        refine ⟨den β (.fn f (evL e first.toList) (evL e caps.toList)), fun w' _ => ?_, fun _ => ⟨⟨h1, h3⟩, rfl⟩⟩
        have e1 : first.map a.eval = (denL β (evL e first.toList)).toArray := by apply Array.ext'; rw [← h2]; simp
        have e2 : caps.map a.eval = (denL β (evL e caps.toList)).toArray := by apply Array.ext'; rw [← h4]; simp
        simp [execOp, Instr.makeFunc, e1, e2, den]
      · simp at ho
    · simp at ho
  case makeSlice t x y =>
    exfalso; unfold makeR at ho; repeat' (split at ho) <;> first | (cases ho; done) | skip
  case fieldAddr t x f =>
    have hx : (ev e x).known = true := kn fun c => by rw [c] at ho; simp [fieldR] at ho
    obtain ⟨hb, he⟩ := s.ev hx
    have hf := fun w' => fieldR_ok (P := P) (β := β) (w := w') ht ho hb
    exact ⟨den β v, fun w' _ => by simp [execOp, he, (hf w').2], fun _ => ⟨(hf default).1, rfl⟩⟩
  case field t x f =>
    have hx : (ev e x).known = true := kn fun c => by
      rw [c] at ho; unfold fldR at ho
      repeat' (split at ho) <;> first | (cases ho; done) | (simp [partR] at ho; done) | skip
    obtain ⟨hb, he⟩ := s.ev hx
    have hf := fun w' => fldR_ok (P := P) (β := β) (w := w') ht ho hp hb
    exact ⟨den β v, fun w' _ => by simp [execOp, he, (hf w').2], fun _ => ⟨(hf default).1, rfl⟩⟩
  case indexAddr t x ix =>
    have hix : (ev e ix).known = true := kn fun c => by rw [c] at ho; simp [indexR] at ho
    have hx : (ev e x).known = true := kn fun c => by
      rw [c] at ho; unfold indexR at ho
      repeat' (split at ho) <;> first | (cases ho; done) | (simp at *; done) | skip
    obtain ⟨hb, he⟩ := s.ev hx
    obtain ⟨_, he2⟩ := s.ev hix
    exact ⟨den β v, fun w' H => by simp [execOp, he, he2, (indexR_ok ht H ho hp hb).2], fun _ => ⟨(indexR_ok ht H0 ho hp hb).1, rfl⟩⟩
  case index t x ix =>
    have hix : (ev e ix).known = true := kn fun c => by rw [c] at ho; simp [idxR] at ho
    have hx : (ev e x).known = true := kn fun c => by
      rw [c] at ho; unfold idxR at ho
      repeat' (split at ho) <;> first | (cases ho; done) | (simp [partR] at *; done) | skip
    obtain ⟨hb, he⟩ := s.ev hx
    obtain ⟨_, he2⟩ := s.ev hix
    have hf := fun w' => idxR_ok (P := P) (β := β) (w := w') ht ho hp hb
    exact ⟨den β v, fun w' H => by simp [execOp, he, he2, (hf w').2], fun _ => ⟨(hf default).1, rfl⟩⟩
  case slice t x lo hi mx =>
    have old : sliR tab h t (ev e x) (evO e lo) (evO e hi) (evO e mx) = .val p v → ∃ u, (∀ w', Holds w' β h → (execOp a.eval ⟨dst, .slice t x lo hi mx, ty, pos, after, guard⟩).run P w' = .ok (.value u) w') ∧ (v.known = true → v.bd h.length ∧ u = den β v) := by
      intro ho
      obtain ⟨ho, hm⟩ := sliR_eq ho
      obtain ⟨hx, hlo, hhi, hmx⟩ := slcR_known ho
      obtain ⟨hb, he⟩ := s.ev hx
      exact ⟨den β v, fun w' H => by simp [execOp, he, evO_ok s hlo, evO_ok s hhi, evO_ok s hmx, (slcR_ok ht H ho hp hb hm).2], fun _ => ⟨(slcR_ok ht H0 ho hp hb hm).1, rfl⟩⟩
    unfold sliS at ho
    split at ho
    · rename_i m hm
      rw [← hm] at ho
      exact old ho
    · rename_i hm
      have kn1 : ∀ {o : Option Operand}, (∀ y, evO e o = some y → ∃ k b, y = .f (.int k b)) → ∀ y, evO e o = some y → y.known = true := fun hh y hy => by obtain ⟨k, b, rfl⟩ := hh y hy; rfl
      have hmx : mx.map a.eval = none := by
        cases mx with
        | none => rfl
        | some m => simp [evO] at hm
      unfold sliT at ho
      split at ho
      · rename_i p' r hst
        simp only [OR.val.injEq] at ho; obtain ⟨rfl, rfl⟩ := ho
        obtain ⟨⟨s0, hx⟩, hlo, hhi, _⟩ := strSl_ok (β := β) (w := default) ht hst hp
        obtain ⟨_, he⟩ := s.ev (x := x) (by rw [hx]; rfl)
        exact ⟨.string r, fun w' H => by simp [execOp, he, evO_ok s (kn1 hlo), evO_ok s (kn1 hhi), hmx, (strSl_ok (β := β) (w := w') ht hst hp).2.2.2], fun _ => ⟨trivial, rfl⟩⟩
      · unfold sliA at ho
        split at ho
        · have hx : (ev e x).known = true := kn fun c => by rw [c] at ho; simp [arrSl] at ho
          obtain ⟨hb, he⟩ := s.ev hx
          obtain ⟨_, hlo, hhi, hbd, _⟩ := arrSl_ok ht H0 ho hp hb
          exact ⟨den β v, fun w' H => by simp [execOp, he, evO_ok s (kn1 hlo), evO_ok s (kn1 hhi), hmx, (arrSl_ok ht H ho hp hb).2.2.2.2], fun _ => ⟨hbd, rfl⟩⟩
        · rw [← hm] at ho
          exact old ho
  case extract x i =>
    have hx : (ev e x).known = true := kn fun c => by rw [c] at ho; simp [extrR] at ho
    obtain ⟨hb, he⟩ := s.ev hx
    have hf := fun w' => extrR_ok (P := P) (β := β) (w := w') ho hb
    exact ⟨den β v, fun w' _ => by simp [execOp, he, (hf w').2], fun _ => ⟨(hf default).1, rfl⟩⟩
  case call c =>
    obtain ⟨callee, args, ats⟩ := c
    simp only at ho
    split at ho
    · split at ho <;> simp at ho
    · rename_i b
      unfold biR at ho
      split at ho
      · split at ho
        · rename_i t hts
          split at ho
          · rename_i x hxs
            simp only [OR2.or.injEq] at ho
            obtain ⟨y, hy⟩ : ∃ y, args.toList = [y] := by
              cases hq : args.toList with
              | nil => rw [hq] at hxs; simp [evL] at hxs
              | cons y r => cases r with
                | nil => exact ⟨y, rfl⟩
                | cons z r => rw [hq] at hxs; simp [evL] at hxs
            have hx : x = ev e y := by rw [hy] at hxs; simpa [evL] using hxs.symm
            have hk : (ev e y).known = true := kn fun c => by
              rw [hx, c] at ho; unfold lenRT at ho
              repeat' (split at ho) <;> first | (cases ho; done) | skip
            obtain ⟨_, he⟩ := s.ev hk
            have ha : args.map a.eval = #[den β x] := by
              apply Array.ext'; simp [hy, he, hx]
            have hat : ats = #[t] := by apply Array.ext'; simpa using hts
            have hf := fun w' => lenRT_ok (P := P) (β := β) (n := h.length) (w := w') (ty := ty) ht ho
            refine ⟨den β v, fun w' _ => ?_, fun _ => ⟨(hf default).1, rfl⟩⟩
            simp [execOp, resolve, ha, invoke, builtin, hat, (hf w').2]
          · simp at ho
        · simp at ho
      · split at ho
        · rename_i x y hxs
          simp only [OR2.or.injEq] at ho
          obtain ⟨x', y', hy⟩ : ∃ x' y', args.toList = [x', y'] := by
            cases hq : args.toList with
            | nil => rw [hq] at hxs; simp [evL] at hxs
            | cons u r => cases r with
              | nil => rw [hq] at hxs; simp [evL] at hxs
              | cons z r => cases r with
                | nil => exact ⟨u, z, rfl⟩
                | cons z2 r => rw [hq] at hxs; simp [evL] at hxs
          obtain ⟨hx, hy2⟩ : x = ev e x' ∧ y = ev e y' := by rw [hy] at hxs; simp [evL] at hxs; exact ⟨hxs.1.symm, hxs.2.symm⟩
          have hk : (ev e x').known = true := kn fun c => by rw [hx, c] at ho; simp [minR] at ho
          have hk2 : (ev e y').known = true := kn fun c => by
            rw [hy2, c] at ho; unfold minR at ho
            repeat' (split at ho) <;> first | (cases ho; done) | skip
          obtain ⟨_, he⟩ := s.ev hk
          obtain ⟨_, he2⟩ := s.ev hk2
          have ha : args.map a.eval = #[den β x, den β y] := by
            apply Array.ext'; simp [hy, he, hx, he2, hy2]
          have hf := fun w' => minR_ok (P := P) (β := β) (n := h.length) (w := w') (t1 := ats) (ty := ty) ho hp
          refine ⟨den β v, fun w' _ => ?_, fun _ => ⟨(hf default).1, rfl⟩⟩
          simp [execOp, resolve, ha, invoke, builtin, (hf w').2]
        · simp at ho
      · split at ho
        · rename_i x y hxs
          simp only [OR2.or.injEq] at ho
          obtain ⟨x', y', hy⟩ : ∃ x' y', args.toList = [x', y'] := by
            cases hq : args.toList with
            | nil => rw [hq] at hxs; simp [evL] at hxs
            | cons u r => cases r with
              | nil => rw [hq] at hxs; simp [evL] at hxs
              | cons z r => cases r with
                | nil => exact ⟨u, z, rfl⟩
                | cons z2 r => rw [hq] at hxs; simp [evL] at hxs
          obtain ⟨hx, hy2⟩ : x = ev e x' ∧ y = ev e y' := by rw [hy] at hxs; simp [evL] at hxs; exact ⟨hxs.1.symm, hxs.2.symm⟩
          have hk : (ev e x').known = true := kn fun c => by rw [hx, c] at ho; simp [maxR] at ho
          have hk2 : (ev e y').known = true := kn fun c => by
            rw [hy2, c] at ho; unfold maxR at ho
            repeat' (split at ho) <;> first | (cases ho; done) | skip
          obtain ⟨_, he⟩ := s.ev hk
          obtain ⟨_, he2⟩ := s.ev hk2
          have ha : args.map a.eval = #[den β x, den β y] := by
            apply Array.ext'; simp [hy, he, hx, he2, hy2]
          have hf := fun w' => maxR_ok (P := P) (β := β) (n := h.length) (w := w') (t1 := ats) (ty := ty) ho hp
          refine ⟨den β v, fun w' _ => ?_, fun _ => ⟨(hf default).1, rfl⟩⟩
          simp [execOp, resolve, ha, invoke, builtin, (hf w').2]
        · simp at ho
      · split at ho
        · split at ho
          · split at ho <;> simp at ho
          · simp at ho
        · simp at ho
      · simp at ho
    · simp at ho

/-- An operation that makes a block. -/
theorem opR_new (ht : TabOk P tab) (s : Slots n h.length β a e) {o : Oper} {p : Prop} {blk : Blk} {mk : Nat → SV} (ho : opR tab e h o.op = .or (.new p blk mk)) (hp : p) :
    blk.bd h.length ∧ ∃ w' L, Ext w w' ∧ w.heap.size ≤ L.b ∧ BlkOk w' β L blk ∧ (mk h.length).bd (h.length + 1) ∧ (execOp a.eval o).run P w = .ok (.value (den (bput β h.length L) (mk h.length))) w' := by
  obtain ⟨dst, op, ty, pos, after, guard⟩ := o
  simp only at ho
  cases op <;> simp only [opR, OR2.or.injEq] at ho <;> (try (cases ho; done))
  case pick c x y => split at ho <;> simp at ho
  case alloc t =>
    obtain ⟨h1, w', L, h2, h3, h4, h5, h6⟩ := allocR_ok (P := P) (β := β) (w := w) (n := h.length) ht ho
    exact ⟨h1, w', L, h2, h3, h4, h5, by simp [execOp, h6]⟩
  case box t x =>
    have hx : (ev e x).known = true := kn fun c => by rw [c] at ho; simp [boxR] at ho
    obtain ⟨hb, he⟩ := s.ev hx
    obtain ⟨h1, w', L, h2, h3, h4, h5, h6⟩ := boxR_ok (P := P) (β := β) (w := w) (n := h.length) (t := t) ho hb
    exact ⟨h1, w', L, h2, h3, h4, h5, by simp [execOp, he, h6]⟩
  case build t ps =>
    exfalso; unfold buildR at ho; repeat' (split at ho) <;> first | (cases ho; done) | skip
  case buildSlice t k ps =>
    have hk := buildSR_known ho
    obtain ⟨_, h0⟩ := evP_ok s ps.toList hk
    obtain ⟨h1, w', L, h2, h3, h4, h5, h6⟩ := buildSR_ok (P := P) (β := β) (w := w) (n := h.length) ht ho
    refine ⟨h1, w', L, h2, h3, h4, h5, ?_⟩
    have h2' : ps.map (fun x => (x.1, a.eval x.2)) = ((evP e ps.toList).map fun x => (x.1, den β x.2)).toArray := by simpa using h0
    simp only [execOp]
    rw [show (ps.map fun (x : Nat × Operand) => match x with | (i, x) => (i, a.eval x)) = ps.map (fun x => (x.1, a.eval x.2)) from rfl, h2']
    simp [h6]
  case load t x =>
    exfalso; unfold ldR at ho
    split at ho
    · split at ho
      · split at ho
        · unfold ldAgg at ho; repeat' (split at ho) <;> first | (cases ho; done) | skip
        · unfold ldOne at ho; repeat' (split at ho) <;> first | (cases ho; done) | skip
      · cases ho
    · cases ho
  case store t x y =>
    exfalso; unfold stR at ho
    split at ho
    · split at ho
      · split at ho
        · unfold stAgg at ho; repeat' (split at ho) <;> first | (cases ho; done) | skip
        · split at ho
          · unfold stOne at ho; repeat' (split at ho) <;> first | (cases ho; done) | skip
          · cases ho
      · cases ho
    · cases ho
  case nilCheck x => unfold nilR at ho; split at ho <;> cases ho
  case binOp op xt x y yt =>
    exfalso; unfold binR at ho
    split at ho
    · split at ho
      · unfold binFV at ho
        split at ho
        · split at ho
          · split at ho
            · cases ho
            · cases ho
            · split at ho
              · unfold binI at ho; split at ho <;> cases ho
              · cases ho
          · cases ho
        · split at ho
          · split at ho
            · split at ho
              · unfold binF at ho; split at ho <;> cases ho
              · cases ho
            · cases ho
          · cases ho
        · split at ho
          · split at ho
            · unfold binB at ho; split at ho <;> cases ho
            · cases ho
          · cases ho
        · split at ho
          · unfold binS at ho; split at ho <;> cases ho
          · cases ho
        · cases ho
      · cases ho
    · split at ho
      · unfold aeqR at ho
        split at ho
        · split at ho
          · unfold aggR at ho; repeat' (split at ho) <;> first | (cases ho; done) | skip
          · cases ho
        · cases ho
      · cases ho
    · split at ho
      · unfold arrEq at ho; repeat' (split at ho) <;> first | (cases ho; done) | skip
      · cases ho
    · split at ho
      · unfold nilEq at ho; repeat' (split at ho) <;> first | (cases ho; done) | skip
      · cases ho
    · cases ho
  case unOp op t x => unfold unR at ho; repeat' (split at ho) <;> first | (cases ho; done) | skip
  case convert sr ds x =>
    unfold cvS at ho
    split at ho
    · cases ho
    unfold cvR at ho
    split at ho
    · cases ho
    · simp only [OR2.or.injEq] at ho
      unfold convR at ho; repeat' (split at ho) <;> first | (cases ho; done) | skip
  case makeFunc fn first caps => repeat' (split at ho) <;> first | (simp at ho; done) | skip
  case makeSlice t x y =>
    have hx : (ev e x).known = true := kn fun c => by rw [c] at ho; simp [makeR] at ho
    have hy : (ev e y).known = true := kn fun c => by
      rw [c] at ho; unfold makeR at ho
      repeat' (split at ho) <;> first | (cases ho; done) | (simp at *; done) | skip
    obtain ⟨_, he⟩ := s.ev hx
    obtain ⟨_, he2⟩ := s.ev hy
    obtain ⟨h1, w', L, h2, h3, h4, h5, h6⟩ := makeR_ok (P := P) (β := β) (w := w) (n := h.length) ht ho hp
    exact ⟨h1, w', L, h2, h3, h4, h5, by simp [execOp, he, he2, h6]⟩
  case fieldAddr t x f => unfold fieldR at ho; repeat' (split at ho) <;> first | (cases ho; done) | skip
  case field t x f =>
    unfold fldR at ho
    repeat' (split at ho) <;> first | (cases ho; done) | skip
    unfold partR at ho
    repeat' (split at ho) <;> first | (cases ho; done) | skip
  case indexAddr t x ix => unfold indexR at ho; repeat' (split at ho) <;> first | (cases ho; done) | skip
  case index t x ix => unfold idxR at ho; repeat' (split at ho) <;> first | (cases ho; done) | skip
  case extract x i => unfold extrR at ho; repeat' (split at ho) <;> first | (cases ho; done) | skip
  case slice t x lo hi mx =>
    exfalso
    have hS : ∀ m, (sliR tab h t (ev e x) (evO e lo) (evO e hi) m).kind = 0 ∨ (sliR tab h t (ev e x) (evO e lo) (evO e hi) m).kind = 6 := fun m => by unfold sliR; (repeat' split) <;> first | (unfold slcR slcN; (repeat' split) <;> simp [OR.kind]; done) | simp [OR.kind]
    rcases (show (sliS tab h t (ev e x) (evO e lo) (evO e hi) (evO e mx)).kind = 0 ∨ (sliS tab h t (ev e x) (evO e lo) (evO e hi) (evO e mx)).kind = 6 from by unfold sliS sliT sliA; (repeat' split) <;> first | exact hS _ | (unfold arrSl; (repeat' split) <;> simp [OR.kind]; done) | simp [OR.kind]) with c | c <;> rw [ho] at c <;> simp [OR.kind] at c
  case call c =>
    exfalso
    split at ho
    · split at ho <;> simp at ho
    · unfold biR at ho
      split at ho
      · split at ho
        · split at ho
          · simp only [OR2.or.injEq] at ho; unfold lenRT at ho; repeat' (split at ho) <;> first | (cases ho; done) | skip
          · simp at ho
        · simp at ho
      · split at ho
        · simp only [OR2.or.injEq] at ho; unfold minR at ho; repeat' (split at ho) <;> first | (cases ho; done) | skip
        · simp at ho
      · split at ho
        · simp only [OR2.or.injEq] at ho; unfold maxR at ho; repeat' (split at ho) <;> first | (cases ho; done) | skip
        · simp at ho
      · repeat' (split at ho) <;> first | (simp at ho; done) | skip
      · simp at ho
    · simp at ho


theorem k_alloc {t : Nat} : (allocR tab t).kind = 1 ∨ (allocR tab t).kind = 6 := by unfold allocR; (repeat' split) <;> simp [OR.kind]
theorem k_box {v : SV} : (boxR v).kind = 1 ∨ (boxR v).kind = 6 := by unfold boxR; (repeat' split) <;> simp [OR.kind]
theorem k_build {t : Nat} {l : List (Nat × SV)} : (buildR tab t l).kind = 0 ∨ (buildR tab t l).kind = 6 := by unfold buildR; (repeat' split) <;> simp [OR.kind]
theorem k_buildS {t k : Nat} {l : List (Nat × SV)} : (buildSR tab t k l).kind = 1 ∨ (buildSR tab t k l).kind = 6 := by unfold buildSR; (repeat' split) <;> simp [OR.kind]
theorem k_ldOne {b : Blk} {i j : Nat} : (ldOne b i j).kind = 0 ∨ (ldOne b i j).kind = 6 := by unfold ldOne; (repeat' split) <;> simp [OR.kind]
theorem k_ldAgg {b : Blk} {i j s : Nat} : (ldAgg b i j s).kind = 0 ∨ (ldAgg b i j s).kind = 6 := by unfold ldAgg; (repeat' split) <;> simp [OR.kind]
theorem k_ld {t : Nat} {x : SV} : (ldR tab h t x).kind = 0 ∨ (ldR tab h t x).kind = 6 := by unfold ldR; (repeat' split) <;> first | exact k_ldOne | exact k_ldAgg | simp [OR.kind]
theorem k_stOne {b : Blk} {l i j : Nat} {v : SV} : (stOne b l i j v).kind = 2 ∨ (stOne b l i j v).kind = 6 := by unfold stOne; (repeat' split) <;> simp [OR.kind]
theorem k_stAgg {b : Blk} {l i j s : Nat} {v : SV} : (stAgg b l i j s v).kind = 2 ∨ (stAgg b l i j s v).kind = 6 := by unfold stAgg; (repeat' split) <;> simp [OR.kind]
theorem k_st {t : Nat} {x v : SV} : (stR tab h t x v).kind = 2 ∨ (stR tab h t x v).kind = 6 := by unfold stR; (repeat' split) <;> first | exact k_stOne | exact k_stAgg | simp [OR.kind]
theorem k_nil {x : SV} : (nilR x).kind = 0 ∨ (nilR x).kind = 6 := by unfold nilR; (repeat' split) <;> simp [OR.kind]
theorem k_binI {op : BinOp} {k : IntKind} {x y : Int} : (binI op k x y).kind = 0 ∨ (binI op k x y).kind = 6 := by unfold binI; split <;> simp [OR.kind]
theorem k_binF {op : BinOp} {x y : Nat} : (binF op x y).kind = 0 ∨ (binF op x y).kind = 6 := by unfold binF; split <;> simp [OR.kind]
theorem k_binB {op : BinOp} {x y : Bool} : (binB op x y).kind = 0 ∨ (binB op x y).kind = 6 := by unfold binB; split <;> simp [OR.kind]
theorem k_binS {op : BinOp} {x y : ByteArray} : (binS op x y).kind = 0 ∨ (binS op x y).kind = 6 := by unfold binS; split <;> simp [OR.kind]
theorem k_binFV {tb : Bool} {op : BinOp} {x y : FV} : (binFV tb op x y).kind = 0 ∨ (binFV tb op x y).kind = 6 := by unfold binFV; (repeat' split) <;> first | exact k_binI | exact k_binF | exact k_binB | exact k_binS | simp [OR.kind]
theorem k_agg {op : BinOp} {q : Option Bool} : (aggR op q).kind = 0 ∨ (aggR op q).kind = 6 := by unfold aggR; (repeat' split) <;> simp [OR.kind]
theorem k_aeq {te : Option Nat} {op : BinOp} {x y : List SV} : (aeqR te op x y).kind = 0 ∨ (aeqR te op x y).kind = 6 := by unfold aeqR; (repeat' split) <;> first | exact k_agg | simp [OR.kind]
theorem k_nilEq {ts : Bool} {np : Prop} {op : BinOp} : (nilEq ts np op).kind = 0 ∨ (nilEq ts np op).kind = 6 := by unfold nilEq; (repeat' split) <;> simp [OR.kind]
theorem k_arrEq {ta : Option Nat} {op : BinOp} {n n' : Nat} {g g' : Nat → FV} : (arrEq ta op n g n' g').kind = 0 ∨ (arrEq ta op n g n' g').kind = 6 := by unfold arrEq; (repeat' split) <;> simp [OR.kind]
theorem k_bin {tb ts : Bool} {te ta : Option Nat} {np : Prop} {op : BinOp} {x y : SV} : (binR tb ts te ta np op x y).kind = 0 ∨ (binR tb ts te ta np op x y).kind = 6 := by unfold binR; (repeat' split) <;> first | exact k_binFV | exact k_aeq | exact k_arrEq | exact k_nilEq | simp [OR.kind]
theorem k_un {op : UnOp} {x : SV} : (unR op x).kind = 0 ∨ (unR op x).kind = 6 := by unfold unR; (repeat' split) <;> simp [OR.kind]
theorem k_conv {s d : Nat} {x : SV} : (convR tab s d x).kind = 0 ∨ (convR tab s d x).kind = 6 := by unfold convR; (repeat' split) <;> simp [OR.kind]
theorem k_make {t : Nat} {x y : SV} : (makeR tab t x y).kind = 1 ∨ (makeR tab t x y).kind = 6 := by unfold makeR; (repeat' split) <;> simp [OR.kind]
theorem k_field {t f : Nat} {x : SV} : (fieldR tab t x f).kind = 0 ∨ (fieldR tab t x f).kind = 6 := by unfold fieldR; (repeat' split) <;> simp [OR.kind]
theorem k_part {g : Bool} {s o : Nat} {x : SV} : (partR g s x o).kind = 0 ∨ (partR g s x o).kind = 6 := by unfold partR; (repeat' split) <;> simp [OR.kind]
theorem k_fld {t f : Nat} {x : SV} : (fldR tab t x f).kind = 0 ∨ (fldR tab t x f).kind = 6 := by unfold fldR; (repeat' split) <;> first | exact k_part | simp [OR.kind]
theorem k_indexA {t : Nat} {x y : SV} : (indexR tab h t x y).kind = 0 ∨ (indexR tab h t x y).kind = 6 := by unfold indexR; (repeat' split) <;> simp [OR.kind]
theorem k_idx {t : Nat} {x y : SV} : (idxR tab t x y).kind = 0 ∨ (idxR tab t x y).kind = 6 := by unfold idxR; (repeat' split) <;> simp [OR.kind]
theorem k_extr {i : Nat} {x : SV} : (extrR x i).kind = 0 ∨ (extrR x i).kind = 6 := by unfold extrR; (repeat' split) <;> simp [OR.kind]
theorem k_slc {t : Nat} {x : SV} {lo hi mx : Option SV} : (slcR tab h t x lo hi mx).kind = 0 ∨ (slcR tab h t x lo hi mx).kind = 6 := by unfold slcR slcN; (repeat' split) <;> simp [OR.kind]
theorem k_sli {t : Nat} {x : SV} {lo hi mx : Option SV} : (sliR tab h t x lo hi mx).kind = 0 ∨ (sliR tab h t x lo hi mx).kind = 6 := by unfold sliR; (repeat' split) <;> first | exact k_slc | simp [OR.kind]
theorem k_arrSl {t : Nat} {x : SV} {lo hi : Option SV} : (arrSl tab h t x lo hi).kind = 0 ∨ (arrSl tab h t x lo hi).kind = 6 := by unfold arrSl; (repeat' split) <;> simp [OR.kind]
theorem k_sliS {t : Nat} {x : SV} {lo hi mx : Option SV} : (sliS tab h t x lo hi mx).kind = 0 ∨ (sliS tab h t x lo hi mx).kind = 6 := by unfold sliS sliT sliA; (repeat' split) <;> first | exact k_sli | exact k_arrSl | simp [OR.kind]
theorem k_len {t : Nat} {x : SV} : (lenRT tab t x).kind = 0 ∨ (lenRT tab t x).kind = 6 := by unfold lenRT; (repeat' split) <;> simp [OR.kind]
theorem k_min {x y : SV} : (minR x y).kind = 0 ∨ (minR x y).kind = 6 := by unfold minR; (repeat' split) <;> simp [OR.kind]
theorem k_max {x y : SV} : (maxR x y).kind = 0 ∨ (maxR x y).kind = 6 := by unfold maxR; (repeat' split) <;> simp [OR.kind]
theorem kbad {A : OR} {i k : Nat} {B : OR} (hk : A.kind = i ∨ A.kind = 6) (ho : A = B) (hB : B.kind = k) (h1 : k ≠ i) (h2 : k ≠ 6) : False := by
  subst ho; rcases hk with c | c <;> omega
theorem kbad0 {A : OR} {f : FuncId} {l : List SV} (hk : A.kind = 0 ∨ A.kind = 6) (ho : A = .call f l) : False := by
  subst ho; rcases hk with c | c <;> simp [OR.kind] at c
theorem opR_kind {o : Op} {A : OR} (ho : opR tab e h o = .or A) : A.kind ≤ 1 ∨ A.kind = 6 ∨ (A.kind = 2 ∧ ∃ t x y, o = .store t x y) ∨ (A.kind = 4 ∧ ∃ c x y, o = .pick c x y) ∨ (A.kind = 3 ∧ ∃ c, o = .call c) := by
  have go : ∀ {B : OR} {i : Nat}, (B.kind = i ∨ B.kind = 6) → i ≤ 1 → B = A → A.kind ≤ 1 ∨ A.kind = 6 := fun hk hi he => by subst he; rcases hk with c | c <;> omega
  have go2 : A.kind ≤ 1 ∨ A.kind = 6 → A.kind ≤ 1 ∨ A.kind = 6 ∨ (A.kind = 2 ∧ ∃ t x y, o = .store t x y) ∨ (A.kind = 4 ∧ ∃ c x y, o = .pick c x y) ∨ (A.kind = 3 ∧ ∃ c, o = .call c) := fun hk => hk.imp id .inl
  cases o <;> simp only [opR, OR2.or.injEq] at ho
  case move x => exact go2 (go (i := 0) (.inl rfl) (by omega) ho)
  case assign x => exact go2 (go (i := 0) (.inl rfl) (by omega) ho)
  case pick c x y =>
    split at ho
    · simp only [OR2.or.injEq] at ho; subst ho; exact .inr (.inr (.inr (.inl ⟨rfl, _, _, _, rfl⟩)))
    · simp only [OR2.or.injEq] at ho; subst ho; exact .inr (.inl rfl)
  case alloc t => exact go2 (go k_alloc (by omega) ho)
  case box t x => exact go2 (go k_box (by omega) ho)
  case build t ps => exact go2 (go k_build (by omega) ho)
  case buildSlice t k ps => exact go2 (go k_buildS (by omega) ho)
  case load t x => exact go2 (go k_ld (by omega) ho)
  case store t x y =>
    rcases k_st (tab := tab) (h := h) (t := t) (x := ev e x) (v := ev e y) with c | c
    · rw [ho] at c; exact .inr (.inr (.inl ⟨c, _, _, _, rfl⟩))
    · rw [ho] at c; exact .inr (.inl c)
  case nilCheck x => exact go2 (go k_nil (by omega) ho)
  case binOp op xt x y yt => exact go2 (go k_bin (by omega) ho)
  case unOp op t x => exact go2 (go k_un (by omega) ho)
  case convert s d x =>
    unfold cvS at ho
    split at ho
    · simp only [OR2.or.injEq] at ho; subst ho; exact .inl (by simp [OR.kind])
    unfold cvR at ho
    split at ho
    · cases ho
    · simp only [OR2.or.injEq] at ho; exact go2 (go k_conv (by omega) ho)
  case makeFunc fn first caps =>
    split at ho
    · split at ho
      · simp only [OR2.or.injEq] at ho; subst ho; exact .inl (by simp [OR.kind])
      · simp only [OR2.or.injEq] at ho; subst ho; exact .inr (.inl rfl)
    · simp only [OR2.or.injEq] at ho; subst ho; exact .inr (.inl rfl)
  case makeSlice t x y => exact go2 (go k_make (by omega) ho)
  case fieldAddr t x f => exact go2 (go k_field (by omega) ho)
  case field t x f => exact go2 (go k_fld (by omega) ho)
  case indexAddr t x y => exact go2 (go k_indexA (by omega) ho)
  case index t x y => exact go2 (go k_idx (by omega) ho)
  case extract x i => exact go2 (go k_extr (by omega) ho)
  case slice t x lo hi mx => exact go2 (go k_sliS (by omega) ho)
  case call c =>
    split at ho
    · split at ho
      · simp only [OR2.or.injEq] at ho; subst ho; exact .inr (.inr (.inr (.inr ⟨rfl, _, rfl⟩)))
      · simp only [OR2.or.injEq] at ho; subst ho; exact .inr (.inl rfl)
    · unfold biR at ho
      split at ho
      · split at ho
        · split at ho
          · simp only [OR2.or.injEq] at ho; exact go2 (go k_len (by omega) ho)
          · simp only [OR2.or.injEq] at ho; subst ho; exact .inr (.inl rfl)
        · simp only [OR2.or.injEq] at ho; subst ho; exact .inr (.inl rfl)
      · split at ho
        · simp only [OR2.or.injEq] at ho; exact go2 (go k_min (by omega) ho)
        · simp only [OR2.or.injEq] at ho; subst ho; exact .inr (.inl rfl)
      · split at ho
        · simp only [OR2.or.injEq] at ho; exact go2 (go k_max (by omega) ho)
        · simp only [OR2.or.injEq] at ho; subst ho; exact .inr (.inl rfl)
      · (repeat' (split at ho)) <;> first | (simp at ho; done) | (simp only [OR2.or.injEq] at ho; subst ho; exact .inr (.inl rfl))
      · simp only [OR2.or.injEq] at ho; subst ho; exact .inr (.inl rfl)
    · simp only [OR2.or.injEq] at ho; subst ho; exact .inr (.inl rfl)
  all_goals (subst ho; exact .inr (.inl rfl))

theorem opR_wid (ht : TabOk P tab) (s : Slots n h.length β a e) {o : Oper} {b : Nat} (ho : opR tab e h o.op = .wid b) :
    ∀ w' v w'', (Conv.floatToFloat .f32 b .f64).run P w' = .ok v w'' → (execOp a.eval o).run P w' = .ok (.value v) w'' := by
  obtain ⟨dst, op, ty, pos, after, guard⟩ := o
  simp only at ho
  cases op <;> simp only [opR] at ho <;> (try (cases ho; done))
  case convert sr ds x =>
    unfold cvS at ho
    split at ho
    · cases ho
    unfold cvR at ho
    split at ho
    · rename_i b' hw
      cases ho
      unfold widR at hw
      split at hw
      · cases hw
      · rename_i i1 hs
        obtain ⟨dd1, _, us, _⟩ := ht _ _ hs
        split at hw
        · cases hw
        · rename_i i hd
          obtain ⟨dd, _, ud, kd, _⟩ := ht _ _ hd
          split at hw
          · rename_i hk
            rw [hk] at kd; simp only [TK.ok] at kd; subst kd
            split at hw
            · rename_i b2 hx
              cases hw
              have he := (s.ev (x := x) (by rw [hx]; rfl)).2
              rw [hx] at he
              intro w' v w'' hr
              cases dd1 <;> simp [execOp, he, convert, run_underlying us, run_underlying ud, den, FV.val, hr]
            · cases hw
          · cases hw
    · cases ho
  all_goals (repeat' (split at ho)) <;> first | (cases ho; done) | (unfold biR at ho; (repeat' (split at ho)) <;> cases ho)
theorem opR_pick (s : Slots n h.length β a e) {o : Oper} {c : Bool} {x y : SV} (ho : opR tab e h o.op = .or (.pick c x y)) :
    ∃ u, (∀ w', (execOp a.eval o).run P w' = .ok (.value u) w') ∧ ((if c then x else y).known = true → (if c then x else y).bd h.length ∧ u = den β (if c then x else y)) := by
  obtain ⟨dst, op, ty, pos, after, guard⟩ := o
  obtain ⟨cc, x', y', rfl⟩ : ∃ c x y, op = .pick c x y := by
    rcases opR_kind ho with k | k | ⟨k, _⟩ | ⟨_, k⟩ | ⟨k, _⟩ <;> first | exact k | (simp [OR.kind] at k; done)
  simp only [opR] at ho
  split at ho
  · rename_i t hc
    simp only [OR2.or.injEq, OR.pick.injEq] at ho
    obtain ⟨rfl, rfl, rfl⟩ := ho
    obtain ⟨_, he⟩ := s.ev (x := cc) (by rw [hc]; rfl)
    rw [hc] at he
    cases t
    · exact ⟨a.eval y', fun w' => by simp [execOp, he, den, FV.val, asBool], fun hk => s.ev hk⟩
    · exact ⟨a.eval x', fun w' => by simp [execOp, he, den, FV.val, asBool], fun hk => s.ev hk⟩
  · simp at ho
theorem opR_upd (ht : TabOk P tab) (H : Holds w β h) (s : Slots n h.length β a e) {o : Oper} {p : Prop} {l : Nat} {blk : Blk} (ho : opR tab e h o.op = .or (.upd p l blk)) (hp : p) :
    (hget h l).own = true ∧ blk.own = true ∧ blk.bd h.length ∧ ∃ q vs, BlkOk (w.setCells (β l).b q vs) β (β l) blk ∧ (execOp a.eval o).run P w = .ok .skip (w.setCells (β l).b q vs) := by
  obtain ⟨dst, op, ty, pos, after, guard⟩ := o
  obtain ⟨t, x, y, rfl⟩ : ∃ t x y, op = .store t x y := by
    rcases opR_kind ho with k | k | ⟨_, k⟩ | ⟨k, _⟩ | ⟨k, _⟩ <;> first | exact k | (simp [OR.kind] at k; done)
  simp only [opR, OR2.or.injEq] at ho
  have hx : (ev e x).known = true := kn fun c => by rw [c] at ho; simp [stR] at ho
  have hy : (ev e y).known = true := kn fun c => by
    rw [c] at ho; unfold stR at ho
    split at ho
    · split at ho
      · split at ho
        · unfold stAgg at ho; (repeat' (split at ho)) <;> first | (cases ho; done) | (simp at *; done)
        · split at ho
          · unfold stOne at ho; (repeat' (split at ho)) <;> first | (cases ho; done) | (simp [SV.one] at *; done)
          · cases ho
      · cases ho
    · cases ho
  obtain ⟨_, he⟩ := s.ev hx
  obtain ⟨hb, he2⟩ := s.ev hy
  obtain ⟨h1, h2, h3, q, vs, h4, h5⟩ := stR_ok ht H ho hp hb
  exact ⟨h1, h2, h3, q, vs, h4, by simp [execOp, he, he2, h5]⟩
theorem opR_callF (s : Slots n h.length β a e) {o : Oper} {f : FuncId} {args : List SV} (ho : opR tab e h o.op = .or (.call f args)) (hk : knownL args = true) :
    bdL h.length args ∧ ∀ w', (execOp a.eval o).run P w' = (callFunc f (denL β args).toArray).run P w' := by
  obtain ⟨dst, op, ty, pos, after, guard⟩ := o
  obtain ⟨c, rfl⟩ : ∃ c, op = .call c := by
    rcases opR_kind ho with k | k | ⟨k, _⟩ | ⟨k, _⟩ | ⟨_, k⟩ <;> first | exact k | (simp [OR.kind] at k; done)
  obtain ⟨callee, as', ats⟩ := c
  simp only [opR] at ho
  split at ho
  · rename_i fx
    split at ho
    · rename_i g first caps hf
      simp only [OR2.or.injEq, OR.call.injEq] at ho
      obtain ⟨rfl, rfl⟩ := ho
      obtain ⟨hb, he⟩ := s.ev (x := fx) (by rw [hf]; rfl)
      rw [hf] at hb he
      have hk2 : knownL (evL e as'.toList) = true := by
        rw [knownL_iff] at hk ⊢
        exact fun v hv => hk v (by simp [hv])
      obtain ⟨h1, h2⟩ := evL_ok s as'.toList hk2
      refine ⟨(bdL_iff _ _).2 fun v hv => ?_, fun w' => ?_⟩
      · simp only [List.mem_append] at hv
        rcases hv with c | c | c
        · exact (bdL_iff _ _).1 hb.1 v c
        · exact (bdL_iff _ _).1 h1 v c
        · exact (bdL_iff _ _).1 hb.2 v c
      · have ha : as'.map a.eval = (denL β (evL e as'.toList)).toArray := by apply Array.ext'; rw [← h2]; simp
        have hx : (denL β (first ++ (evL e as'.toList ++ caps))).toArray = (denL β first).toArray ++ (denL β (evL e as'.toList)).toArray ++ (denL β caps).toArray := by
          apply Array.ext'; simp [denL_append]
        rw [hx]
        simp [execOp, resolve, he, ha, den, Deferred.ofValue, invoke]
    · simp at ho
  · unfold biR at ho
    (repeat' (split at ho)) <;> first | (simp at ho; done) | (simp only [OR2.or.injEq] at ho; exfalso; first | exact kbad0 k_len ho | exact kbad0 k_min ho | exact kbad0 k_max ho)
  · simp at ho
theorem opR_call (s : Slots n h.length β a e) {o : Oper} {f : FuncId} {args : List SV} (ho : opR tab e h o.op = .or (.call f args)) (hk : knownL args = true) (hE : ∀ (xs : Array Value) (w : World), (callFunc f xs).run P w = .ok (.enter f xs) w) :
    bdL h.length args ∧ ∀ w', (execOp a.eval o).run P w' = .ok (.enter f (denL β args).toArray) w' :=
  ⟨(opR_callF (P := P) s ho hk).1, fun w' => by rw [(opR_callF (P := P) s ho hk).2 w', hE]⟩
theorem opR_app (s : Slots n h.length β a e) {o : Oper} {t : Nat} {x y : SV} (ho : opR tab e h o.op = .app t x y) (hx : x.known = true) (hy : y.known = true) :
    ∃ ty, x.bd h.length ∧ ∀ w', (execOp a.eval o).run P w' = ((Builtin.append_ #[t, t] ty #[den β x, den β y]).run P w').andThen fun v w'' => .ok (.value v) w'' := by
  obtain ⟨dst, op, ty, pos, after, guard⟩ := o
  cases op <;> simp only [opR, cvS, cvR] at ho <;> (try (cases ho; done)) <;> (try ((repeat' (split at ho)) <;> (cases ho; done)))
  rename_i c
  obtain ⟨callee, as', ats⟩ := c
  simp only at ho
  split at ho
  · split at ho <;> cases ho
  · unfold biR at ho
    split at ho
    · (repeat' (split at ho)) <;> (cases ho; done)
    · (repeat' (split at ho)) <;> (cases ho; done)
    · (repeat' (split at ho)) <;> (cases ho; done)
    · split at ho
      · rename_i t1 t2 hts
        split at ho
        · rename_i htt
          split at ho
          · rename_i x1 y1 hxs
            simp only [OR2.app.injEq] at ho
            obtain ⟨rfl, rfl, rfl⟩ := ho
            subst htt
            obtain ⟨x', y', hy'⟩ : ∃ x' y', as'.toList = [x', y'] := by
              cases hq : as'.toList with
              | nil => rw [hq] at hxs; simp [evL] at hxs
              | cons u r => cases r with
                | nil => rw [hq] at hxs; simp [evL] at hxs
                | cons z r => cases r with
                  | nil => exact ⟨u, z, rfl⟩
                  | cons z2 r => rw [hq] at hxs; simp [evL] at hxs
            obtain ⟨hx1, hy1⟩ : x1 = ev e x' ∧ y1 = ev e y' := by rw [hy'] at hxs; simp [evL] at hxs; exact ⟨hxs.1.symm, hxs.2.symm⟩
            obtain ⟨hb, he⟩ := s.ev (x := x') (by rw [← hx1]; exact hx)
            obtain ⟨_, he2⟩ := s.ev (x := y') (by rw [← hy1]; exact hy)
            have ha : as'.map a.eval = #[den β x1, den β y1] := by apply Array.ext'; simp [hy', he, hx1, he2, hy1]
            have hat : ats = #[t1, t1] := by apply Array.ext'; simpa using hts
            refine ⟨ty, by rw [hx1]; exact hb, fun w' => ?_⟩
            simp [execOp, resolve, ha, invoke, builtin, hat]
          · cases ho
        · cases ho
      · cases ho
    · cases ho
  · cases ho
end
end Go.Proofs.YtjhddlkfkicpaaaGreatDoor.Vx

namespace Go.Proofs.YtjhddlkfkicpaaaGreatDoor.Vx
open Go Go.RowKit Fl
set_option linter.unusedVariables false
set_option linter.unusedSimpArgs false

section
variable (P : Program)
def OpW (o : Oper) (K : Act → World → Prop) (a : Act) (w : World) : Prop :=
  (∃ v w', (execOp a.eval o).run P w = .ok (.value v) w' ∧ K (a.put o.dst v) w') ∨
  (∃ w', (execOp a.eval o).run P w = .ok .skip w' ∧ K (a.put o.dst undef) w') ∨
  (∃ f args w1, (execOp a.eval o).run P w = .ok (.enter f args) w1 ∧ Calls P f args w1 fun e w' => ∃ v, e = .returned v ∧ K (a.put o.dst v) w')
theorem OpW.wp {o : Oper} {K : Act → World → Prop} {a : Act} {w : World} {Q : Exit → Act → World → Prop} (h : OpW P o K a w) : o.wp P a w K Q := by
  unfold Oper.wp
  rcases h with ⟨v, w', hr, hk⟩ | ⟨w', hr, hk⟩ | ⟨f, args, w1, hr, hc⟩
  · rw [hr]; exact hk
  · rw [hr]; exact hk
  · rw [hr]; simp only [Oper.upon]
    refine Calls.mono hc fun e w' ⟨v, he, hk⟩ => ?_
    subst he; exact hk
def KOp (md : Nat) (o : Oper) (K : Act → World → Prop) (a : Act) (w : World) : Prop :=
  match md with
  | 0 => OpW P o K a w
  | 1 => ∃ v, (∀ w', Ext w w' → (execOp a.eval o).run P w' = .ok (.value v) w') ∧ K (a.put o.dst v) w
  | 2 => ∃ f args v, (∀ w', (execOp a.eval o).run P w' = .ok (.enter f args) w') ∧ (∀ w', Ext w w' → Calls P f args w' fun e w'' => e = .returned v ∧ Ext w' w'') ∧ K (a.put o.dst v) w
  | _ => ∀ w', Ext w w' → OpW P o (fun a' w'' => Ext w' w'' ∧ K a' w'') a w'
def KG (md : Nat) (all : List Oper) (o : Oper) (K : Act → World → Prop) (a : Act) (w : World) : Prop :=
  (Region.wanted o (yielded all.toArray a.tmps) = true ∧ KOp P md o K a w) ∨ (Region.wanted o (yielded all.toArray a.tmps) = false ∧ K (a.put o.dst undef) w)

variable (S : (Env → List Blk → Prop) → Act → World → Prop) (Fin : Act → World → Prop)
def kont : List Item → Exit → Act → World → Prop
  | [], ex, a, w => (match ex with
    | .normal => Fin a w
    | .ret => Fin a w
    | _ => False)
  | .code c :: r, ex, a, w => (match ex with
    | .normal => c.wp P (kont r) a w
    | ex => kont r ex a w)
  | .ops all rest :: r, ex, a, w => (match ex with
    | .normal => wpList P all.toArray (kont r) rest a w
    | ex => kont r ex a w)
  | .drw all si tail ls :: r, ex, a, w => (match ex with
    | .normal => Region.noSelect all.toArray = true → sOkB all.toArray tail si ls = true → wpE2 P .any all.toArray (kont r) tail si.length ls a w
    | ex => kont r ex a w)
  | .g md all o :: r, ex, a, w => (match ex with
    | .normal => KG P md all o (kont r .normal) a w
    | ex => kont r ex a w)
  | .op md o :: r, ex, a, w => (match ex with
    | .normal => KOp P md o (kont r .normal) a w
    | ex => kont r ex a w)
  | .skp d :: r, ex, a, w => (match ex with
    | .normal => kont r .normal (a.put d undef) w
    | ex => kont r ex a w)
  | .blk id :: r, ex, a, w => Exit.inBlock id (kont r) ex a w
  | .inv J :: r, ex, a, w => (match ex with
    | .normal => S J a w
    | ex => kont r ex a w)

theorem kont_panic (c : List PanicEntry) (a : Act) (w : World) : ∀ its, ¬ kont P S Fin its (.panic c) a w
  | [] => id
  | it :: r => by cases it <;> exact kont_panic c a w r
theorem kont_ret {a : Act} {w : World} : ∀ its, Fin a w → kont P S Fin its .ret a w
  | [], h => h
  | it :: r, h => by cases it <;> exact kont_ret r h
theorem kont_exit {id : Nat} {a : Act} {w : World} : ∀ its, hasBlk id its = true → kont P S Fin (dropTo id its) .normal a w → kont P S Fin its (.exit id) a w
  | [], h, _ => by cases h
  | it :: r, h, hk => by
    cases it with
    | blk j =>
      simp only [hasBlk] at h
      simp only [dropTo] at hk
      by_cases e : j = id
      · rw [if_pos e] at hk; subst e
        simp only [kont, Exit.inBlock, if_true]; exact hk
      · rw [if_neg e] at hk h
        have : ¬ id = j := fun c => e c.symm
        simp only [kont, Exit.inBlock, if_neg this]; exact kont_exit r h hk
    | _ => exact kont_exit r h hk
end
end Go.Proofs.YtjhddlkfkicpaaaGreatDoor.Vx

namespace Go.Proofs.YtjhddlkfkicpaaaGreatDoor.Vx
open Go Go.RowKit Fl
set_option linter.unusedVariables false
set_option linter.unusedSimpArgs false

section
variable {P : Program} {w : World} {β : Nat → Loc} {h : List Blk}
theorem roB_own {b : Blk} : (roB b).own = false := by cases b <;> rfl
theorem roB_live {b : Blk} : (roB b).live → b.live := by
  cases b with
  | rows n cap c f own => exact fun h => h.elim (fun c => by cases c) .inr
  | lit _ _ => exact id
  | cells _ _ _ => exact id
  | dead => exact id
theorem roL_get : ∀ (h : List Blk) (l : Nat), hget (roL h) l = roB (hget h l)
  | [], _ => rfl
  | _ :: _, 0 => rfl
  | _ :: h, l + 1 => by simp only [roL, hget]; exact roL_get h l
theorem roL_length : ∀ h : List Blk, (roL h).length = h.length
  | [] => rfl
  | _ :: h => by simp [roL, roL_length h]
theorem Holds.ro (H : Holds w β h) : Holds w β (roL h) := by
  refine ⟨fun l => ?_, fun l m hl hm hne ho => ?_, fun l => ?_, H.gl, fun l ho => by rw [roL_get, roB_own] at ho; cases ho⟩
  · rw [roL_get]
    have := H.ok l
    generalize hget h l = b at *
    refine ⟨fun hl => this.there (roB_live hl), ?_, fun i j v hv hk => ?_, fun ho => by rw [roB_own] at ho; cases ho⟩
    · have hf := this.fit
      cases b with
      | rows n cap c f own => exact ⟨⟨hf.1.1, fun q => ⟨rfl, (hf.1.2 q).2⟩⟩, hf.2⟩
      | lit _ _ => exact hf
      | cells _ _ _ => exact hf
      | dead => exact hf
    · exact this.cell i j v (by cases b <;> exact hv) hk
  · rw [roL_get, roL_get, roB_own, roB_own] at ho
    rcases ho with c | c <;> cases c
  · rw [roL_get, roL_length]
    have := H.bd l
    generalize hget h l = b at *
    cases b <;> exact this
theorem dropB_get : ∀ (r : List Nat) (hh : List Blk) (k : Nat), r.length ≤ hh.length → hget (dropB r hh) k = hget hh (k + r.length)
  | [], _, _, _ => rfl
  | _ :: r, [], _, hl => by simp at hl
  | _ :: r, _ :: hh, k, hl => by
    simp only [List.length_cons] at hl
    simp only [dropB, List.length_cons]
    rw [dropB_get r hh k (by omega), show k + (r.length + 1) = (k + r.length) + 1 from by omega]; rfl
theorem dropB_length : ∀ (r : List Nat) (hh : List Blk), (dropB r hh).length = hh.length - r.length
  | [], hh => by simp [dropB]
  | _ :: r, [] => by simp [dropB]
  | _ :: r, _ :: hh => by simp [dropB, dropB_length r hh]

/-- Places behind a call: the caller's own, then the callee's new ones. -/
def bnew (β β'' : Nat → Loc) (N k : Nat) : Nat → Loc := fun l => if l < N then β l else β'' (l - N + k)
theorem bnew_lt {β β'' : Nat → Loc} {N k l : Nat} (c : l < N) : bnew β β'' N k l = β l := by simp [bnew, c]
theorem bnew_ge {β β'' : Nat → Loc} {N k l : Nat} (c : N ≤ l) : bnew β β'' N k l = β'' (l - N + k) := by unfold bnew; rw [if_neg (by omega)]
theorem bnew_unl {β β'' : Nat → Loc} {r : List Nat} {N : Nat} (hr : ∀ l ∈ r, l < N) (hs : ∀ i, i < r.length → β'' i = β (lget r i)) (l : Nat) : bnew β β'' N r.length (unl r N l) = β'' l := by
  unfold unl
  by_cases c : l < r.length
  · rw [if_pos c, bnew_lt (hr _ (lget_mem c)), hs l c]
  · rw [if_neg c, bnew_ge (by omega)]; congr 1; omega
theorem unl_lt {r : List Nat} {N m l : Nat} (hr : ∀ l ∈ r, l < N) (hl : l < m) (hm : r.length ≤ m) : unl r N l < N + (m - r.length) := by
  unfold unl
  by_cases c : l < r.length
  · rw [if_pos c]; have := hr _ (lget_mem c); omega
  · rw [if_neg c]; omega

section
variable {w0 : World} {β0 : Nat → Loc} {h0 : List Blk}
/-- What a call leaves behind. -/
structure After (w0 : World) (β0 : Nat → Loc) (h0 : List Blk) (w : World) (β : Nat → Loc) (h : List Blk) (w' : World) (β' : Nat → Loc) (h' : List Blk) : Prop where
  holds : Holds w' β' h'
  since : Since w0 β0 h0 w' β' h'
  same : ∀ l, l < h.length → β l = β' l
  len : h.length ≤ h'.length

theorem callR_ok (H : Holds w β h) (s : Since w0 β0 h0 w β h) {f : FuncId} {args : List SV} {r : List Nat} (hr : locOk r h = true) (hl : linL r args = true) (hlt : ∀ l ∈ r, l < h.length)
    {Q : SV → List Blk → Prop} (c : CV P f (renL (idx r) args) (roL (locH r h r)) Q) :
    Calls P f (denL β args).toArray w fun e w' => ∃ v hh β', e = .returned (den β' (v.ren (unl r h.length))) ∧ Ext w w' ∧ Q v hh ∧ (v.ren (unl r h.length)).bd (h ++ newB (unl r h.length) (dropB r hh)).length ∧ After w0 β0 h0 w β h w' β' (h ++ newB (unl r h.length) (dropB r hh)) := by
  have Hl := (H.loc hr).ro
  have hc := c.calls w _ Hl
  rw [denL_lin hl] at hc
  refine Calls.mono hc ?_
  rintro e w' ⟨v, hh, β'', rfl, q, H2, s2, hvb⟩
  have hN : (roL (locH r h r)).length = r.length := by rw [roL_length, locH_length]
  have hlen := s2.len
  rw [hN] at hlen
  have hno : ∀ l, ¬ (hget (roL (locH r h r)) l).own = true := fun l c => by rw [roL_get, roB_own] at c; cases c
  have x : Ext w w' := ⟨s2.os, s2.tape, s2.output, s2.size, fun b hb => s2.frame b hb fun l hl => absurd hl (hno l)⟩
  have hsame : ∀ i, i < r.length → β'' i = β (lget r i) := fun i hi => s2.same i (by omega)
  have hb1 : ∀ l, l < h.length → β l = bnew β β'' h.length r.length l := fun l hl => (bnew_lt hl).symm
  have hfresh : ∀ i, r.length ≤ i → (hget hh i).live → w.heap.size ≤ (β'' i).b := fun i hi hv => by
    rcases s2.fresh i (by omega) hv with c | ⟨l0, o0, _⟩
    · exact c
    · exact absurd o0 (hno l0)
  have hget' : ∀ m, hget (h ++ newB (unl r h.length) (dropB r hh)) m = if m < h.length then hget h m else (hget hh (m - h.length + r.length)).ren (unl r h.length) := fun m => by
    rw [hget_app, newB_get, dropB_get _ _ _ hlen]
  have hL : (h ++ newB (unl r h.length) (dropB r hh)).length = h.length + (hh.length - r.length) := by rw [List.length_append, newB_length, dropB_length]
  refine ⟨v, hh, bnew β β'' h.length r.length, ?_, x, q, ?_, ?_⟩
  · rw [den_ren]
    congr 1
    exact (den_congr (fun l _ => (bnew_unl hlt hsame l).symm) v hvb)
  · rw [hL]; exact SV.bd_ren (fun l hl => unl_lt hlt hl hlen) v hvb
  · refine ⟨⟨fun m => ?_, fun m k hm hk hne ho => ?_, fun m => ?_, H2.gl, fun m ho => ?_⟩, ?_, hb1, by rw [hL]; omega⟩
    · rw [hget']
      by_cases c1 : m < h.length
      · rw [if_pos c1, bnew_lt c1]; exact ((H.ok m).ext x).congr (H.bd m) hb1
      · rw [if_neg c1, bnew_ge (by omega)]
        refine (H2.ok _).ren fun i j u hu => ?_
        rw [den_ren]
        exact den_congr (fun l _ => bnew_unl hlt hsame l) u (Blk.bd_cell (H2.bd _) hu)
    · rw [hget'] at hm hk ho
      rw [hget'] at ho
      by_cases c1 : m < h.length
      · rw [if_pos c1] at hm ho
        by_cases c2 : k < h.length
        · rw [if_pos c2] at hk ho
          rw [bnew_lt c1, bnew_lt c2]; exact H.inj m k hm hk hne ho
        · rw [if_neg c2, Blk.ren_live] at hk
          rw [bnew_lt c1, bnew_ge (by omega)]
          have := hfresh _ (by omega) hk
          have := (H.ok m).there hm
          omega
      · rw [if_neg c1, Blk.ren_live] at hm
        by_cases c2 : k < h.length
        · rw [if_pos c2] at hk
          rw [bnew_ge (by omega), bnew_lt c2]
          have := hfresh _ (by omega) hm
          have := (H.ok k).there hk
          omega
        · rw [if_neg c2, Blk.ren_live] at hk
          rw [if_neg c1, if_neg c2, Blk.ren_own, Blk.ren_own] at ho
          rw [bnew_ge (by omega), bnew_ge (by omega)]
          exact H2.inj _ _ hm hk (by omega) ho
    · rw [hget', hL]
      by_cases c1 : m < h.length
      · rw [if_pos c1]; exact Blk.bd_mono (by omega) (H.bd m)
      · rw [if_neg c1]
        have := H2.bd (m - h.length + r.length)
        generalize hget hh (m - h.length + r.length) = b at *
        cases b <;> first | trivial | exact bdL_ren (fun l hl => unl_lt hlt hl hlen) _ this
    · rw [hget'] at ho
      by_cases c1 : m < h.length
      · rw [if_pos c1] at ho; rw [bnew_lt c1]; exact H.go m ho
      · rw [if_neg c1, Blk.ren_own] at ho; rw [bnew_ge (by omega)]; exact H2.go _ ho
    · have s' := s.ext x
      have hle := s.len
      refine ⟨s'.os, s'.tape, s'.output, s'.size, by rw [hL]; omega, fun l hl => by rw [bnew_lt (by omega)]; exact s.same l hl, s'.frame, fun l hl hv => ?_, fun l hl hv => ?_, fun l hl hv => ?_⟩
      · rw [hget', if_pos (by omega)] at hv; exact s.liv l hl hv
      · rw [hget', if_pos (by omega)] at hv; exact s.ownk l hl hv
      · rw [hget'] at hv
        by_cases c1 : l < h.length
        · rw [if_pos c1] at hv; rw [bnew_lt c1]; exact s.fresh l hl hv
        · rw [if_neg c1, Blk.ren_live] at hv
          rw [bnew_ge (by omega)]
          have := hfresh _ (by omega) hv
          left; have := s.size; omega

theorem callG_ok (H : Holds w β h) (s : Since w0 β0 h0 w β h) {f : FuncId} {args : List SV} {r : List Nat} (hr : locOk r h = true) (hl : linL r args = true) (hlt : ∀ l ∈ r, l < h.length)
    {Q : SV → List Blk → Prop} (c : CV P f (renL (idx r) args) (locH r h r) Q) :
    Calls P f (denL β args).toArray w fun e w' => ∃ v hh β', e = .returned (den β' (v.ren (unl r h.length))) ∧ Q v hh ∧ (v.ren (unl r h.length)).bd (mrg (unl r h.length) r h hh).length ∧ After w0 β0 h0 w β h w' β' (mrg (unl r h.length) r h hh) ∧
      (w.heap.size ≤ w'.heap.size ∧ ∀ b, b < w.heap.size → (∀ l ∈ r, (hget h l).own = true → (β l).b ≠ b) → w'.heap[b]? = w.heap[b]?) := by
  have Hl := H.loc hr
  have hc := c.calls w _ Hl
  rw [denL_lin hl] at hc
  refine Calls.mono hc ?_
  rintro e w' ⟨v, hh, β'', rfl, q, H2, s2, hvb⟩
  have hdis : distinct r = true := by simp only [locOk, Bool.and_eq_true] at hr; exact hr.1
  have hN : (locH r h r).length = r.length := locH_length r h r
  have hlen := s2.len
  rw [hN] at hlen
  have hsame : ∀ i, i < r.length → β'' i = β (lget r i) := fun i hi => s2.same i (by omega)
  have hb1 : ∀ l, l < h.length → β l = bnew β β'' h.length r.length l := fun l hl => (bnew_lt hl).symm
  have hownl : ∀ i, (hget (locH r h r) i).own = true → i < r.length ∧ (hget h (lget r i)).own = true := fun i hi => by
    have c := hget_lt (Blk.own_live hi)
    rw [hN] at c
    rw [locH_get r h r i c, Blk.ren_own] at hi
    exact ⟨c, hi⟩
  have hL : (mrg (unl r h.length) r h hh).length = h.length + (hh.length - r.length) := mrg_length _ _ _ _ hlen
  -- which block lies at m
  have hcase : ∀ m, (∃ i, i < r.length ∧ m = lget r i ∧ m < h.length ∧ hget (mrg (unl r h.length) r h hh) m = (hget hh i).ren (unl r h.length) ∧ bnew β β'' h.length r.length m = β'' i) ∨
      (m < h.length ∧ m ∉ r ∧ hget (mrg (unl r h.length) r h hh) m = hget h m ∧ bnew β β'' h.length r.length m = β m) ∨
      (h.length ≤ m ∧ hget (mrg (unl r h.length) r h hh) m = (hget hh (m - h.length + r.length)).ren (unl r h.length) ∧ bnew β β'' h.length r.length m = β'' (m - h.length + r.length)) := fun m => by
    by_cases c1 : m < h.length
    · by_cases c2 : m ∈ r
      · obtain ⟨i1, i2⟩ := idx_ok r m c2
        refine .inl ⟨idx r m, i1, i2.symm, c1, ?_, ?_⟩
        · have := mrg_at (unl r h.length) r h hh (idx r m) hlen hdis hlt i1
          rwa [i2] at this
        · rw [bnew_lt c1, hsame _ i1, i2]
      · exact .inr (.inl ⟨c1, c2, mrg_old _ _ _ _ _ hlen c1 c2, bnew_lt c1⟩)
    · exact .inr (.inr ⟨by omega, mrg_new _ _ _ _ _ hlen (by omega), bnew_ge (by omega)⟩)
  -- a block that the callee was not led to is as it was
  have hframe : ∀ m, m < h.length → m ∉ r → (hget h m).live → ∀ l, (hget (locH r h r) l).own = true → (β (lget r l)).b ≠ (β m).b := fun m hm hnr hv l ho => by
    obtain ⟨c, o⟩ := hownl l ho
    exact H.inj _ _ (Blk.own_live o) hv (fun e => hnr (e ▸ lget_mem c)) (.inl o)
  have hold : ∀ m, m < h.length → m ∉ r → BlkOk w' (bnew β β'' h.length r.length) (β m) (hget h m) := fun m hm hnr => by
    have k := (H.ok m).congr (H.bd m) hb1
    by_cases hv : (hget h m).live
    · have hblk : w'.heap[(β m).b]? = w.heap[(β m).b]? := s2.frame _ (k.there hv) (hframe m hm hnr hv)
      refine ⟨fun _ => Nat.lt_of_lt_of_le (k.there hv) s2.size, k.fit, fun i j u hu hk => ?_, fun ho => ⟨(k.wr ho).1, fun i j hrm => ?_⟩⟩
      · exact ⟨(k.cell i j u hu hk).1, (World.cell?_of_block (w := w) (w' := w') hblk).trans (k.cell i j u hu hk).2⟩
      · have := (k.wr ho).2 i j hrm
        exact ⟨by rw [World.cell?_of_block (w := w) (w' := w') hblk]; exact this.1, by rw [World.frozen?_of_block (w := w) (w' := w') hblk]; exact this.2⟩
    · refine ⟨fun c => absurd c hv, k.fit, fun i j u hu hk => ?_, fun ho => absurd (Blk.own_live ho) hv⟩
      exact absurd (k.cell_live hu) hv
  -- a block of the callee's lies apart from those that it was not led to
  have hapart : ∀ m i, m < h.length → m ∉ r → (hget h m).live → (hget hh i).live → ((hget h m).own = true ∨ (hget hh i).own = true ∨ r.length ≤ i) → (β m).b ≠ (β'' i).b := fun m i hm hnr hv hvi ho => by
    by_cases c : i < r.length
    · rw [hsame i c]
      have hvl := s2.liv i (by omega) hvi
      rw [locH_get r h r i c, Blk.ren_live] at hvl
      have hne : m ≠ lget r i := fun e => hnr (e ▸ lget_mem c)
      rcases ho with o | o | o
      · exact H.inj _ _ hv hvl hne (.inl o)
      · exact H.inj _ _ hv hvl hne (.inr (hownl i (s2.ownk i (by omega) o)).2)
      · omega
    · rcases s2.fresh i (by omega) hvi with d | ⟨l0, o0, e0⟩
      · have := (H.ok m).there hv; omega
      · have := hframe m hm hnr hv l0 o0
        rw [← e0]; exact fun e => this e.symm
  refine ⟨v, hh, bnew β β'' h.length r.length, ?_, q, ?_, ?_, s2.size, fun b hb hn => s2.frame b hb fun l ho => hn (lget r l) (lget_mem (hownl l ho).1) (hownl l ho).2⟩
  · rw [den_ren]
    congr 1
    exact (den_congr (fun l _ => (bnew_unl hlt hsame l).symm) v hvb)
  · rw [hL]; exact SV.bd_ren (fun l hl => unl_lt hlt hl hlen) v hvb
  · have hren : ∀ i, BlkOk w' (bnew β β'' h.length r.length) (β'' i) ((hget hh i).ren (unl r h.length)) := fun i =>
      (H2.ok i).ren fun i' j u hu => by
        rw [den_ren]
        exact den_congr (fun l _ => bnew_unl hlt hsame l) u (Blk.bd_cell (H2.bd _) hu)
    refine ⟨⟨fun m => ?_, fun m k hm hk hne ho => ?_, fun m => ?_, H2.gl, fun m ho => by
      rcases hcase m with ⟨i, hi, e, hlm, e2, e3⟩ | ⟨c1, c2, e2, e3⟩ | ⟨c1, e2, e3⟩ <;> rw [e2] at ho <;> rw [e3]
      · rw [Blk.ren_own] at ho; exact H2.go _ ho
      · exact H.go _ ho
      · rw [Blk.ren_own] at ho; exact H2.go _ ho⟩, ?_, hb1, by rw [hL]; omega⟩
    · rcases hcase m with ⟨i, hi, e, hlm, e2, e3⟩ | ⟨c1, c2, e2, e3⟩ | ⟨c1, e2, e3⟩
      · rw [e2, e3]; exact hren i
      · rw [e2, e3]; exact hold m c1 c2
      · rw [e2, e3]; exact hren _
    · rcases hcase m with ⟨i, hi, e, hlm, e2, e3⟩ | ⟨c1, c2, e2, e3⟩ | ⟨c1, e2, e3⟩ <;> rcases hcase k with ⟨i', hi', e', hlk, e2', e3'⟩ | ⟨c1', c2', e2', e3'⟩ | ⟨c1', e2', e3'⟩ <;>
        rw [e2] at hm ho <;> rw [e2'] at hk ho <;> rw [e3, e3'] <;> (try rw [Blk.ren_live] at hm) <;> (try rw [Blk.ren_live] at hk) <;> (try rw [Blk.ren_own] at ho) <;> (try rw [Blk.ren_own] at ho)
      · exact H2.inj _ _ hm hk (fun c => hne (by rw [e, e', c])) ho
      · exact (hapart k i c1' c2' hk hm (ho.elim (fun o => .inr (.inl o)) .inl)).symm
      · exact H2.inj _ _ hm hk (by omega) ho
      · exact hapart m i' c1 c2 hm hk (ho.elim .inl (fun o => .inr (.inl o)))
      · exact H.inj _ _ hm hk hne ho
      · exact hapart m _ c1 c2 hm hk (.inr (.inr (by omega)))
      · exact H2.inj _ _ hm hk (by omega) ho
      · exact (hapart k _ c1' c2' hk hm (.inr (.inr (by omega)))).symm
      · exact H2.inj _ _ hm hk (by omega) ho
    · rw [hL]
      have hbd : ∀ i, ((hget hh i).ren (unl r h.length)).bd (h.length + (hh.length - r.length)) := fun i => by
        have := H2.bd i
        generalize hget hh i = b at *
        cases b <;> first | trivial | exact bdL_ren (fun l hl => unl_lt hlt hl hlen) _ this
      rcases hcase m with ⟨i, hi, e, hlm, e2, e3⟩ | ⟨c1, c2, e2, e3⟩ | ⟨c1, e2, e3⟩
      · rw [e2]; exact hbd i
      · rw [e2]; exact Blk.bd_mono (by omega) (H.bd m)
      · rw [e2]; exact hbd _
    · have hle := s.len
      have hsl : w0.heap.size ≤ w.heap.size := s.size
      refine ⟨s2.os.trans s.os, s2.tape.trans s.tape, s2.output.trans s.output, Nat.le_trans s.size s2.size, by rw [hL]; omega, fun l hl => by rw [bnew_lt (by omega)]; exact s.same l hl, fun b hb hn => ?_, fun l hl hv => ?_, fun l hl hv => ?_, fun l hl hv => ?_⟩
      · rw [s2.frame b (by omega) fun l ho => ?_]
        · exact s.frame b hb hn
        · obtain ⟨c, o⟩ := hownl l ho
          rcases s.own _ o with d | ⟨l0, o0, e0⟩
          · intro e; omega
          · intro e; exact hn l0 o0 (by rw [e0, e])
      · rcases hcase l with ⟨i, hi, e, hlm, e2, e3⟩ | ⟨c1, c2, e2, e3⟩ | ⟨c1, e2, e3⟩
        · rw [e2, Blk.ren_live] at hv
          have := s2.liv i (by omega) hv
          rw [locH_get r h r i hi, Blk.ren_live, ← e] at this
          exact s.liv l hl this
        · rw [e2] at hv; exact s.liv l hl hv
        · omega
      · rcases hcase l with ⟨i, hi, e, hlm, e2, e3⟩ | ⟨c1, c2, e2, e3⟩ | ⟨c1, e2, e3⟩
        · rw [e2, Blk.ren_own] at hv
          have := (hownl i (s2.ownk i (by omega) hv)).2
          rw [← e] at this
          exact s.ownk l hl this
        · rw [e2] at hv; exact s.ownk l hl hv
        · omega
      · rcases hcase l with ⟨i, hi, e, hlm, e2, e3⟩ | ⟨c1, c2, e2, e3⟩ | ⟨c1, e2, e3⟩
        · rw [e2, Blk.ren_live] at hv
          have := s2.liv i (by omega) hv
          rw [locH_get r h r i hi, Blk.ren_live, ← e] at this
          rw [e3, hsame i hi, ← e]
          exact s.fresh l hl this
        · rw [e2] at hv; rw [e3]; exact s.fresh l hl hv
        · rw [e2, Blk.ren_live] at hv
          rw [e3]
          rcases s2.fresh _ (by omega) hv with d | ⟨l0, o0, e0⟩
          · left; omega
          · obtain ⟨c, o⟩ := hownl l0 o0
            have e0' : (β (lget r l0)).b = (β'' (l - h.length + r.length)).b := e0
            rw [← e0']
            exact s.own _ o
end
end
end Go.Proofs.YtjhddlkfkicpaaaGreatDoor.Vx
