/- Rooms, in the abstract: desks that are placed: the search. -/
import Derived.Test.YtdncopphjamilaaRt
import Derived.Test.YtdncopphjamilaaRlt
namespace Go.Proofs.Ytdncopphjamilaa.Vx
open Go Go.RowKit Fl
set_option maxRecDepth 100000
set_option maxHeartbeats 2000000
set_option linter.unusedSimpArgs false
set_option linter.unusedVariables false

def near (p o : Int × Int) : Bool := inn (p.1 - o.1) (-1) 1 && inn (p.2 - o.2) (-1) 1
def farK (p : Int × Int) (bs : List (Int × Int)) : Nat → Bool
  | 0 => true
  | k + 1 => farK p bs k && !near p (tlN bs k)
/-- The first list of so many more tiles that are far from one another. -/
def plc : List (Int × Int) → Nat → List (Int × Int) → Option (List (Int × Int))
  | _, 0, bs => some bs
  | [], _ + 1, _ => none
  | t :: ts, m + 1, bs => if farK t bs bs.length then (match plc ts m (bs ++ [t]) with
    | some o => some o
    | none => plc ts (m + 1) bs) else plc ts (m + 1) bs
theorem plc_zero (L bs : List (Int × Int)) : plc L 0 bs = some bs := by cases L <;> rfl
theorem drop_at {L : List (Int × Int)} {i : Nat} (h : i < L.length) : L.drop i = tlN L i :: L.drop (i + 1) := by
  rw [List.drop_eq_getElem_cons h]
  congr 1
  simp [tlN, List.getD_eq_getElem?_getD, h]
theorem plc_near {L bs : List (Int × Int)} {i m : Nat} (h : i < L.length) (hf : farK (tlN L i) bs bs.length = false) : plc (L.drop i) (m + 1) bs = plc (L.drop (i + 1)) (m + 1) bs := by
  rw [drop_at h, plc, hf]; rfl
theorem plc_none {L bs : List (Int × Int)} {i m : Nat} (h : i < L.length) (hf : farK (tlN L i) bs bs.length = true) (hn : plc (L.drop (i + 1)) m (bs ++ [tlN L i]) = none) : plc (L.drop i) (m + 1) bs = plc (L.drop (i + 1)) (m + 1) bs := by
  rw [drop_at h, plc, hf, if_pos rfl, hn]
theorem plc_some {L bs o : List (Int × Int)} {i m : Nat} (h : i < L.length) (hf : farK (tlN L i) bs bs.length = true) (hn : plc (L.drop (i + 1)) m (bs ++ [tlN L i]) = some o) : plc (L.drop i) (m + 1) bs = some o := by
  rw [drop_at h, plc, hf, if_pos rfl, hn]
theorem plc_len : ∀ {L : List (Int × Int)} {m : Nat} {bs o : List (Int × Int)}, plc L m bs = some o → o.length = bs.length + m
  | [], 0, bs, o, h => by rw [plc_zero] at h; cases h; rfl
  | t :: ts, 0, bs, o, h => by rw [plc_zero] at h; cases h; rfl
  | [], m + 1, bs, o, h => by cases h
  | t :: ts, m + 1, bs, o, h => by
    rw [plc] at h
    split at h
    · split at h
      · rename_i o' hq
        cases h
        have := plc_len hq
        simp only [List.length_append, List.length_singleton] at this
        omega
      · exact plc_len h
    · exact plc_len h
/-- What the search comes to. -/
def plRes (o : Option (List (Int × Int))) (l : Nat) (b : List Blk) (v : SV) (h : List Blk) : Prop :=
  match o with
  | none => v = .tup [.f .nils, .f (.bool false)] ∧ h = b
  | some out => ∃ cap g, TilAt out g ∧ out.length ≤ cap ∧ v = .tup [.slc l 0 out.length cap, .f (.bool true)] ∧ h = b ++ [.rows out.length cap 2 g true]
abbrev tilR (p : Int × Int) : List FV := [.int .i8 p.1, .int .i8 p.2]
/-- A list of tiles lies in a part of a block. -/
structure Part (L : List (Int × Int)) (off n cap N capN : Nat) (f : Nat → List FV) : Prop where
  len : L.length = n
  row : ∀ i, i < n → f (off + i) = tilR (tlN L i)
  inN : off + n ≤ N
  le : n ≤ cap
  inC : off + cap ≤ capN
  fit : N ≤ capN
  small : n ≤ 100
  inr : ∀ i, i < n → inR (tlN L i)
theorem tlN_drop (L : List (Int × Int)) (k i : Nat) : tlN (L.drop k) i = tlN L (k + i) := by simp [tlN, List.getD_eq_getElem?_getD, List.getElem?_drop]
theorem Part.drop {L : List (Int × Int)} {off n cap N capN : Nat} {f : Nat → List FV} (h : Part L off n cap N capN f) {i : Nat} (hi : i < n) : Part (L.drop (i + 1)) (if cap = i + 1 then off else off + (i + 1)) (n - (i + 1)) (cap - (i + 1)) N capN f := by
  have h1 := h.len; have h2 := h.inN; have h3 := h.le; have h4 := h.inC; have h5 := h.small
  refine ⟨by simp [h1], fun j hj => ?_, ?_, by omega, ?_, h.fit, by omega, fun j hj => ?_⟩
  · rw [if_neg (by omega), tlN_drop, ← h.row _ (by omega), Nat.add_assoc]
  · split <;> omega
  · split <;> omega
  · rw [tlN_drop]; exact h.inr _ (by omega)
structure Bef (bs : List (Int × Int)) (cb : Nat) (g : Nat → List FV) : Prop where
  row : TilAt bs g
  le : bs.length ≤ cb
  inr : ∀ i, i < bs.length → inR (tlN bs i)
theorem Bef.push {bs : List (Int × Int)} {cb : Nat} {g : Nat → List FV} (h : Bef bs cb g) {p : Int × Int} (hp : inR p) {cap' : Nat} (hc : bs.length + 1 ≤ cap') : Bef (bs ++ [p]) cap' (catR g bs.length (shR (nthR [ tilR p ]) 0)) := by
  refine ⟨h.row.push p, by simpa using hc, fun i hi => ?_⟩
  simp only [List.length_append, List.length_singleton] at hi
  by_cases c : i < bs.length
  · have := h.inr i c
    simpa only [tlN, List.getD_eq_getElem?_getD, List.getElem?_append_left c] using this
  · obtain rfl : i = bs.length := by omega
    simpa [tlN] using hp
theorem Part.at {L : List (Int × Int)} {off n cap N capN : Nat} {f : Nat → List FV} (h : Part L off n cap N capN f) {i : Nat} (hi : i < n) : f (off + i) = tilR (tlN L i) := h.row i hi
theorem placed0_cv (off n cap N capN nb cb : Nat) (f g : Nat → List FV) (h : nb ≤ cb) :
    CV Try.prog 105 [.slc 0 off n cap, .slc 1 0 nb cb, .f (.int .i64 ((0 : Nat) : Int))] [.rows N capN 2 f false, .rows nb cb 2 g false] (fun v hh => v = .tup [.slc 1 0 nb cb, .f (.bool true)] ∧ hh = [.rows N capN 2 f false, .rows nb cb 2 g false]) := by
  have hmd : decide (((0 : Nat) : Int) = 0) = true := by decide
  refine cv_of_run 1000 sc105 sb105 78 [.tmp 6, .tmp 7] tabOk (by kernel_rfl) Try.func105 rfl (by kernel_rfl) Try.ntmps105 rfl (by simp) rfl (by simp [bdL, SV.bd]) ?_
  simp (config := { maxSteps := 1000000 }) (disch := omega) only [go_sem, Int.reduceToNat, ↓reduceIte, Nat.reduceLT, Nat.reduceEqDiff, Nat.reduceAdd, Nat.reduceMul, Nat.reduceSub, Nat.reduceBEq, Nat.reduceLeDiff, reduceCtorEq, Nat.reduceLT, ↓Br_true, ↓Br_false, bind, pure, sc105, sb105, hmd]
theorem placed_cv (m : Nat) : ∀ (L bs : List (Int × Int)) (off n cap N capN cb : Nat) (f g : Nat → List FV), Part L off n cap N capN f → Bef bs cb g → bs.length + (m + 1) ≤ 5 → 0 < cb →
    CV Try.prog 105 [.slc 0 off n cap, .slc 1 0 bs.length cb, .f (.int .i64 ((m + 1 : Nat) : Int))] [.rows N capN 2 f false, .rows bs.length cb 2 g false] (plRes (plc L (m + 1) bs) 2 [.rows N capN 2 f false, .rows bs.length cb 2 g false])
  := by
  induction m using Nat.strongRecOn with
  | _ m ih =>
    intro L bs off n cap N capN cb f g HL HB hm hcb
    have hlen := HL.len
    have hN := HL.inN
    have hcap := HL.le
    have hC := HL.inC
    have hF := HL.fit
    have h100 := HL.small
    have hb := HB.le
    have hmd : decide (((m + 1 : Nat) : Int) = 0) = false := decide_eq_false (by omega)
    refine cv_of_run 1000 sc105 sb105 78 [.tmp 6, .tmp 7] tabOk (by kernel_rfl) Try.func105 rfl (by kernel_rfl) Try.ntmps105 rfl (by simp) rfl (by simp [bdL, SV.bd]) ?_
    simp (config := { maxSteps := 1000000 }) (disch := omega) only [go_sem, Int.reduceToNat, ↓reduceIte, Nat.reduceLT, Nat.reduceEqDiff, Nat.reduceAdd, Nat.reduceMul, Nat.reduceSub, Nat.reduceBEq, Nat.reduceLeDiff, reduceCtorEq, Nat.reduceLT, ↓Br_true, ↓Br_false, bind, pure, sc105, sb105, hmd]
    refine ⟨Nat, fun i => i ≤ n ∧ plc (L.drop i) (m + 1) bs = plc L (m + 1) bs, fun i => n - i, fun i => [(0, .slc 0 off n cap), (1, .slc 1 0 bs.length cb), (2, .f (.int .i64 ((m + 1 : Nat) : Int))), (6, .f .nils), (7, .f (.bool false)), (18, .slc 0 off n cap), (19, .f (.int .i64 n)), (20, .f (.int .i64 i))], fun _ => [.rows N capN 2 f false, .rows bs.length cb 2 g false], 0, (by intro _; simp), ?_, (by (try refine Or.inl ?_); simp [Cov, covE, covH, cb_dead, cb_lit, cb_rows, cb_cells, cd_lit, cd_rows, cd_cells, cd_dead, covRow, look, SV.known, SV.bd, bdL, hcap, hb, hF] <;> omega), ?_⟩
    · exact ⟨by omega, rfl⟩
    · rintro i ⟨hi, hp⟩
      by_cases hlt : i < n
      · have hd : decide ((i : Int) < n) = true := decide_eq_true (by omega)
        have e1 := HL.row i hlt
        have hI := HL.inr i hlt
        simp (config := { maxSteps := 1000000 }) (disch := omega) only [go_sem, Int.reduceToNat, ↓reduceIte, Nat.reduceLT, Nat.reduceEqDiff, Nat.reduceAdd, Nat.reduceMul, Nat.reduceSub, Nat.reduceBEq, Nat.reduceLeDiff, reduceCtorEq, Nat.reduceLT, ↓Br_true, ↓Br_false, bind, pure, sc105, sb105, hd, e1]
        repeat' (first | (with_reducible refine And.intro (by first | (unfold SOk; kernel_rfl) | (unfold SBOk; kernel_rfl) | (with_reducible assumption) | omega | assumption) ?_) | (with_reducible refine Br_intro (fun hc => ?_) (fun hc => ?_)) | ((with_reducible show WidN _ _ _ _ _ _ _ _); (first | refine widL (by decide) (by with_reducible assumption) ?_ | refine widL (by decide) (FWok_nn (by with_reducible assumption)) ?_ | refine widN (by decide) (fun c hc => ?_)); simp (config := { maxSteps := 1000000 }) (disch := omega) only [go_sem, Int.reduceToNat, ↓reduceIte, Nat.reduceLT, Nat.reduceEqDiff, Nat.reduceAdd, Nat.reduceMul, Nat.reduceSub, Nat.reduceBEq, Nat.reduceLeDiff, reduceCtorEq, Nat.reduceLT, ↓Br_true, ↓Br_false, bind, pure, sc105, sb105, hd, e1]))
        generalize ht : tlN L i = t at *
        obtain ⟨⟨_, _⟩, _, _⟩ := hI
        refine ⟨Nat, fun k => k ≤ bs.length, fun k => bs.length - k, fun k => [(0, .slc 0 off n cap), (1, .slc 1 0 bs.length cb), (2, .f (.int .i64 ((m + 1 : Nat) : Int))), (6, .f .nils), (7, .f (.bool false)), (8, .f (.int .i64 i)), (9, .ptr 2 0 0), (10, .f (.bool (farK t bs k))), (18, .slc 0 off n cap), (19, .f (.int .i64 n)), (20, .f (.int .i64 i)), (25, .slc 1 0 bs.length cb), (26, .f (.int .i64 bs.length)), (27, .f (.int .i64 k))], fun _ => [.rows N capN 2 f false, .rows bs.length cb 2 g false, .lit [.f (.int .i8 t.1), .f (.int .i8 t.2)] true], 0, (by intro _; simp), ?_, (by (try refine Or.inl ?_); simp [Cov, covE, covH, cb_dead, cb_lit, cb_rows, cb_cells, cd_lit, cd_rows, cd_cells, cd_dead, covRow, look, SV.known, SV.bd, bdL, hcap, hb, hF, farK] <;> omega), ?_⟩
        · omega
        · intro k hk
          by_cases hkt : k < bs.length
          · have hd : decide ((k : Int) < bs.length) = true := decide_eq_true (by omega)
            have e2 := HB.row k hkt
            have hJ := HB.inr k hkt
            obtain ⟨⟨_, _⟩, _, _⟩ := hJ
            have eS : farK t bs (k + 1) = (farK t bs k && !(inn (t.1 - (tlN bs k).1) (-1) 1 && inn (t.2 - (tlN bs k).2) (-1) 1)) := rfl
            simp (config := { maxSteps := 1000000 }) (disch := omega) only [go_sem, Int.reduceToNat, ↓reduceIte, Nat.reduceLT, Nat.reduceEqDiff, Nat.reduceAdd, Nat.reduceMul, Nat.reduceSub, Nat.reduceBEq, Nat.reduceLeDiff, reduceCtorEq, Nat.reduceLT, ↓Br_true, ↓Br_false, bind, pure, sc105, sb105, hd, e2]
            repeat' (first | (with_reducible refine And.intro (by first | (unfold SOk; kernel_rfl) | (unfold SBOk; kernel_rfl) | (with_reducible assumption) | omega | assumption) ?_) | (with_reducible refine Br_intro (fun hc => ?_) (fun hc => ?_)) | ((first | (refine callR (by rfl) (by rfl) (by rfl) (rwithin_cv _ _ _) ?_; rintro _ _ ⟨rfl, rfl⟩) | (refine callM (by rfl) (by rfl) (by rfl) (rwithin_cv _ _ _) ?_; rintro _ _ ⟨rfl, rfl⟩) | (refine callMo (by rfl) (by rfl) (by rfl) (rwithin_cv _ _ _) ?_; rintro _ _ ⟨rfl, rfl⟩) | (refine callE (by rfl) (rwithin_cv _ _ _) (by rfl) ?_)); simp (config := { maxSteps := 1000000 }) (disch := omega) only [go_sem, Int.reduceToNat, ↓reduceIte, Nat.reduceLT, Nat.reduceEqDiff, Nat.reduceAdd, Nat.reduceMul, Nat.reduceSub, Nat.reduceBEq, Nat.reduceLeDiff, reduceCtorEq, Nat.reduceLT, ↓Br_true, ↓Br_false, bind, pure, sc105, sb105, hd, e2]) | ((with_reducible show WidN _ _ _ _ _ _ _ _); (first | refine widL (by decide) (by with_reducible assumption) ?_ | refine widL (by decide) (FWok_nn (by with_reducible assumption)) ?_ | refine widN (by decide) (fun c hc => ?_)); simp (config := { maxSteps := 1000000 }) (disch := omega) only [go_sem, Int.reduceToNat, ↓reduceIte, Nat.reduceLT, Nat.reduceEqDiff, Nat.reduceAdd, Nat.reduceMul, Nat.reduceSub, Nat.reduceBEq, Nat.reduceLeDiff, reduceCtorEq, Nat.reduceLT, ↓Br_true, ↓Br_false, bind, pure, sc105, sb105, hd, e2]))
            · have eT : farK t bs (k + 1) = !inn (t.2 - (tlN bs k).2) (-1) 1 := by rw [eS, ‹farK t bs k = true›, hc]; simp
              exact ⟨k + 1, by omega, by omega, by (try refine Or.inl ?_); simp [Cov, covE, covH, cb_dead, cb_lit, cb_rows, cb_cells, cd_lit, cd_rows, cd_cells, cd_dead, covRow, look, SV.known, SV.bd, bdL, eT, hb, hcap, hF] <;> omega⟩
            · have eT : farK t bs (k + 1) = true := by rw [eS, ‹farK t bs k = true›, hc]; simp
              exact ⟨k + 1, by omega, by omega, by (try refine Or.inl ?_); simp [Cov, covE, covH, cb_dead, cb_lit, cb_rows, cb_cells, cd_lit, cd_rows, cd_cells, cd_dead, covRow, look, SV.known, SV.bd, bdL, eT, hb, hcap, hF] <;> omega⟩
            · have eT : farK t bs (k + 1) = false := by rw [eS, hc]; simp
              exact ⟨k + 1, by omega, by omega, by (try refine Or.inl ?_); simp [Cov, covE, covH, cb_dead, cb_lit, cb_rows, cb_cells, cd_lit, cd_rows, cd_cells, cd_dead, covRow, look, SV.known, SV.bd, bdL, eT, hb, hcap, hF] <;> omega⟩
          · have hd : decide ((k : Int) < bs.length) = false := decide_eq_false (by omega)
            obtain rfl : k = bs.length := by omega
            simp (config := { maxSteps := 1000000 }) (disch := omega) only [go_sem, Int.reduceToNat, ↓reduceIte, Nat.reduceLT, Nat.reduceEqDiff, Nat.reduceAdd, Nat.reduceMul, Nat.reduceSub, Nat.reduceBEq, Nat.reduceLeDiff, reduceCtorEq, Nat.reduceLT, ↓Br_true, ↓Br_false, bind, pure, sc105, sb105, hd]
            refine ⟨fun hc => ?_, fun hc => ?_⟩
            · simp only [Bool.not_eq_true'] at hc
              exact ⟨i + 1, ⟨by omega, by rw [← hp]; exact (plc_near (by omega) (by rw [ht]; exact hc)).symm⟩, by omega, by (try refine Or.inl ?_); simp [Cov, covE, covH, cb_dead, cb_lit, cb_rows, cb_cells, cd_lit, cd_rows, cd_cells, cd_dead, covRow, look, SV.known, SV.bd, bdL, hb, hcap, hF] <;> omega⟩
            · simp only [Bool.not_eq_false'] at hc
              have en : ((m + 1 : Nat) : Int) - 1 = m := by omega
              have ei : (i : Int) + 1 = ((i + 1 : Nat) : Int) := by omega
              repeat (with_reducible refine And.intro (by first | omega | assumption | (unfold SOk; kernel_rfl) | (unfold SBOk; kernel_rfl)) ?_)
              simp (config := { maxSteps := 1000000 }) (disch := omega) only [go_sem, Int.reduceToNat, ↓reduceIte, Nat.reduceLT, Nat.reduceEqDiff, Nat.reduceAdd, Nat.reduceMul, Nat.reduceSub, Nat.reduceBEq, Nat.reduceLeDiff, reduceCtorEq, Nat.reduceLT, ↓Br_true, ↓Br_false, bind, pure, sc105, sb105, en, ei]
              have hff : farK (tlN L i) bs bs.length = true := by rw [ht]; exact hc
              refine Or.inl ⟨⟨⟨Nat.le_refl _, hcb⟩, by omega⟩, Or.inl fun cap' hcap' => ?_⟩
              have HB' := HB.push (p := t) (by exact ⟨⟨by omega, by omega⟩, by omega, by omega⟩) hcap'
              have HL' := HL.drop hlt
              have el : (bs ++ [t]).length = bs.length + 1 := by simp
              rcases m with _ | k
              · have hr := plc_some (by omega) hff (plc_zero _ _)
                rw [hp, ht] at hr
                (first | (refine callR (by rfl) (by rfl) (by rfl) (placed0_cv _ _ _ _ _ _ _ _ _ (by omega)) ?_; rintro _ _ ⟨rfl, rfl⟩) | (refine callM (by rfl) (by rfl) (by rfl) (placed0_cv _ _ _ _ _ _ _ _ _ (by omega)) ?_; rintro _ _ ⟨rfl, rfl⟩) | (refine callMo (by rfl) (by rfl) (by rfl) (placed0_cv _ _ _ _ _ _ _ _ _ (by omega)) ?_; rintro _ _ ⟨rfl, rfl⟩) | (refine callE (by rfl) (placed0_cv _ _ _ _ _ _ _ _ _ (by omega)) (by rfl) ?_))
                simp (config := { maxSteps := 1000000 }) (disch := omega) only [go_sem, Int.reduceToNat, ↓reduceIte, Nat.reduceLT, Nat.reduceEqDiff, Nat.reduceAdd, Nat.reduceMul, Nat.reduceSub, Nat.reduceBEq, Nat.reduceLeDiff, reduceCtorEq, Nat.reduceLT, ↓Br_true, ↓Br_false, bind, pure, sc105, sb105, hr]
                exact ⟨cap', _, HB'.row, by rw [el]; exact hcap', by rw [el], by rw [el]; rfl⟩
              · have cv := ih k (by omega) _ _ _ _ _ _ _ _ _ _ HL' HB' (by rw [el]; omega) (by omega)
                cases hq : plc (L.drop (i + 1)) (k + 1) (bs ++ [t]) with
                | none =>
                  rw [hq] at cv
                  simp only [plRes, el] at cv
                  (have cc := cv; (first | ((first | refine callR (by rfl) (by rfl) (by rfl) cc ?_ | refine callM (by rfl) (by rfl) (by rfl) cc ?_ | refine callMo (by rfl) (by rfl) (by rfl) cc ?_); clear cc; rintro _ _ ⟨rfl, rfl⟩) | (refine callE (by rfl) cc (by rfl) ?_; clear cc)))
                  simp (config := { maxSteps := 1000000 }) (disch := omega) only [go_sem, Int.reduceToNat, ↓reduceIte, Nat.reduceLT, Nat.reduceEqDiff, Nat.reduceAdd, Nat.reduceMul, Nat.reduceSub, Nat.reduceBEq, Nat.reduceLeDiff, reduceCtorEq, Nat.reduceLT, ↓Br_true, ↓Br_false, bind, pure, sc105, sb105]
                  refine ⟨i + 1, ⟨by omega, ?_⟩, by omega, by (try refine Or.inl ?_); simp [Cov, covE, covH, cb_dead, cb_lit, cb_rows, cb_cells, cd_lit, cd_rows, cd_cells, cd_dead, covRow, look, SV.known, SV.bd, bdL, hb, hcap, hF] <;> omega⟩
                  rw [← hp]; exact (plc_none (by omega) hff (by rw [ht]; exact hq)).symm
                | some out =>
                  rw [hq] at cv
                  simp only [plRes, el] at cv
                  have hr := plc_some (by omega) hff (by rw [ht]; exact hq)
                  rw [hp] at hr
                  have cc := cv; (first | refine callR (by rfl) (by rfl) (by rfl) cc ?_ | refine callM (by rfl) (by rfl) (by rfl) cc ?_ | refine callMo (by rfl) (by rfl) (by rfl) cc ?_ | refine callG (by rfl) (by rfl) (by rfl) cc ?_ | refine callW (by rfl) (by first | rfl | (simp [ofL, kpB, kpR, ofB, isOwnB, isDead, inL, hget]; done)) (by rfl) (by rfl) cc ?_); clear cc; rintro _ _ ⟨cap2, g2, h1, h2, rfl, rfl⟩
                  simp (config := { maxSteps := 1000000 }) (disch := omega) only [go_sem, Int.reduceToNat, ↓reduceIte, Nat.reduceLT, Nat.reduceEqDiff, Nat.reduceAdd, Nat.reduceMul, Nat.reduceSub, Nat.reduceBEq, Nat.reduceLeDiff, reduceCtorEq, Nat.reduceLT, ↓Br_true, ↓Br_false, bind, pure, sc105, sb105, hr]
                  exact ⟨cap2, g2, h1, h2, rfl, rfl⟩
      · have hd : decide ((i : Int) < n) = false := decide_eq_false (by omega)
        obtain rfl : i = n := by omega
        simp (config := { maxSteps := 1000000 }) (disch := omega) only [go_sem, Int.reduceToNat, ↓reduceIte, Nat.reduceLT, Nat.reduceEqDiff, Nat.reduceAdd, Nat.reduceMul, Nat.reduceSub, Nat.reduceBEq, Nat.reduceLeDiff, reduceCtorEq, Nat.reduceLT, ↓Br_true, ↓Br_false, bind, pure, sc105, sb105, hd]
        rw [List.drop_of_length_le (by omega)] at hp
        rw [← hp]
        exact ⟨rfl, rfl⟩
theorem placedN0_cv (off n cap N capN : Nat) (f : Nat → List FV) :
    CV Try.prog 105 [.slc 0 off n cap, .f .nils, .f (.int .i64 ((0 : Nat) : Int))] [.rows N capN 2 f false] (fun v hh => v = .tup [.f .nils, .f (.bool true)] ∧ hh = [.rows N capN 2 f false]) := by
  have hmd : decide (((0 : Nat) : Int) = 0) = true := by decide
  refine cv_of_run 1000 sc105 sb105 78 [.tmp 6, .tmp 7] tabOk (by kernel_rfl) Try.func105 rfl (by kernel_rfl) Try.ntmps105 rfl (by simp) rfl (by simp [bdL, SV.bd]) ?_
  simp (config := { maxSteps := 1000000 }) (disch := omega) only [go_sem, Int.reduceToNat, ↓reduceIte, Nat.reduceLT, Nat.reduceEqDiff, Nat.reduceAdd, Nat.reduceMul, Nat.reduceSub, Nat.reduceBEq, Nat.reduceLeDiff, reduceCtorEq, Nat.reduceLT, ↓Br_true, ↓Br_false, bind, pure, sc105, sb105, hmd]
theorem placedN_cv (m : Nat) (L : List (Int × Int)) (off n cap N capN : Nat) (f : Nat → List FV) (HL : Part L off n cap N capN f) (hm : m + 1 ≤ 5) :
    CV Try.prog 105 [.slc 0 off n cap, .f .nils, .f (.int .i64 ((m + 1 : Nat) : Int))] [.rows N capN 2 f false] (plRes (plc L (m + 1) []) 1 [.rows N capN 2 f false])
  := by
    have hlen := HL.len
    have hN := HL.inN
    have hcap := HL.le
    have hC := HL.inC
    have hF := HL.fit
    have h100 := HL.small
    have hmd : decide (((m + 1 : Nat) : Int) = 0) = false := decide_eq_false (by omega)
    refine cv_of_run 1000 sc105 sb105 78 [.tmp 6, .tmp 7] tabOk (by kernel_rfl) Try.func105 rfl (by kernel_rfl) Try.ntmps105 rfl (by simp) rfl (by simp [bdL, SV.bd]) ?_
    simp (config := { maxSteps := 1000000 }) (disch := omega) only [go_sem, Int.reduceToNat, ↓reduceIte, Nat.reduceLT, Nat.reduceEqDiff, Nat.reduceAdd, Nat.reduceMul, Nat.reduceSub, Nat.reduceBEq, Nat.reduceLeDiff, reduceCtorEq, Nat.reduceLT, ↓Br_true, ↓Br_false, bind, pure, sc105, sb105, hmd]
    refine ⟨Nat, fun i => i ≤ n ∧ plc (L.drop i) (m + 1) [] = plc L (m + 1) [], fun i => n - i, fun i => [(0, .slc 0 off n cap), (1, .f .nils), (2, .f (.int .i64 ((m + 1 : Nat) : Int))), (6, .f .nils), (7, .f (.bool false)), (18, .slc 0 off n cap), (19, .f (.int .i64 n)), (20, .f (.int .i64 i))], fun _ => [.rows N capN 2 f false], 0, (by intro _; simp), ?_, (by (try refine Or.inl ?_); simp [Cov, covE, covH, cb_dead, cb_lit, cb_rows, cb_cells, cd_lit, cd_rows, cd_cells, cd_dead, covRow, look, SV.known, SV.bd, bdL, hcap, hF] <;> omega), ?_⟩
    · exact ⟨by omega, rfl⟩
    · rintro i ⟨hi, hp⟩
      by_cases hlt : i < n
      · have hd : decide ((i : Int) < n) = true := decide_eq_true (by omega)
        have e1 := HL.row i hlt
        have hI := HL.inr i hlt
        simp (config := { maxSteps := 1000000 }) (disch := omega) only [go_sem, Int.reduceToNat, ↓reduceIte, Nat.reduceLT, Nat.reduceEqDiff, Nat.reduceAdd, Nat.reduceMul, Nat.reduceSub, Nat.reduceBEq, Nat.reduceLeDiff, reduceCtorEq, Nat.reduceLT, ↓Br_true, ↓Br_false, bind, pure, sc105, sb105, hd, e1]
        repeat' (first | (with_reducible refine And.intro (by first | (unfold SOk; kernel_rfl) | (unfold SBOk; kernel_rfl) | (with_reducible assumption) | omega | assumption) ?_) | (with_reducible refine Br_intro (fun hc => ?_) (fun hc => ?_)) | ((with_reducible show WidN _ _ _ _ _ _ _ _); (first | refine widL (by decide) (by with_reducible assumption) ?_ | refine widL (by decide) (FWok_nn (by with_reducible assumption)) ?_ | refine widN (by decide) (fun c hc => ?_)); simp (config := { maxSteps := 1000000 }) (disch := omega) only [go_sem, Int.reduceToNat, ↓reduceIte, Nat.reduceLT, Nat.reduceEqDiff, Nat.reduceAdd, Nat.reduceMul, Nat.reduceSub, Nat.reduceBEq, Nat.reduceLeDiff, reduceCtorEq, Nat.reduceLT, ↓Br_true, ↓Br_false, bind, pure, sc105, sb105, hd, e1]))
        generalize ht : tlN L i = t at *
        obtain ⟨⟨_, _⟩, _, _⟩ := hI
        have hz : decide ((0 : Int) < 0) = false := by decide
        refine ⟨Unit, fun _ => True, fun _ => 0, fun _ => [(0, .slc 0 off n cap), (1, .f .nils), (2, .f (.int .i64 ((m + 1 : Nat) : Int))), (6, .f .nils), (7, .f (.bool false)), (8, .f (.int .i64 i)), (9, .ptr 1 0 0), (10, .f (.bool true)), (18, .slc 0 off n cap), (19, .f (.int .i64 n)), (20, .f (.int .i64 i)), (25, .f .nils), (26, .f (.int .i64 0)), (27, .f (.int .i64 0))], fun _ => [.rows N capN 2 f false, .lit [.f (.int .i8 t.1), .f (.int .i8 t.2)] true], (), (by intro _; simp), ?_, (by (try refine Or.inl ?_); simp [Cov, covE, covH, cb_dead, cb_lit, cb_rows, cb_cells, cd_lit, cd_rows, cd_cells, cd_dead, covRow, look, SV.known, SV.bd, bdL, hcap, hF] <;> omega), ?_⟩
        · trivial
        · intro _ _
          simp (config := { maxSteps := 1000000 }) (disch := omega) only [go_sem, Int.reduceToNat, ↓reduceIte, Nat.reduceLT, Nat.reduceEqDiff, Nat.reduceAdd, Nat.reduceMul, Nat.reduceSub, Nat.reduceBEq, Nat.reduceLeDiff, reduceCtorEq, Nat.reduceLT, ↓Br_true, ↓Br_false, bind, pure, sc105, sb105, hz]
          have en : ((m + 1 : Nat) : Int) - 1 = m := by omega
          have ei : (i : Int) + 1 = ((i + 1 : Nat) : Int) := by omega
          repeat (with_reducible refine And.intro (by first | omega | assumption | (unfold SOk; kernel_rfl) | (unfold SBOk; kernel_rfl)) ?_)
          simp (config := { maxSteps := 1000000 }) (disch := omega) only [go_sem, Int.reduceToNat, ↓reduceIte, Nat.reduceLT, Nat.reduceEqDiff, Nat.reduceAdd, Nat.reduceMul, Nat.reduceSub, Nat.reduceBEq, Nat.reduceLeDiff, reduceCtorEq, Nat.reduceLT, ↓Br_true, ↓Br_false, bind, pure, sc105, sb105, en, ei]
          have hff : farK (tlN L i) [] ([] : List (Int × Int)).length = true := rfl
          intro cap' hcap'
          have HB' : Bef [t] cap' (shR (nthR [ tilR t ]) 0) := by
            refine ⟨fun i hi => ?_, by simpa using hcap', fun i hi => ?_⟩
            · simp only [List.length_singleton] at hi
              obtain rfl : i = 0 := by omega
              rfl
            · simp only [List.length_singleton] at hi
              obtain rfl : i = 0 := by omega
              exact ⟨⟨by assumption, by assumption⟩, by assumption, by assumption⟩
          have HL' := HL.drop hlt
          have el : [t].length = 1 := rfl
          rcases m with _ | k
          · have hr := plc_some (by omega) hff (plc_zero _ _)
            rw [hp, ht] at hr
            (first | (refine callR (by rfl) (by rfl) (by rfl) (placed0_cv _ _ _ _ _ _ _ _ _ hcap') ?_; rintro _ _ ⟨rfl, rfl⟩) | (refine callM (by rfl) (by rfl) (by rfl) (placed0_cv _ _ _ _ _ _ _ _ _ hcap') ?_; rintro _ _ ⟨rfl, rfl⟩) | (refine callMo (by rfl) (by rfl) (by rfl) (placed0_cv _ _ _ _ _ _ _ _ _ hcap') ?_; rintro _ _ ⟨rfl, rfl⟩) | (refine callE (by rfl) (placed0_cv _ _ _ _ _ _ _ _ _ hcap') (by rfl) ?_))
            simp (config := { maxSteps := 1000000 }) (disch := omega) only [go_sem, Int.reduceToNat, ↓reduceIte, Nat.reduceLT, Nat.reduceEqDiff, Nat.reduceAdd, Nat.reduceMul, Nat.reduceSub, Nat.reduceBEq, Nat.reduceLeDiff, reduceCtorEq, Nat.reduceLT, ↓Br_true, ↓Br_false, bind, pure, sc105, sb105, hr]
            exact ⟨cap', _, HB'.row, by rw [el]; exact hcap', by rw [el], by rw [el]; rfl⟩
          · have cv := placed_cv k _ _ _ _ _ _ _ _ _ _ HL' HB' (by rw [el]; omega) (by omega)
            cases hq : plc (L.drop (i + 1)) (k + 1) [t] with
            | none =>
              rw [hq] at cv
              simp only [plRes, el] at cv
              (have cc := cv; (first | ((first | refine callR (by rfl) (by rfl) (by rfl) cc ?_ | refine callM (by rfl) (by rfl) (by rfl) cc ?_ | refine callMo (by rfl) (by rfl) (by rfl) cc ?_); clear cc; rintro _ _ ⟨rfl, rfl⟩) | (refine callE (by rfl) cc (by rfl) ?_; clear cc)))
              simp (config := { maxSteps := 1000000 }) (disch := omega) only [go_sem, Int.reduceToNat, ↓reduceIte, Nat.reduceLT, Nat.reduceEqDiff, Nat.reduceAdd, Nat.reduceMul, Nat.reduceSub, Nat.reduceBEq, Nat.reduceLeDiff, reduceCtorEq, Nat.reduceLT, ↓Br_true, ↓Br_false, bind, pure, sc105, sb105]
              refine ⟨i + 1, ⟨by omega, ?_⟩, by omega, by (try refine Or.inl ?_); simp [Cov, covE, covH, cb_dead, cb_lit, cb_rows, cb_cells, cd_lit, cd_rows, cd_cells, cd_dead, covRow, look, SV.known, SV.bd, bdL, hcap, hF] <;> omega⟩
              rw [← hp]; exact (plc_none (by omega) hff (by rw [ht]; exact hq)).symm
            | some out =>
              rw [hq] at cv
              simp only [plRes, el] at cv
              have hr := plc_some (by omega) hff (by rw [ht]; exact hq)
              rw [hp] at hr
              have cc := cv; (first | refine callR (by rfl) (by rfl) (by rfl) cc ?_ | refine callM (by rfl) (by rfl) (by rfl) cc ?_ | refine callMo (by rfl) (by rfl) (by rfl) cc ?_ | refine callG (by rfl) (by rfl) (by rfl) cc ?_ | refine callW (by rfl) (by first | rfl | (simp [ofL, kpB, kpR, ofB, isOwnB, isDead, inL, hget]; done)) (by rfl) (by rfl) cc ?_); clear cc; rintro _ _ ⟨cap2, g2, h1, h2, rfl, rfl⟩
              simp (config := { maxSteps := 1000000 }) (disch := omega) only [go_sem, Int.reduceToNat, ↓reduceIte, Nat.reduceLT, Nat.reduceEqDiff, Nat.reduceAdd, Nat.reduceMul, Nat.reduceSub, Nat.reduceBEq, Nat.reduceLeDiff, reduceCtorEq, Nat.reduceLT, ↓Br_true, ↓Br_false, bind, pure, sc105, sb105, hr]
              exact ⟨cap2, g2, h1, h2, rfl, rfl⟩
      · have hd : decide ((i : Int) < n) = false := decide_eq_false (by omega)
        obtain rfl : i = n := by omega
        simp (config := { maxSteps := 1000000 }) (disch := omega) only [go_sem, Int.reduceToNat, ↓reduceIte, Nat.reduceLT, Nat.reduceEqDiff, Nat.reduceAdd, Nat.reduceMul, Nat.reduceSub, Nat.reduceBEq, Nat.reduceLeDiff, reduceCtorEq, Nat.reduceLT, ↓Br_true, ↓Br_false, bind, pure, sc105, sb105, hd]
        rw [List.drop_of_length_le (by omega)] at hp
        rw [← hp]
        exact ⟨rfl, rfl⟩
end Go.Proofs.Ytdncopphjamilaa.Vx
