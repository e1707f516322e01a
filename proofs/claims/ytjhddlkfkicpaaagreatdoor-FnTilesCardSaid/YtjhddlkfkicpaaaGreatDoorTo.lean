/- Rooms that are read: plain facts on their texts. -/
import Derived.Test.YtjhddlkfkicpaaaGreatDoorTm
import Derived.Test.YtjhddlkfkicpaaaGreatDoorTe
namespace Go.Proofs.YtjhddlkfkicpaaaGreatDoor.Vx
open Go Go.RowKit Fl
set_option maxRecDepth 100000
set_option linter.unusedSimpArgs false
set_option linter.unusedVariables false
theorem spc_cut {c : UInt8} : ∀ {p r : List UInt8}, c ∉ p → sp c (p ++ c :: r) = p :: sp c r
  | [], r, _ => by simp [sp]
  | b :: p, r, h => by
    have hb : ¬ b = c := fun e => h (by simp [e])
    rw [List.cons_append, sp, if_neg hb, spc_cut (fun e => h (List.mem_cons_of_mem _ e))]
    rfl
theorem spc_whole {c : UInt8} : ∀ {p : List UInt8}, c ∉ p → sp c p = [p]
  | [], _ => rfl
  | b :: p, h => by
    have hb : ¬ b = c := fun e => h (by simp [e])
    rw [sp, if_neg hb, spc_whole (fun e => h (List.mem_cons_of_mem _ e))]
    rfl
/-- The text of some pieces. -/
def joinC (c : UInt8) : List (List UInt8) → List UInt8
  | [] => []
  | p :: r => match r with
    | [] => p
    | _ :: _ => p ++ c :: joinC c r
theorem joinC_cons (c : UInt8) (p : List UInt8) {r : List (List UInt8)} (h : r ≠ []) : joinC c (p :: r) = p ++ c :: joinC c r := by
  cases r with
  | nil => exact absurd rfl h
  | cons q s => rfl
theorem joinC_consH (c b : UInt8) {l : List (List UInt8)} (h : l ≠ []) : joinC c (consH [b] l) = b :: joinC c l := by
  cases l with
  | nil => exact absurd rfl h
  | cons p r =>
    cases r with
    | nil => rfl
    | cons q s => rfl
theorem joinC_sp (c : UInt8) : ∀ t, joinC c (sp c t) = t
  | [] => rfl
  | b :: r => by
    have ih := joinC_sp c r
    simp only [sp]
    split
    · rename_i e
      rw [joinC_cons _ _ (sp_ne c r), ih, e]; rfl
    · rw [joinC_consH _ _ (sp_ne c r), ih]
theorem iB_cut {c : UInt8} : ∀ {p r : List UInt8}, c ∉ p → Lib.indexByte (p ++ c :: r) c = p.length
  | [], r, _ => by simp [Lib.indexByte]
  | b :: p, r, h => by
    have hb : ¬ b = c := fun e => h (by simp [e])
    have ih := iB_cut (p := p) (r := r) (fun e => h (List.mem_cons_of_mem _ e))
    rw [List.cons_append, Lib.indexByte, if_neg (by simpa using hb), ih, if_neg (by simp)]
    simp
theorem cut_at {c : UInt8} {p r : List UInt8} (h : c ∉ p) : ctA c (p ++ c :: r) = p ∧ ctB c (p ++ c :: r) = r := by
  have e : Lib.index (p ++ c :: r) [c] = p.length := by rw [Lib.index_one]; exact iB_cut h
  unfold ctA ctB Lib.cut
  rw [e, if_pos (by omega)]
  simp
/-! ### Letters that a text has not -/
theorem dig_ne : ∀ d, d < 10 → UInt8.ofNat (48 + d) ≠ 10 ∧ UInt8.ofNat (48 + d) ≠ 47 ∧ UInt8.ofNat (48 + d) ≠ 120 := by decide
theorem dec_mem (u : Nat) : ∀ x ∈ Lib.decDigits u, ∃ d, d < 10 ∧ x = UInt8.ofNat (48 + d) := by
  induction u using Nat.strongRecOn with
  | ind u ih =>
    intro x hx
    rw [Lib.decDigits] at hx
    split at hx
    · exact ⟨u, by assumption, by simpa using hx⟩
    · rcases List.mem_append.1 hx with h | h
      · exact ih (u / 10) (by omega) x h
      · exact ⟨u % 10, Nat.mod_lt _ (by omega), by simpa using h⟩
theorem itoa_no {k : Nat} {c : UInt8} (hc : c = 10 ∨ c = 47 ∨ c = 120) : c ∉ Lib.itoa (k : Int) := fun h => by
  rw [Lib.itoa_nonneg] at h
  obtain ⟨d, hd, e⟩ := dec_mem k c h
  have := dig_ne d hd
  rcases hc with rfl | rfl | rfl
  · exact this.1 e.symm
  · exact this.2.1 e.symm
  · exact this.2.2 e.symm
theorem hexd_no : ∀ k, k < 16 → hexd k ≠ 10 ∧ hexd k ≠ 47 ∧ hexd k ≠ 120 := by decide
theorem hexN_memC : ∀ n b x, x ∈ hexN b n → ∃ k, k < 16 ∧ x = hexd k
  | 0, _, _, h => by simp [hexN] at h
  | n + 1, b, x, h => by
    rw [hexN] at h
    rcases List.mem_append.1 h with h | h
    · exact hexN_memC n _ x h
    · exact ⟨b % 16, Nat.mod_lt _ (by omega), by simpa using h⟩
theorem hex_no {b n : Nat} {c : UInt8} (hc : c = 10 ∨ c = 47 ∨ c = 120) : c ∉ hexN b n := fun h => by
  obtain ⟨k, hk, e⟩ := hexN_memC n b c h
  have := hexd_no k hk
  rcases hc with rfl | rfl | rfl
  · exact this.1 e.symm
  · exact this.2.1 e.symm
  · exact this.2.2 e.symm
theorem lett_no (w : Int) : lett w ≠ 10 ∧ lett w ≠ 47 ∧ lett w ≠ 120 := by
  unfold lett; repeat' split
  all_goals decide
/-- A window's row without its end. -/
def winL (u : Win) : List UInt8 := [lett u.w] ++ Lib.itoa u.a ++ [47] ++ hexN (tbits u.l) 8
theorem winT_L (u : Win) : winT u = winL u ++ [10] := rfl
theorem winL_no {u : Win} (ha : 0 ≤ u.a) : (10 : UInt8) ∉ winL u := by
  obtain ⟨k, hk⟩ : ∃ k : Nat, u.a = (k : Int) := ⟨u.a.toNat, by omega⟩
  unfold winL
  rw [hk]
  simp only [List.mem_append, List.mem_singleton, not_or]
  exact ⟨⟨⟨fun e => (lett_no u.w).1 e.symm, itoa_no (.inl rfl)⟩, by decide⟩, hex_no (.inl rfl)⟩
/-- The windows' rows, behind one another, from the last. -/
def linesT (us : Nat → Win) (n : Nat) : List (List UInt8) := (List.range n).map fun k => winL (us k)
theorem winsT_sp {us : Nat → Win} {r0 : List UInt8} : ∀ n, (∀ i, i < n → 0 ≤ (us i).a) → ∃ y, winsT r0 us n = r0 ++ y ∧ sp 10 y = linesT us n ++ [ [] ] := by
  intro n
  induction n with
  | zero => intro _; exact ⟨[], by simp [winsT], by simp [linesT, sp]⟩
  | succ n ih =>
    intro h
    obtain ⟨y, e1, e2⟩ := ih fun i hi => h i (by omega)
    refine ⟨y ++ winT (us n), by rw [winsT, e1, List.append_assoc], ?_⟩
    have key : ∀ (l : List (List UInt8)) (y z : List UInt8), sp 10 y = l ++ [ [] ] → sp 10 (y ++ z) = l ++ sp 10 z := by
      intro l
      induction l with
      | nil =>
        intro y z hy
        cases y with
        | nil => rfl
        | cons b r =>
          simp only [sp, List.nil_append] at hy
          split at hy
          · have := sp_ne 10 r; simp at hy; exact absurd hy this
          · cases hq : sp 10 r with
            | nil => exact absurd hq (sp_ne 10 r)
            | cons q s => rw [hq] at hy; simp [consH] at hy
      | cons p l ih2 =>
        intro y z hy
        have hj := joinC_sp 10 y
        rw [hy, List.cons_append, joinC_cons _ _ (by simp)] at hj
        have hne : (10 : UInt8) ∉ p := by
          have := hy
          intro hc
          -- a piece has not the letter
          have nop : ∀ (t : List UInt8) (q : List UInt8), q ∈ sp 10 t → (10 : UInt8) ∉ q := by
            intro t
            induction t with
            | nil => intro q hq; simp [sp] at hq; simp [hq]
            | cons b r ih3 =>
              intro q hq
              simp only [sp] at hq
              split at hq
              · rcases List.mem_cons.1 hq with rfl | hq
                · simp
                · exact ih3 q hq
              · rename_i hb
                cases hs : sp 10 r with
                | nil => exact absurd hs (sp_ne 10 r)
                | cons q0 s =>
                  rw [hs, consH] at hq
                  rcases List.mem_cons.1 hq with rfl | hq
                  · have := ih3 q0 (by rw [hs]; simp)
                    simp only [List.cons_append, List.nil_append, List.mem_cons, not_or]
                    exact ⟨fun e => hb e.symm, this⟩
                  · exact ih3 q (by rw [hs]; simp [hq])
          exact nop y p (by rw [hy]; simp) hc
        have hs : sp 10 (joinC 10 (l ++ [ [] ])) = l ++ [ [] ] := by
          have h2 := hy
          rw [← hj, spc_cut hne] at h2
          simpa using h2
        rw [← hj, List.append_assoc, List.cons_append, spc_cut hne, ih2 _ z hs]
        rfl
    rw [key _ _ _ e2, winT_L, spc_cut (winL_no (h n (by omega)))]
    simp [linesT, List.range_succ, sp]
def headL (r : Rom) : List UInt8 := Lib.itoa r.wi ++ 120 :: Lib.itoa r.hi
theorem romT_sp {r : Rom} {us : Nat → Win} {n : Nat} (hr : r.sz) (h : ∀ i, i < n → 0 ≤ (us i).a) : sp 10 (romT r us n) = headL r :: (linesT us n ++ [ [] ]) := by
  obtain ⟨y, e1, e2⟩ := winsT_sp (us := us) (r0 := headT r) n h
  obtain ⟨a, ha⟩ : ∃ k : Nat, r.wi = (k : Int) := ⟨r.wi.toNat, by have := hr.1; omega⟩
  obtain ⟨b, hb⟩ : ∃ k : Nat, r.hi = (k : Int) := ⟨r.hi.toNat, by have := hr.2; omega⟩
  have eh : headT r ++ y = headL r ++ 10 :: y := by simp [headT, headL]
  rw [romT, e1, eh, spc_cut (by
    unfold headL; rw [ha, hb]
    simp only [List.mem_append, List.mem_cons, not_or]
    exact ⟨itoa_no (.inl rfl), by decide, itoa_no (.inl rfl)⟩), e2]
end Go.Proofs.YtjhddlkfkicpaaaGreatDoor.Vx
