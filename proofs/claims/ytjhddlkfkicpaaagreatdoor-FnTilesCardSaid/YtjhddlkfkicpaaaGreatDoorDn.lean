/- What a call gave, seen otherwise: rows that are only read, a nil slice as a slice of no rows. -/
import Derived.Test.YtjhddlkfkicpaaaGreatDoorDf
import Derived.Test.YtjhddlkfkicpaaaGreatDoorHo
namespace Go.Proofs.YtjhddlkfkicpaaaGreatDoor.Vx
open Go Go.RowKit Fl
set_option linter.unusedSimpArgs false
set_option linter.unusedVariables false

section
variable {P : Program} {w w' : World} {β β' : Nat → Loc} {h : List Blk}
/-- The last block may be seen as one that is only read. -/
theorem Holds.last {hh : List Blk} {n cap c : Nat} {f : Nat → List FV} (H : Holds w β (hh ++ [.rows n cap c f true])) : Holds w β (hh ++ [.rows n cap c f false]) := by
  have g : ∀ l, hget (hh ++ [.rows n cap c f false]) l = if l = hh.length then .rows n cap c f false else hget (hh ++ [.rows n cap c f true]) l := fun l => by
    rw [hget_append, hget_append]; split <;> rfl
  have gl : hget (hh ++ [.rows n cap c f true]) hh.length = .rows n cap c f true := by rw [hget_append, if_pos rfl]
  have lv : ∀ l, (hget (hh ++ [.rows n cap c f false]) l).live → (hget (hh ++ [.rows n cap c f true]) l).live := fun l hl => by
    rw [g] at hl
    split at hl
    · rename_i e; subst e; rw [gl]; exact .inl rfl
    · exact hl
  have ow : ∀ l, (hget (hh ++ [.rows n cap c f false]) l).own = true → (hget (hh ++ [.rows n cap c f true]) l).own = true := fun l hl => by
    rw [g] at hl
    split at hl
    · cases hl
    · exact hl
  refine ⟨fun l => ?_, fun l m hl hm hne ho => H.inj l m (lv l hl) (lv m hm) hne (ho.imp (ow l) (ow m)), fun l => ?_, H.gl, fun l ho => H.go l (ow l ho)⟩
  · rw [g]
    split
    · rename_i e; subst e
      have k := H.ok hh.length
      rw [gl] at k
      exact ⟨fun _ => k.there (.inl rfl), ⟨⟨k.fit.1.1, fun q => ⟨rfl, (k.fit.1.2 q).2⟩⟩, k.fit.2⟩, k.cell, fun q => by cases q⟩
    · exact H.ok l
  · rw [g]
    split
    · trivial
    · have := H.bd l
      rw [show (hh ++ [Blk.rows n cap c f false]).length = (hh ++ [Blk.rows n cap c f true]).length by simp]
      exact this
theorem Since.last {hh : List Blk} {n cap c : Nat} {f : Nat → List FV} (hl : h.length ≤ hh.length) (s : Since w β h w' β' (hh ++ [.rows n cap c f true])) : Since w β h w' β' (hh ++ [.rows n cap c f false]) := by
  have g : ∀ l, hget (hh ++ [.rows n cap c f false]) l = if l = hh.length then .rows n cap c f false else hget (hh ++ [.rows n cap c f true]) l := fun l => by
    rw [hget_append, hget_append]; split <;> rfl
  have gl : hget (hh ++ [.rows n cap c f true]) hh.length = .rows n cap c f true := by rw [hget_append, if_pos rfl]
  refine ⟨s.os, s.tape, s.output, s.size, by simpa using s.len, s.same, s.frame, fun l c1 hv => ?_, fun l c1 ho => ?_, fun l c1 hv => ?_⟩
  · rw [g, if_neg (by omega)] at hv; exact s.liv l c1 hv
  · rw [g, if_neg (by omega)] at ho; exact s.ownk l c1 ho
  · refine s.fresh l c1 ?_
    rw [g] at hv
    split at hv
    · rename_i e; subst e; rw [gl]; exact .inl rfl
    · exact hv
/-- A block of no rows that may be nil is laid behind. -/
theorem Holds.nilB {hh : List Blk} {c : Nat} {f : Nat → List FV} (H : Holds w β hh) : Holds w (bput β hh.length ⟨0, 0, c, true⟩) (hh ++ [.rows 0 0 c f false]) := by
  have nl : ∀ l, (hget (hh ++ [.rows 0 0 c f false]) l).live → l ≠ hh.length ∧ (hget hh l).live := fun l hv => by
    rw [hget_append] at hv
    split at hv
    · rcases hv with q | q
      · cases q
      · exact absurd q (Nat.lt_irrefl 0)
    · exact ⟨by assumption, hv⟩
  have bp : ∀ l, l ≠ hh.length → bput β hh.length ⟨0, 0, c, true⟩ l = β l := fun l hl => by unfold bput; rw [if_neg hl]
  refine ⟨fun l => ?_, fun l m hl hm hne ho => ?_, fun l => ?_, H.gl, fun l ho => ?_⟩
  · rw [hget_append]
    split
    · rename_i e; subst e
      rw [bput_self]
      refine ⟨fun q => ?_, ⟨⟨rfl, fun _ => ⟨rfl, rfl⟩⟩, Nat.le_refl _, fun i hi => by omega⟩, fun i j u hu => ?_, fun q => by cases q⟩
      · rcases q with q | q
        · cases q
        · exact absurd q (Nat.lt_irrefl 0)
      · simp [Blk.cell] at hu
    · rename_i e
      rw [bp l e]
      exact (H.ok l).congr (H.bd l) fun k hk => (bput_lt hk).symm
  · obtain ⟨a1, a2⟩ := nl l hl
    obtain ⟨b1, b2⟩ := nl m hm
    rw [bp l a1, bp m b1]
    rw [hget_append, if_neg a1, hget_append, if_neg b1] at ho
    exact H.inj l m a2 b2 hne ho
  · rw [hget_append]
    split
    · trivial
    · have := H.bd l
      generalize hget hh l = b at *
      cases b with
      | lit row o => exact bdL_mono (by simp) row this
      | _ => trivial
  · rw [hget_append] at ho
    split at ho
    · cases ho
    · rename_i e
      rw [bp l e]; exact H.go l ho
theorem Since.nilB {hh : List Blk} {c : Nat} {f : Nat → List FV} (s : Since w β h w' β' hh) : Since w β h w' (bput β' hh.length ⟨0, 0, c, true⟩) (hh ++ [.rows 0 0 c f false]) := by
  have sl := s.len
  have nl : ∀ l, (hget (hh ++ [.rows 0 0 c f false]) l).live → l ≠ hh.length ∧ (hget hh l).live := fun l hv => by
    rw [hget_append] at hv
    split at hv
    · rcases hv with q | q
      · cases q
      · exact absurd q (Nat.lt_irrefl 0)
    · exact ⟨by assumption, hv⟩
  refine ⟨s.os, s.tape, s.output, s.size, by simp; omega, fun l hl => by rw [bput_lt (by omega)]; exact s.same l hl, s.frame, fun l hl hv => s.liv l hl (nl l hv).2, fun l hl ho => ?_, fun l hl hv => ?_⟩
  · rw [hget_append, if_neg (by omega)] at ho; exact s.ownk l hl ho
  · obtain ⟨a1, a2⟩ := nl l hv
    have : bput β' hh.length ⟨0, 0, c, true⟩ l = β' l := by unfold bput; rw [if_neg a1]
    rw [this]; exact s.fresh l hl a2
/-- A room that a call gave: its windows nil, or rows of its own: they are rows that are only read. -/
theorem CV.room {f : FuncId} {args : List SV} {h : List Blk} {R : Int → Int → Nat → Nat → (Nat → List FV) → Prop}
    (c : CV P f args h fun v hh => ∃ wi hi : Int, (R wi hi 0 0 (fun _ => []) ∧ v = .agg [.f (.int .i8 wi), .f (.int .i8 hi), .f .nils] ∧ hh = h) ∨
      ∃ m cap g, R wi hi m cap g ∧ v = .agg [.f (.int .i8 wi), .f (.int .i8 hi), .slc h.length 0 m cap] ∧ hh = h ++ [.rows m cap 3 g true]) :
    CV P f args h fun v hh => ∃ (wi hi : Int) (m cap : Nat) (g : Nat → List FV), R wi hi m cap g ∧ v = .agg [.f (.int .i8 wi), .f (.int .i8 hi), .slc h.length 0 m cap] ∧ hh = h ++ [.rows m cap 3 g false] := by
  refine ⟨c.enters, fun w β H => Calls.mono (c.calls w β H) fun e w' ⟨v, hh, β', he, ⟨wi, hi, q⟩, H', s, hb⟩ => ?_⟩
  rcases q with ⟨r, rfl, rfl⟩ | ⟨m, cap, g, r, rfl, rfl⟩
  · refine ⟨_, _, bput β' hh.length ⟨0, 0, 3, true⟩, ?_, ⟨wi, hi, 0, 0, fun _ => [], r, rfl, rfl⟩, H'.nilB, s.nilB, ?_⟩
    · rw [he]
      simp [den, denL, bput_self, FV.val]
    · exact ⟨trivial, trivial, by show hh.length < _; simp, trivial⟩
  · exact ⟨_, _, β', he, ⟨wi, hi, m, cap, g, r, rfl, rfl⟩, H'.last, s.last (Nat.le_refl _), ⟨trivial, trivial, by show h.length < _; simp, trivial⟩⟩
/-- Two arguments that are slices, nil or not. -/
theorem holdsN {v v2 : Value} {n cap c n2 cap2 c2 : Nat} {f g : Nat → List FV} (h1 : SlcArg w v n cap c f) (h2 : SlcArg w v2 n2 cap2 c2 g) (hg : Gl w) :
    ∃ β : Nat → Loc, den β (.slc 0 0 n cap) = v ∧ den β (.slc 1 0 n2 cap2) = v2 ∧ Holds w β [.rows n cap c f false, .rows n2 cap2 c2 g false] ∧ n ≤ cap ∧ n2 ≤ cap2 := by
  obtain ⟨L1, a1, a2, a3⟩ := h1.loc
  obtain ⟨L2, b1, b2, b3⟩ := h2.loc
  refine ⟨fun l => if l = 0 then L1 else L2, a1 _ 0 rfl, b1 _ 1 rfl, holds_ro (fun l => ?_) (fun l => ?_) (fun l => ?_) hg, a3, b3⟩ <;> rcases l with _ | _ | l
  · exact a2 _
  · exact b2 _
  · exact dead_ok _ _ _
  · rfl
  · rfl
  · rfl
  · trivial
  · trivial
  · trivial
end
end Go.Proofs.YtjhddlkfkicpaaaGreatDoor.Vx
