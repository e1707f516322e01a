/- Sines of angles: the polynomial at a quarter's angles, by table; walks of the program's and of the reference's sines. -/
import Derived.Test.YtdncopphjamilaaS
namespace Go.Proofs.Ytdncopphjamilaa
set_option linter.unusedSimpArgs false
set_option linter.unusedVariables false
open Go.ChangeShapes Go.WideShapes Go.ChangeAt Go.RowKit Fl

def qx (n : Nat) : Nat := fdiv (fofInt n) 1115684864
def qy (n : Nat) : Nat := fmul (qx n) (qx n)
def qp (n : Nat) : Nat := fsub 1059356672 (fmul (qy n) 1033109504)
def qq (n : Nat) : Nat := fsub 1070137344 (fmul (qy n) (qp n))
/-- The sine of an angle from 0 to 64. -/
def quart (n : Nat) : Nat := fmul (qx n) (qq n)
def quartB (n : Nat) : Bool :=
  (S.div (fofInt n) 1115684864).isSome && (S.mul (qx n) (qx n)).isSome && (S.mul (qy n) 1033109504).isSome && (S.sub 1059356672 (fmul (qy n) 1033109504)).isSome &&
  (S.mul (qy n) (qp n)).isSome && (S.sub 1070137344 (fmul (qy n) (qp n))).isSome && (S.mul (qx n) (qq n)).isSome && (S.sub 0 (quart n)).isSome &&
  decide (fin (quart n)) && decide (0 ≤ key (quart n)) && decide (key (quart n) ≤ key 1065353216) && decide (fin (fsub 0 (quart n))) && decide (key (fsub 0 (quart n)) = - key (quart n))
set_option maxRecDepth 100000 in
theorem quart_all : (List.range 65).all quartB = true := by decide +kernel
structure QuartOk (n : Nat) : Prop where
  o1 : DivOk (fofInt n) 1115684864
  o2 : MulOk (qx n) (qx n)
  o3 : MulOk (qy n) 1033109504
  o4 : SubOk 1059356672 (fmul (qy n) 1033109504)
  o5 : MulOk (qy n) (qp n)
  o6 : SubOk 1070137344 (fmul (qy n) (qp n))
  o7 : MulOk (qx n) (qq n)
  o8 : SubOk 0 (quart n)
  pos : F0 (quart n)
  one : key (quart n) ≤ key 1065353216
  fneg : fin (fsub 0 (quart n))
  kneg : key (fsub 0 (quart n)) = - key (quart n)
theorem quart_ok {n : Nat} (h : n ≤ 64) : QuartOk n := by
  have := List.all_eq_true.1 quart_all n (by simp; omega)
  simp only [quartB, Bool.and_eq_true, decide_eq_true_eq] at this
  obtain ⟨⟨⟨⟨⟨⟨⟨⟨⟨⟨⟨⟨h1, h2⟩, h3⟩, h4⟩, h5⟩, h6⟩, h7⟩, h8⟩, h9⟩, h10⟩, h11⟩, h12⟩, h13⟩ := this
  exact ⟨Option.isSome_iff_exists.1 h1, Option.isSome_iff_exists.1 h2, Option.isSome_iff_exists.1 h3, Option.isSome_iff_exists.1 h4, Option.isSome_iff_exists.1 h5, Option.isSome_iff_exists.1 h6, Option.isSome_iff_exists.1 h7, Option.isSome_iff_exists.1 h8, ⟨h9, h10⟩, h11, h12, h13⟩

/-- The rest modulo 256. -/
def ang (a : Int) : Nat := (a % 256).toNat
theorem ang_lt (a : Int) : ang a < 256 := by unfold ang; omega
theorem ang_cast (a : Int) : ((ang a : Nat) : Int) = a % 256 := by unfold ang; omega
theorem rest_eq (a : Int) : ((a.tmod 256) + 256).tmod 256 = (ang a : Int) := by
  rw [ang_cast]
  rcases Int.le_total 0 a with h | h
  · rw [Int.tmod_eq_emod_of_nonneg h, Int.tmod_eq_emod_of_nonneg (by omega)]; omega
  · have e : a.tmod 256 = -((-a) % 256) := by
      rw [← Int.tmod_eq_emod_of_nonneg (by omega : 0 ≤ -a), Int.neg_tmod, Int.neg_neg]
    rw [e, Int.tmod_eq_emod_of_nonneg (by omega)]; omega

/-- The sine of an angle from 0 to 255. -/
def sinN (r : Nat) : Nat := if r ≤ 64 then quart r else if r ≤ 128 then quart (128 - r) else if r ≤ 192 then fsub 0 (quart (r - 128)) else fsub 0 (quart (256 - r))
def sineF (a : Int) : Nat := sinN (ang a)
def cosF (a : Int) : Nat := sineF ((ang a : Int) + 64)
theorem sinN_ok {r : Nat} (h : r < 256) : fin (sinN r) ∧ -(key 1065353216) ≤ key (sinN r) ∧ key (sinN r) ≤ key 1065353216 := by
  have k0 : (0 : Int) ≤ key 1065353216 := by decide
  unfold sinN
  split
  · rename_i h1; have q := quart_ok h1; exact ⟨q.pos.1, by have := q.pos.2; omega, q.one⟩
  · split
    · have q := quart_ok (show 128 - r ≤ 64 by omega); exact ⟨q.pos.1, by have := q.pos.2; omega, q.one⟩
    · split
      · have q := quart_ok (show r - 128 ≤ 64 by omega); have := q.pos.2; have := q.one; exact ⟨q.fneg, by rw [q.kneg]; omega, by rw [q.kneg]; omega⟩
      · have q := quart_ok (show 256 - r ≤ 64 by omega); have := q.pos.2; have := q.one; exact ⟨q.fneg, by rw [q.kneg]; omega, by rw [q.kneg]; omega⟩
theorem sineF_ok (a : Int) : fin (sineF a) ∧ -(key 1065353216) ≤ key (sineF a) ∧ key (sineF a) ≤ key 1065353216 := sinN_ok (ang_lt a)
theorem cosF_ok (a : Int) : fin (cosF a) ∧ -(key 1065353216) ≤ key (cosF a) ∧ key (cosF a) ≤ key 1065353216 := sineF_ok _
theorem ang_id {n : Nat} (h : n < 256) : ang (n : Int) = n := by unfold ang; omega

theorem rest_c (a : Int) (w : World) (h1 : -1000000 ≤ a) (h2 : a ≤ 1000000) :
    Calls Try.prog 168 #[.int .i64 a, .int .i64 256] w fun e w' => e = .returned (.int .i64 (ang a)) ∧ w = w' := by
  have H := Lib.hid (rest_eq a)
  rcases Int.le_total 0 a with h | h
  · have e : ang a = ((a % 256 + 256) % 256).toNat := by unfold ang; omega
    go_enter Try.func168, Try.ntmps168
    go_wp2
    go_ret
    exact ⟨congrArg (fun z => Ending.returned (.int .i64 z)) (by show _ = (ang a : Int); rw [ang_cast]; omega), rfl⟩
  · have b1 : -256 < a.tmod 256 := by have := Int.lt_tmod_of_pos a (show (0 : Int) < 256 by omega); omega
    have b2 : a.tmod 256 ≤ 0 := by have := H.out; have e : a.tmod 256 = -((-a) % 256) := by { rw [← Int.tmod_eq_emod_of_nonneg (by omega : 0 ≤ -a), Int.neg_tmod, Int.neg_neg] }; omega
    have hk : (a.tmod 256 + 256) % 256 = (ang a : Int) := by have := H.out; rwa [Int.tmod_eq_emod_of_nonneg (a := a.tmod 256 + 256) (by omega)] at this
    have HK := Lib.hid hk
    clear hk
    go_enter Try.func168, Try.ntmps168
    go_wp2
    go_ret
    exact ⟨congrArg (fun z => Ending.returned (.int .i64 z)) HK.out, rfl⟩

theorem l01Angle_c (a : Int) (w : World) (h1 : -1000000 ≤ a) (h2 : a ≤ 1000000) :
    Calls Try.prog 170 #[.int .i64 a] w fun e w' => e = .returned (.int .i64 (ang a)) ∧ w = w' := by
  have H := Lib.hid (rest_eq a)
  rcases Int.le_total 0 a with h | h
  · have e : ang a = ((a % 256 + 256) % 256).toNat := by unfold ang; omega
    go_enter Try.func170, Try.ntmps170
    go_wp2
    go_ret
    exact ⟨congrArg (fun z => Ending.returned (.int .i64 z)) (by show _ = (ang a : Int); rw [ang_cast]; omega), rfl⟩
  · have b1 : -256 < a.tmod 256 := by have := Int.lt_tmod_of_pos a (show (0 : Int) < 256 by omega); omega
    have b2 : a.tmod 256 ≤ 0 := by have := H.out; have e : a.tmod 256 = -((-a) % 256) := by { rw [← Int.tmod_eq_emod_of_nonneg (by omega : 0 ≤ -a), Int.neg_tmod, Int.neg_neg] }; omega
    have hk : (a.tmod 256 + 256) % 256 = (ang a : Int) := by have := H.out; rwa [Int.tmod_eq_emod_of_nonneg (a := a.tmod 256 + 256) (by omega)] at this
    have HK := Lib.hid hk
    clear hk
    go_enter Try.func170, Try.ntmps170
    go_wp2
    go_ret
    exact ⟨congrArg (fun z => Ending.returned (.int .i64 z)) HK.out, rfl⟩

theorem l01Quarter_c (n : Nat) (w : World) (h : n ≤ 64) :
    Calls Try.prog 185 #[.int .i64 n] w fun e w' => e = .returned (.float .f32 (quart n)) ∧ w = w' := by
  obtain ⟨o1, o2, o3, o4, o5, o6, o7, _, _, _, _, _⟩ := quart_ok h
  unfold qq qp qy qx at *
  go_enter Try.func185, Try.ntmps185
  go_wp2
  go_ret
  exact ⟨rfl, rfl⟩
theorem sine_base (n : Nat) (w : World) (h : n ≤ 64) :
    Calls Try.prog 176 #[.int .i64 n] w fun e w' => e = .returned (.float .f32 (quart n)) ∧ w = w' := by
  obtain ⟨o1, o2, o3, o4, o5, o6, o7, _, _, _, _, _⟩ := quart_ok h
  unfold qq qp qy qx at *
  have ha : ang (n : Int) = n := ang_id (by omega)
  have HA := Lib.hid ha
  clear ha
  go_enter Try.func176, Try.ntmps176
  go_wp2_with (go_at_call 168; refine (rest_c _ _ (by omega) (by omega)).mono ?_; rintro e w' ⟨rfl, rfl⟩; rw [HA.out])
  go_ret
  exact ⟨rfl, rfl⟩
theorem SineOf_c (a : Int) (w : World) (h1 : -1000000 ≤ a) (h2 : a ≤ 1000000) :
    Calls Try.prog 176 #[.int .i64 a] w fun e w' => e = .returned (.float .f32 (sineF a)) ∧ w = w' := by
  have hr := ang_lt a
  by_cases c1 : ang a ≤ 64
  · have hs : sineF a = quart (ang a) := by simp [sineF, sinN, c1]
    obtain ⟨o1, o2, o3, o4, o5, o6, o7, _, _, _, _, _⟩ := quart_ok c1
    rw [hs]
    clear hs
    unfold quart qq qp qy qx at *
    go_enter Try.func176, Try.ntmps176
    go_wp2_with (go_at_call 168; refine (rest_c _ _ h1 h2).mono ?_; rintro e w' ⟨rfl, rfl⟩)
    go_ret
    exact ⟨rfl, rfl⟩
  · by_cases c2 : ang a ≤ 128
    · have hs : sineF a = quart (128 - ang a) := by simp [sineF, sinN, c1, c2]
      rw [hs]
      have he : (128 : Int) - (ang a : Int) = ((128 - ang a : Nat) : Int) := by omega
      have HE := Lib.hid he
      clear he hs
      go_enter Try.func176, Try.ntmps176
      go_wp2_with (first | (go_at_call 168; refine (rest_c _ _ h1 h2).mono ?_; rintro e w' ⟨rfl, rfl⟩) | (go_at_call 176; rw [HE.out]; refine (sine_base _ _ (by omega)).mono ?_; rintro e w' ⟨rfl, rfl⟩))
      go_ret
      exact ⟨rfl, rfl⟩
    · by_cases c3 : ang a ≤ 192
      · have hs : sineF a = fsub 0 (quart (ang a - 128)) := by simp [sineF, sinN, c1, c2, c3]
        rw [hs]
        have he : (ang a : Int) - 128 = ((ang a - 128 : Nat) : Int) := by omega
        have HE := Lib.hid he
        have hq := (quart_ok (n := ang a - 128) (by omega)).o8
        clear he hs
        go_enter Try.func176, Try.ntmps176
        go_wp2_with (first | (go_at_call 168; refine (rest_c _ _ h1 h2).mono ?_; rintro e w' ⟨rfl, rfl⟩) | (go_at_call 176; rw [HE.out]; refine (sine_base _ _ (by omega)).mono ?_; rintro e w' ⟨rfl, rfl⟩))
        go_ret
        exact ⟨rfl, rfl⟩
      · have hs : sineF a = fsub 0 (quart (256 - ang a)) := by simp [sineF, sinN, c1, c2, c3]
        rw [hs]
        have he : (256 : Int) - (ang a : Int) = ((256 - ang a : Nat) : Int) := by omega
        have HE := Lib.hid he
        have hq := (quart_ok (n := 256 - ang a) (by omega)).o8
        clear he hs
        go_enter Try.func176, Try.ntmps176
        go_wp2_with (first | (go_at_call 168; refine (rest_c _ _ h1 h2).mono ?_; rintro e w' ⟨rfl, rfl⟩) | (go_at_call 176; rw [HE.out]; refine (sine_base _ _ (by omega)).mono ?_; rintro e w' ⟨rfl, rfl⟩))
        go_ret
        exact ⟨rfl, rfl⟩
theorem l01Sine_c (a : Int) (w : World) (h1 : -1000000 ≤ a) (h2 : a ≤ 1000000) :
    Calls Try.prog 184 #[.int .i64 a] w fun e w' => e = .returned (.float .f32 (sineF a)) ∧ w = w' := by
  have hr := ang_lt a
  by_cases c1 : ang a ≤ 64
  · have hs : sineF a = quart (ang a) := by simp [sineF, sinN, c1]
    rw [hs]
    clear hs
    go_enter Try.func184, Try.ntmps184
    go_wp2_with (first | (go_at_call 170; refine (l01Angle_c _ _ h1 h2).mono ?_; rintro e w' ⟨rfl, rfl⟩) | (go_at_call 185; refine (l01Quarter_c _ _ c1).mono ?_; rintro e w' ⟨rfl, rfl⟩))
    go_ret
    exact ⟨rfl, rfl⟩
  · by_cases c2 : ang a ≤ 128
    · have hs : sineF a = quart (128 - ang a) := by simp [sineF, sinN, c1, c2]
      rw [hs]
      have he : (128 : Int) - (ang a : Int) = ((128 - ang a : Nat) : Int) := by omega
      have HE := Lib.hid he
      clear he hs
      go_enter Try.func184, Try.ntmps184
      go_wp2_with (first | (go_at_call 170; refine (l01Angle_c _ _ h1 h2).mono ?_; rintro e w' ⟨rfl, rfl⟩) | (go_at_call 185; rw [HE.out]; refine (l01Quarter_c _ _ (by omega)).mono ?_; rintro e w' ⟨rfl, rfl⟩))
      go_ret
      exact ⟨rfl, rfl⟩
    · by_cases c3 : ang a ≤ 192
      · have hs : sineF a = fsub 0 (quart (ang a - 128)) := by simp [sineF, sinN, c1, c2, c3]
        rw [hs]
        have he : (ang a : Int) - 128 = ((ang a - 128 : Nat) : Int) := by omega
        have HE := Lib.hid he
        have hq := (quart_ok (n := ang a - 128) (by omega)).o8
        clear he hs
        go_enter Try.func184, Try.ntmps184
        go_wp2_with (first | (go_at_call 170; refine (l01Angle_c _ _ h1 h2).mono ?_; rintro e w' ⟨rfl, rfl⟩) | (go_at_call 185; rw [HE.out]; refine (l01Quarter_c _ _ (by omega)).mono ?_; rintro e w' ⟨rfl, rfl⟩))
        go_ret
        exact ⟨rfl, rfl⟩
      · have hs : sineF a = fsub 0 (quart (256 - ang a)) := by simp [sineF, sinN, c1, c2, c3]
        rw [hs]
        have he : (256 : Int) - (ang a : Int) = ((256 - ang a : Nat) : Int) := by omega
        have HE := Lib.hid he
        have hq := (quart_ok (n := 256 - ang a) (by omega)).o8
        clear he hs
        go_enter Try.func184, Try.ntmps184
        go_wp2_with (first | (go_at_call 170; refine (l01Angle_c _ _ h1 h2).mono ?_; rintro e w' ⟨rfl, rfl⟩) | (go_at_call 185; rw [HE.out]; refine (l01Quarter_c _ _ (by omega)).mono ?_; rintro e w' ⟨rfl, rfl⟩))
        go_ret
        exact ⟨rfl, rfl⟩
theorem CosineOf_c (a : Int) (w : World) (h1 : -1000000 ≤ a) (h2 : a ≤ 1000000) :
    Calls Try.prog 162 #[.int .i64 a] w fun e w' => e = .returned (.float .f32 (cosF a)) ∧ w = w' := by
  have hr := ang_lt a
  go_enter Try.func162, Try.ntmps162
  go_wp2_with (first | (go_at_call 168; refine (rest_c _ _ h1 h2).mono ?_; rintro e w' ⟨rfl, rfl⟩) | (go_at_call 176; refine (SineOf_c _ _ (by omega) (by omega)).mono ?_; rintro e w' ⟨rfl, rfl⟩))
  go_ret
  exact ⟨rfl, rfl⟩
theorem l01Cosine_c (a : Int) (w : World) (h1 : -1000000 ≤ a) (h2 : a ≤ 1000000) :
    Calls Try.prog 180 #[.int .i64 a] w fun e w' => e = .returned (.float .f32 (cosF a)) ∧ w = w' := by
  have hr := ang_lt a
  go_enter Try.func180, Try.ntmps180
  go_wp2_with (first | (go_at_call 170; refine (l01Angle_c _ _ h1 h2).mono ?_; rintro e w' ⟨rfl, rfl⟩) | (go_at_call 184; refine (l01Sine_c _ _ (by omega) (by omega)).mono ?_; rintro e w' ⟨rfl, rfl⟩))
  go_ret
  exact ⟨rfl, rfl⟩
/-- At least 0. -/
def at0 (a : Nat) : Nat := if fle a 0 then 0 else a
theorem at0_flt {a : Nat} (h : nn a) : at0 a = if flt 0 a then a else 0 := by
  unfold at0
  have h0 : nn 0 := by decide
  rw [fle_iff h h0, flt_iff h0 h]
  by_cases c : key a ≤ key 0
  · rw [decide_eq_true c, decide_eq_false (by omega)]; rfl
  · rw [decide_eq_false c, decide_eq_true (by omega)]; rfl
theorem at0_P {a : Nat} (h : nn a) : P0 (at0 a) := by
  rw [at0_flt h]
  have k0 : key 0 = 0 := by decide
  split
  · rename_i c; exact ⟨h, by have := (flt_key c).2.2; omega⟩
  · exact ⟨by decide, by decide⟩
theorem atLeast0_c (a : Nat) (w : World) :
    Calls Try.prog 161 #[.float .f32 a] w fun e w' => e = .returned (.float .f32 (at0 a)) ∧ w = w' := by
  cases h : fle a 0
  · go_enter Try.func161, Try.ntmps161
    go_wp2
    go_ret
    exact ⟨by simp [at0, h], rfl⟩
  · go_enter Try.func161, Try.ntmps161
    go_wp2
    go_ret
    exact ⟨by simp [at0, h], rfl⟩

end Go.Proofs.Ytdncopphjamilaa
