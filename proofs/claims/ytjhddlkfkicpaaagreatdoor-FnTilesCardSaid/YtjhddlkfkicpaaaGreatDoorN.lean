/- Walks: small functions on single numbers, of the program and of the reference: each pair answers by one Lean function. -/
import Derived.Test.YtjhddlkfkicpaaaGreatDoorB
import Derived.Test.YtjhddlkfkicpaaaGreatDoorFl
import Derived.Deep.Slices
import Derived.Deep.MidRow
namespace Go.Proofs.YtjhddlkfkicpaaaGreatDoor
set_option linter.unusedSimpArgs false
set_option linter.unusedVariables false
open Go.ChangeShapes Go.WideShapes Go.ChangeAt Go.RowKit Fl

/-- low ≤ a and a ≤ high, of floats. -/
def btw (a l h : Nat) : Bool := fle l a && fle a h
/-- low ≤ n and n ≤ high, of integers. -/
def inn (n l h : Int) : Bool := decide (l ≤ n) && decide (n ≤ h)
theorem inn_true {n l h : Int} : inn n l h = true ↔ l ≤ n ∧ n ≤ h := by simp [inn]
theorem inn_false {n l h : Int} : inn n l h = false ↔ ¬ (l ≤ n ∧ n ≤ h) := by rw [← inn_true]; simp
/-- The same number. -/
def sameF (a b : Nat) : Bool := if !feq a a || !feq b b then !feq a a && !feq b b else (a : Int) == (b : Int)
def isPart (a : Nat) : Bool := btw a 0 1065353216
def isPlain (a : Nat) : Bool := btw a 3380609024 1233125376
def isFineF (a : Nat) : Bool := isPlain a && fle 0 a

theorem isPart_nn {a : Nat} (h : isPart a = true) : nn a := by
  unfold isPart btw at h; simp only [Bool.and_eq_true] at h; exact (fle_nn h.2).1
theorem fle_flt {a b : Nat} (ha : isPart a = true) (hb : isPart b = true) : fle a b = !flt b a := by
  rw [fle_iff (isPart_nn ha) (isPart_nn hb), flt_iff (isPart_nn hb) (isPart_nn ha), Bool.eq_iff_iff]; simp

theorem within_c (n l h : Int) (w : World) :
    Calls Tryz.prog 37 #[.int .i64 n, .int .i64 l, .int .i64 h] w fun e w' => e = .returned (.bool (inn n l h)) ∧ w = w' := by
  by_cases c : l ≤ n
  · go_enter Tryz.func37, Tryz.ntmps37
    go_wp2
    all_goals (go_ret; exact ⟨by first | (simp [inn, *]; done) | (simp [inn, *]; omega), rfl⟩)
  · go_enter Tryz.func37, Tryz.ntmps37
    go_wp2
    all_goals (go_ret; exact ⟨by first | (simp [inn, *]; done) | (simp [inn, *]; omega), rfl⟩)
theorem l00In_c (n l h : Int) (w : World) :
    Calls Tryz.prog 62 #[.int .i64 n, .int .i64 l, .int .i64 h] w fun e w' => e = .returned (.bool (inn n l h)) ∧ w = w' := by
  by_cases c : l ≤ n
  · go_enter Tryz.func62, Tryz.ntmps62
    go_wp2
    all_goals (go_ret; exact ⟨by first | (simp [inn, *]; done) | (simp [inn, *]; omega), rfl⟩)
  · go_enter Tryz.func62, Tryz.ntmps62
    go_wp2
    all_goals (go_ret; exact ⟨by first | (simp [inn, *]; done) | (simp [inn, *]; omega), rfl⟩)
theorem IsPart_c (a : Nat) (w : World) :
    Calls Tryz.prog 60 #[.float .f32 a] w fun e w' => e = .returned (.bool (isPart a)) ∧ w = w' := by
  go_enter Tryz.func60, Tryz.ntmps60
  go_wp2
  all_goals (go_ret; exact ⟨by simp [isPart, btw, *], rfl⟩)
theorem l01Part_c (a : Nat) (w : World) :
    Calls Tryz.prog 63 #[.float .f32 a] w fun e w' => e = .returned (.bool (isPart a)) ∧ w = w' := by
  go_enter Tryz.func63, Tryz.ntmps63
  go_wp2
  all_goals (go_ret; exact ⟨by simp [isPart, btw, *], rfl⟩)
theorem f32bits_run (b : Nat) (w : World) : (callFunc 75 #[.float .f32 b]).run Tryz.prog w = .ok (.value (.int .u32 b)) w :=
  run_callFunc_extern (e := Extern.MathFloatBits.float32bits) Tryz.func75 (by kernel_rfl) (by kernel_rfl) (by kernel_rfl) (by kernel_rfl) #[.float .f32 b] w
theorem SameNumber_c (a b : Nat) (w : World) :
    Calls Tryz.prog 53 #[.float .f32 a, .float .f32 b] w fun e w' => e = .returned (.bool (sameF a b)) ∧ w = w' := by
  have fb := f32bits_run
  go_enter Tryz.func53, Tryz.ntmps53
  go_wp2
  all_goals (go_ret; exact ⟨by simp [sameF, *], rfl⟩)
theorem l01Same_c (a b : Nat) (w : World) :
    Calls Tryz.prog 52 #[.float .f32 a, .float .f32 b] w fun e w' => e = .returned (.bool (sameF a b)) ∧ w = w' := by
  have fb := f32bits_run
  go_enter Tryz.func52, Tryz.ntmps52
  go_wp2
  all_goals (go_ret; exact ⟨by simp [sameF, *], rfl⟩)

end Go.Proofs.YtjhddlkfkicpaaaGreatDoor

namespace Go.Proofs.YtjhddlkfkicpaaaGreatDoor
open Go.ChangeShapes Go.WideShapes Go.ChangeAt Go.RowKit Fl


theorem btw_F0 {a h : Nat} (k : btw a 0 h = true) (hh : fin h) : F0 a ∧ key a ≤ key h := by
  unfold btw at k
  simp only [Bool.and_eq_true] at k
  obtain ⟨_, n1, k1⟩ := fle_key k.1
  obtain ⟨_, n2, k2⟩ := fle_key k.2
  have hz : key 0 = 0 := by decide
  have p : P0 a := ⟨n1, by omega⟩
  exact ⟨F0_of_le p hh k2, k2⟩
theorem btw_P {a l h : Nat} (k : btw a l h = true) (hl : fin l) (hh : fin h) : fin a ∧ key l ≤ key a ∧ key a ≤ key h := by
  unfold btw at k
  simp only [Bool.and_eq_true] at k
  obtain ⟨_, n1, k1⟩ := fle_key k.1
  obtain ⟨_, n2, k2⟩ := fle_key k.2
  have := fin_key hl; have := fin_key hh
  exact ⟨fin_of_key n1 (by omega) (by omega), k1, k2⟩
theorem isPart_F0 {a : Nat} (h : isPart a = true) : F0 a ∧ key a ≤ key 1065353216 := btw_F0 h (by decide)
theorem isFine_F0 {a : Nat} (h : isFineF a = true) : F0 a := by
  unfold isFineF isPlain at h
  simp only [Bool.and_eq_true] at h
  obtain ⟨f, _, _⟩ := btw_P h.1 (by decide) (by decide)
  obtain ⟨_, _, k⟩ := fle_key h.2
  have hz : key 0 = 0 := by decide
  exact ⟨f, by omega⟩

/-- The strain of a gust. -/
def strainF (out gust : Nat) : Nat := fmul (fmul out out) gust
theorem strain_ok {out gust : Nat} (ho : F0 out) (hk : key out ≤ key 1090519040) (hg : F0 gust) :
    MulOk out out ∧ MulOk (fmul out out) gust ∧ nn (strainF out gust) := by
  obtain ⟨m1, p1⟩ := mul_F0 ho ho
  have h8 : F0 1090519040 := ⟨by decide, by decide⟩
  have k1 := mul_mono ho ho h8 h8 hk hk
  have f64 : fin (fmul 1090519040 1090519040) := by decide
  have f1 := F0_of_le p1 f64 k1
  obtain ⟨m2, p2⟩ := mul_F0 f1 hg
  exact ⟨m1, m2, p2.1⟩


end Go.Proofs.YtjhddlkfkicpaaaGreatDoor

namespace Go.Proofs.YtjhddlkfkicpaaaGreatDoor
open Go.ChangeShapes Go.WideShapes Go.ChangeAt Go.RowKit Fl

def qx (n : Nat) : Nat := fdiv (fofInt n) 1115684864
def qy (n : Nat) : Nat := fmul (qx n) (qx n)
def qp (n : Nat) : Nat := fsub 1059356672 (fmul (qy n) 1033109504)
def qq (n : Nat) : Nat := fsub 1070137344 (fmul (qy n) (qp n))
/-- The sine of an angle from 0 to 64. -/
def quart (n : Nat) : Nat := fmul (qx n) (qq n)
def quartB (n : Nat) : Bool :=
  (S.div (fofInt n) 1115684864).isSome && (S.mul (qx n) (qx n)).isSome && (S.mul (qy n) 1033109504).isSome && (S.sub 1059356672 (fmul (qy n) 1033109504)).isSome &&
  (S.mul (qy n) (qp n)).isSome && (S.sub 1070137344 (fmul (qy n) (qp n))).isSome && (S.mul (qx n) (qq n)).isSome && (S.sub 0 (quart n)).isSome &&
  decide (fin (quart n)) && decide (0 ≤ key (quart n)) && decide (key (quart n) ≤ key 1065353216) && decide (fin (fsub 0 (quart n))) && decide (key (fsub 0 (quart n)) = - key (quart n))
set_option maxRecDepth 100000 in
theorem quart_all : (List.range 65).all quartB = true := by decide +kernel
structure QuartOk (n : Nat) : Prop where
  o1 : DivOk (fofInt n) 1115684864
  o2 : MulOk (qx n) (qx n)
  o3 : MulOk (qy n) 1033109504
  o4 : SubOk 1059356672 (fmul (qy n) 1033109504)
  o5 : MulOk (qy n) (qp n)
  o6 : SubOk 1070137344 (fmul (qy n) (qp n))
  o7 : MulOk (qx n) (qq n)
  o8 : SubOk 0 (quart n)
  pos : F0 (quart n)
  one : key (quart n) ≤ key 1065353216
  fneg : fin (fsub 0 (quart n))
  kneg : key (fsub 0 (quart n)) = - key (quart n)
theorem quart_ok {n : Nat} (h : n ≤ 64) : QuartOk n := by
  have := List.all_eq_true.1 quart_all n (by simp; omega)
  simp only [quartB, Bool.and_eq_true, decide_eq_true_eq] at this
  obtain ⟨⟨⟨⟨⟨⟨⟨⟨⟨⟨⟨⟨h1, h2⟩, h3⟩, h4⟩, h5⟩, h6⟩, h7⟩, h8⟩, h9⟩, h10⟩, h11⟩, h12⟩, h13⟩ := this
  exact ⟨Option.isSome_iff_exists.1 h1, Option.isSome_iff_exists.1 h2, Option.isSome_iff_exists.1 h3, Option.isSome_iff_exists.1 h4, Option.isSome_iff_exists.1 h5, Option.isSome_iff_exists.1 h6, Option.isSome_iff_exists.1 h7, Option.isSome_iff_exists.1 h8, ⟨h9, h10⟩, h11, h12, h13⟩

/-- The rest modulo 256. -/
def ang (a : Int) : Nat := (a % 256).toNat
theorem ang_lt (a : Int) : ang a < 256 := by unfold ang; omega
theorem ang_cast (a : Int) : ((ang a : Nat) : Int) = a % 256 := by unfold ang; omega
theorem rest_eq (a : Int) : ((a.tmod 256) + 256).tmod 256 = (ang a : Int) := by
  rw [ang_cast]
  rcases Int.le_total 0 a with h | h
  · rw [Int.tmod_eq_emod_of_nonneg h, Int.tmod_eq_emod_of_nonneg (by omega)]; omega
  · have e : a.tmod 256 = -((-a) % 256) := by
      rw [← Int.tmod_eq_emod_of_nonneg (by omega : 0 ≤ -a), Int.neg_tmod, Int.neg_neg]
    rw [e, Int.tmod_eq_emod_of_nonneg (by omega)]; omega

/-- The sine of an angle from 0 to 255. -/
def sinN (r : Nat) : Nat := if r ≤ 64 then quart r else if r ≤ 128 then quart (128 - r) else if r ≤ 192 then fsub 0 (quart (r - 128)) else fsub 0 (quart (256 - r))
def sineF (a : Int) : Nat := sinN (ang a)
def cosF (a : Int) : Nat := sineF ((ang a : Int) + 64)
theorem sinN_ok {r : Nat} (h : r < 256) : fin (sinN r) ∧ -(key 1065353216) ≤ key (sinN r) ∧ key (sinN r) ≤ key 1065353216 := by
  have k0 : (0 : Int) ≤ key 1065353216 := by decide
  unfold sinN
  split
  · rename_i h1; have q := quart_ok h1; exact ⟨q.pos.1, by have := q.pos.2; omega, q.one⟩
  · split
    · have q := quart_ok (show 128 - r ≤ 64 by omega); exact ⟨q.pos.1, by have := q.pos.2; omega, q.one⟩
    · split
      · have q := quart_ok (show r - 128 ≤ 64 by omega); have := q.pos.2; have := q.one; exact ⟨q.fneg, by rw [q.kneg]; omega, by rw [q.kneg]; omega⟩
      · have q := quart_ok (show 256 - r ≤ 64 by omega); have := q.pos.2; have := q.one; exact ⟨q.fneg, by rw [q.kneg]; omega, by rw [q.kneg]; omega⟩
theorem sineF_ok (a : Int) : fin (sineF a) ∧ -(key 1065353216) ≤ key (sineF a) ∧ key (sineF a) ≤ key 1065353216 := sinN_ok (ang_lt a)
theorem cosF_ok (a : Int) : fin (cosF a) ∧ -(key 1065353216) ≤ key (cosF a) ∧ key (cosF a) ≤ key 1065353216 := sineF_ok _
theorem ang_id {n : Nat} (h : n < 256) : ang (n : Int) = n := by unfold ang; omega



/-- At least 0. -/
def at0 (a : Nat) : Nat := if fle a 0 then 0 else a
theorem at0_flt {a : Nat} (h : nn a) : at0 a = if flt 0 a then a else 0 := by
  unfold at0
  have h0 : nn 0 := by decide
  rw [fle_iff h h0, flt_iff h0 h]
  by_cases c : key a ≤ key 0
  · rw [decide_eq_true c, decide_eq_false (by omega)]; rfl
  · rw [decide_eq_false c, decide_eq_true (by omega)]; rfl
theorem at0_P {a : Nat} (h : nn a) : P0 (at0 a) := by
  rw [at0_flt h]
  have k0 : key 0 = 0 := by decide
  split
  · rename_i c; exact ⟨h, by have := (flt_key c).2.2; omega⟩
  · exact ⟨by decide, by decide⟩

end Go.Proofs.YtjhddlkfkicpaaaGreatDoor

namespace Go.Proofs.YtjhddlkfkicpaaaGreatDoor
open Go.ChangeShapes Go.WideShapes Go.RowKit

inductive CK where
  | i (k : IntKind)
  | f (k : FloatKind)

def CK.ok : CK → Value → Prop
  | .i k, v => ∃ n : Int, v = .int k n ∧ (Lit.int k n).wf = true
  | .f k, v => ∃ b : Nat, v = .float k b ∧ (Lit.float k b).wf = true

def CKs : List CK → List Value → Prop
  | [], [] => True
  | k :: ks, v :: vs => k.ok v ∧ CKs ks vs
  | _, _ => False

def flatFs (P : Program) (g : TypeId → Option (List CK)) (total : Nat) : List Field → Nat → Option (List CK)
  | [], o => if o = total then some [] else none
  | f :: r, o => if f.offset = o then (g f.type).bind fun l => if l.length = P.cellsOf f.type then (flatFs P g total r (o + l.length)).map (l ++ ·) else none else none

def flatK (P : Program) : Nat → TypeId → Option (List CK)
  | 0, _ => none
  | d + 1, t =>
    match P.underlying t with
    | some (.int k) => some [.i k]
    | some (.float k) => some [.f k]
    | some (.struct fs) => flatFs P (flatK P d) (P.cellsOf t) fs.toList 0
    | some (.array n e) => (flatK P d e).bind fun l => if l.length = P.cellsOf e ∧ P.cellsOf t = n * P.cellsOf e then some (List.replicate n l).flatten else none
    | _ => none

theorem CKs.length : ∀ {ks : List CK} {vs : List Value}, CKs ks vs → vs.length = ks.length
  | [], [], _ => rfl
  | _ :: _, _ :: _, h => by simp [CKs.length h.2]

theorem CKs.append : ∀ {ks : List CK} {vs : List Value} {ks' : List CK} {vs' : List Value}, CKs ks vs → CKs ks' vs' → CKs (ks ++ ks') (vs ++ vs')
  | [], [], _, _, _, h' => h'
  | _ :: _, _ :: _, _, _, h, h' => ⟨h.1, CKs.append h.2 h'⟩

theorem CKs.get : ∀ {ks : List CK} {vs : List Value} (_ : CKs ks vs) (j : Nat) (k : CK), ks[j]? = some k → ∃ v, vs[j]? = some v ∧ k.ok v
  | [], [], _, _, _, hj => by simp at hj
  | a :: ks, v :: vs, h, 0, k, hj => ⟨v, rfl, by simp at hj; rw [← hj]; exact h.1⟩
  | a :: ks, v :: vs, h, j + 1, k, hj => by
    obtain ⟨u, hu, ok⟩ := CKs.get h.2 j k (by simpa using hj)
    exact ⟨u, by simpa using hu, ok⟩

section
variable {H : Type} {enc : TypeId × Value → H} {P : Program} {w : World} {base : Nat} {spare : Nat → Bool} {held : Bool}

theorem flatFs_cells {g : TypeId → Option (List CK)} {total m : Nat} {cs : List Value}
    (ih : ∀ {t : TypeId} {ks : List CK} {c : List Value} {y : DataW H × List MemPlace}, g t = some ks → DataW.trod enc P w base spare held m t c = some y → CKs ks c) (hl : cs.length = total) :
    ∀ (r : List Field) (o : Nat) (ks : List CK), flatFs P g total r o = some ks → o ≤ total → (∀ f ∈ r, ∃ y, DataW.trod enc P w base spare held m f.type ((cs.drop f.offset).take (P.cellsOf f.type)) = some y) → CKs ks (cs.drop o)
  | [], o, ks, h, _, _ => by
    simp only [flatFs] at h
    split at h
    · cases h; rename_i e; subst e; rw [← hl, List.drop_length]; trivial
    · cases h
  | f :: r, o, ks, h, ho, hf => by
    simp only [flatFs] at h
    split at h
    · rename_i e
      cases hg : g f.type with
      | none => rw [hg] at h; cases h
      | some l =>
        rw [hg] at h; simp only [Option.bind_some] at h
        split at h
        · rename_i hlen
          cases hr : flatFs P g total r (o + l.length) with
          | none => rw [hr] at h; cases h
          | some ks' =>
            rw [hr] at h; simp only [Option.map_some, Option.some.injEq] at h
            obtain ⟨y, hy⟩ := hf f (by simp)
            have h1 := ih hg hy
            have h1l := h1.length
            rw [e] at h1 h1l
            rw [← h]
            simp only [List.length_take, List.length_drop] at h1l
            have hle : o + l.length ≤ total := by omega
            have h2 := flatFs_cells ih hl r (o + l.length) ks' hr hle (fun f' hf' => hf f' (by simp [hf']))
            have e2 : cs.drop o = (cs.drop o).take (P.cellsOf f.type) ++ cs.drop (o + l.length) := by
              rw [hlen, ← List.drop_drop, List.take_append_drop]
            rw [e2]
            exact h1.append h2
        · cases h
    · cases h

theorem flatA_cells {l : List CK} {c m : Nat} {e : TypeId} (hc : l.length = c) (ih : ∀ {cs : List Value} {y : DataW H × List MemPlace}, DataW.trod enc P w base spare held m e cs = some y → CKs l cs) :
    ∀ (n : Nat) (cs : List Value), cs.length = n * c → (∀ i, i < n → ∃ y, DataW.trod enc P w base spare held m e ((cs.drop (i * c)).take c) = some y) → CKs (List.replicate n l).flatten cs
  | 0, cs, hl, _ => by
    have : cs = [] := List.length_eq_zero_iff.1 (by omega)
    subst this; trivial
  | n + 1, cs, hl, h => by
    obtain ⟨y, hy⟩ := h 0 (by omega)
    rw [Nat.zero_mul, List.drop_zero] at hy
    have h1 := ih hy
    have h2 := flatA_cells hc ih n (cs.drop c) (by rw [List.length_drop, hl, Nat.add_mul]; omega) (fun i hi => by
      obtain ⟨y, hy⟩ := h (i + 1) (by omega)
      refine ⟨y, ?_⟩
      rw [List.drop_drop, show c + i * c = (i + 1) * c from by rw [Nat.add_mul]; omega]; exact hy)
    rw [List.replicate_succ, List.flatten_cons, ← List.take_append_drop c cs]
    exact h1.append h2

theorem flat_cells : ∀ (d : Nat) {t : TypeId} {ks : List CK} {fuel : Nat} {cs : List Value} {x : DataW H × List MemPlace},
    flatK P d t = some ks → DataW.trod enc P w base spare held fuel t cs = some x → CKs ks cs
  | 0, _, _, _, _, _, h, _ => by cases h
  | d + 1, t, ks, fuel, cs, x, h, hx => by
    simp only [flatK] at h
    split at h
    · rename_i k hu
      cases h
      cases fuel with
      | zero => simp [DataW.trod] at hx
      | succ m =>
        unfold DataW.trod at hx
        rw [hu] at hx
        split at hx <;> simp_all [CKs, CK.ok]
    · rename_i k hu
      cases h
      cases fuel with
      | zero => simp [DataW.trod] at hx
      | succ m =>
        unfold DataW.trod at hx
        rw [hu] at hx
        split at hx <;> simp_all [CKs, CK.ok]
    · rename_i fs hu
      obtain ⟨xs, n, rfl, _, hl, hxs, hg⟩ := DataW.trod_struct hu hx
      have := flatFs_cells (enc := enc) (w := w) (base := base) (spare := spare) (held := held) (m := n) (cs := cs) (fun {t ks c y} h1 h2 => flat_cells d h1 h2) hl fs.toList 0 ks h (Nat.zero_le _) (fun f hf => by
        obtain ⟨i, hi, he⟩ := List.mem_iff_getElem.1 hf
        have h1 := hg i f (by rw [← he]; simp at hi; simp [hi])
        have h2 : i < xs.length := by simp at hi; omega
        exact ⟨xs[i], by rw [h1]; exact List.getElem?_eq_getElem h2⟩)
      simpa using this
    · rename_i n e hu
      cases he : flatK P d e with
      | none => rw [he] at h; cases h
      | some l =>
        rw [he] at h; simp only [Option.bind_some] at h
        split at h
        · rename_i hc
          cases h
          obtain ⟨xs, m, rfl, _, hl, hxs, hg⟩ := DataW.trod_array hu hx
          refine flatA_cells (enc := enc) (w := w) (base := base) (spare := spare) (held := held) (m := m) hc.1 (fun h1 => flat_cells d he h1) n cs (by rw [hl, hc.2]) (fun i hi => ?_)
          exact ⟨xs[i]'(by omega), by rw [hg i hi]; exact List.getElem?_eq_getElem (by omega)⟩
        · cases h
    · cases h

/-- An argument that lies flat: its cells. -/
theorem open_flat {r : Reach} {b0 : Nat} {t : TypeId} {v : Value} {dt : DataW H} {ps : List MemPlace} {ks : List CK} {fs : Array Field} (hs : P.underlying t = some (.struct fs)) (hk : flatK P 5 t = some ks)
    (hv : Value.okWide P w r b0 t v) (h : DataW.Trod enc P w base spare held t v dt ps) : ∃ l : List Value, v = .agg l.toArray ∧ CKs ks l := by
  obtain ⟨cs, rfl, hsz⟩ := okWide_struct hs hv
  obtain ⟨fuel, hf⟩ := h
  exact ⟨cs.toList, by simp, flat_cells 5 hk hf⟩
end

theorem okf {v : Value} (h : (CK.f .f32).ok v) : ∃ b : Nat, v = .float .f32 b ∧ b < 4294967296 := by
  obtain ⟨b, e, hw⟩ := h
  exact ⟨b, e, by simpa [Lit.wf, FloatKind.format] using hw⟩
theorem oki {k : IntKind} {v : Value} (h : (CK.i k).ok v) : ∃ n : Int, v = .int k n ∧ k.min ≤ n ∧ n ≤ k.max := by
  obtain ⟨b, e, hw⟩ := h
  exact ⟨b, e, by simpa [Lit.wf] using hw⟩

theorem oki8 {v : Value} (h : (CK.i .i8).ok v) : ∃ n : Int, v = .int .i8 n ∧ (-128 ≤ n ∧ n ≤ 127) := by
  obtain ⟨n, e, a, b⟩ := oki h
  have h1 : IntKind.i8.min = -128 := by decide
  have h2 : IntKind.i8.max = 127 := by decide
  exact ⟨n, e, by omega, by omega⟩
theorem oki16 {v : Value} (h : (CK.i .i16).ok v) : ∃ n : Int, v = .int .i16 n ∧ (-32768 ≤ n ∧ n ≤ 32767) := by
  obtain ⟨n, e, a, b⟩ := oki h
  have h1 : IntKind.i16.min = -32768 := by decide
  have h2 : IntKind.i16.max = 32767 := by decide
  exact ⟨n, e, by omega, by omega⟩

theorem CKs1 {a : CK} {l : List Value} (h : CKs [a] l) : ∃ x, l = [x] ∧ a.ok x := by
  match l, h with
  | [x], h => exact ⟨x, rfl, h.1⟩
theorem CKs2 {a b : CK} {l : List Value} (h : CKs [a, b] l) : ∃ x y, l = [x, y] ∧ a.ok x ∧ b.ok y := by
  match l, h with
  | [x, y], h => exact ⟨x, y, rfl, h.1, h.2.1⟩
theorem CKs3 {a b c : CK} {l : List Value} (h : CKs [a, b, c] l) : ∃ x y z, l = [x, y, z] ∧ a.ok x ∧ b.ok y ∧ c.ok z := by
  match l, h with
  | [x, y, z], h => exact ⟨x, y, z, rfl, h.1, h.2.1, h.2.2.1⟩
theorem CKs4 {a b c d : CK} {l : List Value} (h : CKs [a, b, c, d] l) : ∃ x y z u, l = [x, y, z, u] ∧ a.ok x ∧ b.ok y ∧ c.ok z ∧ d.ok u := by
  match l, h with
  | [x, y, z, u], h => exact ⟨x, y, z, u, rfl, h.1, h.2.1, h.2.2.1, h.2.2.2.1⟩
theorem CKs5 {a b c d e : CK} {l : List Value} (h : CKs [a, b, c, d, e] l) : ∃ x y z u v, l = [x, y, z, u, v] ∧ a.ok x ∧ b.ok y ∧ c.ok z ∧ d.ok u ∧ e.ok v := by
  match l, h with
  | [x, y, z, u, v], h => exact ⟨x, y, z, u, v, rfl, h.1, h.2.1, h.2.2.1, h.2.2.2.1, h.2.2.2.2.1⟩
theorem CKs6 {a b c d e f : CK} {l : List Value} (h : CKs [a, b, c, d, e, f] l) : ∃ x y z u v s, l = [x, y, z, u, v, s] ∧ a.ok x ∧ b.ok y ∧ c.ok z ∧ d.ok u ∧ e.ok v ∧ f.ok s := by
  match l, h with
  | [x, y, z, u, v, s], h => exact ⟨x, y, z, u, v, s, rfl, h.1, h.2.1, h.2.2.1, h.2.2.2.1, h.2.2.2.2.1, h.2.2.2.2.2.1⟩

end Go.Proofs.YtjhddlkfkicpaaaGreatDoor

namespace Go.Proofs.YtjhddlkfkicpaaaGreatDoor
open Go.ChangeShapes Go.WideShapes Go.RowKit

/-- The slice at 'a' holds the elements 'es', of 'c' cells each. -/
def Elems (w : World) (a : Option Addr) (es : List (List Value)) (c : Nat) : Prop :=
  (∀ cs ∈ es, cs.length = c) ∧ (es = [] ∨ ∃ b off, a = some ⟨b, off, none⟩ ∧ b < w.heap.size ∧ ∀ i (h : i < es.length), w.rangeAt b (off + i * c) es[i])

theorem rangeAt_ext {w w' : World} (x : Ext w w') {b o : Nat} {cs : List Value} (hb : b < w.heap.size) (h : w.rangeAt b o cs) : w'.rangeAt b o cs := fun j v hv => by
  rw [Below.cell x (p := ⟨b, o + j, none⟩) hb]; exact h j v hv
theorem there_ext {w w' : World} (x : Ext w w') {b o n : Nat} (hb : b < w.heap.size) (h : w.there b o n) : w'.there b o n := fun j hj => by
  rw [Below.cell x (p := ⟨b, o + j, none⟩) hb, Below.frozen x (p := ⟨b, o + j, none⟩) hb]; exact h j hj

theorem Elems.ext {w w' : World} {a : Option Addr} {es : List (List Value)} {c : Nat} (h : Elems w a es c) (x : Ext w w') : Elems w' a es c := by
  refine ⟨h.1, h.2.imp id ?_⟩
  rintro ⟨b, off, e, hb, hr⟩
  exact ⟨b, off, e, Nat.lt_of_lt_of_le hb x.size, fun i hi => rangeAt_ext x hb (hr i hi)⟩

theorem Elems.at {w : World} {a : Option Addr} {es : List (List Value)} {c : Nat} (h : Elems w a es c) {k : Nat} (hk : k < es.length) :
    ∃ b off, a = some ⟨b, off, none⟩ ∧ b < w.heap.size ∧ ∀ i (h : i < es.length), w.rangeAt b (off + i * c) es[i] := by
  rcases h.2 with h0 | h0
  · subst h0; simp at hk
  · exact h0

theorem rangeAt_cell {w : World} {b o : Nat} {cs : List Value} (h : w.rangeAt b o cs) (j : Nat) (hj : j < cs.length) : w.cell? ⟨b, o + j, none⟩ = some cs[j] :=
  h j cs[j] (List.getElem?_eq_getElem hj)

theorem setCells_size (b : Nat) : ∀ (vs : List Value) (o : Nat) (w : World), (w.setCells b o vs).heap.size = w.heap.size
  | [], _, _ => rfl
  | v :: r, o, w => by unfold World.setCells; rw [setCells_size b r]; simp
theorem Below.setCells {B : Nat} {a : World} {b : Nat} (hb : B ≤ b) : ∀ (vs : List Value) (o : Nat) {w : World}, Below B a w → Below B a (w.setCells b o vs)
  | [], _, _, h => h
  | v :: r, o, _, h => Below.setCells hb r (o + 1) (h.setCell (p := ⟨b, o, none⟩) hb v)

/-- What a call makes: a new slice with the elements 'es'. -/
def MadeS (n : Nat) (es : List (List Value)) (c : Nat) (w : World) (e : Ending) (w' : World) : Prop :=
  ∃ g, e = .returned (.slice (some ⟨g, 0, none⟩) n n) ∧ w.heap.size ≤ g ∧ Elems w' (some ⟨g, 0, none⟩) es c ∧ Ext w w'

/-- In a loop that fills a new slice: k elements are there. -/
structure Filling (w : World) (g : Nat) (es : List (List Value)) (c k : Nat) (wr : World) : Prop where
  below : Below w.heap.size w wr
  new : w.heap.size ≤ g
  old : g < wr.heap.size
  room : wr.there g 0 (es.length * c)
  done : ∀ i (h : i < es.length), i < k → wr.rangeAt g (i * c) es[i]

theorem Filling.ext {w : World} {g : Nat} {es : List (List Value)} {c k : Nat} {wr w1 : World} (h : Filling w g es c k wr) (x : Ext wr w1) : Filling w g es c k w1 :=
  ⟨Below.trans h.below (Below.mono x h.below.size), h.new, Nat.lt_of_lt_of_le h.old x.size, there_ext x h.old h.room, fun i hi hk => rangeAt_ext x h.old (h.done i hi hk)⟩

theorem Filling.there {w : World} {g : Nat} {es : List (List Value)} {c k : Nat} {wr : World} (h : Filling w g es c k wr) (hk : k < es.length) : wr.there g (k * c) c := fun j hj => by
  have : k * c + j < es.length * c := by
    have := Nat.mul_le_mul_right c hk
    rw [Nat.succ_mul] at this; omega
  simpa using h.room (k * c + j) this

theorem Filling.put {w : World} {g : Nat} {es : List (List Value)} {c k : Nat} {wr : World} (h : Filling w g es c k wr) (hc : ∀ cs ∈ es, cs.length = c) (hk : k < es.length) :
    Filling w g es c (k + 1) (wr.setCells g (k * c) es[k]) := by
  have hl : es[k].length = c := hc _ (List.getElem_mem hk)
  refine ⟨Below.setCells h.new _ _ h.below, h.new, by rw [setCells_size]; exact h.old, World.there_setCells h.room _ _ _, fun i hi hik => ?_⟩
  by_cases e : i = k
  · subst e
    exact World.rangeAt_setCells_same _ _ _ _ (by rw [hl]; exact h.there hk)
  · have h1 : i < k := by omega
    refine World.rangeAt_setCells_apart (h.done i hi h1) _ _ _ (.inr (.inl ?_))
    rw [hc _ (List.getElem_mem hi)]
    have := Nat.mul_le_mul_right c h1
    rw [Nat.succ_mul] at this; exact this

theorem Filling.made {w : World} {g n : Nat} {es : List (List Value)} {c : Nat} {wr : World} (h : Filling w g es c n wr) (hn : es.length = n) (hc : ∀ cs ∈ es, cs.length = c) :
    MadeS n es c w (.returned (.slice (some ⟨g, 0, none⟩) n n)) wr := by
  subst hn
  exact ⟨g, rfl, h.new, ⟨hc, .inr ⟨g, 0, rfl, h.old, fun i hi => by simpa using h.done i hi hi⟩⟩, h.below⟩

theorem there_made (w : World) (z : Array Value) (n : Nat) (t : TypeId) : (w.alloc (.cells (madeCells z n) t)).there w.heap.size 0 n := fun j hj => by
  constructor
  · have hs : j < (madeCells z n).size := by rw [size_madeCells]; exact hj
    rw [Nat.zero_add, World.cell?_alloc_new, Array.getElem?_eq_getElem hs]; rfl
  · simp

/-- The beginning: the slice has just been made. -/
theorem Filling.start (w : World) (z : Array Value) (t : TypeId) (es : List (List Value)) (c : Nat) : Filling w w.heap.size es c 0 (w.alloc (.cells (madeCells z (es.length * c)) t)) :=
  ⟨(Below.refl _ _).alloc (Nat.le_refl _) _, Nat.le_refl _, by simp, there_made w z _ t, fun i hi h => by omega⟩

theorem make_at {P : Program} {t e : TypeId} {z : Value} {size bytes : Nat} (ht : P.underlying t = some (.slice e)) (hi : (P.info? e).map (fun i => (i.zero, i.size, i.bytes)) = some (some z, size, bytes)) (hb : bytes ≤ 1000)
    (n : Nat) (hn : n ≤ 1048576) (w : World) : (Instr.makeSlice t (.int .i64 (n : Int)) (.int .i64 (n : Int))).run P w = .ok (.slice (some ⟨w.heap.size, 0, none⟩) n n) (w.alloc (.cells (madeCells z.cells (n * size)) e)) := by
  obtain ⟨i, h1, h2, h3, h4⟩ := info_parts hi
  have hbn : i.bytes * n ≤ 1000 * 1048576 := Nat.mul_le_mul (by omega) hn
  have hbn' : ((i.bytes : Int) * (n : Int)) ≤ 1048576000 := by rw [← Int.natCast_mul]; omega
  have := run_make w t e i z ht h1 h2 .i64 .i64 n n (by omega) (Int.le_refl _) (by omega) (by omega)
  rw [this, h3]; simp

/-- A struct result that lies in a cell. -/
theorem ret_cell {fn : Func} {p : Tmp} {ty : TypeId} {a : Addr} {tmps : Array Value} {v : Value} {P : Program} {w : World} (h : fn.results = #[.cell p ty]) (hp : tmps.getD p undef = .pointer (some a))
    (hl : (loadVar ty a).run P w = .ok v w) : (results fn tmps).run P w = .ok v w := by
  have hp' : tmps[p]?.getD undef = .pointer (some a) := by simpa using hp
  simp only [results, h]
  simp [hp', asAddr, hl]

/-! ### boxes -/
theorem box_range (w : World) (l : List Value) (t : TypeId) : (w.alloc (.cells l.toArray t)).rangeAt w.heap.size 0 l := fun j v hv => by
  rw [Nat.zero_add, World.cell?_alloc_new]; simpa using hv
theorem box_there (w : World) (C : Array Value) (t : TypeId) (n : Nat) (hn : C.size = n) : (w.alloc (.cells C t)).there w.heap.size 0 n := fun j hj => by
  constructor
  · rw [Nat.zero_add, World.cell?_alloc_new, Array.getElem?_eq_getElem (by omega)]; rfl
  · simp
theorem box2_there (w : World) (a : Obj) (C : Array Value) (t : TypeId) (n : Nat) (hn : C.size = n) : ((w.alloc a).alloc (.cells C t)).there (w.heap.size + 1) 0 n := by
  have := box_there (w.alloc a) C t n hn
  rwa [World.size_alloc] at this
theorem box3_there (w : World) (a b : Obj) (C : Array Value) (t : TypeId) (n : Nat) (hn : C.size = n) : (((w.alloc a).alloc b).alloc (.cells C t)).there (w.heap.size + 1 + 1) 0 n := by
  have := box_there ((w.alloc a).alloc b) C t n hn
  rwa [World.size_alloc, World.size_alloc] at this
theorem rangeAt_set {w : World} {b' o' : Nat} {cs : List Value} (h : w.rangeAt b' o' cs) (b o : Nat) (v : Value) (hne : b' ≠ b) : (w.setCell ⟨b, o, none⟩ v).rangeAt b' o' cs :=
  World.rangeAt_setCells_apart h b o [v] (.inl hne)
theorem there_set {w : World} {b' o' n : Nat} (h : w.there b' o' n) (b o : Nat) (v : Value) : (w.setCell ⟨b, o, none⟩ v).there b' o' n :=
  World.there_setCells h b o [v]
/-- An argument that is a slice of flat elements. -/
structure FlatSlice (w : World) (ks : List CK) (a : Option Addr) (len : Nat) where
  es : List (List Value)
  len_eq : es.length = len
  elems : Elems w a es ks.length
  kinds : ∀ cs ∈ es, CKs ks cs

section
variable {H : Type} {enc : TypeId × Value → H} {P : Program} {w : World} {base : Nat} {spare : Nat → Bool} {held : Bool}
theorem open_flats {t e : TypeId} {a : Option Addr} {len cap : Nat} {dt : DataW H} {ps : List MemPlace} {ks : List CK} (ht : P.underlying t = some (.slice e)) (hk : flatK P 5 e = some ks) (hC : P.cellsOf e = ks.length) (hpos : 0 < ks.length)
    (h : DataW.Trod enc P w base spare held t (.slice a len cap) dt ps) : Nonempty (FlatSlice w ks a len) ∧ (a = none → len = 0) ∧ len ≤ 9223372036854775807 := by
  obtain ⟨fuel, hf⟩ := h
  rcases Go.Deep.open_slice ht hf with ⟨hcs, _⟩ | ⟨ad, len', cap', m, n, D, Pl, hcs, hb, hl, hm, hmm, hx, hi⟩
  · simp [Value.cells] at hcs
    obtain ⟨rfl, rfl, rfl⟩ := hcs
    exact ⟨⟨⟨[], rfl, ⟨by simp, .inl rfl⟩, by simp⟩⟩, fun _ => rfl, by omega⟩
  · simp [Value.cells] at hcs
    obtain ⟨rfl, rfl, rfl⟩ := hcs
    have hml : maxLen = 9223372036854775807 := by decide
    refine ⟨?_, (fun h => by cases h), by omega⟩
    have hlm : len ≤ m := by rw [hmm]; split <;> omega
    have key : ∀ i, i < len → ∃ cs, w.cells? base (ad.add (i * ks.length)) ks.length = some cs ∧ CKs ks cs := fun i hil => by
      obtain ⟨cs, hc, htr⟩ := hi i (by omega)
      rw [hC] at hc
      exact ⟨cs, hc, flat_cells 5 hk htr⟩
    let el : Nat → List Value := fun i => if hil : i < len then (key i hil).choose else []
    have hel : ∀ i, i < len → w.cells? base (ad.add (i * ks.length)) ks.length = some (el i) ∧ CKs ks (el i) := fun i hil => by
      simp only [el, dif_pos hil]; exact (key i hil).choose_spec
    refine ⟨⟨(List.range len).map el, by simp, ⟨?_, ?_⟩, ?_⟩⟩
    · intro cs hcs
      obtain ⟨i, hi, rfl⟩ := List.mem_map.1 hcs
      exact (hel i (by simpa using hi)).2.length
    · by_cases h0 : len = 0
      · left; simp [h0]
      · right
        obtain ⟨b, off, spot⟩ := ad
        have h1 := (hel 0 (by omega)).1
        obtain ⟨_, hcl, hat⟩ := World.cells?_some h1
        obtain ⟨v0, hv0⟩ : ∃ v, (el 0)[0]? = some v := ⟨_, List.getElem?_eq_getElem (by rw [(hel 0 (by omega)).2.length]; exact hpos)⟩
        have c0 : w.cell? ((Addr.mk b off spot).add (0 * ks.length)) = some v0 := by
          have := hat 0 hpos
          rw [hv0] at this
          simpa [Addr.add] using this
        have hs : spot = none := by simpa [Addr.add] using World.cell?_spot c0
        subst hs
        refine ⟨b, off, rfl, ?_, fun i hi => ?_⟩
        · have := World.block_lt_of_cell? w _ c0
          simpa [Addr.add] using this
        · simp only [List.length_map, List.length_range] at hi
          simp only [List.getElem_map, List.getElem_range]
          obtain ⟨_, hcl', hat'⟩ := World.cells?_some (hel i hi).1
          intro j v hv
          have hj : j < ks.length := by
            have := (List.getElem?_eq_some_iff.1 hv).1
            rw [(hel i hi).2.length] at this; exact this
          have := hat' j hj
          rw [hv] at this
          rw [← this, Addr.add_mid, Addr.add_mid]
    · intro cs hcs
      obtain ⟨i, hi, rfl⟩ := List.mem_map.1 hcs
      exact (hel i (by simpa using hi)).2
end

end Go.Proofs.YtjhddlkfkicpaaaGreatDoor
