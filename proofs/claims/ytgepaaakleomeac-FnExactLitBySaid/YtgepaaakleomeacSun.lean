/- Suns: a struct of two arrays of 24 integers, by value and in memory; walks. -/
import Derived.Test.YtgepaaakleomeacSl
import Derived.Test.YtgepaaakleomeacSin
namespace Go.Proofs.Ytgepaaakleomeac
set_option linter.unusedSimpArgs false
set_option linter.unusedVariables false
open Go.ChangeShapes Go.WideShapes Go.ChangeAt Go.RowKit Fl

/-- n integers of 16 bits. -/
def ints (n : Nat) (s : Nat → Int) : List Value := (List.range n).map fun i => .int .i16 (s i)
theorem ints_length (n : Nat) (s : Nat → Int) : (ints n s).length = n := by simp [ints]
theorem ints_size (n : Nat) (s : Nat → Int) : (ints n s).toArray.size = n := by simp [ints]
theorem ints_get {n i : Nat} (s : Nat → Int) (h : i < n) : (ints n s)[i]? = some (.int .i16 (s i)) := by simp [ints, h]
theorem ints_of {n : Nat} {l : List Value} (h : CKs (List.replicate n (.i .i16)) l) : ∃ s : Nat → Int, l = ints n s ∧ ∀ i, -32768 ≤ s i ∧ s i ≤ 32767 := by
  have hl := h.length
  rw [List.length_replicate] at hl
  have key : ∀ i, i < n → ∃ k : Int, l[i]? = some (.int .i16 k) ∧ (-32768 ≤ k ∧ k ≤ 32767) := fun i hi => by
    obtain ⟨v, hv, ok⟩ := h.get i (.i .i16) (by simp [hi])
    obtain ⟨k, rfl, b⟩ := oki16 ok
    exact ⟨k, hv, b⟩
  refine ⟨fun i => if hi : i < n then (key i hi).choose else 0, ?_, fun i => ?_⟩
  · apply List.ext_getElem?
    intro i
    by_cases hi : i < n
    · rw [ints_get _ hi, dif_pos hi]; exact (key i hi).choose_spec.1
    · rw [List.getElem?_eq_none (by omega), List.getElem?_eq_none (by rw [ints_length]; omega)]
  · by_cases hi : i < n
    · simp only [dif_pos hi]; exact (key i hi).choose_spec.2
    · simp only [dif_neg hi]; omega

theorem infoA24 : (Try.prog.info? 27).map (·.size) = some 24 := by kernel_rfl
theorem sizeA24 (s : Nat → Int) : (Try.prog.info? 27).map (·.size) = some (ints 24 s).length := by rw [ints_length]; exact infoA24
theorem oneCell_ints (n : Nat) (s : Nat → Int) : (ints n s).toArray.all (·.oneCell') = true :=
  all_oneCell_toArray fun v hv => by
    simp only [ints, List.mem_map] at hv
    obtain ⟨i, _, rfl⟩ := hv
    rfl

theorem range_low {w : World} {b o : Nat} {s : Nat → Int} (h : w.rangeAt b o (ints 48 s)) : w.rangeAt b o (ints 24 s) := fun j v hv => by
  have hj : j < 24 := by have := (List.getElem?_eq_some_iff.1 hv).1; rwa [ints_length] at this
  rw [ints_get s hj] at hv
  exact h j v (by rw [ints_get s (by omega)]; exact hv)
theorem range_high {w : World} {b o : Nat} {s : Nat → Int} (h : w.rangeAt b o (ints 48 s)) : w.rangeAt b (o + 24) (ints 24 fun i => s (24 + i)) := fun j v hv => by
  have hj : j < 24 := by have := (List.getElem?_eq_some_iff.1 hv).1; rwa [ints_length] at this
  rw [ints_get _ hj] at hv
  rw [Nat.add_assoc]
  exact h (24 + j) v (by rw [ints_get s (by omega)]; exact hv)
theorem range_both {w : World} {b o : Nat} {s : Nat → Int} (h : w.rangeAt b o (ints 24 s)) (h' : w.rangeAt b (o + 24) (ints 24 fun i => s (24 + i))) : w.rangeAt b o (ints 48 s) := fun j v hv => by
  have hj : j < 48 := by have := (List.getElem?_eq_some_iff.1 hv).1; rwa [ints_length] at this
  rw [ints_get s hj] at hv
  by_cases c : j < 24
  · exact h j v (by rw [ints_get s c]; exact hv)
  · have := h' (j - 24) v (by rw [ints_get _ (by omega)]; simp only [show 24 + (j - 24) = j from by omega]; exact hv)
    rwa [show o + 24 + (j - 24) = o + j from by omega] at this
theorem there_high {w : World} {b o : Nat} (h : w.there b o 48) : w.there b (o + 24) 24 := fun j hj => by
  rw [Nat.add_assoc]; exact h (24 + j) (by omega)
theorem there_low {w : World} {b o : Nat} (h : w.there b o 48) : w.there b o 24 := fun j hj => h j (by omega)
theorem infoSun : (Try.prog.info? 37).map (·.size) = some 48 := by kernel_rfl
theorem sizeSun (s : Nat → Int) : (Try.prog.info? 37).map (·.size) = some (ints 48 s).length := by rw [ints_length]; exact infoSun

structure Copy24 (w : World) (s : Nat → Int) (k : Nat) (wr : World) : Prop where
  ext : Ext w wr
  big : w.heap.size + 1 + 1 < wr.heap.size
  src : wr.rangeAt w.heap.size 0 (ints 24 s)
  res : wr.there (w.heap.size + 1) 0 24
  room : wr.there (w.heap.size + 1 + 1) 0 24
  done : ∀ i, i < k → wr.cell? ⟨w.heap.size + 1 + 1, i, none⟩ = some (.int .i16 (s i))

theorem Copy24.step {w : World} {s : Nat → Int} {k : Nat} {wr : World} (h : Copy24 w s k wr) (hk : k < 24) : Copy24 w s (k + 1) (wr.setCell ⟨w.heap.size + 1 + 1, k, none⟩ (.int .i16 (s k))) := by
  refine ⟨Below.setCell h.ext (p := ⟨w.heap.size + 1 + 1, k, none⟩) (by first | (simp; done) | (simp; omega)) _, by simpa using h.big, rangeAt_set h.src _ _ _ (by omega), there_set h.res _ _ _, there_set h.room _ _ _, fun i hi => ?_⟩
  by_cases e : i = k
  · subst e
    exact World.cell?_setCell_same' _ _ _ (by simpa using (h.room i hk).1)
  · rw [World.cell?_setCell_other _ _ _ _ (by first | (simp; done) | (simp; omega))]
    exact h.done i (by omega)

theorem Copy24.all {w : World} {s : Nat → Int} {wr : World} (h : Copy24 w s 24 wr) : wr.rangeAt (w.heap.size + 1 + 1) 0 (ints 24 s) := fun j v hv => by
  have hj : j < 24 := by have := (List.getElem?_eq_some_iff.1 hv).1; rwa [ints_length] at this
  rw [ints_get s hj] at hv
  rw [Nat.zero_add, h.done j hj, hv]

theorem Copy24.start (w : World) (s : Nat → Int) (z z' : Array Value) (hz : z.size = 24) (hz' : z'.size = 24) (t : TypeId) : Copy24 w s 0 (((w.alloc (.cells (ints 24 s).toArray t)).alloc (.cells z t)).alloc (.cells z' t)) := by
  have e1 : (w.alloc (.cells (ints 24 s).toArray t)).heap.size = w.heap.size + 1 := by simp
  have e2 : ((w.alloc (.cells (ints 24 s).toArray t)).alloc (.cells z t)).heap.size = w.heap.size + 1 + 1 := by simp
  refine ⟨(((Below.refl _ _).alloc (Nat.le_refl _) _).alloc (by simp) _).alloc (by first | (simp; done) | (simp; omega)) _, by simp, ?_, ?_, ?_, fun i hi => by omega⟩
  · exact World.rangeAt_alloc (World.rangeAt_alloc (box_range w _ t) _) _
  · have := box_there (w.alloc (.cells (ints 24 s).toArray t)) z t 24 hz
    rw [e1] at this
    exact World.there_alloc this _
  · have := box_there ((w.alloc (.cells (ints 24 s).toArray t)).alloc (.cells z t)) z' t 24 hz'
    rw [e2] at this
    exact this

theorem toInt16A24_c (s : Nat → Int) (w : World) :
    Calls Try.prog 27 #[.agg (ints 24 s).toArray] w fun e w' => e = .returned (.agg (ints 24 s).toArray) ∧ Ext w w' := by
  go_enter Try.func27, Try.ntmps27
  go_wp2
  go_loopw [4] (fun i wr => ∃ k : Nat, k ≤ 24 ∧ i = .int .i64 k ∧ Copy24 w s k wr) (fun i _ => 24 - (intOf i).toNat)
  case atStart => exact ⟨0, by omega, rfl, Copy24.start w s _ _ rfl rfl _⟩
  case round =>
    obtain ⟨k, hk, rfl, hC⟩ := hrel
    by_cases hlt : k < 24
    · have hlt' : (k : Int) < 24 := by omega
      have c0 : wr.cell? ⟨w.heap.size, k, none⟩ = some (.int .i16 (s k)) := by
        have := hC.src k _ (ints_get s hlt); rwa [Nat.zero_add] at this
      obtain ⟨v0, c1⟩ : ∃ v, wr.cell? ⟨w.heap.size + 1 + 1, k, none⟩ = some v := Option.isSome_iff_exists.1 (by simpa using (hC.room k hlt).1)
      have c2 : wr.frozen? ⟨w.heap.size + 1 + 1, k, none⟩ = false := by simpa using (hC.room k hlt).2
      have HC := Lib.hid hC
      clear hC
      go_wp2
      go_roundw
      case rel => exact ⟨k + 1, by omega, by go_num, HC.out.step hlt⟩
      case measure => simp [intOf]; omega
    · obtain rfl : k = 24 := by omega
      have HC := Lib.hid hC
      clear hC
      go_wp2_with (first | (refine wpList_load_mid rfl 27 (.tmp 3) rfl (w.heap.size + 1 + 1) 0 rfl (ints 24 s) _ HC.out.all Try.underlying27 rfl (sizeA24 s) ?_) | (refine wpList_store_mid rfl 27 (.tmp 2) (.tmp 14) rfl (w.heap.size + 1) 0 (ints 24 s).toArray rfl rfl ?c1 ?c2 ?c3 ?_; (rw [ints_size]; exact HC.out.res); (rw [ints_size]; exact infoA24); (exact oneCell_ints 24 s)))
      have hr : (wr.setCells (w.heap.size + 1) 0 (ints 24 s)).rangeAt (w.heap.size + 1) 0 (ints 24 s) := World.rangeAt_setCells_same _ _ _ _ (by rw [ints_length]; exact HC.out.res)
      have hl := run_loadVar_mid (P := Try.prog) _ _ _ _ _ _ hr Try.underlying27 rfl (sizeA24 s)
      refine bodyPost_ret (v := .agg (ints 24 s).toArray) (ret_cell Try.results27 rfl hl) rfl ⟨rfl, ?_⟩
      exact Below.setCells (by omega) _ _ HC.out.ext
set_option maxHeartbeats 1000000 in
theorem toSun_c (s : Nat → Int) (w : World) :
    Calls Try.prog 8 #[.agg (ints 48 s).toArray] w fun e w' => e = .returned (.agg (ints 48 s).toArray) ∧ Ext w w' := by
  go_enter Try.func8, Try.ntmps8
  go_wp2_with (show wpList _ _ _ ({ dst := _, op := Op.load 27 (.tmp 4), type := _, pos := _, after := _, guard := _ } :: _) _ _; refine wpList_load_mid rfl 27 (.tmp 4) rfl w.heap.size 0 rfl (ints 24 s) _ (range_low (World.rangeAt_alloc (World.rangeAt_alloc (box_range w _ _) _) _)) Try.underlying27 rfl (sizeA24 s) ?_)
  refine (toInt16A24_c s _).mono ?_
  rintro e w1 ⟨rfl, hx1⟩
  have x1 : Ext w w1 := Ext.trans (((((Below.refl _ _).alloc (Nat.le_refl _) _).alloc (by simp) _).alloc (by first | (simp; done) | (simp; omega)) _)) hx1
  have z1 := hx1.size
  simp at z1
  have src1 : w1.rangeAt w.heap.size 0 (ints 48 s) := rangeAt_ext hx1 (by first | (simp; done) | (simp; omega)) (World.rangeAt_alloc (World.rangeAt_alloc (box_range w _ _) _) _)
  have res1 : w1.there (w.heap.size + 1) 0 48 := there_ext hx1 (by first | (simp; done) | (simp; omega)) (World.there_alloc (box2_there w _ _ _ 48 (by simp)) _)
  have out1 : w1.there (w.heap.size + 1 + 1) 0 48 := there_ext hx1 (by first | (simp; done) | (simp; omega)) (box3_there w _ _ _ _ 48 (by simp))
  have X1 := Lib.hid x1; have SRC := Lib.hid src1; have RES := Lib.hid res1; have OUT := Lib.hid out1
  clear x1 src1 res1 out1 hx1
  go_wp2_with (first | (show wpList _ _ _ ({ dst := _, op := Op.store 27 (.tmp 7) (.tmp 6), type := _, pos := _, after := _, guard := _ } :: _) _ _; refine wpList_store_mid rfl 27 (.tmp 7) (.tmp 6) rfl (w.heap.size + 1 + 1) 0 ((ints 24 s).toArray) rfl rfl ?ca1 ?cb1 ?cc1 ?_; (exact (by rw [ints_size]; exact there_low OUT.out)); (exact (by rw [ints_size]; exact infoA24)); (exact oneCell_ints 24 s)) | (show wpList _ _ _ ({ dst := _, op := Op.load 27 (.tmp 8), type := _, pos := _, after := _, guard := _ } :: _) _ _; refine wpList_load_mid rfl 27 (.tmp 8) rfl w.heap.size 24 rfl (ints 24 fun i => s (24 + i)) _ (World.rangeAt_setCells_apart (range_high SRC.out) _ _ _ (.inl (by omega))) Try.underlying27 rfl (sizeA24 _) ?_))
  refine (toInt16A24_c _ _).mono ?_
  rintro e w2 ⟨rfl, hx2⟩
  have x2 : Ext w w2 := Ext.trans (Below.setCells (by omega) _ _ X1.out) hx2
  have z2 := hx2.size
  rw [setCells_size] at z2
  have low2 : w2.rangeAt (w.heap.size + 1 + 1) 0 (ints 24 s) := rangeAt_ext hx2 (by rw [setCells_size]; omega) (World.rangeAt_setCells_same _ _ _ _ (by rw [ints_length]; exact there_low OUT.out))
  have res2 : w2.there (w.heap.size + 1) 0 48 := there_ext hx2 (by rw [setCells_size]; omega) (World.there_setCells RES.out _ _ _)
  have out2 : w2.there (w.heap.size + 1 + 1) 0 48 := there_ext hx2 (by rw [setCells_size]; omega) (World.there_setCells OUT.out _ _ _)
  have X2 := Lib.hid x2; have LOW := Lib.hid low2; have RES2 := Lib.hid res2; have OUT2 := Lib.hid out2
  clear x2 low2 res2 out2 hx2 X1 SRC RES OUT
  have all3 : (w2.setCells (w.heap.size + 1 + 1) 24 (ints 24 fun i => s (24 + i))).rangeAt (w.heap.size + 1 + 1) 0 (ints 48 s) :=
    range_both (World.rangeAt_setCells_apart LOW.out _ _ _ (.inr (.inl (by rw [ints_length]; omega)))) (World.rangeAt_setCells_same _ _ _ _ (by rw [ints_length]; exact there_high OUT2.out))
  have res3 : (w2.setCells (w.heap.size + 1 + 1) 24 (ints 24 fun i => s (24 + i))).there (w.heap.size + 1) 0 48 := World.there_setCells RES2.out _ _ _
  have ALL := Lib.hid all3; have RES3 := Lib.hid res3
  clear all3 res3
  go_wp2_with (first | (show wpList _ _ _ ({ dst := _, op := Op.store 27 (.tmp 11) (.tmp 10), type := _, pos := _, after := _, guard := _ } :: _) _ _; refine wpList_store_mid rfl 27 (.tmp 11) (.tmp 10) rfl (w.heap.size + 1 + 1) 24 ((ints 24 fun i => s (24 + i)).toArray) rfl rfl ?ca2 ?cb2 ?cc2 ?_; (exact (by rw [ints_size]; exact there_high OUT2.out)); (exact (by rw [ints_size]; exact infoA24)); (exact oneCell_ints 24 _)) | (show wpList _ _ _ ({ dst := _, op := Op.load 37 (.tmp 3), type := _, pos := _, after := _, guard := _ } :: _) _ _; refine wpList_load_mid rfl 37 (.tmp 3) rfl (w.heap.size + 1 + 1) 0 rfl (ints 48 s) _ (ALL.out) Try.underlying37 rfl (sizeSun s) ?_) | (show wpList _ _ _ ({ dst := _, op := Op.store 37 (.tmp 2) (.tmp 12), type := _, pos := _, after := _, guard := _ } :: _) _ _; refine wpList_store_mid rfl 37 (.tmp 2) (.tmp 12) rfl (w.heap.size + 1) 0 ((ints 48 s).toArray) rfl rfl ?ca3 ?cb3 ?cc3 ?_; (exact (by rw [ints_size]; exact RES3.out)); (exact (by rw [ints_size]; exact infoSun)); (exact oneCell_ints 48 s)))
  have hr := World.rangeAt_setCells_same _ (w.heap.size + 1) 0 (ints 48 s) (by rw [ints_length]; exact RES3.out)
  have hl := run_loadVar_mid (P := Try.prog) _ _ _ _ _ _ hr Try.underlying37 rfl (sizeSun s)
  refine bodyPost_ret (v := .agg (ints 48 s).toArray) (ret_cell Try.results8 rfl hl) rfl ⟨rfl, ?_⟩
  exact Below.setCells (by omega) _ _ (Below.setCells (by omega) _ _ X2.out)
def sunH (s : Nat → Int) (h : Nat) : Bool := inn (s h) (-64) 64 && inn (s (24 + h)) 0 255
def vSun (s : Nat → Int) : Bool := (List.range 24).all (sunH s)
theorem vSun_no {s : Nat → Int} {k : Nat} (hk : k < 24) (h : sunH s k = false) : vSun s = false := by
  unfold vSun; rw [List.all_eq_false]; exact ⟨k, by simpa using hk, by simp [h]⟩
theorem range_all {s : Nat → Int} {k : Nat} (h : (List.range k).all (sunH s) = true) (h' : sunH s k = true) : (List.range (k + 1)).all (sunH s) = true := by
  rw [List.range_succ, List.all_append, h]; simp [h']
theorem vSun_at {s : Nat → Int} (h : vSun s = true) {k : Nat} (hk : k < 24) : (-64 ≤ s k ∧ s k ≤ 64) ∧ (0 ≤ s (24 + k) ∧ s (24 + k) ≤ 255) := by
  have := List.all_eq_true.1 h k (by simpa using hk)
  simp only [sunH, Bool.and_eq_true, inn_true] at this
  exact this
def Small (s : Nat → Int) : Prop := ∀ i, -32768 ≤ s i ∧ s i ≤ 32767
theorem ValidSun_c (s : Nat → Int) (w : World) (hs : Small s) :
    Calls Try.prog 28 #[.agg (ints 48 s).toArray] w fun e w' => e = .returned (.bool (vSun s)) ∧ Ext w w' := by
  have HS := Lib.hid hs
  clear hs
  go_enter Try.func28, Try.ntmps28
  go_wp2
  go_loop [4] (fun i => ∃ k : Nat, k ≤ 24 ∧ i = .int .i64 k ∧ (List.range k).all (sunH s) = true) (fun i => 24 - (intOf i).toNat)
  case atStart => exact ⟨0, by omega, rfl, rfl⟩
  case round =>
    obtain ⟨k, hk, rfl, hall⟩ := hrel
    have HA := Lib.hid hall
    clear hall
    by_cases hlt : k < 24
    · have hlt' : (k : Int) < 24 := by omega
      have g0 : (ints 48 s)[k]? = some (.int .i16 (s k)) := ints_get s (by omega)
      have g1 : (ints 48 s)[24 + k]? = some (.int .i16 (s (24 + k))) := ints_get s (by omega)
      obtain ⟨b1, b2⟩ := HS.out k
      obtain ⟨b3, b4⟩ := HS.out (24 + k)
      go_wp2_with (go_at_call 49; refine (within_c _ _ _ _).mono ?_; rintro e w' ⟨rfl, rfl⟩)
      all_goals
        first
        | (go_ret; exact ⟨by rw [vSun_no hlt (by first | (simp [sunH, *]; done) | (simp only [Bool.not_eq_true', Bool.not_eq_false'] at *; simp [sunH, *]))]; rfl, by (repeat (first | assumption | exact Below.refl _ _ | refine Below.alloc ?_ (by first | omega | (simp; done) | (simp; omega)) _ | refine Below.setCell ?_ (by first | omega | (simp; done) | (simp; omega)) _ | refine Below.drew ?_ | refine Below.trans ?_ (Below.mono (by assumption) (by first | omega | (simp; done) | (simp; omega)))))⟩)
        | (go_round
           case rel => exact ⟨k + 1, by omega, by go_num, range_all HA.out (by first | (simp [sunH, *]; done) | (simp only [Bool.not_eq_true', Bool.not_eq_false'] at *; simp [sunH, *]))⟩
           case measure => simp [intOf]; omega)
    · obtain rfl : k = 24 := by omega
      go_wp2
      go_ret
      exact ⟨by rw [show vSun s = true from HA.out]; rfl, by (repeat (first | assumption | exact Below.refl _ _ | refine Below.alloc ?_ (by first | omega | (simp; done) | (simp; omega)) _ | refine Below.setCell ?_ (by first | omega | (simp; done) | (simp; omega)) _ | refine Below.drew ?_ | refine Below.trans ?_ (Below.mono (by assumption) (by first | omega | (simp; done) | (simp; omega)))))⟩
theorem l01Ok_c (s : Nat → Int) (p o : Nat) (w : World) (hs : Small s) (hc : w.rangeAt p o (ints 48 s)) :
    Calls Try.prog 20 #[.pointer (some ⟨p, o, none⟩)] w fun e w' => e = .returned (.bool (vSun s)) ∧ w = w' := by
  have HS := Lib.hid hs
  have HC := Lib.hid hc
  clear hs hc
  go_enter Try.func20, Try.ntmps20
  go_wp2
  go_loop [3] (fun i => ∃ k : Nat, k ≤ 24 ∧ i = .int .i64 k ∧ (List.range k).all (sunH s) = true) (fun i => 24 - (intOf i).toNat)
  case atStart => exact ⟨0, by omega, rfl, rfl⟩
  case round =>
    obtain ⟨k, hk, rfl, hall⟩ := hrel
    have HA := Lib.hid hall
    clear hall
    by_cases hlt : k < 24
    · have hlt' : (k : Int) < 24 := by omega
      have g0 : w.cell? ⟨p, o + k, none⟩ = some (.int .i16 (s k)) := HC.out k _ (ints_get s (by omega))
      have g1 : w.cell? ⟨p, o + 24 + k, none⟩ = some (.int .i16 (s (24 + k))) := by rw [Nat.add_assoc]; exact HC.out (24 + k) _ (ints_get s (by omega))
      obtain ⟨b1, b2⟩ := HS.out k
      obtain ⟨b3, b4⟩ := HS.out (24 + k)
      go_wp2_with (first | (go_at_call 46; refine (l01Height_c _ _).mono ?_; rintro e w' ⟨rfl, rfl⟩) | (go_at_call 22; refine (l01Faced_c _ _).mono ?_; rintro e w' ⟨rfl, rfl⟩))
      all_goals
        first
        | (go_ret; exact ⟨by rw [vSun_no hlt (by first | (simp [sunH, *]; done) | (simp only [Bool.not_eq_true', Bool.not_eq_false'] at *; simp [sunH, *]))]; rfl, rfl⟩)
        | (go_round
           case rel => exact ⟨k + 1, by omega, by go_num, range_all HA.out (by first | (simp [sunH, *]; done) | (simp only [Bool.not_eq_true', Bool.not_eq_false'] at *; simp [sunH, *]))⟩
           case measure => simp [intOf]; omega)
    · obtain rfl : k = 24 := by omega
      go_wp2
      go_ret
      exact ⟨by rw [show vSun s = true from HA.out]; rfl, rfl⟩
/-- The code of a sun and of whether numbers are right. -/
def sunC (s : Nat → Int) (right : Bool) : Int := if vSun s then (if right then 0 else 2) else 1
end Go.Proofs.Ytgepaaakleomeac
