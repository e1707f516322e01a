/- Walks: slices of trees. -/
import Derived.Test.YtlogdpcmahbdjaaSl
import Derived.Test.YtlogdpcmahbdjaaN
namespace Go.Proofs.Ytlogdpcmahbdjaa
set_option linter.unusedSimpArgs false
set_option linter.unusedVariables false
open Go.ChangeShapes Go.WideShapes Go.ChangeAt Go.RowKit Fl

structure TreeV where
  a : Int
  b : Int
  c : Int
def TreeV.enc (t : TreeV) : List Value := [.int .i16 t.a, .int .i16 t.b, .int .i16 t.c]
def TreeV.ok (t : TreeV) : Prop := (-32768 ≤ t.a ∧ t.a ≤ 32767) ∧ (-32768 ≤ t.b ∧ t.b ≤ 32767) ∧ (-32768 ≤ t.c ∧ t.c ≤ 32767)
theorem TreeV.of : ∀ (es : List (List Value)), (∀ cs ∈ es, CKs [.i .i16, .i .i16, .i .i16] cs) → ∃ ts : List TreeV, es = ts.map TreeV.enc ∧ ∀ t ∈ ts, t.ok
  | [], _ => ⟨[], rfl, by simp⟩
  | cs :: r, h => by
    obtain ⟨ts, e, ok⟩ := TreeV.of r (fun x hx => h x (by simp [hx]))
    obtain ⟨x, y, z, e', ox, oy, oz⟩ := CKs3 (h cs (by simp))
    obtain ⟨x, rfl, bx⟩ := oki16 ox
    obtain ⟨y, rfl, by'⟩ := oki16 oy
    obtain ⟨z, rfl, bz⟩ := oki16 oz
    refine ⟨⟨x, y, z⟩ :: ts, by rw [e, e']; rfl, ?_⟩
    intro t ht
    rcases List.mem_cons.1 ht with rfl | ht
    · exact ⟨bx, by', bz⟩
    · exact ok t ht
theorem TreeV.len (ts : List TreeV) : ∀ cs ∈ ts.map TreeV.enc, cs.length = 3 := by
  intro cs h; obtain ⟨t, _, rfl⟩ := List.mem_map.1 h; rfl

theorem toTree_c (a b c : Int) (w : World) :
    Calls Try.prog 68 #[.agg #[.int .i16 a, .int .i16 b, .int .i16 c]] w fun e w' => e = .returned (.agg #[.int .i16 a, .int .i16 b, .int .i16 c]) ∧ Below w.heap.size w w' := by
  go_enter Try.func68, Try.ntmps68
  go_wp2
  refine bodyPost_ret (v := .agg #[.int .i16 a, .int .i16 b, .int .i16 c]) (by simp [results, Try.results68, go_sem]) rfl ⟨rfl, ?_⟩
  (repeat (first | assumption | exact Below.refl _ _ | refine Below.alloc ?_ (by first | omega | (simp; done) | (simp; omega)) _ | refine Below.setCell ?_ (by first | omega | (simp; done) | (simp; omega)) _ | refine Below.drew ?_ | refine Below.trans ?_ (Below.mono (by assumption) (by first | omega | (simp; done) | (simp; omega)))))
theorem infoTree : (Try.prog.info? 98).map (fun i => (i.zero, i.size, i.bytes)) = some (some (.agg #[.int .i16 0, .int .i16 0, .int .i16 0]), 3, 6) := by kernel_rfl
theorem sizeTree : (Try.prog.info? 98).map (·.size) = some 3 := by kernel_rfl
theorem toTreeS_c (ts : List TreeV) (a : Option Addr) (cap : Nat) (w : World) (h : Elems w a (ts.map TreeV.enc) 3) (hn : ts.length ≤ 1048576) :
    Calls Try.prog 41 #[.slice a ts.length cap] w (MadeS ts.length (ts.map TreeV.enc) 3 w) := by
  have hmk := make_at (P := Try.prog) (t := 69) Try.underlying69 infoTree (by omega) ts.length hn
  have hH := Lib.hid h
  clear h
  go_enter Try.func41, Try.ntmps41
  go_wp2
  go_loopw [4] (fun i wr => ∃ k : Nat, k ≤ ts.length ∧ i = .int .i64 k ∧ Filling w w.heap.size (ts.map TreeV.enc) 3 k wr) (fun i _ => ts.length - (intOf i).toNat)
  case atStart =>
    refine ⟨0, by omega, rfl, ?_⟩
    have := Filling.start w #[.int .i16 0, .int .i16 0, .int .i16 0] 98 (ts.map TreeV.enc) 3
    rw [List.length_map] at this
    exact this
  case round =>
    obtain ⟨k, hk, rfl, hF⟩ := hrel
    by_cases hlt : k < ts.length
    · obtain ⟨b, off, ha, hb, hr⟩ := hH.out.at (k := k) (by simpa using hlt)
      subst ha
      have h3 := rangeAt_ext hF.below hb (hr k (by simpa using hlt))
      obtain ⟨t, ht⟩ : ∃ t, t = ts[k] := ⟨_, rfl⟩
      rw [List.getElem_map, ← ht] at h3
      have c0 := rangeAt_cell h3 0 (by simp [TreeV.enc])
      have c1 := rangeAt_cell h3 1 (by simp [TreeV.enc])
      have c2 := rangeAt_cell h3 2 (by simp [TreeV.enc])
      simp only [TreeV.enc, List.getElem_cons_zero, List.getElem_cons_succ, Nat.add_zero] at c0 c1 c2
      have Ht := Lib.hid ht
      have HF := Lib.hid hF
      have HB := Lib.hid hb
      clear ht hF h3 hr hb
      go_wp2_with (first | (go_at_call 68; refine (toTree_c _ _ _ _).mono ?_; rintro e w' ⟨rfl, hb⟩; obtain ⟨hc, hf, hz⟩ := bcell hb; (try simp at hz); (try have hz' := Nat.lt_of_succ_le hz)) | (refine wpList_store_mid rfl 98 (.tmp 21) (.tmp 20) rfl w.heap.size (k * 3) #[.int .i16 t.a, .int .i16 t.b, .int .i16 t.c] rfl rfl ?c1 ?c2 ?c3 ?_; (exact (HF.out.ext hb).there (by simpa using hlt)); (exact sizeTree); (simp [Value.oneCell'])))
      have HE : (ts.map TreeV.enc)[k]'(by simpa using hlt) = TreeV.enc t := by rw [List.getElem_map, Ht.out]
      go_roundw
      case rel => exact ⟨k + 1, by omega, by go_num, by have := (HF.out.ext hb).put (TreeV.len ts) (k := k) (by simpa using hlt); rw [HE] at this; exact this⟩
      case measure => simp [intOf]; omega
    · obtain rfl : k = ts.length := by omega
      go_wp2
      go_ret
      exact hF.made (List.length_map _) (TreeV.len ts)
theorem eqTree_c (a b c : Int) (w : World) :
    Calls Try.prog 69 #[.agg #[.int .i16 a, .int .i16 b, .int .i16 c], .agg #[.int .i16 a, .int .i16 b, .int .i16 c]] w fun e w' => e = .returned (.bool true) ∧ Below w.heap.size w w' := by
  go_enter Try.func69, Try.ntmps69
  go_wp2
  go_ret
  exact ⟨rfl, by (repeat (first | assumption | exact Below.refl _ _ | refine Below.alloc ?_ (by first | omega | (simp; done) | (simp; omega)) _ | refine Below.setCell ?_ (by first | omega | (simp; done) | (simp; omega)) _ | refine Below.drew ?_ | refine Below.trans ?_ (Below.mono (by assumption) (by first | omega | (simp; done) | (simp; omega)))))⟩
theorem eqTreeS_c (ts : List TreeV) (a a' : Option Addr) (cap cap' : Nat) (w : World) (h : Elems w a (ts.map TreeV.enc) 3) (h' : Elems w a' (ts.map TreeV.enc) 3) (hn : ts.length ≤ 1048576) :
    Calls Try.prog 43 #[.slice a ts.length cap, .slice a' ts.length cap'] w fun e w' => e = .returned (.bool true) ∧ Below w.heap.size w w' := by
  have hH := Lib.hid h
  have hH' := Lib.hid h'
  clear h h'
  go_enter Try.func43, Try.ntmps43
  go_wp2
  go_loopw [5] (fun i wr => ∃ k : Nat, k ≤ ts.length ∧ i = .int .i64 k ∧ Ext w wr) (fun i _ => ts.length - (intOf i).toNat)
  case atStart => exact ⟨0, by omega, rfl, Ext.refl _⟩
  case round =>
    obtain ⟨k, hk, rfl, hx⟩ := hrel
    by_cases hlt : k < ts.length
    · obtain ⟨b, off, ha, hb, hr⟩ := hH.out.at (k := k) (by simpa using hlt)
      obtain ⟨b', off', ha', hb', hr'⟩ := hH'.out.at (k := k) (by simpa using hlt)
      subst ha ha'
      have h3 := rangeAt_ext hx hb (hr k (by simpa using hlt))
      have h3' := rangeAt_ext hx hb' (hr' k (by simpa using hlt))
      obtain ⟨t, ht⟩ : ∃ t, t = ts[k] := ⟨_, rfl⟩
      rw [List.getElem_map, ← ht] at h3 h3'
      have c0 := rangeAt_cell h3 0 (by simp [TreeV.enc])
      have c1 := rangeAt_cell h3 1 (by simp [TreeV.enc])
      have c2 := rangeAt_cell h3 2 (by simp [TreeV.enc])
      have d0 := rangeAt_cell h3' 0 (by simp [TreeV.enc])
      have d1 := rangeAt_cell h3' 1 (by simp [TreeV.enc])
      have d2 := rangeAt_cell h3' 2 (by simp [TreeV.enc])
      simp only [TreeV.enc, List.getElem_cons_zero, List.getElem_cons_succ, Nat.add_zero] at c0 c1 c2 d0 d1 d2
      have Ht := Lib.hid ht
      have hbr : b < wr.heap.size := Nat.lt_of_lt_of_le hb hx.size
      have hzx := hx.size
      have hbr' : b' < wr.heap.size := Nat.lt_of_lt_of_le hb' hx.size
      clear ht h3 hr h3' hr' hb hb'
      go_wp2_with fail
      refine wp_region_E (by kernel_rfl) (show wpE _ _ _ _ 10 #[false, false, false, false, false, false, false, false, false, false] _ _ from ?_)
      first | (refine' wpE_val (v := _) (i := 0) rfl (by kernel_rfl) (by kernel_rfl) (by kernel_rfl) (fun _ _ _ h => h) ?hwv1 (fun w' hx => ?hyv1) ?restv1; (case hwv1 => (first | rfl | (simp [*]; done))); (case hyv1 => (obtain ⟨hc, hf, hz⟩ := bcell hx; go_simp; (try rfl))); (case' restv1 => simp only [Act.put, List.setIfInBounds_toArray, List.set_cons_zero, List.set_cons_succ])) | (refine' wpE_call (v := _) (f := _) (args := _) (i := 0) rfl (by kernel_rfl) (by kernel_rfl) (by kernel_rfl) (fun _ _ _ h => h) ?hwk1 (fun w' => ?hek1) (fun w' hx => ?hyk1) ?restk1; (case hwk1 => (first | rfl | (simp [*]; done))); (case hek1 => (go_simp; exact And.intro (by rfl) (by rfl))); (case hyk1 => (obtain ⟨hc, hf, hz⟩ := bcell hx; first | (exact eqTree_c _ _ _ _))); (case' restk1 => simp only [Act.put, List.setIfInBounds_toArray, List.set_cons_zero, List.set_cons_succ])) | (refine' wpE_skip (i := 0) rfl (by kernel_rfl) (by kernel_rfl) (by kernel_rfl) (fun _ _ _ h => h) ?hws1 ?rests1; (case hws1 => (first | rfl | (simp [*]; done))); (case' rests1 => simp only [Act.put, List.setIfInBounds_toArray, List.set_cons_zero, List.set_cons_succ]))
      first | (refine' wpE_val (v := _) (i := 1) rfl (by kernel_rfl) (by kernel_rfl) (by kernel_rfl) (fun _ _ _ h => h) ?hwv2 (fun w' hx => ?hyv2) ?restv2; (case hwv2 => (first | rfl | (simp [*]; done))); (case hyv2 => (obtain ⟨hc, hf, hz⟩ := bcell hx; go_simp; (try rfl))); (case' restv2 => simp only [Act.put, List.setIfInBounds_toArray, List.set_cons_zero, List.set_cons_succ])) | (refine' wpE_call (v := _) (f := _) (args := _) (i := 1) rfl (by kernel_rfl) (by kernel_rfl) (by kernel_rfl) (fun _ _ _ h => h) ?hwk2 (fun w' => ?hek2) (fun w' hx => ?hyk2) ?restk2; (case hwk2 => (first | rfl | (simp [*]; done))); (case hek2 => (go_simp; exact And.intro (by rfl) (by rfl))); (case hyk2 => (obtain ⟨hc, hf, hz⟩ := bcell hx; first | (exact eqTree_c _ _ _ _))); (case' restk2 => simp only [Act.put, List.setIfInBounds_toArray, List.set_cons_zero, List.set_cons_succ])) | (refine' wpE_skip (i := 1) rfl (by kernel_rfl) (by kernel_rfl) (by kernel_rfl) (fun _ _ _ h => h) ?hws2 ?rests2; (case hws2 => (first | rfl | (simp [*]; done))); (case' rests2 => simp only [Act.put, List.setIfInBounds_toArray, List.set_cons_zero, List.set_cons_succ]))
      first | (refine' wpE_val (v := _) (i := 2) rfl (by kernel_rfl) (by kernel_rfl) (by kernel_rfl) (fun _ _ _ h => h) ?hwv3 (fun w' hx => ?hyv3) ?restv3; (case hwv3 => (first | rfl | (simp [*]; done))); (case hyv3 => (obtain ⟨hc, hf, hz⟩ := bcell hx; go_simp; (try rfl))); (case' restv3 => simp only [Act.put, List.setIfInBounds_toArray, List.set_cons_zero, List.set_cons_succ])) | (refine' wpE_call (v := _) (f := _) (args := _) (i := 2) rfl (by kernel_rfl) (by kernel_rfl) (by kernel_rfl) (fun _ _ _ h => h) ?hwk3 (fun w' => ?hek3) (fun w' hx => ?hyk3) ?restk3; (case hwk3 => (first | rfl | (simp [*]; done))); (case hek3 => (go_simp; exact And.intro (by rfl) (by rfl))); (case hyk3 => (obtain ⟨hc, hf, hz⟩ := bcell hx; first | (exact eqTree_c _ _ _ _))); (case' restk3 => simp only [Act.put, List.setIfInBounds_toArray, List.set_cons_zero, List.set_cons_succ])) | (refine' wpE_skip (i := 2) rfl (by kernel_rfl) (by kernel_rfl) (by kernel_rfl) (fun _ _ _ h => h) ?hws3 ?rests3; (case hws3 => (first | rfl | (simp [*]; done))); (case' rests3 => simp only [Act.put, List.setIfInBounds_toArray, List.set_cons_zero, List.set_cons_succ]))
      first | (refine' wpE_val (v := _) (i := 3) rfl (by kernel_rfl) (by kernel_rfl) (by kernel_rfl) (fun _ _ _ h => h) ?hwv4 (fun w' hx => ?hyv4) ?restv4; (case hwv4 => (first | rfl | (simp [*]; done))); (case hyv4 => (obtain ⟨hc, hf, hz⟩ := bcell hx; go_simp; (try rfl))); (case' restv4 => simp only [Act.put, List.setIfInBounds_toArray, List.set_cons_zero, List.set_cons_succ])) | (refine' wpE_call (v := _) (f := _) (args := _) (i := 3) rfl (by kernel_rfl) (by kernel_rfl) (by kernel_rfl) (fun _ _ _ h => h) ?hwk4 (fun w' => ?hek4) (fun w' hx => ?hyk4) ?restk4; (case hwk4 => (first | rfl | (simp [*]; done))); (case hek4 => (go_simp; exact And.intro (by rfl) (by rfl))); (case hyk4 => (obtain ⟨hc, hf, hz⟩ := bcell hx; first | (exact eqTree_c _ _ _ _))); (case' restk4 => simp only [Act.put, List.setIfInBounds_toArray, List.set_cons_zero, List.set_cons_succ])) | (refine' wpE_skip (i := 3) rfl (by kernel_rfl) (by kernel_rfl) (by kernel_rfl) (fun _ _ _ h => h) ?hws4 ?rests4; (case hws4 => (first | rfl | (simp [*]; done))); (case' rests4 => simp only [Act.put, List.setIfInBounds_toArray, List.set_cons_zero, List.set_cons_succ]))
      first | (refine' wpE_val (v := _) (i := 4) rfl (by kernel_rfl) (by kernel_rfl) (by kernel_rfl) (fun _ _ _ h => h) ?hwv5 (fun w' hx => ?hyv5) ?restv5; (case hwv5 => (first | rfl | (simp [*]; done))); (case hyv5 => (obtain ⟨hc, hf, hz⟩ := bcell hx; go_simp; (try rfl))); (case' restv5 => simp only [Act.put, List.setIfInBounds_toArray, List.set_cons_zero, List.set_cons_succ])) | (refine' wpE_call (v := _) (f := _) (args := _) (i := 4) rfl (by kernel_rfl) (by kernel_rfl) (by kernel_rfl) (fun _ _ _ h => h) ?hwk5 (fun w' => ?hek5) (fun w' hx => ?hyk5) ?restk5; (case hwk5 => (first | rfl | (simp [*]; done))); (case hek5 => (go_simp; exact And.intro (by rfl) (by rfl))); (case hyk5 => (obtain ⟨hc, hf, hz⟩ := bcell hx; first | (exact eqTree_c _ _ _ _))); (case' restk5 => simp only [Act.put, List.setIfInBounds_toArray, List.set_cons_zero, List.set_cons_succ])) | (refine' wpE_skip (i := 4) rfl (by kernel_rfl) (by kernel_rfl) (by kernel_rfl) (fun _ _ _ h => h) ?hws5 ?rests5; (case hws5 => (first | rfl | (simp [*]; done))); (case' rests5 => simp only [Act.put, List.setIfInBounds_toArray, List.set_cons_zero, List.set_cons_succ]))
      first | (refine' wpE_val (v := _) (i := 5) rfl (by kernel_rfl) (by kernel_rfl) (by kernel_rfl) (fun _ _ _ h => h) ?hwv6 (fun w' hx => ?hyv6) ?restv6; (case hwv6 => (first | rfl | (simp [*]; done))); (case hyv6 => (obtain ⟨hc, hf, hz⟩ := bcell hx; go_simp; (try rfl))); (case' restv6 => simp only [Act.put, List.setIfInBounds_toArray, List.set_cons_zero, List.set_cons_succ])) | (refine' wpE_call (v := _) (f := _) (args := _) (i := 5) rfl (by kernel_rfl) (by kernel_rfl) (by kernel_rfl) (fun _ _ _ h => h) ?hwk6 (fun w' => ?hek6) (fun w' hx => ?hyk6) ?restk6; (case hwk6 => (first | rfl | (simp [*]; done))); (case hek6 => (go_simp; exact And.intro (by rfl) (by rfl))); (case hyk6 => (obtain ⟨hc, hf, hz⟩ := bcell hx; first | (exact eqTree_c _ _ _ _))); (case' restk6 => simp only [Act.put, List.setIfInBounds_toArray, List.set_cons_zero, List.set_cons_succ])) | (refine' wpE_skip (i := 5) rfl (by kernel_rfl) (by kernel_rfl) (by kernel_rfl) (fun _ _ _ h => h) ?hws6 ?rests6; (case hws6 => (first | rfl | (simp [*]; done))); (case' rests6 => simp only [Act.put, List.setIfInBounds_toArray, List.set_cons_zero, List.set_cons_succ]))
      first | (refine' wpE_val (v := _) (i := 6) rfl (by kernel_rfl) (by kernel_rfl) (by kernel_rfl) (fun _ _ _ h => h) ?hwv7 (fun w' hx => ?hyv7) ?restv7; (case hwv7 => (first | rfl | (simp [*]; done))); (case hyv7 => (obtain ⟨hc, hf, hz⟩ := bcell hx; go_simp; (try rfl))); (case' restv7 => simp only [Act.put, List.setIfInBounds_toArray, List.set_cons_zero, List.set_cons_succ])) | (refine' wpE_call (v := _) (f := _) (args := _) (i := 6) rfl (by kernel_rfl) (by kernel_rfl) (by kernel_rfl) (fun _ _ _ h => h) ?hwk7 (fun w' => ?hek7) (fun w' hx => ?hyk7) ?restk7; (case hwk7 => (first | rfl | (simp [*]; done))); (case hek7 => (go_simp; exact And.intro (by rfl) (by rfl))); (case hyk7 => (obtain ⟨hc, hf, hz⟩ := bcell hx; first | (exact eqTree_c _ _ _ _))); (case' restk7 => simp only [Act.put, List.setIfInBounds_toArray, List.set_cons_zero, List.set_cons_succ])) | (refine' wpE_skip (i := 6) rfl (by kernel_rfl) (by kernel_rfl) (by kernel_rfl) (fun _ _ _ h => h) ?hws7 ?rests7; (case hws7 => (first | rfl | (simp [*]; done))); (case' rests7 => simp only [Act.put, List.setIfInBounds_toArray, List.set_cons_zero, List.set_cons_succ]))
      first | (refine' wpE_val (v := _) (i := 7) rfl (by kernel_rfl) (by kernel_rfl) (by kernel_rfl) (fun _ _ _ h => h) ?hwv8 (fun w' hx => ?hyv8) ?restv8; (case hwv8 => (first | rfl | (simp [*]; done))); (case hyv8 => (obtain ⟨hc, hf, hz⟩ := bcell hx; go_simp; (try rfl))); (case' restv8 => simp only [Act.put, List.setIfInBounds_toArray, List.set_cons_zero, List.set_cons_succ])) | (refine' wpE_call (v := _) (f := _) (args := _) (i := 7) rfl (by kernel_rfl) (by kernel_rfl) (by kernel_rfl) (fun _ _ _ h => h) ?hwk8 (fun w' => ?hek8) (fun w' hx => ?hyk8) ?restk8; (case hwk8 => (first | rfl | (simp [*]; done))); (case hek8 => (go_simp; exact And.intro (by rfl) (by rfl))); (case hyk8 => (obtain ⟨hc, hf, hz⟩ := bcell hx; first | (exact eqTree_c _ _ _ _))); (case' restk8 => simp only [Act.put, List.setIfInBounds_toArray, List.set_cons_zero, List.set_cons_succ])) | (refine' wpE_skip (i := 7) rfl (by kernel_rfl) (by kernel_rfl) (by kernel_rfl) (fun _ _ _ h => h) ?hws8 ?rests8; (case hws8 => (first | rfl | (simp [*]; done))); (case' rests8 => simp only [Act.put, List.setIfInBounds_toArray, List.set_cons_zero, List.set_cons_succ]))
      first | (refine' wpE_val (v := _) (i := 8) rfl (by kernel_rfl) (by kernel_rfl) (by kernel_rfl) (fun _ _ _ h => h) ?hwv9 (fun w' hx => ?hyv9) ?restv9; (case hwv9 => (first | rfl | (simp [*]; done))); (case hyv9 => (obtain ⟨hc, hf, hz⟩ := bcell hx; go_simp; (try rfl))); (case' restv9 => simp only [Act.put, List.setIfInBounds_toArray, List.set_cons_zero, List.set_cons_succ])) | (refine' wpE_call (v := _) (f := _) (args := _) (i := 8) rfl (by kernel_rfl) (by kernel_rfl) (by kernel_rfl) (fun _ _ _ h => h) ?hwk9 (fun w' => ?hek9) (fun w' hx => ?hyk9) ?restk9; (case hwk9 => (first | rfl | (simp [*]; done))); (case hek9 => (go_simp; exact And.intro (by rfl) (by rfl))); (case hyk9 => (obtain ⟨hc, hf, hz⟩ := bcell hx; first | (exact eqTree_c _ _ _ _))); (case' restk9 => simp only [Act.put, List.setIfInBounds_toArray, List.set_cons_zero, List.set_cons_succ])) | (refine' wpE_skip (i := 8) rfl (by kernel_rfl) (by kernel_rfl) (by kernel_rfl) (fun _ _ _ h => h) ?hws9 ?rests9; (case hws9 => (first | rfl | (simp [*]; done))); (case' rests9 => simp only [Act.put, List.setIfInBounds_toArray, List.set_cons_zero, List.set_cons_succ]))
      first | (refine' wpE_val (v := _) (i := 9) rfl (by kernel_rfl) (by kernel_rfl) (by kernel_rfl) (fun _ _ _ h => h) ?hwv10 (fun w' hx => ?hyv10) ?restv10; (case hwv10 => (first | rfl | (simp [*]; done))); (case hyv10 => (obtain ⟨hc, hf, hz⟩ := bcell hx; go_simp; (try rfl))); (case' restv10 => simp only [Act.put, List.setIfInBounds_toArray, List.set_cons_zero, List.set_cons_succ])) | (refine' wpE_call (v := _) (f := _) (args := _) (i := 9) rfl (by kernel_rfl) (by kernel_rfl) (by kernel_rfl) (fun _ _ _ h => h) ?hwk10 (fun w' => ?hek10) (fun w' hx => ?hyk10) ?restk10; (case hwk10 => (first | rfl | (simp [*]; done))); (case hek10 => (go_simp; exact And.intro (by rfl) (by rfl))); (case hyk10 => (obtain ⟨hc, hf, hz⟩ := bcell hx; first | (exact eqTree_c _ _ _ _))); (case' restk10 => simp only [Act.put, List.setIfInBounds_toArray, List.set_cons_zero, List.set_cons_succ])) | (refine' wpE_skip (i := 9) rfl (by kernel_rfl) (by kernel_rfl) (by kernel_rfl) (fun _ _ _ h => h) ?hws10 ?rests10; (case hws10 => (first | rfl | (simp [*]; done))); (case' rests10 => simp only [Act.put, List.setIfInBounds_toArray, List.set_cons_zero, List.set_cons_succ]))
      refine wpE_done (by kernel_rfl) (fun w' hx => ?_)
      obtain ⟨hc, hf, hz⟩ := bcell hx
      (try simp at hz); (try have hz' := Nat.lt_of_succ_le hz); (try have z0 : w.heap.size < w'.heap.size := by omega); (try have z1 : w.heap.size + 1 < w'.heap.size := by omega); (try have z2 : w.heap.size + 1 + 1 < w'.heap.size := by omega)
      go_wp2_with fail
      go_roundw
      case rel => exact ⟨k + 1, by omega, by go_num, by (repeat (first | assumption | exact Below.refl _ _ | refine Below.alloc ?_ (by first | omega | (simp; done) | (simp; omega)) _ | refine Below.setCell ?_ (by first | omega | (simp; done) | (simp; omega)) _ | refine Below.drew ?_ | refine Below.trans ?_ (Below.mono (by assumption) (by first | omega | (simp; done) | (simp; omega)))))⟩
      case measure => simp [intOf]; omega
    · obtain rfl : k = ts.length := by omega
      go_wp2
      go_ret
      exact ⟨rfl, hx⟩
def TreeV.valid (t : TreeV) : Bool := inn t.a 0 255 && inn t.b 0 128 && inn t.c 0 64
def vTrees (ts : List TreeV) : Bool := ts.all TreeV.valid && decide (ts.length ≤ 8)
theorem vTrees_no {ts : List TreeV} {k : Nat} {t : TreeV} (hk : k < ts.length) (ht : t = ts[k]) (h : t.valid = false) : vTrees ts = false := by
  unfold vTrees
  rw [Bool.and_eq_false_iff]; left
  rw [List.all_eq_false]
  exact ⟨t, ht ▸ List.getElem_mem hk, by simp [h]⟩
theorem take_all {ts : List TreeV} {k : Nat} {t : TreeV} (hk : k < ts.length) (ht : t = ts[k]) (h : t.valid = true) (ha : (ts.take k).all TreeV.valid = true) : (ts.take (k + 1)).all TreeV.valid = true := by
  rw [List.take_succ_eq_append_getElem hk, List.all_append, ha, ← ht]; simp [h]
theorem ValidTrees_c (ts : List TreeV) (a : Option Addr) (cap : Nat) (w : World) (h : Elems w a (ts.map TreeV.enc) 3) (hok : ∀ t ∈ ts, t.ok) (hn : ts.length ≤ 1048576) :
    Calls Try.prog 42 #[.slice a ts.length cap] w fun e w' => e = .returned (.bool (vTrees ts)) ∧ Below w.heap.size w w' := by
  have hH := Lib.hid h
  have hO := Lib.hid hok
  clear h hok
  go_enter Try.func42, Try.ntmps42
  go_wp2
  go_loopw [7] (fun i wr => ∃ k : Nat, k ≤ ts.length ∧ i = .int .i64 k ∧ Ext w wr ∧ (ts.take k).all TreeV.valid = true) (fun i _ => ts.length - (intOf i).toNat)
  case atStart => exact ⟨0, by omega, rfl, Ext.refl _, rfl⟩
  case round =>
    obtain ⟨k, hk, rfl, hx, hall⟩ := hrel
    have HA := Lib.hid hall
    clear hall
    by_cases hlt : k < ts.length
    · obtain ⟨b, off, ha, hb, hr⟩ := hH.out.at (k := k) (by simpa using hlt)
      subst ha
      have h3 := rangeAt_ext hx hb (hr k (by simpa using hlt))
      obtain ⟨t, ht⟩ : ∃ t, t = ts[k] := ⟨_, rfl⟩
      obtain ⟨⟨ba1, ba2⟩, ⟨bb1, bb2⟩, bc1, bc2⟩ : t.ok := hO.out t (ht ▸ List.getElem_mem hlt)
      rw [List.getElem_map, ← ht] at h3
      have c0 := rangeAt_cell h3 0 (by simp [TreeV.enc])
      have c1 := rangeAt_cell h3 1 (by simp [TreeV.enc])
      have c2 := rangeAt_cell h3 2 (by simp [TreeV.enc])
      simp only [TreeV.enc, List.getElem_cons_zero, List.getElem_cons_succ, Nat.add_zero] at c0 c1 c2
      have Ht := Lib.hid ht
      have hbr : b < wr.heap.size := Nat.lt_of_lt_of_le hb hx.size
      have hzx := hx.size
      clear ht h3 hr hb
      go_wp2_with (go_at_call 55; refine (within_c _ _ _ _).mono ?_; rintro e w' ⟨rfl, rfl⟩)
      all_goals
        first
        | (go_ret; exact ⟨by rw [vTrees_no hlt Ht.out (by first | (simp [TreeV.valid, *]; done) | (simp only [Bool.not_eq_true', Bool.not_eq_false'] at *; simp [TreeV.valid, *]))]; rfl, by (repeat (first | assumption | exact Below.refl _ _ | refine Below.alloc ?_ (by first | omega | (simp; done) | (simp; omega)) _ | refine Below.setCell ?_ (by first | omega | (simp; done) | (simp; omega)) _ | refine Below.drew ?_ | refine Below.trans ?_ (Below.mono (by assumption) (by first | omega | (simp; done) | (simp; omega)))))⟩)
        | (go_roundw
           case rel => exact ⟨k + 1, by omega, by go_num, by (repeat (first | assumption | exact Below.refl _ _ | refine Below.alloc ?_ (by first | omega | (simp; done) | (simp; omega)) _ | refine Below.setCell ?_ (by first | omega | (simp; done) | (simp; omega)) _ | refine Below.drew ?_ | refine Below.trans ?_ (Below.mono (by assumption) (by first | omega | (simp; done) | (simp; omega))))), take_all hlt Ht.out (by first | (simp [TreeV.valid, *]; done) | (simp only [Bool.not_eq_true', Bool.not_eq_false'] at *; simp [TreeV.valid, *])) HA.out⟩
           case measure => simp [intOf]; omega)
    · obtain rfl : k = ts.length := by omega
      have HA' : ts.all TreeV.valid = true := by have := HA.out; rwa [List.take_length] at this
      have HA'' := Lib.hid HA'
      clear HA'
      go_wp2
      go_ret
      exact ⟨by simp [vTrees, HA''.out]; omega, hx⟩
theorem l04Trees_c (ts : List TreeV) (a : Option Addr) (cap : Nat) (w : World) (h : Elems w a (ts.map TreeV.enc) 3) (hok : ∀ t ∈ ts, t.ok) (hn : ts.length ≤ 1048576) :
    Calls Try.prog 67 #[.slice a ts.length cap] w fun e w' => e = .returned (.bool (vTrees ts)) ∧ Below w.heap.size w w' := by
  have hH := Lib.hid h
  have hO := Lib.hid hok
  clear h hok
  go_enter Try.func67, Try.ntmps67
  go_wp2
  go_loopw [3] (fun i wr => ∃ k : Nat, k ≤ ts.length ∧ i = .int .i64 k ∧ Ext w wr ∧ (ts.take k).all TreeV.valid = true) (fun i _ => ts.length - (intOf i).toNat)
  case atStart => exact ⟨0, by omega, rfl, Ext.refl _, rfl⟩
  case round =>
    obtain ⟨k, hk, rfl, hx, hall⟩ := hrel
    have HA := Lib.hid hall
    clear hall
    by_cases hlt : k < ts.length
    · obtain ⟨b, off, ha, hb, hr⟩ := hH.out.at (k := k) (by simpa using hlt)
      subst ha
      have h3 := rangeAt_ext hx hb (hr k (by simpa using hlt))
      obtain ⟨t, ht⟩ : ∃ t, t = ts[k] := ⟨_, rfl⟩
      obtain ⟨⟨ba1, ba2⟩, ⟨bb1, bb2⟩, bc1, bc2⟩ : t.ok := hO.out t (ht ▸ List.getElem_mem hlt)
      rw [List.getElem_map, ← ht] at h3
      have c0 := rangeAt_cell h3 0 (by simp [TreeV.enc])
      have c1 := rangeAt_cell h3 1 (by simp [TreeV.enc])
      have c2 := rangeAt_cell h3 2 (by simp [TreeV.enc])
      simp only [TreeV.enc, List.getElem_cons_zero, List.getElem_cons_succ, Nat.add_zero] at c0 c1 c2
      have Ht := Lib.hid ht
      have hbr : b < wr.heap.size := Nat.lt_of_lt_of_le hb hx.size
      have hzx := hx.size
      clear ht h3 hr hb
      go_wp2_with (first | (go_at_call 80; refine (l01Faced_c _ _).mono ?_; rintro e w' ⟨rfl, rfl⟩) | (go_at_call 74; refine (l00In_c _ _ _ _).mono ?_; rintro e w' ⟨rfl, rfl⟩))
      all_goals
        first
        | (go_ret; exact ⟨by rw [vTrees_no hlt Ht.out (by first | (simp [TreeV.valid, *]; done) | (simp only [Bool.not_eq_true', Bool.not_eq_false'] at *; simp [TreeV.valid, *]))]; rfl, by (repeat (first | assumption | exact Below.refl _ _ | refine Below.alloc ?_ (by first | omega | (simp; done) | (simp; omega)) _ | refine Below.setCell ?_ (by first | omega | (simp; done) | (simp; omega)) _ | refine Below.drew ?_ | refine Below.trans ?_ (Below.mono (by assumption) (by first | omega | (simp; done) | (simp; omega)))))⟩)
        | (go_roundw
           case rel => exact ⟨k + 1, by omega, by go_num, by (repeat (first | assumption | exact Below.refl _ _ | refine Below.alloc ?_ (by first | omega | (simp; done) | (simp; omega)) _ | refine Below.setCell ?_ (by first | omega | (simp; done) | (simp; omega)) _ | refine Below.drew ?_ | refine Below.trans ?_ (Below.mono (by assumption) (by first | omega | (simp; done) | (simp; omega))))), take_all hlt Ht.out (by first | (simp [TreeV.valid, *]; done) | (simp only [Bool.not_eq_true', Bool.not_eq_false'] at *; simp [TreeV.valid, *])) HA.out⟩
           case measure => simp [intOf]; omega)
    · obtain rfl : k = ts.length := by omega
      have HA' : ts.all TreeV.valid = true := by have := HA.out; rwa [List.take_length] at this
      have HA'' := Lib.hid HA'
      clear HA'
      go_wp2
      go_ret
      exact ⟨by simp [vTrees, HA''.out]; omega, hx⟩

theorem szTreeS_no (a : Option Addr) (len cap : Nat) (n : Int) (w : World) (hl : len ≤ 9223372036854775807) (h0 : 0 ≤ n) (h1 : n ≤ 1048576) (h : n < len) :
    Calls Try.prog 39 #[.slice a len cap, .int .i64 n] w fun e w' => e = .returned (.int .i64 (-1)) ∧ w = w' := by
  go_enter Try.func39, Try.ntmps39
  go_wp2
  go_ret; exact ⟨rfl, rfl⟩
theorem szTreeS_yes (a : Option Addr) (len cap : Nat) (n : Int) (w : World) (hl : len ≤ 9223372036854775807) (h0 : 0 ≤ n) (h1 : n ≤ 1048576) (h : ¬ n < len) :
    Calls Try.prog 39 #[.slice a len cap, .int .i64 n] w fun e w' => e = .returned (.int .i64 (n - len)) ∧ w = w' := by
  go_enter Try.func39, Try.ntmps39
  go_wp2
  go_ret; exact ⟨rfl, rfl⟩
theorem sValidTrees_c (ts : List TreeV) (a : Option Addr) (cap : Nat) (w : World) (h : Elems w a (ts.map TreeV.enc) 3) (hok : ∀ t ∈ ts, t.ok) (hn : ts.length ≤ 1048576) :
    Calls Try.prog 40 #[.slice a ts.length cap] w fun e w' => e = .returned (.bool (vTrees ts)) ∧ Below w.heap.size w w' := by
  have hH := Lib.hid h
  have hO := Lib.hid hok
  clear h hok
  go_enter Try.func40, Try.ntmps40
  go_wp2_with (go_at_call 67; refine (l04Trees_c ts _ _ _ hH.out hO.out hn).mono ?_; rintro e w' ⟨rfl, hb⟩; obtain ⟨hc, hf, hz⟩ := bcell hb; (try simp at hz); (try have hz' := Nat.lt_of_succ_le hz))
  go_ret
  exact ⟨rfl, by (repeat (first | assumption | exact Below.refl _ _ | refine Below.alloc ?_ (by first | omega | (simp; done) | (simp; omega)) _ | refine Below.setCell ?_ (by first | omega | (simp; done) | (simp; omega)) _ | refine Below.drew ?_ | refine Below.trans ?_ (Below.mono (by assumption) (by first | omega | (simp; done) | (simp; omega)))))⟩
theorem FnExactValidTrees_c (ts : List TreeV) (a : Option Addr) (cap : Nat) (w : World) (h : Elems w a (ts.map TreeV.enc) 3) (hok : ∀ t ∈ ts, t.ok) (hl : ts.length ≤ 9223372036854775807) :
    Calls Try.prog 12 #[.slice a ts.length cap] w fun e w' => e = .returned (.bool true) ∧ Below w.heap.size w w' := by
  have hH := Lib.hid h
  have hO := Lib.hid hok
  clear h hok
  by_cases hn : (1048576 : Int) < ts.length
  · go_enter Try.func12, Try.ntmps12
    go_wp2_with (go_at_call 39; refine (szTreeS_no _ _ _ _ _ hl (by omega) (by omega) hn).mono ?_; rintro e w' ⟨rfl, rfl⟩)
    go_ret
    exact ⟨rfl, Below.refl _ _⟩
  · have hn' : ts.length ≤ 1048576 := by omega
    go_enter Try.func12, Try.ntmps12
    go_wp2_with (go_at_call 39; refine (szTreeS_yes _ _ _ _ _ hl (by omega) (by omega) hn).mono ?_; rintro e w' ⟨rfl, rfl⟩)
    refine (toTreeS_c ts _ _ _ hH.out hn').mono ?_
    rintro e w1 ⟨g1, rfl, hg1, hE1, hx1⟩
    have HE1 := Lib.hid hE1; clear hE1
    go_wp2_with fail
    refine (sValidTrees_c ts _ _ _ HE1.out hO.out hn').mono ?_
    rintro e w2 ⟨rfl, hx2⟩
    go_wp2_with fail
    have x2 : Ext w w2 := Ext.trans hx1 hx2
    refine (toTreeS_c ts _ _ _ (hH.out.ext x2) hn').mono ?_
    rintro e w3 ⟨g3, rfl, hg3, hE3, hx3⟩
    have HE3 := Lib.hid hE3; clear hE3
    go_wp2_with fail
    refine (ValidTrees_c ts _ _ _ HE3.out hO.out hn').mono ?_
    rintro e w4 ⟨rfl, hx4⟩
    go_wp2_with fail
    have x4 : Ext w w4 := Ext.trans x2 (Ext.trans hx3 hx4)
    refine (toTreeS_c ts _ _ _ (hH.out.ext x4) hn').mono ?_
    rintro e w5 ⟨g5, rfl, hg5, hE5, hx5⟩
    have HE5 := Lib.hid hE5; clear hE5
    go_wp2_with fail
    refine (eqTreeS_c ts _ _ _ _ _ (HE3.out.ext (Ext.trans hx4 hx5)) HE5.out hn').mono ?_
    rintro e w6 ⟨rfl, hx6⟩
    go_wp2_with fail
    go_ret
    exact ⟨rfl, Ext.trans x4 (Ext.trans hx5 hx6)⟩

end Go.Proofs.Ytlogdpcmahbdjaa
