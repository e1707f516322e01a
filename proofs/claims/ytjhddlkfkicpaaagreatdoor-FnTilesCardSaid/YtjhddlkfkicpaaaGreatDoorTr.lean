/- Numbers that are read: the walks. -/
import Derived.Test.YtjhddlkfkicpaaaGreatDoorTn
namespace Go.Proofs.YtjhddlkfkicpaaaGreatDoor.Vx
set_option linter.unusedSimpArgs false
set_option linter.unusedVariables false
open Go Go.RowKit Fl Hex16
set_option maxRecDepth 100000
set_option maxHeartbeats 4000000
set_option linter.unusedSimpArgs false
set_option linter.unusedVariables false
theorem frombits_run (b : Nat) (w : World) : (callFunc 72 #[.int .u32 b]).run Tryz.prog w = .ok (.value (.float .f32 b)) w :=
  run_callFunc_extern (e := Extern.MathFloatBits.float32frombits) Tryz.func72 (by kernel_rfl) (by kernel_rfl) (by kernel_rfl) (by kernel_rfl) #[.int .u32 b] w
theorem NumberText_c (a : Nat) (ha : a < 4294967296) (w : World) (hg : Gl w) : Calls Tryz.prog 41 #[.float .f32 a] w fun e w' => e = .returned (.string (bs (hexN (tbits a) 8))) ∧ Below w.heap.size w w' :=
  Calls.mono ((NumberText_cv a ha).calls w _ (holds_nil w (fun _ => ⟨0, 0, 1, false⟩) hg)) fun e w' ⟨v, hh, β', he, ⟨hv, hq⟩, _, s, _⟩ => ⟨by rw [he, hv]; rfl, s.below fun l => rfl⟩
theorem bs_inj {a b : List UInt8} : bs a = bs b ↔ a = b := by
  constructor
  · intro h; have := congrArg (fun x => x.data.toList) h; simpa [bs] using this
  · rintro rfl; rfl
theorem bs_list (t : List UInt8) : (bs t).data.toList = t := by simp [bs]
/-- What is answered of a text. -/
def numVal (t : List UInt8) : Value := .tuple #[.float .f32 ((num t).getD 0), .int .i64 (if (num t).isSome then 0 else 5)]
theorem ReadNumber_c (t : List UInt8) (ht : t.length ≤ 1048576) (w : World) (hg : Gl w) : Calls Tryz.prog 38 #[.string (bs t)] w fun e w' => e = .returned (numVal t) ∧ Ext w w' := by
  have hsz := bs_size t
  have e65 := (enters_of Tryz.func71 (by kernel_rfl) (by kernel_rfl))
  have e29 := (enters_of Tryz.func41 (by kernel_rfl) (by kernel_rfl))
  by_cases h8 : t.length = 8
  · rcases p16_cases t 0 with ⟨u, hp⟩ | hp
    · have hu : u < 4294967296 := by
        have := p16_lt t 0 u hp
        rw [h8] at this; omega
      have hw : IntKind.u32.wrap (u : Int) = u := by rw [IntKind.wrap_u32]; omega
      have hfb := frombits_run u
      go_enter Tryz.func38, Tryz.ntmps38
      go_wp2_with (go_at_call 71; refine (pub16_ok Tryz.laysPu14 (bs t) (by rw [hsz]; exact h8) u (by rw [bs_list]; exact hp) w).mono ?_)
      rintro e W1 ⟨rfl, hW⟩
      have hb1 : Below w.heap.size w W1 := by rw [hW]; exact Lib.bytesWorld_below _ _ _
      have hg1 := hg.ext hb1
      clear hW
      obtain ⟨n1, n2⟩ := num_impl h8 hp
      by_cases he : hexN (tbits u) 8 = t
      · have hn := n1 he
        have ebs : bs (hexN (tbits u) 8) = bs t := by rw [he]
        go_wp2_with (go_at_call 41; refine (NumberText_c u hu W1 hg1).mono ?_; rintro e W2 ⟨rfl, hb2⟩)
        all_goals go_ret2
        all_goals exact ⟨by simp [numVal, hn], hb1.trans (hb2.mono hb1.size)⟩
      · have hn := n2 he
        have ebs : (hexN (tbits u) 8 == t) = false := by simpa using he
        go_wp2_with (go_at_call 41; refine (NumberText_c u hu W1 hg1).mono ?_; rintro e W2 ⟨rfl, hb2⟩)
        all_goals go_ret2
        all_goals exact ⟨by simp [numVal, hn], hb1.trans (hb2.mono hb1.size)⟩
    · have hn := num_impl_no hp
      obtain ⟨te, pe, hev⟩ := hg.2.es
      have hfb : ∀ w : World, (callFunc 72 #[.int .u32 0]).run Tryz.prog w = .ok (.value (.float .f32 0)) w := frombits_run 0
      have hw : IntKind.u32.wrap 0 = 0 := rfl
      go_enter Tryz.func38, Tryz.ntmps38
      go_wp2_with (go_at_call 71; refine (pub16_no Tryz.laysPu14 (bs t) (by rw [hsz]; exact h8) (by rw [bs_list]; exact hp) _ w hev (.inr ⟨te, pe, rfl⟩)).mono ?_)
      rintro e W1 ⟨N, rfl, hb1⟩
      go_wp2
      all_goals go_ret2
      all_goals exact ⟨by simp [numVal, hn], hb1⟩
  · have hn := num_len h8
    go_enter Tryz.func38, Tryz.ntmps38
    go_wp2
    all_goals go_ret2
    all_goals exact ⟨by simp [numVal, hn], Ext.refl w⟩
theorem ReadNumber_cv (t : List UInt8) (ht : t.length ≤ 1048576) :
    CV Tryz.prog 38 [.f (.str (bs t))] [] (fun v h => v = .tup [.f (.flt .f32 ((num t).getD 0)), .f (.int .i64 (if (num t).isSome then 0 else 5))] ∧ h = []) :=
  CV.old (by simp [SV.bd, bdL]) (enters_of Tryz.func38 (by kernel_rfl) (by kernel_rfl)) fun w β H => ReadNumber_c t ht w H.gl
end Go.Proofs.YtjhddlkfkicpaaaGreatDoor.Vx
