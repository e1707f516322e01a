/- Abstract execution: this program's table of types. Printed by vx.py. -/
import Derived.Test.YtgepaaakleomeabVu
namespace Go.Proofs.Ytgepaaakleomeab.Vx
open Go Go.RowKit Fl

def ti2 : TI := { k := .int .i64, size := 1, bytes := 8, z := .row [.int .i64 0] }
def ti3 : TI := { k := .int .i64, size := 1, bytes := 8, z := .row [.int .i64 0] }
def ti4 : TI := { k := .bool, size := 1, bytes := 1, z := .row [.bool false] }
def ti22 : TI := { k := .int .i8, size := 1, bytes := 1, z := .row [.int .i8 0] }
def ti23 : TI := { k := .slice 134, size := 1, bytes := 24, z := .row [.nils] }
def ti25 : TI := { k := .struct [(0, 22), (1, 22), (2, 23)], size := 3, bytes := 32, z := .row [.int .i8 0, .int .i8 0, .nils] }
def ti27 : TI := { k := .struct [(0, 22), (1, 22)], size := 2, bytes := 2, z := .row [.int .i8 0, .int .i8 0], eq := true }
def ti29 : TI := { k := .flt .f32, size := 1, bytes := 4, z := .row [.flt .f32 0] }
def ti32 : TI := { k := .slice 131, size := 1, bytes := 24, z := .row [.nils] }
def ti34 : TI := { k := .struct [(0, 22), (1, 22), (2, 32)], size := 3, bytes := 32, z := .row [.int .i8 0, .int .i8 0, .nils] }
def ti36 : TI := { k := .struct [(0, 22), (1, 22)], size := 2, bytes := 2, z := .row [.int .i8 0, .int .i8 0], eq := true }
def ti39 : TI := { k := .flt .f64, size := 1, bytes := 8, z := .row [.flt .f64 0] }
def ti43 : TI := { k := .struct [(0, 27), (2, 22)], size := 3, bytes := 3, z := .row [.int .i8 0, .int .i8 0, .int .i8 0] }
def ti47 : TI := { k := .struct [(0, 36), (2, 22)], size := 3, bytes := 3, z := .row [.int .i8 0, .int .i8 0, .int .i8 0] }
def ti50 : TI := { k := .slice 43, size := 1, bytes := 24, z := .row [.nils] }
def ti52 : TI := { k := .int .u16, size := 1, bytes := 2, z := .row [.int .u16 0] }
def ti55 : TI := { k := .slice 47, size := 1, bytes := 24, z := .row [.nils] }
def ti60 : TI := { k := .struct [(0, 29), (1, 29), (2, 29)], size := 3, bytes := 12, z := .row [.flt .f32 0, .flt .f32 0, .flt .f32 0] }
def ti63 : TI := { k := .struct [(0, 29), (1, 29), (2, 29)], size := 3, bytes := 12, z := .row [.flt .f32 0, .flt .f32 0, .flt .f32 0] }
def ti66 : TI := { k := .slice 60, size := 1, bytes := 24, z := .row [.nils] }
def ti68 : TI := { k := .slice 52, size := 1, bytes := 24, z := .row [.nils] }
def ti71 : TI := { k := .slice 63, size := 1, bytes := 24, z := .row [.nils] }
def ti80 : TI := { k := .slice 2, size := 1, bytes := 24, z := .row [.nils] }
def ti85 : TI := { k := .slice 36, size := 1, bytes := 24, z := .row [.nils] }
def ti105 : TI := { k := .int .u64, size := 1, bytes := 8, z := .row [.int .u64 0] }
def ti117 : TI := { k := .struct [(0, 68), (1, 3), (2, 80), (3, 2)], size := 4, bytes := 64, z := .row [.nils, .int .i64 0, .nils, .int .i64 0] }
def ti131 : TI := { k := .struct [(0, 22), (1, 22), (2, 29)], size := 3, bytes := 8, z := .row [.int .i8 0, .int .i8 0, .flt .f32 0] }
def ti134 : TI := { k := .struct [(0, 22), (1, 22), (2, 29)], size := 3, bytes := 8, z := .row [.int .i8 0, .int .i8 0, .flt .f32 0] }
def tab : Nat → Option TI
  | 2 => some ti2
  | 3 => some ti3
  | 4 => some ti4
  | 22 => some ti22
  | 23 => some ti23
  | 25 => some ti25
  | 27 => some ti27
  | 29 => some ti29
  | 32 => some ti32
  | 34 => some ti34
  | 36 => some ti36
  | 39 => some ti39
  | 43 => some ti43
  | 47 => some ti47
  | 50 => some ti50
  | 52 => some ti52
  | 55 => some ti55
  | 60 => some ti60
  | 63 => some ti63
  | 66 => some ti66
  | 68 => some ti68
  | 71 => some ti71
  | 80 => some ti80
  | 85 => some ti85
  | 105 => some ti105
  | 117 => some ti117
  | 131 => some ti131
  | 134 => some ti134
  | _ => none
def tabL : List (Nat × TI) := [(2, ti2), (3, ti3), (4, ti4), (22, ti22), (23, ti23), (25, ti25), (27, ti27), (29, ti29), (32, ti32), (34, ti34), (36, ti36), (39, ti39), (43, ti43), (47, ti47), (50, ti50), (52, ti52), (55, ti55), (60, ti60), (63, ti63), (66, ti66), (68, ti68), (71, ti71), (80, ti80), (85, ti85), (105, ti105), (117, ti117), (131, ti131), (134, ti134)]
theorem tab_mem : ∀ t i, tab t = some i → (t, i) ∈ tabL := by
  intro t i h
  unfold tab at h
  unfold tabL
  split at h <;> first | (cases h; done) | (cases h; simp only [List.mem_cons, true_or, or_true])
theorem tabOk : TabOk Try.prog tab := tabOk_of tab_mem (by kernel_rfl)
def sc3 : Nat → List SI × List Nat
  | 5 => ([.q 0, .q 2, .n 1, .n 3, .n 4, .q 5, .q 6, .q 7, .q 8, .q 9, .q 10, .q 11], [])
  | 7 => ([.q 0, .q 1, .n 2, .n 3, .q 4, .q 5, .q 6, .q 7, .q 8, .q 9, .q 10], [])
  | 10 => ([.q 0, .q 1, .n 2, .n 3, .q 4], [])
  | _ => ([], [])
def sb3 : Nat → Option (List Nat × Bool × SB)
  | _ => none
def sc4 : Nat → List SI × List Nat
  | 5 => ([.q 0, .q 2, .n 1, .n 3, .n 4, .q 5, .q 6, .q 7, .q 8, .q 9], [])
  | 7 => ([.q 0, .q 1, .n 2, .n 3, .q 4, .q 5, .q 6, .q 7, .q 8], [])
  | 10 => ([.q 0, .q 1, .n 2, .n 3, .q 4], [])
  | _ => ([], [])
def sb4 : Nat → Option (List Nat × Bool × SB)
  | _ => none
def sc5 : Nat → List SI × List Nat
  | 14 => ([.q 0, .q 1, .n 2, .n 3, .q 4], [])
  | _ => ([], [])
def sb5 : Nat → Option (List Nat × Bool × SB)
  | _ => none
def sc6 : Nat → List SI × List Nat
  | 5 => ([.q 0, .q 2, .q 4, .n 1, .n 3, .n 5, .n 6, .q 7, .q 8, .q 9, .q 10, .q 11], [])
  | 7 => ([.q 0, .q 1, .q 3, .n 2, .n 4, .n 5, .q 6, .q 7, .q 8, .q 9, .q 10], [])
  | 10 => ([.q 0, .q 1, .n 2, .n 3, .q 4], [])
  | _ => ([], [])
def sb6 : Nat → Option (List Nat × Bool × SB)
  | _ => none
def sc7 : Nat → List SI × List Nat
  | 18 => ([.q 0, .q 1, .n 2, .n 3, .q 4], [])
  | _ => ([], [])
def sb7 : Nat → Option (List Nat × Bool × SB)
  | _ => none
def sc8 : Nat → List SI × List Nat
  | 18 => ([.q 0, .q 1, .n 2, .n 3, .q 4], [])
  | _ => ([], [])
def sb8 : Nat → Option (List Nat × Bool × SB)
  | _ => none
def sc9 : Nat → List SI × List Nat
  | 10 => ([.q 0, .q 1, .n 2, .n 3, .q 4], [])
  | _ => ([], [])
def sb9 : Nat → Option (List Nat × Bool × SB)
  | _ => none
def sc10 : Nat → List SI × List Nat
  | _ => ([], [])
def sb10 : Nat → Option (List Nat × Bool × SB)
  | _ => none
def sc11 : Nat → List SI × List Nat
  | _ => ([], [])
def sb11 : Nat → Option (List Nat × Bool × SB)
  | _ => none
def sc12 : Nat → List SI × List Nat
  | _ => ([], [])
def sb12 : Nat → Option (List Nat × Bool × SB)
  | _ => none
def sc13 : Nat → List SI × List Nat
  | _ => ([], [])
def sb13 : Nat → Option (List Nat × Bool × SB)
  | _ => none
def sc14 : Nat → List SI × List Nat
  | 1 => ([.q 0, .q 1, .n 2, .n 3, .q 4], [])
  | 8 => ([.q 0, .q 1, .q 2, .q 4, .q 5, .q 6, .n 3, .n 7, .q 8], [])
  | _ => ([], [])
def sb14 : Nat → Option (List Nat × Bool × SB)
  | _ => none
def sc15 : Nat → List SI × List Nat
  | _ => ([], [])
def sb15 : Nat → Option (List Nat × Bool × SB)
  | _ => none
def sc16 : Nat → List SI × List Nat
  | _ => ([], [])
def sb16 : Nat → Option (List Nat × Bool × SB)
  | _ => none
def sc17 : Nat → List SI × List Nat
  | _ => ([], [])
def sb17 : Nat → Option (List Nat × Bool × SB)
  | _ => none
def sc18 : Nat → List SI × List Nat
  | _ => ([], [])
def sb18 : Nat → Option (List Nat × Bool × SB)
  | _ => none
def sc19 : Nat → List SI × List Nat
  | 1 => ([.q 0, .q 1, .n 2, .n 3, .n 4, .q 5], [])
  | _ => ([], [])
def sb19 : Nat → Option (List Nat × Bool × SB)
  | _ => none
def sc20 : Nat → List SI × List Nat
  | _ => ([], [])
def sb20 : Nat → Option (List Nat × Bool × SB)
  | _ => none
def sc21 : Nat → List SI × List Nat
  | _ => ([], [])
def sb21 : Nat → Option (List Nat × Bool × SB)
  | _ => none
def sc22 : Nat → List SI × List Nat
  | _ => ([], [])
def sb22 : Nat → Option (List Nat × Bool × SB)
  | _ => none
def sc23 : Nat → List SI × List Nat
  | 1 => ([.q 0, .q 1, .n 2, .q 3, .q 4, .q 5, .q 6, .q 7, .n 8, .q 9], [])
  | _ => ([], [])
def sb23 : Nat → Option (List Nat × Bool × SB)
  | _ => none
def sc24 : Nat → List SI × List Nat
  | 6 => ([.q 0, .q 1, .q 2, .q 3, .q 4, .q 5, .q 6, .q 7, .n 8, .q 9], [])
  | _ => ([], [])
def sb24 : Nat → Option (List Nat × Bool × SB)
  | _ => none
def sc25 : Nat → List SI × List Nat
  | _ => ([], [])
def sb25 : Nat → Option (List Nat × Bool × SB)
  | _ => none
def sc26 : Nat → List SI × List Nat
  | _ => ([], [])
def sb26 : Nat → Option (List Nat × Bool × SB)
  | _ => none
def sc27 : Nat → List SI × List Nat
  | _ => ([], [])
def sb27 : Nat → Option (List Nat × Bool × SB)
  | _ => none
def sc28 : Nat → List SI × List Nat
  | _ => ([], [])
def sb28 : Nat → Option (List Nat × Bool × SB)
  | _ => none
def sc29 : Nat → List SI × List Nat
  | _ => ([], [])
def sb29 : Nat → Option (List Nat × Bool × SB)
  | _ => none
def sc30 : Nat → List SI × List Nat
  | _ => ([], [])
def sb30 : Nat → Option (List Nat × Bool × SB)
  | _ => none
def sc31 : Nat → List SI × List Nat
  | 12 => ([.q 0, .q 1, .q 2, .q 3, .q 4, .q 5, .q 6, .q 7], [8])
  | _ => ([], [])
def sb31 : Nat → Option (List Nat × Bool × SB)
  | _ => none
def sc32 : Nat → List SI × List Nat
  | 6 => ([.q 0, .q 1, .q 2, .q 3, .q 4, .q 5, .q 6, .q 7, .q 8], [])
  | _ => ([], [])
def sb32 : Nat → Option (List Nat × Bool × SB)
  | _ => none
def sc33 : Nat → List SI × List Nat
  | 6 => ([.q 0, .q 1, .q 2, .q 3, .q 4, .q 5, .q 6, .q 7, .n 8, .q 9], [])
  | _ => ([], [])
def sb33 : Nat → Option (List Nat × Bool × SB)
  | _ => none
def sc34 : Nat → List SI × List Nat
  | _ => ([], [])
def sb34 : Nat → Option (List Nat × Bool × SB)
  | _ => none
def sc35 : Nat → List SI × List Nat
  | _ => ([], [])
def sb35 : Nat → Option (List Nat × Bool × SB)
  | _ => none
def sc36 : Nat → List SI × List Nat
  | _ => ([], [])
def sb36 : Nat → Option (List Nat × Bool × SB)
  | _ => none
def sc37 : Nat → List SI × List Nat
  | _ => ([], [])
def sb37 : Nat → Option (List Nat × Bool × SB)
  | _ => none
def sc38 : Nat → List SI × List Nat
  | _ => ([], [])
def sb38 : Nat → Option (List Nat × Bool × SB)
  | _ => none
def sc39 : Nat → List SI × List Nat
  | 6 => ([.q 0, .q 1, .q 2, .q 3, .q 4, .q 5, .q 6, .q 7, .q 8, .q 9, .q 10], [])
  | _ => ([], [])
def sb39 : Nat → Option (List Nat × Bool × SB)
  | _ => none
def sc40 : Nat → List SI × List Nat
  | _ => ([], [])
def sb40 : Nat → Option (List Nat × Bool × SB)
  | _ => none
def sc41 : Nat → List SI × List Nat
  | 6 => ([.q 0, .q 1, .q 2, .q 3, .q 4, .q 5, .q 6, .q 7, .q 8], [])
  | _ => ([], [])
def sb41 : Nat → Option (List Nat × Bool × SB)
  | _ => none
def sc42 : Nat → List SI × List Nat
  | _ => ([], [])
def sb42 : Nat → Option (List Nat × Bool × SB)
  | _ => none
def sc43 : Nat → List SI × List Nat
  | _ => ([], [])
def sb43 : Nat → Option (List Nat × Bool × SB)
  | _ => none
def sc44 : Nat → List SI × List Nat
  | _ => ([], [])
def sb44 : Nat → Option (List Nat × Bool × SB)
  | _ => none
def sc45 : Nat → List SI × List Nat
  | 1 => ([.q 0, .q 1, .q 2, .q 3, .q 4, .q 5, .n 6, .q 7, .n 8, .q 9], [])
  | _ => ([], [])
def sb45 : Nat → Option (List Nat × Bool × SB)
  | _ => none
def sc46 : Nat → List SI × List Nat
  | 6 => ([.q 0, .q 1, .q 2, .q 3, .q 4, .q 5, .q 6, .q 7, .n 8, .q 9], [])
  | _ => ([], [])
def sb46 : Nat → Option (List Nat × Bool × SB)
  | _ => none
def sc47 : Nat → List SI × List Nat
  | _ => ([], [])
def sb47 : Nat → Option (List Nat × Bool × SB)
  | _ => none
def sc48 : Nat → List SI × List Nat
  | _ => ([], [])
def sb48 : Nat → Option (List Nat × Bool × SB)
  | _ => none
def sc49 : Nat → List SI × List Nat
  | _ => ([], [])
def sb49 : Nat → Option (List Nat × Bool × SB)
  | _ => none
def sc50 : Nat → List SI × List Nat
  | _ => ([], [])
def sb50 : Nat → Option (List Nat × Bool × SB)
  | _ => none
def sc51 : Nat → List SI × List Nat
  | 1 => ([.q 0, .q 1, .q 2, .q 3, .q 4, .q 5, .q 6, .q 7, .q 8, .n 9, .q 10, .q 11, .q 12, .q 13, .q 14, .q 15, .q 16, .q 17, .q 18, .q 19, .n 20, .q 21, .q 22], [])
  | _ => ([], [])
def sb51 : Nat → Option (List Nat × Bool × SB)
  | _ => none
def sc52 : Nat → List SI × List Nat
  | 5 => ([.q 0, .q 1, .q 2, .q 3, .q 4, .q 5, .q 6, .q 7, .q 8, .n 9], [])
  | 6 => ([.q 0, .q 1, .q 2, .q 3, .q 4, .q 5, .q 6, .q 7, .q 8, .q 9, .q 10, .n 11, .q 12, .q 13], [])
  | _ => ([], [])
def sb52 : Nat → Option (List Nat × Bool × SB)
  | _ => none
def sc53 : Nat → List SI × List Nat
  | _ => ([], [])
def sb53 : Nat → Option (List Nat × Bool × SB)
  | _ => none
def sc54 : Nat → List SI × List Nat
  | _ => ([], [])
def sb54 : Nat → Option (List Nat × Bool × SB)
  | _ => none
def sc55 : Nat → List SI × List Nat
  | 1 => ([.q 0, .q 1, .q 2, .q 3, .q 4, .q 5, .q 6, .q 7, .q 8, .q 9, .q 10, .q 11, .q 12, .q 13, .q 14, .q 15, .q 16, .q 17, .q 18, .q 19, .q 20, .q 21, .q 22, .q 23, .q 24, .q 25, .q 26], [])
  | _ => ([], [])
def sb55 : Nat → Option (List Nat × Bool × SB)
  | _ => none
def sc56 : Nat → List SI × List Nat
  | _ => ([], [])
def sb56 : Nat → Option (List Nat × Bool × SB)
  | _ => none
def sc57 : Nat → List SI × List Nat
  | 6 => ([.q 0, .q 1, .q 2, .q 3, .q 4, .q 5, .q 6, .q 7, .n 8, .q 9], [])
  | _ => ([], [])
def sb57 : Nat → Option (List Nat × Bool × SB)
  | _ => none
def sc58 : Nat → List SI × List Nat
  | _ => ([], [])
def sb58 : Nat → Option (List Nat × Bool × SB)
  | _ => none
def sc59 : Nat → List SI × List Nat
  | _ => ([], [])
def sb59 : Nat → Option (List Nat × Bool × SB)
  | _ => none
def sc60 : Nat → List SI × List Nat
  | _ => ([], [])
def sb60 : Nat → Option (List Nat × Bool × SB)
  | _ => none
def sc61 : Nat → List SI × List Nat
  | _ => ([], [])
def sb61 : Nat → Option (List Nat × Bool × SB)
  | _ => none
def sc62 : Nat → List SI × List Nat
  | _ => ([], [])
def sb62 : Nat → Option (List Nat × Bool × SB)
  | _ => none
def sc63 : Nat → List SI × List Nat
  | _ => ([], [])
def sb63 : Nat → Option (List Nat × Bool × SB)
  | _ => none
def sc64 : Nat → List SI × List Nat
  | _ => ([], [])
def sb64 : Nat → Option (List Nat × Bool × SB)
  | _ => none
def sc65 : Nat → List SI × List Nat
  | 2 => ([.q 0, .q 1, .q 2, .q 3, .q 4, .q 5, .q 6, .q 7, .q 8, .q 9, .q 10, .q 11, .q 12, .q 14, .q 15, .n 13, .q 16, .q 17, .q 18], [])
  | _ => ([], [])
def sb65 : Nat → Option (List Nat × Bool × SB)
  | _ => none
def sc66 : Nat → List SI × List Nat
  | 7 => ([.q 0, .q 1, .n 2, .n 3, .q 4], [])
  | _ => ([], [])
def sb66 : Nat → Option (List Nat × Bool × SB)
  | _ => none
def sc67 : Nat → List SI × List Nat
  | 2 => ([.q 0, .q 1, .q 2, .q 3, .q 4, .q 5, .q 6, .q 7, .q 8, .q 9, .q 10, .q 11, .q 12, .q 14, .q 15, .n 13, .q 16, .q 17, .q 18], [])
  | _ => ([], [])
def sb67 : Nat → Option (List Nat × Bool × SB)
  | _ => none
def sc68 : Nat → List SI × List Nat
  | 17 => ([.q 0, .q 1, .q 2, .q 3, .q 4, .q 5, .q 6, .q 7, .q 8, .n 9], [])
  | _ => ([], [])
def sb68 : Nat → Option (List Nat × Bool × SB)
  | _ => none
def sc69 : Nat → List SI × List Nat
  | _ => ([], [])
def sb69 : Nat → Option (List Nat × Bool × SB)
  | _ => none
def sc70 : Nat → List SI × List Nat
  | _ => ([], [])
def sb70 : Nat → Option (List Nat × Bool × SB)
  | _ => none
def sc71 : Nat → List SI × List Nat
  | _ => ([], [])
def sb71 : Nat → Option (List Nat × Bool × SB)
  | _ => none
def sc72 : Nat → List SI × List Nat
  | _ => ([], [])
def sb72 : Nat → Option (List Nat × Bool × SB)
  | _ => none
def sc73 : Nat → List SI × List Nat
  | _ => ([], [])
def sb73 : Nat → Option (List Nat × Bool × SB)
  | _ => none
def sc74 : Nat → List SI × List Nat
  | _ => ([], [])
def sb74 : Nat → Option (List Nat × Bool × SB)
  | _ => none
def sc75 : Nat → List SI × List Nat
  | 5 => ([.q 0, .q 1, .q 2, .q 3, .q 4, .q 5, .q 6, .q 7, .q 8, .q 9, .n 10, .q 11, .q 12], [])
  | _ => ([], [])
def sb75 : Nat → Option (List Nat × Bool × SB)
  | _ => none
def sc76 : Nat → List SI × List Nat
  | 10 => ([.q 0, .q 1, .q 2, .q 3, .q 4, .q 5, .q 6, .q 7, .q 8, .q 9, .n 10, .q 11, .q 12, .q 13], [])
  | _ => ([], [])
def sb76 : Nat → Option (List Nat × Bool × SB)
  | 12 => some ([], true, (.q 0 (.q 2 (.q 4 (.q 5 (.q 6 (.q 7 (.q 10 (.q 11 (.q 12 (.q 13 (.f 1 (.f 3 (.n 8 (.n 9 (.n 14 (.q 15 (.q 16 (.q 17 (.q 18 (.q 19 .nil)))))))) 8 (.n 3 (.n 9 (.n 14 (.q 15 (.q 16 (.q 17 (.q 18 (.q 19 .nil))))))))) 8 (.n 1 (.n 3 (.n 9 (.n 14 (.q 15 (.q 16 (.q 17 (.q 18 (.q 19 .nil)))))))))))))))))))))
  | _ => none
def sc77 : Nat → List SI × List Nat
  | _ => ([], [])
def sb77 : Nat → Option (List Nat × Bool × SB)
  | _ => none
def sc78 : Nat → List SI × List Nat
  | _ => ([], [])
def sb78 : Nat → Option (List Nat × Bool × SB)
  | _ => none
def sc79 : Nat → List SI × List Nat
  | _ => ([], [])
def sb79 : Nat → Option (List Nat × Bool × SB)
  | _ => none
def sc80 : Nat → List SI × List Nat
  | _ => ([], [])
def sb80 : Nat → Option (List Nat × Bool × SB)
  | 13 => some ([], false, (.q 0 (.q 1 (.q 2 (.q 3 (.q 4 (.q 5 (.q 6 (.q 7 (.q 8 (.q 9 (.q 10 (.q 13 (.q 14 (.n 11 (.n 12 (.n 15 (.q 16 (.q 17 (.q 18 (.q 19 (.q 20 .nil))))))))))))))))))))))
  | _ => none
def sc81 : Nat → List SI × List Nat
  | _ => ([], [])
def sb81 : Nat → Option (List Nat × Bool × SB)
  | _ => none
def sc82 : Nat → List SI × List Nat
  | _ => ([], [])
def sb82 : Nat → Option (List Nat × Bool × SB)
  | _ => none
def sc83 : Nat → List SI × List Nat
  | _ => ([], [])
def sb83 : Nat → Option (List Nat × Bool × SB)
  | _ => none
def sc84 : Nat → List SI × List Nat
  | _ => ([], [])
def sb84 : Nat → Option (List Nat × Bool × SB)
  | _ => none
def sc85 : Nat → List SI × List Nat
  | _ => ([], [])
def sb85 : Nat → Option (List Nat × Bool × SB)
  | _ => none
def sc86 : Nat → List SI × List Nat
  | _ => ([], [])
def sb86 : Nat → Option (List Nat × Bool × SB)
  | _ => none
def sc87 : Nat → List SI × List Nat
  | 2 => ([.q 0, .q 1, .q 2, .q 3, .q 4, .q 5, .q 6, .q 7, .q 8, .q 9, .q 10, .q 11, .q 12, .q 13, .q 14, .q 15], [])
  | _ => ([], [])
def sb87 : Nat → Option (List Nat × Bool × SB)
  | _ => none
def sc88 : Nat → List SI × List Nat
  | _ => ([], [])
def sb88 : Nat → Option (List Nat × Bool × SB)
  | _ => none
def sc89 : Nat → List SI × List Nat
  | _ => ([], [])
def sb89 : Nat → Option (List Nat × Bool × SB)
  | _ => none
def sc90 : Nat → List SI × List Nat
  | _ => ([], [])
def sb90 : Nat → Option (List Nat × Bool × SB)
  | _ => none
def sc91 : Nat → List SI × List Nat
  | _ => ([], [])
def sb91 : Nat → Option (List Nat × Bool × SB)
  | _ => none
def sc92 : Nat → List SI × List Nat
  | _ => ([], [])
def sb92 : Nat → Option (List Nat × Bool × SB)
  | _ => none
def sc93 : Nat → List SI × List Nat
  | _ => ([], [])
def sb93 : Nat → Option (List Nat × Bool × SB)
  | _ => none
def sc94 : Nat → List SI × List Nat
  | 5 => ([.q 0, .q 1, .q 2, .q 3, .q 4, .q 5, .q 6, .q 7], [8])
  | 7 => ([.q 0, .q 1, .q 2, .q 3, .q 4, .q 5, .q 6, .q 7], [8])
  | _ => ([], [])
def sb94 : Nat → Option (List Nat × Bool × SB)
  | _ => none
def sc95 : Nat → List SI × List Nat
  | 1 => ([.q 0, .q 1, .q 2, .q 3, .q 4, .q 5, .q 6, .q 7, .q 8, .q 9, .q 10, .q 11, .q 12, .q 13, .q 14, .q 15, .q 16, .q 17, .q 18, .n 19, .q 20, .q 21, .q 22, .q 23, .q 24, .n 25, .q 26, .q 27], [])
  | _ => ([], [])
def sb95 : Nat → Option (List Nat × Bool × SB)
  | _ => none
def sc96 : Nat → List SI × List Nat
  | 5 => ([.q 0, .q 1, .q 2, .q 3, .q 4, .q 5, .q 6, .q 7], [8])
  | 7 => ([.q 0, .q 1, .q 2, .q 3, .q 4, .q 5, .q 6, .q 7], [8])
  | _ => ([], [])
def sb96 : Nat → Option (List Nat × Bool × SB)
  | _ => none
def sc97 : Nat → List SI × List Nat
  | _ => ([], [])
def sb97 : Nat → Option (List Nat × Bool × SB)
  | _ => none
def sc98 : Nat → List SI × List Nat
  | _ => ([], [])
def sb98 : Nat → Option (List Nat × Bool × SB)
  | _ => none
def sc99 : Nat → List SI × List Nat
  | _ => ([], [])
def sb99 : Nat → Option (List Nat × Bool × SB)
  | _ => none
def sc100 : Nat → List SI × List Nat
  | _ => ([], [])
def sb100 : Nat → Option (List Nat × Bool × SB)
  | _ => none
end Go.Proofs.Ytgepaaakleomeab.Vx
