/- Abstract execution: this program's table of types. Printed by vx.py. -/
import Derived.Test.YtggamjjgdahaaacVu
namespace Go.Proofs.Ytggamjjgdahaaac.Vx
open Go Go.RowKit Fl

def ti2 : TI := { k := .int .i64, size := 1, bytes := 8, z := .row [.int .i64 0] }
def ti3 : TI := { k := .int .i64, size := 1, bytes := 8, z := .row [.int .i64 0] }
def ti4 : TI := { k := .bool, size := 1, bytes := 1, z := .row [.bool false] }
def ti22 : TI := { k := .int .i8, size := 1, bytes := 1, z := .row [.int .i8 0] }
def ti23 : TI := { k := .flt .f32, size := 1, bytes := 4, z := .row [.flt .f32 0] }
def ti24 : TI := { k := .int .i16, size := 1, bytes := 2, z := .row [.int .i16 0] }
def ti26 : TI := { k := .struct [(0, 22), (1, 23), (2, 23), (3, 24), (4, 23)], size := 5, bytes := 20, z := .row [.int .i8 0, .flt .f32 0, .flt .f32 0, .int .i16 0, .flt .f32 0] }
def ti27 : TI := { k := .slice 23, size := 1, bytes := 24, z := .row [.nils] }
def ti30 : TI := { k := .struct [(0, 22), (1, 23), (2, 23), (3, 24), (4, 23)], size := 5, bytes := 20, z := .row [.int .i8 0, .flt .f32 0, .flt .f32 0, .int .i16 0, .flt .f32 0] }
def ti34 : TI := { k := .flt .f64, size := 1, bytes := 8, z := .row [.flt .f64 0] }
def ti37 : TI := { k := .slice 26, size := 1, bytes := 24, z := .row [.nils] }
def ti40 : TI := { k := .slice 30, size := 1, bytes := 24, z := .row [.nils] }
def ti45 : TI := { k := .struct [(0, 23), (1, 23), (2, 23), (3, 22), (4, 22), (5, 22)], size := 6, bytes := 16, z := .row [.flt .f32 0, .flt .f32 0, .flt .f32 0, .int .i8 0, .int .i8 0, .int .i8 0] }
def ti47 : TI := { k := .struct [(0, 24), (1, 22), (2, 22)], size := 3, bytes := 4, z := .row [.int .i16 0, .int .i8 0, .int .i8 0], eq := true }
def ti49 : TI := { k := .struct [(0, 23), (1, 23), (2, 22)], size := 3, bytes := 12, z := .row [.flt .f32 0, .flt .f32 0, .int .i8 0] }
def ti52 : TI := { k := .struct [(0, 23), (1, 23), (2, 23), (3, 22), (4, 22), (5, 22)], size := 6, bytes := 16, z := .row [.flt .f32 0, .flt .f32 0, .flt .f32 0, .int .i8 0, .int .i8 0, .int .i8 0] }
def ti54 : TI := { k := .struct [(0, 24), (1, 22), (2, 22)], size := 3, bytes := 4, z := .row [.int .i16 0, .int .i8 0, .int .i8 0], eq := true }
def ti56 : TI := { k := .struct [(0, 23), (1, 23), (2, 22)], size := 3, bytes := 12, z := .row [.flt .f32 0, .flt .f32 0, .int .i8 0] }
def ti66 : TI := { k := .slice 49, size := 1, bytes := 24, z := .row [.nils] }
def ti70 : TI := { k := .slice 56, size := 1, bytes := 24, z := .row [.nils] }
def tab : Nat → Option TI
  | 2 => some ti2
  | 3 => some ti3
  | 4 => some ti4
  | 22 => some ti22
  | 23 => some ti23
  | 24 => some ti24
  | 26 => some ti26
  | 27 => some ti27
  | 30 => some ti30
  | 34 => some ti34
  | 37 => some ti37
  | 40 => some ti40
  | 45 => some ti45
  | 47 => some ti47
  | 49 => some ti49
  | 52 => some ti52
  | 54 => some ti54
  | 56 => some ti56
  | 66 => some ti66
  | 70 => some ti70
  | _ => none
def tabL : List (Nat × TI) := [(2, ti2), (3, ti3), (4, ti4), (22, ti22), (23, ti23), (24, ti24), (26, ti26), (27, ti27), (30, ti30), (34, ti34), (37, ti37), (40, ti40), (45, ti45), (47, ti47), (49, ti49), (52, ti52), (54, ti54), (56, ti56), (66, ti66), (70, ti70)]
theorem tab_mem : ∀ t i, tab t = some i → (t, i) ∈ tabL := by
  intro t i h
  unfold tab at h
  unfold tabL
  split at h <;> first | (cases h; done) | (cases h; simp only [List.mem_cons, true_or, or_true])
theorem tabOk : TabOk Try.prog tab := tabOk_of tab_mem (by kernel_rfl)
def sc3 : Nat → List SI × List Nat
  | _ => ([], [])
def sb3 : Nat → Option (List Nat × Bool × SB)
  | _ => none
def sc4 : Nat → List SI × List Nat
  | _ => ([], [])
def sb4 : Nat → Option (List Nat × Bool × SB)
  | _ => none
def sc5 : Nat → List SI × List Nat
  | 1 => ([.q 0, .q 2, .q 4, .q 6, .n 1, .n 3, .n 5, .n 7, .n 8, .q 9, .q 10, .q 11, .q 12, .q 13], [])
  | 2 => ([.q 0, .q 2, .q 4, .q 6, .n 1, .n 3, .n 5, .n 7, .n 8, .q 9, .q 10, .q 11, .q 12, .q 13], [])
  | _ => ([], [])
def sb5 : Nat → Option (List Nat × Bool × SB)
  | _ => none
def sc6 : Nat → List SI × List Nat
  | 1 => ([.q 0, .q 2, .q 4, .q 6, .n 1, .n 3, .n 5, .n 7, .n 8, .q 9, .q 10, .q 11, .q 12, .q 13], [])
  | 2 => ([.q 0, .q 2, .q 4, .q 6, .n 1, .n 3, .n 5, .n 7, .n 8, .q 9, .q 10, .q 11, .q 12, .q 13], [])
  | _ => ([], [])
def sb6 : Nat → Option (List Nat × Bool × SB)
  | _ => none
def sc7 : Nat → List SI × List Nat
  | _ => ([], [])
def sb7 : Nat → Option (List Nat × Bool × SB)
  | 1 => some ([], false, (.q 0 (.q 2 (.q 4 (.q 6 (.e 1 (.e 3 (.e 5 (.e 7 (.e 8 (.q 9 (.q 10 (.q 11 (.q 12 (.n 13 (.n 14 (.q 15 (.q 16 .nil))))))))))))))))))
  | 2 => some ([], false, (.q 0 (.q 2 (.q 4 (.q 6 (.e 1 (.e 3 (.e 5 (.e 7 (.e 8 (.q 9 (.q 10 (.q 11 (.q 12 (.n 13 (.n 14 (.q 15 (.q 16 .nil))))))))))))))))))
  | _ => none
def sc8 : Nat → List SI × List Nat
  | _ => ([], [])
def sb8 : Nat → Option (List Nat × Bool × SB)
  | 1 => some ([], false, (.q 0 (.q 2 (.q 4 (.q 6 (.e 1 (.e 3 (.e 5 (.e 7 (.e 8 (.q 9 (.q 10 (.q 11 (.q 12 (.n 13 (.n 14 (.q 15 (.q 16 .nil))))))))))))))))))
  | 2 => some ([], false, (.q 0 (.q 2 (.q 4 (.q 6 (.e 1 (.e 3 (.e 5 (.e 7 (.e 8 (.q 9 (.q 10 (.q 11 (.q 12 (.n 13 (.n 14 (.q 15 (.q 16 .nil))))))))))))))))))
  | _ => none
def sc9 : Nat → List SI × List Nat
  | 5 => ([.q 0, .q 2, .q 4, .q 6, .n 1, .n 3, .n 5, .n 7, .n 8, .q 9, .q 10, .q 11, .q 12, .q 13], [])
  | 7 => ([.q 0, .q 2, .q 4, .q 6, .n 1, .n 3, .n 5, .n 7, .q 8, .q 9, .q 10, .q 11, .q 12], [])
  | _ => ([], [])
def sb9 : Nat → Option (List Nat × Bool × SB)
  | _ => none
def sc10 : Nat → List SI × List Nat
  | _ => ([], [])
def sb10 : Nat → Option (List Nat × Bool × SB)
  | _ => none
def sc11 : Nat → List SI × List Nat
  | _ => ([], [])
def sb11 : Nat → Option (List Nat × Bool × SB)
  | _ => none
def sc12 : Nat → List SI × List Nat
  | _ => ([], [])
def sb12 : Nat → Option (List Nat × Bool × SB)
  | _ => none
def sc13 : Nat → List SI × List Nat
  | 1 => ([.q 0, .q 1, .n 2, .q 3, .q 4, .n 5, .q 6, .n 7, .q 8], [])
  | _ => ([], [])
def sb13 : Nat → Option (List Nat × Bool × SB)
  | _ => none
def sc14 : Nat → List SI × List Nat
  | _ => ([], [])
def sb14 : Nat → Option (List Nat × Bool × SB)
  | _ => none
def sc15 : Nat → List SI × List Nat
  | _ => ([], [])
def sb15 : Nat → Option (List Nat × Bool × SB)
  | 6 => some ([], false, (.q 0 (.q 1 (.q 2 (.q 3 (.q 5 (.q 6 (.q 7 (.q 8 (.f 4 (.n 9 (.n 10 (.q 11 .nil))) 9 (.n 4 (.n 10 (.q 11 .nil)))))))))))))
  | _ => none
def sc16 : Nat → List SI × List Nat
  | _ => ([], [])
def sb16 : Nat → Option (List Nat × Bool × SB)
  | _ => none
def sc17 : Nat → List SI × List Nat
  | _ => ([], [])
def sb17 : Nat → Option (List Nat × Bool × SB)
  | _ => none
def sc18 : Nat → List SI × List Nat
  | _ => ([], [])
def sb18 : Nat → Option (List Nat × Bool × SB)
  | _ => none
def sc19 : Nat → List SI × List Nat
  | _ => ([], [])
def sb19 : Nat → Option (List Nat × Bool × SB)
  | _ => none
def sc20 : Nat → List SI × List Nat
  | 6 => ([.q 0, .q 1, .q 2, .q 3, .q 4, .q 5, .q 6, .q 7, .n 8, .q 9], [])
  | _ => ([], [])
def sb20 : Nat → Option (List Nat × Bool × SB)
  | _ => none
def sc21 : Nat → List SI × List Nat
  | _ => ([], [])
def sb21 : Nat → Option (List Nat × Bool × SB)
  | _ => none
def sc22 : Nat → List SI × List Nat
  | _ => ([], [])
def sb22 : Nat → Option (List Nat × Bool × SB)
  | _ => none
def sc23 : Nat → List SI × List Nat
  | _ => ([], [])
def sb23 : Nat → Option (List Nat × Bool × SB)
  | _ => none
def sc24 : Nat → List SI × List Nat
  | _ => ([], [])
def sb24 : Nat → Option (List Nat × Bool × SB)
  | _ => none
def sc25 : Nat → List SI × List Nat
  | _ => ([], [])
def sb25 : Nat → Option (List Nat × Bool × SB)
  | _ => none
def sc26 : Nat → List SI × List Nat
  | _ => ([], [])
def sb26 : Nat → Option (List Nat × Bool × SB)
  | _ => none
def sc27 : Nat → List SI × List Nat
  | _ => ([], [])
def sb27 : Nat → Option (List Nat × Bool × SB)
  | _ => none
def sc28 : Nat → List SI × List Nat
  | _ => ([], [])
def sb28 : Nat → Option (List Nat × Bool × SB)
  | _ => none
def sc29 : Nat → List SI × List Nat
  | _ => ([], [])
def sb29 : Nat → Option (List Nat × Bool × SB)
  | _ => none
def sc30 : Nat → List SI × List Nat
  | _ => ([], [])
def sb30 : Nat → Option (List Nat × Bool × SB)
  | _ => none
def sc31 : Nat → List SI × List Nat
  | _ => ([], [])
def sb31 : Nat → Option (List Nat × Bool × SB)
  | _ => none
def sc32 : Nat → List SI × List Nat
  | _ => ([], [])
def sb32 : Nat → Option (List Nat × Bool × SB)
  | _ => none
def sc33 : Nat → List SI × List Nat
  | _ => ([], [])
def sb33 : Nat → Option (List Nat × Bool × SB)
  | _ => none
def sc34 : Nat → List SI × List Nat
  | _ => ([], [])
def sb34 : Nat → Option (List Nat × Bool × SB)
  | 8 => some ([], true, (.q 0 (.q 1 (.q 2 (.q 3 (.q 4 (.f 5 (.q 6 (.q 7 (.q 8 (.n 9 (.n 10 (.q 11 .nil)))))) 9 (.n 5 (.q 6 (.q 7 (.q 8 (.n 10 (.q 11 .nil)))))))))))))
  | _ => none
def sc35 : Nat → List SI × List Nat
  | _ => ([], [])
def sb35 : Nat → Option (List Nat × Bool × SB)
  | _ => none
def sc36 : Nat → List SI × List Nat
  | _ => ([], [])
def sb36 : Nat → Option (List Nat × Bool × SB)
  | _ => none
def sc37 : Nat → List SI × List Nat
  | 6 => ([.q 0, .q 1, .q 2, .q 3, .q 4, .q 5, .q 6, .q 7, .n 8, .q 9], [])
  | _ => ([], [])
def sb37 : Nat → Option (List Nat × Bool × SB)
  | _ => none
def sc38 : Nat → List SI × List Nat
  | _ => ([], [])
def sb38 : Nat → Option (List Nat × Bool × SB)
  | _ => none
def sc39 : Nat → List SI × List Nat
  | _ => ([], [])
def sb39 : Nat → Option (List Nat × Bool × SB)
  | _ => none
def sc40 : Nat → List SI × List Nat
  | _ => ([], [])
def sb40 : Nat → Option (List Nat × Bool × SB)
  | _ => none
def sc41 : Nat → List SI × List Nat
  | 2 => ([.q 0, .q 1, .q 3, .q 4, .q 5, .q 6, .q 8, .n 2, .q 7, .q 9, .q 10, .q 11], [])
  | _ => ([], [])
def sb41 : Nat → Option (List Nat × Bool × SB)
  | _ => none
def sc42 : Nat → List SI × List Nat
  | _ => ([], [])
def sb42 : Nat → Option (List Nat × Bool × SB)
  | _ => none
def sc43 : Nat → List SI × List Nat
  | _ => ([], [])
def sb43 : Nat → Option (List Nat × Bool × SB)
  | _ => none
def sc44 : Nat → List SI × List Nat
  | _ => ([], [])
def sb44 : Nat → Option (List Nat × Bool × SB)
  | _ => none
def sc45 : Nat → List SI × List Nat
  | _ => ([], [])
def sb45 : Nat → Option (List Nat × Bool × SB)
  | _ => none
def sc46 : Nat → List SI × List Nat
  | _ => ([], [])
def sb46 : Nat → Option (List Nat × Bool × SB)
  | _ => none
def sc47 : Nat → List SI × List Nat
  | 1 => ([.q 0, .q 1, .q 3, .n 2, .n 4, .q 5, .q 6], [])
  | _ => ([], [])
def sb47 : Nat → Option (List Nat × Bool × SB)
  | _ => none
def sc48 : Nat → List SI × List Nat
  | _ => ([], [])
def sb48 : Nat → Option (List Nat × Bool × SB)
  | _ => none
def sc49 : Nat → List SI × List Nat
  | 1 => ([.q 0, .q 1, .q 3, .q 4, .q 6, .n 2, .q 5, .n 7, .q 8, .q 9, .q 10], [])
  | _ => ([], [])
def sb49 : Nat → Option (List Nat × Bool × SB)
  | _ => none
def sc50 : Nat → List SI × List Nat
  | _ => ([], [])
def sb50 : Nat → Option (List Nat × Bool × SB)
  | _ => none
def sc51 : Nat → List SI × List Nat
  | _ => ([], [])
def sb51 : Nat → Option (List Nat × Bool × SB)
  | _ => none
def sc52 : Nat → List SI × List Nat
  | _ => ([], [])
def sb52 : Nat → Option (List Nat × Bool × SB)
  | _ => none
def sc53 : Nat → List SI × List Nat
  | _ => ([], [])
def sb53 : Nat → Option (List Nat × Bool × SB)
  | _ => none
def sc54 : Nat → List SI × List Nat
  | _ => ([], [])
def sb54 : Nat → Option (List Nat × Bool × SB)
  | _ => none
def sc55 : Nat → List SI × List Nat
  | _ => ([], [])
def sb55 : Nat → Option (List Nat × Bool × SB)
  | _ => none
def sc56 : Nat → List SI × List Nat
  | _ => ([], [])
def sb56 : Nat → Option (List Nat × Bool × SB)
  | _ => none
def sc57 : Nat → List SI × List Nat
  | _ => ([], [])
def sb57 : Nat → Option (List Nat × Bool × SB)
  | _ => none
def sc58 : Nat → List SI × List Nat
  | _ => ([], [])
def sb58 : Nat → Option (List Nat × Bool × SB)
  | _ => none
def sc59 : Nat → List SI × List Nat
  | 5 => ([.q 0, .q 1, .q 2, .q 4, .q 6, .n 3, .n 5, .q 7, .n 8, .q 9, .q 10], [])
  | _ => ([], [])
def sb59 : Nat → Option (List Nat × Bool × SB)
  | _ => none
def sc60 : Nat → List SI × List Nat
  | _ => ([], [])
def sb60 : Nat → Option (List Nat × Bool × SB)
  | _ => none
def sc61 : Nat → List SI × List Nat
  | _ => ([], [])
def sb61 : Nat → Option (List Nat × Bool × SB)
  | _ => none
def sc62 : Nat → List SI × List Nat
  | 1 => ([.q 0, .q 1, .q 2, .q 3, .q 4, .q 5, .q 6, .q 7, .q 8], [])
  | 8 => ([.q 0, .q 1, .q 2, .q 3, .q 4, .q 5, .q 6, .q 7, .q 8, .n 9, .q 10, .q 11], [])
  | _ => ([], [])
def sb62 : Nat → Option (List Nat × Bool × SB)
  | 6 => some ([8], false, (.q 0 (.q 1 (.q 2 (.q 3 (.q 4 (.n 5 (.q 6 .nil))))))))
  | _ => none
def sc63 : Nat → List SI × List Nat
  | _ => ([], [])
def sb63 : Nat → Option (List Nat × Bool × SB)
  | _ => none
def sc64 : Nat → List SI × List Nat
  | 1 => ([.q 0, .q 1, .q 2, .q 3, .q 4, .q 5, .q 6, .q 7], [])
  | 7 => ([.q 0, .q 1, .q 2, .q 3, .q 4, .q 5, .q 7, .q 8, .q 9, .q 12, .q 13, .n 6, .n 10, .q 11, .q 14, .q 15], [])
  | 11 => ([.q 0, .q 1, .q 2, .q 3, .q 4, .q 5, .q 6, .q 7, .q 8, .q 9], [10])
  | 13 => ([.q 0, .q 1, .q 2, .q 3, .q 4, .q 5, .q 6, .q 7, .q 8, .q 9], [10])
  | _ => ([], [])
def sb64 : Nat → Option (List Nat × Bool × SB)
  | 6 => some ([8], false, (.q 0 (.q 1 (.q 2 (.n 3 (.q 4 (.q 5 .nil)))))))
  | _ => none
def sc65 : Nat → List SI × List Nat
  | _ => ([], [])
def sb65 : Nat → Option (List Nat × Bool × SB)
  | _ => none
def sc66 : Nat → List SI × List Nat
  | _ => ([], [])
def sb66 : Nat → Option (List Nat × Bool × SB)
  | _ => none
def sc67 : Nat → List SI × List Nat
  | _ => ([], [])
def sb67 : Nat → Option (List Nat × Bool × SB)
  | _ => none
def sc68 : Nat → List SI × List Nat
  | _ => ([], [])
def sb68 : Nat → Option (List Nat × Bool × SB)
  | _ => none
def sc69 : Nat → List SI × List Nat
  | 5 => ([.q 0, .q 1, .q 2, .q 3, .q 4, .q 5, .q 6, .q 7, .q 8, .q 9, .q 10, .q 11, .q 12, .q 13], [])
  | _ => ([], [])
def sb69 : Nat → Option (List Nat × Bool × SB)
  | _ => none
def sc70 : Nat → List SI × List Nat
  | _ => ([], [])
def sb70 : Nat → Option (List Nat × Bool × SB)
  | _ => none
def sc71 : Nat → List SI × List Nat
  | _ => ([], [])
def sb71 : Nat → Option (List Nat × Bool × SB)
  | _ => none
def sc72 : Nat → List SI × List Nat
  | _ => ([], [])
def sb72 : Nat → Option (List Nat × Bool × SB)
  | _ => none
def sc73 : Nat → List SI × List Nat
  | _ => ([], [])
def sb73 : Nat → Option (List Nat × Bool × SB)
  | _ => none
def sc74 : Nat → List SI × List Nat
  | _ => ([], [])
def sb74 : Nat → Option (List Nat × Bool × SB)
  | _ => none
def sc75 : Nat → List SI × List Nat
  | _ => ([], [])
def sb75 : Nat → Option (List Nat × Bool × SB)
  | _ => none
def sc76 : Nat → List SI × List Nat
  | _ => ([], [])
def sb76 : Nat → Option (List Nat × Bool × SB)
  | _ => none
def sc77 : Nat → List SI × List Nat
  | _ => ([], [])
def sb77 : Nat → Option (List Nat × Bool × SB)
  | _ => none
def sc78 : Nat → List SI × List Nat
  | _ => ([], [])
def sb78 : Nat → Option (List Nat × Bool × SB)
  | _ => none
def sc79 : Nat → List SI × List Nat
  | 1 => ([.q 0, .q 1, .q 2, .q 3, .n 4, .q 5, .q 6, .q 7, .q 8, .q 9, .q 10, .n 11, .q 12, .q 13, .q 14, .q 15, .q 16, .q 17, .q 18, .n 19, .q 20, .q 21, .q 22, .q 23, .q 24, .q 25, .q 26, .q 27, .q 28, .q 29, .q 30, .q 31, .q 32], [])
  | _ => ([], [])
def sb79 : Nat → Option (List Nat × Bool × SB)
  | _ => none
def sc80 : Nat → List SI × List Nat
  | _ => ([], [])
def sb80 : Nat → Option (List Nat × Bool × SB)
  | _ => none
def sc81 : Nat → List SI × List Nat
  | _ => ([], [])
def sb81 : Nat → Option (List Nat × Bool × SB)
  | _ => none
def sc82 : Nat → List SI × List Nat
  | _ => ([], [])
def sb82 : Nat → Option (List Nat × Bool × SB)
  | _ => none
def sc83 : Nat → List SI × List Nat
  | _ => ([], [])
def sb83 : Nat → Option (List Nat × Bool × SB)
  | _ => none
def sc84 : Nat → List SI × List Nat
  | _ => ([], [])
def sb84 : Nat → Option (List Nat × Bool × SB)
  | _ => none
def sc85 : Nat → List SI × List Nat
  | _ => ([], [])
def sb85 : Nat → Option (List Nat × Bool × SB)
  | _ => none
def sc86 : Nat → List SI × List Nat
  | _ => ([], [])
def sb86 : Nat → Option (List Nat × Bool × SB)
  | _ => none
def sc87 : Nat → List SI × List Nat
  | _ => ([], [])
def sb87 : Nat → Option (List Nat × Bool × SB)
  | _ => none
def sc88 : Nat → List SI × List Nat
  | _ => ([], [])
def sb88 : Nat → Option (List Nat × Bool × SB)
  | _ => none
def sc89 : Nat → List SI × List Nat
  | _ => ([], [])
def sb89 : Nat → Option (List Nat × Bool × SB)
  | _ => none
def sc90 : Nat → List SI × List Nat
  | _ => ([], [])
def sb90 : Nat → Option (List Nat × Bool × SB)
  | _ => none
def sc91 : Nat → List SI × List Nat
  | _ => ([], [])
def sb91 : Nat → Option (List Nat × Bool × SB)
  | _ => none
def sc92 : Nat → List SI × List Nat
  | _ => ([], [])
def sb92 : Nat → Option (List Nat × Bool × SB)
  | _ => none
def sc93 : Nat → List SI × List Nat
  | _ => ([], [])
def sb93 : Nat → Option (List Nat × Bool × SB)
  | _ => none
def sc94 : Nat → List SI × List Nat
  | _ => ([], [])
def sb94 : Nat → Option (List Nat × Bool × SB)
  | _ => none
def sc95 : Nat → List SI × List Nat
  | _ => ([], [])
def sb95 : Nat → Option (List Nat × Bool × SB)
  | _ => none
def sc96 : Nat → List SI × List Nat
  | _ => ([], [])
def sb96 : Nat → Option (List Nat × Bool × SB)
  | _ => none
def sc97 : Nat → List SI × List Nat
  | _ => ([], [])
def sb97 : Nat → Option (List Nat × Bool × SB)
  | _ => none
def sc113 : Nat → List SI × List Nat
  | _ => ([], [])
def sb113 : Nat → Option (List Nat × Bool × SB)
  | _ => none
end Go.Proofs.Ytggamjjgdahaaac.Vx
