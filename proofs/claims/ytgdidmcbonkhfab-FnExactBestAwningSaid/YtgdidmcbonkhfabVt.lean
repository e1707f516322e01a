/- Abstract execution: this program's table of types. Printed by vx.py. -/
import Derived.Test.YtgdidmcbonkhfabVu
namespace Go.Proofs.Ytgdidmcbonkhfab.Vx
open Go Go.RowKit Fl

def ti2 : TI := { k := .int .i64, size := 1, bytes := 8, z := .row [.int .i64 0] }
def ti3 : TI := { k := .int .i64, size := 1, bytes := 8, z := .row [.int .i64 0] }
def ti4 : TI := { k := .bool, size := 1, bytes := 1, z := .row [.bool false] }
def ti22 : TI := { k := .flt .f32, size := 1, bytes := 4, z := .row [.flt .f32 0] }
def ti24 : TI := { k := .struct [(0, 22), (1, 22), (2, 22), (3, 22)], size := 4, bytes := 16, z := .row [.flt .f32 0, .flt .f32 0, .flt .f32 0, .flt .f32 0] }
def ti25 : TI := { k := .int .i16, size := 1, bytes := 2, z := .row [.int .i16 0] }
def ti26 : TI := { k := .arr 24 25, size := 24, bytes := 48, z := .all (.int .i16 0) }
def ti28 : TI := { k := .struct [(0, 26), (24, 26)], size := 48, bytes := 96, z := .all (.int .i16 0) }
def ti31 : TI := { k := .struct [(0, 22), (1, 22), (2, 22), (3, 22)], size := 4, bytes := 16, z := .row [.flt .f32 0, .flt .f32 0, .flt .f32 0, .flt .f32 0] }
def ti33 : TI := { k := .struct [(0, 26), (24, 26)], size := 48, bytes := 96, z := .all (.int .i16 0) }
def ti36 : TI := { k := .flt .f64, size := 1, bytes := 8, z := .row [.flt .f64 0] }
def ti38 : TI := { k := .slice 2, size := 1, bytes := 24, z := .row [.nils] }
def ti44 : TI := { k := .int .u32, size := 1, bytes := 4, z := .row [.int .u32 0] }
def ti51 : TI := { k := .slice 24, size := 1, bytes := 24, z := .row [.nils] }
def ti55 : TI := { k := .slice 31, size := 1, bytes := 24, z := .row [.nils] }
def ti61 : TI := { k := .ptr, size := 1, bytes := 8, z := .row [.nilp] }
def ti81 : TI := { k := .int .u64, size := 1, bytes := 8, z := .row [.int .u64 0] }
def tab : Nat → Option TI
  | 2 => some ti2
  | 3 => some ti3
  | 4 => some ti4
  | 22 => some ti22
  | 24 => some ti24
  | 25 => some ti25
  | 26 => some ti26
  | 28 => some ti28
  | 31 => some ti31
  | 33 => some ti33
  | 36 => some ti36
  | 38 => some ti38
  | 44 => some ti44
  | 51 => some ti51
  | 55 => some ti55
  | 61 => some ti61
  | 81 => some ti81
  | _ => none
def tabL : List (Nat × TI) := [(2, ti2), (3, ti3), (4, ti4), (22, ti22), (24, ti24), (25, ti25), (26, ti26), (28, ti28), (31, ti31), (33, ti33), (36, ti36), (38, ti38), (44, ti44), (51, ti51), (55, ti55), (61, ti61), (81, ti81)]
theorem tab_mem : ∀ t i, tab t = some i → (t, i) ∈ tabL := by
  intro t i h
  unfold tab at h
  unfold tabL
  split at h <;> first | (cases h; done) | (cases h; simp only [List.mem_cons, true_or, or_true])
theorem tabOk : TabOk Try.prog tab := tabOk_of tab_mem (by kernel_rfl)
def sc3 : Nat → List SI × List Nat
  | 1 => ([.q 0, .q 2, .q 4, .q 5, .n 1, .n 3, .n 6, .q 7, .q 8, .q 9, .q 10, .q 11], [])
  | 2 => ([.q 0, .q 2, .q 4, .q 5, .n 1, .n 3, .n 6, .q 7, .q 8, .q 9, .q 10, .q 11], [])
  | _ => ([], [])
def sc4 : Nat → List SI × List Nat
  | 1 => ([.q 0, .q 2, .q 4, .q 5, .n 1, .n 3, .n 6, .q 7, .q 8, .q 9, .q 10, .q 11], [])
  | 2 => ([.q 0, .q 2, .q 4, .q 5, .n 1, .n 3, .n 6, .q 7, .q 8, .q 9, .q 10, .q 11], [])
  | _ => ([], [])
def sc5 : Nat → List SI × List Nat
  | 1 => ([.q 0, .q 2, .q 4, .q 5, .n 1, .n 3, .n 6, .q 7, .q 8, .q 9, .q 10, .q 11], [])
  | 2 => ([.q 0, .q 2, .q 4, .q 5, .n 1, .n 3, .n 6, .q 7, .q 8, .q 9, .q 10, .q 11], [])
  | 13 => ([.q 0, .q 2, .q 4, .q 5, .n 1, .n 3, .n 6, .q 7, .q 8, .q 9, .q 10, .q 11], [])
  | _ => ([], [])
def sc6 : Nat → List SI × List Nat
  | 1 => ([.q 0, .q 2, .q 4, .q 5, .n 1, .n 3, .n 6, .q 7, .q 8, .q 9, .q 10, .q 11], [])
  | 2 => ([.q 0, .q 2, .q 4, .q 5, .n 1, .n 3, .n 6, .q 7, .q 8, .q 9, .q 10, .q 11], [])
  | _ => ([], [])
def sc7 : Nat → List SI × List Nat
  | 1 => ([.q 0, .q 2, .q 4, .n 1, .n 3, .n 5, .q 6, .q 7, .q 8, .q 9, .q 10], [])
  | 2 => ([.q 0, .q 2, .q 4, .n 1, .n 3, .n 5, .q 6, .q 7, .q 8, .q 9, .q 10], [])
  | _ => ([], [])
def sc8 : Nat → List SI × List Nat
  | 1 => ([.q 0, .q 2, .q 4, .q 5, .q 6, .n 1, .n 3, .n 7, .q 8, .q 9, .q 10, .q 11, .q 12], [])
  | 2 => ([.q 0, .q 2, .q 4, .q 5, .q 6, .n 1, .n 3, .n 7, .q 8, .q 9, .q 10, .q 11, .q 12], [])
  | _ => ([], [])
def sc9 : Nat → List SI × List Nat
  | 5 => ([.q 0, .q 2, .q 4, .n 1, .n 3, .n 5, .q 6, .q 7, .q 8, .q 9, .q 10, .q 11, .q 12], [])
  | _ => ([], [])
def sc10 : Nat → List SI × List Nat
  | _ => ([], [])
def sc11 : Nat → List SI × List Nat
  | _ => ([], [])
def sc12 : Nat → List SI × List Nat
  | _ => ([], [])
def sc13 : Nat → List SI × List Nat
  | 1 => ([.q 0, .q 1, .q 7, .e 2, .q 3, .q 4, .e 5, .q 6, .n 8, .n 9, .q 10], [])
  | _ => ([], [])
def sc14 : Nat → List SI × List Nat
  | _ => ([], [])
def sc15 : Nat → List SI × List Nat
  | _ => ([], [])
def sc16 : Nat → List SI × List Nat
  | 1 => ([.q 0, .q 1, .q 7, .e 2, .q 3, .q 4, .e 5, .q 6, .n 8, .n 9, .q 10], [])
  | _ => ([], [])
def sc17 : Nat → List SI × List Nat
  | _ => ([], [])
def sc18 : Nat → List SI × List Nat
  | 1 => ([.q 0, .q 1, .q 7, .e 2, .q 3, .q 4, .e 5, .q 6, .n 8, .n 9, .q 10], [])
  | _ => ([], [])
def sc19 : Nat → List SI × List Nat
  | 6 => ([.q 0, .q 1, .q 2, .q 3, .q 4, .q 5, .q 6, .q 7, .q 8], [])
  | _ => ([], [])
def sc20 : Nat → List SI × List Nat
  | _ => ([], [])
def sc21 : Nat → List SI × List Nat
  | _ => ([], [])
def sc22 : Nat → List SI × List Nat
  | _ => ([], [])
def sc23 : Nat → List SI × List Nat
  | 1 => ([.q 0, .q 1, .q 3, .e 2, .n 4, .n 5, .q 6], [])
  | _ => ([], [])
def sc24 : Nat → List SI × List Nat
  | _ => ([], [])
def sc25 : Nat → List SI × List Nat
  | 1 => ([.q 0, .q 1, .q 3, .e 2, .n 4, .n 5, .q 6], [])
  | _ => ([], [])
def sc26 : Nat → List SI × List Nat
  | _ => ([], [])
def sc27 : Nat → List SI × List Nat
  | 1 => ([.q 0, .q 1, .q 11, .e 2, .q 3, .q 4, .e 5, .q 6, .q 7, .q 8, .e 9, .q 10, .n 12, .n 13, .q 14], [])
  | _ => ([], [])
def sc28 : Nat → List SI × List Nat
  | _ => ([], [])
def sc29 : Nat → List SI × List Nat
  | _ => ([], [])
def sc30 : Nat → List SI × List Nat
  | _ => ([], [])
def sc31 : Nat → List SI × List Nat
  | 1 => ([.q 0, .q 1, .q 3, .n 2, .n 4, .q 5], [])
  | _ => ([], [])
def sc32 : Nat → List SI × List Nat
  | 6 => ([.q 0, .q 1, .q 2, .q 3, .q 4, .q 5, .q 6, .q 7, .n 8, .q 9], [])
  | _ => ([], [])
def sc33 : Nat → List SI × List Nat
  | _ => ([], [])
def sc34 : Nat → List SI × List Nat
  | 5 => ([.q 0, .q 1, .q 2, .q 3, .q 4, .q 5, .q 6, .q 7, .q 8, .q 9, .q 10, .q 11], [])
  | 6 => ([.q 0, .q 1, .q 2, .q 3, .q 4, .q 5, .q 6, .q 7, .q 8, .q 9, .q 10, .q 11], [])
  | _ => ([], [])
def sc35 : Nat → List SI × List Nat
  | _ => ([], [])
def sc36 : Nat → List SI × List Nat
  | _ => ([], [])
def sc37 : Nat → List SI × List Nat
  | _ => ([], [])
def sc38 : Nat → List SI × List Nat
  | _ => ([], [])
def sc39 : Nat → List SI × List Nat
  | 4 => ([.q 0, .q 1, .q 2, .q 3, .q 4, .q 5, .q 6, .q 7, .q 8, .q 10, .q 13, .q 14, .n 9, .q 11, .q 12, .q 15, .q 16], [])
  | _ => ([], [])
def sc40 : Nat → List SI × List Nat
  | _ => ([], [])
def sc41 : Nat → List SI × List Nat
  | _ => ([], [])
def sc42 : Nat → List SI × List Nat
  | _ => ([], [])
def sc43 : Nat → List SI × List Nat
  | 3 => ([.q 0, .q 1, .q 2, .q 3, .q 4, .q 5, .q 6, .q 8, .q 9, .q 10, .q 11, .q 12, .q 13, .q 14, .q 15, .q 16, .n 7, .n 17, .q 18, .q 19], [])
  | _ => ([], [])
def sc44 : Nat → List SI × List Nat
  | _ => ([], [])
def sc45 : Nat → List SI × List Nat
  | 3 => ([.q 0, .q 1, .q 2, .q 3, .q 4, .q 5, .q 6, .q 8, .q 9, .q 10, .q 11, .q 12, .q 13, .q 14, .q 15, .q 16, .n 7, .n 17, .q 18, .n 19, .q 20], [])
  | _ => ([], [])
def sc46 : Nat → List SI × List Nat
  | _ => ([], [])
def sc47 : Nat → List SI × List Nat
  | _ => ([], [])
def sc48 : Nat → List SI × List Nat
  | _ => ([], [])
def sc49 : Nat → List SI × List Nat
  | _ => ([], [])
def sc50 : Nat → List SI × List Nat
  | 1 => ([.q 0, .q 1, .q 2, .q 3, .q 4, .q 5, .q 6, .q 7, .q 8, .q 9, .q 10, .q 11, .q 12, .q 13, .n 14], [15])
  | _ => ([], [])
def sc51 : Nat → List SI × List Nat
  | 2 => ([.q 0, .q 1, .q 2, .q 4, .n 3, .q 5, .q 6], [])
  | _ => ([], [])
def sc52 : Nat → List SI × List Nat
  | _ => ([], [])
def sc53 : Nat → List SI × List Nat
  | _ => ([], [])
def sc54 : Nat → List SI × List Nat
  | _ => ([], [])
def sc55 : Nat → List SI × List Nat
  | _ => ([], [])
def sc56 : Nat → List SI × List Nat
  | _ => ([], [])
def sc57 : Nat → List SI × List Nat
  | _ => ([], [])
def sc58 : Nat → List SI × List Nat
  | _ => ([], [])
def sc59 : Nat → List SI × List Nat
  | _ => ([], [])
def sc60 : Nat → List SI × List Nat
  | _ => ([], [])
def sc61 : Nat → List SI × List Nat
  | _ => ([], [])
def sc62 : Nat → List SI × List Nat
  | _ => ([], [])
def sc63 : Nat → List SI × List Nat
  | _ => ([], [])
def sc64 : Nat → List SI × List Nat
  | _ => ([], [])
def sc65 : Nat → List SI × List Nat
  | _ => ([], [])
def sc66 : Nat → List SI × List Nat
  | _ => ([], [])
def sc67 : Nat → List SI × List Nat
  | _ => ([], [])
def sc68 : Nat → List SI × List Nat
  | _ => ([], [])
def sc69 : Nat → List SI × List Nat
  | _ => ([], [])
def sc70 : Nat → List SI × List Nat
  | _ => ([], [])
def sc71 : Nat → List SI × List Nat
  | _ => ([], [])
def sc72 : Nat → List SI × List Nat
  | _ => ([], [])
def sc73 : Nat → List SI × List Nat
  | _ => ([], [])
def sc74 : Nat → List SI × List Nat
  | _ => ([], [])
def sc90 : Nat → List SI × List Nat
  | _ => ([], [])
end Go.Proofs.Ytgdidmcbonkhfab.Vx
