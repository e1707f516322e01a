/- Abstract execution: this program's table of types. Printed by vx.py. -/
import Derived.Test.YtgepaaakleomeacVu
namespace Go.Proofs.Ytgepaaakleomeac.Vx
open Go Go.RowKit Fl

def ti2 : TI := { k := .int .i64, size := 1, bytes := 8, z := .row [.int .i64 0] }
def ti3 : TI := { k := .int .i64, size := 1, bytes := 8, z := .row [.int .i64 0] }
def ti4 : TI := { k := .bool, size := 1, bytes := 1, z := .row [.bool false] }
def ti22 : TI := { k := .int .i8, size := 1, bytes := 1, z := .row [.int .i8 0] }
def ti23 : TI := { k := .slice 78, size := 1, bytes := 24, z := .row [.nils] }
def ti25 : TI := { k := .struct [(0, 22), (1, 22), (2, 23)], size := 3, bytes := 32, z := .row [.int .i8 0, .int .i8 0, .nils] }
def ti26 : TI := { k := .int .i16, size := 1, bytes := 2, z := .row [.int .i16 0] }
def ti27 : TI := { k := .arr 24 26, size := 24, bytes := 48, z := .all (.int .i16 0) }
def ti29 : TI := { k := .struct [(0, 27), (24, 27)], size := 48, bytes := 96, z := .all (.int .i16 0) }
def ti31 : TI := { k := .slice 61, size := 1, bytes := 24, z := .row [.nils] }
def ti33 : TI := { k := .struct [(0, 22), (1, 22), (2, 31)], size := 3, bytes := 32, z := .row [.int .i8 0, .int .i8 0, .nils] }
def ti37 : TI := { k := .struct [(0, 27), (24, 27)], size := 48, bytes := 96, z := .all (.int .i16 0) }
def ti42 : TI := { k := .slice 43, size := 1, bytes := 24, z := .row [.nils] }
def ti43 : TI := { k := .flt .f32, size := 1, bytes := 4, z := .row [.flt .f32 0] }
def ti48 : TI := { k := .flt .f64, size := 1, bytes := 8, z := .row [.flt .f64 0] }
def ti61 : TI := { k := .struct [(0, 22), (1, 22), (2, 43)], size := 3, bytes := 8, z := .row [.int .i8 0, .int .i8 0, .flt .f32 0] }
def ti78 : TI := { k := .struct [(0, 22), (1, 22), (2, 43)], size := 3, bytes := 8, z := .row [.int .i8 0, .int .i8 0, .flt .f32 0] }
def ti90 : TI := { k := .int .u64, size := 1, bytes := 8, z := .row [.int .u64 0] }
def tab : Nat → Option TI
  | 2 => some ti2
  | 3 => some ti3
  | 4 => some ti4
  | 22 => some ti22
  | 23 => some ti23
  | 25 => some ti25
  | 26 => some ti26
  | 27 => some ti27
  | 29 => some ti29
  | 31 => some ti31
  | 33 => some ti33
  | 37 => some ti37
  | 42 => some ti42
  | 43 => some ti43
  | 48 => some ti48
  | 61 => some ti61
  | 78 => some ti78
  | 90 => some ti90
  | _ => none
def tabL : List (Nat × TI) := [(2, ti2), (3, ti3), (4, ti4), (22, ti22), (23, ti23), (25, ti25), (26, ti26), (27, ti27), (29, ti29), (31, ti31), (33, ti33), (37, ti37), (42, ti42), (43, ti43), (48, ti48), (61, ti61), (78, ti78), (90, ti90)]
theorem tab_mem : ∀ t i, tab t = some i → (t, i) ∈ tabL := by
  intro t i h
  unfold tab at h
  unfold tabL
  split at h <;> first | (cases h; done) | (cases h; simp only [List.mem_cons, true_or, or_true])
theorem tabOk : TabOk Try.prog tab := tabOk_of tab_mem (by kernel_rfl)
def sc3 : Nat → List SI × List Nat
  | 10 => ([.q 0, .q 1, .n 2, .n 3, .q 4], [])
  | _ => ([], [])
def sb3 : Nat → Option (List Nat × Bool × SB)
  | 5 => some ([], true, (.q 0 (.q 2 (.q 4 (.q 5 (.f 1 (.e 3 (.f 6 (.q 7 (.q 8 (.q 9 (.n 10 (.n 11 (.q 12 .nil)))))) 10 (.n 6 (.q 7 (.q 8 (.q 9 (.n 11 (.q 12 .nil)))))))) 10 (.n 1 (.n 3 (.n 6 (.q 7 (.q 8 (.q 9 (.n 11 (.q 12 .nil))))))))))))))
  | 7 => some ([], true, (.q 0 (.q 1 (.q 3 (.q 4 (.e 2 (.f 5 (.q 6 (.q 7 (.q 8 (.n 9 (.n 10 (.q 11 .nil)))))) 9 (.n 5 (.q 6 (.q 7 (.q 8 (.n 10 (.q 11 .nil)))))))))))))
  | 24 => some ([], true, (.q 0 (.q 2 (.q 4 (.q 5 (.f 1 (.e 3 (.f 6 (.q 7 (.q 8 (.q 9 (.n 10 (.n 11 (.q 12 .nil)))))) 10 (.n 6 (.q 7 (.q 8 (.q 9 (.n 11 (.q 12 .nil)))))))) 10 (.n 1 (.n 3 (.n 6 (.q 7 (.q 8 (.q 9 (.n 11 (.q 12 .nil))))))))))))))
  | _ => none
def sc4 : Nat → List SI × List Nat
  | _ => ([], [])
def sb4 : Nat → Option (List Nat × Bool × SB)
  | _ => none
def sc5 : Nat → List SI × List Nat
  | _ => ([], [])
def sb5 : Nat → Option (List Nat × Bool × SB)
  | _ => none
def sc6 : Nat → List SI × List Nat
  | _ => ([], [])
def sb6 : Nat → Option (List Nat × Bool × SB)
  | _ => none
def sc7 : Nat → List SI × List Nat
  | _ => ([], [])
def sb7 : Nat → Option (List Nat × Bool × SB)
  | _ => none
def sc8 : Nat → List SI × List Nat
  | _ => ([], [])
def sb8 : Nat → Option (List Nat × Bool × SB)
  | _ => none
def sc9 : Nat → List SI × List Nat
  | 3 => ([.q 0, .q 1, .n 2, .q 3, .q 4, .n 5, .q 6, .n 7, .q 8], [])
  | _ => ([], [])
def sb9 : Nat → Option (List Nat × Bool × SB)
  | _ => none
def sc10 : Nat → List SI × List Nat
  | _ => ([], [])
def sb10 : Nat → Option (List Nat × Bool × SB)
  | _ => none
def sc11 : Nat → List SI × List Nat
  | _ => ([], [])
def sb11 : Nat → Option (List Nat × Bool × SB)
  | _ => none
def sc12 : Nat → List SI × List Nat
  | _ => ([], [])
def sb12 : Nat → Option (List Nat × Bool × SB)
  | _ => none
def sc13 : Nat → List SI × List Nat
  | 8 => ([.q 0, .q 1, .q 2, .q 3, .q 4, .q 5, .q 6, .q 7, .q 8, .q 9, .q 10, .q 11, .q 12, .q 13], [])
  | 15 => ([.q 0, .q 1, .q 2, .q 3, .q 4, .q 5, .q 6, .q 7, .q 8, .q 9, .q 10, .q 11, .q 12, .q 13, .q 14], [])
  | _ => ([], [])
def sb13 : Nat → Option (List Nat × Bool × SB)
  | 11 => some ([4], true, (.q 0 (.q 1 (.q 3 (.q 4 (.q 5 (.q 6 (.q 9 (.f 2 (.n 7 (.n 8 (.n 10 (.q 11 .nil)))) 7 (.n 2 (.n 8 (.n 10 (.q 11 .nil)))))))))))))
  | _ => none
def sc14 : Nat → List SI × List Nat
  | _ => ([], [])
def sb14 : Nat → Option (List Nat × Bool × SB)
  | _ => none
def sc15 : Nat → List SI × List Nat
  | 8 => ([.q 0, .q 1, .q 2, .q 3, .q 4, .q 5, .q 6, .q 7, .q 8, .q 9, .q 10, .q 11, .q 12, .q 13, .q 14], [])
  | _ => ([], [])
def sb15 : Nat → Option (List Nat × Bool × SB)
  | _ => none
def sc16 : Nat → List SI × List Nat
  | _ => ([], [])
def sb16 : Nat → Option (List Nat × Bool × SB)
  | _ => none
def sc17 : Nat → List SI × List Nat
  | _ => ([], [])
def sb17 : Nat → Option (List Nat × Bool × SB)
  | 6 => some ([], false, (.q 0 (.q 1 (.q 2 (.q 3 (.q 5 (.q 6 (.q 7 (.q 8 (.f 4 (.n 9 (.n 10 (.q 11 .nil))) 9 (.n 4 (.n 10 (.q 11 .nil)))))))))))))
  | _ => none
def sc18 : Nat → List SI × List Nat
  | _ => ([], [])
def sb18 : Nat → Option (List Nat × Bool × SB)
  | _ => none
def sc19 : Nat → List SI × List Nat
  | _ => ([], [])
def sb19 : Nat → Option (List Nat × Bool × SB)
  | _ => none
def sc20 : Nat → List SI × List Nat
  | _ => ([], [])
def sb20 : Nat → Option (List Nat × Bool × SB)
  | _ => none
def sc21 : Nat → List SI × List Nat
  | _ => ([], [])
def sb21 : Nat → Option (List Nat × Bool × SB)
  | _ => none
def sc22 : Nat → List SI × List Nat
  | _ => ([], [])
def sb22 : Nat → Option (List Nat × Bool × SB)
  | _ => none
def sc23 : Nat → List SI × List Nat
  | _ => ([], [])
def sb23 : Nat → Option (List Nat × Bool × SB)
  | 1 => some ([2], false, (.q 0 (.q 1 (.q 2 (.q 3 (.q 4 (.q 5 (.q 6 (.q 7 (.q 9 (.q 10 (.q 11 (.q 12 (.n 8 (.n 13 (.q 14 (.n 15 .nil)))))))))))))))))
  | _ => none
def sc24 : Nat → List SI × List Nat
  | 3 => ([.q 0, .q 1, .q 2, .q 3, .q 4, .q 5, .q 6, .q 8, .q 9, .q 10, .q 11, .q 12, .q 13, .q 14, .q 15, .q 16, .n 7, .n 17, .q 18, .q 19], [])
  | _ => ([], [])
def sb24 : Nat → Option (List Nat × Bool × SB)
  | _ => none
def sc25 : Nat → List SI × List Nat
  | _ => ([], [])
def sb25 : Nat → Option (List Nat × Bool × SB)
  | _ => none
def sc26 : Nat → List SI × List Nat
  | _ => ([], [])
def sb26 : Nat → Option (List Nat × Bool × SB)
  | _ => none
def sc27 : Nat → List SI × List Nat
  | _ => ([], [])
def sb27 : Nat → Option (List Nat × Bool × SB)
  | _ => none
def sc28 : Nat → List SI × List Nat
  | _ => ([], [])
def sb28 : Nat → Option (List Nat × Bool × SB)
  | _ => none
def sc29 : Nat → List SI × List Nat
  | _ => ([], [])
def sb29 : Nat → Option (List Nat × Bool × SB)
  | _ => none
def sc30 : Nat → List SI × List Nat
  | _ => ([], [])
def sb30 : Nat → Option (List Nat × Bool × SB)
  | _ => none
def sc31 : Nat → List SI × List Nat
  | _ => ([], [])
def sb31 : Nat → Option (List Nat × Bool × SB)
  | _ => none
def sc32 : Nat → List SI × List Nat
  | 1 => ([.q 0, .q 1, .q 2, .q 3, .q 4, .q 5, .q 6, .q 7, .q 8, .n 9], [10])
  | 5 => ([.q 0, .q 1, .q 2, .q 3, .q 4, .n 5, .n 6], [7, 8, 9])
  | _ => ([], [])
def sb32 : Nat → Option (List Nat × Bool × SB)
  | _ => none
def sc33 : Nat → List SI × List Nat
  | 1 => ([.q 0, .q 1, .q 2, .q 3, .q 4, .q 5, .q 6, .n 7, .n 8, .q 9, .q 10], [11])
  | _ => ([], [])
def sb33 : Nat → Option (List Nat × Bool × SB)
  | _ => none
def sc34 : Nat → List SI × List Nat
  | 3 => ([.q 0, .q 1, .q 2, .q 3, .q 4, .q 5, .q 6, .q 8, .q 9, .q 10, .q 11, .q 12, .q 13, .q 14, .q 15, .q 16, .n 7, .n 17, .q 18, .n 19, .q 20], [])
  | _ => ([], [])
def sb34 : Nat → Option (List Nat × Bool × SB)
  | _ => none
def sc35 : Nat → List SI × List Nat
  | _ => ([], [])
def sb35 : Nat → Option (List Nat × Bool × SB)
  | _ => none
def sc36 : Nat → List SI × List Nat
  | 6 => ([.q 0, .q 1, .q 2, .q 3, .q 4, .q 5, .q 6, .q 7, .n 8, .q 9], [])
  | _ => ([], [])
def sb36 : Nat → Option (List Nat × Bool × SB)
  | _ => none
def sc37 : Nat → List SI × List Nat
  | _ => ([], [])
def sb37 : Nat → Option (List Nat × Bool × SB)
  | _ => none
def sc38 : Nat → List SI × List Nat
  | _ => ([], [])
def sb38 : Nat → Option (List Nat × Bool × SB)
  | _ => none
def sc39 : Nat → List SI × List Nat
  | _ => ([], [])
def sb39 : Nat → Option (List Nat × Bool × SB)
  | _ => none
def sc40 : Nat → List SI × List Nat
  | _ => ([], [])
def sb40 : Nat → Option (List Nat × Bool × SB)
  | _ => none
def sc41 : Nat → List SI × List Nat
  | _ => ([], [])
def sb41 : Nat → Option (List Nat × Bool × SB)
  | _ => none
def sc42 : Nat → List SI × List Nat
  | _ => ([], [])
def sb42 : Nat → Option (List Nat × Bool × SB)
  | _ => none
def sc43 : Nat → List SI × List Nat
  | _ => ([], [])
def sb43 : Nat → Option (List Nat × Bool × SB)
  | _ => none
def sc44 : Nat → List SI × List Nat
  | _ => ([], [])
def sb44 : Nat → Option (List Nat × Bool × SB)
  | _ => none
def sc45 : Nat → List SI × List Nat
  | _ => ([], [])
def sb45 : Nat → Option (List Nat × Bool × SB)
  | _ => none
def sc46 : Nat → List SI × List Nat
  | _ => ([], [])
def sb46 : Nat → Option (List Nat × Bool × SB)
  | _ => none
def sc47 : Nat → List SI × List Nat
  | _ => ([], [])
def sb47 : Nat → Option (List Nat × Bool × SB)
  | _ => none
def sc48 : Nat → List SI × List Nat
  | _ => ([], [])
def sb48 : Nat → Option (List Nat × Bool × SB)
  | _ => none
def sc49 : Nat → List SI × List Nat
  | _ => ([], [])
def sb49 : Nat → Option (List Nat × Bool × SB)
  | _ => none
def sc50 : Nat → List SI × List Nat
  | _ => ([], [])
def sb50 : Nat → Option (List Nat × Bool × SB)
  | _ => none
def sc51 : Nat → List SI × List Nat
  | _ => ([], [])
def sb51 : Nat → Option (List Nat × Bool × SB)
  | _ => none
def sc52 : Nat → List SI × List Nat
  | _ => ([], [])
def sb52 : Nat → Option (List Nat × Bool × SB)
  | _ => none
def sc53 : Nat → List SI × List Nat
  | _ => ([], [])
def sb53 : Nat → Option (List Nat × Bool × SB)
  | _ => none
def sc54 : Nat → List SI × List Nat
  | _ => ([], [])
def sb54 : Nat → Option (List Nat × Bool × SB)
  | _ => none
def sc55 : Nat → List SI × List Nat
  | _ => ([], [])
def sb55 : Nat → Option (List Nat × Bool × SB)
  | _ => none
def sc56 : Nat → List SI × List Nat
  | _ => ([], [])
def sb56 : Nat → Option (List Nat × Bool × SB)
  | _ => none
def sc57 : Nat → List SI × List Nat
  | _ => ([], [])
def sb57 : Nat → Option (List Nat × Bool × SB)
  | _ => none
def sc58 : Nat → List SI × List Nat
  | _ => ([], [])
def sb58 : Nat → Option (List Nat × Bool × SB)
  | _ => none
def sc59 : Nat → List SI × List Nat
  | _ => ([], [])
def sb59 : Nat → Option (List Nat × Bool × SB)
  | _ => none
def sc60 : Nat → List SI × List Nat
  | _ => ([], [])
def sb60 : Nat → Option (List Nat × Bool × SB)
  | _ => none
def sc61 : Nat → List SI × List Nat
  | _ => ([], [])
def sb61 : Nat → Option (List Nat × Bool × SB)
  | _ => none
def sc62 : Nat → List SI × List Nat
  | 1 => ([.q 0, .q 1, .q 2, .q 3, .q 4, .q 5, .q 6, .q 7, .q 8, .q 9, .q 10, .q 11, .q 12, .q 13, .q 14, .q 15, .q 16, .q 17, .q 18, .n 19, .q 20, .q 21, .q 22, .q 23, .q 24, .n 25, .q 26, .q 27], [])
  | _ => ([], [])
def sb62 : Nat → Option (List Nat × Bool × SB)
  | _ => none
def sc63 : Nat → List SI × List Nat
  | _ => ([], [])
def sb63 : Nat → Option (List Nat × Bool × SB)
  | _ => none
def sc64 : Nat → List SI × List Nat
  | _ => ([], [])
def sb64 : Nat → Option (List Nat × Bool × SB)
  | _ => none
def sc65 : Nat → List SI × List Nat
  | 4 => ([.q 0, .q 1, .q 2, .q 3, .q 4, .q 5, .q 6, .q 7, .q 8, .q 9, .q 10, .q 11, .q 12, .q 13, .n 14, .q 15, .q 16], [])
  | _ => ([], [])
def sb65 : Nat → Option (List Nat × Bool × SB)
  | 6 => some ([0], true, (.q 0 (.q 1 (.q 2 (.q 3 (.q 4 (.q 5 (.q 6 (.q 7 (.q 10 (.q 11 (.f 8 (.f 9 (.n 12 (.n 13 (.n 14 (.n 15 (.n 16 (.n 17 .nil)))))) 12 (.f 9 (.n 13 (.n 14 (.n 15 (.n 16 (.n 17 .nil))))) 13 (.n 9 (.n 14 (.n 15 (.n 16 (.n 17 .nil))))))) 12 (.f 8 (.f 9 (.n 13 (.n 14 (.n 15 (.n 16 (.n 17 .nil))))) 13 (.n 9 (.n 14 (.n 15 (.n 16 (.n 17 .nil)))))) 13 (.n 8 (.n 9 (.n 14 (.n 15 (.n 16 (.n 17 .nil)))))))))))))))))))
  | _ => none
def sc66 : Nat → List SI × List Nat
  | 5 => ([.q 0, .q 1, .q 2, .q 3, .q 4, .q 5, .q 6, .q 7, .q 8, .n 9, .q 10], [])
  | 17 => ([.q 0, .q 1, .q 2, .q 3, .q 4, .q 5, .q 6, .q 7, .q 8, .n 9, .q 10, .q 11], [])
  | 35 => ([.q 0, .q 1, .q 2, .q 3, .q 4, .q 5, .q 6, .q 7, .q 8, .q 9, .q 10, .n 11, .q 12, .q 13], [])
  | _ => ([], [])
def sb66 : Nat → Option (List Nat × Bool × SB)
  | 11 => some ([0], true, (.q 0 (.q 1 (.q 2 (.q 3 (.q 4 (.q 5 (.q 6 (.q 7 (.q 10 (.q 11 (.f 8 (.f 9 (.n 12 (.n 13 (.n 14 (.n 15 (.n 16 (.n 17 .nil)))))) 12 (.f 9 (.n 13 (.n 14 (.n 15 (.n 16 (.n 17 .nil))))) 13 (.n 9 (.n 14 (.n 15 (.n 16 (.n 17 .nil))))))) 12 (.f 8 (.f 9 (.n 13 (.n 14 (.n 15 (.n 16 (.n 17 .nil))))) 13 (.n 9 (.n 14 (.n 15 (.n 16 (.n 17 .nil)))))) 13 (.n 8 (.n 9 (.n 14 (.n 15 (.n 16 (.n 17 .nil)))))))))))))))))))
  | 23 => some ([0], true, (.q 0 (.q 1 (.q 2 (.q 3 (.q 4 (.q 5 (.q 6 (.q 7 (.q 10 (.q 11 (.f 8 (.f 9 (.n 12 (.n 13 (.n 14 (.n 15 (.n 16 (.n 17 .nil)))))) 12 (.f 9 (.n 13 (.n 14 (.n 15 (.n 16 (.n 17 .nil))))) 13 (.n 9 (.n 14 (.n 15 (.n 16 (.n 17 .nil))))))) 12 (.f 8 (.f 9 (.n 13 (.n 14 (.n 15 (.n 16 (.n 17 .nil))))) 13 (.n 9 (.n 14 (.n 15 (.n 16 (.n 17 .nil)))))) 13 (.n 8 (.n 9 (.n 14 (.n 15 (.n 16 (.n 17 .nil)))))))))))))))))))
  | _ => none
def sc67 : Nat → List SI × List Nat
  | _ => ([], [])
def sb67 : Nat → Option (List Nat × Bool × SB)
  | _ => none
def sc68 : Nat → List SI × List Nat
  | _ => ([], [])
def sb68 : Nat → Option (List Nat × Bool × SB)
  | _ => none
def sc69 : Nat → List SI × List Nat
  | _ => ([], [])
def sb69 : Nat → Option (List Nat × Bool × SB)
  | _ => none
def sc70 : Nat → List SI × List Nat
  | _ => ([], [])
def sb70 : Nat → Option (List Nat × Bool × SB)
  | 3 => some ([0], true, (.q 0 (.q 1 (.q 2 (.q 3 (.q 4 (.q 5 (.q 6 (.q 7 (.q 8 (.q 9 (.q 10 (.q 11 (.q 14 (.q 15 (.q 16 (.q 17 (.f 12 (.f 13 (.n 18 (.n 19 (.n 20 (.n 21 (.n 22 (.n 23 .nil)))))) 18 (.f 13 (.n 19 (.n 20 (.n 21 (.n 22 (.n 23 .nil))))) 19 (.n 13 (.n 20 (.n 21 (.n 22 (.n 23 .nil))))))) 18 (.f 12 (.f 13 (.n 19 (.n 20 (.n 21 (.n 22 (.n 23 .nil))))) 19 (.n 13 (.n 20 (.n 21 (.n 22 (.n 23 .nil)))))) 19 (.n 12 (.n 13 (.n 20 (.n 21 (.n 22 (.n 23 .nil)))))))))))))))))))))))))
  | _ => none
def sc86 : Nat → List SI × List Nat
  | _ => ([], [])
def sb86 : Nat → Option (List Nat × Bool × SB)
  | _ => none
end Go.Proofs.Ytgepaaakleomeac.Vx
