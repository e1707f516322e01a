/- Abstract execution: this program's table of types. Printed by vx.py. -/
import Derived.Test.YtjhddlkfkicpaaaGreatDoorVp
namespace Go.Proofs.YtjhddlkfkicpaaaGreatDoor.Vx
open Go Go.RowKit Fl

def ti2 : TI := { k := .int .i64, size := 1, bytes := 8, z := .row [.int .i64 0] }
def ti3 : TI := { k := .int .i64, size := 1, bytes := 8, z := .row [.int .i64 0] }
def ti4 : TI := { k := .bool, size := 1, bytes := 1, z := .row [.bool false] }
def ti5 : TI := { k := .int .u8, size := 1, bytes := 1, z := .row [.int .u8 0] }
def ti9 : TI := { k := .str, size := 1, bytes := 16, z := .row [.str ⟨#[]⟩] }
def ti21 : TI := { k := .int .i32, size := 1, bytes := 4, z := .row [.int .i32 0] }
def ti22 : TI := { k := .slice 5, size := 1, bytes := 24, z := .row [.nils] }
def ti24 : TI := { k := .int .i8, size := 1, bytes := 1, z := .row [.int .i8 0] }
def ti25 : TI := { k := .slice 62, size := 1, bytes := 24, z := .row [.nils] }
def ti27 : TI := { k := .struct [(0, 24), (1, 24), (2, 25)], size := 3, bytes := 32, z := .row [.int .i8 0, .int .i8 0, .nils] }
def ti29 : TI := { k := .flt .f32, size := 1, bytes := 4, z := .row [.flt .f32 0] }
def ti34 : TI := { k := .arr 10 29, size := 10, bytes := 40, z := .all (.flt .f32 0) }
def ti35 : TI := { k := .arr 10 34, size := 100, bytes := 400, z := .all (.flt .f32 0) }
def ti41 : TI := { k := .struct [(0, 24), (1, 24)], size := 2, bytes := 2, z := .row [.int .i8 0, .int .i8 0], eq := true }
def ti44 : TI := { k := .int .u16, size := 1, bytes := 2, z := .row [.int .u16 0] }
def ti45 : TI := { k := .arr 10 44, size := 10, bytes := 20, z := .all (.int .u16 0), eqa := true }
def ti52 : TI := { k := .slice 41, size := 1, bytes := 24, z := .row [.nils] }
def ti55 : TI := { k := .int .u64, size := 1, bytes := 8, z := .row [.int .u64 0] }
def ti62 : TI := { k := .struct [(0, 24), (1, 24), (2, 29)], size := 3, bytes := 8, z := .row [.int .i8 0, .int .i8 0, .flt .f32 0] }
def ti68 : TI := { k := .slice 9, size := 1, bytes := 24, z := .row [.nils] }
def ti100 : TI := { k := .int .u64, size := 1, bytes := 8, z := .row [.int .u64 0] }
def ti102 : TI := { k := .struct [(0, 22), (1, 3), (2, 100)], size := 3, bytes := 40, z := .row [.nils, .int .i64 0, .int .u64 0] }
def ti103 : TI := { k := .int .u32, size := 1, bytes := 4, z := .row [.int .u32 0] }
def ti128 : TI := { k := .ptr, size := 1, bytes := 8, z := .row [.nilp] }
def ti130 : TI := { k := .struct [(0, 128), (1, 22)], size := 2, bytes := 32, z := .row [.nilp, .nils] }
def ti147 : TI := { k := .arr 24 5, size := 24, bytes := 24, z := .all (.int .u8 0), eqa := true, rw := true }
def ti156 : TI := { k := .ptr, size := 1, bytes := 8, z := .row [.nilp] }
def ti163 : TI := { k := .arr 20 100, size := 20, bytes := 160, z := .all (.int .u64 0), eqa := true }
def ti164 : TI := { k := .arr 65 5, size := 65, bytes := 65, z := .all (.int .u8 0), eqa := true, rw := true }
def ti170 : TI := { k := .arr 256 5, size := 256, bytes := 256, z := .all (.int .u8 0), eqa := true, rw := true }
def ti172 : TI := { k := .struct [(0, 5), (1, 5)], size := 2, bytes := 2, z := .row [.int .u8 0, .int .u8 0], eq := true }
def ti173 : TI := { k := .arr 16 172, size := 32, bytes := 32, z := .all (.int .u8 0) }
def ti176 : TI := { k := .struct [(0, 9)], size := 1, bytes := 16, z := .row [.str ⟨#[]⟩] }
def ti178 : TI := { k := .arr 32 5, size := 32, bytes := 32, z := .all (.int .u8 0), eqa := true, rw := true }
def ti179 : TI := { k := .arr 64 5, size := 64, bytes := 64, z := .all (.int .u8 0), eqa := true, rw := true }
def tab : Nat → Option TI
  | 2 => some ti2
  | 3 => some ti3
  | 4 => some ti4
  | 5 => some ti5
  | 9 => some ti9
  | 21 => some ti21
  | 22 => some ti22
  | 24 => some ti24
  | 25 => some ti25
  | 27 => some ti27
  | 29 => some ti29
  | 34 => some ti34
  | 35 => some ti35
  | 41 => some ti41
  | 44 => some ti44
  | 45 => some ti45
  | 52 => some ti52
  | 55 => some ti55
  | 62 => some ti62
  | 68 => some ti68
  | 100 => some ti100
  | 102 => some ti102
  | 103 => some ti103
  | 128 => some ti128
  | 130 => some ti130
  | 147 => some ti147
  | 156 => some ti156
  | 163 => some ti163
  | 164 => some ti164
  | 170 => some ti170
  | 172 => some ti172
  | 173 => some ti173
  | 176 => some ti176
  | 178 => some ti178
  | 179 => some ti179
  | _ => none
def tabL : List (Nat × TI) := [(2, ti2), (3, ti3), (4, ti4), (5, ti5), (9, ti9), (21, ti21), (22, ti22), (24, ti24), (25, ti25), (27, ti27), (29, ti29), (34, ti34), (35, ti35), (41, ti41), (44, ti44), (45, ti45), (52, ti52), (55, ti55), (62, ti62), (68, ti68), (100, ti100), (102, ti102), (103, ti103), (128, ti128), (130, ti130), (147, ti147), (156, ti156), (163, ti163), (164, ti164), (170, ti170), (172, ti172), (173, ti173), (176, ti176), (178, ti178), (179, ti179)]
theorem tab_mem : ∀ t i, tab t = some i → (t, i) ∈ tabL := by
  intro t i h
  unfold tab at h
  unfold tabL
  split at h <;> first | (cases h; done) | (cases h; simp only [List.mem_cons, true_or, or_true])
theorem tabOk : TabOk Tryz.prog tab := tabOk_of tab_mem (by kernel_rfl)
def sc3 : Nat → List SI × List Nat
  | 22 => ([.q 0, .q 1, .q 2, .q 3, .q 4, .q 5, .q 6, .q 7], [])
  | 23 => ([.q 0, .q 1, .q 2, .q 3, .q 4, .n 5, .q 6, .q 7, .q 8, .q 9, .q 10, .q 11, .q 12, .q 13, .q 14, .q 15, .q 16, .q 17, .q 18, .q 19, .q 20, .q 21, .q 22, .q 23, .q 24, .q 25, .q 26, .q 27, .q 28, .q 29, .q 30, .q 31, .q 32, .q 33], [])
  | 35 => ([.q 0, .q 1, .q 2, .q 3, .q 4, .q 5, .q 6, .q 7, .q 8, .q 9, .q 10, .n 11, .q 12, .q 13], [])
  | 50 => ([.q 0, .q 1, .q 2, .q 3, .q 4, .q 5, .q 6, .q 7, .q 8, .q 9, .q 10, .q 11, .q 12, .q 13, .q 14, .q 15, .q 16, .q 17, .q 18, .q 19, .q 20, .q 21, .q 22, .q 23, .q 24, .q 25, .q 26], [])
  | _ => ([], [])
def sb3 : Nat → Option (List Nat × Bool × SB)
  | 43 => some ([], true, (.q 0 (.q 1 (.q 2 (.q 3 (.q 4 (.q 5 (.f 6 (.q 7 (.q 8 (.q 9 (.n 10 (.n 11 (.q 12 .nil)))))) 10 (.n 6 (.q 7 (.q 8 (.q 9 (.n 11 (.q 12 .nil))))))))))))))
  | 44 => some ([], true, (.q 0 (.q 1 (.q 2 (.q 3 (.q 4 (.q 5 (.f 6 (.q 7 (.q 8 (.q 9 (.n 10 (.n 11 (.q 12 .nil)))))) 10 (.n 6 (.q 7 (.q 8 (.q 9 (.n 11 (.q 12 .nil))))))))))))))
  | _ => none
def sc4 : Nat → List SI × List Nat
  | _ => ([], [])
def sb4 : Nat → Option (List Nat × Bool × SB)
  | _ => none
def sc5 : Nat → List SI × List Nat
  | _ => ([], [])
def sb5 : Nat → Option (List Nat × Bool × SB)
  | _ => none
def sc6 : Nat → List SI × List Nat
  | _ => ([], [])
def sb6 : Nat → Option (List Nat × Bool × SB)
  | _ => none
def sc7 : Nat → List SI × List Nat
  | _ => ([], [])
def sb7 : Nat → Option (List Nat × Bool × SB)
  | 17 => some ([12, 118], true, (.q 0 (.q 2 (.q 3 (.q 6 (.q 7 (.q 8 (.e 4 (.q 5 (.q 9 (.f 1 (.n 10 (.n 11 (.q 12 (.n 13 .nil)))) 10 (.n 1 (.n 11 (.q 12 (.n 13 .nil)))))))))))))))
  | _ => none
def sc8 : Nat → List SI × List Nat
  | 3 => ([.q 0, .q 1, .q 2, .q 5, .q 6, .q 7, .n 3, .q 4, .n 8, .q 9, .q 10, .q 11], [])
  | 7 => ([.q 0, .q 1, .q 2, .q 3, .q 4, .q 5, .q 6, .q 7, .q 8, .q 9, .q 13, .q 14, .n 10, .q 11, .q 12, .n 15, .q 16, .q 17, .q 18, .q 19], [])
  | _ => ([], [])
def sb8 : Nat → Option (List Nat × Bool × SB)
  | _ => none
def sc9 : Nat → List SI × List Nat
  | 8 => ([.q 0, .q 1, .q 2, .q 3, .q 4, .q 6, .n 5, .q 7], [8])
  | _ => ([], [])
def sb9 : Nat → Option (List Nat × Bool × SB)
  | _ => none
def sc10 : Nat → List SI × List Nat
  | 8 => ([.q 0, .q 1, .q 2, .q 3, .q 4, .q 5, .q 6, .q 7, .q 8, .q 9, .q 10, .q 11, .q 12, .q 13, .q 15, .n 14, .q 16], [17])
  | _ => ([], [])
def sb10 : Nat → Option (List Nat × Bool × SB)
  | _ => none
def sc11 : Nat → List SI × List Nat
  | _ => ([], [])
def sb11 : Nat → Option (List Nat × Bool × SB)
  | _ => none
def sc12 : Nat → List SI × List Nat
  | _ => ([], [])
def sb12 : Nat → Option (List Nat × Bool × SB)
  | _ => none
def sc13 : Nat → List SI × List Nat
  | _ => ([], [])
def sb13 : Nat → Option (List Nat × Bool × SB)
  | _ => none
def sc14 : Nat → List SI × List Nat
  | _ => ([], [])
def sb14 : Nat → Option (List Nat × Bool × SB)
  | _ => none
def sc15 : Nat → List SI × List Nat
  | 9 => ([.q 0, .q 1, .q 2, .q 3, .q 4, .q 5, .q 6, .q 7, .q 8], [9])
  | _ => ([], [])
def sb15 : Nat → Option (List Nat × Bool × SB)
  | _ => none
def sc16 : Nat → List SI × List Nat
  | 10 => ([.q 0, .q 1, .q 2, .q 3, .q 4, .q 5, .q 6, .q 7, .q 8, .q 9, .q 10, .q 11, .q 12, .q 13, .q 14, .q 15], [16])
  | _ => ([], [])
def sb16 : Nat → Option (List Nat × Bool × SB)
  | _ => none
def sc17 : Nat → List SI × List Nat
  | _ => ([], [])
def sb17 : Nat → Option (List Nat × Bool × SB)
  | _ => none
def sc18 : Nat → List SI × List Nat
  | _ => ([], [])
def sb18 : Nat → Option (List Nat × Bool × SB)
  | _ => none
def sc19 : Nat → List SI × List Nat
  | _ => ([], [])
def sb19 : Nat → Option (List Nat × Bool × SB)
  | _ => none
def sc20 : Nat → List SI × List Nat
  | 7 => ([.q 0, .q 1, .q 2, .q 3, .q 4, .q 5, .q 6, .q 7, .q 8, .q 9, .n 10, .q 11], [])
  | _ => ([], [])
def sb20 : Nat → Option (List Nat × Bool × SB)
  | _ => none
def sc21 : Nat → List SI × List Nat
  | _ => ([], [])
def sb21 : Nat → Option (List Nat × Bool × SB)
  | _ => none
def sc22 : Nat → List SI × List Nat
  | _ => ([], [])
def sb22 : Nat → Option (List Nat × Bool × SB)
  | _ => none
def sc23 : Nat → List SI × List Nat
  | 1 => ([.q 0, .q 1, .n 2, .n 3, .q 4], [])
  | _ => ([], [])
def sb23 : Nat → Option (List Nat × Bool × SB)
  | _ => none
def sc24 : Nat → List SI × List Nat
  | _ => ([], [])
def sb24 : Nat → Option (List Nat × Bool × SB)
  | _ => none
def sc25 : Nat → List SI × List Nat
  | _ => ([], [])
def sb25 : Nat → Option (List Nat × Bool × SB)
  | _ => none
def sc26 : Nat → List SI × List Nat
  | _ => ([], [])
def sb26 : Nat → Option (List Nat × Bool × SB)
  | _ => none
def sc27 : Nat → List SI × List Nat
  | 1 => ([.q 0, .q 1, .q 2, .q 3, .q 4, .q 5, .n 6, .q 7, .q 8, .n 9, .q 10, .n 11, .q 12], [])
  | _ => ([], [])
def sb27 : Nat → Option (List Nat × Bool × SB)
  | _ => none
def sc28 : Nat → List SI × List Nat
  | 5 => ([.q 0, .q 1, .q 2, .q 3, .q 4, .q 5, .q 6, .q 7, .q 8, .q 9, .q 10, .q 11, .q 12], [13])
  | _ => ([], [])
def sb28 : Nat → Option (List Nat × Bool × SB)
  | _ => none
def sc29 : Nat → List SI × List Nat
  | 1 => ([.q 0, .q 1, .n 2, .n 3, .q 4], [])
  | _ => ([], [])
def sb29 : Nat → Option (List Nat × Bool × SB)
  | _ => none
def sc30 : Nat → List SI × List Nat
  | _ => ([], [])
def sb30 : Nat → Option (List Nat × Bool × SB)
  | _ => none
def sc31 : Nat → List SI × List Nat
  | _ => ([], [])
def sb31 : Nat → Option (List Nat × Bool × SB)
  | _ => none
def sc32 : Nat → List SI × List Nat
  | _ => ([], [])
def sb32 : Nat → Option (List Nat × Bool × SB)
  | _ => none
def sc33 : Nat → List SI × List Nat
  | _ => ([], [])
def sb33 : Nat → Option (List Nat × Bool × SB)
  | _ => none
def sc36 : Nat → List SI × List Nat
  | _ => ([], [])
def sb36 : Nat → Option (List Nat × Bool × SB)
  | _ => none
def sc37 : Nat → List SI × List Nat
  | _ => ([], [])
def sb37 : Nat → Option (List Nat × Bool × SB)
  | _ => none
def sc38 : Nat → List SI × List Nat
  | _ => ([], [])
def sb38 : Nat → Option (List Nat × Bool × SB)
  | _ => none
def sc40 : Nat → List SI × List Nat
  | _ => ([], [])
def sb40 : Nat → Option (List Nat × Bool × SB)
  | _ => none
def sc41 : Nat → List SI × List Nat
  | _ => ([], [])
def sb41 : Nat → Option (List Nat × Bool × SB)
  | _ => none
def sc42 : Nat → List SI × List Nat
  | _ => ([], [])
def sb42 : Nat → Option (List Nat × Bool × SB)
  | _ => none
def sc43 : Nat → List SI × List Nat
  | _ => ([], [])
def sb43 : Nat → Option (List Nat × Bool × SB)
  | _ => none
def sc44 : Nat → List SI × List Nat
  | _ => ([], [])
def sb44 : Nat → Option (List Nat × Bool × SB)
  | _ => none
def sc45 : Nat → List SI × List Nat
  | _ => ([], [])
def sb45 : Nat → Option (List Nat × Bool × SB)
  | _ => none
def sc46 : Nat → List SI × List Nat
  | _ => ([], [])
def sb46 : Nat → Option (List Nat × Bool × SB)
  | _ => none
def sc47 : Nat → List SI × List Nat
  | 5 => ([.q 0, .q 1, .q 2, .q 3, .q 4, .q 5, .q 6, .q 7, .q 8, .q 9, .n 10, .q 11, .q 12], [])
  | _ => ([], [])
def sb47 : Nat → Option (List Nat × Bool × SB)
  | _ => none
def sc48 : Nat → List SI × List Nat
  | _ => ([], [])
def sb48 : Nat → Option (List Nat × Bool × SB)
  | _ => none
def sc49 : Nat → List SI × List Nat
  | _ => ([], [])
def sb49 : Nat → Option (List Nat × Bool × SB)
  | _ => none
def sc50 : Nat → List SI × List Nat
  | _ => ([], [])
def sb50 : Nat → Option (List Nat × Bool × SB)
  | _ => none
def sc51 : Nat → List SI × List Nat
  | _ => ([], [])
def sb51 : Nat → Option (List Nat × Bool × SB)
  | _ => none
def sc52 : Nat → List SI × List Nat
  | _ => ([], [])
def sb52 : Nat → Option (List Nat × Bool × SB)
  | _ => none
def sc53 : Nat → List SI × List Nat
  | _ => ([], [])
def sb53 : Nat → Option (List Nat × Bool × SB)
  | _ => none
def sc54 : Nat → List SI × List Nat
  | 1 => ([.q 0, .q 1, .q 2, .q 3, .q 4, .q 5, .q 6, .q 7, .q 8, .q 9, .q 10, .q 11, .q 12, .q 13, .q 14, .q 15, .q 16, .q 17, .q 18, .n 19, .q 20, .q 21, .q 22, .q 23, .q 24, .n 25, .q 26, .q 27], [])
  | _ => ([], [])
def sb54 : Nat → Option (List Nat × Bool × SB)
  | _ => none
def sc55 : Nat → List SI × List Nat
  | 1 => ([.q 0, .q 1, .q 2, .q 3, .q 4, .q 5, .q 6, .q 7, .q 8, .q 9, .q 10, .q 11, .q 12, .q 13, .q 14, .q 15, .q 16, .q 17, .q 18, .q 19, .q 20, .q 21, .q 22, .q 23, .q 24, .q 25, .q 26], [])
  | _ => ([], [])
def sb55 : Nat → Option (List Nat × Bool × SB)
  | _ => none
def sc56 : Nat → List SI × List Nat
  | 1 => ([.q 0, .q 1, .q 2, .q 3, .q 4, .q 5, .q 6, .q 7, .q 8, .n 9], [10])
  | 5 => ([.q 0, .q 1, .q 2, .q 3, .q 4, .n 5, .n 6], [7, 8, 9])
  | _ => ([], [])
def sb56 : Nat → Option (List Nat × Bool × SB)
  | _ => none
def sc57 : Nat → List SI × List Nat
  | _ => ([], [])
def sb57 : Nat → Option (List Nat × Bool × SB)
  | _ => none
def sc58 : Nat → List SI × List Nat
  | _ => ([], [])
def sb58 : Nat → Option (List Nat × Bool × SB)
  | 1 => some ([2], false, (.q 0 (.q 1 (.q 2 (.q 3 (.q 4 (.q 5 (.q 6 (.q 7 (.q 9 (.q 10 (.q 11 (.q 12 (.n 8 (.n 13 (.q 14 (.n 15 .nil)))))))))))))))))
  | _ => none
def sc59 : Nat → List SI × List Nat
  | _ => ([], [])
def sb59 : Nat → Option (List Nat × Bool × SB)
  | _ => none
def sc60 : Nat → List SI × List Nat
  | _ => ([], [])
def sb60 : Nat → Option (List Nat × Bool × SB)
  | _ => none
def sc61 : Nat → List SI × List Nat
  | _ => ([], [])
def sb61 : Nat → Option (List Nat × Bool × SB)
  | _ => none
def sc62 : Nat → List SI × List Nat
  | _ => ([], [])
def sb62 : Nat → Option (List Nat × Bool × SB)
  | _ => none
def sc63 : Nat → List SI × List Nat
  | _ => ([], [])
def sb63 : Nat → Option (List Nat × Bool × SB)
  | _ => none
def sc64 : Nat → List SI × List Nat
  | 5 => ([.q 0, .q 1, .q 2, .q 3, .q 4, .q 5, .q 6, .q 7], [8])
  | 7 => ([.q 0, .q 1, .q 2, .q 3, .q 4, .q 5, .q 6, .q 7], [8])
  | _ => ([], [])
def sb64 : Nat → Option (List Nat × Bool × SB)
  | _ => none
def sc65 : Nat → List SI × List Nat
  | _ => ([], [])
def sb65 : Nat → Option (List Nat × Bool × SB)
  | _ => none
def sc66 : Nat → List SI × List Nat
  | 5 => ([.q 0, .q 1, .q 2, .q 3, .q 4, .q 5, .q 6, .q 7], [8])
  | 7 => ([.q 0, .q 1, .q 2, .q 3, .q 4, .q 5, .q 6, .q 7], [8])
  | _ => ([], [])
def sb66 : Nat → Option (List Nat × Bool × SB)
  | _ => none
def sc67 : Nat → List SI × List Nat
  | _ => ([], [])
def sb67 : Nat → Option (List Nat × Bool × SB)
  | _ => none
def sc71 : Nat → List SI × List Nat
  | _ => ([], [])
def sb71 : Nat → Option (List Nat × Bool × SB)
  | _ => none
def sc76 : Nat → List SI × List Nat
  | _ => ([], [])
def sb76 : Nat → Option (List Nat × Bool × SB)
  | _ => none
def sc78 : Nat → List SI × List Nat
  | 2 => ([.q 0, .q 1, .q 2, .q 3, .q 4, .q 5, .q 6, .q 7, .q 8, .q 9, .q 10, .q 11, .q 12, .q 13, .q 14, .q 15], [])
  | _ => ([], [])
def sb78 : Nat → Option (List Nat × Bool × SB)
  | _ => none
def sc79 : Nat → List SI × List Nat
  | _ => ([], [])
def sb79 : Nat → Option (List Nat × Bool × SB)
  | _ => none
def sc80 : Nat → List SI × List Nat
  | _ => ([], [])
def sb80 : Nat → Option (List Nat × Bool × SB)
  | _ => none
def sc81 : Nat → List SI × List Nat
  | 2 => ([.q 0, .q 1, .q 2, .q 3, .q 4, .q 5, .q 6, .q 7, .q 8, .q 9], [])
  | 3 => ([.q 0, .q 1, .q 2, .q 3, .q 4, .q 5, .q 6, .q 7, .q 8, .q 9, .q 10, .q 11], [])
  | 6 => ([.q 0, .q 1, .q 2, .q 3, .q 4, .q 5, .q 6, .q 7, .q 8, .q 9], [])
  | _ => ([], [])
def sb81 : Nat → Option (List Nat × Bool × SB)
  | _ => none
def sc82 : Nat → List SI × List Nat
  | _ => ([], [])
def sb82 : Nat → Option (List Nat × Bool × SB)
  | _ => none
def sc89 : Nat → List SI × List Nat
  | _ => ([], [])
def sb89 : Nat → Option (List Nat × Bool × SB)
  | _ => none
def sc92 : Nat → List SI × List Nat
  | _ => ([], [])
def sb92 : Nat → Option (List Nat × Bool × SB)
  | _ => none
def sc109 : Nat → List SI × List Nat
  | _ => ([], [])
def sb109 : Nat → Option (List Nat × Bool × SB)
  | _ => none
def sc114 : Nat → List SI × List Nat
  | _ => ([], [])
def sb114 : Nat → Option (List Nat × Bool × SB)
  | _ => none
def sc128 : Nat → List SI × List Nat
  | _ => ([], [])
def sb128 : Nat → Option (List Nat × Bool × SB)
  | _ => none
end Go.Proofs.YtjhddlkfkicpaaaGreatDoor.Vx

namespace Go.Proofs.YtjhddlkfkicpaaaGreatDoor.Vx
open Go Go.RowKit Fl
attribute [go_sem] env0 SV.ren renL SV.one SV.known rget rset NN hget hset bput TK.agg look ofVal ev evL put binI binF binB binS binFV eqIs aggR aeqR nilEq arrEq binR fneg unR widR convR allKnown shf mapF sub ldR fieldR rw1 arrP indexR nilR updR updW updC updA stOne splice allF unF stAgg stR boxR allB allocR rowOf rowsOf nthR noRow buildSR zRow constRow makeR lenR capR minR maxR extrR partR fldR btAt idxR slRow bnd slcN slcR strSl arrSl strC shR catR flatR srcR appR cellsL bFill fsOk constF buildR inL idx lget distinct SV.lin linL locH locOk1 locOk unl newB mrg evP knownL eqTN isBoolT isSlcT isStrT lenRT cvR cvS isArrT biR evO sliR sliA sliT sliS eqaN nnS opR SV.labs labsL ins clo reach allLt upto roL dropB CallX isPre dropTo hasBlk dstOf pickL SI.i slotsL keepB kpR kpB ofB isOwnB ofL SI.md resL resV RetG wr_i8 wr_i16 wr_i32 wr_i64 wr_u8 wr_u16 wr_u32 wr_u64 bk_ro_lit bk_ro_rows bk_ro_cells bk_ro_dead bk_dead_lit bk_dead_rows bk_dead_cells bk_dead_dead bk_labs_lit bk_labs_rows bk_labs_cells bk_labs_dead bk_lin_lit bk_lin_rows bk_lin_cells bk_lin_dead bk_ren_lit bk_ren_rows bk_ren_cells bk_ren_dead ldo_lit ldo_rows ldo_cells lda_lit lda_rows lda_cells run_nil run_it it_code it_ops0 it_ops it_drw0 it_drw stDr_some it_g stGg_none stGg_some stGs_some stGv_t stGv_f stGv_no it_skp it_op it_blk it_inv co_skip co_seq co_cond stCnd_b co_block co_exit stEx_t co_ret co_loop co_reg0 co_reg1 co_rg0 co_rg1 co_rb0 co_rb1 op_or op_app op_wid or_val or_pick or_new or_upd or_call0 or_call3 or_call2 ap_slc ap_nil fin_some co_bnil co_bg0 co_bg1 co_bg2 co_gvt co_gvf co_gvs co_gms co_gm0 co_gm1 co_om co_bq co_be co_bn co_bf co_qv co_qp co_qw co_ec co_kr co_nv co_np co_nn co_nu co_nc co_na co_nw co_as co_is co_in co_an Int.toNat_natCast bne_self_eq_false beq_self_eq_true Int.toNat_zero Option.isSome_some Bool.and_self shf_zero List.take_succ_cons List.take_zero List.take_nil List.drop_succ_cons List.drop_nil List.length_cons List.length_nil List.cons_append List.nil_append List.append_nil Nat.add_zero Nat.zero_add Nat.mul_one decide_true decide_false Bool.true_and Bool.and_true true_and and_true eq_self ne_eq not_false_eq_true not_true_eq_false Br_tr Br_fa Option.some.injEq Nat.lt_add_one Bool.not_true Bool.not_false Bool.or_false Bool.false_or Bool.or_true Bool.true_or List.drop_zero or_true true_or or_false false_or List.toList_toArray List.setIfInBounds_toArray List.size_toArray tab ti2 ti3 ti4 ti5 ti9 ti21 ti22 ti24 ti25 ti27 ti29 ti34 ti35 ti41 ti44 ti45 ti52 ti55 ti62 ti68 ti100 ti102 ti103 ti128 ti130 ti147 ti156 ti163 ti164 ti170 ti172 ti173 ti176 ti178 ti179
end Go.Proofs.YtjhddlkfkicpaaaGreatDoor.Vx
