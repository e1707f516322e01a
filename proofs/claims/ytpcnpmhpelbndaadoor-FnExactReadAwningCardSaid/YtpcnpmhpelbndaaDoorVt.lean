/- Abstract execution: this program's table of types. Printed by vx.py. -/
import Derived.Test.YtpcnpmhpelbndaaDoorVp
namespace Go.Proofs.YtpcnpmhpelbndaaDoor.Vx
open Go Go.RowKit Fl

def ti2 : TI := { k := .int .i64, size := 1, bytes := 8, z := .row [.int .i64 0] }
def ti3 : TI := { k := .int .i64, size := 1, bytes := 8, z := .row [.int .i64 0] }
def ti4 : TI := { k := .bool, size := 1, bytes := 1, z := .row [.bool false] }
def ti5 : TI := { k := .int .u8, size := 1, bytes := 1, z := .row [.int .u8 0] }
def ti9 : TI := { k := .str, size := 1, bytes := 16, z := .row [.str ⟨#[]⟩] }
def ti21 : TI := { k := .int .i32, size := 1, bytes := 4, z := .row [.int .i32 0] }
def ti22 : TI := { k := .int .i16, size := 1, bytes := 2, z := .row [.int .i16 0] }
def ti23 : TI := { k := .int .i8, size := 1, bytes := 1, z := .row [.int .i8 0] }
def ti25 : TI := { k := .struct [(0, 22), (1, 23), (2, 23)], size := 3, bytes := 4, z := .row [.int .i16 0, .int .i8 0, .int .i8 0], eq := true }
def ti27 : TI := { k := .struct [(0, 22), (1, 23), (2, 23)], size := 3, bytes := 4, z := .row [.int .i16 0, .int .i8 0, .int .i8 0], eq := true }
def ti30 : TI := { k := .flt .f32, size := 1, bytes := 4, z := .row [.flt .f32 0] }
def ti32 : TI := { k := .struct [(0, 30), (1, 30), (2, 30), (3, 30)], size := 4, bytes := 16, z := .row [.flt .f32 0, .flt .f32 0, .flt .f32 0, .flt .f32 0] }
def ti34 : TI := { k := .struct [(0, 30), (1, 30), (2, 30), (3, 30)], size := 4, bytes := 16, z := .row [.flt .f32 0, .flt .f32 0, .flt .f32 0, .flt .f32 0] }
def ti37 : TI := { k := .slice 104, size := 1, bytes := 24, z := .row [.nils] }
def ti39 : TI := { k := .struct [(0, 23), (1, 23), (2, 37)], size := 3, bytes := 32, z := .row [.int .i8 0, .int .i8 0, .nils] }
def ti42 : TI := { k := .slice 72, size := 1, bytes := 24, z := .row [.nils] }
def ti44 : TI := { k := .struct [(0, 23), (1, 23), (2, 42)], size := 3, bytes := 32, z := .row [.int .i8 0, .int .i8 0, .nils] }
def ti63 : TI := { k := .slice 9, size := 1, bytes := 24, z := .row [.nils] }
def ti72 : TI := { k := .struct [(0, 23), (1, 23), (2, 30)], size := 3, bytes := 8, z := .row [.int .i8 0, .int .i8 0, .flt .f32 0] }
def ti75 : TI := { k := .arr 4 30, size := 4, bytes := 16, z := .row [.flt .f32 0, .flt .f32 0, .flt .f32 0, .flt .f32 0] }
def ti82 : TI := { k := .flt .f64, size := 1, bytes := 8, z := .row [.flt .f64 0] }
def ti85 : TI := { k := .slice 2, size := 1, bytes := 24, z := .row [.nils] }
def ti87 : TI := { k := .ptr, size := 1, bytes := 8, z := .row [.nilp] }
def ti88 : TI := { k := .slice 5, size := 1, bytes := 24, z := .row [.nils] }
def ti90 : TI := { k := .struct [(0, 87), (1, 88)], size := 2, bytes := 32, z := .row [.nilp, .nils] }
def ti97 : TI := { k := .int .u32, size := 1, bytes := 4, z := .row [.int .u32 0] }
def ti100 : TI := { k := .int .u64, size := 1, bytes := 8, z := .row [.int .u64 0] }
def ti104 : TI := { k := .struct [(0, 23), (1, 23), (2, 30)], size := 3, bytes := 8, z := .row [.int .i8 0, .int .i8 0, .flt .f32 0] }
def ti112 : TI := { k := .ptr, size := 1, bytes := 8, z := .row [.nilp] }
def ti113 : TI := { k := .int .u64, size := 1, bytes := 8, z := .row [.int .u64 0] }
def ti127 : TI := { k := .arr 24 5, size := 24, bytes := 24, z := .all (.int .u8 0), rw := true }
def ti147 : TI := { k := .arr 20 100, size := 20, bytes := 160, z := .all (.int .u64 0) }
def ti148 : TI := { k := .arr 65 5, size := 65, bytes := 65, z := .all (.int .u8 0), rw := true }
def ti156 : TI := { k := .arr 256 5, size := 256, bytes := 256, z := .all (.int .u8 0), rw := true }
def ti158 : TI := { k := .struct [(0, 5), (1, 5)], size := 2, bytes := 2, z := .row [.int .u8 0, .int .u8 0], eq := true }
def ti159 : TI := { k := .arr 16 158, size := 32, bytes := 32, z := .all (.int .u8 0) }
def ti163 : TI := { k := .struct [(0, 9)], size := 1, bytes := 16, z := .row [.str ⟨#[]⟩] }
def ti164 : TI := { k := .arr 32 5, size := 32, bytes := 32, z := .all (.int .u8 0), rw := true }
def ti165 : TI := { k := .arr 64 5, size := 64, bytes := 64, z := .all (.int .u8 0), rw := true }
def tab : Nat → Option TI
  | 2 => some ti2
  | 3 => some ti3
  | 4 => some ti4
  | 5 => some ti5
  | 9 => some ti9
  | 21 => some ti21
  | 22 => some ti22
  | 23 => some ti23
  | 25 => some ti25
  | 27 => some ti27
  | 30 => some ti30
  | 32 => some ti32
  | 34 => some ti34
  | 37 => some ti37
  | 39 => some ti39
  | 42 => some ti42
  | 44 => some ti44
  | 63 => some ti63
  | 72 => some ti72
  | 75 => some ti75
  | 82 => some ti82
  | 85 => some ti85
  | 87 => some ti87
  | 88 => some ti88
  | 90 => some ti90
  | 97 => some ti97
  | 100 => some ti100
  | 104 => some ti104
  | 112 => some ti112
  | 113 => some ti113
  | 127 => some ti127
  | 147 => some ti147
  | 148 => some ti148
  | 156 => some ti156
  | 158 => some ti158
  | 159 => some ti159
  | 163 => some ti163
  | 164 => some ti164
  | 165 => some ti165
  | _ => none
def tabL : List (Nat × TI) := [(2, ti2), (3, ti3), (4, ti4), (5, ti5), (9, ti9), (21, ti21), (22, ti22), (23, ti23), (25, ti25), (27, ti27), (30, ti30), (32, ti32), (34, ti34), (37, ti37), (39, ti39), (42, ti42), (44, ti44), (63, ti63), (72, ti72), (75, ti75), (82, ti82), (85, ti85), (87, ti87), (88, ti88), (90, ti90), (97, ti97), (100, ti100), (104, ti104), (112, ti112), (113, ti113), (127, ti127), (147, ti147), (148, ti148), (156, ti156), (158, ti158), (159, ti159), (163, ti163), (164, ti164), (165, ti165)]
theorem tab_mem : ∀ t i, tab t = some i → (t, i) ∈ tabL := by
  intro t i h
  unfold tab at h
  unfold tabL
  split at h <;> first | (cases h; done) | (cases h; simp only [List.mem_cons, true_or, or_true])
theorem tabOk : TabOk Tryd.prog tab := tabOk_of tab_mem (by kernel_rfl)
def sc3 : Nat → List SI × List Nat
  | _ => ([], [])
def sb3 : Nat → Option (List Nat × Bool × SB)
  | _ => none
def sc4 : Nat → List SI × List Nat
  | _ => ([], [])
def sb4 : Nat → Option (List Nat × Bool × SB)
  | _ => none
def sc5 : Nat → List SI × List Nat
  | 10 => ([.q 0, .q 1, .n 2, .n 3, .q 4], [])
  | _ => ([], [])
def sb5 : Nat → Option (List Nat × Bool × SB)
  | _ => none
def sc6 : Nat → List SI × List Nat
  | _ => ([], [])
def sb6 : Nat → Option (List Nat × Bool × SB)
  | _ => none
def sc7 : Nat → List SI × List Nat
  | _ => ([], [])
def sb7 : Nat → Option (List Nat × Bool × SB)
  | _ => none
def sc8 : Nat → List SI × List Nat
  | _ => ([], [])
def sb8 : Nat → Option (List Nat × Bool × SB)
  | _ => none
def sc9 : Nat → List SI × List Nat
  | _ => ([], [])
def sb9 : Nat → Option (List Nat × Bool × SB)
  | _ => none
def sc10 : Nat → List SI × List Nat
  | _ => ([], [])
def sb10 : Nat → Option (List Nat × Bool × SB)
  | _ => none
def sc11 : Nat → List SI × List Nat
  | _ => ([], [])
def sb11 : Nat → Option (List Nat × Bool × SB)
  | _ => none
def sc12 : Nat → List SI × List Nat
  | 3 => ([.q 0, .q 1, .q 3, .q 4, .q 6, .q 7, .q 9, .q 10, .n 2, .n 5, .n 8, .n 11, .n 12, .n 13, .q 14], [])
  | _ => ([], [])
def sb12 : Nat → Option (List Nat × Bool × SB)
  | _ => none
def sc13 : Nat → List SI × List Nat
  | _ => ([], [])
def sb13 : Nat → Option (List Nat × Bool × SB)
  | _ => none
def sc14 : Nat → List SI × List Nat
  | _ => ([], [])
def sb14 : Nat → Option (List Nat × Bool × SB)
  | _ => none
def sc15 : Nat → List SI × List Nat
  | _ => ([], [])
def sb15 : Nat → Option (List Nat × Bool × SB)
  | _ => none
def sc16 : Nat → List SI × List Nat
  | 3 => ([.q 0, .q 1, .q 2, .q 5, .q 6, .q 7, .n 3, .q 4, .n 8, .q 9, .q 10, .q 11], [])
  | 7 => ([.q 0, .q 1, .q 2, .q 3, .q 4, .q 5, .q 6, .q 7, .q 8, .q 9, .q 13, .q 14, .n 10, .q 11, .q 12, .n 15, .q 16, .q 17, .q 18, .q 19], [])
  | _ => ([], [])
def sb16 : Nat → Option (List Nat × Bool × SB)
  | _ => none
def sc17 : Nat → List SI × List Nat
  | _ => ([], [])
def sb17 : Nat → Option (List Nat × Bool × SB)
  | _ => none
def sc18 : Nat → List SI × List Nat
  | _ => ([], [])
def sb18 : Nat → Option (List Nat × Bool × SB)
  | _ => none
def sc19 : Nat → List SI × List Nat
  | _ => ([], [])
def sb19 : Nat → Option (List Nat × Bool × SB)
  | _ => none
def sc20 : Nat → List SI × List Nat
  | _ => ([], [])
def sb20 : Nat → Option (List Nat × Bool × SB)
  | _ => none
def sc21 : Nat → List SI × List Nat
  | _ => ([], [])
def sb21 : Nat → Option (List Nat × Bool × SB)
  | _ => none
def sc22 : Nat → List SI × List Nat
  | 1 => ([.q 0, .q 1, .q 2, .q 3, .q 4, .q 7, .q 8, .q 9, .q 10, .q 11, .q 15, .q 16, .q 17, .q 18, .q 19, .n 5, .q 6, .n 12, .q 13, .q 14, .n 20, .q 21, .q 22], [])
  | _ => ([], [])
def sb22 : Nat → Option (List Nat × Bool × SB)
  | _ => none
def sc23 : Nat → List SI × List Nat
  | _ => ([], [])
def sb23 : Nat → Option (List Nat × Bool × SB)
  | _ => none
def sc24 : Nat → List SI × List Nat
  | _ => ([], [])
def sb24 : Nat → Option (List Nat × Bool × SB)
  | _ => none
def sc25 : Nat → List SI × List Nat
  | _ => ([], [])
def sb25 : Nat → Option (List Nat × Bool × SB)
  | _ => none
def sc26 : Nat → List SI × List Nat
  | 1 => ([.q 0, .q 1, .q 2, .q 3, .q 6, .q 7, .q 8, .q 9, .q 13, .q 14, .q 15, .q 16, .q 20, .q 21, .q 22, .q 23, .n 4, .q 5, .n 10, .q 11, .q 12, .n 17, .q 18, .q 19, .n 24, .q 25, .q 26], [])
  | _ => ([], [])
def sb26 : Nat → Option (List Nat × Bool × SB)
  | _ => none
def sc27 : Nat → List SI × List Nat
  | _ => ([], [])
def sb27 : Nat → Option (List Nat × Bool × SB)
  | _ => none
def sc29 : Nat → List SI × List Nat
  | _ => ([], [])
def sb29 : Nat → Option (List Nat × Bool × SB)
  | _ => none
def sc30 : Nat → List SI × List Nat
  | _ => ([], [])
def sb30 : Nat → Option (List Nat × Bool × SB)
  | _ => none
def sc31 : Nat → List SI × List Nat
  | _ => ([], [])
def sb31 : Nat → Option (List Nat × Bool × SB)
  | _ => none
def sc32 : Nat → List SI × List Nat
  | 1 => ([.q 0, .q 1, .q 2, .q 3, .q 4, .q 7, .q 8, .q 9, .q 10, .q 11, .n 5, .q 6, .n 12, .q 13, .q 14, .q 15], [])
  | 7 => ([.q 0, .q 1, .q 2, .q 3, .q 4, .q 5, .q 6, .q 7, .q 8, .q 9, .q 10, .q 14, .q 15, .n 11, .q 12, .q 13, .n 16, .q 17, .q 18, .q 19, .q 20], [])
  | _ => ([], [])
def sb32 : Nat → Option (List Nat × Bool × SB)
  | _ => none
def sc33 : Nat → List SI × List Nat
  | _ => ([], [])
def sb33 : Nat → Option (List Nat × Bool × SB)
  | _ => none
def sc34 : Nat → List SI × List Nat
  | _ => ([], [])
def sb34 : Nat → Option (List Nat × Bool × SB)
  | _ => none
def sc35 : Nat → List SI × List Nat
  | _ => ([], [])
def sb35 : Nat → Option (List Nat × Bool × SB)
  | _ => none
def sc36 : Nat → List SI × List Nat
  | 6 => ([.q 0, .q 1, .q 2, .q 3, .q 4, .q 5, .q 6, .q 7, .n 8, .q 9], [])
  | _ => ([], [])
def sb36 : Nat → Option (List Nat × Bool × SB)
  | _ => none
def sc37 : Nat → List SI × List Nat
  | _ => ([], [])
def sb37 : Nat → Option (List Nat × Bool × SB)
  | _ => none
def sc38 : Nat → List SI × List Nat
  | _ => ([], [])
def sb38 : Nat → Option (List Nat × Bool × SB)
  | _ => none
def sc40 : Nat → List SI × List Nat
  | _ => ([], [])
def sb40 : Nat → Option (List Nat × Bool × SB)
  | _ => none
def sc41 : Nat → List SI × List Nat
  | _ => ([], [])
def sb41 : Nat → Option (List Nat × Bool × SB)
  | _ => none
def sc42 : Nat → List SI × List Nat
  | _ => ([], [])
def sb42 : Nat → Option (List Nat × Bool × SB)
  | _ => none
def sc43 : Nat → List SI × List Nat
  | _ => ([], [])
def sb43 : Nat → Option (List Nat × Bool × SB)
  | _ => none
def sc44 : Nat → List SI × List Nat
  | _ => ([], [])
def sb44 : Nat → Option (List Nat × Bool × SB)
  | _ => none
def sc45 : Nat → List SI × List Nat
  | 2 => ([.q 0, .q 1, .q 3, .q 4, .q 5, .q 6, .e 2, .n 7, .q 8, .q 9, .q 10], [])
  | _ => ([], [])
def sb45 : Nat → Option (List Nat × Bool × SB)
  | _ => none
def sc46 : Nat → List SI × List Nat
  | _ => ([], [])
def sb46 : Nat → Option (List Nat × Bool × SB)
  | _ => none
def sc47 : Nat → List SI × List Nat
  | _ => ([], [])
def sb47 : Nat → Option (List Nat × Bool × SB)
  | _ => none
def sc48 : Nat → List SI × List Nat
  | _ => ([], [])
def sb48 : Nat → Option (List Nat × Bool × SB)
  | _ => none
def sc49 : Nat → List SI × List Nat
  | _ => ([], [])
def sb49 : Nat → Option (List Nat × Bool × SB)
  | _ => none
def sc50 : Nat → List SI × List Nat
  | _ => ([], [])
def sb50 : Nat → Option (List Nat × Bool × SB)
  | _ => none
def sc55 : Nat → List SI × List Nat
  | _ => ([], [])
def sb55 : Nat → Option (List Nat × Bool × SB)
  | _ => none
def sc57 : Nat → List SI × List Nat
  | _ => ([], [])
def sb57 : Nat → Option (List Nat × Bool × SB)
  | _ => none
def sc58 : Nat → List SI × List Nat
  | _ => ([], [])
def sb58 : Nat → Option (List Nat × Bool × SB)
  | _ => none
def sc59 : Nat → List SI × List Nat
  | 1 => ([.q 0, .q 1, .q 2, .q 3, .q 4, .q 5, .q 6, .q 7, .q 8, .q 9, .q 10, .q 11, .q 12, .q 13, .q 14, .q 15, .q 16, .q 17, .q 18, .n 19, .q 20, .q 21, .q 22, .q 23, .q 24, .n 25, .q 26, .q 27], [])
  | _ => ([], [])
def sb59 : Nat → Option (List Nat × Bool × SB)
  | _ => none
def sc61 : Nat → List SI × List Nat
  | _ => ([], [])
def sb61 : Nat → Option (List Nat × Bool × SB)
  | _ => none
def sc63 : Nat → List SI × List Nat
  | _ => ([], [])
def sb63 : Nat → Option (List Nat × Bool × SB)
  | _ => none
def sc65 : Nat → List SI × List Nat
  | _ => ([], [])
def sb65 : Nat → Option (List Nat × Bool × SB)
  | _ => none
def sc68 : Nat → List SI × List Nat
  | _ => ([], [])
def sb68 : Nat → Option (List Nat × Bool × SB)
  | _ => none
def sc72 : Nat → List SI × List Nat
  | _ => ([], [])
def sb72 : Nat → Option (List Nat × Bool × SB)
  | _ => none
def sc73 : Nat → List SI × List Nat
  | _ => ([], [])
def sb73 : Nat → Option (List Nat × Bool × SB)
  | _ => none
def sc74 : Nat → List SI × List Nat
  | _ => ([], [])
def sb74 : Nat → Option (List Nat × Bool × SB)
  | _ => none
def sc75 : Nat → List SI × List Nat
  | _ => ([], [])
def sb75 : Nat → Option (List Nat × Bool × SB)
  | _ => none
def sc80 : Nat → List SI × List Nat
  | _ => ([], [])
def sb80 : Nat → Option (List Nat × Bool × SB)
  | _ => none
def sc87 : Nat → List SI × List Nat
  | _ => ([], [])
def sb87 : Nat → Option (List Nat × Bool × SB)
  | _ => none
def sc95 : Nat → List SI × List Nat
  | _ => ([], [])
def sb95 : Nat → Option (List Nat × Bool × SB)
  | _ => none
def sc104 : Nat → List SI × List Nat
  | _ => ([], [])
def sb104 : Nat → Option (List Nat × Bool × SB)
  | _ => none
def sc134 : Nat → List SI × List Nat
  | _ => ([], [])
def sb134 : Nat → Option (List Nat × Bool × SB)
  | _ => none
def sc140 : Nat → List SI × List Nat
  | _ => ([], [])
def sb140 : Nat → Option (List Nat × Bool × SB)
  | _ => none
end Go.Proofs.YtpcnpmhpelbndaaDoor.Vx

namespace Go.Proofs.YtpcnpmhpelbndaaDoor.Vx
open Go Go.RowKit Fl
attribute [go_sem] env0 SV.ren renL SV.one SV.known rget rset NN hget hset bput TK.agg look ofVal ev evL put binI binF binB binS binFV eqIs aggR aeqR nilEq arrEq binR fneg unR widR convR allKnown shf mapF sub ldR fieldR rw1 arrP indexR nilR updR updW updC updA stOne splice allF unF stAgg stR boxR allB allocR rowOf rowsOf nthR noRow buildSR zRow constRow makeR lenR capR minR maxR extrR partR fldR btAt idxR slRow bnd slcN slcR strSl arrSl strC shR catR flatR srcR appR cellsL bFill fsOk constF buildR inL idx lget distinct SV.lin linL locH locOk1 locOk unl newB mrg evP knownL eqTN isBoolT isSlcT isStrT lenRT cvR cvS isArrT biR evO sliR sliA sliT sliS eqaN nnS opR SV.labs labsL ins clo reach allLt upto roL dropB CallX isPre dropTo hasBlk dstOf pickL SI.i slotsL keepB kpR kpB ofB isOwnB ofL SI.md resL resV RetG wr_i8 wr_i16 wr_i32 wr_i64 wr_u8 wr_u16 wr_u32 wr_u64 bk_ro_lit bk_ro_rows bk_ro_cells bk_ro_dead bk_dead_lit bk_dead_rows bk_dead_cells bk_dead_dead bk_labs_lit bk_labs_rows bk_labs_cells bk_labs_dead bk_lin_lit bk_lin_rows bk_lin_cells bk_lin_dead bk_ren_lit bk_ren_rows bk_ren_cells bk_ren_dead ldo_lit ldo_rows ldo_cells lda_lit lda_rows lda_cells run_nil run_it it_code it_ops0 it_ops it_drw0 it_drw stDr_some it_g stGg_none stGg_some stGs_some stGv_t stGv_f stGv_no it_skp it_op it_blk it_inv co_skip co_seq co_cond stCnd_b co_block co_exit stEx_t co_ret co_loop co_reg0 co_reg1 co_rg0 co_rg1 co_rb0 co_rb1 op_or op_app op_wid or_val or_pick or_new or_upd or_call0 or_call3 or_call2 ap_slc ap_nil fin_some co_bnil co_bg0 co_bg1 co_bg2 co_gvt co_gvf co_gvs co_gms co_gm0 co_gm1 co_om co_bq co_be co_bn co_bf co_qv co_qp co_qw co_ec co_kr co_nv co_np co_nn co_nu co_nc co_na co_nw co_as co_is co_in co_an Int.toNat_natCast bne_self_eq_false beq_self_eq_true Int.toNat_zero Option.isSome_some Bool.and_self shf_zero List.take_succ_cons List.take_zero List.take_nil List.drop_succ_cons List.drop_nil List.length_cons List.length_nil List.cons_append List.nil_append List.append_nil Nat.add_zero Nat.zero_add Nat.mul_one decide_true decide_false Bool.true_and Bool.and_true true_and and_true eq_self ne_eq not_false_eq_true not_true_eq_false Br_tr Br_fa Option.some.injEq Nat.lt_add_one Bool.not_true Bool.not_false Bool.or_false Bool.false_or Bool.or_true Bool.true_or List.drop_zero or_true true_or or_false false_or List.toList_toArray List.setIfInBounds_toArray List.size_toArray tab ti2 ti3 ti4 ti5 ti9 ti21 ti22 ti23 ti25 ti27 ti30 ti32 ti34 ti37 ti39 ti42 ti44 ti63 ti72 ti75 ti82 ti85 ti87 ti88 ti90 ti97 ti100 ti104 ti112 ti113 ti127 ti147 ti148 ti156 ti158 ti159 ti163 ti164 ti165
end Go.Proofs.YtpcnpmhpelbndaaDoor.Vx
