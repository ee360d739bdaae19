/- Facts on the types of the translation: each is checked by the kernel. -/
import Derived.Test.YtababmnmkmgbbaaGreatKFw1
import Derived.Test.YtababmnmkmgbbaaGreatKFw2
import Derived.Test.YtababmnmkmgbbaaGreatKFw3
import Derived.Test.YtababmnmkmgbbaaGreatProg
import Derived.KernelRfl
set_option maxRecDepth 100000
namespace Go.Proofs.YtababmnmkmgbbaaGreat
open Go Fw
@[go_sem] theorem ty_sz1 : tsz Tryz.prog 1 = some 1 := by kernel_rfl
@[go_sem] theorem ty_agg1 : tagg Tryz.prog 1 = some false := by kernel_rfl
@[go_sem] theorem ty_zero1 : tzero Tryz.prog 1 = some [.con .nilFunc] := by kernel_rfl
@[go_sem] theorem ty_sz2 : tsz Tryz.prog 2 = some 1 := by kernel_rfl
@[go_sem] theorem ty_agg2 : tagg Tryz.prog 2 = some false := by kernel_rfl
@[go_sem] theorem ty_zero2 : tzero Tryz.prog 2 = some [.con (.int .i64 0)] := by kernel_rfl
@[go_sem] theorem ty_kind2 : tkind Tryz.prog 2 = 3 := by kernel_rfl
@[go_sem] theorem ty_int2 : tint Tryz.prog 2 = some .i64 := by kernel_rfl
@[go_sem] theorem ty_sz3 : tsz Tryz.prog 3 = some 1 := by kernel_rfl
@[go_sem] theorem ty_agg3 : tagg Tryz.prog 3 = some false := by kernel_rfl
@[go_sem] theorem ty_zero3 : tzero Tryz.prog 3 = some [.con (.int .i64 0)] := by kernel_rfl
@[go_sem] theorem ty_zv3 : tzV Tryz.prog 3 = some (.con (.int .i64 0)) := by kernel_rfl
@[go_sem] theorem ty_kind3 : tkind Tryz.prog 3 = 3 := by kernel_rfl
@[go_sem] theorem ty_int3 : tint Tryz.prog 3 = some .i64 := by kernel_rfl
@[go_sem] theorem ty_sz4 : tsz Tryz.prog 4 = some 1 := by kernel_rfl
@[go_sem] theorem ty_agg4 : tagg Tryz.prog 4 = some false := by kernel_rfl
@[go_sem] theorem ty_zero4 : tzero Tryz.prog 4 = some [.con (.bool false)] := by kernel_rfl
@[go_sem] theorem ty_zv4 : tzV Tryz.prog 4 = some (.con (.bool false)) := by kernel_rfl
@[go_sem] theorem ty_kind4 : tkind Tryz.prog 4 = 1 := by kernel_rfl
@[go_sem] theorem ty_sz5 : tsz Tryz.prog 5 = some 1 := by kernel_rfl
@[go_sem] theorem ty_agg5 : tagg Tryz.prog 5 = some false := by kernel_rfl
@[go_sem] theorem ty_zero5 : tzero Tryz.prog 5 = some [.con (.int .u8 0)] := by kernel_rfl
@[go_sem] theorem ty_kind5 : tkind Tryz.prog 5 = 3 := by kernel_rfl
@[go_sem] theorem ty_bz5 : ((Tryz.prog.info? 5).bind fun x => x.zero) = some (.int .u8 0) := by kernel_rfl
@[go_sem] theorem ty_int5 : tint Tryz.prog 5 = some .u8 := by kernel_rfl
@[go_sem] theorem ty_kind6 : tkind Tryz.prog 6 = 3 := by kernel_rfl
@[go_sem] theorem ty_int6 : tint Tryz.prog 6 = some .u8 := by kernel_rfl
@[go_sem] theorem ty_kind7 : tkind Tryz.prog 7 = 5 := by kernel_rfl
@[go_sem] theorem ty_flds7 : tflds Tryz.prog 7 = true := by kernel_rfl
@[go_sem] theorem ty_fld7_0 : tfld Tryz.prog 7 0 = some (0, 2, 1) := by kernel_rfl
@[go_sem] theorem ty_pl7_0 : places Tryz.prog 7 0 = some (0, 1) := by kernel_rfl
@[go_sem] theorem ty_fld7_1 : tfld Tryz.prog 7 1 = some (1, 3, 1) := by kernel_rfl
@[go_sem] theorem ty_pl7_1 : places Tryz.prog 7 1 = some (1, 1) := by kernel_rfl
@[go_sem] theorem ty_fld7_2 : tfld Tryz.prog 7 2 = some (2, 4, 1) := by kernel_rfl
@[go_sem] theorem ty_pl7_2 : places Tryz.prog 7 2 = some (2, 1) := by kernel_rfl
@[go_sem] theorem ty_fld7_3 : tfld Tryz.prog 7 3 = some (3, 6, 1) := by kernel_rfl
@[go_sem] theorem ty_pl7_3 : places Tryz.prog 7 3 = some (3, 1) := by kernel_rfl
@[go_sem] theorem ty_kind8 : tkind Tryz.prog 8 = 5 := by kernel_rfl
@[go_sem] theorem ty_flds8 : tflds Tryz.prog 8 = true := by kernel_rfl
@[go_sem] theorem ty_fld8_0 : tfld Tryz.prog 8 0 = some (0, 2, 1) := by kernel_rfl
@[go_sem] theorem ty_pl8_0 : places Tryz.prog 8 0 = some (0, 1) := by kernel_rfl
@[go_sem] theorem ty_fld8_1 : tfld Tryz.prog 8 1 = some (1, 3, 1) := by kernel_rfl
@[go_sem] theorem ty_pl8_1 : places Tryz.prog 8 1 = some (1, 1) := by kernel_rfl
@[go_sem] theorem ty_fld8_2 : tfld Tryz.prog 8 2 = some (2, 4, 1) := by kernel_rfl
@[go_sem] theorem ty_pl8_2 : places Tryz.prog 8 2 = some (2, 1) := by kernel_rfl
@[go_sem] theorem ty_fld8_3 : tfld Tryz.prog 8 3 = some (3, 6, 1) := by kernel_rfl
@[go_sem] theorem ty_pl8_3 : places Tryz.prog 8 3 = some (3, 1) := by kernel_rfl
@[go_sem] theorem ty_sz9 : tsz Tryz.prog 9 = some 1 := by kernel_rfl
@[go_sem] theorem ty_agg9 : tagg Tryz.prog 9 = some false := by kernel_rfl
@[go_sem] theorem ty_zero9 : tzero Tryz.prog 9 = some [.con (.string ⟨#[]⟩)] := by kernel_rfl
@[go_sem] theorem ty_kind9 : tkind Tryz.prog 9 = 2 := by kernel_rfl
@[go_sem] theorem ty_kind10 : tkind Tryz.prog 10 = 2 := by kernel_rfl
@[go_sem] theorem ty_kind11 : tkind Tryz.prog 11 = 2 := by kernel_rfl
@[go_sem] theorem ty_kind12 : tkind Tryz.prog 12 = 3 := by kernel_rfl
@[go_sem] theorem ty_int12 : tint Tryz.prog 12 = some .u64 := by kernel_rfl
@[go_sem] theorem ty_kind13 : tkind Tryz.prog 13 = 5 := by kernel_rfl
@[go_sem] theorem ty_flds13 : tflds Tryz.prog 13 = true := by kernel_rfl
@[go_sem] theorem ty_fld13_0 : tfld Tryz.prog 13 0 = some (0, 9, 1) := by kernel_rfl
@[go_sem] theorem ty_pl13_0 : places Tryz.prog 13 0 = some (0, 1) := by kernel_rfl
@[go_sem] theorem ty_fld13_1 : tfld Tryz.prog 13 1 = some (1, 12, 1) := by kernel_rfl
@[go_sem] theorem ty_pl13_1 : places Tryz.prog 13 1 = some (1, 1) := by kernel_rfl
@[go_sem] theorem ty_kind14 : tkind Tryz.prog 14 = 5 := by kernel_rfl
@[go_sem] theorem ty_flds14 : tflds Tryz.prog 14 = true := by kernel_rfl
@[go_sem] theorem ty_fld14_0 : tfld Tryz.prog 14 0 = some (0, 9, 1) := by kernel_rfl
@[go_sem] theorem ty_pl14_0 : places Tryz.prog 14 0 = some (0, 1) := by kernel_rfl
@[go_sem] theorem ty_fld14_1 : tfld Tryz.prog 14 1 = some (1, 12, 1) := by kernel_rfl
@[go_sem] theorem ty_pl14_1 : places Tryz.prog 14 1 = some (1, 1) := by kernel_rfl
@[go_sem] theorem ty_kind15 : tkind Tryz.prog 15 = 6 := by kernel_rfl
@[go_sem] theorem ty_kind16 : tkind Tryz.prog 16 = 6 := by kernel_rfl
@[go_sem] theorem ty_kind17 : tkind Tryz.prog 17 = 6 := by kernel_rfl
@[go_sem] theorem ty_kind18 : tkind Tryz.prog 18 = 5 := by kernel_rfl
@[go_sem] theorem ty_flds18 : tflds Tryz.prog 18 = true := by kernel_rfl
@[go_sem] theorem ty_fld18_0 : tfld Tryz.prog 18 0 = some (0, 17, 1) := by kernel_rfl
@[go_sem] theorem ty_pl18_0 : places Tryz.prog 18 0 = some (0, 1) := by kernel_rfl
@[go_sem] theorem ty_kind19 : tkind Tryz.prog 19 = 5 := by kernel_rfl
@[go_sem] theorem ty_flds19 : tflds Tryz.prog 19 = true := by kernel_rfl
@[go_sem] theorem ty_fld19_0 : tfld Tryz.prog 19 0 = some (0, 17, 1) := by kernel_rfl
@[go_sem] theorem ty_pl19_0 : places Tryz.prog 19 0 = some (0, 1) := by kernel_rfl
@[go_sem] theorem ty_sz20 : tsz Tryz.prog 20 = some 1 := by kernel_rfl
@[go_sem] theorem ty_agg20 : tagg Tryz.prog 20 = some false := by kernel_rfl
@[go_sem] theorem ty_zero20 : tzero Tryz.prog 20 = some [.con .nilIface] := by kernel_rfl
@[go_sem] theorem ty_kind21 : tkind Tryz.prog 21 = 3 := by kernel_rfl
@[go_sem] theorem ty_int21 : tint Tryz.prog 21 = some .i32 := by kernel_rfl
@[go_sem] theorem ty_kind22 : tkind Tryz.prog 22 = 4 := by kernel_rfl
@[go_sem] theorem ty_elem22 : telem Tryz.prog 22 = some (103, 4, 88) := by kernel_rfl
@[go_sem] theorem ty_sz23 : tsz Tryz.prog 23 = some 1 := by kernel_rfl
@[go_sem] theorem ty_agg23 : tagg Tryz.prog 23 = some false := by kernel_rfl
@[go_sem] theorem ty_zero23 : tzero Tryz.prog 23 = some [.con (.slice none 0 0)] := by kernel_rfl
@[go_sem] theorem ty_kind23 : tkind Tryz.prog 23 = 4 := by kernel_rfl
@[go_sem] theorem ty_elem23 : telem Tryz.prog 23 = some (103, 4, 88) := by kernel_rfl
@[go_sem] theorem ty_kind24 : tkind Tryz.prog 24 = 4 := by kernel_rfl
@[go_sem] theorem ty_elem24 : telem Tryz.prog 24 = some (168, 2, 40) := by kernel_rfl
@[go_sem] theorem ty_kind25 : tkind Tryz.prog 25 = 4 := by kernel_rfl
@[go_sem] theorem ty_elem25 : telem Tryz.prog 25 = some (40, 2, 24) := by kernel_rfl
@[go_sem] theorem ty_sz26 : tsz Tryz.prog 26 = some 1 := by kernel_rfl
@[go_sem] theorem ty_agg26 : tagg Tryz.prog 26 = some false := by kernel_rfl
@[go_sem] theorem ty_zero26 : tzero Tryz.prog 26 = some [.con (.int .i64 0)] := by kernel_rfl
@[go_sem] theorem ty_kind26 : tkind Tryz.prog 26 = 3 := by kernel_rfl
@[go_sem] theorem ty_int26 : tint Tryz.prog 26 = some .i64 := by kernel_rfl
@[go_sem] theorem ty_kind28 : tkind Tryz.prog 28 = 4 := by kernel_rfl
@[go_sem] theorem ty_elem28 : telem Tryz.prog 28 = some (41, 4, 48) := by kernel_rfl
@[go_sem] theorem ty_kind34 : tkind Tryz.prog 34 = 4 := by kernel_rfl
@[go_sem] theorem ty_elem34 : telem Tryz.prog 34 = some (25, 1, 24) := by kernel_rfl
@[go_sem] theorem ty_kind39 : tkind Tryz.prog 39 = 5 := by kernel_rfl
@[go_sem] theorem ty_flds39 : tflds Tryz.prog 39 = true := by kernel_rfl
@[go_sem] theorem ty_fld39_0 : tfld Tryz.prog 39 0 = some (0, 9, 1) := by kernel_rfl
@[go_sem] theorem ty_pl39_0 : places Tryz.prog 39 0 = some (0, 1) := by kernel_rfl
@[go_sem] theorem ty_fld39_1 : tfld Tryz.prog 39 1 = some (1, 3, 1) := by kernel_rfl
@[go_sem] theorem ty_pl39_1 : places Tryz.prog 39 1 = some (1, 1) := by kernel_rfl
@[go_sem] theorem ty_kind40 : tkind Tryz.prog 40 = 5 := by kernel_rfl
@[go_sem] theorem ty_flds40 : tflds Tryz.prog 40 = true := by kernel_rfl
@[go_sem] theorem ty_fld40_0 : tfld Tryz.prog 40 0 = some (0, 9, 1) := by kernel_rfl
@[go_sem] theorem ty_pl40_0 : places Tryz.prog 40 0 = some (0, 1) := by kernel_rfl
@[go_sem] theorem ty_fld40_1 : tfld Tryz.prog 40 1 = some (1, 3, 1) := by kernel_rfl
@[go_sem] theorem ty_pl40_1 : places Tryz.prog 40 1 = some (1, 1) := by kernel_rfl
@[go_sem] theorem ty_arr41 : tarr Tryz.prog 41 = some (2, 2) := by kernel_rfl
@[go_sem] theorem ty_flds41 : tflds Tryz.prog 41 = true := by kernel_rfl
@[go_sem] theorem ty_pl41_0 : places Tryz.prog 41 0 = some (0, 2) := by kernel_rfl
@[go_sem] theorem ty_pl41_1 : places Tryz.prog 41 1 = some (2, 2) := by kernel_rfl
@[go_sem] theorem ty_kind43 : tkind Tryz.prog 43 = 4 := by kernel_rfl
@[go_sem] theorem ty_elem43 : telem Tryz.prog 43 = some (23, 1, 24) := by kernel_rfl
@[go_sem] theorem ty_sz51 : tsz Tryz.prog 51 = some 1 := by kernel_rfl
@[go_sem] theorem ty_agg51 : tagg Tryz.prog 51 = some false := by kernel_rfl
@[go_sem] theorem ty_zero51 : tzero Tryz.prog 51 = some [.con (.slice none 0 0)] := by kernel_rfl
@[go_sem] theorem ty_kind51 : tkind Tryz.prog 51 = 4 := by kernel_rfl
@[go_sem] theorem ty_elem51 : telem Tryz.prog 51 = some (197, 6, 72) := by kernel_rfl
@[go_sem] theorem ty_sz52 : tsz Tryz.prog 52 = some 1 := by kernel_rfl
@[go_sem] theorem ty_agg52 : tagg Tryz.prog 52 = some false := by kernel_rfl
@[go_sem] theorem ty_zero52 : tzero Tryz.prog 52 = some [.con (.slice none 0 0)] := by kernel_rfl
@[go_sem] theorem ty_kind52 : tkind Tryz.prog 52 = 4 := by kernel_rfl
@[go_sem] theorem ty_elem52 : telem Tryz.prog 52 = some (194, 2, 40) := by kernel_rfl
@[go_sem] theorem ty_kind53 : tkind Tryz.prog 53 = 5 := by kernel_rfl
@[go_sem] theorem ty_flds53 : tflds Tryz.prog 53 = true := by kernel_rfl
@[go_sem] theorem ty_fld53_0 : tfld Tryz.prog 53 0 = some (0, 51, 1) := by kernel_rfl
@[go_sem] theorem ty_pl53_0 : places Tryz.prog 53 0 = some (0, 1) := by kernel_rfl
@[go_sem] theorem ty_fld53_1 : tfld Tryz.prog 53 1 = some (1, 52, 1) := by kernel_rfl
@[go_sem] theorem ty_pl53_1 : places Tryz.prog 53 1 = some (1, 1) := by kernel_rfl
@[go_sem] theorem ty_sz54 : tsz Tryz.prog 54 = some 2 := by kernel_rfl
@[go_sem] theorem ty_agg54 : tagg Tryz.prog 54 = some true := by kernel_rfl
@[go_sem] theorem ty_zero54 : tzero Tryz.prog 54 = some [.con (.slice none 0 0), .con (.slice none 0 0)] := by kernel_rfl
@[go_sem] theorem ty_kind54 : tkind Tryz.prog 54 = 5 := by kernel_rfl
@[go_sem] theorem ty_flds54 : tflds Tryz.prog 54 = true := by kernel_rfl
@[go_sem] theorem ty_fld54_0 : tfld Tryz.prog 54 0 = some (0, 51, 1) := by kernel_rfl
@[go_sem] theorem ty_pl54_0 : places Tryz.prog 54 0 = some (0, 1) := by kernel_rfl
@[go_sem] theorem ty_fld54_1 : tfld Tryz.prog 54 1 = some (1, 52, 1) := by kernel_rfl
@[go_sem] theorem ty_pl54_1 : places Tryz.prog 54 1 = some (1, 1) := by kernel_rfl
@[go_sem] theorem ty_sz55 : tsz Tryz.prog 55 = some 1 := by kernel_rfl
@[go_sem] theorem ty_agg55 : tagg Tryz.prog 55 = some false := by kernel_rfl
@[go_sem] theorem ty_zero55 : tzero Tryz.prog 55 = some [.con (.slice none 0 0)] := by kernel_rfl
@[go_sem] theorem ty_kind55 : tkind Tryz.prog 55 = 4 := by kernel_rfl
@[go_sem] theorem ty_elem55 : telem Tryz.prog 55 = some (3, 1, 8) := by kernel_rfl
@[go_sem] theorem ty_sz58 : tsz Tryz.prog 58 = some 1 := by kernel_rfl
@[go_sem] theorem ty_agg58 : tagg Tryz.prog 58 = some false := by kernel_rfl
@[go_sem] theorem ty_zero58 : tzero Tryz.prog 58 = some [.con (.map none)] := by kernel_rfl
@[go_sem] theorem ty_map58 : tmap Tryz.prog 58 = some (3, 3) := by kernel_rfl
@[go_sem] theorem ty_sz70 : tsz Tryz.prog 70 = some 1 := by kernel_rfl
@[go_sem] theorem ty_agg70 : tagg Tryz.prog 70 = some false := by kernel_rfl
@[go_sem] theorem ty_zero70 : tzero Tryz.prog 70 = some [.con (.slice none 0 0)] := by kernel_rfl
@[go_sem] theorem ty_kind70 : tkind Tryz.prog 70 = 4 := by kernel_rfl
@[go_sem] theorem ty_elem70 : telem Tryz.prog 70 = some (80, 1, 24) := by kernel_rfl
@[go_sem] theorem ty_sz73 : tsz Tryz.prog 73 = some 1 := by kernel_rfl
@[go_sem] theorem ty_agg73 : tagg Tryz.prog 73 = some false := by kernel_rfl
@[go_sem] theorem ty_zero73 : tzero Tryz.prog 73 = some [.con (.slice none 0 0)] := by kernel_rfl
@[go_sem] theorem ty_kind73 : tkind Tryz.prog 73 = 4 := by kernel_rfl
@[go_sem] theorem ty_elem73 : telem Tryz.prog 73 = some (80, 1, 24) := by kernel_rfl
@[go_sem] theorem ty_sz77 : tsz Tryz.prog 77 = some 1 := by kernel_rfl
@[go_sem] theorem ty_agg77 : tagg Tryz.prog 77 = some false := by kernel_rfl
@[go_sem] theorem ty_zero77 : tzero Tryz.prog 77 = some [.con (.slice none 0 0)] := by kernel_rfl
@[go_sem] theorem ty_kind77 : tkind Tryz.prog 77 = 4 := by kernel_rfl
@[go_sem] theorem ty_elem77 : telem Tryz.prog 77 = some (81, 1, 24) := by kernel_rfl
@[go_sem] theorem ty_sz80 : tsz Tryz.prog 80 = some 1 := by kernel_rfl
@[go_sem] theorem ty_agg80 : tagg Tryz.prog 80 = some false := by kernel_rfl
@[go_sem] theorem ty_zero80 : tzero Tryz.prog 80 = some [.con (.slice none 0 0)] := by kernel_rfl
@[go_sem] theorem ty_kind80 : tkind Tryz.prog 80 = 4 := by kernel_rfl
@[go_sem] theorem ty_elem80 : telem Tryz.prog 80 = some (92, 4, 56) := by kernel_rfl
@[go_sem] theorem ty_sz81 : tsz Tryz.prog 81 = some 1 := by kernel_rfl
@[go_sem] theorem ty_agg81 : tagg Tryz.prog 81 = some false := by kernel_rfl
@[go_sem] theorem ty_zero81 : tzero Tryz.prog 81 = some [.con (.slice none 0 0)] := by kernel_rfl
@[go_sem] theorem ty_kind81 : tkind Tryz.prog 81 = 4 := by kernel_rfl
@[go_sem] theorem ty_elem81 : telem Tryz.prog 81 = some (92, 4, 56) := by kernel_rfl
@[go_sem] theorem ty_sz83 : tsz Tryz.prog 83 = some 1 := by kernel_rfl
@[go_sem] theorem ty_agg83 : tagg Tryz.prog 83 = some false := by kernel_rfl
@[go_sem] theorem ty_zero83 : tzero Tryz.prog 83 = some [.con (.slice none 0 0)] := by kernel_rfl
@[go_sem] theorem ty_kind83 : tkind Tryz.prog 83 = 4 := by kernel_rfl
@[go_sem] theorem ty_elem83 : telem Tryz.prog 83 = some (87, 1, 8) := by kernel_rfl
@[go_sem] theorem ty_map86 : tmap Tryz.prog 86 = some (3, 92) := by kernel_rfl
@[go_sem] theorem ty_sz87 : tsz Tryz.prog 87 = some 1 := by kernel_rfl
@[go_sem] theorem ty_agg87 : tagg Tryz.prog 87 = some false := by kernel_rfl
@[go_sem] theorem ty_zero87 : tzero Tryz.prog 87 = some [.con (.map none)] := by kernel_rfl
@[go_sem] theorem ty_map87 : tmap Tryz.prog 87 = some (3, 92) := by kernel_rfl
@[go_sem] theorem ty_sz90 : tsz Tryz.prog 90 = some 1 := by kernel_rfl
@[go_sem] theorem ty_agg90 : tagg Tryz.prog 90 = some false := by kernel_rfl
@[go_sem] theorem ty_zero90 : tzero Tryz.prog 90 = some [.con (.slice none 0 0)] := by kernel_rfl
@[go_sem] theorem ty_kind90 : tkind Tryz.prog 90 = 4 := by kernel_rfl
@[go_sem] theorem ty_elem90 : telem Tryz.prog 90 = some (274, 5, 72) := by kernel_rfl
@[go_sem] theorem ty_kind91 : tkind Tryz.prog 91 = 5 := by kernel_rfl
@[go_sem] theorem ty_flds91 : tflds Tryz.prog 91 = true := by kernel_rfl
@[go_sem] theorem ty_fld91_0 : tfld Tryz.prog 91 0 = some (0, 3, 1) := by kernel_rfl
@[go_sem] theorem ty_pl91_0 : places Tryz.prog 91 0 = some (0, 1) := by kernel_rfl
@[go_sem] theorem ty_fld91_1 : tfld Tryz.prog 91 1 = some (1, 3, 1) := by kernel_rfl
@[go_sem] theorem ty_pl91_1 : places Tryz.prog 91 1 = some (1, 1) := by kernel_rfl
@[go_sem] theorem ty_fld91_2 : tfld Tryz.prog 91 2 = some (2, 9, 1) := by kernel_rfl
@[go_sem] theorem ty_pl91_2 : places Tryz.prog 91 2 = some (2, 1) := by kernel_rfl
@[go_sem] theorem ty_fld91_3 : tfld Tryz.prog 91 3 = some (3, 90, 1) := by kernel_rfl
@[go_sem] theorem ty_pl91_3 : places Tryz.prog 91 3 = some (3, 1) := by kernel_rfl
@[go_sem] theorem ty_sz92 : tsz Tryz.prog 92 = some 4 := by kernel_rfl
@[go_sem] theorem ty_agg92 : tagg Tryz.prog 92 = some true := by kernel_rfl
@[go_sem] theorem ty_zero92 : tzero Tryz.prog 92 = some [.con (.int .i64 0), .con (.int .i64 0), .con (.string ⟨#[]⟩), .con (.slice none 0 0)] := by kernel_rfl
@[go_sem] theorem ty_zv92 : tzV Tryz.prog 92 = some (.agg [.con (.int .i64 0), .con (.int .i64 0), .con (.string ⟨#[]⟩), .con (.slice none 0 0)]) := by kernel_rfl
@[go_sem] theorem ty_kind92 : tkind Tryz.prog 92 = 5 := by kernel_rfl
@[go_sem] theorem ty_flds92 : tflds Tryz.prog 92 = true := by kernel_rfl
@[go_sem] theorem ty_fld92_0 : tfld Tryz.prog 92 0 = some (0, 3, 1) := by kernel_rfl
@[go_sem] theorem ty_pl92_0 : places Tryz.prog 92 0 = some (0, 1) := by kernel_rfl
@[go_sem] theorem ty_fld92_1 : tfld Tryz.prog 92 1 = some (1, 3, 1) := by kernel_rfl
@[go_sem] theorem ty_pl92_1 : places Tryz.prog 92 1 = some (1, 1) := by kernel_rfl
@[go_sem] theorem ty_fld92_2 : tfld Tryz.prog 92 2 = some (2, 9, 1) := by kernel_rfl
@[go_sem] theorem ty_pl92_2 : places Tryz.prog 92 2 = some (2, 1) := by kernel_rfl
@[go_sem] theorem ty_fld92_3 : tfld Tryz.prog 92 3 = some (3, 90, 1) := by kernel_rfl
@[go_sem] theorem ty_pl92_3 : places Tryz.prog 92 3 = some (3, 1) := by kernel_rfl
@[go_sem] theorem ty_sz94 : tsz Tryz.prog 94 = some 1 := by kernel_rfl
@[go_sem] theorem ty_agg94 : tagg Tryz.prog 94 = some false := by kernel_rfl
@[go_sem] theorem ty_zero94 : tzero Tryz.prog 94 = some [.con .nilFunc] := by kernel_rfl
@[go_sem] theorem ty_kind98 : tkind Tryz.prog 98 = 4 := by kernel_rfl
@[go_sem] theorem ty_elem98 : telem Tryz.prog 98 = some (115, 5, 64) := by kernel_rfl
@[go_sem] theorem ty_sz100 : tsz Tryz.prog 100 = some 1 := by kernel_rfl
@[go_sem] theorem ty_agg100 : tagg Tryz.prog 100 = some false := by kernel_rfl
@[go_sem] theorem ty_zero100 : tzero Tryz.prog 100 = some [.con (.slice none 0 0)] := by kernel_rfl
@[go_sem] theorem ty_kind100 : tkind Tryz.prog 100 = 4 := by kernel_rfl
@[go_sem] theorem ty_elem100 : telem Tryz.prog 100 = some (106, 2, 24) := by kernel_rfl
@[go_sem] theorem ty_sz101 : tsz Tryz.prog 101 = some 1 := by kernel_rfl
@[go_sem] theorem ty_agg101 : tagg Tryz.prog 101 = some false := by kernel_rfl
@[go_sem] theorem ty_zero101 : tzero Tryz.prog 101 = some [.con (.slice none 0 0)] := by kernel_rfl
@[go_sem] theorem ty_kind101 : tkind Tryz.prog 101 = 4 := by kernel_rfl
@[go_sem] theorem ty_elem101 : telem Tryz.prog 101 = some (9, 1, 16) := by kernel_rfl
@[go_sem] theorem ty_kind102 : tkind Tryz.prog 102 = 5 := by kernel_rfl
@[go_sem] theorem ty_flds102 : tflds Tryz.prog 102 = true := by kernel_rfl
@[go_sem] theorem ty_fld102_0 : tfld Tryz.prog 102 0 = some (0, 9, 1) := by kernel_rfl
@[go_sem] theorem ty_pl102_0 : places Tryz.prog 102 0 = some (0, 1) := by kernel_rfl
@[go_sem] theorem ty_fld102_1 : tfld Tryz.prog 102 1 = some (1, 100, 1) := by kernel_rfl
@[go_sem] theorem ty_pl102_1 : places Tryz.prog 102 1 = some (1, 1) := by kernel_rfl
@[go_sem] theorem ty_fld102_2 : tfld Tryz.prog 102 2 = some (2, 101, 1) := by kernel_rfl
@[go_sem] theorem ty_pl102_2 : places Tryz.prog 102 2 = some (2, 1) := by kernel_rfl
@[go_sem] theorem ty_fld102_3 : tfld Tryz.prog 102 3 = some (3, 70, 1) := by kernel_rfl
@[go_sem] theorem ty_pl102_3 : places Tryz.prog 102 3 = some (3, 1) := by kernel_rfl
@[go_sem] theorem ty_sz103 : tsz Tryz.prog 103 = some 4 := by kernel_rfl
@[go_sem] theorem ty_agg103 : tagg Tryz.prog 103 = some true := by kernel_rfl
@[go_sem] theorem ty_zero103 : tzero Tryz.prog 103 = some [.con (.string ⟨#[]⟩), .con (.slice none 0 0), .con (.slice none 0 0), .con (.slice none 0 0)] := by kernel_rfl
@[go_sem] theorem ty_kind103 : tkind Tryz.prog 103 = 5 := by kernel_rfl
@[go_sem] theorem ty_flds103 : tflds Tryz.prog 103 = true := by kernel_rfl
@[go_sem] theorem ty_fld103_0 : tfld Tryz.prog 103 0 = some (0, 9, 1) := by kernel_rfl
@[go_sem] theorem ty_pl103_0 : places Tryz.prog 103 0 = some (0, 1) := by kernel_rfl
@[go_sem] theorem ty_fld103_1 : tfld Tryz.prog 103 1 = some (1, 100, 1) := by kernel_rfl
@[go_sem] theorem ty_pl103_1 : places Tryz.prog 103 1 = some (1, 1) := by kernel_rfl
@[go_sem] theorem ty_fld103_2 : tfld Tryz.prog 103 2 = some (2, 101, 1) := by kernel_rfl
@[go_sem] theorem ty_pl103_2 : places Tryz.prog 103 2 = some (2, 1) := by kernel_rfl
@[go_sem] theorem ty_fld103_3 : tfld Tryz.prog 103 3 = some (3, 70, 1) := by kernel_rfl
@[go_sem] theorem ty_pl103_3 : places Tryz.prog 103 3 = some (3, 1) := by kernel_rfl
@[go_sem] theorem ty_kind105 : tkind Tryz.prog 105 = 5 := by kernel_rfl
@[go_sem] theorem ty_flds105 : tflds Tryz.prog 105 = true := by kernel_rfl
@[go_sem] theorem ty_fld105_0 : tfld Tryz.prog 105 0 = some (0, 9, 1) := by kernel_rfl
@[go_sem] theorem ty_pl105_0 : places Tryz.prog 105 0 = some (0, 1) := by kernel_rfl
@[go_sem] theorem ty_fld105_1 : tfld Tryz.prog 105 1 = some (1, 3, 1) := by kernel_rfl
@[go_sem] theorem ty_pl105_1 : places Tryz.prog 105 1 = some (1, 1) := by kernel_rfl
@[go_sem] theorem ty_sz106 : tsz Tryz.prog 106 = some 2 := by kernel_rfl
@[go_sem] theorem ty_agg106 : tagg Tryz.prog 106 = some true := by kernel_rfl
@[go_sem] theorem ty_zero106 : tzero Tryz.prog 106 = some [.con (.string ⟨#[]⟩), .con (.int .i64 0)] := by kernel_rfl
@[go_sem] theorem ty_kind106 : tkind Tryz.prog 106 = 5 := by kernel_rfl
@[go_sem] theorem ty_flds106 : tflds Tryz.prog 106 = true := by kernel_rfl
@[go_sem] theorem ty_fld106_0 : tfld Tryz.prog 106 0 = some (0, 9, 1) := by kernel_rfl
@[go_sem] theorem ty_pl106_0 : places Tryz.prog 106 0 = some (0, 1) := by kernel_rfl
@[go_sem] theorem ty_fld106_1 : tfld Tryz.prog 106 1 = some (1, 3, 1) := by kernel_rfl
@[go_sem] theorem ty_pl106_1 : places Tryz.prog 106 1 = some (1, 1) := by kernel_rfl
@[go_sem] theorem ty_sz107 : tsz Tryz.prog 107 = some 1 := by kernel_rfl
@[go_sem] theorem ty_agg107 : tagg Tryz.prog 107 = some false := by kernel_rfl
@[go_sem] theorem ty_zero107 : tzero Tryz.prog 107 = some [.con .nilFunc] := by kernel_rfl
@[go_sem] theorem ty_kind114 : tkind Tryz.prog 114 = 5 := by kernel_rfl
@[go_sem] theorem ty_flds114 : tflds Tryz.prog 114 = true := by kernel_rfl
@[go_sem] theorem ty_fld114_0 : tfld Tryz.prog 114 0 = some (0, 3, 1) := by kernel_rfl
@[go_sem] theorem ty_pl114_0 : places Tryz.prog 114 0 = some (0, 1) := by kernel_rfl
@[go_sem] theorem ty_fld114_1 : tfld Tryz.prog 114 1 = some (1, 92, 4) := by kernel_rfl
@[go_sem] theorem ty_pl114_1 : places Tryz.prog 114 1 = some (1, 4) := by kernel_rfl
@[go_sem] theorem ty_kind115 : tkind Tryz.prog 115 = 5 := by kernel_rfl
@[go_sem] theorem ty_flds115 : tflds Tryz.prog 115 = true := by kernel_rfl
@[go_sem] theorem ty_fld115_0 : tfld Tryz.prog 115 0 = some (0, 3, 1) := by kernel_rfl
@[go_sem] theorem ty_pl115_0 : places Tryz.prog 115 0 = some (0, 1) := by kernel_rfl
@[go_sem] theorem ty_fld115_1 : tfld Tryz.prog 115 1 = some (1, 92, 4) := by kernel_rfl
@[go_sem] theorem ty_pl115_1 : places Tryz.prog 115 1 = some (1, 4) := by kernel_rfl
@[go_sem] theorem ty_kind124 : tkind Tryz.prog 124 = 5 := by kernel_rfl
@[go_sem] theorem ty_flds124 : tflds Tryz.prog 124 = true := by kernel_rfl
@[go_sem] theorem ty_fld124_0 : tfld Tryz.prog 124 0 = some (0, 9, 1) := by kernel_rfl
@[go_sem] theorem ty_pl124_0 : places Tryz.prog 124 0 = some (0, 1) := by kernel_rfl
@[go_sem] theorem ty_fld124_1 : tfld Tryz.prog 124 1 = some (1, 101, 1) := by kernel_rfl
@[go_sem] theorem ty_pl124_1 : places Tryz.prog 124 1 = some (1, 1) := by kernel_rfl
@[go_sem] theorem ty_fld124_2 : tfld Tryz.prog 124 2 = some (2, 101, 1) := by kernel_rfl
@[go_sem] theorem ty_pl124_2 : places Tryz.prog 124 2 = some (2, 1) := by kernel_rfl
@[go_sem] theorem ty_kind125 : tkind Tryz.prog 125 = 5 := by kernel_rfl
@[go_sem] theorem ty_flds125 : tflds Tryz.prog 125 = true := by kernel_rfl
@[go_sem] theorem ty_fld125_0 : tfld Tryz.prog 125 0 = some (0, 9, 1) := by kernel_rfl
@[go_sem] theorem ty_pl125_0 : places Tryz.prog 125 0 = some (0, 1) := by kernel_rfl
@[go_sem] theorem ty_fld125_1 : tfld Tryz.prog 125 1 = some (1, 101, 1) := by kernel_rfl
@[go_sem] theorem ty_pl125_1 : places Tryz.prog 125 1 = some (1, 1) := by kernel_rfl
@[go_sem] theorem ty_fld125_2 : tfld Tryz.prog 125 2 = some (2, 101, 1) := by kernel_rfl
@[go_sem] theorem ty_pl125_2 : places Tryz.prog 125 2 = some (2, 1) := by kernel_rfl
@[go_sem] theorem ty_kind126 : tkind Tryz.prog 126 = 4 := by kernel_rfl
@[go_sem] theorem ty_elem126 : telem Tryz.prog 126 = some (131, 5, 72) := by kernel_rfl
@[go_sem] theorem ty_map129 : tmap Tryz.prog 129 = some (9, 92) := by kernel_rfl
@[go_sem] theorem ty_kind130 : tkind Tryz.prog 130 = 5 := by kernel_rfl
@[go_sem] theorem ty_flds130 : tflds Tryz.prog 130 = true := by kernel_rfl
@[go_sem] theorem ty_fld130_0 : tfld Tryz.prog 130 0 = some (0, 9, 1) := by kernel_rfl
@[go_sem] theorem ty_pl130_0 : places Tryz.prog 130 0 = some (0, 1) := by kernel_rfl
@[go_sem] theorem ty_fld130_1 : tfld Tryz.prog 130 1 = some (1, 92, 4) := by kernel_rfl
@[go_sem] theorem ty_pl130_1 : places Tryz.prog 130 1 = some (1, 4) := by kernel_rfl
@[go_sem] theorem ty_kind131 : tkind Tryz.prog 131 = 5 := by kernel_rfl
@[go_sem] theorem ty_flds131 : tflds Tryz.prog 131 = true := by kernel_rfl
@[go_sem] theorem ty_fld131_0 : tfld Tryz.prog 131 0 = some (0, 9, 1) := by kernel_rfl
@[go_sem] theorem ty_pl131_0 : places Tryz.prog 131 0 = some (0, 1) := by kernel_rfl
@[go_sem] theorem ty_fld131_1 : tfld Tryz.prog 131 1 = some (1, 92, 4) := by kernel_rfl
@[go_sem] theorem ty_pl131_1 : places Tryz.prog 131 1 = some (1, 4) := by kernel_rfl
@[go_sem] theorem ty_kind136 : tkind Tryz.prog 136 = 4 := by kernel_rfl
@[go_sem] theorem ty_elem136 : telem Tryz.prog 136 = some (125, 3, 64) := by kernel_rfl
@[go_sem] theorem ty_kind138 : tkind Tryz.prog 138 = 4 := by kernel_rfl
@[go_sem] theorem ty_elem138 : telem Tryz.prog 138 = some (145, 2, 32) := by kernel_rfl
@[go_sem] theorem ty_kind144 : tkind Tryz.prog 144 = 5 := by kernel_rfl
@[go_sem] theorem ty_flds144 : tflds Tryz.prog 144 = true := by kernel_rfl
@[go_sem] theorem ty_fld144_0 : tfld Tryz.prog 144 0 = some (0, 3, 1) := by kernel_rfl
@[go_sem] theorem ty_pl144_0 : places Tryz.prog 144 0 = some (0, 1) := by kernel_rfl
@[go_sem] theorem ty_fld144_1 : tfld Tryz.prog 144 1 = some (1, 101, 1) := by kernel_rfl
@[go_sem] theorem ty_pl144_1 : places Tryz.prog 144 1 = some (1, 1) := by kernel_rfl
@[go_sem] theorem ty_kind145 : tkind Tryz.prog 145 = 5 := by kernel_rfl
@[go_sem] theorem ty_flds145 : tflds Tryz.prog 145 = true := by kernel_rfl
@[go_sem] theorem ty_fld145_0 : tfld Tryz.prog 145 0 = some (0, 3, 1) := by kernel_rfl
@[go_sem] theorem ty_pl145_0 : places Tryz.prog 145 0 = some (0, 1) := by kernel_rfl
@[go_sem] theorem ty_fld145_1 : tfld Tryz.prog 145 1 = some (1, 101, 1) := by kernel_rfl
@[go_sem] theorem ty_pl145_1 : places Tryz.prog 145 1 = some (1, 1) := by kernel_rfl
@[go_sem] theorem ty_kind161 : tkind Tryz.prog 161 = 4 := by kernel_rfl
@[go_sem] theorem ty_elem161 : telem Tryz.prog 161 = some (253, 3, 48) := by kernel_rfl
@[go_sem] theorem ty_kind167 : tkind Tryz.prog 167 = 5 := by kernel_rfl
@[go_sem] theorem ty_flds167 : tflds Tryz.prog 167 = true := by kernel_rfl
@[go_sem] theorem ty_fld167_0 : tfld Tryz.prog 167 0 = some (0, 9, 1) := by kernel_rfl
@[go_sem] theorem ty_pl167_0 : places Tryz.prog 167 0 = some (0, 1) := by kernel_rfl
@[go_sem] theorem ty_fld167_1 : tfld Tryz.prog 167 1 = some (1, 101, 1) := by kernel_rfl
@[go_sem] theorem ty_pl167_1 : places Tryz.prog 167 1 = some (1, 1) := by kernel_rfl
@[go_sem] theorem ty_kind168 : tkind Tryz.prog 168 = 5 := by kernel_rfl
@[go_sem] theorem ty_flds168 : tflds Tryz.prog 168 = true := by kernel_rfl
@[go_sem] theorem ty_fld168_0 : tfld Tryz.prog 168 0 = some (0, 9, 1) := by kernel_rfl
@[go_sem] theorem ty_pl168_0 : places Tryz.prog 168 0 = some (0, 1) := by kernel_rfl
@[go_sem] theorem ty_fld168_1 : tfld Tryz.prog 168 1 = some (1, 101, 1) := by kernel_rfl
@[go_sem] theorem ty_pl168_1 : places Tryz.prog 168 1 = some (1, 1) := by kernel_rfl
@[go_sem] theorem ty_map171 : tmap Tryz.prog 171 = some (9, 4) := by kernel_rfl
@[go_sem] theorem ty_sz194 : tsz Tryz.prog 194 = some 2 := by kernel_rfl
@[go_sem] theorem ty_agg194 : tagg Tryz.prog 194 = some true := by kernel_rfl
@[go_sem] theorem ty_zero194 : tzero Tryz.prog 194 = some [.con (.string ⟨#[]⟩), .con (.slice none 0 0)] := by kernel_rfl
@[go_sem] theorem ty_kind194 : tkind Tryz.prog 194 = 5 := by kernel_rfl
@[go_sem] theorem ty_flds194 : tflds Tryz.prog 194 = true := by kernel_rfl
@[go_sem] theorem ty_fld194_0 : tfld Tryz.prog 194 0 = some (0, 9, 1) := by kernel_rfl
@[go_sem] theorem ty_pl194_0 : places Tryz.prog 194 0 = some (0, 1) := by kernel_rfl
@[go_sem] theorem ty_fld194_1 : tfld Tryz.prog 194 1 = some (1, 51, 1) := by kernel_rfl
@[go_sem] theorem ty_pl194_1 : places Tryz.prog 194 1 = some (1, 1) := by kernel_rfl
@[go_sem] theorem ty_sz197 : tsz Tryz.prog 197 = some 6 := by kernel_rfl
@[go_sem] theorem ty_agg197 : tagg Tryz.prog 197 = some true := by kernel_rfl
@[go_sem] theorem ty_zero197 : tzero Tryz.prog 197 = some [.con (.bool false), .con (.int .i64 0), .con (.int .i64 0), .con (.int .i64 0), .con (.string ⟨#[]⟩), .con (.slice none 0 0)] := by kernel_rfl
@[go_sem] theorem ty_kind197 : tkind Tryz.prog 197 = 5 := by kernel_rfl
@[go_sem] theorem ty_flds197 : tflds Tryz.prog 197 = true := by kernel_rfl
@[go_sem] theorem ty_fld197_0 : tfld Tryz.prog 197 0 = some (0, 4, 1) := by kernel_rfl
@[go_sem] theorem ty_pl197_0 : places Tryz.prog 197 0 = some (0, 1) := by kernel_rfl
@[go_sem] theorem ty_fld197_1 : tfld Tryz.prog 197 1 = some (1, 3, 1) := by kernel_rfl
@[go_sem] theorem ty_pl197_1 : places Tryz.prog 197 1 = some (1, 1) := by kernel_rfl
@[go_sem] theorem ty_fld197_2 : tfld Tryz.prog 197 2 = some (2, 92, 4) := by kernel_rfl
@[go_sem] theorem ty_pl197_2 : places Tryz.prog 197 2 = some (2, 4) := by kernel_rfl
@[go_sem] theorem ty_kind206 : tkind Tryz.prog 206 = 4 := by kernel_rfl
@[go_sem] theorem ty_elem206 : telem Tryz.prog 206 = some (209, 2, 32) := by kernel_rfl
@[go_sem] theorem ty_kind208 : tkind Tryz.prog 208 = 5 := by kernel_rfl
@[go_sem] theorem ty_flds208 : tflds Tryz.prog 208 = true := by kernel_rfl
@[go_sem] theorem ty_fld208_0 : tfld Tryz.prog 208 0 = some (0, 3, 1) := by kernel_rfl
@[go_sem] theorem ty_pl208_0 : places Tryz.prog 208 0 = some (0, 1) := by kernel_rfl
@[go_sem] theorem ty_fld208_1 : tfld Tryz.prog 208 1 = some (1, 80, 1) := by kernel_rfl
@[go_sem] theorem ty_pl208_1 : places Tryz.prog 208 1 = some (1, 1) := by kernel_rfl
@[go_sem] theorem ty_kind211 : tkind Tryz.prog 211 = 4 := by kernel_rfl
@[go_sem] theorem ty_elem211 : telem Tryz.prog 211 = some (214, 2, 40) := by kernel_rfl
@[go_sem] theorem ty_kind214 : tkind Tryz.prog 214 = 5 := by kernel_rfl
@[go_sem] theorem ty_flds214 : tflds Tryz.prog 214 = true := by kernel_rfl
@[go_sem] theorem ty_fld214_0 : tfld Tryz.prog 214 0 = some (0, 9, 1) := by kernel_rfl
@[go_sem] theorem ty_pl214_0 : places Tryz.prog 214 0 = some (0, 1) := by kernel_rfl
@[go_sem] theorem ty_fld214_1 : tfld Tryz.prog 214 1 = some (1, 80, 1) := by kernel_rfl
@[go_sem] theorem ty_pl214_1 : places Tryz.prog 214 1 = some (1, 1) := by kernel_rfl
@[go_sem] theorem ty_sz219 : tsz Tryz.prog 219 = some 1 := by kernel_rfl
@[go_sem] theorem ty_agg219 : tagg Tryz.prog 219 = some false := by kernel_rfl
@[go_sem] theorem ty_zero219 : tzero Tryz.prog 219 = some [.con .nilFunc] := by kernel_rfl
@[go_sem] theorem ty_sz226 : tsz Tryz.prog 226 = some 1 := by kernel_rfl
@[go_sem] theorem ty_agg226 : tagg Tryz.prog 226 = some false := by kernel_rfl
@[go_sem] theorem ty_zero226 : tzero Tryz.prog 226 = some [.con .nilFunc] := by kernel_rfl
@[go_sem] theorem ty_sz229 : tsz Tryz.prog 229 = some 1 := by kernel_rfl
@[go_sem] theorem ty_agg229 : tagg Tryz.prog 229 = some false := by kernel_rfl
@[go_sem] theorem ty_zero229 : tzero Tryz.prog 229 = some [.con .nilFunc] := by kernel_rfl
@[go_sem] theorem ty_kind252 : tkind Tryz.prog 252 = 5 := by kernel_rfl
@[go_sem] theorem ty_flds252 : tflds Tryz.prog 252 = true := by kernel_rfl
@[go_sem] theorem ty_fld252_0 : tfld Tryz.prog 252 0 = some (0, 9, 1) := by kernel_rfl
@[go_sem] theorem ty_pl252_0 : places Tryz.prog 252 0 = some (0, 1) := by kernel_rfl
@[go_sem] theorem ty_fld252_1 : tfld Tryz.prog 252 1 = some (1, 126, 1) := by kernel_rfl
@[go_sem] theorem ty_pl252_1 : places Tryz.prog 252 1 = some (1, 1) := by kernel_rfl
@[go_sem] theorem ty_fld252_2 : tfld Tryz.prog 252 2 = some (2, 3, 1) := by kernel_rfl
@[go_sem] theorem ty_pl252_2 : places Tryz.prog 252 2 = some (2, 1) := by kernel_rfl
@[go_sem] theorem ty_kind258 : tkind Tryz.prog 258 = 4 := by kernel_rfl
@[go_sem] theorem ty_elem258 : telem Tryz.prog 258 = some (70, 1, 24) := by kernel_rfl
@[go_sem] theorem ty_sz270 : tsz Tryz.prog 270 = some 1 := by kernel_rfl
@[go_sem] theorem ty_agg270 : tagg Tryz.prog 270 = some false := by kernel_rfl
@[go_sem] theorem ty_zero270 : tzero Tryz.prog 270 = some [.con .nilFunc] := by kernel_rfl
@[go_sem] theorem ty_sz274 : tsz Tryz.prog 274 = some 5 := by kernel_rfl
@[go_sem] theorem ty_agg274 : tagg Tryz.prog 274 = some true := by kernel_rfl
@[go_sem] theorem ty_zero274 : tzero Tryz.prog 274 = some [.con (.string ⟨#[]⟩), .con (.int .i64 0), .con (.int .i64 0), .con (.string ⟨#[]⟩), .con (.slice none 0 0)] := by kernel_rfl
@[go_sem] theorem ty_kind274 : tkind Tryz.prog 274 = 5 := by kernel_rfl
@[go_sem] theorem ty_flds274 : tflds Tryz.prog 274 = true := by kernel_rfl
@[go_sem] theorem ty_fld274_0 : tfld Tryz.prog 274 0 = some (0, 9, 1) := by kernel_rfl
@[go_sem] theorem ty_pl274_0 : places Tryz.prog 274 0 = some (0, 1) := by kernel_rfl
@[go_sem] theorem ty_fld274_1 : tfld Tryz.prog 274 1 = some (1, 92, 4) := by kernel_rfl
@[go_sem] theorem ty_pl274_1 : places Tryz.prog 274 1 = some (1, 4) := by kernel_rfl
@[go_sem] theorem ty_sz277 : tsz Tryz.prog 277 = some 1 := by kernel_rfl
@[go_sem] theorem ty_agg277 : tagg Tryz.prog 277 = some false := by kernel_rfl
@[go_sem] theorem ty_zero277 : tzero Tryz.prog 277 = some [.con (.int .u64 0)] := by kernel_rfl
@[go_sem] theorem ty_kind277 : tkind Tryz.prog 277 = 3 := by kernel_rfl
@[go_sem] theorem ty_int277 : tint Tryz.prog 277 = some .u64 := by kernel_rfl
@[go_sem] theorem ty_kind294 : tkind Tryz.prog 294 = 4 := by kernel_rfl
@[go_sem] theorem ty_elem294 : telem Tryz.prog 294 = some (98, 1, 24) := by kernel_rfl
@[go_sem] theorem ty_sz304 : tsz Tryz.prog 304 = some 1 := by kernel_rfl
@[go_sem] theorem ty_agg304 : tagg Tryz.prog 304 = some false := by kernel_rfl
@[go_sem] theorem ty_zero304 : tzero Tryz.prog 304 = some [.con .nilFunc] := by kernel_rfl
@[go_sem] theorem ty_sz310 : tsz Tryz.prog 310 = some 1 := by kernel_rfl
@[go_sem] theorem ty_agg310 : tagg Tryz.prog 310 = some false := by kernel_rfl
@[go_sem] theorem ty_zero310 : tzero Tryz.prog 310 = some [.con .nilFunc] := by kernel_rfl
@[go_sem] theorem ty_sz324 : tsz Tryz.prog 324 = some 1 := by kernel_rfl
@[go_sem] theorem ty_agg324 : tagg Tryz.prog 324 = some false := by kernel_rfl
@[go_sem] theorem ty_zero324 : tzero Tryz.prog 324 = some [.con (.int .i64 0)] := by kernel_rfl
@[go_sem] theorem ty_kind324 : tkind Tryz.prog 324 = 3 := by kernel_rfl
@[go_sem] theorem ty_int324 : tint Tryz.prog 324 = some .i64 := by kernel_rfl
@[go_sem] theorem ty_sz331 : tsz Tryz.prog 331 = some 1 := by kernel_rfl
@[go_sem] theorem ty_agg331 : tagg Tryz.prog 331 = some false := by kernel_rfl
@[go_sem] theorem ty_zero331 : tzero Tryz.prog 331 = some [.con (.int .u32 0)] := by kernel_rfl
@[go_sem] theorem ty_kind331 : tkind Tryz.prog 331 = 3 := by kernel_rfl
@[go_sem] theorem ty_int331 : tint Tryz.prog 331 = some .u32 := by kernel_rfl
@[go_sem] theorem ty_sz333 : tsz Tryz.prog 333 = some 1 := by kernel_rfl
@[go_sem] theorem ty_agg333 : tagg Tryz.prog 333 = some false := by kernel_rfl
@[go_sem] theorem ty_zero333 : tzero Tryz.prog 333 = some [.con (.int .u64 0)] := by kernel_rfl
@[go_sem] theorem ty_kind333 : tkind Tryz.prog 333 = 3 := by kernel_rfl
@[go_sem] theorem ty_int333 : tint Tryz.prog 333 = some .u64 := by kernel_rfl
@[go_sem] theorem ty_sz360 : tsz Tryz.prog 360 = some 1 := by kernel_rfl
@[go_sem] theorem ty_agg360 : tagg Tryz.prog 360 = some false := by kernel_rfl
@[go_sem] theorem ty_zero360 : tzero Tryz.prog 360 = some [.con (.slice none 0 0)] := by kernel_rfl
@[go_sem] theorem ty_kind360 : tkind Tryz.prog 360 = 4 := by kernel_rfl
@[go_sem] theorem ty_elem360 : telem Tryz.prog 360 = some (5, 1, 1) := by kernel_rfl
@[go_sem] theorem ty_kind363 : tkind Tryz.prog 363 = 4 := by kernel_rfl
@[go_sem] theorem ty_elem363 : telem Tryz.prog 363 = some (52, 1, 24) := by kernel_rfl
@[go_sem] theorem ty_sz370 : tsz Tryz.prog 370 = some 1 := by kernel_rfl
@[go_sem] theorem ty_agg370 : tagg Tryz.prog 370 = some false := by kernel_rfl
@[go_sem] theorem ty_zero370 : tzero Tryz.prog 370 = some [.con (.int .u64 0)] := by kernel_rfl
@[go_sem] theorem ty_kind370 : tkind Tryz.prog 370 = 3 := by kernel_rfl
@[go_sem] theorem ty_int370 : tint Tryz.prog 370 = some .u64 := by kernel_rfl
@[go_sem] theorem ty_sz374 : tsz Tryz.prog 374 = some 1 := by kernel_rfl
@[go_sem] theorem ty_agg374 : tagg Tryz.prog 374 = some false := by kernel_rfl
@[go_sem] theorem ty_zero374 : tzero Tryz.prog 374 = some [.con (.pointer none)] := by kernel_rfl
@[go_sem] theorem ty_kind374 : tkind Tryz.prog 374 = 6 := by kernel_rfl
@[go_sem] theorem ty_sz387 : tsz Tryz.prog 387 = some 1 := by kernel_rfl
@[go_sem] theorem ty_agg387 : tagg Tryz.prog 387 = some false := by kernel_rfl
@[go_sem] theorem ty_zero387 : tzero Tryz.prog 387 = some [.con (.pointer none)] := by kernel_rfl
@[go_sem] theorem ty_kind387 : tkind Tryz.prog 387 = 6 := by kernel_rfl
@[go_sem] theorem ty_sz398 : tsz Tryz.prog 398 = some 1 := by kernel_rfl
@[go_sem] theorem ty_agg398 : tagg Tryz.prog 398 = some false := by kernel_rfl
@[go_sem] theorem ty_zero398 : tzero Tryz.prog 398 = some [.con .nilFunc] := by kernel_rfl
end Go.Proofs.YtababmnmkmgbbaaGreat
