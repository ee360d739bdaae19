/- Facts on the types of the translation: each is checked by the kernel. -/
import Derived.Test.YtababmnmkmgbbaaGreatKFw1
import Derived.Test.YtababmnmkmgbbaaGreatKFw2
import Derived.Test.YtababmnmkmgbbaaGreatKFw3
import Derived.Test.YtababmnmkmgbbaaGreatProg
import Derived.KernelRfl
set_option maxRecDepth 100000
namespace Go.Proofs.YtababmnmkmgbbaaGreat
open Go Fw
@[go_sem] theorem ty_sz1 : tsz Tryz.prog 1 = some 1 := by kernel_rfl
@[go_sem] theorem ty_agg1 : tagg Tryz.prog 1 = some false := by kernel_rfl
@[go_sem] theorem ty_zero1 : tzero Tryz.prog 1 = some [.con .nilFunc] := by kernel_rfl
@[go_sem] theorem ty_sz2 : tsz Tryz.prog 2 = some 1 := by kernel_rfl
@[go_sem] theorem ty_agg2 : tagg Tryz.prog 2 = some false := by kernel_rfl
@[go_sem] theorem ty_zero2 : tzero Tryz.prog 2 = some [.con (.int .i64 0)] := by kernel_rfl
@[go_sem] theorem ty_kind2 : tkind Tryz.prog 2 = 3 := by kernel_rfl
@[go_sem] theorem ty_int2 : tint Tryz.prog 2 = some .i64 := by kernel_rfl
@[go_sem] theorem ty_sz3 : tsz Tryz.prog 3 = some 1 := by kernel_rfl
@[go_sem] theorem ty_agg3 : tagg Tryz.prog 3 = some false := by kernel_rfl
@[go_sem] theorem ty_zero3 : tzero Tryz.prog 3 = some [.con (.int .i64 0)] := by kernel_rfl
@[go_sem] theorem ty_zv3 : tzV Tryz.prog 3 = some (.con (.int .i64 0)) := by kernel_rfl
@[go_sem] theorem ty_kind3 : tkind Tryz.prog 3 = 3 := by kernel_rfl
@[go_sem] theorem ty_int3 : tint Tryz.prog 3 = some .i64 := by kernel_rfl
@[go_sem] theorem ty_sz4 : tsz Tryz.prog 4 = some 1 := by kernel_rfl
@[go_sem] theorem ty_agg4 : tagg Tryz.prog 4 = some false := by kernel_rfl
@[go_sem] theorem ty_zero4 : tzero Tryz.prog 4 = some [.con (.bool false)] := by kernel_rfl
@[go_sem] theorem ty_zv4 : tzV Tryz.prog 4 = some (.con (.bool false)) := by kernel_rfl
@[go_sem] theorem ty_kind4 : tkind Tryz.prog 4 = 1 := by kernel_rfl
@[go_sem] theorem ty_sz5 : tsz Tryz.prog 5 = some 1 := by kernel_rfl
@[go_sem] theorem ty_agg5 : tagg Tryz.prog 5 = some false := by kernel_rfl
@[go_sem] theorem ty_zero5 : tzero Tryz.prog 5 = some [.con (.int .u8 0)] := by kernel_rfl
@[go_sem] theorem ty_kind5 : tkind Tryz.prog 5 = 3 := by kernel_rfl
@[go_sem] theorem ty_bz5 : ((Tryz.prog.info? 5).bind fun x => x.zero) = some (.int .u8 0) := by kernel_rfl
@[go_sem] theorem ty_int5 : tint Tryz.prog 5 = some .u8 := by kernel_rfl
@[go_sem] theorem ty_sz6 : tsz Tryz.prog 6 = some 1 := by kernel_rfl
@[go_sem] theorem ty_agg6 : tagg Tryz.prog 6 = some false := by kernel_rfl
@[go_sem] theorem ty_zero6 : tzero Tryz.prog 6 = some [.con (.int .u8 0)] := by kernel_rfl
@[go_sem] theorem ty_kind6 : tkind Tryz.prog 6 = 3 := by kernel_rfl
@[go_sem] theorem ty_int6 : tint Tryz.prog 6 = some .u8 := by kernel_rfl
@[go_sem] theorem ty_sz7 : tsz Tryz.prog 7 = some 4 := by kernel_rfl
@[go_sem] theorem ty_agg7 : tagg Tryz.prog 7 = some true := by kernel_rfl
@[go_sem] theorem ty_zero7 : tzero Tryz.prog 7 = some [.con (.int .i64 0), .con (.int .i64 0), .con (.bool false), .con (.int .u8 0)] := by kernel_rfl
@[go_sem] theorem ty_kind7 : tkind Tryz.prog 7 = 5 := by kernel_rfl
@[go_sem] theorem ty_flds7 : tflds Tryz.prog 7 = true := by kernel_rfl
@[go_sem] theorem ty_fld7_0 : tfld Tryz.prog 7 0 = some (0, 2, 1) := by kernel_rfl
@[go_sem] theorem ty_pl7_0 : places Tryz.prog 7 0 = some (0, 1) := by kernel_rfl
@[go_sem] theorem ty_fld7_1 : tfld Tryz.prog 7 1 = some (1, 3, 1) := by kernel_rfl
@[go_sem] theorem ty_pl7_1 : places Tryz.prog 7 1 = some (1, 1) := by kernel_rfl
@[go_sem] theorem ty_fld7_2 : tfld Tryz.prog 7 2 = some (2, 4, 1) := by kernel_rfl
@[go_sem] theorem ty_pl7_2 : places Tryz.prog 7 2 = some (2, 1) := by kernel_rfl
@[go_sem] theorem ty_fld7_3 : tfld Tryz.prog 7 3 = some (3, 6, 1) := by kernel_rfl
@[go_sem] theorem ty_pl7_3 : places Tryz.prog 7 3 = some (3, 1) := by kernel_rfl
@[go_sem] theorem ty_sz8 : tsz Tryz.prog 8 = some 4 := by kernel_rfl
@[go_sem] theorem ty_agg8 : tagg Tryz.prog 8 = some true := by kernel_rfl
@[go_sem] theorem ty_zero8 : tzero Tryz.prog 8 = some [.con (.int .i64 0), .con (.int .i64 0), .con (.bool false), .con (.int .u8 0)] := by kernel_rfl
@[go_sem] theorem ty_kind8 : tkind Tryz.prog 8 = 5 := by kernel_rfl
@[go_sem] theorem ty_flds8 : tflds Tryz.prog 8 = true := by kernel_rfl
@[go_sem] theorem ty_fld8_0 : tfld Tryz.prog 8 0 = some (0, 2, 1) := by kernel_rfl
@[go_sem] theorem ty_pl8_0 : places Tryz.prog 8 0 = some (0, 1) := by kernel_rfl
@[go_sem] theorem ty_fld8_1 : tfld Tryz.prog 8 1 = some (1, 3, 1) := by kernel_rfl
@[go_sem] theorem ty_pl8_1 : places Tryz.prog 8 1 = some (1, 1) := by kernel_rfl
@[go_sem] theorem ty_fld8_2 : tfld Tryz.prog 8 2 = some (2, 4, 1) := by kernel_rfl
@[go_sem] theorem ty_pl8_2 : places Tryz.prog 8 2 = some (2, 1) := by kernel_rfl
@[go_sem] theorem ty_fld8_3 : tfld Tryz.prog 8 3 = some (3, 6, 1) := by kernel_rfl
@[go_sem] theorem ty_pl8_3 : places Tryz.prog 8 3 = some (3, 1) := by kernel_rfl
@[go_sem] theorem ty_sz9 : tsz Tryz.prog 9 = some 1 := by kernel_rfl
@[go_sem] theorem ty_agg9 : tagg Tryz.prog 9 = some false := by kernel_rfl
@[go_sem] theorem ty_zero9 : tzero Tryz.prog 9 = some [.con (.string ⟨#[]⟩)] := by kernel_rfl
@[go_sem] theorem ty_kind9 : tkind Tryz.prog 9 = 2 := by kernel_rfl
@[go_sem] theorem ty_sz10 : tsz Tryz.prog 10 = some 1 := by kernel_rfl
@[go_sem] theorem ty_agg10 : tagg Tryz.prog 10 = some false := by kernel_rfl
@[go_sem] theorem ty_zero10 : tzero Tryz.prog 10 = some [.con (.string ⟨#[]⟩)] := by kernel_rfl
@[go_sem] theorem ty_kind10 : tkind Tryz.prog 10 = 2 := by kernel_rfl
@[go_sem] theorem ty_sz11 : tsz Tryz.prog 11 = some 1 := by kernel_rfl
@[go_sem] theorem ty_agg11 : tagg Tryz.prog 11 = some false := by kernel_rfl
@[go_sem] theorem ty_zero11 : tzero Tryz.prog 11 = some [.con (.string ⟨#[]⟩)] := by kernel_rfl
@[go_sem] theorem ty_kind11 : tkind Tryz.prog 11 = 2 := by kernel_rfl
@[go_sem] theorem ty_sz12 : tsz Tryz.prog 12 = some 1 := by kernel_rfl
@[go_sem] theorem ty_agg12 : tagg Tryz.prog 12 = some false := by kernel_rfl
@[go_sem] theorem ty_zero12 : tzero Tryz.prog 12 = some [.con (.int .u64 0)] := by kernel_rfl
@[go_sem] theorem ty_kind12 : tkind Tryz.prog 12 = 3 := by kernel_rfl
@[go_sem] theorem ty_int12 : tint Tryz.prog 12 = some .u64 := by kernel_rfl
@[go_sem] theorem ty_sz13 : tsz Tryz.prog 13 = some 2 := by kernel_rfl
@[go_sem] theorem ty_agg13 : tagg Tryz.prog 13 = some true := by kernel_rfl
@[go_sem] theorem ty_zero13 : tzero Tryz.prog 13 = some [.con (.string ⟨#[]⟩), .con (.int .u64 0)] := by kernel_rfl
@[go_sem] theorem ty_kind13 : tkind Tryz.prog 13 = 5 := by kernel_rfl
@[go_sem] theorem ty_flds13 : tflds Tryz.prog 13 = true := by kernel_rfl
@[go_sem] theorem ty_fld13_0 : tfld Tryz.prog 13 0 = some (0, 9, 1) := by kernel_rfl
@[go_sem] theorem ty_pl13_0 : places Tryz.prog 13 0 = some (0, 1) := by kernel_rfl
@[go_sem] theorem ty_fld13_1 : tfld Tryz.prog 13 1 = some (1, 12, 1) := by kernel_rfl
@[go_sem] theorem ty_pl13_1 : places Tryz.prog 13 1 = some (1, 1) := by kernel_rfl
@[go_sem] theorem ty_sz14 : tsz Tryz.prog 14 = some 2 := by kernel_rfl
@[go_sem] theorem ty_agg14 : tagg Tryz.prog 14 = some true := by kernel_rfl
@[go_sem] theorem ty_zero14 : tzero Tryz.prog 14 = some [.con (.string ⟨#[]⟩), .con (.int .u64 0)] := by kernel_rfl
@[go_sem] theorem ty_kind14 : tkind Tryz.prog 14 = 5 := by kernel_rfl
@[go_sem] theorem ty_flds14 : tflds Tryz.prog 14 = true := by kernel_rfl
@[go_sem] theorem ty_fld14_0 : tfld Tryz.prog 14 0 = some (0, 9, 1) := by kernel_rfl
@[go_sem] theorem ty_pl14_0 : places Tryz.prog 14 0 = some (0, 1) := by kernel_rfl
@[go_sem] theorem ty_fld14_1 : tfld Tryz.prog 14 1 = some (1, 12, 1) := by kernel_rfl
@[go_sem] theorem ty_pl14_1 : places Tryz.prog 14 1 = some (1, 1) := by kernel_rfl
@[go_sem] theorem ty_sz15 : tsz Tryz.prog 15 = some 1 := by kernel_rfl
@[go_sem] theorem ty_agg15 : tagg Tryz.prog 15 = some false := by kernel_rfl
@[go_sem] theorem ty_zero15 : tzero Tryz.prog 15 = some [.con (.pointer none)] := by kernel_rfl
@[go_sem] theorem ty_kind15 : tkind Tryz.prog 15 = 6 := by kernel_rfl
@[go_sem] theorem ty_sz16 : tsz Tryz.prog 16 = some 1 := by kernel_rfl
@[go_sem] theorem ty_agg16 : tagg Tryz.prog 16 = some false := by kernel_rfl
@[go_sem] theorem ty_zero16 : tzero Tryz.prog 16 = some [.con (.pointer none)] := by kernel_rfl
@[go_sem] theorem ty_kind16 : tkind Tryz.prog 16 = 6 := by kernel_rfl
@[go_sem] theorem ty_sz17 : tsz Tryz.prog 17 = some 1 := by kernel_rfl
@[go_sem] theorem ty_agg17 : tagg Tryz.prog 17 = some false := by kernel_rfl
@[go_sem] theorem ty_zero17 : tzero Tryz.prog 17 = some [.con (.pointer none)] := by kernel_rfl
@[go_sem] theorem ty_kind17 : tkind Tryz.prog 17 = 6 := by kernel_rfl
@[go_sem] theorem ty_sz18 : tsz Tryz.prog 18 = some 1 := by kernel_rfl
@[go_sem] theorem ty_agg18 : tagg Tryz.prog 18 = some true := by kernel_rfl
@[go_sem] theorem ty_zero18 : tzero Tryz.prog 18 = some [.con (.pointer none)] := by kernel_rfl
@[go_sem] theorem ty_kind18 : tkind Tryz.prog 18 = 5 := by kernel_rfl
@[go_sem] theorem ty_flds18 : tflds Tryz.prog 18 = true := by kernel_rfl
@[go_sem] theorem ty_fld18_0 : tfld Tryz.prog 18 0 = some (0, 17, 1) := by kernel_rfl
@[go_sem] theorem ty_pl18_0 : places Tryz.prog 18 0 = some (0, 1) := by kernel_rfl
@[go_sem] theorem ty_sz19 : tsz Tryz.prog 19 = some 1 := by kernel_rfl
@[go_sem] theorem ty_agg19 : tagg Tryz.prog 19 = some true := by kernel_rfl
@[go_sem] theorem ty_zero19 : tzero Tryz.prog 19 = some [.con (.pointer none)] := by kernel_rfl
@[go_sem] theorem ty_kind19 : tkind Tryz.prog 19 = 5 := by kernel_rfl
@[go_sem] theorem ty_flds19 : tflds Tryz.prog 19 = true := by kernel_rfl
@[go_sem] theorem ty_fld19_0 : tfld Tryz.prog 19 0 = some (0, 17, 1) := by kernel_rfl
@[go_sem] theorem ty_pl19_0 : places Tryz.prog 19 0 = some (0, 1) := by kernel_rfl
@[go_sem] theorem ty_sz20 : tsz Tryz.prog 20 = some 1 := by kernel_rfl
@[go_sem] theorem ty_agg20 : tagg Tryz.prog 20 = some false := by kernel_rfl
@[go_sem] theorem ty_zero20 : tzero Tryz.prog 20 = some [.con .nilIface] := by kernel_rfl
@[go_sem] theorem ty_sz21 : tsz Tryz.prog 21 = some 1 := by kernel_rfl
@[go_sem] theorem ty_agg21 : tagg Tryz.prog 21 = some false := by kernel_rfl
@[go_sem] theorem ty_zero21 : tzero Tryz.prog 21 = some [.con (.int .i32 0)] := by kernel_rfl
@[go_sem] theorem ty_kind21 : tkind Tryz.prog 21 = 3 := by kernel_rfl
@[go_sem] theorem ty_int21 : tint Tryz.prog 21 = some .i32 := by kernel_rfl
@[go_sem] theorem ty_sz22 : tsz Tryz.prog 22 = some 1 := by kernel_rfl
@[go_sem] theorem ty_agg22 : tagg Tryz.prog 22 = some false := by kernel_rfl
@[go_sem] theorem ty_zero22 : tzero Tryz.prog 22 = some [.con (.slice none 0 0)] := by kernel_rfl
@[go_sem] theorem ty_kind22 : tkind Tryz.prog 22 = 4 := by kernel_rfl
@[go_sem] theorem ty_elem22 : telem Tryz.prog 22 = some (103, 4, 88) := by kernel_rfl
@[go_sem] theorem ty_sz23 : tsz Tryz.prog 23 = some 1 := by kernel_rfl
@[go_sem] theorem ty_agg23 : tagg Tryz.prog 23 = some false := by kernel_rfl
@[go_sem] theorem ty_zero23 : tzero Tryz.prog 23 = some [.con (.slice none 0 0)] := by kernel_rfl
@[go_sem] theorem ty_kind23 : tkind Tryz.prog 23 = 4 := by kernel_rfl
@[go_sem] theorem ty_elem23 : telem Tryz.prog 23 = some (103, 4, 88) := by kernel_rfl
@[go_sem] theorem ty_sz24 : tsz Tryz.prog 24 = some 1 := by kernel_rfl
@[go_sem] theorem ty_agg24 : tagg Tryz.prog 24 = some false := by kernel_rfl
@[go_sem] theorem ty_zero24 : tzero Tryz.prog 24 = some [.con (.slice none 0 0)] := by kernel_rfl
@[go_sem] theorem ty_kind24 : tkind Tryz.prog 24 = 4 := by kernel_rfl
@[go_sem] theorem ty_elem24 : telem Tryz.prog 24 = some (168, 2, 40) := by kernel_rfl
@[go_sem] theorem ty_sz25 : tsz Tryz.prog 25 = some 1 := by kernel_rfl
@[go_sem] theorem ty_agg25 : tagg Tryz.prog 25 = some false := by kernel_rfl
@[go_sem] theorem ty_zero25 : tzero Tryz.prog 25 = some [.con (.slice none 0 0)] := by kernel_rfl
@[go_sem] theorem ty_kind25 : tkind Tryz.prog 25 = 4 := by kernel_rfl
@[go_sem] theorem ty_elem25 : telem Tryz.prog 25 = some (40, 2, 24) := by kernel_rfl
@[go_sem] theorem ty_sz26 : tsz Tryz.prog 26 = some 1 := by kernel_rfl
@[go_sem] theorem ty_agg26 : tagg Tryz.prog 26 = some false := by kernel_rfl
@[go_sem] theorem ty_zero26 : tzero Tryz.prog 26 = some [.con (.int .i64 0)] := by kernel_rfl
@[go_sem] theorem ty_kind26 : tkind Tryz.prog 26 = 3 := by kernel_rfl
@[go_sem] theorem ty_int26 : tint Tryz.prog 26 = some .i64 := by kernel_rfl
@[go_sem] theorem ty_sz27 : tsz Tryz.prog 27 = some 1 := by kernel_rfl
@[go_sem] theorem ty_agg27 : tagg Tryz.prog 27 = some false := by kernel_rfl
@[go_sem] theorem ty_zero27 : tzero Tryz.prog 27 = some [.con .nilFunc] := by kernel_rfl
@[go_sem] theorem ty_sz28 : tsz Tryz.prog 28 = some 1 := by kernel_rfl
@[go_sem] theorem ty_agg28 : tagg Tryz.prog 28 = some false := by kernel_rfl
@[go_sem] theorem ty_zero28 : tzero Tryz.prog 28 = some [.con (.slice none 0 0)] := by kernel_rfl
@[go_sem] theorem ty_kind28 : tkind Tryz.prog 28 = 4 := by kernel_rfl
@[go_sem] theorem ty_elem28 : telem Tryz.prog 28 = some (41, 4, 48) := by kernel_rfl
@[go_sem] theorem ty_sz30 : tsz Tryz.prog 30 = some 1 := by kernel_rfl
@[go_sem] theorem ty_agg30 : tagg Tryz.prog 30 = some false := by kernel_rfl
@[go_sem] theorem ty_zero30 : tzero Tryz.prog 30 = some [.con .nilFunc] := by kernel_rfl
@[go_sem] theorem ty_sz31 : tsz Tryz.prog 31 = some 1 := by kernel_rfl
@[go_sem] theorem ty_agg31 : tagg Tryz.prog 31 = some false := by kernel_rfl
@[go_sem] theorem ty_zero31 : tzero Tryz.prog 31 = some [.con .nilFunc] := by kernel_rfl
@[go_sem] theorem ty_sz32 : tsz Tryz.prog 32 = some 1 := by kernel_rfl
@[go_sem] theorem ty_agg32 : tagg Tryz.prog 32 = some false := by kernel_rfl
@[go_sem] theorem ty_zero32 : tzero Tryz.prog 32 = some [.con .nilFunc] := by kernel_rfl
@[go_sem] theorem ty_sz33 : tsz Tryz.prog 33 = some 1 := by kernel_rfl
@[go_sem] theorem ty_agg33 : tagg Tryz.prog 33 = some false := by kernel_rfl
@[go_sem] theorem ty_zero33 : tzero Tryz.prog 33 = some [.con .nilFunc] := by kernel_rfl
@[go_sem] theorem ty_sz34 : tsz Tryz.prog 34 = some 1 := by kernel_rfl
@[go_sem] theorem ty_agg34 : tagg Tryz.prog 34 = some false := by kernel_rfl
@[go_sem] theorem ty_zero34 : tzero Tryz.prog 34 = some [.con (.slice none 0 0)] := by kernel_rfl
@[go_sem] theorem ty_kind34 : tkind Tryz.prog 34 = 4 := by kernel_rfl
@[go_sem] theorem ty_elem34 : telem Tryz.prog 34 = some (25, 1, 24) := by kernel_rfl
@[go_sem] theorem ty_sz35 : tsz Tryz.prog 35 = some 1 := by kernel_rfl
@[go_sem] theorem ty_agg35 : tagg Tryz.prog 35 = some false := by kernel_rfl
@[go_sem] theorem ty_zero35 : tzero Tryz.prog 35 = some [.con .nilFunc] := by kernel_rfl
@[go_sem] theorem ty_sz37 : tsz Tryz.prog 37 = some 1 := by kernel_rfl
@[go_sem] theorem ty_agg37 : tagg Tryz.prog 37 = some false := by kernel_rfl
@[go_sem] theorem ty_zero37 : tzero Tryz.prog 37 = some [.con .nilFunc] := by kernel_rfl
@[go_sem] theorem ty_sz38 : tsz Tryz.prog 38 = some 1 := by kernel_rfl
@[go_sem] theorem ty_agg38 : tagg Tryz.prog 38 = some false := by kernel_rfl
@[go_sem] theorem ty_zero38 : tzero Tryz.prog 38 = some [.con .nilFunc] := by kernel_rfl
@[go_sem] theorem ty_sz39 : tsz Tryz.prog 39 = some 2 := by kernel_rfl
@[go_sem] theorem ty_agg39 : tagg Tryz.prog 39 = some true := by kernel_rfl
@[go_sem] theorem ty_zero39 : tzero Tryz.prog 39 = some [.con (.string ⟨#[]⟩), .con (.int .i64 0)] := by kernel_rfl
@[go_sem] theorem ty_kind39 : tkind Tryz.prog 39 = 5 := by kernel_rfl
@[go_sem] theorem ty_flds39 : tflds Tryz.prog 39 = true := by kernel_rfl
@[go_sem] theorem ty_fld39_0 : tfld Tryz.prog 39 0 = some (0, 9, 1) := by kernel_rfl
@[go_sem] theorem ty_pl39_0 : places Tryz.prog 39 0 = some (0, 1) := by kernel_rfl
@[go_sem] theorem ty_fld39_1 : tfld Tryz.prog 39 1 = some (1, 3, 1) := by kernel_rfl
@[go_sem] theorem ty_pl39_1 : places Tryz.prog 39 1 = some (1, 1) := by kernel_rfl
@[go_sem] theorem ty_sz40 : tsz Tryz.prog 40 = some 2 := by kernel_rfl
@[go_sem] theorem ty_agg40 : tagg Tryz.prog 40 = some true := by kernel_rfl
@[go_sem] theorem ty_zero40 : tzero Tryz.prog 40 = some [.con (.string ⟨#[]⟩), .con (.int .i64 0)] := by kernel_rfl
@[go_sem] theorem ty_kind40 : tkind Tryz.prog 40 = 5 := by kernel_rfl
@[go_sem] theorem ty_flds40 : tflds Tryz.prog 40 = true := by kernel_rfl
@[go_sem] theorem ty_fld40_0 : tfld Tryz.prog 40 0 = some (0, 9, 1) := by kernel_rfl
@[go_sem] theorem ty_pl40_0 : places Tryz.prog 40 0 = some (0, 1) := by kernel_rfl
@[go_sem] theorem ty_fld40_1 : tfld Tryz.prog 40 1 = some (1, 3, 1) := by kernel_rfl
@[go_sem] theorem ty_pl40_1 : places Tryz.prog 40 1 = some (1, 1) := by kernel_rfl
@[go_sem] theorem ty_sz41 : tsz Tryz.prog 41 = some 4 := by kernel_rfl
@[go_sem] theorem ty_agg41 : tagg Tryz.prog 41 = some true := by kernel_rfl
@[go_sem] theorem ty_zero41 : tzero Tryz.prog 41 = some [.con (.string ⟨#[]⟩), .con (.int .i64 0), .con (.string ⟨#[]⟩), .con (.int .i64 0)] := by kernel_rfl
@[go_sem] theorem ty_arr41 : tarr Tryz.prog 41 = some (2, 2) := by kernel_rfl
@[go_sem] theorem ty_flds41 : tflds Tryz.prog 41 = true := by kernel_rfl
@[go_sem] theorem ty_pl41_0 : places Tryz.prog 41 0 = some (0, 2) := by kernel_rfl
@[go_sem] theorem ty_pl41_1 : places Tryz.prog 41 1 = some (2, 2) := by kernel_rfl
@[go_sem] theorem ty_sz42 : tsz Tryz.prog 42 = some 1 := by kernel_rfl
@[go_sem] theorem ty_agg42 : tagg Tryz.prog 42 = some false := by kernel_rfl
@[go_sem] theorem ty_zero42 : tzero Tryz.prog 42 = some [.con .nilFunc] := by kernel_rfl
@[go_sem] theorem ty_sz43 : tsz Tryz.prog 43 = some 1 := by kernel_rfl
@[go_sem] theorem ty_agg43 : tagg Tryz.prog 43 = some false := by kernel_rfl
@[go_sem] theorem ty_zero43 : tzero Tryz.prog 43 = some [.con (.slice none 0 0)] := by kernel_rfl
@[go_sem] theorem ty_kind43 : tkind Tryz.prog 43 = 4 := by kernel_rfl
@[go_sem] theorem ty_elem43 : telem Tryz.prog 43 = some (23, 1, 24) := by kernel_rfl
@[go_sem] theorem ty_sz45 : tsz Tryz.prog 45 = some 1 := by kernel_rfl
@[go_sem] theorem ty_agg45 : tagg Tryz.prog 45 = some false := by kernel_rfl
@[go_sem] theorem ty_zero45 : tzero Tryz.prog 45 = some [.con .nilFunc] := by kernel_rfl
@[go_sem] theorem ty_sz47 : tsz Tryz.prog 47 = some 1 := by kernel_rfl
@[go_sem] theorem ty_agg47 : tagg Tryz.prog 47 = some false := by kernel_rfl
@[go_sem] theorem ty_zero47 : tzero Tryz.prog 47 = some [.con .nilFunc] := by kernel_rfl
@[go_sem] theorem ty_sz48 : tsz Tryz.prog 48 = some 1 := by kernel_rfl
@[go_sem] theorem ty_agg48 : tagg Tryz.prog 48 = some false := by kernel_rfl
@[go_sem] theorem ty_zero48 : tzero Tryz.prog 48 = some [.con .nilFunc] := by kernel_rfl
@[go_sem] theorem ty_sz49 : tsz Tryz.prog 49 = some 1 := by kernel_rfl
@[go_sem] theorem ty_agg49 : tagg Tryz.prog 49 = some false := by kernel_rfl
@[go_sem] theorem ty_zero49 : tzero Tryz.prog 49 = some [.con .nilFunc] := by kernel_rfl
@[go_sem] theorem ty_sz50 : tsz Tryz.prog 50 = some 1 := by kernel_rfl
@[go_sem] theorem ty_agg50 : tagg Tryz.prog 50 = some false := by kernel_rfl
@[go_sem] theorem ty_zero50 : tzero Tryz.prog 50 = some [.con .nilFunc] := by kernel_rfl
@[go_sem] theorem ty_sz51 : tsz Tryz.prog 51 = some 1 := by kernel_rfl
@[go_sem] theorem ty_agg51 : tagg Tryz.prog 51 = some false := by kernel_rfl
@[go_sem] theorem ty_zero51 : tzero Tryz.prog 51 = some [.con (.slice none 0 0)] := by kernel_rfl
@[go_sem] theorem ty_kind51 : tkind Tryz.prog 51 = 4 := by kernel_rfl
@[go_sem] theorem ty_elem51 : telem Tryz.prog 51 = some (197, 6, 72) := by kernel_rfl
@[go_sem] theorem ty_sz52 : tsz Tryz.prog 52 = some 1 := by kernel_rfl
@[go_sem] theorem ty_agg52 : tagg Tryz.prog 52 = some false := by kernel_rfl
@[go_sem] theorem ty_zero52 : tzero Tryz.prog 52 = some [.con (.slice none 0 0)] := by kernel_rfl
@[go_sem] theorem ty_kind52 : tkind Tryz.prog 52 = 4 := by kernel_rfl
@[go_sem] theorem ty_elem52 : telem Tryz.prog 52 = some (194, 2, 40) := by kernel_rfl
@[go_sem] theorem ty_sz53 : tsz Tryz.prog 53 = some 2 := by kernel_rfl
@[go_sem] theorem ty_agg53 : tagg Tryz.prog 53 = some true := by kernel_rfl
@[go_sem] theorem ty_zero53 : tzero Tryz.prog 53 = some [.con (.slice none 0 0), .con (.slice none 0 0)] := by kernel_rfl
@[go_sem] theorem ty_kind53 : tkind Tryz.prog 53 = 5 := by kernel_rfl
@[go_sem] theorem ty_flds53 : tflds Tryz.prog 53 = true := by kernel_rfl
@[go_sem] theorem ty_fld53_0 : tfld Tryz.prog 53 0 = some (0, 51, 1) := by kernel_rfl
@[go_sem] theorem ty_pl53_0 : places Tryz.prog 53 0 = some (0, 1) := by kernel_rfl
@[go_sem] theorem ty_fld53_1 : tfld Tryz.prog 53 1 = some (1, 52, 1) := by kernel_rfl
@[go_sem] theorem ty_pl53_1 : places Tryz.prog 53 1 = some (1, 1) := by kernel_rfl
@[go_sem] theorem ty_sz54 : tsz Tryz.prog 54 = some 2 := by kernel_rfl
@[go_sem] theorem ty_agg54 : tagg Tryz.prog 54 = some true := by kernel_rfl
@[go_sem] theorem ty_zero54 : tzero Tryz.prog 54 = some [.con (.slice none 0 0), .con (.slice none 0 0)] := by kernel_rfl
@[go_sem] theorem ty_kind54 : tkind Tryz.prog 54 = 5 := by kernel_rfl
@[go_sem] theorem ty_flds54 : tflds Tryz.prog 54 = true := by kernel_rfl
@[go_sem] theorem ty_fld54_0 : tfld Tryz.prog 54 0 = some (0, 51, 1) := by kernel_rfl
@[go_sem] theorem ty_pl54_0 : places Tryz.prog 54 0 = some (0, 1) := by kernel_rfl
@[go_sem] theorem ty_fld54_1 : tfld Tryz.prog 54 1 = some (1, 52, 1) := by kernel_rfl
@[go_sem] theorem ty_pl54_1 : places Tryz.prog 54 1 = some (1, 1) := by kernel_rfl
@[go_sem] theorem ty_sz55 : tsz Tryz.prog 55 = some 1 := by kernel_rfl
@[go_sem] theorem ty_agg55 : tagg Tryz.prog 55 = some false := by kernel_rfl
@[go_sem] theorem ty_zero55 : tzero Tryz.prog 55 = some [.con (.slice none 0 0)] := by kernel_rfl
@[go_sem] theorem ty_kind55 : tkind Tryz.prog 55 = 4 := by kernel_rfl
@[go_sem] theorem ty_elem55 : telem Tryz.prog 55 = some (3, 1, 8) := by kernel_rfl
@[go_sem] theorem ty_sz57 : tsz Tryz.prog 57 = some 1 := by kernel_rfl
@[go_sem] theorem ty_agg57 : tagg Tryz.prog 57 = some false := by kernel_rfl
@[go_sem] theorem ty_zero57 : tzero Tryz.prog 57 = some [.con .nilFunc] := by kernel_rfl
@[go_sem] theorem ty_sz58 : tsz Tryz.prog 58 = some 1 := by kernel_rfl
@[go_sem] theorem ty_agg58 : tagg Tryz.prog 58 = some false := by kernel_rfl
@[go_sem] theorem ty_zero58 : tzero Tryz.prog 58 = some [.con (.map none)] := by kernel_rfl
@[go_sem] theorem ty_map58 : tmap Tryz.prog 58 = some (3, 3) := by kernel_rfl
@[go_sem] theorem ty_sz60 : tsz Tryz.prog 60 = some 1 := by kernel_rfl
@[go_sem] theorem ty_agg60 : tagg Tryz.prog 60 = some false := by kernel_rfl
@[go_sem] theorem ty_zero60 : tzero Tryz.prog 60 = some [.con .nilFunc] := by kernel_rfl
@[go_sem] theorem ty_sz61 : tsz Tryz.prog 61 = some 1 := by kernel_rfl
@[go_sem] theorem ty_agg61 : tagg Tryz.prog 61 = some false := by kernel_rfl
@[go_sem] theorem ty_zero61 : tzero Tryz.prog 61 = some [.con .nilFunc] := by kernel_rfl
@[go_sem] theorem ty_sz62 : tsz Tryz.prog 62 = some 1 := by kernel_rfl
@[go_sem] theorem ty_agg62 : tagg Tryz.prog 62 = some false := by kernel_rfl
@[go_sem] theorem ty_zero62 : tzero Tryz.prog 62 = some [.con .nilFunc] := by kernel_rfl
@[go_sem] theorem ty_sz63 : tsz Tryz.prog 63 = some 1 := by kernel_rfl
@[go_sem] theorem ty_agg63 : tagg Tryz.prog 63 = some false := by kernel_rfl
@[go_sem] theorem ty_zero63 : tzero Tryz.prog 63 = some [.con .nilFunc] := by kernel_rfl
@[go_sem] theorem ty_sz64 : tsz Tryz.prog 64 = some 1 := by kernel_rfl
@[go_sem] theorem ty_agg64 : tagg Tryz.prog 64 = some false := by kernel_rfl
@[go_sem] theorem ty_zero64 : tzero Tryz.prog 64 = some [.con .nilFunc] := by kernel_rfl
@[go_sem] theorem ty_sz65 : tsz Tryz.prog 65 = some 1 := by kernel_rfl
@[go_sem] theorem ty_agg65 : tagg Tryz.prog 65 = some false := by kernel_rfl
@[go_sem] theorem ty_zero65 : tzero Tryz.prog 65 = some [.con .nilFunc] := by kernel_rfl
@[go_sem] theorem ty_sz67 : tsz Tryz.prog 67 = some 1 := by kernel_rfl
@[go_sem] theorem ty_agg67 : tagg Tryz.prog 67 = some false := by kernel_rfl
@[go_sem] theorem ty_zero67 : tzero Tryz.prog 67 = some [.con .nilFunc] := by kernel_rfl
@[go_sem] theorem ty_sz68 : tsz Tryz.prog 68 = some 1 := by kernel_rfl
@[go_sem] theorem ty_agg68 : tagg Tryz.prog 68 = some false := by kernel_rfl
@[go_sem] theorem ty_zero68 : tzero Tryz.prog 68 = some [.con .nilFunc] := by kernel_rfl
@[go_sem] theorem ty_sz69 : tsz Tryz.prog 69 = some 1 := by kernel_rfl
@[go_sem] theorem ty_agg69 : tagg Tryz.prog 69 = some false := by kernel_rfl
@[go_sem] theorem ty_zero69 : tzero Tryz.prog 69 = some [.con .nilFunc] := by kernel_rfl
@[go_sem] theorem ty_sz70 : tsz Tryz.prog 70 = some 1 := by kernel_rfl
@[go_sem] theorem ty_agg70 : tagg Tryz.prog 70 = some false := by kernel_rfl
@[go_sem] theorem ty_zero70 : tzero Tryz.prog 70 = some [.con (.slice none 0 0)] := by kernel_rfl
@[go_sem] theorem ty_kind70 : tkind Tryz.prog 70 = 4 := by kernel_rfl
@[go_sem] theorem ty_elem70 : telem Tryz.prog 70 = some (80, 1, 24) := by kernel_rfl
@[go_sem] theorem ty_sz72 : tsz Tryz.prog 72 = some 1 := by kernel_rfl
@[go_sem] theorem ty_agg72 : tagg Tryz.prog 72 = some false := by kernel_rfl
@[go_sem] theorem ty_zero72 : tzero Tryz.prog 72 = some [.con .nilFunc] := by kernel_rfl
@[go_sem] theorem ty_sz73 : tsz Tryz.prog 73 = some 1 := by kernel_rfl
@[go_sem] theorem ty_agg73 : tagg Tryz.prog 73 = some false := by kernel_rfl
@[go_sem] theorem ty_zero73 : tzero Tryz.prog 73 = some [.con (.slice none 0 0)] := by kernel_rfl
@[go_sem] theorem ty_kind73 : tkind Tryz.prog 73 = 4 := by kernel_rfl
@[go_sem] theorem ty_elem73 : telem Tryz.prog 73 = some (80, 1, 24) := by kernel_rfl
@[go_sem] theorem ty_sz75 : tsz Tryz.prog 75 = some 1 := by kernel_rfl
@[go_sem] theorem ty_agg75 : tagg Tryz.prog 75 = some false := by kernel_rfl
@[go_sem] theorem ty_zero75 : tzero Tryz.prog 75 = some [.con .nilFunc] := by kernel_rfl
@[go_sem] theorem ty_sz76 : tsz Tryz.prog 76 = some 1 := by kernel_rfl
@[go_sem] theorem ty_agg76 : tagg Tryz.prog 76 = some false := by kernel_rfl
@[go_sem] theorem ty_zero76 : tzero Tryz.prog 76 = some [.con .nilFunc] := by kernel_rfl
@[go_sem] theorem ty_sz77 : tsz Tryz.prog 77 = some 1 := by kernel_rfl
@[go_sem] theorem ty_agg77 : tagg Tryz.prog 77 = some false := by kernel_rfl
@[go_sem] theorem ty_zero77 : tzero Tryz.prog 77 = some [.con (.slice none 0 0)] := by kernel_rfl
@[go_sem] theorem ty_kind77 : tkind Tryz.prog 77 = 4 := by kernel_rfl
@[go_sem] theorem ty_elem77 : telem Tryz.prog 77 = some (81, 1, 24) := by kernel_rfl
@[go_sem] theorem ty_sz79 : tsz Tryz.prog 79 = some 1 := by kernel_rfl
@[go_sem] theorem ty_agg79 : tagg Tryz.prog 79 = some false := by kernel_rfl
@[go_sem] theorem ty_zero79 : tzero Tryz.prog 79 = some [.con .nilFunc] := by kernel_rfl
@[go_sem] theorem ty_sz80 : tsz Tryz.prog 80 = some 1 := by kernel_rfl
@[go_sem] theorem ty_agg80 : tagg Tryz.prog 80 = some false := by kernel_rfl
@[go_sem] theorem ty_zero80 : tzero Tryz.prog 80 = some [.con (.slice none 0 0)] := by kernel_rfl
@[go_sem] theorem ty_kind80 : tkind Tryz.prog 80 = 4 := by kernel_rfl
@[go_sem] theorem ty_elem80 : telem Tryz.prog 80 = some (92, 4, 56) := by kernel_rfl
@[go_sem] theorem ty_sz81 : tsz Tryz.prog 81 = some 1 := by kernel_rfl
@[go_sem] theorem ty_agg81 : tagg Tryz.prog 81 = some false := by kernel_rfl
@[go_sem] theorem ty_zero81 : tzero Tryz.prog 81 = some [.con (.slice none 0 0)] := by kernel_rfl
@[go_sem] theorem ty_kind81 : tkind Tryz.prog 81 = 4 := by kernel_rfl
@[go_sem] theorem ty_elem81 : telem Tryz.prog 81 = some (92, 4, 56) := by kernel_rfl
@[go_sem] theorem ty_sz82 : tsz Tryz.prog 82 = some 1 := by kernel_rfl
@[go_sem] theorem ty_agg82 : tagg Tryz.prog 82 = some false := by kernel_rfl
@[go_sem] theorem ty_zero82 : tzero Tryz.prog 82 = some [.con .nilFunc] := by kernel_rfl
@[go_sem] theorem ty_sz83 : tsz Tryz.prog 83 = some 1 := by kernel_rfl
@[go_sem] theorem ty_agg83 : tagg Tryz.prog 83 = some false := by kernel_rfl
@[go_sem] theorem ty_zero83 : tzero Tryz.prog 83 = some [.con (.slice none 0 0)] := by kernel_rfl
@[go_sem] theorem ty_kind83 : tkind Tryz.prog 83 = 4 := by kernel_rfl
@[go_sem] theorem ty_elem83 : telem Tryz.prog 83 = some (87, 1, 8) := by kernel_rfl
@[go_sem] theorem ty_sz85 : tsz Tryz.prog 85 = some 1 := by kernel_rfl
@[go_sem] theorem ty_agg85 : tagg Tryz.prog 85 = some false := by kernel_rfl
@[go_sem] theorem ty_zero85 : tzero Tryz.prog 85 = some [.con .nilFunc] := by kernel_rfl
@[go_sem] theorem ty_sz86 : tsz Tryz.prog 86 = some 1 := by kernel_rfl
@[go_sem] theorem ty_agg86 : tagg Tryz.prog 86 = some false := by kernel_rfl
@[go_sem] theorem ty_zero86 : tzero Tryz.prog 86 = some [.con (.map none)] := by kernel_rfl
@[go_sem] theorem ty_map86 : tmap Tryz.prog 86 = some (3, 92) := by kernel_rfl
@[go_sem] theorem ty_sz87 : tsz Tryz.prog 87 = some 1 := by kernel_rfl
@[go_sem] theorem ty_agg87 : tagg Tryz.prog 87 = some false := by kernel_rfl
@[go_sem] theorem ty_zero87 : tzero Tryz.prog 87 = some [.con (.map none)] := by kernel_rfl
@[go_sem] theorem ty_map87 : tmap Tryz.prog 87 = some (3, 92) := by kernel_rfl
@[go_sem] theorem ty_sz88 : tsz Tryz.prog 88 = some 1 := by kernel_rfl
@[go_sem] theorem ty_agg88 : tagg Tryz.prog 88 = some false := by kernel_rfl
@[go_sem] theorem ty_zero88 : tzero Tryz.prog 88 = some [.con .nilFunc] := by kernel_rfl
@[go_sem] theorem ty_sz89 : tsz Tryz.prog 89 = some 1 := by kernel_rfl
@[go_sem] theorem ty_agg89 : tagg Tryz.prog 89 = some false := by kernel_rfl
@[go_sem] theorem ty_zero89 : tzero Tryz.prog 89 = some [.con .nilFunc] := by kernel_rfl
@[go_sem] theorem ty_sz90 : tsz Tryz.prog 90 = some 1 := by kernel_rfl
@[go_sem] theorem ty_agg90 : tagg Tryz.prog 90 = some false := by kernel_rfl
@[go_sem] theorem ty_zero90 : tzero Tryz.prog 90 = some [.con (.slice none 0 0)] := by kernel_rfl
@[go_sem] theorem ty_kind90 : tkind Tryz.prog 90 = 4 := by kernel_rfl
@[go_sem] theorem ty_elem90 : telem Tryz.prog 90 = some (274, 5, 72) := by kernel_rfl
@[go_sem] theorem ty_sz91 : tsz Tryz.prog 91 = some 4 := by kernel_rfl
@[go_sem] theorem ty_agg91 : tagg Tryz.prog 91 = some true := by kernel_rfl
@[go_sem] theorem ty_zero91 : tzero Tryz.prog 91 = some [.con (.int .i64 0), .con (.int .i64 0), .con (.string ⟨#[]⟩), .con (.slice none 0 0)] := by kernel_rfl
@[go_sem] theorem ty_kind91 : tkind Tryz.prog 91 = 5 := by kernel_rfl
@[go_sem] theorem ty_flds91 : tflds Tryz.prog 91 = true := by kernel_rfl
@[go_sem] theorem ty_fld91_0 : tfld Tryz.prog 91 0 = some (0, 3, 1) := by kernel_rfl
@[go_sem] theorem ty_pl91_0 : places Tryz.prog 91 0 = some (0, 1) := by kernel_rfl
@[go_sem] theorem ty_fld91_1 : tfld Tryz.prog 91 1 = some (1, 3, 1) := by kernel_rfl
@[go_sem] theorem ty_pl91_1 : places Tryz.prog 91 1 = some (1, 1) := by kernel_rfl
@[go_sem] theorem ty_fld91_2 : tfld Tryz.prog 91 2 = some (2, 9, 1) := by kernel_rfl
@[go_sem] theorem ty_pl91_2 : places Tryz.prog 91 2 = some (2, 1) := by kernel_rfl
@[go_sem] theorem ty_fld91_3 : tfld Tryz.prog 91 3 = some (3, 90, 1) := by kernel_rfl
@[go_sem] theorem ty_pl91_3 : places Tryz.prog 91 3 = some (3, 1) := by kernel_rfl
@[go_sem] theorem ty_sz92 : tsz Tryz.prog 92 = some 4 := by kernel_rfl
@[go_sem] theorem ty_agg92 : tagg Tryz.prog 92 = some true := by kernel_rfl
@[go_sem] theorem ty_zero92 : tzero Tryz.prog 92 = some [.con (.int .i64 0), .con (.int .i64 0), .con (.string ⟨#[]⟩), .con (.slice none 0 0)] := by kernel_rfl
@[go_sem] theorem ty_zv92 : tzV Tryz.prog 92 = some (.agg [.con (.int .i64 0), .con (.int .i64 0), .con (.string ⟨#[]⟩), .con (.slice none 0 0)]) := by kernel_rfl
@[go_sem] theorem ty_kind92 : tkind Tryz.prog 92 = 5 := by kernel_rfl
@[go_sem] theorem ty_flds92 : tflds Tryz.prog 92 = true := by kernel_rfl
@[go_sem] theorem ty_fld92_0 : tfld Tryz.prog 92 0 = some (0, 3, 1) := by kernel_rfl
@[go_sem] theorem ty_pl92_0 : places Tryz.prog 92 0 = some (0, 1) := by kernel_rfl
@[go_sem] theorem ty_fld92_1 : tfld Tryz.prog 92 1 = some (1, 3, 1) := by kernel_rfl
@[go_sem] theorem ty_pl92_1 : places Tryz.prog 92 1 = some (1, 1) := by kernel_rfl
@[go_sem] theorem ty_fld92_2 : tfld Tryz.prog 92 2 = some (2, 9, 1) := by kernel_rfl
@[go_sem] theorem ty_pl92_2 : places Tryz.prog 92 2 = some (2, 1) := by kernel_rfl
@[go_sem] theorem ty_fld92_3 : tfld Tryz.prog 92 3 = some (3, 90, 1) := by kernel_rfl
@[go_sem] theorem ty_pl92_3 : places Tryz.prog 92 3 = some (3, 1) := by kernel_rfl
@[go_sem] theorem ty_sz93 : tsz Tryz.prog 93 = some 1 := by kernel_rfl
@[go_sem] theorem ty_agg93 : tagg Tryz.prog 93 = some false := by kernel_rfl
@[go_sem] theorem ty_zero93 : tzero Tryz.prog 93 = some [.con .nilFunc] := by kernel_rfl
@[go_sem] theorem ty_sz94 : tsz Tryz.prog 94 = some 1 := by kernel_rfl
@[go_sem] theorem ty_agg94 : tagg Tryz.prog 94 = some false := by kernel_rfl
@[go_sem] theorem ty_zero94 : tzero Tryz.prog 94 = some [.con .nilFunc] := by kernel_rfl
@[go_sem] theorem ty_sz95 : tsz Tryz.prog 95 = some 1 := by kernel_rfl
@[go_sem] theorem ty_agg95 : tagg Tryz.prog 95 = some false := by kernel_rfl
@[go_sem] theorem ty_zero95 : tzero Tryz.prog 95 = some [.con .nilFunc] := by kernel_rfl
@[go_sem] theorem ty_sz96 : tsz Tryz.prog 96 = some 1 := by kernel_rfl
@[go_sem] theorem ty_agg96 : tagg Tryz.prog 96 = some false := by kernel_rfl
@[go_sem] theorem ty_zero96 : tzero Tryz.prog 96 = some [.con .nilFunc] := by kernel_rfl
@[go_sem] theorem ty_sz97 : tsz Tryz.prog 97 = some 1 := by kernel_rfl
@[go_sem] theorem ty_agg97 : tagg Tryz.prog 97 = some false := by kernel_rfl
@[go_sem] theorem ty_zero97 : tzero Tryz.prog 97 = some [.con .nilFunc] := by kernel_rfl
@[go_sem] theorem ty_sz98 : tsz Tryz.prog 98 = some 1 := by kernel_rfl
@[go_sem] theorem ty_agg98 : tagg Tryz.prog 98 = some false := by kernel_rfl
@[go_sem] theorem ty_zero98 : tzero Tryz.prog 98 = some [.con (.slice none 0 0)] := by kernel_rfl
@[go_sem] theorem ty_kind98 : tkind Tryz.prog 98 = 4 := by kernel_rfl
@[go_sem] theorem ty_elem98 : telem Tryz.prog 98 = some (115, 5, 64) := by kernel_rfl
@[go_sem] theorem ty_sz99 : tsz Tryz.prog 99 = some 1 := by kernel_rfl
@[go_sem] theorem ty_agg99 : tagg Tryz.prog 99 = some false := by kernel_rfl
@[go_sem] theorem ty_zero99 : tzero Tryz.prog 99 = some [.con .nilFunc] := by kernel_rfl
@[go_sem] theorem ty_sz100 : tsz Tryz.prog 100 = some 1 := by kernel_rfl
@[go_sem] theorem ty_agg100 : tagg Tryz.prog 100 = some false := by kernel_rfl
@[go_sem] theorem ty_zero100 : tzero Tryz.prog 100 = some [.con (.slice none 0 0)] := by kernel_rfl
@[go_sem] theorem ty_kind100 : tkind Tryz.prog 100 = 4 := by kernel_rfl
@[go_sem] theorem ty_elem100 : telem Tryz.prog 100 = some (106, 2, 24) := by kernel_rfl
@[go_sem] theorem ty_sz101 : tsz Tryz.prog 101 = some 1 := by kernel_rfl
@[go_sem] theorem ty_agg101 : tagg Tryz.prog 101 = some false := by kernel_rfl
@[go_sem] theorem ty_zero101 : tzero Tryz.prog 101 = some [.con (.slice none 0 0)] := by kernel_rfl
@[go_sem] theorem ty_kind101 : tkind Tryz.prog 101 = 4 := by kernel_rfl
@[go_sem] theorem ty_elem101 : telem Tryz.prog 101 = some (9, 1, 16) := by kernel_rfl
@[go_sem] theorem ty_sz102 : tsz Tryz.prog 102 = some 4 := by kernel_rfl
@[go_sem] theorem ty_agg102 : tagg Tryz.prog 102 = some true := by kernel_rfl
@[go_sem] theorem ty_zero102 : tzero Tryz.prog 102 = some [.con (.string ⟨#[]⟩), .con (.slice none 0 0), .con (.slice none 0 0), .con (.slice none 0 0)] := by kernel_rfl
@[go_sem] theorem ty_kind102 : tkind Tryz.prog 102 = 5 := by kernel_rfl
@[go_sem] theorem ty_flds102 : tflds Tryz.prog 102 = true := by kernel_rfl
@[go_sem] theorem ty_fld102_0 : tfld Tryz.prog 102 0 = some (0, 9, 1) := by kernel_rfl
@[go_sem] theorem ty_pl102_0 : places Tryz.prog 102 0 = some (0, 1) := by kernel_rfl
@[go_sem] theorem ty_fld102_1 : tfld Tryz.prog 102 1 = some (1, 100, 1) := by kernel_rfl
@[go_sem] theorem ty_pl102_1 : places Tryz.prog 102 1 = some (1, 1) := by kernel_rfl
@[go_sem] theorem ty_fld102_2 : tfld Tryz.prog 102 2 = some (2, 101, 1) := by kernel_rfl
@[go_sem] theorem ty_pl102_2 : places Tryz.prog 102 2 = some (2, 1) := by kernel_rfl
@[go_sem] theorem ty_fld102_3 : tfld Tryz.prog 102 3 = some (3, 70, 1) := by kernel_rfl
@[go_sem] theorem ty_pl102_3 : places Tryz.prog 102 3 = some (3, 1) := by kernel_rfl
@[go_sem] theorem ty_sz103 : tsz Tryz.prog 103 = some 4 := by kernel_rfl
@[go_sem] theorem ty_agg103 : tagg Tryz.prog 103 = some true := by kernel_rfl
@[go_sem] theorem ty_zero103 : tzero Tryz.prog 103 = some [.con (.string ⟨#[]⟩), .con (.slice none 0 0), .con (.slice none 0 0), .con (.slice none 0 0)] := by kernel_rfl
@[go_sem] theorem ty_kind103 : tkind Tryz.prog 103 = 5 := by kernel_rfl
@[go_sem] theorem ty_flds103 : tflds Tryz.prog 103 = true := by kernel_rfl
@[go_sem] theorem ty_fld103_0 : tfld Tryz.prog 103 0 = some (0, 9, 1) := by kernel_rfl
@[go_sem] theorem ty_pl103_0 : places Tryz.prog 103 0 = some (0, 1) := by kernel_rfl
@[go_sem] theorem ty_fld103_1 : tfld Tryz.prog 103 1 = some (1, 100, 1) := by kernel_rfl
@[go_sem] theorem ty_pl103_1 : places Tryz.prog 103 1 = some (1, 1) := by kernel_rfl
@[go_sem] theorem ty_fld103_2 : tfld Tryz.prog 103 2 = some (2, 101, 1) := by kernel_rfl
@[go_sem] theorem ty_pl103_2 : places Tryz.prog 103 2 = some (2, 1) := by kernel_rfl
@[go_sem] theorem ty_fld103_3 : tfld Tryz.prog 103 3 = some (3, 70, 1) := by kernel_rfl
@[go_sem] theorem ty_pl103_3 : places Tryz.prog 103 3 = some (3, 1) := by kernel_rfl
@[go_sem] theorem ty_sz104 : tsz Tryz.prog 104 = some 1 := by kernel_rfl
@[go_sem] theorem ty_agg104 : tagg Tryz.prog 104 = some false := by kernel_rfl
@[go_sem] theorem ty_zero104 : tzero Tryz.prog 104 = some [.con .nilFunc] := by kernel_rfl
@[go_sem] theorem ty_sz105 : tsz Tryz.prog 105 = some 2 := by kernel_rfl
@[go_sem] theorem ty_agg105 : tagg Tryz.prog 105 = some true := by kernel_rfl
@[go_sem] theorem ty_zero105 : tzero Tryz.prog 105 = some [.con (.string ⟨#[]⟩), .con (.int .i64 0)] := by kernel_rfl
@[go_sem] theorem ty_kind105 : tkind Tryz.prog 105 = 5 := by kernel_rfl
@[go_sem] theorem ty_flds105 : tflds Tryz.prog 105 = true := by kernel_rfl
@[go_sem] theorem ty_fld105_0 : tfld Tryz.prog 105 0 = some (0, 9, 1) := by kernel_rfl
@[go_sem] theorem ty_pl105_0 : places Tryz.prog 105 0 = some (0, 1) := by kernel_rfl
@[go_sem] theorem ty_fld105_1 : tfld Tryz.prog 105 1 = some (1, 3, 1) := by kernel_rfl
@[go_sem] theorem ty_pl105_1 : places Tryz.prog 105 1 = some (1, 1) := by kernel_rfl
@[go_sem] theorem ty_sz106 : tsz Tryz.prog 106 = some 2 := by kernel_rfl
@[go_sem] theorem ty_agg106 : tagg Tryz.prog 106 = some true := by kernel_rfl
@[go_sem] theorem ty_zero106 : tzero Tryz.prog 106 = some [.con (.string ⟨#[]⟩), .con (.int .i64 0)] := by kernel_rfl
@[go_sem] theorem ty_kind106 : tkind Tryz.prog 106 = 5 := by kernel_rfl
@[go_sem] theorem ty_flds106 : tflds Tryz.prog 106 = true := by kernel_rfl
@[go_sem] theorem ty_fld106_0 : tfld Tryz.prog 106 0 = some (0, 9, 1) := by kernel_rfl
@[go_sem] theorem ty_pl106_0 : places Tryz.prog 106 0 = some (0, 1) := by kernel_rfl
@[go_sem] theorem ty_fld106_1 : tfld Tryz.prog 106 1 = some (1, 3, 1) := by kernel_rfl
@[go_sem] theorem ty_pl106_1 : places Tryz.prog 106 1 = some (1, 1) := by kernel_rfl
@[go_sem] theorem ty_sz107 : tsz Tryz.prog 107 = some 1 := by kernel_rfl
@[go_sem] theorem ty_agg107 : tagg Tryz.prog 107 = some false := by kernel_rfl
@[go_sem] theorem ty_zero107 : tzero Tryz.prog 107 = some [.con .nilFunc] := by kernel_rfl
@[go_sem] theorem ty_sz108 : tsz Tryz.prog 108 = some 1 := by kernel_rfl
@[go_sem] theorem ty_agg108 : tagg Tryz.prog 108 = some false := by kernel_rfl
@[go_sem] theorem ty_zero108 : tzero Tryz.prog 108 = some [.con .nilFunc] := by kernel_rfl
@[go_sem] theorem ty_sz110 : tsz Tryz.prog 110 = some 1 := by kernel_rfl
@[go_sem] theorem ty_agg110 : tagg Tryz.prog 110 = some false := by kernel_rfl
@[go_sem] theorem ty_zero110 : tzero Tryz.prog 110 = some [.con .nilFunc] := by kernel_rfl
@[go_sem] theorem ty_sz112 : tsz Tryz.prog 112 = some 1 := by kernel_rfl
@[go_sem] theorem ty_agg112 : tagg Tryz.prog 112 = some false := by kernel_rfl
@[go_sem] theorem ty_zero112 : tzero Tryz.prog 112 = some [.con .nilFunc] := by kernel_rfl
@[go_sem] theorem ty_sz113 : tsz Tryz.prog 113 = some 1 := by kernel_rfl
@[go_sem] theorem ty_agg113 : tagg Tryz.prog 113 = some false := by kernel_rfl
@[go_sem] theorem ty_zero113 : tzero Tryz.prog 113 = some [.con .nilFunc] := by kernel_rfl
@[go_sem] theorem ty_sz114 : tsz Tryz.prog 114 = some 5 := by kernel_rfl
@[go_sem] theorem ty_agg114 : tagg Tryz.prog 114 = some true := by kernel_rfl
@[go_sem] theorem ty_zero114 : tzero Tryz.prog 114 = some [.con (.int .i64 0), .con (.int .i64 0), .con (.int .i64 0), .con (.string ⟨#[]⟩), .con (.slice none 0 0)] := by kernel_rfl
@[go_sem] theorem ty_kind114 : tkind Tryz.prog 114 = 5 := by kernel_rfl
@[go_sem] theorem ty_flds114 : tflds Tryz.prog 114 = true := by kernel_rfl
@[go_sem] theorem ty_fld114_0 : tfld Tryz.prog 114 0 = some (0, 3, 1) := by kernel_rfl
@[go_sem] theorem ty_pl114_0 : places Tryz.prog 114 0 = some (0, 1) := by kernel_rfl
@[go_sem] theorem ty_fld114_1 : tfld Tryz.prog 114 1 = some (1, 92, 4) := by kernel_rfl
@[go_sem] theorem ty_pl114_1 : places Tryz.prog 114 1 = some (1, 4) := by kernel_rfl
@[go_sem] theorem ty_sz115 : tsz Tryz.prog 115 = some 5 := by kernel_rfl
@[go_sem] theorem ty_agg115 : tagg Tryz.prog 115 = some true := by kernel_rfl
@[go_sem] theorem ty_zero115 : tzero Tryz.prog 115 = some [.con (.int .i64 0), .con (.int .i64 0), .con (.int .i64 0), .con (.string ⟨#[]⟩), .con (.slice none 0 0)] := by kernel_rfl
@[go_sem] theorem ty_kind115 : tkind Tryz.prog 115 = 5 := by kernel_rfl
@[go_sem] theorem ty_flds115 : tflds Tryz.prog 115 = true := by kernel_rfl
@[go_sem] theorem ty_fld115_0 : tfld Tryz.prog 115 0 = some (0, 3, 1) := by kernel_rfl
@[go_sem] theorem ty_pl115_0 : places Tryz.prog 115 0 = some (0, 1) := by kernel_rfl
@[go_sem] theorem ty_fld115_1 : tfld Tryz.prog 115 1 = some (1, 92, 4) := by kernel_rfl
@[go_sem] theorem ty_pl115_1 : places Tryz.prog 115 1 = some (1, 4) := by kernel_rfl
@[go_sem] theorem ty_sz116 : tsz Tryz.prog 116 = some 1 := by kernel_rfl
@[go_sem] theorem ty_agg116 : tagg Tryz.prog 116 = some false := by kernel_rfl
@[go_sem] theorem ty_zero116 : tzero Tryz.prog 116 = some [.con .nilFunc] := by kernel_rfl
@[go_sem] theorem ty_sz117 : tsz Tryz.prog 117 = some 1 := by kernel_rfl
@[go_sem] theorem ty_agg117 : tagg Tryz.prog 117 = some false := by kernel_rfl
@[go_sem] theorem ty_zero117 : tzero Tryz.prog 117 = some [.con .nilFunc] := by kernel_rfl
@[go_sem] theorem ty_sz119 : tsz Tryz.prog 119 = some 1 := by kernel_rfl
@[go_sem] theorem ty_agg119 : tagg Tryz.prog 119 = some false := by kernel_rfl
@[go_sem] theorem ty_zero119 : tzero Tryz.prog 119 = some [.con .nilFunc] := by kernel_rfl
@[go_sem] theorem ty_sz120 : tsz Tryz.prog 120 = some 1 := by kernel_rfl
@[go_sem] theorem ty_agg120 : tagg Tryz.prog 120 = some false := by kernel_rfl
@[go_sem] theorem ty_zero120 : tzero Tryz.prog 120 = some [.con .nilFunc] := by kernel_rfl
@[go_sem] theorem ty_sz121 : tsz Tryz.prog 121 = some 1 := by kernel_rfl
@[go_sem] theorem ty_agg121 : tagg Tryz.prog 121 = some false := by kernel_rfl
@[go_sem] theorem ty_zero121 : tzero Tryz.prog 121 = some [.con .nilFunc] := by kernel_rfl
@[go_sem] theorem ty_sz122 : tsz Tryz.prog 122 = some 1 := by kernel_rfl
@[go_sem] theorem ty_agg122 : tagg Tryz.prog 122 = some false := by kernel_rfl
@[go_sem] theorem ty_zero122 : tzero Tryz.prog 122 = some [.con .nilFunc] := by kernel_rfl
@[go_sem] theorem ty_sz123 : tsz Tryz.prog 123 = some 1 := by kernel_rfl
@[go_sem] theorem ty_agg123 : tagg Tryz.prog 123 = some false := by kernel_rfl
@[go_sem] theorem ty_zero123 : tzero Tryz.prog 123 = some [.con .nilFunc] := by kernel_rfl
@[go_sem] theorem ty_sz124 : tsz Tryz.prog 124 = some 3 := by kernel_rfl
@[go_sem] theorem ty_agg124 : tagg Tryz.prog 124 = some true := by kernel_rfl
@[go_sem] theorem ty_zero124 : tzero Tryz.prog 124 = some [.con (.string ⟨#[]⟩), .con (.slice none 0 0), .con (.slice none 0 0)] := by kernel_rfl
@[go_sem] theorem ty_kind124 : tkind Tryz.prog 124 = 5 := by kernel_rfl
@[go_sem] theorem ty_flds124 : tflds Tryz.prog 124 = true := by kernel_rfl
@[go_sem] theorem ty_fld124_0 : tfld Tryz.prog 124 0 = some (0, 9, 1) := by kernel_rfl
@[go_sem] theorem ty_pl124_0 : places Tryz.prog 124 0 = some (0, 1) := by kernel_rfl
@[go_sem] theorem ty_fld124_1 : tfld Tryz.prog 124 1 = some (1, 101, 1) := by kernel_rfl
@[go_sem] theorem ty_pl124_1 : places Tryz.prog 124 1 = some (1, 1) := by kernel_rfl
@[go_sem] theorem ty_fld124_2 : tfld Tryz.prog 124 2 = some (2, 101, 1) := by kernel_rfl
@[go_sem] theorem ty_pl124_2 : places Tryz.prog 124 2 = some (2, 1) := by kernel_rfl
@[go_sem] theorem ty_sz125 : tsz Tryz.prog 125 = some 3 := by kernel_rfl
@[go_sem] theorem ty_agg125 : tagg Tryz.prog 125 = some true := by kernel_rfl
@[go_sem] theorem ty_zero125 : tzero Tryz.prog 125 = some [.con (.string ⟨#[]⟩), .con (.slice none 0 0), .con (.slice none 0 0)] := by kernel_rfl
@[go_sem] theorem ty_kind125 : tkind Tryz.prog 125 = 5 := by kernel_rfl
@[go_sem] theorem ty_flds125 : tflds Tryz.prog 125 = true := by kernel_rfl
@[go_sem] theorem ty_fld125_0 : tfld Tryz.prog 125 0 = some (0, 9, 1) := by kernel_rfl
@[go_sem] theorem ty_pl125_0 : places Tryz.prog 125 0 = some (0, 1) := by kernel_rfl
@[go_sem] theorem ty_fld125_1 : tfld Tryz.prog 125 1 = some (1, 101, 1) := by kernel_rfl
@[go_sem] theorem ty_pl125_1 : places Tryz.prog 125 1 = some (1, 1) := by kernel_rfl
@[go_sem] theorem ty_fld125_2 : tfld Tryz.prog 125 2 = some (2, 101, 1) := by kernel_rfl
@[go_sem] theorem ty_pl125_2 : places Tryz.prog 125 2 = some (2, 1) := by kernel_rfl
@[go_sem] theorem ty_sz126 : tsz Tryz.prog 126 = some 1 := by kernel_rfl
@[go_sem] theorem ty_agg126 : tagg Tryz.prog 126 = some false := by kernel_rfl
@[go_sem] theorem ty_zero126 : tzero Tryz.prog 126 = some [.con (.slice none 0 0)] := by kernel_rfl
@[go_sem] theorem ty_kind126 : tkind Tryz.prog 126 = 4 := by kernel_rfl
@[go_sem] theorem ty_elem126 : telem Tryz.prog 126 = some (131, 5, 72) := by kernel_rfl
@[go_sem] theorem ty_sz127 : tsz Tryz.prog 127 = some 1 := by kernel_rfl
@[go_sem] theorem ty_agg127 : tagg Tryz.prog 127 = some false := by kernel_rfl
@[go_sem] theorem ty_zero127 : tzero Tryz.prog 127 = some [.con .nilFunc] := by kernel_rfl
@[go_sem] theorem ty_sz128 : tsz Tryz.prog 128 = some 1 := by kernel_rfl
@[go_sem] theorem ty_agg128 : tagg Tryz.prog 128 = some false := by kernel_rfl
@[go_sem] theorem ty_zero128 : tzero Tryz.prog 128 = some [.con .nilFunc] := by kernel_rfl
@[go_sem] theorem ty_sz129 : tsz Tryz.prog 129 = some 1 := by kernel_rfl
@[go_sem] theorem ty_agg129 : tagg Tryz.prog 129 = some false := by kernel_rfl
@[go_sem] theorem ty_zero129 : tzero Tryz.prog 129 = some [.con (.map none)] := by kernel_rfl
@[go_sem] theorem ty_map129 : tmap Tryz.prog 129 = some (9, 92) := by kernel_rfl
@[go_sem] theorem ty_sz130 : tsz Tryz.prog 130 = some 5 := by kernel_rfl
@[go_sem] theorem ty_agg130 : tagg Tryz.prog 130 = some true := by kernel_rfl
@[go_sem] theorem ty_zero130 : tzero Tryz.prog 130 = some [.con (.string ⟨#[]⟩), .con (.int .i64 0), .con (.int .i64 0), .con (.string ⟨#[]⟩), .con (.slice none 0 0)] := by kernel_rfl
@[go_sem] theorem ty_kind130 : tkind Tryz.prog 130 = 5 := by kernel_rfl
@[go_sem] theorem ty_flds130 : tflds Tryz.prog 130 = true := by kernel_rfl
@[go_sem] theorem ty_fld130_0 : tfld Tryz.prog 130 0 = some (0, 9, 1) := by kernel_rfl
@[go_sem] theorem ty_pl130_0 : places Tryz.prog 130 0 = some (0, 1) := by kernel_rfl
@[go_sem] theorem ty_fld130_1 : tfld Tryz.prog 130 1 = some (1, 92, 4) := by kernel_rfl
@[go_sem] theorem ty_pl130_1 : places Tryz.prog 130 1 = some (1, 4) := by kernel_rfl
@[go_sem] theorem ty_sz131 : tsz Tryz.prog 131 = some 5 := by kernel_rfl
@[go_sem] theorem ty_agg131 : tagg Tryz.prog 131 = some true := by kernel_rfl
@[go_sem] theorem ty_zero131 : tzero Tryz.prog 131 = some [.con (.string ⟨#[]⟩), .con (.int .i64 0), .con (.int .i64 0), .con (.string ⟨#[]⟩), .con (.slice none 0 0)] := by kernel_rfl
@[go_sem] theorem ty_kind131 : tkind Tryz.prog 131 = 5 := by kernel_rfl
@[go_sem] theorem ty_flds131 : tflds Tryz.prog 131 = true := by kernel_rfl
@[go_sem] theorem ty_fld131_0 : tfld Tryz.prog 131 0 = some (0, 9, 1) := by kernel_rfl
@[go_sem] theorem ty_pl131_0 : places Tryz.prog 131 0 = some (0, 1) := by kernel_rfl
@[go_sem] theorem ty_fld131_1 : tfld Tryz.prog 131 1 = some (1, 92, 4) := by kernel_rfl
@[go_sem] theorem ty_pl131_1 : places Tryz.prog 131 1 = some (1, 4) := by kernel_rfl
@[go_sem] theorem ty_sz133 : tsz Tryz.prog 133 = some 1 := by kernel_rfl
@[go_sem] theorem ty_agg133 : tagg Tryz.prog 133 = some false := by kernel_rfl
@[go_sem] theorem ty_zero133 : tzero Tryz.prog 133 = some [.con .nilFunc] := by kernel_rfl
@[go_sem] theorem ty_sz134 : tsz Tryz.prog 134 = some 1 := by kernel_rfl
@[go_sem] theorem ty_agg134 : tagg Tryz.prog 134 = some false := by kernel_rfl
@[go_sem] theorem ty_zero134 : tzero Tryz.prog 134 = some [.con .nilFunc] := by kernel_rfl
@[go_sem] theorem ty_sz135 : tsz Tryz.prog 135 = some 1 := by kernel_rfl
@[go_sem] theorem ty_agg135 : tagg Tryz.prog 135 = some false := by kernel_rfl
@[go_sem] theorem ty_zero135 : tzero Tryz.prog 135 = some [.con .nilFunc] := by kernel_rfl
@[go_sem] theorem ty_sz136 : tsz Tryz.prog 136 = some 1 := by kernel_rfl
@[go_sem] theorem ty_agg136 : tagg Tryz.prog 136 = some false := by kernel_rfl
@[go_sem] theorem ty_zero136 : tzero Tryz.prog 136 = some [.con (.slice none 0 0)] := by kernel_rfl
@[go_sem] theorem ty_kind136 : tkind Tryz.prog 136 = 4 := by kernel_rfl
@[go_sem] theorem ty_elem136 : telem Tryz.prog 136 = some (125, 3, 64) := by kernel_rfl
@[go_sem] theorem ty_sz137 : tsz Tryz.prog 137 = some 1 := by kernel_rfl
@[go_sem] theorem ty_agg137 : tagg Tryz.prog 137 = some false := by kernel_rfl
@[go_sem] theorem ty_zero137 : tzero Tryz.prog 137 = some [.con .nilFunc] := by kernel_rfl
@[go_sem] theorem ty_sz138 : tsz Tryz.prog 138 = some 1 := by kernel_rfl
@[go_sem] theorem ty_agg138 : tagg Tryz.prog 138 = some false := by kernel_rfl
@[go_sem] theorem ty_zero138 : tzero Tryz.prog 138 = some [.con (.slice none 0 0)] := by kernel_rfl
@[go_sem] theorem ty_kind138 : tkind Tryz.prog 138 = 4 := by kernel_rfl
@[go_sem] theorem ty_elem138 : telem Tryz.prog 138 = some (145, 2, 32) := by kernel_rfl
@[go_sem] theorem ty_sz140 : tsz Tryz.prog 140 = some 1 := by kernel_rfl
@[go_sem] theorem ty_agg140 : tagg Tryz.prog 140 = some false := by kernel_rfl
@[go_sem] theorem ty_zero140 : tzero Tryz.prog 140 = some [.con .nilFunc] := by kernel_rfl
@[go_sem] theorem ty_sz141 : tsz Tryz.prog 141 = some 1 := by kernel_rfl
@[go_sem] theorem ty_agg141 : tagg Tryz.prog 141 = some false := by kernel_rfl
@[go_sem] theorem ty_zero141 : tzero Tryz.prog 141 = some [.con .nilFunc] := by kernel_rfl
@[go_sem] theorem ty_sz142 : tsz Tryz.prog 142 = some 1 := by kernel_rfl
@[go_sem] theorem ty_agg142 : tagg Tryz.prog 142 = some false := by kernel_rfl
@[go_sem] theorem ty_zero142 : tzero Tryz.prog 142 = some [.con .nilFunc] := by kernel_rfl
@[go_sem] theorem ty_sz143 : tsz Tryz.prog 143 = some 1 := by kernel_rfl
@[go_sem] theorem ty_agg143 : tagg Tryz.prog 143 = some false := by kernel_rfl
@[go_sem] theorem ty_zero143 : tzero Tryz.prog 143 = some [.con .nilFunc] := by kernel_rfl
@[go_sem] theorem ty_sz144 : tsz Tryz.prog 144 = some 2 := by kernel_rfl
@[go_sem] theorem ty_agg144 : tagg Tryz.prog 144 = some true := by kernel_rfl
@[go_sem] theorem ty_zero144 : tzero Tryz.prog 144 = some [.con (.int .i64 0), .con (.slice none 0 0)] := by kernel_rfl
@[go_sem] theorem ty_kind144 : tkind Tryz.prog 144 = 5 := by kernel_rfl
@[go_sem] theorem ty_flds144 : tflds Tryz.prog 144 = true := by kernel_rfl
@[go_sem] theorem ty_fld144_0 : tfld Tryz.prog 144 0 = some (0, 3, 1) := by kernel_rfl
@[go_sem] theorem ty_pl144_0 : places Tryz.prog 144 0 = some (0, 1) := by kernel_rfl
@[go_sem] theorem ty_fld144_1 : tfld Tryz.prog 144 1 = some (1, 101, 1) := by kernel_rfl
@[go_sem] theorem ty_pl144_1 : places Tryz.prog 144 1 = some (1, 1) := by kernel_rfl
@[go_sem] theorem ty_sz145 : tsz Tryz.prog 145 = some 2 := by kernel_rfl
@[go_sem] theorem ty_agg145 : tagg Tryz.prog 145 = some true := by kernel_rfl
@[go_sem] theorem ty_zero145 : tzero Tryz.prog 145 = some [.con (.int .i64 0), .con (.slice none 0 0)] := by kernel_rfl
@[go_sem] theorem ty_kind145 : tkind Tryz.prog 145 = 5 := by kernel_rfl
@[go_sem] theorem ty_flds145 : tflds Tryz.prog 145 = true := by kernel_rfl
@[go_sem] theorem ty_fld145_0 : tfld Tryz.prog 145 0 = some (0, 3, 1) := by kernel_rfl
@[go_sem] theorem ty_pl145_0 : places Tryz.prog 145 0 = some (0, 1) := by kernel_rfl
@[go_sem] theorem ty_fld145_1 : tfld Tryz.prog 145 1 = some (1, 101, 1) := by kernel_rfl
@[go_sem] theorem ty_pl145_1 : places Tryz.prog 145 1 = some (1, 1) := by kernel_rfl
@[go_sem] theorem ty_sz146 : tsz Tryz.prog 146 = some 1 := by kernel_rfl
@[go_sem] theorem ty_agg146 : tagg Tryz.prog 146 = some false := by kernel_rfl
@[go_sem] theorem ty_zero146 : tzero Tryz.prog 146 = some [.con .nilFunc] := by kernel_rfl
@[go_sem] theorem ty_sz147 : tsz Tryz.prog 147 = some 1 := by kernel_rfl
@[go_sem] theorem ty_agg147 : tagg Tryz.prog 147 = some false := by kernel_rfl
@[go_sem] theorem ty_zero147 : tzero Tryz.prog 147 = some [.con .nilFunc] := by kernel_rfl
@[go_sem] theorem ty_sz148 : tsz Tryz.prog 148 = some 1 := by kernel_rfl
@[go_sem] theorem ty_agg148 : tagg Tryz.prog 148 = some false := by kernel_rfl
@[go_sem] theorem ty_zero148 : tzero Tryz.prog 148 = some [.con .nilFunc] := by kernel_rfl
@[go_sem] theorem ty_sz149 : tsz Tryz.prog 149 = some 1 := by kernel_rfl
@[go_sem] theorem ty_agg149 : tagg Tryz.prog 149 = some false := by kernel_rfl
@[go_sem] theorem ty_zero149 : tzero Tryz.prog 149 = some [.con .nilFunc] := by kernel_rfl
@[go_sem] theorem ty_sz150 : tsz Tryz.prog 150 = some 1 := by kernel_rfl
@[go_sem] theorem ty_agg150 : tagg Tryz.prog 150 = some false := by kernel_rfl
@[go_sem] theorem ty_zero150 : tzero Tryz.prog 150 = some [.con .nilFunc] := by kernel_rfl
@[go_sem] theorem ty_sz151 : tsz Tryz.prog 151 = some 1 := by kernel_rfl
@[go_sem] theorem ty_agg151 : tagg Tryz.prog 151 = some false := by kernel_rfl
@[go_sem] theorem ty_zero151 : tzero Tryz.prog 151 = some [.con .nilFunc] := by kernel_rfl
@[go_sem] theorem ty_sz153 : tsz Tryz.prog 153 = some 1 := by kernel_rfl
@[go_sem] theorem ty_agg153 : tagg Tryz.prog 153 = some false := by kernel_rfl
@[go_sem] theorem ty_zero153 : tzero Tryz.prog 153 = some [.con .nilFunc] := by kernel_rfl
@[go_sem] theorem ty_sz155 : tsz Tryz.prog 155 = some 1 := by kernel_rfl
@[go_sem] theorem ty_agg155 : tagg Tryz.prog 155 = some false := by kernel_rfl
@[go_sem] theorem ty_zero155 : tzero Tryz.prog 155 = some [.con .nilFunc] := by kernel_rfl
@[go_sem] theorem ty_sz156 : tsz Tryz.prog 156 = some 1 := by kernel_rfl
@[go_sem] theorem ty_agg156 : tagg Tryz.prog 156 = some false := by kernel_rfl
@[go_sem] theorem ty_zero156 : tzero Tryz.prog 156 = some [.con .nilFunc] := by kernel_rfl
@[go_sem] theorem ty_sz158 : tsz Tryz.prog 158 = some 1 := by kernel_rfl
@[go_sem] theorem ty_agg158 : tagg Tryz.prog 158 = some false := by kernel_rfl
@[go_sem] theorem ty_zero158 : tzero Tryz.prog 158 = some [.con .nilFunc] := by kernel_rfl
@[go_sem] theorem ty_sz160 : tsz Tryz.prog 160 = some 1 := by kernel_rfl
@[go_sem] theorem ty_agg160 : tagg Tryz.prog 160 = some false := by kernel_rfl
@[go_sem] theorem ty_zero160 : tzero Tryz.prog 160 = some [.con .nilFunc] := by kernel_rfl
@[go_sem] theorem ty_sz161 : tsz Tryz.prog 161 = some 1 := by kernel_rfl
@[go_sem] theorem ty_agg161 : tagg Tryz.prog 161 = some false := by kernel_rfl
@[go_sem] theorem ty_zero161 : tzero Tryz.prog 161 = some [.con (.slice none 0 0)] := by kernel_rfl
@[go_sem] theorem ty_kind161 : tkind Tryz.prog 161 = 4 := by kernel_rfl
@[go_sem] theorem ty_elem161 : telem Tryz.prog 161 = some (253, 3, 48) := by kernel_rfl
@[go_sem] theorem ty_sz163 : tsz Tryz.prog 163 = some 1 := by kernel_rfl
@[go_sem] theorem ty_agg163 : tagg Tryz.prog 163 = some false := by kernel_rfl
@[go_sem] theorem ty_zero163 : tzero Tryz.prog 163 = some [.con .nilFunc] := by kernel_rfl
@[go_sem] theorem ty_sz165 : tsz Tryz.prog 165 = some 1 := by kernel_rfl
@[go_sem] theorem ty_agg165 : tagg Tryz.prog 165 = some false := by kernel_rfl
@[go_sem] theorem ty_zero165 : tzero Tryz.prog 165 = some [.con .nilFunc] := by kernel_rfl
@[go_sem] theorem ty_sz166 : tsz Tryz.prog 166 = some 1 := by kernel_rfl
@[go_sem] theorem ty_agg166 : tagg Tryz.prog 166 = some false := by kernel_rfl
@[go_sem] theorem ty_zero166 : tzero Tryz.prog 166 = some [.con .nilFunc] := by kernel_rfl
@[go_sem] theorem ty_sz167 : tsz Tryz.prog 167 = some 2 := by kernel_rfl
@[go_sem] theorem ty_agg167 : tagg Tryz.prog 167 = some true := by kernel_rfl
@[go_sem] theorem ty_zero167 : tzero Tryz.prog 167 = some [.con (.string ⟨#[]⟩), .con (.slice none 0 0)] := by kernel_rfl
@[go_sem] theorem ty_kind167 : tkind Tryz.prog 167 = 5 := by kernel_rfl
@[go_sem] theorem ty_flds167 : tflds Tryz.prog 167 = true := by kernel_rfl
@[go_sem] theorem ty_fld167_0 : tfld Tryz.prog 167 0 = some (0, 9, 1) := by kernel_rfl
@[go_sem] theorem ty_pl167_0 : places Tryz.prog 167 0 = some (0, 1) := by kernel_rfl
@[go_sem] theorem ty_fld167_1 : tfld Tryz.prog 167 1 = some (1, 101, 1) := by kernel_rfl
@[go_sem] theorem ty_pl167_1 : places Tryz.prog 167 1 = some (1, 1) := by kernel_rfl
@[go_sem] theorem ty_sz168 : tsz Tryz.prog 168 = some 2 := by kernel_rfl
@[go_sem] theorem ty_agg168 : tagg Tryz.prog 168 = some true := by kernel_rfl
@[go_sem] theorem ty_zero168 : tzero Tryz.prog 168 = some [.con (.string ⟨#[]⟩), .con (.slice none 0 0)] := by kernel_rfl
@[go_sem] theorem ty_kind168 : tkind Tryz.prog 168 = 5 := by kernel_rfl
@[go_sem] theorem ty_flds168 : tflds Tryz.prog 168 = true := by kernel_rfl
@[go_sem] theorem ty_fld168_0 : tfld Tryz.prog 168 0 = some (0, 9, 1) := by kernel_rfl
@[go_sem] theorem ty_pl168_0 : places Tryz.prog 168 0 = some (0, 1) := by kernel_rfl
@[go_sem] theorem ty_fld168_1 : tfld Tryz.prog 168 1 = some (1, 101, 1) := by kernel_rfl
@[go_sem] theorem ty_pl168_1 : places Tryz.prog 168 1 = some (1, 1) := by kernel_rfl
@[go_sem] theorem ty_sz170 : tsz Tryz.prog 170 = some 1 := by kernel_rfl
@[go_sem] theorem ty_agg170 : tagg Tryz.prog 170 = some false := by kernel_rfl
@[go_sem] theorem ty_zero170 : tzero Tryz.prog 170 = some [.con .nilFunc] := by kernel_rfl
@[go_sem] theorem ty_sz171 : tsz Tryz.prog 171 = some 1 := by kernel_rfl
@[go_sem] theorem ty_agg171 : tagg Tryz.prog 171 = some false := by kernel_rfl
@[go_sem] theorem ty_zero171 : tzero Tryz.prog 171 = some [.con (.map none)] := by kernel_rfl
@[go_sem] theorem ty_map171 : tmap Tryz.prog 171 = some (9, 4) := by kernel_rfl
@[go_sem] theorem ty_sz172 : tsz Tryz.prog 172 = some 1 := by kernel_rfl
@[go_sem] theorem ty_agg172 : tagg Tryz.prog 172 = some false := by kernel_rfl
@[go_sem] theorem ty_zero172 : tzero Tryz.prog 172 = some [.con .nilFunc] := by kernel_rfl
@[go_sem] theorem ty_sz174 : tsz Tryz.prog 174 = some 1 := by kernel_rfl
@[go_sem] theorem ty_agg174 : tagg Tryz.prog 174 = some false := by kernel_rfl
@[go_sem] theorem ty_zero174 : tzero Tryz.prog 174 = some [.con .nilFunc] := by kernel_rfl
@[go_sem] theorem ty_sz175 : tsz Tryz.prog 175 = some 1 := by kernel_rfl
@[go_sem] theorem ty_agg175 : tagg Tryz.prog 175 = some false := by kernel_rfl
@[go_sem] theorem ty_zero175 : tzero Tryz.prog 175 = some [.con .nilFunc] := by kernel_rfl
@[go_sem] theorem ty_sz176 : tsz Tryz.prog 176 = some 1 := by kernel_rfl
@[go_sem] theorem ty_agg176 : tagg Tryz.prog 176 = some false := by kernel_rfl
@[go_sem] theorem ty_zero176 : tzero Tryz.prog 176 = some [.con .nilFunc] := by kernel_rfl
@[go_sem] theorem ty_sz177 : tsz Tryz.prog 177 = some 1 := by kernel_rfl
@[go_sem] theorem ty_agg177 : tagg Tryz.prog 177 = some false := by kernel_rfl
@[go_sem] theorem ty_zero177 : tzero Tryz.prog 177 = some [.con .nilFunc] := by kernel_rfl
@[go_sem] theorem ty_sz178 : tsz Tryz.prog 178 = some 1 := by kernel_rfl
@[go_sem] theorem ty_agg178 : tagg Tryz.prog 178 = some false := by kernel_rfl
@[go_sem] theorem ty_zero178 : tzero Tryz.prog 178 = some [.con .nilFunc] := by kernel_rfl
@[go_sem] theorem ty_sz179 : tsz Tryz.prog 179 = some 1 := by kernel_rfl
@[go_sem] theorem ty_agg179 : tagg Tryz.prog 179 = some false := by kernel_rfl
@[go_sem] theorem ty_zero179 : tzero Tryz.prog 179 = some [.con .nilFunc] := by kernel_rfl
@[go_sem] theorem ty_sz182 : tsz Tryz.prog 182 = some 1 := by kernel_rfl
@[go_sem] theorem ty_agg182 : tagg Tryz.prog 182 = some false := by kernel_rfl
@[go_sem] theorem ty_zero182 : tzero Tryz.prog 182 = some [.con .nilFunc] := by kernel_rfl
@[go_sem] theorem ty_sz186 : tsz Tryz.prog 186 = some 1 := by kernel_rfl
@[go_sem] theorem ty_agg186 : tagg Tryz.prog 186 = some false := by kernel_rfl
@[go_sem] theorem ty_zero186 : tzero Tryz.prog 186 = some [.con .nilFunc] := by kernel_rfl
@[go_sem] theorem ty_sz190 : tsz Tryz.prog 190 = some 1 := by kernel_rfl
@[go_sem] theorem ty_agg190 : tagg Tryz.prog 190 = some false := by kernel_rfl
@[go_sem] theorem ty_zero190 : tzero Tryz.prog 190 = some [.con .nilFunc] := by kernel_rfl
@[go_sem] theorem ty_sz192 : tsz Tryz.prog 192 = some 1 := by kernel_rfl
@[go_sem] theorem ty_agg192 : tagg Tryz.prog 192 = some false := by kernel_rfl
@[go_sem] theorem ty_zero192 : tzero Tryz.prog 192 = some [.con .nilFunc] := by kernel_rfl
@[go_sem] theorem ty_sz194 : tsz Tryz.prog 194 = some 2 := by kernel_rfl
@[go_sem] theorem ty_agg194 : tagg Tryz.prog 194 = some true := by kernel_rfl
@[go_sem] theorem ty_zero194 : tzero Tryz.prog 194 = some [.con (.string ⟨#[]⟩), .con (.slice none 0 0)] := by kernel_rfl
@[go_sem] theorem ty_kind194 : tkind Tryz.prog 194 = 5 := by kernel_rfl
@[go_sem] theorem ty_flds194 : tflds Tryz.prog 194 = true := by kernel_rfl
@[go_sem] theorem ty_fld194_0 : tfld Tryz.prog 194 0 = some (0, 9, 1) := by kernel_rfl
@[go_sem] theorem ty_pl194_0 : places Tryz.prog 194 0 = some (0, 1) := by kernel_rfl
@[go_sem] theorem ty_fld194_1 : tfld Tryz.prog 194 1 = some (1, 51, 1) := by kernel_rfl
@[go_sem] theorem ty_pl194_1 : places Tryz.prog 194 1 = some (1, 1) := by kernel_rfl
@[go_sem] theorem ty_sz195 : tsz Tryz.prog 195 = some 1 := by kernel_rfl
@[go_sem] theorem ty_agg195 : tagg Tryz.prog 195 = some false := by kernel_rfl
@[go_sem] theorem ty_zero195 : tzero Tryz.prog 195 = some [.con .nilFunc] := by kernel_rfl
@[go_sem] theorem ty_sz197 : tsz Tryz.prog 197 = some 6 := by kernel_rfl
@[go_sem] theorem ty_agg197 : tagg Tryz.prog 197 = some true := by kernel_rfl
@[go_sem] theorem ty_zero197 : tzero Tryz.prog 197 = some [.con (.bool false), .con (.int .i64 0), .con (.int .i64 0), .con (.int .i64 0), .con (.string ⟨#[]⟩), .con (.slice none 0 0)] := by kernel_rfl
@[go_sem] theorem ty_kind197 : tkind Tryz.prog 197 = 5 := by kernel_rfl
@[go_sem] theorem ty_flds197 : tflds Tryz.prog 197 = true := by kernel_rfl
@[go_sem] theorem ty_fld197_0 : tfld Tryz.prog 197 0 = some (0, 4, 1) := by kernel_rfl
@[go_sem] theorem ty_pl197_0 : places Tryz.prog 197 0 = some (0, 1) := by kernel_rfl
@[go_sem] theorem ty_fld197_1 : tfld Tryz.prog 197 1 = some (1, 3, 1) := by kernel_rfl
@[go_sem] theorem ty_pl197_1 : places Tryz.prog 197 1 = some (1, 1) := by kernel_rfl
@[go_sem] theorem ty_fld197_2 : tfld Tryz.prog 197 2 = some (2, 92, 4) := by kernel_rfl
@[go_sem] theorem ty_pl197_2 : places Tryz.prog 197 2 = some (2, 4) := by kernel_rfl
@[go_sem] theorem ty_sz198 : tsz Tryz.prog 198 = some 1 := by kernel_rfl
@[go_sem] theorem ty_agg198 : tagg Tryz.prog 198 = some false := by kernel_rfl
@[go_sem] theorem ty_zero198 : tzero Tryz.prog 198 = some [.con .nilFunc] := by kernel_rfl
@[go_sem] theorem ty_sz200 : tsz Tryz.prog 200 = some 1 := by kernel_rfl
@[go_sem] theorem ty_agg200 : tagg Tryz.prog 200 = some false := by kernel_rfl
@[go_sem] theorem ty_zero200 : tzero Tryz.prog 200 = some [.con .nilFunc] := by kernel_rfl
@[go_sem] theorem ty_sz201 : tsz Tryz.prog 201 = some 1 := by kernel_rfl
@[go_sem] theorem ty_agg201 : tagg Tryz.prog 201 = some false := by kernel_rfl
@[go_sem] theorem ty_zero201 : tzero Tryz.prog 201 = some [.con .nilFunc] := by kernel_rfl
@[go_sem] theorem ty_sz202 : tsz Tryz.prog 202 = some 1 := by kernel_rfl
@[go_sem] theorem ty_agg202 : tagg Tryz.prog 202 = some false := by kernel_rfl
@[go_sem] theorem ty_zero202 : tzero Tryz.prog 202 = some [.con .nilFunc] := by kernel_rfl
@[go_sem] theorem ty_sz204 : tsz Tryz.prog 204 = some 1 := by kernel_rfl
@[go_sem] theorem ty_agg204 : tagg Tryz.prog 204 = some false := by kernel_rfl
@[go_sem] theorem ty_zero204 : tzero Tryz.prog 204 = some [.con .nilFunc] := by kernel_rfl
@[go_sem] theorem ty_sz205 : tsz Tryz.prog 205 = some 1 := by kernel_rfl
@[go_sem] theorem ty_agg205 : tagg Tryz.prog 205 = some false := by kernel_rfl
@[go_sem] theorem ty_zero205 : tzero Tryz.prog 205 = some [.con .nilFunc] := by kernel_rfl
@[go_sem] theorem ty_sz206 : tsz Tryz.prog 206 = some 1 := by kernel_rfl
@[go_sem] theorem ty_agg206 : tagg Tryz.prog 206 = some false := by kernel_rfl
@[go_sem] theorem ty_zero206 : tzero Tryz.prog 206 = some [.con (.slice none 0 0)] := by kernel_rfl
@[go_sem] theorem ty_kind206 : tkind Tryz.prog 206 = 4 := by kernel_rfl
@[go_sem] theorem ty_elem206 : telem Tryz.prog 206 = some (209, 2, 32) := by kernel_rfl
@[go_sem] theorem ty_sz208 : tsz Tryz.prog 208 = some 2 := by kernel_rfl
@[go_sem] theorem ty_agg208 : tagg Tryz.prog 208 = some true := by kernel_rfl
@[go_sem] theorem ty_zero208 : tzero Tryz.prog 208 = some [.con (.int .i64 0), .con (.slice none 0 0)] := by kernel_rfl
@[go_sem] theorem ty_kind208 : tkind Tryz.prog 208 = 5 := by kernel_rfl
@[go_sem] theorem ty_flds208 : tflds Tryz.prog 208 = true := by kernel_rfl
@[go_sem] theorem ty_fld208_0 : tfld Tryz.prog 208 0 = some (0, 3, 1) := by kernel_rfl
@[go_sem] theorem ty_pl208_0 : places Tryz.prog 208 0 = some (0, 1) := by kernel_rfl
@[go_sem] theorem ty_fld208_1 : tfld Tryz.prog 208 1 = some (1, 80, 1) := by kernel_rfl
@[go_sem] theorem ty_pl208_1 : places Tryz.prog 208 1 = some (1, 1) := by kernel_rfl
@[go_sem] theorem ty_sz210 : tsz Tryz.prog 210 = some 1 := by kernel_rfl
@[go_sem] theorem ty_agg210 : tagg Tryz.prog 210 = some false := by kernel_rfl
@[go_sem] theorem ty_zero210 : tzero Tryz.prog 210 = some [.con .nilFunc] := by kernel_rfl
@[go_sem] theorem ty_sz211 : tsz Tryz.prog 211 = some 1 := by kernel_rfl
@[go_sem] theorem ty_agg211 : tagg Tryz.prog 211 = some false := by kernel_rfl
@[go_sem] theorem ty_zero211 : tzero Tryz.prog 211 = some [.con (.slice none 0 0)] := by kernel_rfl
@[go_sem] theorem ty_kind211 : tkind Tryz.prog 211 = 4 := by kernel_rfl
@[go_sem] theorem ty_elem211 : telem Tryz.prog 211 = some (214, 2, 40) := by kernel_rfl
@[go_sem] theorem ty_sz214 : tsz Tryz.prog 214 = some 2 := by kernel_rfl
@[go_sem] theorem ty_agg214 : tagg Tryz.prog 214 = some true := by kernel_rfl
@[go_sem] theorem ty_zero214 : tzero Tryz.prog 214 = some [.con (.string ⟨#[]⟩), .con (.slice none 0 0)] := by kernel_rfl
@[go_sem] theorem ty_kind214 : tkind Tryz.prog 214 = 5 := by kernel_rfl
@[go_sem] theorem ty_flds214 : tflds Tryz.prog 214 = true := by kernel_rfl
@[go_sem] theorem ty_fld214_0 : tfld Tryz.prog 214 0 = some (0, 9, 1) := by kernel_rfl
@[go_sem] theorem ty_pl214_0 : places Tryz.prog 214 0 = some (0, 1) := by kernel_rfl
@[go_sem] theorem ty_fld214_1 : tfld Tryz.prog 214 1 = some (1, 80, 1) := by kernel_rfl
@[go_sem] theorem ty_pl214_1 : places Tryz.prog 214 1 = some (1, 1) := by kernel_rfl
@[go_sem] theorem ty_sz219 : tsz Tryz.prog 219 = some 1 := by kernel_rfl
@[go_sem] theorem ty_agg219 : tagg Tryz.prog 219 = some false := by kernel_rfl
@[go_sem] theorem ty_zero219 : tzero Tryz.prog 219 = some [.con .nilFunc] := by kernel_rfl
@[go_sem] theorem ty_sz220 : tsz Tryz.prog 220 = some 1 := by kernel_rfl
@[go_sem] theorem ty_agg220 : tagg Tryz.prog 220 = some false := by kernel_rfl
@[go_sem] theorem ty_zero220 : tzero Tryz.prog 220 = some [.con .nilFunc] := by kernel_rfl
@[go_sem] theorem ty_sz221 : tsz Tryz.prog 221 = some 1 := by kernel_rfl
@[go_sem] theorem ty_agg221 : tagg Tryz.prog 221 = some false := by kernel_rfl
@[go_sem] theorem ty_zero221 : tzero Tryz.prog 221 = some [.con .nilFunc] := by kernel_rfl
@[go_sem] theorem ty_sz222 : tsz Tryz.prog 222 = some 1 := by kernel_rfl
@[go_sem] theorem ty_agg222 : tagg Tryz.prog 222 = some false := by kernel_rfl
@[go_sem] theorem ty_zero222 : tzero Tryz.prog 222 = some [.con .nilFunc] := by kernel_rfl
@[go_sem] theorem ty_sz223 : tsz Tryz.prog 223 = some 1 := by kernel_rfl
@[go_sem] theorem ty_agg223 : tagg Tryz.prog 223 = some false := by kernel_rfl
@[go_sem] theorem ty_zero223 : tzero Tryz.prog 223 = some [.con .nilFunc] := by kernel_rfl
@[go_sem] theorem ty_sz224 : tsz Tryz.prog 224 = some 1 := by kernel_rfl
@[go_sem] theorem ty_agg224 : tagg Tryz.prog 224 = some false := by kernel_rfl
@[go_sem] theorem ty_zero224 : tzero Tryz.prog 224 = some [.con .nilFunc] := by kernel_rfl
@[go_sem] theorem ty_sz225 : tsz Tryz.prog 225 = some 1 := by kernel_rfl
@[go_sem] theorem ty_agg225 : tagg Tryz.prog 225 = some false := by kernel_rfl
@[go_sem] theorem ty_zero225 : tzero Tryz.prog 225 = some [.con .nilFunc] := by kernel_rfl
@[go_sem] theorem ty_sz226 : tsz Tryz.prog 226 = some 1 := by kernel_rfl
@[go_sem] theorem ty_agg226 : tagg Tryz.prog 226 = some false := by kernel_rfl
@[go_sem] theorem ty_zero226 : tzero Tryz.prog 226 = some [.con .nilFunc] := by kernel_rfl
@[go_sem] theorem ty_sz229 : tsz Tryz.prog 229 = some 1 := by kernel_rfl
@[go_sem] theorem ty_agg229 : tagg Tryz.prog 229 = some false := by kernel_rfl
@[go_sem] theorem ty_zero229 : tzero Tryz.prog 229 = some [.con .nilFunc] := by kernel_rfl
@[go_sem] theorem ty_sz236 : tsz Tryz.prog 236 = some 1 := by kernel_rfl
@[go_sem] theorem ty_agg236 : tagg Tryz.prog 236 = some false := by kernel_rfl
@[go_sem] theorem ty_zero236 : tzero Tryz.prog 236 = some [.con .nilFunc] := by kernel_rfl
@[go_sem] theorem ty_sz237 : tsz Tryz.prog 237 = some 1 := by kernel_rfl
@[go_sem] theorem ty_agg237 : tagg Tryz.prog 237 = some false := by kernel_rfl
@[go_sem] theorem ty_zero237 : tzero Tryz.prog 237 = some [.con .nilFunc] := by kernel_rfl
@[go_sem] theorem ty_sz240 : tsz Tryz.prog 240 = some 1 := by kernel_rfl
@[go_sem] theorem ty_agg240 : tagg Tryz.prog 240 = some false := by kernel_rfl
@[go_sem] theorem ty_zero240 : tzero Tryz.prog 240 = some [.con .nilFunc] := by kernel_rfl
@[go_sem] theorem ty_sz241 : tsz Tryz.prog 241 = some 1 := by kernel_rfl
@[go_sem] theorem ty_agg241 : tagg Tryz.prog 241 = some false := by kernel_rfl
@[go_sem] theorem ty_zero241 : tzero Tryz.prog 241 = some [.con .nilFunc] := by kernel_rfl
@[go_sem] theorem ty_sz242 : tsz Tryz.prog 242 = some 1 := by kernel_rfl
@[go_sem] theorem ty_agg242 : tagg Tryz.prog 242 = some false := by kernel_rfl
@[go_sem] theorem ty_zero242 : tzero Tryz.prog 242 = some [.con .nilFunc] := by kernel_rfl
@[go_sem] theorem ty_sz243 : tsz Tryz.prog 243 = some 1 := by kernel_rfl
@[go_sem] theorem ty_agg243 : tagg Tryz.prog 243 = some false := by kernel_rfl
@[go_sem] theorem ty_zero243 : tzero Tryz.prog 243 = some [.con .nilFunc] := by kernel_rfl
@[go_sem] theorem ty_sz244 : tsz Tryz.prog 244 = some 1 := by kernel_rfl
@[go_sem] theorem ty_agg244 : tagg Tryz.prog 244 = some false := by kernel_rfl
@[go_sem] theorem ty_zero244 : tzero Tryz.prog 244 = some [.con .nilFunc] := by kernel_rfl
@[go_sem] theorem ty_sz254 : tsz Tryz.prog 254 = some 1 := by kernel_rfl
@[go_sem] theorem ty_agg254 : tagg Tryz.prog 254 = some false := by kernel_rfl
@[go_sem] theorem ty_zero254 : tzero Tryz.prog 254 = some [.con .nilFunc] := by kernel_rfl
@[go_sem] theorem ty_sz255 : tsz Tryz.prog 255 = some 1 := by kernel_rfl
@[go_sem] theorem ty_agg255 : tagg Tryz.prog 255 = some false := by kernel_rfl
@[go_sem] theorem ty_zero255 : tzero Tryz.prog 255 = some [.con .nilFunc] := by kernel_rfl
@[go_sem] theorem ty_sz256 : tsz Tryz.prog 256 = some 1 := by kernel_rfl
@[go_sem] theorem ty_agg256 : tagg Tryz.prog 256 = some false := by kernel_rfl
@[go_sem] theorem ty_zero256 : tzero Tryz.prog 256 = some [.con .nilFunc] := by kernel_rfl
@[go_sem] theorem ty_sz257 : tsz Tryz.prog 257 = some 1 := by kernel_rfl
@[go_sem] theorem ty_agg257 : tagg Tryz.prog 257 = some false := by kernel_rfl
@[go_sem] theorem ty_zero257 : tzero Tryz.prog 257 = some [.con .nilFunc] := by kernel_rfl
@[go_sem] theorem ty_sz258 : tsz Tryz.prog 258 = some 1 := by kernel_rfl
@[go_sem] theorem ty_agg258 : tagg Tryz.prog 258 = some false := by kernel_rfl
@[go_sem] theorem ty_zero258 : tzero Tryz.prog 258 = some [.con (.slice none 0 0)] := by kernel_rfl
@[go_sem] theorem ty_kind258 : tkind Tryz.prog 258 = 4 := by kernel_rfl
@[go_sem] theorem ty_elem258 : telem Tryz.prog 258 = some (70, 1, 24) := by kernel_rfl
@[go_sem] theorem ty_sz259 : tsz Tryz.prog 259 = some 1 := by kernel_rfl
@[go_sem] theorem ty_agg259 : tagg Tryz.prog 259 = some false := by kernel_rfl
@[go_sem] theorem ty_zero259 : tzero Tryz.prog 259 = some [.con .nilFunc] := by kernel_rfl
@[go_sem] theorem ty_sz260 : tsz Tryz.prog 260 = some 1 := by kernel_rfl
@[go_sem] theorem ty_agg260 : tagg Tryz.prog 260 = some false := by kernel_rfl
@[go_sem] theorem ty_zero260 : tzero Tryz.prog 260 = some [.con .nilFunc] := by kernel_rfl
@[go_sem] theorem ty_sz270 : tsz Tryz.prog 270 = some 1 := by kernel_rfl
@[go_sem] theorem ty_agg270 : tagg Tryz.prog 270 = some false := by kernel_rfl
@[go_sem] theorem ty_zero270 : tzero Tryz.prog 270 = some [.con .nilFunc] := by kernel_rfl
@[go_sem] theorem ty_sz274 : tsz Tryz.prog 274 = some 5 := by kernel_rfl
@[go_sem] theorem ty_agg274 : tagg Tryz.prog 274 = some true := by kernel_rfl
@[go_sem] theorem ty_zero274 : tzero Tryz.prog 274 = some [.con (.string ⟨#[]⟩), .con (.int .i64 0), .con (.int .i64 0), .con (.string ⟨#[]⟩), .con (.slice none 0 0)] := by kernel_rfl
@[go_sem] theorem ty_kind274 : tkind Tryz.prog 274 = 5 := by kernel_rfl
@[go_sem] theorem ty_flds274 : tflds Tryz.prog 274 = true := by kernel_rfl
@[go_sem] theorem ty_fld274_0 : tfld Tryz.prog 274 0 = some (0, 9, 1) := by kernel_rfl
@[go_sem] theorem ty_pl274_0 : places Tryz.prog 274 0 = some (0, 1) := by kernel_rfl
@[go_sem] theorem ty_fld274_1 : tfld Tryz.prog 274 1 = some (1, 92, 4) := by kernel_rfl
@[go_sem] theorem ty_pl274_1 : places Tryz.prog 274 1 = some (1, 4) := by kernel_rfl
@[go_sem] theorem ty_sz277 : tsz Tryz.prog 277 = some 1 := by kernel_rfl
@[go_sem] theorem ty_agg277 : tagg Tryz.prog 277 = some false := by kernel_rfl
@[go_sem] theorem ty_zero277 : tzero Tryz.prog 277 = some [.con (.int .u64 0)] := by kernel_rfl
@[go_sem] theorem ty_kind277 : tkind Tryz.prog 277 = 3 := by kernel_rfl
@[go_sem] theorem ty_int277 : tint Tryz.prog 277 = some .u64 := by kernel_rfl
@[go_sem] theorem ty_sz279 : tsz Tryz.prog 279 = some 1 := by kernel_rfl
@[go_sem] theorem ty_agg279 : tagg Tryz.prog 279 = some false := by kernel_rfl
@[go_sem] theorem ty_zero279 : tzero Tryz.prog 279 = some [.con .nilFunc] := by kernel_rfl
@[go_sem] theorem ty_sz280 : tsz Tryz.prog 280 = some 1 := by kernel_rfl
@[go_sem] theorem ty_agg280 : tagg Tryz.prog 280 = some false := by kernel_rfl
@[go_sem] theorem ty_zero280 : tzero Tryz.prog 280 = some [.con .nilFunc] := by kernel_rfl
@[go_sem] theorem ty_sz293 : tsz Tryz.prog 293 = some 1 := by kernel_rfl
@[go_sem] theorem ty_agg293 : tagg Tryz.prog 293 = some false := by kernel_rfl
@[go_sem] theorem ty_zero293 : tzero Tryz.prog 293 = some [.con .nilFunc] := by kernel_rfl
@[go_sem] theorem ty_sz294 : tsz Tryz.prog 294 = some 1 := by kernel_rfl
@[go_sem] theorem ty_agg294 : tagg Tryz.prog 294 = some false := by kernel_rfl
@[go_sem] theorem ty_zero294 : tzero Tryz.prog 294 = some [.con (.slice none 0 0)] := by kernel_rfl
@[go_sem] theorem ty_kind294 : tkind Tryz.prog 294 = 4 := by kernel_rfl
@[go_sem] theorem ty_elem294 : telem Tryz.prog 294 = some (98, 1, 24) := by kernel_rfl
@[go_sem] theorem ty_sz296 : tsz Tryz.prog 296 = some 1 := by kernel_rfl
@[go_sem] theorem ty_agg296 : tagg Tryz.prog 296 = some false := by kernel_rfl
@[go_sem] theorem ty_zero296 : tzero Tryz.prog 296 = some [.con .nilFunc] := by kernel_rfl
@[go_sem] theorem ty_sz300 : tsz Tryz.prog 300 = some 1 := by kernel_rfl
@[go_sem] theorem ty_agg300 : tagg Tryz.prog 300 = some false := by kernel_rfl
@[go_sem] theorem ty_zero300 : tzero Tryz.prog 300 = some [.con .nilFunc] := by kernel_rfl
@[go_sem] theorem ty_sz301 : tsz Tryz.prog 301 = some 1 := by kernel_rfl
@[go_sem] theorem ty_agg301 : tagg Tryz.prog 301 = some false := by kernel_rfl
@[go_sem] theorem ty_zero301 : tzero Tryz.prog 301 = some [.con .nilFunc] := by kernel_rfl
@[go_sem] theorem ty_sz302 : tsz Tryz.prog 302 = some 1 := by kernel_rfl
@[go_sem] theorem ty_agg302 : tagg Tryz.prog 302 = some false := by kernel_rfl
@[go_sem] theorem ty_zero302 : tzero Tryz.prog 302 = some [.con .nilFunc] := by kernel_rfl
@[go_sem] theorem ty_sz303 : tsz Tryz.prog 303 = some 1 := by kernel_rfl
@[go_sem] theorem ty_agg303 : tagg Tryz.prog 303 = some false := by kernel_rfl
@[go_sem] theorem ty_zero303 : tzero Tryz.prog 303 = some [.con .nilFunc] := by kernel_rfl
@[go_sem] theorem ty_sz304 : tsz Tryz.prog 304 = some 1 := by kernel_rfl
@[go_sem] theorem ty_agg304 : tagg Tryz.prog 304 = some false := by kernel_rfl
@[go_sem] theorem ty_zero304 : tzero Tryz.prog 304 = some [.con .nilFunc] := by kernel_rfl
@[go_sem] theorem ty_sz305 : tsz Tryz.prog 305 = some 1 := by kernel_rfl
@[go_sem] theorem ty_agg305 : tagg Tryz.prog 305 = some false := by kernel_rfl
@[go_sem] theorem ty_zero305 : tzero Tryz.prog 305 = some [.con .nilFunc] := by kernel_rfl
@[go_sem] theorem ty_sz306 : tsz Tryz.prog 306 = some 1 := by kernel_rfl
@[go_sem] theorem ty_agg306 : tagg Tryz.prog 306 = some false := by kernel_rfl
@[go_sem] theorem ty_zero306 : tzero Tryz.prog 306 = some [.con .nilFunc] := by kernel_rfl
@[go_sem] theorem ty_sz307 : tsz Tryz.prog 307 = some 1 := by kernel_rfl
@[go_sem] theorem ty_agg307 : tagg Tryz.prog 307 = some false := by kernel_rfl
@[go_sem] theorem ty_zero307 : tzero Tryz.prog 307 = some [.con .nilFunc] := by kernel_rfl
@[go_sem] theorem ty_sz308 : tsz Tryz.prog 308 = some 1 := by kernel_rfl
@[go_sem] theorem ty_agg308 : tagg Tryz.prog 308 = some false := by kernel_rfl
@[go_sem] theorem ty_zero308 : tzero Tryz.prog 308 = some [.con .nilFunc] := by kernel_rfl
@[go_sem] theorem ty_sz310 : tsz Tryz.prog 310 = some 1 := by kernel_rfl
@[go_sem] theorem ty_agg310 : tagg Tryz.prog 310 = some false := by kernel_rfl
@[go_sem] theorem ty_zero310 : tzero Tryz.prog 310 = some [.con .nilFunc] := by kernel_rfl
@[go_sem] theorem ty_sz311 : tsz Tryz.prog 311 = some 1 := by kernel_rfl
@[go_sem] theorem ty_agg311 : tagg Tryz.prog 311 = some false := by kernel_rfl
@[go_sem] theorem ty_zero311 : tzero Tryz.prog 311 = some [.con .nilFunc] := by kernel_rfl
@[go_sem] theorem ty_sz312 : tsz Tryz.prog 312 = some 1 := by kernel_rfl
@[go_sem] theorem ty_agg312 : tagg Tryz.prog 312 = some false := by kernel_rfl
@[go_sem] theorem ty_zero312 : tzero Tryz.prog 312 = some [.con .nilFunc] := by kernel_rfl
@[go_sem] theorem ty_sz317 : tsz Tryz.prog 317 = some 1 := by kernel_rfl
@[go_sem] theorem ty_agg317 : tagg Tryz.prog 317 = some false := by kernel_rfl
@[go_sem] theorem ty_zero317 : tzero Tryz.prog 317 = some [.con .nilFunc] := by kernel_rfl
@[go_sem] theorem ty_sz321 : tsz Tryz.prog 321 = some 1 := by kernel_rfl
@[go_sem] theorem ty_agg321 : tagg Tryz.prog 321 = some false := by kernel_rfl
@[go_sem] theorem ty_zero321 : tzero Tryz.prog 321 = some [.con .nilFunc] := by kernel_rfl
@[go_sem] theorem ty_sz324 : tsz Tryz.prog 324 = some 1 := by kernel_rfl
@[go_sem] theorem ty_agg324 : tagg Tryz.prog 324 = some false := by kernel_rfl
@[go_sem] theorem ty_zero324 : tzero Tryz.prog 324 = some [.con (.int .i64 0)] := by kernel_rfl
@[go_sem] theorem ty_kind324 : tkind Tryz.prog 324 = 3 := by kernel_rfl
@[go_sem] theorem ty_int324 : tint Tryz.prog 324 = some .i64 := by kernel_rfl
@[go_sem] theorem ty_sz327 : tsz Tryz.prog 327 = some 1 := by kernel_rfl
@[go_sem] theorem ty_agg327 : tagg Tryz.prog 327 = some false := by kernel_rfl
@[go_sem] theorem ty_zero327 : tzero Tryz.prog 327 = some [.con .nilFunc] := by kernel_rfl
@[go_sem] theorem ty_sz328 : tsz Tryz.prog 328 = some 1 := by kernel_rfl
@[go_sem] theorem ty_agg328 : tagg Tryz.prog 328 = some false := by kernel_rfl
@[go_sem] theorem ty_zero328 : tzero Tryz.prog 328 = some [.con .nilFunc] := by kernel_rfl
@[go_sem] theorem ty_sz331 : tsz Tryz.prog 331 = some 1 := by kernel_rfl
@[go_sem] theorem ty_agg331 : tagg Tryz.prog 331 = some false := by kernel_rfl
@[go_sem] theorem ty_zero331 : tzero Tryz.prog 331 = some [.con (.int .u32 0)] := by kernel_rfl
@[go_sem] theorem ty_kind331 : tkind Tryz.prog 331 = 3 := by kernel_rfl
@[go_sem] theorem ty_int331 : tint Tryz.prog 331 = some .u32 := by kernel_rfl
@[go_sem] theorem ty_sz332 : tsz Tryz.prog 332 = some 1 := by kernel_rfl
@[go_sem] theorem ty_agg332 : tagg Tryz.prog 332 = some false := by kernel_rfl
@[go_sem] theorem ty_zero332 : tzero Tryz.prog 332 = some [.con .nilFunc] := by kernel_rfl
@[go_sem] theorem ty_sz333 : tsz Tryz.prog 333 = some 1 := by kernel_rfl
@[go_sem] theorem ty_agg333 : tagg Tryz.prog 333 = some false := by kernel_rfl
@[go_sem] theorem ty_zero333 : tzero Tryz.prog 333 = some [.con (.int .u64 0)] := by kernel_rfl
@[go_sem] theorem ty_kind333 : tkind Tryz.prog 333 = 3 := by kernel_rfl
@[go_sem] theorem ty_int333 : tint Tryz.prog 333 = some .u64 := by kernel_rfl
@[go_sem] theorem ty_sz334 : tsz Tryz.prog 334 = some 1 := by kernel_rfl
@[go_sem] theorem ty_agg334 : tagg Tryz.prog 334 = some false := by kernel_rfl
@[go_sem] theorem ty_zero334 : tzero Tryz.prog 334 = some [.con .nilFunc] := by kernel_rfl
@[go_sem] theorem ty_sz337 : tsz Tryz.prog 337 = some 1 := by kernel_rfl
@[go_sem] theorem ty_agg337 : tagg Tryz.prog 337 = some false := by kernel_rfl
@[go_sem] theorem ty_zero337 : tzero Tryz.prog 337 = some [.con .nilFunc] := by kernel_rfl
@[go_sem] theorem ty_sz338 : tsz Tryz.prog 338 = some 1 := by kernel_rfl
@[go_sem] theorem ty_agg338 : tagg Tryz.prog 338 = some false := by kernel_rfl
@[go_sem] theorem ty_zero338 : tzero Tryz.prog 338 = some [.con .nilFunc] := by kernel_rfl
@[go_sem] theorem ty_sz342 : tsz Tryz.prog 342 = some 1 := by kernel_rfl
@[go_sem] theorem ty_agg342 : tagg Tryz.prog 342 = some false := by kernel_rfl
@[go_sem] theorem ty_zero342 : tzero Tryz.prog 342 = some [.con .nilFunc] := by kernel_rfl
@[go_sem] theorem ty_sz343 : tsz Tryz.prog 343 = some 1 := by kernel_rfl
@[go_sem] theorem ty_agg343 : tagg Tryz.prog 343 = some false := by kernel_rfl
@[go_sem] theorem ty_zero343 : tzero Tryz.prog 343 = some [.con .nilFunc] := by kernel_rfl
@[go_sem] theorem ty_sz344 : tsz Tryz.prog 344 = some 1 := by kernel_rfl
@[go_sem] theorem ty_agg344 : tagg Tryz.prog 344 = some false := by kernel_rfl
@[go_sem] theorem ty_zero344 : tzero Tryz.prog 344 = some [.con .nilFunc] := by kernel_rfl
@[go_sem] theorem ty_sz345 : tsz Tryz.prog 345 = some 1 := by kernel_rfl
@[go_sem] theorem ty_agg345 : tagg Tryz.prog 345 = some false := by kernel_rfl
@[go_sem] theorem ty_zero345 : tzero Tryz.prog 345 = some [.con .nilFunc] := by kernel_rfl
@[go_sem] theorem ty_sz346 : tsz Tryz.prog 346 = some 1 := by kernel_rfl
@[go_sem] theorem ty_agg346 : tagg Tryz.prog 346 = some false := by kernel_rfl
@[go_sem] theorem ty_zero346 : tzero Tryz.prog 346 = some [.con .nilFunc] := by kernel_rfl
@[go_sem] theorem ty_sz347 : tsz Tryz.prog 347 = some 1 := by kernel_rfl
@[go_sem] theorem ty_agg347 : tagg Tryz.prog 347 = some false := by kernel_rfl
@[go_sem] theorem ty_zero347 : tzero Tryz.prog 347 = some [.con .nilFunc] := by kernel_rfl
@[go_sem] theorem ty_sz348 : tsz Tryz.prog 348 = some 1 := by kernel_rfl
@[go_sem] theorem ty_agg348 : tagg Tryz.prog 348 = some false := by kernel_rfl
@[go_sem] theorem ty_zero348 : tzero Tryz.prog 348 = some [.con .nilFunc] := by kernel_rfl
@[go_sem] theorem ty_sz350 : tsz Tryz.prog 350 = some 1 := by kernel_rfl
@[go_sem] theorem ty_agg350 : tagg Tryz.prog 350 = some false := by kernel_rfl
@[go_sem] theorem ty_zero350 : tzero Tryz.prog 350 = some [.con .nilFunc] := by kernel_rfl
@[go_sem] theorem ty_sz351 : tsz Tryz.prog 351 = some 1 := by kernel_rfl
@[go_sem] theorem ty_agg351 : tagg Tryz.prog 351 = some false := by kernel_rfl
@[go_sem] theorem ty_zero351 : tzero Tryz.prog 351 = some [.con .nilFunc] := by kernel_rfl
@[go_sem] theorem ty_sz360 : tsz Tryz.prog 360 = some 1 := by kernel_rfl
@[go_sem] theorem ty_agg360 : tagg Tryz.prog 360 = some false := by kernel_rfl
@[go_sem] theorem ty_zero360 : tzero Tryz.prog 360 = some [.con (.slice none 0 0)] := by kernel_rfl
@[go_sem] theorem ty_kind360 : tkind Tryz.prog 360 = 4 := by kernel_rfl
@[go_sem] theorem ty_elem360 : telem Tryz.prog 360 = some (5, 1, 1) := by kernel_rfl
@[go_sem] theorem ty_sz361 : tsz Tryz.prog 361 = some 1 := by kernel_rfl
@[go_sem] theorem ty_agg361 : tagg Tryz.prog 361 = some false := by kernel_rfl
@[go_sem] theorem ty_zero361 : tzero Tryz.prog 361 = some [.con .nilFunc] := by kernel_rfl
@[go_sem] theorem ty_sz362 : tsz Tryz.prog 362 = some 1 := by kernel_rfl
@[go_sem] theorem ty_agg362 : tagg Tryz.prog 362 = some false := by kernel_rfl
@[go_sem] theorem ty_zero362 : tzero Tryz.prog 362 = some [.con .nilFunc] := by kernel_rfl
@[go_sem] theorem ty_sz363 : tsz Tryz.prog 363 = some 1 := by kernel_rfl
@[go_sem] theorem ty_agg363 : tagg Tryz.prog 363 = some false := by kernel_rfl
@[go_sem] theorem ty_zero363 : tzero Tryz.prog 363 = some [.con (.slice none 0 0)] := by kernel_rfl
@[go_sem] theorem ty_kind363 : tkind Tryz.prog 363 = 4 := by kernel_rfl
@[go_sem] theorem ty_elem363 : telem Tryz.prog 363 = some (52, 1, 24) := by kernel_rfl
@[go_sem] theorem ty_sz367 : tsz Tryz.prog 367 = some 1 := by kernel_rfl
@[go_sem] theorem ty_agg367 : tagg Tryz.prog 367 = some false := by kernel_rfl
@[go_sem] theorem ty_zero367 : tzero Tryz.prog 367 = some [.con .nilFunc] := by kernel_rfl
@[go_sem] theorem ty_sz368 : tsz Tryz.prog 368 = some 1 := by kernel_rfl
@[go_sem] theorem ty_agg368 : tagg Tryz.prog 368 = some false := by kernel_rfl
@[go_sem] theorem ty_zero368 : tzero Tryz.prog 368 = some [.con .nilFunc] := by kernel_rfl
@[go_sem] theorem ty_sz369 : tsz Tryz.prog 369 = some 1 := by kernel_rfl
@[go_sem] theorem ty_agg369 : tagg Tryz.prog 369 = some false := by kernel_rfl
@[go_sem] theorem ty_zero369 : tzero Tryz.prog 369 = some [.con .nilFunc] := by kernel_rfl
@[go_sem] theorem ty_sz370 : tsz Tryz.prog 370 = some 1 := by kernel_rfl
@[go_sem] theorem ty_agg370 : tagg Tryz.prog 370 = some false := by kernel_rfl
@[go_sem] theorem ty_zero370 : tzero Tryz.prog 370 = some [.con (.int .u64 0)] := by kernel_rfl
@[go_sem] theorem ty_kind370 : tkind Tryz.prog 370 = 3 := by kernel_rfl
@[go_sem] theorem ty_int370 : tint Tryz.prog 370 = some .u64 := by kernel_rfl
@[go_sem] theorem ty_sz374 : tsz Tryz.prog 374 = some 1 := by kernel_rfl
@[go_sem] theorem ty_agg374 : tagg Tryz.prog 374 = some false := by kernel_rfl
@[go_sem] theorem ty_zero374 : tzero Tryz.prog 374 = some [.con (.pointer none)] := by kernel_rfl
@[go_sem] theorem ty_kind374 : tkind Tryz.prog 374 = 6 := by kernel_rfl
@[go_sem] theorem ty_sz387 : tsz Tryz.prog 387 = some 1 := by kernel_rfl
@[go_sem] theorem ty_agg387 : tagg Tryz.prog 387 = some false := by kernel_rfl
@[go_sem] theorem ty_zero387 : tzero Tryz.prog 387 = some [.con (.pointer none)] := by kernel_rfl
@[go_sem] theorem ty_kind387 : tkind Tryz.prog 387 = 6 := by kernel_rfl
@[go_sem] theorem ty_sz398 : tsz Tryz.prog 398 = some 1 := by kernel_rfl
@[go_sem] theorem ty_agg398 : tagg Tryz.prog 398 = some false := by kernel_rfl
@[go_sem] theorem ty_zero398 : tzero Tryz.prog 398 = some [.con .nilFunc] := by kernel_rfl
end Go.Proofs.YtababmnmkmgbbaaGreat
