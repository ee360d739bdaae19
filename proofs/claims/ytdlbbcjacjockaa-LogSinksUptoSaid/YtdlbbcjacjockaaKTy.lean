/- Facts on the types of the translation: each is checked by the kernel. -/
import Derived.Test.YtdlbbcjacjockaaKFw1
import Derived.Test.YtdlbbcjacjockaaKFw2
import Derived.Test.YtdlbbcjacjockaaKFw3
import Derived.Test.YtdlbbcjacjockaaProg
import Derived.KernelRfl
set_option maxRecDepth 100000
namespace Go.Proofs.Ytdlbbcjacjockaa
open Go Fw
@[go_sem] theorem ty_sz1 : tsz Try.prog 1 = some 1 := by kernel_rfl
@[go_sem] theorem ty_agg1 : tagg Try.prog 1 = some false := by kernel_rfl
@[go_sem] theorem ty_zero1 : tzero Try.prog 1 = some [.con .nilFunc] := by kernel_rfl
@[go_sem] theorem ty_sz2 : tsz Try.prog 2 = some 1 := by kernel_rfl
@[go_sem] theorem ty_agg2 : tagg Try.prog 2 = some false := by kernel_rfl
@[go_sem] theorem ty_zero2 : tzero Try.prog 2 = some [.con (.int .i64 0)] := by kernel_rfl
@[go_sem] theorem ty_kind2 : tkind Try.prog 2 = 3 := by kernel_rfl
@[go_sem] theorem ty_int2 : tint Try.prog 2 = some .i64 := by kernel_rfl
@[go_sem] theorem ty_sz3 : tsz Try.prog 3 = some 1 := by kernel_rfl
@[go_sem] theorem ty_agg3 : tagg Try.prog 3 = some false := by kernel_rfl
@[go_sem] theorem ty_zero3 : tzero Try.prog 3 = some [.con (.int .i64 0)] := by kernel_rfl
@[go_sem] theorem ty_kind3 : tkind Try.prog 3 = 3 := by kernel_rfl
@[go_sem] theorem ty_int3 : tint Try.prog 3 = some .i64 := by kernel_rfl
@[go_sem] theorem ty_sz4 : tsz Try.prog 4 = some 1 := by kernel_rfl
@[go_sem] theorem ty_agg4 : tagg Try.prog 4 = some false := by kernel_rfl
@[go_sem] theorem ty_zero4 : tzero Try.prog 4 = some [.con (.bool false)] := by kernel_rfl
@[go_sem] theorem ty_kind4 : tkind Try.prog 4 = 1 := by kernel_rfl
@[go_sem] theorem ty_sz5 : tsz Try.prog 5 = some 1 := by kernel_rfl
@[go_sem] theorem ty_agg5 : tagg Try.prog 5 = some false := by kernel_rfl
@[go_sem] theorem ty_zero5 : tzero Try.prog 5 = some [.con (.int .u8 0)] := by kernel_rfl
@[go_sem] theorem ty_kind5 : tkind Try.prog 5 = 3 := by kernel_rfl
@[go_sem] theorem ty_bz5 : ((Try.prog.info? 5).bind fun x => x.zero) = some (.int .u8 0) := by kernel_rfl
@[go_sem] theorem ty_int5 : tint Try.prog 5 = some .u8 := by kernel_rfl
@[go_sem] theorem ty_sz6 : tsz Try.prog 6 = some 1 := by kernel_rfl
@[go_sem] theorem ty_agg6 : tagg Try.prog 6 = some false := by kernel_rfl
@[go_sem] theorem ty_zero6 : tzero Try.prog 6 = some [.con (.int .u8 0)] := by kernel_rfl
@[go_sem] theorem ty_kind6 : tkind Try.prog 6 = 3 := by kernel_rfl
@[go_sem] theorem ty_int6 : tint Try.prog 6 = some .u8 := by kernel_rfl
@[go_sem] theorem ty_sz7 : tsz Try.prog 7 = some 4 := by kernel_rfl
@[go_sem] theorem ty_agg7 : tagg Try.prog 7 = some true := by kernel_rfl
@[go_sem] theorem ty_zero7 : tzero Try.prog 7 = some [.con (.int .i64 0), .con (.int .i64 0), .con (.bool false), .con (.int .u8 0)] := by kernel_rfl
@[go_sem] theorem ty_kind7 : tkind Try.prog 7 = 5 := by kernel_rfl
@[go_sem] theorem ty_flds7 : tflds Try.prog 7 = true := by kernel_rfl
@[go_sem] theorem ty_fld7_0 : tfld Try.prog 7 0 = some (0, 2, 1) := by kernel_rfl
@[go_sem] theorem ty_pl7_0 : places Try.prog 7 0 = some (0, 1) := by kernel_rfl
@[go_sem] theorem ty_fld7_1 : tfld Try.prog 7 1 = some (1, 3, 1) := by kernel_rfl
@[go_sem] theorem ty_pl7_1 : places Try.prog 7 1 = some (1, 1) := by kernel_rfl
@[go_sem] theorem ty_fld7_2 : tfld Try.prog 7 2 = some (2, 4, 1) := by kernel_rfl
@[go_sem] theorem ty_pl7_2 : places Try.prog 7 2 = some (2, 1) := by kernel_rfl
@[go_sem] theorem ty_fld7_3 : tfld Try.prog 7 3 = some (3, 6, 1) := by kernel_rfl
@[go_sem] theorem ty_pl7_3 : places Try.prog 7 3 = some (3, 1) := by kernel_rfl
@[go_sem] theorem ty_sz8 : tsz Try.prog 8 = some 4 := by kernel_rfl
@[go_sem] theorem ty_agg8 : tagg Try.prog 8 = some true := by kernel_rfl
@[go_sem] theorem ty_zero8 : tzero Try.prog 8 = some [.con (.int .i64 0), .con (.int .i64 0), .con (.bool false), .con (.int .u8 0)] := by kernel_rfl
@[go_sem] theorem ty_kind8 : tkind Try.prog 8 = 5 := by kernel_rfl
@[go_sem] theorem ty_flds8 : tflds Try.prog 8 = true := by kernel_rfl
@[go_sem] theorem ty_fld8_0 : tfld Try.prog 8 0 = some (0, 2, 1) := by kernel_rfl
@[go_sem] theorem ty_pl8_0 : places Try.prog 8 0 = some (0, 1) := by kernel_rfl
@[go_sem] theorem ty_fld8_1 : tfld Try.prog 8 1 = some (1, 3, 1) := by kernel_rfl
@[go_sem] theorem ty_pl8_1 : places Try.prog 8 1 = some (1, 1) := by kernel_rfl
@[go_sem] theorem ty_fld8_2 : tfld Try.prog 8 2 = some (2, 4, 1) := by kernel_rfl
@[go_sem] theorem ty_pl8_2 : places Try.prog 8 2 = some (2, 1) := by kernel_rfl
@[go_sem] theorem ty_fld8_3 : tfld Try.prog 8 3 = some (3, 6, 1) := by kernel_rfl
@[go_sem] theorem ty_pl8_3 : places Try.prog 8 3 = some (3, 1) := by kernel_rfl
@[go_sem] theorem ty_sz9 : tsz Try.prog 9 = some 1 := by kernel_rfl
@[go_sem] theorem ty_agg9 : tagg Try.prog 9 = some false := by kernel_rfl
@[go_sem] theorem ty_zero9 : tzero Try.prog 9 = some [.con (.string ⟨#[]⟩)] := by kernel_rfl
@[go_sem] theorem ty_kind9 : tkind Try.prog 9 = 2 := by kernel_rfl
@[go_sem] theorem ty_sz10 : tsz Try.prog 10 = some 1 := by kernel_rfl
@[go_sem] theorem ty_agg10 : tagg Try.prog 10 = some false := by kernel_rfl
@[go_sem] theorem ty_zero10 : tzero Try.prog 10 = some [.con (.string ⟨#[]⟩)] := by kernel_rfl
@[go_sem] theorem ty_kind10 : tkind Try.prog 10 = 2 := by kernel_rfl
@[go_sem] theorem ty_sz11 : tsz Try.prog 11 = some 1 := by kernel_rfl
@[go_sem] theorem ty_agg11 : tagg Try.prog 11 = some false := by kernel_rfl
@[go_sem] theorem ty_zero11 : tzero Try.prog 11 = some [.con (.string ⟨#[]⟩)] := by kernel_rfl
@[go_sem] theorem ty_kind11 : tkind Try.prog 11 = 2 := by kernel_rfl
@[go_sem] theorem ty_sz12 : tsz Try.prog 12 = some 1 := by kernel_rfl
@[go_sem] theorem ty_agg12 : tagg Try.prog 12 = some false := by kernel_rfl
@[go_sem] theorem ty_zero12 : tzero Try.prog 12 = some [.con (.int .u64 0)] := by kernel_rfl
@[go_sem] theorem ty_kind12 : tkind Try.prog 12 = 3 := by kernel_rfl
@[go_sem] theorem ty_int12 : tint Try.prog 12 = some .u64 := by kernel_rfl
@[go_sem] theorem ty_sz13 : tsz Try.prog 13 = some 2 := by kernel_rfl
@[go_sem] theorem ty_agg13 : tagg Try.prog 13 = some true := by kernel_rfl
@[go_sem] theorem ty_zero13 : tzero Try.prog 13 = some [.con (.string ⟨#[]⟩), .con (.int .u64 0)] := by kernel_rfl
@[go_sem] theorem ty_kind13 : tkind Try.prog 13 = 5 := by kernel_rfl
@[go_sem] theorem ty_flds13 : tflds Try.prog 13 = true := by kernel_rfl
@[go_sem] theorem ty_fld13_0 : tfld Try.prog 13 0 = some (0, 9, 1) := by kernel_rfl
@[go_sem] theorem ty_pl13_0 : places Try.prog 13 0 = some (0, 1) := by kernel_rfl
@[go_sem] theorem ty_fld13_1 : tfld Try.prog 13 1 = some (1, 12, 1) := by kernel_rfl
@[go_sem] theorem ty_pl13_1 : places Try.prog 13 1 = some (1, 1) := by kernel_rfl
@[go_sem] theorem ty_sz14 : tsz Try.prog 14 = some 2 := by kernel_rfl
@[go_sem] theorem ty_agg14 : tagg Try.prog 14 = some true := by kernel_rfl
@[go_sem] theorem ty_zero14 : tzero Try.prog 14 = some [.con (.string ⟨#[]⟩), .con (.int .u64 0)] := by kernel_rfl
@[go_sem] theorem ty_kind14 : tkind Try.prog 14 = 5 := by kernel_rfl
@[go_sem] theorem ty_flds14 : tflds Try.prog 14 = true := by kernel_rfl
@[go_sem] theorem ty_fld14_0 : tfld Try.prog 14 0 = some (0, 9, 1) := by kernel_rfl
@[go_sem] theorem ty_pl14_0 : places Try.prog 14 0 = some (0, 1) := by kernel_rfl
@[go_sem] theorem ty_fld14_1 : tfld Try.prog 14 1 = some (1, 12, 1) := by kernel_rfl
@[go_sem] theorem ty_pl14_1 : places Try.prog 14 1 = some (1, 1) := by kernel_rfl
@[go_sem] theorem ty_sz15 : tsz Try.prog 15 = some 1 := by kernel_rfl
@[go_sem] theorem ty_agg15 : tagg Try.prog 15 = some false := by kernel_rfl
@[go_sem] theorem ty_zero15 : tzero Try.prog 15 = some [.con (.pointer none)] := by kernel_rfl
@[go_sem] theorem ty_kind15 : tkind Try.prog 15 = 6 := by kernel_rfl
@[go_sem] theorem ty_sz16 : tsz Try.prog 16 = some 1 := by kernel_rfl
@[go_sem] theorem ty_agg16 : tagg Try.prog 16 = some false := by kernel_rfl
@[go_sem] theorem ty_zero16 : tzero Try.prog 16 = some [.con (.pointer none)] := by kernel_rfl
@[go_sem] theorem ty_kind16 : tkind Try.prog 16 = 6 := by kernel_rfl
@[go_sem] theorem ty_sz17 : tsz Try.prog 17 = some 1 := by kernel_rfl
@[go_sem] theorem ty_agg17 : tagg Try.prog 17 = some false := by kernel_rfl
@[go_sem] theorem ty_zero17 : tzero Try.prog 17 = some [.con (.pointer none)] := by kernel_rfl
@[go_sem] theorem ty_kind17 : tkind Try.prog 17 = 6 := by kernel_rfl
@[go_sem] theorem ty_sz18 : tsz Try.prog 18 = some 1 := by kernel_rfl
@[go_sem] theorem ty_agg18 : tagg Try.prog 18 = some true := by kernel_rfl
@[go_sem] theorem ty_zero18 : tzero Try.prog 18 = some [.con (.pointer none)] := by kernel_rfl
@[go_sem] theorem ty_kind18 : tkind Try.prog 18 = 5 := by kernel_rfl
@[go_sem] theorem ty_flds18 : tflds Try.prog 18 = true := by kernel_rfl
@[go_sem] theorem ty_fld18_0 : tfld Try.prog 18 0 = some (0, 17, 1) := by kernel_rfl
@[go_sem] theorem ty_pl18_0 : places Try.prog 18 0 = some (0, 1) := by kernel_rfl
@[go_sem] theorem ty_sz19 : tsz Try.prog 19 = some 1 := by kernel_rfl
@[go_sem] theorem ty_agg19 : tagg Try.prog 19 = some true := by kernel_rfl
@[go_sem] theorem ty_zero19 : tzero Try.prog 19 = some [.con (.pointer none)] := by kernel_rfl
@[go_sem] theorem ty_kind19 : tkind Try.prog 19 = 5 := by kernel_rfl
@[go_sem] theorem ty_flds19 : tflds Try.prog 19 = true := by kernel_rfl
@[go_sem] theorem ty_fld19_0 : tfld Try.prog 19 0 = some (0, 17, 1) := by kernel_rfl
@[go_sem] theorem ty_pl19_0 : places Try.prog 19 0 = some (0, 1) := by kernel_rfl
@[go_sem] theorem ty_sz20 : tsz Try.prog 20 = some 1 := by kernel_rfl
@[go_sem] theorem ty_agg20 : tagg Try.prog 20 = some false := by kernel_rfl
@[go_sem] theorem ty_zero20 : tzero Try.prog 20 = some [.con .nilIface] := by kernel_rfl
@[go_sem] theorem ty_sz21 : tsz Try.prog 21 = some 1 := by kernel_rfl
@[go_sem] theorem ty_agg21 : tagg Try.prog 21 = some false := by kernel_rfl
@[go_sem] theorem ty_zero21 : tzero Try.prog 21 = some [.con (.int .i32 0)] := by kernel_rfl
@[go_sem] theorem ty_kind21 : tkind Try.prog 21 = 3 := by kernel_rfl
@[go_sem] theorem ty_int21 : tint Try.prog 21 = some .i32 := by kernel_rfl
@[go_sem] theorem ty_sz22 : tsz Try.prog 22 = some 1 := by kernel_rfl
@[go_sem] theorem ty_agg22 : tagg Try.prog 22 = some false := by kernel_rfl
@[go_sem] theorem ty_zero22 : tzero Try.prog 22 = some [.con (.slice none 0 0)] := by kernel_rfl
@[go_sem] theorem ty_kind22 : tkind Try.prog 22 = 4 := by kernel_rfl
@[go_sem] theorem ty_elem22 : telem Try.prog 22 = some (27, 2, 32) := by kernel_rfl
@[go_sem] theorem ty_sz23 : tsz Try.prog 23 = some 1 := by kernel_rfl
@[go_sem] theorem ty_agg23 : tagg Try.prog 23 = some false := by kernel_rfl
@[go_sem] theorem ty_zero23 : tzero Try.prog 23 = some [.con (.slice none 0 0)] := by kernel_rfl
@[go_sem] theorem ty_kind23 : tkind Try.prog 23 = 4 := by kernel_rfl
@[go_sem] theorem ty_elem23 : telem Try.prog 23 = some (5, 1, 1) := by kernel_rfl
@[go_sem] theorem ty_sz24 : tsz Try.prog 24 = some 1 := by kernel_rfl
@[go_sem] theorem ty_agg24 : tagg Try.prog 24 = some false := by kernel_rfl
@[go_sem] theorem ty_zero24 : tzero Try.prog 24 = some [.con (.slice none 0 0)] := by kernel_rfl
@[go_sem] theorem ty_kind24 : tkind Try.prog 24 = 4 := by kernel_rfl
@[go_sem] theorem ty_elem24 : telem Try.prog 24 = some (3, 1, 8) := by kernel_rfl
@[go_sem] theorem ty_sz25 : tsz Try.prog 25 = some 1 := by kernel_rfl
@[go_sem] theorem ty_agg25 : tagg Try.prog 25 = some false := by kernel_rfl
@[go_sem] theorem ty_zero25 : tzero Try.prog 25 = some [.con (.slice none 0 0)] := by kernel_rfl
@[go_sem] theorem ty_kind25 : tkind Try.prog 25 = 4 := by kernel_rfl
@[go_sem] theorem ty_elem25 : telem Try.prog 25 = some (71, 3, 48) := by kernel_rfl
@[go_sem] theorem ty_sz26 : tsz Try.prog 26 = some 2 := by kernel_rfl
@[go_sem] theorem ty_agg26 : tagg Try.prog 26 = some true := by kernel_rfl
@[go_sem] theorem ty_zero26 : tzero Try.prog 26 = some [.con (.int .i64 0), .con (.slice none 0 0)] := by kernel_rfl
@[go_sem] theorem ty_kind26 : tkind Try.prog 26 = 5 := by kernel_rfl
@[go_sem] theorem ty_flds26 : tflds Try.prog 26 = true := by kernel_rfl
@[go_sem] theorem ty_fld26_0 : tfld Try.prog 26 0 = some (0, 3, 1) := by kernel_rfl
@[go_sem] theorem ty_pl26_0 : places Try.prog 26 0 = some (0, 1) := by kernel_rfl
@[go_sem] theorem ty_fld26_1 : tfld Try.prog 26 1 = some (1, 25, 1) := by kernel_rfl
@[go_sem] theorem ty_pl26_1 : places Try.prog 26 1 = some (1, 1) := by kernel_rfl
@[go_sem] theorem ty_sz27 : tsz Try.prog 27 = some 2 := by kernel_rfl
@[go_sem] theorem ty_agg27 : tagg Try.prog 27 = some true := by kernel_rfl
@[go_sem] theorem ty_zero27 : tzero Try.prog 27 = some [.con (.int .i64 0), .con (.slice none 0 0)] := by kernel_rfl
@[go_sem] theorem ty_zv27 : tzV Try.prog 27 = some (.agg [.con (.int .i64 0), .con (.slice none 0 0)]) := by kernel_rfl
@[go_sem] theorem ty_kind27 : tkind Try.prog 27 = 5 := by kernel_rfl
@[go_sem] theorem ty_flds27 : tflds Try.prog 27 = true := by kernel_rfl
@[go_sem] theorem ty_fld27_0 : tfld Try.prog 27 0 = some (0, 3, 1) := by kernel_rfl
@[go_sem] theorem ty_pl27_0 : places Try.prog 27 0 = some (0, 1) := by kernel_rfl
@[go_sem] theorem ty_fld27_1 : tfld Try.prog 27 1 = some (1, 25, 1) := by kernel_rfl
@[go_sem] theorem ty_pl27_1 : places Try.prog 27 1 = some (1, 1) := by kernel_rfl
@[go_sem] theorem ty_sz28 : tsz Try.prog 28 = some 1 := by kernel_rfl
@[go_sem] theorem ty_agg28 : tagg Try.prog 28 = some false := by kernel_rfl
@[go_sem] theorem ty_zero28 : tzero Try.prog 28 = some [.con (.int .i64 0)] := by kernel_rfl
@[go_sem] theorem ty_kind28 : tkind Try.prog 28 = 3 := by kernel_rfl
@[go_sem] theorem ty_int28 : tint Try.prog 28 = some .i64 := by kernel_rfl
@[go_sem] theorem ty_sz29 : tsz Try.prog 29 = some 1 := by kernel_rfl
@[go_sem] theorem ty_agg29 : tagg Try.prog 29 = some false := by kernel_rfl
@[go_sem] theorem ty_zero29 : tzero Try.prog 29 = some [.con .nilFunc] := by kernel_rfl
@[go_sem] theorem ty_sz30 : tsz Try.prog 30 = some 1 := by kernel_rfl
@[go_sem] theorem ty_agg30 : tagg Try.prog 30 = some false := by kernel_rfl
@[go_sem] theorem ty_zero30 : tzero Try.prog 30 = some [.con .nilFunc] := by kernel_rfl
@[go_sem] theorem ty_sz32 : tsz Try.prog 32 = some 1 := by kernel_rfl
@[go_sem] theorem ty_agg32 : tagg Try.prog 32 = some false := by kernel_rfl
@[go_sem] theorem ty_zero32 : tzero Try.prog 32 = some [.con .nilFunc] := by kernel_rfl
@[go_sem] theorem ty_sz33 : tsz Try.prog 33 = some 1 := by kernel_rfl
@[go_sem] theorem ty_agg33 : tagg Try.prog 33 = some false := by kernel_rfl
@[go_sem] theorem ty_zero33 : tzero Try.prog 33 = some [.con .nilFunc] := by kernel_rfl
@[go_sem] theorem ty_sz34 : tsz Try.prog 34 = some 1 := by kernel_rfl
@[go_sem] theorem ty_agg34 : tagg Try.prog 34 = some false := by kernel_rfl
@[go_sem] theorem ty_zero34 : tzero Try.prog 34 = some [.con .nilFunc] := by kernel_rfl
@[go_sem] theorem ty_sz36 : tsz Try.prog 36 = some 1 := by kernel_rfl
@[go_sem] theorem ty_agg36 : tagg Try.prog 36 = some false := by kernel_rfl
@[go_sem] theorem ty_zero36 : tzero Try.prog 36 = some [.con .nilFunc] := by kernel_rfl
@[go_sem] theorem ty_sz37 : tsz Try.prog 37 = some 1 := by kernel_rfl
@[go_sem] theorem ty_agg37 : tagg Try.prog 37 = some false := by kernel_rfl
@[go_sem] theorem ty_zero37 : tzero Try.prog 37 = some [.con .nilFunc] := by kernel_rfl
@[go_sem] theorem ty_sz38 : tsz Try.prog 38 = some 1 := by kernel_rfl
@[go_sem] theorem ty_agg38 : tagg Try.prog 38 = some false := by kernel_rfl
@[go_sem] theorem ty_zero38 : tzero Try.prog 38 = some [.con .nilFunc] := by kernel_rfl
@[go_sem] theorem ty_sz39 : tsz Try.prog 39 = some 1 := by kernel_rfl
@[go_sem] theorem ty_agg39 : tagg Try.prog 39 = some false := by kernel_rfl
@[go_sem] theorem ty_zero39 : tzero Try.prog 39 = some [.con .nilFunc] := by kernel_rfl
@[go_sem] theorem ty_sz41 : tsz Try.prog 41 = some 1 := by kernel_rfl
@[go_sem] theorem ty_agg41 : tagg Try.prog 41 = some false := by kernel_rfl
@[go_sem] theorem ty_zero41 : tzero Try.prog 41 = some [.con .nilFunc] := by kernel_rfl
@[go_sem] theorem ty_sz42 : tsz Try.prog 42 = some 1 := by kernel_rfl
@[go_sem] theorem ty_agg42 : tagg Try.prog 42 = some false := by kernel_rfl
@[go_sem] theorem ty_zero42 : tzero Try.prog 42 = some [.con .nilFunc] := by kernel_rfl
@[go_sem] theorem ty_sz43 : tsz Try.prog 43 = some 1 := by kernel_rfl
@[go_sem] theorem ty_agg43 : tagg Try.prog 43 = some false := by kernel_rfl
@[go_sem] theorem ty_zero43 : tzero Try.prog 43 = some [.con .nilFunc] := by kernel_rfl
@[go_sem] theorem ty_sz44 : tsz Try.prog 44 = some 1 := by kernel_rfl
@[go_sem] theorem ty_agg44 : tagg Try.prog 44 = some false := by kernel_rfl
@[go_sem] theorem ty_zero44 : tzero Try.prog 44 = some [.con .nilFunc] := by kernel_rfl
@[go_sem] theorem ty_sz45 : tsz Try.prog 45 = some 1 := by kernel_rfl
@[go_sem] theorem ty_agg45 : tagg Try.prog 45 = some false := by kernel_rfl
@[go_sem] theorem ty_zero45 : tzero Try.prog 45 = some [.con .nilFunc] := by kernel_rfl
@[go_sem] theorem ty_sz46 : tsz Try.prog 46 = some 1 := by kernel_rfl
@[go_sem] theorem ty_agg46 : tagg Try.prog 46 = some false := by kernel_rfl
@[go_sem] theorem ty_zero46 : tzero Try.prog 46 = some [.con .nilFunc] := by kernel_rfl
@[go_sem] theorem ty_sz47 : tsz Try.prog 47 = some 1 := by kernel_rfl
@[go_sem] theorem ty_agg47 : tagg Try.prog 47 = some false := by kernel_rfl
@[go_sem] theorem ty_zero47 : tzero Try.prog 47 = some [.con (.slice none 0 0)] := by kernel_rfl
@[go_sem] theorem ty_kind47 : tkind Try.prog 47 = 4 := by kernel_rfl
@[go_sem] theorem ty_elem47 : telem Try.prog 47 = some (105, 2, 24) := by kernel_rfl
@[go_sem] theorem ty_sz48 : tsz Try.prog 48 = some 1 := by kernel_rfl
@[go_sem] theorem ty_agg48 : tagg Try.prog 48 = some false := by kernel_rfl
@[go_sem] theorem ty_zero48 : tzero Try.prog 48 = some [.con (.slice none 0 0)] := by kernel_rfl
@[go_sem] theorem ty_kind48 : tkind Try.prog 48 = 4 := by kernel_rfl
@[go_sem] theorem ty_elem48 : telem Try.prog 48 = some (128, 5, 72) := by kernel_rfl
@[go_sem] theorem ty_sz49 : tsz Try.prog 49 = some 4 := by kernel_rfl
@[go_sem] theorem ty_agg49 : tagg Try.prog 49 = some true := by kernel_rfl
@[go_sem] theorem ty_zero49 : tzero Try.prog 49 = some [.con (.int .i64 0), .con (.int .i64 0), .con (.string ⟨#[]⟩), .con (.slice none 0 0)] := by kernel_rfl
@[go_sem] theorem ty_kind49 : tkind Try.prog 49 = 5 := by kernel_rfl
@[go_sem] theorem ty_flds49 : tflds Try.prog 49 = true := by kernel_rfl
@[go_sem] theorem ty_fld49_0 : tfld Try.prog 49 0 = some (0, 3, 1) := by kernel_rfl
@[go_sem] theorem ty_pl49_0 : places Try.prog 49 0 = some (0, 1) := by kernel_rfl
@[go_sem] theorem ty_fld49_1 : tfld Try.prog 49 1 = some (1, 3, 1) := by kernel_rfl
@[go_sem] theorem ty_pl49_1 : places Try.prog 49 1 = some (1, 1) := by kernel_rfl
@[go_sem] theorem ty_fld49_2 : tfld Try.prog 49 2 = some (2, 9, 1) := by kernel_rfl
@[go_sem] theorem ty_pl49_2 : places Try.prog 49 2 = some (2, 1) := by kernel_rfl
@[go_sem] theorem ty_fld49_3 : tfld Try.prog 49 3 = some (3, 48, 1) := by kernel_rfl
@[go_sem] theorem ty_pl49_3 : places Try.prog 49 3 = some (3, 1) := by kernel_rfl
@[go_sem] theorem ty_sz50 : tsz Try.prog 50 = some 4 := by kernel_rfl
@[go_sem] theorem ty_agg50 : tagg Try.prog 50 = some true := by kernel_rfl
@[go_sem] theorem ty_zero50 : tzero Try.prog 50 = some [.con (.int .i64 0), .con (.int .i64 0), .con (.string ⟨#[]⟩), .con (.slice none 0 0)] := by kernel_rfl
@[go_sem] theorem ty_kind50 : tkind Try.prog 50 = 5 := by kernel_rfl
@[go_sem] theorem ty_flds50 : tflds Try.prog 50 = true := by kernel_rfl
@[go_sem] theorem ty_fld50_0 : tfld Try.prog 50 0 = some (0, 3, 1) := by kernel_rfl
@[go_sem] theorem ty_pl50_0 : places Try.prog 50 0 = some (0, 1) := by kernel_rfl
@[go_sem] theorem ty_fld50_1 : tfld Try.prog 50 1 = some (1, 3, 1) := by kernel_rfl
@[go_sem] theorem ty_pl50_1 : places Try.prog 50 1 = some (1, 1) := by kernel_rfl
@[go_sem] theorem ty_fld50_2 : tfld Try.prog 50 2 = some (2, 9, 1) := by kernel_rfl
@[go_sem] theorem ty_pl50_2 : places Try.prog 50 2 = some (2, 1) := by kernel_rfl
@[go_sem] theorem ty_fld50_3 : tfld Try.prog 50 3 = some (3, 48, 1) := by kernel_rfl
@[go_sem] theorem ty_pl50_3 : places Try.prog 50 3 = some (3, 1) := by kernel_rfl
@[go_sem] theorem ty_sz51 : tsz Try.prog 51 = some 1 := by kernel_rfl
@[go_sem] theorem ty_agg51 : tagg Try.prog 51 = some false := by kernel_rfl
@[go_sem] theorem ty_zero51 : tzero Try.prog 51 = some [.con (.slice none 0 0)] := by kernel_rfl
@[go_sem] theorem ty_kind51 : tkind Try.prog 51 = 4 := by kernel_rfl
@[go_sem] theorem ty_elem51 : telem Try.prog 51 = some (53, 8, 120) := by kernel_rfl
@[go_sem] theorem ty_sz52 : tsz Try.prog 52 = some 8 := by kernel_rfl
@[go_sem] theorem ty_agg52 : tagg Try.prog 52 = some true := by kernel_rfl
@[go_sem] theorem ty_zero52 : tzero Try.prog 52 = some [.con (.int .i64 0), .con (.string ⟨#[]⟩), .con (.string ⟨#[]⟩), .con (.int .i64 0), .con (.int .i64 0), .con (.string ⟨#[]⟩), .con (.slice none 0 0), .con (.slice none 0 0)] := by kernel_rfl
@[go_sem] theorem ty_kind52 : tkind Try.prog 52 = 5 := by kernel_rfl
@[go_sem] theorem ty_flds52 : tflds Try.prog 52 = true := by kernel_rfl
@[go_sem] theorem ty_fld52_0 : tfld Try.prog 52 0 = some (0, 3, 1) := by kernel_rfl
@[go_sem] theorem ty_pl52_0 : places Try.prog 52 0 = some (0, 1) := by kernel_rfl
@[go_sem] theorem ty_fld52_1 : tfld Try.prog 52 1 = some (1, 9, 1) := by kernel_rfl
@[go_sem] theorem ty_pl52_1 : places Try.prog 52 1 = some (1, 1) := by kernel_rfl
@[go_sem] theorem ty_fld52_2 : tfld Try.prog 52 2 = some (2, 9, 1) := by kernel_rfl
@[go_sem] theorem ty_pl52_2 : places Try.prog 52 2 = some (2, 1) := by kernel_rfl
@[go_sem] theorem ty_fld52_3 : tfld Try.prog 52 3 = some (3, 50, 4) := by kernel_rfl
@[go_sem] theorem ty_pl52_3 : places Try.prog 52 3 = some (3, 4) := by kernel_rfl
@[go_sem] theorem ty_fld52_4 : tfld Try.prog 52 4 = some (7, 51, 1) := by kernel_rfl
@[go_sem] theorem ty_pl52_4 : places Try.prog 52 4 = some (7, 1) := by kernel_rfl
@[go_sem] theorem ty_sz53 : tsz Try.prog 53 = some 8 := by kernel_rfl
@[go_sem] theorem ty_agg53 : tagg Try.prog 53 = some true := by kernel_rfl
@[go_sem] theorem ty_zero53 : tzero Try.prog 53 = some [.con (.int .i64 0), .con (.string ⟨#[]⟩), .con (.string ⟨#[]⟩), .con (.int .i64 0), .con (.int .i64 0), .con (.string ⟨#[]⟩), .con (.slice none 0 0), .con (.slice none 0 0)] := by kernel_rfl
@[go_sem] theorem ty_kind53 : tkind Try.prog 53 = 5 := by kernel_rfl
@[go_sem] theorem ty_flds53 : tflds Try.prog 53 = true := by kernel_rfl
@[go_sem] theorem ty_fld53_0 : tfld Try.prog 53 0 = some (0, 3, 1) := by kernel_rfl
@[go_sem] theorem ty_pl53_0 : places Try.prog 53 0 = some (0, 1) := by kernel_rfl
@[go_sem] theorem ty_fld53_1 : tfld Try.prog 53 1 = some (1, 9, 1) := by kernel_rfl
@[go_sem] theorem ty_pl53_1 : places Try.prog 53 1 = some (1, 1) := by kernel_rfl
@[go_sem] theorem ty_fld53_2 : tfld Try.prog 53 2 = some (2, 9, 1) := by kernel_rfl
@[go_sem] theorem ty_pl53_2 : places Try.prog 53 2 = some (2, 1) := by kernel_rfl
@[go_sem] theorem ty_fld53_3 : tfld Try.prog 53 3 = some (3, 50, 4) := by kernel_rfl
@[go_sem] theorem ty_pl53_3 : places Try.prog 53 3 = some (3, 4) := by kernel_rfl
@[go_sem] theorem ty_fld53_4 : tfld Try.prog 53 4 = some (7, 51, 1) := by kernel_rfl
@[go_sem] theorem ty_pl53_4 : places Try.prog 53 4 = some (7, 1) := by kernel_rfl
@[go_sem] theorem ty_sz54 : tsz Try.prog 54 = some 1 := by kernel_rfl
@[go_sem] theorem ty_agg54 : tagg Try.prog 54 = some false := by kernel_rfl
@[go_sem] theorem ty_zero54 : tzero Try.prog 54 = some [.con .nilFunc] := by kernel_rfl
@[go_sem] theorem ty_sz55 : tsz Try.prog 55 = some 1 := by kernel_rfl
@[go_sem] theorem ty_agg55 : tagg Try.prog 55 = some false := by kernel_rfl
@[go_sem] theorem ty_zero55 : tzero Try.prog 55 = some [.con .nilFunc] := by kernel_rfl
@[go_sem] theorem ty_sz56 : tsz Try.prog 56 = some 1 := by kernel_rfl
@[go_sem] theorem ty_agg56 : tagg Try.prog 56 = some false := by kernel_rfl
@[go_sem] theorem ty_zero56 : tzero Try.prog 56 = some [.con .nilFunc] := by kernel_rfl
@[go_sem] theorem ty_sz57 : tsz Try.prog 57 = some 1 := by kernel_rfl
@[go_sem] theorem ty_agg57 : tagg Try.prog 57 = some false := by kernel_rfl
@[go_sem] theorem ty_zero57 : tzero Try.prog 57 = some [.con .nilFunc] := by kernel_rfl
@[go_sem] theorem ty_sz58 : tsz Try.prog 58 = some 1 := by kernel_rfl
@[go_sem] theorem ty_agg58 : tagg Try.prog 58 = some false := by kernel_rfl
@[go_sem] theorem ty_zero58 : tzero Try.prog 58 = some [.con (.pointer none)] := by kernel_rfl
@[go_sem] theorem ty_kind58 : tkind Try.prog 58 = 6 := by kernel_rfl
@[go_sem] theorem ty_sz59 : tsz Try.prog 59 = some 1 := by kernel_rfl
@[go_sem] theorem ty_agg59 : tagg Try.prog 59 = some false := by kernel_rfl
@[go_sem] theorem ty_zero59 : tzero Try.prog 59 = some [.con .nilFunc] := by kernel_rfl
@[go_sem] theorem ty_sz60 : tsz Try.prog 60 = some 1 := by kernel_rfl
@[go_sem] theorem ty_agg60 : tagg Try.prog 60 = some false := by kernel_rfl
@[go_sem] theorem ty_zero60 : tzero Try.prog 60 = some [.con (.map none)] := by kernel_rfl
@[go_sem] theorem ty_map60 : tmap Try.prog 60 = some (3, 27) := by kernel_rfl
@[go_sem] theorem ty_sz61 : tsz Try.prog 61 = some 1 := by kernel_rfl
@[go_sem] theorem ty_agg61 : tagg Try.prog 61 = some false := by kernel_rfl
@[go_sem] theorem ty_zero61 : tzero Try.prog 61 = some [.con .nilFunc] := by kernel_rfl
@[go_sem] theorem ty_sz64 : tsz Try.prog 64 = some 1 := by kernel_rfl
@[go_sem] theorem ty_agg64 : tagg Try.prog 64 = some false := by kernel_rfl
@[go_sem] theorem ty_zero64 : tzero Try.prog 64 = some [.con .nilFunc] := by kernel_rfl
@[go_sem] theorem ty_sz65 : tsz Try.prog 65 = some 1 := by kernel_rfl
@[go_sem] theorem ty_agg65 : tagg Try.prog 65 = some false := by kernel_rfl
@[go_sem] theorem ty_zero65 : tzero Try.prog 65 = some [.con .nilFunc] := by kernel_rfl
@[go_sem] theorem ty_sz66 : tsz Try.prog 66 = some 1 := by kernel_rfl
@[go_sem] theorem ty_agg66 : tagg Try.prog 66 = some false := by kernel_rfl
@[go_sem] theorem ty_zero66 : tzero Try.prog 66 = some [.con .nilFunc] := by kernel_rfl
@[go_sem] theorem ty_sz67 : tsz Try.prog 67 = some 1 := by kernel_rfl
@[go_sem] theorem ty_agg67 : tagg Try.prog 67 = some false := by kernel_rfl
@[go_sem] theorem ty_zero67 : tzero Try.prog 67 = some [.con .nilFunc] := by kernel_rfl
@[go_sem] theorem ty_sz68 : tsz Try.prog 68 = some 1 := by kernel_rfl
@[go_sem] theorem ty_agg68 : tagg Try.prog 68 = some false := by kernel_rfl
@[go_sem] theorem ty_zero68 : tzero Try.prog 68 = some [.con .nilFunc] := by kernel_rfl
@[go_sem] theorem ty_sz69 : tsz Try.prog 69 = some 1 := by kernel_rfl
@[go_sem] theorem ty_agg69 : tagg Try.prog 69 = some false := by kernel_rfl
@[go_sem] theorem ty_zero69 : tzero Try.prog 69 = some [.con (.slice none 0 0)] := by kernel_rfl
@[go_sem] theorem ty_kind69 : tkind Try.prog 69 = 4 := by kernel_rfl
@[go_sem] theorem ty_elem69 : telem Try.prog 69 = some (50, 4, 56) := by kernel_rfl
@[go_sem] theorem ty_sz70 : tsz Try.prog 70 = some 3 := by kernel_rfl
@[go_sem] theorem ty_agg70 : tagg Try.prog 70 = some true := by kernel_rfl
@[go_sem] theorem ty_zero70 : tzero Try.prog 70 = some [.con (.string ⟨#[]⟩), .con (.bool false), .con (.slice none 0 0)] := by kernel_rfl
@[go_sem] theorem ty_kind70 : tkind Try.prog 70 = 5 := by kernel_rfl
@[go_sem] theorem ty_flds70 : tflds Try.prog 70 = true := by kernel_rfl
@[go_sem] theorem ty_fld70_0 : tfld Try.prog 70 0 = some (0, 9, 1) := by kernel_rfl
@[go_sem] theorem ty_pl70_0 : places Try.prog 70 0 = some (0, 1) := by kernel_rfl
@[go_sem] theorem ty_fld70_1 : tfld Try.prog 70 1 = some (1, 4, 1) := by kernel_rfl
@[go_sem] theorem ty_pl70_1 : places Try.prog 70 1 = some (1, 1) := by kernel_rfl
@[go_sem] theorem ty_fld70_2 : tfld Try.prog 70 2 = some (2, 69, 1) := by kernel_rfl
@[go_sem] theorem ty_pl70_2 : places Try.prog 70 2 = some (2, 1) := by kernel_rfl
@[go_sem] theorem ty_sz71 : tsz Try.prog 71 = some 3 := by kernel_rfl
@[go_sem] theorem ty_agg71 : tagg Try.prog 71 = some true := by kernel_rfl
@[go_sem] theorem ty_zero71 : tzero Try.prog 71 = some [.con (.string ⟨#[]⟩), .con (.bool false), .con (.slice none 0 0)] := by kernel_rfl
@[go_sem] theorem ty_kind71 : tkind Try.prog 71 = 5 := by kernel_rfl
@[go_sem] theorem ty_flds71 : tflds Try.prog 71 = true := by kernel_rfl
@[go_sem] theorem ty_fld71_0 : tfld Try.prog 71 0 = some (0, 9, 1) := by kernel_rfl
@[go_sem] theorem ty_pl71_0 : places Try.prog 71 0 = some (0, 1) := by kernel_rfl
@[go_sem] theorem ty_fld71_1 : tfld Try.prog 71 1 = some (1, 4, 1) := by kernel_rfl
@[go_sem] theorem ty_pl71_1 : places Try.prog 71 1 = some (1, 1) := by kernel_rfl
@[go_sem] theorem ty_fld71_2 : tfld Try.prog 71 2 = some (2, 69, 1) := by kernel_rfl
@[go_sem] theorem ty_pl71_2 : places Try.prog 71 2 = some (2, 1) := by kernel_rfl
@[go_sem] theorem ty_sz72 : tsz Try.prog 72 = some 1 := by kernel_rfl
@[go_sem] theorem ty_agg72 : tagg Try.prog 72 = some false := by kernel_rfl
@[go_sem] theorem ty_zero72 : tzero Try.prog 72 = some [.con .nilFunc] := by kernel_rfl
@[go_sem] theorem ty_sz73 : tsz Try.prog 73 = some 1 := by kernel_rfl
@[go_sem] theorem ty_agg73 : tagg Try.prog 73 = some false := by kernel_rfl
@[go_sem] theorem ty_zero73 : tzero Try.prog 73 = some [.con .nilFunc] := by kernel_rfl
@[go_sem] theorem ty_sz74 : tsz Try.prog 74 = some 1 := by kernel_rfl
@[go_sem] theorem ty_agg74 : tagg Try.prog 74 = some false := by kernel_rfl
@[go_sem] theorem ty_zero74 : tzero Try.prog 74 = some [.con .nilFunc] := by kernel_rfl
@[go_sem] theorem ty_sz75 : tsz Try.prog 75 = some 1 := by kernel_rfl
@[go_sem] theorem ty_agg75 : tagg Try.prog 75 = some false := by kernel_rfl
@[go_sem] theorem ty_zero75 : tzero Try.prog 75 = some [.con (.int .u64 0)] := by kernel_rfl
@[go_sem] theorem ty_kind75 : tkind Try.prog 75 = 3 := by kernel_rfl
@[go_sem] theorem ty_int75 : tint Try.prog 75 = some .u64 := by kernel_rfl
@[go_sem] theorem ty_sz76 : tsz Try.prog 76 = some 1 := by kernel_rfl
@[go_sem] theorem ty_agg76 : tagg Try.prog 76 = some false := by kernel_rfl
@[go_sem] theorem ty_zero76 : tzero Try.prog 76 = some [.con .nilFunc] := by kernel_rfl
@[go_sem] theorem ty_sz77 : tsz Try.prog 77 = some 1 := by kernel_rfl
@[go_sem] theorem ty_agg77 : tagg Try.prog 77 = some false := by kernel_rfl
@[go_sem] theorem ty_zero77 : tzero Try.prog 77 = some [.con .nilFunc] := by kernel_rfl
@[go_sem] theorem ty_sz78 : tsz Try.prog 78 = some 1 := by kernel_rfl
@[go_sem] theorem ty_agg78 : tagg Try.prog 78 = some false := by kernel_rfl
@[go_sem] theorem ty_zero78 : tzero Try.prog 78 = some [.con .nilFunc] := by kernel_rfl
@[go_sem] theorem ty_sz79 : tsz Try.prog 79 = some 1 := by kernel_rfl
@[go_sem] theorem ty_agg79 : tagg Try.prog 79 = some false := by kernel_rfl
@[go_sem] theorem ty_zero79 : tzero Try.prog 79 = some [.con .nilFunc] := by kernel_rfl
@[go_sem] theorem ty_sz80 : tsz Try.prog 80 = some 1 := by kernel_rfl
@[go_sem] theorem ty_agg80 : tagg Try.prog 80 = some false := by kernel_rfl
@[go_sem] theorem ty_zero80 : tzero Try.prog 80 = some [.con (.slice none 0 0)] := by kernel_rfl
@[go_sem] theorem ty_kind80 : tkind Try.prog 80 = 4 := by kernel_rfl
@[go_sem] theorem ty_elem80 : telem Try.prog 80 = some (23, 1, 24) := by kernel_rfl
@[go_sem] theorem ty_sz81 : tsz Try.prog 81 = some 1 := by kernel_rfl
@[go_sem] theorem ty_agg81 : tagg Try.prog 81 = some false := by kernel_rfl
@[go_sem] theorem ty_zero81 : tzero Try.prog 81 = some [.con .nilFunc] := by kernel_rfl
@[go_sem] theorem ty_sz82 : tsz Try.prog 82 = some 1 := by kernel_rfl
@[go_sem] theorem ty_agg82 : tagg Try.prog 82 = some false := by kernel_rfl
@[go_sem] theorem ty_zero82 : tzero Try.prog 82 = some [.con (.pointer none)] := by kernel_rfl
@[go_sem] theorem ty_kind82 : tkind Try.prog 82 = 6 := by kernel_rfl
@[go_sem] theorem ty_sz83 : tsz Try.prog 83 = some 2 := by kernel_rfl
@[go_sem] theorem ty_agg83 : tagg Try.prog 83 = some true := by kernel_rfl
@[go_sem] theorem ty_zero83 : tzero Try.prog 83 = some [.con (.slice none 0 0), .con (.bool false)] := by kernel_rfl
@[go_sem] theorem ty_kind83 : tkind Try.prog 83 = 5 := by kernel_rfl
@[go_sem] theorem ty_flds83 : tflds Try.prog 83 = true := by kernel_rfl
@[go_sem] theorem ty_fld83_0 : tfld Try.prog 83 0 = some (0, 23, 1) := by kernel_rfl
@[go_sem] theorem ty_pl83_0 : places Try.prog 83 0 = some (0, 1) := by kernel_rfl
@[go_sem] theorem ty_fld83_1 : tfld Try.prog 83 1 = some (1, 4, 1) := by kernel_rfl
@[go_sem] theorem ty_pl83_1 : places Try.prog 83 1 = some (1, 1) := by kernel_rfl
@[go_sem] theorem ty_sz84 : tsz Try.prog 84 = some 2 := by kernel_rfl
@[go_sem] theorem ty_agg84 : tagg Try.prog 84 = some true := by kernel_rfl
@[go_sem] theorem ty_zero84 : tzero Try.prog 84 = some [.con (.slice none 0 0), .con (.bool false)] := by kernel_rfl
@[go_sem] theorem ty_kind84 : tkind Try.prog 84 = 5 := by kernel_rfl
@[go_sem] theorem ty_flds84 : tflds Try.prog 84 = true := by kernel_rfl
@[go_sem] theorem ty_fld84_0 : tfld Try.prog 84 0 = some (0, 23, 1) := by kernel_rfl
@[go_sem] theorem ty_pl84_0 : places Try.prog 84 0 = some (0, 1) := by kernel_rfl
@[go_sem] theorem ty_fld84_1 : tfld Try.prog 84 1 = some (1, 4, 1) := by kernel_rfl
@[go_sem] theorem ty_pl84_1 : places Try.prog 84 1 = some (1, 1) := by kernel_rfl
@[go_sem] theorem ty_sz85 : tsz Try.prog 85 = some 1 := by kernel_rfl
@[go_sem] theorem ty_agg85 : tagg Try.prog 85 = some false := by kernel_rfl
@[go_sem] theorem ty_zero85 : tzero Try.prog 85 = some [.con (.int .u64 0)] := by kernel_rfl
@[go_sem] theorem ty_kind85 : tkind Try.prog 85 = 3 := by kernel_rfl
@[go_sem] theorem ty_int85 : tint Try.prog 85 = some .u64 := by kernel_rfl
@[go_sem] theorem ty_sz86 : tsz Try.prog 86 = some 1 := by kernel_rfl
@[go_sem] theorem ty_agg86 : tagg Try.prog 86 = some false := by kernel_rfl
@[go_sem] theorem ty_zero86 : tzero Try.prog 86 = some [.con .nilFunc] := by kernel_rfl
@[go_sem] theorem ty_sz87 : tsz Try.prog 87 = some 1 := by kernel_rfl
@[go_sem] theorem ty_agg87 : tagg Try.prog 87 = some false := by kernel_rfl
@[go_sem] theorem ty_zero87 : tzero Try.prog 87 = some [.con .nilFunc] := by kernel_rfl
@[go_sem] theorem ty_sz88 : tsz Try.prog 88 = some 1 := by kernel_rfl
@[go_sem] theorem ty_agg88 : tagg Try.prog 88 = some false := by kernel_rfl
@[go_sem] theorem ty_zero88 : tzero Try.prog 88 = some [.con .nilFunc] := by kernel_rfl
@[go_sem] theorem ty_sz89 : tsz Try.prog 89 = some 1 := by kernel_rfl
@[go_sem] theorem ty_agg89 : tagg Try.prog 89 = some false := by kernel_rfl
@[go_sem] theorem ty_zero89 : tzero Try.prog 89 = some [.con .nilFunc] := by kernel_rfl
@[go_sem] theorem ty_sz90 : tsz Try.prog 90 = some 1 := by kernel_rfl
@[go_sem] theorem ty_agg90 : tagg Try.prog 90 = some false := by kernel_rfl
@[go_sem] theorem ty_zero90 : tzero Try.prog 90 = some [.con .nilFunc] := by kernel_rfl
@[go_sem] theorem ty_sz91 : tsz Try.prog 91 = some 1 := by kernel_rfl
@[go_sem] theorem ty_agg91 : tagg Try.prog 91 = some false := by kernel_rfl
@[go_sem] theorem ty_zero91 : tzero Try.prog 91 = some [.con (.int .u32 0)] := by kernel_rfl
@[go_sem] theorem ty_kind91 : tkind Try.prog 91 = 3 := by kernel_rfl
@[go_sem] theorem ty_int91 : tint Try.prog 91 = some .u32 := by kernel_rfl
@[go_sem] theorem ty_sz92 : tsz Try.prog 92 = some 1 := by kernel_rfl
@[go_sem] theorem ty_agg92 : tagg Try.prog 92 = some false := by kernel_rfl
@[go_sem] theorem ty_zero92 : tzero Try.prog 92 = some [.con .nilFunc] := by kernel_rfl
@[go_sem] theorem ty_sz93 : tsz Try.prog 93 = some 1 := by kernel_rfl
@[go_sem] theorem ty_agg93 : tagg Try.prog 93 = some false := by kernel_rfl
@[go_sem] theorem ty_zero93 : tzero Try.prog 93 = some [.con .nilFunc] := by kernel_rfl
@[go_sem] theorem ty_sz95 : tsz Try.prog 95 = some 1 := by kernel_rfl
@[go_sem] theorem ty_agg95 : tagg Try.prog 95 = some false := by kernel_rfl
@[go_sem] theorem ty_zero95 : tzero Try.prog 95 = some [.con .nilFunc] := by kernel_rfl
@[go_sem] theorem ty_sz96 : tsz Try.prog 96 = some 1 := by kernel_rfl
@[go_sem] theorem ty_agg96 : tagg Try.prog 96 = some false := by kernel_rfl
@[go_sem] theorem ty_zero96 : tzero Try.prog 96 = some [.con (.slice none 0 0)] := by kernel_rfl
@[go_sem] theorem ty_kind96 : tkind Try.prog 96 = 4 := by kernel_rfl
@[go_sem] theorem ty_elem96 : telem Try.prog 96 = some (134, 4, 88) := by kernel_rfl
@[go_sem] theorem ty_sz97 : tsz Try.prog 97 = some 1 := by kernel_rfl
@[go_sem] theorem ty_agg97 : tagg Try.prog 97 = some false := by kernel_rfl
@[go_sem] theorem ty_zero97 : tzero Try.prog 97 = some [.con (.slice none 0 0)] := by kernel_rfl
@[go_sem] theorem ty_kind97 : tkind Try.prog 97 = 4 := by kernel_rfl
@[go_sem] theorem ty_elem97 : telem Try.prog 97 = some (134, 4, 88) := by kernel_rfl
@[go_sem] theorem ty_sz98 : tsz Try.prog 98 = some 1 := by kernel_rfl
@[go_sem] theorem ty_agg98 : tagg Try.prog 98 = some false := by kernel_rfl
@[go_sem] theorem ty_zero98 : tzero Try.prog 98 = some [.con .nilFunc] := by kernel_rfl
@[go_sem] theorem ty_sz99 : tsz Try.prog 99 = some 1 := by kernel_rfl
@[go_sem] theorem ty_agg99 : tagg Try.prog 99 = some false := by kernel_rfl
@[go_sem] theorem ty_zero99 : tzero Try.prog 99 = some [.con (.slice none 0 0)] := by kernel_rfl
@[go_sem] theorem ty_kind99 : tkind Try.prog 99 = 4 := by kernel_rfl
@[go_sem] theorem ty_elem99 : telem Try.prog 99 = some (9, 1, 16) := by kernel_rfl
@[go_sem] theorem ty_sz100 : tsz Try.prog 100 = some 1 := by kernel_rfl
@[go_sem] theorem ty_agg100 : tagg Try.prog 100 = some false := by kernel_rfl
@[go_sem] theorem ty_zero100 : tzero Try.prog 100 = some [.con (.slice none 0 0)] := by kernel_rfl
@[go_sem] theorem ty_kind100 : tkind Try.prog 100 = 4 := by kernel_rfl
@[go_sem] theorem ty_elem100 : telem Try.prog 100 = some (102, 15, 240) := by kernel_rfl
@[go_sem] theorem ty_sz101 : tsz Try.prog 101 = some 15 := by kernel_rfl
@[go_sem] theorem ty_agg101 : tagg Try.prog 101 = some true := by kernel_rfl
@[go_sem] theorem ty_zero101 : tzero Try.prog 101 = some [.con (.int .i64 0), .con (.string ⟨#[]⟩), .con (.slice none 0 0), .con (.slice none 0 0), .con (.int .i64 0), .con (.string ⟨#[]⟩), .con (.int .i64 0), .con (.string ⟨#[]⟩), .con (.string ⟨#[]⟩), .con (.int .i64 0), .con (.int .i64 0), .con (.string ⟨#[]⟩), .con (.slice none 0 0), .con (.slice none 0 0), .con (.slice none 0 0)] := by kernel_rfl
@[go_sem] theorem ty_kind101 : tkind Try.prog 101 = 5 := by kernel_rfl
@[go_sem] theorem ty_flds101 : tflds Try.prog 101 = true := by kernel_rfl
@[go_sem] theorem ty_fld101_0 : tfld Try.prog 101 0 = some (0, 3, 1) := by kernel_rfl
@[go_sem] theorem ty_pl101_0 : places Try.prog 101 0 = some (0, 1) := by kernel_rfl
@[go_sem] theorem ty_fld101_1 : tfld Try.prog 101 1 = some (1, 9, 1) := by kernel_rfl
@[go_sem] theorem ty_pl101_1 : places Try.prog 101 1 = some (1, 1) := by kernel_rfl
@[go_sem] theorem ty_fld101_2 : tfld Try.prog 101 2 = some (2, 99, 1) := by kernel_rfl
@[go_sem] theorem ty_pl101_2 : places Try.prog 101 2 = some (2, 1) := by kernel_rfl
@[go_sem] theorem ty_fld101_3 : tfld Try.prog 101 3 = some (3, 99, 1) := by kernel_rfl
@[go_sem] theorem ty_pl101_3 : places Try.prog 101 3 = some (3, 1) := by kernel_rfl
@[go_sem] theorem ty_fld101_4 : tfld Try.prog 101 4 = some (4, 3, 1) := by kernel_rfl
@[go_sem] theorem ty_pl101_4 : places Try.prog 101 4 = some (4, 1) := by kernel_rfl
@[go_sem] theorem ty_fld101_5 : tfld Try.prog 101 5 = some (5, 9, 1) := by kernel_rfl
@[go_sem] theorem ty_pl101_5 : places Try.prog 101 5 = some (5, 1) := by kernel_rfl
@[go_sem] theorem ty_fld101_6 : tfld Try.prog 101 6 = some (6, 53, 8) := by kernel_rfl
@[go_sem] theorem ty_pl101_6 : places Try.prog 101 6 = some (6, 8) := by kernel_rfl
@[go_sem] theorem ty_fld101_7 : tfld Try.prog 101 7 = some (14, 100, 1) := by kernel_rfl
@[go_sem] theorem ty_pl101_7 : places Try.prog 101 7 = some (14, 1) := by kernel_rfl
@[go_sem] theorem ty_sz102 : tsz Try.prog 102 = some 15 := by kernel_rfl
@[go_sem] theorem ty_agg102 : tagg Try.prog 102 = some true := by kernel_rfl
@[go_sem] theorem ty_zero102 : tzero Try.prog 102 = some [.con (.int .i64 0), .con (.string ⟨#[]⟩), .con (.slice none 0 0), .con (.slice none 0 0), .con (.int .i64 0), .con (.string ⟨#[]⟩), .con (.int .i64 0), .con (.string ⟨#[]⟩), .con (.string ⟨#[]⟩), .con (.int .i64 0), .con (.int .i64 0), .con (.string ⟨#[]⟩), .con (.slice none 0 0), .con (.slice none 0 0), .con (.slice none 0 0)] := by kernel_rfl
@[go_sem] theorem ty_kind102 : tkind Try.prog 102 = 5 := by kernel_rfl
@[go_sem] theorem ty_flds102 : tflds Try.prog 102 = true := by kernel_rfl
@[go_sem] theorem ty_fld102_0 : tfld Try.prog 102 0 = some (0, 3, 1) := by kernel_rfl
@[go_sem] theorem ty_pl102_0 : places Try.prog 102 0 = some (0, 1) := by kernel_rfl
@[go_sem] theorem ty_fld102_1 : tfld Try.prog 102 1 = some (1, 9, 1) := by kernel_rfl
@[go_sem] theorem ty_pl102_1 : places Try.prog 102 1 = some (1, 1) := by kernel_rfl
@[go_sem] theorem ty_fld102_2 : tfld Try.prog 102 2 = some (2, 99, 1) := by kernel_rfl
@[go_sem] theorem ty_pl102_2 : places Try.prog 102 2 = some (2, 1) := by kernel_rfl
@[go_sem] theorem ty_fld102_3 : tfld Try.prog 102 3 = some (3, 99, 1) := by kernel_rfl
@[go_sem] theorem ty_pl102_3 : places Try.prog 102 3 = some (3, 1) := by kernel_rfl
@[go_sem] theorem ty_fld102_4 : tfld Try.prog 102 4 = some (4, 3, 1) := by kernel_rfl
@[go_sem] theorem ty_pl102_4 : places Try.prog 102 4 = some (4, 1) := by kernel_rfl
@[go_sem] theorem ty_fld102_5 : tfld Try.prog 102 5 = some (5, 9, 1) := by kernel_rfl
@[go_sem] theorem ty_pl102_5 : places Try.prog 102 5 = some (5, 1) := by kernel_rfl
@[go_sem] theorem ty_fld102_6 : tfld Try.prog 102 6 = some (6, 53, 8) := by kernel_rfl
@[go_sem] theorem ty_pl102_6 : places Try.prog 102 6 = some (6, 8) := by kernel_rfl
@[go_sem] theorem ty_fld102_7 : tfld Try.prog 102 7 = some (14, 100, 1) := by kernel_rfl
@[go_sem] theorem ty_pl102_7 : places Try.prog 102 7 = some (14, 1) := by kernel_rfl
@[go_sem] theorem ty_sz103 : tsz Try.prog 103 = some 1 := by kernel_rfl
@[go_sem] theorem ty_agg103 : tagg Try.prog 103 = some false := by kernel_rfl
@[go_sem] theorem ty_zero103 : tzero Try.prog 103 = some [.con .nilFunc] := by kernel_rfl
@[go_sem] theorem ty_sz104 : tsz Try.prog 104 = some 2 := by kernel_rfl
@[go_sem] theorem ty_agg104 : tagg Try.prog 104 = some true := by kernel_rfl
@[go_sem] theorem ty_zero104 : tzero Try.prog 104 = some [.con (.string ⟨#[]⟩), .con (.int .i64 0)] := by kernel_rfl
@[go_sem] theorem ty_kind104 : tkind Try.prog 104 = 5 := by kernel_rfl
@[go_sem] theorem ty_flds104 : tflds Try.prog 104 = true := by kernel_rfl
@[go_sem] theorem ty_fld104_0 : tfld Try.prog 104 0 = some (0, 9, 1) := by kernel_rfl
@[go_sem] theorem ty_pl104_0 : places Try.prog 104 0 = some (0, 1) := by kernel_rfl
@[go_sem] theorem ty_fld104_1 : tfld Try.prog 104 1 = some (1, 3, 1) := by kernel_rfl
@[go_sem] theorem ty_pl104_1 : places Try.prog 104 1 = some (1, 1) := by kernel_rfl
@[go_sem] theorem ty_sz105 : tsz Try.prog 105 = some 2 := by kernel_rfl
@[go_sem] theorem ty_agg105 : tagg Try.prog 105 = some true := by kernel_rfl
@[go_sem] theorem ty_zero105 : tzero Try.prog 105 = some [.con (.string ⟨#[]⟩), .con (.int .i64 0)] := by kernel_rfl
@[go_sem] theorem ty_kind105 : tkind Try.prog 105 = 5 := by kernel_rfl
@[go_sem] theorem ty_flds105 : tflds Try.prog 105 = true := by kernel_rfl
@[go_sem] theorem ty_fld105_0 : tfld Try.prog 105 0 = some (0, 9, 1) := by kernel_rfl
@[go_sem] theorem ty_pl105_0 : places Try.prog 105 0 = some (0, 1) := by kernel_rfl
@[go_sem] theorem ty_fld105_1 : tfld Try.prog 105 1 = some (1, 3, 1) := by kernel_rfl
@[go_sem] theorem ty_pl105_1 : places Try.prog 105 1 = some (1, 1) := by kernel_rfl
@[go_sem] theorem ty_sz107 : tsz Try.prog 107 = some 1 := by kernel_rfl
@[go_sem] theorem ty_agg107 : tagg Try.prog 107 = some false := by kernel_rfl
@[go_sem] theorem ty_zero107 : tzero Try.prog 107 = some [.con .nilFunc] := by kernel_rfl
@[go_sem] theorem ty_sz108 : tsz Try.prog 108 = some 2 := by kernel_rfl
@[go_sem] theorem ty_agg108 : tagg Try.prog 108 = some true := by kernel_rfl
@[go_sem] theorem ty_zero108 : tzero Try.prog 108 = some [.con (.int .i64 0), .con (.map none)] := by kernel_rfl
@[go_sem] theorem ty_kind108 : tkind Try.prog 108 = 5 := by kernel_rfl
@[go_sem] theorem ty_flds108 : tflds Try.prog 108 = true := by kernel_rfl
@[go_sem] theorem ty_fld108_0 : tfld Try.prog 108 0 = some (0, 3, 1) := by kernel_rfl
@[go_sem] theorem ty_pl108_0 : places Try.prog 108 0 = some (0, 1) := by kernel_rfl
@[go_sem] theorem ty_fld108_1 : tfld Try.prog 108 1 = some (1, 60, 1) := by kernel_rfl
@[go_sem] theorem ty_pl108_1 : places Try.prog 108 1 = some (1, 1) := by kernel_rfl
@[go_sem] theorem ty_sz109 : tsz Try.prog 109 = some 2 := by kernel_rfl
@[go_sem] theorem ty_agg109 : tagg Try.prog 109 = some true := by kernel_rfl
@[go_sem] theorem ty_zero109 : tzero Try.prog 109 = some [.con (.int .i64 0), .con (.map none)] := by kernel_rfl
@[go_sem] theorem ty_kind109 : tkind Try.prog 109 = 5 := by kernel_rfl
@[go_sem] theorem ty_flds109 : tflds Try.prog 109 = true := by kernel_rfl
@[go_sem] theorem ty_fld109_0 : tfld Try.prog 109 0 = some (0, 3, 1) := by kernel_rfl
@[go_sem] theorem ty_pl109_0 : places Try.prog 109 0 = some (0, 1) := by kernel_rfl
@[go_sem] theorem ty_fld109_1 : tfld Try.prog 109 1 = some (1, 60, 1) := by kernel_rfl
@[go_sem] theorem ty_pl109_1 : places Try.prog 109 1 = some (1, 1) := by kernel_rfl
@[go_sem] theorem ty_sz110 : tsz Try.prog 110 = some 1 := by kernel_rfl
@[go_sem] theorem ty_agg110 : tagg Try.prog 110 = some false := by kernel_rfl
@[go_sem] theorem ty_zero110 : tzero Try.prog 110 = some [.con .nilFunc] := by kernel_rfl
@[go_sem] theorem ty_sz111 : tsz Try.prog 111 = some 1 := by kernel_rfl
@[go_sem] theorem ty_agg111 : tagg Try.prog 111 = some false := by kernel_rfl
@[go_sem] theorem ty_zero111 : tzero Try.prog 111 = some [.con .nilFunc] := by kernel_rfl
@[go_sem] theorem ty_sz112 : tsz Try.prog 112 = some 1 := by kernel_rfl
@[go_sem] theorem ty_agg112 : tagg Try.prog 112 = some false := by kernel_rfl
@[go_sem] theorem ty_zero112 : tzero Try.prog 112 = some [.con .nilFunc] := by kernel_rfl
@[go_sem] theorem ty_sz113 : tsz Try.prog 113 = some 1 := by kernel_rfl
@[go_sem] theorem ty_agg113 : tagg Try.prog 113 = some false := by kernel_rfl
@[go_sem] theorem ty_zero113 : tzero Try.prog 113 = some [.con .nilFunc] := by kernel_rfl
@[go_sem] theorem ty_sz114 : tsz Try.prog 114 = some 1 := by kernel_rfl
@[go_sem] theorem ty_agg114 : tagg Try.prog 114 = some false := by kernel_rfl
@[go_sem] theorem ty_zero114 : tzero Try.prog 114 = some [.con .nilFunc] := by kernel_rfl
@[go_sem] theorem ty_sz115 : tsz Try.prog 115 = some 1 := by kernel_rfl
@[go_sem] theorem ty_agg115 : tagg Try.prog 115 = some false := by kernel_rfl
@[go_sem] theorem ty_zero115 : tzero Try.prog 115 = some [.con (.pointer none)] := by kernel_rfl
@[go_sem] theorem ty_kind115 : tkind Try.prog 115 = 6 := by kernel_rfl
@[go_sem] theorem ty_sz116 : tsz Try.prog 116 = some 2 := by kernel_rfl
@[go_sem] theorem ty_agg116 : tagg Try.prog 116 = some true := by kernel_rfl
@[go_sem] theorem ty_zero116 : tzero Try.prog 116 = some [.con (.slice none 0 0), .con (.bool false)] := by kernel_rfl
@[go_sem] theorem ty_kind116 : tkind Try.prog 116 = 5 := by kernel_rfl
@[go_sem] theorem ty_flds116 : tflds Try.prog 116 = true := by kernel_rfl
@[go_sem] theorem ty_fld116_0 : tfld Try.prog 116 0 = some (0, 23, 1) := by kernel_rfl
@[go_sem] theorem ty_pl116_0 : places Try.prog 116 0 = some (0, 1) := by kernel_rfl
@[go_sem] theorem ty_fld116_1 : tfld Try.prog 116 1 = some (1, 4, 1) := by kernel_rfl
@[go_sem] theorem ty_pl116_1 : places Try.prog 116 1 = some (1, 1) := by kernel_rfl
@[go_sem] theorem ty_sz117 : tsz Try.prog 117 = some 2 := by kernel_rfl
@[go_sem] theorem ty_agg117 : tagg Try.prog 117 = some true := by kernel_rfl
@[go_sem] theorem ty_zero117 : tzero Try.prog 117 = some [.con (.slice none 0 0), .con (.bool false)] := by kernel_rfl
@[go_sem] theorem ty_kind117 : tkind Try.prog 117 = 5 := by kernel_rfl
@[go_sem] theorem ty_flds117 : tflds Try.prog 117 = true := by kernel_rfl
@[go_sem] theorem ty_fld117_0 : tfld Try.prog 117 0 = some (0, 23, 1) := by kernel_rfl
@[go_sem] theorem ty_pl117_0 : places Try.prog 117 0 = some (0, 1) := by kernel_rfl
@[go_sem] theorem ty_fld117_1 : tfld Try.prog 117 1 = some (1, 4, 1) := by kernel_rfl
@[go_sem] theorem ty_pl117_1 : places Try.prog 117 1 = some (1, 1) := by kernel_rfl
@[go_sem] theorem ty_sz118 : tsz Try.prog 118 = some 1 := by kernel_rfl
@[go_sem] theorem ty_agg118 : tagg Try.prog 118 = some false := by kernel_rfl
@[go_sem] theorem ty_zero118 : tzero Try.prog 118 = some [.con .nilFunc] := by kernel_rfl
@[go_sem] theorem ty_sz119 : tsz Try.prog 119 = some 1 := by kernel_rfl
@[go_sem] theorem ty_agg119 : tagg Try.prog 119 = some false := by kernel_rfl
@[go_sem] theorem ty_zero119 : tzero Try.prog 119 = some [.con .nilFunc] := by kernel_rfl
@[go_sem] theorem ty_sz120 : tsz Try.prog 120 = some 1 := by kernel_rfl
@[go_sem] theorem ty_agg120 : tagg Try.prog 120 = some false := by kernel_rfl
@[go_sem] theorem ty_zero120 : tzero Try.prog 120 = some [.con .nilFunc] := by kernel_rfl
@[go_sem] theorem ty_sz121 : tsz Try.prog 121 = some 1 := by kernel_rfl
@[go_sem] theorem ty_agg121 : tagg Try.prog 121 = some false := by kernel_rfl
@[go_sem] theorem ty_zero121 : tzero Try.prog 121 = some [.con .nilFunc] := by kernel_rfl
@[go_sem] theorem ty_sz122 : tsz Try.prog 122 = some 1 := by kernel_rfl
@[go_sem] theorem ty_agg122 : tagg Try.prog 122 = some false := by kernel_rfl
@[go_sem] theorem ty_zero122 : tzero Try.prog 122 = some [.con .nilFunc] := by kernel_rfl
@[go_sem] theorem ty_sz123 : tsz Try.prog 123 = some 1 := by kernel_rfl
@[go_sem] theorem ty_agg123 : tagg Try.prog 123 = some false := by kernel_rfl
@[go_sem] theorem ty_zero123 : tzero Try.prog 123 = some [.con .nilFunc] := by kernel_rfl
@[go_sem] theorem ty_sz124 : tsz Try.prog 124 = some 1 := by kernel_rfl
@[go_sem] theorem ty_agg124 : tagg Try.prog 124 = some false := by kernel_rfl
@[go_sem] theorem ty_zero124 : tzero Try.prog 124 = some [.con .nilFunc] := by kernel_rfl
@[go_sem] theorem ty_sz125 : tsz Try.prog 125 = some 1 := by kernel_rfl
@[go_sem] theorem ty_agg125 : tagg Try.prog 125 = some false := by kernel_rfl
@[go_sem] theorem ty_zero125 : tzero Try.prog 125 = some [.con .nilFunc] := by kernel_rfl
@[go_sem] theorem ty_sz126 : tsz Try.prog 126 = some 1 := by kernel_rfl
@[go_sem] theorem ty_agg126 : tagg Try.prog 126 = some false := by kernel_rfl
@[go_sem] theorem ty_zero126 : tzero Try.prog 126 = some [.con .nilFunc] := by kernel_rfl
@[go_sem] theorem ty_sz127 : tsz Try.prog 127 = some 5 := by kernel_rfl
@[go_sem] theorem ty_agg127 : tagg Try.prog 127 = some true := by kernel_rfl
@[go_sem] theorem ty_zero127 : tzero Try.prog 127 = some [.con (.string ⟨#[]⟩), .con (.int .i64 0), .con (.int .i64 0), .con (.string ⟨#[]⟩), .con (.slice none 0 0)] := by kernel_rfl
@[go_sem] theorem ty_kind127 : tkind Try.prog 127 = 5 := by kernel_rfl
@[go_sem] theorem ty_flds127 : tflds Try.prog 127 = true := by kernel_rfl
@[go_sem] theorem ty_fld127_0 : tfld Try.prog 127 0 = some (0, 9, 1) := by kernel_rfl
@[go_sem] theorem ty_pl127_0 : places Try.prog 127 0 = some (0, 1) := by kernel_rfl
@[go_sem] theorem ty_fld127_1 : tfld Try.prog 127 1 = some (1, 50, 4) := by kernel_rfl
@[go_sem] theorem ty_pl127_1 : places Try.prog 127 1 = some (1, 4) := by kernel_rfl
@[go_sem] theorem ty_sz128 : tsz Try.prog 128 = some 5 := by kernel_rfl
@[go_sem] theorem ty_agg128 : tagg Try.prog 128 = some true := by kernel_rfl
@[go_sem] theorem ty_zero128 : tzero Try.prog 128 = some [.con (.string ⟨#[]⟩), .con (.int .i64 0), .con (.int .i64 0), .con (.string ⟨#[]⟩), .con (.slice none 0 0)] := by kernel_rfl
@[go_sem] theorem ty_kind128 : tkind Try.prog 128 = 5 := by kernel_rfl
@[go_sem] theorem ty_flds128 : tflds Try.prog 128 = true := by kernel_rfl
@[go_sem] theorem ty_fld128_0 : tfld Try.prog 128 0 = some (0, 9, 1) := by kernel_rfl
@[go_sem] theorem ty_pl128_0 : places Try.prog 128 0 = some (0, 1) := by kernel_rfl
@[go_sem] theorem ty_fld128_1 : tfld Try.prog 128 1 = some (1, 50, 4) := by kernel_rfl
@[go_sem] theorem ty_pl128_1 : places Try.prog 128 1 = some (1, 4) := by kernel_rfl
@[go_sem] theorem ty_sz129 : tsz Try.prog 129 = some 1 := by kernel_rfl
@[go_sem] theorem ty_agg129 : tagg Try.prog 129 = some false := by kernel_rfl
@[go_sem] theorem ty_zero129 : tzero Try.prog 129 = some [.con .nilFunc] := by kernel_rfl
@[go_sem] theorem ty_sz130 : tsz Try.prog 130 = some 1 := by kernel_rfl
@[go_sem] theorem ty_agg130 : tagg Try.prog 130 = some false := by kernel_rfl
@[go_sem] theorem ty_zero130 : tzero Try.prog 130 = some [.con .nilFunc] := by kernel_rfl
@[go_sem] theorem ty_sz131 : tsz Try.prog 131 = some 1 := by kernel_rfl
@[go_sem] theorem ty_agg131 : tagg Try.prog 131 = some false := by kernel_rfl
@[go_sem] theorem ty_zero131 : tzero Try.prog 131 = some [.con .nilFunc] := by kernel_rfl
@[go_sem] theorem ty_sz132 : tsz Try.prog 132 = some 1 := by kernel_rfl
@[go_sem] theorem ty_agg132 : tagg Try.prog 132 = some false := by kernel_rfl
@[go_sem] theorem ty_zero132 : tzero Try.prog 132 = some [.con (.slice none 0 0)] := by kernel_rfl
@[go_sem] theorem ty_kind132 : tkind Try.prog 132 = 4 := by kernel_rfl
@[go_sem] theorem ty_elem132 : telem Try.prog 132 = some (69, 1, 24) := by kernel_rfl
@[go_sem] theorem ty_sz133 : tsz Try.prog 133 = some 4 := by kernel_rfl
@[go_sem] theorem ty_agg133 : tagg Try.prog 133 = some true := by kernel_rfl
@[go_sem] theorem ty_zero133 : tzero Try.prog 133 = some [.con (.string ⟨#[]⟩), .con (.slice none 0 0), .con (.slice none 0 0), .con (.slice none 0 0)] := by kernel_rfl
@[go_sem] theorem ty_kind133 : tkind Try.prog 133 = 5 := by kernel_rfl
@[go_sem] theorem ty_flds133 : tflds Try.prog 133 = true := by kernel_rfl
@[go_sem] theorem ty_fld133_0 : tfld Try.prog 133 0 = some (0, 9, 1) := by kernel_rfl
@[go_sem] theorem ty_pl133_0 : places Try.prog 133 0 = some (0, 1) := by kernel_rfl
@[go_sem] theorem ty_fld133_1 : tfld Try.prog 133 1 = some (1, 47, 1) := by kernel_rfl
@[go_sem] theorem ty_pl133_1 : places Try.prog 133 1 = some (1, 1) := by kernel_rfl
@[go_sem] theorem ty_fld133_2 : tfld Try.prog 133 2 = some (2, 99, 1) := by kernel_rfl
@[go_sem] theorem ty_pl133_2 : places Try.prog 133 2 = some (2, 1) := by kernel_rfl
@[go_sem] theorem ty_fld133_3 : tfld Try.prog 133 3 = some (3, 132, 1) := by kernel_rfl
@[go_sem] theorem ty_pl133_3 : places Try.prog 133 3 = some (3, 1) := by kernel_rfl
@[go_sem] theorem ty_sz134 : tsz Try.prog 134 = some 4 := by kernel_rfl
@[go_sem] theorem ty_agg134 : tagg Try.prog 134 = some true := by kernel_rfl
@[go_sem] theorem ty_zero134 : tzero Try.prog 134 = some [.con (.string ⟨#[]⟩), .con (.slice none 0 0), .con (.slice none 0 0), .con (.slice none 0 0)] := by kernel_rfl
@[go_sem] theorem ty_kind134 : tkind Try.prog 134 = 5 := by kernel_rfl
@[go_sem] theorem ty_flds134 : tflds Try.prog 134 = true := by kernel_rfl
@[go_sem] theorem ty_fld134_0 : tfld Try.prog 134 0 = some (0, 9, 1) := by kernel_rfl
@[go_sem] theorem ty_pl134_0 : places Try.prog 134 0 = some (0, 1) := by kernel_rfl
@[go_sem] theorem ty_fld134_1 : tfld Try.prog 134 1 = some (1, 47, 1) := by kernel_rfl
@[go_sem] theorem ty_pl134_1 : places Try.prog 134 1 = some (1, 1) := by kernel_rfl
@[go_sem] theorem ty_fld134_2 : tfld Try.prog 134 2 = some (2, 99, 1) := by kernel_rfl
@[go_sem] theorem ty_pl134_2 : places Try.prog 134 2 = some (2, 1) := by kernel_rfl
@[go_sem] theorem ty_fld134_3 : tfld Try.prog 134 3 = some (3, 132, 1) := by kernel_rfl
@[go_sem] theorem ty_pl134_3 : places Try.prog 134 3 = some (3, 1) := by kernel_rfl
@[go_sem] theorem ty_sz135 : tsz Try.prog 135 = some 1 := by kernel_rfl
@[go_sem] theorem ty_agg135 : tagg Try.prog 135 = some false := by kernel_rfl
@[go_sem] theorem ty_zero135 : tzero Try.prog 135 = some [.con .nilFunc] := by kernel_rfl
@[go_sem] theorem ty_sz136 : tsz Try.prog 136 = some 1 := by kernel_rfl
@[go_sem] theorem ty_agg136 : tagg Try.prog 136 = some false := by kernel_rfl
@[go_sem] theorem ty_zero136 : tzero Try.prog 136 = some [.con .nilFunc] := by kernel_rfl
@[go_sem] theorem ty_sz137 : tsz Try.prog 137 = some 1 := by kernel_rfl
@[go_sem] theorem ty_agg137 : tagg Try.prog 137 = some false := by kernel_rfl
@[go_sem] theorem ty_zero137 : tzero Try.prog 137 = some [.con (.int .i64 0)] := by kernel_rfl
@[go_sem] theorem ty_kind137 : tkind Try.prog 137 = 3 := by kernel_rfl
@[go_sem] theorem ty_int137 : tint Try.prog 137 = some .i64 := by kernel_rfl
@[go_sem] theorem ty_sz139 : tsz Try.prog 139 = some 1 := by kernel_rfl
@[go_sem] theorem ty_agg139 : tagg Try.prog 139 = some false := by kernel_rfl
@[go_sem] theorem ty_zero139 : tzero Try.prog 139 = some [.con .nilFunc] := by kernel_rfl
@[go_sem] theorem ty_sz140 : tsz Try.prog 140 = some 1 := by kernel_rfl
@[go_sem] theorem ty_agg140 : tagg Try.prog 140 = some false := by kernel_rfl
@[go_sem] theorem ty_zero140 : tzero Try.prog 140 = some [.con .nilFunc] := by kernel_rfl
@[go_sem] theorem ty_sz141 : tsz Try.prog 141 = some 1 := by kernel_rfl
@[go_sem] theorem ty_agg141 : tagg Try.prog 141 = some false := by kernel_rfl
@[go_sem] theorem ty_zero141 : tzero Try.prog 141 = some [.con .nilFunc] := by kernel_rfl
@[go_sem] theorem ty_sz142 : tsz Try.prog 142 = some 1 := by kernel_rfl
@[go_sem] theorem ty_agg142 : tagg Try.prog 142 = some false := by kernel_rfl
@[go_sem] theorem ty_zero142 : tzero Try.prog 142 = some [.con .nilFunc] := by kernel_rfl
@[go_sem] theorem ty_sz144 : tsz Try.prog 144 = some 1 := by kernel_rfl
@[go_sem] theorem ty_agg144 : tagg Try.prog 144 = some false := by kernel_rfl
@[go_sem] theorem ty_zero144 : tzero Try.prog 144 = some [.con .nilFunc] := by kernel_rfl
@[go_sem] theorem ty_sz145 : tsz Try.prog 145 = some 1 := by kernel_rfl
@[go_sem] theorem ty_agg145 : tagg Try.prog 145 = some false := by kernel_rfl
@[go_sem] theorem ty_zero145 : tzero Try.prog 145 = some [.con .nilFunc] := by kernel_rfl
@[go_sem] theorem ty_sz146 : tsz Try.prog 146 = some 1 := by kernel_rfl
@[go_sem] theorem ty_agg146 : tagg Try.prog 146 = some false := by kernel_rfl
@[go_sem] theorem ty_zero146 : tzero Try.prog 146 = some [.con .nilFunc] := by kernel_rfl
@[go_sem] theorem ty_sz147 : tsz Try.prog 147 = some 1 := by kernel_rfl
@[go_sem] theorem ty_agg147 : tagg Try.prog 147 = some false := by kernel_rfl
@[go_sem] theorem ty_zero147 : tzero Try.prog 147 = some [.con .nilFunc] := by kernel_rfl
@[go_sem] theorem ty_sz148 : tsz Try.prog 148 = some 1 := by kernel_rfl
@[go_sem] theorem ty_agg148 : tagg Try.prog 148 = some false := by kernel_rfl
@[go_sem] theorem ty_zero148 : tzero Try.prog 148 = some [.con .nilFunc] := by kernel_rfl
@[go_sem] theorem ty_sz149 : tsz Try.prog 149 = some 1 := by kernel_rfl
@[go_sem] theorem ty_agg149 : tagg Try.prog 149 = some false := by kernel_rfl
@[go_sem] theorem ty_zero149 : tzero Try.prog 149 = some [.con .nilFunc] := by kernel_rfl
@[go_sem] theorem ty_sz150 : tsz Try.prog 150 = some 1 := by kernel_rfl
@[go_sem] theorem ty_agg150 : tagg Try.prog 150 = some false := by kernel_rfl
@[go_sem] theorem ty_zero150 : tzero Try.prog 150 = some [.con .nilFunc] := by kernel_rfl
@[go_sem] theorem ty_sz151 : tsz Try.prog 151 = some 1 := by kernel_rfl
@[go_sem] theorem ty_agg151 : tagg Try.prog 151 = some false := by kernel_rfl
@[go_sem] theorem ty_zero151 : tzero Try.prog 151 = some [.con .nilFunc] := by kernel_rfl
@[go_sem] theorem ty_sz152 : tsz Try.prog 152 = some 1 := by kernel_rfl
@[go_sem] theorem ty_agg152 : tagg Try.prog 152 = some false := by kernel_rfl
@[go_sem] theorem ty_zero152 : tzero Try.prog 152 = some [.con (.slice none 0 0)] := by kernel_rfl
@[go_sem] theorem ty_kind152 : tkind Try.prog 152 = 4 := by kernel_rfl
@[go_sem] theorem ty_elem152 : telem Try.prog 152 = some (47, 1, 24) := by kernel_rfl
@[go_sem] theorem ty_sz154 : tsz Try.prog 154 = some 1 := by kernel_rfl
@[go_sem] theorem ty_agg154 : tagg Try.prog 154 = some false := by kernel_rfl
@[go_sem] theorem ty_zero154 : tzero Try.prog 154 = some [.con .nilFunc] := by kernel_rfl
@[go_sem] theorem ty_sz155 : tsz Try.prog 155 = some 1 := by kernel_rfl
@[go_sem] theorem ty_agg155 : tagg Try.prog 155 = some false := by kernel_rfl
@[go_sem] theorem ty_zero155 : tzero Try.prog 155 = some [.con .nilFunc] := by kernel_rfl
@[go_sem] theorem ty_sz156 : tsz Try.prog 156 = some 1 := by kernel_rfl
@[go_sem] theorem ty_agg156 : tagg Try.prog 156 = some false := by kernel_rfl
@[go_sem] theorem ty_zero156 : tzero Try.prog 156 = some [.con .nilFunc] := by kernel_rfl
@[go_sem] theorem ty_sz157 : tsz Try.prog 157 = some 1 := by kernel_rfl
@[go_sem] theorem ty_agg157 : tagg Try.prog 157 = some false := by kernel_rfl
@[go_sem] theorem ty_zero157 : tzero Try.prog 157 = some [.con .nilFunc] := by kernel_rfl
@[go_sem] theorem ty_sz158 : tsz Try.prog 158 = some 1 := by kernel_rfl
@[go_sem] theorem ty_agg158 : tagg Try.prog 158 = some false := by kernel_rfl
@[go_sem] theorem ty_zero158 : tzero Try.prog 158 = some [.con .nilFunc] := by kernel_rfl
@[go_sem] theorem ty_sz159 : tsz Try.prog 159 = some 1 := by kernel_rfl
@[go_sem] theorem ty_agg159 : tagg Try.prog 159 = some false := by kernel_rfl
@[go_sem] theorem ty_zero159 : tzero Try.prog 159 = some [.con .nilFunc] := by kernel_rfl
@[go_sem] theorem ty_sz160 : tsz Try.prog 160 = some 1 := by kernel_rfl
@[go_sem] theorem ty_agg160 : tagg Try.prog 160 = some false := by kernel_rfl
@[go_sem] theorem ty_zero160 : tzero Try.prog 160 = some [.con .nilFunc] := by kernel_rfl
@[go_sem] theorem ty_sz161 : tsz Try.prog 161 = some 1 := by kernel_rfl
@[go_sem] theorem ty_agg161 : tagg Try.prog 161 = some false := by kernel_rfl
@[go_sem] theorem ty_zero161 : tzero Try.prog 161 = some [.con .nilFunc] := by kernel_rfl
@[go_sem] theorem ty_sz162 : tsz Try.prog 162 = some 1 := by kernel_rfl
@[go_sem] theorem ty_agg162 : tagg Try.prog 162 = some false := by kernel_rfl
@[go_sem] theorem ty_zero162 : tzero Try.prog 162 = some [.con (.int .u64 0)] := by kernel_rfl
@[go_sem] theorem ty_kind162 : tkind Try.prog 162 = 3 := by kernel_rfl
@[go_sem] theorem ty_int162 : tint Try.prog 162 = some .u64 := by kernel_rfl
@[go_sem] theorem ty_sz163 : tsz Try.prog 163 = some 1 := by kernel_rfl
@[go_sem] theorem ty_agg163 : tagg Try.prog 163 = some false := by kernel_rfl
@[go_sem] theorem ty_zero163 : tzero Try.prog 163 = some [.con .nilFunc] := by kernel_rfl
@[go_sem] theorem ty_sz164 : tsz Try.prog 164 = some 1 := by kernel_rfl
@[go_sem] theorem ty_agg164 : tagg Try.prog 164 = some false := by kernel_rfl
@[go_sem] theorem ty_zero164 : tzero Try.prog 164 = some [.con .nilFunc] := by kernel_rfl
@[go_sem] theorem ty_sz165 : tsz Try.prog 165 = some 1 := by kernel_rfl
@[go_sem] theorem ty_agg165 : tagg Try.prog 165 = some false := by kernel_rfl
@[go_sem] theorem ty_zero165 : tzero Try.prog 165 = some [.con (.pointer none)] := by kernel_rfl
@[go_sem] theorem ty_kind165 : tkind Try.prog 165 = 6 := by kernel_rfl
@[go_sem] theorem ty_sz166 : tsz Try.prog 166 = some 1 := by kernel_rfl
@[go_sem] theorem ty_agg166 : tagg Try.prog 166 = some false := by kernel_rfl
@[go_sem] theorem ty_zero166 : tzero Try.prog 166 = some [.con .nilFunc] := by kernel_rfl
@[go_sem] theorem ty_sz167 : tsz Try.prog 167 = some 1 := by kernel_rfl
@[go_sem] theorem ty_agg167 : tagg Try.prog 167 = some false := by kernel_rfl
@[go_sem] theorem ty_zero167 : tzero Try.prog 167 = some [.con .nilFunc] := by kernel_rfl
@[go_sem] theorem ty_sz168 : tsz Try.prog 168 = some 1 := by kernel_rfl
@[go_sem] theorem ty_agg168 : tagg Try.prog 168 = some false := by kernel_rfl
@[go_sem] theorem ty_zero168 : tzero Try.prog 168 = some [.con .nilFunc] := by kernel_rfl
@[go_sem] theorem ty_sz169 : tsz Try.prog 169 = some 1 := by kernel_rfl
@[go_sem] theorem ty_agg169 : tagg Try.prog 169 = some false := by kernel_rfl
@[go_sem] theorem ty_zero169 : tzero Try.prog 169 = some [.con .nilFunc] := by kernel_rfl
@[go_sem] theorem ty_sz170 : tsz Try.prog 170 = some 1 := by kernel_rfl
@[go_sem] theorem ty_agg170 : tagg Try.prog 170 = some false := by kernel_rfl
@[go_sem] theorem ty_zero170 : tzero Try.prog 170 = some [.con .nilFunc] := by kernel_rfl
@[go_sem] theorem ty_sz171 : tsz Try.prog 171 = some 1 := by kernel_rfl
@[go_sem] theorem ty_agg171 : tagg Try.prog 171 = some false := by kernel_rfl
@[go_sem] theorem ty_zero171 : tzero Try.prog 171 = some [.con .nilFunc] := by kernel_rfl
@[go_sem] theorem ty_sz172 : tsz Try.prog 172 = some 1 := by kernel_rfl
@[go_sem] theorem ty_agg172 : tagg Try.prog 172 = some false := by kernel_rfl
@[go_sem] theorem ty_zero172 : tzero Try.prog 172 = some [.con .nilFunc] := by kernel_rfl
@[go_sem] theorem ty_sz173 : tsz Try.prog 173 = some 1 := by kernel_rfl
@[go_sem] theorem ty_agg173 : tagg Try.prog 173 = some false := by kernel_rfl
@[go_sem] theorem ty_zero173 : tzero Try.prog 173 = some [.con .nilFunc] := by kernel_rfl
@[go_sem] theorem ty_sz174 : tsz Try.prog 174 = some 1 := by kernel_rfl
@[go_sem] theorem ty_agg174 : tagg Try.prog 174 = some false := by kernel_rfl
@[go_sem] theorem ty_zero174 : tzero Try.prog 174 = some [.con .nilFunc] := by kernel_rfl
@[go_sem] theorem ty_sz175 : tsz Try.prog 175 = some 1 := by kernel_rfl
@[go_sem] theorem ty_agg175 : tagg Try.prog 175 = some false := by kernel_rfl
@[go_sem] theorem ty_zero175 : tzero Try.prog 175 = some [.con .nilFunc] := by kernel_rfl
@[go_sem] theorem ty_sz176 : tsz Try.prog 176 = some 1 := by kernel_rfl
@[go_sem] theorem ty_agg176 : tagg Try.prog 176 = some false := by kernel_rfl
@[go_sem] theorem ty_zero176 : tzero Try.prog 176 = some [.con (.pointer none)] := by kernel_rfl
@[go_sem] theorem ty_kind176 : tkind Try.prog 176 = 6 := by kernel_rfl
@[go_sem] theorem ty_sz178 : tsz Try.prog 178 = some 1 := by kernel_rfl
@[go_sem] theorem ty_agg178 : tagg Try.prog 178 = some false := by kernel_rfl
@[go_sem] theorem ty_zero178 : tzero Try.prog 178 = some [.con .nilFunc] := by kernel_rfl
@[go_sem] theorem ty_sz179 : tsz Try.prog 179 = some 1 := by kernel_rfl
@[go_sem] theorem ty_agg179 : tagg Try.prog 179 = some false := by kernel_rfl
@[go_sem] theorem ty_zero179 : tzero Try.prog 179 = some [.con .nilFunc] := by kernel_rfl
@[go_sem] theorem ty_sz180 : tsz Try.prog 180 = some 1 := by kernel_rfl
@[go_sem] theorem ty_agg180 : tagg Try.prog 180 = some false := by kernel_rfl
@[go_sem] theorem ty_zero180 : tzero Try.prog 180 = some [.con .nilFunc] := by kernel_rfl
@[go_sem] theorem ty_sz181 : tsz Try.prog 181 = some 1 := by kernel_rfl
@[go_sem] theorem ty_agg181 : tagg Try.prog 181 = some false := by kernel_rfl
@[go_sem] theorem ty_zero181 : tzero Try.prog 181 = some [.con .nilFunc] := by kernel_rfl
@[go_sem] theorem ty_sz182 : tsz Try.prog 182 = some 1 := by kernel_rfl
@[go_sem] theorem ty_agg182 : tagg Try.prog 182 = some false := by kernel_rfl
@[go_sem] theorem ty_zero182 : tzero Try.prog 182 = some [.con .nilFunc] := by kernel_rfl
@[go_sem] theorem ty_sz183 : tsz Try.prog 183 = some 1 := by kernel_rfl
@[go_sem] theorem ty_agg183 : tagg Try.prog 183 = some false := by kernel_rfl
@[go_sem] theorem ty_zero183 : tzero Try.prog 183 = some [.con .nilFunc] := by kernel_rfl
@[go_sem] theorem ty_sz184 : tsz Try.prog 184 = some 1 := by kernel_rfl
@[go_sem] theorem ty_agg184 : tagg Try.prog 184 = some false := by kernel_rfl
@[go_sem] theorem ty_zero184 : tzero Try.prog 184 = some [.con .nilFunc] := by kernel_rfl
@[go_sem] theorem ty_sz185 : tsz Try.prog 185 = some 1 := by kernel_rfl
@[go_sem] theorem ty_agg185 : tagg Try.prog 185 = some false := by kernel_rfl
@[go_sem] theorem ty_zero185 : tzero Try.prog 185 = some [.con .nilFunc] := by kernel_rfl
@[go_sem] theorem ty_sz186 : tsz Try.prog 186 = some 1 := by kernel_rfl
@[go_sem] theorem ty_agg186 : tagg Try.prog 186 = some false := by kernel_rfl
@[go_sem] theorem ty_zero186 : tzero Try.prog 186 = some [.con .nilFunc] := by kernel_rfl
@[go_sem] theorem ty_sz187 : tsz Try.prog 187 = some 1 := by kernel_rfl
@[go_sem] theorem ty_agg187 : tagg Try.prog 187 = some false := by kernel_rfl
@[go_sem] theorem ty_zero187 : tzero Try.prog 187 = some [.con .nilFunc] := by kernel_rfl
@[go_sem] theorem ty_sz188 : tsz Try.prog 188 = some 1 := by kernel_rfl
@[go_sem] theorem ty_agg188 : tagg Try.prog 188 = some false := by kernel_rfl
@[go_sem] theorem ty_zero188 : tzero Try.prog 188 = some [.con .nilFunc] := by kernel_rfl
@[go_sem] theorem ty_sz189 : tsz Try.prog 189 = some 1 := by kernel_rfl
@[go_sem] theorem ty_agg189 : tagg Try.prog 189 = some false := by kernel_rfl
@[go_sem] theorem ty_zero189 : tzero Try.prog 189 = some [.con .nilFunc] := by kernel_rfl
@[go_sem] theorem ty_sz190 : tsz Try.prog 190 = some 1 := by kernel_rfl
@[go_sem] theorem ty_agg190 : tagg Try.prog 190 = some false := by kernel_rfl
@[go_sem] theorem ty_zero190 : tzero Try.prog 190 = some [.con .nilFunc] := by kernel_rfl
@[go_sem] theorem ty_sz191 : tsz Try.prog 191 = some 1 := by kernel_rfl
@[go_sem] theorem ty_agg191 : tagg Try.prog 191 = some false := by kernel_rfl
@[go_sem] theorem ty_zero191 : tzero Try.prog 191 = some [.con .nilFunc] := by kernel_rfl
@[go_sem] theorem ty_sz192 : tsz Try.prog 192 = some 1 := by kernel_rfl
@[go_sem] theorem ty_agg192 : tagg Try.prog 192 = some false := by kernel_rfl
@[go_sem] theorem ty_zero192 : tzero Try.prog 192 = some [.con .nilFunc] := by kernel_rfl
@[go_sem] theorem ty_sz193 : tsz Try.prog 193 = some 4 := by kernel_rfl
@[go_sem] theorem ty_agg193 : tagg Try.prog 193 = some true := by kernel_rfl
@[go_sem] theorem ty_kind193 : tkind Try.prog 193 = 5 := by kernel_rfl
@[go_sem] theorem ty_flds193 : tflds Try.prog 193 = true := by kernel_rfl
@[go_sem] theorem ty_fld193_0 : tfld Try.prog 193 0 = some (0, 17, 1) := by kernel_rfl
@[go_sem] theorem ty_pl193_0 : places Try.prog 193 0 = some (0, 1) := by kernel_rfl
@[go_sem] theorem ty_fld193_1 : tfld Try.prog 193 1 = some (1, 17, 1) := by kernel_rfl
@[go_sem] theorem ty_pl193_1 : places Try.prog 193 1 = some (1, 1) := by kernel_rfl
@[go_sem] theorem ty_fld193_2 : tfld Try.prog 193 2 = some (2, 17, 1) := by kernel_rfl
@[go_sem] theorem ty_pl193_2 : places Try.prog 193 2 = some (2, 1) := by kernel_rfl
@[go_sem] theorem ty_fld193_3 : tfld Try.prog 193 3 = some (3, 9, 1) := by kernel_rfl
@[go_sem] theorem ty_pl193_3 : places Try.prog 193 3 = some (3, 1) := by kernel_rfl
@[go_sem] theorem ty_sz194 : tsz Try.prog 194 = some 4 := by kernel_rfl
@[go_sem] theorem ty_agg194 : tagg Try.prog 194 = some true := by kernel_rfl
@[go_sem] theorem ty_kind194 : tkind Try.prog 194 = 5 := by kernel_rfl
@[go_sem] theorem ty_flds194 : tflds Try.prog 194 = true := by kernel_rfl
@[go_sem] theorem ty_fld194_0 : tfld Try.prog 194 0 = some (0, 17, 1) := by kernel_rfl
@[go_sem] theorem ty_pl194_0 : places Try.prog 194 0 = some (0, 1) := by kernel_rfl
@[go_sem] theorem ty_fld194_1 : tfld Try.prog 194 1 = some (1, 17, 1) := by kernel_rfl
@[go_sem] theorem ty_pl194_1 : places Try.prog 194 1 = some (1, 1) := by kernel_rfl
@[go_sem] theorem ty_fld194_2 : tfld Try.prog 194 2 = some (2, 17, 1) := by kernel_rfl
@[go_sem] theorem ty_pl194_2 : places Try.prog 194 2 = some (2, 1) := by kernel_rfl
@[go_sem] theorem ty_fld194_3 : tfld Try.prog 194 3 = some (3, 9, 1) := by kernel_rfl
@[go_sem] theorem ty_pl194_3 : places Try.prog 194 3 = some (3, 1) := by kernel_rfl
@[go_sem] theorem ty_sz195 : tsz Try.prog 195 = some 0 := by kernel_rfl
@[go_sem] theorem ty_agg195 : tagg Try.prog 195 = some true := by kernel_rfl
@[go_sem] theorem ty_zero195 : tzero Try.prog 195 = some [] := by kernel_rfl
@[go_sem] theorem ty_arr195 : tarr Try.prog 195 = some (0, 1) := by kernel_rfl
@[go_sem] theorem ty_flds195 : tflds Try.prog 195 = true := by kernel_rfl
@[go_sem] theorem ty_sz196 : tsz Try.prog 196 = some 0 := by kernel_rfl
@[go_sem] theorem ty_agg196 : tagg Try.prog 196 = some true := by kernel_rfl
@[go_sem] theorem ty_zero196 : tzero Try.prog 196 = some [] := by kernel_rfl
@[go_sem] theorem ty_kind196 : tkind Try.prog 196 = 5 := by kernel_rfl
@[go_sem] theorem ty_flds196 : tflds Try.prog 196 = true := by kernel_rfl
@[go_sem] theorem ty_fld196_0 : tfld Try.prog 196 0 = some (0, 195, 0) := by kernel_rfl
@[go_sem] theorem ty_pl196_0 : places Try.prog 196 0 = some (0, 0) := by kernel_rfl
@[go_sem] theorem ty_sz197 : tsz Try.prog 197 = some 0 := by kernel_rfl
@[go_sem] theorem ty_agg197 : tagg Try.prog 197 = some true := by kernel_rfl
@[go_sem] theorem ty_zero197 : tzero Try.prog 197 = some [] := by kernel_rfl
@[go_sem] theorem ty_kind197 : tkind Try.prog 197 = 5 := by kernel_rfl
@[go_sem] theorem ty_flds197 : tflds Try.prog 197 = true := by kernel_rfl
@[go_sem] theorem ty_fld197_0 : tfld Try.prog 197 0 = some (0, 195, 0) := by kernel_rfl
@[go_sem] theorem ty_pl197_0 : places Try.prog 197 0 = some (0, 0) := by kernel_rfl
@[go_sem] theorem ty_sz198 : tsz Try.prog 198 = some 1 := by kernel_rfl
@[go_sem] theorem ty_agg198 : tagg Try.prog 198 = some false := by kernel_rfl
@[go_sem] theorem ty_zero198 : tzero Try.prog 198 = some [.con (.int .u8 0)] := by kernel_rfl
@[go_sem] theorem ty_kind198 : tkind Try.prog 198 = 3 := by kernel_rfl
@[go_sem] theorem ty_int198 : tint Try.prog 198 = some .u8 := by kernel_rfl
@[go_sem] theorem ty_sz199 : tsz Try.prog 199 = some 1 := by kernel_rfl
@[go_sem] theorem ty_agg199 : tagg Try.prog 199 = some false := by kernel_rfl
@[go_sem] theorem ty_zero199 : tzero Try.prog 199 = some [.con (.int .u8 0)] := by kernel_rfl
@[go_sem] theorem ty_kind199 : tkind Try.prog 199 = 3 := by kernel_rfl
@[go_sem] theorem ty_int199 : tint Try.prog 199 = some .u8 := by kernel_rfl
@[go_sem] theorem ty_sz200 : tsz Try.prog 200 = some 1 := by kernel_rfl
@[go_sem] theorem ty_agg200 : tagg Try.prog 200 = some false := by kernel_rfl
@[go_sem] theorem ty_zero200 : tzero Try.prog 200 = some [.con .nilFunc] := by kernel_rfl
@[go_sem] theorem ty_sz201 : tsz Try.prog 201 = some 1 := by kernel_rfl
@[go_sem] theorem ty_agg201 : tagg Try.prog 201 = some false := by kernel_rfl
@[go_sem] theorem ty_zero201 : tzero Try.prog 201 = some [.con (.pointer none)] := by kernel_rfl
@[go_sem] theorem ty_kind201 : tkind Try.prog 201 = 6 := by kernel_rfl
@[go_sem] theorem ty_sz202 : tsz Try.prog 202 = some 1 := by kernel_rfl
@[go_sem] theorem ty_agg202 : tagg Try.prog 202 = some false := by kernel_rfl
@[go_sem] theorem ty_zero202 : tzero Try.prog 202 = some [.con (.int .i32 0)] := by kernel_rfl
@[go_sem] theorem ty_kind202 : tkind Try.prog 202 = 3 := by kernel_rfl
@[go_sem] theorem ty_int202 : tint Try.prog 202 = some .i32 := by kernel_rfl
@[go_sem] theorem ty_sz203 : tsz Try.prog 203 = some 1 := by kernel_rfl
@[go_sem] theorem ty_agg203 : tagg Try.prog 203 = some false := by kernel_rfl
@[go_sem] theorem ty_zero203 : tzero Try.prog 203 = some [.con (.int .i32 0)] := by kernel_rfl
@[go_sem] theorem ty_kind203 : tkind Try.prog 203 = 3 := by kernel_rfl
@[go_sem] theorem ty_int203 : tint Try.prog 203 = some .i32 := by kernel_rfl
@[go_sem] theorem ty_sz204 : tsz Try.prog 204 = some 11 := by kernel_rfl
@[go_sem] theorem ty_agg204 : tagg Try.prog 204 = some true := by kernel_rfl
@[go_sem] theorem ty_kind204 : tkind Try.prog 204 = 5 := by kernel_rfl
@[go_sem] theorem ty_flds204 : tflds Try.prog 204 = true := by kernel_rfl
@[go_sem] theorem ty_fld204_0 : tfld Try.prog 204 0 = some (0, 12, 1) := by kernel_rfl
@[go_sem] theorem ty_pl204_0 : places Try.prog 204 0 = some (0, 1) := by kernel_rfl
@[go_sem] theorem ty_fld204_1 : tfld Try.prog 204 1 = some (1, 12, 1) := by kernel_rfl
@[go_sem] theorem ty_pl204_1 : places Try.prog 204 1 = some (1, 1) := by kernel_rfl
@[go_sem] theorem ty_fld204_2 : tfld Try.prog 204 2 = some (2, 91, 1) := by kernel_rfl
@[go_sem] theorem ty_pl204_2 : places Try.prog 204 2 = some (2, 1) := by kernel_rfl
@[go_sem] theorem ty_fld204_3 : tfld Try.prog 204 3 = some (3, 198, 1) := by kernel_rfl
@[go_sem] theorem ty_pl204_3 : places Try.prog 204 3 = some (3, 1) := by kernel_rfl
@[go_sem] theorem ty_fld204_4 : tfld Try.prog 204 4 = some (4, 5, 1) := by kernel_rfl
@[go_sem] theorem ty_pl204_4 : places Try.prog 204 4 = some (4, 1) := by kernel_rfl
@[go_sem] theorem ty_fld204_5 : tfld Try.prog 204 5 = some (5, 5, 1) := by kernel_rfl
@[go_sem] theorem ty_pl204_5 : places Try.prog 204 5 = some (5, 1) := by kernel_rfl
@[go_sem] theorem ty_fld204_6 : tfld Try.prog 204 6 = some (6, 199, 1) := by kernel_rfl
@[go_sem] theorem ty_pl204_6 : places Try.prog 204 6 = some (6, 1) := by kernel_rfl
@[go_sem] theorem ty_fld204_7 : tfld Try.prog 204 7 = some (7, 200, 1) := by kernel_rfl
@[go_sem] theorem ty_pl204_7 : places Try.prog 204 7 = some (7, 1) := by kernel_rfl
@[go_sem] theorem ty_fld204_8 : tfld Try.prog 204 8 = some (8, 201, 1) := by kernel_rfl
@[go_sem] theorem ty_pl204_8 : places Try.prog 204 8 = some (8, 1) := by kernel_rfl
@[go_sem] theorem ty_fld204_9 : tfld Try.prog 204 9 = some (9, 202, 1) := by kernel_rfl
@[go_sem] theorem ty_pl204_9 : places Try.prog 204 9 = some (9, 1) := by kernel_rfl
@[go_sem] theorem ty_fld204_10 : tfld Try.prog 204 10 = some (10, 203, 1) := by kernel_rfl
@[go_sem] theorem ty_pl204_10 : places Try.prog 204 10 = some (10, 1) := by kernel_rfl
@[go_sem] theorem ty_sz205 : tsz Try.prog 205 = some 11 := by kernel_rfl
@[go_sem] theorem ty_agg205 : tagg Try.prog 205 = some true := by kernel_rfl
@[go_sem] theorem ty_kind205 : tkind Try.prog 205 = 5 := by kernel_rfl
@[go_sem] theorem ty_flds205 : tflds Try.prog 205 = true := by kernel_rfl
@[go_sem] theorem ty_fld205_0 : tfld Try.prog 205 0 = some (0, 12, 1) := by kernel_rfl
@[go_sem] theorem ty_pl205_0 : places Try.prog 205 0 = some (0, 1) := by kernel_rfl
@[go_sem] theorem ty_fld205_1 : tfld Try.prog 205 1 = some (1, 12, 1) := by kernel_rfl
@[go_sem] theorem ty_pl205_1 : places Try.prog 205 1 = some (1, 1) := by kernel_rfl
@[go_sem] theorem ty_fld205_2 : tfld Try.prog 205 2 = some (2, 91, 1) := by kernel_rfl
@[go_sem] theorem ty_pl205_2 : places Try.prog 205 2 = some (2, 1) := by kernel_rfl
@[go_sem] theorem ty_fld205_3 : tfld Try.prog 205 3 = some (3, 198, 1) := by kernel_rfl
@[go_sem] theorem ty_pl205_3 : places Try.prog 205 3 = some (3, 1) := by kernel_rfl
@[go_sem] theorem ty_fld205_4 : tfld Try.prog 205 4 = some (4, 5, 1) := by kernel_rfl
@[go_sem] theorem ty_pl205_4 : places Try.prog 205 4 = some (4, 1) := by kernel_rfl
@[go_sem] theorem ty_fld205_5 : tfld Try.prog 205 5 = some (5, 5, 1) := by kernel_rfl
@[go_sem] theorem ty_pl205_5 : places Try.prog 205 5 = some (5, 1) := by kernel_rfl
@[go_sem] theorem ty_fld205_6 : tfld Try.prog 205 6 = some (6, 199, 1) := by kernel_rfl
@[go_sem] theorem ty_pl205_6 : places Try.prog 205 6 = some (6, 1) := by kernel_rfl
@[go_sem] theorem ty_fld205_7 : tfld Try.prog 205 7 = some (7, 200, 1) := by kernel_rfl
@[go_sem] theorem ty_pl205_7 : places Try.prog 205 7 = some (7, 1) := by kernel_rfl
@[go_sem] theorem ty_fld205_8 : tfld Try.prog 205 8 = some (8, 201, 1) := by kernel_rfl
@[go_sem] theorem ty_pl205_8 : places Try.prog 205 8 = some (8, 1) := by kernel_rfl
@[go_sem] theorem ty_fld205_9 : tfld Try.prog 205 9 = some (9, 202, 1) := by kernel_rfl
@[go_sem] theorem ty_pl205_9 : places Try.prog 205 9 = some (9, 1) := by kernel_rfl
@[go_sem] theorem ty_fld205_10 : tfld Try.prog 205 10 = some (10, 203, 1) := by kernel_rfl
@[go_sem] theorem ty_pl205_10 : places Try.prog 205 10 = some (10, 1) := by kernel_rfl
end Go.Proofs.Ytdlbbcjacjockaa
