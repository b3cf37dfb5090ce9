/- What is known of the seat's types. -/
import Derived.Test.YtkjbdldjfjkneaaLFc
import Derived.Test.YtkjbdldjfjkneaaProg
import Derived.KernelRfl
set_option linter.unusedVariables false
set_option linter.unusedSimpArgs false
namespace Go.Proofs.Ytkjbdldjfjkneaa.LF

def ti1 : TI := ⟨.func #[] #[] false, 1, 8, .nilFunc⟩
def ti2 : TI := ⟨.int .i64, 1, 8, .int .i64 0⟩
def ti3 : TI := ⟨.int .i64, 1, 8, .int .i64 0⟩
def ti4 : TI := ⟨.bool, 1, 1, .bool false⟩
def ti5 : TI := ⟨.int .u8, 1, 1, .int .u8 0⟩
def ti6 : TI := ⟨.int .u8, 1, 1, .int .u8 0⟩
def ti7 : TI := ⟨.struct #[⟨ "x", 2, 0, false, "", "runtime", 0⟩, ⟨ "y", 3, 1, false, "", "runtime", 8⟩, ⟨ "signed", 4, 2, false, "", "runtime", 16⟩, ⟨ "code", 6, 3, false, "", "runtime", 17⟩], 4, 24, .agg #[.int .i64 0, .int .i64 0, .bool false, .int .u8 0]⟩
def ti8 : TI := ⟨.struct #[⟨ "x", 2, 0, false, "", "runtime", 0⟩, ⟨ "y", 3, 1, false, "", "runtime", 8⟩, ⟨ "signed", 4, 2, false, "", "runtime", 16⟩, ⟨ "code", 6, 3, false, "", "runtime", 17⟩], 4, 24, .agg #[.int .i64 0, .int .i64 0, .bool false, .int .u8 0]⟩
def ti9 : TI := ⟨.string, 1, 16, .string ⟨#[]⟩⟩
def ti10 : TI := ⟨.string, 1, 16, .string ⟨#[]⟩⟩
def ti11 : TI := ⟨.string, 1, 16, .string ⟨#[]⟩⟩
def ti12 : TI := ⟨.int .u64, 1, 8, .int .u64 0⟩
def ti13 : TI := ⟨.struct #[⟨ "msg", 9, 0, false, "", "runtime", 0⟩, ⟨ "addr", 12, 1, false, "", "runtime", 16⟩], 2, 24, .agg #[.string ⟨#[]⟩, .int .u64 0]⟩
def ti14 : TI := ⟨.struct #[⟨ "msg", 9, 0, false, "", "runtime", 0⟩, ⟨ "addr", 12, 1, false, "", "runtime", 16⟩], 2, 24, .agg #[.string ⟨#[]⟩, .int .u64 0]⟩
def ti15 : TI := ⟨.pointer 97, 1, 8, .pointer none⟩
def ti16 : TI := ⟨.pointer 100, 1, 8, .pointer none⟩
def ti17 : TI := ⟨.pointer 109, 1, 8, .pointer none⟩
def ti18 : TI := ⟨.struct #[⟨ "typ", 17, 0, false, "", "internal/runtime/maps", 0⟩], 1, 8, .agg #[.pointer none]⟩
def ti19 : TI := ⟨.struct #[⟨ "typ", 17, 0, false, "", "internal/runtime/maps", 0⟩], 1, 8, .agg #[.pointer none]⟩
def ti21 : TI := ⟨.int .i32, 1, 4, .int .i32 0⟩
def ti22 : TI := ⟨.slice 32, 1, 24, .slice none 0 0⟩
def ti23 : TI := ⟨.func #[22] #[4] false, 1, 8, .nilFunc⟩
def ti24 : TI := ⟨.func #[] #[4] false, 1, 8, .nilFunc⟩
def ti25 : TI := ⟨.pointer 72, 1, 8, .pointer none⟩
def ti26 : TI := ⟨.func #[3] #[25] false, 1, 8, .nilFunc⟩
def ti27 : TI := ⟨.int .i64, 1, 8, .int .i64 0⟩
def ti29 : TI := ⟨.func #[25, 32, 3] #[25, 27] false, 1, 8, .nilFunc⟩
def ti30 : TI := ⟨.slice 9, 1, 24, .slice none 0 0⟩
def ti31 : TI := ⟨.struct #[⟨ "Do", 5, 0, false, "", "", 0⟩, ⟨ "I", 3, 1, false, "", "", 8⟩, ⟨ "N", 3, 2, false, "", "", 16⟩, ⟨ "At", 9, 3, false, "", "", 24⟩, ⟨ "Los", 30, 4, false, "", "", 40⟩], 5, 64, .agg #[.int .u8 0, .int .i64 0, .int .i64 0, .string ⟨#[]⟩, .slice none 0 0]⟩
def ti32 : TI := ⟨.struct #[⟨ "Do", 5, 0, false, "", "", 0⟩, ⟨ "I", 3, 1, false, "", "", 8⟩, ⟨ "N", 3, 2, false, "", "", 16⟩, ⟨ "At", 9, 3, false, "", "", 24⟩, ⟨ "Los", 30, 4, false, "", "", 40⟩], 5, 64, .agg #[.int .u8 0, .int .i64 0, .int .i64 0, .string ⟨#[]⟩, .slice none 0 0]⟩
def ti34 : TI := ⟨.func #[9] #[3, 3] false, 1, 8, .nilFunc⟩
def ti35 : TI := ⟨.func #[] #[3] false, 1, 8, .nilFunc⟩
def ti37 : TI := ⟨.func #[3] #[9, 3, 4] false, 1, 8, .nilFunc⟩
def ti39 : TI := ⟨.func #[3] #[9, 4] false, 1, 8, .nilFunc⟩
def ti40 : TI := ⟨.func #[9, 9] #[4] false, 1, 8, .nilFunc⟩
def ti41 : TI := ⟨.func #[22, 9] #[4] false, 1, 8, .nilFunc⟩
def ti42 : TI := ⟨.pointer 78, 1, 8, .pointer none⟩
def ti44 : TI := ⟨.func #[9] #[42] false, 1, 8, .nilFunc⟩
def ti45 : TI := ⟨.func #[3, 9, 9, 9] #[42, 27] false, 1, 8, .nilFunc⟩
def ti47 : TI := ⟨.func #[9] #[3, 9] false, 1, 8, .nilFunc⟩
def ti48 : TI := ⟨.func #[3, 9] #[42, 27] false, 1, 8, .nilFunc⟩
def ti49 : TI := ⟨.func #[3, 3, 30, 30] #[42, 27] false, 1, 8, .nilFunc⟩
def ti50 : TI := ⟨.slice 5, 1, 24, .slice none 0 0⟩
def ti51 : TI := ⟨.func #[22] #[25] false, 1, 8, .nilFunc⟩
def ti52 : TI := ⟨.func #[22, 9, 9] #[4] false, 1, 8, .nilFunc⟩
def ti53 : TI := ⟨.slice 3, 1, 24, .slice none 0 0⟩
def ti54 : TI := ⟨.struct #[⟨ "Lo", 30, 0, false, "", "", 0⟩, ⟨ "X", 53, 1, false, "", "", 24⟩], 2, 48, .agg #[.slice none 0 0, .slice none 0 0]⟩
def ti55 : TI := ⟨.struct #[⟨ "Lo", 30, 0, false, "", "", 0⟩, ⟨ "X", 53, 1, false, "", "", 24⟩], 2, 48, .agg #[.slice none 0 0, .slice none 0 0]⟩
def ti56 : TI := ⟨.func #[3] #[55] false, 1, 8, .nilFunc⟩
def ti58 : TI := ⟨.func #[25, 55, 32, 3] #[25, 55, 4] false, 1, 8, .nilFunc⟩
def ti59 : TI := ⟨.func #[25, 55] #[4] false, 1, 8, .nilFunc⟩
def ti60 : TI := ⟨.func #[22, 30] #[4] false, 1, 8, .nilFunc⟩
def ti61 : TI := ⟨.func #[3, 9, 3, 3] #[25, 27] false, 1, 8, .nilFunc⟩
def ti62 : TI := ⟨.func #[3, 3] #[25, 27] false, 1, 8, .nilFunc⟩
def ti63 : TI := ⟨.func #[3, 3, 30, 53] #[25, 27] false, 1, 8, .nilFunc⟩
def ti64 : TI := ⟨.func #[88] #[] false, 1, 8, .nilFunc⟩
def ti65 : TI := ⟨.func #[88] #[] false, 1, 8, .nilFunc⟩
def ti66 : TI := ⟨.func #[] #[65] false, 1, 8, .nilFunc⟩
def ti67 : TI := ⟨.func #[3, 9] #[4] false, 1, 8, .nilFunc⟩
def ti69 : TI := ⟨.func #[25] #[30, 53] false, 1, 8, .nilFunc⟩
def ti70 : TI := ⟨.func #[22, 3, 9] #[4] false, 1, 8, .nilFunc⟩
def ti71 : TI := ⟨.struct #[⟨ "los", 30, 0, false, "", "marshalling/dir", 0⟩, ⟨ "xs", 53, 1, false, "", "marshalling/dir", 24⟩], 2, 48, .agg #[.slice none 0 0, .slice none 0 0]⟩
def ti72 : TI := ⟨.struct #[⟨ "los", 30, 0, false, "", "marshalling/dir", 0⟩, ⟨ "xs", 53, 1, false, "", "marshalling/dir", 24⟩], 2, 48, .agg #[.slice none 0 0, .slice none 0 0]⟩
def ti73 : TI := ⟨.func #[3, 3] #[53] false, 1, 8, .nilFunc⟩
def ti75 : TI := ⟨.func #[30, 9, 76] #[3, 4] false, 1, 8, .nilFunc⟩
def ti76 : TI := ⟨.func #[9, 9] #[3] false, 1, 8, .nilFunc⟩
def ti77 : TI := ⟨.struct #[⟨ "los", 30, 0, false, "", "marshalling/dir", 0⟩, ⟨ "xs", 30, 1, false, "", "marshalling/dir", 24⟩], 2, 48, .agg #[.slice none 0 0, .slice none 0 0]⟩
def ti78 : TI := ⟨.struct #[⟨ "los", 30, 0, false, "", "marshalling/dir", 0⟩, ⟨ "xs", 30, 1, false, "", "marshalling/dir", 24⟩], 2, 48, .agg #[.slice none 0 0, .slice none 0 0]⟩
def ti80 : TI := ⟨.func #[3] #[9, 9, 4] false, 1, 8, .nilFunc⟩
def ti81 : TI := ⟨.func #[3, 3, 30] #[4] false, 1, 8, .nilFunc⟩
def ti82 : TI := ⟨.func #[90] #[30] true, 1, 8, .nilFunc⟩
def ti84 : TI := ⟨.func #[3, 9, 3, 3] #[55, 27] false, 1, 8, .nilFunc⟩
def ti85 : TI := ⟨.func #[3, 3] #[55, 27] false, 1, 8, .nilFunc⟩
def ti86 : TI := ⟨.func #[3, 3, 30, 53] #[55, 27] false, 1, 8, .nilFunc⟩
def ti87 : TI := ⟨.func #[93] #[53] true, 1, 8, .nilFunc⟩
def ti88 : TI := ⟨.func #[9, 3] #[4] false, 1, 8, .nilFunc⟩
def ti89 : TI := ⟨.int .u64, 1, 8, .int .u64 0⟩
def ti90 : TI := ⟨.slice 30, 1, 24, .slice none 0 0⟩
def ti91 : TI := ⟨.func #[30, 3] #[30] false, 1, 8, .nilFunc⟩
def ti92 : TI := ⟨.func #[3] #[9] false, 1, 8, .nilFunc⟩
def ti93 : TI := ⟨.slice 53, 1, 24, .slice none 0 0⟩
def ti94 : TI := ⟨.func #[53, 3] #[53] false, 1, 8, .nilFunc⟩
def ti95 : TI := ⟨.func #[] #[9] false, 1, 8, .nilFunc⟩
def ti96 : TI := ⟨.struct #[⟨ "_interface", 17, 0, false, "", "runtime", 0⟩, ⟨ "concrete", 17, 1, false, "", "runtime", 8⟩, ⟨ "asserted", 17, 2, false, "", "runtime", 16⟩, ⟨ "missingMethod", 9, 3, false, "", "runtime", 24⟩], 4, 40, .agg #[.pointer none, .pointer none, .pointer none, .string ⟨#[]⟩]⟩
def ti97 : TI := ⟨.struct #[⟨ "_interface", 17, 0, false, "", "runtime", 0⟩, ⟨ "concrete", 17, 1, false, "", "runtime", 8⟩, ⟨ "asserted", 17, 2, false, "", "runtime", 16⟩, ⟨ "missingMethod", 9, 3, false, "", "runtime", 24⟩], 4, 40, .agg #[.pointer none, .pointer none, .pointer none, .string ⟨#[]⟩]⟩
def ti98 : TI := ⟨.array 0 16, 0, 0, .agg #[]⟩
def ti99 : TI := ⟨.struct #[⟨ "_", 98, 0, false, "", "runtime", 0⟩], 0, 0, .agg #[]⟩
def ti100 : TI := ⟨.struct #[⟨ "_", 98, 0, false, "", "runtime", 0⟩], 0, 0, .agg #[]⟩
def ti101 : TI := ⟨.int .u32, 1, 4, .int .u32 0⟩
def ti102 : TI := ⟨.int .u8, 1, 1, .int .u8 0⟩
def ti103 : TI := ⟨.int .u8, 1, 1, .int .u8 0⟩
def ti104 : TI := ⟨.func #[111, 111] #[4] false, 1, 8, .nilFunc⟩
def ti105 : TI := ⟨.pointer 5, 1, 8, .pointer none⟩
def ti106 : TI := ⟨.int .i32, 1, 4, .int .i32 0⟩
def ti107 : TI := ⟨.int .i32, 1, 4, .int .i32 0⟩
def ti108 : TI := ⟨.struct #[⟨ "Size_", 12, 0, false, "", "", 0⟩, ⟨ "PtrBytes", 12, 1, false, "", "", 8⟩, ⟨ "Hash", 101, 2, false, "", "", 16⟩, ⟨ "TFlag", 102, 3, false, "", "", 20⟩, ⟨ "Align_", 5, 4, false, "", "", 21⟩, ⟨ "FieldAlign_", 5, 5, false, "", "", 22⟩, ⟨ "Kind_", 103, 6, false, "", "", 23⟩, ⟨ "Equal", 104, 7, false, "", "", 24⟩, ⟨ "GCData", 105, 8, false, "", "", 32⟩, ⟨ "Str", 106, 9, false, "", "", 40⟩, ⟨ "PtrToThis", 107, 10, false, "", "", 44⟩], 11, 48, .agg #[.int .u64 0, .int .u64 0, .int .u32 0, .int .u8 0, .int .u8 0, .int .u8 0, .int .u8 0, .nilFunc, .pointer none, .int .i32 0, .int .i32 0]⟩
def ti109 : TI := ⟨.struct #[⟨ "Size_", 12, 0, false, "", "", 0⟩, ⟨ "PtrBytes", 12, 1, false, "", "", 8⟩, ⟨ "Hash", 101, 2, false, "", "", 16⟩, ⟨ "TFlag", 102, 3, false, "", "", 20⟩, ⟨ "Align_", 5, 4, false, "", "", 21⟩, ⟨ "FieldAlign_", 5, 5, false, "", "", 22⟩, ⟨ "Kind_", 103, 6, false, "", "", 23⟩, ⟨ "Equal", 104, 7, false, "", "", 24⟩, ⟨ "GCData", 105, 8, false, "", "", 32⟩, ⟨ "Str", 106, 9, false, "", "", 40⟩, ⟨ "PtrToThis", 107, 10, false, "", "", 44⟩], 11, 48, .agg #[.int .u64 0, .int .u64 0, .int .u32 0, .int .u8 0, .int .u8 0, .int .u8 0, .int .u8 0, .nilFunc, .pointer none, .int .i32 0, .int .i32 0]⟩
def ti110 : TI := ⟨.func #[] #[113] false, 1, 8, .nilFunc⟩
def ti112 : TI := ⟨.func #[40] #[] false, 1, 8, .nilFunc⟩
def ti113 : TI := ⟨.func #[40] #[] false, 1, 8, .nilFunc⟩

def D : Tab := [(1, ti1), (2, ti2), (3, ti3), (4, ti4), (5, ti5), (6, ti6), (7, ti7), (8, ti8), (9, ti9), (10, ti10), (11, ti11), (12, ti12), (13, ti13), (14, ti14), (15, ti15), (16, ti16), (17, ti17), (18, ti18), (19, ti19), (21, ti21), (22, ti22), (23, ti23), (24, ti24), (25, ti25), (26, ti26), (27, ti27), (29, ti29), (30, ti30), (31, ti31), (32, ti32), (34, ti34), (35, ti35), (37, ti37), (39, ti39), (40, ti40), (41, ti41), (42, ti42), (44, ti44), (45, ti45), (47, ti47), (48, ti48), (49, ti49), (50, ti50), (51, ti51), (52, ti52), (53, ti53), (54, ti54), (55, ti55), (56, ti56), (58, ti58), (59, ti59), (60, ti60), (61, ti61), (62, ti62), (63, ti63), (64, ti64), (65, ti65), (66, ti66), (67, ti67), (69, ti69), (70, ti70), (71, ti71), (72, ti72), (73, ti73), (75, ti75), (76, ti76), (77, ti77), (78, ti78), (80, ti80), (81, ti81), (82, ti82), (84, ti84), (85, ti85), (86, ti86), (87, ti87), (88, ti88), (89, ti89), (90, ti90), (91, ti91), (92, ti92), (93, ti93), (94, ti94), (95, ti95), (96, ti96), (97, ti97), (98, ti98), (99, ti99), (100, ti100), (101, ti101), (102, ti102), (103, ti103), (104, ti104), (105, ti105), (106, ti106), (107, ti107), (108, ti108), (109, ti109), (110, ti110), (112, ti112), (113, ti113)]

theorem tok1 : TIok Try.prog 1 ti1 := .of (by kernel_rfl) (by kernel_rfl)
theorem tok2 : TIok Try.prog 2 ti2 := .of (by kernel_rfl) (by kernel_rfl)
theorem tok3 : TIok Try.prog 3 ti3 := .of (by kernel_rfl) (by kernel_rfl)
theorem tok4 : TIok Try.prog 4 ti4 := .of (by kernel_rfl) (by kernel_rfl)
theorem tok5 : TIok Try.prog 5 ti5 := .of (by kernel_rfl) (by kernel_rfl)
theorem tok6 : TIok Try.prog 6 ti6 := .of (by kernel_rfl) (by kernel_rfl)
theorem tok7 : TIok Try.prog 7 ti7 := .of (by kernel_rfl) (by kernel_rfl)
theorem tok8 : TIok Try.prog 8 ti8 := .of (by kernel_rfl) (by kernel_rfl)
theorem tok9 : TIok Try.prog 9 ti9 := .of (by kernel_rfl) (by kernel_rfl)
theorem tok10 : TIok Try.prog 10 ti10 := .of (by kernel_rfl) (by kernel_rfl)
theorem tok11 : TIok Try.prog 11 ti11 := .of (by kernel_rfl) (by kernel_rfl)
theorem tok12 : TIok Try.prog 12 ti12 := .of (by kernel_rfl) (by kernel_rfl)
theorem tok13 : TIok Try.prog 13 ti13 := .of (by kernel_rfl) (by kernel_rfl)
theorem tok14 : TIok Try.prog 14 ti14 := .of (by kernel_rfl) (by kernel_rfl)
theorem tok15 : TIok Try.prog 15 ti15 := .of (by kernel_rfl) (by kernel_rfl)
theorem tok16 : TIok Try.prog 16 ti16 := .of (by kernel_rfl) (by kernel_rfl)
theorem tok17 : TIok Try.prog 17 ti17 := .of (by kernel_rfl) (by kernel_rfl)
theorem tok18 : TIok Try.prog 18 ti18 := .of (by kernel_rfl) (by kernel_rfl)
theorem tok19 : TIok Try.prog 19 ti19 := .of (by kernel_rfl) (by kernel_rfl)
theorem tok21 : TIok Try.prog 21 ti21 := .of (by kernel_rfl) (by kernel_rfl)
theorem tok22 : TIok Try.prog 22 ti22 := .of (by kernel_rfl) (by kernel_rfl)
theorem tok23 : TIok Try.prog 23 ti23 := .of (by kernel_rfl) (by kernel_rfl)
theorem tok24 : TIok Try.prog 24 ti24 := .of (by kernel_rfl) (by kernel_rfl)
theorem tok25 : TIok Try.prog 25 ti25 := .of (by kernel_rfl) (by kernel_rfl)
theorem tok26 : TIok Try.prog 26 ti26 := .of (by kernel_rfl) (by kernel_rfl)
theorem tok27 : TIok Try.prog 27 ti27 := .of (by kernel_rfl) (by kernel_rfl)
theorem tok29 : TIok Try.prog 29 ti29 := .of (by kernel_rfl) (by kernel_rfl)
theorem tok30 : TIok Try.prog 30 ti30 := .of (by kernel_rfl) (by kernel_rfl)
theorem tok31 : TIok Try.prog 31 ti31 := .of (by kernel_rfl) (by kernel_rfl)
theorem tok32 : TIok Try.prog 32 ti32 := .of (by kernel_rfl) (by kernel_rfl)
theorem tok34 : TIok Try.prog 34 ti34 := .of (by kernel_rfl) (by kernel_rfl)
theorem tok35 : TIok Try.prog 35 ti35 := .of (by kernel_rfl) (by kernel_rfl)
theorem tok37 : TIok Try.prog 37 ti37 := .of (by kernel_rfl) (by kernel_rfl)
theorem tok39 : TIok Try.prog 39 ti39 := .of (by kernel_rfl) (by kernel_rfl)
theorem tok40 : TIok Try.prog 40 ti40 := .of (by kernel_rfl) (by kernel_rfl)
theorem tok41 : TIok Try.prog 41 ti41 := .of (by kernel_rfl) (by kernel_rfl)
theorem tok42 : TIok Try.prog 42 ti42 := .of (by kernel_rfl) (by kernel_rfl)
theorem tok44 : TIok Try.prog 44 ti44 := .of (by kernel_rfl) (by kernel_rfl)
theorem tok45 : TIok Try.prog 45 ti45 := .of (by kernel_rfl) (by kernel_rfl)
theorem tok47 : TIok Try.prog 47 ti47 := .of (by kernel_rfl) (by kernel_rfl)
theorem tok48 : TIok Try.prog 48 ti48 := .of (by kernel_rfl) (by kernel_rfl)
theorem tok49 : TIok Try.prog 49 ti49 := .of (by kernel_rfl) (by kernel_rfl)
theorem tok50 : TIok Try.prog 50 ti50 := .of (by kernel_rfl) (by kernel_rfl)
theorem tok51 : TIok Try.prog 51 ti51 := .of (by kernel_rfl) (by kernel_rfl)
theorem tok52 : TIok Try.prog 52 ti52 := .of (by kernel_rfl) (by kernel_rfl)
theorem tok53 : TIok Try.prog 53 ti53 := .of (by kernel_rfl) (by kernel_rfl)
theorem tok54 : TIok Try.prog 54 ti54 := .of (by kernel_rfl) (by kernel_rfl)
theorem tok55 : TIok Try.prog 55 ti55 := .of (by kernel_rfl) (by kernel_rfl)
theorem tok56 : TIok Try.prog 56 ti56 := .of (by kernel_rfl) (by kernel_rfl)
theorem tok58 : TIok Try.prog 58 ti58 := .of (by kernel_rfl) (by kernel_rfl)
theorem tok59 : TIok Try.prog 59 ti59 := .of (by kernel_rfl) (by kernel_rfl)
theorem tok60 : TIok Try.prog 60 ti60 := .of (by kernel_rfl) (by kernel_rfl)
theorem tok61 : TIok Try.prog 61 ti61 := .of (by kernel_rfl) (by kernel_rfl)
theorem tok62 : TIok Try.prog 62 ti62 := .of (by kernel_rfl) (by kernel_rfl)
theorem tok63 : TIok Try.prog 63 ti63 := .of (by kernel_rfl) (by kernel_rfl)
theorem tok64 : TIok Try.prog 64 ti64 := .of (by kernel_rfl) (by kernel_rfl)
theorem tok65 : TIok Try.prog 65 ti65 := .of (by kernel_rfl) (by kernel_rfl)
theorem tok66 : TIok Try.prog 66 ti66 := .of (by kernel_rfl) (by kernel_rfl)
theorem tok67 : TIok Try.prog 67 ti67 := .of (by kernel_rfl) (by kernel_rfl)
theorem tok69 : TIok Try.prog 69 ti69 := .of (by kernel_rfl) (by kernel_rfl)
theorem tok70 : TIok Try.prog 70 ti70 := .of (by kernel_rfl) (by kernel_rfl)
theorem tok71 : TIok Try.prog 71 ti71 := .of (by kernel_rfl) (by kernel_rfl)
theorem tok72 : TIok Try.prog 72 ti72 := .of (by kernel_rfl) (by kernel_rfl)
theorem tok73 : TIok Try.prog 73 ti73 := .of (by kernel_rfl) (by kernel_rfl)
theorem tok75 : TIok Try.prog 75 ti75 := .of (by kernel_rfl) (by kernel_rfl)
theorem tok76 : TIok Try.prog 76 ti76 := .of (by kernel_rfl) (by kernel_rfl)
theorem tok77 : TIok Try.prog 77 ti77 := .of (by kernel_rfl) (by kernel_rfl)
theorem tok78 : TIok Try.prog 78 ti78 := .of (by kernel_rfl) (by kernel_rfl)
theorem tok80 : TIok Try.prog 80 ti80 := .of (by kernel_rfl) (by kernel_rfl)
theorem tok81 : TIok Try.prog 81 ti81 := .of (by kernel_rfl) (by kernel_rfl)
theorem tok82 : TIok Try.prog 82 ti82 := .of (by kernel_rfl) (by kernel_rfl)
theorem tok84 : TIok Try.prog 84 ti84 := .of (by kernel_rfl) (by kernel_rfl)
theorem tok85 : TIok Try.prog 85 ti85 := .of (by kernel_rfl) (by kernel_rfl)
theorem tok86 : TIok Try.prog 86 ti86 := .of (by kernel_rfl) (by kernel_rfl)
theorem tok87 : TIok Try.prog 87 ti87 := .of (by kernel_rfl) (by kernel_rfl)
theorem tok88 : TIok Try.prog 88 ti88 := .of (by kernel_rfl) (by kernel_rfl)
theorem tok89 : TIok Try.prog 89 ti89 := .of (by kernel_rfl) (by kernel_rfl)
theorem tok90 : TIok Try.prog 90 ti90 := .of (by kernel_rfl) (by kernel_rfl)
theorem tok91 : TIok Try.prog 91 ti91 := .of (by kernel_rfl) (by kernel_rfl)
theorem tok92 : TIok Try.prog 92 ti92 := .of (by kernel_rfl) (by kernel_rfl)
theorem tok93 : TIok Try.prog 93 ti93 := .of (by kernel_rfl) (by kernel_rfl)
theorem tok94 : TIok Try.prog 94 ti94 := .of (by kernel_rfl) (by kernel_rfl)
theorem tok95 : TIok Try.prog 95 ti95 := .of (by kernel_rfl) (by kernel_rfl)
theorem tok96 : TIok Try.prog 96 ti96 := .of (by kernel_rfl) (by kernel_rfl)
theorem tok97 : TIok Try.prog 97 ti97 := .of (by kernel_rfl) (by kernel_rfl)
theorem tok98 : TIok Try.prog 98 ti98 := .of (by kernel_rfl) (by kernel_rfl)
theorem tok99 : TIok Try.prog 99 ti99 := .of (by kernel_rfl) (by kernel_rfl)
theorem tok100 : TIok Try.prog 100 ti100 := .of (by kernel_rfl) (by kernel_rfl)
theorem tok101 : TIok Try.prog 101 ti101 := .of (by kernel_rfl) (by kernel_rfl)
theorem tok102 : TIok Try.prog 102 ti102 := .of (by kernel_rfl) (by kernel_rfl)
theorem tok103 : TIok Try.prog 103 ti103 := .of (by kernel_rfl) (by kernel_rfl)
theorem tok104 : TIok Try.prog 104 ti104 := .of (by kernel_rfl) (by kernel_rfl)
theorem tok105 : TIok Try.prog 105 ti105 := .of (by kernel_rfl) (by kernel_rfl)
theorem tok106 : TIok Try.prog 106 ti106 := .of (by kernel_rfl) (by kernel_rfl)
theorem tok107 : TIok Try.prog 107 ti107 := .of (by kernel_rfl) (by kernel_rfl)
theorem tok108 : TIok Try.prog 108 ti108 := .of (by kernel_rfl) (by kernel_rfl)
theorem tok109 : TIok Try.prog 109 ti109 := .of (by kernel_rfl) (by kernel_rfl)
theorem tok110 : TIok Try.prog 110 ti110 := .of (by kernel_rfl) (by kernel_rfl)
theorem tok112 : TIok Try.prog 112 ti112 := .of (by kernel_rfl) (by kernel_rfl)
theorem tok113 : TIok Try.prog 113 ti113 := .of (by kernel_rfl) (by kernel_rfl)

theorem hD0 : TabOK Try.prog D := by
  intro x hx
  simp only [D, List.mem_cons, List.not_mem_nil, or_false] at hx
  rcases hx with rfl | rfl | rfl | rfl | rfl | rfl | rfl | rfl | rfl | rfl | rfl | rfl | rfl | rfl | rfl | rfl | rfl | rfl | rfl | rfl | rfl | rfl | rfl | rfl | rfl | rfl | rfl | rfl | rfl | rfl | rfl | rfl | rfl | rfl | rfl | rfl | rfl | rfl | rfl | rfl | rfl | rfl | rfl | rfl | rfl | rfl | rfl | rfl | rfl | rfl | rfl | rfl | rfl | rfl | rfl | rfl | rfl | rfl | rfl | rfl | rfl | rfl | rfl | rfl | rfl | rfl | rfl | rfl | rfl | rfl | rfl | rfl | rfl | rfl | rfl | rfl | rfl | rfl | rfl | rfl | rfl | rfl | rfl | rfl | rfl | rfl | rfl | rfl | rfl | rfl | rfl | rfl | rfl | rfl | rfl | rfl | rfl | rfl | rfl | rfl
  · exact tok1
  · exact tok2
  · exact tok3
  · exact tok4
  · exact tok5
  · exact tok6
  · exact tok7
  · exact tok8
  · exact tok9
  · exact tok10
  · exact tok11
  · exact tok12
  · exact tok13
  · exact tok14
  · exact tok15
  · exact tok16
  · exact tok17
  · exact tok18
  · exact tok19
  · exact tok21
  · exact tok22
  · exact tok23
  · exact tok24
  · exact tok25
  · exact tok26
  · exact tok27
  · exact tok29
  · exact tok30
  · exact tok31
  · exact tok32
  · exact tok34
  · exact tok35
  · exact tok37
  · exact tok39
  · exact tok40
  · exact tok41
  · exact tok42
  · exact tok44
  · exact tok45
  · exact tok47
  · exact tok48
  · exact tok49
  · exact tok50
  · exact tok51
  · exact tok52
  · exact tok53
  · exact tok54
  · exact tok55
  · exact tok56
  · exact tok58
  · exact tok59
  · exact tok60
  · exact tok61
  · exact tok62
  · exact tok63
  · exact tok64
  · exact tok65
  · exact tok66
  · exact tok67
  · exact tok69
  · exact tok70
  · exact tok71
  · exact tok72
  · exact tok73
  · exact tok75
  · exact tok76
  · exact tok77
  · exact tok78
  · exact tok80
  · exact tok81
  · exact tok82
  · exact tok84
  · exact tok85
  · exact tok86
  · exact tok87
  · exact tok88
  · exact tok89
  · exact tok90
  · exact tok91
  · exact tok92
  · exact tok93
  · exact tok94
  · exact tok95
  · exact tok96
  · exact tok97
  · exact tok98
  · exact tok99
  · exact tok100
  · exact tok101
  · exact tok102
  · exact tok103
  · exact tok104
  · exact tok105
  · exact tok106
  · exact tok107
  · exact tok108
  · exact tok109
  · exact tok110
  · exact tok112
  · exact tok113

end Go.Proofs.Ytkjbdldjfjkneaa.LF
