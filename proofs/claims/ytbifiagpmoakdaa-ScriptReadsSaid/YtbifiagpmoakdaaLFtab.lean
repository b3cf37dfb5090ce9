/- What is known of the seat's types. -/
import Derived.Test.YtbifiagpmoakdaaLFc
import Derived.Test.YtbifiagpmoakdaaProg
import Derived.KernelRfl
set_option linter.unusedVariables false
set_option linter.unusedSimpArgs false
namespace Go.Proofs.Ytbifiagpmoakdaa.LF

def ti1 : TI := ⟨.func #[] #[] false, 1, 8, .nilFunc⟩
def ti2 : TI := ⟨.int .i64, 1, 8, .int .i64 0⟩
def ti3 : TI := ⟨.int .i64, 1, 8, .int .i64 0⟩
def ti4 : TI := ⟨.bool, 1, 1, .bool false⟩
def ti5 : TI := ⟨.int .u8, 1, 1, .int .u8 0⟩
def ti6 : TI := ⟨.int .u8, 1, 1, .int .u8 0⟩
def ti7 : TI := ⟨.struct #[⟨ "x", 2, 0, false, "", "runtime", 0⟩, ⟨ "y", 3, 1, false, "", "runtime", 8⟩, ⟨ "signed", 4, 2, false, "", "runtime", 16⟩, ⟨ "code", 6, 3, false, "", "runtime", 17⟩], 4, 24, .agg #[.int .i64 0, .int .i64 0, .bool false, .int .u8 0]⟩
def ti8 : TI := ⟨.struct #[⟨ "x", 2, 0, false, "", "runtime", 0⟩, ⟨ "y", 3, 1, false, "", "runtime", 8⟩, ⟨ "signed", 4, 2, false, "", "runtime", 16⟩, ⟨ "code", 6, 3, false, "", "runtime", 17⟩], 4, 24, .agg #[.int .i64 0, .int .i64 0, .bool false, .int .u8 0]⟩
def ti9 : TI := ⟨.string, 1, 16, .string ⟨#[]⟩⟩
def ti10 : TI := ⟨.string, 1, 16, .string ⟨#[]⟩⟩
def ti11 : TI := ⟨.string, 1, 16, .string ⟨#[]⟩⟩
def ti12 : TI := ⟨.int .u64, 1, 8, .int .u64 0⟩
def ti13 : TI := ⟨.struct #[⟨ "msg", 9, 0, false, "", "runtime", 0⟩, ⟨ "addr", 12, 1, false, "", "runtime", 16⟩], 2, 24, .agg #[.string ⟨#[]⟩, .int .u64 0]⟩
def ti14 : TI := ⟨.struct #[⟨ "msg", 9, 0, false, "", "runtime", 0⟩, ⟨ "addr", 12, 1, false, "", "runtime", 16⟩], 2, 24, .agg #[.string ⟨#[]⟩, .int .u64 0]⟩
def ti15 : TI := ⟨.pointer 70, 1, 8, .pointer none⟩
def ti16 : TI := ⟨.pointer 73, 1, 8, .pointer none⟩
def ti17 : TI := ⟨.pointer 82, 1, 8, .pointer none⟩
def ti18 : TI := ⟨.struct #[⟨ "typ", 17, 0, false, "", "internal/runtime/maps", 0⟩], 1, 8, .agg #[.pointer none]⟩
def ti19 : TI := ⟨.struct #[⟨ "typ", 17, 0, false, "", "internal/runtime/maps", 0⟩], 1, 8, .agg #[.pointer none]⟩
def ti21 : TI := ⟨.int .i32, 1, 4, .int .i32 0⟩
def ti22 : TI := ⟨.slice 5, 1, 24, .slice none 0 0⟩
def ti23 : TI := ⟨.func #[] #[4] false, 1, 8, .nilFunc⟩
def ti24 : TI := ⟨.slice 35, 1, 24, .slice none 0 0⟩
def ti25 : TI := ⟨.func #[22] #[24] false, 1, 8, .nilFunc⟩
def ti26 : TI := ⟨.func #[24, 24] #[4] false, 1, 8, .nilFunc⟩
def ti27 : TI := ⟨.func #[22] #[4] false, 1, 8, .nilFunc⟩
def ti28 : TI := ⟨.int .i64, 1, 8, .int .i64 0⟩
def ti30 : TI := ⟨.func #[24] #[22, 28] false, 1, 8, .nilFunc⟩
def ti31 : TI := ⟨.slice 51, 1, 24, .slice none 0 0⟩
def ti32 : TI := ⟨.struct #[⟨ "Kind", 5, 0, false, "", "", 0⟩, ⟨ "Key", 9, 1, false, "", "", 8⟩, ⟨ "Value", 9, 2, false, "", "", 24⟩, ⟨ "Old", 9, 3, false, "", "", 40⟩, ⟨ "Had", 4, 4, false, "", "", 56⟩, ⟨ "After", 4, 5, false, "", "", 57⟩, ⟨ "Writes", 31, 6, false, "", "", 64⟩], 7, 88, .agg #[.int .u8 0, .string ⟨#[]⟩, .string ⟨#[]⟩, .string ⟨#[]⟩, .bool false, .bool false, .slice none 0 0]⟩
def ti33 : TI := ⟨.struct #[⟨ "Kind", 5, 0, false, "", "", 0⟩, ⟨ "Key", 9, 1, false, "", "", 8⟩, ⟨ "Value", 9, 2, false, "", "", 24⟩, ⟨ "Old", 9, 3, false, "", "", 40⟩, ⟨ "Had", 4, 4, false, "", "", 56⟩, ⟨ "After", 4, 5, false, "", "", 57⟩, ⟨ "Writes", 31, 6, false, "", "", 64⟩], 7, 88, .agg #[.int .u8 0, .string ⟨#[]⟩, .string ⟨#[]⟩, .string ⟨#[]⟩, .bool false, .bool false, .slice none 0 0]⟩
def ti34 : TI := ⟨.struct #[⟨ "Kind", 5, 0, false, "", "", 0⟩, ⟨ "A", 3, 1, false, "", "", 8⟩, ⟨ "B", 3, 2, false, "", "", 16⟩, ⟨ "Op", 33, 3, false, "", "", 24⟩], 10, 112, .agg #[.int .u8 0, .int .i64 0, .int .i64 0, .int .u8 0, .string ⟨#[]⟩, .string ⟨#[]⟩, .string ⟨#[]⟩, .bool false, .bool false, .slice none 0 0]⟩
def ti35 : TI := ⟨.struct #[⟨ "Kind", 5, 0, false, "", "", 0⟩, ⟨ "A", 3, 1, false, "", "", 8⟩, ⟨ "B", 3, 2, false, "", "", 16⟩, ⟨ "Op", 33, 3, false, "", "", 24⟩], 10, 112, .agg #[.int .u8 0, .int .i64 0, .int .i64 0, .int .u8 0, .string ⟨#[]⟩, .string ⟨#[]⟩, .string ⟨#[]⟩, .bool false, .bool false, .slice none 0 0]⟩
def ti36 : TI := ⟨.func #[24] #[4] false, 1, 8, .nilFunc⟩
def ti38 : TI := ⟨.func #[24] #[3, 3] false, 1, 8, .nilFunc⟩
def ti39 : TI := ⟨.func #[24, 22] #[4] false, 1, 8, .nilFunc⟩
def ti40 : TI := ⟨.func #[24, 24, 5, 5] #[4] false, 1, 8, .nilFunc⟩
def ti41 : TI := ⟨.func #[24, 3] #[4] false, 1, 8, .nilFunc⟩
def ti42 : TI := ⟨.func #[35, 35] #[4] false, 1, 8, .nilFunc⟩
def ti43 : TI := ⟨.pointer 45, 1, 8, .pointer none⟩
def ti44 : TI := ⟨.struct #[⟨ "b", 22, 0, false, "", "marshalling/script", 0⟩, ⟨ "at", 3, 1, false, "", "marshalling/script", 24⟩, ⟨ "bad", 4, 2, false, "", "marshalling/script", 32⟩], 3, 40, .agg #[.slice none 0 0, .int .i64 0, .bool false]⟩
def ti45 : TI := ⟨.struct #[⟨ "b", 22, 0, false, "", "marshalling/script", 0⟩, ⟨ "at", 3, 1, false, "", "marshalling/script", 24⟩, ⟨ "bad", 4, 2, false, "", "marshalling/script", 32⟩], 3, 40, .agg #[.slice none 0 0, .int .i64 0, .bool false]⟩
def ti46 : TI := ⟨.func #[] #[35] false, 1, 8, .nilFunc⟩
def ti48 : TI := ⟨.func #[22, 3] #[35, 3] false, 1, 8, .nilFunc⟩
def ti49 : TI := ⟨.func #[35] #[22] false, 1, 8, .nilFunc⟩
def ti50 : TI := ⟨.struct #[⟨ "Key", 9, 0, false, "", "", 0⟩, ⟨ "Value", 9, 1, false, "", "", 16⟩, ⟨ "Gone", 4, 2, false, "", "", 32⟩], 3, 40, .agg #[.string ⟨#[]⟩, .string ⟨#[]⟩, .bool false]⟩
def ti51 : TI := ⟨.struct #[⟨ "Key", 9, 0, false, "", "", 0⟩, ⟨ "Value", 9, 1, false, "", "", 16⟩, ⟨ "Gone", 4, 2, false, "", "", 32⟩], 3, 40, .agg #[.string ⟨#[]⟩, .string ⟨#[]⟩, .bool false]⟩
def ti52 : TI := ⟨.func #[35] #[4] false, 1, 8, .nilFunc⟩
def ti53 : TI := ⟨.func #[35] #[3] false, 1, 8, .nilFunc⟩
def ti54 : TI := ⟨.func #[] #[3] false, 1, 8, .nilFunc⟩
def ti55 : TI := ⟨.func #[] #[33] false, 1, 8, .nilFunc⟩
def ti56 : TI := ⟨.func #[3] #[3] false, 1, 8, .nilFunc⟩
def ti58 : TI := ⟨.func #[22, 3] #[33, 3] false, 1, 8, .nilFunc⟩
def ti59 : TI := ⟨.func #[3, 3] #[] false, 1, 8, .nilFunc⟩
def ti60 : TI := ⟨.func #[9] #[] false, 1, 8, .nilFunc⟩
def ti61 : TI := ⟨.func #[4] #[] false, 1, 8, .nilFunc⟩
def ti62 : TI := ⟨.func #[31, 31] #[4] false, 1, 8, .nilFunc⟩
def ti63 : TI := ⟨.func #[3, 3] #[4] false, 1, 8, .nilFunc⟩
def ti64 : TI := ⟨.func #[] #[9] false, 1, 8, .nilFunc⟩
def ti66 : TI := ⟨.func #[22, 3] #[9, 3] false, 1, 8, .nilFunc⟩
def ti68 : TI := ⟨.func #[22, 3] #[4, 3] false, 1, 8, .nilFunc⟩
def ti69 : TI := ⟨.struct #[⟨ "_interface", 17, 0, false, "", "runtime", 0⟩, ⟨ "concrete", 17, 1, false, "", "runtime", 8⟩, ⟨ "asserted", 17, 2, false, "", "runtime", 16⟩, ⟨ "missingMethod", 9, 3, false, "", "runtime", 24⟩], 4, 40, .agg #[.pointer none, .pointer none, .pointer none, .string ⟨#[]⟩]⟩
def ti70 : TI := ⟨.struct #[⟨ "_interface", 17, 0, false, "", "runtime", 0⟩, ⟨ "concrete", 17, 1, false, "", "runtime", 8⟩, ⟨ "asserted", 17, 2, false, "", "runtime", 16⟩, ⟨ "missingMethod", 9, 3, false, "", "runtime", 24⟩], 4, 40, .agg #[.pointer none, .pointer none, .pointer none, .string ⟨#[]⟩]⟩
def ti71 : TI := ⟨.array 0 16, 0, 0, .agg #[]⟩
def ti72 : TI := ⟨.struct #[⟨ "_", 71, 0, false, "", "runtime", 0⟩], 0, 0, .agg #[]⟩
def ti73 : TI := ⟨.struct #[⟨ "_", 71, 0, false, "", "runtime", 0⟩], 0, 0, .agg #[]⟩
def ti74 : TI := ⟨.int .u32, 1, 4, .int .u32 0⟩
def ti75 : TI := ⟨.int .u8, 1, 1, .int .u8 0⟩
def ti76 : TI := ⟨.int .u8, 1, 1, .int .u8 0⟩
def ti77 : TI := ⟨.func #[83, 83] #[4] false, 1, 8, .nilFunc⟩
def ti78 : TI := ⟨.pointer 5, 1, 8, .pointer none⟩
def ti79 : TI := ⟨.int .i32, 1, 4, .int .i32 0⟩
def ti80 : TI := ⟨.int .i32, 1, 4, .int .i32 0⟩
def ti81 : TI := ⟨.struct #[⟨ "Size_", 12, 0, false, "", "", 0⟩, ⟨ "PtrBytes", 12, 1, false, "", "", 8⟩, ⟨ "Hash", 74, 2, false, "", "", 16⟩, ⟨ "TFlag", 75, 3, false, "", "", 20⟩, ⟨ "Align_", 5, 4, false, "", "", 21⟩, ⟨ "FieldAlign_", 5, 5, false, "", "", 22⟩, ⟨ "Kind_", 76, 6, false, "", "", 23⟩, ⟨ "Equal", 77, 7, false, "", "", 24⟩, ⟨ "GCData", 78, 8, false, "", "", 32⟩, ⟨ "Str", 79, 9, false, "", "", 40⟩, ⟨ "PtrToThis", 80, 10, false, "", "", 44⟩], 11, 48, .agg #[.int .u64 0, .int .u64 0, .int .u32 0, .int .u8 0, .int .u8 0, .int .u8 0, .int .u8 0, .nilFunc, .pointer none, .int .i32 0, .int .i32 0]⟩
def ti82 : TI := ⟨.struct #[⟨ "Size_", 12, 0, false, "", "", 0⟩, ⟨ "PtrBytes", 12, 1, false, "", "", 8⟩, ⟨ "Hash", 74, 2, false, "", "", 16⟩, ⟨ "TFlag", 75, 3, false, "", "", 20⟩, ⟨ "Align_", 5, 4, false, "", "", 21⟩, ⟨ "FieldAlign_", 5, 5, false, "", "", 22⟩, ⟨ "Kind_", 76, 6, false, "", "", 23⟩, ⟨ "Equal", 77, 7, false, "", "", 24⟩, ⟨ "GCData", 78, 8, false, "", "", 32⟩, ⟨ "Str", 79, 9, false, "", "", 40⟩, ⟨ "PtrToThis", 80, 10, false, "", "", 44⟩], 11, 48, .agg #[.int .u64 0, .int .u64 0, .int .u32 0, .int .u8 0, .int .u8 0, .int .u8 0, .int .u8 0, .nilFunc, .pointer none, .int .i32 0, .int .i32 0]⟩

def D : Tab := [(1, ti1), (2, ti2), (3, ti3), (4, ti4), (5, ti5), (6, ti6), (7, ti7), (8, ti8), (9, ti9), (10, ti10), (11, ti11), (12, ti12), (13, ti13), (14, ti14), (15, ti15), (16, ti16), (17, ti17), (18, ti18), (19, ti19), (21, ti21), (22, ti22), (23, ti23), (24, ti24), (25, ti25), (26, ti26), (27, ti27), (28, ti28), (30, ti30), (31, ti31), (32, ti32), (33, ti33), (34, ti34), (35, ti35), (36, ti36), (38, ti38), (39, ti39), (40, ti40), (41, ti41), (42, ti42), (43, ti43), (44, ti44), (45, ti45), (46, ti46), (48, ti48), (49, ti49), (50, ti50), (51, ti51), (52, ti52), (53, ti53), (54, ti54), (55, ti55), (56, ti56), (58, ti58), (59, ti59), (60, ti60), (61, ti61), (62, ti62), (63, ti63), (64, ti64), (66, ti66), (68, ti68), (69, ti69), (70, ti70), (71, ti71), (72, ti72), (73, ti73), (74, ti74), (75, ti75), (76, ti76), (77, ti77), (78, ti78), (79, ti79), (80, ti80), (81, ti81), (82, ti82)]

theorem tok1 : TIok Try.prog 1 ti1 := .of (by kernel_rfl) (by kernel_rfl)
theorem tok2 : TIok Try.prog 2 ti2 := .of (by kernel_rfl) (by kernel_rfl)
theorem tok3 : TIok Try.prog 3 ti3 := .of (by kernel_rfl) (by kernel_rfl)
theorem tok4 : TIok Try.prog 4 ti4 := .of (by kernel_rfl) (by kernel_rfl)
theorem tok5 : TIok Try.prog 5 ti5 := .of (by kernel_rfl) (by kernel_rfl)
theorem tok6 : TIok Try.prog 6 ti6 := .of (by kernel_rfl) (by kernel_rfl)
theorem tok7 : TIok Try.prog 7 ti7 := .of (by kernel_rfl) (by kernel_rfl)
theorem tok8 : TIok Try.prog 8 ti8 := .of (by kernel_rfl) (by kernel_rfl)
theorem tok9 : TIok Try.prog 9 ti9 := .of (by kernel_rfl) (by kernel_rfl)
theorem tok10 : TIok Try.prog 10 ti10 := .of (by kernel_rfl) (by kernel_rfl)
theorem tok11 : TIok Try.prog 11 ti11 := .of (by kernel_rfl) (by kernel_rfl)
theorem tok12 : TIok Try.prog 12 ti12 := .of (by kernel_rfl) (by kernel_rfl)
theorem tok13 : TIok Try.prog 13 ti13 := .of (by kernel_rfl) (by kernel_rfl)
theorem tok14 : TIok Try.prog 14 ti14 := .of (by kernel_rfl) (by kernel_rfl)
theorem tok15 : TIok Try.prog 15 ti15 := .of (by kernel_rfl) (by kernel_rfl)
theorem tok16 : TIok Try.prog 16 ti16 := .of (by kernel_rfl) (by kernel_rfl)
theorem tok17 : TIok Try.prog 17 ti17 := .of (by kernel_rfl) (by kernel_rfl)
theorem tok18 : TIok Try.prog 18 ti18 := .of (by kernel_rfl) (by kernel_rfl)
theorem tok19 : TIok Try.prog 19 ti19 := .of (by kernel_rfl) (by kernel_rfl)
theorem tok21 : TIok Try.prog 21 ti21 := .of (by kernel_rfl) (by kernel_rfl)
theorem tok22 : TIok Try.prog 22 ti22 := .of (by kernel_rfl) (by kernel_rfl)
theorem tok23 : TIok Try.prog 23 ti23 := .of (by kernel_rfl) (by kernel_rfl)
theorem tok24 : TIok Try.prog 24 ti24 := .of (by kernel_rfl) (by kernel_rfl)
theorem tok25 : TIok Try.prog 25 ti25 := .of (by kernel_rfl) (by kernel_rfl)
theorem tok26 : TIok Try.prog 26 ti26 := .of (by kernel_rfl) (by kernel_rfl)
theorem tok27 : TIok Try.prog 27 ti27 := .of (by kernel_rfl) (by kernel_rfl)
theorem tok28 : TIok Try.prog 28 ti28 := .of (by kernel_rfl) (by kernel_rfl)
theorem tok30 : TIok Try.prog 30 ti30 := .of (by kernel_rfl) (by kernel_rfl)
theorem tok31 : TIok Try.prog 31 ti31 := .of (by kernel_rfl) (by kernel_rfl)
theorem tok32 : TIok Try.prog 32 ti32 := .of (by kernel_rfl) (by kernel_rfl)
theorem tok33 : TIok Try.prog 33 ti33 := .of (by kernel_rfl) (by kernel_rfl)
theorem tok34 : TIok Try.prog 34 ti34 := .of (by kernel_rfl) (by kernel_rfl)
theorem tok35 : TIok Try.prog 35 ti35 := .of (by kernel_rfl) (by kernel_rfl)
theorem tok36 : TIok Try.prog 36 ti36 := .of (by kernel_rfl) (by kernel_rfl)
theorem tok38 : TIok Try.prog 38 ti38 := .of (by kernel_rfl) (by kernel_rfl)
theorem tok39 : TIok Try.prog 39 ti39 := .of (by kernel_rfl) (by kernel_rfl)
theorem tok40 : TIok Try.prog 40 ti40 := .of (by kernel_rfl) (by kernel_rfl)
theorem tok41 : TIok Try.prog 41 ti41 := .of (by kernel_rfl) (by kernel_rfl)
theorem tok42 : TIok Try.prog 42 ti42 := .of (by kernel_rfl) (by kernel_rfl)
theorem tok43 : TIok Try.prog 43 ti43 := .of (by kernel_rfl) (by kernel_rfl)
theorem tok44 : TIok Try.prog 44 ti44 := .of (by kernel_rfl) (by kernel_rfl)
theorem tok45 : TIok Try.prog 45 ti45 := .of (by kernel_rfl) (by kernel_rfl)
theorem tok46 : TIok Try.prog 46 ti46 := .of (by kernel_rfl) (by kernel_rfl)
theorem tok48 : TIok Try.prog 48 ti48 := .of (by kernel_rfl) (by kernel_rfl)
theorem tok49 : TIok Try.prog 49 ti49 := .of (by kernel_rfl) (by kernel_rfl)
theorem tok50 : TIok Try.prog 50 ti50 := .of (by kernel_rfl) (by kernel_rfl)
theorem tok51 : TIok Try.prog 51 ti51 := .of (by kernel_rfl) (by kernel_rfl)
theorem tok52 : TIok Try.prog 52 ti52 := .of (by kernel_rfl) (by kernel_rfl)
theorem tok53 : TIok Try.prog 53 ti53 := .of (by kernel_rfl) (by kernel_rfl)
theorem tok54 : TIok Try.prog 54 ti54 := .of (by kernel_rfl) (by kernel_rfl)
theorem tok55 : TIok Try.prog 55 ti55 := .of (by kernel_rfl) (by kernel_rfl)
theorem tok56 : TIok Try.prog 56 ti56 := .of (by kernel_rfl) (by kernel_rfl)
theorem tok58 : TIok Try.prog 58 ti58 := .of (by kernel_rfl) (by kernel_rfl)
theorem tok59 : TIok Try.prog 59 ti59 := .of (by kernel_rfl) (by kernel_rfl)
theorem tok60 : TIok Try.prog 60 ti60 := .of (by kernel_rfl) (by kernel_rfl)
theorem tok61 : TIok Try.prog 61 ti61 := .of (by kernel_rfl) (by kernel_rfl)
theorem tok62 : TIok Try.prog 62 ti62 := .of (by kernel_rfl) (by kernel_rfl)
theorem tok63 : TIok Try.prog 63 ti63 := .of (by kernel_rfl) (by kernel_rfl)
theorem tok64 : TIok Try.prog 64 ti64 := .of (by kernel_rfl) (by kernel_rfl)
theorem tok66 : TIok Try.prog 66 ti66 := .of (by kernel_rfl) (by kernel_rfl)
theorem tok68 : TIok Try.prog 68 ti68 := .of (by kernel_rfl) (by kernel_rfl)
theorem tok69 : TIok Try.prog 69 ti69 := .of (by kernel_rfl) (by kernel_rfl)
theorem tok70 : TIok Try.prog 70 ti70 := .of (by kernel_rfl) (by kernel_rfl)
theorem tok71 : TIok Try.prog 71 ti71 := .of (by kernel_rfl) (by kernel_rfl)
theorem tok72 : TIok Try.prog 72 ti72 := .of (by kernel_rfl) (by kernel_rfl)
theorem tok73 : TIok Try.prog 73 ti73 := .of (by kernel_rfl) (by kernel_rfl)
theorem tok74 : TIok Try.prog 74 ti74 := .of (by kernel_rfl) (by kernel_rfl)
theorem tok75 : TIok Try.prog 75 ti75 := .of (by kernel_rfl) (by kernel_rfl)
theorem tok76 : TIok Try.prog 76 ti76 := .of (by kernel_rfl) (by kernel_rfl)
theorem tok77 : TIok Try.prog 77 ti77 := .of (by kernel_rfl) (by kernel_rfl)
theorem tok78 : TIok Try.prog 78 ti78 := .of (by kernel_rfl) (by kernel_rfl)
theorem tok79 : TIok Try.prog 79 ti79 := .of (by kernel_rfl) (by kernel_rfl)
theorem tok80 : TIok Try.prog 80 ti80 := .of (by kernel_rfl) (by kernel_rfl)
theorem tok81 : TIok Try.prog 81 ti81 := .of (by kernel_rfl) (by kernel_rfl)
theorem tok82 : TIok Try.prog 82 ti82 := .of (by kernel_rfl) (by kernel_rfl)

theorem hD0 : TabOK Try.prog D := by
  intro x hx
  simp only [D, List.mem_cons, List.not_mem_nil, or_false] at hx
  rcases hx with rfl | rfl | rfl | rfl | rfl | rfl | rfl | rfl | rfl | rfl | rfl | rfl | rfl | rfl | rfl | rfl | rfl | rfl | rfl | rfl | rfl | rfl | rfl | rfl | rfl | rfl | rfl | rfl | rfl | rfl | rfl | rfl | rfl | rfl | rfl | rfl | rfl | rfl | rfl | rfl | rfl | rfl | rfl | rfl | rfl | rfl | rfl | rfl | rfl | rfl | rfl | rfl | rfl | rfl | rfl | rfl | rfl | rfl | rfl | rfl | rfl | rfl | rfl | rfl | rfl | rfl | rfl | rfl | rfl | rfl | rfl | rfl | rfl | rfl | rfl
  · exact tok1
  · exact tok2
  · exact tok3
  · exact tok4
  · exact tok5
  · exact tok6
  · exact tok7
  · exact tok8
  · exact tok9
  · exact tok10
  · exact tok11
  · exact tok12
  · exact tok13
  · exact tok14
  · exact tok15
  · exact tok16
  · exact tok17
  · exact tok18
  · exact tok19
  · exact tok21
  · exact tok22
  · exact tok23
  · exact tok24
  · exact tok25
  · exact tok26
  · exact tok27
  · exact tok28
  · exact tok30
  · exact tok31
  · exact tok32
  · exact tok33
  · exact tok34
  · exact tok35
  · exact tok36
  · exact tok38
  · exact tok39
  · exact tok40
  · exact tok41
  · exact tok42
  · exact tok43
  · exact tok44
  · exact tok45
  · exact tok46
  · exact tok48
  · exact tok49
  · exact tok50
  · exact tok51
  · exact tok52
  · exact tok53
  · exact tok54
  · exact tok55
  · exact tok56
  · exact tok58
  · exact tok59
  · exact tok60
  · exact tok61
  · exact tok62
  · exact tok63
  · exact tok64
  · exact tok66
  · exact tok68
  · exact tok69
  · exact tok70
  · exact tok71
  · exact tok72
  · exact tok73
  · exact tok74
  · exact tok75
  · exact tok76
  · exact tok77
  · exact tok78
  · exact tok79
  · exact tok80
  · exact tok81
  · exact tok82

end Go.Proofs.Ytbifiagpmoakdaa.LF
