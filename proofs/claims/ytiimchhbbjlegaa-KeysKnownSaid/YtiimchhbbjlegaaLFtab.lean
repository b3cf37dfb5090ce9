/- What is known of the seat's types. -/
import Derived.Test.YtiimchhbbjlegaaLGa
import Derived.Test.YtiimchhbbjlegaaProg
import Derived.KernelRfl
set_option linter.unusedVariables false
set_option linter.unusedSimpArgs false
namespace Go.Proofs.Ytiimchhbbjlegaa.LF

def ti1 : TI := ⟨.func #[] #[] false, 1, 8, .nilFunc⟩
def ti2 : TI := ⟨.int .i64, 1, 8, .int .i64 0⟩
def ti3 : TI := ⟨.int .i64, 1, 8, .int .i64 0⟩
def ti4 : TI := ⟨.bool, 1, 1, .bool false⟩
def ti5 : TI := ⟨.int .u8, 1, 1, .int .u8 0⟩
def ti6 : TI := ⟨.int .u8, 1, 1, .int .u8 0⟩
def ti7 : TI := ⟨.struct #[⟨ "x", 2, 0, false, "", "runtime", 0⟩, ⟨ "y", 3, 1, false, "", "runtime", 8⟩, ⟨ "signed", 4, 2, false, "", "runtime", 16⟩, ⟨ "code", 6, 3, false, "", "runtime", 17⟩], 4, 24, .agg #[.int .i64 0, .int .i64 0, .bool false, .int .u8 0]⟩
def ti8 : TI := ⟨.struct #[⟨ "x", 2, 0, false, "", "runtime", 0⟩, ⟨ "y", 3, 1, false, "", "runtime", 8⟩, ⟨ "signed", 4, 2, false, "", "runtime", 16⟩, ⟨ "code", 6, 3, false, "", "runtime", 17⟩], 4, 24, .agg #[.int .i64 0, .int .i64 0, .bool false, .int .u8 0]⟩
def ti9 : TI := ⟨.string, 1, 16, .string ⟨#[]⟩⟩
def ti10 : TI := ⟨.string, 1, 16, .string ⟨#[]⟩⟩
def ti11 : TI := ⟨.string, 1, 16, .string ⟨#[]⟩⟩
def ti12 : TI := ⟨.int .u64, 1, 8, .int .u64 0⟩
def ti13 : TI := ⟨.struct #[⟨ "msg", 9, 0, false, "", "runtime", 0⟩, ⟨ "addr", 12, 1, false, "", "runtime", 16⟩], 2, 24, .agg #[.string ⟨#[]⟩, .int .u64 0]⟩
def ti14 : TI := ⟨.struct #[⟨ "msg", 9, 0, false, "", "runtime", 0⟩, ⟨ "addr", 12, 1, false, "", "runtime", 16⟩], 2, 24, .agg #[.string ⟨#[]⟩, .int .u64 0]⟩
def ti15 : TI := ⟨.pointer 61, 1, 8, .pointer none⟩
def ti16 : TI := ⟨.pointer 64, 1, 8, .pointer none⟩
def ti17 : TI := ⟨.pointer 71, 1, 8, .pointer none⟩
def ti18 : TI := ⟨.struct #[⟨ "typ", 17, 0, false, "", "internal/runtime/maps", 0⟩], 1, 8, .agg #[.pointer none]⟩
def ti19 : TI := ⟨.struct #[⟨ "typ", 17, 0, false, "", "internal/runtime/maps", 0⟩], 1, 8, .agg #[.pointer none]⟩
def ti20 : TI := ⟨.interface #[], 1, 16, .nilIface⟩
def ti21 : TI := ⟨.int .i32, 1, 4, .int .i32 0⟩
def ti22 : TI := ⟨.func #[] #[4] false, 1, 8, .nilFunc⟩
def ti23 : TI := ⟨.func #[9, 9] #[3] false, 1, 8, .nilFunc⟩
def ti24 : TI := ⟨.func #[9, 9, 9] #[4] false, 1, 8, .nilFunc⟩
def ti25 : TI := ⟨.int .u64, 1, 8, .int .u64 0⟩
def ti27 : TI := ⟨.func #[9, 3] #[25, 3] false, 1, 8, .nilFunc⟩
def ti28 : TI := ⟨.func #[25, 3] #[9] false, 1, 8, .nilFunc⟩
def ti29 : TI := ⟨.func #[9, 3, 25, 3] #[4] false, 1, 8, .nilFunc⟩
def ti30 : TI := ⟨.func #[9, 9] #[4] false, 1, 8, .nilFunc⟩
def ti31 : TI := ⟨.func #[9] #[9] false, 1, 8, .nilFunc⟩
def ti33 : TI := ⟨.func #[9, 9] #[9, 4] false, 1, 8, .nilFunc⟩
def ti34 : TI := ⟨.func #[9, 3] #[9] false, 1, 8, .nilFunc⟩
def ti35 : TI := ⟨.int .i64, 1, 8, .int .i64 0⟩
def ti36 : TI := ⟨.func #[9, 9] #[35] false, 1, 8, .nilFunc⟩
def ti37 : TI := ⟨.int .u64, 1, 8, .int .u64 0⟩
def ti38 : TI := ⟨.slice 5, 1, 24, .slice none 0 0⟩
def ti40 : TI := ⟨.func #[37, 37] #[37, 37] false, 1, 8, .nilFunc⟩
def ti41 : TI := ⟨.pointer 43, 1, 8, .pointer none⟩
def ti42 : TI := ⟨.struct #[⟨ "addr", 41, 0, false, "", "strings", 0⟩, ⟨ "buf", 38, 1, false, "", "strings", 8⟩], 2, 32, .agg #[.pointer none, .slice none 0 0]⟩
def ti43 : TI := ⟨.struct #[⟨ "addr", 41, 0, false, "", "strings", 0⟩, ⟨ "buf", 38, 1, false, "", "strings", 8⟩], 2, 32, .agg #[.pointer none, .slice none 0 0]⟩
def ti44 : TI := ⟨.func #[3] #[] false, 1, 8, .nilFunc⟩
def ti45 : TI := ⟨.interface #[("Error", 50)], 1, 16, .nilIface⟩
def ti46 : TI := ⟨.interface #[("Error", 50)], 1, 16, .nilIface⟩
def ti48 : TI := ⟨.func #[9] #[3, 46] false, 1, 8, .nilFunc⟩
def ti49 : TI := ⟨.func #[] #[3] false, 1, 8, .nilFunc⟩
def ti50 : TI := ⟨.func #[] #[9] false, 1, 8, .nilFunc⟩
def ti51 : TI := ⟨.int .u32, 1, 4, .int .u32 0⟩
def ti53 : TI := ⟨.func #[51, 51] #[51, 51] false, 1, 8, .nilFunc⟩
def ti55 : TI := ⟨.func #[25, 25] #[25, 25] false, 1, 8, .nilFunc⟩
def ti56 : TI := ⟨.pointer 5, 1, 8, .pointer none⟩
def ti58 : TI := ⟨.func #[57] #[57] false, 1, 8, .nilFunc⟩
def ti59 : TI := ⟨.func #[3] #[38] false, 1, 8, .nilFunc⟩
def ti60 : TI := ⟨.struct #[⟨ "_interface", 17, 0, false, "", "runtime", 0⟩, ⟨ "concrete", 17, 1, false, "", "runtime", 8⟩, ⟨ "asserted", 17, 2, false, "", "runtime", 16⟩, ⟨ "missingMethod", 9, 3, false, "", "runtime", 24⟩], 4, 40, .agg #[.pointer none, .pointer none, .pointer none, .string ⟨#[]⟩]⟩
def ti61 : TI := ⟨.struct #[⟨ "_interface", 17, 0, false, "", "runtime", 0⟩, ⟨ "concrete", 17, 1, false, "", "runtime", 8⟩, ⟨ "asserted", 17, 2, false, "", "runtime", 16⟩, ⟨ "missingMethod", 9, 3, false, "", "runtime", 24⟩], 4, 40, .agg #[.pointer none, .pointer none, .pointer none, .string ⟨#[]⟩]⟩
def ti62 : TI := ⟨.array 0 16, 0, 0, .agg #[]⟩
def ti63 : TI := ⟨.struct #[⟨ "_", 62, 0, false, "", "runtime", 0⟩], 0, 0, .agg #[]⟩
def ti64 : TI := ⟨.struct #[⟨ "_", 62, 0, false, "", "runtime", 0⟩], 0, 0, .agg #[]⟩
def ti65 : TI := ⟨.int .u8, 1, 1, .int .u8 0⟩
def ti66 : TI := ⟨.int .u8, 1, 1, .int .u8 0⟩
def ti67 : TI := ⟨.func #[57, 57] #[4] false, 1, 8, .nilFunc⟩
def ti68 : TI := ⟨.int .i32, 1, 4, .int .i32 0⟩
def ti69 : TI := ⟨.int .i32, 1, 4, .int .i32 0⟩
def ti70 : TI := ⟨.struct #[⟨ "Size_", 12, 0, false, "", "", 0⟩, ⟨ "PtrBytes", 12, 1, false, "", "", 8⟩, ⟨ "Hash", 51, 2, false, "", "", 16⟩, ⟨ "TFlag", 65, 3, false, "", "", 20⟩, ⟨ "Align_", 5, 4, false, "", "", 21⟩, ⟨ "FieldAlign_", 5, 5, false, "", "", 22⟩, ⟨ "Kind_", 66, 6, false, "", "", 23⟩, ⟨ "Equal", 67, 7, false, "", "", 24⟩, ⟨ "GCData", 56, 8, false, "", "", 32⟩, ⟨ "Str", 68, 9, false, "", "", 40⟩, ⟨ "PtrToThis", 69, 10, false, "", "", 44⟩], 11, 48, .agg #[.int .u64 0, .int .u64 0, .int .u32 0, .int .u8 0, .int .u8 0, .int .u8 0, .int .u8 0, .nilFunc, .pointer none, .int .i32 0, .int .i32 0]⟩
def ti71 : TI := ⟨.struct #[⟨ "Size_", 12, 0, false, "", "", 0⟩, ⟨ "PtrBytes", 12, 1, false, "", "", 8⟩, ⟨ "Hash", 51, 2, false, "", "", 16⟩, ⟨ "TFlag", 65, 3, false, "", "", 20⟩, ⟨ "Align_", 5, 4, false, "", "", 21⟩, ⟨ "FieldAlign_", 5, 5, false, "", "", 22⟩, ⟨ "Kind_", 66, 6, false, "", "", 23⟩, ⟨ "Equal", 67, 7, false, "", "", 24⟩, ⟨ "GCData", 56, 8, false, "", "", 32⟩, ⟨ "Str", 68, 9, false, "", "", 40⟩, ⟨ "PtrToThis", 69, 10, false, "", "", 44⟩], 11, 48, .agg #[.int .u64 0, .int .u64 0, .int .u32 0, .int .u8 0, .int .u8 0, .int .u8 0, .int .u8 0, .nilFunc, .pointer none, .int .i32 0, .int .i32 0]⟩

def D : Tab := [(1, ti1), (2, ti2), (3, ti3), (4, ti4), (5, ti5), (6, ti6), (7, ti7), (8, ti8), (9, ti9), (10, ti10), (11, ti11), (12, ti12), (13, ti13), (14, ti14), (15, ti15), (16, ti16), (17, ti17), (18, ti18), (19, ti19), (20, ti20), (21, ti21), (22, ti22), (23, ti23), (24, ti24), (25, ti25), (27, ti27), (28, ti28), (29, ti29), (30, ti30), (31, ti31), (33, ti33), (34, ti34), (35, ti35), (36, ti36), (37, ti37), (38, ti38), (40, ti40), (41, ti41), (42, ti42), (43, ti43), (44, ti44), (45, ti45), (46, ti46), (48, ti48), (49, ti49), (50, ti50), (51, ti51), (53, ti53), (55, ti55), (56, ti56), (58, ti58), (59, ti59), (60, ti60), (61, ti61), (62, ti62), (63, ti63), (64, ti64), (65, ti65), (66, ti66), (67, ti67), (68, ti68), (69, ti69), (70, ti70), (71, ti71)]

theorem tok1 : TIok Try.prog 1 ti1 := .of (by kernel_rfl) (by kernel_rfl)
theorem tok2 : TIok Try.prog 2 ti2 := .of (by kernel_rfl) (by kernel_rfl)
theorem tok3 : TIok Try.prog 3 ti3 := .of (by kernel_rfl) (by kernel_rfl)
theorem tok4 : TIok Try.prog 4 ti4 := .of (by kernel_rfl) (by kernel_rfl)
theorem tok5 : TIok Try.prog 5 ti5 := .of (by kernel_rfl) (by kernel_rfl)
theorem tok6 : TIok Try.prog 6 ti6 := .of (by kernel_rfl) (by kernel_rfl)
theorem tok7 : TIok Try.prog 7 ti7 := .of (by kernel_rfl) (by kernel_rfl)
theorem tok8 : TIok Try.prog 8 ti8 := .of (by kernel_rfl) (by kernel_rfl)
theorem tok9 : TIok Try.prog 9 ti9 := .of (by kernel_rfl) (by kernel_rfl)
theorem tok10 : TIok Try.prog 10 ti10 := .of (by kernel_rfl) (by kernel_rfl)
theorem tok11 : TIok Try.prog 11 ti11 := .of (by kernel_rfl) (by kernel_rfl)
theorem tok12 : TIok Try.prog 12 ti12 := .of (by kernel_rfl) (by kernel_rfl)
theorem tok13 : TIok Try.prog 13 ti13 := .of (by kernel_rfl) (by kernel_rfl)
theorem tok14 : TIok Try.prog 14 ti14 := .of (by kernel_rfl) (by kernel_rfl)
theorem tok15 : TIok Try.prog 15 ti15 := .of (by kernel_rfl) (by kernel_rfl)
theorem tok16 : TIok Try.prog 16 ti16 := .of (by kernel_rfl) (by kernel_rfl)
theorem tok17 : TIok Try.prog 17 ti17 := .of (by kernel_rfl) (by kernel_rfl)
theorem tok18 : TIok Try.prog 18 ti18 := .of (by kernel_rfl) (by kernel_rfl)
theorem tok19 : TIok Try.prog 19 ti19 := .of (by kernel_rfl) (by kernel_rfl)
theorem tok20 : TIok Try.prog 20 ti20 := .of (by kernel_rfl) (by kernel_rfl)
theorem tok21 : TIok Try.prog 21 ti21 := .of (by kernel_rfl) (by kernel_rfl)
theorem tok22 : TIok Try.prog 22 ti22 := .of (by kernel_rfl) (by kernel_rfl)
theorem tok23 : TIok Try.prog 23 ti23 := .of (by kernel_rfl) (by kernel_rfl)
theorem tok24 : TIok Try.prog 24 ti24 := .of (by kernel_rfl) (by kernel_rfl)
theorem tok25 : TIok Try.prog 25 ti25 := .of (by kernel_rfl) (by kernel_rfl)
theorem tok27 : TIok Try.prog 27 ti27 := .of (by kernel_rfl) (by kernel_rfl)
theorem tok28 : TIok Try.prog 28 ti28 := .of (by kernel_rfl) (by kernel_rfl)
theorem tok29 : TIok Try.prog 29 ti29 := .of (by kernel_rfl) (by kernel_rfl)
theorem tok30 : TIok Try.prog 30 ti30 := .of (by kernel_rfl) (by kernel_rfl)
theorem tok31 : TIok Try.prog 31 ti31 := .of (by kernel_rfl) (by kernel_rfl)
theorem tok33 : TIok Try.prog 33 ti33 := .of (by kernel_rfl) (by kernel_rfl)
theorem tok34 : TIok Try.prog 34 ti34 := .of (by kernel_rfl) (by kernel_rfl)
theorem tok35 : TIok Try.prog 35 ti35 := .of (by kernel_rfl) (by kernel_rfl)
theorem tok36 : TIok Try.prog 36 ti36 := .of (by kernel_rfl) (by kernel_rfl)
theorem tok37 : TIok Try.prog 37 ti37 := .of (by kernel_rfl) (by kernel_rfl)
theorem tok38 : TIok Try.prog 38 ti38 := .of (by kernel_rfl) (by kernel_rfl)
theorem tok40 : TIok Try.prog 40 ti40 := .of (by kernel_rfl) (by kernel_rfl)
theorem tok41 : TIok Try.prog 41 ti41 := .of (by kernel_rfl) (by kernel_rfl)
theorem tok42 : TIok Try.prog 42 ti42 := .of (by kernel_rfl) (by kernel_rfl)
theorem tok43 : TIok Try.prog 43 ti43 := .of (by kernel_rfl) (by kernel_rfl)
theorem tok44 : TIok Try.prog 44 ti44 := .of (by kernel_rfl) (by kernel_rfl)
theorem tok45 : TIok Try.prog 45 ti45 := .of (by kernel_rfl) (by kernel_rfl)
theorem tok46 : TIok Try.prog 46 ti46 := .of (by kernel_rfl) (by kernel_rfl)
theorem tok48 : TIok Try.prog 48 ti48 := .of (by kernel_rfl) (by kernel_rfl)
theorem tok49 : TIok Try.prog 49 ti49 := .of (by kernel_rfl) (by kernel_rfl)
theorem tok50 : TIok Try.prog 50 ti50 := .of (by kernel_rfl) (by kernel_rfl)
theorem tok51 : TIok Try.prog 51 ti51 := .of (by kernel_rfl) (by kernel_rfl)
theorem tok53 : TIok Try.prog 53 ti53 := .of (by kernel_rfl) (by kernel_rfl)
theorem tok55 : TIok Try.prog 55 ti55 := .of (by kernel_rfl) (by kernel_rfl)
theorem tok56 : TIok Try.prog 56 ti56 := .of (by kernel_rfl) (by kernel_rfl)
theorem tok58 : TIok Try.prog 58 ti58 := .of (by kernel_rfl) (by kernel_rfl)
theorem tok59 : TIok Try.prog 59 ti59 := .of (by kernel_rfl) (by kernel_rfl)
theorem tok60 : TIok Try.prog 60 ti60 := .of (by kernel_rfl) (by kernel_rfl)
theorem tok61 : TIok Try.prog 61 ti61 := .of (by kernel_rfl) (by kernel_rfl)
theorem tok62 : TIok Try.prog 62 ti62 := .of (by kernel_rfl) (by kernel_rfl)
theorem tok63 : TIok Try.prog 63 ti63 := .of (by kernel_rfl) (by kernel_rfl)
theorem tok64 : TIok Try.prog 64 ti64 := .of (by kernel_rfl) (by kernel_rfl)
theorem tok65 : TIok Try.prog 65 ti65 := .of (by kernel_rfl) (by kernel_rfl)
theorem tok66 : TIok Try.prog 66 ti66 := .of (by kernel_rfl) (by kernel_rfl)
theorem tok67 : TIok Try.prog 67 ti67 := .of (by kernel_rfl) (by kernel_rfl)
theorem tok68 : TIok Try.prog 68 ti68 := .of (by kernel_rfl) (by kernel_rfl)
theorem tok69 : TIok Try.prog 69 ti69 := .of (by kernel_rfl) (by kernel_rfl)
theorem tok70 : TIok Try.prog 70 ti70 := .of (by kernel_rfl) (by kernel_rfl)
theorem tok71 : TIok Try.prog 71 ti71 := .of (by kernel_rfl) (by kernel_rfl)

theorem hD0 : TabOK Try.prog D := by
  intro x hx
  simp only [D, List.mem_cons, List.not_mem_nil, or_false] at hx
  rcases hx with rfl | rfl | rfl | rfl | rfl | rfl | rfl | rfl | rfl | rfl | rfl | rfl | rfl | rfl | rfl | rfl | rfl | rfl | rfl | rfl | rfl | rfl | rfl | rfl | rfl | rfl | rfl | rfl | rfl | rfl | rfl | rfl | rfl | rfl | rfl | rfl | rfl | rfl | rfl | rfl | rfl | rfl | rfl | rfl | rfl | rfl | rfl | rfl | rfl | rfl | rfl | rfl | rfl | rfl | rfl | rfl | rfl | rfl | rfl | rfl | rfl | rfl | rfl | rfl
  · exact tok1
  · exact tok2
  · exact tok3
  · exact tok4
  · exact tok5
  · exact tok6
  · exact tok7
  · exact tok8
  · exact tok9
  · exact tok10
  · exact tok11
  · exact tok12
  · exact tok13
  · exact tok14
  · exact tok15
  · exact tok16
  · exact tok17
  · exact tok18
  · exact tok19
  · exact tok20
  · exact tok21
  · exact tok22
  · exact tok23
  · exact tok24
  · exact tok25
  · exact tok27
  · exact tok28
  · exact tok29
  · exact tok30
  · exact tok31
  · exact tok33
  · exact tok34
  · exact tok35
  · exact tok36
  · exact tok37
  · exact tok38
  · exact tok40
  · exact tok41
  · exact tok42
  · exact tok43
  · exact tok44
  · exact tok45
  · exact tok46
  · exact tok48
  · exact tok49
  · exact tok50
  · exact tok51
  · exact tok53
  · exact tok55
  · exact tok56
  · exact tok58
  · exact tok59
  · exact tok60
  · exact tok61
  · exact tok62
  · exact tok63
  · exact tok64
  · exact tok65
  · exact tok66
  · exact tok67
  · exact tok68
  · exact tok69
  · exact tok70
  · exact tok71

end Go.Proofs.Ytiimchhbbjlegaa.LF
