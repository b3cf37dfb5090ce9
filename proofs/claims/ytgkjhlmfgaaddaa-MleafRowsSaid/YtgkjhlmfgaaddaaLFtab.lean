/- What is known of the seat's types. -/
import Derived.Test.YtgkjhlmfgaaddaaLGa
import Derived.Test.YtgkjhlmfgaaddaaProg
import Derived.KernelRfl
set_option linter.unusedVariables false
set_option linter.unusedSimpArgs false
namespace Go.Proofs.Ytgkjhlmfgaaddaa.LF

def ti1 : TI := ⟨.func #[] #[] false, 1, 8, .nilFunc⟩
def ti2 : TI := ⟨.int .i64, 1, 8, .int .i64 0⟩
def ti3 : TI := ⟨.int .i64, 1, 8, .int .i64 0⟩
def ti4 : TI := ⟨.bool, 1, 1, .bool false⟩
def ti5 : TI := ⟨.int .u8, 1, 1, .int .u8 0⟩
def ti6 : TI := ⟨.int .u8, 1, 1, .int .u8 0⟩
def ti7 : TI := ⟨.struct #[⟨ "x", 2, 0, false, "", "runtime", 0⟩, ⟨ "y", 3, 1, false, "", "runtime", 8⟩, ⟨ "signed", 4, 2, false, "", "runtime", 16⟩, ⟨ "code", 6, 3, false, "", "runtime", 17⟩], 4, 24, .agg #[.int .i64 0, .int .i64 0, .bool false, .int .u8 0]⟩
def ti8 : TI := ⟨.struct #[⟨ "x", 2, 0, false, "", "runtime", 0⟩, ⟨ "y", 3, 1, false, "", "runtime", 8⟩, ⟨ "signed", 4, 2, false, "", "runtime", 16⟩, ⟨ "code", 6, 3, false, "", "runtime", 17⟩], 4, 24, .agg #[.int .i64 0, .int .i64 0, .bool false, .int .u8 0]⟩
def ti9 : TI := ⟨.string, 1, 16, .string ⟨#[]⟩⟩
def ti10 : TI := ⟨.string, 1, 16, .string ⟨#[]⟩⟩
def ti11 : TI := ⟨.string, 1, 16, .string ⟨#[]⟩⟩
def ti12 : TI := ⟨.int .u64, 1, 8, .int .u64 0⟩
def ti13 : TI := ⟨.struct #[⟨ "msg", 9, 0, false, "", "runtime", 0⟩, ⟨ "addr", 12, 1, false, "", "runtime", 16⟩], 2, 24, .agg #[.string ⟨#[]⟩, .int .u64 0]⟩
def ti14 : TI := ⟨.struct #[⟨ "msg", 9, 0, false, "", "runtime", 0⟩, ⟨ "addr", 12, 1, false, "", "runtime", 16⟩], 2, 24, .agg #[.string ⟨#[]⟩, .int .u64 0]⟩
def ti15 : TI := ⟨.pointer 106, 1, 8, .pointer none⟩
def ti16 : TI := ⟨.pointer 109, 1, 8, .pointer none⟩
def ti17 : TI := ⟨.pointer 118, 1, 8, .pointer none⟩
def ti18 : TI := ⟨.struct #[⟨ "typ", 17, 0, false, "", "internal/runtime/maps", 0⟩], 1, 8, .agg #[.pointer none]⟩
def ti19 : TI := ⟨.struct #[⟨ "typ", 17, 0, false, "", "internal/runtime/maps", 0⟩], 1, 8, .agg #[.pointer none]⟩
def ti21 : TI := ⟨.int .i32, 1, 4, .int .i32 0⟩
def ti22 : TI := ⟨.int .u64, 1, 8, .int .u64 0⟩
def ti23 : TI := ⟨.struct #[⟨ "Slice", 22, 0, false, "", "", 0⟩, ⟨ "Class", 5, 1, false, "", "", 8⟩], 2, 16, .agg #[.int .u64 0, .int .u8 0]⟩
def ti24 : TI := ⟨.struct #[⟨ "Slice", 22, 0, false, "", "", 0⟩, ⟨ "Class", 5, 1, false, "", "", 8⟩], 2, 16, .agg #[.int .u64 0, .int .u8 0]⟩
def ti25 : TI := ⟨.struct #[⟨ "Slot", 3, 0, false, "", "", 0⟩, ⟨ "Gen", 22, 1, false, "", "", 8⟩], 2, 16, .agg #[.int .i64 0, .int .u64 0]⟩
def ti26 : TI := ⟨.struct #[⟨ "Slot", 3, 0, false, "", "", 0⟩, ⟨ "Gen", 22, 1, false, "", "", 8⟩], 2, 16, .agg #[.int .i64 0, .int .u64 0]⟩
def ti27 : TI := ⟨.struct #[⟨ "Mark", 24, 0, true, "", "", 0⟩, ⟨ "Rest", 9, 2, false, "", "", 16⟩, ⟨ "Value", 9, 3, false, "", "", 32⟩, ⟨ "Deep", 4, 4, false, "", "", 48⟩, ⟨ "Link", 26, 5, false, "", "", 56⟩], 7, 72, .agg #[.int .u64 0, .int .u8 0, .string ⟨#[]⟩, .string ⟨#[]⟩, .bool false, .int .i64 0, .int .u64 0]⟩
def ti28 : TI := ⟨.struct #[⟨ "Mark", 24, 0, true, "", "", 0⟩, ⟨ "Rest", 9, 2, false, "", "", 16⟩, ⟨ "Value", 9, 3, false, "", "", 32⟩, ⟨ "Deep", 4, 4, false, "", "", 48⟩, ⟨ "Link", 26, 5, false, "", "", 56⟩], 7, 72, .agg #[.int .u64 0, .int .u8 0, .string ⟨#[]⟩, .string ⟨#[]⟩, .bool false, .int .i64 0, .int .u64 0]⟩
def ti29 : TI := ⟨.array 15 28, 105, 1080, .agg #[.int .u64 0, .int .u8 0, .string ⟨#[]⟩, .string ⟨#[]⟩, .bool false, .int .i64 0, .int .u64 0, .int .u64 0, .int .u8 0, .string ⟨#[]⟩, .string ⟨#[]⟩, .bool false, .int .i64 0, .int .u64 0, .int .u64 0, .int .u8 0, .string ⟨#[]⟩, .string ⟨#[]⟩, .bool false, .int .i64 0, .int .u64 0, .int .u64 0, .int .u8 0, .string ⟨#[]⟩, .string ⟨#[]⟩, .bool false, .int .i64 0, .int .u64 0, .int .u64 0, .int .u8 0, .string ⟨#[]⟩, .string ⟨#[]⟩, .bool false, .int .i64 0, .int .u64 0, .int .u64 0, .int .u8 0, .string ⟨#[]⟩, .string ⟨#[]⟩, .bool false, .int .i64 0, .int .u64 0, .int .u64 0, .int .u8 0, .string ⟨#[]⟩, .string ⟨#[]⟩, .bool false, .int .i64 0, .int .u64 0, .int .u64 0, .int .u8 0, .string ⟨#[]⟩, .string ⟨#[]⟩, .bool false, .int .i64 0, .int .u64 0, .int .u64 0, .int .u8 0, .string ⟨#[]⟩, .string ⟨#[]⟩, .bool false, .int .i64 0, .int .u64 0, .int .u64 0, .int .u8 0, .string ⟨#[]⟩, .string ⟨#[]⟩, .bool false, .int .i64 0, .int .u64 0, .int .u64 0, .int .u8 0, .string ⟨#[]⟩, .string ⟨#[]⟩, .bool false, .int .i64 0, .int .u64 0, .int .u64 0, .int .u8 0, .string ⟨#[]⟩, .string ⟨#[]⟩, .bool false, .int .i64 0, .int .u64 0, .int .u64 0, .int .u8 0, .string ⟨#[]⟩, .string ⟨#[]⟩, .bool false, .int .i64 0, .int .u64 0, .int .u64 0, .int .u8 0, .string ⟨#[]⟩, .string ⟨#[]⟩, .bool false, .int .i64 0, .int .u64 0, .int .u64 0, .int .u8 0, .string ⟨#[]⟩, .string ⟨#[]⟩, .bool false, .int .i64 0, .int .u64 0]⟩
def ti30 : TI := ⟨.struct #[⟨ "Perm", 22, 0, false, "", "", 0⟩, ⟨ "Slots", 29, 1, false, "", "", 8⟩, ⟨ "High", 24, 106, false, "", "", 1088⟩, ⟨ "Bounded", 4, 108, false, "", "", 1104⟩, ⟨ "Next", 26, 109, false, "", "", 1112⟩], 111, 1128, .agg #[.int .u64 0, .int .u64 0, .int .u8 0, .string ⟨#[]⟩, .string ⟨#[]⟩, .bool false, .int .i64 0, .int .u64 0, .int .u64 0, .int .u8 0, .string ⟨#[]⟩, .string ⟨#[]⟩, .bool false, .int .i64 0, .int .u64 0, .int .u64 0, .int .u8 0, .string ⟨#[]⟩, .string ⟨#[]⟩, .bool false, .int .i64 0, .int .u64 0, .int .u64 0, .int .u8 0, .string ⟨#[]⟩, .string ⟨#[]⟩, .bool false, .int .i64 0, .int .u64 0, .int .u64 0, .int .u8 0, .string ⟨#[]⟩, .string ⟨#[]⟩, .bool false, .int .i64 0, .int .u64 0, .int .u64 0, .int .u8 0, .string ⟨#[]⟩, .string ⟨#[]⟩, .bool false, .int .i64 0, .int .u64 0, .int .u64 0, .int .u8 0, .string ⟨#[]⟩, .string ⟨#[]⟩, .bool false, .int .i64 0, .int .u64 0, .int .u64 0, .int .u8 0, .string ⟨#[]⟩, .string ⟨#[]⟩, .bool false, .int .i64 0, .int .u64 0, .int .u64 0, .int .u8 0, .string ⟨#[]⟩, .string ⟨#[]⟩, .bool false, .int .i64 0, .int .u64 0, .int .u64 0, .int .u8 0, .string ⟨#[]⟩, .string ⟨#[]⟩, .bool false, .int .i64 0, .int .u64 0, .int .u64 0, .int .u8 0, .string ⟨#[]⟩, .string ⟨#[]⟩, .bool false, .int .i64 0, .int .u64 0, .int .u64 0, .int .u8 0, .string ⟨#[]⟩, .string ⟨#[]⟩, .bool false, .int .i64 0, .int .u64 0, .int .u64 0, .int .u8 0, .string ⟨#[]⟩, .string ⟨#[]⟩, .bool false, .int .i64 0, .int .u64 0, .int .u64 0, .int .u8 0, .string ⟨#[]⟩, .string ⟨#[]⟩, .bool false, .int .i64 0, .int .u64 0, .int .u64 0, .int .u8 0, .string ⟨#[]⟩, .string ⟨#[]⟩, .bool false, .int .i64 0, .int .u64 0, .int .u64 0, .int .u8 0, .bool false, .int .i64 0, .int .u64 0]⟩
def ti31 : TI := ⟨.struct #[⟨ "Perm", 22, 0, false, "", "", 0⟩, ⟨ "Slots", 29, 1, false, "", "", 8⟩, ⟨ "High", 24, 106, false, "", "", 1088⟩, ⟨ "Bounded", 4, 108, false, "", "", 1104⟩, ⟨ "Next", 26, 109, false, "", "", 1112⟩], 111, 1128, .agg #[.int .u64 0, .int .u64 0, .int .u8 0, .string ⟨#[]⟩, .string ⟨#[]⟩, .bool false, .int .i64 0, .int .u64 0, .int .u64 0, .int .u8 0, .string ⟨#[]⟩, .string ⟨#[]⟩, .bool false, .int .i64 0, .int .u64 0, .int .u64 0, .int .u8 0, .string ⟨#[]⟩, .string ⟨#[]⟩, .bool false, .int .i64 0, .int .u64 0, .int .u64 0, .int .u8 0, .string ⟨#[]⟩, .string ⟨#[]⟩, .bool false, .int .i64 0, .int .u64 0, .int .u64 0, .int .u8 0, .string ⟨#[]⟩, .string ⟨#[]⟩, .bool false, .int .i64 0, .int .u64 0, .int .u64 0, .int .u8 0, .string ⟨#[]⟩, .string ⟨#[]⟩, .bool false, .int .i64 0, .int .u64 0, .int .u64 0, .int .u8 0, .string ⟨#[]⟩, .string ⟨#[]⟩, .bool false, .int .i64 0, .int .u64 0, .int .u64 0, .int .u8 0, .string ⟨#[]⟩, .string ⟨#[]⟩, .bool false, .int .i64 0, .int .u64 0, .int .u64 0, .int .u8 0, .string ⟨#[]⟩, .string ⟨#[]⟩, .bool false, .int .i64 0, .int .u64 0, .int .u64 0, .int .u8 0, .string ⟨#[]⟩, .string ⟨#[]⟩, .bool false, .int .i64 0, .int .u64 0, .int .u64 0, .int .u8 0, .string ⟨#[]⟩, .string ⟨#[]⟩, .bool false, .int .i64 0, .int .u64 0, .int .u64 0, .int .u8 0, .string ⟨#[]⟩, .string ⟨#[]⟩, .bool false, .int .i64 0, .int .u64 0, .int .u64 0, .int .u8 0, .string ⟨#[]⟩, .string ⟨#[]⟩, .bool false, .int .i64 0, .int .u64 0, .int .u64 0, .int .u8 0, .string ⟨#[]⟩, .string ⟨#[]⟩, .bool false, .int .i64 0, .int .u64 0, .int .u64 0, .int .u8 0, .string ⟨#[]⟩, .string ⟨#[]⟩, .bool false, .int .i64 0, .int .u64 0, .int .u64 0, .int .u8 0, .bool false, .int .i64 0, .int .u64 0]⟩
def ti32 : TI := ⟨.func #[] #[4] false, 1, 8, .nilFunc⟩
def ti33 : TI := ⟨.func #[24] #[4] false, 1, 8, .nilFunc⟩
def ti34 : TI := ⟨.func #[] #[3] false, 1, 8, .nilFunc⟩
def ti36 : TI := ⟨.func #[28] #[31, 28, 4] false, 1, 8, .nilFunc⟩
def ti38 : TI := ⟨.func #[3] #[28, 4] false, 1, 8, .nilFunc⟩
def ti39 : TI := ⟨.func #[31, 28, 28] #[4] false, 1, 8, .nilFunc⟩
def ti40 : TI := ⟨.struct #[⟨ "Slice", 22, 0, false, "", "", 0⟩, ⟨ "Class", 5, 1, false, "", "", 8⟩], 2, 16, .agg #[.int .u64 0, .int .u8 0]⟩
def ti41 : TI := ⟨.struct #[⟨ "M", 40, 0, false, "", "", 0⟩, ⟨ "Rest", 9, 2, false, "", "", 16⟩, ⟨ "Value", 9, 3, false, "", "", 32⟩, ⟨ "Deep", 4, 4, false, "", "", 48⟩, ⟨ "Link", 26, 5, false, "", "", 56⟩], 7, 72, .agg #[.int .u64 0, .int .u8 0, .string ⟨#[]⟩, .string ⟨#[]⟩, .bool false, .int .i64 0, .int .u64 0]⟩
def ti42 : TI := ⟨.struct #[⟨ "M", 40, 0, false, "", "", 0⟩, ⟨ "Rest", 9, 2, false, "", "", 16⟩, ⟨ "Value", 9, 3, false, "", "", 32⟩, ⟨ "Deep", 4, 4, false, "", "", 48⟩, ⟨ "Link", 26, 5, false, "", "", 56⟩], 7, 72, .agg #[.int .u64 0, .int .u8 0, .string ⟨#[]⟩, .string ⟨#[]⟩, .bool false, .int .i64 0, .int .u64 0]⟩
def ti43 : TI := ⟨.array 15 42, 105, 1080, .agg #[.int .u64 0, .int .u8 0, .string ⟨#[]⟩, .string ⟨#[]⟩, .bool false, .int .i64 0, .int .u64 0, .int .u64 0, .int .u8 0, .string ⟨#[]⟩, .string ⟨#[]⟩, .bool false, .int .i64 0, .int .u64 0, .int .u64 0, .int .u8 0, .string ⟨#[]⟩, .string ⟨#[]⟩, .bool false, .int .i64 0, .int .u64 0, .int .u64 0, .int .u8 0, .string ⟨#[]⟩, .string ⟨#[]⟩, .bool false, .int .i64 0, .int .u64 0, .int .u64 0, .int .u8 0, .string ⟨#[]⟩, .string ⟨#[]⟩, .bool false, .int .i64 0, .int .u64 0, .int .u64 0, .int .u8 0, .string ⟨#[]⟩, .string ⟨#[]⟩, .bool false, .int .i64 0, .int .u64 0, .int .u64 0, .int .u8 0, .string ⟨#[]⟩, .string ⟨#[]⟩, .bool false, .int .i64 0, .int .u64 0, .int .u64 0, .int .u8 0, .string ⟨#[]⟩, .string ⟨#[]⟩, .bool false, .int .i64 0, .int .u64 0, .int .u64 0, .int .u8 0, .string ⟨#[]⟩, .string ⟨#[]⟩, .bool false, .int .i64 0, .int .u64 0, .int .u64 0, .int .u8 0, .string ⟨#[]⟩, .string ⟨#[]⟩, .bool false, .int .i64 0, .int .u64 0, .int .u64 0, .int .u8 0, .string ⟨#[]⟩, .string ⟨#[]⟩, .bool false, .int .i64 0, .int .u64 0, .int .u64 0, .int .u8 0, .string ⟨#[]⟩, .string ⟨#[]⟩, .bool false, .int .i64 0, .int .u64 0, .int .u64 0, .int .u8 0, .string ⟨#[]⟩, .string ⟨#[]⟩, .bool false, .int .i64 0, .int .u64 0, .int .u64 0, .int .u8 0, .string ⟨#[]⟩, .string ⟨#[]⟩, .bool false, .int .i64 0, .int .u64 0, .int .u64 0, .int .u8 0, .string ⟨#[]⟩, .string ⟨#[]⟩, .bool false, .int .i64 0, .int .u64 0]⟩
def ti44 : TI := ⟨.struct #[⟨ "Perm", 22, 0, false, "", "", 0⟩, ⟨ "Slots", 43, 1, false, "", "", 8⟩, ⟨ "High", 40, 106, false, "", "", 1088⟩, ⟨ "Bounded", 4, 108, false, "", "", 1104⟩, ⟨ "Next", 26, 109, false, "", "", 1112⟩], 111, 1128, .agg #[.int .u64 0, .int .u64 0, .int .u8 0, .string ⟨#[]⟩, .string ⟨#[]⟩, .bool false, .int .i64 0, .int .u64 0, .int .u64 0, .int .u8 0, .string ⟨#[]⟩, .string ⟨#[]⟩, .bool false, .int .i64 0, .int .u64 0, .int .u64 0, .int .u8 0, .string ⟨#[]⟩, .string ⟨#[]⟩, .bool false, .int .i64 0, .int .u64 0, .int .u64 0, .int .u8 0, .string ⟨#[]⟩, .string ⟨#[]⟩, .bool false, .int .i64 0, .int .u64 0, .int .u64 0, .int .u8 0, .string ⟨#[]⟩, .string ⟨#[]⟩, .bool false, .int .i64 0, .int .u64 0, .int .u64 0, .int .u8 0, .string ⟨#[]⟩, .string ⟨#[]⟩, .bool false, .int .i64 0, .int .u64 0, .int .u64 0, .int .u8 0, .string ⟨#[]⟩, .string ⟨#[]⟩, .bool false, .int .i64 0, .int .u64 0, .int .u64 0, .int .u8 0, .string ⟨#[]⟩, .string ⟨#[]⟩, .bool false, .int .i64 0, .int .u64 0, .int .u64 0, .int .u8 0, .string ⟨#[]⟩, .string ⟨#[]⟩, .bool false, .int .i64 0, .int .u64 0, .int .u64 0, .int .u8 0, .string ⟨#[]⟩, .string ⟨#[]⟩, .bool false, .int .i64 0, .int .u64 0, .int .u64 0, .int .u8 0, .string ⟨#[]⟩, .string ⟨#[]⟩, .bool false, .int .i64 0, .int .u64 0, .int .u64 0, .int .u8 0, .string ⟨#[]⟩, .string ⟨#[]⟩, .bool false, .int .i64 0, .int .u64 0, .int .u64 0, .int .u8 0, .string ⟨#[]⟩, .string ⟨#[]⟩, .bool false, .int .i64 0, .int .u64 0, .int .u64 0, .int .u8 0, .string ⟨#[]⟩, .string ⟨#[]⟩, .bool false, .int .i64 0, .int .u64 0, .int .u64 0, .int .u8 0, .string ⟨#[]⟩, .string ⟨#[]⟩, .bool false, .int .i64 0, .int .u64 0, .int .u64 0, .int .u8 0, .bool false, .int .i64 0, .int .u64 0]⟩
def ti45 : TI := ⟨.struct #[⟨ "Perm", 22, 0, false, "", "", 0⟩, ⟨ "Slots", 43, 1, false, "", "", 8⟩, ⟨ "High", 40, 106, false, "", "", 1088⟩, ⟨ "Bounded", 4, 108, false, "", "", 1104⟩, ⟨ "Next", 26, 109, false, "", "", 1112⟩], 111, 1128, .agg #[.int .u64 0, .int .u64 0, .int .u8 0, .string ⟨#[]⟩, .string ⟨#[]⟩, .bool false, .int .i64 0, .int .u64 0, .int .u64 0, .int .u8 0, .string ⟨#[]⟩, .string ⟨#[]⟩, .bool false, .int .i64 0, .int .u64 0, .int .u64 0, .int .u8 0, .string ⟨#[]⟩, .string ⟨#[]⟩, .bool false, .int .i64 0, .int .u64 0, .int .u64 0, .int .u8 0, .string ⟨#[]⟩, .string ⟨#[]⟩, .bool false, .int .i64 0, .int .u64 0, .int .u64 0, .int .u8 0, .string ⟨#[]⟩, .string ⟨#[]⟩, .bool false, .int .i64 0, .int .u64 0, .int .u64 0, .int .u8 0, .string ⟨#[]⟩, .string ⟨#[]⟩, .bool false, .int .i64 0, .int .u64 0, .int .u64 0, .int .u8 0, .string ⟨#[]⟩, .string ⟨#[]⟩, .bool false, .int .i64 0, .int .u64 0, .int .u64 0, .int .u8 0, .string ⟨#[]⟩, .string ⟨#[]⟩, .bool false, .int .i64 0, .int .u64 0, .int .u64 0, .int .u8 0, .string ⟨#[]⟩, .string ⟨#[]⟩, .bool false, .int .i64 0, .int .u64 0, .int .u64 0, .int .u8 0, .string ⟨#[]⟩, .string ⟨#[]⟩, .bool false, .int .i64 0, .int .u64 0, .int .u64 0, .int .u8 0, .string ⟨#[]⟩, .string ⟨#[]⟩, .bool false, .int .i64 0, .int .u64 0, .int .u64 0, .int .u8 0, .string ⟨#[]⟩, .string ⟨#[]⟩, .bool false, .int .i64 0, .int .u64 0, .int .u64 0, .int .u8 0, .string ⟨#[]⟩, .string ⟨#[]⟩, .bool false, .int .i64 0, .int .u64 0, .int .u64 0, .int .u8 0, .string ⟨#[]⟩, .string ⟨#[]⟩, .bool false, .int .i64 0, .int .u64 0, .int .u64 0, .int .u8 0, .string ⟨#[]⟩, .string ⟨#[]⟩, .bool false, .int .i64 0, .int .u64 0, .int .u64 0, .int .u8 0, .bool false, .int .i64 0, .int .u64 0]⟩
def ti46 : TI := ⟨.func #[31] #[45] false, 1, 8, .nilFunc⟩
def ti47 : TI := ⟨.func #[45] #[4] false, 1, 8, .nilFunc⟩
def ti48 : TI := ⟨.func #[45, 40] #[4] false, 1, 8, .nilFunc⟩
def ti49 : TI := ⟨.func #[24] #[40] false, 1, 8, .nilFunc⟩
def ti51 : TI := ⟨.func #[24] #[3, 4] false, 1, 8, .nilFunc⟩
def ti52 : TI := ⟨.func #[45, 40] #[3, 4] false, 1, 8, .nilFunc⟩
def ti53 : TI := ⟨.slice 42, 1, 24, .slice none 0 0⟩
def ti54 : TI := ⟨.func #[45] #[53] false, 1, 8, .nilFunc⟩
def ti55 : TI := ⟨.func #[28] #[42] false, 1, 8, .nilFunc⟩
def ti56 : TI := ⟨.func #[31, 3, 24] #[4] false, 1, 8, .nilFunc⟩
def ti58 : TI := ⟨.func #[9, 3] #[22, 3] false, 1, 8, .nilFunc⟩
def ti59 : TI := ⟨.func #[9, 3] #[24] false, 1, 8, .nilFunc⟩
def ti60 : TI := ⟨.func #[40] #[4] false, 1, 8, .nilFunc⟩
def ti61 : TI := ⟨.func #[] #[9] false, 1, 8, .nilFunc⟩
def ti62 : TI := ⟨.func #[40] #[9] false, 1, 8, .nilFunc⟩
def ti63 : TI := ⟨.func #[40, 40] #[4] false, 1, 8, .nilFunc⟩
def ti64 : TI := ⟨.func #[42] #[4] false, 1, 8, .nilFunc⟩
def ti65 : TI := ⟨.func #[9, 3, 24, 24, 28] #[4] false, 1, 8, .nilFunc⟩
def ti66 : TI := ⟨.func #[9, 9] #[3] false, 1, 8, .nilFunc⟩
def ti67 : TI := ⟨.func #[9, 9, 9, 5] #[4] false, 1, 8, .nilFunc⟩
def ti68 : TI := ⟨.func #[24] #[31, 28, 4] false, 1, 8, .nilFunc⟩
def ti69 : TI := ⟨.func #[31, 28] #[4] false, 1, 8, .nilFunc⟩
def ti70 : TI := ⟨.func #[] #[31] false, 1, 8, .nilFunc⟩
def ti71 : TI := ⟨.func #[9, 9] #[28] false, 1, 8, .nilFunc⟩
def ti73 : TI := ⟨.func #[45, 42] #[45, 42, 4] false, 1, 8, .nilFunc⟩
def ti74 : TI := ⟨.func #[45, 40] #[45, 42, 4] false, 1, 8, .nilFunc⟩
def ti76 : TI := ⟨.func #[26] #[31, 31, 24] false, 1, 8, .nilFunc⟩
def ti78 : TI := ⟨.func #[45, 26] #[45, 45, 40] false, 1, 8, .nilFunc⟩
def ti79 : TI := ⟨.func #[] #[45] false, 1, 8, .nilFunc⟩
def ti80 : TI := ⟨.func #[31, 28, 24, 26] #[4] false, 1, 8, .nilFunc⟩
def ti81 : TI := ⟨.func #[31, 24] #[28, 4] false, 1, 8, .nilFunc⟩
def ti82 : TI := ⟨.func #[22] #[4] false, 1, 8, .nilFunc⟩
def ti83 : TI := ⟨.func #[22, 3] #[3] false, 1, 8, .nilFunc⟩
def ti84 : TI := ⟨.func #[22] #[3] false, 1, 8, .nilFunc⟩
def ti86 : TI := ⟨.func #[22, 3] #[22, 3, 4] false, 1, 8, .nilFunc⟩
def ti87 : TI := ⟨.slice 3, 1, 24, .slice none 0 0⟩
def ti88 : TI := ⟨.struct #[⟨ "Use", 87, 0, false, "", "", 0⟩, ⟨ "Free", 87, 1, false, "", "", 24⟩], 2, 48, .agg #[.slice none 0 0, .slice none 0 0]⟩
def ti89 : TI := ⟨.struct #[⟨ "Use", 87, 0, false, "", "", 0⟩, ⟨ "Free", 87, 1, false, "", "", 24⟩], 2, 48, .agg #[.slice none 0 0, .slice none 0 0]⟩
def ti91 : TI := ⟨.func #[22] #[89, 4] false, 1, 8, .nilFunc⟩
def ti92 : TI := ⟨.func #[102] #[] false, 1, 8, .nilFunc⟩
def ti93 : TI := ⟨.func #[102] #[] false, 1, 8, .nilFunc⟩
def ti94 : TI := ⟨.func #[22] #[93] false, 1, 8, .nilFunc⟩
def ti95 : TI := ⟨.func #[22, 3] #[9] false, 1, 8, .nilFunc⟩
def ti96 : TI := ⟨.slice 5, 1, 24, .slice none 0 0⟩
def ti97 : TI := ⟨.func #[9, 9] #[4] false, 1, 8, .nilFunc⟩
def ti98 : TI := ⟨.func #[] #[22] false, 1, 8, .nilFunc⟩
def ti99 : TI := ⟨.func #[3] #[3] false, 1, 8, .nilFunc⟩
def ti100 : TI := ⟨.func #[22, 3, 3] #[22] false, 1, 8, .nilFunc⟩
def ti101 : TI := ⟨.func #[87, 3] #[4] false, 1, 8, .nilFunc⟩
def ti102 : TI := ⟨.func #[3, 3] #[4] false, 1, 8, .nilFunc⟩
def ti103 : TI := ⟨.int .u64, 1, 8, .int .u64 0⟩
def ti104 : TI := ⟨.array 15 3, 15, 120, .agg #[.int .i64 0, .int .i64 0, .int .i64 0, .int .i64 0, .int .i64 0, .int .i64 0, .int .i64 0, .int .i64 0, .int .i64 0, .int .i64 0, .int .i64 0, .int .i64 0, .int .i64 0, .int .i64 0, .int .i64 0]⟩
def ti105 : TI := ⟨.struct #[⟨ "_interface", 17, 0, false, "", "runtime", 0⟩, ⟨ "concrete", 17, 1, false, "", "runtime", 8⟩, ⟨ "asserted", 17, 2, false, "", "runtime", 16⟩, ⟨ "missingMethod", 9, 3, false, "", "runtime", 24⟩], 4, 40, .agg #[.pointer none, .pointer none, .pointer none, .string ⟨#[]⟩]⟩
def ti106 : TI := ⟨.struct #[⟨ "_interface", 17, 0, false, "", "runtime", 0⟩, ⟨ "concrete", 17, 1, false, "", "runtime", 8⟩, ⟨ "asserted", 17, 2, false, "", "runtime", 16⟩, ⟨ "missingMethod", 9, 3, false, "", "runtime", 24⟩], 4, 40, .agg #[.pointer none, .pointer none, .pointer none, .string ⟨#[]⟩]⟩
def ti107 : TI := ⟨.array 0 16, 0, 0, .agg #[]⟩
def ti108 : TI := ⟨.struct #[⟨ "_", 107, 0, false, "", "runtime", 0⟩], 0, 0, .agg #[]⟩
def ti109 : TI := ⟨.struct #[⟨ "_", 107, 0, false, "", "runtime", 0⟩], 0, 0, .agg #[]⟩
def ti110 : TI := ⟨.int .u32, 1, 4, .int .u32 0⟩
def ti111 : TI := ⟨.int .u8, 1, 1, .int .u8 0⟩
def ti112 : TI := ⟨.int .u8, 1, 1, .int .u8 0⟩
def ti113 : TI := ⟨.func #[119, 119] #[4] false, 1, 8, .nilFunc⟩
def ti114 : TI := ⟨.pointer 5, 1, 8, .pointer none⟩
def ti115 : TI := ⟨.int .i32, 1, 4, .int .i32 0⟩
def ti116 : TI := ⟨.int .i32, 1, 4, .int .i32 0⟩
def ti117 : TI := ⟨.struct #[⟨ "Size_", 12, 0, false, "", "", 0⟩, ⟨ "PtrBytes", 12, 1, false, "", "", 8⟩, ⟨ "Hash", 110, 2, false, "", "", 16⟩, ⟨ "TFlag", 111, 3, false, "", "", 20⟩, ⟨ "Align_", 5, 4, false, "", "", 21⟩, ⟨ "FieldAlign_", 5, 5, false, "", "", 22⟩, ⟨ "Kind_", 112, 6, false, "", "", 23⟩, ⟨ "Equal", 113, 7, false, "", "", 24⟩, ⟨ "GCData", 114, 8, false, "", "", 32⟩, ⟨ "Str", 115, 9, false, "", "", 40⟩, ⟨ "PtrToThis", 116, 10, false, "", "", 44⟩], 11, 48, .agg #[.int .u64 0, .int .u64 0, .int .u32 0, .int .u8 0, .int .u8 0, .int .u8 0, .int .u8 0, .nilFunc, .pointer none, .int .i32 0, .int .i32 0]⟩
def ti118 : TI := ⟨.struct #[⟨ "Size_", 12, 0, false, "", "", 0⟩, ⟨ "PtrBytes", 12, 1, false, "", "", 8⟩, ⟨ "Hash", 110, 2, false, "", "", 16⟩, ⟨ "TFlag", 111, 3, false, "", "", 20⟩, ⟨ "Align_", 5, 4, false, "", "", 21⟩, ⟨ "FieldAlign_", 5, 5, false, "", "", 22⟩, ⟨ "Kind_", 112, 6, false, "", "", 23⟩, ⟨ "Equal", 113, 7, false, "", "", 24⟩, ⟨ "GCData", 114, 8, false, "", "", 32⟩, ⟨ "Str", 115, 9, false, "", "", 40⟩, ⟨ "PtrToThis", 116, 10, false, "", "", 44⟩], 11, 48, .agg #[.int .u64 0, .int .u64 0, .int .u32 0, .int .u8 0, .int .u8 0, .int .u8 0, .int .u8 0, .nilFunc, .pointer none, .int .i32 0, .int .i32 0]⟩

def D : Tab := [(1, ti1), (2, ti2), (3, ti3), (4, ti4), (5, ti5), (6, ti6), (7, ti7), (8, ti8), (9, ti9), (10, ti10), (11, ti11), (12, ti12), (13, ti13), (14, ti14), (15, ti15), (16, ti16), (17, ti17), (18, ti18), (19, ti19), (21, ti21), (22, ti22), (23, ti23), (24, ti24), (25, ti25), (26, ti26), (27, ti27), (28, ti28), (29, ti29), (30, ti30), (31, ti31), (32, ti32), (33, ti33), (34, ti34), (36, ti36), (38, ti38), (39, ti39), (40, ti40), (41, ti41), (42, ti42), (43, ti43), (44, ti44), (45, ti45), (46, ti46), (47, ti47), (48, ti48), (49, ti49), (51, ti51), (52, ti52), (53, ti53), (54, ti54), (55, ti55), (56, ti56), (58, ti58), (59, ti59), (60, ti60), (61, ti61), (62, ti62), (63, ti63), (64, ti64), (65, ti65), (66, ti66), (67, ti67), (68, ti68), (69, ti69), (70, ti70), (71, ti71), (73, ti73), (74, ti74), (76, ti76), (78, ti78), (79, ti79), (80, ti80), (81, ti81), (82, ti82), (83, ti83), (84, ti84), (86, ti86), (87, ti87), (88, ti88), (89, ti89), (91, ti91), (92, ti92), (93, ti93), (94, ti94), (95, ti95), (96, ti96), (97, ti97), (98, ti98), (99, ti99), (100, ti100), (101, ti101), (102, ti102), (103, ti103), (104, ti104), (105, ti105), (106, ti106), (107, ti107), (108, ti108), (109, ti109), (110, ti110), (111, ti111), (112, ti112), (113, ti113), (114, ti114), (115, ti115), (116, ti116), (117, ti117), (118, ti118)]

theorem tok1 : TIok Try.prog 1 ti1 := .of (by kernel_rfl) (by kernel_rfl)
theorem tok2 : TIok Try.prog 2 ti2 := .of (by kernel_rfl) (by kernel_rfl)
theorem tok3 : TIok Try.prog 3 ti3 := .of (by kernel_rfl) (by kernel_rfl)
theorem tok4 : TIok Try.prog 4 ti4 := .of (by kernel_rfl) (by kernel_rfl)
theorem tok5 : TIok Try.prog 5 ti5 := .of (by kernel_rfl) (by kernel_rfl)
theorem tok6 : TIok Try.prog 6 ti6 := .of (by kernel_rfl) (by kernel_rfl)
theorem tok7 : TIok Try.prog 7 ti7 := .of (by kernel_rfl) (by kernel_rfl)
theorem tok8 : TIok Try.prog 8 ti8 := .of (by kernel_rfl) (by kernel_rfl)
theorem tok9 : TIok Try.prog 9 ti9 := .of (by kernel_rfl) (by kernel_rfl)
theorem tok10 : TIok Try.prog 10 ti10 := .of (by kernel_rfl) (by kernel_rfl)
theorem tok11 : TIok Try.prog 11 ti11 := .of (by kernel_rfl) (by kernel_rfl)
theorem tok12 : TIok Try.prog 12 ti12 := .of (by kernel_rfl) (by kernel_rfl)
theorem tok13 : TIok Try.prog 13 ti13 := .of (by kernel_rfl) (by kernel_rfl)
theorem tok14 : TIok Try.prog 14 ti14 := .of (by kernel_rfl) (by kernel_rfl)
theorem tok15 : TIok Try.prog 15 ti15 := .of (by kernel_rfl) (by kernel_rfl)
theorem tok16 : TIok Try.prog 16 ti16 := .of (by kernel_rfl) (by kernel_rfl)
theorem tok17 : TIok Try.prog 17 ti17 := .of (by kernel_rfl) (by kernel_rfl)
theorem tok18 : TIok Try.prog 18 ti18 := .of (by kernel_rfl) (by kernel_rfl)
theorem tok19 : TIok Try.prog 19 ti19 := .of (by kernel_rfl) (by kernel_rfl)
theorem tok21 : TIok Try.prog 21 ti21 := .of (by kernel_rfl) (by kernel_rfl)
theorem tok22 : TIok Try.prog 22 ti22 := .of (by kernel_rfl) (by kernel_rfl)
theorem tok23 : TIok Try.prog 23 ti23 := .of (by kernel_rfl) (by kernel_rfl)
theorem tok24 : TIok Try.prog 24 ti24 := .of (by kernel_rfl) (by kernel_rfl)
theorem tok25 : TIok Try.prog 25 ti25 := .of (by kernel_rfl) (by kernel_rfl)
theorem tok26 : TIok Try.prog 26 ti26 := .of (by kernel_rfl) (by kernel_rfl)
theorem tok27 : TIok Try.prog 27 ti27 := .of (by kernel_rfl) (by kernel_rfl)
theorem tok28 : TIok Try.prog 28 ti28 := .of (by kernel_rfl) (by kernel_rfl)
theorem tok29 : TIok Try.prog 29 ti29 := .of (by kernel_rfl) (by kernel_rfl)
theorem tok30 : TIok Try.prog 30 ti30 := .of (by kernel_rfl) (by kernel_rfl)
theorem tok31 : TIok Try.prog 31 ti31 := .of (by kernel_rfl) (by kernel_rfl)
theorem tok32 : TIok Try.prog 32 ti32 := .of (by kernel_rfl) (by kernel_rfl)
theorem tok33 : TIok Try.prog 33 ti33 := .of (by kernel_rfl) (by kernel_rfl)
theorem tok34 : TIok Try.prog 34 ti34 := .of (by kernel_rfl) (by kernel_rfl)
theorem tok36 : TIok Try.prog 36 ti36 := .of (by kernel_rfl) (by kernel_rfl)
theorem tok38 : TIok Try.prog 38 ti38 := .of (by kernel_rfl) (by kernel_rfl)
theorem tok39 : TIok Try.prog 39 ti39 := .of (by kernel_rfl) (by kernel_rfl)
theorem tok40 : TIok Try.prog 40 ti40 := .of (by kernel_rfl) (by kernel_rfl)
theorem tok41 : TIok Try.prog 41 ti41 := .of (by kernel_rfl) (by kernel_rfl)
theorem tok42 : TIok Try.prog 42 ti42 := .of (by kernel_rfl) (by kernel_rfl)
theorem tok43 : TIok Try.prog 43 ti43 := .of (by kernel_rfl) (by kernel_rfl)
theorem tok44 : TIok Try.prog 44 ti44 := .of (by kernel_rfl) (by kernel_rfl)
theorem tok45 : TIok Try.prog 45 ti45 := .of (by kernel_rfl) (by kernel_rfl)
theorem tok46 : TIok Try.prog 46 ti46 := .of (by kernel_rfl) (by kernel_rfl)
theorem tok47 : TIok Try.prog 47 ti47 := .of (by kernel_rfl) (by kernel_rfl)
theorem tok48 : TIok Try.prog 48 ti48 := .of (by kernel_rfl) (by kernel_rfl)
theorem tok49 : TIok Try.prog 49 ti49 := .of (by kernel_rfl) (by kernel_rfl)
theorem tok51 : TIok Try.prog 51 ti51 := .of (by kernel_rfl) (by kernel_rfl)
theorem tok52 : TIok Try.prog 52 ti52 := .of (by kernel_rfl) (by kernel_rfl)
theorem tok53 : TIok Try.prog 53 ti53 := .of (by kernel_rfl) (by kernel_rfl)
theorem tok54 : TIok Try.prog 54 ti54 := .of (by kernel_rfl) (by kernel_rfl)
theorem tok55 : TIok Try.prog 55 ti55 := .of (by kernel_rfl) (by kernel_rfl)
theorem tok56 : TIok Try.prog 56 ti56 := .of (by kernel_rfl) (by kernel_rfl)
theorem tok58 : TIok Try.prog 58 ti58 := .of (by kernel_rfl) (by kernel_rfl)
theorem tok59 : TIok Try.prog 59 ti59 := .of (by kernel_rfl) (by kernel_rfl)
theorem tok60 : TIok Try.prog 60 ti60 := .of (by kernel_rfl) (by kernel_rfl)
theorem tok61 : TIok Try.prog 61 ti61 := .of (by kernel_rfl) (by kernel_rfl)
theorem tok62 : TIok Try.prog 62 ti62 := .of (by kernel_rfl) (by kernel_rfl)
theorem tok63 : TIok Try.prog 63 ti63 := .of (by kernel_rfl) (by kernel_rfl)
theorem tok64 : TIok Try.prog 64 ti64 := .of (by kernel_rfl) (by kernel_rfl)
theorem tok65 : TIok Try.prog 65 ti65 := .of (by kernel_rfl) (by kernel_rfl)
theorem tok66 : TIok Try.prog 66 ti66 := .of (by kernel_rfl) (by kernel_rfl)
theorem tok67 : TIok Try.prog 67 ti67 := .of (by kernel_rfl) (by kernel_rfl)
theorem tok68 : TIok Try.prog 68 ti68 := .of (by kernel_rfl) (by kernel_rfl)
theorem tok69 : TIok Try.prog 69 ti69 := .of (by kernel_rfl) (by kernel_rfl)
theorem tok70 : TIok Try.prog 70 ti70 := .of (by kernel_rfl) (by kernel_rfl)
theorem tok71 : TIok Try.prog 71 ti71 := .of (by kernel_rfl) (by kernel_rfl)
theorem tok73 : TIok Try.prog 73 ti73 := .of (by kernel_rfl) (by kernel_rfl)
theorem tok74 : TIok Try.prog 74 ti74 := .of (by kernel_rfl) (by kernel_rfl)
theorem tok76 : TIok Try.prog 76 ti76 := .of (by kernel_rfl) (by kernel_rfl)
theorem tok78 : TIok Try.prog 78 ti78 := .of (by kernel_rfl) (by kernel_rfl)
theorem tok79 : TIok Try.prog 79 ti79 := .of (by kernel_rfl) (by kernel_rfl)
theorem tok80 : TIok Try.prog 80 ti80 := .of (by kernel_rfl) (by kernel_rfl)
theorem tok81 : TIok Try.prog 81 ti81 := .of (by kernel_rfl) (by kernel_rfl)
theorem tok82 : TIok Try.prog 82 ti82 := .of (by kernel_rfl) (by kernel_rfl)
theorem tok83 : TIok Try.prog 83 ti83 := .of (by kernel_rfl) (by kernel_rfl)
theorem tok84 : TIok Try.prog 84 ti84 := .of (by kernel_rfl) (by kernel_rfl)
theorem tok86 : TIok Try.prog 86 ti86 := .of (by kernel_rfl) (by kernel_rfl)
theorem tok87 : TIok Try.prog 87 ti87 := .of (by kernel_rfl) (by kernel_rfl)
theorem tok88 : TIok Try.prog 88 ti88 := .of (by kernel_rfl) (by kernel_rfl)
theorem tok89 : TIok Try.prog 89 ti89 := .of (by kernel_rfl) (by kernel_rfl)
theorem tok91 : TIok Try.prog 91 ti91 := .of (by kernel_rfl) (by kernel_rfl)
theorem tok92 : TIok Try.prog 92 ti92 := .of (by kernel_rfl) (by kernel_rfl)
theorem tok93 : TIok Try.prog 93 ti93 := .of (by kernel_rfl) (by kernel_rfl)
theorem tok94 : TIok Try.prog 94 ti94 := .of (by kernel_rfl) (by kernel_rfl)
theorem tok95 : TIok Try.prog 95 ti95 := .of (by kernel_rfl) (by kernel_rfl)
theorem tok96 : TIok Try.prog 96 ti96 := .of (by kernel_rfl) (by kernel_rfl)
theorem tok97 : TIok Try.prog 97 ti97 := .of (by kernel_rfl) (by kernel_rfl)
theorem tok98 : TIok Try.prog 98 ti98 := .of (by kernel_rfl) (by kernel_rfl)
theorem tok99 : TIok Try.prog 99 ti99 := .of (by kernel_rfl) (by kernel_rfl)
theorem tok100 : TIok Try.prog 100 ti100 := .of (by kernel_rfl) (by kernel_rfl)
theorem tok101 : TIok Try.prog 101 ti101 := .of (by kernel_rfl) (by kernel_rfl)
theorem tok102 : TIok Try.prog 102 ti102 := .of (by kernel_rfl) (by kernel_rfl)
theorem tok103 : TIok Try.prog 103 ti103 := .of (by kernel_rfl) (by kernel_rfl)
theorem tok104 : TIok Try.prog 104 ti104 := .of (by kernel_rfl) (by kernel_rfl)
theorem tok105 : TIok Try.prog 105 ti105 := .of (by kernel_rfl) (by kernel_rfl)
theorem tok106 : TIok Try.prog 106 ti106 := .of (by kernel_rfl) (by kernel_rfl)
theorem tok107 : TIok Try.prog 107 ti107 := .of (by kernel_rfl) (by kernel_rfl)
theorem tok108 : TIok Try.prog 108 ti108 := .of (by kernel_rfl) (by kernel_rfl)
theorem tok109 : TIok Try.prog 109 ti109 := .of (by kernel_rfl) (by kernel_rfl)
theorem tok110 : TIok Try.prog 110 ti110 := .of (by kernel_rfl) (by kernel_rfl)
theorem tok111 : TIok Try.prog 111 ti111 := .of (by kernel_rfl) (by kernel_rfl)
theorem tok112 : TIok Try.prog 112 ti112 := .of (by kernel_rfl) (by kernel_rfl)
theorem tok113 : TIok Try.prog 113 ti113 := .of (by kernel_rfl) (by kernel_rfl)
theorem tok114 : TIok Try.prog 114 ti114 := .of (by kernel_rfl) (by kernel_rfl)
theorem tok115 : TIok Try.prog 115 ti115 := .of (by kernel_rfl) (by kernel_rfl)
theorem tok116 : TIok Try.prog 116 ti116 := .of (by kernel_rfl) (by kernel_rfl)
theorem tok117 : TIok Try.prog 117 ti117 := .of (by kernel_rfl) (by kernel_rfl)
theorem tok118 : TIok Try.prog 118 ti118 := .of (by kernel_rfl) (by kernel_rfl)

theorem hD0 : TabOK Try.prog D := by
  intro x hx
  simp only [D, List.mem_cons, List.not_mem_nil, or_false] at hx
  rcases hx with rfl | rfl | rfl | rfl | rfl | rfl | rfl | rfl | rfl | rfl | rfl | rfl | rfl | rfl | rfl | rfl | rfl | rfl | rfl | rfl | rfl | rfl | rfl | rfl | rfl | rfl | rfl | rfl | rfl | rfl | rfl | rfl | rfl | rfl | rfl | rfl | rfl | rfl | rfl | rfl | rfl | rfl | rfl | rfl | rfl | rfl | rfl | rfl | rfl | rfl | rfl | rfl | rfl | rfl | rfl | rfl | rfl | rfl | rfl | rfl | rfl | rfl | rfl | rfl | rfl | rfl | rfl | rfl | rfl | rfl | rfl | rfl | rfl | rfl | rfl | rfl | rfl | rfl | rfl | rfl | rfl | rfl | rfl | rfl | rfl | rfl | rfl | rfl | rfl | rfl | rfl | rfl | rfl | rfl | rfl | rfl | rfl | rfl | rfl | rfl | rfl | rfl | rfl | rfl | rfl | rfl | rfl | rfl
  · exact tok1
  · exact tok2
  · exact tok3
  · exact tok4
  · exact tok5
  · exact tok6
  · exact tok7
  · exact tok8
  · exact tok9
  · exact tok10
  · exact tok11
  · exact tok12
  · exact tok13
  · exact tok14
  · exact tok15
  · exact tok16
  · exact tok17
  · exact tok18
  · exact tok19
  · exact tok21
  · exact tok22
  · exact tok23
  · exact tok24
  · exact tok25
  · exact tok26
  · exact tok27
  · exact tok28
  · exact tok29
  · exact tok30
  · exact tok31
  · exact tok32
  · exact tok33
  · exact tok34
  · exact tok36
  · exact tok38
  · exact tok39
  · exact tok40
  · exact tok41
  · exact tok42
  · exact tok43
  · exact tok44
  · exact tok45
  · exact tok46
  · exact tok47
  · exact tok48
  · exact tok49
  · exact tok51
  · exact tok52
  · exact tok53
  · exact tok54
  · exact tok55
  · exact tok56
  · exact tok58
  · exact tok59
  · exact tok60
  · exact tok61
  · exact tok62
  · exact tok63
  · exact tok64
  · exact tok65
  · exact tok66
  · exact tok67
  · exact tok68
  · exact tok69
  · exact tok70
  · exact tok71
  · exact tok73
  · exact tok74
  · exact tok76
  · exact tok78
  · exact tok79
  · exact tok80
  · exact tok81
  · exact tok82
  · exact tok83
  · exact tok84
  · exact tok86
  · exact tok87
  · exact tok88
  · exact tok89
  · exact tok91
  · exact tok92
  · exact tok93
  · exact tok94
  · exact tok95
  · exact tok96
  · exact tok97
  · exact tok98
  · exact tok99
  · exact tok100
  · exact tok101
  · exact tok102
  · exact tok103
  · exact tok104
  · exact tok105
  · exact tok106
  · exact tok107
  · exact tok108
  · exact tok109
  · exact tok110
  · exact tok111
  · exact tok112
  · exact tok113
  · exact tok114
  · exact tok115
  · exact tok116
  · exact tok117
  · exact tok118

end Go.Proofs.Ytgkjhlmfgaaddaa.LF
