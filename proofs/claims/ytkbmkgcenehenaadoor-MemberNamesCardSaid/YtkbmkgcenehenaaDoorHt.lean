import Derived.Test.YtkbmkgcenehenaaDoorProg
import Derived.KernelRfl
import Derived.Test.YtkbmkgcenehenaaDoorHm3
set_option linter.unusedSimpArgs false
/- The types of the program, as the machine without memory has them. -/
namespace Go.Proofs.YtkbmkgcenehenaaDoor
open Go Hm
def ti1 : TI := ⟨.func #[] #[] false, 1, 8, [.nilfn], false⟩
def ti2 : TI := ⟨.int .i64, 1, 8, [.int .i64 0], false⟩
def ti3 : TI := ⟨.int .i64, 1, 8, [.int .i64 0], false⟩
def ti4 : TI := ⟨.bool, 1, 1, [.bool false], false⟩
def ti5 : TI := ⟨.int .u8, 1, 1, [.int .u8 0], false⟩
def ti6 : TI := ⟨.int .u8, 1, 1, [.int .u8 0], false⟩
def ti7 : TI := ⟨.struct #[{ name := "x", type := 2, offset := 0, embedded := false, tag := "", pkgPath := "runtime", byteOffset := 0 }, { name := "y", type := 3, offset := 1, embedded := false, tag := "", pkgPath := "runtime", byteOffset := 8 }, { name := "signed", type := 4, offset := 2, embedded := false, tag := "", pkgPath := "runtime", byteOffset := 16 }, { name := "code", type := 6, offset := 3, embedded := false, tag := "", pkgPath := "runtime", byteOffset := 17 }], 4, 24, [.int .i64 0, .int .i64 0, .bool false, .int .u8 0], false⟩
def ti8 : TI := ⟨.struct #[{ name := "x", type := 2, offset := 0, embedded := false, tag := "", pkgPath := "runtime", byteOffset := 0 }, { name := "y", type := 3, offset := 1, embedded := false, tag := "", pkgPath := "runtime", byteOffset := 8 }, { name := "signed", type := 4, offset := 2, embedded := false, tag := "", pkgPath := "runtime", byteOffset := 16 }, { name := "code", type := 6, offset := 3, embedded := false, tag := "", pkgPath := "runtime", byteOffset := 17 }], 4, 24, [.int .i64 0, .int .i64 0, .bool false, .int .u8 0], false⟩
def ti9 : TI := ⟨.string, 1, 16, [.str .empty], false⟩
def ti10 : TI := ⟨.string, 1, 16, [.str .empty], false⟩
def ti11 : TI := ⟨.string, 1, 16, [.str .empty], false⟩
def ti12 : TI := ⟨.int .u64, 1, 8, [.int .u64 0], false⟩
def ti13 : TI := ⟨.struct #[{ name := "msg", type := 9, offset := 0, embedded := false, tag := "", pkgPath := "runtime", byteOffset := 0 }, { name := "addr", type := 12, offset := 1, embedded := false, tag := "", pkgPath := "runtime", byteOffset := 16 }], 2, 24, [.str .empty, .int .u64 0], false⟩
def ti14 : TI := ⟨.struct #[{ name := "msg", type := 9, offset := 0, embedded := false, tag := "", pkgPath := "runtime", byteOffset := 0 }, { name := "addr", type := 12, offset := 1, embedded := false, tag := "", pkgPath := "runtime", byteOffset := 16 }], 2, 24, [.str .empty, .int .u64 0], false⟩
def ti15 : TI := ⟨.pointer 135, 1, 8, [.nilp], false⟩
def ti16 : TI := ⟨.pointer 138, 1, 8, [.nilp], false⟩
def ti17 : TI := ⟨.pointer 147, 1, 8, [.nilp], false⟩
def ti18 : TI := ⟨.struct #[{ name := "typ", type := 17, offset := 0, embedded := false, tag := "", pkgPath := "internal/runtime/maps", byteOffset := 0 }], 1, 8, [.nilp], false⟩
def ti19 : TI := ⟨.struct #[{ name := "typ", type := 17, offset := 0, embedded := false, tag := "", pkgPath := "internal/runtime/maps", byteOffset := 0 }], 1, 8, [.nilp], false⟩
def ti20 : TI := ⟨.interface #[], 1, 16, [.nilif], false⟩
def ti21 : TI := ⟨.int .i32, 1, 4, [.int .i32 0], false⟩
def ti22 : TI := ⟨.slice 37, 1, 24, [.nil], false⟩
def ti23 : TI := ⟨.func #[22] #[4] false, 1, 8, [.nilfn], false⟩
def ti24 : TI := ⟨.func #[22] #[22] false, 1, 8, [.nilfn], false⟩
def ti25 : TI := ⟨.slice 54, 1, 24, [.nil], false⟩
def ti26 : TI := ⟨.int .i64, 1, 8, [.int .i64 0], false⟩
def ti28 : TI := ⟨.func #[22] #[25, 26] false, 1, 8, [.nilfn], false⟩
def ti30 : TI := ⟨.func #[22] #[25, 3] false, 1, 8, [.nilfn], false⟩
def ti31 : TI := ⟨.func #[22] #[26] false, 1, 8, [.nilfn], false⟩
def ti32 : TI := ⟨.func #[22] #[3] false, 1, 8, [.nilfn], false⟩
def ti33 : TI := ⟨.func #[25, 25] #[4] false, 1, 8, [.nilfn], false⟩
def ti34 : TI := ⟨.func #[22, 22] #[4] false, 1, 8, [.nilfn], false⟩
def ti35 : TI := ⟨.slice 5, 1, 24, [.nil], false⟩
def ti36 : TI := ⟨.struct #[{ name := "Name", type := 9, offset := 0, embedded := false, tag := "", pkgPath := "", byteOffset := 0 }, { name := "Data", type := 35, offset := 1, embedded := false, tag := "", pkgPath := "", byteOffset := 16 }], 2, 40, [.str .empty, .nil], false⟩
def ti37 : TI := ⟨.struct #[{ name := "Name", type := 9, offset := 0, embedded := false, tag := "", pkgPath := "", byteOffset := 0 }, { name := "Data", type := 35, offset := 1, embedded := false, tag := "", pkgPath := "", byteOffset := 16 }], 2, 40, [.str .empty, .nil], false⟩
def ti38 : TI := ⟨.func #[25] #[4] false, 1, 8, [.nilfn], false⟩
def ti40 : TI := ⟨.func #[25] #[35, 26] false, 1, 8, [.nilfn], false⟩
def ti42 : TI := ⟨.func #[25] #[35, 3] false, 1, 8, [.nilfn], false⟩
def ti44 : TI := ⟨.func #[25, 9] #[3, 26] false, 1, 8, [.nilfn], false⟩
def ti46 : TI := ⟨.func #[25, 9] #[3, 3] false, 1, 8, [.nilfn], false⟩
def ti47 : TI := ⟨.func #[25] #[26] false, 1, 8, [.nilfn], false⟩
def ti48 : TI := ⟨.func #[25] #[3] false, 1, 8, [.nilfn], false⟩
def ti50 : TI := ⟨.func #[54, 37] #[4, 26] false, 1, 8, [.nilfn], false⟩
def ti51 : TI := ⟨.array 20 5, 20, 20, [.int .u8 0, .int .u8 0, .int .u8 0, .int .u8 0, .int .u8 0, .int .u8 0, .int .u8 0, .int .u8 0, .int .u8 0, .int .u8 0, .int .u8 0, .int .u8 0, .int .u8 0, .int .u8 0, .int .u8 0, .int .u8 0, .int .u8 0, .int .u8 0, .int .u8 0, .int .u8 0], true⟩
def ti52 : TI := ⟨.array 20 5, 20, 20, [.int .u8 0, .int .u8 0, .int .u8 0, .int .u8 0, .int .u8 0, .int .u8 0, .int .u8 0, .int .u8 0, .int .u8 0, .int .u8 0, .int .u8 0, .int .u8 0, .int .u8 0, .int .u8 0, .int .u8 0, .int .u8 0, .int .u8 0, .int .u8 0, .int .u8 0, .int .u8 0], true⟩
def ti53 : TI := ⟨.struct #[{ name := "Name", type := 9, offset := 0, embedded := false, tag := "", pkgPath := "", byteOffset := 0 }, { name := "Size", type := 3, offset := 1, embedded := false, tag := "", pkgPath := "", byteOffset := 16 }, { name := "Sum", type := 52, offset := 2, embedded := false, tag := "", pkgPath := "", byteOffset := 24 }], 22, 48, [.str .empty, .int .i64 0, .int .u8 0, .int .u8 0, .int .u8 0, .int .u8 0, .int .u8 0, .int .u8 0, .int .u8 0, .int .u8 0, .int .u8 0, .int .u8 0, .int .u8 0, .int .u8 0, .int .u8 0, .int .u8 0, .int .u8 0, .int .u8 0, .int .u8 0, .int .u8 0, .int .u8 0, .int .u8 0], true⟩
def ti54 : TI := ⟨.struct #[{ name := "Name", type := 9, offset := 0, embedded := false, tag := "", pkgPath := "", byteOffset := 0 }, { name := "Size", type := 3, offset := 1, embedded := false, tag := "", pkgPath := "", byteOffset := 16 }, { name := "Sum", type := 52, offset := 2, embedded := false, tag := "", pkgPath := "", byteOffset := 24 }], 22, 48, [.str .empty, .int .i64 0, .int .u8 0, .int .u8 0, .int .u8 0, .int .u8 0, .int .u8 0, .int .u8 0, .int .u8 0, .int .u8 0, .int .u8 0, .int .u8 0, .int .u8 0, .int .u8 0, .int .u8 0, .int .u8 0, .int .u8 0, .int .u8 0, .int .u8 0, .int .u8 0, .int .u8 0, .int .u8 0], true⟩
def ti56 : TI := ⟨.func #[54, 37] #[4, 3] false, 1, 8, [.nilfn], false⟩
def ti57 : TI := ⟨.func #[25, 37, 9] #[4] false, 1, 8, [.nilfn], false⟩
def ti58 : TI := ⟨.func #[] #[4] false, 1, 8, [.nilfn], false⟩
def ti60 : TI := ⟨.func #[35] #[52, 26] false, 1, 8, [.nilfn], false⟩
def ti62 : TI := ⟨.func #[35, 3] #[25, 3, 26] false, 1, 8, [.nilfn], false⟩
def ti64 : TI := ⟨.func #[35, 3] #[25, 3, 3] false, 1, 8, [.nilfn], false⟩
def ti65 : TI := ⟨.func #[35, 3] #[4] false, 1, 8, [.nilfn], false⟩
def ti66 : TI := ⟨.func #[25, 35, 3] #[4] false, 1, 8, [.nilfn], false⟩
def ti67 : TI := ⟨.slice 9, 1, 24, [.nil], false⟩
def ti68 : TI := ⟨.func #[] #[52] false, 1, 8, [.nilfn], false⟩
def ti69 : TI := ⟨.slice 25, 1, 24, [.nil], false⟩
def ti70 : TI := ⟨.func #[35] #[52] false, 1, 8, [.nilfn], false⟩
def ti71 : TI := ⟨.func #[37] #[54] false, 1, 8, [.nilfn], false⟩
def ti72 : TI := ⟨.func #[9] #[4] false, 1, 8, [.nilfn], false⟩
def ti73 : TI := ⟨.func #[67] #[4] false, 1, 8, [.nilfn], false⟩
def ti74 : TI := ⟨.int .u64, 1, 8, [.int .u64 0], false⟩
def ti75 : TI := ⟨.func #[25] #[35] false, 1, 8, [.nilfn], false⟩
def ti76 : TI := ⟨.int .u32, 1, 4, [.int .u32 0], false⟩
def ti77 : TI := ⟨.array 5 76, 5, 20, [.int .u32 0, .int .u32 0, .int .u32 0, .int .u32 0, .int .u32 0], true⟩
def ti78 : TI := ⟨.func #[94] #[35] true, 1, 8, [.nilfn], false⟩
def ti79 : TI := ⟨.func #[3] #[35] false, 1, 8, [.nilfn], false⟩
def ti80 : TI := ⟨.func #[77, 35] #[77] false, 1, 8, [.nilfn], false⟩
def ti81 : TI := ⟨.pointer 85, 1, 8, [.nilp], false⟩
def ti82 : TI := ⟨.struct #[{ name := "b", type := 35, offset := 0, embedded := false, tag := "", pkgPath := "bitloft/member", byteOffset := 0 }, { name := "at", type := 3, offset := 1, embedded := false, tag := "", pkgPath := "bitloft/member", byteOffset := 24 }], 2, 32, [.nil, .int .i64 0], false⟩
def ti83 : TI := ⟨.struct #[{ name := "b", type := 35, offset := 0, embedded := false, tag := "", pkgPath := "bitloft/member", byteOffset := 0 }, { name := "at", type := 3, offset := 1, embedded := false, tag := "", pkgPath := "bitloft/member", byteOffset := 24 }], 2, 32, [.nil, .int .i64 0], false⟩
def ti84 : TI := ⟨.struct #[{ name := "source", type := 83, offset := 0, embedded := true, tag := "", pkgPath := "bitloft/member", byteOffset := 0 }], 2, 32, [.nil, .int .i64 0], false⟩
def ti85 : TI := ⟨.struct #[{ name := "source", type := 83, offset := 0, embedded := true, tag := "", pkgPath := "bitloft/member", byteOffset := 0 }], 2, 32, [.nil, .int .i64 0], false⟩
def ti86 : TI := ⟨.interface #[("Error", 133)], 1, 16, [.nilif], false⟩
def ti87 : TI := ⟨.interface #[("Error", 133)], 1, 16, [.nilif], false⟩
def ti89 : TI := ⟨.func #[] #[54, 87] false, 1, 8, [.nilfn], false⟩
def ti90 : TI := ⟨.func #[87, 20] #[4] false, 1, 8, [.nilfn], false⟩
def ti91 : TI := ⟨.pointer 26, 1, 8, [.nilp], false⟩
def ti92 : TI := ⟨.map 9 4, 1, 8, [.nilmap], false⟩
def ti93 : TI := ⟨.func #[] #[77] false, 1, 8, [.nilfn], false⟩
def ti94 : TI := ⟨.slice 35, 1, 24, [.nil], false⟩
def ti95 : TI := ⟨.func #[35, 3] #[35] false, 1, 8, [.nilfn], false⟩
def ti96 : TI := ⟨.int .u64, 1, 8, [.int .u64 0], false⟩
def ti97 : TI := ⟨.array 16 76, 16, 64, [.int .u32 0, .int .u32 0, .int .u32 0, .int .u32 0, .int .u32 0, .int .u32 0, .int .u32 0, .int .u32 0, .int .u32 0, .int .u32 0, .int .u32 0, .int .u32 0, .int .u32 0, .int .u32 0, .int .u32 0, .int .u32 0], true⟩
def ti98 : TI := ⟨.func #[76, 3] #[76] false, 1, 8, [.nilfn], false⟩
def ti99 : TI := ⟨.func #[3, 76, 76, 76] #[76] false, 1, 8, [.nilfn], false⟩
def ti100 : TI := ⟨.array 4 76, 4, 16, [.int .u32 0, .int .u32 0, .int .u32 0, .int .u32 0], true⟩
def ti102 : TI := ⟨.func #[3] #[35, 87] false, 1, 8, [.nilfn], false⟩
def ti104 : TI := ⟨.int .u64, 1, 8, [.int .u64 0], false⟩
def ti105 : TI := ⟨.struct #[{ name := "typ_", type := 17, offset := 0, embedded := false, tag := "", pkgPath := "internal/reflectlite", byteOffset := 0 }, { name := "ptr", type := 103, offset := 1, embedded := false, tag := "", pkgPath := "internal/reflectlite", byteOffset := 8 }, { name := "flag", type := 104, offset := 2, embedded := true, tag := "", pkgPath := "internal/reflectlite", byteOffset := 16 }], 3, 24, [.nilp, .nilp, .int .u64 0], false⟩
def ti106 : TI := ⟨.struct #[{ name := "typ_", type := 17, offset := 0, embedded := false, tag := "", pkgPath := "internal/reflectlite", byteOffset := 0 }, { name := "ptr", type := 103, offset := 1, embedded := false, tag := "", pkgPath := "internal/reflectlite", byteOffset := 8 }, { name := "flag", type := 104, offset := 2, embedded := true, tag := "", pkgPath := "internal/reflectlite", byteOffset := 16 }], 3, 24, [.nilp, .nilp, .int .u64 0], false⟩
def ti107 : TI := ⟨.func #[20] #[106] false, 1, 8, [.nilfn], false⟩
def ti108 : TI := ⟨.interface #[("AssignableTo", 113), ("Comparable", 58), ("Elem", 110), ("Implements", 113), ("Kind", 112), ("Name", 133), ("PkgPath", 133), ("Size", 148), ("String", 133), ("internal/reflectlite.common", 140), ("internal/reflectlite.uncommon", 149)], 1, 16, [.nilif], false⟩
def ti109 : TI := ⟨.interface #[("AssignableTo", 113), ("Comparable", 58), ("Elem", 110), ("Implements", 113), ("Kind", 112), ("Name", 133), ("PkgPath", 133), ("Size", 148), ("String", 133), ("internal/reflectlite.common", 140), ("internal/reflectlite.uncommon", 149)], 1, 16, [.nilif], false⟩
def ti110 : TI := ⟨.func #[] #[109] false, 1, 8, [.nilfn], false⟩
def ti111 : TI := ⟨.int .u8, 1, 1, [.int .u8 0], false⟩
def ti112 : TI := ⟨.func #[] #[111] false, 1, 8, [.nilfn], false⟩
def ti113 : TI := ⟨.func #[109] #[4] false, 1, 8, [.nilfn], false⟩
def ti114 : TI := ⟨.func #[87, 20, 106, 109] #[4] false, 1, 8, [.nilfn], false⟩
def ti115 : TI := ⟨.slice 76, 1, 24, [.nil], false⟩
def ti117 : TI := ⟨.func #[3, 76, 76, 76] #[76, 76] false, 1, 8, [.nilfn], false⟩
def ti118 : TI := ⟨.pointer 83, 1, 8, [.nilp], false⟩
def ti119 : TI := ⟨.struct #[{ name := "Type", type := 17, offset := 0, embedded := true, tag := "", pkgPath := "", byteOffset := 0 }], 1, 8, [.nilp], false⟩
def ti120 : TI := ⟨.struct #[{ name := "Type", type := 17, offset := 0, embedded := true, tag := "", pkgPath := "", byteOffset := 0 }], 1, 8, [.nilp], false⟩
def ti121 : TI := ⟨.pointer 151, 1, 8, [.nilp], false⟩
def ti122 : TI := ⟨.func #[20] #[109] false, 1, 8, [.nilfn], false⟩
def ti123 : TI := ⟨.func #[] #[106] false, 1, 8, [.nilfn], false⟩
def ti124 : TI := ⟨.func #[106] #[] false, 1, 8, [.nilfn], false⟩
def ti125 : TI := ⟨.interface #[("As", 127)], 1, 16, [.nilif], false⟩
def ti127 : TI := ⟨.func #[20] #[4] false, 1, 8, [.nilfn], false⟩
def ti128 : TI := ⟨.interface #[("Unwrap", 129)], 1, 16, [.nilif], false⟩
def ti129 : TI := ⟨.func #[] #[87] false, 1, 8, [.nilfn], false⟩
def ti130 : TI := ⟨.interface #[("Unwrap", 132)], 1, 16, [.nilif], false⟩
def ti131 : TI := ⟨.slice 87, 1, 24, [.nil], false⟩
def ti132 : TI := ⟨.func #[] #[131] false, 1, 8, [.nilfn], false⟩
def ti133 : TI := ⟨.func #[] #[9] false, 1, 8, [.nilfn], false⟩
def ti134 : TI := ⟨.struct #[{ name := "_interface", type := 17, offset := 0, embedded := false, tag := "", pkgPath := "runtime", byteOffset := 0 }, { name := "concrete", type := 17, offset := 1, embedded := false, tag := "", pkgPath := "runtime", byteOffset := 8 }, { name := "asserted", type := 17, offset := 2, embedded := false, tag := "", pkgPath := "runtime", byteOffset := 16 }, { name := "missingMethod", type := 9, offset := 3, embedded := false, tag := "", pkgPath := "runtime", byteOffset := 24 }], 4, 40, [.nilp, .nilp, .nilp, .str .empty], false⟩
def ti135 : TI := ⟨.struct #[{ name := "_interface", type := 17, offset := 0, embedded := false, tag := "", pkgPath := "runtime", byteOffset := 0 }, { name := "concrete", type := 17, offset := 1, embedded := false, tag := "", pkgPath := "runtime", byteOffset := 8 }, { name := "asserted", type := 17, offset := 2, embedded := false, tag := "", pkgPath := "runtime", byteOffset := 16 }, { name := "missingMethod", type := 9, offset := 3, embedded := false, tag := "", pkgPath := "runtime", byteOffset := 24 }], 4, 40, [.nilp, .nilp, .nilp, .str .empty], false⟩
def ti139 : TI := ⟨.func #[] #[3] false, 1, 8, [.nilfn], false⟩
def ti140 : TI := ⟨.func #[] #[17] false, 1, 8, [.nilfn], false⟩
def ti141 : TI := ⟨.int .u8, 1, 1, [.int .u8 0], false⟩
def ti142 : TI := ⟨.func #[103, 103] #[4] false, 1, 8, [.nilfn], false⟩
def ti143 : TI := ⟨.pointer 5, 1, 8, [.nilp], false⟩
def ti144 : TI := ⟨.int .i32, 1, 4, [.int .i32 0], false⟩
def ti145 : TI := ⟨.int .i32, 1, 4, [.int .i32 0], false⟩
def ti146 : TI := ⟨.struct #[{ name := "Size_", type := 12, offset := 0, embedded := false, tag := "", pkgPath := "", byteOffset := 0 }, { name := "PtrBytes", type := 12, offset := 1, embedded := false, tag := "", pkgPath := "", byteOffset := 8 }, { name := "Hash", type := 76, offset := 2, embedded := false, tag := "", pkgPath := "", byteOffset := 16 }, { name := "TFlag", type := 141, offset := 3, embedded := false, tag := "", pkgPath := "", byteOffset := 20 }, { name := "Align_", type := 5, offset := 4, embedded := false, tag := "", pkgPath := "", byteOffset := 21 }, { name := "FieldAlign_", type := 5, offset := 5, embedded := false, tag := "", pkgPath := "", byteOffset := 22 }, { name := "Kind_", type := 111, offset := 6, embedded := false, tag := "", pkgPath := "", byteOffset := 23 }, { name := "Equal", type := 142, offset := 7, embedded := false, tag := "", pkgPath := "", byteOffset := 24 }, { name := "GCData", type := 143, offset := 8, embedded := false, tag := "", pkgPath := "", byteOffset := 32 }, { name := "Str", type := 144, offset := 9, embedded := false, tag := "", pkgPath := "", byteOffset := 40 }, { name := "PtrToThis", type := 145, offset := 10, embedded := false, tag := "", pkgPath := "", byteOffset := 44 }], 11, 48, [.int .u64 0, .int .u64 0, .int .u32 0, .int .u8 0, .int .u8 0, .int .u8 0, .int .u8 0, .nilfn, .nilp, .int .i32 0, .int .i32 0], false⟩
def ti147 : TI := ⟨.struct #[{ name := "Size_", type := 12, offset := 0, embedded := false, tag := "", pkgPath := "", byteOffset := 0 }, { name := "PtrBytes", type := 12, offset := 1, embedded := false, tag := "", pkgPath := "", byteOffset := 8 }, { name := "Hash", type := 76, offset := 2, embedded := false, tag := "", pkgPath := "", byteOffset := 16 }, { name := "TFlag", type := 141, offset := 3, embedded := false, tag := "", pkgPath := "", byteOffset := 20 }, { name := "Align_", type := 5, offset := 4, embedded := false, tag := "", pkgPath := "", byteOffset := 21 }, { name := "FieldAlign_", type := 5, offset := 5, embedded := false, tag := "", pkgPath := "", byteOffset := 22 }, { name := "Kind_", type := 111, offset := 6, embedded := false, tag := "", pkgPath := "", byteOffset := 23 }, { name := "Equal", type := 142, offset := 7, embedded := false, tag := "", pkgPath := "", byteOffset := 24 }, { name := "GCData", type := 143, offset := 8, embedded := false, tag := "", pkgPath := "", byteOffset := 32 }, { name := "Str", type := 144, offset := 9, embedded := false, tag := "", pkgPath := "", byteOffset := 40 }, { name := "PtrToThis", type := 145, offset := 10, embedded := false, tag := "", pkgPath := "", byteOffset := 44 }], 11, 48, [.int .u64 0, .int .u64 0, .int .u32 0, .int .u8 0, .int .u8 0, .int .u8 0, .int .u8 0, .nilfn, .nilp, .int .i32 0, .int .i32 0], false⟩
def ti148 : TI := ⟨.func #[] #[12] false, 1, 8, [.nilfn], false⟩
def ti149 : TI := ⟨.func #[] #[152] false, 1, 8, [.nilfn], false⟩
def ti150 : TI := ⟨.struct #[{ name := "Method", type := 9, offset := 0, embedded := false, tag := "", pkgPath := "", byteOffset := 0 }, { name := "Kind", type := 111, offset := 1, embedded := false, tag := "", pkgPath := "", byteOffset := 16 }], 2, 24, [.str .empty, .int .u8 0], false⟩
def ti151 : TI := ⟨.struct #[{ name := "Method", type := 9, offset := 0, embedded := false, tag := "", pkgPath := "", byteOffset := 0 }, { name := "Kind", type := 111, offset := 1, embedded := false, tag := "", pkgPath := "", byteOffset := 16 }], 2, 24, [.str .empty, .int .u8 0], false⟩
def ti152 : TI := ⟨.pointer 156, 1, 8, [.nilp], false⟩
def ti153 : TI := ⟨.func #[] #[157] false, 1, 8, [.nilfn], false⟩
def ti154 : TI := ⟨.int .u16, 1, 2, [.int .u16 0], false⟩
def ti155 : TI := ⟨.struct #[{ name := "PkgPath", type := 144, offset := 0, embedded := false, tag := "", pkgPath := "", byteOffset := 0 }, { name := "Mcount", type := 154, offset := 1, embedded := false, tag := "", pkgPath := "", byteOffset := 4 }, { name := "Xcount", type := 154, offset := 2, embedded := false, tag := "", pkgPath := "", byteOffset := 6 }, { name := "Moff", type := 76, offset := 3, embedded := false, tag := "", pkgPath := "", byteOffset := 8 }, { name := "_", type := 76, offset := 4, embedded := false, tag := "", pkgPath := "internal/abi", byteOffset := 12 }], 5, 16, [.int .i32 0, .int .u16 0, .int .u16 0, .int .u32 0, .int .u32 0], false⟩
def ti156 : TI := ⟨.struct #[{ name := "PkgPath", type := 144, offset := 0, embedded := false, tag := "", pkgPath := "", byteOffset := 0 }, { name := "Mcount", type := 154, offset := 1, embedded := false, tag := "", pkgPath := "", byteOffset := 4 }, { name := "Xcount", type := 154, offset := 2, embedded := false, tag := "", pkgPath := "", byteOffset := 6 }, { name := "Moff", type := 76, offset := 3, embedded := false, tag := "", pkgPath := "", byteOffset := 8 }, { name := "_", type := 76, offset := 4, embedded := false, tag := "", pkgPath := "internal/abi", byteOffset := 12 }], 5, 16, [.int .i32 0, .int .u16 0, .int .u16 0, .int .u32 0, .int .u32 0], false⟩
def ti157 : TI := ⟨.slice 160, 1, 24, [.nil], false⟩
def ti158 : TI := ⟨.int .i32, 1, 4, [.int .i32 0], false⟩
def ti159 : TI := ⟨.struct #[{ name := "Name", type := 144, offset := 0, embedded := false, tag := "", pkgPath := "", byteOffset := 0 }, { name := "Mtyp", type := 145, offset := 1, embedded := false, tag := "", pkgPath := "", byteOffset := 4 }, { name := "Ifn", type := 158, offset := 2, embedded := false, tag := "", pkgPath := "", byteOffset := 8 }, { name := "Tfn", type := 158, offset := 3, embedded := false, tag := "", pkgPath := "", byteOffset := 12 }], 4, 16, [.int .i32 0, .int .i32 0, .int .i32 0, .int .i32 0], false⟩
def ti160 : TI := ⟨.struct #[{ name := "Name", type := 144, offset := 0, embedded := false, tag := "", pkgPath := "", byteOffset := 0 }, { name := "Mtyp", type := 145, offset := 1, embedded := false, tag := "", pkgPath := "", byteOffset := 4 }, { name := "Ifn", type := 158, offset := 2, embedded := false, tag := "", pkgPath := "", byteOffset := 8 }, { name := "Tfn", type := 158, offset := 3, embedded := false, tag := "", pkgPath := "", byteOffset := 12 }], 4, 16, [.int .i32 0, .int .i32 0, .int .i32 0, .int .i32 0], false⟩
def ti161 : TI := ⟨.pointer 87, 1, 8, [.nilp], false⟩
def T : TypeId → Option TI
  | 1 => some ti1
  | 2 => some ti2
  | 3 => some ti3
  | 4 => some ti4
  | 5 => some ti5
  | 6 => some ti6
  | 7 => some ti7
  | 8 => some ti8
  | 9 => some ti9
  | 10 => some ti10
  | 11 => some ti11
  | 12 => some ti12
  | 13 => some ti13
  | 14 => some ti14
  | 15 => some ti15
  | 16 => some ti16
  | 17 => some ti17
  | 18 => some ti18
  | 19 => some ti19
  | 20 => some ti20
  | 21 => some ti21
  | 22 => some ti22
  | 23 => some ti23
  | 24 => some ti24
  | 25 => some ti25
  | 26 => some ti26
  | 28 => some ti28
  | 30 => some ti30
  | 31 => some ti31
  | 32 => some ti32
  | 33 => some ti33
  | 34 => some ti34
  | 35 => some ti35
  | 36 => some ti36
  | 37 => some ti37
  | 38 => some ti38
  | 40 => some ti40
  | 42 => some ti42
  | 44 => some ti44
  | 46 => some ti46
  | 47 => some ti47
  | 48 => some ti48
  | 50 => some ti50
  | 51 => some ti51
  | 52 => some ti52
  | 53 => some ti53
  | 54 => some ti54
  | 56 => some ti56
  | 57 => some ti57
  | 58 => some ti58
  | 60 => some ti60
  | 62 => some ti62
  | 64 => some ti64
  | 65 => some ti65
  | 66 => some ti66
  | 67 => some ti67
  | 68 => some ti68
  | 69 => some ti69
  | 70 => some ti70
  | 71 => some ti71
  | 72 => some ti72
  | 73 => some ti73
  | 74 => some ti74
  | 75 => some ti75
  | 76 => some ti76
  | 77 => some ti77
  | 78 => some ti78
  | 79 => some ti79
  | 80 => some ti80
  | 81 => some ti81
  | 82 => some ti82
  | 83 => some ti83
  | 84 => some ti84
  | 85 => some ti85
  | 86 => some ti86
  | 87 => some ti87
  | 89 => some ti89
  | 90 => some ti90
  | 91 => some ti91
  | 92 => some ti92
  | 93 => some ti93
  | 94 => some ti94
  | 95 => some ti95
  | 96 => some ti96
  | 97 => some ti97
  | 98 => some ti98
  | 99 => some ti99
  | 100 => some ti100
  | 102 => some ti102
  | 104 => some ti104
  | 105 => some ti105
  | 106 => some ti106
  | 107 => some ti107
  | 108 => some ti108
  | 109 => some ti109
  | 110 => some ti110
  | 111 => some ti111
  | 112 => some ti112
  | 113 => some ti113
  | 114 => some ti114
  | 115 => some ti115
  | 117 => some ti117
  | 118 => some ti118
  | 119 => some ti119
  | 120 => some ti120
  | 121 => some ti121
  | 122 => some ti122
  | 123 => some ti123
  | 124 => some ti124
  | 125 => some ti125
  | 127 => some ti127
  | 128 => some ti128
  | 129 => some ti129
  | 130 => some ti130
  | 131 => some ti131
  | 132 => some ti132
  | 133 => some ti133
  | 134 => some ti134
  | 135 => some ti135
  | 139 => some ti139
  | 140 => some ti140
  | 141 => some ti141
  | 142 => some ti142
  | 143 => some ti143
  | 144 => some ti144
  | 145 => some ti145
  | 146 => some ti146
  | 147 => some ti147
  | 148 => some ti148
  | 149 => some ti149
  | 150 => some ti150
  | 151 => some ti151
  | 152 => some ti152
  | 153 => some ti153
  | 154 => some ti154
  | 155 => some ti155
  | 156 => some ti156
  | 157 => some ti157
  | 158 => some ti158
  | 159 => some ti159
  | 160 => some ti160
  | 161 => some ti161
  | _ => none
@[go_sem] theorem T1 : T 1 = some ti1 := Eq.trans rfl rfl
@[go_sem] theorem eqok1 : ti1.eqok = false := Eq.trans rfl rfl
@[go_sem] theorem und1 : ti1.und = .func #[] #[] false := Eq.trans rfl rfl
@[go_sem] theorem size1 : ti1.size = 1 := Eq.trans rfl rfl
@[go_sem] theorem bytes1 : ti1.bytes = 8 := Eq.trans rfl rfl
@[go_sem] theorem zero1 : ti1.zero = [.nilfn] := Eq.trans rfl rfl
@[go_sem] theorem T2 : T 2 = some ti2 := Eq.trans rfl rfl
@[go_sem] theorem eqok2 : ti2.eqok = false := Eq.trans rfl rfl
@[go_sem] theorem und2 : ti2.und = .int .i64 := Eq.trans rfl rfl
@[go_sem] theorem size2 : ti2.size = 1 := Eq.trans rfl rfl
@[go_sem] theorem bytes2 : ti2.bytes = 8 := Eq.trans rfl rfl
@[go_sem] theorem zero2 : ti2.zero = [.int .i64 0] := Eq.trans rfl rfl
@[go_sem] theorem T3 : T 3 = some ti3 := Eq.trans rfl rfl
@[go_sem] theorem eqok3 : ti3.eqok = false := Eq.trans rfl rfl
@[go_sem] theorem und3 : ti3.und = .int .i64 := Eq.trans rfl rfl
@[go_sem] theorem size3 : ti3.size = 1 := Eq.trans rfl rfl
@[go_sem] theorem bytes3 : ti3.bytes = 8 := Eq.trans rfl rfl
@[go_sem] theorem zero3 : ti3.zero = [.int .i64 0] := Eq.trans rfl rfl
@[go_sem] theorem T4 : T 4 = some ti4 := Eq.trans rfl rfl
@[go_sem] theorem eqok4 : ti4.eqok = false := Eq.trans rfl rfl
@[go_sem] theorem und4 : ti4.und = .bool := Eq.trans rfl rfl
@[go_sem] theorem size4 : ti4.size = 1 := Eq.trans rfl rfl
@[go_sem] theorem bytes4 : ti4.bytes = 1 := Eq.trans rfl rfl
@[go_sem] theorem zero4 : ti4.zero = [.bool false] := Eq.trans rfl rfl
@[go_sem] theorem T5 : T 5 = some ti5 := Eq.trans rfl rfl
@[go_sem] theorem eqok5 : ti5.eqok = false := Eq.trans rfl rfl
@[go_sem] theorem und5 : ti5.und = .int .u8 := Eq.trans rfl rfl
@[go_sem] theorem size5 : ti5.size = 1 := Eq.trans rfl rfl
@[go_sem] theorem bytes5 : ti5.bytes = 1 := Eq.trans rfl rfl
@[go_sem] theorem zero5 : ti5.zero = [.int .u8 0] := Eq.trans rfl rfl
@[go_sem] theorem T6 : T 6 = some ti6 := Eq.trans rfl rfl
@[go_sem] theorem eqok6 : ti6.eqok = false := Eq.trans rfl rfl
@[go_sem] theorem und6 : ti6.und = .int .u8 := Eq.trans rfl rfl
@[go_sem] theorem size6 : ti6.size = 1 := Eq.trans rfl rfl
@[go_sem] theorem bytes6 : ti6.bytes = 1 := Eq.trans rfl rfl
@[go_sem] theorem zero6 : ti6.zero = [.int .u8 0] := Eq.trans rfl rfl
@[go_sem] theorem T7 : T 7 = some ti7 := Eq.trans rfl rfl
@[go_sem] theorem eqok7 : ti7.eqok = false := Eq.trans rfl rfl
@[go_sem] theorem und7 : ti7.und = .struct #[{ name := "x", type := 2, offset := 0, embedded := false, tag := "", pkgPath := "runtime", byteOffset := 0 }, { name := "y", type := 3, offset := 1, embedded := false, tag := "", pkgPath := "runtime", byteOffset := 8 }, { name := "signed", type := 4, offset := 2, embedded := false, tag := "", pkgPath := "runtime", byteOffset := 16 }, { name := "code", type := 6, offset := 3, embedded := false, tag := "", pkgPath := "runtime", byteOffset := 17 }] := Eq.trans rfl rfl
@[go_sem] theorem size7 : ti7.size = 4 := Eq.trans rfl rfl
@[go_sem] theorem bytes7 : ti7.bytes = 24 := Eq.trans rfl rfl
@[go_sem] theorem zero7 : ti7.zero = [.int .i64 0, .int .i64 0, .bool false, .int .u8 0] := Eq.trans rfl rfl
@[go_sem] theorem T8 : T 8 = some ti8 := Eq.trans rfl rfl
@[go_sem] theorem eqok8 : ti8.eqok = false := Eq.trans rfl rfl
@[go_sem] theorem und8 : ti8.und = .struct #[{ name := "x", type := 2, offset := 0, embedded := false, tag := "", pkgPath := "runtime", byteOffset := 0 }, { name := "y", type := 3, offset := 1, embedded := false, tag := "", pkgPath := "runtime", byteOffset := 8 }, { name := "signed", type := 4, offset := 2, embedded := false, tag := "", pkgPath := "runtime", byteOffset := 16 }, { name := "code", type := 6, offset := 3, embedded := false, tag := "", pkgPath := "runtime", byteOffset := 17 }] := Eq.trans rfl rfl
@[go_sem] theorem size8 : ti8.size = 4 := Eq.trans rfl rfl
@[go_sem] theorem bytes8 : ti8.bytes = 24 := Eq.trans rfl rfl
@[go_sem] theorem zero8 : ti8.zero = [.int .i64 0, .int .i64 0, .bool false, .int .u8 0] := Eq.trans rfl rfl
@[go_sem] theorem T9 : T 9 = some ti9 := Eq.trans rfl rfl
@[go_sem] theorem eqok9 : ti9.eqok = false := Eq.trans rfl rfl
@[go_sem] theorem und9 : ti9.und = .string := Eq.trans rfl rfl
@[go_sem] theorem size9 : ti9.size = 1 := Eq.trans rfl rfl
@[go_sem] theorem bytes9 : ti9.bytes = 16 := Eq.trans rfl rfl
@[go_sem] theorem zero9 : ti9.zero = [.str .empty] := Eq.trans rfl rfl
@[go_sem] theorem T10 : T 10 = some ti10 := Eq.trans rfl rfl
@[go_sem] theorem eqok10 : ti10.eqok = false := Eq.trans rfl rfl
@[go_sem] theorem und10 : ti10.und = .string := Eq.trans rfl rfl
@[go_sem] theorem size10 : ti10.size = 1 := Eq.trans rfl rfl
@[go_sem] theorem bytes10 : ti10.bytes = 16 := Eq.trans rfl rfl
@[go_sem] theorem zero10 : ti10.zero = [.str .empty] := Eq.trans rfl rfl
@[go_sem] theorem T11 : T 11 = some ti11 := Eq.trans rfl rfl
@[go_sem] theorem eqok11 : ti11.eqok = false := Eq.trans rfl rfl
@[go_sem] theorem und11 : ti11.und = .string := Eq.trans rfl rfl
@[go_sem] theorem size11 : ti11.size = 1 := Eq.trans rfl rfl
@[go_sem] theorem bytes11 : ti11.bytes = 16 := Eq.trans rfl rfl
@[go_sem] theorem zero11 : ti11.zero = [.str .empty] := Eq.trans rfl rfl
@[go_sem] theorem T12 : T 12 = some ti12 := Eq.trans rfl rfl
@[go_sem] theorem eqok12 : ti12.eqok = false := Eq.trans rfl rfl
@[go_sem] theorem und12 : ti12.und = .int .u64 := Eq.trans rfl rfl
@[go_sem] theorem size12 : ti12.size = 1 := Eq.trans rfl rfl
@[go_sem] theorem bytes12 : ti12.bytes = 8 := Eq.trans rfl rfl
@[go_sem] theorem zero12 : ti12.zero = [.int .u64 0] := Eq.trans rfl rfl
@[go_sem] theorem T13 : T 13 = some ti13 := Eq.trans rfl rfl
@[go_sem] theorem eqok13 : ti13.eqok = false := Eq.trans rfl rfl
@[go_sem] theorem und13 : ti13.und = .struct #[{ name := "msg", type := 9, offset := 0, embedded := false, tag := "", pkgPath := "runtime", byteOffset := 0 }, { name := "addr", type := 12, offset := 1, embedded := false, tag := "", pkgPath := "runtime", byteOffset := 16 }] := Eq.trans rfl rfl
@[go_sem] theorem size13 : ti13.size = 2 := Eq.trans rfl rfl
@[go_sem] theorem bytes13 : ti13.bytes = 24 := Eq.trans rfl rfl
@[go_sem] theorem zero13 : ti13.zero = [.str .empty, .int .u64 0] := Eq.trans rfl rfl
@[go_sem] theorem T14 : T 14 = some ti14 := Eq.trans rfl rfl
@[go_sem] theorem eqok14 : ti14.eqok = false := Eq.trans rfl rfl
@[go_sem] theorem und14 : ti14.und = .struct #[{ name := "msg", type := 9, offset := 0, embedded := false, tag := "", pkgPath := "runtime", byteOffset := 0 }, { name := "addr", type := 12, offset := 1, embedded := false, tag := "", pkgPath := "runtime", byteOffset := 16 }] := Eq.trans rfl rfl
@[go_sem] theorem size14 : ti14.size = 2 := Eq.trans rfl rfl
@[go_sem] theorem bytes14 : ti14.bytes = 24 := Eq.trans rfl rfl
@[go_sem] theorem zero14 : ti14.zero = [.str .empty, .int .u64 0] := Eq.trans rfl rfl
@[go_sem] theorem T15 : T 15 = some ti15 := Eq.trans rfl rfl
@[go_sem] theorem eqok15 : ti15.eqok = false := Eq.trans rfl rfl
@[go_sem] theorem und15 : ti15.und = .pointer 135 := Eq.trans rfl rfl
@[go_sem] theorem size15 : ti15.size = 1 := Eq.trans rfl rfl
@[go_sem] theorem bytes15 : ti15.bytes = 8 := Eq.trans rfl rfl
@[go_sem] theorem zero15 : ti15.zero = [.nilp] := Eq.trans rfl rfl
@[go_sem] theorem T16 : T 16 = some ti16 := Eq.trans rfl rfl
@[go_sem] theorem eqok16 : ti16.eqok = false := Eq.trans rfl rfl
@[go_sem] theorem und16 : ti16.und = .pointer 138 := Eq.trans rfl rfl
@[go_sem] theorem size16 : ti16.size = 1 := Eq.trans rfl rfl
@[go_sem] theorem bytes16 : ti16.bytes = 8 := Eq.trans rfl rfl
@[go_sem] theorem zero16 : ti16.zero = [.nilp] := Eq.trans rfl rfl
@[go_sem] theorem T17 : T 17 = some ti17 := Eq.trans rfl rfl
@[go_sem] theorem eqok17 : ti17.eqok = false := Eq.trans rfl rfl
@[go_sem] theorem und17 : ti17.und = .pointer 147 := Eq.trans rfl rfl
@[go_sem] theorem size17 : ti17.size = 1 := Eq.trans rfl rfl
@[go_sem] theorem bytes17 : ti17.bytes = 8 := Eq.trans rfl rfl
@[go_sem] theorem zero17 : ti17.zero = [.nilp] := Eq.trans rfl rfl
@[go_sem] theorem T18 : T 18 = some ti18 := Eq.trans rfl rfl
@[go_sem] theorem eqok18 : ti18.eqok = false := Eq.trans rfl rfl
@[go_sem] theorem und18 : ti18.und = .struct #[{ name := "typ", type := 17, offset := 0, embedded := false, tag := "", pkgPath := "internal/runtime/maps", byteOffset := 0 }] := Eq.trans rfl rfl
@[go_sem] theorem size18 : ti18.size = 1 := Eq.trans rfl rfl
@[go_sem] theorem bytes18 : ti18.bytes = 8 := Eq.trans rfl rfl
@[go_sem] theorem zero18 : ti18.zero = [.nilp] := Eq.trans rfl rfl
@[go_sem] theorem T19 : T 19 = some ti19 := Eq.trans rfl rfl
@[go_sem] theorem eqok19 : ti19.eqok = false := Eq.trans rfl rfl
@[go_sem] theorem und19 : ti19.und = .struct #[{ name := "typ", type := 17, offset := 0, embedded := false, tag := "", pkgPath := "internal/runtime/maps", byteOffset := 0 }] := Eq.trans rfl rfl
@[go_sem] theorem size19 : ti19.size = 1 := Eq.trans rfl rfl
@[go_sem] theorem bytes19 : ti19.bytes = 8 := Eq.trans rfl rfl
@[go_sem] theorem zero19 : ti19.zero = [.nilp] := Eq.trans rfl rfl
@[go_sem] theorem T20 : T 20 = some ti20 := Eq.trans rfl rfl
@[go_sem] theorem eqok20 : ti20.eqok = false := Eq.trans rfl rfl
@[go_sem] theorem und20 : ti20.und = .interface #[] := Eq.trans rfl rfl
@[go_sem] theorem size20 : ti20.size = 1 := Eq.trans rfl rfl
@[go_sem] theorem bytes20 : ti20.bytes = 16 := Eq.trans rfl rfl
@[go_sem] theorem zero20 : ti20.zero = [.nilif] := Eq.trans rfl rfl
@[go_sem] theorem T21 : T 21 = some ti21 := Eq.trans rfl rfl
@[go_sem] theorem eqok21 : ti21.eqok = false := Eq.trans rfl rfl
@[go_sem] theorem und21 : ti21.und = .int .i32 := Eq.trans rfl rfl
@[go_sem] theorem size21 : ti21.size = 1 := Eq.trans rfl rfl
@[go_sem] theorem bytes21 : ti21.bytes = 4 := Eq.trans rfl rfl
@[go_sem] theorem zero21 : ti21.zero = [.int .i32 0] := Eq.trans rfl rfl
@[go_sem] theorem T22 : T 22 = some ti22 := Eq.trans rfl rfl
@[go_sem] theorem eqok22 : ti22.eqok = false := Eq.trans rfl rfl
@[go_sem] theorem und22 : ti22.und = .slice 37 := Eq.trans rfl rfl
@[go_sem] theorem size22 : ti22.size = 1 := Eq.trans rfl rfl
@[go_sem] theorem bytes22 : ti22.bytes = 24 := Eq.trans rfl rfl
@[go_sem] theorem zero22 : ti22.zero = [.nil] := Eq.trans rfl rfl
@[go_sem] theorem T23 : T 23 = some ti23 := Eq.trans rfl rfl
@[go_sem] theorem eqok23 : ti23.eqok = false := Eq.trans rfl rfl
@[go_sem] theorem und23 : ti23.und = .func #[22] #[4] false := Eq.trans rfl rfl
@[go_sem] theorem size23 : ti23.size = 1 := Eq.trans rfl rfl
@[go_sem] theorem bytes23 : ti23.bytes = 8 := Eq.trans rfl rfl
@[go_sem] theorem zero23 : ti23.zero = [.nilfn] := Eq.trans rfl rfl
@[go_sem] theorem T24 : T 24 = some ti24 := Eq.trans rfl rfl
@[go_sem] theorem eqok24 : ti24.eqok = false := Eq.trans rfl rfl
@[go_sem] theorem und24 : ti24.und = .func #[22] #[22] false := Eq.trans rfl rfl
@[go_sem] theorem size24 : ti24.size = 1 := Eq.trans rfl rfl
@[go_sem] theorem bytes24 : ti24.bytes = 8 := Eq.trans rfl rfl
@[go_sem] theorem zero24 : ti24.zero = [.nilfn] := Eq.trans rfl rfl
@[go_sem] theorem T25 : T 25 = some ti25 := Eq.trans rfl rfl
@[go_sem] theorem eqok25 : ti25.eqok = false := Eq.trans rfl rfl
@[go_sem] theorem und25 : ti25.und = .slice 54 := Eq.trans rfl rfl
@[go_sem] theorem size25 : ti25.size = 1 := Eq.trans rfl rfl
@[go_sem] theorem bytes25 : ti25.bytes = 24 := Eq.trans rfl rfl
@[go_sem] theorem zero25 : ti25.zero = [.nil] := Eq.trans rfl rfl
@[go_sem] theorem T26 : T 26 = some ti26 := Eq.trans rfl rfl
@[go_sem] theorem eqok26 : ti26.eqok = false := Eq.trans rfl rfl
@[go_sem] theorem und26 : ti26.und = .int .i64 := Eq.trans rfl rfl
@[go_sem] theorem size26 : ti26.size = 1 := Eq.trans rfl rfl
@[go_sem] theorem bytes26 : ti26.bytes = 8 := Eq.trans rfl rfl
@[go_sem] theorem zero26 : ti26.zero = [.int .i64 0] := Eq.trans rfl rfl
@[go_sem] theorem T28 : T 28 = some ti28 := Eq.trans rfl rfl
@[go_sem] theorem eqok28 : ti28.eqok = false := Eq.trans rfl rfl
@[go_sem] theorem und28 : ti28.und = .func #[22] #[25, 26] false := Eq.trans rfl rfl
@[go_sem] theorem size28 : ti28.size = 1 := Eq.trans rfl rfl
@[go_sem] theorem bytes28 : ti28.bytes = 8 := Eq.trans rfl rfl
@[go_sem] theorem zero28 : ti28.zero = [.nilfn] := Eq.trans rfl rfl
@[go_sem] theorem T30 : T 30 = some ti30 := Eq.trans rfl rfl
@[go_sem] theorem eqok30 : ti30.eqok = false := Eq.trans rfl rfl
@[go_sem] theorem und30 : ti30.und = .func #[22] #[25, 3] false := Eq.trans rfl rfl
@[go_sem] theorem size30 : ti30.size = 1 := Eq.trans rfl rfl
@[go_sem] theorem bytes30 : ti30.bytes = 8 := Eq.trans rfl rfl
@[go_sem] theorem zero30 : ti30.zero = [.nilfn] := Eq.trans rfl rfl
@[go_sem] theorem T31 : T 31 = some ti31 := Eq.trans rfl rfl
@[go_sem] theorem eqok31 : ti31.eqok = false := Eq.trans rfl rfl
@[go_sem] theorem und31 : ti31.und = .func #[22] #[26] false := Eq.trans rfl rfl
@[go_sem] theorem size31 : ti31.size = 1 := Eq.trans rfl rfl
@[go_sem] theorem bytes31 : ti31.bytes = 8 := Eq.trans rfl rfl
@[go_sem] theorem zero31 : ti31.zero = [.nilfn] := Eq.trans rfl rfl
@[go_sem] theorem T32 : T 32 = some ti32 := Eq.trans rfl rfl
@[go_sem] theorem eqok32 : ti32.eqok = false := Eq.trans rfl rfl
@[go_sem] theorem und32 : ti32.und = .func #[22] #[3] false := Eq.trans rfl rfl
@[go_sem] theorem size32 : ti32.size = 1 := Eq.trans rfl rfl
@[go_sem] theorem bytes32 : ti32.bytes = 8 := Eq.trans rfl rfl
@[go_sem] theorem zero32 : ti32.zero = [.nilfn] := Eq.trans rfl rfl
@[go_sem] theorem T33 : T 33 = some ti33 := Eq.trans rfl rfl
@[go_sem] theorem eqok33 : ti33.eqok = false := Eq.trans rfl rfl
@[go_sem] theorem und33 : ti33.und = .func #[25, 25] #[4] false := Eq.trans rfl rfl
@[go_sem] theorem size33 : ti33.size = 1 := Eq.trans rfl rfl
@[go_sem] theorem bytes33 : ti33.bytes = 8 := Eq.trans rfl rfl
@[go_sem] theorem zero33 : ti33.zero = [.nilfn] := Eq.trans rfl rfl
@[go_sem] theorem T34 : T 34 = some ti34 := Eq.trans rfl rfl
@[go_sem] theorem eqok34 : ti34.eqok = false := Eq.trans rfl rfl
@[go_sem] theorem und34 : ti34.und = .func #[22, 22] #[4] false := Eq.trans rfl rfl
@[go_sem] theorem size34 : ti34.size = 1 := Eq.trans rfl rfl
@[go_sem] theorem bytes34 : ti34.bytes = 8 := Eq.trans rfl rfl
@[go_sem] theorem zero34 : ti34.zero = [.nilfn] := Eq.trans rfl rfl
@[go_sem] theorem T35 : T 35 = some ti35 := Eq.trans rfl rfl
@[go_sem] theorem eqok35 : ti35.eqok = false := Eq.trans rfl rfl
@[go_sem] theorem und35 : ti35.und = .slice 5 := Eq.trans rfl rfl
@[go_sem] theorem size35 : ti35.size = 1 := Eq.trans rfl rfl
@[go_sem] theorem bytes35 : ti35.bytes = 24 := Eq.trans rfl rfl
@[go_sem] theorem zero35 : ti35.zero = [.nil] := Eq.trans rfl rfl
@[go_sem] theorem T36 : T 36 = some ti36 := Eq.trans rfl rfl
@[go_sem] theorem eqok36 : ti36.eqok = false := Eq.trans rfl rfl
@[go_sem] theorem und36 : ti36.und = .struct #[{ name := "Name", type := 9, offset := 0, embedded := false, tag := "", pkgPath := "", byteOffset := 0 }, { name := "Data", type := 35, offset := 1, embedded := false, tag := "", pkgPath := "", byteOffset := 16 }] := Eq.trans rfl rfl
@[go_sem] theorem size36 : ti36.size = 2 := Eq.trans rfl rfl
@[go_sem] theorem bytes36 : ti36.bytes = 40 := Eq.trans rfl rfl
@[go_sem] theorem zero36 : ti36.zero = [.str .empty, .nil] := Eq.trans rfl rfl
@[go_sem] theorem T37 : T 37 = some ti37 := Eq.trans rfl rfl
@[go_sem] theorem eqok37 : ti37.eqok = false := Eq.trans rfl rfl
@[go_sem] theorem und37 : ti37.und = .struct #[{ name := "Name", type := 9, offset := 0, embedded := false, tag := "", pkgPath := "", byteOffset := 0 }, { name := "Data", type := 35, offset := 1, embedded := false, tag := "", pkgPath := "", byteOffset := 16 }] := Eq.trans rfl rfl
@[go_sem] theorem size37 : ti37.size = 2 := Eq.trans rfl rfl
@[go_sem] theorem bytes37 : ti37.bytes = 40 := Eq.trans rfl rfl
@[go_sem] theorem zero37 : ti37.zero = [.str .empty, .nil] := Eq.trans rfl rfl
@[go_sem] theorem T38 : T 38 = some ti38 := Eq.trans rfl rfl
@[go_sem] theorem eqok38 : ti38.eqok = false := Eq.trans rfl rfl
@[go_sem] theorem und38 : ti38.und = .func #[25] #[4] false := Eq.trans rfl rfl
@[go_sem] theorem size38 : ti38.size = 1 := Eq.trans rfl rfl
@[go_sem] theorem bytes38 : ti38.bytes = 8 := Eq.trans rfl rfl
@[go_sem] theorem zero38 : ti38.zero = [.nilfn] := Eq.trans rfl rfl
@[go_sem] theorem T40 : T 40 = some ti40 := Eq.trans rfl rfl
@[go_sem] theorem eqok40 : ti40.eqok = false := Eq.trans rfl rfl
@[go_sem] theorem und40 : ti40.und = .func #[25] #[35, 26] false := Eq.trans rfl rfl
@[go_sem] theorem size40 : ti40.size = 1 := Eq.trans rfl rfl
@[go_sem] theorem bytes40 : ti40.bytes = 8 := Eq.trans rfl rfl
@[go_sem] theorem zero40 : ti40.zero = [.nilfn] := Eq.trans rfl rfl
@[go_sem] theorem T42 : T 42 = some ti42 := Eq.trans rfl rfl
@[go_sem] theorem eqok42 : ti42.eqok = false := Eq.trans rfl rfl
@[go_sem] theorem und42 : ti42.und = .func #[25] #[35, 3] false := Eq.trans rfl rfl
@[go_sem] theorem size42 : ti42.size = 1 := Eq.trans rfl rfl
@[go_sem] theorem bytes42 : ti42.bytes = 8 := Eq.trans rfl rfl
@[go_sem] theorem zero42 : ti42.zero = [.nilfn] := Eq.trans rfl rfl
@[go_sem] theorem T44 : T 44 = some ti44 := Eq.trans rfl rfl
@[go_sem] theorem eqok44 : ti44.eqok = false := Eq.trans rfl rfl
@[go_sem] theorem und44 : ti44.und = .func #[25, 9] #[3, 26] false := Eq.trans rfl rfl
@[go_sem] theorem size44 : ti44.size = 1 := Eq.trans rfl rfl
@[go_sem] theorem bytes44 : ti44.bytes = 8 := Eq.trans rfl rfl
@[go_sem] theorem zero44 : ti44.zero = [.nilfn] := Eq.trans rfl rfl
@[go_sem] theorem T46 : T 46 = some ti46 := Eq.trans rfl rfl
@[go_sem] theorem eqok46 : ti46.eqok = false := Eq.trans rfl rfl
@[go_sem] theorem und46 : ti46.und = .func #[25, 9] #[3, 3] false := Eq.trans rfl rfl
@[go_sem] theorem size46 : ti46.size = 1 := Eq.trans rfl rfl
@[go_sem] theorem bytes46 : ti46.bytes = 8 := Eq.trans rfl rfl
@[go_sem] theorem zero46 : ti46.zero = [.nilfn] := Eq.trans rfl rfl
@[go_sem] theorem T47 : T 47 = some ti47 := Eq.trans rfl rfl
@[go_sem] theorem eqok47 : ti47.eqok = false := Eq.trans rfl rfl
@[go_sem] theorem und47 : ti47.und = .func #[25] #[26] false := Eq.trans rfl rfl
@[go_sem] theorem size47 : ti47.size = 1 := Eq.trans rfl rfl
@[go_sem] theorem bytes47 : ti47.bytes = 8 := Eq.trans rfl rfl
@[go_sem] theorem zero47 : ti47.zero = [.nilfn] := Eq.trans rfl rfl
@[go_sem] theorem T48 : T 48 = some ti48 := Eq.trans rfl rfl
@[go_sem] theorem eqok48 : ti48.eqok = false := Eq.trans rfl rfl
@[go_sem] theorem und48 : ti48.und = .func #[25] #[3] false := Eq.trans rfl rfl
@[go_sem] theorem size48 : ti48.size = 1 := Eq.trans rfl rfl
@[go_sem] theorem bytes48 : ti48.bytes = 8 := Eq.trans rfl rfl
@[go_sem] theorem zero48 : ti48.zero = [.nilfn] := Eq.trans rfl rfl
@[go_sem] theorem T50 : T 50 = some ti50 := Eq.trans rfl rfl
@[go_sem] theorem eqok50 : ti50.eqok = false := Eq.trans rfl rfl
@[go_sem] theorem und50 : ti50.und = .func #[54, 37] #[4, 26] false := Eq.trans rfl rfl
@[go_sem] theorem size50 : ti50.size = 1 := Eq.trans rfl rfl
@[go_sem] theorem bytes50 : ti50.bytes = 8 := Eq.trans rfl rfl
@[go_sem] theorem zero50 : ti50.zero = [.nilfn] := Eq.trans rfl rfl
@[go_sem] theorem T51 : T 51 = some ti51 := Eq.trans rfl rfl
@[go_sem] theorem eqok51 : ti51.eqok = true := Eq.trans rfl rfl
@[go_sem] theorem und51 : ti51.und = .array 20 5 := Eq.trans rfl rfl
@[go_sem] theorem size51 : ti51.size = 20 := Eq.trans rfl rfl
@[go_sem] theorem bytes51 : ti51.bytes = 20 := Eq.trans rfl rfl
@[go_sem] theorem zero51 : ti51.zero = [.int .u8 0, .int .u8 0, .int .u8 0, .int .u8 0, .int .u8 0, .int .u8 0, .int .u8 0, .int .u8 0, .int .u8 0, .int .u8 0, .int .u8 0, .int .u8 0, .int .u8 0, .int .u8 0, .int .u8 0, .int .u8 0, .int .u8 0, .int .u8 0, .int .u8 0, .int .u8 0] := Eq.trans rfl rfl
@[go_sem] theorem T52 : T 52 = some ti52 := Eq.trans rfl rfl
@[go_sem] theorem eqok52 : ti52.eqok = true := Eq.trans rfl rfl
@[go_sem] theorem und52 : ti52.und = .array 20 5 := Eq.trans rfl rfl
@[go_sem] theorem size52 : ti52.size = 20 := Eq.trans rfl rfl
@[go_sem] theorem bytes52 : ti52.bytes = 20 := Eq.trans rfl rfl
@[go_sem] theorem zero52 : ti52.zero = [.int .u8 0, .int .u8 0, .int .u8 0, .int .u8 0, .int .u8 0, .int .u8 0, .int .u8 0, .int .u8 0, .int .u8 0, .int .u8 0, .int .u8 0, .int .u8 0, .int .u8 0, .int .u8 0, .int .u8 0, .int .u8 0, .int .u8 0, .int .u8 0, .int .u8 0, .int .u8 0] := Eq.trans rfl rfl
@[go_sem] theorem T53 : T 53 = some ti53 := Eq.trans rfl rfl
@[go_sem] theorem eqok53 : ti53.eqok = true := Eq.trans rfl rfl
@[go_sem] theorem und53 : ti53.und = .struct #[{ name := "Name", type := 9, offset := 0, embedded := false, tag := "", pkgPath := "", byteOffset := 0 }, { name := "Size", type := 3, offset := 1, embedded := false, tag := "", pkgPath := "", byteOffset := 16 }, { name := "Sum", type := 52, offset := 2, embedded := false, tag := "", pkgPath := "", byteOffset := 24 }] := Eq.trans rfl rfl
@[go_sem] theorem size53 : ti53.size = 22 := Eq.trans rfl rfl
@[go_sem] theorem bytes53 : ti53.bytes = 48 := Eq.trans rfl rfl
@[go_sem] theorem zero53 : ti53.zero = [.str .empty, .int .i64 0, .int .u8 0, .int .u8 0, .int .u8 0, .int .u8 0, .int .u8 0, .int .u8 0, .int .u8 0, .int .u8 0, .int .u8 0, .int .u8 0, .int .u8 0, .int .u8 0, .int .u8 0, .int .u8 0, .int .u8 0, .int .u8 0, .int .u8 0, .int .u8 0, .int .u8 0, .int .u8 0] := Eq.trans rfl rfl
@[go_sem] theorem T54 : T 54 = some ti54 := Eq.trans rfl rfl
@[go_sem] theorem eqok54 : ti54.eqok = true := Eq.trans rfl rfl
@[go_sem] theorem und54 : ti54.und = .struct #[{ name := "Name", type := 9, offset := 0, embedded := false, tag := "", pkgPath := "", byteOffset := 0 }, { name := "Size", type := 3, offset := 1, embedded := false, tag := "", pkgPath := "", byteOffset := 16 }, { name := "Sum", type := 52, offset := 2, embedded := false, tag := "", pkgPath := "", byteOffset := 24 }] := Eq.trans rfl rfl
@[go_sem] theorem size54 : ti54.size = 22 := Eq.trans rfl rfl
@[go_sem] theorem bytes54 : ti54.bytes = 48 := Eq.trans rfl rfl
@[go_sem] theorem zero54 : ti54.zero = [.str .empty, .int .i64 0, .int .u8 0, .int .u8 0, .int .u8 0, .int .u8 0, .int .u8 0, .int .u8 0, .int .u8 0, .int .u8 0, .int .u8 0, .int .u8 0, .int .u8 0, .int .u8 0, .int .u8 0, .int .u8 0, .int .u8 0, .int .u8 0, .int .u8 0, .int .u8 0, .int .u8 0, .int .u8 0] := Eq.trans rfl rfl
@[go_sem] theorem T56 : T 56 = some ti56 := Eq.trans rfl rfl
@[go_sem] theorem eqok56 : ti56.eqok = false := Eq.trans rfl rfl
@[go_sem] theorem und56 : ti56.und = .func #[54, 37] #[4, 3] false := Eq.trans rfl rfl
@[go_sem] theorem size56 : ti56.size = 1 := Eq.trans rfl rfl
@[go_sem] theorem bytes56 : ti56.bytes = 8 := Eq.trans rfl rfl
@[go_sem] theorem zero56 : ti56.zero = [.nilfn] := Eq.trans rfl rfl
@[go_sem] theorem T57 : T 57 = some ti57 := Eq.trans rfl rfl
@[go_sem] theorem eqok57 : ti57.eqok = false := Eq.trans rfl rfl
@[go_sem] theorem und57 : ti57.und = .func #[25, 37, 9] #[4] false := Eq.trans rfl rfl
@[go_sem] theorem size57 : ti57.size = 1 := Eq.trans rfl rfl
@[go_sem] theorem bytes57 : ti57.bytes = 8 := Eq.trans rfl rfl
@[go_sem] theorem zero57 : ti57.zero = [.nilfn] := Eq.trans rfl rfl
@[go_sem] theorem T58 : T 58 = some ti58 := Eq.trans rfl rfl
@[go_sem] theorem eqok58 : ti58.eqok = false := Eq.trans rfl rfl
@[go_sem] theorem und58 : ti58.und = .func #[] #[4] false := Eq.trans rfl rfl
@[go_sem] theorem size58 : ti58.size = 1 := Eq.trans rfl rfl
@[go_sem] theorem bytes58 : ti58.bytes = 8 := Eq.trans rfl rfl
@[go_sem] theorem zero58 : ti58.zero = [.nilfn] := Eq.trans rfl rfl
@[go_sem] theorem T60 : T 60 = some ti60 := Eq.trans rfl rfl
@[go_sem] theorem eqok60 : ti60.eqok = false := Eq.trans rfl rfl
@[go_sem] theorem und60 : ti60.und = .func #[35] #[52, 26] false := Eq.trans rfl rfl
@[go_sem] theorem size60 : ti60.size = 1 := Eq.trans rfl rfl
@[go_sem] theorem bytes60 : ti60.bytes = 8 := Eq.trans rfl rfl
@[go_sem] theorem zero60 : ti60.zero = [.nilfn] := Eq.trans rfl rfl
@[go_sem] theorem T62 : T 62 = some ti62 := Eq.trans rfl rfl
@[go_sem] theorem eqok62 : ti62.eqok = false := Eq.trans rfl rfl
@[go_sem] theorem und62 : ti62.und = .func #[35, 3] #[25, 3, 26] false := Eq.trans rfl rfl
@[go_sem] theorem size62 : ti62.size = 1 := Eq.trans rfl rfl
@[go_sem] theorem bytes62 : ti62.bytes = 8 := Eq.trans rfl rfl
@[go_sem] theorem zero62 : ti62.zero = [.nilfn] := Eq.trans rfl rfl
@[go_sem] theorem T64 : T 64 = some ti64 := Eq.trans rfl rfl
@[go_sem] theorem eqok64 : ti64.eqok = false := Eq.trans rfl rfl
@[go_sem] theorem und64 : ti64.und = .func #[35, 3] #[25, 3, 3] false := Eq.trans rfl rfl
@[go_sem] theorem size64 : ti64.size = 1 := Eq.trans rfl rfl
@[go_sem] theorem bytes64 : ti64.bytes = 8 := Eq.trans rfl rfl
@[go_sem] theorem zero64 : ti64.zero = [.nilfn] := Eq.trans rfl rfl
@[go_sem] theorem T65 : T 65 = some ti65 := Eq.trans rfl rfl
@[go_sem] theorem eqok65 : ti65.eqok = false := Eq.trans rfl rfl
@[go_sem] theorem und65 : ti65.und = .func #[35, 3] #[4] false := Eq.trans rfl rfl
@[go_sem] theorem size65 : ti65.size = 1 := Eq.trans rfl rfl
@[go_sem] theorem bytes65 : ti65.bytes = 8 := Eq.trans rfl rfl
@[go_sem] theorem zero65 : ti65.zero = [.nilfn] := Eq.trans rfl rfl
@[go_sem] theorem T66 : T 66 = some ti66 := Eq.trans rfl rfl
@[go_sem] theorem eqok66 : ti66.eqok = false := Eq.trans rfl rfl
@[go_sem] theorem und66 : ti66.und = .func #[25, 35, 3] #[4] false := Eq.trans rfl rfl
@[go_sem] theorem size66 : ti66.size = 1 := Eq.trans rfl rfl
@[go_sem] theorem bytes66 : ti66.bytes = 8 := Eq.trans rfl rfl
@[go_sem] theorem zero66 : ti66.zero = [.nilfn] := Eq.trans rfl rfl
@[go_sem] theorem T67 : T 67 = some ti67 := Eq.trans rfl rfl
@[go_sem] theorem eqok67 : ti67.eqok = false := Eq.trans rfl rfl
@[go_sem] theorem und67 : ti67.und = .slice 9 := Eq.trans rfl rfl
@[go_sem] theorem size67 : ti67.size = 1 := Eq.trans rfl rfl
@[go_sem] theorem bytes67 : ti67.bytes = 24 := Eq.trans rfl rfl
@[go_sem] theorem zero67 : ti67.zero = [.nil] := Eq.trans rfl rfl
@[go_sem] theorem T68 : T 68 = some ti68 := Eq.trans rfl rfl
@[go_sem] theorem eqok68 : ti68.eqok = false := Eq.trans rfl rfl
@[go_sem] theorem und68 : ti68.und = .func #[] #[52] false := Eq.trans rfl rfl
@[go_sem] theorem size68 : ti68.size = 1 := Eq.trans rfl rfl
@[go_sem] theorem bytes68 : ti68.bytes = 8 := Eq.trans rfl rfl
@[go_sem] theorem zero68 : ti68.zero = [.nilfn] := Eq.trans rfl rfl
@[go_sem] theorem T69 : T 69 = some ti69 := Eq.trans rfl rfl
@[go_sem] theorem eqok69 : ti69.eqok = false := Eq.trans rfl rfl
@[go_sem] theorem und69 : ti69.und = .slice 25 := Eq.trans rfl rfl
@[go_sem] theorem size69 : ti69.size = 1 := Eq.trans rfl rfl
@[go_sem] theorem bytes69 : ti69.bytes = 24 := Eq.trans rfl rfl
@[go_sem] theorem zero69 : ti69.zero = [.nil] := Eq.trans rfl rfl
@[go_sem] theorem T70 : T 70 = some ti70 := Eq.trans rfl rfl
@[go_sem] theorem eqok70 : ti70.eqok = false := Eq.trans rfl rfl
@[go_sem] theorem und70 : ti70.und = .func #[35] #[52] false := Eq.trans rfl rfl
@[go_sem] theorem size70 : ti70.size = 1 := Eq.trans rfl rfl
@[go_sem] theorem bytes70 : ti70.bytes = 8 := Eq.trans rfl rfl
@[go_sem] theorem zero70 : ti70.zero = [.nilfn] := Eq.trans rfl rfl
@[go_sem] theorem T71 : T 71 = some ti71 := Eq.trans rfl rfl
@[go_sem] theorem eqok71 : ti71.eqok = false := Eq.trans rfl rfl
@[go_sem] theorem und71 : ti71.und = .func #[37] #[54] false := Eq.trans rfl rfl
@[go_sem] theorem size71 : ti71.size = 1 := Eq.trans rfl rfl
@[go_sem] theorem bytes71 : ti71.bytes = 8 := Eq.trans rfl rfl
@[go_sem] theorem zero71 : ti71.zero = [.nilfn] := Eq.trans rfl rfl
@[go_sem] theorem T72 : T 72 = some ti72 := Eq.trans rfl rfl
@[go_sem] theorem eqok72 : ti72.eqok = false := Eq.trans rfl rfl
@[go_sem] theorem und72 : ti72.und = .func #[9] #[4] false := Eq.trans rfl rfl
@[go_sem] theorem size72 : ti72.size = 1 := Eq.trans rfl rfl
@[go_sem] theorem bytes72 : ti72.bytes = 8 := Eq.trans rfl rfl
@[go_sem] theorem zero72 : ti72.zero = [.nilfn] := Eq.trans rfl rfl
@[go_sem] theorem T73 : T 73 = some ti73 := Eq.trans rfl rfl
@[go_sem] theorem eqok73 : ti73.eqok = false := Eq.trans rfl rfl
@[go_sem] theorem und73 : ti73.und = .func #[67] #[4] false := Eq.trans rfl rfl
@[go_sem] theorem size73 : ti73.size = 1 := Eq.trans rfl rfl
@[go_sem] theorem bytes73 : ti73.bytes = 8 := Eq.trans rfl rfl
@[go_sem] theorem zero73 : ti73.zero = [.nilfn] := Eq.trans rfl rfl
@[go_sem] theorem T74 : T 74 = some ti74 := Eq.trans rfl rfl
@[go_sem] theorem eqok74 : ti74.eqok = false := Eq.trans rfl rfl
@[go_sem] theorem und74 : ti74.und = .int .u64 := Eq.trans rfl rfl
@[go_sem] theorem size74 : ti74.size = 1 := Eq.trans rfl rfl
@[go_sem] theorem bytes74 : ti74.bytes = 8 := Eq.trans rfl rfl
@[go_sem] theorem zero74 : ti74.zero = [.int .u64 0] := Eq.trans rfl rfl
@[go_sem] theorem T75 : T 75 = some ti75 := Eq.trans rfl rfl
@[go_sem] theorem eqok75 : ti75.eqok = false := Eq.trans rfl rfl
@[go_sem] theorem und75 : ti75.und = .func #[25] #[35] false := Eq.trans rfl rfl
@[go_sem] theorem size75 : ti75.size = 1 := Eq.trans rfl rfl
@[go_sem] theorem bytes75 : ti75.bytes = 8 := Eq.trans rfl rfl
@[go_sem] theorem zero75 : ti75.zero = [.nilfn] := Eq.trans rfl rfl
@[go_sem] theorem T76 : T 76 = some ti76 := Eq.trans rfl rfl
@[go_sem] theorem eqok76 : ti76.eqok = false := Eq.trans rfl rfl
@[go_sem] theorem und76 : ti76.und = .int .u32 := Eq.trans rfl rfl
@[go_sem] theorem size76 : ti76.size = 1 := Eq.trans rfl rfl
@[go_sem] theorem bytes76 : ti76.bytes = 4 := Eq.trans rfl rfl
@[go_sem] theorem zero76 : ti76.zero = [.int .u32 0] := Eq.trans rfl rfl
@[go_sem] theorem T77 : T 77 = some ti77 := Eq.trans rfl rfl
@[go_sem] theorem eqok77 : ti77.eqok = true := Eq.trans rfl rfl
@[go_sem] theorem und77 : ti77.und = .array 5 76 := Eq.trans rfl rfl
@[go_sem] theorem size77 : ti77.size = 5 := Eq.trans rfl rfl
@[go_sem] theorem bytes77 : ti77.bytes = 20 := Eq.trans rfl rfl
@[go_sem] theorem zero77 : ti77.zero = [.int .u32 0, .int .u32 0, .int .u32 0, .int .u32 0, .int .u32 0] := Eq.trans rfl rfl
@[go_sem] theorem T78 : T 78 = some ti78 := Eq.trans rfl rfl
@[go_sem] theorem eqok78 : ti78.eqok = false := Eq.trans rfl rfl
@[go_sem] theorem und78 : ti78.und = .func #[94] #[35] true := Eq.trans rfl rfl
@[go_sem] theorem size78 : ti78.size = 1 := Eq.trans rfl rfl
@[go_sem] theorem bytes78 : ti78.bytes = 8 := Eq.trans rfl rfl
@[go_sem] theorem zero78 : ti78.zero = [.nilfn] := Eq.trans rfl rfl
@[go_sem] theorem T79 : T 79 = some ti79 := Eq.trans rfl rfl
@[go_sem] theorem eqok79 : ti79.eqok = false := Eq.trans rfl rfl
@[go_sem] theorem und79 : ti79.und = .func #[3] #[35] false := Eq.trans rfl rfl
@[go_sem] theorem size79 : ti79.size = 1 := Eq.trans rfl rfl
@[go_sem] theorem bytes79 : ti79.bytes = 8 := Eq.trans rfl rfl
@[go_sem] theorem zero79 : ti79.zero = [.nilfn] := Eq.trans rfl rfl
@[go_sem] theorem T80 : T 80 = some ti80 := Eq.trans rfl rfl
@[go_sem] theorem eqok80 : ti80.eqok = false := Eq.trans rfl rfl
@[go_sem] theorem und80 : ti80.und = .func #[77, 35] #[77] false := Eq.trans rfl rfl
@[go_sem] theorem size80 : ti80.size = 1 := Eq.trans rfl rfl
@[go_sem] theorem bytes80 : ti80.bytes = 8 := Eq.trans rfl rfl
@[go_sem] theorem zero80 : ti80.zero = [.nilfn] := Eq.trans rfl rfl
@[go_sem] theorem T81 : T 81 = some ti81 := Eq.trans rfl rfl
@[go_sem] theorem eqok81 : ti81.eqok = false := Eq.trans rfl rfl
@[go_sem] theorem und81 : ti81.und = .pointer 85 := Eq.trans rfl rfl
@[go_sem] theorem size81 : ti81.size = 1 := Eq.trans rfl rfl
@[go_sem] theorem bytes81 : ti81.bytes = 8 := Eq.trans rfl rfl
@[go_sem] theorem zero81 : ti81.zero = [.nilp] := Eq.trans rfl rfl
@[go_sem] theorem T82 : T 82 = some ti82 := Eq.trans rfl rfl
@[go_sem] theorem eqok82 : ti82.eqok = false := Eq.trans rfl rfl
@[go_sem] theorem und82 : ti82.und = .struct #[{ name := "b", type := 35, offset := 0, embedded := false, tag := "", pkgPath := "bitloft/member", byteOffset := 0 }, { name := "at", type := 3, offset := 1, embedded := false, tag := "", pkgPath := "bitloft/member", byteOffset := 24 }] := Eq.trans rfl rfl
@[go_sem] theorem size82 : ti82.size = 2 := Eq.trans rfl rfl
@[go_sem] theorem bytes82 : ti82.bytes = 32 := Eq.trans rfl rfl
@[go_sem] theorem zero82 : ti82.zero = [.nil, .int .i64 0] := Eq.trans rfl rfl
@[go_sem] theorem T83 : T 83 = some ti83 := Eq.trans rfl rfl
@[go_sem] theorem eqok83 : ti83.eqok = false := Eq.trans rfl rfl
@[go_sem] theorem und83 : ti83.und = .struct #[{ name := "b", type := 35, offset := 0, embedded := false, tag := "", pkgPath := "bitloft/member", byteOffset := 0 }, { name := "at", type := 3, offset := 1, embedded := false, tag := "", pkgPath := "bitloft/member", byteOffset := 24 }] := Eq.trans rfl rfl
@[go_sem] theorem size83 : ti83.size = 2 := Eq.trans rfl rfl
@[go_sem] theorem bytes83 : ti83.bytes = 32 := Eq.trans rfl rfl
@[go_sem] theorem zero83 : ti83.zero = [.nil, .int .i64 0] := Eq.trans rfl rfl
@[go_sem] theorem T84 : T 84 = some ti84 := Eq.trans rfl rfl
@[go_sem] theorem eqok84 : ti84.eqok = false := Eq.trans rfl rfl
@[go_sem] theorem und84 : ti84.und = .struct #[{ name := "source", type := 83, offset := 0, embedded := true, tag := "", pkgPath := "bitloft/member", byteOffset := 0 }] := Eq.trans rfl rfl
@[go_sem] theorem size84 : ti84.size = 2 := Eq.trans rfl rfl
@[go_sem] theorem bytes84 : ti84.bytes = 32 := Eq.trans rfl rfl
@[go_sem] theorem zero84 : ti84.zero = [.nil, .int .i64 0] := Eq.trans rfl rfl
@[go_sem] theorem T85 : T 85 = some ti85 := Eq.trans rfl rfl
@[go_sem] theorem eqok85 : ti85.eqok = false := Eq.trans rfl rfl
@[go_sem] theorem und85 : ti85.und = .struct #[{ name := "source", type := 83, offset := 0, embedded := true, tag := "", pkgPath := "bitloft/member", byteOffset := 0 }] := Eq.trans rfl rfl
@[go_sem] theorem size85 : ti85.size = 2 := Eq.trans rfl rfl
@[go_sem] theorem bytes85 : ti85.bytes = 32 := Eq.trans rfl rfl
@[go_sem] theorem zero85 : ti85.zero = [.nil, .int .i64 0] := Eq.trans rfl rfl
@[go_sem] theorem T86 : T 86 = some ti86 := Eq.trans rfl rfl
@[go_sem] theorem eqok86 : ti86.eqok = false := Eq.trans rfl rfl
@[go_sem] theorem und86 : ti86.und = .interface #[("Error", 133)] := Eq.trans rfl rfl
@[go_sem] theorem size86 : ti86.size = 1 := Eq.trans rfl rfl
@[go_sem] theorem bytes86 : ti86.bytes = 16 := Eq.trans rfl rfl
@[go_sem] theorem zero86 : ti86.zero = [.nilif] := Eq.trans rfl rfl
@[go_sem] theorem T87 : T 87 = some ti87 := Eq.trans rfl rfl
@[go_sem] theorem eqok87 : ti87.eqok = false := Eq.trans rfl rfl
@[go_sem] theorem und87 : ti87.und = .interface #[("Error", 133)] := Eq.trans rfl rfl
@[go_sem] theorem size87 : ti87.size = 1 := Eq.trans rfl rfl
@[go_sem] theorem bytes87 : ti87.bytes = 16 := Eq.trans rfl rfl
@[go_sem] theorem zero87 : ti87.zero = [.nilif] := Eq.trans rfl rfl
@[go_sem] theorem T89 : T 89 = some ti89 := Eq.trans rfl rfl
@[go_sem] theorem eqok89 : ti89.eqok = false := Eq.trans rfl rfl
@[go_sem] theorem und89 : ti89.und = .func #[] #[54, 87] false := Eq.trans rfl rfl
@[go_sem] theorem size89 : ti89.size = 1 := Eq.trans rfl rfl
@[go_sem] theorem bytes89 : ti89.bytes = 8 := Eq.trans rfl rfl
@[go_sem] theorem zero89 : ti89.zero = [.nilfn] := Eq.trans rfl rfl
@[go_sem] theorem T90 : T 90 = some ti90 := Eq.trans rfl rfl
@[go_sem] theorem eqok90 : ti90.eqok = false := Eq.trans rfl rfl
@[go_sem] theorem und90 : ti90.und = .func #[87, 20] #[4] false := Eq.trans rfl rfl
@[go_sem] theorem size90 : ti90.size = 1 := Eq.trans rfl rfl
@[go_sem] theorem bytes90 : ti90.bytes = 8 := Eq.trans rfl rfl
@[go_sem] theorem zero90 : ti90.zero = [.nilfn] := Eq.trans rfl rfl
@[go_sem] theorem T91 : T 91 = some ti91 := Eq.trans rfl rfl
@[go_sem] theorem eqok91 : ti91.eqok = false := Eq.trans rfl rfl
@[go_sem] theorem und91 : ti91.und = .pointer 26 := Eq.trans rfl rfl
@[go_sem] theorem size91 : ti91.size = 1 := Eq.trans rfl rfl
@[go_sem] theorem bytes91 : ti91.bytes = 8 := Eq.trans rfl rfl
@[go_sem] theorem zero91 : ti91.zero = [.nilp] := Eq.trans rfl rfl
@[go_sem] theorem T92 : T 92 = some ti92 := Eq.trans rfl rfl
@[go_sem] theorem eqok92 : ti92.eqok = false := Eq.trans rfl rfl
@[go_sem] theorem und92 : ti92.und = .map 9 4 := Eq.trans rfl rfl
@[go_sem] theorem size92 : ti92.size = 1 := Eq.trans rfl rfl
@[go_sem] theorem bytes92 : ti92.bytes = 8 := Eq.trans rfl rfl
@[go_sem] theorem zero92 : ti92.zero = [.nilmap] := Eq.trans rfl rfl
@[go_sem] theorem T93 : T 93 = some ti93 := Eq.trans rfl rfl
@[go_sem] theorem eqok93 : ti93.eqok = false := Eq.trans rfl rfl
@[go_sem] theorem und93 : ti93.und = .func #[] #[77] false := Eq.trans rfl rfl
@[go_sem] theorem size93 : ti93.size = 1 := Eq.trans rfl rfl
@[go_sem] theorem bytes93 : ti93.bytes = 8 := Eq.trans rfl rfl
@[go_sem] theorem zero93 : ti93.zero = [.nilfn] := Eq.trans rfl rfl
@[go_sem] theorem T94 : T 94 = some ti94 := Eq.trans rfl rfl
@[go_sem] theorem eqok94 : ti94.eqok = false := Eq.trans rfl rfl
@[go_sem] theorem und94 : ti94.und = .slice 35 := Eq.trans rfl rfl
@[go_sem] theorem size94 : ti94.size = 1 := Eq.trans rfl rfl
@[go_sem] theorem bytes94 : ti94.bytes = 24 := Eq.trans rfl rfl
@[go_sem] theorem zero94 : ti94.zero = [.nil] := Eq.trans rfl rfl
@[go_sem] theorem T95 : T 95 = some ti95 := Eq.trans rfl rfl
@[go_sem] theorem eqok95 : ti95.eqok = false := Eq.trans rfl rfl
@[go_sem] theorem und95 : ti95.und = .func #[35, 3] #[35] false := Eq.trans rfl rfl
@[go_sem] theorem size95 : ti95.size = 1 := Eq.trans rfl rfl
@[go_sem] theorem bytes95 : ti95.bytes = 8 := Eq.trans rfl rfl
@[go_sem] theorem zero95 : ti95.zero = [.nilfn] := Eq.trans rfl rfl
@[go_sem] theorem T96 : T 96 = some ti96 := Eq.trans rfl rfl
@[go_sem] theorem eqok96 : ti96.eqok = false := Eq.trans rfl rfl
@[go_sem] theorem und96 : ti96.und = .int .u64 := Eq.trans rfl rfl
@[go_sem] theorem size96 : ti96.size = 1 := Eq.trans rfl rfl
@[go_sem] theorem bytes96 : ti96.bytes = 8 := Eq.trans rfl rfl
@[go_sem] theorem zero96 : ti96.zero = [.int .u64 0] := Eq.trans rfl rfl
@[go_sem] theorem T97 : T 97 = some ti97 := Eq.trans rfl rfl
@[go_sem] theorem eqok97 : ti97.eqok = true := Eq.trans rfl rfl
@[go_sem] theorem und97 : ti97.und = .array 16 76 := Eq.trans rfl rfl
@[go_sem] theorem size97 : ti97.size = 16 := Eq.trans rfl rfl
@[go_sem] theorem bytes97 : ti97.bytes = 64 := Eq.trans rfl rfl
@[go_sem] theorem zero97 : ti97.zero = [.int .u32 0, .int .u32 0, .int .u32 0, .int .u32 0, .int .u32 0, .int .u32 0, .int .u32 0, .int .u32 0, .int .u32 0, .int .u32 0, .int .u32 0, .int .u32 0, .int .u32 0, .int .u32 0, .int .u32 0, .int .u32 0] := Eq.trans rfl rfl
@[go_sem] theorem T98 : T 98 = some ti98 := Eq.trans rfl rfl
@[go_sem] theorem eqok98 : ti98.eqok = false := Eq.trans rfl rfl
@[go_sem] theorem und98 : ti98.und = .func #[76, 3] #[76] false := Eq.trans rfl rfl
@[go_sem] theorem size98 : ti98.size = 1 := Eq.trans rfl rfl
@[go_sem] theorem bytes98 : ti98.bytes = 8 := Eq.trans rfl rfl
@[go_sem] theorem zero98 : ti98.zero = [.nilfn] := Eq.trans rfl rfl
@[go_sem] theorem T99 : T 99 = some ti99 := Eq.trans rfl rfl
@[go_sem] theorem eqok99 : ti99.eqok = false := Eq.trans rfl rfl
@[go_sem] theorem und99 : ti99.und = .func #[3, 76, 76, 76] #[76] false := Eq.trans rfl rfl
@[go_sem] theorem size99 : ti99.size = 1 := Eq.trans rfl rfl
@[go_sem] theorem bytes99 : ti99.bytes = 8 := Eq.trans rfl rfl
@[go_sem] theorem zero99 : ti99.zero = [.nilfn] := Eq.trans rfl rfl
@[go_sem] theorem T100 : T 100 = some ti100 := Eq.trans rfl rfl
@[go_sem] theorem eqok100 : ti100.eqok = true := Eq.trans rfl rfl
@[go_sem] theorem und100 : ti100.und = .array 4 76 := Eq.trans rfl rfl
@[go_sem] theorem size100 : ti100.size = 4 := Eq.trans rfl rfl
@[go_sem] theorem bytes100 : ti100.bytes = 16 := Eq.trans rfl rfl
@[go_sem] theorem zero100 : ti100.zero = [.int .u32 0, .int .u32 0, .int .u32 0, .int .u32 0] := Eq.trans rfl rfl
@[go_sem] theorem T102 : T 102 = some ti102 := Eq.trans rfl rfl
@[go_sem] theorem eqok102 : ti102.eqok = false := Eq.trans rfl rfl
@[go_sem] theorem und102 : ti102.und = .func #[3] #[35, 87] false := Eq.trans rfl rfl
@[go_sem] theorem size102 : ti102.size = 1 := Eq.trans rfl rfl
@[go_sem] theorem bytes102 : ti102.bytes = 8 := Eq.trans rfl rfl
@[go_sem] theorem zero102 : ti102.zero = [.nilfn] := Eq.trans rfl rfl
@[go_sem] theorem T104 : T 104 = some ti104 := Eq.trans rfl rfl
@[go_sem] theorem eqok104 : ti104.eqok = false := Eq.trans rfl rfl
@[go_sem] theorem und104 : ti104.und = .int .u64 := Eq.trans rfl rfl
@[go_sem] theorem size104 : ti104.size = 1 := Eq.trans rfl rfl
@[go_sem] theorem bytes104 : ti104.bytes = 8 := Eq.trans rfl rfl
@[go_sem] theorem zero104 : ti104.zero = [.int .u64 0] := Eq.trans rfl rfl
@[go_sem] theorem T105 : T 105 = some ti105 := Eq.trans rfl rfl
@[go_sem] theorem eqok105 : ti105.eqok = false := Eq.trans rfl rfl
@[go_sem] theorem und105 : ti105.und = .struct #[{ name := "typ_", type := 17, offset := 0, embedded := false, tag := "", pkgPath := "internal/reflectlite", byteOffset := 0 }, { name := "ptr", type := 103, offset := 1, embedded := false, tag := "", pkgPath := "internal/reflectlite", byteOffset := 8 }, { name := "flag", type := 104, offset := 2, embedded := true, tag := "", pkgPath := "internal/reflectlite", byteOffset := 16 }] := Eq.trans rfl rfl
@[go_sem] theorem size105 : ti105.size = 3 := Eq.trans rfl rfl
@[go_sem] theorem bytes105 : ti105.bytes = 24 := Eq.trans rfl rfl
@[go_sem] theorem zero105 : ti105.zero = [.nilp, .nilp, .int .u64 0] := Eq.trans rfl rfl
@[go_sem] theorem T106 : T 106 = some ti106 := Eq.trans rfl rfl
@[go_sem] theorem eqok106 : ti106.eqok = false := Eq.trans rfl rfl
@[go_sem] theorem und106 : ti106.und = .struct #[{ name := "typ_", type := 17, offset := 0, embedded := false, tag := "", pkgPath := "internal/reflectlite", byteOffset := 0 }, { name := "ptr", type := 103, offset := 1, embedded := false, tag := "", pkgPath := "internal/reflectlite", byteOffset := 8 }, { name := "flag", type := 104, offset := 2, embedded := true, tag := "", pkgPath := "internal/reflectlite", byteOffset := 16 }] := Eq.trans rfl rfl
@[go_sem] theorem size106 : ti106.size = 3 := Eq.trans rfl rfl
@[go_sem] theorem bytes106 : ti106.bytes = 24 := Eq.trans rfl rfl
@[go_sem] theorem zero106 : ti106.zero = [.nilp, .nilp, .int .u64 0] := Eq.trans rfl rfl
@[go_sem] theorem T107 : T 107 = some ti107 := Eq.trans rfl rfl
@[go_sem] theorem eqok107 : ti107.eqok = false := Eq.trans rfl rfl
@[go_sem] theorem und107 : ti107.und = .func #[20] #[106] false := Eq.trans rfl rfl
@[go_sem] theorem size107 : ti107.size = 1 := Eq.trans rfl rfl
@[go_sem] theorem bytes107 : ti107.bytes = 8 := Eq.trans rfl rfl
@[go_sem] theorem zero107 : ti107.zero = [.nilfn] := Eq.trans rfl rfl
@[go_sem] theorem T108 : T 108 = some ti108 := Eq.trans rfl rfl
@[go_sem] theorem eqok108 : ti108.eqok = false := Eq.trans rfl rfl
@[go_sem] theorem und108 : ti108.und = .interface #[("AssignableTo", 113), ("Comparable", 58), ("Elem", 110), ("Implements", 113), ("Kind", 112), ("Name", 133), ("PkgPath", 133), ("Size", 148), ("String", 133), ("internal/reflectlite.common", 140), ("internal/reflectlite.uncommon", 149)] := Eq.trans rfl rfl
@[go_sem] theorem size108 : ti108.size = 1 := Eq.trans rfl rfl
@[go_sem] theorem bytes108 : ti108.bytes = 16 := Eq.trans rfl rfl
@[go_sem] theorem zero108 : ti108.zero = [.nilif] := Eq.trans rfl rfl
@[go_sem] theorem T109 : T 109 = some ti109 := Eq.trans rfl rfl
@[go_sem] theorem eqok109 : ti109.eqok = false := Eq.trans rfl rfl
@[go_sem] theorem und109 : ti109.und = .interface #[("AssignableTo", 113), ("Comparable", 58), ("Elem", 110), ("Implements", 113), ("Kind", 112), ("Name", 133), ("PkgPath", 133), ("Size", 148), ("String", 133), ("internal/reflectlite.common", 140), ("internal/reflectlite.uncommon", 149)] := Eq.trans rfl rfl
@[go_sem] theorem size109 : ti109.size = 1 := Eq.trans rfl rfl
@[go_sem] theorem bytes109 : ti109.bytes = 16 := Eq.trans rfl rfl
@[go_sem] theorem zero109 : ti109.zero = [.nilif] := Eq.trans rfl rfl
@[go_sem] theorem T110 : T 110 = some ti110 := Eq.trans rfl rfl
@[go_sem] theorem eqok110 : ti110.eqok = false := Eq.trans rfl rfl
@[go_sem] theorem und110 : ti110.und = .func #[] #[109] false := Eq.trans rfl rfl
@[go_sem] theorem size110 : ti110.size = 1 := Eq.trans rfl rfl
@[go_sem] theorem bytes110 : ti110.bytes = 8 := Eq.trans rfl rfl
@[go_sem] theorem zero110 : ti110.zero = [.nilfn] := Eq.trans rfl rfl
@[go_sem] theorem T111 : T 111 = some ti111 := Eq.trans rfl rfl
@[go_sem] theorem eqok111 : ti111.eqok = false := Eq.trans rfl rfl
@[go_sem] theorem und111 : ti111.und = .int .u8 := Eq.trans rfl rfl
@[go_sem] theorem size111 : ti111.size = 1 := Eq.trans rfl rfl
@[go_sem] theorem bytes111 : ti111.bytes = 1 := Eq.trans rfl rfl
@[go_sem] theorem zero111 : ti111.zero = [.int .u8 0] := Eq.trans rfl rfl
@[go_sem] theorem T112 : T 112 = some ti112 := Eq.trans rfl rfl
@[go_sem] theorem eqok112 : ti112.eqok = false := Eq.trans rfl rfl
@[go_sem] theorem und112 : ti112.und = .func #[] #[111] false := Eq.trans rfl rfl
@[go_sem] theorem size112 : ti112.size = 1 := Eq.trans rfl rfl
@[go_sem] theorem bytes112 : ti112.bytes = 8 := Eq.trans rfl rfl
@[go_sem] theorem zero112 : ti112.zero = [.nilfn] := Eq.trans rfl rfl
@[go_sem] theorem T113 : T 113 = some ti113 := Eq.trans rfl rfl
@[go_sem] theorem eqok113 : ti113.eqok = false := Eq.trans rfl rfl
@[go_sem] theorem und113 : ti113.und = .func #[109] #[4] false := Eq.trans rfl rfl
@[go_sem] theorem size113 : ti113.size = 1 := Eq.trans rfl rfl
@[go_sem] theorem bytes113 : ti113.bytes = 8 := Eq.trans rfl rfl
@[go_sem] theorem zero113 : ti113.zero = [.nilfn] := Eq.trans rfl rfl
@[go_sem] theorem T114 : T 114 = some ti114 := Eq.trans rfl rfl
@[go_sem] theorem eqok114 : ti114.eqok = false := Eq.trans rfl rfl
@[go_sem] theorem und114 : ti114.und = .func #[87, 20, 106, 109] #[4] false := Eq.trans rfl rfl
@[go_sem] theorem size114 : ti114.size = 1 := Eq.trans rfl rfl
@[go_sem] theorem bytes114 : ti114.bytes = 8 := Eq.trans rfl rfl
@[go_sem] theorem zero114 : ti114.zero = [.nilfn] := Eq.trans rfl rfl
@[go_sem] theorem T115 : T 115 = some ti115 := Eq.trans rfl rfl
@[go_sem] theorem eqok115 : ti115.eqok = false := Eq.trans rfl rfl
@[go_sem] theorem und115 : ti115.und = .slice 76 := Eq.trans rfl rfl
@[go_sem] theorem size115 : ti115.size = 1 := Eq.trans rfl rfl
@[go_sem] theorem bytes115 : ti115.bytes = 24 := Eq.trans rfl rfl
@[go_sem] theorem zero115 : ti115.zero = [.nil] := Eq.trans rfl rfl
@[go_sem] theorem T117 : T 117 = some ti117 := Eq.trans rfl rfl
@[go_sem] theorem eqok117 : ti117.eqok = false := Eq.trans rfl rfl
@[go_sem] theorem und117 : ti117.und = .func #[3, 76, 76, 76] #[76, 76] false := Eq.trans rfl rfl
@[go_sem] theorem size117 : ti117.size = 1 := Eq.trans rfl rfl
@[go_sem] theorem bytes117 : ti117.bytes = 8 := Eq.trans rfl rfl
@[go_sem] theorem zero117 : ti117.zero = [.nilfn] := Eq.trans rfl rfl
@[go_sem] theorem T118 : T 118 = some ti118 := Eq.trans rfl rfl
@[go_sem] theorem eqok118 : ti118.eqok = false := Eq.trans rfl rfl
@[go_sem] theorem und118 : ti118.und = .pointer 83 := Eq.trans rfl rfl
@[go_sem] theorem size118 : ti118.size = 1 := Eq.trans rfl rfl
@[go_sem] theorem bytes118 : ti118.bytes = 8 := Eq.trans rfl rfl
@[go_sem] theorem zero118 : ti118.zero = [.nilp] := Eq.trans rfl rfl
@[go_sem] theorem T119 : T 119 = some ti119 := Eq.trans rfl rfl
@[go_sem] theorem eqok119 : ti119.eqok = false := Eq.trans rfl rfl
@[go_sem] theorem und119 : ti119.und = .struct #[{ name := "Type", type := 17, offset := 0, embedded := true, tag := "", pkgPath := "", byteOffset := 0 }] := Eq.trans rfl rfl
@[go_sem] theorem size119 : ti119.size = 1 := Eq.trans rfl rfl
@[go_sem] theorem bytes119 : ti119.bytes = 8 := Eq.trans rfl rfl
@[go_sem] theorem zero119 : ti119.zero = [.nilp] := Eq.trans rfl rfl
@[go_sem] theorem T120 : T 120 = some ti120 := Eq.trans rfl rfl
@[go_sem] theorem eqok120 : ti120.eqok = false := Eq.trans rfl rfl
@[go_sem] theorem und120 : ti120.und = .struct #[{ name := "Type", type := 17, offset := 0, embedded := true, tag := "", pkgPath := "", byteOffset := 0 }] := Eq.trans rfl rfl
@[go_sem] theorem size120 : ti120.size = 1 := Eq.trans rfl rfl
@[go_sem] theorem bytes120 : ti120.bytes = 8 := Eq.trans rfl rfl
@[go_sem] theorem zero120 : ti120.zero = [.nilp] := Eq.trans rfl rfl
@[go_sem] theorem T121 : T 121 = some ti121 := Eq.trans rfl rfl
@[go_sem] theorem eqok121 : ti121.eqok = false := Eq.trans rfl rfl
@[go_sem] theorem und121 : ti121.und = .pointer 151 := Eq.trans rfl rfl
@[go_sem] theorem size121 : ti121.size = 1 := Eq.trans rfl rfl
@[go_sem] theorem bytes121 : ti121.bytes = 8 := Eq.trans rfl rfl
@[go_sem] theorem zero121 : ti121.zero = [.nilp] := Eq.trans rfl rfl
@[go_sem] theorem T122 : T 122 = some ti122 := Eq.trans rfl rfl
@[go_sem] theorem eqok122 : ti122.eqok = false := Eq.trans rfl rfl
@[go_sem] theorem und122 : ti122.und = .func #[20] #[109] false := Eq.trans rfl rfl
@[go_sem] theorem size122 : ti122.size = 1 := Eq.trans rfl rfl
@[go_sem] theorem bytes122 : ti122.bytes = 8 := Eq.trans rfl rfl
@[go_sem] theorem zero122 : ti122.zero = [.nilfn] := Eq.trans rfl rfl
@[go_sem] theorem T123 : T 123 = some ti123 := Eq.trans rfl rfl
@[go_sem] theorem eqok123 : ti123.eqok = false := Eq.trans rfl rfl
@[go_sem] theorem und123 : ti123.und = .func #[] #[106] false := Eq.trans rfl rfl
@[go_sem] theorem size123 : ti123.size = 1 := Eq.trans rfl rfl
@[go_sem] theorem bytes123 : ti123.bytes = 8 := Eq.trans rfl rfl
@[go_sem] theorem zero123 : ti123.zero = [.nilfn] := Eq.trans rfl rfl
@[go_sem] theorem T124 : T 124 = some ti124 := Eq.trans rfl rfl
@[go_sem] theorem eqok124 : ti124.eqok = false := Eq.trans rfl rfl
@[go_sem] theorem und124 : ti124.und = .func #[106] #[] false := Eq.trans rfl rfl
@[go_sem] theorem size124 : ti124.size = 1 := Eq.trans rfl rfl
@[go_sem] theorem bytes124 : ti124.bytes = 8 := Eq.trans rfl rfl
@[go_sem] theorem zero124 : ti124.zero = [.nilfn] := Eq.trans rfl rfl
@[go_sem] theorem T125 : T 125 = some ti125 := Eq.trans rfl rfl
@[go_sem] theorem eqok125 : ti125.eqok = false := Eq.trans rfl rfl
@[go_sem] theorem und125 : ti125.und = .interface #[("As", 127)] := Eq.trans rfl rfl
@[go_sem] theorem size125 : ti125.size = 1 := Eq.trans rfl rfl
@[go_sem] theorem bytes125 : ti125.bytes = 16 := Eq.trans rfl rfl
@[go_sem] theorem zero125 : ti125.zero = [.nilif] := Eq.trans rfl rfl
@[go_sem] theorem T127 : T 127 = some ti127 := Eq.trans rfl rfl
@[go_sem] theorem eqok127 : ti127.eqok = false := Eq.trans rfl rfl
@[go_sem] theorem und127 : ti127.und = .func #[20] #[4] false := Eq.trans rfl rfl
@[go_sem] theorem size127 : ti127.size = 1 := Eq.trans rfl rfl
@[go_sem] theorem bytes127 : ti127.bytes = 8 := Eq.trans rfl rfl
@[go_sem] theorem zero127 : ti127.zero = [.nilfn] := Eq.trans rfl rfl
@[go_sem] theorem T128 : T 128 = some ti128 := Eq.trans rfl rfl
@[go_sem] theorem eqok128 : ti128.eqok = false := Eq.trans rfl rfl
@[go_sem] theorem und128 : ti128.und = .interface #[("Unwrap", 129)] := Eq.trans rfl rfl
@[go_sem] theorem size128 : ti128.size = 1 := Eq.trans rfl rfl
@[go_sem] theorem bytes128 : ti128.bytes = 16 := Eq.trans rfl rfl
@[go_sem] theorem zero128 : ti128.zero = [.nilif] := Eq.trans rfl rfl
@[go_sem] theorem T129 : T 129 = some ti129 := Eq.trans rfl rfl
@[go_sem] theorem eqok129 : ti129.eqok = false := Eq.trans rfl rfl
@[go_sem] theorem und129 : ti129.und = .func #[] #[87] false := Eq.trans rfl rfl
@[go_sem] theorem size129 : ti129.size = 1 := Eq.trans rfl rfl
@[go_sem] theorem bytes129 : ti129.bytes = 8 := Eq.trans rfl rfl
@[go_sem] theorem zero129 : ti129.zero = [.nilfn] := Eq.trans rfl rfl
@[go_sem] theorem T130 : T 130 = some ti130 := Eq.trans rfl rfl
@[go_sem] theorem eqok130 : ti130.eqok = false := Eq.trans rfl rfl
@[go_sem] theorem und130 : ti130.und = .interface #[("Unwrap", 132)] := Eq.trans rfl rfl
@[go_sem] theorem size130 : ti130.size = 1 := Eq.trans rfl rfl
@[go_sem] theorem bytes130 : ti130.bytes = 16 := Eq.trans rfl rfl
@[go_sem] theorem zero130 : ti130.zero = [.nilif] := Eq.trans rfl rfl
@[go_sem] theorem T131 : T 131 = some ti131 := Eq.trans rfl rfl
@[go_sem] theorem eqok131 : ti131.eqok = false := Eq.trans rfl rfl
@[go_sem] theorem und131 : ti131.und = .slice 87 := Eq.trans rfl rfl
@[go_sem] theorem size131 : ti131.size = 1 := Eq.trans rfl rfl
@[go_sem] theorem bytes131 : ti131.bytes = 24 := Eq.trans rfl rfl
@[go_sem] theorem zero131 : ti131.zero = [.nil] := Eq.trans rfl rfl
@[go_sem] theorem T132 : T 132 = some ti132 := Eq.trans rfl rfl
@[go_sem] theorem eqok132 : ti132.eqok = false := Eq.trans rfl rfl
@[go_sem] theorem und132 : ti132.und = .func #[] #[131] false := Eq.trans rfl rfl
@[go_sem] theorem size132 : ti132.size = 1 := Eq.trans rfl rfl
@[go_sem] theorem bytes132 : ti132.bytes = 8 := Eq.trans rfl rfl
@[go_sem] theorem zero132 : ti132.zero = [.nilfn] := Eq.trans rfl rfl
@[go_sem] theorem T133 : T 133 = some ti133 := Eq.trans rfl rfl
@[go_sem] theorem eqok133 : ti133.eqok = false := Eq.trans rfl rfl
@[go_sem] theorem und133 : ti133.und = .func #[] #[9] false := Eq.trans rfl rfl
@[go_sem] theorem size133 : ti133.size = 1 := Eq.trans rfl rfl
@[go_sem] theorem bytes133 : ti133.bytes = 8 := Eq.trans rfl rfl
@[go_sem] theorem zero133 : ti133.zero = [.nilfn] := Eq.trans rfl rfl
@[go_sem] theorem T134 : T 134 = some ti134 := Eq.trans rfl rfl
@[go_sem] theorem eqok134 : ti134.eqok = false := Eq.trans rfl rfl
@[go_sem] theorem und134 : ti134.und = .struct #[{ name := "_interface", type := 17, offset := 0, embedded := false, tag := "", pkgPath := "runtime", byteOffset := 0 }, { name := "concrete", type := 17, offset := 1, embedded := false, tag := "", pkgPath := "runtime", byteOffset := 8 }, { name := "asserted", type := 17, offset := 2, embedded := false, tag := "", pkgPath := "runtime", byteOffset := 16 }, { name := "missingMethod", type := 9, offset := 3, embedded := false, tag := "", pkgPath := "runtime", byteOffset := 24 }] := Eq.trans rfl rfl
@[go_sem] theorem size134 : ti134.size = 4 := Eq.trans rfl rfl
@[go_sem] theorem bytes134 : ti134.bytes = 40 := Eq.trans rfl rfl
@[go_sem] theorem zero134 : ti134.zero = [.nilp, .nilp, .nilp, .str .empty] := Eq.trans rfl rfl
@[go_sem] theorem T135 : T 135 = some ti135 := Eq.trans rfl rfl
@[go_sem] theorem eqok135 : ti135.eqok = false := Eq.trans rfl rfl
@[go_sem] theorem und135 : ti135.und = .struct #[{ name := "_interface", type := 17, offset := 0, embedded := false, tag := "", pkgPath := "runtime", byteOffset := 0 }, { name := "concrete", type := 17, offset := 1, embedded := false, tag := "", pkgPath := "runtime", byteOffset := 8 }, { name := "asserted", type := 17, offset := 2, embedded := false, tag := "", pkgPath := "runtime", byteOffset := 16 }, { name := "missingMethod", type := 9, offset := 3, embedded := false, tag := "", pkgPath := "runtime", byteOffset := 24 }] := Eq.trans rfl rfl
@[go_sem] theorem size135 : ti135.size = 4 := Eq.trans rfl rfl
@[go_sem] theorem bytes135 : ti135.bytes = 40 := Eq.trans rfl rfl
@[go_sem] theorem zero135 : ti135.zero = [.nilp, .nilp, .nilp, .str .empty] := Eq.trans rfl rfl
@[go_sem] theorem T139 : T 139 = some ti139 := Eq.trans rfl rfl
@[go_sem] theorem eqok139 : ti139.eqok = false := Eq.trans rfl rfl
@[go_sem] theorem und139 : ti139.und = .func #[] #[3] false := Eq.trans rfl rfl
@[go_sem] theorem size139 : ti139.size = 1 := Eq.trans rfl rfl
@[go_sem] theorem bytes139 : ti139.bytes = 8 := Eq.trans rfl rfl
@[go_sem] theorem zero139 : ti139.zero = [.nilfn] := Eq.trans rfl rfl
@[go_sem] theorem T140 : T 140 = some ti140 := Eq.trans rfl rfl
@[go_sem] theorem eqok140 : ti140.eqok = false := Eq.trans rfl rfl
@[go_sem] theorem und140 : ti140.und = .func #[] #[17] false := Eq.trans rfl rfl
@[go_sem] theorem size140 : ti140.size = 1 := Eq.trans rfl rfl
@[go_sem] theorem bytes140 : ti140.bytes = 8 := Eq.trans rfl rfl
@[go_sem] theorem zero140 : ti140.zero = [.nilfn] := Eq.trans rfl rfl
@[go_sem] theorem T141 : T 141 = some ti141 := Eq.trans rfl rfl
@[go_sem] theorem eqok141 : ti141.eqok = false := Eq.trans rfl rfl
@[go_sem] theorem und141 : ti141.und = .int .u8 := Eq.trans rfl rfl
@[go_sem] theorem size141 : ti141.size = 1 := Eq.trans rfl rfl
@[go_sem] theorem bytes141 : ti141.bytes = 1 := Eq.trans rfl rfl
@[go_sem] theorem zero141 : ti141.zero = [.int .u8 0] := Eq.trans rfl rfl
@[go_sem] theorem T142 : T 142 = some ti142 := Eq.trans rfl rfl
@[go_sem] theorem eqok142 : ti142.eqok = false := Eq.trans rfl rfl
@[go_sem] theorem und142 : ti142.und = .func #[103, 103] #[4] false := Eq.trans rfl rfl
@[go_sem] theorem size142 : ti142.size = 1 := Eq.trans rfl rfl
@[go_sem] theorem bytes142 : ti142.bytes = 8 := Eq.trans rfl rfl
@[go_sem] theorem zero142 : ti142.zero = [.nilfn] := Eq.trans rfl rfl
@[go_sem] theorem T143 : T 143 = some ti143 := Eq.trans rfl rfl
@[go_sem] theorem eqok143 : ti143.eqok = false := Eq.trans rfl rfl
@[go_sem] theorem und143 : ti143.und = .pointer 5 := Eq.trans rfl rfl
@[go_sem] theorem size143 : ti143.size = 1 := Eq.trans rfl rfl
@[go_sem] theorem bytes143 : ti143.bytes = 8 := Eq.trans rfl rfl
@[go_sem] theorem zero143 : ti143.zero = [.nilp] := Eq.trans rfl rfl
@[go_sem] theorem T144 : T 144 = some ti144 := Eq.trans rfl rfl
@[go_sem] theorem eqok144 : ti144.eqok = false := Eq.trans rfl rfl
@[go_sem] theorem und144 : ti144.und = .int .i32 := Eq.trans rfl rfl
@[go_sem] theorem size144 : ti144.size = 1 := Eq.trans rfl rfl
@[go_sem] theorem bytes144 : ti144.bytes = 4 := Eq.trans rfl rfl
@[go_sem] theorem zero144 : ti144.zero = [.int .i32 0] := Eq.trans rfl rfl
@[go_sem] theorem T145 : T 145 = some ti145 := Eq.trans rfl rfl
@[go_sem] theorem eqok145 : ti145.eqok = false := Eq.trans rfl rfl
@[go_sem] theorem und145 : ti145.und = .int .i32 := Eq.trans rfl rfl
@[go_sem] theorem size145 : ti145.size = 1 := Eq.trans rfl rfl
@[go_sem] theorem bytes145 : ti145.bytes = 4 := Eq.trans rfl rfl
@[go_sem] theorem zero145 : ti145.zero = [.int .i32 0] := Eq.trans rfl rfl
@[go_sem] theorem T146 : T 146 = some ti146 := Eq.trans rfl rfl
@[go_sem] theorem eqok146 : ti146.eqok = false := Eq.trans rfl rfl
@[go_sem] theorem und146 : ti146.und = .struct #[{ name := "Size_", type := 12, offset := 0, embedded := false, tag := "", pkgPath := "", byteOffset := 0 }, { name := "PtrBytes", type := 12, offset := 1, embedded := false, tag := "", pkgPath := "", byteOffset := 8 }, { name := "Hash", type := 76, offset := 2, embedded := false, tag := "", pkgPath := "", byteOffset := 16 }, { name := "TFlag", type := 141, offset := 3, embedded := false, tag := "", pkgPath := "", byteOffset := 20 }, { name := "Align_", type := 5, offset := 4, embedded := false, tag := "", pkgPath := "", byteOffset := 21 }, { name := "FieldAlign_", type := 5, offset := 5, embedded := false, tag := "", pkgPath := "", byteOffset := 22 }, { name := "Kind_", type := 111, offset := 6, embedded := false, tag := "", pkgPath := "", byteOffset := 23 }, { name := "Equal", type := 142, offset := 7, embedded := false, tag := "", pkgPath := "", byteOffset := 24 }, { name := "GCData", type := 143, offset := 8, embedded := false, tag := "", pkgPath := "", byteOffset := 32 }, { name := "Str", type := 144, offset := 9, embedded := false, tag := "", pkgPath := "", byteOffset := 40 }, { name := "PtrToThis", type := 145, offset := 10, embedded := false, tag := "", pkgPath := "", byteOffset := 44 }] := Eq.trans rfl rfl
@[go_sem] theorem size146 : ti146.size = 11 := Eq.trans rfl rfl
@[go_sem] theorem bytes146 : ti146.bytes = 48 := Eq.trans rfl rfl
@[go_sem] theorem zero146 : ti146.zero = [.int .u64 0, .int .u64 0, .int .u32 0, .int .u8 0, .int .u8 0, .int .u8 0, .int .u8 0, .nilfn, .nilp, .int .i32 0, .int .i32 0] := Eq.trans rfl rfl
@[go_sem] theorem T147 : T 147 = some ti147 := Eq.trans rfl rfl
@[go_sem] theorem eqok147 : ti147.eqok = false := Eq.trans rfl rfl
@[go_sem] theorem und147 : ti147.und = .struct #[{ name := "Size_", type := 12, offset := 0, embedded := false, tag := "", pkgPath := "", byteOffset := 0 }, { name := "PtrBytes", type := 12, offset := 1, embedded := false, tag := "", pkgPath := "", byteOffset := 8 }, { name := "Hash", type := 76, offset := 2, embedded := false, tag := "", pkgPath := "", byteOffset := 16 }, { name := "TFlag", type := 141, offset := 3, embedded := false, tag := "", pkgPath := "", byteOffset := 20 }, { name := "Align_", type := 5, offset := 4, embedded := false, tag := "", pkgPath := "", byteOffset := 21 }, { name := "FieldAlign_", type := 5, offset := 5, embedded := false, tag := "", pkgPath := "", byteOffset := 22 }, { name := "Kind_", type := 111, offset := 6, embedded := false, tag := "", pkgPath := "", byteOffset := 23 }, { name := "Equal", type := 142, offset := 7, embedded := false, tag := "", pkgPath := "", byteOffset := 24 }, { name := "GCData", type := 143, offset := 8, embedded := false, tag := "", pkgPath := "", byteOffset := 32 }, { name := "Str", type := 144, offset := 9, embedded := false, tag := "", pkgPath := "", byteOffset := 40 }, { name := "PtrToThis", type := 145, offset := 10, embedded := false, tag := "", pkgPath := "", byteOffset := 44 }] := Eq.trans rfl rfl
@[go_sem] theorem size147 : ti147.size = 11 := Eq.trans rfl rfl
@[go_sem] theorem bytes147 : ti147.bytes = 48 := Eq.trans rfl rfl
@[go_sem] theorem zero147 : ti147.zero = [.int .u64 0, .int .u64 0, .int .u32 0, .int .u8 0, .int .u8 0, .int .u8 0, .int .u8 0, .nilfn, .nilp, .int .i32 0, .int .i32 0] := Eq.trans rfl rfl
@[go_sem] theorem T148 : T 148 = some ti148 := Eq.trans rfl rfl
@[go_sem] theorem eqok148 : ti148.eqok = false := Eq.trans rfl rfl
@[go_sem] theorem und148 : ti148.und = .func #[] #[12] false := Eq.trans rfl rfl
@[go_sem] theorem size148 : ti148.size = 1 := Eq.trans rfl rfl
@[go_sem] theorem bytes148 : ti148.bytes = 8 := Eq.trans rfl rfl
@[go_sem] theorem zero148 : ti148.zero = [.nilfn] := Eq.trans rfl rfl
@[go_sem] theorem T149 : T 149 = some ti149 := Eq.trans rfl rfl
@[go_sem] theorem eqok149 : ti149.eqok = false := Eq.trans rfl rfl
@[go_sem] theorem und149 : ti149.und = .func #[] #[152] false := Eq.trans rfl rfl
@[go_sem] theorem size149 : ti149.size = 1 := Eq.trans rfl rfl
@[go_sem] theorem bytes149 : ti149.bytes = 8 := Eq.trans rfl rfl
@[go_sem] theorem zero149 : ti149.zero = [.nilfn] := Eq.trans rfl rfl
@[go_sem] theorem T150 : T 150 = some ti150 := Eq.trans rfl rfl
@[go_sem] theorem eqok150 : ti150.eqok = false := Eq.trans rfl rfl
@[go_sem] theorem und150 : ti150.und = .struct #[{ name := "Method", type := 9, offset := 0, embedded := false, tag := "", pkgPath := "", byteOffset := 0 }, { name := "Kind", type := 111, offset := 1, embedded := false, tag := "", pkgPath := "", byteOffset := 16 }] := Eq.trans rfl rfl
@[go_sem] theorem size150 : ti150.size = 2 := Eq.trans rfl rfl
@[go_sem] theorem bytes150 : ti150.bytes = 24 := Eq.trans rfl rfl
@[go_sem] theorem zero150 : ti150.zero = [.str .empty, .int .u8 0] := Eq.trans rfl rfl
@[go_sem] theorem T151 : T 151 = some ti151 := Eq.trans rfl rfl
@[go_sem] theorem eqok151 : ti151.eqok = false := Eq.trans rfl rfl
@[go_sem] theorem und151 : ti151.und = .struct #[{ name := "Method", type := 9, offset := 0, embedded := false, tag := "", pkgPath := "", byteOffset := 0 }, { name := "Kind", type := 111, offset := 1, embedded := false, tag := "", pkgPath := "", byteOffset := 16 }] := Eq.trans rfl rfl
@[go_sem] theorem size151 : ti151.size = 2 := Eq.trans rfl rfl
@[go_sem] theorem bytes151 : ti151.bytes = 24 := Eq.trans rfl rfl
@[go_sem] theorem zero151 : ti151.zero = [.str .empty, .int .u8 0] := Eq.trans rfl rfl
@[go_sem] theorem T152 : T 152 = some ti152 := Eq.trans rfl rfl
@[go_sem] theorem eqok152 : ti152.eqok = false := Eq.trans rfl rfl
@[go_sem] theorem und152 : ti152.und = .pointer 156 := Eq.trans rfl rfl
@[go_sem] theorem size152 : ti152.size = 1 := Eq.trans rfl rfl
@[go_sem] theorem bytes152 : ti152.bytes = 8 := Eq.trans rfl rfl
@[go_sem] theorem zero152 : ti152.zero = [.nilp] := Eq.trans rfl rfl
@[go_sem] theorem T153 : T 153 = some ti153 := Eq.trans rfl rfl
@[go_sem] theorem eqok153 : ti153.eqok = false := Eq.trans rfl rfl
@[go_sem] theorem und153 : ti153.und = .func #[] #[157] false := Eq.trans rfl rfl
@[go_sem] theorem size153 : ti153.size = 1 := Eq.trans rfl rfl
@[go_sem] theorem bytes153 : ti153.bytes = 8 := Eq.trans rfl rfl
@[go_sem] theorem zero153 : ti153.zero = [.nilfn] := Eq.trans rfl rfl
@[go_sem] theorem T154 : T 154 = some ti154 := Eq.trans rfl rfl
@[go_sem] theorem eqok154 : ti154.eqok = false := Eq.trans rfl rfl
@[go_sem] theorem und154 : ti154.und = .int .u16 := Eq.trans rfl rfl
@[go_sem] theorem size154 : ti154.size = 1 := Eq.trans rfl rfl
@[go_sem] theorem bytes154 : ti154.bytes = 2 := Eq.trans rfl rfl
@[go_sem] theorem zero154 : ti154.zero = [.int .u16 0] := Eq.trans rfl rfl
@[go_sem] theorem T155 : T 155 = some ti155 := Eq.trans rfl rfl
@[go_sem] theorem eqok155 : ti155.eqok = false := Eq.trans rfl rfl
@[go_sem] theorem und155 : ti155.und = .struct #[{ name := "PkgPath", type := 144, offset := 0, embedded := false, tag := "", pkgPath := "", byteOffset := 0 }, { name := "Mcount", type := 154, offset := 1, embedded := false, tag := "", pkgPath := "", byteOffset := 4 }, { name := "Xcount", type := 154, offset := 2, embedded := false, tag := "", pkgPath := "", byteOffset := 6 }, { name := "Moff", type := 76, offset := 3, embedded := false, tag := "", pkgPath := "", byteOffset := 8 }, { name := "_", type := 76, offset := 4, embedded := false, tag := "", pkgPath := "internal/abi", byteOffset := 12 }] := Eq.trans rfl rfl
@[go_sem] theorem size155 : ti155.size = 5 := Eq.trans rfl rfl
@[go_sem] theorem bytes155 : ti155.bytes = 16 := Eq.trans rfl rfl
@[go_sem] theorem zero155 : ti155.zero = [.int .i32 0, .int .u16 0, .int .u16 0, .int .u32 0, .int .u32 0] := Eq.trans rfl rfl
@[go_sem] theorem T156 : T 156 = some ti156 := Eq.trans rfl rfl
@[go_sem] theorem eqok156 : ti156.eqok = false := Eq.trans rfl rfl
@[go_sem] theorem und156 : ti156.und = .struct #[{ name := "PkgPath", type := 144, offset := 0, embedded := false, tag := "", pkgPath := "", byteOffset := 0 }, { name := "Mcount", type := 154, offset := 1, embedded := false, tag := "", pkgPath := "", byteOffset := 4 }, { name := "Xcount", type := 154, offset := 2, embedded := false, tag := "", pkgPath := "", byteOffset := 6 }, { name := "Moff", type := 76, offset := 3, embedded := false, tag := "", pkgPath := "", byteOffset := 8 }, { name := "_", type := 76, offset := 4, embedded := false, tag := "", pkgPath := "internal/abi", byteOffset := 12 }] := Eq.trans rfl rfl
@[go_sem] theorem size156 : ti156.size = 5 := Eq.trans rfl rfl
@[go_sem] theorem bytes156 : ti156.bytes = 16 := Eq.trans rfl rfl
@[go_sem] theorem zero156 : ti156.zero = [.int .i32 0, .int .u16 0, .int .u16 0, .int .u32 0, .int .u32 0] := Eq.trans rfl rfl
@[go_sem] theorem T157 : T 157 = some ti157 := Eq.trans rfl rfl
@[go_sem] theorem eqok157 : ti157.eqok = false := Eq.trans rfl rfl
@[go_sem] theorem und157 : ti157.und = .slice 160 := Eq.trans rfl rfl
@[go_sem] theorem size157 : ti157.size = 1 := Eq.trans rfl rfl
@[go_sem] theorem bytes157 : ti157.bytes = 24 := Eq.trans rfl rfl
@[go_sem] theorem zero157 : ti157.zero = [.nil] := Eq.trans rfl rfl
@[go_sem] theorem T158 : T 158 = some ti158 := Eq.trans rfl rfl
@[go_sem] theorem eqok158 : ti158.eqok = false := Eq.trans rfl rfl
@[go_sem] theorem und158 : ti158.und = .int .i32 := Eq.trans rfl rfl
@[go_sem] theorem size158 : ti158.size = 1 := Eq.trans rfl rfl
@[go_sem] theorem bytes158 : ti158.bytes = 4 := Eq.trans rfl rfl
@[go_sem] theorem zero158 : ti158.zero = [.int .i32 0] := Eq.trans rfl rfl
@[go_sem] theorem T159 : T 159 = some ti159 := Eq.trans rfl rfl
@[go_sem] theorem eqok159 : ti159.eqok = false := Eq.trans rfl rfl
@[go_sem] theorem und159 : ti159.und = .struct #[{ name := "Name", type := 144, offset := 0, embedded := false, tag := "", pkgPath := "", byteOffset := 0 }, { name := "Mtyp", type := 145, offset := 1, embedded := false, tag := "", pkgPath := "", byteOffset := 4 }, { name := "Ifn", type := 158, offset := 2, embedded := false, tag := "", pkgPath := "", byteOffset := 8 }, { name := "Tfn", type := 158, offset := 3, embedded := false, tag := "", pkgPath := "", byteOffset := 12 }] := Eq.trans rfl rfl
@[go_sem] theorem size159 : ti159.size = 4 := Eq.trans rfl rfl
@[go_sem] theorem bytes159 : ti159.bytes = 16 := Eq.trans rfl rfl
@[go_sem] theorem zero159 : ti159.zero = [.int .i32 0, .int .i32 0, .int .i32 0, .int .i32 0] := Eq.trans rfl rfl
@[go_sem] theorem T160 : T 160 = some ti160 := Eq.trans rfl rfl
@[go_sem] theorem eqok160 : ti160.eqok = false := Eq.trans rfl rfl
@[go_sem] theorem und160 : ti160.und = .struct #[{ name := "Name", type := 144, offset := 0, embedded := false, tag := "", pkgPath := "", byteOffset := 0 }, { name := "Mtyp", type := 145, offset := 1, embedded := false, tag := "", pkgPath := "", byteOffset := 4 }, { name := "Ifn", type := 158, offset := 2, embedded := false, tag := "", pkgPath := "", byteOffset := 8 }, { name := "Tfn", type := 158, offset := 3, embedded := false, tag := "", pkgPath := "", byteOffset := 12 }] := Eq.trans rfl rfl
@[go_sem] theorem size160 : ti160.size = 4 := Eq.trans rfl rfl
@[go_sem] theorem bytes160 : ti160.bytes = 16 := Eq.trans rfl rfl
@[go_sem] theorem zero160 : ti160.zero = [.int .i32 0, .int .i32 0, .int .i32 0, .int .i32 0] := Eq.trans rfl rfl
@[go_sem] theorem T161 : T 161 = some ti161 := Eq.trans rfl rfl
@[go_sem] theorem eqok161 : ti161.eqok = false := Eq.trans rfl rfl
@[go_sem] theorem und161 : ti161.und = .pointer 87 := Eq.trans rfl rfl
@[go_sem] theorem size161 : ti161.size = 1 := Eq.trans rfl rfl
@[go_sem] theorem bytes161 : ti161.bytes = 8 := Eq.trans rfl rfl
@[go_sem] theorem zero161 : ti161.zero = [.nilp] := Eq.trans rfl rfl
theorem ok1 : TOk1 Tryd.prog 1 ti1 := TOk1.of (z := .nilFunc) (vs := [.nilFunc]) Tryd.underlying1 (by kernel_rfl) rfl rfl rfl (by first | exact fun _ => rfl | (intro h; cases h)) (by decide) (fun h => by cases h)
theorem ok2 : TOk1 Tryd.prog 2 ti2 := TOk1.of (z := .int .i64 0) (vs := [.int .i64 0]) Tryd.underlying2 (by kernel_rfl) rfl rfl rfl (by first | exact fun _ => rfl | (intro h; cases h)) (by decide) (fun h => by cases h)
theorem ok3 : TOk1 Tryd.prog 3 ti3 := TOk1.of (z := .int .i64 0) (vs := [.int .i64 0]) Tryd.underlying3 (by kernel_rfl) rfl rfl rfl (by first | exact fun _ => rfl | (intro h; cases h)) (by decide) (fun h => by cases h)
theorem ok4 : TOk1 Tryd.prog 4 ti4 := TOk1.of (z := .bool false) (vs := [.bool false]) Tryd.underlying4 (by kernel_rfl) rfl rfl rfl (by first | exact fun _ => rfl | (intro h; cases h)) (by decide) (fun h => by cases h)
theorem ok5 : TOk1 Tryd.prog 5 ti5 := TOk1.of (z := .int .u8 0) (vs := [.int .u8 0]) Tryd.underlying5 (by kernel_rfl) rfl rfl rfl (by first | exact fun _ => rfl | (intro h; cases h)) (by decide) (fun h => by cases h)
theorem ok6 : TOk1 Tryd.prog 6 ti6 := TOk1.of (z := .int .u8 0) (vs := [.int .u8 0]) Tryd.underlying6 (by kernel_rfl) rfl rfl rfl (by first | exact fun _ => rfl | (intro h; cases h)) (by decide) (fun h => by cases h)
theorem ok7 : TOk1 Tryd.prog 7 ti7 := TOk1.of (z := .agg #[.int .i64 0, .int .i64 0, .bool false, .int .u8 0]) (vs := [.int .i64 0, .int .i64 0, .bool false, .int .u8 0]) Tryd.underlying7 (by kernel_rfl) rfl rfl rfl (by first | exact fun _ => rfl | (intro h; cases h)) (by decide) (fun h => by cases h)
theorem ok8 : TOk1 Tryd.prog 8 ti8 := TOk1.of (z := .agg #[.int .i64 0, .int .i64 0, .bool false, .int .u8 0]) (vs := [.int .i64 0, .int .i64 0, .bool false, .int .u8 0]) Tryd.underlying8 (by kernel_rfl) rfl rfl rfl (by first | exact fun _ => rfl | (intro h; cases h)) (by decide) (fun h => by cases h)
theorem ok9 : TOk1 Tryd.prog 9 ti9 := TOk1.of (z := .string .empty) (vs := [.string .empty]) Tryd.underlying9 (by kernel_rfl) rfl rfl rfl (by first | exact fun _ => rfl | (intro h; cases h)) (by decide) (fun h => by cases h)
theorem ok10 : TOk1 Tryd.prog 10 ti10 := TOk1.of (z := .string .empty) (vs := [.string .empty]) Tryd.underlying10 (by kernel_rfl) rfl rfl rfl (by first | exact fun _ => rfl | (intro h; cases h)) (by decide) (fun h => by cases h)
theorem ok11 : TOk1 Tryd.prog 11 ti11 := TOk1.of (z := .string .empty) (vs := [.string .empty]) Tryd.underlying11 (by kernel_rfl) rfl rfl rfl (by first | exact fun _ => rfl | (intro h; cases h)) (by decide) (fun h => by cases h)
theorem ok12 : TOk1 Tryd.prog 12 ti12 := TOk1.of (z := .int .u64 0) (vs := [.int .u64 0]) Tryd.underlying12 (by kernel_rfl) rfl rfl rfl (by first | exact fun _ => rfl | (intro h; cases h)) (by decide) (fun h => by cases h)
theorem ok13 : TOk1 Tryd.prog 13 ti13 := TOk1.of (z := .agg #[.string .empty, .int .u64 0]) (vs := [.string .empty, .int .u64 0]) Tryd.underlying13 (by kernel_rfl) rfl rfl rfl (by first | exact fun _ => rfl | (intro h; cases h)) (by decide) (fun h => by cases h)
theorem ok14 : TOk1 Tryd.prog 14 ti14 := TOk1.of (z := .agg #[.string .empty, .int .u64 0]) (vs := [.string .empty, .int .u64 0]) Tryd.underlying14 (by kernel_rfl) rfl rfl rfl (by first | exact fun _ => rfl | (intro h; cases h)) (by decide) (fun h => by cases h)
theorem ok15 : TOk1 Tryd.prog 15 ti15 := TOk1.of (z := .pointer none) (vs := [.pointer none]) Tryd.underlying15 (by kernel_rfl) rfl rfl rfl (by first | exact fun _ => rfl | (intro h; cases h)) (by decide) (fun h => by cases h)
theorem ok16 : TOk1 Tryd.prog 16 ti16 := TOk1.of (z := .pointer none) (vs := [.pointer none]) Tryd.underlying16 (by kernel_rfl) rfl rfl rfl (by first | exact fun _ => rfl | (intro h; cases h)) (by decide) (fun h => by cases h)
theorem ok17 : TOk1 Tryd.prog 17 ti17 := TOk1.of (z := .pointer none) (vs := [.pointer none]) Tryd.underlying17 (by kernel_rfl) rfl rfl rfl (by first | exact fun _ => rfl | (intro h; cases h)) (by decide) (fun h => by cases h)
theorem ok18 : TOk1 Tryd.prog 18 ti18 := TOk1.of (z := .agg #[.pointer none]) (vs := [.pointer none]) Tryd.underlying18 (by kernel_rfl) rfl rfl rfl (by first | exact fun _ => rfl | (intro h; cases h)) (by decide) (fun h => by cases h)
theorem ok19 : TOk1 Tryd.prog 19 ti19 := TOk1.of (z := .agg #[.pointer none]) (vs := [.pointer none]) Tryd.underlying19 (by kernel_rfl) rfl rfl rfl (by first | exact fun _ => rfl | (intro h; cases h)) (by decide) (fun h => by cases h)
theorem ok20 : TOk1 Tryd.prog 20 ti20 := TOk1.of (z := .nilIface) (vs := [.nilIface]) Tryd.underlying20 (by kernel_rfl) rfl rfl rfl (by first | exact fun _ => rfl | (intro h; cases h)) (by decide) (fun h => by cases h)
theorem ok21 : TOk1 Tryd.prog 21 ti21 := TOk1.of (z := .int .i32 0) (vs := [.int .i32 0]) Tryd.underlying21 (by kernel_rfl) rfl rfl rfl (by first | exact fun _ => rfl | (intro h; cases h)) (by decide) (fun h => by cases h)
theorem ok22 : TOk1 Tryd.prog 22 ti22 := TOk1.of (z := .slice none 0 0) (vs := [.slice none 0 0]) Tryd.underlying22 (by kernel_rfl) rfl rfl rfl (by first | exact fun _ => rfl | (intro h; cases h)) (by decide) (fun h => by cases h)
theorem ok23 : TOk1 Tryd.prog 23 ti23 := TOk1.of (z := .nilFunc) (vs := [.nilFunc]) Tryd.underlying23 (by kernel_rfl) rfl rfl rfl (by first | exact fun _ => rfl | (intro h; cases h)) (by decide) (fun h => by cases h)
theorem ok24 : TOk1 Tryd.prog 24 ti24 := TOk1.of (z := .nilFunc) (vs := [.nilFunc]) Tryd.underlying24 (by kernel_rfl) rfl rfl rfl (by first | exact fun _ => rfl | (intro h; cases h)) (by decide) (fun h => by cases h)
theorem ok25 : TOk1 Tryd.prog 25 ti25 := TOk1.of (z := .slice none 0 0) (vs := [.slice none 0 0]) Tryd.underlying25 (by kernel_rfl) rfl rfl rfl (by first | exact fun _ => rfl | (intro h; cases h)) (by decide) (fun h => by cases h)
theorem ok26 : TOk1 Tryd.prog 26 ti26 := TOk1.of (z := .int .i64 0) (vs := [.int .i64 0]) Tryd.underlying26 (by kernel_rfl) rfl rfl rfl (by first | exact fun _ => rfl | (intro h; cases h)) (by decide) (fun h => by cases h)
theorem ok28 : TOk1 Tryd.prog 28 ti28 := TOk1.of (z := .nilFunc) (vs := [.nilFunc]) Tryd.underlying28 (by kernel_rfl) rfl rfl rfl (by first | exact fun _ => rfl | (intro h; cases h)) (by decide) (fun h => by cases h)
theorem ok30 : TOk1 Tryd.prog 30 ti30 := TOk1.of (z := .nilFunc) (vs := [.nilFunc]) Tryd.underlying30 (by kernel_rfl) rfl rfl rfl (by first | exact fun _ => rfl | (intro h; cases h)) (by decide) (fun h => by cases h)
theorem ok31 : TOk1 Tryd.prog 31 ti31 := TOk1.of (z := .nilFunc) (vs := [.nilFunc]) Tryd.underlying31 (by kernel_rfl) rfl rfl rfl (by first | exact fun _ => rfl | (intro h; cases h)) (by decide) (fun h => by cases h)
theorem ok32 : TOk1 Tryd.prog 32 ti32 := TOk1.of (z := .nilFunc) (vs := [.nilFunc]) Tryd.underlying32 (by kernel_rfl) rfl rfl rfl (by first | exact fun _ => rfl | (intro h; cases h)) (by decide) (fun h => by cases h)
theorem ok33 : TOk1 Tryd.prog 33 ti33 := TOk1.of (z := .nilFunc) (vs := [.nilFunc]) Tryd.underlying33 (by kernel_rfl) rfl rfl rfl (by first | exact fun _ => rfl | (intro h; cases h)) (by decide) (fun h => by cases h)
theorem ok34 : TOk1 Tryd.prog 34 ti34 := TOk1.of (z := .nilFunc) (vs := [.nilFunc]) Tryd.underlying34 (by kernel_rfl) rfl rfl rfl (by first | exact fun _ => rfl | (intro h; cases h)) (by decide) (fun h => by cases h)
theorem ok35 : TOk1 Tryd.prog 35 ti35 := TOk1.of (z := .slice none 0 0) (vs := [.slice none 0 0]) Tryd.underlying35 (by kernel_rfl) rfl rfl rfl (by first | exact fun _ => rfl | (intro h; cases h)) (by decide) (fun h => by cases h)
theorem ok36 : TOk1 Tryd.prog 36 ti36 := TOk1.of (z := .agg #[.string .empty, .slice none 0 0]) (vs := [.string .empty, .slice none 0 0]) Tryd.underlying36 (by kernel_rfl) rfl rfl rfl (by first | exact fun _ => rfl | (intro h; cases h)) (by decide) (fun h => by cases h)
theorem ok37 : TOk1 Tryd.prog 37 ti37 := TOk1.of (z := .agg #[.string .empty, .slice none 0 0]) (vs := [.string .empty, .slice none 0 0]) Tryd.underlying37 (by kernel_rfl) rfl rfl rfl (by first | exact fun _ => rfl | (intro h; cases h)) (by decide) (fun h => by cases h)
theorem ok38 : TOk1 Tryd.prog 38 ti38 := TOk1.of (z := .nilFunc) (vs := [.nilFunc]) Tryd.underlying38 (by kernel_rfl) rfl rfl rfl (by first | exact fun _ => rfl | (intro h; cases h)) (by decide) (fun h => by cases h)
theorem ok40 : TOk1 Tryd.prog 40 ti40 := TOk1.of (z := .nilFunc) (vs := [.nilFunc]) Tryd.underlying40 (by kernel_rfl) rfl rfl rfl (by first | exact fun _ => rfl | (intro h; cases h)) (by decide) (fun h => by cases h)
theorem ok42 : TOk1 Tryd.prog 42 ti42 := TOk1.of (z := .nilFunc) (vs := [.nilFunc]) Tryd.underlying42 (by kernel_rfl) rfl rfl rfl (by first | exact fun _ => rfl | (intro h; cases h)) (by decide) (fun h => by cases h)
theorem ok44 : TOk1 Tryd.prog 44 ti44 := TOk1.of (z := .nilFunc) (vs := [.nilFunc]) Tryd.underlying44 (by kernel_rfl) rfl rfl rfl (by first | exact fun _ => rfl | (intro h; cases h)) (by decide) (fun h => by cases h)
theorem ok46 : TOk1 Tryd.prog 46 ti46 := TOk1.of (z := .nilFunc) (vs := [.nilFunc]) Tryd.underlying46 (by kernel_rfl) rfl rfl rfl (by first | exact fun _ => rfl | (intro h; cases h)) (by decide) (fun h => by cases h)
theorem ok47 : TOk1 Tryd.prog 47 ti47 := TOk1.of (z := .nilFunc) (vs := [.nilFunc]) Tryd.underlying47 (by kernel_rfl) rfl rfl rfl (by first | exact fun _ => rfl | (intro h; cases h)) (by decide) (fun h => by cases h)
theorem ok48 : TOk1 Tryd.prog 48 ti48 := TOk1.of (z := .nilFunc) (vs := [.nilFunc]) Tryd.underlying48 (by kernel_rfl) rfl rfl rfl (by first | exact fun _ => rfl | (intro h; cases h)) (by decide) (fun h => by cases h)
theorem ok50 : TOk1 Tryd.prog 50 ti50 := TOk1.of (z := .nilFunc) (vs := [.nilFunc]) Tryd.underlying50 (by kernel_rfl) rfl rfl rfl (by first | exact fun _ => rfl | (intro h; cases h)) (by decide) (fun h => by cases h)
theorem ok51 : TOk1 Tryd.prog 51 ti51 := TOk1.of (z := .agg #[.int .u8 0, .int .u8 0, .int .u8 0, .int .u8 0, .int .u8 0, .int .u8 0, .int .u8 0, .int .u8 0, .int .u8 0, .int .u8 0, .int .u8 0, .int .u8 0, .int .u8 0, .int .u8 0, .int .u8 0, .int .u8 0, .int .u8 0, .int .u8 0, .int .u8 0, .int .u8 0]) (vs := [.int .u8 0, .int .u8 0, .int .u8 0, .int .u8 0, .int .u8 0, .int .u8 0, .int .u8 0, .int .u8 0, .int .u8 0, .int .u8 0, .int .u8 0, .int .u8 0, .int .u8 0, .int .u8 0, .int .u8 0, .int .u8 0, .int .u8 0, .int .u8 0, .int .u8 0, .int .u8 0]) Tryd.underlying51 (by kernel_rfl) rfl rfl rfl (by first | exact fun _ => rfl | (intro h; cases h)) (by decide) (fun _ => ⟨by kernel_rfl, by kernel_rfl, fun fs e => by simp only [und51, TypeDesc.struct.injEq, reduceCtorEq] at e⟩)
theorem ok52 : TOk1 Tryd.prog 52 ti52 := TOk1.of (z := .agg #[.int .u8 0, .int .u8 0, .int .u8 0, .int .u8 0, .int .u8 0, .int .u8 0, .int .u8 0, .int .u8 0, .int .u8 0, .int .u8 0, .int .u8 0, .int .u8 0, .int .u8 0, .int .u8 0, .int .u8 0, .int .u8 0, .int .u8 0, .int .u8 0, .int .u8 0, .int .u8 0]) (vs := [.int .u8 0, .int .u8 0, .int .u8 0, .int .u8 0, .int .u8 0, .int .u8 0, .int .u8 0, .int .u8 0, .int .u8 0, .int .u8 0, .int .u8 0, .int .u8 0, .int .u8 0, .int .u8 0, .int .u8 0, .int .u8 0, .int .u8 0, .int .u8 0, .int .u8 0, .int .u8 0]) Tryd.underlying52 (by kernel_rfl) rfl rfl rfl (by first | exact fun _ => rfl | (intro h; cases h)) (by decide) (fun _ => ⟨by kernel_rfl, by kernel_rfl, fun fs e => by simp only [und52, TypeDesc.struct.injEq, reduceCtorEq] at e⟩)
theorem ok53 : TOk1 Tryd.prog 53 ti53 := TOk1.of (z := .agg #[.string .empty, .int .i64 0, .int .u8 0, .int .u8 0, .int .u8 0, .int .u8 0, .int .u8 0, .int .u8 0, .int .u8 0, .int .u8 0, .int .u8 0, .int .u8 0, .int .u8 0, .int .u8 0, .int .u8 0, .int .u8 0, .int .u8 0, .int .u8 0, .int .u8 0, .int .u8 0, .int .u8 0, .int .u8 0]) (vs := [.string .empty, .int .i64 0, .int .u8 0, .int .u8 0, .int .u8 0, .int .u8 0, .int .u8 0, .int .u8 0, .int .u8 0, .int .u8 0, .int .u8 0, .int .u8 0, .int .u8 0, .int .u8 0, .int .u8 0, .int .u8 0, .int .u8 0, .int .u8 0, .int .u8 0, .int .u8 0, .int .u8 0, .int .u8 0]) Tryd.underlying53 (by kernel_rfl) rfl rfl rfl (by first | exact fun _ => rfl | (intro h; cases h)) (by decide) (fun _ => ⟨by kernel_rfl, by kernel_rfl, fun fs e => by simp only [und53, TypeDesc.struct.injEq, reduceCtorEq] at e; subst e; decide⟩)
theorem ok54 : TOk1 Tryd.prog 54 ti54 := TOk1.of (z := .agg #[.string .empty, .int .i64 0, .int .u8 0, .int .u8 0, .int .u8 0, .int .u8 0, .int .u8 0, .int .u8 0, .int .u8 0, .int .u8 0, .int .u8 0, .int .u8 0, .int .u8 0, .int .u8 0, .int .u8 0, .int .u8 0, .int .u8 0, .int .u8 0, .int .u8 0, .int .u8 0, .int .u8 0, .int .u8 0]) (vs := [.string .empty, .int .i64 0, .int .u8 0, .int .u8 0, .int .u8 0, .int .u8 0, .int .u8 0, .int .u8 0, .int .u8 0, .int .u8 0, .int .u8 0, .int .u8 0, .int .u8 0, .int .u8 0, .int .u8 0, .int .u8 0, .int .u8 0, .int .u8 0, .int .u8 0, .int .u8 0, .int .u8 0, .int .u8 0]) Tryd.underlying54 (by kernel_rfl) rfl rfl rfl (by first | exact fun _ => rfl | (intro h; cases h)) (by decide) (fun _ => ⟨by kernel_rfl, by kernel_rfl, fun fs e => by simp only [und54, TypeDesc.struct.injEq, reduceCtorEq] at e; subst e; decide⟩)
theorem ok56 : TOk1 Tryd.prog 56 ti56 := TOk1.of (z := .nilFunc) (vs := [.nilFunc]) Tryd.underlying56 (by kernel_rfl) rfl rfl rfl (by first | exact fun _ => rfl | (intro h; cases h)) (by decide) (fun h => by cases h)
theorem ok57 : TOk1 Tryd.prog 57 ti57 := TOk1.of (z := .nilFunc) (vs := [.nilFunc]) Tryd.underlying57 (by kernel_rfl) rfl rfl rfl (by first | exact fun _ => rfl | (intro h; cases h)) (by decide) (fun h => by cases h)
theorem ok58 : TOk1 Tryd.prog 58 ti58 := TOk1.of (z := .nilFunc) (vs := [.nilFunc]) Tryd.underlying58 (by kernel_rfl) rfl rfl rfl (by first | exact fun _ => rfl | (intro h; cases h)) (by decide) (fun h => by cases h)
theorem ok60 : TOk1 Tryd.prog 60 ti60 := TOk1.of (z := .nilFunc) (vs := [.nilFunc]) Tryd.underlying60 (by kernel_rfl) rfl rfl rfl (by first | exact fun _ => rfl | (intro h; cases h)) (by decide) (fun h => by cases h)
theorem ok62 : TOk1 Tryd.prog 62 ti62 := TOk1.of (z := .nilFunc) (vs := [.nilFunc]) Tryd.underlying62 (by kernel_rfl) rfl rfl rfl (by first | exact fun _ => rfl | (intro h; cases h)) (by decide) (fun h => by cases h)
theorem ok64 : TOk1 Tryd.prog 64 ti64 := TOk1.of (z := .nilFunc) (vs := [.nilFunc]) Tryd.underlying64 (by kernel_rfl) rfl rfl rfl (by first | exact fun _ => rfl | (intro h; cases h)) (by decide) (fun h => by cases h)
theorem ok65 : TOk1 Tryd.prog 65 ti65 := TOk1.of (z := .nilFunc) (vs := [.nilFunc]) Tryd.underlying65 (by kernel_rfl) rfl rfl rfl (by first | exact fun _ => rfl | (intro h; cases h)) (by decide) (fun h => by cases h)
theorem ok66 : TOk1 Tryd.prog 66 ti66 := TOk1.of (z := .nilFunc) (vs := [.nilFunc]) Tryd.underlying66 (by kernel_rfl) rfl rfl rfl (by first | exact fun _ => rfl | (intro h; cases h)) (by decide) (fun h => by cases h)
theorem ok67 : TOk1 Tryd.prog 67 ti67 := TOk1.of (z := .slice none 0 0) (vs := [.slice none 0 0]) Tryd.underlying67 (by kernel_rfl) rfl rfl rfl (by first | exact fun _ => rfl | (intro h; cases h)) (by decide) (fun h => by cases h)
theorem ok68 : TOk1 Tryd.prog 68 ti68 := TOk1.of (z := .nilFunc) (vs := [.nilFunc]) Tryd.underlying68 (by kernel_rfl) rfl rfl rfl (by first | exact fun _ => rfl | (intro h; cases h)) (by decide) (fun h => by cases h)
theorem ok69 : TOk1 Tryd.prog 69 ti69 := TOk1.of (z := .slice none 0 0) (vs := [.slice none 0 0]) Tryd.underlying69 (by kernel_rfl) rfl rfl rfl (by first | exact fun _ => rfl | (intro h; cases h)) (by decide) (fun h => by cases h)
theorem ok70 : TOk1 Tryd.prog 70 ti70 := TOk1.of (z := .nilFunc) (vs := [.nilFunc]) Tryd.underlying70 (by kernel_rfl) rfl rfl rfl (by first | exact fun _ => rfl | (intro h; cases h)) (by decide) (fun h => by cases h)
theorem ok71 : TOk1 Tryd.prog 71 ti71 := TOk1.of (z := .nilFunc) (vs := [.nilFunc]) Tryd.underlying71 (by kernel_rfl) rfl rfl rfl (by first | exact fun _ => rfl | (intro h; cases h)) (by decide) (fun h => by cases h)
theorem ok72 : TOk1 Tryd.prog 72 ti72 := TOk1.of (z := .nilFunc) (vs := [.nilFunc]) Tryd.underlying72 (by kernel_rfl) rfl rfl rfl (by first | exact fun _ => rfl | (intro h; cases h)) (by decide) (fun h => by cases h)
theorem ok73 : TOk1 Tryd.prog 73 ti73 := TOk1.of (z := .nilFunc) (vs := [.nilFunc]) Tryd.underlying73 (by kernel_rfl) rfl rfl rfl (by first | exact fun _ => rfl | (intro h; cases h)) (by decide) (fun h => by cases h)
theorem ok74 : TOk1 Tryd.prog 74 ti74 := TOk1.of (z := .int .u64 0) (vs := [.int .u64 0]) Tryd.underlying74 (by kernel_rfl) rfl rfl rfl (by first | exact fun _ => rfl | (intro h; cases h)) (by decide) (fun h => by cases h)
theorem ok75 : TOk1 Tryd.prog 75 ti75 := TOk1.of (z := .nilFunc) (vs := [.nilFunc]) Tryd.underlying75 (by kernel_rfl) rfl rfl rfl (by first | exact fun _ => rfl | (intro h; cases h)) (by decide) (fun h => by cases h)
theorem ok76 : TOk1 Tryd.prog 76 ti76 := TOk1.of (z := .int .u32 0) (vs := [.int .u32 0]) Tryd.underlying76 (by kernel_rfl) rfl rfl rfl (by first | exact fun _ => rfl | (intro h; cases h)) (by decide) (fun h => by cases h)
theorem ok77 : TOk1 Tryd.prog 77 ti77 := TOk1.of (z := .agg #[.int .u32 0, .int .u32 0, .int .u32 0, .int .u32 0, .int .u32 0]) (vs := [.int .u32 0, .int .u32 0, .int .u32 0, .int .u32 0, .int .u32 0]) Tryd.underlying77 (by kernel_rfl) rfl rfl rfl (by first | exact fun _ => rfl | (intro h; cases h)) (by decide) (fun _ => ⟨by kernel_rfl, by kernel_rfl, fun fs e => by simp only [und77, TypeDesc.struct.injEq, reduceCtorEq] at e⟩)
theorem ok78 : TOk1 Tryd.prog 78 ti78 := TOk1.of (z := .nilFunc) (vs := [.nilFunc]) Tryd.underlying78 (by kernel_rfl) rfl rfl rfl (by first | exact fun _ => rfl | (intro h; cases h)) (by decide) (fun h => by cases h)
theorem ok79 : TOk1 Tryd.prog 79 ti79 := TOk1.of (z := .nilFunc) (vs := [.nilFunc]) Tryd.underlying79 (by kernel_rfl) rfl rfl rfl (by first | exact fun _ => rfl | (intro h; cases h)) (by decide) (fun h => by cases h)
theorem ok80 : TOk1 Tryd.prog 80 ti80 := TOk1.of (z := .nilFunc) (vs := [.nilFunc]) Tryd.underlying80 (by kernel_rfl) rfl rfl rfl (by first | exact fun _ => rfl | (intro h; cases h)) (by decide) (fun h => by cases h)
theorem ok81 : TOk1 Tryd.prog 81 ti81 := TOk1.of (z := .pointer none) (vs := [.pointer none]) Tryd.underlying81 (by kernel_rfl) rfl rfl rfl (by first | exact fun _ => rfl | (intro h; cases h)) (by decide) (fun h => by cases h)
theorem ok82 : TOk1 Tryd.prog 82 ti82 := TOk1.of (z := .agg #[.slice none 0 0, .int .i64 0]) (vs := [.slice none 0 0, .int .i64 0]) Tryd.underlying82 (by kernel_rfl) rfl rfl rfl (by first | exact fun _ => rfl | (intro h; cases h)) (by decide) (fun h => by cases h)
theorem ok83 : TOk1 Tryd.prog 83 ti83 := TOk1.of (z := .agg #[.slice none 0 0, .int .i64 0]) (vs := [.slice none 0 0, .int .i64 0]) Tryd.underlying83 (by kernel_rfl) rfl rfl rfl (by first | exact fun _ => rfl | (intro h; cases h)) (by decide) (fun h => by cases h)
theorem ok84 : TOk1 Tryd.prog 84 ti84 := TOk1.of (z := .agg #[.slice none 0 0, .int .i64 0]) (vs := [.slice none 0 0, .int .i64 0]) Tryd.underlying84 (by kernel_rfl) rfl rfl rfl (by first | exact fun _ => rfl | (intro h; cases h)) (by decide) (fun h => by cases h)
theorem ok85 : TOk1 Tryd.prog 85 ti85 := TOk1.of (z := .agg #[.slice none 0 0, .int .i64 0]) (vs := [.slice none 0 0, .int .i64 0]) Tryd.underlying85 (by kernel_rfl) rfl rfl rfl (by first | exact fun _ => rfl | (intro h; cases h)) (by decide) (fun h => by cases h)
theorem ok86 : TOk1 Tryd.prog 86 ti86 := TOk1.of (z := .nilIface) (vs := [.nilIface]) Tryd.underlying86 (by kernel_rfl) rfl rfl rfl (by first | exact fun _ => rfl | (intro h; cases h)) (by decide) (fun h => by cases h)
theorem ok87 : TOk1 Tryd.prog 87 ti87 := TOk1.of (z := .nilIface) (vs := [.nilIface]) Tryd.underlying87 (by kernel_rfl) rfl rfl rfl (by first | exact fun _ => rfl | (intro h; cases h)) (by decide) (fun h => by cases h)
theorem ok89 : TOk1 Tryd.prog 89 ti89 := TOk1.of (z := .nilFunc) (vs := [.nilFunc]) Tryd.underlying89 (by kernel_rfl) rfl rfl rfl (by first | exact fun _ => rfl | (intro h; cases h)) (by decide) (fun h => by cases h)
theorem ok90 : TOk1 Tryd.prog 90 ti90 := TOk1.of (z := .nilFunc) (vs := [.nilFunc]) Tryd.underlying90 (by kernel_rfl) rfl rfl rfl (by first | exact fun _ => rfl | (intro h; cases h)) (by decide) (fun h => by cases h)
theorem ok91 : TOk1 Tryd.prog 91 ti91 := TOk1.of (z := .pointer none) (vs := [.pointer none]) Tryd.underlying91 (by kernel_rfl) rfl rfl rfl (by first | exact fun _ => rfl | (intro h; cases h)) (by decide) (fun h => by cases h)
theorem ok92 : TOk1 Tryd.prog 92 ti92 := TOk1.of (z := .map none) (vs := [.map none]) Tryd.underlying92 (by kernel_rfl) rfl rfl rfl (by first | exact fun _ => rfl | (intro h; cases h)) (by decide) (fun h => by cases h)
theorem ok93 : TOk1 Tryd.prog 93 ti93 := TOk1.of (z := .nilFunc) (vs := [.nilFunc]) Tryd.underlying93 (by kernel_rfl) rfl rfl rfl (by first | exact fun _ => rfl | (intro h; cases h)) (by decide) (fun h => by cases h)
theorem ok94 : TOk1 Tryd.prog 94 ti94 := TOk1.of (z := .slice none 0 0) (vs := [.slice none 0 0]) Tryd.underlying94 (by kernel_rfl) rfl rfl rfl (by first | exact fun _ => rfl | (intro h; cases h)) (by decide) (fun h => by cases h)
theorem ok95 : TOk1 Tryd.prog 95 ti95 := TOk1.of (z := .nilFunc) (vs := [.nilFunc]) Tryd.underlying95 (by kernel_rfl) rfl rfl rfl (by first | exact fun _ => rfl | (intro h; cases h)) (by decide) (fun h => by cases h)
theorem ok96 : TOk1 Tryd.prog 96 ti96 := TOk1.of (z := .int .u64 0) (vs := [.int .u64 0]) Tryd.underlying96 (by kernel_rfl) rfl rfl rfl (by first | exact fun _ => rfl | (intro h; cases h)) (by decide) (fun h => by cases h)
theorem ok97 : TOk1 Tryd.prog 97 ti97 := TOk1.of (z := .agg #[.int .u32 0, .int .u32 0, .int .u32 0, .int .u32 0, .int .u32 0, .int .u32 0, .int .u32 0, .int .u32 0, .int .u32 0, .int .u32 0, .int .u32 0, .int .u32 0, .int .u32 0, .int .u32 0, .int .u32 0, .int .u32 0]) (vs := [.int .u32 0, .int .u32 0, .int .u32 0, .int .u32 0, .int .u32 0, .int .u32 0, .int .u32 0, .int .u32 0, .int .u32 0, .int .u32 0, .int .u32 0, .int .u32 0, .int .u32 0, .int .u32 0, .int .u32 0, .int .u32 0]) Tryd.underlying97 (by kernel_rfl) rfl rfl rfl (by first | exact fun _ => rfl | (intro h; cases h)) (by decide) (fun _ => ⟨by kernel_rfl, by kernel_rfl, fun fs e => by simp only [und97, TypeDesc.struct.injEq, reduceCtorEq] at e⟩)
theorem ok98 : TOk1 Tryd.prog 98 ti98 := TOk1.of (z := .nilFunc) (vs := [.nilFunc]) Tryd.underlying98 (by kernel_rfl) rfl rfl rfl (by first | exact fun _ => rfl | (intro h; cases h)) (by decide) (fun h => by cases h)
theorem ok99 : TOk1 Tryd.prog 99 ti99 := TOk1.of (z := .nilFunc) (vs := [.nilFunc]) Tryd.underlying99 (by kernel_rfl) rfl rfl rfl (by first | exact fun _ => rfl | (intro h; cases h)) (by decide) (fun h => by cases h)
theorem ok100 : TOk1 Tryd.prog 100 ti100 := TOk1.of (z := .agg #[.int .u32 0, .int .u32 0, .int .u32 0, .int .u32 0]) (vs := [.int .u32 0, .int .u32 0, .int .u32 0, .int .u32 0]) Tryd.underlying100 (by kernel_rfl) rfl rfl rfl (by first | exact fun _ => rfl | (intro h; cases h)) (by decide) (fun _ => ⟨by kernel_rfl, by kernel_rfl, fun fs e => by simp only [und100, TypeDesc.struct.injEq, reduceCtorEq] at e⟩)
theorem ok102 : TOk1 Tryd.prog 102 ti102 := TOk1.of (z := .nilFunc) (vs := [.nilFunc]) Tryd.underlying102 (by kernel_rfl) rfl rfl rfl (by first | exact fun _ => rfl | (intro h; cases h)) (by decide) (fun h => by cases h)
theorem ok104 : TOk1 Tryd.prog 104 ti104 := TOk1.of (z := .int .u64 0) (vs := [.int .u64 0]) Tryd.underlying104 (by kernel_rfl) rfl rfl rfl (by first | exact fun _ => rfl | (intro h; cases h)) (by decide) (fun h => by cases h)
theorem ok105 : TOk1 Tryd.prog 105 ti105 := TOk1.of (z := .agg #[.pointer none, .pointer none, .int .u64 0]) (vs := [.pointer none, .pointer none, .int .u64 0]) Tryd.underlying105 (by kernel_rfl) rfl rfl rfl (by first | exact fun _ => rfl | (intro h; cases h)) (by decide) (fun h => by cases h)
theorem ok106 : TOk1 Tryd.prog 106 ti106 := TOk1.of (z := .agg #[.pointer none, .pointer none, .int .u64 0]) (vs := [.pointer none, .pointer none, .int .u64 0]) Tryd.underlying106 (by kernel_rfl) rfl rfl rfl (by first | exact fun _ => rfl | (intro h; cases h)) (by decide) (fun h => by cases h)
theorem ok107 : TOk1 Tryd.prog 107 ti107 := TOk1.of (z := .nilFunc) (vs := [.nilFunc]) Tryd.underlying107 (by kernel_rfl) rfl rfl rfl (by first | exact fun _ => rfl | (intro h; cases h)) (by decide) (fun h => by cases h)
theorem ok108 : TOk1 Tryd.prog 108 ti108 := TOk1.of (z := .nilIface) (vs := [.nilIface]) Tryd.underlying108 (by kernel_rfl) rfl rfl rfl (by first | exact fun _ => rfl | (intro h; cases h)) (by decide) (fun h => by cases h)
theorem ok109 : TOk1 Tryd.prog 109 ti109 := TOk1.of (z := .nilIface) (vs := [.nilIface]) Tryd.underlying109 (by kernel_rfl) rfl rfl rfl (by first | exact fun _ => rfl | (intro h; cases h)) (by decide) (fun h => by cases h)
theorem ok110 : TOk1 Tryd.prog 110 ti110 := TOk1.of (z := .nilFunc) (vs := [.nilFunc]) Tryd.underlying110 (by kernel_rfl) rfl rfl rfl (by first | exact fun _ => rfl | (intro h; cases h)) (by decide) (fun h => by cases h)
theorem ok111 : TOk1 Tryd.prog 111 ti111 := TOk1.of (z := .int .u8 0) (vs := [.int .u8 0]) Tryd.underlying111 (by kernel_rfl) rfl rfl rfl (by first | exact fun _ => rfl | (intro h; cases h)) (by decide) (fun h => by cases h)
theorem ok112 : TOk1 Tryd.prog 112 ti112 := TOk1.of (z := .nilFunc) (vs := [.nilFunc]) Tryd.underlying112 (by kernel_rfl) rfl rfl rfl (by first | exact fun _ => rfl | (intro h; cases h)) (by decide) (fun h => by cases h)
theorem ok113 : TOk1 Tryd.prog 113 ti113 := TOk1.of (z := .nilFunc) (vs := [.nilFunc]) Tryd.underlying113 (by kernel_rfl) rfl rfl rfl (by first | exact fun _ => rfl | (intro h; cases h)) (by decide) (fun h => by cases h)
theorem ok114 : TOk1 Tryd.prog 114 ti114 := TOk1.of (z := .nilFunc) (vs := [.nilFunc]) Tryd.underlying114 (by kernel_rfl) rfl rfl rfl (by first | exact fun _ => rfl | (intro h; cases h)) (by decide) (fun h => by cases h)
theorem ok115 : TOk1 Tryd.prog 115 ti115 := TOk1.of (z := .slice none 0 0) (vs := [.slice none 0 0]) Tryd.underlying115 (by kernel_rfl) rfl rfl rfl (by first | exact fun _ => rfl | (intro h; cases h)) (by decide) (fun h => by cases h)
theorem ok117 : TOk1 Tryd.prog 117 ti117 := TOk1.of (z := .nilFunc) (vs := [.nilFunc]) Tryd.underlying117 (by kernel_rfl) rfl rfl rfl (by first | exact fun _ => rfl | (intro h; cases h)) (by decide) (fun h => by cases h)
theorem ok118 : TOk1 Tryd.prog 118 ti118 := TOk1.of (z := .pointer none) (vs := [.pointer none]) Tryd.underlying118 (by kernel_rfl) rfl rfl rfl (by first | exact fun _ => rfl | (intro h; cases h)) (by decide) (fun h => by cases h)
theorem ok119 : TOk1 Tryd.prog 119 ti119 := TOk1.of (z := .agg #[.pointer none]) (vs := [.pointer none]) Tryd.underlying119 (by kernel_rfl) rfl rfl rfl (by first | exact fun _ => rfl | (intro h; cases h)) (by decide) (fun h => by cases h)
theorem ok120 : TOk1 Tryd.prog 120 ti120 := TOk1.of (z := .agg #[.pointer none]) (vs := [.pointer none]) Tryd.underlying120 (by kernel_rfl) rfl rfl rfl (by first | exact fun _ => rfl | (intro h; cases h)) (by decide) (fun h => by cases h)
theorem ok121 : TOk1 Tryd.prog 121 ti121 := TOk1.of (z := .pointer none) (vs := [.pointer none]) Tryd.underlying121 (by kernel_rfl) rfl rfl rfl (by first | exact fun _ => rfl | (intro h; cases h)) (by decide) (fun h => by cases h)
theorem ok122 : TOk1 Tryd.prog 122 ti122 := TOk1.of (z := .nilFunc) (vs := [.nilFunc]) Tryd.underlying122 (by kernel_rfl) rfl rfl rfl (by first | exact fun _ => rfl | (intro h; cases h)) (by decide) (fun h => by cases h)
theorem ok123 : TOk1 Tryd.prog 123 ti123 := TOk1.of (z := .nilFunc) (vs := [.nilFunc]) Tryd.underlying123 (by kernel_rfl) rfl rfl rfl (by first | exact fun _ => rfl | (intro h; cases h)) (by decide) (fun h => by cases h)
theorem ok124 : TOk1 Tryd.prog 124 ti124 := TOk1.of (z := .nilFunc) (vs := [.nilFunc]) Tryd.underlying124 (by kernel_rfl) rfl rfl rfl (by first | exact fun _ => rfl | (intro h; cases h)) (by decide) (fun h => by cases h)
theorem ok125 : TOk1 Tryd.prog 125 ti125 := TOk1.of (z := .nilIface) (vs := [.nilIface]) Tryd.underlying125 (by kernel_rfl) rfl rfl rfl (by first | exact fun _ => rfl | (intro h; cases h)) (by decide) (fun h => by cases h)
theorem ok127 : TOk1 Tryd.prog 127 ti127 := TOk1.of (z := .nilFunc) (vs := [.nilFunc]) Tryd.underlying127 (by kernel_rfl) rfl rfl rfl (by first | exact fun _ => rfl | (intro h; cases h)) (by decide) (fun h => by cases h)
theorem ok128 : TOk1 Tryd.prog 128 ti128 := TOk1.of (z := .nilIface) (vs := [.nilIface]) Tryd.underlying128 (by kernel_rfl) rfl rfl rfl (by first | exact fun _ => rfl | (intro h; cases h)) (by decide) (fun h => by cases h)
theorem ok129 : TOk1 Tryd.prog 129 ti129 := TOk1.of (z := .nilFunc) (vs := [.nilFunc]) Tryd.underlying129 (by kernel_rfl) rfl rfl rfl (by first | exact fun _ => rfl | (intro h; cases h)) (by decide) (fun h => by cases h)
theorem ok130 : TOk1 Tryd.prog 130 ti130 := TOk1.of (z := .nilIface) (vs := [.nilIface]) Tryd.underlying130 (by kernel_rfl) rfl rfl rfl (by first | exact fun _ => rfl | (intro h; cases h)) (by decide) (fun h => by cases h)
theorem ok131 : TOk1 Tryd.prog 131 ti131 := TOk1.of (z := .slice none 0 0) (vs := [.slice none 0 0]) Tryd.underlying131 (by kernel_rfl) rfl rfl rfl (by first | exact fun _ => rfl | (intro h; cases h)) (by decide) (fun h => by cases h)
theorem ok132 : TOk1 Tryd.prog 132 ti132 := TOk1.of (z := .nilFunc) (vs := [.nilFunc]) Tryd.underlying132 (by kernel_rfl) rfl rfl rfl (by first | exact fun _ => rfl | (intro h; cases h)) (by decide) (fun h => by cases h)
theorem ok133 : TOk1 Tryd.prog 133 ti133 := TOk1.of (z := .nilFunc) (vs := [.nilFunc]) Tryd.underlying133 (by kernel_rfl) rfl rfl rfl (by first | exact fun _ => rfl | (intro h; cases h)) (by decide) (fun h => by cases h)
theorem ok134 : TOk1 Tryd.prog 134 ti134 := TOk1.of (z := .agg #[.pointer none, .pointer none, .pointer none, .string .empty]) (vs := [.pointer none, .pointer none, .pointer none, .string .empty]) Tryd.underlying134 (by kernel_rfl) rfl rfl rfl (by first | exact fun _ => rfl | (intro h; cases h)) (by decide) (fun h => by cases h)
theorem ok135 : TOk1 Tryd.prog 135 ti135 := TOk1.of (z := .agg #[.pointer none, .pointer none, .pointer none, .string .empty]) (vs := [.pointer none, .pointer none, .pointer none, .string .empty]) Tryd.underlying135 (by kernel_rfl) rfl rfl rfl (by first | exact fun _ => rfl | (intro h; cases h)) (by decide) (fun h => by cases h)
theorem ok139 : TOk1 Tryd.prog 139 ti139 := TOk1.of (z := .nilFunc) (vs := [.nilFunc]) Tryd.underlying139 (by kernel_rfl) rfl rfl rfl (by first | exact fun _ => rfl | (intro h; cases h)) (by decide) (fun h => by cases h)
theorem ok140 : TOk1 Tryd.prog 140 ti140 := TOk1.of (z := .nilFunc) (vs := [.nilFunc]) Tryd.underlying140 (by kernel_rfl) rfl rfl rfl (by first | exact fun _ => rfl | (intro h; cases h)) (by decide) (fun h => by cases h)
theorem ok141 : TOk1 Tryd.prog 141 ti141 := TOk1.of (z := .int .u8 0) (vs := [.int .u8 0]) Tryd.underlying141 (by kernel_rfl) rfl rfl rfl (by first | exact fun _ => rfl | (intro h; cases h)) (by decide) (fun h => by cases h)
theorem ok142 : TOk1 Tryd.prog 142 ti142 := TOk1.of (z := .nilFunc) (vs := [.nilFunc]) Tryd.underlying142 (by kernel_rfl) rfl rfl rfl (by first | exact fun _ => rfl | (intro h; cases h)) (by decide) (fun h => by cases h)
theorem ok143 : TOk1 Tryd.prog 143 ti143 := TOk1.of (z := .pointer none) (vs := [.pointer none]) Tryd.underlying143 (by kernel_rfl) rfl rfl rfl (by first | exact fun _ => rfl | (intro h; cases h)) (by decide) (fun h => by cases h)
theorem ok144 : TOk1 Tryd.prog 144 ti144 := TOk1.of (z := .int .i32 0) (vs := [.int .i32 0]) Tryd.underlying144 (by kernel_rfl) rfl rfl rfl (by first | exact fun _ => rfl | (intro h; cases h)) (by decide) (fun h => by cases h)
theorem ok145 : TOk1 Tryd.prog 145 ti145 := TOk1.of (z := .int .i32 0) (vs := [.int .i32 0]) Tryd.underlying145 (by kernel_rfl) rfl rfl rfl (by first | exact fun _ => rfl | (intro h; cases h)) (by decide) (fun h => by cases h)
theorem ok146 : TOk1 Tryd.prog 146 ti146 := TOk1.of (z := .agg #[.int .u64 0, .int .u64 0, .int .u32 0, .int .u8 0, .int .u8 0, .int .u8 0, .int .u8 0, .nilFunc, .pointer none, .int .i32 0, .int .i32 0]) (vs := [.int .u64 0, .int .u64 0, .int .u32 0, .int .u8 0, .int .u8 0, .int .u8 0, .int .u8 0, .nilFunc, .pointer none, .int .i32 0, .int .i32 0]) Tryd.underlying146 (by kernel_rfl) rfl rfl rfl (by first | exact fun _ => rfl | (intro h; cases h)) (by decide) (fun h => by cases h)
theorem ok147 : TOk1 Tryd.prog 147 ti147 := TOk1.of (z := .agg #[.int .u64 0, .int .u64 0, .int .u32 0, .int .u8 0, .int .u8 0, .int .u8 0, .int .u8 0, .nilFunc, .pointer none, .int .i32 0, .int .i32 0]) (vs := [.int .u64 0, .int .u64 0, .int .u32 0, .int .u8 0, .int .u8 0, .int .u8 0, .int .u8 0, .nilFunc, .pointer none, .int .i32 0, .int .i32 0]) Tryd.underlying147 (by kernel_rfl) rfl rfl rfl (by first | exact fun _ => rfl | (intro h; cases h)) (by decide) (fun h => by cases h)
theorem ok148 : TOk1 Tryd.prog 148 ti148 := TOk1.of (z := .nilFunc) (vs := [.nilFunc]) Tryd.underlying148 (by kernel_rfl) rfl rfl rfl (by first | exact fun _ => rfl | (intro h; cases h)) (by decide) (fun h => by cases h)
theorem ok149 : TOk1 Tryd.prog 149 ti149 := TOk1.of (z := .nilFunc) (vs := [.nilFunc]) Tryd.underlying149 (by kernel_rfl) rfl rfl rfl (by first | exact fun _ => rfl | (intro h; cases h)) (by decide) (fun h => by cases h)
theorem ok150 : TOk1 Tryd.prog 150 ti150 := TOk1.of (z := .agg #[.string .empty, .int .u8 0]) (vs := [.string .empty, .int .u8 0]) Tryd.underlying150 (by kernel_rfl) rfl rfl rfl (by first | exact fun _ => rfl | (intro h; cases h)) (by decide) (fun h => by cases h)
theorem ok151 : TOk1 Tryd.prog 151 ti151 := TOk1.of (z := .agg #[.string .empty, .int .u8 0]) (vs := [.string .empty, .int .u8 0]) Tryd.underlying151 (by kernel_rfl) rfl rfl rfl (by first | exact fun _ => rfl | (intro h; cases h)) (by decide) (fun h => by cases h)
theorem ok152 : TOk1 Tryd.prog 152 ti152 := TOk1.of (z := .pointer none) (vs := [.pointer none]) Tryd.underlying152 (by kernel_rfl) rfl rfl rfl (by first | exact fun _ => rfl | (intro h; cases h)) (by decide) (fun h => by cases h)
theorem ok153 : TOk1 Tryd.prog 153 ti153 := TOk1.of (z := .nilFunc) (vs := [.nilFunc]) Tryd.underlying153 (by kernel_rfl) rfl rfl rfl (by first | exact fun _ => rfl | (intro h; cases h)) (by decide) (fun h => by cases h)
theorem ok154 : TOk1 Tryd.prog 154 ti154 := TOk1.of (z := .int .u16 0) (vs := [.int .u16 0]) Tryd.underlying154 (by kernel_rfl) rfl rfl rfl (by first | exact fun _ => rfl | (intro h; cases h)) (by decide) (fun h => by cases h)
theorem ok155 : TOk1 Tryd.prog 155 ti155 := TOk1.of (z := .agg #[.int .i32 0, .int .u16 0, .int .u16 0, .int .u32 0, .int .u32 0]) (vs := [.int .i32 0, .int .u16 0, .int .u16 0, .int .u32 0, .int .u32 0]) Tryd.underlying155 (by kernel_rfl) rfl rfl rfl (by first | exact fun _ => rfl | (intro h; cases h)) (by decide) (fun h => by cases h)
theorem ok156 : TOk1 Tryd.prog 156 ti156 := TOk1.of (z := .agg #[.int .i32 0, .int .u16 0, .int .u16 0, .int .u32 0, .int .u32 0]) (vs := [.int .i32 0, .int .u16 0, .int .u16 0, .int .u32 0, .int .u32 0]) Tryd.underlying156 (by kernel_rfl) rfl rfl rfl (by first | exact fun _ => rfl | (intro h; cases h)) (by decide) (fun h => by cases h)
theorem ok157 : TOk1 Tryd.prog 157 ti157 := TOk1.of (z := .slice none 0 0) (vs := [.slice none 0 0]) Tryd.underlying157 (by kernel_rfl) rfl rfl rfl (by first | exact fun _ => rfl | (intro h; cases h)) (by decide) (fun h => by cases h)
theorem ok158 : TOk1 Tryd.prog 158 ti158 := TOk1.of (z := .int .i32 0) (vs := [.int .i32 0]) Tryd.underlying158 (by kernel_rfl) rfl rfl rfl (by first | exact fun _ => rfl | (intro h; cases h)) (by decide) (fun h => by cases h)
theorem ok159 : TOk1 Tryd.prog 159 ti159 := TOk1.of (z := .agg #[.int .i32 0, .int .i32 0, .int .i32 0, .int .i32 0]) (vs := [.int .i32 0, .int .i32 0, .int .i32 0, .int .i32 0]) Tryd.underlying159 (by kernel_rfl) rfl rfl rfl (by first | exact fun _ => rfl | (intro h; cases h)) (by decide) (fun h => by cases h)
theorem ok160 : TOk1 Tryd.prog 160 ti160 := TOk1.of (z := .agg #[.int .i32 0, .int .i32 0, .int .i32 0, .int .i32 0]) (vs := [.int .i32 0, .int .i32 0, .int .i32 0, .int .i32 0]) Tryd.underlying160 (by kernel_rfl) rfl rfl rfl (by first | exact fun _ => rfl | (intro h; cases h)) (by decide) (fun h => by cases h)
theorem ok161 : TOk1 Tryd.prog 161 ti161 := TOk1.of (z := .pointer none) (vs := [.pointer none]) Tryd.underlying161 (by kernel_rfl) rfl rfl rfl (by first | exact fun _ => rfl | (intro h; cases h)) (by decide) (fun h => by cases h)
theorem hT : TOk Tryd.prog T := by
  intro t i h
  unfold T at h
  split at h <;> first | (cases h; done) | (simp only [Option.some.injEq] at h; subst h)
  · exact ok1
  · exact ok2
  · exact ok3
  · exact ok4
  · exact ok5
  · exact ok6
  · exact ok7
  · exact ok8
  · exact ok9
  · exact ok10
  · exact ok11
  · exact ok12
  · exact ok13
  · exact ok14
  · exact ok15
  · exact ok16
  · exact ok17
  · exact ok18
  · exact ok19
  · exact ok20
  · exact ok21
  · exact ok22
  · exact ok23
  · exact ok24
  · exact ok25
  · exact ok26
  · exact ok28
  · exact ok30
  · exact ok31
  · exact ok32
  · exact ok33
  · exact ok34
  · exact ok35
  · exact ok36
  · exact ok37
  · exact ok38
  · exact ok40
  · exact ok42
  · exact ok44
  · exact ok46
  · exact ok47
  · exact ok48
  · exact ok50
  · exact ok51
  · exact ok52
  · exact ok53
  · exact ok54
  · exact ok56
  · exact ok57
  · exact ok58
  · exact ok60
  · exact ok62
  · exact ok64
  · exact ok65
  · exact ok66
  · exact ok67
  · exact ok68
  · exact ok69
  · exact ok70
  · exact ok71
  · exact ok72
  · exact ok73
  · exact ok74
  · exact ok75
  · exact ok76
  · exact ok77
  · exact ok78
  · exact ok79
  · exact ok80
  · exact ok81
  · exact ok82
  · exact ok83
  · exact ok84
  · exact ok85
  · exact ok86
  · exact ok87
  · exact ok89
  · exact ok90
  · exact ok91
  · exact ok92
  · exact ok93
  · exact ok94
  · exact ok95
  · exact ok96
  · exact ok97
  · exact ok98
  · exact ok99
  · exact ok100
  · exact ok102
  · exact ok104
  · exact ok105
  · exact ok106
  · exact ok107
  · exact ok108
  · exact ok109
  · exact ok110
  · exact ok111
  · exact ok112
  · exact ok113
  · exact ok114
  · exact ok115
  · exact ok117
  · exact ok118
  · exact ok119
  · exact ok120
  · exact ok121
  · exact ok122
  · exact ok123
  · exact ok124
  · exact ok125
  · exact ok127
  · exact ok128
  · exact ok129
  · exact ok130
  · exact ok131
  · exact ok132
  · exact ok133
  · exact ok134
  · exact ok135
  · exact ok139
  · exact ok140
  · exact ok141
  · exact ok142
  · exact ok143
  · exact ok144
  · exact ok145
  · exact ok146
  · exact ok147
  · exact ok148
  · exact ok149
  · exact ok150
  · exact ok151
  · exact ok152
  · exact ok153
  · exact ok154
  · exact ok155
  · exact ok156
  · exact ok157
  · exact ok158
  · exact ok159
  · exact ok160
  · exact ok161
end Go.Proofs.YtkbmkgcenehenaaDoor
