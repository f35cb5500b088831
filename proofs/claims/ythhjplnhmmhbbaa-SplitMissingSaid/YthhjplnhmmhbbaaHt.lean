import Derived.Test.YthhjplnhmmhbbaaProg
import Derived.KernelRfl
import Derived.Test.YthhjplnhmmhbbaaHm3
set_option linter.unusedSimpArgs false
/- The types of the program, as the machine without memory has them. -/
namespace Go.Proofs.Ythhjplnhmmhbbaa
open Go Hm
def ti1 : TI := ⟨.func #[] #[] false, 1, 8, [.nilfn], false⟩
def ti2 : TI := ⟨.int .i64, 1, 8, [.int .i64 0], false⟩
def ti3 : TI := ⟨.int .i64, 1, 8, [.int .i64 0], false⟩
def ti4 : TI := ⟨.bool, 1, 1, [.bool false], false⟩
def ti5 : TI := ⟨.int .u8, 1, 1, [.int .u8 0], false⟩
def ti6 : TI := ⟨.int .u8, 1, 1, [.int .u8 0], false⟩
def ti7 : TI := ⟨.struct #[{ name := "x", type := 2, offset := 0, embedded := false, tag := "", pkgPath := "runtime", byteOffset := 0 }, { name := "y", type := 3, offset := 1, embedded := false, tag := "", pkgPath := "runtime", byteOffset := 8 }, { name := "signed", type := 4, offset := 2, embedded := false, tag := "", pkgPath := "runtime", byteOffset := 16 }, { name := "code", type := 6, offset := 3, embedded := false, tag := "", pkgPath := "runtime", byteOffset := 17 }], 4, 24, [.int .i64 0, .int .i64 0, .bool false, .int .u8 0], false⟩
def ti8 : TI := ⟨.struct #[{ name := "x", type := 2, offset := 0, embedded := false, tag := "", pkgPath := "runtime", byteOffset := 0 }, { name := "y", type := 3, offset := 1, embedded := false, tag := "", pkgPath := "runtime", byteOffset := 8 }, { name := "signed", type := 4, offset := 2, embedded := false, tag := "", pkgPath := "runtime", byteOffset := 16 }, { name := "code", type := 6, offset := 3, embedded := false, tag := "", pkgPath := "runtime", byteOffset := 17 }], 4, 24, [.int .i64 0, .int .i64 0, .bool false, .int .u8 0], false⟩
def ti9 : TI := ⟨.string, 1, 16, [.str .empty], false⟩
def ti10 : TI := ⟨.string, 1, 16, [.str .empty], false⟩
def ti11 : TI := ⟨.string, 1, 16, [.str .empty], false⟩
def ti12 : TI := ⟨.int .u64, 1, 8, [.int .u64 0], false⟩
def ti13 : TI := ⟨.struct #[{ name := "msg", type := 9, offset := 0, embedded := false, tag := "", pkgPath := "runtime", byteOffset := 0 }, { name := "addr", type := 12, offset := 1, embedded := false, tag := "", pkgPath := "runtime", byteOffset := 16 }], 2, 24, [.str .empty, .int .u64 0], false⟩
def ti14 : TI := ⟨.struct #[{ name := "msg", type := 9, offset := 0, embedded := false, tag := "", pkgPath := "runtime", byteOffset := 0 }, { name := "addr", type := 12, offset := 1, embedded := false, tag := "", pkgPath := "runtime", byteOffset := 16 }], 2, 24, [.str .empty, .int .u64 0], false⟩
def ti15 : TI := ⟨.pointer 103, 1, 8, [.nilp], false⟩
def ti16 : TI := ⟨.pointer 106, 1, 8, [.nilp], false⟩
def ti17 : TI := ⟨.pointer 115, 1, 8, [.nilp], false⟩
def ti18 : TI := ⟨.struct #[{ name := "typ", type := 17, offset := 0, embedded := false, tag := "", pkgPath := "internal/runtime/maps", byteOffset := 0 }], 1, 8, [.nilp], false⟩
def ti19 : TI := ⟨.struct #[{ name := "typ", type := 17, offset := 0, embedded := false, tag := "", pkgPath := "internal/runtime/maps", byteOffset := 0 }], 1, 8, [.nilp], false⟩
def ti20 : TI := ⟨.interface #[], 1, 16, [.nilif], false⟩
def ti21 : TI := ⟨.int .i32, 1, 4, [.int .i32 0], false⟩
def ti22 : TI := ⟨.slice 3, 1, 24, [.nil], false⟩
def ti23 : TI := ⟨.slice 53, 1, 24, [.nil], false⟩
def ti24 : TI := ⟨.func #[22] #[4] false, 1, 8, [.nilfn], false⟩
def ti25 : TI := ⟨.func #[23] #[4] false, 1, 8, [.nilfn], false⟩
def ti26 : TI := ⟨.func #[23] #[23] false, 1, 8, [.nilfn], false⟩
def ti27 : TI := ⟨.slice 46, 1, 24, [.nil], false⟩
def ti28 : TI := ⟨.int .i64, 1, 8, [.int .i64 0], false⟩
def ti30 : TI := ⟨.func #[22, 3] #[27, 28] false, 1, 8, [.nilfn], false⟩
def ti32 : TI := ⟨.func #[22, 3] #[27, 3] false, 1, 8, [.nilfn], false⟩
def ti33 : TI := ⟨.slice 59, 1, 24, [.nil], false⟩
def ti35 : TI := ⟨.func #[23, 3] #[33, 28] false, 1, 8, [.nilfn], false⟩
def ti37 : TI := ⟨.func #[23, 3] #[33, 3] false, 1, 8, [.nilfn], false⟩
def ti38 : TI := ⟨.func #[27, 27] #[4] false, 1, 8, [.nilfn], false⟩
def ti39 : TI := ⟨.func #[33, 33] #[4] false, 1, 8, [.nilfn], false⟩
def ti40 : TI := ⟨.func #[23, 23] #[4] false, 1, 8, [.nilfn], false⟩
def ti41 : TI := ⟨.func #[22, 23, 3] #[4] false, 1, 8, [.nilfn], false⟩
def ti42 : TI := ⟨.func #[] #[4] false, 1, 8, [.nilfn], false⟩
def ti43 : TI := ⟨.func #[22] #[3] false, 1, 8, [.nilfn], false⟩
def ti44 : TI := ⟨.func #[3] #[4] false, 1, 8, [.nilfn], false⟩
def ti45 : TI := ⟨.struct #[{ name := "Member", type := 3, offset := 0, embedded := false, tag := "", pkgPath := "", byteOffset := 0 }, { name := "Offset", type := 3, offset := 1, embedded := false, tag := "", pkgPath := "", byteOffset := 8 }, { name := "Raw", type := 3, offset := 2, embedded := false, tag := "", pkgPath := "", byteOffset := 16 }], 3, 24, [.int .i64 0, .int .i64 0, .int .i64 0], true⟩
def ti46 : TI := ⟨.struct #[{ name := "Member", type := 3, offset := 0, embedded := false, tag := "", pkgPath := "", byteOffset := 0 }, { name := "Offset", type := 3, offset := 1, embedded := false, tag := "", pkgPath := "", byteOffset := 8 }, { name := "Raw", type := 3, offset := 2, embedded := false, tag := "", pkgPath := "", byteOffset := 16 }], 3, 24, [.int .i64 0, .int .i64 0, .int .i64 0], true⟩
def ti47 : TI := ⟨.func #[22, 3] #[4] false, 1, 8, [.nilfn], false⟩
def ti48 : TI := ⟨.func #[22, 46] #[4] false, 1, 8, [.nilfn], false⟩
def ti49 : TI := ⟨.func #[22, 27] #[27, 28] false, 1, 8, [.nilfn], false⟩
def ti50 : TI := ⟨.func #[22, 27] #[4] false, 1, 8, [.nilfn], false⟩
def ti51 : TI := ⟨.slice 5, 1, 24, [.nil], false⟩
def ti52 : TI := ⟨.struct #[{ name := "Name", type := 9, offset := 0, embedded := false, tag := "", pkgPath := "", byteOffset := 0 }, { name := "Data", type := 51, offset := 1, embedded := false, tag := "", pkgPath := "", byteOffset := 16 }], 2, 40, [.str .empty, .nil], false⟩
def ti53 : TI := ⟨.struct #[{ name := "Name", type := 9, offset := 0, embedded := false, tag := "", pkgPath := "", byteOffset := 0 }, { name := "Data", type := 51, offset := 1, embedded := false, tag := "", pkgPath := "", byteOffset := 16 }], 2, 40, [.str .empty, .nil], false⟩
def ti54 : TI := ⟨.func #[22] #[28] false, 1, 8, [.nilfn], false⟩
def ti55 : TI := ⟨.func #[22, 3] #[27] false, 1, 8, [.nilfn], false⟩
def ti56 : TI := ⟨.func #[23] #[28] false, 1, 8, [.nilfn], false⟩
def ti57 : TI := ⟨.func #[51] #[51] false, 1, 8, [.nilfn], false⟩
def ti58 : TI := ⟨.struct #[{ name := "Piece", type := 46, offset := 0, embedded := false, tag := "", pkgPath := "", byteOffset := 0 }, { name := "Data", type := 51, offset := 3, embedded := false, tag := "", pkgPath := "", byteOffset := 24 }], 4, 48, [.int .i64 0, .int .i64 0, .int .i64 0, .nil], false⟩
def ti59 : TI := ⟨.struct #[{ name := "Piece", type := 46, offset := 0, embedded := false, tag := "", pkgPath := "", byteOffset := 0 }, { name := "Data", type := 51, offset := 3, embedded := false, tag := "", pkgPath := "", byteOffset := 24 }], 4, 48, [.int .i64 0, .int .i64 0, .int .i64 0, .nil], false⟩
def ti60 : TI := ⟨.func #[23] #[3] false, 1, 8, [.nilfn], false⟩
def ti61 : TI := ⟨.func #[23] #[22] false, 1, 8, [.nilfn], false⟩
def ti62 : TI := ⟨.func #[27, 63] #[4] false, 1, 8, [.nilfn], false⟩
def ti63 : TI := ⟨.func #[46] #[4] false, 1, 8, [.nilfn], false⟩
def ti64 : TI := ⟨.func #[22, 27] #[27] false, 1, 8, [.nilfn], false⟩
def ti65 : TI := ⟨.func #[22, 44] #[4] false, 1, 8, [.nilfn], false⟩
def ti66 : TI := ⟨.slice 9, 1, 24, [.nil], false⟩
def ti67 : TI := ⟨.func #[9] #[4] false, 1, 8, [.nilfn], false⟩
def ti68 : TI := ⟨.func #[66] #[4] false, 1, 8, [.nilfn], false⟩
def ti69 : TI := ⟨.func #[27, 63] #[3] false, 1, 8, [.nilfn], false⟩
def ti70 : TI := ⟨.func #[27] #[27] false, 1, 8, [.nilfn], false⟩
def ti71 : TI := ⟨.func #[27, 74] #[] false, 1, 8, [.nilfn], false⟩
def ti72 : TI := ⟨.func #[22] #[3] true, 1, 8, [.nilfn], false⟩
def ti73 : TI := ⟨.func #[3, 3] #[3] false, 1, 8, [.nilfn], false⟩
def ti74 : TI := ⟨.func #[46, 46] #[3] false, 1, 8, [.nilfn], false⟩
def ti75 : TI := ⟨.func #[22, 44] #[3] false, 1, 8, [.nilfn], false⟩
def ti76 : TI := ⟨.map 9 4, 1, 8, [.nilmap], false⟩
def ti77 : TI := ⟨.func #[27, 3, 3, 3, 74] #[] false, 1, 8, [.nilfn], false⟩
def ti78 : TI := ⟨.func #[79] #[3] false, 1, 8, [.nilfn], false⟩
def ti79 : TI := ⟨.int .u64, 1, 8, [.int .u64 0], false⟩
def ti80 : TI := ⟨.func #[27, 3, 3, 74] #[] false, 1, 8, [.nilfn], false⟩
def ti81 : TI := ⟨.int .i64, 1, 8, [.int .i64 0], false⟩
def ti83 : TI := ⟨.func #[27, 3, 3, 74] #[3, 81] false, 1, 8, [.nilfn], false⟩
def ti84 : TI := ⟨.func #[27, 3, 3, 74] #[4] false, 1, 8, [.nilfn], false⟩
def ti85 : TI := ⟨.func #[27, 3, 3, 3, 74] #[3] false, 1, 8, [.nilfn], false⟩
def ti87 : TI := ⟨.func #[27, 3, 3, 3, 74] #[3, 4] false, 1, 8, [.nilfn], false⟩
def ti88 : TI := ⟨.func #[89] #[3] false, 1, 8, [.nilfn], false⟩
def ti89 : TI := ⟨.int .u32, 1, 4, [.int .u32 0], false⟩
def ti90 : TI := ⟨.func #[91] #[3] false, 1, 8, [.nilfn], false⟩
def ti91 : TI := ⟨.int .u64, 1, 8, [.int .u64 0], false⟩
def ti92 : TI := ⟨.int .u64, 1, 8, [.int .u64 0], false⟩
def ti93 : TI := ⟨.func #[3] #[79] false, 1, 8, [.nilfn], false⟩
def ti94 : TI := ⟨.func #[] #[91] false, 1, 8, [.nilfn], false⟩
def ti95 : TI := ⟨.func #[27, 3, 96, 74] #[3] false, 1, 8, [.nilfn], false⟩
def ti96 : TI := ⟨.pointer 3, 1, 8, [.nilp], false⟩
def ti97 : TI := ⟨.func #[27, 3, 3, 3, 96, 74] #[3] false, 1, 8, [.nilfn], false⟩
def ti98 : TI := ⟨.pointer 92, 1, 8, [.nilp], false⟩
def ti100 : TI := ⟨.func #[27, 3, 3, 96, 74] #[3, 3] false, 1, 8, [.nilfn], false⟩
def ti101 : TI := ⟨.func #[] #[9] false, 1, 8, [.nilfn], false⟩
def ti102 : TI := ⟨.struct #[{ name := "_interface", type := 17, offset := 0, embedded := false, tag := "", pkgPath := "runtime", byteOffset := 0 }, { name := "concrete", type := 17, offset := 1, embedded := false, tag := "", pkgPath := "runtime", byteOffset := 8 }, { name := "asserted", type := 17, offset := 2, embedded := false, tag := "", pkgPath := "runtime", byteOffset := 16 }, { name := "missingMethod", type := 9, offset := 3, embedded := false, tag := "", pkgPath := "runtime", byteOffset := 24 }], 4, 40, [.nilp, .nilp, .nilp, .str .empty], false⟩
def ti103 : TI := ⟨.struct #[{ name := "_interface", type := 17, offset := 0, embedded := false, tag := "", pkgPath := "runtime", byteOffset := 0 }, { name := "concrete", type := 17, offset := 1, embedded := false, tag := "", pkgPath := "runtime", byteOffset := 8 }, { name := "asserted", type := 17, offset := 2, embedded := false, tag := "", pkgPath := "runtime", byteOffset := 16 }, { name := "missingMethod", type := 9, offset := 3, embedded := false, tag := "", pkgPath := "runtime", byteOffset := 24 }], 4, 40, [.nilp, .nilp, .nilp, .str .empty], false⟩
def ti107 : TI := ⟨.func #[] #[3] false, 1, 8, [.nilfn], false⟩
def ti108 : TI := ⟨.int .u8, 1, 1, [.int .u8 0], false⟩
def ti109 : TI := ⟨.int .u8, 1, 1, [.int .u8 0], false⟩
def ti110 : TI := ⟨.func #[116, 116] #[4] false, 1, 8, [.nilfn], false⟩
def ti111 : TI := ⟨.pointer 5, 1, 8, [.nilp], false⟩
def ti112 : TI := ⟨.int .i32, 1, 4, [.int .i32 0], false⟩
def ti113 : TI := ⟨.int .i32, 1, 4, [.int .i32 0], false⟩
def ti114 : TI := ⟨.struct #[{ name := "Size_", type := 12, offset := 0, embedded := false, tag := "", pkgPath := "", byteOffset := 0 }, { name := "PtrBytes", type := 12, offset := 1, embedded := false, tag := "", pkgPath := "", byteOffset := 8 }, { name := "Hash", type := 89, offset := 2, embedded := false, tag := "", pkgPath := "", byteOffset := 16 }, { name := "TFlag", type := 108, offset := 3, embedded := false, tag := "", pkgPath := "", byteOffset := 20 }, { name := "Align_", type := 5, offset := 4, embedded := false, tag := "", pkgPath := "", byteOffset := 21 }, { name := "FieldAlign_", type := 5, offset := 5, embedded := false, tag := "", pkgPath := "", byteOffset := 22 }, { name := "Kind_", type := 109, offset := 6, embedded := false, tag := "", pkgPath := "", byteOffset := 23 }, { name := "Equal", type := 110, offset := 7, embedded := false, tag := "", pkgPath := "", byteOffset := 24 }, { name := "GCData", type := 111, offset := 8, embedded := false, tag := "", pkgPath := "", byteOffset := 32 }, { name := "Str", type := 112, offset := 9, embedded := false, tag := "", pkgPath := "", byteOffset := 40 }, { name := "PtrToThis", type := 113, offset := 10, embedded := false, tag := "", pkgPath := "", byteOffset := 44 }], 11, 48, [.int .u64 0, .int .u64 0, .int .u32 0, .int .u8 0, .int .u8 0, .int .u8 0, .int .u8 0, .nilfn, .nilp, .int .i32 0, .int .i32 0], false⟩
def ti115 : TI := ⟨.struct #[{ name := "Size_", type := 12, offset := 0, embedded := false, tag := "", pkgPath := "", byteOffset := 0 }, { name := "PtrBytes", type := 12, offset := 1, embedded := false, tag := "", pkgPath := "", byteOffset := 8 }, { name := "Hash", type := 89, offset := 2, embedded := false, tag := "", pkgPath := "", byteOffset := 16 }, { name := "TFlag", type := 108, offset := 3, embedded := false, tag := "", pkgPath := "", byteOffset := 20 }, { name := "Align_", type := 5, offset := 4, embedded := false, tag := "", pkgPath := "", byteOffset := 21 }, { name := "FieldAlign_", type := 5, offset := 5, embedded := false, tag := "", pkgPath := "", byteOffset := 22 }, { name := "Kind_", type := 109, offset := 6, embedded := false, tag := "", pkgPath := "", byteOffset := 23 }, { name := "Equal", type := 110, offset := 7, embedded := false, tag := "", pkgPath := "", byteOffset := 24 }, { name := "GCData", type := 111, offset := 8, embedded := false, tag := "", pkgPath := "", byteOffset := 32 }, { name := "Str", type := 112, offset := 9, embedded := false, tag := "", pkgPath := "", byteOffset := 40 }, { name := "PtrToThis", type := 113, offset := 10, embedded := false, tag := "", pkgPath := "", byteOffset := 44 }], 11, 48, [.int .u64 0, .int .u64 0, .int .u32 0, .int .u8 0, .int .u8 0, .int .u8 0, .int .u8 0, .nilfn, .nilp, .int .i32 0, .int .i32 0], false⟩
def T : TypeId → Option TI
  | 1 => some ti1
  | 2 => some ti2
  | 3 => some ti3
  | 4 => some ti4
  | 5 => some ti5
  | 6 => some ti6
  | 7 => some ti7
  | 8 => some ti8
  | 9 => some ti9
  | 10 => some ti10
  | 11 => some ti11
  | 12 => some ti12
  | 13 => some ti13
  | 14 => some ti14
  | 15 => some ti15
  | 16 => some ti16
  | 17 => some ti17
  | 18 => some ti18
  | 19 => some ti19
  | 20 => some ti20
  | 21 => some ti21
  | 22 => some ti22
  | 23 => some ti23
  | 24 => some ti24
  | 25 => some ti25
  | 26 => some ti26
  | 27 => some ti27
  | 28 => some ti28
  | 30 => some ti30
  | 32 => some ti32
  | 33 => some ti33
  | 35 => some ti35
  | 37 => some ti37
  | 38 => some ti38
  | 39 => some ti39
  | 40 => some ti40
  | 41 => some ti41
  | 42 => some ti42
  | 43 => some ti43
  | 44 => some ti44
  | 45 => some ti45
  | 46 => some ti46
  | 47 => some ti47
  | 48 => some ti48
  | 49 => some ti49
  | 50 => some ti50
  | 51 => some ti51
  | 52 => some ti52
  | 53 => some ti53
  | 54 => some ti54
  | 55 => some ti55
  | 56 => some ti56
  | 57 => some ti57
  | 58 => some ti58
  | 59 => some ti59
  | 60 => some ti60
  | 61 => some ti61
  | 62 => some ti62
  | 63 => some ti63
  | 64 => some ti64
  | 65 => some ti65
  | 66 => some ti66
  | 67 => some ti67
  | 68 => some ti68
  | 69 => some ti69
  | 70 => some ti70
  | 71 => some ti71
  | 72 => some ti72
  | 73 => some ti73
  | 74 => some ti74
  | 75 => some ti75
  | 76 => some ti76
  | 77 => some ti77
  | 78 => some ti78
  | 79 => some ti79
  | 80 => some ti80
  | 81 => some ti81
  | 83 => some ti83
  | 84 => some ti84
  | 85 => some ti85
  | 87 => some ti87
  | 88 => some ti88
  | 89 => some ti89
  | 90 => some ti90
  | 91 => some ti91
  | 92 => some ti92
  | 93 => some ti93
  | 94 => some ti94
  | 95 => some ti95
  | 96 => some ti96
  | 97 => some ti97
  | 98 => some ti98
  | 100 => some ti100
  | 101 => some ti101
  | 102 => some ti102
  | 103 => some ti103
  | 107 => some ti107
  | 108 => some ti108
  | 109 => some ti109
  | 110 => some ti110
  | 111 => some ti111
  | 112 => some ti112
  | 113 => some ti113
  | 114 => some ti114
  | 115 => some ti115
  | _ => none
@[go_sem] theorem T1 : T 1 = some ti1 := Eq.trans rfl rfl
@[go_sem] theorem eqok1 : ti1.eqok = false := Eq.trans rfl rfl
@[go_sem] theorem und1 : ti1.und = .func #[] #[] false := Eq.trans rfl rfl
@[go_sem] theorem size1 : ti1.size = 1 := Eq.trans rfl rfl
@[go_sem] theorem bytes1 : ti1.bytes = 8 := Eq.trans rfl rfl
@[go_sem] theorem zero1 : ti1.zero = [.nilfn] := Eq.trans rfl rfl
@[go_sem] theorem T2 : T 2 = some ti2 := Eq.trans rfl rfl
@[go_sem] theorem eqok2 : ti2.eqok = false := Eq.trans rfl rfl
@[go_sem] theorem und2 : ti2.und = .int .i64 := Eq.trans rfl rfl
@[go_sem] theorem size2 : ti2.size = 1 := Eq.trans rfl rfl
@[go_sem] theorem bytes2 : ti2.bytes = 8 := Eq.trans rfl rfl
@[go_sem] theorem zero2 : ti2.zero = [.int .i64 0] := Eq.trans rfl rfl
@[go_sem] theorem T3 : T 3 = some ti3 := Eq.trans rfl rfl
@[go_sem] theorem eqok3 : ti3.eqok = false := Eq.trans rfl rfl
@[go_sem] theorem und3 : ti3.und = .int .i64 := Eq.trans rfl rfl
@[go_sem] theorem size3 : ti3.size = 1 := Eq.trans rfl rfl
@[go_sem] theorem bytes3 : ti3.bytes = 8 := Eq.trans rfl rfl
@[go_sem] theorem zero3 : ti3.zero = [.int .i64 0] := Eq.trans rfl rfl
@[go_sem] theorem T4 : T 4 = some ti4 := Eq.trans rfl rfl
@[go_sem] theorem eqok4 : ti4.eqok = false := Eq.trans rfl rfl
@[go_sem] theorem und4 : ti4.und = .bool := Eq.trans rfl rfl
@[go_sem] theorem size4 : ti4.size = 1 := Eq.trans rfl rfl
@[go_sem] theorem bytes4 : ti4.bytes = 1 := Eq.trans rfl rfl
@[go_sem] theorem zero4 : ti4.zero = [.bool false] := Eq.trans rfl rfl
@[go_sem] theorem T5 : T 5 = some ti5 := Eq.trans rfl rfl
@[go_sem] theorem eqok5 : ti5.eqok = false := Eq.trans rfl rfl
@[go_sem] theorem und5 : ti5.und = .int .u8 := Eq.trans rfl rfl
@[go_sem] theorem size5 : ti5.size = 1 := Eq.trans rfl rfl
@[go_sem] theorem bytes5 : ti5.bytes = 1 := Eq.trans rfl rfl
@[go_sem] theorem zero5 : ti5.zero = [.int .u8 0] := Eq.trans rfl rfl
@[go_sem] theorem T6 : T 6 = some ti6 := Eq.trans rfl rfl
@[go_sem] theorem eqok6 : ti6.eqok = false := Eq.trans rfl rfl
@[go_sem] theorem und6 : ti6.und = .int .u8 := Eq.trans rfl rfl
@[go_sem] theorem size6 : ti6.size = 1 := Eq.trans rfl rfl
@[go_sem] theorem bytes6 : ti6.bytes = 1 := Eq.trans rfl rfl
@[go_sem] theorem zero6 : ti6.zero = [.int .u8 0] := Eq.trans rfl rfl
@[go_sem] theorem T7 : T 7 = some ti7 := Eq.trans rfl rfl
@[go_sem] theorem eqok7 : ti7.eqok = false := Eq.trans rfl rfl
@[go_sem] theorem und7 : ti7.und = .struct #[{ name := "x", type := 2, offset := 0, embedded := false, tag := "", pkgPath := "runtime", byteOffset := 0 }, { name := "y", type := 3, offset := 1, embedded := false, tag := "", pkgPath := "runtime", byteOffset := 8 }, { name := "signed", type := 4, offset := 2, embedded := false, tag := "", pkgPath := "runtime", byteOffset := 16 }, { name := "code", type := 6, offset := 3, embedded := false, tag := "", pkgPath := "runtime", byteOffset := 17 }] := Eq.trans rfl rfl
@[go_sem] theorem size7 : ti7.size = 4 := Eq.trans rfl rfl
@[go_sem] theorem bytes7 : ti7.bytes = 24 := Eq.trans rfl rfl
@[go_sem] theorem zero7 : ti7.zero = [.int .i64 0, .int .i64 0, .bool false, .int .u8 0] := Eq.trans rfl rfl
@[go_sem] theorem T8 : T 8 = some ti8 := Eq.trans rfl rfl
@[go_sem] theorem eqok8 : ti8.eqok = false := Eq.trans rfl rfl
@[go_sem] theorem und8 : ti8.und = .struct #[{ name := "x", type := 2, offset := 0, embedded := false, tag := "", pkgPath := "runtime", byteOffset := 0 }, { name := "y", type := 3, offset := 1, embedded := false, tag := "", pkgPath := "runtime", byteOffset := 8 }, { name := "signed", type := 4, offset := 2, embedded := false, tag := "", pkgPath := "runtime", byteOffset := 16 }, { name := "code", type := 6, offset := 3, embedded := false, tag := "", pkgPath := "runtime", byteOffset := 17 }] := Eq.trans rfl rfl
@[go_sem] theorem size8 : ti8.size = 4 := Eq.trans rfl rfl
@[go_sem] theorem bytes8 : ti8.bytes = 24 := Eq.trans rfl rfl
@[go_sem] theorem zero8 : ti8.zero = [.int .i64 0, .int .i64 0, .bool false, .int .u8 0] := Eq.trans rfl rfl
@[go_sem] theorem T9 : T 9 = some ti9 := Eq.trans rfl rfl
@[go_sem] theorem eqok9 : ti9.eqok = false := Eq.trans rfl rfl
@[go_sem] theorem und9 : ti9.und = .string := Eq.trans rfl rfl
@[go_sem] theorem size9 : ti9.size = 1 := Eq.trans rfl rfl
@[go_sem] theorem bytes9 : ti9.bytes = 16 := Eq.trans rfl rfl
@[go_sem] theorem zero9 : ti9.zero = [.str .empty] := Eq.trans rfl rfl
@[go_sem] theorem T10 : T 10 = some ti10 := Eq.trans rfl rfl
@[go_sem] theorem eqok10 : ti10.eqok = false := Eq.trans rfl rfl
@[go_sem] theorem und10 : ti10.und = .string := Eq.trans rfl rfl
@[go_sem] theorem size10 : ti10.size = 1 := Eq.trans rfl rfl
@[go_sem] theorem bytes10 : ti10.bytes = 16 := Eq.trans rfl rfl
@[go_sem] theorem zero10 : ti10.zero = [.str .empty] := Eq.trans rfl rfl
@[go_sem] theorem T11 : T 11 = some ti11 := Eq.trans rfl rfl
@[go_sem] theorem eqok11 : ti11.eqok = false := Eq.trans rfl rfl
@[go_sem] theorem und11 : ti11.und = .string := Eq.trans rfl rfl
@[go_sem] theorem size11 : ti11.size = 1 := Eq.trans rfl rfl
@[go_sem] theorem bytes11 : ti11.bytes = 16 := Eq.trans rfl rfl
@[go_sem] theorem zero11 : ti11.zero = [.str .empty] := Eq.trans rfl rfl
@[go_sem] theorem T12 : T 12 = some ti12 := Eq.trans rfl rfl
@[go_sem] theorem eqok12 : ti12.eqok = false := Eq.trans rfl rfl
@[go_sem] theorem und12 : ti12.und = .int .u64 := Eq.trans rfl rfl
@[go_sem] theorem size12 : ti12.size = 1 := Eq.trans rfl rfl
@[go_sem] theorem bytes12 : ti12.bytes = 8 := Eq.trans rfl rfl
@[go_sem] theorem zero12 : ti12.zero = [.int .u64 0] := Eq.trans rfl rfl
@[go_sem] theorem T13 : T 13 = some ti13 := Eq.trans rfl rfl
@[go_sem] theorem eqok13 : ti13.eqok = false := Eq.trans rfl rfl
@[go_sem] theorem und13 : ti13.und = .struct #[{ name := "msg", type := 9, offset := 0, embedded := false, tag := "", pkgPath := "runtime", byteOffset := 0 }, { name := "addr", type := 12, offset := 1, embedded := false, tag := "", pkgPath := "runtime", byteOffset := 16 }] := Eq.trans rfl rfl
@[go_sem] theorem size13 : ti13.size = 2 := Eq.trans rfl rfl
@[go_sem] theorem bytes13 : ti13.bytes = 24 := Eq.trans rfl rfl
@[go_sem] theorem zero13 : ti13.zero = [.str .empty, .int .u64 0] := Eq.trans rfl rfl
@[go_sem] theorem T14 : T 14 = some ti14 := Eq.trans rfl rfl
@[go_sem] theorem eqok14 : ti14.eqok = false := Eq.trans rfl rfl
@[go_sem] theorem und14 : ti14.und = .struct #[{ name := "msg", type := 9, offset := 0, embedded := false, tag := "", pkgPath := "runtime", byteOffset := 0 }, { name := "addr", type := 12, offset := 1, embedded := false, tag := "", pkgPath := "runtime", byteOffset := 16 }] := Eq.trans rfl rfl
@[go_sem] theorem size14 : ti14.size = 2 := Eq.trans rfl rfl
@[go_sem] theorem bytes14 : ti14.bytes = 24 := Eq.trans rfl rfl
@[go_sem] theorem zero14 : ti14.zero = [.str .empty, .int .u64 0] := Eq.trans rfl rfl
@[go_sem] theorem T15 : T 15 = some ti15 := Eq.trans rfl rfl
@[go_sem] theorem eqok15 : ti15.eqok = false := Eq.trans rfl rfl
@[go_sem] theorem und15 : ti15.und = .pointer 103 := Eq.trans rfl rfl
@[go_sem] theorem size15 : ti15.size = 1 := Eq.trans rfl rfl
@[go_sem] theorem bytes15 : ti15.bytes = 8 := Eq.trans rfl rfl
@[go_sem] theorem zero15 : ti15.zero = [.nilp] := Eq.trans rfl rfl
@[go_sem] theorem T16 : T 16 = some ti16 := Eq.trans rfl rfl
@[go_sem] theorem eqok16 : ti16.eqok = false := Eq.trans rfl rfl
@[go_sem] theorem und16 : ti16.und = .pointer 106 := Eq.trans rfl rfl
@[go_sem] theorem size16 : ti16.size = 1 := Eq.trans rfl rfl
@[go_sem] theorem bytes16 : ti16.bytes = 8 := Eq.trans rfl rfl
@[go_sem] theorem zero16 : ti16.zero = [.nilp] := Eq.trans rfl rfl
@[go_sem] theorem T17 : T 17 = some ti17 := Eq.trans rfl rfl
@[go_sem] theorem eqok17 : ti17.eqok = false := Eq.trans rfl rfl
@[go_sem] theorem und17 : ti17.und = .pointer 115 := Eq.trans rfl rfl
@[go_sem] theorem size17 : ti17.size = 1 := Eq.trans rfl rfl
@[go_sem] theorem bytes17 : ti17.bytes = 8 := Eq.trans rfl rfl
@[go_sem] theorem zero17 : ti17.zero = [.nilp] := Eq.trans rfl rfl
@[go_sem] theorem T18 : T 18 = some ti18 := Eq.trans rfl rfl
@[go_sem] theorem eqok18 : ti18.eqok = false := Eq.trans rfl rfl
@[go_sem] theorem und18 : ti18.und = .struct #[{ name := "typ", type := 17, offset := 0, embedded := false, tag := "", pkgPath := "internal/runtime/maps", byteOffset := 0 }] := Eq.trans rfl rfl
@[go_sem] theorem size18 : ti18.size = 1 := Eq.trans rfl rfl
@[go_sem] theorem bytes18 : ti18.bytes = 8 := Eq.trans rfl rfl
@[go_sem] theorem zero18 : ti18.zero = [.nilp] := Eq.trans rfl rfl
@[go_sem] theorem T19 : T 19 = some ti19 := Eq.trans rfl rfl
@[go_sem] theorem eqok19 : ti19.eqok = false := Eq.trans rfl rfl
@[go_sem] theorem und19 : ti19.und = .struct #[{ name := "typ", type := 17, offset := 0, embedded := false, tag := "", pkgPath := "internal/runtime/maps", byteOffset := 0 }] := Eq.trans rfl rfl
@[go_sem] theorem size19 : ti19.size = 1 := Eq.trans rfl rfl
@[go_sem] theorem bytes19 : ti19.bytes = 8 := Eq.trans rfl rfl
@[go_sem] theorem zero19 : ti19.zero = [.nilp] := Eq.trans rfl rfl
@[go_sem] theorem T20 : T 20 = some ti20 := Eq.trans rfl rfl
@[go_sem] theorem eqok20 : ti20.eqok = false := Eq.trans rfl rfl
@[go_sem] theorem und20 : ti20.und = .interface #[] := Eq.trans rfl rfl
@[go_sem] theorem size20 : ti20.size = 1 := Eq.trans rfl rfl
@[go_sem] theorem bytes20 : ti20.bytes = 16 := Eq.trans rfl rfl
@[go_sem] theorem zero20 : ti20.zero = [.nilif] := Eq.trans rfl rfl
@[go_sem] theorem T21 : T 21 = some ti21 := Eq.trans rfl rfl
@[go_sem] theorem eqok21 : ti21.eqok = false := Eq.trans rfl rfl
@[go_sem] theorem und21 : ti21.und = .int .i32 := Eq.trans rfl rfl
@[go_sem] theorem size21 : ti21.size = 1 := Eq.trans rfl rfl
@[go_sem] theorem bytes21 : ti21.bytes = 4 := Eq.trans rfl rfl
@[go_sem] theorem zero21 : ti21.zero = [.int .i32 0] := Eq.trans rfl rfl
@[go_sem] theorem T22 : T 22 = some ti22 := Eq.trans rfl rfl
@[go_sem] theorem eqok22 : ti22.eqok = false := Eq.trans rfl rfl
@[go_sem] theorem und22 : ti22.und = .slice 3 := Eq.trans rfl rfl
@[go_sem] theorem size22 : ti22.size = 1 := Eq.trans rfl rfl
@[go_sem] theorem bytes22 : ti22.bytes = 24 := Eq.trans rfl rfl
@[go_sem] theorem zero22 : ti22.zero = [.nil] := Eq.trans rfl rfl
@[go_sem] theorem T23 : T 23 = some ti23 := Eq.trans rfl rfl
@[go_sem] theorem eqok23 : ti23.eqok = false := Eq.trans rfl rfl
@[go_sem] theorem und23 : ti23.und = .slice 53 := Eq.trans rfl rfl
@[go_sem] theorem size23 : ti23.size = 1 := Eq.trans rfl rfl
@[go_sem] theorem bytes23 : ti23.bytes = 24 := Eq.trans rfl rfl
@[go_sem] theorem zero23 : ti23.zero = [.nil] := Eq.trans rfl rfl
@[go_sem] theorem T24 : T 24 = some ti24 := Eq.trans rfl rfl
@[go_sem] theorem eqok24 : ti24.eqok = false := Eq.trans rfl rfl
@[go_sem] theorem und24 : ti24.und = .func #[22] #[4] false := Eq.trans rfl rfl
@[go_sem] theorem size24 : ti24.size = 1 := Eq.trans rfl rfl
@[go_sem] theorem bytes24 : ti24.bytes = 8 := Eq.trans rfl rfl
@[go_sem] theorem zero24 : ti24.zero = [.nilfn] := Eq.trans rfl rfl
@[go_sem] theorem T25 : T 25 = some ti25 := Eq.trans rfl rfl
@[go_sem] theorem eqok25 : ti25.eqok = false := Eq.trans rfl rfl
@[go_sem] theorem und25 : ti25.und = .func #[23] #[4] false := Eq.trans rfl rfl
@[go_sem] theorem size25 : ti25.size = 1 := Eq.trans rfl rfl
@[go_sem] theorem bytes25 : ti25.bytes = 8 := Eq.trans rfl rfl
@[go_sem] theorem zero25 : ti25.zero = [.nilfn] := Eq.trans rfl rfl
@[go_sem] theorem T26 : T 26 = some ti26 := Eq.trans rfl rfl
@[go_sem] theorem eqok26 : ti26.eqok = false := Eq.trans rfl rfl
@[go_sem] theorem und26 : ti26.und = .func #[23] #[23] false := Eq.trans rfl rfl
@[go_sem] theorem size26 : ti26.size = 1 := Eq.trans rfl rfl
@[go_sem] theorem bytes26 : ti26.bytes = 8 := Eq.trans rfl rfl
@[go_sem] theorem zero26 : ti26.zero = [.nilfn] := Eq.trans rfl rfl
@[go_sem] theorem T27 : T 27 = some ti27 := Eq.trans rfl rfl
@[go_sem] theorem eqok27 : ti27.eqok = false := Eq.trans rfl rfl
@[go_sem] theorem und27 : ti27.und = .slice 46 := Eq.trans rfl rfl
@[go_sem] theorem size27 : ti27.size = 1 := Eq.trans rfl rfl
@[go_sem] theorem bytes27 : ti27.bytes = 24 := Eq.trans rfl rfl
@[go_sem] theorem zero27 : ti27.zero = [.nil] := Eq.trans rfl rfl
@[go_sem] theorem T28 : T 28 = some ti28 := Eq.trans rfl rfl
@[go_sem] theorem eqok28 : ti28.eqok = false := Eq.trans rfl rfl
@[go_sem] theorem und28 : ti28.und = .int .i64 := Eq.trans rfl rfl
@[go_sem] theorem size28 : ti28.size = 1 := Eq.trans rfl rfl
@[go_sem] theorem bytes28 : ti28.bytes = 8 := Eq.trans rfl rfl
@[go_sem] theorem zero28 : ti28.zero = [.int .i64 0] := Eq.trans rfl rfl
@[go_sem] theorem T30 : T 30 = some ti30 := Eq.trans rfl rfl
@[go_sem] theorem eqok30 : ti30.eqok = false := Eq.trans rfl rfl
@[go_sem] theorem und30 : ti30.und = .func #[22, 3] #[27, 28] false := Eq.trans rfl rfl
@[go_sem] theorem size30 : ti30.size = 1 := Eq.trans rfl rfl
@[go_sem] theorem bytes30 : ti30.bytes = 8 := Eq.trans rfl rfl
@[go_sem] theorem zero30 : ti30.zero = [.nilfn] := Eq.trans rfl rfl
@[go_sem] theorem T32 : T 32 = some ti32 := Eq.trans rfl rfl
@[go_sem] theorem eqok32 : ti32.eqok = false := Eq.trans rfl rfl
@[go_sem] theorem und32 : ti32.und = .func #[22, 3] #[27, 3] false := Eq.trans rfl rfl
@[go_sem] theorem size32 : ti32.size = 1 := Eq.trans rfl rfl
@[go_sem] theorem bytes32 : ti32.bytes = 8 := Eq.trans rfl rfl
@[go_sem] theorem zero32 : ti32.zero = [.nilfn] := Eq.trans rfl rfl
@[go_sem] theorem T33 : T 33 = some ti33 := Eq.trans rfl rfl
@[go_sem] theorem eqok33 : ti33.eqok = false := Eq.trans rfl rfl
@[go_sem] theorem und33 : ti33.und = .slice 59 := Eq.trans rfl rfl
@[go_sem] theorem size33 : ti33.size = 1 := Eq.trans rfl rfl
@[go_sem] theorem bytes33 : ti33.bytes = 24 := Eq.trans rfl rfl
@[go_sem] theorem zero33 : ti33.zero = [.nil] := Eq.trans rfl rfl
@[go_sem] theorem T35 : T 35 = some ti35 := Eq.trans rfl rfl
@[go_sem] theorem eqok35 : ti35.eqok = false := Eq.trans rfl rfl
@[go_sem] theorem und35 : ti35.und = .func #[23, 3] #[33, 28] false := Eq.trans rfl rfl
@[go_sem] theorem size35 : ti35.size = 1 := Eq.trans rfl rfl
@[go_sem] theorem bytes35 : ti35.bytes = 8 := Eq.trans rfl rfl
@[go_sem] theorem zero35 : ti35.zero = [.nilfn] := Eq.trans rfl rfl
@[go_sem] theorem T37 : T 37 = some ti37 := Eq.trans rfl rfl
@[go_sem] theorem eqok37 : ti37.eqok = false := Eq.trans rfl rfl
@[go_sem] theorem und37 : ti37.und = .func #[23, 3] #[33, 3] false := Eq.trans rfl rfl
@[go_sem] theorem size37 : ti37.size = 1 := Eq.trans rfl rfl
@[go_sem] theorem bytes37 : ti37.bytes = 8 := Eq.trans rfl rfl
@[go_sem] theorem zero37 : ti37.zero = [.nilfn] := Eq.trans rfl rfl
@[go_sem] theorem T38 : T 38 = some ti38 := Eq.trans rfl rfl
@[go_sem] theorem eqok38 : ti38.eqok = false := Eq.trans rfl rfl
@[go_sem] theorem und38 : ti38.und = .func #[27, 27] #[4] false := Eq.trans rfl rfl
@[go_sem] theorem size38 : ti38.size = 1 := Eq.trans rfl rfl
@[go_sem] theorem bytes38 : ti38.bytes = 8 := Eq.trans rfl rfl
@[go_sem] theorem zero38 : ti38.zero = [.nilfn] := Eq.trans rfl rfl
@[go_sem] theorem T39 : T 39 = some ti39 := Eq.trans rfl rfl
@[go_sem] theorem eqok39 : ti39.eqok = false := Eq.trans rfl rfl
@[go_sem] theorem und39 : ti39.und = .func #[33, 33] #[4] false := Eq.trans rfl rfl
@[go_sem] theorem size39 : ti39.size = 1 := Eq.trans rfl rfl
@[go_sem] theorem bytes39 : ti39.bytes = 8 := Eq.trans rfl rfl
@[go_sem] theorem zero39 : ti39.zero = [.nilfn] := Eq.trans rfl rfl
@[go_sem] theorem T40 : T 40 = some ti40 := Eq.trans rfl rfl
@[go_sem] theorem eqok40 : ti40.eqok = false := Eq.trans rfl rfl
@[go_sem] theorem und40 : ti40.und = .func #[23, 23] #[4] false := Eq.trans rfl rfl
@[go_sem] theorem size40 : ti40.size = 1 := Eq.trans rfl rfl
@[go_sem] theorem bytes40 : ti40.bytes = 8 := Eq.trans rfl rfl
@[go_sem] theorem zero40 : ti40.zero = [.nilfn] := Eq.trans rfl rfl
@[go_sem] theorem T41 : T 41 = some ti41 := Eq.trans rfl rfl
@[go_sem] theorem eqok41 : ti41.eqok = false := Eq.trans rfl rfl
@[go_sem] theorem und41 : ti41.und = .func #[22, 23, 3] #[4] false := Eq.trans rfl rfl
@[go_sem] theorem size41 : ti41.size = 1 := Eq.trans rfl rfl
@[go_sem] theorem bytes41 : ti41.bytes = 8 := Eq.trans rfl rfl
@[go_sem] theorem zero41 : ti41.zero = [.nilfn] := Eq.trans rfl rfl
@[go_sem] theorem T42 : T 42 = some ti42 := Eq.trans rfl rfl
@[go_sem] theorem eqok42 : ti42.eqok = false := Eq.trans rfl rfl
@[go_sem] theorem und42 : ti42.und = .func #[] #[4] false := Eq.trans rfl rfl
@[go_sem] theorem size42 : ti42.size = 1 := Eq.trans rfl rfl
@[go_sem] theorem bytes42 : ti42.bytes = 8 := Eq.trans rfl rfl
@[go_sem] theorem zero42 : ti42.zero = [.nilfn] := Eq.trans rfl rfl
@[go_sem] theorem T43 : T 43 = some ti43 := Eq.trans rfl rfl
@[go_sem] theorem eqok43 : ti43.eqok = false := Eq.trans rfl rfl
@[go_sem] theorem und43 : ti43.und = .func #[22] #[3] false := Eq.trans rfl rfl
@[go_sem] theorem size43 : ti43.size = 1 := Eq.trans rfl rfl
@[go_sem] theorem bytes43 : ti43.bytes = 8 := Eq.trans rfl rfl
@[go_sem] theorem zero43 : ti43.zero = [.nilfn] := Eq.trans rfl rfl
@[go_sem] theorem T44 : T 44 = some ti44 := Eq.trans rfl rfl
@[go_sem] theorem eqok44 : ti44.eqok = false := Eq.trans rfl rfl
@[go_sem] theorem und44 : ti44.und = .func #[3] #[4] false := Eq.trans rfl rfl
@[go_sem] theorem size44 : ti44.size = 1 := Eq.trans rfl rfl
@[go_sem] theorem bytes44 : ti44.bytes = 8 := Eq.trans rfl rfl
@[go_sem] theorem zero44 : ti44.zero = [.nilfn] := Eq.trans rfl rfl
@[go_sem] theorem T45 : T 45 = some ti45 := Eq.trans rfl rfl
@[go_sem] theorem eqok45 : ti45.eqok = true := Eq.trans rfl rfl
@[go_sem] theorem und45 : ti45.und = .struct #[{ name := "Member", type := 3, offset := 0, embedded := false, tag := "", pkgPath := "", byteOffset := 0 }, { name := "Offset", type := 3, offset := 1, embedded := false, tag := "", pkgPath := "", byteOffset := 8 }, { name := "Raw", type := 3, offset := 2, embedded := false, tag := "", pkgPath := "", byteOffset := 16 }] := Eq.trans rfl rfl
@[go_sem] theorem size45 : ti45.size = 3 := Eq.trans rfl rfl
@[go_sem] theorem bytes45 : ti45.bytes = 24 := Eq.trans rfl rfl
@[go_sem] theorem zero45 : ti45.zero = [.int .i64 0, .int .i64 0, .int .i64 0] := Eq.trans rfl rfl
@[go_sem] theorem T46 : T 46 = some ti46 := Eq.trans rfl rfl
@[go_sem] theorem eqok46 : ti46.eqok = true := Eq.trans rfl rfl
@[go_sem] theorem und46 : ti46.und = .struct #[{ name := "Member", type := 3, offset := 0, embedded := false, tag := "", pkgPath := "", byteOffset := 0 }, { name := "Offset", type := 3, offset := 1, embedded := false, tag := "", pkgPath := "", byteOffset := 8 }, { name := "Raw", type := 3, offset := 2, embedded := false, tag := "", pkgPath := "", byteOffset := 16 }] := Eq.trans rfl rfl
@[go_sem] theorem size46 : ti46.size = 3 := Eq.trans rfl rfl
@[go_sem] theorem bytes46 : ti46.bytes = 24 := Eq.trans rfl rfl
@[go_sem] theorem zero46 : ti46.zero = [.int .i64 0, .int .i64 0, .int .i64 0] := Eq.trans rfl rfl
@[go_sem] theorem T47 : T 47 = some ti47 := Eq.trans rfl rfl
@[go_sem] theorem eqok47 : ti47.eqok = false := Eq.trans rfl rfl
@[go_sem] theorem und47 : ti47.und = .func #[22, 3] #[4] false := Eq.trans rfl rfl
@[go_sem] theorem size47 : ti47.size = 1 := Eq.trans rfl rfl
@[go_sem] theorem bytes47 : ti47.bytes = 8 := Eq.trans rfl rfl
@[go_sem] theorem zero47 : ti47.zero = [.nilfn] := Eq.trans rfl rfl
@[go_sem] theorem T48 : T 48 = some ti48 := Eq.trans rfl rfl
@[go_sem] theorem eqok48 : ti48.eqok = false := Eq.trans rfl rfl
@[go_sem] theorem und48 : ti48.und = .func #[22, 46] #[4] false := Eq.trans rfl rfl
@[go_sem] theorem size48 : ti48.size = 1 := Eq.trans rfl rfl
@[go_sem] theorem bytes48 : ti48.bytes = 8 := Eq.trans rfl rfl
@[go_sem] theorem zero48 : ti48.zero = [.nilfn] := Eq.trans rfl rfl
@[go_sem] theorem T49 : T 49 = some ti49 := Eq.trans rfl rfl
@[go_sem] theorem eqok49 : ti49.eqok = false := Eq.trans rfl rfl
@[go_sem] theorem und49 : ti49.und = .func #[22, 27] #[27, 28] false := Eq.trans rfl rfl
@[go_sem] theorem size49 : ti49.size = 1 := Eq.trans rfl rfl
@[go_sem] theorem bytes49 : ti49.bytes = 8 := Eq.trans rfl rfl
@[go_sem] theorem zero49 : ti49.zero = [.nilfn] := Eq.trans rfl rfl
@[go_sem] theorem T50 : T 50 = some ti50 := Eq.trans rfl rfl
@[go_sem] theorem eqok50 : ti50.eqok = false := Eq.trans rfl rfl
@[go_sem] theorem und50 : ti50.und = .func #[22, 27] #[4] false := Eq.trans rfl rfl
@[go_sem] theorem size50 : ti50.size = 1 := Eq.trans rfl rfl
@[go_sem] theorem bytes50 : ti50.bytes = 8 := Eq.trans rfl rfl
@[go_sem] theorem zero50 : ti50.zero = [.nilfn] := Eq.trans rfl rfl
@[go_sem] theorem T51 : T 51 = some ti51 := Eq.trans rfl rfl
@[go_sem] theorem eqok51 : ti51.eqok = false := Eq.trans rfl rfl
@[go_sem] theorem und51 : ti51.und = .slice 5 := Eq.trans rfl rfl
@[go_sem] theorem size51 : ti51.size = 1 := Eq.trans rfl rfl
@[go_sem] theorem bytes51 : ti51.bytes = 24 := Eq.trans rfl rfl
@[go_sem] theorem zero51 : ti51.zero = [.nil] := Eq.trans rfl rfl
@[go_sem] theorem T52 : T 52 = some ti52 := Eq.trans rfl rfl
@[go_sem] theorem eqok52 : ti52.eqok = false := Eq.trans rfl rfl
@[go_sem] theorem und52 : ti52.und = .struct #[{ name := "Name", type := 9, offset := 0, embedded := false, tag := "", pkgPath := "", byteOffset := 0 }, { name := "Data", type := 51, offset := 1, embedded := false, tag := "", pkgPath := "", byteOffset := 16 }] := Eq.trans rfl rfl
@[go_sem] theorem size52 : ti52.size = 2 := Eq.trans rfl rfl
@[go_sem] theorem bytes52 : ti52.bytes = 40 := Eq.trans rfl rfl
@[go_sem] theorem zero52 : ti52.zero = [.str .empty, .nil] := Eq.trans rfl rfl
@[go_sem] theorem T53 : T 53 = some ti53 := Eq.trans rfl rfl
@[go_sem] theorem eqok53 : ti53.eqok = false := Eq.trans rfl rfl
@[go_sem] theorem und53 : ti53.und = .struct #[{ name := "Name", type := 9, offset := 0, embedded := false, tag := "", pkgPath := "", byteOffset := 0 }, { name := "Data", type := 51, offset := 1, embedded := false, tag := "", pkgPath := "", byteOffset := 16 }] := Eq.trans rfl rfl
@[go_sem] theorem size53 : ti53.size = 2 := Eq.trans rfl rfl
@[go_sem] theorem bytes53 : ti53.bytes = 40 := Eq.trans rfl rfl
@[go_sem] theorem zero53 : ti53.zero = [.str .empty, .nil] := Eq.trans rfl rfl
@[go_sem] theorem T54 : T 54 = some ti54 := Eq.trans rfl rfl
@[go_sem] theorem eqok54 : ti54.eqok = false := Eq.trans rfl rfl
@[go_sem] theorem und54 : ti54.und = .func #[22] #[28] false := Eq.trans rfl rfl
@[go_sem] theorem size54 : ti54.size = 1 := Eq.trans rfl rfl
@[go_sem] theorem bytes54 : ti54.bytes = 8 := Eq.trans rfl rfl
@[go_sem] theorem zero54 : ti54.zero = [.nilfn] := Eq.trans rfl rfl
@[go_sem] theorem T55 : T 55 = some ti55 := Eq.trans rfl rfl
@[go_sem] theorem eqok55 : ti55.eqok = false := Eq.trans rfl rfl
@[go_sem] theorem und55 : ti55.und = .func #[22, 3] #[27] false := Eq.trans rfl rfl
@[go_sem] theorem size55 : ti55.size = 1 := Eq.trans rfl rfl
@[go_sem] theorem bytes55 : ti55.bytes = 8 := Eq.trans rfl rfl
@[go_sem] theorem zero55 : ti55.zero = [.nilfn] := Eq.trans rfl rfl
@[go_sem] theorem T56 : T 56 = some ti56 := Eq.trans rfl rfl
@[go_sem] theorem eqok56 : ti56.eqok = false := Eq.trans rfl rfl
@[go_sem] theorem und56 : ti56.und = .func #[23] #[28] false := Eq.trans rfl rfl
@[go_sem] theorem size56 : ti56.size = 1 := Eq.trans rfl rfl
@[go_sem] theorem bytes56 : ti56.bytes = 8 := Eq.trans rfl rfl
@[go_sem] theorem zero56 : ti56.zero = [.nilfn] := Eq.trans rfl rfl
@[go_sem] theorem T57 : T 57 = some ti57 := Eq.trans rfl rfl
@[go_sem] theorem eqok57 : ti57.eqok = false := Eq.trans rfl rfl
@[go_sem] theorem und57 : ti57.und = .func #[51] #[51] false := Eq.trans rfl rfl
@[go_sem] theorem size57 : ti57.size = 1 := Eq.trans rfl rfl
@[go_sem] theorem bytes57 : ti57.bytes = 8 := Eq.trans rfl rfl
@[go_sem] theorem zero57 : ti57.zero = [.nilfn] := Eq.trans rfl rfl
@[go_sem] theorem T58 : T 58 = some ti58 := Eq.trans rfl rfl
@[go_sem] theorem eqok58 : ti58.eqok = false := Eq.trans rfl rfl
@[go_sem] theorem und58 : ti58.und = .struct #[{ name := "Piece", type := 46, offset := 0, embedded := false, tag := "", pkgPath := "", byteOffset := 0 }, { name := "Data", type := 51, offset := 3, embedded := false, tag := "", pkgPath := "", byteOffset := 24 }] := Eq.trans rfl rfl
@[go_sem] theorem size58 : ti58.size = 4 := Eq.trans rfl rfl
@[go_sem] theorem bytes58 : ti58.bytes = 48 := Eq.trans rfl rfl
@[go_sem] theorem zero58 : ti58.zero = [.int .i64 0, .int .i64 0, .int .i64 0, .nil] := Eq.trans rfl rfl
@[go_sem] theorem T59 : T 59 = some ti59 := Eq.trans rfl rfl
@[go_sem] theorem eqok59 : ti59.eqok = false := Eq.trans rfl rfl
@[go_sem] theorem und59 : ti59.und = .struct #[{ name := "Piece", type := 46, offset := 0, embedded := false, tag := "", pkgPath := "", byteOffset := 0 }, { name := "Data", type := 51, offset := 3, embedded := false, tag := "", pkgPath := "", byteOffset := 24 }] := Eq.trans rfl rfl
@[go_sem] theorem size59 : ti59.size = 4 := Eq.trans rfl rfl
@[go_sem] theorem bytes59 : ti59.bytes = 48 := Eq.trans rfl rfl
@[go_sem] theorem zero59 : ti59.zero = [.int .i64 0, .int .i64 0, .int .i64 0, .nil] := Eq.trans rfl rfl
@[go_sem] theorem T60 : T 60 = some ti60 := Eq.trans rfl rfl
@[go_sem] theorem eqok60 : ti60.eqok = false := Eq.trans rfl rfl
@[go_sem] theorem und60 : ti60.und = .func #[23] #[3] false := Eq.trans rfl rfl
@[go_sem] theorem size60 : ti60.size = 1 := Eq.trans rfl rfl
@[go_sem] theorem bytes60 : ti60.bytes = 8 := Eq.trans rfl rfl
@[go_sem] theorem zero60 : ti60.zero = [.nilfn] := Eq.trans rfl rfl
@[go_sem] theorem T61 : T 61 = some ti61 := Eq.trans rfl rfl
@[go_sem] theorem eqok61 : ti61.eqok = false := Eq.trans rfl rfl
@[go_sem] theorem und61 : ti61.und = .func #[23] #[22] false := Eq.trans rfl rfl
@[go_sem] theorem size61 : ti61.size = 1 := Eq.trans rfl rfl
@[go_sem] theorem bytes61 : ti61.bytes = 8 := Eq.trans rfl rfl
@[go_sem] theorem zero61 : ti61.zero = [.nilfn] := Eq.trans rfl rfl
@[go_sem] theorem T62 : T 62 = some ti62 := Eq.trans rfl rfl
@[go_sem] theorem eqok62 : ti62.eqok = false := Eq.trans rfl rfl
@[go_sem] theorem und62 : ti62.und = .func #[27, 63] #[4] false := Eq.trans rfl rfl
@[go_sem] theorem size62 : ti62.size = 1 := Eq.trans rfl rfl
@[go_sem] theorem bytes62 : ti62.bytes = 8 := Eq.trans rfl rfl
@[go_sem] theorem zero62 : ti62.zero = [.nilfn] := Eq.trans rfl rfl
@[go_sem] theorem T63 : T 63 = some ti63 := Eq.trans rfl rfl
@[go_sem] theorem eqok63 : ti63.eqok = false := Eq.trans rfl rfl
@[go_sem] theorem und63 : ti63.und = .func #[46] #[4] false := Eq.trans rfl rfl
@[go_sem] theorem size63 : ti63.size = 1 := Eq.trans rfl rfl
@[go_sem] theorem bytes63 : ti63.bytes = 8 := Eq.trans rfl rfl
@[go_sem] theorem zero63 : ti63.zero = [.nilfn] := Eq.trans rfl rfl
@[go_sem] theorem T64 : T 64 = some ti64 := Eq.trans rfl rfl
@[go_sem] theorem eqok64 : ti64.eqok = false := Eq.trans rfl rfl
@[go_sem] theorem und64 : ti64.und = .func #[22, 27] #[27] false := Eq.trans rfl rfl
@[go_sem] theorem size64 : ti64.size = 1 := Eq.trans rfl rfl
@[go_sem] theorem bytes64 : ti64.bytes = 8 := Eq.trans rfl rfl
@[go_sem] theorem zero64 : ti64.zero = [.nilfn] := Eq.trans rfl rfl
@[go_sem] theorem T65 : T 65 = some ti65 := Eq.trans rfl rfl
@[go_sem] theorem eqok65 : ti65.eqok = false := Eq.trans rfl rfl
@[go_sem] theorem und65 : ti65.und = .func #[22, 44] #[4] false := Eq.trans rfl rfl
@[go_sem] theorem size65 : ti65.size = 1 := Eq.trans rfl rfl
@[go_sem] theorem bytes65 : ti65.bytes = 8 := Eq.trans rfl rfl
@[go_sem] theorem zero65 : ti65.zero = [.nilfn] := Eq.trans rfl rfl
@[go_sem] theorem T66 : T 66 = some ti66 := Eq.trans rfl rfl
@[go_sem] theorem eqok66 : ti66.eqok = false := Eq.trans rfl rfl
@[go_sem] theorem und66 : ti66.und = .slice 9 := Eq.trans rfl rfl
@[go_sem] theorem size66 : ti66.size = 1 := Eq.trans rfl rfl
@[go_sem] theorem bytes66 : ti66.bytes = 24 := Eq.trans rfl rfl
@[go_sem] theorem zero66 : ti66.zero = [.nil] := Eq.trans rfl rfl
@[go_sem] theorem T67 : T 67 = some ti67 := Eq.trans rfl rfl
@[go_sem] theorem eqok67 : ti67.eqok = false := Eq.trans rfl rfl
@[go_sem] theorem und67 : ti67.und = .func #[9] #[4] false := Eq.trans rfl rfl
@[go_sem] theorem size67 : ti67.size = 1 := Eq.trans rfl rfl
@[go_sem] theorem bytes67 : ti67.bytes = 8 := Eq.trans rfl rfl
@[go_sem] theorem zero67 : ti67.zero = [.nilfn] := Eq.trans rfl rfl
@[go_sem] theorem T68 : T 68 = some ti68 := Eq.trans rfl rfl
@[go_sem] theorem eqok68 : ti68.eqok = false := Eq.trans rfl rfl
@[go_sem] theorem und68 : ti68.und = .func #[66] #[4] false := Eq.trans rfl rfl
@[go_sem] theorem size68 : ti68.size = 1 := Eq.trans rfl rfl
@[go_sem] theorem bytes68 : ti68.bytes = 8 := Eq.trans rfl rfl
@[go_sem] theorem zero68 : ti68.zero = [.nilfn] := Eq.trans rfl rfl
@[go_sem] theorem T69 : T 69 = some ti69 := Eq.trans rfl rfl
@[go_sem] theorem eqok69 : ti69.eqok = false := Eq.trans rfl rfl
@[go_sem] theorem und69 : ti69.und = .func #[27, 63] #[3] false := Eq.trans rfl rfl
@[go_sem] theorem size69 : ti69.size = 1 := Eq.trans rfl rfl
@[go_sem] theorem bytes69 : ti69.bytes = 8 := Eq.trans rfl rfl
@[go_sem] theorem zero69 : ti69.zero = [.nilfn] := Eq.trans rfl rfl
@[go_sem] theorem T70 : T 70 = some ti70 := Eq.trans rfl rfl
@[go_sem] theorem eqok70 : ti70.eqok = false := Eq.trans rfl rfl
@[go_sem] theorem und70 : ti70.und = .func #[27] #[27] false := Eq.trans rfl rfl
@[go_sem] theorem size70 : ti70.size = 1 := Eq.trans rfl rfl
@[go_sem] theorem bytes70 : ti70.bytes = 8 := Eq.trans rfl rfl
@[go_sem] theorem zero70 : ti70.zero = [.nilfn] := Eq.trans rfl rfl
@[go_sem] theorem T71 : T 71 = some ti71 := Eq.trans rfl rfl
@[go_sem] theorem eqok71 : ti71.eqok = false := Eq.trans rfl rfl
@[go_sem] theorem und71 : ti71.und = .func #[27, 74] #[] false := Eq.trans rfl rfl
@[go_sem] theorem size71 : ti71.size = 1 := Eq.trans rfl rfl
@[go_sem] theorem bytes71 : ti71.bytes = 8 := Eq.trans rfl rfl
@[go_sem] theorem zero71 : ti71.zero = [.nilfn] := Eq.trans rfl rfl
@[go_sem] theorem T72 : T 72 = some ti72 := Eq.trans rfl rfl
@[go_sem] theorem eqok72 : ti72.eqok = false := Eq.trans rfl rfl
@[go_sem] theorem und72 : ti72.und = .func #[22] #[3] true := Eq.trans rfl rfl
@[go_sem] theorem size72 : ti72.size = 1 := Eq.trans rfl rfl
@[go_sem] theorem bytes72 : ti72.bytes = 8 := Eq.trans rfl rfl
@[go_sem] theorem zero72 : ti72.zero = [.nilfn] := Eq.trans rfl rfl
@[go_sem] theorem T73 : T 73 = some ti73 := Eq.trans rfl rfl
@[go_sem] theorem eqok73 : ti73.eqok = false := Eq.trans rfl rfl
@[go_sem] theorem und73 : ti73.und = .func #[3, 3] #[3] false := Eq.trans rfl rfl
@[go_sem] theorem size73 : ti73.size = 1 := Eq.trans rfl rfl
@[go_sem] theorem bytes73 : ti73.bytes = 8 := Eq.trans rfl rfl
@[go_sem] theorem zero73 : ti73.zero = [.nilfn] := Eq.trans rfl rfl
@[go_sem] theorem T74 : T 74 = some ti74 := Eq.trans rfl rfl
@[go_sem] theorem eqok74 : ti74.eqok = false := Eq.trans rfl rfl
@[go_sem] theorem und74 : ti74.und = .func #[46, 46] #[3] false := Eq.trans rfl rfl
@[go_sem] theorem size74 : ti74.size = 1 := Eq.trans rfl rfl
@[go_sem] theorem bytes74 : ti74.bytes = 8 := Eq.trans rfl rfl
@[go_sem] theorem zero74 : ti74.zero = [.nilfn] := Eq.trans rfl rfl
@[go_sem] theorem T75 : T 75 = some ti75 := Eq.trans rfl rfl
@[go_sem] theorem eqok75 : ti75.eqok = false := Eq.trans rfl rfl
@[go_sem] theorem und75 : ti75.und = .func #[22, 44] #[3] false := Eq.trans rfl rfl
@[go_sem] theorem size75 : ti75.size = 1 := Eq.trans rfl rfl
@[go_sem] theorem bytes75 : ti75.bytes = 8 := Eq.trans rfl rfl
@[go_sem] theorem zero75 : ti75.zero = [.nilfn] := Eq.trans rfl rfl
@[go_sem] theorem T76 : T 76 = some ti76 := Eq.trans rfl rfl
@[go_sem] theorem eqok76 : ti76.eqok = false := Eq.trans rfl rfl
@[go_sem] theorem und76 : ti76.und = .map 9 4 := Eq.trans rfl rfl
@[go_sem] theorem size76 : ti76.size = 1 := Eq.trans rfl rfl
@[go_sem] theorem bytes76 : ti76.bytes = 8 := Eq.trans rfl rfl
@[go_sem] theorem zero76 : ti76.zero = [.nilmap] := Eq.trans rfl rfl
@[go_sem] theorem T77 : T 77 = some ti77 := Eq.trans rfl rfl
@[go_sem] theorem eqok77 : ti77.eqok = false := Eq.trans rfl rfl
@[go_sem] theorem und77 : ti77.und = .func #[27, 3, 3, 3, 74] #[] false := Eq.trans rfl rfl
@[go_sem] theorem size77 : ti77.size = 1 := Eq.trans rfl rfl
@[go_sem] theorem bytes77 : ti77.bytes = 8 := Eq.trans rfl rfl
@[go_sem] theorem zero77 : ti77.zero = [.nilfn] := Eq.trans rfl rfl
@[go_sem] theorem T78 : T 78 = some ti78 := Eq.trans rfl rfl
@[go_sem] theorem eqok78 : ti78.eqok = false := Eq.trans rfl rfl
@[go_sem] theorem und78 : ti78.und = .func #[79] #[3] false := Eq.trans rfl rfl
@[go_sem] theorem size78 : ti78.size = 1 := Eq.trans rfl rfl
@[go_sem] theorem bytes78 : ti78.bytes = 8 := Eq.trans rfl rfl
@[go_sem] theorem zero78 : ti78.zero = [.nilfn] := Eq.trans rfl rfl
@[go_sem] theorem T79 : T 79 = some ti79 := Eq.trans rfl rfl
@[go_sem] theorem eqok79 : ti79.eqok = false := Eq.trans rfl rfl
@[go_sem] theorem und79 : ti79.und = .int .u64 := Eq.trans rfl rfl
@[go_sem] theorem size79 : ti79.size = 1 := Eq.trans rfl rfl
@[go_sem] theorem bytes79 : ti79.bytes = 8 := Eq.trans rfl rfl
@[go_sem] theorem zero79 : ti79.zero = [.int .u64 0] := Eq.trans rfl rfl
@[go_sem] theorem T80 : T 80 = some ti80 := Eq.trans rfl rfl
@[go_sem] theorem eqok80 : ti80.eqok = false := Eq.trans rfl rfl
@[go_sem] theorem und80 : ti80.und = .func #[27, 3, 3, 74] #[] false := Eq.trans rfl rfl
@[go_sem] theorem size80 : ti80.size = 1 := Eq.trans rfl rfl
@[go_sem] theorem bytes80 : ti80.bytes = 8 := Eq.trans rfl rfl
@[go_sem] theorem zero80 : ti80.zero = [.nilfn] := Eq.trans rfl rfl
@[go_sem] theorem T81 : T 81 = some ti81 := Eq.trans rfl rfl
@[go_sem] theorem eqok81 : ti81.eqok = false := Eq.trans rfl rfl
@[go_sem] theorem und81 : ti81.und = .int .i64 := Eq.trans rfl rfl
@[go_sem] theorem size81 : ti81.size = 1 := Eq.trans rfl rfl
@[go_sem] theorem bytes81 : ti81.bytes = 8 := Eq.trans rfl rfl
@[go_sem] theorem zero81 : ti81.zero = [.int .i64 0] := Eq.trans rfl rfl
@[go_sem] theorem T83 : T 83 = some ti83 := Eq.trans rfl rfl
@[go_sem] theorem eqok83 : ti83.eqok = false := Eq.trans rfl rfl
@[go_sem] theorem und83 : ti83.und = .func #[27, 3, 3, 74] #[3, 81] false := Eq.trans rfl rfl
@[go_sem] theorem size83 : ti83.size = 1 := Eq.trans rfl rfl
@[go_sem] theorem bytes83 : ti83.bytes = 8 := Eq.trans rfl rfl
@[go_sem] theorem zero83 : ti83.zero = [.nilfn] := Eq.trans rfl rfl
@[go_sem] theorem T84 : T 84 = some ti84 := Eq.trans rfl rfl
@[go_sem] theorem eqok84 : ti84.eqok = false := Eq.trans rfl rfl
@[go_sem] theorem und84 : ti84.und = .func #[27, 3, 3, 74] #[4] false := Eq.trans rfl rfl
@[go_sem] theorem size84 : ti84.size = 1 := Eq.trans rfl rfl
@[go_sem] theorem bytes84 : ti84.bytes = 8 := Eq.trans rfl rfl
@[go_sem] theorem zero84 : ti84.zero = [.nilfn] := Eq.trans rfl rfl
@[go_sem] theorem T85 : T 85 = some ti85 := Eq.trans rfl rfl
@[go_sem] theorem eqok85 : ti85.eqok = false := Eq.trans rfl rfl
@[go_sem] theorem und85 : ti85.und = .func #[27, 3, 3, 3, 74] #[3] false := Eq.trans rfl rfl
@[go_sem] theorem size85 : ti85.size = 1 := Eq.trans rfl rfl
@[go_sem] theorem bytes85 : ti85.bytes = 8 := Eq.trans rfl rfl
@[go_sem] theorem zero85 : ti85.zero = [.nilfn] := Eq.trans rfl rfl
@[go_sem] theorem T87 : T 87 = some ti87 := Eq.trans rfl rfl
@[go_sem] theorem eqok87 : ti87.eqok = false := Eq.trans rfl rfl
@[go_sem] theorem und87 : ti87.und = .func #[27, 3, 3, 3, 74] #[3, 4] false := Eq.trans rfl rfl
@[go_sem] theorem size87 : ti87.size = 1 := Eq.trans rfl rfl
@[go_sem] theorem bytes87 : ti87.bytes = 8 := Eq.trans rfl rfl
@[go_sem] theorem zero87 : ti87.zero = [.nilfn] := Eq.trans rfl rfl
@[go_sem] theorem T88 : T 88 = some ti88 := Eq.trans rfl rfl
@[go_sem] theorem eqok88 : ti88.eqok = false := Eq.trans rfl rfl
@[go_sem] theorem und88 : ti88.und = .func #[89] #[3] false := Eq.trans rfl rfl
@[go_sem] theorem size88 : ti88.size = 1 := Eq.trans rfl rfl
@[go_sem] theorem bytes88 : ti88.bytes = 8 := Eq.trans rfl rfl
@[go_sem] theorem zero88 : ti88.zero = [.nilfn] := Eq.trans rfl rfl
@[go_sem] theorem T89 : T 89 = some ti89 := Eq.trans rfl rfl
@[go_sem] theorem eqok89 : ti89.eqok = false := Eq.trans rfl rfl
@[go_sem] theorem und89 : ti89.und = .int .u32 := Eq.trans rfl rfl
@[go_sem] theorem size89 : ti89.size = 1 := Eq.trans rfl rfl
@[go_sem] theorem bytes89 : ti89.bytes = 4 := Eq.trans rfl rfl
@[go_sem] theorem zero89 : ti89.zero = [.int .u32 0] := Eq.trans rfl rfl
@[go_sem] theorem T90 : T 90 = some ti90 := Eq.trans rfl rfl
@[go_sem] theorem eqok90 : ti90.eqok = false := Eq.trans rfl rfl
@[go_sem] theorem und90 : ti90.und = .func #[91] #[3] false := Eq.trans rfl rfl
@[go_sem] theorem size90 : ti90.size = 1 := Eq.trans rfl rfl
@[go_sem] theorem bytes90 : ti90.bytes = 8 := Eq.trans rfl rfl
@[go_sem] theorem zero90 : ti90.zero = [.nilfn] := Eq.trans rfl rfl
@[go_sem] theorem T91 : T 91 = some ti91 := Eq.trans rfl rfl
@[go_sem] theorem eqok91 : ti91.eqok = false := Eq.trans rfl rfl
@[go_sem] theorem und91 : ti91.und = .int .u64 := Eq.trans rfl rfl
@[go_sem] theorem size91 : ti91.size = 1 := Eq.trans rfl rfl
@[go_sem] theorem bytes91 : ti91.bytes = 8 := Eq.trans rfl rfl
@[go_sem] theorem zero91 : ti91.zero = [.int .u64 0] := Eq.trans rfl rfl
@[go_sem] theorem T92 : T 92 = some ti92 := Eq.trans rfl rfl
@[go_sem] theorem eqok92 : ti92.eqok = false := Eq.trans rfl rfl
@[go_sem] theorem und92 : ti92.und = .int .u64 := Eq.trans rfl rfl
@[go_sem] theorem size92 : ti92.size = 1 := Eq.trans rfl rfl
@[go_sem] theorem bytes92 : ti92.bytes = 8 := Eq.trans rfl rfl
@[go_sem] theorem zero92 : ti92.zero = [.int .u64 0] := Eq.trans rfl rfl
@[go_sem] theorem T93 : T 93 = some ti93 := Eq.trans rfl rfl
@[go_sem] theorem eqok93 : ti93.eqok = false := Eq.trans rfl rfl
@[go_sem] theorem und93 : ti93.und = .func #[3] #[79] false := Eq.trans rfl rfl
@[go_sem] theorem size93 : ti93.size = 1 := Eq.trans rfl rfl
@[go_sem] theorem bytes93 : ti93.bytes = 8 := Eq.trans rfl rfl
@[go_sem] theorem zero93 : ti93.zero = [.nilfn] := Eq.trans rfl rfl
@[go_sem] theorem T94 : T 94 = some ti94 := Eq.trans rfl rfl
@[go_sem] theorem eqok94 : ti94.eqok = false := Eq.trans rfl rfl
@[go_sem] theorem und94 : ti94.und = .func #[] #[91] false := Eq.trans rfl rfl
@[go_sem] theorem size94 : ti94.size = 1 := Eq.trans rfl rfl
@[go_sem] theorem bytes94 : ti94.bytes = 8 := Eq.trans rfl rfl
@[go_sem] theorem zero94 : ti94.zero = [.nilfn] := Eq.trans rfl rfl
@[go_sem] theorem T95 : T 95 = some ti95 := Eq.trans rfl rfl
@[go_sem] theorem eqok95 : ti95.eqok = false := Eq.trans rfl rfl
@[go_sem] theorem und95 : ti95.und = .func #[27, 3, 96, 74] #[3] false := Eq.trans rfl rfl
@[go_sem] theorem size95 : ti95.size = 1 := Eq.trans rfl rfl
@[go_sem] theorem bytes95 : ti95.bytes = 8 := Eq.trans rfl rfl
@[go_sem] theorem zero95 : ti95.zero = [.nilfn] := Eq.trans rfl rfl
@[go_sem] theorem T96 : T 96 = some ti96 := Eq.trans rfl rfl
@[go_sem] theorem eqok96 : ti96.eqok = false := Eq.trans rfl rfl
@[go_sem] theorem und96 : ti96.und = .pointer 3 := Eq.trans rfl rfl
@[go_sem] theorem size96 : ti96.size = 1 := Eq.trans rfl rfl
@[go_sem] theorem bytes96 : ti96.bytes = 8 := Eq.trans rfl rfl
@[go_sem] theorem zero96 : ti96.zero = [.nilp] := Eq.trans rfl rfl
@[go_sem] theorem T97 : T 97 = some ti97 := Eq.trans rfl rfl
@[go_sem] theorem eqok97 : ti97.eqok = false := Eq.trans rfl rfl
@[go_sem] theorem und97 : ti97.und = .func #[27, 3, 3, 3, 96, 74] #[3] false := Eq.trans rfl rfl
@[go_sem] theorem size97 : ti97.size = 1 := Eq.trans rfl rfl
@[go_sem] theorem bytes97 : ti97.bytes = 8 := Eq.trans rfl rfl
@[go_sem] theorem zero97 : ti97.zero = [.nilfn] := Eq.trans rfl rfl
@[go_sem] theorem T98 : T 98 = some ti98 := Eq.trans rfl rfl
@[go_sem] theorem eqok98 : ti98.eqok = false := Eq.trans rfl rfl
@[go_sem] theorem und98 : ti98.und = .pointer 92 := Eq.trans rfl rfl
@[go_sem] theorem size98 : ti98.size = 1 := Eq.trans rfl rfl
@[go_sem] theorem bytes98 : ti98.bytes = 8 := Eq.trans rfl rfl
@[go_sem] theorem zero98 : ti98.zero = [.nilp] := Eq.trans rfl rfl
@[go_sem] theorem T100 : T 100 = some ti100 := Eq.trans rfl rfl
@[go_sem] theorem eqok100 : ti100.eqok = false := Eq.trans rfl rfl
@[go_sem] theorem und100 : ti100.und = .func #[27, 3, 3, 96, 74] #[3, 3] false := Eq.trans rfl rfl
@[go_sem] theorem size100 : ti100.size = 1 := Eq.trans rfl rfl
@[go_sem] theorem bytes100 : ti100.bytes = 8 := Eq.trans rfl rfl
@[go_sem] theorem zero100 : ti100.zero = [.nilfn] := Eq.trans rfl rfl
@[go_sem] theorem T101 : T 101 = some ti101 := Eq.trans rfl rfl
@[go_sem] theorem eqok101 : ti101.eqok = false := Eq.trans rfl rfl
@[go_sem] theorem und101 : ti101.und = .func #[] #[9] false := Eq.trans rfl rfl
@[go_sem] theorem size101 : ti101.size = 1 := Eq.trans rfl rfl
@[go_sem] theorem bytes101 : ti101.bytes = 8 := Eq.trans rfl rfl
@[go_sem] theorem zero101 : ti101.zero = [.nilfn] := Eq.trans rfl rfl
@[go_sem] theorem T102 : T 102 = some ti102 := Eq.trans rfl rfl
@[go_sem] theorem eqok102 : ti102.eqok = false := Eq.trans rfl rfl
@[go_sem] theorem und102 : ti102.und = .struct #[{ name := "_interface", type := 17, offset := 0, embedded := false, tag := "", pkgPath := "runtime", byteOffset := 0 }, { name := "concrete", type := 17, offset := 1, embedded := false, tag := "", pkgPath := "runtime", byteOffset := 8 }, { name := "asserted", type := 17, offset := 2, embedded := false, tag := "", pkgPath := "runtime", byteOffset := 16 }, { name := "missingMethod", type := 9, offset := 3, embedded := false, tag := "", pkgPath := "runtime", byteOffset := 24 }] := Eq.trans rfl rfl
@[go_sem] theorem size102 : ti102.size = 4 := Eq.trans rfl rfl
@[go_sem] theorem bytes102 : ti102.bytes = 40 := Eq.trans rfl rfl
@[go_sem] theorem zero102 : ti102.zero = [.nilp, .nilp, .nilp, .str .empty] := Eq.trans rfl rfl
@[go_sem] theorem T103 : T 103 = some ti103 := Eq.trans rfl rfl
@[go_sem] theorem eqok103 : ti103.eqok = false := Eq.trans rfl rfl
@[go_sem] theorem und103 : ti103.und = .struct #[{ name := "_interface", type := 17, offset := 0, embedded := false, tag := "", pkgPath := "runtime", byteOffset := 0 }, { name := "concrete", type := 17, offset := 1, embedded := false, tag := "", pkgPath := "runtime", byteOffset := 8 }, { name := "asserted", type := 17, offset := 2, embedded := false, tag := "", pkgPath := "runtime", byteOffset := 16 }, { name := "missingMethod", type := 9, offset := 3, embedded := false, tag := "", pkgPath := "runtime", byteOffset := 24 }] := Eq.trans rfl rfl
@[go_sem] theorem size103 : ti103.size = 4 := Eq.trans rfl rfl
@[go_sem] theorem bytes103 : ti103.bytes = 40 := Eq.trans rfl rfl
@[go_sem] theorem zero103 : ti103.zero = [.nilp, .nilp, .nilp, .str .empty] := Eq.trans rfl rfl
@[go_sem] theorem T107 : T 107 = some ti107 := Eq.trans rfl rfl
@[go_sem] theorem eqok107 : ti107.eqok = false := Eq.trans rfl rfl
@[go_sem] theorem und107 : ti107.und = .func #[] #[3] false := Eq.trans rfl rfl
@[go_sem] theorem size107 : ti107.size = 1 := Eq.trans rfl rfl
@[go_sem] theorem bytes107 : ti107.bytes = 8 := Eq.trans rfl rfl
@[go_sem] theorem zero107 : ti107.zero = [.nilfn] := Eq.trans rfl rfl
@[go_sem] theorem T108 : T 108 = some ti108 := Eq.trans rfl rfl
@[go_sem] theorem eqok108 : ti108.eqok = false := Eq.trans rfl rfl
@[go_sem] theorem und108 : ti108.und = .int .u8 := Eq.trans rfl rfl
@[go_sem] theorem size108 : ti108.size = 1 := Eq.trans rfl rfl
@[go_sem] theorem bytes108 : ti108.bytes = 1 := Eq.trans rfl rfl
@[go_sem] theorem zero108 : ti108.zero = [.int .u8 0] := Eq.trans rfl rfl
@[go_sem] theorem T109 : T 109 = some ti109 := Eq.trans rfl rfl
@[go_sem] theorem eqok109 : ti109.eqok = false := Eq.trans rfl rfl
@[go_sem] theorem und109 : ti109.und = .int .u8 := Eq.trans rfl rfl
@[go_sem] theorem size109 : ti109.size = 1 := Eq.trans rfl rfl
@[go_sem] theorem bytes109 : ti109.bytes = 1 := Eq.trans rfl rfl
@[go_sem] theorem zero109 : ti109.zero = [.int .u8 0] := Eq.trans rfl rfl
@[go_sem] theorem T110 : T 110 = some ti110 := Eq.trans rfl rfl
@[go_sem] theorem eqok110 : ti110.eqok = false := Eq.trans rfl rfl
@[go_sem] theorem und110 : ti110.und = .func #[116, 116] #[4] false := Eq.trans rfl rfl
@[go_sem] theorem size110 : ti110.size = 1 := Eq.trans rfl rfl
@[go_sem] theorem bytes110 : ti110.bytes = 8 := Eq.trans rfl rfl
@[go_sem] theorem zero110 : ti110.zero = [.nilfn] := Eq.trans rfl rfl
@[go_sem] theorem T111 : T 111 = some ti111 := Eq.trans rfl rfl
@[go_sem] theorem eqok111 : ti111.eqok = false := Eq.trans rfl rfl
@[go_sem] theorem und111 : ti111.und = .pointer 5 := Eq.trans rfl rfl
@[go_sem] theorem size111 : ti111.size = 1 := Eq.trans rfl rfl
@[go_sem] theorem bytes111 : ti111.bytes = 8 := Eq.trans rfl rfl
@[go_sem] theorem zero111 : ti111.zero = [.nilp] := Eq.trans rfl rfl
@[go_sem] theorem T112 : T 112 = some ti112 := Eq.trans rfl rfl
@[go_sem] theorem eqok112 : ti112.eqok = false := Eq.trans rfl rfl
@[go_sem] theorem und112 : ti112.und = .int .i32 := Eq.trans rfl rfl
@[go_sem] theorem size112 : ti112.size = 1 := Eq.trans rfl rfl
@[go_sem] theorem bytes112 : ti112.bytes = 4 := Eq.trans rfl rfl
@[go_sem] theorem zero112 : ti112.zero = [.int .i32 0] := Eq.trans rfl rfl
@[go_sem] theorem T113 : T 113 = some ti113 := Eq.trans rfl rfl
@[go_sem] theorem eqok113 : ti113.eqok = false := Eq.trans rfl rfl
@[go_sem] theorem und113 : ti113.und = .int .i32 := Eq.trans rfl rfl
@[go_sem] theorem size113 : ti113.size = 1 := Eq.trans rfl rfl
@[go_sem] theorem bytes113 : ti113.bytes = 4 := Eq.trans rfl rfl
@[go_sem] theorem zero113 : ti113.zero = [.int .i32 0] := Eq.trans rfl rfl
@[go_sem] theorem T114 : T 114 = some ti114 := Eq.trans rfl rfl
@[go_sem] theorem eqok114 : ti114.eqok = false := Eq.trans rfl rfl
@[go_sem] theorem und114 : ti114.und = .struct #[{ name := "Size_", type := 12, offset := 0, embedded := false, tag := "", pkgPath := "", byteOffset := 0 }, { name := "PtrBytes", type := 12, offset := 1, embedded := false, tag := "", pkgPath := "", byteOffset := 8 }, { name := "Hash", type := 89, offset := 2, embedded := false, tag := "", pkgPath := "", byteOffset := 16 }, { name := "TFlag", type := 108, offset := 3, embedded := false, tag := "", pkgPath := "", byteOffset := 20 }, { name := "Align_", type := 5, offset := 4, embedded := false, tag := "", pkgPath := "", byteOffset := 21 }, { name := "FieldAlign_", type := 5, offset := 5, embedded := false, tag := "", pkgPath := "", byteOffset := 22 }, { name := "Kind_", type := 109, offset := 6, embedded := false, tag := "", pkgPath := "", byteOffset := 23 }, { name := "Equal", type := 110, offset := 7, embedded := false, tag := "", pkgPath := "", byteOffset := 24 }, { name := "GCData", type := 111, offset := 8, embedded := false, tag := "", pkgPath := "", byteOffset := 32 }, { name := "Str", type := 112, offset := 9, embedded := false, tag := "", pkgPath := "", byteOffset := 40 }, { name := "PtrToThis", type := 113, offset := 10, embedded := false, tag := "", pkgPath := "", byteOffset := 44 }] := Eq.trans rfl rfl
@[go_sem] theorem size114 : ti114.size = 11 := Eq.trans rfl rfl
@[go_sem] theorem bytes114 : ti114.bytes = 48 := Eq.trans rfl rfl
@[go_sem] theorem zero114 : ti114.zero = [.int .u64 0, .int .u64 0, .int .u32 0, .int .u8 0, .int .u8 0, .int .u8 0, .int .u8 0, .nilfn, .nilp, .int .i32 0, .int .i32 0] := Eq.trans rfl rfl
@[go_sem] theorem T115 : T 115 = some ti115 := Eq.trans rfl rfl
@[go_sem] theorem eqok115 : ti115.eqok = false := Eq.trans rfl rfl
@[go_sem] theorem und115 : ti115.und = .struct #[{ name := "Size_", type := 12, offset := 0, embedded := false, tag := "", pkgPath := "", byteOffset := 0 }, { name := "PtrBytes", type := 12, offset := 1, embedded := false, tag := "", pkgPath := "", byteOffset := 8 }, { name := "Hash", type := 89, offset := 2, embedded := false, tag := "", pkgPath := "", byteOffset := 16 }, { name := "TFlag", type := 108, offset := 3, embedded := false, tag := "", pkgPath := "", byteOffset := 20 }, { name := "Align_", type := 5, offset := 4, embedded := false, tag := "", pkgPath := "", byteOffset := 21 }, { name := "FieldAlign_", type := 5, offset := 5, embedded := false, tag := "", pkgPath := "", byteOffset := 22 }, { name := "Kind_", type := 109, offset := 6, embedded := false, tag := "", pkgPath := "", byteOffset := 23 }, { name := "Equal", type := 110, offset := 7, embedded := false, tag := "", pkgPath := "", byteOffset := 24 }, { name := "GCData", type := 111, offset := 8, embedded := false, tag := "", pkgPath := "", byteOffset := 32 }, { name := "Str", type := 112, offset := 9, embedded := false, tag := "", pkgPath := "", byteOffset := 40 }, { name := "PtrToThis", type := 113, offset := 10, embedded := false, tag := "", pkgPath := "", byteOffset := 44 }] := Eq.trans rfl rfl
@[go_sem] theorem size115 : ti115.size = 11 := Eq.trans rfl rfl
@[go_sem] theorem bytes115 : ti115.bytes = 48 := Eq.trans rfl rfl
@[go_sem] theorem zero115 : ti115.zero = [.int .u64 0, .int .u64 0, .int .u32 0, .int .u8 0, .int .u8 0, .int .u8 0, .int .u8 0, .nilfn, .nilp, .int .i32 0, .int .i32 0] := Eq.trans rfl rfl
theorem ok1 : TOk1 Try.prog 1 ti1 := TOk1.of (z := .nilFunc) (vs := [.nilFunc]) Try.underlying1 (by kernel_rfl) rfl rfl rfl (by first | exact fun _ => rfl | (intro h; cases h)) (by decide) (fun h => by cases h)
theorem ok2 : TOk1 Try.prog 2 ti2 := TOk1.of (z := .int .i64 0) (vs := [.int .i64 0]) Try.underlying2 (by kernel_rfl) rfl rfl rfl (by first | exact fun _ => rfl | (intro h; cases h)) (by decide) (fun h => by cases h)
theorem ok3 : TOk1 Try.prog 3 ti3 := TOk1.of (z := .int .i64 0) (vs := [.int .i64 0]) Try.underlying3 (by kernel_rfl) rfl rfl rfl (by first | exact fun _ => rfl | (intro h; cases h)) (by decide) (fun h => by cases h)
theorem ok4 : TOk1 Try.prog 4 ti4 := TOk1.of (z := .bool false) (vs := [.bool false]) Try.underlying4 (by kernel_rfl) rfl rfl rfl (by first | exact fun _ => rfl | (intro h; cases h)) (by decide) (fun h => by cases h)
theorem ok5 : TOk1 Try.prog 5 ti5 := TOk1.of (z := .int .u8 0) (vs := [.int .u8 0]) Try.underlying5 (by kernel_rfl) rfl rfl rfl (by first | exact fun _ => rfl | (intro h; cases h)) (by decide) (fun h => by cases h)
theorem ok6 : TOk1 Try.prog 6 ti6 := TOk1.of (z := .int .u8 0) (vs := [.int .u8 0]) Try.underlying6 (by kernel_rfl) rfl rfl rfl (by first | exact fun _ => rfl | (intro h; cases h)) (by decide) (fun h => by cases h)
theorem ok7 : TOk1 Try.prog 7 ti7 := TOk1.of (z := .agg #[.int .i64 0, .int .i64 0, .bool false, .int .u8 0]) (vs := [.int .i64 0, .int .i64 0, .bool false, .int .u8 0]) Try.underlying7 (by kernel_rfl) rfl rfl rfl (by first | exact fun _ => rfl | (intro h; cases h)) (by decide) (fun h => by cases h)
theorem ok8 : TOk1 Try.prog 8 ti8 := TOk1.of (z := .agg #[.int .i64 0, .int .i64 0, .bool false, .int .u8 0]) (vs := [.int .i64 0, .int .i64 0, .bool false, .int .u8 0]) Try.underlying8 (by kernel_rfl) rfl rfl rfl (by first | exact fun _ => rfl | (intro h; cases h)) (by decide) (fun h => by cases h)
theorem ok9 : TOk1 Try.prog 9 ti9 := TOk1.of (z := .string .empty) (vs := [.string .empty]) Try.underlying9 (by kernel_rfl) rfl rfl rfl (by first | exact fun _ => rfl | (intro h; cases h)) (by decide) (fun h => by cases h)
theorem ok10 : TOk1 Try.prog 10 ti10 := TOk1.of (z := .string .empty) (vs := [.string .empty]) Try.underlying10 (by kernel_rfl) rfl rfl rfl (by first | exact fun _ => rfl | (intro h; cases h)) (by decide) (fun h => by cases h)
theorem ok11 : TOk1 Try.prog 11 ti11 := TOk1.of (z := .string .empty) (vs := [.string .empty]) Try.underlying11 (by kernel_rfl) rfl rfl rfl (by first | exact fun _ => rfl | (intro h; cases h)) (by decide) (fun h => by cases h)
theorem ok12 : TOk1 Try.prog 12 ti12 := TOk1.of (z := .int .u64 0) (vs := [.int .u64 0]) Try.underlying12 (by kernel_rfl) rfl rfl rfl (by first | exact fun _ => rfl | (intro h; cases h)) (by decide) (fun h => by cases h)
theorem ok13 : TOk1 Try.prog 13 ti13 := TOk1.of (z := .agg #[.string .empty, .int .u64 0]) (vs := [.string .empty, .int .u64 0]) Try.underlying13 (by kernel_rfl) rfl rfl rfl (by first | exact fun _ => rfl | (intro h; cases h)) (by decide) (fun h => by cases h)
theorem ok14 : TOk1 Try.prog 14 ti14 := TOk1.of (z := .agg #[.string .empty, .int .u64 0]) (vs := [.string .empty, .int .u64 0]) Try.underlying14 (by kernel_rfl) rfl rfl rfl (by first | exact fun _ => rfl | (intro h; cases h)) (by decide) (fun h => by cases h)
theorem ok15 : TOk1 Try.prog 15 ti15 := TOk1.of (z := .pointer none) (vs := [.pointer none]) Try.underlying15 (by kernel_rfl) rfl rfl rfl (by first | exact fun _ => rfl | (intro h; cases h)) (by decide) (fun h => by cases h)
theorem ok16 : TOk1 Try.prog 16 ti16 := TOk1.of (z := .pointer none) (vs := [.pointer none]) Try.underlying16 (by kernel_rfl) rfl rfl rfl (by first | exact fun _ => rfl | (intro h; cases h)) (by decide) (fun h => by cases h)
theorem ok17 : TOk1 Try.prog 17 ti17 := TOk1.of (z := .pointer none) (vs := [.pointer none]) Try.underlying17 (by kernel_rfl) rfl rfl rfl (by first | exact fun _ => rfl | (intro h; cases h)) (by decide) (fun h => by cases h)
theorem ok18 : TOk1 Try.prog 18 ti18 := TOk1.of (z := .agg #[.pointer none]) (vs := [.pointer none]) Try.underlying18 (by kernel_rfl) rfl rfl rfl (by first | exact fun _ => rfl | (intro h; cases h)) (by decide) (fun h => by cases h)
theorem ok19 : TOk1 Try.prog 19 ti19 := TOk1.of (z := .agg #[.pointer none]) (vs := [.pointer none]) Try.underlying19 (by kernel_rfl) rfl rfl rfl (by first | exact fun _ => rfl | (intro h; cases h)) (by decide) (fun h => by cases h)
theorem ok20 : TOk1 Try.prog 20 ti20 := TOk1.of (z := .nilIface) (vs := [.nilIface]) Try.underlying20 (by kernel_rfl) rfl rfl rfl (by first | exact fun _ => rfl | (intro h; cases h)) (by decide) (fun h => by cases h)
theorem ok21 : TOk1 Try.prog 21 ti21 := TOk1.of (z := .int .i32 0) (vs := [.int .i32 0]) Try.underlying21 (by kernel_rfl) rfl rfl rfl (by first | exact fun _ => rfl | (intro h; cases h)) (by decide) (fun h => by cases h)
theorem ok22 : TOk1 Try.prog 22 ti22 := TOk1.of (z := .slice none 0 0) (vs := [.slice none 0 0]) Try.underlying22 (by kernel_rfl) rfl rfl rfl (by first | exact fun _ => rfl | (intro h; cases h)) (by decide) (fun h => by cases h)
theorem ok23 : TOk1 Try.prog 23 ti23 := TOk1.of (z := .slice none 0 0) (vs := [.slice none 0 0]) Try.underlying23 (by kernel_rfl) rfl rfl rfl (by first | exact fun _ => rfl | (intro h; cases h)) (by decide) (fun h => by cases h)
theorem ok24 : TOk1 Try.prog 24 ti24 := TOk1.of (z := .nilFunc) (vs := [.nilFunc]) Try.underlying24 (by kernel_rfl) rfl rfl rfl (by first | exact fun _ => rfl | (intro h; cases h)) (by decide) (fun h => by cases h)
theorem ok25 : TOk1 Try.prog 25 ti25 := TOk1.of (z := .nilFunc) (vs := [.nilFunc]) Try.underlying25 (by kernel_rfl) rfl rfl rfl (by first | exact fun _ => rfl | (intro h; cases h)) (by decide) (fun h => by cases h)
theorem ok26 : TOk1 Try.prog 26 ti26 := TOk1.of (z := .nilFunc) (vs := [.nilFunc]) Try.underlying26 (by kernel_rfl) rfl rfl rfl (by first | exact fun _ => rfl | (intro h; cases h)) (by decide) (fun h => by cases h)
theorem ok27 : TOk1 Try.prog 27 ti27 := TOk1.of (z := .slice none 0 0) (vs := [.slice none 0 0]) Try.underlying27 (by kernel_rfl) rfl rfl rfl (by first | exact fun _ => rfl | (intro h; cases h)) (by decide) (fun h => by cases h)
theorem ok28 : TOk1 Try.prog 28 ti28 := TOk1.of (z := .int .i64 0) (vs := [.int .i64 0]) Try.underlying28 (by kernel_rfl) rfl rfl rfl (by first | exact fun _ => rfl | (intro h; cases h)) (by decide) (fun h => by cases h)
theorem ok30 : TOk1 Try.prog 30 ti30 := TOk1.of (z := .nilFunc) (vs := [.nilFunc]) Try.underlying30 (by kernel_rfl) rfl rfl rfl (by first | exact fun _ => rfl | (intro h; cases h)) (by decide) (fun h => by cases h)
theorem ok32 : TOk1 Try.prog 32 ti32 := TOk1.of (z := .nilFunc) (vs := [.nilFunc]) Try.underlying32 (by kernel_rfl) rfl rfl rfl (by first | exact fun _ => rfl | (intro h; cases h)) (by decide) (fun h => by cases h)
theorem ok33 : TOk1 Try.prog 33 ti33 := TOk1.of (z := .slice none 0 0) (vs := [.slice none 0 0]) Try.underlying33 (by kernel_rfl) rfl rfl rfl (by first | exact fun _ => rfl | (intro h; cases h)) (by decide) (fun h => by cases h)
theorem ok35 : TOk1 Try.prog 35 ti35 := TOk1.of (z := .nilFunc) (vs := [.nilFunc]) Try.underlying35 (by kernel_rfl) rfl rfl rfl (by first | exact fun _ => rfl | (intro h; cases h)) (by decide) (fun h => by cases h)
theorem ok37 : TOk1 Try.prog 37 ti37 := TOk1.of (z := .nilFunc) (vs := [.nilFunc]) Try.underlying37 (by kernel_rfl) rfl rfl rfl (by first | exact fun _ => rfl | (intro h; cases h)) (by decide) (fun h => by cases h)
theorem ok38 : TOk1 Try.prog 38 ti38 := TOk1.of (z := .nilFunc) (vs := [.nilFunc]) Try.underlying38 (by kernel_rfl) rfl rfl rfl (by first | exact fun _ => rfl | (intro h; cases h)) (by decide) (fun h => by cases h)
theorem ok39 : TOk1 Try.prog 39 ti39 := TOk1.of (z := .nilFunc) (vs := [.nilFunc]) Try.underlying39 (by kernel_rfl) rfl rfl rfl (by first | exact fun _ => rfl | (intro h; cases h)) (by decide) (fun h => by cases h)
theorem ok40 : TOk1 Try.prog 40 ti40 := TOk1.of (z := .nilFunc) (vs := [.nilFunc]) Try.underlying40 (by kernel_rfl) rfl rfl rfl (by first | exact fun _ => rfl | (intro h; cases h)) (by decide) (fun h => by cases h)
theorem ok41 : TOk1 Try.prog 41 ti41 := TOk1.of (z := .nilFunc) (vs := [.nilFunc]) Try.underlying41 (by kernel_rfl) rfl rfl rfl (by first | exact fun _ => rfl | (intro h; cases h)) (by decide) (fun h => by cases h)
theorem ok42 : TOk1 Try.prog 42 ti42 := TOk1.of (z := .nilFunc) (vs := [.nilFunc]) Try.underlying42 (by kernel_rfl) rfl rfl rfl (by first | exact fun _ => rfl | (intro h; cases h)) (by decide) (fun h => by cases h)
theorem ok43 : TOk1 Try.prog 43 ti43 := TOk1.of (z := .nilFunc) (vs := [.nilFunc]) Try.underlying43 (by kernel_rfl) rfl rfl rfl (by first | exact fun _ => rfl | (intro h; cases h)) (by decide) (fun h => by cases h)
theorem ok44 : TOk1 Try.prog 44 ti44 := TOk1.of (z := .nilFunc) (vs := [.nilFunc]) Try.underlying44 (by kernel_rfl) rfl rfl rfl (by first | exact fun _ => rfl | (intro h; cases h)) (by decide) (fun h => by cases h)
theorem ok45 : TOk1 Try.prog 45 ti45 := TOk1.of (z := .agg #[.int .i64 0, .int .i64 0, .int .i64 0]) (vs := [.int .i64 0, .int .i64 0, .int .i64 0]) Try.underlying45 (by kernel_rfl) rfl rfl rfl (by first | exact fun _ => rfl | (intro h; cases h)) (by decide) (fun _ => ⟨by kernel_rfl, by kernel_rfl, fun fs e => by simp only [und45, TypeDesc.struct.injEq, reduceCtorEq] at e; subst e; decide⟩)
theorem ok46 : TOk1 Try.prog 46 ti46 := TOk1.of (z := .agg #[.int .i64 0, .int .i64 0, .int .i64 0]) (vs := [.int .i64 0, .int .i64 0, .int .i64 0]) Try.underlying46 (by kernel_rfl) rfl rfl rfl (by first | exact fun _ => rfl | (intro h; cases h)) (by decide) (fun _ => ⟨by kernel_rfl, by kernel_rfl, fun fs e => by simp only [und46, TypeDesc.struct.injEq, reduceCtorEq] at e; subst e; decide⟩)
theorem ok47 : TOk1 Try.prog 47 ti47 := TOk1.of (z := .nilFunc) (vs := [.nilFunc]) Try.underlying47 (by kernel_rfl) rfl rfl rfl (by first | exact fun _ => rfl | (intro h; cases h)) (by decide) (fun h => by cases h)
theorem ok48 : TOk1 Try.prog 48 ti48 := TOk1.of (z := .nilFunc) (vs := [.nilFunc]) Try.underlying48 (by kernel_rfl) rfl rfl rfl (by first | exact fun _ => rfl | (intro h; cases h)) (by decide) (fun h => by cases h)
theorem ok49 : TOk1 Try.prog 49 ti49 := TOk1.of (z := .nilFunc) (vs := [.nilFunc]) Try.underlying49 (by kernel_rfl) rfl rfl rfl (by first | exact fun _ => rfl | (intro h; cases h)) (by decide) (fun h => by cases h)
theorem ok50 : TOk1 Try.prog 50 ti50 := TOk1.of (z := .nilFunc) (vs := [.nilFunc]) Try.underlying50 (by kernel_rfl) rfl rfl rfl (by first | exact fun _ => rfl | (intro h; cases h)) (by decide) (fun h => by cases h)
theorem ok51 : TOk1 Try.prog 51 ti51 := TOk1.of (z := .slice none 0 0) (vs := [.slice none 0 0]) Try.underlying51 (by kernel_rfl) rfl rfl rfl (by first | exact fun _ => rfl | (intro h; cases h)) (by decide) (fun h => by cases h)
theorem ok52 : TOk1 Try.prog 52 ti52 := TOk1.of (z := .agg #[.string .empty, .slice none 0 0]) (vs := [.string .empty, .slice none 0 0]) Try.underlying52 (by kernel_rfl) rfl rfl rfl (by first | exact fun _ => rfl | (intro h; cases h)) (by decide) (fun h => by cases h)
theorem ok53 : TOk1 Try.prog 53 ti53 := TOk1.of (z := .agg #[.string .empty, .slice none 0 0]) (vs := [.string .empty, .slice none 0 0]) Try.underlying53 (by kernel_rfl) rfl rfl rfl (by first | exact fun _ => rfl | (intro h; cases h)) (by decide) (fun h => by cases h)
theorem ok54 : TOk1 Try.prog 54 ti54 := TOk1.of (z := .nilFunc) (vs := [.nilFunc]) Try.underlying54 (by kernel_rfl) rfl rfl rfl (by first | exact fun _ => rfl | (intro h; cases h)) (by decide) (fun h => by cases h)
theorem ok55 : TOk1 Try.prog 55 ti55 := TOk1.of (z := .nilFunc) (vs := [.nilFunc]) Try.underlying55 (by kernel_rfl) rfl rfl rfl (by first | exact fun _ => rfl | (intro h; cases h)) (by decide) (fun h => by cases h)
theorem ok56 : TOk1 Try.prog 56 ti56 := TOk1.of (z := .nilFunc) (vs := [.nilFunc]) Try.underlying56 (by kernel_rfl) rfl rfl rfl (by first | exact fun _ => rfl | (intro h; cases h)) (by decide) (fun h => by cases h)
theorem ok57 : TOk1 Try.prog 57 ti57 := TOk1.of (z := .nilFunc) (vs := [.nilFunc]) Try.underlying57 (by kernel_rfl) rfl rfl rfl (by first | exact fun _ => rfl | (intro h; cases h)) (by decide) (fun h => by cases h)
theorem ok58 : TOk1 Try.prog 58 ti58 := TOk1.of (z := .agg #[.int .i64 0, .int .i64 0, .int .i64 0, .slice none 0 0]) (vs := [.int .i64 0, .int .i64 0, .int .i64 0, .slice none 0 0]) Try.underlying58 (by kernel_rfl) rfl rfl rfl (by first | exact fun _ => rfl | (intro h; cases h)) (by decide) (fun h => by cases h)
theorem ok59 : TOk1 Try.prog 59 ti59 := TOk1.of (z := .agg #[.int .i64 0, .int .i64 0, .int .i64 0, .slice none 0 0]) (vs := [.int .i64 0, .int .i64 0, .int .i64 0, .slice none 0 0]) Try.underlying59 (by kernel_rfl) rfl rfl rfl (by first | exact fun _ => rfl | (intro h; cases h)) (by decide) (fun h => by cases h)
theorem ok60 : TOk1 Try.prog 60 ti60 := TOk1.of (z := .nilFunc) (vs := [.nilFunc]) Try.underlying60 (by kernel_rfl) rfl rfl rfl (by first | exact fun _ => rfl | (intro h; cases h)) (by decide) (fun h => by cases h)
theorem ok61 : TOk1 Try.prog 61 ti61 := TOk1.of (z := .nilFunc) (vs := [.nilFunc]) Try.underlying61 (by kernel_rfl) rfl rfl rfl (by first | exact fun _ => rfl | (intro h; cases h)) (by decide) (fun h => by cases h)
theorem ok62 : TOk1 Try.prog 62 ti62 := TOk1.of (z := .nilFunc) (vs := [.nilFunc]) Try.underlying62 (by kernel_rfl) rfl rfl rfl (by first | exact fun _ => rfl | (intro h; cases h)) (by decide) (fun h => by cases h)
theorem ok63 : TOk1 Try.prog 63 ti63 := TOk1.of (z := .nilFunc) (vs := [.nilFunc]) Try.underlying63 (by kernel_rfl) rfl rfl rfl (by first | exact fun _ => rfl | (intro h; cases h)) (by decide) (fun h => by cases h)
theorem ok64 : TOk1 Try.prog 64 ti64 := TOk1.of (z := .nilFunc) (vs := [.nilFunc]) Try.underlying64 (by kernel_rfl) rfl rfl rfl (by first | exact fun _ => rfl | (intro h; cases h)) (by decide) (fun h => by cases h)
theorem ok65 : TOk1 Try.prog 65 ti65 := TOk1.of (z := .nilFunc) (vs := [.nilFunc]) Try.underlying65 (by kernel_rfl) rfl rfl rfl (by first | exact fun _ => rfl | (intro h; cases h)) (by decide) (fun h => by cases h)
theorem ok66 : TOk1 Try.prog 66 ti66 := TOk1.of (z := .slice none 0 0) (vs := [.slice none 0 0]) Try.underlying66 (by kernel_rfl) rfl rfl rfl (by first | exact fun _ => rfl | (intro h; cases h)) (by decide) (fun h => by cases h)
theorem ok67 : TOk1 Try.prog 67 ti67 := TOk1.of (z := .nilFunc) (vs := [.nilFunc]) Try.underlying67 (by kernel_rfl) rfl rfl rfl (by first | exact fun _ => rfl | (intro h; cases h)) (by decide) (fun h => by cases h)
theorem ok68 : TOk1 Try.prog 68 ti68 := TOk1.of (z := .nilFunc) (vs := [.nilFunc]) Try.underlying68 (by kernel_rfl) rfl rfl rfl (by first | exact fun _ => rfl | (intro h; cases h)) (by decide) (fun h => by cases h)
theorem ok69 : TOk1 Try.prog 69 ti69 := TOk1.of (z := .nilFunc) (vs := [.nilFunc]) Try.underlying69 (by kernel_rfl) rfl rfl rfl (by first | exact fun _ => rfl | (intro h; cases h)) (by decide) (fun h => by cases h)
theorem ok70 : TOk1 Try.prog 70 ti70 := TOk1.of (z := .nilFunc) (vs := [.nilFunc]) Try.underlying70 (by kernel_rfl) rfl rfl rfl (by first | exact fun _ => rfl | (intro h; cases h)) (by decide) (fun h => by cases h)
theorem ok71 : TOk1 Try.prog 71 ti71 := TOk1.of (z := .nilFunc) (vs := [.nilFunc]) Try.underlying71 (by kernel_rfl) rfl rfl rfl (by first | exact fun _ => rfl | (intro h; cases h)) (by decide) (fun h => by cases h)
theorem ok72 : TOk1 Try.prog 72 ti72 := TOk1.of (z := .nilFunc) (vs := [.nilFunc]) Try.underlying72 (by kernel_rfl) rfl rfl rfl (by first | exact fun _ => rfl | (intro h; cases h)) (by decide) (fun h => by cases h)
theorem ok73 : TOk1 Try.prog 73 ti73 := TOk1.of (z := .nilFunc) (vs := [.nilFunc]) Try.underlying73 (by kernel_rfl) rfl rfl rfl (by first | exact fun _ => rfl | (intro h; cases h)) (by decide) (fun h => by cases h)
theorem ok74 : TOk1 Try.prog 74 ti74 := TOk1.of (z := .nilFunc) (vs := [.nilFunc]) Try.underlying74 (by kernel_rfl) rfl rfl rfl (by first | exact fun _ => rfl | (intro h; cases h)) (by decide) (fun h => by cases h)
theorem ok75 : TOk1 Try.prog 75 ti75 := TOk1.of (z := .nilFunc) (vs := [.nilFunc]) Try.underlying75 (by kernel_rfl) rfl rfl rfl (by first | exact fun _ => rfl | (intro h; cases h)) (by decide) (fun h => by cases h)
theorem ok76 : TOk1 Try.prog 76 ti76 := TOk1.of (z := .map none) (vs := [.map none]) Try.underlying76 (by kernel_rfl) rfl rfl rfl (by first | exact fun _ => rfl | (intro h; cases h)) (by decide) (fun h => by cases h)
theorem ok77 : TOk1 Try.prog 77 ti77 := TOk1.of (z := .nilFunc) (vs := [.nilFunc]) Try.underlying77 (by kernel_rfl) rfl rfl rfl (by first | exact fun _ => rfl | (intro h; cases h)) (by decide) (fun h => by cases h)
theorem ok78 : TOk1 Try.prog 78 ti78 := TOk1.of (z := .nilFunc) (vs := [.nilFunc]) Try.underlying78 (by kernel_rfl) rfl rfl rfl (by first | exact fun _ => rfl | (intro h; cases h)) (by decide) (fun h => by cases h)
theorem ok79 : TOk1 Try.prog 79 ti79 := TOk1.of (z := .int .u64 0) (vs := [.int .u64 0]) Try.underlying79 (by kernel_rfl) rfl rfl rfl (by first | exact fun _ => rfl | (intro h; cases h)) (by decide) (fun h => by cases h)
theorem ok80 : TOk1 Try.prog 80 ti80 := TOk1.of (z := .nilFunc) (vs := [.nilFunc]) Try.underlying80 (by kernel_rfl) rfl rfl rfl (by first | exact fun _ => rfl | (intro h; cases h)) (by decide) (fun h => by cases h)
theorem ok81 : TOk1 Try.prog 81 ti81 := TOk1.of (z := .int .i64 0) (vs := [.int .i64 0]) Try.underlying81 (by kernel_rfl) rfl rfl rfl (by first | exact fun _ => rfl | (intro h; cases h)) (by decide) (fun h => by cases h)
theorem ok83 : TOk1 Try.prog 83 ti83 := TOk1.of (z := .nilFunc) (vs := [.nilFunc]) Try.underlying83 (by kernel_rfl) rfl rfl rfl (by first | exact fun _ => rfl | (intro h; cases h)) (by decide) (fun h => by cases h)
theorem ok84 : TOk1 Try.prog 84 ti84 := TOk1.of (z := .nilFunc) (vs := [.nilFunc]) Try.underlying84 (by kernel_rfl) rfl rfl rfl (by first | exact fun _ => rfl | (intro h; cases h)) (by decide) (fun h => by cases h)
theorem ok85 : TOk1 Try.prog 85 ti85 := TOk1.of (z := .nilFunc) (vs := [.nilFunc]) Try.underlying85 (by kernel_rfl) rfl rfl rfl (by first | exact fun _ => rfl | (intro h; cases h)) (by decide) (fun h => by cases h)
theorem ok87 : TOk1 Try.prog 87 ti87 := TOk1.of (z := .nilFunc) (vs := [.nilFunc]) Try.underlying87 (by kernel_rfl) rfl rfl rfl (by first | exact fun _ => rfl | (intro h; cases h)) (by decide) (fun h => by cases h)
theorem ok88 : TOk1 Try.prog 88 ti88 := TOk1.of (z := .nilFunc) (vs := [.nilFunc]) Try.underlying88 (by kernel_rfl) rfl rfl rfl (by first | exact fun _ => rfl | (intro h; cases h)) (by decide) (fun h => by cases h)
theorem ok89 : TOk1 Try.prog 89 ti89 := TOk1.of (z := .int .u32 0) (vs := [.int .u32 0]) Try.underlying89 (by kernel_rfl) rfl rfl rfl (by first | exact fun _ => rfl | (intro h; cases h)) (by decide) (fun h => by cases h)
theorem ok90 : TOk1 Try.prog 90 ti90 := TOk1.of (z := .nilFunc) (vs := [.nilFunc]) Try.underlying90 (by kernel_rfl) rfl rfl rfl (by first | exact fun _ => rfl | (intro h; cases h)) (by decide) (fun h => by cases h)
theorem ok91 : TOk1 Try.prog 91 ti91 := TOk1.of (z := .int .u64 0) (vs := [.int .u64 0]) Try.underlying91 (by kernel_rfl) rfl rfl rfl (by first | exact fun _ => rfl | (intro h; cases h)) (by decide) (fun h => by cases h)
theorem ok92 : TOk1 Try.prog 92 ti92 := TOk1.of (z := .int .u64 0) (vs := [.int .u64 0]) Try.underlying92 (by kernel_rfl) rfl rfl rfl (by first | exact fun _ => rfl | (intro h; cases h)) (by decide) (fun h => by cases h)
theorem ok93 : TOk1 Try.prog 93 ti93 := TOk1.of (z := .nilFunc) (vs := [.nilFunc]) Try.underlying93 (by kernel_rfl) rfl rfl rfl (by first | exact fun _ => rfl | (intro h; cases h)) (by decide) (fun h => by cases h)
theorem ok94 : TOk1 Try.prog 94 ti94 := TOk1.of (z := .nilFunc) (vs := [.nilFunc]) Try.underlying94 (by kernel_rfl) rfl rfl rfl (by first | exact fun _ => rfl | (intro h; cases h)) (by decide) (fun h => by cases h)
theorem ok95 : TOk1 Try.prog 95 ti95 := TOk1.of (z := .nilFunc) (vs := [.nilFunc]) Try.underlying95 (by kernel_rfl) rfl rfl rfl (by first | exact fun _ => rfl | (intro h; cases h)) (by decide) (fun h => by cases h)
theorem ok96 : TOk1 Try.prog 96 ti96 := TOk1.of (z := .pointer none) (vs := [.pointer none]) Try.underlying96 (by kernel_rfl) rfl rfl rfl (by first | exact fun _ => rfl | (intro h; cases h)) (by decide) (fun h => by cases h)
theorem ok97 : TOk1 Try.prog 97 ti97 := TOk1.of (z := .nilFunc) (vs := [.nilFunc]) Try.underlying97 (by kernel_rfl) rfl rfl rfl (by first | exact fun _ => rfl | (intro h; cases h)) (by decide) (fun h => by cases h)
theorem ok98 : TOk1 Try.prog 98 ti98 := TOk1.of (z := .pointer none) (vs := [.pointer none]) Try.underlying98 (by kernel_rfl) rfl rfl rfl (by first | exact fun _ => rfl | (intro h; cases h)) (by decide) (fun h => by cases h)
theorem ok100 : TOk1 Try.prog 100 ti100 := TOk1.of (z := .nilFunc) (vs := [.nilFunc]) Try.underlying100 (by kernel_rfl) rfl rfl rfl (by first | exact fun _ => rfl | (intro h; cases h)) (by decide) (fun h => by cases h)
theorem ok101 : TOk1 Try.prog 101 ti101 := TOk1.of (z := .nilFunc) (vs := [.nilFunc]) Try.underlying101 (by kernel_rfl) rfl rfl rfl (by first | exact fun _ => rfl | (intro h; cases h)) (by decide) (fun h => by cases h)
theorem ok102 : TOk1 Try.prog 102 ti102 := TOk1.of (z := .agg #[.pointer none, .pointer none, .pointer none, .string .empty]) (vs := [.pointer none, .pointer none, .pointer none, .string .empty]) Try.underlying102 (by kernel_rfl) rfl rfl rfl (by first | exact fun _ => rfl | (intro h; cases h)) (by decide) (fun h => by cases h)
theorem ok103 : TOk1 Try.prog 103 ti103 := TOk1.of (z := .agg #[.pointer none, .pointer none, .pointer none, .string .empty]) (vs := [.pointer none, .pointer none, .pointer none, .string .empty]) Try.underlying103 (by kernel_rfl) rfl rfl rfl (by first | exact fun _ => rfl | (intro h; cases h)) (by decide) (fun h => by cases h)
theorem ok107 : TOk1 Try.prog 107 ti107 := TOk1.of (z := .nilFunc) (vs := [.nilFunc]) Try.underlying107 (by kernel_rfl) rfl rfl rfl (by first | exact fun _ => rfl | (intro h; cases h)) (by decide) (fun h => by cases h)
theorem ok108 : TOk1 Try.prog 108 ti108 := TOk1.of (z := .int .u8 0) (vs := [.int .u8 0]) Try.underlying108 (by kernel_rfl) rfl rfl rfl (by first | exact fun _ => rfl | (intro h; cases h)) (by decide) (fun h => by cases h)
theorem ok109 : TOk1 Try.prog 109 ti109 := TOk1.of (z := .int .u8 0) (vs := [.int .u8 0]) Try.underlying109 (by kernel_rfl) rfl rfl rfl (by first | exact fun _ => rfl | (intro h; cases h)) (by decide) (fun h => by cases h)
theorem ok110 : TOk1 Try.prog 110 ti110 := TOk1.of (z := .nilFunc) (vs := [.nilFunc]) Try.underlying110 (by kernel_rfl) rfl rfl rfl (by first | exact fun _ => rfl | (intro h; cases h)) (by decide) (fun h => by cases h)
theorem ok111 : TOk1 Try.prog 111 ti111 := TOk1.of (z := .pointer none) (vs := [.pointer none]) Try.underlying111 (by kernel_rfl) rfl rfl rfl (by first | exact fun _ => rfl | (intro h; cases h)) (by decide) (fun h => by cases h)
theorem ok112 : TOk1 Try.prog 112 ti112 := TOk1.of (z := .int .i32 0) (vs := [.int .i32 0]) Try.underlying112 (by kernel_rfl) rfl rfl rfl (by first | exact fun _ => rfl | (intro h; cases h)) (by decide) (fun h => by cases h)
theorem ok113 : TOk1 Try.prog 113 ti113 := TOk1.of (z := .int .i32 0) (vs := [.int .i32 0]) Try.underlying113 (by kernel_rfl) rfl rfl rfl (by first | exact fun _ => rfl | (intro h; cases h)) (by decide) (fun h => by cases h)
theorem ok114 : TOk1 Try.prog 114 ti114 := TOk1.of (z := .agg #[.int .u64 0, .int .u64 0, .int .u32 0, .int .u8 0, .int .u8 0, .int .u8 0, .int .u8 0, .nilFunc, .pointer none, .int .i32 0, .int .i32 0]) (vs := [.int .u64 0, .int .u64 0, .int .u32 0, .int .u8 0, .int .u8 0, .int .u8 0, .int .u8 0, .nilFunc, .pointer none, .int .i32 0, .int .i32 0]) Try.underlying114 (by kernel_rfl) rfl rfl rfl (by first | exact fun _ => rfl | (intro h; cases h)) (by decide) (fun h => by cases h)
theorem ok115 : TOk1 Try.prog 115 ti115 := TOk1.of (z := .agg #[.int .u64 0, .int .u64 0, .int .u32 0, .int .u8 0, .int .u8 0, .int .u8 0, .int .u8 0, .nilFunc, .pointer none, .int .i32 0, .int .i32 0]) (vs := [.int .u64 0, .int .u64 0, .int .u32 0, .int .u8 0, .int .u8 0, .int .u8 0, .int .u8 0, .nilFunc, .pointer none, .int .i32 0, .int .i32 0]) Try.underlying115 (by kernel_rfl) rfl rfl rfl (by first | exact fun _ => rfl | (intro h; cases h)) (by decide) (fun h => by cases h)
theorem hT : TOk Try.prog T := by
  intro t i h
  unfold T at h
  split at h <;> first | (cases h; done) | (simp only [Option.some.injEq] at h; subst h)
  · exact ok1
  · exact ok2
  · exact ok3
  · exact ok4
  · exact ok5
  · exact ok6
  · exact ok7
  · exact ok8
  · exact ok9
  · exact ok10
  · exact ok11
  · exact ok12
  · exact ok13
  · exact ok14
  · exact ok15
  · exact ok16
  · exact ok17
  · exact ok18
  · exact ok19
  · exact ok20
  · exact ok21
  · exact ok22
  · exact ok23
  · exact ok24
  · exact ok25
  · exact ok26
  · exact ok27
  · exact ok28
  · exact ok30
  · exact ok32
  · exact ok33
  · exact ok35
  · exact ok37
  · exact ok38
  · exact ok39
  · exact ok40
  · exact ok41
  · exact ok42
  · exact ok43
  · exact ok44
  · exact ok45
  · exact ok46
  · exact ok47
  · exact ok48
  · exact ok49
  · exact ok50
  · exact ok51
  · exact ok52
  · exact ok53
  · exact ok54
  · exact ok55
  · exact ok56
  · exact ok57
  · exact ok58
  · exact ok59
  · exact ok60
  · exact ok61
  · exact ok62
  · exact ok63
  · exact ok64
  · exact ok65
  · exact ok66
  · exact ok67
  · exact ok68
  · exact ok69
  · exact ok70
  · exact ok71
  · exact ok72
  · exact ok73
  · exact ok74
  · exact ok75
  · exact ok76
  · exact ok77
  · exact ok78
  · exact ok79
  · exact ok80
  · exact ok81
  · exact ok83
  · exact ok84
  · exact ok85
  · exact ok87
  · exact ok88
  · exact ok89
  · exact ok90
  · exact ok91
  · exact ok92
  · exact ok93
  · exact ok94
  · exact ok95
  · exact ok96
  · exact ok97
  · exact ok98
  · exact ok100
  · exact ok101
  · exact ok102
  · exact ok103
  · exact ok107
  · exact ok108
  · exact ok109
  · exact ok110
  · exact ok111
  · exact ok112
  · exact ok113
  · exact ok114
  · exact ok115
end Go.Proofs.Ythhjplnhmmhbbaa
