/- DERIVED. The rows of the types and of the functions. -/
import Derived.Test.YtjekbmejcakllaaVo
import Derived.Test.YtjekbmejcakllaaProg
import Derived.KernelRfl
namespace Go.Proofs.Ytjekbmejcakllaa
open Go Sl
instance ty0 : Ty Try.prog 0 (Go.TypeDesc.tuple #[]) (.tuple #[]) 1 0 := Ty.mk' Try.underlying0 (by kernel_rfl)
instance ty1 : Ty Try.prog 1 (Go.TypeDesc.func #[] #[] false) (.nilFunc) 1 8 := Ty.mk' Try.underlying1 (by kernel_rfl)
instance ty2 : Ty Try.prog 2 (Go.TypeDesc.int Go.IntKind.i64) (.int .i64 0) 1 8 := Ty.mk' Try.underlying2 (by kernel_rfl)
instance ty3 : Ty Try.prog 3 (Go.TypeDesc.int Go.IntKind.i64) (.int .i64 0) 1 8 := Ty.mk' Try.underlying3 (by kernel_rfl)
instance ty4 : Ty Try.prog 4 Go.TypeDesc.bool (.bool false) 1 1 := Ty.mk' Try.underlying4 (by kernel_rfl)
instance ty5 : Ty Try.prog 5 (Go.TypeDesc.int Go.IntKind.u8) (.int .u8 0) 1 1 := Ty.mk' Try.underlying5 (by kernel_rfl)
instance ty6 : Ty Try.prog 6 (Go.TypeDesc.int Go.IntKind.u8) (.int .u8 0) 1 1 := Ty.mk' Try.underlying6 (by kernel_rfl)
instance ty7 : Ty Try.prog 7 (Go.TypeDesc.struct #[{ name := "x", type := 2, offset := 0, embedded := false, tag := "", pkgPath := "runtime", byteOffset := 0 }, { name := "y", type := 3, offset := 1, embedded := false, tag := "", pkgPath := "runtime", byteOffset := 8 }, { name := "signed", type := 4, offset := 2, embedded := false, tag := "", pkgPath := "runtime", byteOffset := 16 }, { name := "code", type := 6, offset := 3, embedded := false, tag := "", pkgPath := "runtime", byteOffset := 17 }]) (.agg #[.int .i64 0, .int .i64 0, .bool false, .int .u8 0]) 4 24 := Ty.mk' Try.underlying7 (by kernel_rfl)
instance ty8 : Ty Try.prog 8 (Go.TypeDesc.struct #[{ name := "x", type := 2, offset := 0, embedded := false, tag := "", pkgPath := "runtime", byteOffset := 0 }, { name := "y", type := 3, offset := 1, embedded := false, tag := "", pkgPath := "runtime", byteOffset := 8 }, { name := "signed", type := 4, offset := 2, embedded := false, tag := "", pkgPath := "runtime", byteOffset := 16 }, { name := "code", type := 6, offset := 3, embedded := false, tag := "", pkgPath := "runtime", byteOffset := 17 }]) (.agg #[.int .i64 0, .int .i64 0, .bool false, .int .u8 0]) 4 24 := Ty.mk' Try.underlying8 (by kernel_rfl)
instance ty9 : Ty Try.prog 9 Go.TypeDesc.string (.string ByteArray.empty) 1 16 := Ty.mk' Try.underlying9 (by kernel_rfl)
instance ty10 : Ty Try.prog 10 Go.TypeDesc.string (.string ByteArray.empty) 1 16 := Ty.mk' Try.underlying10 (by kernel_rfl)
instance ty11 : Ty Try.prog 11 Go.TypeDesc.string (.string ByteArray.empty) 1 16 := Ty.mk' Try.underlying11 (by kernel_rfl)
instance ty12 : Ty Try.prog 12 (Go.TypeDesc.int Go.IntKind.u64) (.int .u64 0) 1 8 := Ty.mk' Try.underlying12 (by kernel_rfl)
instance ty13 : Ty Try.prog 13 (Go.TypeDesc.struct #[{ name := "msg", type := 9, offset := 0, embedded := false, tag := "", pkgPath := "runtime", byteOffset := 0 }, { name := "addr", type := 12, offset := 1, embedded := false, tag := "", pkgPath := "runtime", byteOffset := 16 }]) (.agg #[.string ByteArray.empty, .int .u64 0]) 2 24 := Ty.mk' Try.underlying13 (by kernel_rfl)
instance ty14 : Ty Try.prog 14 (Go.TypeDesc.struct #[{ name := "msg", type := 9, offset := 0, embedded := false, tag := "", pkgPath := "runtime", byteOffset := 0 }, { name := "addr", type := 12, offset := 1, embedded := false, tag := "", pkgPath := "runtime", byteOffset := 16 }]) (.agg #[.string ByteArray.empty, .int .u64 0]) 2 24 := Ty.mk' Try.underlying14 (by kernel_rfl)
instance ty15 : Ty Try.prog 15 (Go.TypeDesc.pointer 78) (.pointer none) 1 8 := Ty.mk' Try.underlying15 (by kernel_rfl)
instance ty16 : Ty Try.prog 16 (Go.TypeDesc.pointer 81) (.pointer none) 1 8 := Ty.mk' Try.underlying16 (by kernel_rfl)
instance ty17 : Ty Try.prog 17 (Go.TypeDesc.pointer 90) (.pointer none) 1 8 := Ty.mk' Try.underlying17 (by kernel_rfl)
instance ty18 : Ty Try.prog 18 (Go.TypeDesc.struct #[{ name := "typ", type := 17, offset := 0, embedded := false, tag := "", pkgPath := "internal/runtime/maps", byteOffset := 0 }]) (.agg #[.pointer none]) 1 8 := Ty.mk' Try.underlying18 (by kernel_rfl)
instance ty19 : Ty Try.prog 19 (Go.TypeDesc.struct #[{ name := "typ", type := 17, offset := 0, embedded := false, tag := "", pkgPath := "internal/runtime/maps", byteOffset := 0 }]) (.agg #[.pointer none]) 1 8 := Ty.mk' Try.underlying19 (by kernel_rfl)
instance ty20 : Ty Try.prog 20 (Go.TypeDesc.interface #[]) (.nilIface) 1 16 := Ty.mk' Try.underlying20 (by kernel_rfl)
instance ty21 : Ty Try.prog 21 (Go.TypeDesc.int Go.IntKind.i32) (.int .i32 0) 1 4 := Ty.mk' Try.underlying21 (by kernel_rfl)
instance ty22 : Ty Try.prog 22 (Go.TypeDesc.slice 9) (.slice none 0 0) 1 24 := Ty.mk' Try.underlying22 (by kernel_rfl)
instance ty23 : Ty Try.prog 23 (Go.TypeDesc.pointer 63) (.pointer none) 1 8 := Ty.mk' Try.underlying23 (by kernel_rfl)
instance ty24 : Ty Try.prog 24 (Go.TypeDesc.int Go.IntKind.i64) (.int .i64 0) 1 8 := Ty.mk' Try.underlying24 (by kernel_rfl)
instance ty25 : Ty Try.prog 25 (Go.TypeDesc.tuple #[23, 24]) (.tuple #[.pointer none, .int .i64 0]) 1 0 := Ty.mk' Try.underlying25 (by kernel_rfl)
instance ty26 : Ty Try.prog 26 (Go.TypeDesc.func #[3] #[23, 24] false) (.nilFunc) 1 8 := Ty.mk' Try.underlying26 (by kernel_rfl)
instance ty27 : Ty Try.prog 27 (Go.TypeDesc.func #[] #[4] false) (.nilFunc) 1 8 := Ty.mk' Try.underlying27 (by kernel_rfl)
instance ty28 : Ty Try.prog 28 (Go.TypeDesc.slice 36) (.slice none 0 0) 1 24 := Ty.mk' Try.underlying28 (by kernel_rfl)
instance ty29 : Ty Try.prog 29 (Go.TypeDesc.struct #[{ name := "Most", type := 3, offset := 0, embedded := false, tag := "", pkgPath := "", byteOffset := 0 }, { name := "L", type := 28, offset := 1, embedded := false, tag := "", pkgPath := "", byteOffset := 8 }]) (.agg #[.int .i64 0, .slice none 0 0]) 2 32 := Ty.mk' Try.underlying29 (by kernel_rfl)
instance ty30 : Ty Try.prog 30 (Go.TypeDesc.struct #[{ name := "Most", type := 3, offset := 0, embedded := false, tag := "", pkgPath := "", byteOffset := 0 }, { name := "L", type := 28, offset := 1, embedded := false, tag := "", pkgPath := "", byteOffset := 8 }]) (.agg #[.int .i64 0, .slice none 0 0]) 2 32 := Ty.mk' Try.underlying30 (by kernel_rfl)
instance ty31 : Ty Try.prog 31 (Go.TypeDesc.int Go.IntKind.u16) (.int .u16 0) 1 2 := Ty.mk' Try.underlying31 (by kernel_rfl)
instance ty32 : Ty Try.prog 32 (Go.TypeDesc.struct #[{ name := "Space", type := 31, offset := 0, embedded := false, tag := "", pkgPath := "", byteOffset := 0 }, { name := "Name", type := 9, offset := 1, embedded := false, tag := "", pkgPath := "", byteOffset := 8 }]) (.agg #[.int .u16 0, .string ByteArray.empty]) 2 24 := Ty.mk' Try.underlying32 (by kernel_rfl)
instance ty33 : Ty Try.prog 33 (Go.TypeDesc.struct #[{ name := "Space", type := 31, offset := 0, embedded := false, tag := "", pkgPath := "", byteOffset := 0 }, { name := "Name", type := 9, offset := 1, embedded := false, tag := "", pkgPath := "", byteOffset := 8 }]) (.agg #[.int .u16 0, .string ByteArray.empty]) 2 24 := Ty.mk' Try.underlying33 (by kernel_rfl)
instance ty34 : Ty Try.prog 34 (Go.TypeDesc.tuple #[33, 4, 24]) (.tuple #[.agg #[.int .u16 0, .string ByteArray.empty], .bool false, .int .i64 0]) 1 0 := Ty.mk' Try.underlying34 (by kernel_rfl)
instance ty35 : Ty Try.prog 35 (Go.TypeDesc.func #[33] #[33, 4, 24] false) (.nilFunc) 1 8 := Ty.mk' Try.underlying35 (by kernel_rfl)
instance ty36 : Ty Try.prog 36 (Go.TypeDesc.struct #[{ name := "Space", type := 31, offset := 0, embedded := false, tag := "", pkgPath := "", byteOffset := 0 }, { name := "Name", type := 9, offset := 1, embedded := false, tag := "", pkgPath := "", byteOffset := 8 }]) (.agg #[.int .u16 0, .string ByteArray.empty]) 2 24 := Ty.mk' Try.underlying36 (by kernel_rfl)
instance ty37 : Ty Try.prog 37 (Go.TypeDesc.tuple #[30, 36, 4, 3]) (.tuple #[.agg #[.int .i64 0, .slice none 0 0], .agg #[.int .u16 0, .string ByteArray.empty], .bool false, .int .i64 0]) 1 0 := Ty.mk' Try.underlying37 (by kernel_rfl)
instance ty38 : Ty Try.prog 38 (Go.TypeDesc.func #[36] #[30, 36, 4, 3] false) (.nilFunc) 1 8 := Ty.mk' Try.underlying38 (by kernel_rfl)
instance ty39 : Ty Try.prog 39 (Go.TypeDesc.func #[48] #[] false) (.nilFunc) 1 8 := Ty.mk' Try.underlying39 (by kernel_rfl)
instance ty40 : Ty Try.prog 40 (Go.TypeDesc.func #[] #[39] false) (.nilFunc) 1 8 := Ty.mk' Try.underlying40 (by kernel_rfl)
instance ty41 : Ty Try.prog 41 (Go.TypeDesc.func #[33] #[36] false) (.nilFunc) 1 8 := Ty.mk' Try.underlying41 (by kernel_rfl)
instance ty42 : Ty Try.prog 42 (Go.TypeDesc.func #[22, 3] #[4] false) (.nilFunc) 1 8 := Ty.mk' Try.underlying42 (by kernel_rfl)
instance ty43 : Ty Try.prog 43 (Go.TypeDesc.slice 33) (.slice none 0 0) 1 24 := Ty.mk' Try.underlying43 (by kernel_rfl)
instance ty44 : Ty Try.prog 44 (Go.TypeDesc.tuple #[43, 24]) (.tuple #[.slice none 0 0, .int .i64 0]) 1 0 := Ty.mk' Try.underlying44 (by kernel_rfl)
instance ty45 : Ty Try.prog 45 (Go.TypeDesc.func #[3] #[43, 24] false) (.nilFunc) 1 8 := Ty.mk' Try.underlying45 (by kernel_rfl)
instance ty46 : Ty Try.prog 46 (Go.TypeDesc.tuple #[33, 4]) (.tuple #[.agg #[.int .u16 0, .string ByteArray.empty], .bool false]) 1 0 := Ty.mk' Try.underlying46 (by kernel_rfl)
instance ty47 : Ty Try.prog 47 (Go.TypeDesc.func #[] #[33, 4] false) (.nilFunc) 1 8 := Ty.mk' Try.underlying47 (by kernel_rfl)
instance ty48 : Ty Try.prog 48 (Go.TypeDesc.func #[33] #[4] false) (.nilFunc) 1 8 := Ty.mk' Try.underlying48 (by kernel_rfl)
instance ty49 : Ty Try.prog 49 (Go.TypeDesc.func #[] #[3] false) (.nilFunc) 1 8 := Ty.mk' Try.underlying49 (by kernel_rfl)
instance ty50 : Ty Try.prog 50 (Go.TypeDesc.func #[] #[23] false) (.nilFunc) 1 8 := Ty.mk' Try.underlying50 (by kernel_rfl)
instance ty51 : Ty Try.prog 51 (Go.TypeDesc.func #[33, 3] #[4] false) (.nilFunc) 1 8 := Ty.mk' Try.underlying51 (by kernel_rfl)
instance ty52 : Ty Try.prog 52 (Go.TypeDesc.slice 57) (.slice none 0 0) 1 24 := Ty.mk' Try.underlying52 (by kernel_rfl)
instance ty53 : Ty Try.prog 53 (Go.TypeDesc.func #[3] #[4] false) (.nilFunc) 1 8 := Ty.mk' Try.underlying53 (by kernel_rfl)
instance ty54 : Ty Try.prog 54 (Go.TypeDesc.tuple #[23, 30, 4]) (.tuple #[.pointer none, .agg #[.int .i64 0, .slice none 0 0], .bool false]) 1 0 := Ty.mk' Try.underlying54 (by kernel_rfl)
instance ty55 : Ty Try.prog 55 (Go.TypeDesc.func #[23, 30, 57] #[23, 30, 4] false) (.nilFunc) 1 8 := Ty.mk' Try.underlying55 (by kernel_rfl)
instance ty56 : Ty Try.prog 56 (Go.TypeDesc.struct #[{ name := "Kind", type := 3, offset := 0, embedded := false, tag := "", pkgPath := "", byteOffset := 0 }, { name := "N", type := 3, offset := 1, embedded := false, tag := "", pkgPath := "", byteOffset := 8 }, { name := "Key", type := 33, offset := 2, embedded := false, tag := "", pkgPath := "", byteOffset := 16 }]) (.agg #[.int .i64 0, .int .i64 0, .int .u16 0, .string ByteArray.empty]) 4 40 := Ty.mk' Try.underlying56 (by kernel_rfl)
instance ty57 : Ty Try.prog 57 (Go.TypeDesc.struct #[{ name := "Kind", type := 3, offset := 0, embedded := false, tag := "", pkgPath := "", byteOffset := 0 }, { name := "N", type := 3, offset := 1, embedded := false, tag := "", pkgPath := "", byteOffset := 8 }, { name := "Key", type := 33, offset := 2, embedded := false, tag := "", pkgPath := "", byteOffset := 16 }]) (.agg #[.int .i64 0, .int .i64 0, .int .u16 0, .string ByteArray.empty]) 4 40 := Ty.mk' Try.underlying57 (by kernel_rfl)
instance ty58 : Ty Try.prog 58 (Go.TypeDesc.func #[23, 30, 33] #[4] false) (.nilFunc) 1 8 := Ty.mk' Try.underlying58 (by kernel_rfl)
instance ty59 : Ty Try.prog 59 (Go.TypeDesc.func #[3, 52] #[4] false) (.nilFunc) 1 8 := Ty.mk' Try.underlying59 (by kernel_rfl)
instance ty60 : Ty Try.prog 60 (Go.TypeDesc.map 33 61) (.map none) 1 8 := Ty.mk' Try.underlying60 (by kernel_rfl)
instance ty61 : Ty Try.prog 61 (Go.TypeDesc.pointer 66) (.pointer none) 1 8 := Ty.mk' Try.underlying61 (by kernel_rfl)
instance ty62 : Ty Try.prog 62 (Go.TypeDesc.struct #[{ name := "most", type := 3, offset := 0, embedded := false, tag := "", pkgPath := "convoy/order", byteOffset := 0 }, { name := "at", type := 60, offset := 1, embedded := false, tag := "", pkgPath := "convoy/order", byteOffset := 8 }, { name := "oldest", type := 61, offset := 2, embedded := false, tag := "", pkgPath := "convoy/order", byteOffset := 16 }, { name := "newest", type := 61, offset := 3, embedded := false, tag := "", pkgPath := "convoy/order", byteOffset := 24 }]) (.agg #[.int .i64 0, .map none, .pointer none, .pointer none]) 4 32 := Ty.mk' Try.underlying62 (by kernel_rfl)
instance ty63 : Ty Try.prog 63 (Go.TypeDesc.struct #[{ name := "most", type := 3, offset := 0, embedded := false, tag := "", pkgPath := "convoy/order", byteOffset := 0 }, { name := "at", type := 60, offset := 1, embedded := false, tag := "", pkgPath := "convoy/order", byteOffset := 8 }, { name := "oldest", type := 61, offset := 2, embedded := false, tag := "", pkgPath := "convoy/order", byteOffset := 16 }, { name := "newest", type := 61, offset := 3, embedded := false, tag := "", pkgPath := "convoy/order", byteOffset := 24 }]) (.agg #[.int .i64 0, .map none, .pointer none, .pointer none]) 4 32 := Ty.mk' Try.underlying63 (by kernel_rfl)
instance ty64 : Ty Try.prog 64 (Go.TypeDesc.func #[33] #[24] false) (.nilFunc) 1 8 := Ty.mk' Try.underlying64 (by kernel_rfl)
instance ty65 : Ty Try.prog 65 (Go.TypeDesc.struct #[{ name := "k", type := 33, offset := 0, embedded := false, tag := "", pkgPath := "convoy/order", byteOffset := 0 }, { name := "older", type := 61, offset := 2, embedded := false, tag := "", pkgPath := "convoy/order", byteOffset := 24 }, { name := "newer", type := 61, offset := 3, embedded := false, tag := "", pkgPath := "convoy/order", byteOffset := 32 }]) (.agg #[.int .u16 0, .string ByteArray.empty, .pointer none, .pointer none]) 4 40 := Ty.mk' Try.underlying65 (by kernel_rfl)
instance ty66 : Ty Try.prog 66 (Go.TypeDesc.struct #[{ name := "k", type := 33, offset := 0, embedded := false, tag := "", pkgPath := "convoy/order", byteOffset := 0 }, { name := "older", type := 61, offset := 2, embedded := false, tag := "", pkgPath := "convoy/order", byteOffset := 24 }, { name := "newer", type := 61, offset := 3, embedded := false, tag := "", pkgPath := "convoy/order", byteOffset := 32 }]) (.agg #[.int .u16 0, .string ByteArray.empty, .pointer none, .pointer none]) 4 40 := Ty.mk' Try.underlying66 (by kernel_rfl)
instance ty67 : Ty Try.prog 67 (Go.TypeDesc.func #[61] #[] false) (.nilFunc) 1 8 := Ty.mk' Try.underlying67 (by kernel_rfl)
instance ty68 : Ty Try.prog 68 (Go.TypeDesc.tuple #[30, 4]) (.tuple #[.agg #[.int .i64 0, .slice none 0 0], .bool false]) 1 0 := Ty.mk' Try.underlying68 (by kernel_rfl)
instance ty69 : Ty Try.prog 69 (Go.TypeDesc.func #[36] #[30, 4] false) (.nilFunc) 1 8 := Ty.mk' Try.underlying69 (by kernel_rfl)
instance ty70 : Ty Try.prog 70 (Go.TypeDesc.func #[] #[43] false) (.nilFunc) 1 8 := Ty.mk' Try.underlying70 (by kernel_rfl)
instance ty71 : Ty Try.prog 71 (Go.TypeDesc.tuple #[61, 4]) (.tuple #[.pointer none, .bool false]) 1 0 := Ty.mk' Try.underlying71 (by kernel_rfl)
instance ty72 : Ty Try.prog 72 (Go.TypeDesc.tuple #[30, 28, 3]) (.tuple #[.agg #[.int .i64 0, .slice none 0 0], .slice none 0 0, .int .i64 0]) 1 0 := Ty.mk' Try.underlying72 (by kernel_rfl)
instance ty73 : Ty Try.prog 73 (Go.TypeDesc.func #[3] #[30, 28, 3] false) (.nilFunc) 1 8 := Ty.mk' Try.underlying73 (by kernel_rfl)
instance ty74 : Ty Try.prog 74 (Go.TypeDesc.func #[43, 28] #[4] false) (.nilFunc) 1 8 := Ty.mk' Try.underlying74 (by kernel_rfl)
instance ty75 : Ty Try.prog 75 (Go.TypeDesc.func #[36] #[4] false) (.nilFunc) 1 8 := Ty.mk' Try.underlying75 (by kernel_rfl)
instance ty76 : Ty Try.prog 76 (Go.TypeDesc.func #[] #[9] false) (.nilFunc) 1 8 := Ty.mk' Try.underlying76 (by kernel_rfl)
instance ty77 : Ty Try.prog 77 (Go.TypeDesc.struct #[{ name := "_interface", type := 17, offset := 0, embedded := false, tag := "", pkgPath := "runtime", byteOffset := 0 }, { name := "concrete", type := 17, offset := 1, embedded := false, tag := "", pkgPath := "runtime", byteOffset := 8 }, { name := "asserted", type := 17, offset := 2, embedded := false, tag := "", pkgPath := "runtime", byteOffset := 16 }, { name := "missingMethod", type := 9, offset := 3, embedded := false, tag := "", pkgPath := "runtime", byteOffset := 24 }]) (.agg #[.pointer none, .pointer none, .pointer none, .string ByteArray.empty]) 4 40 := Ty.mk' Try.underlying77 (by kernel_rfl)
instance ty78 : Ty Try.prog 78 (Go.TypeDesc.struct #[{ name := "_interface", type := 17, offset := 0, embedded := false, tag := "", pkgPath := "runtime", byteOffset := 0 }, { name := "concrete", type := 17, offset := 1, embedded := false, tag := "", pkgPath := "runtime", byteOffset := 8 }, { name := "asserted", type := 17, offset := 2, embedded := false, tag := "", pkgPath := "runtime", byteOffset := 16 }, { name := "missingMethod", type := 9, offset := 3, embedded := false, tag := "", pkgPath := "runtime", byteOffset := 24 }]) (.agg #[.pointer none, .pointer none, .pointer none, .string ByteArray.empty]) 4 40 := Ty.mk' Try.underlying78 (by kernel_rfl)
instance ty79 : Ty Try.prog 79 (Go.TypeDesc.array 0 16) (.agg #[]) 0 0 := Ty.mk' Try.underlying79 (by kernel_rfl)
instance ty80 : Ty Try.prog 80 (Go.TypeDesc.struct #[{ name := "_", type := 79, offset := 0, embedded := false, tag := "", pkgPath := "runtime", byteOffset := 0 }]) (.agg #[]) 0 0 := Ty.mk' Try.underlying80 (by kernel_rfl)
instance ty81 : Ty Try.prog 81 (Go.TypeDesc.struct #[{ name := "_", type := 79, offset := 0, embedded := false, tag := "", pkgPath := "runtime", byteOffset := 0 }]) (.agg #[]) 0 0 := Ty.mk' Try.underlying81 (by kernel_rfl)
instance ty82 : Ty Try.prog 82 (Go.TypeDesc.int Go.IntKind.u32) (.int .u32 0) 1 4 := Ty.mk' Try.underlying82 (by kernel_rfl)
instance ty83 : Ty Try.prog 83 (Go.TypeDesc.int Go.IntKind.u8) (.int .u8 0) 1 1 := Ty.mk' Try.underlying83 (by kernel_rfl)
instance ty84 : Ty Try.prog 84 (Go.TypeDesc.int Go.IntKind.u8) (.int .u8 0) 1 1 := Ty.mk' Try.underlying84 (by kernel_rfl)
instance ty85 : Ty Try.prog 85 (Go.TypeDesc.func #[91, 91] #[4] false) (.nilFunc) 1 8 := Ty.mk' Try.underlying85 (by kernel_rfl)
instance ty86 : Ty Try.prog 86 (Go.TypeDesc.pointer 5) (.pointer none) 1 8 := Ty.mk' Try.underlying86 (by kernel_rfl)
instance ty87 : Ty Try.prog 87 (Go.TypeDesc.int Go.IntKind.i32) (.int .i32 0) 1 4 := Ty.mk' Try.underlying87 (by kernel_rfl)
instance ty88 : Ty Try.prog 88 (Go.TypeDesc.int Go.IntKind.i32) (.int .i32 0) 1 4 := Ty.mk' Try.underlying88 (by kernel_rfl)
instance ty89 : Ty Try.prog 89 (Go.TypeDesc.struct #[{ name := "Size_", type := 12, offset := 0, embedded := false, tag := "", pkgPath := "", byteOffset := 0 }, { name := "PtrBytes", type := 12, offset := 1, embedded := false, tag := "", pkgPath := "", byteOffset := 8 }, { name := "Hash", type := 82, offset := 2, embedded := false, tag := "", pkgPath := "", byteOffset := 16 }, { name := "TFlag", type := 83, offset := 3, embedded := false, tag := "", pkgPath := "", byteOffset := 20 }, { name := "Align_", type := 5, offset := 4, embedded := false, tag := "", pkgPath := "", byteOffset := 21 }, { name := "FieldAlign_", type := 5, offset := 5, embedded := false, tag := "", pkgPath := "", byteOffset := 22 }, { name := "Kind_", type := 84, offset := 6, embedded := false, tag := "", pkgPath := "", byteOffset := 23 }, { name := "Equal", type := 85, offset := 7, embedded := false, tag := "", pkgPath := "", byteOffset := 24 }, { name := "GCData", type := 86, offset := 8, embedded := false, tag := "", pkgPath := "", byteOffset := 32 }, { name := "Str", type := 87, offset := 9, embedded := false, tag := "", pkgPath := "", byteOffset := 40 }, { name := "PtrToThis", type := 88, offset := 10, embedded := false, tag := "", pkgPath := "", byteOffset := 44 }]) (.agg #[.int .u64 0, .int .u64 0, .int .u32 0, .int .u8 0, .int .u8 0, .int .u8 0, .int .u8 0, .nilFunc, .pointer none, .int .i32 0, .int .i32 0]) 11 48 := Ty.mk' Try.underlying89 (by kernel_rfl)
instance ty90 : Ty Try.prog 90 (Go.TypeDesc.struct #[{ name := "Size_", type := 12, offset := 0, embedded := false, tag := "", pkgPath := "", byteOffset := 0 }, { name := "PtrBytes", type := 12, offset := 1, embedded := false, tag := "", pkgPath := "", byteOffset := 8 }, { name := "Hash", type := 82, offset := 2, embedded := false, tag := "", pkgPath := "", byteOffset := 16 }, { name := "TFlag", type := 83, offset := 3, embedded := false, tag := "", pkgPath := "", byteOffset := 20 }, { name := "Align_", type := 5, offset := 4, embedded := false, tag := "", pkgPath := "", byteOffset := 21 }, { name := "FieldAlign_", type := 5, offset := 5, embedded := false, tag := "", pkgPath := "", byteOffset := 22 }, { name := "Kind_", type := 84, offset := 6, embedded := false, tag := "", pkgPath := "", byteOffset := 23 }, { name := "Equal", type := 85, offset := 7, embedded := false, tag := "", pkgPath := "", byteOffset := 24 }, { name := "GCData", type := 86, offset := 8, embedded := false, tag := "", pkgPath := "", byteOffset := 32 }, { name := "Str", type := 87, offset := 9, embedded := false, tag := "", pkgPath := "", byteOffset := 40 }, { name := "PtrToThis", type := 88, offset := 10, embedded := false, tag := "", pkgPath := "", byteOffset := 44 }]) (.agg #[.int .u64 0, .int .u64 0, .int .u32 0, .int .u8 0, .int .u8 0, .int .u8 0, .int .u8 0, .nilFunc, .pointer none, .int .i32 0, .int .i32 0]) 11 48 := Ty.mk' Try.underlying90 (by kernel_rfl)
instance ty91 : Ty Try.prog 91 Go.TypeDesc.unsafePointer (.pointer none) 1 8 := Ty.mk' Try.underlying91 (by kernel_rfl)
instance fl7_0 : Fld Try.prog 7 0 0 := ⟨_, _, _, _, _, _, Try.underlying7, rfl, rfl, ty2⟩
instance fl7_1 : Fld Try.prog 7 1 1 := ⟨_, _, _, _, _, _, Try.underlying7, rfl, rfl, ty3⟩
instance fl7_2 : Fld Try.prog 7 2 2 := ⟨_, _, _, _, _, _, Try.underlying7, rfl, rfl, ty4⟩
instance fl7_3 : Fld Try.prog 7 3 3 := ⟨_, _, _, _, _, _, Try.underlying7, rfl, rfl, ty6⟩
instance fl8_0 : Fld Try.prog 8 0 0 := ⟨_, _, _, _, _, _, Try.underlying8, rfl, rfl, ty2⟩
instance fl8_1 : Fld Try.prog 8 1 1 := ⟨_, _, _, _, _, _, Try.underlying8, rfl, rfl, ty3⟩
instance fl8_2 : Fld Try.prog 8 2 2 := ⟨_, _, _, _, _, _, Try.underlying8, rfl, rfl, ty4⟩
instance fl8_3 : Fld Try.prog 8 3 3 := ⟨_, _, _, _, _, _, Try.underlying8, rfl, rfl, ty6⟩
instance fl13_0 : Fld Try.prog 13 0 0 := ⟨_, _, _, _, _, _, Try.underlying13, rfl, rfl, ty9⟩
instance fl13_1 : Fld Try.prog 13 1 1 := ⟨_, _, _, _, _, _, Try.underlying13, rfl, rfl, ty12⟩
instance fl14_0 : Fld Try.prog 14 0 0 := ⟨_, _, _, _, _, _, Try.underlying14, rfl, rfl, ty9⟩
instance fl14_1 : Fld Try.prog 14 1 1 := ⟨_, _, _, _, _, _, Try.underlying14, rfl, rfl, ty12⟩
instance fl18_0 : Fld Try.prog 18 0 0 := ⟨_, _, _, _, _, _, Try.underlying18, rfl, rfl, ty17⟩
instance fl19_0 : Fld Try.prog 19 0 0 := ⟨_, _, _, _, _, _, Try.underlying19, rfl, rfl, ty17⟩
instance fl29_0 : Fld Try.prog 29 0 0 := ⟨_, _, _, _, _, _, Try.underlying29, rfl, rfl, ty3⟩
instance fl29_1 : Fld Try.prog 29 1 1 := ⟨_, _, _, _, _, _, Try.underlying29, rfl, rfl, ty28⟩
instance fl30_0 : Fld Try.prog 30 0 0 := ⟨_, _, _, _, _, _, Try.underlying30, rfl, rfl, ty3⟩
instance fl30_1 : Fld Try.prog 30 1 1 := ⟨_, _, _, _, _, _, Try.underlying30, rfl, rfl, ty28⟩
instance fl32_0 : Fld Try.prog 32 0 0 := ⟨_, _, _, _, _, _, Try.underlying32, rfl, rfl, ty31⟩
instance fl32_1 : Fld Try.prog 32 1 1 := ⟨_, _, _, _, _, _, Try.underlying32, rfl, rfl, ty9⟩
instance fl33_0 : Fld Try.prog 33 0 0 := ⟨_, _, _, _, _, _, Try.underlying33, rfl, rfl, ty31⟩
instance fl33_1 : Fld Try.prog 33 1 1 := ⟨_, _, _, _, _, _, Try.underlying33, rfl, rfl, ty9⟩
instance fl36_0 : Fld Try.prog 36 0 0 := ⟨_, _, _, _, _, _, Try.underlying36, rfl, rfl, ty31⟩
instance fl36_1 : Fld Try.prog 36 1 1 := ⟨_, _, _, _, _, _, Try.underlying36, rfl, rfl, ty9⟩
instance fl56_0 : Fld Try.prog 56 0 0 := ⟨_, _, _, _, _, _, Try.underlying56, rfl, rfl, ty3⟩
instance fl56_1 : Fld Try.prog 56 1 1 := ⟨_, _, _, _, _, _, Try.underlying56, rfl, rfl, ty3⟩
instance fl56_2 : Fld Try.prog 56 2 2 := ⟨_, _, _, _, _, _, Try.underlying56, rfl, rfl, ty33⟩
instance fl57_0 : Fld Try.prog 57 0 0 := ⟨_, _, _, _, _, _, Try.underlying57, rfl, rfl, ty3⟩
instance fl57_1 : Fld Try.prog 57 1 1 := ⟨_, _, _, _, _, _, Try.underlying57, rfl, rfl, ty3⟩
instance fl57_2 : Fld Try.prog 57 2 2 := ⟨_, _, _, _, _, _, Try.underlying57, rfl, rfl, ty33⟩
instance fl62_0 : Fld Try.prog 62 0 0 := ⟨_, _, _, _, _, _, Try.underlying62, rfl, rfl, ty3⟩
instance fl62_1 : Fld Try.prog 62 1 1 := ⟨_, _, _, _, _, _, Try.underlying62, rfl, rfl, ty60⟩
instance fl62_2 : Fld Try.prog 62 2 2 := ⟨_, _, _, _, _, _, Try.underlying62, rfl, rfl, ty61⟩
instance fl62_3 : Fld Try.prog 62 3 3 := ⟨_, _, _, _, _, _, Try.underlying62, rfl, rfl, ty61⟩
instance fl63_0 : Fld Try.prog 63 0 0 := ⟨_, _, _, _, _, _, Try.underlying63, rfl, rfl, ty3⟩
instance fl63_1 : Fld Try.prog 63 1 1 := ⟨_, _, _, _, _, _, Try.underlying63, rfl, rfl, ty60⟩
instance fl63_2 : Fld Try.prog 63 2 2 := ⟨_, _, _, _, _, _, Try.underlying63, rfl, rfl, ty61⟩
instance fl63_3 : Fld Try.prog 63 3 3 := ⟨_, _, _, _, _, _, Try.underlying63, rfl, rfl, ty61⟩
instance fl65_0 : Fld Try.prog 65 0 0 := ⟨_, _, _, _, _, _, Try.underlying65, rfl, rfl, ty33⟩
instance fl65_1 : Fld Try.prog 65 1 2 := ⟨_, _, _, _, _, _, Try.underlying65, rfl, rfl, ty61⟩
instance fl65_2 : Fld Try.prog 65 2 3 := ⟨_, _, _, _, _, _, Try.underlying65, rfl, rfl, ty61⟩
instance fl66_0 : Fld Try.prog 66 0 0 := ⟨_, _, _, _, _, _, Try.underlying66, rfl, rfl, ty33⟩
instance fl66_1 : Fld Try.prog 66 1 2 := ⟨_, _, _, _, _, _, Try.underlying66, rfl, rfl, ty61⟩
instance fl66_2 : Fld Try.prog 66 2 3 := ⟨_, _, _, _, _, _, Try.underlying66, rfl, rfl, ty61⟩
instance fl77_0 : Fld Try.prog 77 0 0 := ⟨_, _, _, _, _, _, Try.underlying77, rfl, rfl, ty17⟩
instance fl77_1 : Fld Try.prog 77 1 1 := ⟨_, _, _, _, _, _, Try.underlying77, rfl, rfl, ty17⟩
instance fl77_2 : Fld Try.prog 77 2 2 := ⟨_, _, _, _, _, _, Try.underlying77, rfl, rfl, ty17⟩
instance fl77_3 : Fld Try.prog 77 3 3 := ⟨_, _, _, _, _, _, Try.underlying77, rfl, rfl, ty9⟩
instance fl78_0 : Fld Try.prog 78 0 0 := ⟨_, _, _, _, _, _, Try.underlying78, rfl, rfl, ty17⟩
instance fl78_1 : Fld Try.prog 78 1 1 := ⟨_, _, _, _, _, _, Try.underlying78, rfl, rfl, ty17⟩
instance fl78_2 : Fld Try.prog 78 2 2 := ⟨_, _, _, _, _, _, Try.underlying78, rfl, rfl, ty17⟩
instance fl78_3 : Fld Try.prog 78 3 3 := ⟨_, _, _, _, _, _, Try.underlying78, rfl, rfl, ty9⟩
instance fl89_0 : Fld Try.prog 89 0 0 := ⟨_, _, _, _, _, _, Try.underlying89, rfl, rfl, ty12⟩
instance fl89_1 : Fld Try.prog 89 1 1 := ⟨_, _, _, _, _, _, Try.underlying89, rfl, rfl, ty12⟩
instance fl89_2 : Fld Try.prog 89 2 2 := ⟨_, _, _, _, _, _, Try.underlying89, rfl, rfl, ty82⟩
instance fl89_3 : Fld Try.prog 89 3 3 := ⟨_, _, _, _, _, _, Try.underlying89, rfl, rfl, ty83⟩
instance fl89_4 : Fld Try.prog 89 4 4 := ⟨_, _, _, _, _, _, Try.underlying89, rfl, rfl, ty5⟩
instance fl89_5 : Fld Try.prog 89 5 5 := ⟨_, _, _, _, _, _, Try.underlying89, rfl, rfl, ty5⟩
instance fl89_6 : Fld Try.prog 89 6 6 := ⟨_, _, _, _, _, _, Try.underlying89, rfl, rfl, ty84⟩
instance fl89_7 : Fld Try.prog 89 7 7 := ⟨_, _, _, _, _, _, Try.underlying89, rfl, rfl, ty85⟩
instance fl89_8 : Fld Try.prog 89 8 8 := ⟨_, _, _, _, _, _, Try.underlying89, rfl, rfl, ty86⟩
instance fl89_9 : Fld Try.prog 89 9 9 := ⟨_, _, _, _, _, _, Try.underlying89, rfl, rfl, ty87⟩
instance fl89_10 : Fld Try.prog 89 10 10 := ⟨_, _, _, _, _, _, Try.underlying89, rfl, rfl, ty88⟩
instance fl90_0 : Fld Try.prog 90 0 0 := ⟨_, _, _, _, _, _, Try.underlying90, rfl, rfl, ty12⟩
instance fl90_1 : Fld Try.prog 90 1 1 := ⟨_, _, _, _, _, _, Try.underlying90, rfl, rfl, ty12⟩
instance fl90_2 : Fld Try.prog 90 2 2 := ⟨_, _, _, _, _, _, Try.underlying90, rfl, rfl, ty82⟩
instance fl90_3 : Fld Try.prog 90 3 3 := ⟨_, _, _, _, _, _, Try.underlying90, rfl, rfl, ty83⟩
instance fl90_4 : Fld Try.prog 90 4 4 := ⟨_, _, _, _, _, _, Try.underlying90, rfl, rfl, ty5⟩
instance fl90_5 : Fld Try.prog 90 5 5 := ⟨_, _, _, _, _, _, Try.underlying90, rfl, rfl, ty5⟩
instance fl90_6 : Fld Try.prog 90 6 6 := ⟨_, _, _, _, _, _, Try.underlying90, rfl, rfl, ty84⟩
instance fl90_7 : Fld Try.prog 90 7 7 := ⟨_, _, _, _, _, _, Try.underlying90, rfl, rfl, ty85⟩
instance fl90_8 : Fld Try.prog 90 8 8 := ⟨_, _, _, _, _, _, Try.underlying90, rfl, rfl, ty86⟩
instance fl90_9 : Fld Try.prog 90 9 9 := ⟨_, _, _, _, _, _, Try.underlying90, rfl, rfl, ty87⟩
instance fl90_10 : Fld Try.prog 90 10 10 := ⟨_, _, _, _, _, _, Try.underlying90, rfl, rfl, ty88⟩
instance fn2 : FnOk Try.prog 2 := ⟨Try.f2, Try.func2, by kernel_rfl, by kernel_rfl⟩
instance fn3 : FnOk Try.prog 3 := ⟨Try.f3, Try.func3, by kernel_rfl, by kernel_rfl⟩
instance fn4 : FnOk Try.prog 4 := ⟨Try.f4, Try.func4, by kernel_rfl, by kernel_rfl⟩
instance fn5 : FnOk Try.prog 5 := ⟨Try.f5, Try.func5, by kernel_rfl, by kernel_rfl⟩
instance fn6 : FnOk Try.prog 6 := ⟨Try.f6, Try.func6, by kernel_rfl, by kernel_rfl⟩
instance fn7 : FnOk Try.prog 7 := ⟨Try.f7, Try.func7, by kernel_rfl, by kernel_rfl⟩
instance fn8 : FnOk Try.prog 8 := ⟨Try.f8, Try.func8, by kernel_rfl, by kernel_rfl⟩
instance fn9 : FnOk Try.prog 9 := ⟨Try.f9, Try.func9, by kernel_rfl, by kernel_rfl⟩
instance fn10 : FnOk Try.prog 10 := ⟨Try.f10, Try.func10, by kernel_rfl, by kernel_rfl⟩
instance fn11 : FnOk Try.prog 11 := ⟨Try.f11, Try.func11, by kernel_rfl, by kernel_rfl⟩
instance fn12 : FnOk Try.prog 12 := ⟨Try.f12, Try.func12, by kernel_rfl, by kernel_rfl⟩
instance fn13 : FnOk Try.prog 13 := ⟨Try.f13, Try.func13, by kernel_rfl, by kernel_rfl⟩
instance fn14 : FnOk Try.prog 14 := ⟨Try.f14, Try.func14, by kernel_rfl, by kernel_rfl⟩
instance fn15 : FnOk Try.prog 15 := ⟨Try.f15, Try.func15, by kernel_rfl, by kernel_rfl⟩
instance fn16 : FnOk Try.prog 16 := ⟨Try.f16, Try.func16, by kernel_rfl, by kernel_rfl⟩
instance fn17 : FnOk Try.prog 17 := ⟨Try.f17, Try.func17, by kernel_rfl, by kernel_rfl⟩
instance fn18 : FnOk Try.prog 18 := ⟨Try.f18, Try.func18, by kernel_rfl, by kernel_rfl⟩
instance fn19 : FnOk Try.prog 19 := ⟨Try.f19, Try.func19, by kernel_rfl, by kernel_rfl⟩
instance fn20 : FnOk Try.prog 20 := ⟨Try.f20, Try.func20, by kernel_rfl, by kernel_rfl⟩
instance fn21 : FnOk Try.prog 21 := ⟨Try.f21, Try.func21, by kernel_rfl, by kernel_rfl⟩
instance fn22 : FnOk Try.prog 22 := ⟨Try.f22, Try.func22, by kernel_rfl, by kernel_rfl⟩
instance fn23 : FnOk Try.prog 23 := ⟨Try.f23, Try.func23, by kernel_rfl, by kernel_rfl⟩
instance fn24 : FnOk Try.prog 24 := ⟨Try.f24, Try.func24, by kernel_rfl, by kernel_rfl⟩
instance fn25 : FnOk Try.prog 25 := ⟨Try.f25, Try.func25, by kernel_rfl, by kernel_rfl⟩
instance fn26 : FnOk Try.prog 26 := ⟨Try.f26, Try.func26, by kernel_rfl, by kernel_rfl⟩
instance fn27 : FnOk Try.prog 27 := ⟨Try.f27, Try.func27, by kernel_rfl, by kernel_rfl⟩
instance fn28 : FnOk Try.prog 28 := ⟨Try.f28, Try.func28, by kernel_rfl, by kernel_rfl⟩
instance fn29 : FnOk Try.prog 29 := ⟨Try.f29, Try.func29, by kernel_rfl, by kernel_rfl⟩
instance fn30 : FnOk Try.prog 30 := ⟨Try.f30, Try.func30, by kernel_rfl, by kernel_rfl⟩
instance fn31 : FnOk Try.prog 31 := ⟨Try.f31, Try.func31, by kernel_rfl, by kernel_rfl⟩
instance fn32 : FnOk Try.prog 32 := ⟨Try.f32, Try.func32, by kernel_rfl, by kernel_rfl⟩
end Go.Proofs.Ytjekbmejcakllaa
