/- DERIVED. The rows of the types and of the functions. -/
import Derived.Test.YtglmmljmieodaaaVo
import Derived.Test.YtglmmljmieodaaaProg
import Derived.KernelRfl
namespace Go.Proofs.Ytglmmljmieodaaa
open Go Sl
instance ty0 : Ty Try.prog 0 (Go.TypeDesc.tuple #[]) (.tuple #[]) 1 0 := Ty.mk' Try.underlying0 (by kernel_rfl)
instance ty1 : Ty Try.prog 1 (Go.TypeDesc.func #[] #[] false) (.nilFunc) 1 8 := Ty.mk' Try.underlying1 (by kernel_rfl)
instance ty2 : Ty Try.prog 2 (Go.TypeDesc.int Go.IntKind.i64) (.int .i64 0) 1 8 := Ty.mk' Try.underlying2 (by kernel_rfl)
instance ty3 : Ty Try.prog 3 (Go.TypeDesc.int Go.IntKind.i64) (.int .i64 0) 1 8 := Ty.mk' Try.underlying3 (by kernel_rfl)
instance ty4 : Ty Try.prog 4 Go.TypeDesc.bool (.bool false) 1 1 := Ty.mk' Try.underlying4 (by kernel_rfl)
instance ty5 : Ty Try.prog 5 (Go.TypeDesc.int Go.IntKind.u8) (.int .u8 0) 1 1 := Ty.mk' Try.underlying5 (by kernel_rfl)
instance ty6 : Ty Try.prog 6 (Go.TypeDesc.int Go.IntKind.u8) (.int .u8 0) 1 1 := Ty.mk' Try.underlying6 (by kernel_rfl)
instance ty7 : Ty Try.prog 7 (Go.TypeDesc.struct #[{ name := "x", type := 2, offset := 0, embedded := false, tag := "", pkgPath := "runtime", byteOffset := 0 }, { name := "y", type := 3, offset := 1, embedded := false, tag := "", pkgPath := "runtime", byteOffset := 8 }, { name := "signed", type := 4, offset := 2, embedded := false, tag := "", pkgPath := "runtime", byteOffset := 16 }, { name := "code", type := 6, offset := 3, embedded := false, tag := "", pkgPath := "runtime", byteOffset := 17 }]) (.agg #[.int .i64 0, .int .i64 0, .bool false, .int .u8 0]) 4 24 := Ty.mk' Try.underlying7 (by kernel_rfl)
instance ty8 : Ty Try.prog 8 (Go.TypeDesc.struct #[{ name := "x", type := 2, offset := 0, embedded := false, tag := "", pkgPath := "runtime", byteOffset := 0 }, { name := "y", type := 3, offset := 1, embedded := false, tag := "", pkgPath := "runtime", byteOffset := 8 }, { name := "signed", type := 4, offset := 2, embedded := false, tag := "", pkgPath := "runtime", byteOffset := 16 }, { name := "code", type := 6, offset := 3, embedded := false, tag := "", pkgPath := "runtime", byteOffset := 17 }]) (.agg #[.int .i64 0, .int .i64 0, .bool false, .int .u8 0]) 4 24 := Ty.mk' Try.underlying8 (by kernel_rfl)
instance ty9 : Ty Try.prog 9 Go.TypeDesc.string (.string ByteArray.empty) 1 16 := Ty.mk' Try.underlying9 (by kernel_rfl)
instance ty10 : Ty Try.prog 10 Go.TypeDesc.string (.string ByteArray.empty) 1 16 := Ty.mk' Try.underlying10 (by kernel_rfl)
instance ty11 : Ty Try.prog 11 Go.TypeDesc.string (.string ByteArray.empty) 1 16 := Ty.mk' Try.underlying11 (by kernel_rfl)
instance ty12 : Ty Try.prog 12 (Go.TypeDesc.int Go.IntKind.u64) (.int .u64 0) 1 8 := Ty.mk' Try.underlying12 (by kernel_rfl)
instance ty13 : Ty Try.prog 13 (Go.TypeDesc.struct #[{ name := "msg", type := 9, offset := 0, embedded := false, tag := "", pkgPath := "runtime", byteOffset := 0 }, { name := "addr", type := 12, offset := 1, embedded := false, tag := "", pkgPath := "runtime", byteOffset := 16 }]) (.agg #[.string ByteArray.empty, .int .u64 0]) 2 24 := Ty.mk' Try.underlying13 (by kernel_rfl)
instance ty14 : Ty Try.prog 14 (Go.TypeDesc.struct #[{ name := "msg", type := 9, offset := 0, embedded := false, tag := "", pkgPath := "runtime", byteOffset := 0 }, { name := "addr", type := 12, offset := 1, embedded := false, tag := "", pkgPath := "runtime", byteOffset := 16 }]) (.agg #[.string ByteArray.empty, .int .u64 0]) 2 24 := Ty.mk' Try.underlying14 (by kernel_rfl)
instance ty15 : Ty Try.prog 15 (Go.TypeDesc.pointer 216) (.pointer none) 1 8 := Ty.mk' Try.underlying15 (by kernel_rfl)
instance ty16 : Ty Try.prog 16 (Go.TypeDesc.pointer 219) (.pointer none) 1 8 := Ty.mk' Try.underlying16 (by kernel_rfl)
instance ty17 : Ty Try.prog 17 (Go.TypeDesc.pointer 227) (.pointer none) 1 8 := Ty.mk' Try.underlying17 (by kernel_rfl)
instance ty18 : Ty Try.prog 18 (Go.TypeDesc.struct #[{ name := "typ", type := 17, offset := 0, embedded := false, tag := "", pkgPath := "internal/runtime/maps", byteOffset := 0 }]) (.agg #[.pointer none]) 1 8 := Ty.mk' Try.underlying18 (by kernel_rfl)
instance ty19 : Ty Try.prog 19 (Go.TypeDesc.struct #[{ name := "typ", type := 17, offset := 0, embedded := false, tag := "", pkgPath := "internal/runtime/maps", byteOffset := 0 }]) (.agg #[.pointer none]) 1 8 := Ty.mk' Try.underlying19 (by kernel_rfl)
instance ty20 : Ty Try.prog 20 (Go.TypeDesc.interface #[]) (.nilIface) 1 16 := Ty.mk' Try.underlying20 (by kernel_rfl)
instance ty21 : Ty Try.prog 21 (Go.TypeDesc.int Go.IntKind.i32) (.int .i32 0) 1 4 := Ty.mk' Try.underlying21 (by kernel_rfl)
instance ty22 : Ty Try.prog 22 (Go.TypeDesc.int Go.IntKind.u64) (.int .u64 0) 1 8 := Ty.mk' Try.underlying22 (by kernel_rfl)
instance ty23 : Ty Try.prog 23 (Go.TypeDesc.tuple #[22, 3, 4]) (.tuple #[.int .u64 0, .int .i64 0, .bool false]) 1 0 := Ty.mk' Try.underlying23 (by kernel_rfl)
instance ty24 : Ty Try.prog 24 (Go.TypeDesc.func #[9, 3] #[22, 3, 4] false) (.nilFunc) 1 8 := Ty.mk' Try.underlying24 (by kernel_rfl)
instance ty25 : Ty Try.prog 25 (Go.TypeDesc.func #[] #[4] false) (.nilFunc) 1 8 := Ty.mk' Try.underlying25 (by kernel_rfl)
instance ty26 : Ty Try.prog 26 (Go.TypeDesc.func #[22] #[9] false) (.nilFunc) 1 8 := Ty.mk' Try.underlying26 (by kernel_rfl)
instance ty27 : Ty Try.prog 27 (Go.TypeDesc.func #[2] #[22] false) (.nilFunc) 1 8 := Ty.mk' Try.underlying27 (by kernel_rfl)
instance ty28 : Ty Try.prog 28 (Go.TypeDesc.func #[22] #[2] false) (.nilFunc) 1 8 := Ty.mk' Try.underlying28 (by kernel_rfl)
instance ty29 : Ty Try.prog 29 (Go.TypeDesc.func #[22, 9, 3] #[4] false) (.nilFunc) 1 8 := Ty.mk' Try.underlying29 (by kernel_rfl)
instance ty30 : Ty Try.prog 30 (Go.TypeDesc.struct #[{ name := "TTL", type := 2, offset := 0, embedded := false, tag := "", pkgPath := "", byteOffset := 0 }, { name := "Negative", type := 2, offset := 1, embedded := false, tag := "", pkgPath := "", byteOffset := 8 }, { name := "Stale", type := 2, offset := 2, embedded := false, tag := "", pkgPath := "", byteOffset := 16 }, { name := "Entries", type := 3, offset := 3, embedded := false, tag := "", pkgPath := "", byteOffset := 24 }, { name := "Flight", type := 3, offset := 4, embedded := false, tag := "", pkgPath := "", byteOffset := 32 }, { name := "Batch", type := 3, offset := 5, embedded := false, tag := "", pkgPath := "", byteOffset := 40 }, { name := "Window", type := 2, offset := 6, embedded := false, tag := "", pkgPath := "", byteOffset := 48 }]) (.agg #[.int .i64 0, .int .i64 0, .int .i64 0, .int .i64 0, .int .i64 0, .int .i64 0, .int .i64 0]) 7 56 := Ty.mk' Try.underlying30 (by kernel_rfl)
instance ty31 : Ty Try.prog 31 (Go.TypeDesc.struct #[{ name := "TTL", type := 2, offset := 0, embedded := false, tag := "", pkgPath := "", byteOffset := 0 }, { name := "Negative", type := 2, offset := 1, embedded := false, tag := "", pkgPath := "", byteOffset := 8 }, { name := "Stale", type := 2, offset := 2, embedded := false, tag := "", pkgPath := "", byteOffset := 16 }, { name := "Entries", type := 3, offset := 3, embedded := false, tag := "", pkgPath := "", byteOffset := 24 }, { name := "Flight", type := 3, offset := 4, embedded := false, tag := "", pkgPath := "", byteOffset := 32 }, { name := "Batch", type := 3, offset := 5, embedded := false, tag := "", pkgPath := "", byteOffset := 40 }, { name := "Window", type := 2, offset := 6, embedded := false, tag := "", pkgPath := "", byteOffset := 48 }]) (.agg #[.int .i64 0, .int .i64 0, .int .i64 0, .int .i64 0, .int .i64 0, .int .i64 0, .int .i64 0]) 7 56 := Ty.mk' Try.underlying31 (by kernel_rfl)
instance ty32 : Ty Try.prog 32 (Go.TypeDesc.slice 69) (.slice none 0 0) 1 24 := Ty.mk' Try.underlying32 (by kernel_rfl)
instance ty33 : Ty Try.prog 33 (Go.TypeDesc.struct #[{ name := "Config", type := 31, offset := 0, embedded := false, tag := "", pkgPath := "", byteOffset := 0 }, { name := "Now", type := 2, offset := 7, embedded := false, tag := "", pkgPath := "", byteOffset := 56 }, { name := "Kept", type := 32, offset := 8, embedded := false, tag := "", pkgPath := "", byteOffset := 64 }]) (.agg #[.int .i64 0, .int .i64 0, .int .i64 0, .int .i64 0, .int .i64 0, .int .i64 0, .int .i64 0, .int .i64 0, .slice none 0 0]) 9 88 := Ty.mk' Try.underlying33 (by kernel_rfl)
instance ty34 : Ty Try.prog 34 (Go.TypeDesc.struct #[{ name := "Config", type := 31, offset := 0, embedded := false, tag := "", pkgPath := "", byteOffset := 0 }, { name := "Now", type := 2, offset := 7, embedded := false, tag := "", pkgPath := "", byteOffset := 56 }, { name := "Kept", type := 32, offset := 8, embedded := false, tag := "", pkgPath := "", byteOffset := 64 }]) (.agg #[.int .i64 0, .int .i64 0, .int .i64 0, .int .i64 0, .int .i64 0, .int .i64 0, .int .i64 0, .int .i64 0, .slice none 0 0]) 9 88 := Ty.mk' Try.underlying34 (by kernel_rfl)
instance ty35 : Ty Try.prog 35 (Go.TypeDesc.pointer 128) (.pointer none) 1 8 := Ty.mk' Try.underlying35 (by kernel_rfl)
instance ty36 : Ty Try.prog 36 (Go.TypeDesc.struct #[{ name := "TTL", type := 2, offset := 0, embedded := false, tag := "", pkgPath := "", byteOffset := 0 }, { name := "Negative", type := 2, offset := 1, embedded := false, tag := "", pkgPath := "", byteOffset := 8 }, { name := "Stale", type := 2, offset := 2, embedded := false, tag := "", pkgPath := "", byteOffset := 16 }, { name := "Entries", type := 3, offset := 3, embedded := false, tag := "", pkgPath := "", byteOffset := 24 }, { name := "Flight", type := 3, offset := 4, embedded := false, tag := "", pkgPath := "", byteOffset := 32 }, { name := "Batch", type := 3, offset := 5, embedded := false, tag := "", pkgPath := "", byteOffset := 40 }, { name := "Window", type := 2, offset := 6, embedded := false, tag := "", pkgPath := "", byteOffset := 48 }]) (.agg #[.int .i64 0, .int .i64 0, .int .i64 0, .int .i64 0, .int .i64 0, .int .i64 0, .int .i64 0]) 7 56 := Ty.mk' Try.underlying36 (by kernel_rfl)
instance ty37 : Ty Try.prog 37 (Go.TypeDesc.slice 89) (.slice none 0 0) 1 24 := Ty.mk' Try.underlying37 (by kernel_rfl)
instance ty38 : Ty Try.prog 38 (Go.TypeDesc.struct #[{ name := "C", type := 36, offset := 0, embedded := false, tag := "", pkgPath := "", byteOffset := 0 }, { name := "Now", type := 2, offset := 7, embedded := false, tag := "", pkgPath := "", byteOffset := 56 }, { name := "L", type := 37, offset := 8, embedded := false, tag := "", pkgPath := "", byteOffset := 64 }]) (.agg #[.int .i64 0, .int .i64 0, .int .i64 0, .int .i64 0, .int .i64 0, .int .i64 0, .int .i64 0, .int .i64 0, .slice none 0 0]) 9 88 := Ty.mk' Try.underlying38 (by kernel_rfl)
instance ty39 : Ty Try.prog 39 (Go.TypeDesc.struct #[{ name := "C", type := 36, offset := 0, embedded := false, tag := "", pkgPath := "", byteOffset := 0 }, { name := "Now", type := 2, offset := 7, embedded := false, tag := "", pkgPath := "", byteOffset := 56 }, { name := "L", type := 37, offset := 8, embedded := false, tag := "", pkgPath := "", byteOffset := 64 }]) (.agg #[.int .i64 0, .int .i64 0, .int .i64 0, .int .i64 0, .int .i64 0, .int .i64 0, .int .i64 0, .int .i64 0, .slice none 0 0]) 9 88 := Ty.mk' Try.underlying39 (by kernel_rfl)
instance ty40 : Ty Try.prog 40 (Go.TypeDesc.tuple #[35, 39, 4]) (.tuple #[.pointer none, .agg #[.int .i64 0, .int .i64 0, .int .i64 0, .int .i64 0, .int .i64 0, .int .i64 0, .int .i64 0, .int .i64 0, .slice none 0 0], .bool false]) 1 0 := Ty.mk' Try.underlying40 (by kernel_rfl)
instance ty41 : Ty Try.prog 41 (Go.TypeDesc.func #[34] #[35, 39, 4] false) (.nilFunc) 1 8 := Ty.mk' Try.underlying41 (by kernel_rfl)
instance ty42 : Ty Try.prog 42 (Go.TypeDesc.int Go.IntKind.i64) (.int .i64 0) 1 8 := Ty.mk' Try.underlying42 (by kernel_rfl)
instance ty43 : Ty Try.prog 43 (Go.TypeDesc.tuple #[9, 42]) (.tuple #[.string ByteArray.empty, .int .i64 0]) 1 0 := Ty.mk' Try.underlying43 (by kernel_rfl)
instance ty44 : Ty Try.prog 44 (Go.TypeDesc.func #[35] #[9, 42] false) (.nilFunc) 1 8 := Ty.mk' Try.underlying44 (by kernel_rfl)
instance ty45 : Ty Try.prog 45 (Go.TypeDesc.func #[39] #[9] false) (.nilFunc) 1 8 := Ty.mk' Try.underlying45 (by kernel_rfl)
instance ty46 : Ty Try.prog 46 (Go.TypeDesc.tuple #[35, 3, 42]) (.tuple #[.pointer none, .int .i64 0, .int .i64 0]) 1 0 := Ty.mk' Try.underlying46 (by kernel_rfl)
instance ty47 : Ty Try.prog 47 (Go.TypeDesc.func #[9] #[35, 3, 42] false) (.nilFunc) 1 8 := Ty.mk' Try.underlying47 (by kernel_rfl)
instance ty48 : Ty Try.prog 48 (Go.TypeDesc.tuple #[39, 3, 3]) (.tuple #[.agg #[.int .i64 0, .int .i64 0, .int .i64 0, .int .i64 0, .int .i64 0, .int .i64 0, .int .i64 0, .int .i64 0, .slice none 0 0], .int .i64 0, .int .i64 0]) 1 0 := Ty.mk' Try.underlying48 (by kernel_rfl)
instance ty49 : Ty Try.prog 49 (Go.TypeDesc.func #[9] #[39, 3, 3] false) (.nilFunc) 1 8 := Ty.mk' Try.underlying49 (by kernel_rfl)
instance ty50 : Ty Try.prog 50 (Go.TypeDesc.func #[35, 39] #[4] false) (.nilFunc) 1 8 := Ty.mk' Try.underlying50 (by kernel_rfl)
instance ty51 : Ty Try.prog 51 (Go.TypeDesc.func #[34, 9] #[4] false) (.nilFunc) 1 8 := Ty.mk' Try.underlying51 (by kernel_rfl)
instance ty52 : Ty Try.prog 52 (Go.TypeDesc.tuple #[22, 4]) (.tuple #[.int .u64 0, .bool false]) 1 0 := Ty.mk' Try.underlying52 (by kernel_rfl)
instance ty53 : Ty Try.prog 53 (Go.TypeDesc.func #[9] #[22, 4] false) (.nilFunc) 1 8 := Ty.mk' Try.underlying53 (by kernel_rfl)
instance ty54 : Ty Try.prog 54 (Go.TypeDesc.func #[9, 3] #[22] false) (.nilFunc) 1 8 := Ty.mk' Try.underlying54 (by kernel_rfl)
instance ty55 : Ty Try.prog 55 (Go.TypeDesc.func #[9] #[22] false) (.nilFunc) 1 8 := Ty.mk' Try.underlying55 (by kernel_rfl)
instance ty56 : Ty Try.prog 56 (Go.TypeDesc.func #[35, 35] #[9, 42] false) (.nilFunc) 1 8 := Ty.mk' Try.underlying56 (by kernel_rfl)
instance ty57 : Ty Try.prog 57 (Go.TypeDesc.func #[35, 9] #[35, 3, 42] false) (.nilFunc) 1 8 := Ty.mk' Try.underlying57 (by kernel_rfl)
instance ty58 : Ty Try.prog 58 (Go.TypeDesc.func #[35, 35] #[4] false) (.nilFunc) 1 8 := Ty.mk' Try.underlying58 (by kernel_rfl)
instance ty59 : Ty Try.prog 59 (Go.TypeDesc.func #[9, 34, 34] #[4] false) (.nilFunc) 1 8 := Ty.mk' Try.underlying59 (by kernel_rfl)
instance ty60 : Ty Try.prog 60 (Go.TypeDesc.func #[] #[35] false) (.nilFunc) 1 8 := Ty.mk' Try.underlying60 (by kernel_rfl)
instance ty61 : Ty Try.prog 61 (Go.TypeDesc.int Go.IntKind.u16) (.int .u16 0) 1 2 := Ty.mk' Try.underlying61 (by kernel_rfl)
instance ty62 : Ty Try.prog 62 (Go.TypeDesc.struct #[{ name := "Space", type := 61, offset := 0, embedded := false, tag := "", pkgPath := "", byteOffset := 0 }, { name := "Name", type := 9, offset := 1, embedded := false, tag := "", pkgPath := "", byteOffset := 8 }]) (.agg #[.int .u16 0, .string ByteArray.empty]) 2 24 := Ty.mk' Try.underlying62 (by kernel_rfl)
instance ty63 : Ty Try.prog 63 (Go.TypeDesc.struct #[{ name := "Space", type := 61, offset := 0, embedded := false, tag := "", pkgPath := "", byteOffset := 0 }, { name := "Name", type := 9, offset := 1, embedded := false, tag := "", pkgPath := "", byteOffset := 8 }]) (.agg #[.int .u16 0, .string ByteArray.empty]) 2 24 := Ty.mk' Try.underlying63 (by kernel_rfl)
instance ty64 : Ty Try.prog 64 (Go.TypeDesc.struct #[{ name := "Kind", type := 3, offset := 0, embedded := false, tag := "", pkgPath := "", byteOffset := 0 }, { name := "Code", type := 3, offset := 1, embedded := false, tag := "", pkgPath := "", byteOffset := 8 }, { name := "Run", type := 3, offset := 2, embedded := false, tag := "", pkgPath := "", byteOffset := 16 }]) (.agg #[.int .i64 0, .int .i64 0, .int .i64 0]) 3 24 := Ty.mk' Try.underlying64 (by kernel_rfl)
instance ty65 : Ty Try.prog 65 (Go.TypeDesc.struct #[{ name := "Kind", type := 3, offset := 0, embedded := false, tag := "", pkgPath := "", byteOffset := 0 }, { name := "Code", type := 3, offset := 1, embedded := false, tag := "", pkgPath := "", byteOffset := 8 }, { name := "Run", type := 3, offset := 2, embedded := false, tag := "", pkgPath := "", byteOffset := 16 }]) (.agg #[.int .i64 0, .int .i64 0, .int .i64 0]) 3 24 := Ty.mk' Try.underlying65 (by kernel_rfl)
instance ty66 : Ty Try.prog 66 (Go.TypeDesc.struct #[{ name := "Value", type := 2, offset := 0, embedded := false, tag := "", pkgPath := "", byteOffset := 0 }, { name := "Fail", type := 65, offset := 1, embedded := false, tag := "", pkgPath := "", byteOffset := 8 }]) (.agg #[.int .i64 0, .int .i64 0, .int .i64 0, .int .i64 0]) 4 32 := Ty.mk' Try.underlying66 (by kernel_rfl)
instance ty67 : Ty Try.prog 67 (Go.TypeDesc.struct #[{ name := "Value", type := 2, offset := 0, embedded := false, tag := "", pkgPath := "", byteOffset := 0 }, { name := "Fail", type := 65, offset := 1, embedded := false, tag := "", pkgPath := "", byteOffset := 8 }]) (.agg #[.int .i64 0, .int .i64 0, .int .i64 0, .int .i64 0]) 4 32 := Ty.mk' Try.underlying67 (by kernel_rfl)
instance ty68 : Ty Try.prog 68 (Go.TypeDesc.struct #[{ name := "Key", type := 63, offset := 0, embedded := false, tag := "", pkgPath := "", byteOffset := 0 }, { name := "Outcome", type := 67, offset := 2, embedded := false, tag := "", pkgPath := "", byteOffset := 24 }, { name := "At", type := 2, offset := 6, embedded := false, tag := "", pkgPath := "", byteOffset := 56 }]) (.agg #[.int .u16 0, .string ByteArray.empty, .int .i64 0, .int .i64 0, .int .i64 0, .int .i64 0, .int .i64 0]) 7 64 := Ty.mk' Try.underlying68 (by kernel_rfl)
instance ty69 : Ty Try.prog 69 (Go.TypeDesc.struct #[{ name := "Key", type := 63, offset := 0, embedded := false, tag := "", pkgPath := "", byteOffset := 0 }, { name := "Outcome", type := 67, offset := 2, embedded := false, tag := "", pkgPath := "", byteOffset := 24 }, { name := "At", type := 2, offset := 6, embedded := false, tag := "", pkgPath := "", byteOffset := 56 }]) (.agg #[.int .u16 0, .string ByteArray.empty, .int .i64 0, .int .i64 0, .int .i64 0, .int .i64 0, .int .i64 0]) 7 64 := Ty.mk' Try.underlying69 (by kernel_rfl)
instance ty70 : Ty Try.prog 70 (Go.TypeDesc.slice 63) (.slice none 0 0) 1 24 := Ty.mk' Try.underlying70 (by kernel_rfl)
instance ty71 : Ty Try.prog 71 (Go.TypeDesc.tuple #[4, 70, 42]) (.tuple #[.bool false, .slice none 0 0, .int .i64 0]) 1 0 := Ty.mk' Try.underlying71 (by kernel_rfl)
instance ty72 : Ty Try.prog 72 (Go.TypeDesc.func #[2, 63, 67] #[4, 70, 42] false) (.nilFunc) 1 8 := Ty.mk' Try.underlying72 (by kernel_rfl)
instance ty73 : Ty Try.prog 73 (Go.TypeDesc.func #[] #[2] false) (.nilFunc) 1 8 := Ty.mk' Try.underlying73 (by kernel_rfl)
instance ty74 : Ty Try.prog 74 (Go.TypeDesc.func #[63] #[4] false) (.nilFunc) 1 8 := Ty.mk' Try.underlying74 (by kernel_rfl)
instance ty75 : Ty Try.prog 75 (Go.TypeDesc.func #[34, 32, 3] #[4] false) (.nilFunc) 1 8 := Ty.mk' Try.underlying75 (by kernel_rfl)
instance ty76 : Ty Try.prog 76 (Go.TypeDesc.slice 78) (.slice none 0 0) 1 24 := Ty.mk' Try.underlying76 (by kernel_rfl)
instance ty77 : Ty Try.prog 77 (Go.TypeDesc.struct #[{ name := "Kind", type := 3, offset := 0, embedded := false, tag := "", pkgPath := "", byteOffset := 0 }, { name := "Step", type := 2, offset := 1, embedded := false, tag := "", pkgPath := "", byteOffset := 8 }, { name := "Key", type := 63, offset := 2, embedded := false, tag := "", pkgPath := "", byteOffset := 16 }, { name := "Outcome", type := 67, offset := 4, embedded := false, tag := "", pkgPath := "", byteOffset := 40 }]) (.agg #[.int .i64 0, .int .i64 0, .int .u16 0, .string ByteArray.empty, .int .i64 0, .int .i64 0, .int .i64 0, .int .i64 0]) 8 72 := Ty.mk' Try.underlying77 (by kernel_rfl)
instance ty78 : Ty Try.prog 78 (Go.TypeDesc.struct #[{ name := "Kind", type := 3, offset := 0, embedded := false, tag := "", pkgPath := "", byteOffset := 0 }, { name := "Step", type := 2, offset := 1, embedded := false, tag := "", pkgPath := "", byteOffset := 8 }, { name := "Key", type := 63, offset := 2, embedded := false, tag := "", pkgPath := "", byteOffset := 16 }, { name := "Outcome", type := 67, offset := 4, embedded := false, tag := "", pkgPath := "", byteOffset := 40 }]) (.agg #[.int .i64 0, .int .i64 0, .int .u16 0, .string ByteArray.empty, .int .i64 0, .int .i64 0, .int .i64 0, .int .i64 0]) 8 72 := Ty.mk' Try.underlying78 (by kernel_rfl)
instance ty79 : Ty Try.prog 79 (Go.TypeDesc.func #[35, 2, 78] #[] false) (.nilFunc) 1 8 := Ty.mk' Try.underlying79 (by kernel_rfl)
instance ty80 : Ty Try.prog 80 (Go.TypeDesc.func #[34, 76] #[4] false) (.nilFunc) 1 8 := Ty.mk' Try.underlying80 (by kernel_rfl)
instance ty81 : Ty Try.prog 81 (Go.TypeDesc.slice 5) (.slice none 0 0) 1 24 := Ty.mk' Try.underlying81 (by kernel_rfl)
instance ty82 : Ty Try.prog 82 (Go.TypeDesc.int Go.IntKind.u64) (.int .u64 0) 1 8 := Ty.mk' Try.underlying82 (by kernel_rfl)
instance ty83 : Ty Try.prog 83 (Go.TypeDesc.func #[31, 2, 32] #[35, 3, 42] false) (.nilFunc) 1 8 := Ty.mk' Try.underlying83 (by kernel_rfl)
instance ty84 : Ty Try.prog 84 (Go.TypeDesc.struct #[{ name := "Space", type := 61, offset := 0, embedded := false, tag := "", pkgPath := "", byteOffset := 0 }, { name := "Name", type := 9, offset := 1, embedded := false, tag := "", pkgPath := "", byteOffset := 8 }]) (.agg #[.int .u16 0, .string ByteArray.empty]) 2 24 := Ty.mk' Try.underlying84 (by kernel_rfl)
instance ty85 : Ty Try.prog 85 (Go.TypeDesc.struct #[{ name := "Kind", type := 3, offset := 0, embedded := false, tag := "", pkgPath := "", byteOffset := 0 }, { name := "Code", type := 3, offset := 1, embedded := false, tag := "", pkgPath := "", byteOffset := 8 }, { name := "Run", type := 3, offset := 2, embedded := false, tag := "", pkgPath := "", byteOffset := 16 }]) (.agg #[.int .i64 0, .int .i64 0, .int .i64 0]) 3 24 := Ty.mk' Try.underlying85 (by kernel_rfl)
instance ty86 : Ty Try.prog 86 (Go.TypeDesc.struct #[{ name := "Value", type := 2, offset := 0, embedded := false, tag := "", pkgPath := "", byteOffset := 0 }, { name := "Fail", type := 85, offset := 1, embedded := false, tag := "", pkgPath := "", byteOffset := 8 }]) (.agg #[.int .i64 0, .int .i64 0, .int .i64 0, .int .i64 0]) 4 32 := Ty.mk' Try.underlying86 (by kernel_rfl)
instance ty87 : Ty Try.prog 87 (Go.TypeDesc.struct #[{ name := "Value", type := 2, offset := 0, embedded := false, tag := "", pkgPath := "", byteOffset := 0 }, { name := "Fail", type := 85, offset := 1, embedded := false, tag := "", pkgPath := "", byteOffset := 8 }]) (.agg #[.int .i64 0, .int .i64 0, .int .i64 0, .int .i64 0]) 4 32 := Ty.mk' Try.underlying87 (by kernel_rfl)
instance ty88 : Ty Try.prog 88 (Go.TypeDesc.struct #[{ name := "Key", type := 84, offset := 0, embedded := false, tag := "", pkgPath := "", byteOffset := 0 }, { name := "Outcome", type := 87, offset := 2, embedded := false, tag := "", pkgPath := "", byteOffset := 24 }, { name := "At", type := 2, offset := 6, embedded := false, tag := "", pkgPath := "", byteOffset := 56 }]) (.agg #[.int .u16 0, .string ByteArray.empty, .int .i64 0, .int .i64 0, .int .i64 0, .int .i64 0, .int .i64 0]) 7 64 := Ty.mk' Try.underlying88 (by kernel_rfl)
instance ty89 : Ty Try.prog 89 (Go.TypeDesc.struct #[{ name := "Key", type := 84, offset := 0, embedded := false, tag := "", pkgPath := "", byteOffset := 0 }, { name := "Outcome", type := 87, offset := 2, embedded := false, tag := "", pkgPath := "", byteOffset := 24 }, { name := "At", type := 2, offset := 6, embedded := false, tag := "", pkgPath := "", byteOffset := 56 }]) (.agg #[.int .u16 0, .string ByteArray.empty, .int .i64 0, .int .i64 0, .int .i64 0, .int .i64 0, .int .i64 0]) 7 64 := Ty.mk' Try.underlying89 (by kernel_rfl)
instance ty90 : Ty Try.prog 90 (Go.TypeDesc.func #[69] #[89] false) (.nilFunc) 1 8 := Ty.mk' Try.underlying90 (by kernel_rfl)
instance ty91 : Ty Try.prog 91 (Go.TypeDesc.func #[] #[31] false) (.nilFunc) 1 8 := Ty.mk' Try.underlying91 (by kernel_rfl)
instance ty92 : Ty Try.prog 92 (Go.TypeDesc.slice 2) (.slice none 0 0) 1 24 := Ty.mk' Try.underlying92 (by kernel_rfl)
instance ty93 : Ty Try.prog 93 (Go.TypeDesc.func #[9] #[9] false) (.nilFunc) 1 8 := Ty.mk' Try.underlying93 (by kernel_rfl)
instance ty94 : Ty Try.prog 94 (Go.TypeDesc.func #[32] #[9] false) (.nilFunc) 1 8 := Ty.mk' Try.underlying94 (by kernel_rfl)
instance ty95 : Ty Try.prog 95 (Go.TypeDesc.func #[] #[32] false) (.nilFunc) 1 8 := Ty.mk' Try.underlying95 (by kernel_rfl)
instance ty96 : Ty Try.prog 96 (Go.TypeDesc.func #[89] #[9] false) (.nilFunc) 1 8 := Ty.mk' Try.underlying96 (by kernel_rfl)
instance ty97 : Ty Try.prog 97 (Go.TypeDesc.pointer 99) (.pointer none) 1 8 := Ty.mk' Try.underlying97 (by kernel_rfl)
instance ty98 : Ty Try.prog 98 (Go.TypeDesc.struct #[{ name := "s", type := 9, offset := 0, embedded := false, tag := "", pkgPath := "convoy/snapshot", byteOffset := 0 }, { name := "at", type := 3, offset := 1, embedded := false, tag := "", pkgPath := "convoy/snapshot", byteOffset := 16 }, { name := "bad", type := 42, offset := 2, embedded := false, tag := "", pkgPath := "convoy/snapshot", byteOffset := 24 }]) (.agg #[.string ByteArray.empty, .int .i64 0, .int .i64 0]) 3 32 := Ty.mk' Try.underlying98 (by kernel_rfl)
instance ty99 : Ty Try.prog 99 (Go.TypeDesc.struct #[{ name := "s", type := 9, offset := 0, embedded := false, tag := "", pkgPath := "convoy/snapshot", byteOffset := 0 }, { name := "at", type := 3, offset := 1, embedded := false, tag := "", pkgPath := "convoy/snapshot", byteOffset := 16 }, { name := "bad", type := 42, offset := 2, embedded := false, tag := "", pkgPath := "convoy/snapshot", byteOffset := 24 }]) (.agg #[.string ByteArray.empty, .int .i64 0, .int .i64 0]) 3 32 := Ty.mk' Try.underlying99 (by kernel_rfl)
instance ty100 : Ty Try.prog 100 (Go.TypeDesc.func #[9] #[] false) (.nilFunc) 1 8 := Ty.mk' Try.underlying100 (by kernel_rfl)
instance ty101 : Ty Try.prog 101 (Go.TypeDesc.func #[22, 22] #[2] false) (.nilFunc) 1 8 := Ty.mk' Try.underlying101 (by kernel_rfl)
instance ty102 : Ty Try.prog 102 (Go.TypeDesc.func #[31, 2] #[32] false) (.nilFunc) 1 8 := Ty.mk' Try.underlying102 (by kernel_rfl)
instance ty103 : Ty Try.prog 103 (Go.TypeDesc.struct #[{ name := "S", type := 9, offset := 0, embedded := false, tag := "", pkgPath := "", byteOffset := 0 }, { name := "At", type := 3, offset := 1, embedded := false, tag := "", pkgPath := "", byteOffset := 16 }, { name := "Err", type := 3, offset := 2, embedded := false, tag := "", pkgPath := "", byteOffset := 24 }]) (.agg #[.string ByteArray.empty, .int .i64 0, .int .i64 0]) 3 32 := Ty.mk' Try.underlying103 (by kernel_rfl)
instance ty104 : Ty Try.prog 104 (Go.TypeDesc.struct #[{ name := "S", type := 9, offset := 0, embedded := false, tag := "", pkgPath := "", byteOffset := 0 }, { name := "At", type := 3, offset := 1, embedded := false, tag := "", pkgPath := "", byteOffset := 16 }, { name := "Err", type := 3, offset := 2, embedded := false, tag := "", pkgPath := "", byteOffset := 24 }]) (.agg #[.string ByteArray.empty, .int .i64 0, .int .i64 0]) 3 32 := Ty.mk' Try.underlying104 (by kernel_rfl)
instance ty105 : Ty Try.prog 105 (Go.TypeDesc.func #[104, 9] #[104] false) (.nilFunc) 1 8 := Ty.mk' Try.underlying105 (by kernel_rfl)
instance ty106 : Ty Try.prog 106 (Go.TypeDesc.tuple #[104, 22]) (.tuple #[.agg #[.string ByteArray.empty, .int .i64 0, .int .i64 0], .int .u64 0]) 1 0 := Ty.mk' Try.underlying106 (by kernel_rfl)
instance ty107 : Ty Try.prog 107 (Go.TypeDesc.func #[104, 22, 22] #[104, 22] false) (.nilFunc) 1 8 := Ty.mk' Try.underlying107 (by kernel_rfl)
instance ty108 : Ty Try.prog 108 (Go.TypeDesc.tuple #[104, 89]) (.tuple #[.agg #[.string ByteArray.empty, .int .i64 0, .int .i64 0], .agg #[.int .u16 0, .string ByteArray.empty, .int .i64 0, .int .i64 0, .int .i64 0, .int .i64 0, .int .i64 0]]) 1 0 := Ty.mk' Try.underlying108 (by kernel_rfl)
instance ty109 : Ty Try.prog 109 (Go.TypeDesc.func #[104, 36, 2, 110] #[104, 89] false) (.nilFunc) 1 8 := Ty.mk' Try.underlying109 (by kernel_rfl)
instance ty110 : Ty Try.prog 110 (Go.TypeDesc.slice 84) (.slice none 0 0) 1 24 := Ty.mk' Try.underlying110 (by kernel_rfl)
instance ty111 : Ty Try.prog 111 (Go.TypeDesc.func #[37] #[110] false) (.nilFunc) 1 8 := Ty.mk' Try.underlying111 (by kernel_rfl)
instance ty112 : Ty Try.prog 112 (Go.TypeDesc.func #[104] #[104] false) (.nilFunc) 1 8 := Ty.mk' Try.underlying112 (by kernel_rfl)
instance ty113 : Ty Try.prog 113 (Go.TypeDesc.func #[] #[3] false) (.nilFunc) 1 8 := Ty.mk' Try.underlying113 (by kernel_rfl)
instance ty114 : Ty Try.prog 114 (Go.TypeDesc.func #[9, 22] #[22] false) (.nilFunc) 1 8 := Ty.mk' Try.underlying114 (by kernel_rfl)
instance ty115 : Ty Try.prog 115 (Go.TypeDesc.func #[22, 3] #[22] false) (.nilFunc) 1 8 := Ty.mk' Try.underlying115 (by kernel_rfl)
instance ty116 : Ty Try.prog 116 (Go.TypeDesc.map 63 69) (.map none) 1 8 := Ty.mk' Try.underlying116 (by kernel_rfl)
instance ty117 : Ty Try.prog 117 (Go.TypeDesc.func #[32] #[116] false) (.nilFunc) 1 8 := Ty.mk' Try.underlying117 (by kernel_rfl)
instance ty118 : Ty Try.prog 118 (Go.TypeDesc.tuple #[69, 4]) (.tuple #[.agg #[.int .u16 0, .string ByteArray.empty, .int .i64 0, .int .i64 0, .int .i64 0, .int .i64 0, .int .i64 0], .bool false]) 1 0 := Ty.mk' Try.underlying118 (by kernel_rfl)
instance ty119 : Ty Try.prog 119 (Go.TypeDesc.func #[70] #[9] false) (.nilFunc) 1 8 := Ty.mk' Try.underlying119 (by kernel_rfl)
instance ty120 : Ty Try.prog 120 (Go.TypeDesc.func #[70] #[70] false) (.nilFunc) 1 8 := Ty.mk' Try.underlying120 (by kernel_rfl)
instance ty121 : Ty Try.prog 121 (Go.TypeDesc.map 63 4) (.map none) 1 8 := Ty.mk' Try.underlying121 (by kernel_rfl)
instance ty122 : Ty Try.prog 122 (Go.TypeDesc.struct #[{ name := "old", type := 9, offset := 0, embedded := false, tag := "", pkgPath := "convoy/snapshot", byteOffset := 0 }, { name := "sum", type := 9, offset := 1, embedded := false, tag := "", pkgPath := "convoy/snapshot", byteOffset := 16 }, { name := "now", type := 2, offset := 2, embedded := false, tag := "", pkgPath := "convoy/snapshot", byteOffset := 32 }, { name := "gone", type := 121, offset := 3, embedded := false, tag := "", pkgPath := "convoy/snapshot", byteOffset := 40 }, { name := "l", type := 32, offset := 4, embedded := false, tag := "", pkgPath := "convoy/snapshot", byteOffset := 48 }]) (.agg #[.string ByteArray.empty, .string ByteArray.empty, .int .i64 0, .map none, .slice none 0 0]) 5 72 := Ty.mk' Try.underlying122 (by kernel_rfl)
instance ty123 : Ty Try.prog 123 (Go.TypeDesc.struct #[{ name := "old", type := 9, offset := 0, embedded := false, tag := "", pkgPath := "convoy/snapshot", byteOffset := 0 }, { name := "sum", type := 9, offset := 1, embedded := false, tag := "", pkgPath := "convoy/snapshot", byteOffset := 16 }, { name := "now", type := 2, offset := 2, embedded := false, tag := "", pkgPath := "convoy/snapshot", byteOffset := 32 }, { name := "gone", type := 121, offset := 3, embedded := false, tag := "", pkgPath := "convoy/snapshot", byteOffset := 40 }, { name := "l", type := 32, offset := 4, embedded := false, tag := "", pkgPath := "convoy/snapshot", byteOffset := 48 }]) (.agg #[.string ByteArray.empty, .string ByteArray.empty, .int .i64 0, .map none, .slice none 0 0]) 5 72 := Ty.mk' Try.underlying123 (by kernel_rfl)
instance ty124 : Ty Try.prog 124 (Go.TypeDesc.func #[35] #[123] false) (.nilFunc) 1 8 := Ty.mk' Try.underlying124 (by kernel_rfl)
instance ty125 : Ty Try.prog 125 (Go.TypeDesc.func #[32] #[32] false) (.nilFunc) 1 8 := Ty.mk' Try.underlying125 (by kernel_rfl)
instance ty126 : Ty Try.prog 126 (Go.TypeDesc.pointer 167) (.pointer none) 1 8 := Ty.mk' Try.underlying126 (by kernel_rfl)
instance ty127 : Ty Try.prog 127 (Go.TypeDesc.struct #[{ name := "c", type := 31, offset := 0, embedded := false, tag := "", pkgPath := "convoy/memo", byteOffset := 0 }, { name := "kept", type := 116, offset := 7, embedded := false, tag := "", pkgPath := "convoy/memo", byteOffset := 56 }, { name := "o", type := 126, offset := 8, embedded := false, tag := "", pkgPath := "convoy/memo", byteOffset := 64 }, { name := "now", type := 2, offset := 9, embedded := false, tag := "", pkgPath := "convoy/memo", byteOffset := 72 }]) (.agg #[.int .i64 0, .int .i64 0, .int .i64 0, .int .i64 0, .int .i64 0, .int .i64 0, .int .i64 0, .map none, .pointer none, .int .i64 0]) 10 80 := Ty.mk' Try.underlying127 (by kernel_rfl)
instance ty128 : Ty Try.prog 128 (Go.TypeDesc.struct #[{ name := "c", type := 31, offset := 0, embedded := false, tag := "", pkgPath := "convoy/memo", byteOffset := 0 }, { name := "kept", type := 116, offset := 7, embedded := false, tag := "", pkgPath := "convoy/memo", byteOffset := 56 }, { name := "o", type := 126, offset := 8, embedded := false, tag := "", pkgPath := "convoy/memo", byteOffset := 64 }, { name := "now", type := 2, offset := 9, embedded := false, tag := "", pkgPath := "convoy/memo", byteOffset := 72 }]) (.agg #[.int .i64 0, .int .i64 0, .int .i64 0, .int .i64 0, .int .i64 0, .int .i64 0, .int .i64 0, .map none, .pointer none, .int .i64 0]) 10 80 := Ty.mk' Try.underlying128 (by kernel_rfl)
instance ty129 : Ty Try.prog 129 (Go.TypeDesc.func #[116] #[116] false) (.nilFunc) 1 8 := Ty.mk' Try.underlying129 (by kernel_rfl)
instance ty130 : Ty Try.prog 130 (Go.TypeDesc.func #[] #[126] false) (.nilFunc) 1 8 := Ty.mk' Try.underlying130 (by kernel_rfl)
instance ty131 : Ty Try.prog 131 (Go.TypeDesc.func #[2] #[42] false) (.nilFunc) 1 8 := Ty.mk' Try.underlying131 (by kernel_rfl)
instance ty132 : Ty Try.prog 132 (Go.TypeDesc.func #[63] #[42] false) (.nilFunc) 1 8 := Ty.mk' Try.underlying132 (by kernel_rfl)
instance ty133 : Ty Try.prog 133 (Go.TypeDesc.func #[67] #[4] false) (.nilFunc) 1 8 := Ty.mk' Try.underlying133 (by kernel_rfl)
instance ty134 : Ty Try.prog 134 (Go.TypeDesc.tuple #[63, 4, 42]) (.tuple #[.agg #[.int .u16 0, .string ByteArray.empty], .bool false, .int .i64 0]) 1 0 := Ty.mk' Try.underlying134 (by kernel_rfl)
instance ty135 : Ty Try.prog 135 (Go.TypeDesc.func #[63] #[63, 4, 42] false) (.nilFunc) 1 8 := Ty.mk' Try.underlying135 (by kernel_rfl)
instance ty136 : Ty Try.prog 136 (Go.TypeDesc.struct #[{ name := "How", type := 3, offset := 0, embedded := false, tag := "", pkgPath := "", byteOffset := 0 }, { name := "Age", type := 2, offset := 1, embedded := false, tag := "", pkgPath := "", byteOffset := 8 }, { name := "Outcome", type := 67, offset := 2, embedded := false, tag := "", pkgPath := "", byteOffset := 16 }]) (.agg #[.int .i64 0, .int .i64 0, .int .i64 0, .int .i64 0, .int .i64 0, .int .i64 0]) 6 48 := Ty.mk' Try.underlying136 (by kernel_rfl)
instance ty137 : Ty Try.prog 137 (Go.TypeDesc.struct #[{ name := "How", type := 3, offset := 0, embedded := false, tag := "", pkgPath := "", byteOffset := 0 }, { name := "Age", type := 2, offset := 1, embedded := false, tag := "", pkgPath := "", byteOffset := 8 }, { name := "Outcome", type := 67, offset := 2, embedded := false, tag := "", pkgPath := "", byteOffset := 16 }]) (.agg #[.int .i64 0, .int .i64 0, .int .i64 0, .int .i64 0, .int .i64 0, .int .i64 0]) 6 48 := Ty.mk' Try.underlying137 (by kernel_rfl)
instance ty138 : Ty Try.prog 138 (Go.TypeDesc.tuple #[137, 42]) (.tuple #[.agg #[.int .i64 0, .int .i64 0, .int .i64 0, .int .i64 0, .int .i64 0, .int .i64 0], .int .i64 0]) 1 0 := Ty.mk' Try.underlying138 (by kernel_rfl)
instance ty139 : Ty Try.prog 139 (Go.TypeDesc.func #[2, 63] #[137, 42] false) (.nilFunc) 1 8 := Ty.mk' Try.underlying139 (by kernel_rfl)
instance ty140 : Ty Try.prog 140 (Go.TypeDesc.tuple #[35, 42]) (.tuple #[.pointer none, .int .i64 0]) 1 0 := Ty.mk' Try.underlying140 (by kernel_rfl)
instance ty141 : Ty Try.prog 141 (Go.TypeDesc.func #[31] #[35, 42] false) (.nilFunc) 1 8 := Ty.mk' Try.underlying141 (by kernel_rfl)
instance ty142 : Ty Try.prog 142 (Go.TypeDesc.func #[2] #[4] false) (.nilFunc) 1 8 := Ty.mk' Try.underlying142 (by kernel_rfl)
instance ty143 : Ty Try.prog 143 (Go.TypeDesc.slice 9) (.slice none 0 0) 1 24 := Ty.mk' Try.underlying143 (by kernel_rfl)
instance ty144 : Ty Try.prog 144 (Go.TypeDesc.func #[69] #[9] false) (.nilFunc) 1 8 := Ty.mk' Try.underlying144 (by kernel_rfl)
instance ty145 : Ty Try.prog 145 (Go.TypeDesc.func #[143, 9] #[9] false) (.nilFunc) 1 8 := Ty.mk' Try.underlying145 (by kernel_rfl)
instance ty146 : Ty Try.prog 146 (Go.TypeDesc.func #[74] #[] false) (.nilFunc) 1 8 := Ty.mk' Try.underlying146 (by kernel_rfl)
instance ty147 : Ty Try.prog 147 (Go.TypeDesc.func #[] #[146] false) (.nilFunc) 1 8 := Ty.mk' Try.underlying147 (by kernel_rfl)
instance ty148 : Ty Try.prog 148 (Go.TypeDesc.func #[84] #[9] false) (.nilFunc) 1 8 := Ty.mk' Try.underlying148 (by kernel_rfl)
instance ty149 : Ty Try.prog 149 (Go.TypeDesc.func #[3] #[9] false) (.nilFunc) 1 8 := Ty.mk' Try.underlying149 (by kernel_rfl)
instance ty150 : Ty Try.prog 150 (Go.TypeDesc.func #[3] #[] false) (.nilFunc) 1 8 := Ty.mk' Try.underlying150 (by kernel_rfl)
instance ty151 : Ty Try.prog 151 (Go.TypeDesc.pointer 2) (.pointer none) 1 8 := Ty.mk' Try.underlying151 (by kernel_rfl)
instance ty152 : Ty Try.prog 152 (Go.TypeDesc.slice 151) (.slice none 0 0) 1 24 := Ty.mk' Try.underlying152 (by kernel_rfl)
instance ty153 : Ty Try.prog 153 (Go.TypeDesc.func #[] #[22] false) (.nilFunc) 1 8 := Ty.mk' Try.underlying153 (by kernel_rfl)
instance ty154 : Ty Try.prog 154 (Go.TypeDesc.func #[121] #[63] false) (.nilFunc) 1 8 := Ty.mk' Try.underlying154 (by kernel_rfl)
instance ty155 : Ty Try.prog 155 (Go.TypeDesc.func #[31] #[67] false) (.nilFunc) 1 8 := Ty.mk' Try.underlying155 (by kernel_rfl)
instance ty156 : Ty Try.prog 156 (Go.TypeDesc.tuple #[104, 84]) (.tuple #[.agg #[.string ByteArray.empty, .int .i64 0, .int .i64 0], .agg #[.int .u16 0, .string ByteArray.empty]]) 1 0 := Ty.mk' Try.underlying156 (by kernel_rfl)
instance ty157 : Ty Try.prog 157 (Go.TypeDesc.func #[104, 110] #[104, 84] false) (.nilFunc) 1 8 := Ty.mk' Try.underlying157 (by kernel_rfl)
instance ty158 : Ty Try.prog 158 (Go.TypeDesc.func #[22] #[22] false) (.nilFunc) 1 8 := Ty.mk' Try.underlying158 (by kernel_rfl)
instance ty159 : Ty Try.prog 159 (Go.TypeDesc.func #[63] #[9, 42] false) (.nilFunc) 1 8 := Ty.mk' Try.underlying159 (by kernel_rfl)
instance ty160 : Ty Try.prog 160 (Go.TypeDesc.func #[70, 161] #[] false) (.nilFunc) 1 8 := Ty.mk' Try.underlying160 (by kernel_rfl)
instance ty161 : Ty Try.prog 161 (Go.TypeDesc.func #[63, 63] #[3] false) (.nilFunc) 1 8 := Ty.mk' Try.underlying161 (by kernel_rfl)
instance ty162 : Ty Try.prog 162 (Go.TypeDesc.func #[31, 116] #[121] false) (.nilFunc) 1 8 := Ty.mk' Try.underlying162 (by kernel_rfl)
instance ty163 : Ty Try.prog 163 (Go.TypeDesc.func #[20] #[20] false) (.nilFunc) 1 8 := Ty.mk' Try.underlying163 (by kernel_rfl)
instance ty164 : Ty Try.prog 164 (Go.TypeDesc.map 63 165) (.map none) 1 8 := Ty.mk' Try.underlying164 (by kernel_rfl)
instance ty165 : Ty Try.prog 165 (Go.TypeDesc.pointer 170) (.pointer none) 1 8 := Ty.mk' Try.underlying165 (by kernel_rfl)
instance ty166 : Ty Try.prog 166 (Go.TypeDesc.struct #[{ name := "most", type := 3, offset := 0, embedded := false, tag := "", pkgPath := "convoy/order", byteOffset := 0 }, { name := "at", type := 164, offset := 1, embedded := false, tag := "", pkgPath := "convoy/order", byteOffset := 8 }, { name := "oldest", type := 165, offset := 2, embedded := false, tag := "", pkgPath := "convoy/order", byteOffset := 16 }, { name := "newest", type := 165, offset := 3, embedded := false, tag := "", pkgPath := "convoy/order", byteOffset := 24 }]) (.agg #[.int .i64 0, .map none, .pointer none, .pointer none]) 4 32 := Ty.mk' Try.underlying166 (by kernel_rfl)
instance ty167 : Ty Try.prog 167 (Go.TypeDesc.struct #[{ name := "most", type := 3, offset := 0, embedded := false, tag := "", pkgPath := "convoy/order", byteOffset := 0 }, { name := "at", type := 164, offset := 1, embedded := false, tag := "", pkgPath := "convoy/order", byteOffset := 8 }, { name := "oldest", type := 165, offset := 2, embedded := false, tag := "", pkgPath := "convoy/order", byteOffset := 16 }, { name := "newest", type := 165, offset := 3, embedded := false, tag := "", pkgPath := "convoy/order", byteOffset := 24 }]) (.agg #[.int .i64 0, .map none, .pointer none, .pointer none]) 4 32 := Ty.mk' Try.underlying167 (by kernel_rfl)
instance ty168 : Ty Try.prog 168 (Go.TypeDesc.func #[] #[70] false) (.nilFunc) 1 8 := Ty.mk' Try.underlying168 (by kernel_rfl)
instance ty169 : Ty Try.prog 169 (Go.TypeDesc.struct #[{ name := "k", type := 63, offset := 0, embedded := false, tag := "", pkgPath := "convoy/order", byteOffset := 0 }, { name := "older", type := 165, offset := 2, embedded := false, tag := "", pkgPath := "convoy/order", byteOffset := 24 }, { name := "newer", type := 165, offset := 3, embedded := false, tag := "", pkgPath := "convoy/order", byteOffset := 32 }]) (.agg #[.int .u16 0, .string ByteArray.empty, .pointer none, .pointer none]) 4 40 := Ty.mk' Try.underlying169 (by kernel_rfl)
instance ty170 : Ty Try.prog 170 (Go.TypeDesc.struct #[{ name := "k", type := 63, offset := 0, embedded := false, tag := "", pkgPath := "convoy/order", byteOffset := 0 }, { name := "older", type := 165, offset := 2, embedded := false, tag := "", pkgPath := "convoy/order", byteOffset := 24 }, { name := "newer", type := 165, offset := 3, embedded := false, tag := "", pkgPath := "convoy/order", byteOffset := 32 }]) (.agg #[.int .u16 0, .string ByteArray.empty, .pointer none, .pointer none]) 4 40 := Ty.mk' Try.underlying170 (by kernel_rfl)
instance ty171 : Ty Try.prog 171 (Go.TypeDesc.func #[165] #[] false) (.nilFunc) 1 8 := Ty.mk' Try.underlying171 (by kernel_rfl)
instance ty172 : Ty Try.prog 172 (Go.TypeDesc.func #[65] #[42] false) (.nilFunc) 1 8 := Ty.mk' Try.underlying172 (by kernel_rfl)
instance ty173 : Ty Try.prog 173 (Go.TypeDesc.tuple #[63, 4]) (.tuple #[.agg #[.int .u16 0, .string ByteArray.empty], .bool false]) 1 0 := Ty.mk' Try.underlying173 (by kernel_rfl)
instance ty174 : Ty Try.prog 174 (Go.TypeDesc.func #[] #[63, 4] false) (.nilFunc) 1 8 := Ty.mk' Try.underlying174 (by kernel_rfl)
instance ty175 : Ty Try.prog 175 (Go.TypeDesc.func #[31] #[42] false) (.nilFunc) 1 8 := Ty.mk' Try.underlying175 (by kernel_rfl)
instance ty176 : Ty Try.prog 176 (Go.TypeDesc.tuple #[126, 42]) (.tuple #[.pointer none, .int .i64 0]) 1 0 := Ty.mk' Try.underlying176 (by kernel_rfl)
instance ty177 : Ty Try.prog 177 (Go.TypeDesc.func #[3] #[126, 42] false) (.nilFunc) 1 8 := Ty.mk' Try.underlying177 (by kernel_rfl)
instance ty178 : Ty Try.prog 178 (Go.TypeDesc.array 8 5) (.agg #[.int .u8 0, .int .u8 0, .int .u8 0, .int .u8 0, .int .u8 0, .int .u8 0, .int .u8 0, .int .u8 0]) 8 8 := Ty.mk' Try.underlying178 (by kernel_rfl)
instance ty179 : Ty Try.prog 179 (Go.TypeDesc.pointer 181) (.pointer none) 1 8 := Ty.mk' Try.underlying179 (by kernel_rfl)
instance ty180 : Ty Try.prog 180 (Go.TypeDesc.struct #[{ name := "addr", type := 179, offset := 0, embedded := false, tag := "", pkgPath := "strings", byteOffset := 0 }, { name := "buf", type := 81, offset := 1, embedded := false, tag := "", pkgPath := "strings", byteOffset := 8 }]) (.agg #[.pointer none, .slice none 0 0]) 2 32 := Ty.mk' Try.underlying180 (by kernel_rfl)
instance ty181 : Ty Try.prog 181 (Go.TypeDesc.struct #[{ name := "addr", type := 179, offset := 0, embedded := false, tag := "", pkgPath := "strings", byteOffset := 0 }, { name := "buf", type := 81, offset := 1, embedded := false, tag := "", pkgPath := "strings", byteOffset := 8 }]) (.agg #[.pointer none, .slice none 0 0]) 2 32 := Ty.mk' Try.underlying181 (by kernel_rfl)
instance ty182 : Ty Try.prog 182 (Go.TypeDesc.interface #[("Error", 186)]) (.nilIface) 1 16 := Ty.mk' Try.underlying182 (by kernel_rfl)
instance ty183 : Ty Try.prog 183 (Go.TypeDesc.interface #[("Error", 186)]) (.nilIface) 1 16 := Ty.mk' Try.underlying183 (by kernel_rfl)
instance ty184 : Ty Try.prog 184 (Go.TypeDesc.tuple #[3, 183]) (.tuple #[.int .i64 0, .nilIface]) 1 0 := Ty.mk' Try.underlying184 (by kernel_rfl)
instance ty185 : Ty Try.prog 185 (Go.TypeDesc.func #[9] #[3, 183] false) (.nilFunc) 1 8 := Ty.mk' Try.underlying185 (by kernel_rfl)
instance ty186 : Ty Try.prog 186 (Go.TypeDesc.func #[] #[9] false) (.nilFunc) 1 8 := Ty.mk' Try.underlying186 (by kernel_rfl)
instance ty187 : Ty Try.prog 187 (Go.TypeDesc.tuple #[63, 3, 4]) (.tuple #[.agg #[.int .u16 0, .string ByteArray.empty], .int .i64 0, .bool false]) 1 0 := Ty.mk' Try.underlying187 (by kernel_rfl)
instance ty188 : Ty Try.prog 188 (Go.TypeDesc.func #[9, 3] #[63, 3, 4] false) (.nilFunc) 1 8 := Ty.mk' Try.underlying188 (by kernel_rfl)
instance ty189 : Ty Try.prog 189 (Go.TypeDesc.tuple #[84, 3, 4]) (.tuple #[.agg #[.int .u16 0, .string ByteArray.empty], .int .i64 0, .bool false]) 1 0 := Ty.mk' Try.underlying189 (by kernel_rfl)
instance ty190 : Ty Try.prog 190 (Go.TypeDesc.func #[9, 3] #[84, 3, 4] false) (.nilFunc) 1 8 := Ty.mk' Try.underlying190 (by kernel_rfl)
instance ty191 : Ty Try.prog 191 (Go.TypeDesc.func #[63] #[9] false) (.nilFunc) 1 8 := Ty.mk' Try.underlying191 (by kernel_rfl)
instance ty192 : Ty Try.prog 192 (Go.TypeDesc.func #[70, 3, 161] #[] false) (.nilFunc) 1 8 := Ty.mk' Try.underlying192 (by kernel_rfl)
instance ty193 : Ty Try.prog 193 (Go.TypeDesc.func #[201] #[3] true) (.nilFunc) 1 8 := Ty.mk' Try.underlying193 (by kernel_rfl)
instance ty194 : Ty Try.prog 194 (Go.TypeDesc.func #[61, 61] #[3] false) (.nilFunc) 1 8 := Ty.mk' Try.underlying194 (by kernel_rfl)
instance ty195 : Ty Try.prog 195 (Go.TypeDesc.func #[9, 9] #[3] false) (.nilFunc) 1 8 := Ty.mk' Try.underlying195 (by kernel_rfl)
instance ty196 : Ty Try.prog 196 (Go.TypeDesc.tuple #[165, 4]) (.tuple #[.pointer none, .bool false]) 1 0 := Ty.mk' Try.underlying196 (by kernel_rfl)
instance ty197 : Ty Try.prog 197 (Go.TypeDesc.func #[2, 69] #[137] false) (.nilFunc) 1 8 := Ty.mk' Try.underlying197 (by kernel_rfl)
instance ty198 : Ty Try.prog 198 (Go.TypeDesc.pointer 5) (.pointer none) 1 8 := Ty.mk' Try.underlying198 (by kernel_rfl)
instance ty199 : Ty Try.prog 199 (Go.TypeDesc.func #[70, 3, 3, 161] #[] false) (.nilFunc) 1 8 := Ty.mk' Try.underlying199 (by kernel_rfl)
instance ty200 : Ty Try.prog 200 (Go.TypeDesc.func #[70, 3, 3, 3, 161] #[] false) (.nilFunc) 1 8 := Ty.mk' Try.underlying200 (by kernel_rfl)
instance ty201 : Ty Try.prog 201 (Go.TypeDesc.slice 3) (.slice none 0 0) 1 24 := Ty.mk' Try.underlying201 (by kernel_rfl)
instance ty202 : Ty Try.prog 202 (Go.TypeDesc.func #[61] #[4] false) (.nilFunc) 1 8 := Ty.mk' Try.underlying202 (by kernel_rfl)
instance ty203 : Ty Try.prog 203 (Go.TypeDesc.tuple #[2, 42]) (.tuple #[.int .i64 0, .int .i64 0]) 1 0 := Ty.mk' Try.underlying203 (by kernel_rfl)
instance ty204 : Ty Try.prog 204 (Go.TypeDesc.func #[2, 2] #[2, 42] false) (.nilFunc) 1 8 := Ty.mk' Try.underlying204 (by kernel_rfl)
instance ty205 : Ty Try.prog 205 (Go.TypeDesc.tuple #[4, 42]) (.tuple #[.bool false, .int .i64 0]) 1 0 := Ty.mk' Try.underlying205 (by kernel_rfl)
instance ty206 : Ty Try.prog 206 (Go.TypeDesc.func #[2, 2, 92] #[4, 42] true) (.nilFunc) 1 8 := Ty.mk' Try.underlying206 (by kernel_rfl)
instance ty207 : Ty Try.prog 207 (Go.TypeDesc.func #[92] #[4] true) (.nilFunc) 1 8 := Ty.mk' Try.underlying207 (by kernel_rfl)
instance ty208 : Ty Try.prog 208 Go.TypeDesc.unsafePointer (.pointer none) 1 8 := Ty.mk' Try.underlying208 (by kernel_rfl)
instance ty209 : Ty Try.prog 209 (Go.TypeDesc.func #[208] #[208] false) (.nilFunc) 1 8 := Ty.mk' Try.underlying209 (by kernel_rfl)
instance ty210 : Ty Try.prog 210 (Go.TypeDesc.func #[3] #[81] false) (.nilFunc) 1 8 := Ty.mk' Try.underlying210 (by kernel_rfl)
instance ty211 : Ty Try.prog 211 (Go.TypeDesc.tuple #[22, 22, 42]) (.tuple #[.int .u64 0, .int .u64 0, .int .i64 0]) 1 0 := Ty.mk' Try.underlying211 (by kernel_rfl)
instance ty212 : Ty Try.prog 212 (Go.TypeDesc.func #[92] #[22, 22, 42] true) (.nilFunc) 1 8 := Ty.mk' Try.underlying212 (by kernel_rfl)
instance ty213 : Ty Try.prog 213 (Go.TypeDesc.tuple #[22, 22]) (.tuple #[.int .u64 0, .int .u64 0]) 1 0 := Ty.mk' Try.underlying213 (by kernel_rfl)
instance ty214 : Ty Try.prog 214 (Go.TypeDesc.func #[22, 22, 22] #[22, 22] false) (.nilFunc) 1 8 := Ty.mk' Try.underlying214 (by kernel_rfl)
instance ty215 : Ty Try.prog 215 (Go.TypeDesc.struct #[{ name := "_interface", type := 17, offset := 0, embedded := false, tag := "", pkgPath := "runtime", byteOffset := 0 }, { name := "concrete", type := 17, offset := 1, embedded := false, tag := "", pkgPath := "runtime", byteOffset := 8 }, { name := "asserted", type := 17, offset := 2, embedded := false, tag := "", pkgPath := "runtime", byteOffset := 16 }, { name := "missingMethod", type := 9, offset := 3, embedded := false, tag := "", pkgPath := "runtime", byteOffset := 24 }]) (.agg #[.pointer none, .pointer none, .pointer none, .string ByteArray.empty]) 4 40 := Ty.mk' Try.underlying215 (by kernel_rfl)
instance ty216 : Ty Try.prog 216 (Go.TypeDesc.struct #[{ name := "_interface", type := 17, offset := 0, embedded := false, tag := "", pkgPath := "runtime", byteOffset := 0 }, { name := "concrete", type := 17, offset := 1, embedded := false, tag := "", pkgPath := "runtime", byteOffset := 8 }, { name := "asserted", type := 17, offset := 2, embedded := false, tag := "", pkgPath := "runtime", byteOffset := 16 }, { name := "missingMethod", type := 9, offset := 3, embedded := false, tag := "", pkgPath := "runtime", byteOffset := 24 }]) (.agg #[.pointer none, .pointer none, .pointer none, .string ByteArray.empty]) 4 40 := Ty.mk' Try.underlying216 (by kernel_rfl)
instance ty217 : Ty Try.prog 217 (Go.TypeDesc.array 0 16) (.agg #[]) 0 0 := Ty.mk' Try.underlying217 (by kernel_rfl)
instance ty218 : Ty Try.prog 218 (Go.TypeDesc.struct #[{ name := "_", type := 217, offset := 0, embedded := false, tag := "", pkgPath := "runtime", byteOffset := 0 }]) (.agg #[]) 0 0 := Ty.mk' Try.underlying218 (by kernel_rfl)
instance ty219 : Ty Try.prog 219 (Go.TypeDesc.struct #[{ name := "_", type := 217, offset := 0, embedded := false, tag := "", pkgPath := "runtime", byteOffset := 0 }]) (.agg #[]) 0 0 := Ty.mk' Try.underlying219 (by kernel_rfl)
instance ty220 : Ty Try.prog 220 (Go.TypeDesc.int Go.IntKind.u32) (.int .u32 0) 1 4 := Ty.mk' Try.underlying220 (by kernel_rfl)
instance ty221 : Ty Try.prog 221 (Go.TypeDesc.int Go.IntKind.u8) (.int .u8 0) 1 1 := Ty.mk' Try.underlying221 (by kernel_rfl)
instance ty222 : Ty Try.prog 222 (Go.TypeDesc.int Go.IntKind.u8) (.int .u8 0) 1 1 := Ty.mk' Try.underlying222 (by kernel_rfl)
instance ty223 : Ty Try.prog 223 (Go.TypeDesc.func #[208, 208] #[4] false) (.nilFunc) 1 8 := Ty.mk' Try.underlying223 (by kernel_rfl)
instance ty224 : Ty Try.prog 224 (Go.TypeDesc.int Go.IntKind.i32) (.int .i32 0) 1 4 := Ty.mk' Try.underlying224 (by kernel_rfl)
instance ty225 : Ty Try.prog 225 (Go.TypeDesc.int Go.IntKind.i32) (.int .i32 0) 1 4 := Ty.mk' Try.underlying225 (by kernel_rfl)
instance ty226 : Ty Try.prog 226 (Go.TypeDesc.struct #[{ name := "Size_", type := 12, offset := 0, embedded := false, tag := "", pkgPath := "", byteOffset := 0 }, { name := "PtrBytes", type := 12, offset := 1, embedded := false, tag := "", pkgPath := "", byteOffset := 8 }, { name := "Hash", type := 220, offset := 2, embedded := false, tag := "", pkgPath := "", byteOffset := 16 }, { name := "TFlag", type := 221, offset := 3, embedded := false, tag := "", pkgPath := "", byteOffset := 20 }, { name := "Align_", type := 5, offset := 4, embedded := false, tag := "", pkgPath := "", byteOffset := 21 }, { name := "FieldAlign_", type := 5, offset := 5, embedded := false, tag := "", pkgPath := "", byteOffset := 22 }, { name := "Kind_", type := 222, offset := 6, embedded := false, tag := "", pkgPath := "", byteOffset := 23 }, { name := "Equal", type := 223, offset := 7, embedded := false, tag := "", pkgPath := "", byteOffset := 24 }, { name := "GCData", type := 198, offset := 8, embedded := false, tag := "", pkgPath := "", byteOffset := 32 }, { name := "Str", type := 224, offset := 9, embedded := false, tag := "", pkgPath := "", byteOffset := 40 }, { name := "PtrToThis", type := 225, offset := 10, embedded := false, tag := "", pkgPath := "", byteOffset := 44 }]) (.agg #[.int .u64 0, .int .u64 0, .int .u32 0, .int .u8 0, .int .u8 0, .int .u8 0, .int .u8 0, .nilFunc, .pointer none, .int .i32 0, .int .i32 0]) 11 48 := Ty.mk' Try.underlying226 (by kernel_rfl)
instance ty227 : Ty Try.prog 227 (Go.TypeDesc.struct #[{ name := "Size_", type := 12, offset := 0, embedded := false, tag := "", pkgPath := "", byteOffset := 0 }, { name := "PtrBytes", type := 12, offset := 1, embedded := false, tag := "", pkgPath := "", byteOffset := 8 }, { name := "Hash", type := 220, offset := 2, embedded := false, tag := "", pkgPath := "", byteOffset := 16 }, { name := "TFlag", type := 221, offset := 3, embedded := false, tag := "", pkgPath := "", byteOffset := 20 }, { name := "Align_", type := 5, offset := 4, embedded := false, tag := "", pkgPath := "", byteOffset := 21 }, { name := "FieldAlign_", type := 5, offset := 5, embedded := false, tag := "", pkgPath := "", byteOffset := 22 }, { name := "Kind_", type := 222, offset := 6, embedded := false, tag := "", pkgPath := "", byteOffset := 23 }, { name := "Equal", type := 223, offset := 7, embedded := false, tag := "", pkgPath := "", byteOffset := 24 }, { name := "GCData", type := 198, offset := 8, embedded := false, tag := "", pkgPath := "", byteOffset := 32 }, { name := "Str", type := 224, offset := 9, embedded := false, tag := "", pkgPath := "", byteOffset := 40 }, { name := "PtrToThis", type := 225, offset := 10, embedded := false, tag := "", pkgPath := "", byteOffset := 44 }]) (.agg #[.int .u64 0, .int .u64 0, .int .u32 0, .int .u8 0, .int .u8 0, .int .u8 0, .int .u8 0, .nilFunc, .pointer none, .int .i32 0, .int .i32 0]) 11 48 := Ty.mk' Try.underlying227 (by kernel_rfl)
instance fl7_0 : Fld Try.prog 7 0 0 := ⟨_, _, _, _, _, _, Try.underlying7, rfl, rfl, ty2⟩
instance fl7_1 : Fld Try.prog 7 1 1 := ⟨_, _, _, _, _, _, Try.underlying7, rfl, rfl, ty3⟩
instance fl7_2 : Fld Try.prog 7 2 2 := ⟨_, _, _, _, _, _, Try.underlying7, rfl, rfl, ty4⟩
instance fl7_3 : Fld Try.prog 7 3 3 := ⟨_, _, _, _, _, _, Try.underlying7, rfl, rfl, ty6⟩
instance fl8_0 : Fld Try.prog 8 0 0 := ⟨_, _, _, _, _, _, Try.underlying8, rfl, rfl, ty2⟩
instance fl8_1 : Fld Try.prog 8 1 1 := ⟨_, _, _, _, _, _, Try.underlying8, rfl, rfl, ty3⟩
instance fl8_2 : Fld Try.prog 8 2 2 := ⟨_, _, _, _, _, _, Try.underlying8, rfl, rfl, ty4⟩
instance fl8_3 : Fld Try.prog 8 3 3 := ⟨_, _, _, _, _, _, Try.underlying8, rfl, rfl, ty6⟩
instance fl13_0 : Fld Try.prog 13 0 0 := ⟨_, _, _, _, _, _, Try.underlying13, rfl, rfl, ty9⟩
instance fl13_1 : Fld Try.prog 13 1 1 := ⟨_, _, _, _, _, _, Try.underlying13, rfl, rfl, ty12⟩
instance fl14_0 : Fld Try.prog 14 0 0 := ⟨_, _, _, _, _, _, Try.underlying14, rfl, rfl, ty9⟩
instance fl14_1 : Fld Try.prog 14 1 1 := ⟨_, _, _, _, _, _, Try.underlying14, rfl, rfl, ty12⟩
instance fl18_0 : Fld Try.prog 18 0 0 := ⟨_, _, _, _, _, _, Try.underlying18, rfl, rfl, ty17⟩
instance fl19_0 : Fld Try.prog 19 0 0 := ⟨_, _, _, _, _, _, Try.underlying19, rfl, rfl, ty17⟩
instance fl30_0 : Fld Try.prog 30 0 0 := ⟨_, _, _, _, _, _, Try.underlying30, rfl, rfl, ty2⟩
instance fl30_1 : Fld Try.prog 30 1 1 := ⟨_, _, _, _, _, _, Try.underlying30, rfl, rfl, ty2⟩
instance fl30_2 : Fld Try.prog 30 2 2 := ⟨_, _, _, _, _, _, Try.underlying30, rfl, rfl, ty2⟩
instance fl30_3 : Fld Try.prog 30 3 3 := ⟨_, _, _, _, _, _, Try.underlying30, rfl, rfl, ty3⟩
instance fl30_4 : Fld Try.prog 30 4 4 := ⟨_, _, _, _, _, _, Try.underlying30, rfl, rfl, ty3⟩
instance fl30_5 : Fld Try.prog 30 5 5 := ⟨_, _, _, _, _, _, Try.underlying30, rfl, rfl, ty3⟩
instance fl30_6 : Fld Try.prog 30 6 6 := ⟨_, _, _, _, _, _, Try.underlying30, rfl, rfl, ty2⟩
instance fl31_0 : Fld Try.prog 31 0 0 := ⟨_, _, _, _, _, _, Try.underlying31, rfl, rfl, ty2⟩
instance fl31_1 : Fld Try.prog 31 1 1 := ⟨_, _, _, _, _, _, Try.underlying31, rfl, rfl, ty2⟩
instance fl31_2 : Fld Try.prog 31 2 2 := ⟨_, _, _, _, _, _, Try.underlying31, rfl, rfl, ty2⟩
instance fl31_3 : Fld Try.prog 31 3 3 := ⟨_, _, _, _, _, _, Try.underlying31, rfl, rfl, ty3⟩
instance fl31_4 : Fld Try.prog 31 4 4 := ⟨_, _, _, _, _, _, Try.underlying31, rfl, rfl, ty3⟩
instance fl31_5 : Fld Try.prog 31 5 5 := ⟨_, _, _, _, _, _, Try.underlying31, rfl, rfl, ty3⟩
instance fl31_6 : Fld Try.prog 31 6 6 := ⟨_, _, _, _, _, _, Try.underlying31, rfl, rfl, ty2⟩
instance fl33_0 : Fld Try.prog 33 0 0 := ⟨_, _, _, _, _, _, Try.underlying33, rfl, rfl, ty31⟩
instance fl33_1 : Fld Try.prog 33 1 7 := ⟨_, _, _, _, _, _, Try.underlying33, rfl, rfl, ty2⟩
instance fl33_2 : Fld Try.prog 33 2 8 := ⟨_, _, _, _, _, _, Try.underlying33, rfl, rfl, ty32⟩
instance fl34_0 : Fld Try.prog 34 0 0 := ⟨_, _, _, _, _, _, Try.underlying34, rfl, rfl, ty31⟩
instance fl34_1 : Fld Try.prog 34 1 7 := ⟨_, _, _, _, _, _, Try.underlying34, rfl, rfl, ty2⟩
instance fl34_2 : Fld Try.prog 34 2 8 := ⟨_, _, _, _, _, _, Try.underlying34, rfl, rfl, ty32⟩
instance fl36_0 : Fld Try.prog 36 0 0 := ⟨_, _, _, _, _, _, Try.underlying36, rfl, rfl, ty2⟩
instance fl36_1 : Fld Try.prog 36 1 1 := ⟨_, _, _, _, _, _, Try.underlying36, rfl, rfl, ty2⟩
instance fl36_2 : Fld Try.prog 36 2 2 := ⟨_, _, _, _, _, _, Try.underlying36, rfl, rfl, ty2⟩
instance fl36_3 : Fld Try.prog 36 3 3 := ⟨_, _, _, _, _, _, Try.underlying36, rfl, rfl, ty3⟩
instance fl36_4 : Fld Try.prog 36 4 4 := ⟨_, _, _, _, _, _, Try.underlying36, rfl, rfl, ty3⟩
instance fl36_5 : Fld Try.prog 36 5 5 := ⟨_, _, _, _, _, _, Try.underlying36, rfl, rfl, ty3⟩
instance fl36_6 : Fld Try.prog 36 6 6 := ⟨_, _, _, _, _, _, Try.underlying36, rfl, rfl, ty2⟩
instance fl38_0 : Fld Try.prog 38 0 0 := ⟨_, _, _, _, _, _, Try.underlying38, rfl, rfl, ty36⟩
instance fl38_1 : Fld Try.prog 38 1 7 := ⟨_, _, _, _, _, _, Try.underlying38, rfl, rfl, ty2⟩
instance fl38_2 : Fld Try.prog 38 2 8 := ⟨_, _, _, _, _, _, Try.underlying38, rfl, rfl, ty37⟩
instance fl39_0 : Fld Try.prog 39 0 0 := ⟨_, _, _, _, _, _, Try.underlying39, rfl, rfl, ty36⟩
instance fl39_1 : Fld Try.prog 39 1 7 := ⟨_, _, _, _, _, _, Try.underlying39, rfl, rfl, ty2⟩
instance fl39_2 : Fld Try.prog 39 2 8 := ⟨_, _, _, _, _, _, Try.underlying39, rfl, rfl, ty37⟩
instance fl62_0 : Fld Try.prog 62 0 0 := ⟨_, _, _, _, _, _, Try.underlying62, rfl, rfl, ty61⟩
instance fl62_1 : Fld Try.prog 62 1 1 := ⟨_, _, _, _, _, _, Try.underlying62, rfl, rfl, ty9⟩
instance fl63_0 : Fld Try.prog 63 0 0 := ⟨_, _, _, _, _, _, Try.underlying63, rfl, rfl, ty61⟩
instance fl63_1 : Fld Try.prog 63 1 1 := ⟨_, _, _, _, _, _, Try.underlying63, rfl, rfl, ty9⟩
instance fl64_0 : Fld Try.prog 64 0 0 := ⟨_, _, _, _, _, _, Try.underlying64, rfl, rfl, ty3⟩
instance fl64_1 : Fld Try.prog 64 1 1 := ⟨_, _, _, _, _, _, Try.underlying64, rfl, rfl, ty3⟩
instance fl64_2 : Fld Try.prog 64 2 2 := ⟨_, _, _, _, _, _, Try.underlying64, rfl, rfl, ty3⟩
instance fl65_0 : Fld Try.prog 65 0 0 := ⟨_, _, _, _, _, _, Try.underlying65, rfl, rfl, ty3⟩
instance fl65_1 : Fld Try.prog 65 1 1 := ⟨_, _, _, _, _, _, Try.underlying65, rfl, rfl, ty3⟩
instance fl65_2 : Fld Try.prog 65 2 2 := ⟨_, _, _, _, _, _, Try.underlying65, rfl, rfl, ty3⟩
instance fl66_0 : Fld Try.prog 66 0 0 := ⟨_, _, _, _, _, _, Try.underlying66, rfl, rfl, ty2⟩
instance fl66_1 : Fld Try.prog 66 1 1 := ⟨_, _, _, _, _, _, Try.underlying66, rfl, rfl, ty65⟩
instance fl67_0 : Fld Try.prog 67 0 0 := ⟨_, _, _, _, _, _, Try.underlying67, rfl, rfl, ty2⟩
instance fl67_1 : Fld Try.prog 67 1 1 := ⟨_, _, _, _, _, _, Try.underlying67, rfl, rfl, ty65⟩
instance fl68_0 : Fld Try.prog 68 0 0 := ⟨_, _, _, _, _, _, Try.underlying68, rfl, rfl, ty63⟩
instance fl68_1 : Fld Try.prog 68 1 2 := ⟨_, _, _, _, _, _, Try.underlying68, rfl, rfl, ty67⟩
instance fl68_2 : Fld Try.prog 68 2 6 := ⟨_, _, _, _, _, _, Try.underlying68, rfl, rfl, ty2⟩
instance fl69_0 : Fld Try.prog 69 0 0 := ⟨_, _, _, _, _, _, Try.underlying69, rfl, rfl, ty63⟩
instance fl69_1 : Fld Try.prog 69 1 2 := ⟨_, _, _, _, _, _, Try.underlying69, rfl, rfl, ty67⟩
instance fl69_2 : Fld Try.prog 69 2 6 := ⟨_, _, _, _, _, _, Try.underlying69, rfl, rfl, ty2⟩
instance fl77_0 : Fld Try.prog 77 0 0 := ⟨_, _, _, _, _, _, Try.underlying77, rfl, rfl, ty3⟩
instance fl77_1 : Fld Try.prog 77 1 1 := ⟨_, _, _, _, _, _, Try.underlying77, rfl, rfl, ty2⟩
instance fl77_2 : Fld Try.prog 77 2 2 := ⟨_, _, _, _, _, _, Try.underlying77, rfl, rfl, ty63⟩
instance fl77_3 : Fld Try.prog 77 3 4 := ⟨_, _, _, _, _, _, Try.underlying77, rfl, rfl, ty67⟩
instance fl78_0 : Fld Try.prog 78 0 0 := ⟨_, _, _, _, _, _, Try.underlying78, rfl, rfl, ty3⟩
instance fl78_1 : Fld Try.prog 78 1 1 := ⟨_, _, _, _, _, _, Try.underlying78, rfl, rfl, ty2⟩
instance fl78_2 : Fld Try.prog 78 2 2 := ⟨_, _, _, _, _, _, Try.underlying78, rfl, rfl, ty63⟩
instance fl78_3 : Fld Try.prog 78 3 4 := ⟨_, _, _, _, _, _, Try.underlying78, rfl, rfl, ty67⟩
instance fl84_0 : Fld Try.prog 84 0 0 := ⟨_, _, _, _, _, _, Try.underlying84, rfl, rfl, ty61⟩
instance fl84_1 : Fld Try.prog 84 1 1 := ⟨_, _, _, _, _, _, Try.underlying84, rfl, rfl, ty9⟩
instance fl85_0 : Fld Try.prog 85 0 0 := ⟨_, _, _, _, _, _, Try.underlying85, rfl, rfl, ty3⟩
instance fl85_1 : Fld Try.prog 85 1 1 := ⟨_, _, _, _, _, _, Try.underlying85, rfl, rfl, ty3⟩
instance fl85_2 : Fld Try.prog 85 2 2 := ⟨_, _, _, _, _, _, Try.underlying85, rfl, rfl, ty3⟩
instance fl86_0 : Fld Try.prog 86 0 0 := ⟨_, _, _, _, _, _, Try.underlying86, rfl, rfl, ty2⟩
instance fl86_1 : Fld Try.prog 86 1 1 := ⟨_, _, _, _, _, _, Try.underlying86, rfl, rfl, ty85⟩
instance fl87_0 : Fld Try.prog 87 0 0 := ⟨_, _, _, _, _, _, Try.underlying87, rfl, rfl, ty2⟩
instance fl87_1 : Fld Try.prog 87 1 1 := ⟨_, _, _, _, _, _, Try.underlying87, rfl, rfl, ty85⟩
instance fl88_0 : Fld Try.prog 88 0 0 := ⟨_, _, _, _, _, _, Try.underlying88, rfl, rfl, ty84⟩
instance fl88_1 : Fld Try.prog 88 1 2 := ⟨_, _, _, _, _, _, Try.underlying88, rfl, rfl, ty87⟩
instance fl88_2 : Fld Try.prog 88 2 6 := ⟨_, _, _, _, _, _, Try.underlying88, rfl, rfl, ty2⟩
instance fl89_0 : Fld Try.prog 89 0 0 := ⟨_, _, _, _, _, _, Try.underlying89, rfl, rfl, ty84⟩
instance fl89_1 : Fld Try.prog 89 1 2 := ⟨_, _, _, _, _, _, Try.underlying89, rfl, rfl, ty87⟩
instance fl89_2 : Fld Try.prog 89 2 6 := ⟨_, _, _, _, _, _, Try.underlying89, rfl, rfl, ty2⟩
instance fl98_0 : Fld Try.prog 98 0 0 := ⟨_, _, _, _, _, _, Try.underlying98, rfl, rfl, ty9⟩
instance fl98_1 : Fld Try.prog 98 1 1 := ⟨_, _, _, _, _, _, Try.underlying98, rfl, rfl, ty3⟩
instance fl98_2 : Fld Try.prog 98 2 2 := ⟨_, _, _, _, _, _, Try.underlying98, rfl, rfl, ty42⟩
instance fl99_0 : Fld Try.prog 99 0 0 := ⟨_, _, _, _, _, _, Try.underlying99, rfl, rfl, ty9⟩
instance fl99_1 : Fld Try.prog 99 1 1 := ⟨_, _, _, _, _, _, Try.underlying99, rfl, rfl, ty3⟩
instance fl99_2 : Fld Try.prog 99 2 2 := ⟨_, _, _, _, _, _, Try.underlying99, rfl, rfl, ty42⟩
instance fl103_0 : Fld Try.prog 103 0 0 := ⟨_, _, _, _, _, _, Try.underlying103, rfl, rfl, ty9⟩
instance fl103_1 : Fld Try.prog 103 1 1 := ⟨_, _, _, _, _, _, Try.underlying103, rfl, rfl, ty3⟩
instance fl103_2 : Fld Try.prog 103 2 2 := ⟨_, _, _, _, _, _, Try.underlying103, rfl, rfl, ty3⟩
instance fl104_0 : Fld Try.prog 104 0 0 := ⟨_, _, _, _, _, _, Try.underlying104, rfl, rfl, ty9⟩
instance fl104_1 : Fld Try.prog 104 1 1 := ⟨_, _, _, _, _, _, Try.underlying104, rfl, rfl, ty3⟩
instance fl104_2 : Fld Try.prog 104 2 2 := ⟨_, _, _, _, _, _, Try.underlying104, rfl, rfl, ty3⟩
instance fl122_0 : Fld Try.prog 122 0 0 := ⟨_, _, _, _, _, _, Try.underlying122, rfl, rfl, ty9⟩
instance fl122_1 : Fld Try.prog 122 1 1 := ⟨_, _, _, _, _, _, Try.underlying122, rfl, rfl, ty9⟩
instance fl122_2 : Fld Try.prog 122 2 2 := ⟨_, _, _, _, _, _, Try.underlying122, rfl, rfl, ty2⟩
instance fl122_3 : Fld Try.prog 122 3 3 := ⟨_, _, _, _, _, _, Try.underlying122, rfl, rfl, ty121⟩
instance fl122_4 : Fld Try.prog 122 4 4 := ⟨_, _, _, _, _, _, Try.underlying122, rfl, rfl, ty32⟩
instance fl123_0 : Fld Try.prog 123 0 0 := ⟨_, _, _, _, _, _, Try.underlying123, rfl, rfl, ty9⟩
instance fl123_1 : Fld Try.prog 123 1 1 := ⟨_, _, _, _, _, _, Try.underlying123, rfl, rfl, ty9⟩
instance fl123_2 : Fld Try.prog 123 2 2 := ⟨_, _, _, _, _, _, Try.underlying123, rfl, rfl, ty2⟩
instance fl123_3 : Fld Try.prog 123 3 3 := ⟨_, _, _, _, _, _, Try.underlying123, rfl, rfl, ty121⟩
instance fl123_4 : Fld Try.prog 123 4 4 := ⟨_, _, _, _, _, _, Try.underlying123, rfl, rfl, ty32⟩
instance fl127_0 : Fld Try.prog 127 0 0 := ⟨_, _, _, _, _, _, Try.underlying127, rfl, rfl, ty31⟩
instance fl127_1 : Fld Try.prog 127 1 7 := ⟨_, _, _, _, _, _, Try.underlying127, rfl, rfl, ty116⟩
instance fl127_2 : Fld Try.prog 127 2 8 := ⟨_, _, _, _, _, _, Try.underlying127, rfl, rfl, ty126⟩
instance fl127_3 : Fld Try.prog 127 3 9 := ⟨_, _, _, _, _, _, Try.underlying127, rfl, rfl, ty2⟩
instance fl128_0 : Fld Try.prog 128 0 0 := ⟨_, _, _, _, _, _, Try.underlying128, rfl, rfl, ty31⟩
instance fl128_1 : Fld Try.prog 128 1 7 := ⟨_, _, _, _, _, _, Try.underlying128, rfl, rfl, ty116⟩
instance fl128_2 : Fld Try.prog 128 2 8 := ⟨_, _, _, _, _, _, Try.underlying128, rfl, rfl, ty126⟩
instance fl128_3 : Fld Try.prog 128 3 9 := ⟨_, _, _, _, _, _, Try.underlying128, rfl, rfl, ty2⟩
instance fl136_0 : Fld Try.prog 136 0 0 := ⟨_, _, _, _, _, _, Try.underlying136, rfl, rfl, ty3⟩
instance fl136_1 : Fld Try.prog 136 1 1 := ⟨_, _, _, _, _, _, Try.underlying136, rfl, rfl, ty2⟩
instance fl136_2 : Fld Try.prog 136 2 2 := ⟨_, _, _, _, _, _, Try.underlying136, rfl, rfl, ty67⟩
instance fl137_0 : Fld Try.prog 137 0 0 := ⟨_, _, _, _, _, _, Try.underlying137, rfl, rfl, ty3⟩
instance fl137_1 : Fld Try.prog 137 1 1 := ⟨_, _, _, _, _, _, Try.underlying137, rfl, rfl, ty2⟩
instance fl137_2 : Fld Try.prog 137 2 2 := ⟨_, _, _, _, _, _, Try.underlying137, rfl, rfl, ty67⟩
instance fl166_0 : Fld Try.prog 166 0 0 := ⟨_, _, _, _, _, _, Try.underlying166, rfl, rfl, ty3⟩
instance fl166_1 : Fld Try.prog 166 1 1 := ⟨_, _, _, _, _, _, Try.underlying166, rfl, rfl, ty164⟩
instance fl166_2 : Fld Try.prog 166 2 2 := ⟨_, _, _, _, _, _, Try.underlying166, rfl, rfl, ty165⟩
instance fl166_3 : Fld Try.prog 166 3 3 := ⟨_, _, _, _, _, _, Try.underlying166, rfl, rfl, ty165⟩
instance fl167_0 : Fld Try.prog 167 0 0 := ⟨_, _, _, _, _, _, Try.underlying167, rfl, rfl, ty3⟩
instance fl167_1 : Fld Try.prog 167 1 1 := ⟨_, _, _, _, _, _, Try.underlying167, rfl, rfl, ty164⟩
instance fl167_2 : Fld Try.prog 167 2 2 := ⟨_, _, _, _, _, _, Try.underlying167, rfl, rfl, ty165⟩
instance fl167_3 : Fld Try.prog 167 3 3 := ⟨_, _, _, _, _, _, Try.underlying167, rfl, rfl, ty165⟩
instance fl169_0 : Fld Try.prog 169 0 0 := ⟨_, _, _, _, _, _, Try.underlying169, rfl, rfl, ty63⟩
instance fl169_1 : Fld Try.prog 169 1 2 := ⟨_, _, _, _, _, _, Try.underlying169, rfl, rfl, ty165⟩
instance fl169_2 : Fld Try.prog 169 2 3 := ⟨_, _, _, _, _, _, Try.underlying169, rfl, rfl, ty165⟩
instance fl170_0 : Fld Try.prog 170 0 0 := ⟨_, _, _, _, _, _, Try.underlying170, rfl, rfl, ty63⟩
instance fl170_1 : Fld Try.prog 170 1 2 := ⟨_, _, _, _, _, _, Try.underlying170, rfl, rfl, ty165⟩
instance fl170_2 : Fld Try.prog 170 2 3 := ⟨_, _, _, _, _, _, Try.underlying170, rfl, rfl, ty165⟩
instance fl180_0 : Fld Try.prog 180 0 0 := ⟨_, _, _, _, _, _, Try.underlying180, rfl, rfl, ty179⟩
instance fl180_1 : Fld Try.prog 180 1 1 := ⟨_, _, _, _, _, _, Try.underlying180, rfl, rfl, ty81⟩
instance fl181_0 : Fld Try.prog 181 0 0 := ⟨_, _, _, _, _, _, Try.underlying181, rfl, rfl, ty179⟩
instance fl181_1 : Fld Try.prog 181 1 1 := ⟨_, _, _, _, _, _, Try.underlying181, rfl, rfl, ty81⟩
instance fl215_0 : Fld Try.prog 215 0 0 := ⟨_, _, _, _, _, _, Try.underlying215, rfl, rfl, ty17⟩
instance fl215_1 : Fld Try.prog 215 1 1 := ⟨_, _, _, _, _, _, Try.underlying215, rfl, rfl, ty17⟩
instance fl215_2 : Fld Try.prog 215 2 2 := ⟨_, _, _, _, _, _, Try.underlying215, rfl, rfl, ty17⟩
instance fl215_3 : Fld Try.prog 215 3 3 := ⟨_, _, _, _, _, _, Try.underlying215, rfl, rfl, ty9⟩
instance fl216_0 : Fld Try.prog 216 0 0 := ⟨_, _, _, _, _, _, Try.underlying216, rfl, rfl, ty17⟩
instance fl216_1 : Fld Try.prog 216 1 1 := ⟨_, _, _, _, _, _, Try.underlying216, rfl, rfl, ty17⟩
instance fl216_2 : Fld Try.prog 216 2 2 := ⟨_, _, _, _, _, _, Try.underlying216, rfl, rfl, ty17⟩
instance fl216_3 : Fld Try.prog 216 3 3 := ⟨_, _, _, _, _, _, Try.underlying216, rfl, rfl, ty9⟩
instance fl226_0 : Fld Try.prog 226 0 0 := ⟨_, _, _, _, _, _, Try.underlying226, rfl, rfl, ty12⟩
instance fl226_1 : Fld Try.prog 226 1 1 := ⟨_, _, _, _, _, _, Try.underlying226, rfl, rfl, ty12⟩
instance fl226_2 : Fld Try.prog 226 2 2 := ⟨_, _, _, _, _, _, Try.underlying226, rfl, rfl, ty220⟩
instance fl226_3 : Fld Try.prog 226 3 3 := ⟨_, _, _, _, _, _, Try.underlying226, rfl, rfl, ty221⟩
instance fl226_4 : Fld Try.prog 226 4 4 := ⟨_, _, _, _, _, _, Try.underlying226, rfl, rfl, ty5⟩
instance fl226_5 : Fld Try.prog 226 5 5 := ⟨_, _, _, _, _, _, Try.underlying226, rfl, rfl, ty5⟩
instance fl226_6 : Fld Try.prog 226 6 6 := ⟨_, _, _, _, _, _, Try.underlying226, rfl, rfl, ty222⟩
instance fl226_7 : Fld Try.prog 226 7 7 := ⟨_, _, _, _, _, _, Try.underlying226, rfl, rfl, ty223⟩
instance fl226_8 : Fld Try.prog 226 8 8 := ⟨_, _, _, _, _, _, Try.underlying226, rfl, rfl, ty198⟩
instance fl226_9 : Fld Try.prog 226 9 9 := ⟨_, _, _, _, _, _, Try.underlying226, rfl, rfl, ty224⟩
instance fl226_10 : Fld Try.prog 226 10 10 := ⟨_, _, _, _, _, _, Try.underlying226, rfl, rfl, ty225⟩
instance fl227_0 : Fld Try.prog 227 0 0 := ⟨_, _, _, _, _, _, Try.underlying227, rfl, rfl, ty12⟩
instance fl227_1 : Fld Try.prog 227 1 1 := ⟨_, _, _, _, _, _, Try.underlying227, rfl, rfl, ty12⟩
instance fl227_2 : Fld Try.prog 227 2 2 := ⟨_, _, _, _, _, _, Try.underlying227, rfl, rfl, ty220⟩
instance fl227_3 : Fld Try.prog 227 3 3 := ⟨_, _, _, _, _, _, Try.underlying227, rfl, rfl, ty221⟩
instance fl227_4 : Fld Try.prog 227 4 4 := ⟨_, _, _, _, _, _, Try.underlying227, rfl, rfl, ty5⟩
instance fl227_5 : Fld Try.prog 227 5 5 := ⟨_, _, _, _, _, _, Try.underlying227, rfl, rfl, ty5⟩
instance fl227_6 : Fld Try.prog 227 6 6 := ⟨_, _, _, _, _, _, Try.underlying227, rfl, rfl, ty222⟩
instance fl227_7 : Fld Try.prog 227 7 7 := ⟨_, _, _, _, _, _, Try.underlying227, rfl, rfl, ty223⟩
instance fl227_8 : Fld Try.prog 227 8 8 := ⟨_, _, _, _, _, _, Try.underlying227, rfl, rfl, ty198⟩
instance fl227_9 : Fld Try.prog 227 9 9 := ⟨_, _, _, _, _, _, Try.underlying227, rfl, rfl, ty224⟩
instance fl227_10 : Fld Try.prog 227 10 10 := ⟨_, _, _, _, _, _, Try.underlying227, rfl, rfl, ty225⟩
instance fn2 : FnOk Try.prog 2 := ⟨Try.f2, Try.func2, by kernel_rfl, by kernel_rfl⟩
instance fn3 : FnOk Try.prog 3 := ⟨Try.f3, Try.func3, by kernel_rfl, by kernel_rfl⟩
instance fn4 : FnOk Try.prog 4 := ⟨Try.f4, Try.func4, by kernel_rfl, by kernel_rfl⟩
instance fn5 : FnOk Try.prog 5 := ⟨Try.f5, Try.func5, by kernel_rfl, by kernel_rfl⟩
instance fn6 : FnOk Try.prog 6 := ⟨Try.f6, Try.func6, by kernel_rfl, by kernel_rfl⟩
instance fn7 : FnOk Try.prog 7 := ⟨Try.f7, Try.func7, by kernel_rfl, by kernel_rfl⟩
instance fn8 : FnOk Try.prog 8 := ⟨Try.f8, Try.func8, by kernel_rfl, by kernel_rfl⟩
instance fn9 : FnOk Try.prog 9 := ⟨Try.f9, Try.func9, by kernel_rfl, by kernel_rfl⟩
instance fn10 : FnOk Try.prog 10 := ⟨Try.f10, Try.func10, by kernel_rfl, by kernel_rfl⟩
instance fn11 : FnOk Try.prog 11 := ⟨Try.f11, Try.func11, by kernel_rfl, by kernel_rfl⟩
instance fn12 : FnOk Try.prog 12 := ⟨Try.f12, Try.func12, by kernel_rfl, by kernel_rfl⟩
instance fn13 : FnOk Try.prog 13 := ⟨Try.f13, Try.func13, by kernel_rfl, by kernel_rfl⟩
instance fn14 : FnOk Try.prog 14 := ⟨Try.f14, Try.func14, by kernel_rfl, by kernel_rfl⟩
instance fn15 : FnOk Try.prog 15 := ⟨Try.f15, Try.func15, by kernel_rfl, by kernel_rfl⟩
instance fn16 : FnOk Try.prog 16 := ⟨Try.f16, Try.func16, by kernel_rfl, by kernel_rfl⟩
instance fn17 : FnOk Try.prog 17 := ⟨Try.f17, Try.func17, by kernel_rfl, by kernel_rfl⟩
instance fn18 : FnOk Try.prog 18 := ⟨Try.f18, Try.func18, by kernel_rfl, by kernel_rfl⟩
instance fn19 : FnOk Try.prog 19 := ⟨Try.f19, Try.func19, by kernel_rfl, by kernel_rfl⟩
instance fn20 : FnOk Try.prog 20 := ⟨Try.f20, Try.func20, by kernel_rfl, by kernel_rfl⟩
instance fn21 : FnOk Try.prog 21 := ⟨Try.f21, Try.func21, by kernel_rfl, by kernel_rfl⟩
instance fn22 : FnOk Try.prog 22 := ⟨Try.f22, Try.func22, by kernel_rfl, by kernel_rfl⟩
instance fn23 : FnOk Try.prog 23 := ⟨Try.f23, Try.func23, by kernel_rfl, by kernel_rfl⟩
instance fn24 : FnOk Try.prog 24 := ⟨Try.f24, Try.func24, by kernel_rfl, by kernel_rfl⟩
instance fn25 : FnOk Try.prog 25 := ⟨Try.f25, Try.func25, by kernel_rfl, by kernel_rfl⟩
instance fn26 : FnOk Try.prog 26 := ⟨Try.f26, Try.func26, by kernel_rfl, by kernel_rfl⟩
instance fn27 : FnOk Try.prog 27 := ⟨Try.f27, Try.func27, by kernel_rfl, by kernel_rfl⟩
instance fn28 : FnOk Try.prog 28 := ⟨Try.f28, Try.func28, by kernel_rfl, by kernel_rfl⟩
instance fn29 : FnOk Try.prog 29 := ⟨Try.f29, Try.func29, by kernel_rfl, by kernel_rfl⟩
instance fn30 : FnOk Try.prog 30 := ⟨Try.f30, Try.func30, by kernel_rfl, by kernel_rfl⟩
instance fn31 : FnOk Try.prog 31 := ⟨Try.f31, Try.func31, by kernel_rfl, by kernel_rfl⟩
instance fn32 : FnOk Try.prog 32 := ⟨Try.f32, Try.func32, by kernel_rfl, by kernel_rfl⟩
instance fn33 : FnOk Try.prog 33 := ⟨Try.f33, Try.func33, by kernel_rfl, by kernel_rfl⟩
instance fn34 : FnOk Try.prog 34 := ⟨Try.f34, Try.func34, by kernel_rfl, by kernel_rfl⟩
instance fn35 : FnOk Try.prog 35 := ⟨Try.f35, Try.func35, by kernel_rfl, by kernel_rfl⟩
instance fn36 : FnOk Try.prog 36 := ⟨Try.f36, Try.func36, by kernel_rfl, by kernel_rfl⟩
instance fn37 : FnOk Try.prog 37 := ⟨Try.f37, Try.func37, by kernel_rfl, by kernel_rfl⟩
instance fn38 : FnOk Try.prog 38 := ⟨Try.f38, Try.func38, by kernel_rfl, by kernel_rfl⟩
instance fn39 : FnOk Try.prog 39 := ⟨Try.f39, Try.func39, by kernel_rfl, by kernel_rfl⟩
instance fn40 : FnOk Try.prog 40 := ⟨Try.f40, Try.func40, by kernel_rfl, by kernel_rfl⟩
instance fn41 : FnOk Try.prog 41 := ⟨Try.f41, Try.func41, by kernel_rfl, by kernel_rfl⟩
instance fn42 : FnOk Try.prog 42 := ⟨Try.f42, Try.func42, by kernel_rfl, by kernel_rfl⟩
instance fn43 : FnOk Try.prog 43 := ⟨Try.f43, Try.func43, by kernel_rfl, by kernel_rfl⟩
instance fn44 : FnOk Try.prog 44 := ⟨Try.f44, Try.func44, by kernel_rfl, by kernel_rfl⟩
instance fn45 : FnOk Try.prog 45 := ⟨Try.f45, Try.func45, by kernel_rfl, by kernel_rfl⟩
instance fn46 : FnOk Try.prog 46 := ⟨Try.f46, Try.func46, by kernel_rfl, by kernel_rfl⟩
instance fn47 : FnOk Try.prog 47 := ⟨Try.f47, Try.func47, by kernel_rfl, by kernel_rfl⟩
instance fn48 : FnOk Try.prog 48 := ⟨Try.f48, Try.func48, by kernel_rfl, by kernel_rfl⟩
instance fn49 : FnOk Try.prog 49 := ⟨Try.f49, Try.func49, by kernel_rfl, by kernel_rfl⟩
instance fn50 : FnOk Try.prog 50 := ⟨Try.f50, Try.func50, by kernel_rfl, by kernel_rfl⟩
instance fn51 : FnOk Try.prog 51 := ⟨Try.f51, Try.func51, by kernel_rfl, by kernel_rfl⟩
instance fn52 : FnOk Try.prog 52 := ⟨Try.f52, Try.func52, by kernel_rfl, by kernel_rfl⟩
instance fn53 : FnOk Try.prog 53 := ⟨Try.f53, Try.func53, by kernel_rfl, by kernel_rfl⟩
instance fn54 : FnOk Try.prog 54 := ⟨Try.f54, Try.func54, by kernel_rfl, by kernel_rfl⟩
instance fn55 : FnOk Try.prog 55 := ⟨Try.f55, Try.func55, by kernel_rfl, by kernel_rfl⟩
instance fn56 : FnOk Try.prog 56 := ⟨Try.f56, Try.func56, by kernel_rfl, by kernel_rfl⟩
instance fn57 : FnOk Try.prog 57 := ⟨Try.f57, Try.func57, by kernel_rfl, by kernel_rfl⟩
instance fn58 : FnOk Try.prog 58 := ⟨Try.f58, Try.func58, by kernel_rfl, by kernel_rfl⟩
instance fn59 : FnOk Try.prog 59 := ⟨Try.f59, Try.func59, by kernel_rfl, by kernel_rfl⟩
instance fn60 : FnOk Try.prog 60 := ⟨Try.f60, Try.func60, by kernel_rfl, by kernel_rfl⟩
instance fn61 : FnOk Try.prog 61 := ⟨Try.f61, Try.func61, by kernel_rfl, by kernel_rfl⟩
instance fn62 : FnOk Try.prog 62 := ⟨Try.f62, Try.func62, by kernel_rfl, by kernel_rfl⟩
instance fn63 : FnOk Try.prog 63 := ⟨Try.f63, Try.func63, by kernel_rfl, by kernel_rfl⟩
instance fn64 : FnOk Try.prog 64 := ⟨Try.f64, Try.func64, by kernel_rfl, by kernel_rfl⟩
instance fn65 : FnOk Try.prog 65 := ⟨Try.f65, Try.func65, by kernel_rfl, by kernel_rfl⟩
instance fn66 : FnOk Try.prog 66 := ⟨Try.f66, Try.func66, by kernel_rfl, by kernel_rfl⟩
instance fn67 : FnOk Try.prog 67 := ⟨Try.f67, Try.func67, by kernel_rfl, by kernel_rfl⟩
instance fn68 : FnOk Try.prog 68 := ⟨Try.f68, Try.func68, by kernel_rfl, by kernel_rfl⟩
instance fn69 : FnOk Try.prog 69 := ⟨Try.f69, Try.func69, by kernel_rfl, by kernel_rfl⟩
instance fn70 : FnOk Try.prog 70 := ⟨Try.f70, Try.func70, by kernel_rfl, by kernel_rfl⟩
instance fn71 : FnOk Try.prog 71 := ⟨Try.f71, Try.func71, by kernel_rfl, by kernel_rfl⟩
instance fn72 : FnOk Try.prog 72 := ⟨Try.f72, Try.func72, by kernel_rfl, by kernel_rfl⟩
instance fn73 : FnOk Try.prog 73 := ⟨Try.f73, Try.func73, by kernel_rfl, by kernel_rfl⟩
instance fn74 : FnOk Try.prog 74 := ⟨Try.f74, Try.func74, by kernel_rfl, by kernel_rfl⟩
instance fn75 : FnOk Try.prog 75 := ⟨Try.f75, Try.func75, by kernel_rfl, by kernel_rfl⟩
instance fn76 : FnOk Try.prog 76 := ⟨Try.f76, Try.func76, by kernel_rfl, by kernel_rfl⟩
instance fn77 : FnOk Try.prog 77 := ⟨Try.f77, Try.func77, by kernel_rfl, by kernel_rfl⟩
instance fn78 : FnOk Try.prog 78 := ⟨Try.f78, Try.func78, by kernel_rfl, by kernel_rfl⟩
instance fn79 : FnOk Try.prog 79 := ⟨Try.f79, Try.func79, by kernel_rfl, by kernel_rfl⟩
instance fn80 : FnOk Try.prog 80 := ⟨Try.f80, Try.func80, by kernel_rfl, by kernel_rfl⟩
instance fn81 : FnOk Try.prog 81 := ⟨Try.f81, Try.func81, by kernel_rfl, by kernel_rfl⟩
instance fn82 : FnOk Try.prog 82 := ⟨Try.f82, Try.func82, by kernel_rfl, by kernel_rfl⟩
instance fn83 : FnOk Try.prog 83 := ⟨Try.f83, Try.func83, by kernel_rfl, by kernel_rfl⟩
instance fn84 : FnOk Try.prog 84 := ⟨Try.f84, Try.func84, by kernel_rfl, by kernel_rfl⟩
instance fn85 : FnOk Try.prog 85 := ⟨Try.f85, Try.func85, by kernel_rfl, by kernel_rfl⟩
instance fn86 : FnOk Try.prog 86 := ⟨Try.f86, Try.func86, by kernel_rfl, by kernel_rfl⟩
instance fn87 : FnOk Try.prog 87 := ⟨Try.f87, Try.func87, by kernel_rfl, by kernel_rfl⟩
instance fn89 : FnOk Try.prog 89 := ⟨Try.f89, Try.func89, by kernel_rfl, by kernel_rfl⟩
instance fn90 : FnOk Try.prog 90 := ⟨Try.f90, Try.func90, by kernel_rfl, by kernel_rfl⟩
instance fn91 : FnOk Try.prog 91 := ⟨Try.f91, Try.func91, by kernel_rfl, by kernel_rfl⟩
instance fn92 : FnOk Try.prog 92 := ⟨Try.f92, Try.func92, by kernel_rfl, by kernel_rfl⟩
instance fn93 : FnOk Try.prog 93 := ⟨Try.f93, Try.func93, by kernel_rfl, by kernel_rfl⟩
instance fn94 : FnOk Try.prog 94 := ⟨Try.f94, Try.func94, by kernel_rfl, by kernel_rfl⟩
instance fn95 : FnOk Try.prog 95 := ⟨Try.f95, Try.func95, by kernel_rfl, by kernel_rfl⟩
instance fn96 : FnOk Try.prog 96 := ⟨Try.f96, Try.func96, by kernel_rfl, by kernel_rfl⟩
instance fn97 : FnOk Try.prog 97 := ⟨Try.f97, Try.func97, by kernel_rfl, by kernel_rfl⟩
instance fn98 : FnOk Try.prog 98 := ⟨Try.f98, Try.func98, by kernel_rfl, by kernel_rfl⟩
instance fn99 : FnOk Try.prog 99 := ⟨Try.f99, Try.func99, by kernel_rfl, by kernel_rfl⟩
instance fn100 : FnOk Try.prog 100 := ⟨Try.f100, Try.func100, by kernel_rfl, by kernel_rfl⟩
instance fn101 : FnOk Try.prog 101 := ⟨Try.f101, Try.func101, by kernel_rfl, by kernel_rfl⟩
instance fn102 : FnOk Try.prog 102 := ⟨Try.f102, Try.func102, by kernel_rfl, by kernel_rfl⟩
instance fn103 : FnOk Try.prog 103 := ⟨Try.f103, Try.func103, by kernel_rfl, by kernel_rfl⟩
instance fn104 : FnOk Try.prog 104 := ⟨Try.f104, Try.func104, by kernel_rfl, by kernel_rfl⟩
instance fn105 : FnOk Try.prog 105 := ⟨Try.f105, Try.func105, by kernel_rfl, by kernel_rfl⟩
instance fn106 : FnOk Try.prog 106 := ⟨Try.f106, Try.func106, by kernel_rfl, by kernel_rfl⟩
instance fn107 : FnOk Try.prog 107 := ⟨Try.f107, Try.func107, by kernel_rfl, by kernel_rfl⟩
instance fn108 : FnOk Try.prog 108 := ⟨Try.f108, Try.func108, by kernel_rfl, by kernel_rfl⟩
instance fn109 : FnOk Try.prog 109 := ⟨Try.f109, Try.func109, by kernel_rfl, by kernel_rfl⟩
instance fn110 : FnOk Try.prog 110 := ⟨Try.f110, Try.func110, by kernel_rfl, by kernel_rfl⟩
instance fn111 : FnOk Try.prog 111 := ⟨Try.f111, Try.func111, by kernel_rfl, by kernel_rfl⟩
instance fn112 : FnOk Try.prog 112 := ⟨Try.f112, Try.func112, by kernel_rfl, by kernel_rfl⟩
instance fn113 : FnOk Try.prog 113 := ⟨Try.f113, Try.func113, by kernel_rfl, by kernel_rfl⟩
instance fn114 : FnOk Try.prog 114 := ⟨Try.f114, Try.func114, by kernel_rfl, by kernel_rfl⟩
instance fn115 : FnOk Try.prog 115 := ⟨Try.f115, Try.func115, by kernel_rfl, by kernel_rfl⟩
instance fn116 : FnOk Try.prog 116 := ⟨Try.f116, Try.func116, by kernel_rfl, by kernel_rfl⟩
instance fn117 : FnOk Try.prog 117 := ⟨Try.f117, Try.func117, by kernel_rfl, by kernel_rfl⟩
instance fn118 : FnOk Try.prog 118 := ⟨Try.f118, Try.func118, by kernel_rfl, by kernel_rfl⟩
instance fn119 : FnOk Try.prog 119 := ⟨Try.f119, Try.func119, by kernel_rfl, by kernel_rfl⟩
instance fn122 : FnOk Try.prog 122 := ⟨Try.f122, Try.func122, by kernel_rfl, by kernel_rfl⟩
instance fn124 : FnOk Try.prog 124 := ⟨Try.f124, Try.func124, by kernel_rfl, by kernel_rfl⟩
instance fn125 : FnOk Try.prog 125 := ⟨Try.f125, Try.func125, by kernel_rfl, by kernel_rfl⟩
end Go.Proofs.Ytglmmljmieodaaa
