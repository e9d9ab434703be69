/- DERIVED. The rows of the types and of the functions. -/
import Derived.Test.YtlhjioapbgnjfaaVo
import Derived.Test.YtlhjioapbgnjfaaProg
import Derived.KernelRfl
namespace Go.Proofs.Ytlhjioapbgnjfaa
open Go Sl
instance ty0 : Ty Try.prog 0 (Go.TypeDesc.tuple #[]) (.tuple #[]) 1 0 := Ty.mk' Try.underlying0 (by kernel_rfl)
instance ty1 : Ty Try.prog 1 (Go.TypeDesc.func #[] #[] false) (.nilFunc) 1 8 := Ty.mk' Try.underlying1 (by kernel_rfl)
instance ty2 : Ty Try.prog 2 (Go.TypeDesc.int Go.IntKind.i64) (.int .i64 0) 1 8 := Ty.mk' Try.underlying2 (by kernel_rfl)
instance ty3 : Ty Try.prog 3 (Go.TypeDesc.int Go.IntKind.i64) (.int .i64 0) 1 8 := Ty.mk' Try.underlying3 (by kernel_rfl)
instance ty4 : Ty Try.prog 4 Go.TypeDesc.bool (.bool false) 1 1 := Ty.mk' Try.underlying4 (by kernel_rfl)
instance ty5 : Ty Try.prog 5 (Go.TypeDesc.int Go.IntKind.u8) (.int .u8 0) 1 1 := Ty.mk' Try.underlying5 (by kernel_rfl)
instance ty6 : Ty Try.prog 6 (Go.TypeDesc.int Go.IntKind.u8) (.int .u8 0) 1 1 := Ty.mk' Try.underlying6 (by kernel_rfl)
instance ty7 : Ty Try.prog 7 (Go.TypeDesc.struct #[{ name := "x", type := 2, offset := 0, embedded := false, tag := "", pkgPath := "runtime", byteOffset := 0 }, { name := "y", type := 3, offset := 1, embedded := false, tag := "", pkgPath := "runtime", byteOffset := 8 }, { name := "signed", type := 4, offset := 2, embedded := false, tag := "", pkgPath := "runtime", byteOffset := 16 }, { name := "code", type := 6, offset := 3, embedded := false, tag := "", pkgPath := "runtime", byteOffset := 17 }]) (.agg #[.int .i64 0, .int .i64 0, .bool false, .int .u8 0]) 4 24 := Ty.mk' Try.underlying7 (by kernel_rfl)
instance ty8 : Ty Try.prog 8 (Go.TypeDesc.struct #[{ name := "x", type := 2, offset := 0, embedded := false, tag := "", pkgPath := "runtime", byteOffset := 0 }, { name := "y", type := 3, offset := 1, embedded := false, tag := "", pkgPath := "runtime", byteOffset := 8 }, { name := "signed", type := 4, offset := 2, embedded := false, tag := "", pkgPath := "runtime", byteOffset := 16 }, { name := "code", type := 6, offset := 3, embedded := false, tag := "", pkgPath := "runtime", byteOffset := 17 }]) (.agg #[.int .i64 0, .int .i64 0, .bool false, .int .u8 0]) 4 24 := Ty.mk' Try.underlying8 (by kernel_rfl)
instance ty9 : Ty Try.prog 9 Go.TypeDesc.string (.string ByteArray.empty) 1 16 := Ty.mk' Try.underlying9 (by kernel_rfl)
instance ty10 : Ty Try.prog 10 Go.TypeDesc.string (.string ByteArray.empty) 1 16 := Ty.mk' Try.underlying10 (by kernel_rfl)
instance ty11 : Ty Try.prog 11 Go.TypeDesc.string (.string ByteArray.empty) 1 16 := Ty.mk' Try.underlying11 (by kernel_rfl)
instance ty12 : Ty Try.prog 12 (Go.TypeDesc.int Go.IntKind.u64) (.int .u64 0) 1 8 := Ty.mk' Try.underlying12 (by kernel_rfl)
instance ty13 : Ty Try.prog 13 (Go.TypeDesc.struct #[{ name := "msg", type := 9, offset := 0, embedded := false, tag := "", pkgPath := "runtime", byteOffset := 0 }, { name := "addr", type := 12, offset := 1, embedded := false, tag := "", pkgPath := "runtime", byteOffset := 16 }]) (.agg #[.string ByteArray.empty, .int .u64 0]) 2 24 := Ty.mk' Try.underlying13 (by kernel_rfl)
instance ty14 : Ty Try.prog 14 (Go.TypeDesc.struct #[{ name := "msg", type := 9, offset := 0, embedded := false, tag := "", pkgPath := "runtime", byteOffset := 0 }, { name := "addr", type := 12, offset := 1, embedded := false, tag := "", pkgPath := "runtime", byteOffset := 16 }]) (.agg #[.string ByteArray.empty, .int .u64 0]) 2 24 := Ty.mk' Try.underlying14 (by kernel_rfl)
instance ty15 : Ty Try.prog 15 (Go.TypeDesc.pointer 150) (.pointer none) 1 8 := Ty.mk' Try.underlying15 (by kernel_rfl)
instance ty16 : Ty Try.prog 16 (Go.TypeDesc.pointer 153) (.pointer none) 1 8 := Ty.mk' Try.underlying16 (by kernel_rfl)
instance ty17 : Ty Try.prog 17 (Go.TypeDesc.pointer 162) (.pointer none) 1 8 := Ty.mk' Try.underlying17 (by kernel_rfl)
instance ty18 : Ty Try.prog 18 (Go.TypeDesc.struct #[{ name := "typ", type := 17, offset := 0, embedded := false, tag := "", pkgPath := "internal/runtime/maps", byteOffset := 0 }]) (.agg #[.pointer none]) 1 8 := Ty.mk' Try.underlying18 (by kernel_rfl)
instance ty19 : Ty Try.prog 19 (Go.TypeDesc.struct #[{ name := "typ", type := 17, offset := 0, embedded := false, tag := "", pkgPath := "internal/runtime/maps", byteOffset := 0 }]) (.agg #[.pointer none]) 1 8 := Ty.mk' Try.underlying19 (by kernel_rfl)
instance ty20 : Ty Try.prog 20 (Go.TypeDesc.interface #[]) (.nilIface) 1 16 := Ty.mk' Try.underlying20 (by kernel_rfl)
instance ty21 : Ty Try.prog 21 (Go.TypeDesc.int Go.IntKind.i32) (.int .i32 0) 1 4 := Ty.mk' Try.underlying21 (by kernel_rfl)
instance ty22 : Ty Try.prog 22 (Go.TypeDesc.struct #[{ name := "TTL", type := 2, offset := 0, embedded := false, tag := "", pkgPath := "", byteOffset := 0 }, { name := "Negative", type := 2, offset := 1, embedded := false, tag := "", pkgPath := "", byteOffset := 8 }, { name := "Stale", type := 2, offset := 2, embedded := false, tag := "", pkgPath := "", byteOffset := 16 }, { name := "Entries", type := 3, offset := 3, embedded := false, tag := "", pkgPath := "", byteOffset := 24 }, { name := "Flight", type := 3, offset := 4, embedded := false, tag := "", pkgPath := "", byteOffset := 32 }, { name := "Batch", type := 3, offset := 5, embedded := false, tag := "", pkgPath := "", byteOffset := 40 }, { name := "Window", type := 2, offset := 6, embedded := false, tag := "", pkgPath := "", byteOffset := 48 }]) (.agg #[.int .i64 0, .int .i64 0, .int .i64 0, .int .i64 0, .int .i64 0, .int .i64 0, .int .i64 0]) 7 56 := Ty.mk' Try.underlying22 (by kernel_rfl)
instance ty23 : Ty Try.prog 23 (Go.TypeDesc.struct #[{ name := "TTL", type := 2, offset := 0, embedded := false, tag := "", pkgPath := "", byteOffset := 0 }, { name := "Negative", type := 2, offset := 1, embedded := false, tag := "", pkgPath := "", byteOffset := 8 }, { name := "Stale", type := 2, offset := 2, embedded := false, tag := "", pkgPath := "", byteOffset := 16 }, { name := "Entries", type := 3, offset := 3, embedded := false, tag := "", pkgPath := "", byteOffset := 24 }, { name := "Flight", type := 3, offset := 4, embedded := false, tag := "", pkgPath := "", byteOffset := 32 }, { name := "Batch", type := 3, offset := 5, embedded := false, tag := "", pkgPath := "", byteOffset := 40 }, { name := "Window", type := 2, offset := 6, embedded := false, tag := "", pkgPath := "", byteOffset := 48 }]) (.agg #[.int .i64 0, .int .i64 0, .int .i64 0, .int .i64 0, .int .i64 0, .int .i64 0, .int .i64 0]) 7 56 := Ty.mk' Try.underlying23 (by kernel_rfl)
instance ty24 : Ty Try.prog 24 (Go.TypeDesc.slice 39) (.slice none 0 0) 1 24 := Ty.mk' Try.underlying24 (by kernel_rfl)
instance ty25 : Ty Try.prog 25 (Go.TypeDesc.pointer 93) (.pointer none) 1 8 := Ty.mk' Try.underlying25 (by kernel_rfl)
instance ty26 : Ty Try.prog 26 (Go.TypeDesc.int Go.IntKind.i64) (.int .i64 0) 1 8 := Ty.mk' Try.underlying26 (by kernel_rfl)
instance ty27 : Ty Try.prog 27 (Go.TypeDesc.tuple #[25, 26]) (.tuple #[.pointer none, .int .i64 0]) 1 0 := Ty.mk' Try.underlying27 (by kernel_rfl)
instance ty28 : Ty Try.prog 28 (Go.TypeDesc.func #[23] #[25, 26] false) (.nilFunc) 1 8 := Ty.mk' Try.underlying28 (by kernel_rfl)
instance ty29 : Ty Try.prog 29 (Go.TypeDesc.func #[] #[4] false) (.nilFunc) 1 8 := Ty.mk' Try.underlying29 (by kernel_rfl)
instance ty30 : Ty Try.prog 30 (Go.TypeDesc.slice 33) (.slice none 0 0) 1 24 := Ty.mk' Try.underlying30 (by kernel_rfl)
instance ty31 : Ty Try.prog 31 (Go.TypeDesc.int Go.IntKind.u16) (.int .u16 0) 1 2 := Ty.mk' Try.underlying31 (by kernel_rfl)
instance ty32 : Ty Try.prog 32 (Go.TypeDesc.struct #[{ name := "Space", type := 31, offset := 0, embedded := false, tag := "", pkgPath := "", byteOffset := 0 }, { name := "Name", type := 9, offset := 1, embedded := false, tag := "", pkgPath := "", byteOffset := 8 }]) (.agg #[.int .u16 0, .string ByteArray.empty]) 2 24 := Ty.mk' Try.underlying32 (by kernel_rfl)
instance ty33 : Ty Try.prog 33 (Go.TypeDesc.struct #[{ name := "Space", type := 31, offset := 0, embedded := false, tag := "", pkgPath := "", byteOffset := 0 }, { name := "Name", type := 9, offset := 1, embedded := false, tag := "", pkgPath := "", byteOffset := 8 }]) (.agg #[.int .u16 0, .string ByteArray.empty]) 2 24 := Ty.mk' Try.underlying33 (by kernel_rfl)
instance ty34 : Ty Try.prog 34 (Go.TypeDesc.struct #[{ name := "Kind", type := 3, offset := 0, embedded := false, tag := "", pkgPath := "", byteOffset := 0 }, { name := "Code", type := 3, offset := 1, embedded := false, tag := "", pkgPath := "", byteOffset := 8 }, { name := "Run", type := 3, offset := 2, embedded := false, tag := "", pkgPath := "", byteOffset := 16 }]) (.agg #[.int .i64 0, .int .i64 0, .int .i64 0]) 3 24 := Ty.mk' Try.underlying34 (by kernel_rfl)
instance ty35 : Ty Try.prog 35 (Go.TypeDesc.struct #[{ name := "Kind", type := 3, offset := 0, embedded := false, tag := "", pkgPath := "", byteOffset := 0 }, { name := "Code", type := 3, offset := 1, embedded := false, tag := "", pkgPath := "", byteOffset := 8 }, { name := "Run", type := 3, offset := 2, embedded := false, tag := "", pkgPath := "", byteOffset := 16 }]) (.agg #[.int .i64 0, .int .i64 0, .int .i64 0]) 3 24 := Ty.mk' Try.underlying35 (by kernel_rfl)
instance ty36 : Ty Try.prog 36 (Go.TypeDesc.struct #[{ name := "Value", type := 2, offset := 0, embedded := false, tag := "", pkgPath := "", byteOffset := 0 }, { name := "Fail", type := 35, offset := 1, embedded := false, tag := "", pkgPath := "", byteOffset := 8 }]) (.agg #[.int .i64 0, .int .i64 0, .int .i64 0, .int .i64 0]) 4 32 := Ty.mk' Try.underlying36 (by kernel_rfl)
instance ty37 : Ty Try.prog 37 (Go.TypeDesc.struct #[{ name := "Value", type := 2, offset := 0, embedded := false, tag := "", pkgPath := "", byteOffset := 0 }, { name := "Fail", type := 35, offset := 1, embedded := false, tag := "", pkgPath := "", byteOffset := 8 }]) (.agg #[.int .i64 0, .int .i64 0, .int .i64 0, .int .i64 0]) 4 32 := Ty.mk' Try.underlying37 (by kernel_rfl)
instance ty38 : Ty Try.prog 38 (Go.TypeDesc.struct #[{ name := "Kind", type := 3, offset := 0, embedded := false, tag := "", pkgPath := "", byteOffset := 0 }, { name := "Step", type := 2, offset := 1, embedded := false, tag := "", pkgPath := "", byteOffset := 8 }, { name := "Odd", type := 2, offset := 2, embedded := false, tag := "", pkgPath := "", byteOffset := 16 }, { name := "Key", type := 33, offset := 3, embedded := false, tag := "", pkgPath := "", byteOffset := 24 }, { name := "Outcome", type := 37, offset := 5, embedded := false, tag := "", pkgPath := "", byteOffset := 48 }]) (.agg #[.int .i64 0, .int .i64 0, .int .i64 0, .int .u16 0, .string ByteArray.empty, .int .i64 0, .int .i64 0, .int .i64 0, .int .i64 0]) 9 80 := Ty.mk' Try.underlying38 (by kernel_rfl)
instance ty39 : Ty Try.prog 39 (Go.TypeDesc.struct #[{ name := "Kind", type := 3, offset := 0, embedded := false, tag := "", pkgPath := "", byteOffset := 0 }, { name := "Step", type := 2, offset := 1, embedded := false, tag := "", pkgPath := "", byteOffset := 8 }, { name := "Odd", type := 2, offset := 2, embedded := false, tag := "", pkgPath := "", byteOffset := 16 }, { name := "Key", type := 33, offset := 3, embedded := false, tag := "", pkgPath := "", byteOffset := 24 }, { name := "Outcome", type := 37, offset := 5, embedded := false, tag := "", pkgPath := "", byteOffset := 48 }]) (.agg #[.int .i64 0, .int .i64 0, .int .i64 0, .int .u16 0, .string ByteArray.empty, .int .i64 0, .int .i64 0, .int .i64 0, .int .i64 0]) 9 80 := Ty.mk' Try.underlying39 (by kernel_rfl)
instance ty40 : Ty Try.prog 40 (Go.TypeDesc.struct #[{ name := "How", type := 3, offset := 0, embedded := false, tag := "", pkgPath := "", byteOffset := 0 }, { name := "Age", type := 2, offset := 1, embedded := false, tag := "", pkgPath := "", byteOffset := 8 }, { name := "Outcome", type := 37, offset := 2, embedded := false, tag := "", pkgPath := "", byteOffset := 16 }]) (.agg #[.int .i64 0, .int .i64 0, .int .i64 0, .int .i64 0, .int .i64 0, .int .i64 0]) 6 48 := Ty.mk' Try.underlying40 (by kernel_rfl)
instance ty41 : Ty Try.prog 41 (Go.TypeDesc.struct #[{ name := "How", type := 3, offset := 0, embedded := false, tag := "", pkgPath := "", byteOffset := 0 }, { name := "Age", type := 2, offset := 1, embedded := false, tag := "", pkgPath := "", byteOffset := 8 }, { name := "Outcome", type := 37, offset := 2, embedded := false, tag := "", pkgPath := "", byteOffset := 16 }]) (.agg #[.int .i64 0, .int .i64 0, .int .i64 0, .int .i64 0, .int .i64 0, .int .i64 0]) 6 48 := Ty.mk' Try.underlying41 (by kernel_rfl)
instance ty42 : Ty Try.prog 42 (Go.TypeDesc.tuple #[41, 26]) (.tuple #[.agg #[.int .i64 0, .int .i64 0, .int .i64 0, .int .i64 0, .int .i64 0, .int .i64 0], .int .i64 0]) 1 0 := Ty.mk' Try.underlying42 (by kernel_rfl)
instance ty43 : Ty Try.prog 43 (Go.TypeDesc.func #[2, 33] #[41, 26] false) (.nilFunc) 1 8 := Ty.mk' Try.underlying43 (by kernel_rfl)
instance ty44 : Ty Try.prog 44 (Go.TypeDesc.tuple #[4, 30, 26]) (.tuple #[.bool false, .slice none 0 0, .int .i64 0]) 1 0 := Ty.mk' Try.underlying44 (by kernel_rfl)
instance ty45 : Ty Try.prog 45 (Go.TypeDesc.func #[2, 33, 37] #[4, 30, 26] false) (.nilFunc) 1 8 := Ty.mk' Try.underlying45 (by kernel_rfl)
instance ty46 : Ty Try.prog 46 (Go.TypeDesc.map 33 4) (.map none) 1 8 := Ty.mk' Try.underlying46 (by kernel_rfl)
instance ty47 : Ty Try.prog 47 (Go.TypeDesc.struct #[{ name := "Key", type := 33, offset := 0, embedded := false, tag := "", pkgPath := "", byteOffset := 0 }, { name := "Outcome", type := 37, offset := 2, embedded := false, tag := "", pkgPath := "", byteOffset := 24 }, { name := "At", type := 2, offset := 6, embedded := false, tag := "", pkgPath := "", byteOffset := 56 }]) (.agg #[.int .u16 0, .string ByteArray.empty, .int .i64 0, .int .i64 0, .int .i64 0, .int .i64 0, .int .i64 0]) 7 64 := Ty.mk' Try.underlying47 (by kernel_rfl)
instance ty48 : Ty Try.prog 48 (Go.TypeDesc.struct #[{ name := "Key", type := 33, offset := 0, embedded := false, tag := "", pkgPath := "", byteOffset := 0 }, { name := "Outcome", type := 37, offset := 2, embedded := false, tag := "", pkgPath := "", byteOffset := 24 }, { name := "At", type := 2, offset := 6, embedded := false, tag := "", pkgPath := "", byteOffset := 56 }]) (.agg #[.int .u16 0, .string ByteArray.empty, .int .i64 0, .int .i64 0, .int .i64 0, .int .i64 0, .int .i64 0]) 7 64 := Ty.mk' Try.underlying48 (by kernel_rfl)
instance ty49 : Ty Try.prog 49 (Go.TypeDesc.tuple #[48, 4]) (.tuple #[.agg #[.int .u16 0, .string ByteArray.empty, .int .i64 0, .int .i64 0, .int .i64 0, .int .i64 0, .int .i64 0], .bool false]) 1 0 := Ty.mk' Try.underlying49 (by kernel_rfl)
instance ty50 : Ty Try.prog 50 (Go.TypeDesc.func #[33] #[48, 4] false) (.nilFunc) 1 8 := Ty.mk' Try.underlying50 (by kernel_rfl)
instance ty51 : Ty Try.prog 51 (Go.TypeDesc.func #[] #[3] false) (.nilFunc) 1 8 := Ty.mk' Try.underlying51 (by kernel_rfl)
instance ty52 : Ty Try.prog 52 (Go.TypeDesc.func #[23, 24] #[4] false) (.nilFunc) 1 8 := Ty.mk' Try.underlying52 (by kernel_rfl)
instance ty53 : Ty Try.prog 53 (Go.TypeDesc.slice 2) (.slice none 0 0) 1 24 := Ty.mk' Try.underlying53 (by kernel_rfl)
instance ty54 : Ty Try.prog 54 (Go.TypeDesc.slice 48) (.slice none 0 0) 1 24 := Ty.mk' Try.underlying54 (by kernel_rfl)
instance ty55 : Ty Try.prog 55 (Go.TypeDesc.func #[] #[54] false) (.nilFunc) 1 8 := Ty.mk' Try.underlying55 (by kernel_rfl)
instance ty56 : Ty Try.prog 56 (Go.TypeDesc.func #[23, 24, 53] #[4] false) (.nilFunc) 1 8 := Ty.mk' Try.underlying56 (by kernel_rfl)
instance ty57 : Ty Try.prog 57 (Go.TypeDesc.func #[58] #[4] false) (.nilFunc) 1 8 := Ty.mk' Try.underlying57 (by kernel_rfl)
instance ty58 : Ty Try.prog 58 (Go.TypeDesc.struct #[{ name := "TTL", type := 2, offset := 0, embedded := false, tag := "", pkgPath := "", byteOffset := 0 }, { name := "Negative", type := 2, offset := 1, embedded := false, tag := "", pkgPath := "", byteOffset := 8 }, { name := "Stale", type := 2, offset := 2, embedded := false, tag := "", pkgPath := "", byteOffset := 16 }, { name := "Entries", type := 3, offset := 3, embedded := false, tag := "", pkgPath := "", byteOffset := 24 }, { name := "Flight", type := 3, offset := 4, embedded := false, tag := "", pkgPath := "", byteOffset := 32 }, { name := "Batch", type := 3, offset := 5, embedded := false, tag := "", pkgPath := "", byteOffset := 40 }, { name := "Window", type := 2, offset := 6, embedded := false, tag := "", pkgPath := "", byteOffset := 48 }]) (.agg #[.int .i64 0, .int .i64 0, .int .i64 0, .int .i64 0, .int .i64 0, .int .i64 0, .int .i64 0]) 7 56 := Ty.mk' Try.underlying58 (by kernel_rfl)
instance ty59 : Ty Try.prog 59 (Go.TypeDesc.func #[23] #[58] false) (.nilFunc) 1 8 := Ty.mk' Try.underlying59 (by kernel_rfl)
instance ty60 : Ty Try.prog 60 (Go.TypeDesc.func #[23] #[26] false) (.nilFunc) 1 8 := Ty.mk' Try.underlying60 (by kernel_rfl)
instance ty61 : Ty Try.prog 61 (Go.TypeDesc.slice 83) (.slice none 0 0) 1 24 := Ty.mk' Try.underlying61 (by kernel_rfl)
instance ty62 : Ty Try.prog 62 (Go.TypeDesc.struct #[{ name := "c", type := 58, offset := 0, embedded := false, tag := "", pkgPath := "convoy/convoylaw10", byteOffset := 0 }, { name := "l", type := 61, offset := 7, embedded := false, tag := "", pkgPath := "convoy/convoylaw10", byteOffset := 56 }, { name := "now", type := 2, offset := 8, embedded := false, tag := "", pkgPath := "convoy/convoylaw10", byteOffset := 80 }]) (.agg #[.int .i64 0, .int .i64 0, .int .i64 0, .int .i64 0, .int .i64 0, .int .i64 0, .int .i64 0, .slice none 0 0, .int .i64 0]) 9 88 := Ty.mk' Try.underlying62 (by kernel_rfl)
instance ty63 : Ty Try.prog 63 (Go.TypeDesc.struct #[{ name := "c", type := 58, offset := 0, embedded := false, tag := "", pkgPath := "convoy/convoylaw10", byteOffset := 0 }, { name := "l", type := 61, offset := 7, embedded := false, tag := "", pkgPath := "convoy/convoylaw10", byteOffset := 56 }, { name := "now", type := 2, offset := 8, embedded := false, tag := "", pkgPath := "convoy/convoylaw10", byteOffset := 80 }]) (.agg #[.int .i64 0, .int .i64 0, .int .i64 0, .int .i64 0, .int .i64 0, .int .i64 0, .int .i64 0, .slice none 0 0, .int .i64 0]) 9 88 := Ty.mk' Try.underlying63 (by kernel_rfl)
instance ty64 : Ty Try.prog 64 (Go.TypeDesc.tuple #[63, 4]) (.tuple #[.agg #[.int .i64 0, .int .i64 0, .int .i64 0, .int .i64 0, .int .i64 0, .int .i64 0, .int .i64 0, .slice none 0 0, .int .i64 0], .bool false]) 1 0 := Ty.mk' Try.underlying64 (by kernel_rfl)
instance ty65 : Ty Try.prog 65 (Go.TypeDesc.func #[25, 63, 39] #[63, 4] false) (.nilFunc) 1 8 := Ty.mk' Try.underlying65 (by kernel_rfl)
instance ty66 : Ty Try.prog 66 (Go.TypeDesc.func #[25, 63, 33] #[4] false) (.nilFunc) 1 8 := Ty.mk' Try.underlying66 (by kernel_rfl)
instance ty67 : Ty Try.prog 67 (Go.TypeDesc.tuple #[30, 26]) (.tuple #[.slice none 0 0, .int .i64 0]) 1 0 := Ty.mk' Try.underlying67 (by kernel_rfl)
instance ty68 : Ty Try.prog 68 (Go.TypeDesc.func #[2] #[30, 26] false) (.nilFunc) 1 8 := Ty.mk' Try.underlying68 (by kernel_rfl)
instance ty69 : Ty Try.prog 69 (Go.TypeDesc.func #[33] #[4] false) (.nilFunc) 1 8 := Ty.mk' Try.underlying69 (by kernel_rfl)
instance ty70 : Ty Try.prog 70 (Go.TypeDesc.func #[] #[2] false) (.nilFunc) 1 8 := Ty.mk' Try.underlying70 (by kernel_rfl)
instance ty71 : Ty Try.prog 71 (Go.TypeDesc.func #[] #[23] false) (.nilFunc) 1 8 := Ty.mk' Try.underlying71 (by kernel_rfl)
instance ty72 : Ty Try.prog 72 (Go.TypeDesc.func #[] #[25] false) (.nilFunc) 1 8 := Ty.mk' Try.underlying72 (by kernel_rfl)
instance ty73 : Ty Try.prog 73 (Go.TypeDesc.func #[2, 33, 37] #[4] false) (.nilFunc) 1 8 := Ty.mk' Try.underlying73 (by kernel_rfl)
instance ty74 : Ty Try.prog 74 (Go.TypeDesc.struct #[{ name := "Now", type := 2, offset := 0, embedded := false, tag := "", pkgPath := "", byteOffset := 0 }, { name := "Kept", type := 54, offset := 1, embedded := false, tag := "", pkgPath := "", byteOffset := 8 }]) (.agg #[.int .i64 0, .slice none 0 0]) 2 32 := Ty.mk' Try.underlying74 (by kernel_rfl)
instance ty75 : Ty Try.prog 75 (Go.TypeDesc.struct #[{ name := "Now", type := 2, offset := 0, embedded := false, tag := "", pkgPath := "", byteOffset := 0 }, { name := "Kept", type := 54, offset := 1, embedded := false, tag := "", pkgPath := "", byteOffset := 8 }]) (.agg #[.int .i64 0, .slice none 0 0]) 2 32 := Ty.mk' Try.underlying75 (by kernel_rfl)
instance ty76 : Ty Try.prog 76 (Go.TypeDesc.tuple #[25, 3, 26]) (.tuple #[.pointer none, .int .i64 0, .int .i64 0]) 1 0 := Ty.mk' Try.underlying76 (by kernel_rfl)
instance ty77 : Ty Try.prog 77 (Go.TypeDesc.func #[23, 2, 54] #[25, 3, 26] false) (.nilFunc) 1 8 := Ty.mk' Try.underlying77 (by kernel_rfl)
instance ty78 : Ty Try.prog 78 (Go.TypeDesc.struct #[{ name := "Space", type := 31, offset := 0, embedded := false, tag := "", pkgPath := "", byteOffset := 0 }, { name := "Name", type := 9, offset := 1, embedded := false, tag := "", pkgPath := "", byteOffset := 8 }]) (.agg #[.int .u16 0, .string ByteArray.empty]) 2 24 := Ty.mk' Try.underlying78 (by kernel_rfl)
instance ty79 : Ty Try.prog 79 (Go.TypeDesc.struct #[{ name := "Kind", type := 3, offset := 0, embedded := false, tag := "", pkgPath := "", byteOffset := 0 }, { name := "Code", type := 3, offset := 1, embedded := false, tag := "", pkgPath := "", byteOffset := 8 }, { name := "Run", type := 3, offset := 2, embedded := false, tag := "", pkgPath := "", byteOffset := 16 }]) (.agg #[.int .i64 0, .int .i64 0, .int .i64 0]) 3 24 := Ty.mk' Try.underlying79 (by kernel_rfl)
instance ty80 : Ty Try.prog 80 (Go.TypeDesc.struct #[{ name := "Value", type := 2, offset := 0, embedded := false, tag := "", pkgPath := "", byteOffset := 0 }, { name := "Fail", type := 79, offset := 1, embedded := false, tag := "", pkgPath := "", byteOffset := 8 }]) (.agg #[.int .i64 0, .int .i64 0, .int .i64 0, .int .i64 0]) 4 32 := Ty.mk' Try.underlying80 (by kernel_rfl)
instance ty81 : Ty Try.prog 81 (Go.TypeDesc.struct #[{ name := "Value", type := 2, offset := 0, embedded := false, tag := "", pkgPath := "", byteOffset := 0 }, { name := "Fail", type := 79, offset := 1, embedded := false, tag := "", pkgPath := "", byteOffset := 8 }]) (.agg #[.int .i64 0, .int .i64 0, .int .i64 0, .int .i64 0]) 4 32 := Ty.mk' Try.underlying81 (by kernel_rfl)
instance ty82 : Ty Try.prog 82 (Go.TypeDesc.struct #[{ name := "Key", type := 78, offset := 0, embedded := false, tag := "", pkgPath := "", byteOffset := 0 }, { name := "Outcome", type := 81, offset := 2, embedded := false, tag := "", pkgPath := "", byteOffset := 24 }, { name := "At", type := 2, offset := 6, embedded := false, tag := "", pkgPath := "", byteOffset := 56 }]) (.agg #[.int .u16 0, .string ByteArray.empty, .int .i64 0, .int .i64 0, .int .i64 0, .int .i64 0, .int .i64 0]) 7 64 := Ty.mk' Try.underlying82 (by kernel_rfl)
instance ty83 : Ty Try.prog 83 (Go.TypeDesc.struct #[{ name := "Key", type := 78, offset := 0, embedded := false, tag := "", pkgPath := "", byteOffset := 0 }, { name := "Outcome", type := 81, offset := 2, embedded := false, tag := "", pkgPath := "", byteOffset := 24 }, { name := "At", type := 2, offset := 6, embedded := false, tag := "", pkgPath := "", byteOffset := 56 }]) (.agg #[.int .u16 0, .string ByteArray.empty, .int .i64 0, .int .i64 0, .int .i64 0, .int .i64 0, .int .i64 0]) 7 64 := Ty.mk' Try.underlying83 (by kernel_rfl)
instance ty84 : Ty Try.prog 84 (Go.TypeDesc.func #[48] #[83] false) (.nilFunc) 1 8 := Ty.mk' Try.underlying84 (by kernel_rfl)
instance ty85 : Ty Try.prog 85 (Go.TypeDesc.tuple #[3, 3]) (.tuple #[.int .i64 0, .int .i64 0]) 1 0 := Ty.mk' Try.underlying85 (by kernel_rfl)
instance ty86 : Ty Try.prog 86 (Go.TypeDesc.func #[58, 2, 61] #[3, 3] false) (.nilFunc) 1 8 := Ty.mk' Try.underlying86 (by kernel_rfl)
instance ty87 : Ty Try.prog 87 (Go.TypeDesc.func #[23, 75, 24] #[4] false) (.nilFunc) 1 8 := Ty.mk' Try.underlying87 (by kernel_rfl)
instance ty88 : Ty Try.prog 88 (Go.TypeDesc.pointer 121) (.pointer none) 1 8 := Ty.mk' Try.underlying88 (by kernel_rfl)
instance ty89 : Ty Try.prog 89 (Go.TypeDesc.tuple #[88, 26]) (.tuple #[.pointer none, .int .i64 0]) 1 0 := Ty.mk' Try.underlying89 (by kernel_rfl)
instance ty90 : Ty Try.prog 90 (Go.TypeDesc.func #[3] #[88, 26] false) (.nilFunc) 1 8 := Ty.mk' Try.underlying90 (by kernel_rfl)
instance ty91 : Ty Try.prog 91 (Go.TypeDesc.map 33 48) (.map none) 1 8 := Ty.mk' Try.underlying91 (by kernel_rfl)
instance ty92 : Ty Try.prog 92 (Go.TypeDesc.struct #[{ name := "c", type := 23, offset := 0, embedded := false, tag := "", pkgPath := "convoy/memo", byteOffset := 0 }, { name := "kept", type := 91, offset := 7, embedded := false, tag := "", pkgPath := "convoy/memo", byteOffset := 56 }, { name := "o", type := 88, offset := 8, embedded := false, tag := "", pkgPath := "convoy/memo", byteOffset := 64 }, { name := "now", type := 2, offset := 9, embedded := false, tag := "", pkgPath := "convoy/memo", byteOffset := 72 }]) (.agg #[.int .i64 0, .int .i64 0, .int .i64 0, .int .i64 0, .int .i64 0, .int .i64 0, .int .i64 0, .map none, .pointer none, .int .i64 0]) 10 80 := Ty.mk' Try.underlying92 (by kernel_rfl)
instance ty93 : Ty Try.prog 93 (Go.TypeDesc.struct #[{ name := "c", type := 23, offset := 0, embedded := false, tag := "", pkgPath := "convoy/memo", byteOffset := 0 }, { name := "kept", type := 91, offset := 7, embedded := false, tag := "", pkgPath := "convoy/memo", byteOffset := 56 }, { name := "o", type := 88, offset := 8, embedded := false, tag := "", pkgPath := "convoy/memo", byteOffset := 64 }, { name := "now", type := 2, offset := 9, embedded := false, tag := "", pkgPath := "convoy/memo", byteOffset := 72 }]) (.agg #[.int .i64 0, .int .i64 0, .int .i64 0, .int .i64 0, .int .i64 0, .int .i64 0, .int .i64 0, .map none, .pointer none, .int .i64 0]) 10 80 := Ty.mk' Try.underlying93 (by kernel_rfl)
instance ty94 : Ty Try.prog 94 (Go.TypeDesc.func #[2] #[26] false) (.nilFunc) 1 8 := Ty.mk' Try.underlying94 (by kernel_rfl)
instance ty95 : Ty Try.prog 95 (Go.TypeDesc.func #[33] #[26] false) (.nilFunc) 1 8 := Ty.mk' Try.underlying95 (by kernel_rfl)
instance ty96 : Ty Try.prog 96 (Go.TypeDesc.func #[37] #[4] false) (.nilFunc) 1 8 := Ty.mk' Try.underlying96 (by kernel_rfl)
instance ty97 : Ty Try.prog 97 (Go.TypeDesc.tuple #[33, 4, 26]) (.tuple #[.agg #[.int .u16 0, .string ByteArray.empty], .bool false, .int .i64 0]) 1 0 := Ty.mk' Try.underlying97 (by kernel_rfl)
instance ty98 : Ty Try.prog 98 (Go.TypeDesc.func #[33] #[33, 4, 26] false) (.nilFunc) 1 8 := Ty.mk' Try.underlying98 (by kernel_rfl)
instance ty99 : Ty Try.prog 99 (Go.TypeDesc.func #[69] #[] false) (.nilFunc) 1 8 := Ty.mk' Try.underlying99 (by kernel_rfl)
instance ty100 : Ty Try.prog 100 (Go.TypeDesc.func #[] #[99] false) (.nilFunc) 1 8 := Ty.mk' Try.underlying100 (by kernel_rfl)
instance ty101 : Ty Try.prog 101 (Go.TypeDesc.func #[2, 48] #[41] false) (.nilFunc) 1 8 := Ty.mk' Try.underlying101 (by kernel_rfl)
instance ty102 : Ty Try.prog 102 (Go.TypeDesc.func #[25, 63, 39, 4] #[63, 4] false) (.nilFunc) 1 8 := Ty.mk' Try.underlying102 (by kernel_rfl)
instance ty103 : Ty Try.prog 103 (Go.TypeDesc.func #[61, 78] #[3] false) (.nilFunc) 1 8 := Ty.mk' Try.underlying103 (by kernel_rfl)
instance ty104 : Ty Try.prog 104 (Go.TypeDesc.func #[33] #[78] false) (.nilFunc) 1 8 := Ty.mk' Try.underlying104 (by kernel_rfl)
instance ty105 : Ty Try.prog 105 (Go.TypeDesc.func #[61, 3] #[61] false) (.nilFunc) 1 8 := Ty.mk' Try.underlying105 (by kernel_rfl)
instance ty106 : Ty Try.prog 106 (Go.TypeDesc.func #[39] #[2] false) (.nilFunc) 1 8 := Ty.mk' Try.underlying106 (by kernel_rfl)
instance ty107 : Ty Try.prog 107 (Go.TypeDesc.func #[2, 33] #[3] false) (.nilFunc) 1 8 := Ty.mk' Try.underlying107 (by kernel_rfl)
instance ty108 : Ty Try.prog 108 (Go.TypeDesc.slice 78) (.slice none 0 0) 1 24 := Ty.mk' Try.underlying108 (by kernel_rfl)
instance ty109 : Ty Try.prog 109 (Go.TypeDesc.tuple #[61, 108]) (.tuple #[.slice none 0 0, .slice none 0 0]) 1 0 := Ty.mk' Try.underlying109 (by kernel_rfl)
instance ty110 : Ty Try.prog 110 (Go.TypeDesc.func #[58, 61, 2] #[61, 108] false) (.nilFunc) 1 8 := Ty.mk' Try.underlying110 (by kernel_rfl)
instance ty111 : Ty Try.prog 111 (Go.TypeDesc.func #[30, 108] #[4] false) (.nilFunc) 1 8 := Ty.mk' Try.underlying111 (by kernel_rfl)
instance ty112 : Ty Try.prog 112 (Go.TypeDesc.func #[91] #[91] false) (.nilFunc) 1 8 := Ty.mk' Try.underlying112 (by kernel_rfl)
instance ty113 : Ty Try.prog 113 (Go.TypeDesc.func #[] #[88] false) (.nilFunc) 1 8 := Ty.mk' Try.underlying113 (by kernel_rfl)
instance ty114 : Ty Try.prog 114 (Go.TypeDesc.func #[2] #[4] false) (.nilFunc) 1 8 := Ty.mk' Try.underlying114 (by kernel_rfl)
instance ty115 : Ty Try.prog 115 (Go.TypeDesc.func #[37] #[81] false) (.nilFunc) 1 8 := Ty.mk' Try.underlying115 (by kernel_rfl)
instance ty116 : Ty Try.prog 116 (Go.TypeDesc.func #[81] #[4] false) (.nilFunc) 1 8 := Ty.mk' Try.underlying116 (by kernel_rfl)
instance ty117 : Ty Try.prog 117 (Go.TypeDesc.func #[58, 81] #[4] false) (.nilFunc) 1 8 := Ty.mk' Try.underlying117 (by kernel_rfl)
instance ty118 : Ty Try.prog 118 (Go.TypeDesc.map 33 119) (.map none) 1 8 := Ty.mk' Try.underlying118 (by kernel_rfl)
instance ty119 : Ty Try.prog 119 (Go.TypeDesc.pointer 125) (.pointer none) 1 8 := Ty.mk' Try.underlying119 (by kernel_rfl)
instance ty120 : Ty Try.prog 120 (Go.TypeDesc.struct #[{ name := "most", type := 3, offset := 0, embedded := false, tag := "", pkgPath := "convoy/order", byteOffset := 0 }, { name := "at", type := 118, offset := 1, embedded := false, tag := "", pkgPath := "convoy/order", byteOffset := 8 }, { name := "oldest", type := 119, offset := 2, embedded := false, tag := "", pkgPath := "convoy/order", byteOffset := 16 }, { name := "newest", type := 119, offset := 3, embedded := false, tag := "", pkgPath := "convoy/order", byteOffset := 24 }]) (.agg #[.int .i64 0, .map none, .pointer none, .pointer none]) 4 32 := Ty.mk' Try.underlying120 (by kernel_rfl)
instance ty121 : Ty Try.prog 121 (Go.TypeDesc.struct #[{ name := "most", type := 3, offset := 0, embedded := false, tag := "", pkgPath := "convoy/order", byteOffset := 0 }, { name := "at", type := 118, offset := 1, embedded := false, tag := "", pkgPath := "convoy/order", byteOffset := 8 }, { name := "oldest", type := 119, offset := 2, embedded := false, tag := "", pkgPath := "convoy/order", byteOffset := 16 }, { name := "newest", type := 119, offset := 3, embedded := false, tag := "", pkgPath := "convoy/order", byteOffset := 24 }]) (.agg #[.int .i64 0, .map none, .pointer none, .pointer none]) 4 32 := Ty.mk' Try.underlying121 (by kernel_rfl)
instance ty122 : Ty Try.prog 122 (Go.TypeDesc.func #[119] #[] false) (.nilFunc) 1 8 := Ty.mk' Try.underlying122 (by kernel_rfl)
instance ty123 : Ty Try.prog 123 (Go.TypeDesc.func #[35] #[26] false) (.nilFunc) 1 8 := Ty.mk' Try.underlying123 (by kernel_rfl)
instance ty124 : Ty Try.prog 124 (Go.TypeDesc.struct #[{ name := "k", type := 33, offset := 0, embedded := false, tag := "", pkgPath := "convoy/order", byteOffset := 0 }, { name := "older", type := 119, offset := 2, embedded := false, tag := "", pkgPath := "convoy/order", byteOffset := 24 }, { name := "newer", type := 119, offset := 3, embedded := false, tag := "", pkgPath := "convoy/order", byteOffset := 32 }]) (.agg #[.int .u16 0, .string ByteArray.empty, .pointer none, .pointer none]) 4 40 := Ty.mk' Try.underlying124 (by kernel_rfl)
instance ty125 : Ty Try.prog 125 (Go.TypeDesc.struct #[{ name := "k", type := 33, offset := 0, embedded := false, tag := "", pkgPath := "convoy/order", byteOffset := 0 }, { name := "older", type := 119, offset := 2, embedded := false, tag := "", pkgPath := "convoy/order", byteOffset := 24 }, { name := "newer", type := 119, offset := 3, embedded := false, tag := "", pkgPath := "convoy/order", byteOffset := 32 }]) (.agg #[.int .u16 0, .string ByteArray.empty, .pointer none, .pointer none]) 4 40 := Ty.mk' Try.underlying125 (by kernel_rfl)
instance ty126 : Ty Try.prog 126 (Go.TypeDesc.tuple #[33, 4]) (.tuple #[.agg #[.int .u16 0, .string ByteArray.empty], .bool false]) 1 0 := Ty.mk' Try.underlying126 (by kernel_rfl)
instance ty127 : Ty Try.prog 127 (Go.TypeDesc.func #[] #[33, 4] false) (.nilFunc) 1 8 := Ty.mk' Try.underlying127 (by kernel_rfl)
instance ty128 : Ty Try.prog 128 (Go.TypeDesc.func #[] #[30] false) (.nilFunc) 1 8 := Ty.mk' Try.underlying128 (by kernel_rfl)
instance ty129 : Ty Try.prog 129 (Go.TypeDesc.tuple #[2, 26]) (.tuple #[.int .i64 0, .int .i64 0]) 1 0 := Ty.mk' Try.underlying129 (by kernel_rfl)
instance ty130 : Ty Try.prog 130 (Go.TypeDesc.func #[2, 2] #[2, 26] false) (.nilFunc) 1 8 := Ty.mk' Try.underlying130 (by kernel_rfl)
instance ty131 : Ty Try.prog 131 (Go.TypeDesc.tuple #[4, 26]) (.tuple #[.bool false, .int .i64 0]) 1 0 := Ty.mk' Try.underlying131 (by kernel_rfl)
instance ty132 : Ty Try.prog 132 (Go.TypeDesc.func #[2, 2, 53] #[4, 26] true) (.nilFunc) 1 8 := Ty.mk' Try.underlying132 (by kernel_rfl)
instance ty133 : Ty Try.prog 133 (Go.TypeDesc.func #[53] #[4] true) (.nilFunc) 1 8 := Ty.mk' Try.underlying133 (by kernel_rfl)
instance ty134 : Ty Try.prog 134 (Go.TypeDesc.tuple #[3, 2, 81]) (.tuple #[.int .i64 0, .int .i64 0, .agg #[.int .i64 0, .int .i64 0, .int .i64 0, .int .i64 0]]) 1 0 := Ty.mk' Try.underlying134 (by kernel_rfl)
instance ty135 : Ty Try.prog 135 (Go.TypeDesc.func #[58, 61, 2, 78] #[3, 2, 81] false) (.nilFunc) 1 8 := Ty.mk' Try.underlying135 (by kernel_rfl)
instance ty136 : Ty Try.prog 136 (Go.TypeDesc.func #[61, 78] #[61] false) (.nilFunc) 1 8 := Ty.mk' Try.underlying136 (by kernel_rfl)
instance ty137 : Ty Try.prog 137 (Go.TypeDesc.func #[58, 81, 2] #[3] false) (.nilFunc) 1 8 := Ty.mk' Try.underlying137 (by kernel_rfl)
instance ty138 : Ty Try.prog 138 (Go.TypeDesc.tuple #[61, 4, 108]) (.tuple #[.slice none 0 0, .bool false, .slice none 0 0]) 1 0 := Ty.mk' Try.underlying138 (by kernel_rfl)
instance ty139 : Ty Try.prog 139 (Go.TypeDesc.func #[58, 61, 83] #[61, 4, 108] false) (.nilFunc) 1 8 := Ty.mk' Try.underlying139 (by kernel_rfl)
instance ty140 : Ty Try.prog 140 (Go.TypeDesc.func #[20] #[20] false) (.nilFunc) 1 8 := Ty.mk' Try.underlying140 (by kernel_rfl)
instance ty141 : Ty Try.prog 141 (Go.TypeDesc.tuple #[119, 4]) (.tuple #[.pointer none, .bool false]) 1 0 := Ty.mk' Try.underlying141 (by kernel_rfl)
instance ty142 : Ty Try.prog 142 (Go.TypeDesc.int Go.IntKind.u64) (.int .u64 0) 1 8 := Ty.mk' Try.underlying142 (by kernel_rfl)
instance ty143 : Ty Try.prog 143 (Go.TypeDesc.tuple #[142, 142, 26]) (.tuple #[.int .u64 0, .int .u64 0, .int .i64 0]) 1 0 := Ty.mk' Try.underlying143 (by kernel_rfl)
instance ty144 : Ty Try.prog 144 (Go.TypeDesc.func #[53] #[142, 142, 26] true) (.nilFunc) 1 8 := Ty.mk' Try.underlying144 (by kernel_rfl)
instance ty145 : Ty Try.prog 145 (Go.TypeDesc.func #[2, 2, 2] #[4] false) (.nilFunc) 1 8 := Ty.mk' Try.underlying145 (by kernel_rfl)
instance ty146 : Ty Try.prog 146 (Go.TypeDesc.tuple #[142, 142]) (.tuple #[.int .u64 0, .int .u64 0]) 1 0 := Ty.mk' Try.underlying146 (by kernel_rfl)
instance ty147 : Ty Try.prog 147 (Go.TypeDesc.func #[142, 142, 142] #[142, 142] false) (.nilFunc) 1 8 := Ty.mk' Try.underlying147 (by kernel_rfl)
instance ty148 : Ty Try.prog 148 (Go.TypeDesc.func #[] #[9] false) (.nilFunc) 1 8 := Ty.mk' Try.underlying148 (by kernel_rfl)
instance ty149 : Ty Try.prog 149 (Go.TypeDesc.struct #[{ name := "_interface", type := 17, offset := 0, embedded := false, tag := "", pkgPath := "runtime", byteOffset := 0 }, { name := "concrete", type := 17, offset := 1, embedded := false, tag := "", pkgPath := "runtime", byteOffset := 8 }, { name := "asserted", type := 17, offset := 2, embedded := false, tag := "", pkgPath := "runtime", byteOffset := 16 }, { name := "missingMethod", type := 9, offset := 3, embedded := false, tag := "", pkgPath := "runtime", byteOffset := 24 }]) (.agg #[.pointer none, .pointer none, .pointer none, .string ByteArray.empty]) 4 40 := Ty.mk' Try.underlying149 (by kernel_rfl)
instance ty150 : Ty Try.prog 150 (Go.TypeDesc.struct #[{ name := "_interface", type := 17, offset := 0, embedded := false, tag := "", pkgPath := "runtime", byteOffset := 0 }, { name := "concrete", type := 17, offset := 1, embedded := false, tag := "", pkgPath := "runtime", byteOffset := 8 }, { name := "asserted", type := 17, offset := 2, embedded := false, tag := "", pkgPath := "runtime", byteOffset := 16 }, { name := "missingMethod", type := 9, offset := 3, embedded := false, tag := "", pkgPath := "runtime", byteOffset := 24 }]) (.agg #[.pointer none, .pointer none, .pointer none, .string ByteArray.empty]) 4 40 := Ty.mk' Try.underlying150 (by kernel_rfl)
instance ty151 : Ty Try.prog 151 (Go.TypeDesc.array 0 16) (.agg #[]) 0 0 := Ty.mk' Try.underlying151 (by kernel_rfl)
instance ty152 : Ty Try.prog 152 (Go.TypeDesc.struct #[{ name := "_", type := 151, offset := 0, embedded := false, tag := "", pkgPath := "runtime", byteOffset := 0 }]) (.agg #[]) 0 0 := Ty.mk' Try.underlying152 (by kernel_rfl)
instance ty153 : Ty Try.prog 153 (Go.TypeDesc.struct #[{ name := "_", type := 151, offset := 0, embedded := false, tag := "", pkgPath := "runtime", byteOffset := 0 }]) (.agg #[]) 0 0 := Ty.mk' Try.underlying153 (by kernel_rfl)
instance ty154 : Ty Try.prog 154 (Go.TypeDesc.int Go.IntKind.u32) (.int .u32 0) 1 4 := Ty.mk' Try.underlying154 (by kernel_rfl)
instance ty155 : Ty Try.prog 155 (Go.TypeDesc.int Go.IntKind.u8) (.int .u8 0) 1 1 := Ty.mk' Try.underlying155 (by kernel_rfl)
instance ty156 : Ty Try.prog 156 (Go.TypeDesc.int Go.IntKind.u8) (.int .u8 0) 1 1 := Ty.mk' Try.underlying156 (by kernel_rfl)
instance ty157 : Ty Try.prog 157 (Go.TypeDesc.func #[163, 163] #[4] false) (.nilFunc) 1 8 := Ty.mk' Try.underlying157 (by kernel_rfl)
instance ty158 : Ty Try.prog 158 (Go.TypeDesc.pointer 5) (.pointer none) 1 8 := Ty.mk' Try.underlying158 (by kernel_rfl)
instance ty159 : Ty Try.prog 159 (Go.TypeDesc.int Go.IntKind.i32) (.int .i32 0) 1 4 := Ty.mk' Try.underlying159 (by kernel_rfl)
instance ty160 : Ty Try.prog 160 (Go.TypeDesc.int Go.IntKind.i32) (.int .i32 0) 1 4 := Ty.mk' Try.underlying160 (by kernel_rfl)
instance ty161 : Ty Try.prog 161 (Go.TypeDesc.struct #[{ name := "Size_", type := 12, offset := 0, embedded := false, tag := "", pkgPath := "", byteOffset := 0 }, { name := "PtrBytes", type := 12, offset := 1, embedded := false, tag := "", pkgPath := "", byteOffset := 8 }, { name := "Hash", type := 154, offset := 2, embedded := false, tag := "", pkgPath := "", byteOffset := 16 }, { name := "TFlag", type := 155, offset := 3, embedded := false, tag := "", pkgPath := "", byteOffset := 20 }, { name := "Align_", type := 5, offset := 4, embedded := false, tag := "", pkgPath := "", byteOffset := 21 }, { name := "FieldAlign_", type := 5, offset := 5, embedded := false, tag := "", pkgPath := "", byteOffset := 22 }, { name := "Kind_", type := 156, offset := 6, embedded := false, tag := "", pkgPath := "", byteOffset := 23 }, { name := "Equal", type := 157, offset := 7, embedded := false, tag := "", pkgPath := "", byteOffset := 24 }, { name := "GCData", type := 158, offset := 8, embedded := false, tag := "", pkgPath := "", byteOffset := 32 }, { name := "Str", type := 159, offset := 9, embedded := false, tag := "", pkgPath := "", byteOffset := 40 }, { name := "PtrToThis", type := 160, offset := 10, embedded := false, tag := "", pkgPath := "", byteOffset := 44 }]) (.agg #[.int .u64 0, .int .u64 0, .int .u32 0, .int .u8 0, .int .u8 0, .int .u8 0, .int .u8 0, .nilFunc, .pointer none, .int .i32 0, .int .i32 0]) 11 48 := Ty.mk' Try.underlying161 (by kernel_rfl)
instance ty162 : Ty Try.prog 162 (Go.TypeDesc.struct #[{ name := "Size_", type := 12, offset := 0, embedded := false, tag := "", pkgPath := "", byteOffset := 0 }, { name := "PtrBytes", type := 12, offset := 1, embedded := false, tag := "", pkgPath := "", byteOffset := 8 }, { name := "Hash", type := 154, offset := 2, embedded := false, tag := "", pkgPath := "", byteOffset := 16 }, { name := "TFlag", type := 155, offset := 3, embedded := false, tag := "", pkgPath := "", byteOffset := 20 }, { name := "Align_", type := 5, offset := 4, embedded := false, tag := "", pkgPath := "", byteOffset := 21 }, { name := "FieldAlign_", type := 5, offset := 5, embedded := false, tag := "", pkgPath := "", byteOffset := 22 }, { name := "Kind_", type := 156, offset := 6, embedded := false, tag := "", pkgPath := "", byteOffset := 23 }, { name := "Equal", type := 157, offset := 7, embedded := false, tag := "", pkgPath := "", byteOffset := 24 }, { name := "GCData", type := 158, offset := 8, embedded := false, tag := "", pkgPath := "", byteOffset := 32 }, { name := "Str", type := 159, offset := 9, embedded := false, tag := "", pkgPath := "", byteOffset := 40 }, { name := "PtrToThis", type := 160, offset := 10, embedded := false, tag := "", pkgPath := "", byteOffset := 44 }]) (.agg #[.int .u64 0, .int .u64 0, .int .u32 0, .int .u8 0, .int .u8 0, .int .u8 0, .int .u8 0, .nilFunc, .pointer none, .int .i32 0, .int .i32 0]) 11 48 := Ty.mk' Try.underlying162 (by kernel_rfl)
instance ty163 : Ty Try.prog 163 Go.TypeDesc.unsafePointer (.pointer none) 1 8 := Ty.mk' Try.underlying163 (by kernel_rfl)
instance fl7_0 : Fld Try.prog 7 0 0 := ⟨_, _, _, _, _, _, Try.underlying7, rfl, rfl, ty2⟩
instance fl7_1 : Fld Try.prog 7 1 1 := ⟨_, _, _, _, _, _, Try.underlying7, rfl, rfl, ty3⟩
instance fl7_2 : Fld Try.prog 7 2 2 := ⟨_, _, _, _, _, _, Try.underlying7, rfl, rfl, ty4⟩
instance fl7_3 : Fld Try.prog 7 3 3 := ⟨_, _, _, _, _, _, Try.underlying7, rfl, rfl, ty6⟩
instance fl8_0 : Fld Try.prog 8 0 0 := ⟨_, _, _, _, _, _, Try.underlying8, rfl, rfl, ty2⟩
instance fl8_1 : Fld Try.prog 8 1 1 := ⟨_, _, _, _, _, _, Try.underlying8, rfl, rfl, ty3⟩
instance fl8_2 : Fld Try.prog 8 2 2 := ⟨_, _, _, _, _, _, Try.underlying8, rfl, rfl, ty4⟩
instance fl8_3 : Fld Try.prog 8 3 3 := ⟨_, _, _, _, _, _, Try.underlying8, rfl, rfl, ty6⟩
instance fl13_0 : Fld Try.prog 13 0 0 := ⟨_, _, _, _, _, _, Try.underlying13, rfl, rfl, ty9⟩
instance fl13_1 : Fld Try.prog 13 1 1 := ⟨_, _, _, _, _, _, Try.underlying13, rfl, rfl, ty12⟩
instance fl14_0 : Fld Try.prog 14 0 0 := ⟨_, _, _, _, _, _, Try.underlying14, rfl, rfl, ty9⟩
instance fl14_1 : Fld Try.prog 14 1 1 := ⟨_, _, _, _, _, _, Try.underlying14, rfl, rfl, ty12⟩
instance fl18_0 : Fld Try.prog 18 0 0 := ⟨_, _, _, _, _, _, Try.underlying18, rfl, rfl, ty17⟩
instance fl19_0 : Fld Try.prog 19 0 0 := ⟨_, _, _, _, _, _, Try.underlying19, rfl, rfl, ty17⟩
instance fl22_0 : Fld Try.prog 22 0 0 := ⟨_, _, _, _, _, _, Try.underlying22, rfl, rfl, ty2⟩
instance fl22_1 : Fld Try.prog 22 1 1 := ⟨_, _, _, _, _, _, Try.underlying22, rfl, rfl, ty2⟩
instance fl22_2 : Fld Try.prog 22 2 2 := ⟨_, _, _, _, _, _, Try.underlying22, rfl, rfl, ty2⟩
instance fl22_3 : Fld Try.prog 22 3 3 := ⟨_, _, _, _, _, _, Try.underlying22, rfl, rfl, ty3⟩
instance fl22_4 : Fld Try.prog 22 4 4 := ⟨_, _, _, _, _, _, Try.underlying22, rfl, rfl, ty3⟩
instance fl22_5 : Fld Try.prog 22 5 5 := ⟨_, _, _, _, _, _, Try.underlying22, rfl, rfl, ty3⟩
instance fl22_6 : Fld Try.prog 22 6 6 := ⟨_, _, _, _, _, _, Try.underlying22, rfl, rfl, ty2⟩
instance fl23_0 : Fld Try.prog 23 0 0 := ⟨_, _, _, _, _, _, Try.underlying23, rfl, rfl, ty2⟩
instance fl23_1 : Fld Try.prog 23 1 1 := ⟨_, _, _, _, _, _, Try.underlying23, rfl, rfl, ty2⟩
instance fl23_2 : Fld Try.prog 23 2 2 := ⟨_, _, _, _, _, _, Try.underlying23, rfl, rfl, ty2⟩
instance fl23_3 : Fld Try.prog 23 3 3 := ⟨_, _, _, _, _, _, Try.underlying23, rfl, rfl, ty3⟩
instance fl23_4 : Fld Try.prog 23 4 4 := ⟨_, _, _, _, _, _, Try.underlying23, rfl, rfl, ty3⟩
instance fl23_5 : Fld Try.prog 23 5 5 := ⟨_, _, _, _, _, _, Try.underlying23, rfl, rfl, ty3⟩
instance fl23_6 : Fld Try.prog 23 6 6 := ⟨_, _, _, _, _, _, Try.underlying23, rfl, rfl, ty2⟩
instance fl32_0 : Fld Try.prog 32 0 0 := ⟨_, _, _, _, _, _, Try.underlying32, rfl, rfl, ty31⟩
instance fl32_1 : Fld Try.prog 32 1 1 := ⟨_, _, _, _, _, _, Try.underlying32, rfl, rfl, ty9⟩
instance fl33_0 : Fld Try.prog 33 0 0 := ⟨_, _, _, _, _, _, Try.underlying33, rfl, rfl, ty31⟩
instance fl33_1 : Fld Try.prog 33 1 1 := ⟨_, _, _, _, _, _, Try.underlying33, rfl, rfl, ty9⟩
instance fl34_0 : Fld Try.prog 34 0 0 := ⟨_, _, _, _, _, _, Try.underlying34, rfl, rfl, ty3⟩
instance fl34_1 : Fld Try.prog 34 1 1 := ⟨_, _, _, _, _, _, Try.underlying34, rfl, rfl, ty3⟩
instance fl34_2 : Fld Try.prog 34 2 2 := ⟨_, _, _, _, _, _, Try.underlying34, rfl, rfl, ty3⟩
instance fl35_0 : Fld Try.prog 35 0 0 := ⟨_, _, _, _, _, _, Try.underlying35, rfl, rfl, ty3⟩
instance fl35_1 : Fld Try.prog 35 1 1 := ⟨_, _, _, _, _, _, Try.underlying35, rfl, rfl, ty3⟩
instance fl35_2 : Fld Try.prog 35 2 2 := ⟨_, _, _, _, _, _, Try.underlying35, rfl, rfl, ty3⟩
instance fl36_0 : Fld Try.prog 36 0 0 := ⟨_, _, _, _, _, _, Try.underlying36, rfl, rfl, ty2⟩
instance fl36_1 : Fld Try.prog 36 1 1 := ⟨_, _, _, _, _, _, Try.underlying36, rfl, rfl, ty35⟩
instance fl37_0 : Fld Try.prog 37 0 0 := ⟨_, _, _, _, _, _, Try.underlying37, rfl, rfl, ty2⟩
instance fl37_1 : Fld Try.prog 37 1 1 := ⟨_, _, _, _, _, _, Try.underlying37, rfl, rfl, ty35⟩
instance fl38_0 : Fld Try.prog 38 0 0 := ⟨_, _, _, _, _, _, Try.underlying38, rfl, rfl, ty3⟩
instance fl38_1 : Fld Try.prog 38 1 1 := ⟨_, _, _, _, _, _, Try.underlying38, rfl, rfl, ty2⟩
instance fl38_2 : Fld Try.prog 38 2 2 := ⟨_, _, _, _, _, _, Try.underlying38, rfl, rfl, ty2⟩
instance fl38_3 : Fld Try.prog 38 3 3 := ⟨_, _, _, _, _, _, Try.underlying38, rfl, rfl, ty33⟩
instance fl38_4 : Fld Try.prog 38 4 5 := ⟨_, _, _, _, _, _, Try.underlying38, rfl, rfl, ty37⟩
instance fl39_0 : Fld Try.prog 39 0 0 := ⟨_, _, _, _, _, _, Try.underlying39, rfl, rfl, ty3⟩
instance fl39_1 : Fld Try.prog 39 1 1 := ⟨_, _, _, _, _, _, Try.underlying39, rfl, rfl, ty2⟩
instance fl39_2 : Fld Try.prog 39 2 2 := ⟨_, _, _, _, _, _, Try.underlying39, rfl, rfl, ty2⟩
instance fl39_3 : Fld Try.prog 39 3 3 := ⟨_, _, _, _, _, _, Try.underlying39, rfl, rfl, ty33⟩
instance fl39_4 : Fld Try.prog 39 4 5 := ⟨_, _, _, _, _, _, Try.underlying39, rfl, rfl, ty37⟩
instance fl40_0 : Fld Try.prog 40 0 0 := ⟨_, _, _, _, _, _, Try.underlying40, rfl, rfl, ty3⟩
instance fl40_1 : Fld Try.prog 40 1 1 := ⟨_, _, _, _, _, _, Try.underlying40, rfl, rfl, ty2⟩
instance fl40_2 : Fld Try.prog 40 2 2 := ⟨_, _, _, _, _, _, Try.underlying40, rfl, rfl, ty37⟩
instance fl41_0 : Fld Try.prog 41 0 0 := ⟨_, _, _, _, _, _, Try.underlying41, rfl, rfl, ty3⟩
instance fl41_1 : Fld Try.prog 41 1 1 := ⟨_, _, _, _, _, _, Try.underlying41, rfl, rfl, ty2⟩
instance fl41_2 : Fld Try.prog 41 2 2 := ⟨_, _, _, _, _, _, Try.underlying41, rfl, rfl, ty37⟩
instance fl47_0 : Fld Try.prog 47 0 0 := ⟨_, _, _, _, _, _, Try.underlying47, rfl, rfl, ty33⟩
instance fl47_1 : Fld Try.prog 47 1 2 := ⟨_, _, _, _, _, _, Try.underlying47, rfl, rfl, ty37⟩
instance fl47_2 : Fld Try.prog 47 2 6 := ⟨_, _, _, _, _, _, Try.underlying47, rfl, rfl, ty2⟩
instance fl48_0 : Fld Try.prog 48 0 0 := ⟨_, _, _, _, _, _, Try.underlying48, rfl, rfl, ty33⟩
instance fl48_1 : Fld Try.prog 48 1 2 := ⟨_, _, _, _, _, _, Try.underlying48, rfl, rfl, ty37⟩
instance fl48_2 : Fld Try.prog 48 2 6 := ⟨_, _, _, _, _, _, Try.underlying48, rfl, rfl, ty2⟩
instance fl58_0 : Fld Try.prog 58 0 0 := ⟨_, _, _, _, _, _, Try.underlying58, rfl, rfl, ty2⟩
instance fl58_1 : Fld Try.prog 58 1 1 := ⟨_, _, _, _, _, _, Try.underlying58, rfl, rfl, ty2⟩
instance fl58_2 : Fld Try.prog 58 2 2 := ⟨_, _, _, _, _, _, Try.underlying58, rfl, rfl, ty2⟩
instance fl58_3 : Fld Try.prog 58 3 3 := ⟨_, _, _, _, _, _, Try.underlying58, rfl, rfl, ty3⟩
instance fl58_4 : Fld Try.prog 58 4 4 := ⟨_, _, _, _, _, _, Try.underlying58, rfl, rfl, ty3⟩
instance fl58_5 : Fld Try.prog 58 5 5 := ⟨_, _, _, _, _, _, Try.underlying58, rfl, rfl, ty3⟩
instance fl58_6 : Fld Try.prog 58 6 6 := ⟨_, _, _, _, _, _, Try.underlying58, rfl, rfl, ty2⟩
instance fl62_0 : Fld Try.prog 62 0 0 := ⟨_, _, _, _, _, _, Try.underlying62, rfl, rfl, ty58⟩
instance fl62_1 : Fld Try.prog 62 1 7 := ⟨_, _, _, _, _, _, Try.underlying62, rfl, rfl, ty61⟩
instance fl62_2 : Fld Try.prog 62 2 8 := ⟨_, _, _, _, _, _, Try.underlying62, rfl, rfl, ty2⟩
instance fl63_0 : Fld Try.prog 63 0 0 := ⟨_, _, _, _, _, _, Try.underlying63, rfl, rfl, ty58⟩
instance fl63_1 : Fld Try.prog 63 1 7 := ⟨_, _, _, _, _, _, Try.underlying63, rfl, rfl, ty61⟩
instance fl63_2 : Fld Try.prog 63 2 8 := ⟨_, _, _, _, _, _, Try.underlying63, rfl, rfl, ty2⟩
instance fl74_0 : Fld Try.prog 74 0 0 := ⟨_, _, _, _, _, _, Try.underlying74, rfl, rfl, ty2⟩
instance fl74_1 : Fld Try.prog 74 1 1 := ⟨_, _, _, _, _, _, Try.underlying74, rfl, rfl, ty54⟩
instance fl75_0 : Fld Try.prog 75 0 0 := ⟨_, _, _, _, _, _, Try.underlying75, rfl, rfl, ty2⟩
instance fl75_1 : Fld Try.prog 75 1 1 := ⟨_, _, _, _, _, _, Try.underlying75, rfl, rfl, ty54⟩
instance fl78_0 : Fld Try.prog 78 0 0 := ⟨_, _, _, _, _, _, Try.underlying78, rfl, rfl, ty31⟩
instance fl78_1 : Fld Try.prog 78 1 1 := ⟨_, _, _, _, _, _, Try.underlying78, rfl, rfl, ty9⟩
instance fl79_0 : Fld Try.prog 79 0 0 := ⟨_, _, _, _, _, _, Try.underlying79, rfl, rfl, ty3⟩
instance fl79_1 : Fld Try.prog 79 1 1 := ⟨_, _, _, _, _, _, Try.underlying79, rfl, rfl, ty3⟩
instance fl79_2 : Fld Try.prog 79 2 2 := ⟨_, _, _, _, _, _, Try.underlying79, rfl, rfl, ty3⟩
instance fl80_0 : Fld Try.prog 80 0 0 := ⟨_, _, _, _, _, _, Try.underlying80, rfl, rfl, ty2⟩
instance fl80_1 : Fld Try.prog 80 1 1 := ⟨_, _, _, _, _, _, Try.underlying80, rfl, rfl, ty79⟩
instance fl81_0 : Fld Try.prog 81 0 0 := ⟨_, _, _, _, _, _, Try.underlying81, rfl, rfl, ty2⟩
instance fl81_1 : Fld Try.prog 81 1 1 := ⟨_, _, _, _, _, _, Try.underlying81, rfl, rfl, ty79⟩
instance fl82_0 : Fld Try.prog 82 0 0 := ⟨_, _, _, _, _, _, Try.underlying82, rfl, rfl, ty78⟩
instance fl82_1 : Fld Try.prog 82 1 2 := ⟨_, _, _, _, _, _, Try.underlying82, rfl, rfl, ty81⟩
instance fl82_2 : Fld Try.prog 82 2 6 := ⟨_, _, _, _, _, _, Try.underlying82, rfl, rfl, ty2⟩
instance fl83_0 : Fld Try.prog 83 0 0 := ⟨_, _, _, _, _, _, Try.underlying83, rfl, rfl, ty78⟩
instance fl83_1 : Fld Try.prog 83 1 2 := ⟨_, _, _, _, _, _, Try.underlying83, rfl, rfl, ty81⟩
instance fl83_2 : Fld Try.prog 83 2 6 := ⟨_, _, _, _, _, _, Try.underlying83, rfl, rfl, ty2⟩
instance fl92_0 : Fld Try.prog 92 0 0 := ⟨_, _, _, _, _, _, Try.underlying92, rfl, rfl, ty23⟩
instance fl92_1 : Fld Try.prog 92 1 7 := ⟨_, _, _, _, _, _, Try.underlying92, rfl, rfl, ty91⟩
instance fl92_2 : Fld Try.prog 92 2 8 := ⟨_, _, _, _, _, _, Try.underlying92, rfl, rfl, ty88⟩
instance fl92_3 : Fld Try.prog 92 3 9 := ⟨_, _, _, _, _, _, Try.underlying92, rfl, rfl, ty2⟩
instance fl93_0 : Fld Try.prog 93 0 0 := ⟨_, _, _, _, _, _, Try.underlying93, rfl, rfl, ty23⟩
instance fl93_1 : Fld Try.prog 93 1 7 := ⟨_, _, _, _, _, _, Try.underlying93, rfl, rfl, ty91⟩
instance fl93_2 : Fld Try.prog 93 2 8 := ⟨_, _, _, _, _, _, Try.underlying93, rfl, rfl, ty88⟩
instance fl93_3 : Fld Try.prog 93 3 9 := ⟨_, _, _, _, _, _, Try.underlying93, rfl, rfl, ty2⟩
instance fl120_0 : Fld Try.prog 120 0 0 := ⟨_, _, _, _, _, _, Try.underlying120, rfl, rfl, ty3⟩
instance fl120_1 : Fld Try.prog 120 1 1 := ⟨_, _, _, _, _, _, Try.underlying120, rfl, rfl, ty118⟩
instance fl120_2 : Fld Try.prog 120 2 2 := ⟨_, _, _, _, _, _, Try.underlying120, rfl, rfl, ty119⟩
instance fl120_3 : Fld Try.prog 120 3 3 := ⟨_, _, _, _, _, _, Try.underlying120, rfl, rfl, ty119⟩
instance fl121_0 : Fld Try.prog 121 0 0 := ⟨_, _, _, _, _, _, Try.underlying121, rfl, rfl, ty3⟩
instance fl121_1 : Fld Try.prog 121 1 1 := ⟨_, _, _, _, _, _, Try.underlying121, rfl, rfl, ty118⟩
instance fl121_2 : Fld Try.prog 121 2 2 := ⟨_, _, _, _, _, _, Try.underlying121, rfl, rfl, ty119⟩
instance fl121_3 : Fld Try.prog 121 3 3 := ⟨_, _, _, _, _, _, Try.underlying121, rfl, rfl, ty119⟩
instance fl124_0 : Fld Try.prog 124 0 0 := ⟨_, _, _, _, _, _, Try.underlying124, rfl, rfl, ty33⟩
instance fl124_1 : Fld Try.prog 124 1 2 := ⟨_, _, _, _, _, _, Try.underlying124, rfl, rfl, ty119⟩
instance fl124_2 : Fld Try.prog 124 2 3 := ⟨_, _, _, _, _, _, Try.underlying124, rfl, rfl, ty119⟩
instance fl125_0 : Fld Try.prog 125 0 0 := ⟨_, _, _, _, _, _, Try.underlying125, rfl, rfl, ty33⟩
instance fl125_1 : Fld Try.prog 125 1 2 := ⟨_, _, _, _, _, _, Try.underlying125, rfl, rfl, ty119⟩
instance fl125_2 : Fld Try.prog 125 2 3 := ⟨_, _, _, _, _, _, Try.underlying125, rfl, rfl, ty119⟩
instance fl149_0 : Fld Try.prog 149 0 0 := ⟨_, _, _, _, _, _, Try.underlying149, rfl, rfl, ty17⟩
instance fl149_1 : Fld Try.prog 149 1 1 := ⟨_, _, _, _, _, _, Try.underlying149, rfl, rfl, ty17⟩
instance fl149_2 : Fld Try.prog 149 2 2 := ⟨_, _, _, _, _, _, Try.underlying149, rfl, rfl, ty17⟩
instance fl149_3 : Fld Try.prog 149 3 3 := ⟨_, _, _, _, _, _, Try.underlying149, rfl, rfl, ty9⟩
instance fl150_0 : Fld Try.prog 150 0 0 := ⟨_, _, _, _, _, _, Try.underlying150, rfl, rfl, ty17⟩
instance fl150_1 : Fld Try.prog 150 1 1 := ⟨_, _, _, _, _, _, Try.underlying150, rfl, rfl, ty17⟩
instance fl150_2 : Fld Try.prog 150 2 2 := ⟨_, _, _, _, _, _, Try.underlying150, rfl, rfl, ty17⟩
instance fl150_3 : Fld Try.prog 150 3 3 := ⟨_, _, _, _, _, _, Try.underlying150, rfl, rfl, ty9⟩
instance fl161_0 : Fld Try.prog 161 0 0 := ⟨_, _, _, _, _, _, Try.underlying161, rfl, rfl, ty12⟩
instance fl161_1 : Fld Try.prog 161 1 1 := ⟨_, _, _, _, _, _, Try.underlying161, rfl, rfl, ty12⟩
instance fl161_2 : Fld Try.prog 161 2 2 := ⟨_, _, _, _, _, _, Try.underlying161, rfl, rfl, ty154⟩
instance fl161_3 : Fld Try.prog 161 3 3 := ⟨_, _, _, _, _, _, Try.underlying161, rfl, rfl, ty155⟩
instance fl161_4 : Fld Try.prog 161 4 4 := ⟨_, _, _, _, _, _, Try.underlying161, rfl, rfl, ty5⟩
instance fl161_5 : Fld Try.prog 161 5 5 := ⟨_, _, _, _, _, _, Try.underlying161, rfl, rfl, ty5⟩
instance fl161_6 : Fld Try.prog 161 6 6 := ⟨_, _, _, _, _, _, Try.underlying161, rfl, rfl, ty156⟩
instance fl161_7 : Fld Try.prog 161 7 7 := ⟨_, _, _, _, _, _, Try.underlying161, rfl, rfl, ty157⟩
instance fl161_8 : Fld Try.prog 161 8 8 := ⟨_, _, _, _, _, _, Try.underlying161, rfl, rfl, ty158⟩
instance fl161_9 : Fld Try.prog 161 9 9 := ⟨_, _, _, _, _, _, Try.underlying161, rfl, rfl, ty159⟩
instance fl161_10 : Fld Try.prog 161 10 10 := ⟨_, _, _, _, _, _, Try.underlying161, rfl, rfl, ty160⟩
instance fl162_0 : Fld Try.prog 162 0 0 := ⟨_, _, _, _, _, _, Try.underlying162, rfl, rfl, ty12⟩
instance fl162_1 : Fld Try.prog 162 1 1 := ⟨_, _, _, _, _, _, Try.underlying162, rfl, rfl, ty12⟩
instance fl162_2 : Fld Try.prog 162 2 2 := ⟨_, _, _, _, _, _, Try.underlying162, rfl, rfl, ty154⟩
instance fl162_3 : Fld Try.prog 162 3 3 := ⟨_, _, _, _, _, _, Try.underlying162, rfl, rfl, ty155⟩
instance fl162_4 : Fld Try.prog 162 4 4 := ⟨_, _, _, _, _, _, Try.underlying162, rfl, rfl, ty5⟩
instance fl162_5 : Fld Try.prog 162 5 5 := ⟨_, _, _, _, _, _, Try.underlying162, rfl, rfl, ty5⟩
instance fl162_6 : Fld Try.prog 162 6 6 := ⟨_, _, _, _, _, _, Try.underlying162, rfl, rfl, ty156⟩
instance fl162_7 : Fld Try.prog 162 7 7 := ⟨_, _, _, _, _, _, Try.underlying162, rfl, rfl, ty157⟩
instance fl162_8 : Fld Try.prog 162 8 8 := ⟨_, _, _, _, _, _, Try.underlying162, rfl, rfl, ty158⟩
instance fl162_9 : Fld Try.prog 162 9 9 := ⟨_, _, _, _, _, _, Try.underlying162, rfl, rfl, ty159⟩
instance fl162_10 : Fld Try.prog 162 10 10 := ⟨_, _, _, _, _, _, Try.underlying162, rfl, rfl, ty160⟩
instance fn2 : FnOk Try.prog 2 := ⟨Try.f2, Try.func2, by kernel_rfl, by kernel_rfl⟩
instance fn3 : FnOk Try.prog 3 := ⟨Try.f3, Try.func3, by kernel_rfl, by kernel_rfl⟩
instance fn4 : FnOk Try.prog 4 := ⟨Try.f4, Try.func4, by kernel_rfl, by kernel_rfl⟩
instance fn5 : FnOk Try.prog 5 := ⟨Try.f5, Try.func5, by kernel_rfl, by kernel_rfl⟩
instance fn6 : FnOk Try.prog 6 := ⟨Try.f6, Try.func6, by kernel_rfl, by kernel_rfl⟩
instance fn7 : FnOk Try.prog 7 := ⟨Try.f7, Try.func7, by kernel_rfl, by kernel_rfl⟩
instance fn8 : FnOk Try.prog 8 := ⟨Try.f8, Try.func8, by kernel_rfl, by kernel_rfl⟩
instance fn9 : FnOk Try.prog 9 := ⟨Try.f9, Try.func9, by kernel_rfl, by kernel_rfl⟩
instance fn10 : FnOk Try.prog 10 := ⟨Try.f10, Try.func10, by kernel_rfl, by kernel_rfl⟩
instance fn11 : FnOk Try.prog 11 := ⟨Try.f11, Try.func11, by kernel_rfl, by kernel_rfl⟩
instance fn12 : FnOk Try.prog 12 := ⟨Try.f12, Try.func12, by kernel_rfl, by kernel_rfl⟩
instance fn13 : FnOk Try.prog 13 := ⟨Try.f13, Try.func13, by kernel_rfl, by kernel_rfl⟩
instance fn14 : FnOk Try.prog 14 := ⟨Try.f14, Try.func14, by kernel_rfl, by kernel_rfl⟩
instance fn15 : FnOk Try.prog 15 := ⟨Try.f15, Try.func15, by kernel_rfl, by kernel_rfl⟩
instance fn16 : FnOk Try.prog 16 := ⟨Try.f16, Try.func16, by kernel_rfl, by kernel_rfl⟩
instance fn17 : FnOk Try.prog 17 := ⟨Try.f17, Try.func17, by kernel_rfl, by kernel_rfl⟩
instance fn18 : FnOk Try.prog 18 := ⟨Try.f18, Try.func18, by kernel_rfl, by kernel_rfl⟩
instance fn19 : FnOk Try.prog 19 := ⟨Try.f19, Try.func19, by kernel_rfl, by kernel_rfl⟩
instance fn20 : FnOk Try.prog 20 := ⟨Try.f20, Try.func20, by kernel_rfl, by kernel_rfl⟩
instance fn21 : FnOk Try.prog 21 := ⟨Try.f21, Try.func21, by kernel_rfl, by kernel_rfl⟩
instance fn22 : FnOk Try.prog 22 := ⟨Try.f22, Try.func22, by kernel_rfl, by kernel_rfl⟩
instance fn23 : FnOk Try.prog 23 := ⟨Try.f23, Try.func23, by kernel_rfl, by kernel_rfl⟩
instance fn24 : FnOk Try.prog 24 := ⟨Try.f24, Try.func24, by kernel_rfl, by kernel_rfl⟩
instance fn25 : FnOk Try.prog 25 := ⟨Try.f25, Try.func25, by kernel_rfl, by kernel_rfl⟩
instance fn26 : FnOk Try.prog 26 := ⟨Try.f26, Try.func26, by kernel_rfl, by kernel_rfl⟩
instance fn27 : FnOk Try.prog 27 := ⟨Try.f27, Try.func27, by kernel_rfl, by kernel_rfl⟩
instance fn28 : FnOk Try.prog 28 := ⟨Try.f28, Try.func28, by kernel_rfl, by kernel_rfl⟩
instance fn29 : FnOk Try.prog 29 := ⟨Try.f29, Try.func29, by kernel_rfl, by kernel_rfl⟩
instance fn30 : FnOk Try.prog 30 := ⟨Try.f30, Try.func30, by kernel_rfl, by kernel_rfl⟩
instance fn31 : FnOk Try.prog 31 := ⟨Try.f31, Try.func31, by kernel_rfl, by kernel_rfl⟩
instance fn32 : FnOk Try.prog 32 := ⟨Try.f32, Try.func32, by kernel_rfl, by kernel_rfl⟩
instance fn33 : FnOk Try.prog 33 := ⟨Try.f33, Try.func33, by kernel_rfl, by kernel_rfl⟩
instance fn34 : FnOk Try.prog 34 := ⟨Try.f34, Try.func34, by kernel_rfl, by kernel_rfl⟩
instance fn35 : FnOk Try.prog 35 := ⟨Try.f35, Try.func35, by kernel_rfl, by kernel_rfl⟩
instance fn36 : FnOk Try.prog 36 := ⟨Try.f36, Try.func36, by kernel_rfl, by kernel_rfl⟩
instance fn37 : FnOk Try.prog 37 := ⟨Try.f37, Try.func37, by kernel_rfl, by kernel_rfl⟩
instance fn38 : FnOk Try.prog 38 := ⟨Try.f38, Try.func38, by kernel_rfl, by kernel_rfl⟩
instance fn39 : FnOk Try.prog 39 := ⟨Try.f39, Try.func39, by kernel_rfl, by kernel_rfl⟩
instance fn40 : FnOk Try.prog 40 := ⟨Try.f40, Try.func40, by kernel_rfl, by kernel_rfl⟩
instance fn41 : FnOk Try.prog 41 := ⟨Try.f41, Try.func41, by kernel_rfl, by kernel_rfl⟩
instance fn42 : FnOk Try.prog 42 := ⟨Try.f42, Try.func42, by kernel_rfl, by kernel_rfl⟩
instance fn43 : FnOk Try.prog 43 := ⟨Try.f43, Try.func43, by kernel_rfl, by kernel_rfl⟩
instance fn44 : FnOk Try.prog 44 := ⟨Try.f44, Try.func44, by kernel_rfl, by kernel_rfl⟩
instance fn45 : FnOk Try.prog 45 := ⟨Try.f45, Try.func45, by kernel_rfl, by kernel_rfl⟩
instance fn46 : FnOk Try.prog 46 := ⟨Try.f46, Try.func46, by kernel_rfl, by kernel_rfl⟩
instance fn47 : FnOk Try.prog 47 := ⟨Try.f47, Try.func47, by kernel_rfl, by kernel_rfl⟩
instance fn48 : FnOk Try.prog 48 := ⟨Try.f48, Try.func48, by kernel_rfl, by kernel_rfl⟩
instance fn49 : FnOk Try.prog 49 := ⟨Try.f49, Try.func49, by kernel_rfl, by kernel_rfl⟩
instance fn50 : FnOk Try.prog 50 := ⟨Try.f50, Try.func50, by kernel_rfl, by kernel_rfl⟩
instance fn51 : FnOk Try.prog 51 := ⟨Try.f51, Try.func51, by kernel_rfl, by kernel_rfl⟩
instance fn52 : FnOk Try.prog 52 := ⟨Try.f52, Try.func52, by kernel_rfl, by kernel_rfl⟩
instance fn53 : FnOk Try.prog 53 := ⟨Try.f53, Try.func53, by kernel_rfl, by kernel_rfl⟩
instance fn54 : FnOk Try.prog 54 := ⟨Try.f54, Try.func54, by kernel_rfl, by kernel_rfl⟩
instance fn55 : FnOk Try.prog 55 := ⟨Try.f55, Try.func55, by kernel_rfl, by kernel_rfl⟩
instance fn56 : FnOk Try.prog 56 := ⟨Try.f56, Try.func56, by kernel_rfl, by kernel_rfl⟩
instance fn57 : FnOk Try.prog 57 := ⟨Try.f57, Try.func57, by kernel_rfl, by kernel_rfl⟩
instance fn58 : FnOk Try.prog 58 := ⟨Try.f58, Try.func58, by kernel_rfl, by kernel_rfl⟩
instance fn59 : FnOk Try.prog 59 := ⟨Try.f59, Try.func59, by kernel_rfl, by kernel_rfl⟩
instance fn60 : FnOk Try.prog 60 := ⟨Try.f60, Try.func60, by kernel_rfl, by kernel_rfl⟩
instance fn61 : FnOk Try.prog 61 := ⟨Try.f61, Try.func61, by kernel_rfl, by kernel_rfl⟩
instance fn62 : FnOk Try.prog 62 := ⟨Try.f62, Try.func62, by kernel_rfl, by kernel_rfl⟩
instance fn63 : FnOk Try.prog 63 := ⟨Try.f63, Try.func63, by kernel_rfl, by kernel_rfl⟩
instance fn64 : FnOk Try.prog 64 := ⟨Try.f64, Try.func64, by kernel_rfl, by kernel_rfl⟩
instance fn65 : FnOk Try.prog 65 := ⟨Try.f65, Try.func65, by kernel_rfl, by kernel_rfl⟩
instance fn66 : FnOk Try.prog 66 := ⟨Try.f66, Try.func66, by kernel_rfl, by kernel_rfl⟩
instance fn67 : FnOk Try.prog 67 := ⟨Try.f67, Try.func67, by kernel_rfl, by kernel_rfl⟩
instance fn69 : FnOk Try.prog 69 := ⟨Try.f69, Try.func69, by kernel_rfl, by kernel_rfl⟩
instance fn70 : FnOk Try.prog 70 := ⟨Try.f70, Try.func70, by kernel_rfl, by kernel_rfl⟩
end Go.Proofs.Ytlhjioapbgnjfaa
