/- DERIVED. The rows of the types and of the functions. -/
import Derived.Test.YteafcajlfagbkaaVo
import Derived.Test.YteafcajlfagbkaaProg
import Derived.KernelRfl
namespace Go.Proofs.Yteafcajlfagbkaa
open Go Sl
instance ty0 : Ty Try.prog 0 (Go.TypeDesc.tuple #[]) (.tuple #[]) 1 0 := Ty.mk' Try.underlying0 (by kernel_rfl)
instance ty1 : Ty Try.prog 1 (Go.TypeDesc.func #[] #[] false) (.nilFunc) 1 8 := Ty.mk' Try.underlying1 (by kernel_rfl)
instance ty2 : Ty Try.prog 2 (Go.TypeDesc.int Go.IntKind.i64) (.int .i64 0) 1 8 := Ty.mk' Try.underlying2 (by kernel_rfl)
instance ty3 : Ty Try.prog 3 (Go.TypeDesc.int Go.IntKind.i64) (.int .i64 0) 1 8 := Ty.mk' Try.underlying3 (by kernel_rfl)
instance ty4 : Ty Try.prog 4 Go.TypeDesc.bool (.bool false) 1 1 := Ty.mk' Try.underlying4 (by kernel_rfl)
instance ty5 : Ty Try.prog 5 (Go.TypeDesc.int Go.IntKind.u8) (.int .u8 0) 1 1 := Ty.mk' Try.underlying5 (by kernel_rfl)
instance ty6 : Ty Try.prog 6 (Go.TypeDesc.int Go.IntKind.u8) (.int .u8 0) 1 1 := Ty.mk' Try.underlying6 (by kernel_rfl)
instance ty7 : Ty Try.prog 7 (Go.TypeDesc.struct #[{ name := "x", type := 2, offset := 0, embedded := false, tag := "", pkgPath := "runtime", byteOffset := 0 }, { name := "y", type := 3, offset := 1, embedded := false, tag := "", pkgPath := "runtime", byteOffset := 8 }, { name := "signed", type := 4, offset := 2, embedded := false, tag := "", pkgPath := "runtime", byteOffset := 16 }, { name := "code", type := 6, offset := 3, embedded := false, tag := "", pkgPath := "runtime", byteOffset := 17 }]) (.agg #[.int .i64 0, .int .i64 0, .bool false, .int .u8 0]) 4 24 := Ty.mk' Try.underlying7 (by kernel_rfl)
instance ty8 : Ty Try.prog 8 (Go.TypeDesc.struct #[{ name := "x", type := 2, offset := 0, embedded := false, tag := "", pkgPath := "runtime", byteOffset := 0 }, { name := "y", type := 3, offset := 1, embedded := false, tag := "", pkgPath := "runtime", byteOffset := 8 }, { name := "signed", type := 4, offset := 2, embedded := false, tag := "", pkgPath := "runtime", byteOffset := 16 }, { name := "code", type := 6, offset := 3, embedded := false, tag := "", pkgPath := "runtime", byteOffset := 17 }]) (.agg #[.int .i64 0, .int .i64 0, .bool false, .int .u8 0]) 4 24 := Ty.mk' Try.underlying8 (by kernel_rfl)
instance ty9 : Ty Try.prog 9 Go.TypeDesc.string (.string ByteArray.empty) 1 16 := Ty.mk' Try.underlying9 (by kernel_rfl)
instance ty10 : Ty Try.prog 10 Go.TypeDesc.string (.string ByteArray.empty) 1 16 := Ty.mk' Try.underlying10 (by kernel_rfl)
instance ty11 : Ty Try.prog 11 Go.TypeDesc.string (.string ByteArray.empty) 1 16 := Ty.mk' Try.underlying11 (by kernel_rfl)
instance ty12 : Ty Try.prog 12 (Go.TypeDesc.int Go.IntKind.u64) (.int .u64 0) 1 8 := Ty.mk' Try.underlying12 (by kernel_rfl)
instance ty13 : Ty Try.prog 13 (Go.TypeDesc.struct #[{ name := "msg", type := 9, offset := 0, embedded := false, tag := "", pkgPath := "runtime", byteOffset := 0 }, { name := "addr", type := 12, offset := 1, embedded := false, tag := "", pkgPath := "runtime", byteOffset := 16 }]) (.agg #[.string ByteArray.empty, .int .u64 0]) 2 24 := Ty.mk' Try.underlying13 (by kernel_rfl)
instance ty14 : Ty Try.prog 14 (Go.TypeDesc.struct #[{ name := "msg", type := 9, offset := 0, embedded := false, tag := "", pkgPath := "runtime", byteOffset := 0 }, { name := "addr", type := 12, offset := 1, embedded := false, tag := "", pkgPath := "runtime", byteOffset := 16 }]) (.agg #[.string ByteArray.empty, .int .u64 0]) 2 24 := Ty.mk' Try.underlying14 (by kernel_rfl)
instance ty15 : Ty Try.prog 15 (Go.TypeDesc.pointer 126) (.pointer none) 1 8 := Ty.mk' Try.underlying15 (by kernel_rfl)
instance ty16 : Ty Try.prog 16 (Go.TypeDesc.pointer 129) (.pointer none) 1 8 := Ty.mk' Try.underlying16 (by kernel_rfl)
instance ty17 : Ty Try.prog 17 (Go.TypeDesc.pointer 137) (.pointer none) 1 8 := Ty.mk' Try.underlying17 (by kernel_rfl)
instance ty18 : Ty Try.prog 18 (Go.TypeDesc.struct #[{ name := "typ", type := 17, offset := 0, embedded := false, tag := "", pkgPath := "internal/runtime/maps", byteOffset := 0 }]) (.agg #[.pointer none]) 1 8 := Ty.mk' Try.underlying18 (by kernel_rfl)
instance ty19 : Ty Try.prog 19 (Go.TypeDesc.struct #[{ name := "typ", type := 17, offset := 0, embedded := false, tag := "", pkgPath := "internal/runtime/maps", byteOffset := 0 }]) (.agg #[.pointer none]) 1 8 := Ty.mk' Try.underlying19 (by kernel_rfl)
instance ty20 : Ty Try.prog 20 (Go.TypeDesc.interface #[]) (.nilIface) 1 16 := Ty.mk' Try.underlying20 (by kernel_rfl)
instance ty21 : Ty Try.prog 21 (Go.TypeDesc.int Go.IntKind.i32) (.int .i32 0) 1 4 := Ty.mk' Try.underlying21 (by kernel_rfl)
instance ty22 : Ty Try.prog 22 (Go.TypeDesc.slice 31) (.slice none 0 0) 1 24 := Ty.mk' Try.underlying22 (by kernel_rfl)
instance ty23 : Ty Try.prog 23 (Go.TypeDesc.pointer 65) (.pointer none) 1 8 := Ty.mk' Try.underlying23 (by kernel_rfl)
instance ty24 : Ty Try.prog 24 (Go.TypeDesc.func #[] #[23] false) (.nilFunc) 1 8 := Ty.mk' Try.underlying24 (by kernel_rfl)
instance ty25 : Ty Try.prog 25 (Go.TypeDesc.pointer 70) (.pointer none) 1 8 := Ty.mk' Try.underlying25 (by kernel_rfl)
instance ty26 : Ty Try.prog 26 (Go.TypeDesc.func #[] #[25] false) (.nilFunc) 1 8 := Ty.mk' Try.underlying26 (by kernel_rfl)
instance ty27 : Ty Try.prog 27 (Go.TypeDesc.func #[] #[4] false) (.nilFunc) 1 8 := Ty.mk' Try.underlying27 (by kernel_rfl)
instance ty28 : Ty Try.prog 28 (Go.TypeDesc.map 3 2) (.map none) 1 8 := Ty.mk' Try.underlying28 (by kernel_rfl)
instance ty29 : Ty Try.prog 29 (Go.TypeDesc.slice 3) (.slice none 0 0) 1 24 := Ty.mk' Try.underlying29 (by kernel_rfl)
instance ty30 : Ty Try.prog 30 (Go.TypeDesc.struct #[{ name := "Kind", type := 3, offset := 0, embedded := false, tag := "", pkgPath := "", byteOffset := 0 }, { name := "Item", type := 3, offset := 1, embedded := false, tag := "", pkgPath := "", byteOffset := 8 }, { name := "At", type := 2, offset := 2, embedded := false, tag := "", pkgPath := "", byteOffset := 16 }]) (.agg #[.int .i64 0, .int .i64 0, .int .i64 0]) 3 24 := Ty.mk' Try.underlying30 (by kernel_rfl)
instance ty31 : Ty Try.prog 31 (Go.TypeDesc.struct #[{ name := "Kind", type := 3, offset := 0, embedded := false, tag := "", pkgPath := "", byteOffset := 0 }, { name := "Item", type := 3, offset := 1, embedded := false, tag := "", pkgPath := "", byteOffset := 8 }, { name := "At", type := 2, offset := 2, embedded := false, tag := "", pkgPath := "", byteOffset := 16 }]) (.agg #[.int .i64 0, .int .i64 0, .int .i64 0]) 3 24 := Ty.mk' Try.underlying31 (by kernel_rfl)
instance ty32 : Ty Try.prog 32 (Go.TypeDesc.int Go.IntKind.i64) (.int .i64 0) 1 8 := Ty.mk' Try.underlying32 (by kernel_rfl)
instance ty33 : Ty Try.prog 33 (Go.TypeDesc.func #[3] #[32] false) (.nilFunc) 1 8 := Ty.mk' Try.underlying33 (by kernel_rfl)
instance ty34 : Ty Try.prog 34 (Go.TypeDesc.func #[2, 3] #[32] false) (.nilFunc) 1 8 := Ty.mk' Try.underlying34 (by kernel_rfl)
instance ty35 : Ty Try.prog 35 (Go.TypeDesc.tuple #[2, 4]) (.tuple #[.int .i64 0, .bool false]) 1 0 := Ty.mk' Try.underlying35 (by kernel_rfl)
instance ty36 : Ty Try.prog 36 (Go.TypeDesc.tuple #[3, 4]) (.tuple #[.int .i64 0, .bool false]) 1 0 := Ty.mk' Try.underlying36 (by kernel_rfl)
instance ty37 : Ty Try.prog 37 (Go.TypeDesc.func #[] #[3, 4] false) (.nilFunc) 1 8 := Ty.mk' Try.underlying37 (by kernel_rfl)
instance ty38 : Ty Try.prog 38 (Go.TypeDesc.func #[] #[3] false) (.nilFunc) 1 8 := Ty.mk' Try.underlying38 (by kernel_rfl)
instance ty39 : Ty Try.prog 39 (Go.TypeDesc.tuple #[2, 3, 4]) (.tuple #[.int .i64 0, .int .i64 0, .bool false]) 1 0 := Ty.mk' Try.underlying39 (by kernel_rfl)
instance ty40 : Ty Try.prog 40 (Go.TypeDesc.func #[] #[2, 3, 4] false) (.nilFunc) 1 8 := Ty.mk' Try.underlying40 (by kernel_rfl)
instance ty41 : Ty Try.prog 41 (Go.TypeDesc.func #[2] #[3, 4] false) (.nilFunc) 1 8 := Ty.mk' Try.underlying41 (by kernel_rfl)
instance ty42 : Ty Try.prog 42 (Go.TypeDesc.func #[22] #[4] false) (.nilFunc) 1 8 := Ty.mk' Try.underlying42 (by kernel_rfl)
instance ty43 : Ty Try.prog 43 (Go.TypeDesc.slice 47) (.slice none 0 0) 1 24 := Ty.mk' Try.underlying43 (by kernel_rfl)
instance ty44 : Ty Try.prog 44 (Go.TypeDesc.func #[43, 3] #[3] false) (.nilFunc) 1 8 := Ty.mk' Try.underlying44 (by kernel_rfl)
instance ty45 : Ty Try.prog 45 (Go.TypeDesc.func #[3, 3] #[3] false) (.nilFunc) 1 8 := Ty.mk' Try.underlying45 (by kernel_rfl)
instance ty46 : Ty Try.prog 46 (Go.TypeDesc.struct #[{ name := "At", type := 2, offset := 0, embedded := false, tag := "", pkgPath := "", byteOffset := 0 }, { name := "Item", type := 3, offset := 1, embedded := false, tag := "", pkgPath := "", byteOffset := 8 }]) (.agg #[.int .i64 0, .int .i64 0]) 2 16 := Ty.mk' Try.underlying46 (by kernel_rfl)
instance ty47 : Ty Try.prog 47 (Go.TypeDesc.struct #[{ name := "At", type := 2, offset := 0, embedded := false, tag := "", pkgPath := "", byteOffset := 0 }, { name := "Item", type := 3, offset := 1, embedded := false, tag := "", pkgPath := "", byteOffset := 8 }]) (.agg #[.int .i64 0, .int .i64 0]) 2 16 := Ty.mk' Try.underlying47 (by kernel_rfl)
instance ty48 : Ty Try.prog 48 (Go.TypeDesc.func #[43, 3] #[43] false) (.nilFunc) 1 8 := Ty.mk' Try.underlying48 (by kernel_rfl)
instance ty49 : Ty Try.prog 49 (Go.TypeDesc.func #[3] #[4] false) (.nilFunc) 1 8 := Ty.mk' Try.underlying49 (by kernel_rfl)
instance ty50 : Ty Try.prog 50 (Go.TypeDesc.tuple #[43, 3]) (.tuple #[.slice none 0 0, .int .i64 0]) 1 0 := Ty.mk' Try.underlying50 (by kernel_rfl)
instance ty51 : Ty Try.prog 51 (Go.TypeDesc.func #[43, 2, 3] #[43, 3] false) (.nilFunc) 1 8 := Ty.mk' Try.underlying51 (by kernel_rfl)
instance ty52 : Ty Try.prog 52 (Go.TypeDesc.func #[23, 43, 3] #[4] false) (.nilFunc) 1 8 := Ty.mk' Try.underlying52 (by kernel_rfl)
instance ty53 : Ty Try.prog 53 (Go.TypeDesc.func #[43, 2] #[3] false) (.nilFunc) 1 8 := Ty.mk' Try.underlying53 (by kernel_rfl)
instance ty54 : Ty Try.prog 54 (Go.TypeDesc.func #[2] #[29] false) (.nilFunc) 1 8 := Ty.mk' Try.underlying54 (by kernel_rfl)
instance ty55 : Ty Try.prog 55 (Go.TypeDesc.func #[25, 43, 3] #[4] false) (.nilFunc) 1 8 := Ty.mk' Try.underlying55 (by kernel_rfl)
instance ty56 : Ty Try.prog 56 (Go.TypeDesc.func #[3] #[2, 4] false) (.nilFunc) 1 8 := Ty.mk' Try.underlying56 (by kernel_rfl)
instance ty57 : Ty Try.prog 57 (Go.TypeDesc.slice 59) (.slice none 0 0) 1 24 := Ty.mk' Try.underlying57 (by kernel_rfl)
instance ty58 : Ty Try.prog 58 (Go.TypeDesc.func #[] #[57] false) (.nilFunc) 1 8 := Ty.mk' Try.underlying58 (by kernel_rfl)
instance ty59 : Ty Try.prog 59 (Go.TypeDesc.struct #[{ name := "At", type := 2, offset := 0, embedded := false, tag := "", pkgPath := "", byteOffset := 0 }, { name := "Item", type := 3, offset := 1, embedded := false, tag := "", pkgPath := "", byteOffset := 8 }]) (.agg #[.int .i64 0, .int .i64 0]) 2 16 := Ty.mk' Try.underlying59 (by kernel_rfl)
instance ty60 : Ty Try.prog 60 (Go.TypeDesc.func #[22, 2] #[4] false) (.nilFunc) 1 8 := Ty.mk' Try.underlying60 (by kernel_rfl)
instance ty61 : Ty Try.prog 61 (Go.TypeDesc.func #[] #[29] false) (.nilFunc) 1 8 := Ty.mk' Try.underlying61 (by kernel_rfl)
instance ty62 : Ty Try.prog 62 (Go.TypeDesc.func #[3, 2] #[4] false) (.nilFunc) 1 8 := Ty.mk' Try.underlying62 (by kernel_rfl)
instance ty63 : Ty Try.prog 63 (Go.TypeDesc.map 3 3) (.map none) 1 8 := Ty.mk' Try.underlying63 (by kernel_rfl)
instance ty64 : Ty Try.prog 64 (Go.TypeDesc.struct #[{ name := "at", type := 63, offset := 0, embedded := false, tag := "", pkgPath := "convoy/queue", byteOffset := 0 }, { name := "items", type := 63, offset := 1, embedded := false, tag := "", pkgPath := "convoy/queue", byteOffset := 8 }, { name := "from", type := 3, offset := 2, embedded := false, tag := "", pkgPath := "convoy/queue", byteOffset := 16 }, { name := "to", type := 3, offset := 3, embedded := false, tag := "", pkgPath := "convoy/queue", byteOffset := 24 }]) (.agg #[.map none, .map none, .int .i64 0, .int .i64 0]) 4 32 := Ty.mk' Try.underlying64 (by kernel_rfl)
instance ty65 : Ty Try.prog 65 (Go.TypeDesc.struct #[{ name := "at", type := 63, offset := 0, embedded := false, tag := "", pkgPath := "convoy/queue", byteOffset := 0 }, { name := "items", type := 63, offset := 1, embedded := false, tag := "", pkgPath := "convoy/queue", byteOffset := 8 }, { name := "from", type := 3, offset := 2, embedded := false, tag := "", pkgPath := "convoy/queue", byteOffset := 16 }, { name := "to", type := 3, offset := 3, embedded := false, tag := "", pkgPath := "convoy/queue", byteOffset := 24 }]) (.agg #[.map none, .map none, .int .i64 0, .int .i64 0]) 4 32 := Ty.mk' Try.underlying65 (by kernel_rfl)
instance ty66 : Ty Try.prog 66 (Go.TypeDesc.map 3 72) (.map none) 1 8 := Ty.mk' Try.underlying66 (by kernel_rfl)
instance ty67 : Ty Try.prog 67 (Go.TypeDesc.slice 72) (.slice none 0 0) 1 24 := Ty.mk' Try.underlying67 (by kernel_rfl)
instance ty68 : Ty Try.prog 68 (Go.TypeDesc.slice 72) (.slice none 0 0) 1 24 := Ty.mk' Try.underlying68 (by kernel_rfl)
instance ty69 : Ty Try.prog 69 (Go.TypeDesc.struct #[{ name := "r", type := 68, offset := 0, embedded := false, tag := "", pkgPath := "convoy/queue", byteOffset := 0 }, { name := "there", type := 66, offset := 1, embedded := false, tag := "", pkgPath := "convoy/queue", byteOffset := 24 }, { name := "turn", type := 3, offset := 2, embedded := false, tag := "", pkgPath := "convoy/queue", byteOffset := 32 }]) (.agg #[.slice none 0 0, .map none, .int .i64 0]) 3 40 := Ty.mk' Try.underlying69 (by kernel_rfl)
instance ty70 : Ty Try.prog 70 (Go.TypeDesc.struct #[{ name := "r", type := 68, offset := 0, embedded := false, tag := "", pkgPath := "convoy/queue", byteOffset := 0 }, { name := "there", type := 66, offset := 1, embedded := false, tag := "", pkgPath := "convoy/queue", byteOffset := 24 }, { name := "turn", type := 3, offset := 2, embedded := false, tag := "", pkgPath := "convoy/queue", byteOffset := 32 }]) (.agg #[.slice none 0 0, .map none, .int .i64 0]) 3 40 := Ty.mk' Try.underlying70 (by kernel_rfl)
instance ty71 : Ty Try.prog 71 (Go.TypeDesc.struct #[{ name := "at", type := 2, offset := 0, embedded := false, tag := "", pkgPath := "convoy/queue", byteOffset := 0 }, { name := "turn", type := 3, offset := 1, embedded := false, tag := "", pkgPath := "convoy/queue", byteOffset := 8 }, { name := "item", type := 3, offset := 2, embedded := false, tag := "", pkgPath := "convoy/queue", byteOffset := 16 }]) (.agg #[.int .i64 0, .int .i64 0, .int .i64 0]) 3 24 := Ty.mk' Try.underlying71 (by kernel_rfl)
instance ty72 : Ty Try.prog 72 (Go.TypeDesc.struct #[{ name := "at", type := 2, offset := 0, embedded := false, tag := "", pkgPath := "convoy/queue", byteOffset := 0 }, { name := "turn", type := 3, offset := 1, embedded := false, tag := "", pkgPath := "convoy/queue", byteOffset := 8 }, { name := "item", type := 3, offset := 2, embedded := false, tag := "", pkgPath := "convoy/queue", byteOffset := 16 }]) (.agg #[.int .i64 0, .int .i64 0, .int .i64 0]) 3 24 := Ty.mk' Try.underlying72 (by kernel_rfl)
instance ty73 : Ty Try.prog 73 (Go.TypeDesc.tuple #[72, 4]) (.tuple #[.agg #[.int .i64 0, .int .i64 0, .int .i64 0], .bool false]) 1 0 := Ty.mk' Try.underlying73 (by kernel_rfl)
instance ty74 : Ty Try.prog 74 (Go.TypeDesc.func #[82, 20] #[] false) (.nilFunc) 1 8 := Ty.mk' Try.underlying74 (by kernel_rfl)
instance ty75 : Ty Try.prog 75 (Go.TypeDesc.pointer 68) (.pointer none) 1 8 := Ty.mk' Try.underlying75 (by kernel_rfl)
instance ty76 : Ty Try.prog 76 (Go.TypeDesc.func #[] #[72, 4] false) (.nilFunc) 1 8 := Ty.mk' Try.underlying76 (by kernel_rfl)
instance ty77 : Ty Try.prog 77 (Go.TypeDesc.func #[82] #[20] false) (.nilFunc) 1 8 := Ty.mk' Try.underlying77 (by kernel_rfl)
instance ty78 : Ty Try.prog 78 (Go.TypeDesc.func #[67, 79] #[] false) (.nilFunc) 1 8 := Ty.mk' Try.underlying78 (by kernel_rfl)
instance ty79 : Ty Try.prog 79 (Go.TypeDesc.func #[72, 72] #[3] false) (.nilFunc) 1 8 := Ty.mk' Try.underlying79 (by kernel_rfl)
instance ty80 : Ty Try.prog 80 (Go.TypeDesc.func #[29] #[] false) (.nilFunc) 1 8 := Ty.mk' Try.underlying80 (by kernel_rfl)
instance ty81 : Ty Try.prog 81 (Go.TypeDesc.interface #[("Len", 38), ("Less", 94), ("Pop", 87), ("Push", 83), ("Swap", 85)]) (.nilIface) 1 16 := Ty.mk' Try.underlying81 (by kernel_rfl)
instance ty82 : Ty Try.prog 82 (Go.TypeDesc.interface #[("Len", 38), ("Less", 94), ("Pop", 87), ("Push", 83), ("Swap", 85)]) (.nilIface) 1 16 := Ty.mk' Try.underlying82 (by kernel_rfl)
instance ty83 : Ty Try.prog 83 (Go.TypeDesc.func #[20] #[] false) (.nilFunc) 1 8 := Ty.mk' Try.underlying83 (by kernel_rfl)
instance ty84 : Ty Try.prog 84 (Go.TypeDesc.func #[82, 3] #[] false) (.nilFunc) 1 8 := Ty.mk' Try.underlying84 (by kernel_rfl)
instance ty85 : Ty Try.prog 85 (Go.TypeDesc.func #[3, 3] #[] false) (.nilFunc) 1 8 := Ty.mk' Try.underlying85 (by kernel_rfl)
instance ty86 : Ty Try.prog 86 (Go.TypeDesc.func #[82, 3, 3] #[4] false) (.nilFunc) 1 8 := Ty.mk' Try.underlying86 (by kernel_rfl)
instance ty87 : Ty Try.prog 87 (Go.TypeDesc.func #[] #[20] false) (.nilFunc) 1 8 := Ty.mk' Try.underlying87 (by kernel_rfl)
instance ty88 : Ty Try.prog 88 (Go.TypeDesc.func #[67, 3, 3, 3, 79] #[] false) (.nilFunc) 1 8 := Ty.mk' Try.underlying88 (by kernel_rfl)
instance ty89 : Ty Try.prog 89 (Go.TypeDesc.func #[90] #[3] false) (.nilFunc) 1 8 := Ty.mk' Try.underlying89 (by kernel_rfl)
instance ty90 : Ty Try.prog 90 (Go.TypeDesc.int Go.IntKind.u64) (.int .u64 0) 1 8 := Ty.mk' Try.underlying90 (by kernel_rfl)
instance ty91 : Ty Try.prog 91 (Go.TypeDesc.func #[29] #[3] true) (.nilFunc) 1 8 := Ty.mk' Try.underlying91 (by kernel_rfl)
instance ty92 : Ty Try.prog 92 (Go.TypeDesc.func #[2, 2] #[3] false) (.nilFunc) 1 8 := Ty.mk' Try.underlying92 (by kernel_rfl)
instance ty93 : Ty Try.prog 93 (Go.TypeDesc.func #[29, 3, 3, 3] #[] false) (.nilFunc) 1 8 := Ty.mk' Try.underlying93 (by kernel_rfl)
instance ty94 : Ty Try.prog 94 (Go.TypeDesc.func #[3, 3] #[4] false) (.nilFunc) 1 8 := Ty.mk' Try.underlying94 (by kernel_rfl)
instance ty95 : Ty Try.prog 95 (Go.TypeDesc.func #[67, 3, 3, 79] #[] false) (.nilFunc) 1 8 := Ty.mk' Try.underlying95 (by kernel_rfl)
instance ty96 : Ty Try.prog 96 (Go.TypeDesc.int Go.IntKind.i64) (.int .i64 0) 1 8 := Ty.mk' Try.underlying96 (by kernel_rfl)
instance ty97 : Ty Try.prog 97 (Go.TypeDesc.tuple #[3, 96]) (.tuple #[.int .i64 0, .int .i64 0]) 1 0 := Ty.mk' Try.underlying97 (by kernel_rfl)
instance ty98 : Ty Try.prog 98 (Go.TypeDesc.func #[67, 3, 3, 79] #[3, 96] false) (.nilFunc) 1 8 := Ty.mk' Try.underlying98 (by kernel_rfl)
instance ty99 : Ty Try.prog 99 (Go.TypeDesc.func #[67, 3, 3, 79] #[4] false) (.nilFunc) 1 8 := Ty.mk' Try.underlying99 (by kernel_rfl)
instance ty100 : Ty Try.prog 100 (Go.TypeDesc.func #[67, 3, 3, 3, 79] #[3] false) (.nilFunc) 1 8 := Ty.mk' Try.underlying100 (by kernel_rfl)
instance ty101 : Ty Try.prog 101 (Go.TypeDesc.func #[67, 3, 3, 3, 79] #[3, 4] false) (.nilFunc) 1 8 := Ty.mk' Try.underlying101 (by kernel_rfl)
instance ty102 : Ty Try.prog 102 (Go.TypeDesc.func #[103] #[3] false) (.nilFunc) 1 8 := Ty.mk' Try.underlying102 (by kernel_rfl)
instance ty103 : Ty Try.prog 103 (Go.TypeDesc.int Go.IntKind.u32) (.int .u32 0) 1 4 := Ty.mk' Try.underlying103 (by kernel_rfl)
instance ty104 : Ty Try.prog 104 (Go.TypeDesc.func #[105] #[3] false) (.nilFunc) 1 8 := Ty.mk' Try.underlying104 (by kernel_rfl)
instance ty105 : Ty Try.prog 105 (Go.TypeDesc.int Go.IntKind.u64) (.int .u64 0) 1 8 := Ty.mk' Try.underlying105 (by kernel_rfl)
instance ty106 : Ty Try.prog 106 (Go.TypeDesc.func #[2] #[4] false) (.nilFunc) 1 8 := Ty.mk' Try.underlying106 (by kernel_rfl)
instance ty107 : Ty Try.prog 107 (Go.TypeDesc.func #[29, 3, 3] #[] false) (.nilFunc) 1 8 := Ty.mk' Try.underlying107 (by kernel_rfl)
instance ty108 : Ty Try.prog 108 (Go.TypeDesc.func #[29, 3, 3] #[3, 96] false) (.nilFunc) 1 8 := Ty.mk' Try.underlying108 (by kernel_rfl)
instance ty109 : Ty Try.prog 109 (Go.TypeDesc.func #[29, 3, 3] #[4] false) (.nilFunc) 1 8 := Ty.mk' Try.underlying109 (by kernel_rfl)
instance ty110 : Ty Try.prog 110 (Go.TypeDesc.func #[29, 3, 3, 3] #[3] false) (.nilFunc) 1 8 := Ty.mk' Try.underlying110 (by kernel_rfl)
instance ty111 : Ty Try.prog 111 (Go.TypeDesc.func #[29, 3, 3, 3] #[3, 4] false) (.nilFunc) 1 8 := Ty.mk' Try.underlying111 (by kernel_rfl)
instance ty112 : Ty Try.prog 112 (Go.TypeDesc.int Go.IntKind.u64) (.int .u64 0) 1 8 := Ty.mk' Try.underlying112 (by kernel_rfl)
instance ty113 : Ty Try.prog 113 (Go.TypeDesc.func #[3] #[90] false) (.nilFunc) 1 8 := Ty.mk' Try.underlying113 (by kernel_rfl)
instance ty114 : Ty Try.prog 114 (Go.TypeDesc.func #[] #[105] false) (.nilFunc) 1 8 := Ty.mk' Try.underlying114 (by kernel_rfl)
instance ty115 : Ty Try.prog 115 (Go.TypeDesc.func #[67, 3, 116, 79] #[3] false) (.nilFunc) 1 8 := Ty.mk' Try.underlying115 (by kernel_rfl)
instance ty116 : Ty Try.prog 116 (Go.TypeDesc.pointer 3) (.pointer none) 1 8 := Ty.mk' Try.underlying116 (by kernel_rfl)
instance ty117 : Ty Try.prog 117 (Go.TypeDesc.func #[67, 3, 3, 3, 116, 79] #[3] false) (.nilFunc) 1 8 := Ty.mk' Try.underlying117 (by kernel_rfl)
instance ty118 : Ty Try.prog 118 (Go.TypeDesc.func #[29, 3, 116] #[3] false) (.nilFunc) 1 8 := Ty.mk' Try.underlying118 (by kernel_rfl)
instance ty119 : Ty Try.prog 119 (Go.TypeDesc.func #[29, 3, 3, 3, 116] #[3] false) (.nilFunc) 1 8 := Ty.mk' Try.underlying119 (by kernel_rfl)
instance ty120 : Ty Try.prog 120 (Go.TypeDesc.pointer 112) (.pointer none) 1 8 := Ty.mk' Try.underlying120 (by kernel_rfl)
instance ty121 : Ty Try.prog 121 (Go.TypeDesc.tuple #[3, 3]) (.tuple #[.int .i64 0, .int .i64 0]) 1 0 := Ty.mk' Try.underlying121 (by kernel_rfl)
instance ty122 : Ty Try.prog 122 (Go.TypeDesc.func #[67, 3, 3, 116, 79] #[3, 3] false) (.nilFunc) 1 8 := Ty.mk' Try.underlying122 (by kernel_rfl)
instance ty123 : Ty Try.prog 123 (Go.TypeDesc.func #[29, 3, 3, 116] #[3, 3] false) (.nilFunc) 1 8 := Ty.mk' Try.underlying123 (by kernel_rfl)
instance ty124 : Ty Try.prog 124 (Go.TypeDesc.func #[] #[9] false) (.nilFunc) 1 8 := Ty.mk' Try.underlying124 (by kernel_rfl)
instance ty125 : Ty Try.prog 125 (Go.TypeDesc.struct #[{ name := "_interface", type := 17, offset := 0, embedded := false, tag := "", pkgPath := "runtime", byteOffset := 0 }, { name := "concrete", type := 17, offset := 1, embedded := false, tag := "", pkgPath := "runtime", byteOffset := 8 }, { name := "asserted", type := 17, offset := 2, embedded := false, tag := "", pkgPath := "runtime", byteOffset := 16 }, { name := "missingMethod", type := 9, offset := 3, embedded := false, tag := "", pkgPath := "runtime", byteOffset := 24 }]) (.agg #[.pointer none, .pointer none, .pointer none, .string ByteArray.empty]) 4 40 := Ty.mk' Try.underlying125 (by kernel_rfl)
instance ty126 : Ty Try.prog 126 (Go.TypeDesc.struct #[{ name := "_interface", type := 17, offset := 0, embedded := false, tag := "", pkgPath := "runtime", byteOffset := 0 }, { name := "concrete", type := 17, offset := 1, embedded := false, tag := "", pkgPath := "runtime", byteOffset := 8 }, { name := "asserted", type := 17, offset := 2, embedded := false, tag := "", pkgPath := "runtime", byteOffset := 16 }, { name := "missingMethod", type := 9, offset := 3, embedded := false, tag := "", pkgPath := "runtime", byteOffset := 24 }]) (.agg #[.pointer none, .pointer none, .pointer none, .string ByteArray.empty]) 4 40 := Ty.mk' Try.underlying126 (by kernel_rfl)
instance ty127 : Ty Try.prog 127 (Go.TypeDesc.array 0 16) (.agg #[]) 0 0 := Ty.mk' Try.underlying127 (by kernel_rfl)
instance ty128 : Ty Try.prog 128 (Go.TypeDesc.struct #[{ name := "_", type := 127, offset := 0, embedded := false, tag := "", pkgPath := "runtime", byteOffset := 0 }]) (.agg #[]) 0 0 := Ty.mk' Try.underlying128 (by kernel_rfl)
instance ty129 : Ty Try.prog 129 (Go.TypeDesc.struct #[{ name := "_", type := 127, offset := 0, embedded := false, tag := "", pkgPath := "runtime", byteOffset := 0 }]) (.agg #[]) 0 0 := Ty.mk' Try.underlying129 (by kernel_rfl)
instance ty130 : Ty Try.prog 130 (Go.TypeDesc.int Go.IntKind.u8) (.int .u8 0) 1 1 := Ty.mk' Try.underlying130 (by kernel_rfl)
instance ty131 : Ty Try.prog 131 (Go.TypeDesc.int Go.IntKind.u8) (.int .u8 0) 1 1 := Ty.mk' Try.underlying131 (by kernel_rfl)
instance ty132 : Ty Try.prog 132 (Go.TypeDesc.func #[138, 138] #[4] false) (.nilFunc) 1 8 := Ty.mk' Try.underlying132 (by kernel_rfl)
instance ty133 : Ty Try.prog 133 (Go.TypeDesc.pointer 5) (.pointer none) 1 8 := Ty.mk' Try.underlying133 (by kernel_rfl)
instance ty134 : Ty Try.prog 134 (Go.TypeDesc.int Go.IntKind.i32) (.int .i32 0) 1 4 := Ty.mk' Try.underlying134 (by kernel_rfl)
instance ty135 : Ty Try.prog 135 (Go.TypeDesc.int Go.IntKind.i32) (.int .i32 0) 1 4 := Ty.mk' Try.underlying135 (by kernel_rfl)
instance ty136 : Ty Try.prog 136 (Go.TypeDesc.struct #[{ name := "Size_", type := 12, offset := 0, embedded := false, tag := "", pkgPath := "", byteOffset := 0 }, { name := "PtrBytes", type := 12, offset := 1, embedded := false, tag := "", pkgPath := "", byteOffset := 8 }, { name := "Hash", type := 103, offset := 2, embedded := false, tag := "", pkgPath := "", byteOffset := 16 }, { name := "TFlag", type := 130, offset := 3, embedded := false, tag := "", pkgPath := "", byteOffset := 20 }, { name := "Align_", type := 5, offset := 4, embedded := false, tag := "", pkgPath := "", byteOffset := 21 }, { name := "FieldAlign_", type := 5, offset := 5, embedded := false, tag := "", pkgPath := "", byteOffset := 22 }, { name := "Kind_", type := 131, offset := 6, embedded := false, tag := "", pkgPath := "", byteOffset := 23 }, { name := "Equal", type := 132, offset := 7, embedded := false, tag := "", pkgPath := "", byteOffset := 24 }, { name := "GCData", type := 133, offset := 8, embedded := false, tag := "", pkgPath := "", byteOffset := 32 }, { name := "Str", type := 134, offset := 9, embedded := false, tag := "", pkgPath := "", byteOffset := 40 }, { name := "PtrToThis", type := 135, offset := 10, embedded := false, tag := "", pkgPath := "", byteOffset := 44 }]) (.agg #[.int .u64 0, .int .u64 0, .int .u32 0, .int .u8 0, .int .u8 0, .int .u8 0, .int .u8 0, .nilFunc, .pointer none, .int .i32 0, .int .i32 0]) 11 48 := Ty.mk' Try.underlying136 (by kernel_rfl)
instance ty137 : Ty Try.prog 137 (Go.TypeDesc.struct #[{ name := "Size_", type := 12, offset := 0, embedded := false, tag := "", pkgPath := "", byteOffset := 0 }, { name := "PtrBytes", type := 12, offset := 1, embedded := false, tag := "", pkgPath := "", byteOffset := 8 }, { name := "Hash", type := 103, offset := 2, embedded := false, tag := "", pkgPath := "", byteOffset := 16 }, { name := "TFlag", type := 130, offset := 3, embedded := false, tag := "", pkgPath := "", byteOffset := 20 }, { name := "Align_", type := 5, offset := 4, embedded := false, tag := "", pkgPath := "", byteOffset := 21 }, { name := "FieldAlign_", type := 5, offset := 5, embedded := false, tag := "", pkgPath := "", byteOffset := 22 }, { name := "Kind_", type := 131, offset := 6, embedded := false, tag := "", pkgPath := "", byteOffset := 23 }, { name := "Equal", type := 132, offset := 7, embedded := false, tag := "", pkgPath := "", byteOffset := 24 }, { name := "GCData", type := 133, offset := 8, embedded := false, tag := "", pkgPath := "", byteOffset := 32 }, { name := "Str", type := 134, offset := 9, embedded := false, tag := "", pkgPath := "", byteOffset := 40 }, { name := "PtrToThis", type := 135, offset := 10, embedded := false, tag := "", pkgPath := "", byteOffset := 44 }]) (.agg #[.int .u64 0, .int .u64 0, .int .u32 0, .int .u8 0, .int .u8 0, .int .u8 0, .int .u8 0, .nilFunc, .pointer none, .int .i32 0, .int .i32 0]) 11 48 := Ty.mk' Try.underlying137 (by kernel_rfl)
instance ty138 : Ty Try.prog 138 Go.TypeDesc.unsafePointer (.pointer none) 1 8 := Ty.mk' Try.underlying138 (by kernel_rfl)
instance fl7_0 : Fld Try.prog 7 0 0 := ⟨_, _, _, _, _, _, Try.underlying7, rfl, rfl, ty2⟩
instance fl7_1 : Fld Try.prog 7 1 1 := ⟨_, _, _, _, _, _, Try.underlying7, rfl, rfl, ty3⟩
instance fl7_2 : Fld Try.prog 7 2 2 := ⟨_, _, _, _, _, _, Try.underlying7, rfl, rfl, ty4⟩
instance fl7_3 : Fld Try.prog 7 3 3 := ⟨_, _, _, _, _, _, Try.underlying7, rfl, rfl, ty6⟩
instance fl8_0 : Fld Try.prog 8 0 0 := ⟨_, _, _, _, _, _, Try.underlying8, rfl, rfl, ty2⟩
instance fl8_1 : Fld Try.prog 8 1 1 := ⟨_, _, _, _, _, _, Try.underlying8, rfl, rfl, ty3⟩
instance fl8_2 : Fld Try.prog 8 2 2 := ⟨_, _, _, _, _, _, Try.underlying8, rfl, rfl, ty4⟩
instance fl8_3 : Fld Try.prog 8 3 3 := ⟨_, _, _, _, _, _, Try.underlying8, rfl, rfl, ty6⟩
instance fl13_0 : Fld Try.prog 13 0 0 := ⟨_, _, _, _, _, _, Try.underlying13, rfl, rfl, ty9⟩
instance fl13_1 : Fld Try.prog 13 1 1 := ⟨_, _, _, _, _, _, Try.underlying13, rfl, rfl, ty12⟩
instance fl14_0 : Fld Try.prog 14 0 0 := ⟨_, _, _, _, _, _, Try.underlying14, rfl, rfl, ty9⟩
instance fl14_1 : Fld Try.prog 14 1 1 := ⟨_, _, _, _, _, _, Try.underlying14, rfl, rfl, ty12⟩
instance fl18_0 : Fld Try.prog 18 0 0 := ⟨_, _, _, _, _, _, Try.underlying18, rfl, rfl, ty17⟩
instance fl19_0 : Fld Try.prog 19 0 0 := ⟨_, _, _, _, _, _, Try.underlying19, rfl, rfl, ty17⟩
instance fl30_0 : Fld Try.prog 30 0 0 := ⟨_, _, _, _, _, _, Try.underlying30, rfl, rfl, ty3⟩
instance fl30_1 : Fld Try.prog 30 1 1 := ⟨_, _, _, _, _, _, Try.underlying30, rfl, rfl, ty3⟩
instance fl30_2 : Fld Try.prog 30 2 2 := ⟨_, _, _, _, _, _, Try.underlying30, rfl, rfl, ty2⟩
instance fl31_0 : Fld Try.prog 31 0 0 := ⟨_, _, _, _, _, _, Try.underlying31, rfl, rfl, ty3⟩
instance fl31_1 : Fld Try.prog 31 1 1 := ⟨_, _, _, _, _, _, Try.underlying31, rfl, rfl, ty3⟩
instance fl31_2 : Fld Try.prog 31 2 2 := ⟨_, _, _, _, _, _, Try.underlying31, rfl, rfl, ty2⟩
instance fl46_0 : Fld Try.prog 46 0 0 := ⟨_, _, _, _, _, _, Try.underlying46, rfl, rfl, ty2⟩
instance fl46_1 : Fld Try.prog 46 1 1 := ⟨_, _, _, _, _, _, Try.underlying46, rfl, rfl, ty3⟩
instance fl47_0 : Fld Try.prog 47 0 0 := ⟨_, _, _, _, _, _, Try.underlying47, rfl, rfl, ty2⟩
instance fl47_1 : Fld Try.prog 47 1 1 := ⟨_, _, _, _, _, _, Try.underlying47, rfl, rfl, ty3⟩
instance fl59_0 : Fld Try.prog 59 0 0 := ⟨_, _, _, _, _, _, Try.underlying59, rfl, rfl, ty2⟩
instance fl59_1 : Fld Try.prog 59 1 1 := ⟨_, _, _, _, _, _, Try.underlying59, rfl, rfl, ty3⟩
instance fl64_0 : Fld Try.prog 64 0 0 := ⟨_, _, _, _, _, _, Try.underlying64, rfl, rfl, ty63⟩
instance fl64_1 : Fld Try.prog 64 1 1 := ⟨_, _, _, _, _, _, Try.underlying64, rfl, rfl, ty63⟩
instance fl64_2 : Fld Try.prog 64 2 2 := ⟨_, _, _, _, _, _, Try.underlying64, rfl, rfl, ty3⟩
instance fl64_3 : Fld Try.prog 64 3 3 := ⟨_, _, _, _, _, _, Try.underlying64, rfl, rfl, ty3⟩
instance fl65_0 : Fld Try.prog 65 0 0 := ⟨_, _, _, _, _, _, Try.underlying65, rfl, rfl, ty63⟩
instance fl65_1 : Fld Try.prog 65 1 1 := ⟨_, _, _, _, _, _, Try.underlying65, rfl, rfl, ty63⟩
instance fl65_2 : Fld Try.prog 65 2 2 := ⟨_, _, _, _, _, _, Try.underlying65, rfl, rfl, ty3⟩
instance fl65_3 : Fld Try.prog 65 3 3 := ⟨_, _, _, _, _, _, Try.underlying65, rfl, rfl, ty3⟩
instance fl69_0 : Fld Try.prog 69 0 0 := ⟨_, _, _, _, _, _, Try.underlying69, rfl, rfl, ty68⟩
instance fl69_1 : Fld Try.prog 69 1 1 := ⟨_, _, _, _, _, _, Try.underlying69, rfl, rfl, ty66⟩
instance fl69_2 : Fld Try.prog 69 2 2 := ⟨_, _, _, _, _, _, Try.underlying69, rfl, rfl, ty3⟩
instance fl70_0 : Fld Try.prog 70 0 0 := ⟨_, _, _, _, _, _, Try.underlying70, rfl, rfl, ty68⟩
instance fl70_1 : Fld Try.prog 70 1 1 := ⟨_, _, _, _, _, _, Try.underlying70, rfl, rfl, ty66⟩
instance fl70_2 : Fld Try.prog 70 2 2 := ⟨_, _, _, _, _, _, Try.underlying70, rfl, rfl, ty3⟩
instance fl71_0 : Fld Try.prog 71 0 0 := ⟨_, _, _, _, _, _, Try.underlying71, rfl, rfl, ty2⟩
instance fl71_1 : Fld Try.prog 71 1 1 := ⟨_, _, _, _, _, _, Try.underlying71, rfl, rfl, ty3⟩
instance fl71_2 : Fld Try.prog 71 2 2 := ⟨_, _, _, _, _, _, Try.underlying71, rfl, rfl, ty3⟩
instance fl72_0 : Fld Try.prog 72 0 0 := ⟨_, _, _, _, _, _, Try.underlying72, rfl, rfl, ty2⟩
instance fl72_1 : Fld Try.prog 72 1 1 := ⟨_, _, _, _, _, _, Try.underlying72, rfl, rfl, ty3⟩
instance fl72_2 : Fld Try.prog 72 2 2 := ⟨_, _, _, _, _, _, Try.underlying72, rfl, rfl, ty3⟩
instance fl125_0 : Fld Try.prog 125 0 0 := ⟨_, _, _, _, _, _, Try.underlying125, rfl, rfl, ty17⟩
instance fl125_1 : Fld Try.prog 125 1 1 := ⟨_, _, _, _, _, _, Try.underlying125, rfl, rfl, ty17⟩
instance fl125_2 : Fld Try.prog 125 2 2 := ⟨_, _, _, _, _, _, Try.underlying125, rfl, rfl, ty17⟩
instance fl125_3 : Fld Try.prog 125 3 3 := ⟨_, _, _, _, _, _, Try.underlying125, rfl, rfl, ty9⟩
instance fl126_0 : Fld Try.prog 126 0 0 := ⟨_, _, _, _, _, _, Try.underlying126, rfl, rfl, ty17⟩
instance fl126_1 : Fld Try.prog 126 1 1 := ⟨_, _, _, _, _, _, Try.underlying126, rfl, rfl, ty17⟩
instance fl126_2 : Fld Try.prog 126 2 2 := ⟨_, _, _, _, _, _, Try.underlying126, rfl, rfl, ty17⟩
instance fl126_3 : Fld Try.prog 126 3 3 := ⟨_, _, _, _, _, _, Try.underlying126, rfl, rfl, ty9⟩
instance fl136_0 : Fld Try.prog 136 0 0 := ⟨_, _, _, _, _, _, Try.underlying136, rfl, rfl, ty12⟩
instance fl136_1 : Fld Try.prog 136 1 1 := ⟨_, _, _, _, _, _, Try.underlying136, rfl, rfl, ty12⟩
instance fl136_2 : Fld Try.prog 136 2 2 := ⟨_, _, _, _, _, _, Try.underlying136, rfl, rfl, ty103⟩
instance fl136_3 : Fld Try.prog 136 3 3 := ⟨_, _, _, _, _, _, Try.underlying136, rfl, rfl, ty130⟩
instance fl136_4 : Fld Try.prog 136 4 4 := ⟨_, _, _, _, _, _, Try.underlying136, rfl, rfl, ty5⟩
instance fl136_5 : Fld Try.prog 136 5 5 := ⟨_, _, _, _, _, _, Try.underlying136, rfl, rfl, ty5⟩
instance fl136_6 : Fld Try.prog 136 6 6 := ⟨_, _, _, _, _, _, Try.underlying136, rfl, rfl, ty131⟩
instance fl136_7 : Fld Try.prog 136 7 7 := ⟨_, _, _, _, _, _, Try.underlying136, rfl, rfl, ty132⟩
instance fl136_8 : Fld Try.prog 136 8 8 := ⟨_, _, _, _, _, _, Try.underlying136, rfl, rfl, ty133⟩
instance fl136_9 : Fld Try.prog 136 9 9 := ⟨_, _, _, _, _, _, Try.underlying136, rfl, rfl, ty134⟩
instance fl136_10 : Fld Try.prog 136 10 10 := ⟨_, _, _, _, _, _, Try.underlying136, rfl, rfl, ty135⟩
instance fl137_0 : Fld Try.prog 137 0 0 := ⟨_, _, _, _, _, _, Try.underlying137, rfl, rfl, ty12⟩
instance fl137_1 : Fld Try.prog 137 1 1 := ⟨_, _, _, _, _, _, Try.underlying137, rfl, rfl, ty12⟩
instance fl137_2 : Fld Try.prog 137 2 2 := ⟨_, _, _, _, _, _, Try.underlying137, rfl, rfl, ty103⟩
instance fl137_3 : Fld Try.prog 137 3 3 := ⟨_, _, _, _, _, _, Try.underlying137, rfl, rfl, ty130⟩
instance fl137_4 : Fld Try.prog 137 4 4 := ⟨_, _, _, _, _, _, Try.underlying137, rfl, rfl, ty5⟩
instance fl137_5 : Fld Try.prog 137 5 5 := ⟨_, _, _, _, _, _, Try.underlying137, rfl, rfl, ty5⟩
instance fl137_6 : Fld Try.prog 137 6 6 := ⟨_, _, _, _, _, _, Try.underlying137, rfl, rfl, ty131⟩
instance fl137_7 : Fld Try.prog 137 7 7 := ⟨_, _, _, _, _, _, Try.underlying137, rfl, rfl, ty132⟩
instance fl137_8 : Fld Try.prog 137 8 8 := ⟨_, _, _, _, _, _, Try.underlying137, rfl, rfl, ty133⟩
instance fl137_9 : Fld Try.prog 137 9 9 := ⟨_, _, _, _, _, _, Try.underlying137, rfl, rfl, ty134⟩
instance fl137_10 : Fld Try.prog 137 10 10 := ⟨_, _, _, _, _, _, Try.underlying137, rfl, rfl, ty135⟩
instance fn2 : FnOk Try.prog 2 := ⟨Try.f2, Try.func2, by kernel_rfl, by kernel_rfl⟩
instance fn3 : FnOk Try.prog 3 := ⟨Try.f3, Try.func3, by kernel_rfl, by kernel_rfl⟩
instance fn4 : FnOk Try.prog 4 := ⟨Try.f4, Try.func4, by kernel_rfl, by kernel_rfl⟩
instance fn5 : FnOk Try.prog 5 := ⟨Try.f5, Try.func5, by kernel_rfl, by kernel_rfl⟩
instance fn6 : FnOk Try.prog 6 := ⟨Try.f6, Try.func6, by kernel_rfl, by kernel_rfl⟩
instance fn7 : FnOk Try.prog 7 := ⟨Try.f7, Try.func7, by kernel_rfl, by kernel_rfl⟩
instance fn8 : FnOk Try.prog 8 := ⟨Try.f8, Try.func8, by kernel_rfl, by kernel_rfl⟩
instance fn9 : FnOk Try.prog 9 := ⟨Try.f9, Try.func9, by kernel_rfl, by kernel_rfl⟩
instance fn10 : FnOk Try.prog 10 := ⟨Try.f10, Try.func10, by kernel_rfl, by kernel_rfl⟩
instance fn11 : FnOk Try.prog 11 := ⟨Try.f11, Try.func11, by kernel_rfl, by kernel_rfl⟩
instance fn12 : FnOk Try.prog 12 := ⟨Try.f12, Try.func12, by kernel_rfl, by kernel_rfl⟩
instance fn13 : FnOk Try.prog 13 := ⟨Try.f13, Try.func13, by kernel_rfl, by kernel_rfl⟩
instance fn14 : FnOk Try.prog 14 := ⟨Try.f14, Try.func14, by kernel_rfl, by kernel_rfl⟩
instance fn15 : FnOk Try.prog 15 := ⟨Try.f15, Try.func15, by kernel_rfl, by kernel_rfl⟩
instance fn16 : FnOk Try.prog 16 := ⟨Try.f16, Try.func16, by kernel_rfl, by kernel_rfl⟩
instance fn17 : FnOk Try.prog 17 := ⟨Try.f17, Try.func17, by kernel_rfl, by kernel_rfl⟩
instance fn18 : FnOk Try.prog 18 := ⟨Try.f18, Try.func18, by kernel_rfl, by kernel_rfl⟩
instance fn19 : FnOk Try.prog 19 := ⟨Try.f19, Try.func19, by kernel_rfl, by kernel_rfl⟩
instance fn20 : FnOk Try.prog 20 := ⟨Try.f20, Try.func20, by kernel_rfl, by kernel_rfl⟩
instance fn21 : FnOk Try.prog 21 := ⟨Try.f21, Try.func21, by kernel_rfl, by kernel_rfl⟩
instance fn22 : FnOk Try.prog 22 := ⟨Try.f22, Try.func22, by kernel_rfl, by kernel_rfl⟩
instance fn23 : FnOk Try.prog 23 := ⟨Try.f23, Try.func23, by kernel_rfl, by kernel_rfl⟩
instance fn24 : FnOk Try.prog 24 := ⟨Try.f24, Try.func24, by kernel_rfl, by kernel_rfl⟩
instance fn25 : FnOk Try.prog 25 := ⟨Try.f25, Try.func25, by kernel_rfl, by kernel_rfl⟩
instance fn26 : FnOk Try.prog 26 := ⟨Try.f26, Try.func26, by kernel_rfl, by kernel_rfl⟩
instance fn27 : FnOk Try.prog 27 := ⟨Try.f27, Try.func27, by kernel_rfl, by kernel_rfl⟩
instance fn28 : FnOk Try.prog 28 := ⟨Try.f28, Try.func28, by kernel_rfl, by kernel_rfl⟩
instance fn29 : FnOk Try.prog 29 := ⟨Try.f29, Try.func29, by kernel_rfl, by kernel_rfl⟩
instance fn30 : FnOk Try.prog 30 := ⟨Try.f30, Try.func30, by kernel_rfl, by kernel_rfl⟩
instance fn31 : FnOk Try.prog 31 := ⟨Try.f31, Try.func31, by kernel_rfl, by kernel_rfl⟩
instance fn32 : FnOk Try.prog 32 := ⟨Try.f32, Try.func32, by kernel_rfl, by kernel_rfl⟩
instance fn33 : FnOk Try.prog 33 := ⟨Try.f33, Try.func33, by kernel_rfl, by kernel_rfl⟩
instance fn34 : FnOk Try.prog 34 := ⟨Try.f34, Try.func34, by kernel_rfl, by kernel_rfl⟩
instance fn35 : FnOk Try.prog 35 := ⟨Try.f35, Try.func35, by kernel_rfl, by kernel_rfl⟩
instance fn36 : FnOk Try.prog 36 := ⟨Try.f36, Try.func36, by kernel_rfl, by kernel_rfl⟩
instance fn37 : FnOk Try.prog 37 := ⟨Try.f37, Try.func37, by kernel_rfl, by kernel_rfl⟩
instance fn38 : FnOk Try.prog 38 := ⟨Try.f38, Try.func38, by kernel_rfl, by kernel_rfl⟩
instance fn39 : FnOk Try.prog 39 := ⟨Try.f39, Try.func39, by kernel_rfl, by kernel_rfl⟩
instance fn40 : FnOk Try.prog 40 := ⟨Try.f40, Try.func40, by kernel_rfl, by kernel_rfl⟩
instance fn41 : FnOk Try.prog 41 := ⟨Try.f41, Try.func41, by kernel_rfl, by kernel_rfl⟩
instance fn42 : FnOk Try.prog 42 := ⟨Try.f42, Try.func42, by kernel_rfl, by kernel_rfl⟩
instance fn43 : FnOk Try.prog 43 := ⟨Try.f43, Try.func43, by kernel_rfl, by kernel_rfl⟩
instance fn44 : FnOk Try.prog 44 := ⟨Try.f44, Try.func44, by kernel_rfl, by kernel_rfl⟩
instance fn45 : FnOk Try.prog 45 := ⟨Try.f45, Try.func45, by kernel_rfl, by kernel_rfl⟩
instance fn46 : FnOk Try.prog 46 := ⟨Try.f46, Try.func46, by kernel_rfl, by kernel_rfl⟩
instance fn47 : FnOk Try.prog 47 := ⟨Try.f47, Try.func47, by kernel_rfl, by kernel_rfl⟩
instance fn48 : FnOk Try.prog 48 := ⟨Try.f48, Try.func48, by kernel_rfl, by kernel_rfl⟩
instance fn49 : FnOk Try.prog 49 := ⟨Try.f49, Try.func49, by kernel_rfl, by kernel_rfl⟩
instance fn50 : FnOk Try.prog 50 := ⟨Try.f50, Try.func50, by kernel_rfl, by kernel_rfl⟩
instance fn51 : FnOk Try.prog 51 := ⟨Try.f51, Try.func51, by kernel_rfl, by kernel_rfl⟩
instance fn52 : FnOk Try.prog 52 := ⟨Try.f52, Try.func52, by kernel_rfl, by kernel_rfl⟩
instance fn53 : FnOk Try.prog 53 := ⟨Try.f53, Try.func53, by kernel_rfl, by kernel_rfl⟩
instance fn54 : FnOk Try.prog 54 := ⟨Try.f54, Try.func54, by kernel_rfl, by kernel_rfl⟩
instance fn55 : FnOk Try.prog 55 := ⟨Try.f55, Try.func55, by kernel_rfl, by kernel_rfl⟩
instance fn56 : FnOk Try.prog 56 := ⟨Try.f56, Try.func56, by kernel_rfl, by kernel_rfl⟩
instance fn57 : FnOk Try.prog 57 := ⟨Try.f57, Try.func57, by kernel_rfl, by kernel_rfl⟩
instance fn58 : FnOk Try.prog 58 := ⟨Try.f58, Try.func58, by kernel_rfl, by kernel_rfl⟩
instance fn59 : FnOk Try.prog 59 := ⟨Try.f59, Try.func59, by kernel_rfl, by kernel_rfl⟩
instance fn60 : FnOk Try.prog 60 := ⟨Try.f60, Try.func60, by kernel_rfl, by kernel_rfl⟩
instance fn61 : FnOk Try.prog 61 := ⟨Try.f61, Try.func61, by kernel_rfl, by kernel_rfl⟩
instance fn62 : FnOk Try.prog 62 := ⟨Try.f62, Try.func62, by kernel_rfl, by kernel_rfl⟩
instance fn63 : FnOk Try.prog 63 := ⟨Try.f63, Try.func63, by kernel_rfl, by kernel_rfl⟩
instance fn64 : FnOk Try.prog 64 := ⟨Try.f64, Try.func64, by kernel_rfl, by kernel_rfl⟩
instance fn65 : FnOk Try.prog 65 := ⟨Try.f65, Try.func65, by kernel_rfl, by kernel_rfl⟩
instance fn66 : FnOk Try.prog 66 := ⟨Try.f66, Try.func66, by kernel_rfl, by kernel_rfl⟩
instance fn67 : FnOk Try.prog 67 := ⟨Try.f67, Try.func67, by kernel_rfl, by kernel_rfl⟩
instance fn68 : FnOk Try.prog 68 := ⟨Try.f68, Try.func68, by kernel_rfl, by kernel_rfl⟩
instance fn69 : FnOk Try.prog 69 := ⟨Try.f69, Try.func69, by kernel_rfl, by kernel_rfl⟩
instance fn70 : FnOk Try.prog 70 := ⟨Try.f70, Try.func70, by kernel_rfl, by kernel_rfl⟩
instance fn71 : FnOk Try.prog 71 := ⟨Try.f71, Try.func71, by kernel_rfl, by kernel_rfl⟩
instance fn72 : FnOk Try.prog 72 := ⟨Try.f72, Try.func72, by kernel_rfl, by kernel_rfl⟩
instance fn73 : FnOk Try.prog 73 := ⟨Try.f73, Try.func73, by kernel_rfl, by kernel_rfl⟩
instance fn74 : FnOk Try.prog 74 := ⟨Try.f74, Try.func74, by kernel_rfl, by kernel_rfl⟩
instance fn75 : FnOk Try.prog 75 := ⟨Try.f75, Try.func75, by kernel_rfl, by kernel_rfl⟩
instance fn76 : FnOk Try.prog 76 := ⟨Try.f76, Try.func76, by kernel_rfl, by kernel_rfl⟩
instance fn77 : FnOk Try.prog 77 := ⟨Try.f77, Try.func77, by kernel_rfl, by kernel_rfl⟩
instance fn78 : FnOk Try.prog 78 := ⟨Try.f78, Try.func78, by kernel_rfl, by kernel_rfl⟩
instance fn79 : FnOk Try.prog 79 := ⟨Try.f79, Try.func79, by kernel_rfl, by kernel_rfl⟩
instance fn96 : FnOk Try.prog 96 := ⟨Try.f96, Try.func96, by kernel_rfl, by kernel_rfl⟩
instance fn97 : FnOk Try.prog 97 := ⟨Try.f97, Try.func97, by kernel_rfl, by kernel_rfl⟩
instance fn98 : FnOk Try.prog 98 := ⟨Try.f98, Try.func98, by kernel_rfl, by kernel_rfl⟩
instance fn99 : FnOk Try.prog 99 := ⟨Try.f99, Try.func99, by kernel_rfl, by kernel_rfl⟩
instance fn100 : FnOk Try.prog 100 := ⟨Try.f100, Try.func100, by kernel_rfl, by kernel_rfl⟩
end Go.Proofs.Yteafcajlfagbkaa
