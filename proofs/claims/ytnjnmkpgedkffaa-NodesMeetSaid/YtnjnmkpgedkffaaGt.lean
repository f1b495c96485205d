/-
  THE TYPES OF THIS TRANSLATION as the ghost logic looks them up: every row is proved of the loaded program.
-/
import Derived.Test.YtnjnmkpgedkffaaGk43
import Derived.Test.YtnjnmkpgedkffaaProg
set_option linter.unusedVariables false
set_option maxRecDepth 100000
namespace Go.Proofs.Ytnjnmkpgedkffaa
open Go.Gk
def tbl : List (Nat × TI) := [
  (2, ⟨(Go.TypeDesc.int Go.IntKind.i64), 1, 8, (Go.Value.int Go.IntKind.i64 0)⟩),
  (3, ⟨(Go.TypeDesc.int Go.IntKind.i64), 1, 8, (Go.Value.int Go.IntKind.i64 0)⟩),
  (4, ⟨Go.TypeDesc.bool, 1, 1, (Go.Value.bool false)⟩),
  (5, ⟨(Go.TypeDesc.int Go.IntKind.u8), 1, 1, (Go.Value.int Go.IntKind.u8 0)⟩),
  (6, ⟨(Go.TypeDesc.int Go.IntKind.u8), 1, 1, (Go.Value.int Go.IntKind.u8 0)⟩),
  (7, ⟨(Go.TypeDesc.struct #[{ name := "x", type := 2, offset := 0, embedded := false, tag := "", pkgPath := "runtime", byteOffset := 0 }, { name := "y", type := 3, offset := 1, embedded := false, tag := "", pkgPath := "runtime", byteOffset := 8 }, { name := "signed", type := 4, offset := 2, embedded := false, tag := "", pkgPath := "runtime", byteOffset := 16 }, { name := "code", type := 6, offset := 3, embedded := false, tag := "", pkgPath := "runtime", byteOffset := 17 }]), 4, 24, (Go.Value.agg #[Go.Value.int Go.IntKind.i64 0, Go.Value.int Go.IntKind.i64 0, Go.Value.bool false, Go.Value.int Go.IntKind.u8 0])⟩),
  (8, ⟨(Go.TypeDesc.struct #[{ name := "x", type := 2, offset := 0, embedded := false, tag := "", pkgPath := "runtime", byteOffset := 0 }, { name := "y", type := 3, offset := 1, embedded := false, tag := "", pkgPath := "runtime", byteOffset := 8 }, { name := "signed", type := 4, offset := 2, embedded := false, tag := "", pkgPath := "runtime", byteOffset := 16 }, { name := "code", type := 6, offset := 3, embedded := false, tag := "", pkgPath := "runtime", byteOffset := 17 }]), 4, 24, (Go.Value.agg #[Go.Value.int Go.IntKind.i64 0, Go.Value.int Go.IntKind.i64 0, Go.Value.bool false, Go.Value.int Go.IntKind.u8 0])⟩),
  (9, ⟨Go.TypeDesc.string, 1, 16, (Go.Value.string { data := #[] })⟩),
  (10, ⟨Go.TypeDesc.string, 1, 16, (Go.Value.string { data := #[] })⟩),
  (11, ⟨Go.TypeDesc.string, 1, 16, (Go.Value.string { data := #[] })⟩),
  (12, ⟨(Go.TypeDesc.int Go.IntKind.u64), 1, 8, (Go.Value.int Go.IntKind.u64 0)⟩),
  (13, ⟨(Go.TypeDesc.struct #[{ name := "msg", type := 9, offset := 0, embedded := false, tag := "", pkgPath := "runtime", byteOffset := 0 }, { name := "addr", type := 12, offset := 1, embedded := false, tag := "", pkgPath := "runtime", byteOffset := 16 }]), 2, 24, (Go.Value.agg #[Go.Value.string { data := #[] }, Go.Value.int Go.IntKind.u64 0])⟩),
  (14, ⟨(Go.TypeDesc.struct #[{ name := "msg", type := 9, offset := 0, embedded := false, tag := "", pkgPath := "runtime", byteOffset := 0 }, { name := "addr", type := 12, offset := 1, embedded := false, tag := "", pkgPath := "runtime", byteOffset := 16 }]), 2, 24, (Go.Value.agg #[Go.Value.string { data := #[] }, Go.Value.int Go.IntKind.u64 0])⟩),
  (15, ⟨(Go.TypeDesc.pointer 138), 1, 8, (Go.Value.pointer none)⟩),
  (16, ⟨(Go.TypeDesc.pointer 141), 1, 8, (Go.Value.pointer none)⟩),
  (17, ⟨(Go.TypeDesc.pointer 150), 1, 8, (Go.Value.pointer none)⟩),
  (18, ⟨(Go.TypeDesc.struct #[{ name := "typ", type := 17, offset := 0, embedded := false, tag := "", pkgPath := "internal/runtime/maps", byteOffset := 0 }]), 1, 8, (Go.Value.agg #[Go.Value.pointer none])⟩),
  (19, ⟨(Go.TypeDesc.struct #[{ name := "typ", type := 17, offset := 0, embedded := false, tag := "", pkgPath := "internal/runtime/maps", byteOffset := 0 }]), 1, 8, (Go.Value.agg #[Go.Value.pointer none])⟩),
  (21, ⟨(Go.TypeDesc.int Go.IntKind.i32), 1, 4, (Go.Value.int Go.IntKind.i32 0)⟩),
  (22, ⟨(Go.TypeDesc.slice 3), 1, 24, (Go.Value.slice none 0 0)⟩),
  (23, ⟨(Go.TypeDesc.pointer 25), 1, 8, (Go.Value.pointer none)⟩),
  (24, ⟨(Go.TypeDesc.struct #[{ name := "L", type := 22, offset := 0, embedded := false, tag := "", pkgPath := "", byteOffset := 0 }, { name := "at", type := 3, offset := 1, embedded := false, tag := "", pkgPath := "holloway/lanemake", byteOffset := 24 }]), 2, 32, (Go.Value.agg #[Go.Value.slice none 0 0, Go.Value.int Go.IntKind.i64 0])⟩),
  (25, ⟨(Go.TypeDesc.struct #[{ name := "L", type := 22, offset := 0, embedded := false, tag := "", pkgPath := "", byteOffset := 0 }, { name := "at", type := 3, offset := 1, embedded := false, tag := "", pkgPath := "holloway/lanemake", byteOffset := 24 }]), 2, 32, (Go.Value.agg #[Go.Value.slice none 0 0, Go.Value.int Go.IntKind.i64 0])⟩),
  (26, ⟨(Go.TypeDesc.int Go.IntKind.u64), 1, 8, (Go.Value.int Go.IntKind.u64 0)⟩),
  (27, ⟨(Go.TypeDesc.struct #[{ name := "Six", type := 4, offset := 0, embedded := false, tag := "", pkgPath := "", byteOffset := 0 }, { name := "Hi", type := 26, offset := 1, embedded := false, tag := "", pkgPath := "", byteOffset := 8 }, { name := "Lo", type := 26, offset := 2, embedded := false, tag := "", pkgPath := "", byteOffset := 16 }]), 3, 24, (Go.Value.agg #[Go.Value.bool false, Go.Value.int Go.IntKind.u64 0, Go.Value.int Go.IntKind.u64 0])⟩),
  (28, ⟨(Go.TypeDesc.struct #[{ name := "Six", type := 4, offset := 0, embedded := false, tag := "", pkgPath := "", byteOffset := 0 }, { name := "Hi", type := 26, offset := 1, embedded := false, tag := "", pkgPath := "", byteOffset := 8 }, { name := "Lo", type := 26, offset := 2, embedded := false, tag := "", pkgPath := "", byteOffset := 16 }]), 3, 24, (Go.Value.agg #[Go.Value.bool false, Go.Value.int Go.IntKind.u64 0, Go.Value.int Go.IntKind.u64 0])⟩),
  (29, ⟨(Go.TypeDesc.struct #[{ name := "Maps", type := 3, offset := 0, embedded := false, tag := "", pkgPath := "", byteOffset := 0 }, { name := "Lets", type := 3, offset := 1, embedded := false, tag := "", pkgPath := "", byteOffset := 8 }, { name := "Timeout", type := 3, offset := 2, embedded := false, tag := "", pkgPath := "", byteOffset := 16 }, { name := "First", type := 3, offset := 3, embedded := false, tag := "", pkgPath := "", byteOffset := 24 }, { name := "Ports", type := 3, offset := 4, embedded := false, tag := "", pkgPath := "", byteOffset := 32 }, { name := "Outer", type := 28, offset := 5, embedded := false, tag := "", pkgPath := "", byteOffset := 40 }]), 8, 64, (Go.Value.agg #[Go.Value.int Go.IntKind.i64 0, Go.Value.int Go.IntKind.i64 0, Go.Value.int Go.IntKind.i64 0, Go.Value.int Go.IntKind.i64 0, Go.Value.int Go.IntKind.i64 0, Go.Value.bool false, Go.Value.int Go.IntKind.u64 0, Go.Value.int Go.IntKind.u64 0])⟩),
  (30, ⟨(Go.TypeDesc.struct #[{ name := "Maps", type := 3, offset := 0, embedded := false, tag := "", pkgPath := "", byteOffset := 0 }, { name := "Lets", type := 3, offset := 1, embedded := false, tag := "", pkgPath := "", byteOffset := 8 }, { name := "Timeout", type := 3, offset := 2, embedded := false, tag := "", pkgPath := "", byteOffset := 16 }, { name := "First", type := 3, offset := 3, embedded := false, tag := "", pkgPath := "", byteOffset := 24 }, { name := "Ports", type := 3, offset := 4, embedded := false, tag := "", pkgPath := "", byteOffset := 32 }, { name := "Outer", type := 28, offset := 5, embedded := false, tag := "", pkgPath := "", byteOffset := 40 }]), 8, 64, (Go.Value.agg #[Go.Value.int Go.IntKind.i64 0, Go.Value.int Go.IntKind.i64 0, Go.Value.int Go.IntKind.i64 0, Go.Value.int Go.IntKind.i64 0, Go.Value.int Go.IntKind.i64 0, Go.Value.bool false, Go.Value.int Go.IntKind.u64 0, Go.Value.int Go.IntKind.u64 0])⟩),
  (32, ⟨(Go.TypeDesc.pointer 64), 1, 8, (Go.Value.pointer none)⟩),
  (33, ⟨(Go.TypeDesc.int Go.IntKind.i64), 1, 8, (Go.Value.int Go.IntKind.i64 0)⟩),
  (38, ⟨(Go.TypeDesc.pointer 76), 1, 8, (Go.Value.pointer none)⟩),
  (44, ⟨(Go.TypeDesc.struct #[{ name := "Addr", type := 28, offset := 0, embedded := false, tag := "", pkgPath := "", byteOffset := 0 }, { name := "Port", type := 3, offset := 3, embedded := false, tag := "", pkgPath := "", byteOffset := 24 }]), 4, 32, (Go.Value.agg #[Go.Value.bool false, Go.Value.int Go.IntKind.u64 0, Go.Value.int Go.IntKind.u64 0, Go.Value.int Go.IntKind.i64 0])⟩),
  (45, ⟨(Go.TypeDesc.struct #[{ name := "Addr", type := 28, offset := 0, embedded := false, tag := "", pkgPath := "", byteOffset := 0 }, { name := "Port", type := 3, offset := 3, embedded := false, tag := "", pkgPath := "", byteOffset := 24 }]), 4, 32, (Go.Value.agg #[Go.Value.bool false, Go.Value.int Go.IntKind.u64 0, Go.Value.int Go.IntKind.u64 0, Go.Value.int Go.IntKind.i64 0])⟩),
  (54, ⟨(Go.TypeDesc.struct #[{ name := "A", type := 3, offset := 0, embedded := false, tag := "", pkgPath := "", byteOffset := 0 }, { name := "B", type := 3, offset := 1, embedded := false, tag := "", pkgPath := "", byteOffset := 8 }]), 2, 16, (Go.Value.agg #[Go.Value.int Go.IntKind.i64 0, Go.Value.int Go.IntKind.i64 0])⟩),
  (55, ⟨(Go.TypeDesc.struct #[{ name := "A", type := 3, offset := 0, embedded := false, tag := "", pkgPath := "", byteOffset := 0 }, { name := "B", type := 3, offset := 1, embedded := false, tag := "", pkgPath := "", byteOffset := 8 }]), 2, 16, (Go.Value.agg #[Go.Value.int Go.IntKind.i64 0, Go.Value.int Go.IntKind.i64 0])⟩),
  (62, ⟨(Go.TypeDesc.slice 86), 1, 24, (Go.Value.slice none 0 0)⟩),
  (63, ⟨(Go.TypeDesc.struct #[{ name := "nat", type := 30, offset := 0, embedded := false, tag := "", pkgPath := "holloway/route", byteOffset := 0 }, { name := "now", type := 3, offset := 8, embedded := false, tag := "", pkgPath := "holloway/route", byteOffset := 64 }, { name := "next", type := 3, offset := 9, embedded := false, tag := "", pkgPath := "holloway/route", byteOffset := 72 }, { name := "list", type := 62, offset := 10, embedded := false, tag := "", pkgPath := "holloway/route", byteOffset := 80 }]), 11, 104, (Go.Value.agg #[Go.Value.int Go.IntKind.i64 0, Go.Value.int Go.IntKind.i64 0, Go.Value.int Go.IntKind.i64 0, Go.Value.int Go.IntKind.i64 0, Go.Value.int Go.IntKind.i64 0, Go.Value.bool false, Go.Value.int Go.IntKind.u64 0, Go.Value.int Go.IntKind.u64 0, Go.Value.int Go.IntKind.i64 0, Go.Value.int Go.IntKind.i64 0, Go.Value.slice none 0 0])⟩),
  (64, ⟨(Go.TypeDesc.struct #[{ name := "nat", type := 30, offset := 0, embedded := false, tag := "", pkgPath := "holloway/route", byteOffset := 0 }, { name := "now", type := 3, offset := 8, embedded := false, tag := "", pkgPath := "holloway/route", byteOffset := 64 }, { name := "next", type := 3, offset := 9, embedded := false, tag := "", pkgPath := "holloway/route", byteOffset := 72 }, { name := "list", type := 62, offset := 10, embedded := false, tag := "", pkgPath := "holloway/route", byteOffset := 80 }]), 11, 104, (Go.Value.agg #[Go.Value.int Go.IntKind.i64 0, Go.Value.int Go.IntKind.i64 0, Go.Value.int Go.IntKind.i64 0, Go.Value.int Go.IntKind.i64 0, Go.Value.int Go.IntKind.i64 0, Go.Value.bool false, Go.Value.int Go.IntKind.u64 0, Go.Value.int Go.IntKind.u64 0, Go.Value.int Go.IntKind.i64 0, Go.Value.int Go.IntKind.i64 0, Go.Value.slice none 0 0])⟩),
  (67, ⟨(Go.TypeDesc.slice 9), 1, 24, (Go.Value.slice none 0 0)⟩),
  (70, ⟨(Go.TypeDesc.struct #[{ name := "A", type := 9, offset := 0, embedded := false, tag := "", pkgPath := "", byteOffset := 0 }, { name := "B", type := 9, offset := 1, embedded := false, tag := "", pkgPath := "", byteOffset := 16 }, { name := "Millis", type := 3, offset := 2, embedded := false, tag := "", pkgPath := "", byteOffset := 32 }]), 3, 40, (Go.Value.agg #[Go.Value.string { data := #[] }, Go.Value.string { data := #[] }, Go.Value.int Go.IntKind.i64 0])⟩),
  (71, ⟨(Go.TypeDesc.struct #[{ name := "A", type := 9, offset := 0, embedded := false, tag := "", pkgPath := "", byteOffset := 0 }, { name := "B", type := 9, offset := 1, embedded := false, tag := "", pkgPath := "", byteOffset := 16 }, { name := "Millis", type := 3, offset := 2, embedded := false, tag := "", pkgPath := "", byteOffset := 32 }]), 3, 40, (Go.Value.agg #[Go.Value.string { data := #[] }, Go.Value.string { data := #[] }, Go.Value.int Go.IntKind.i64 0])⟩),
  (72, ⟨(Go.TypeDesc.slice 71), 1, 24, (Go.Value.slice none 0 0)⟩),
  (74, ⟨(Go.TypeDesc.slice 93), 1, 24, (Go.Value.slice none 0 0)⟩),
  (75, ⟨(Go.TypeDesc.struct #[{ name := "n", type := 30, offset := 0, embedded := false, tag := "", pkgPath := "holloway/laneref1", byteOffset := 0 }, { name := "out", type := 74, offset := 8, embedded := false, tag := "", pkgPath := "holloway/laneref1", byteOffset := 64 }, { name := "last", type := 3, offset := 9, embedded := false, tag := "", pkgPath := "holloway/laneref1", byteOffset := 88 }, { name := "now", type := 3, offset := 10, embedded := false, tag := "", pkgPath := "holloway/laneref1", byteOffset := 96 }]), 11, 104, (Go.Value.agg #[Go.Value.int Go.IntKind.i64 0, Go.Value.int Go.IntKind.i64 0, Go.Value.int Go.IntKind.i64 0, Go.Value.int Go.IntKind.i64 0, Go.Value.int Go.IntKind.i64 0, Go.Value.bool false, Go.Value.int Go.IntKind.u64 0, Go.Value.int Go.IntKind.u64 0, Go.Value.slice none 0 0, Go.Value.int Go.IntKind.i64 0, Go.Value.int Go.IntKind.i64 0])⟩),
  (76, ⟨(Go.TypeDesc.struct #[{ name := "n", type := 30, offset := 0, embedded := false, tag := "", pkgPath := "holloway/laneref1", byteOffset := 0 }, { name := "out", type := 74, offset := 8, embedded := false, tag := "", pkgPath := "holloway/laneref1", byteOffset := 64 }, { name := "last", type := 3, offset := 9, embedded := false, tag := "", pkgPath := "holloway/laneref1", byteOffset := 88 }, { name := "now", type := 3, offset := 10, embedded := false, tag := "", pkgPath := "holloway/laneref1", byteOffset := 96 }]), 11, 104, (Go.Value.agg #[Go.Value.int Go.IntKind.i64 0, Go.Value.int Go.IntKind.i64 0, Go.Value.int Go.IntKind.i64 0, Go.Value.int Go.IntKind.i64 0, Go.Value.int Go.IntKind.i64 0, Go.Value.bool false, Go.Value.int Go.IntKind.u64 0, Go.Value.int Go.IntKind.u64 0, Go.Value.slice none 0 0, Go.Value.int Go.IntKind.i64 0, Go.Value.int Go.IntKind.i64 0])⟩),
  (78, ⟨(Go.TypeDesc.array 2 45), 8, 64, (Go.Value.agg #[Go.Value.bool false, Go.Value.int Go.IntKind.u64 0, Go.Value.int Go.IntKind.u64 0, Go.Value.int Go.IntKind.i64 0, Go.Value.bool false, Go.Value.int Go.IntKind.u64 0, Go.Value.int Go.IntKind.u64 0, Go.Value.int Go.IntKind.i64 0])⟩),
  (84, ⟨(Go.TypeDesc.slice 45), 1, 24, (Go.Value.slice none 0 0)⟩),
  (85, ⟨(Go.TypeDesc.struct #[{ name := "inner", type := 45, offset := 0, embedded := false, tag := "", pkgPath := "holloway/route", byteOffset := 0 }, { name := "port", type := 3, offset := 4, embedded := false, tag := "", pkgPath := "holloway/route", byteOffset := 32 }, { name := "dep", type := 45, offset := 5, embedded := false, tag := "", pkgPath := "holloway/route", byteOffset := 40 }, { name := "last", type := 3, offset := 9, embedded := false, tag := "", pkgPath := "holloway/route", byteOffset := 72 }, { name := "sent", type := 84, offset := 10, embedded := false, tag := "", pkgPath := "holloway/route", byteOffset := 80 }]), 11, 104, (Go.Value.agg #[Go.Value.bool false, Go.Value.int Go.IntKind.u64 0, Go.Value.int Go.IntKind.u64 0, Go.Value.int Go.IntKind.i64 0, Go.Value.int Go.IntKind.i64 0, Go.Value.bool false, Go.Value.int Go.IntKind.u64 0, Go.Value.int Go.IntKind.u64 0, Go.Value.int Go.IntKind.i64 0, Go.Value.int Go.IntKind.i64 0, Go.Value.slice none 0 0])⟩),
  (86, ⟨(Go.TypeDesc.struct #[{ name := "inner", type := 45, offset := 0, embedded := false, tag := "", pkgPath := "holloway/route", byteOffset := 0 }, { name := "port", type := 3, offset := 4, embedded := false, tag := "", pkgPath := "holloway/route", byteOffset := 32 }, { name := "dep", type := 45, offset := 5, embedded := false, tag := "", pkgPath := "holloway/route", byteOffset := 40 }, { name := "last", type := 3, offset := 9, embedded := false, tag := "", pkgPath := "holloway/route", byteOffset := 72 }, { name := "sent", type := 84, offset := 10, embedded := false, tag := "", pkgPath := "holloway/route", byteOffset := 80 }]), 11, 104, (Go.Value.agg #[Go.Value.bool false, Go.Value.int Go.IntKind.u64 0, Go.Value.int Go.IntKind.u64 0, Go.Value.int Go.IntKind.i64 0, Go.Value.int Go.IntKind.i64 0, Go.Value.bool false, Go.Value.int Go.IntKind.u64 0, Go.Value.int Go.IntKind.u64 0, Go.Value.int Go.IntKind.i64 0, Go.Value.int Go.IntKind.i64 0, Go.Value.slice none 0 0])⟩),
  (87, ⟨(Go.TypeDesc.pointer 86), 1, 8, (Go.Value.pointer none)⟩),
  (90, ⟨(Go.TypeDesc.slice 74), 1, 24, (Go.Value.slice none 0 0)⟩),
  (92, ⟨(Go.TypeDesc.struct #[{ name := "at", type := 3, offset := 0, embedded := false, tag := "", pkgPath := "holloway/laneref1", byteOffset := 0 }, { name := "from", type := 45, offset := 1, embedded := false, tag := "", pkgPath := "holloway/laneref1", byteOffset := 8 }, { name := "to", type := 45, offset := 5, embedded := false, tag := "", pkgPath := "holloway/laneref1", byteOffset := 40 }, { name := "port", type := 3, offset := 9, embedded := false, tag := "", pkgPath := "holloway/laneref1", byteOffset := 72 }]), 10, 80, (Go.Value.agg #[Go.Value.int Go.IntKind.i64 0, Go.Value.bool false, Go.Value.int Go.IntKind.u64 0, Go.Value.int Go.IntKind.u64 0, Go.Value.int Go.IntKind.i64 0, Go.Value.bool false, Go.Value.int Go.IntKind.u64 0, Go.Value.int Go.IntKind.u64 0, Go.Value.int Go.IntKind.i64 0, Go.Value.int Go.IntKind.i64 0])⟩),
  (93, ⟨(Go.TypeDesc.struct #[{ name := "at", type := 3, offset := 0, embedded := false, tag := "", pkgPath := "holloway/laneref1", byteOffset := 0 }, { name := "from", type := 45, offset := 1, embedded := false, tag := "", pkgPath := "holloway/laneref1", byteOffset := 8 }, { name := "to", type := 45, offset := 5, embedded := false, tag := "", pkgPath := "holloway/laneref1", byteOffset := 40 }, { name := "port", type := 3, offset := 9, embedded := false, tag := "", pkgPath := "holloway/laneref1", byteOffset := 72 }]), 10, 80, (Go.Value.agg #[Go.Value.int Go.IntKind.i64 0, Go.Value.bool false, Go.Value.int Go.IntKind.u64 0, Go.Value.int Go.IntKind.u64 0, Go.Value.int Go.IntKind.i64 0, Go.Value.bool false, Go.Value.int Go.IntKind.u64 0, Go.Value.int Go.IntKind.u64 0, Go.Value.int Go.IntKind.i64 0, Go.Value.int Go.IntKind.i64 0])⟩),
  (101, ⟨(Go.TypeDesc.array 2 30), 16, 128, (Go.Value.agg #[Go.Value.int Go.IntKind.i64 0, Go.Value.int Go.IntKind.i64 0, Go.Value.int Go.IntKind.i64 0, Go.Value.int Go.IntKind.i64 0, Go.Value.int Go.IntKind.i64 0, Go.Value.bool false, Go.Value.int Go.IntKind.u64 0, Go.Value.int Go.IntKind.u64 0, Go.Value.int Go.IntKind.i64 0, Go.Value.int Go.IntKind.i64 0, Go.Value.int Go.IntKind.i64 0, Go.Value.int Go.IntKind.i64 0, Go.Value.int Go.IntKind.i64 0, Go.Value.bool false, Go.Value.int Go.IntKind.u64 0, Go.Value.int Go.IntKind.u64 0])⟩),
  (102, ⟨(Go.TypeDesc.pointer 104), 1, 8, (Go.Value.pointer none)⟩),
  (103, ⟨(Go.TypeDesc.struct #[{ name := "t", type := 32, offset := 0, embedded := false, tag := "", pkgPath := "holloway/route", byteOffset := 0 }, { name := "knows", type := 84, offset := 1, embedded := false, tag := "", pkgPath := "holloway/route", byteOffset := 8 }, { name := "heard", type := 3, offset := 2, embedded := false, tag := "", pkgPath := "holloway/route", byteOffset := 32 }]), 3, 40, (Go.Value.agg #[Go.Value.pointer none, Go.Value.slice none 0 0, Go.Value.int Go.IntKind.i64 0])⟩),
  (104, ⟨(Go.TypeDesc.struct #[{ name := "t", type := 32, offset := 0, embedded := false, tag := "", pkgPath := "holloway/route", byteOffset := 0 }, { name := "knows", type := 84, offset := 1, embedded := false, tag := "", pkgPath := "holloway/route", byteOffset := 8 }, { name := "heard", type := 3, offset := 2, embedded := false, tag := "", pkgPath := "holloway/route", byteOffset := 32 }]), 3, 40, (Go.Value.agg #[Go.Value.pointer none, Go.Value.slice none 0 0, Go.Value.int Go.IntKind.i64 0])⟩),
  (106, ⟨(Go.TypeDesc.array 2 38), 2, 16, (Go.Value.agg #[Go.Value.pointer none, Go.Value.pointer none])⟩),
  (107, ⟨(Go.TypeDesc.array 2 84), 2, 48, (Go.Value.agg #[Go.Value.slice none 0 0, Go.Value.slice none 0 0])⟩),
  (108, ⟨(Go.TypeDesc.array 2 3), 2, 16, (Go.Value.agg #[Go.Value.int Go.IntKind.i64 0, Go.Value.int Go.IntKind.i64 0])⟩),
  (110, ⟨(Go.TypeDesc.slice 26), 1, 24, (Go.Value.slice none 0 0)⟩),
  (118, ⟨(Go.TypeDesc.slice 33), 1, 24, (Go.Value.slice none 0 0)⟩),
  (124, ⟨(Go.TypeDesc.map 9 131), 1, 8, (Go.Value.map none)⟩),
  (126, ⟨(Go.TypeDesc.map 9 129), 1, 8, (Go.Value.map none)⟩),
  (128, ⟨(Go.TypeDesc.struct #[{ name := "millis", type := 3, offset := 0, embedded := false, tag := "", pkgPath := "holloway/route", byteOffset := 0 }, { name := "links", type := 3, offset := 1, embedded := false, tag := "", pkgPath := "holloway/route", byteOffset := 8 }]), 2, 16, (Go.Value.agg #[Go.Value.int Go.IntKind.i64 0, Go.Value.int Go.IntKind.i64 0])⟩),
  (129, ⟨(Go.TypeDesc.struct #[{ name := "millis", type := 3, offset := 0, embedded := false, tag := "", pkgPath := "holloway/route", byteOffset := 0 }, { name := "links", type := 3, offset := 1, embedded := false, tag := "", pkgPath := "holloway/route", byteOffset := 8 }]), 2, 16, (Go.Value.agg #[Go.Value.int Go.IntKind.i64 0, Go.Value.int Go.IntKind.i64 0])⟩),
  (131, ⟨(Go.TypeDesc.slice 133), 1, 24, (Go.Value.slice none 0 0)⟩),
  (132, ⟨(Go.TypeDesc.struct #[{ name := "to", type := 9, offset := 0, embedded := false, tag := "", pkgPath := "holloway/route", byteOffset := 0 }, { name := "millis", type := 3, offset := 1, embedded := false, tag := "", pkgPath := "holloway/route", byteOffset := 16 }]), 2, 24, (Go.Value.agg #[Go.Value.string { data := #[] }, Go.Value.int Go.IntKind.i64 0])⟩),
  (133, ⟨(Go.TypeDesc.struct #[{ name := "to", type := 9, offset := 0, embedded := false, tag := "", pkgPath := "holloway/route", byteOffset := 0 }, { name := "millis", type := 3, offset := 1, embedded := false, tag := "", pkgPath := "holloway/route", byteOffset := 16 }]), 2, 24, (Go.Value.agg #[Go.Value.string { data := #[] }, Go.Value.int Go.IntKind.i64 0])⟩),
  (134, ⟨(Go.TypeDesc.map 9 4), 1, 8, (Go.Value.map none)⟩),
  (137, ⟨(Go.TypeDesc.struct #[{ name := "_interface", type := 17, offset := 0, embedded := false, tag := "", pkgPath := "runtime", byteOffset := 0 }, { name := "concrete", type := 17, offset := 1, embedded := false, tag := "", pkgPath := "runtime", byteOffset := 8 }, { name := "asserted", type := 17, offset := 2, embedded := false, tag := "", pkgPath := "runtime", byteOffset := 16 }, { name := "missingMethod", type := 9, offset := 3, embedded := false, tag := "", pkgPath := "runtime", byteOffset := 24 }]), 4, 40, (Go.Value.agg #[Go.Value.pointer none, Go.Value.pointer none, Go.Value.pointer none, Go.Value.string { data := #[] }])⟩),
  (138, ⟨(Go.TypeDesc.struct #[{ name := "_interface", type := 17, offset := 0, embedded := false, tag := "", pkgPath := "runtime", byteOffset := 0 }, { name := "concrete", type := 17, offset := 1, embedded := false, tag := "", pkgPath := "runtime", byteOffset := 8 }, { name := "asserted", type := 17, offset := 2, embedded := false, tag := "", pkgPath := "runtime", byteOffset := 16 }, { name := "missingMethod", type := 9, offset := 3, embedded := false, tag := "", pkgPath := "runtime", byteOffset := 24 }]), 4, 40, (Go.Value.agg #[Go.Value.pointer none, Go.Value.pointer none, Go.Value.pointer none, Go.Value.string { data := #[] }])⟩),
  (139, ⟨(Go.TypeDesc.array 0 16), 0, 0, (Go.Value.agg #[])⟩),
  (140, ⟨(Go.TypeDesc.struct #[{ name := "_", type := 139, offset := 0, embedded := false, tag := "", pkgPath := "runtime", byteOffset := 0 }]), 0, 0, (Go.Value.agg #[])⟩),
  (141, ⟨(Go.TypeDesc.struct #[{ name := "_", type := 139, offset := 0, embedded := false, tag := "", pkgPath := "runtime", byteOffset := 0 }]), 0, 0, (Go.Value.agg #[])⟩),
  (142, ⟨(Go.TypeDesc.int Go.IntKind.u32), 1, 4, (Go.Value.int Go.IntKind.u32 0)⟩),
  (143, ⟨(Go.TypeDesc.int Go.IntKind.u8), 1, 1, (Go.Value.int Go.IntKind.u8 0)⟩),
  (144, ⟨(Go.TypeDesc.int Go.IntKind.u8), 1, 1, (Go.Value.int Go.IntKind.u8 0)⟩),
  (146, ⟨(Go.TypeDesc.pointer 5), 1, 8, (Go.Value.pointer none)⟩),
  (147, ⟨(Go.TypeDesc.int Go.IntKind.i32), 1, 4, (Go.Value.int Go.IntKind.i32 0)⟩),
  (148, ⟨(Go.TypeDesc.int Go.IntKind.i32), 1, 4, (Go.Value.int Go.IntKind.i32 0)⟩),
  (149, ⟨(Go.TypeDesc.struct #[{ name := "Size_", type := 12, offset := 0, embedded := false, tag := "", pkgPath := "", byteOffset := 0 }, { name := "PtrBytes", type := 12, offset := 1, embedded := false, tag := "", pkgPath := "", byteOffset := 8 }, { name := "Hash", type := 142, offset := 2, embedded := false, tag := "", pkgPath := "", byteOffset := 16 }, { name := "TFlag", type := 143, offset := 3, embedded := false, tag := "", pkgPath := "", byteOffset := 20 }, { name := "Align_", type := 5, offset := 4, embedded := false, tag := "", pkgPath := "", byteOffset := 21 }, { name := "FieldAlign_", type := 5, offset := 5, embedded := false, tag := "", pkgPath := "", byteOffset := 22 }, { name := "Kind_", type := 144, offset := 6, embedded := false, tag := "", pkgPath := "", byteOffset := 23 }, { name := "Equal", type := 145, offset := 7, embedded := false, tag := "", pkgPath := "", byteOffset := 24 }, { name := "GCData", type := 146, offset := 8, embedded := false, tag := "", pkgPath := "", byteOffset := 32 }, { name := "Str", type := 147, offset := 9, embedded := false, tag := "", pkgPath := "", byteOffset := 40 }, { name := "PtrToThis", type := 148, offset := 10, embedded := false, tag := "", pkgPath := "", byteOffset := 44 }]), 11, 48, (Go.Value.agg #[Go.Value.int Go.IntKind.u64 0, Go.Value.int Go.IntKind.u64 0, Go.Value.int Go.IntKind.u32 0, Go.Value.int Go.IntKind.u8 0, Go.Value.int Go.IntKind.u8 0, Go.Value.int Go.IntKind.u8 0, Go.Value.int Go.IntKind.u8 0, Go.Value.nilFunc, Go.Value.pointer none, Go.Value.int Go.IntKind.i32 0, Go.Value.int Go.IntKind.i32 0])⟩),
  (150, ⟨(Go.TypeDesc.struct #[{ name := "Size_", type := 12, offset := 0, embedded := false, tag := "", pkgPath := "", byteOffset := 0 }, { name := "PtrBytes", type := 12, offset := 1, embedded := false, tag := "", pkgPath := "", byteOffset := 8 }, { name := "Hash", type := 142, offset := 2, embedded := false, tag := "", pkgPath := "", byteOffset := 16 }, { name := "TFlag", type := 143, offset := 3, embedded := false, tag := "", pkgPath := "", byteOffset := 20 }, { name := "Align_", type := 5, offset := 4, embedded := false, tag := "", pkgPath := "", byteOffset := 21 }, { name := "FieldAlign_", type := 5, offset := 5, embedded := false, tag := "", pkgPath := "", byteOffset := 22 }, { name := "Kind_", type := 144, offset := 6, embedded := false, tag := "", pkgPath := "", byteOffset := 23 }, { name := "Equal", type := 145, offset := 7, embedded := false, tag := "", pkgPath := "", byteOffset := 24 }, { name := "GCData", type := 146, offset := 8, embedded := false, tag := "", pkgPath := "", byteOffset := 32 }, { name := "Str", type := 147, offset := 9, embedded := false, tag := "", pkgPath := "", byteOffset := 40 }, { name := "PtrToThis", type := 148, offset := 10, embedded := false, tag := "", pkgPath := "", byteOffset := 44 }]), 11, 48, (Go.Value.agg #[Go.Value.int Go.IntKind.u64 0, Go.Value.int Go.IntKind.u64 0, Go.Value.int Go.IntKind.u32 0, Go.Value.int Go.IntKind.u8 0, Go.Value.int Go.IntKind.u8 0, Go.Value.int Go.IntKind.u8 0, Go.Value.int Go.IntKind.u8 0, Go.Value.nilFunc, Go.Value.pointer none, Go.Value.int Go.IntKind.i32 0, Go.Value.int Go.IntKind.i32 0])⟩),
  (151, ⟨Go.TypeDesc.unsafePointer, 1, 8, (Go.Value.pointer none)⟩)]
def Γ (t : TypeId) : Option TI := Gk.look tbl t
theorem hΓ : TOK Try.prog Γ := Gk.look_ok _ (
  And.intro ⟨Try.underlying2, Try.t2, Try.type2, rfl, rfl, rfl⟩ (
  And.intro ⟨Try.underlying3, Try.t3, Try.type3, rfl, rfl, rfl⟩ (
  And.intro ⟨Try.underlying4, Try.t4, Try.type4, rfl, rfl, rfl⟩ (
  And.intro ⟨Try.underlying5, Try.t5, Try.type5, rfl, rfl, rfl⟩ (
  And.intro ⟨Try.underlying6, Try.t6, Try.type6, rfl, rfl, rfl⟩ (
  And.intro ⟨Try.underlying7, Try.t7, Try.type7, rfl, rfl, rfl⟩ (
  And.intro ⟨Try.underlying8, Try.t8, Try.type8, rfl, rfl, rfl⟩ (
  And.intro ⟨Try.underlying9, Try.t9, Try.type9, rfl, rfl, rfl⟩ (
  And.intro ⟨Try.underlying10, Try.t10, Try.type10, rfl, rfl, rfl⟩ (
  And.intro ⟨Try.underlying11, Try.t11, Try.type11, rfl, rfl, rfl⟩ (
  And.intro ⟨Try.underlying12, Try.t12, Try.type12, rfl, rfl, rfl⟩ (
  And.intro ⟨Try.underlying13, Try.t13, Try.type13, rfl, rfl, rfl⟩ (
  And.intro ⟨Try.underlying14, Try.t14, Try.type14, rfl, rfl, rfl⟩ (
  And.intro ⟨Try.underlying15, Try.t15, Try.type15, rfl, rfl, rfl⟩ (
  And.intro ⟨Try.underlying16, Try.t16, Try.type16, rfl, rfl, rfl⟩ (
  And.intro ⟨Try.underlying17, Try.t17, Try.type17, rfl, rfl, rfl⟩ (
  And.intro ⟨Try.underlying18, Try.t18, Try.type18, rfl, rfl, rfl⟩ (
  And.intro ⟨Try.underlying19, Try.t19, Try.type19, rfl, rfl, rfl⟩ (
  And.intro ⟨Try.underlying21, Try.t21, Try.type21, rfl, rfl, rfl⟩ (
  And.intro ⟨Try.underlying22, Try.t22, Try.type22, rfl, rfl, rfl⟩ (
  And.intro ⟨Try.underlying23, Try.t23, Try.type23, rfl, rfl, rfl⟩ (
  And.intro ⟨Try.underlying24, Try.t24, Try.type24, rfl, rfl, rfl⟩ (
  And.intro ⟨Try.underlying25, Try.t25, Try.type25, rfl, rfl, rfl⟩ (
  And.intro ⟨Try.underlying26, Try.t26, Try.type26, rfl, rfl, rfl⟩ (
  And.intro ⟨Try.underlying27, Try.t27, Try.type27, rfl, rfl, rfl⟩ (
  And.intro ⟨Try.underlying28, Try.t28, Try.type28, rfl, rfl, rfl⟩ (
  And.intro ⟨Try.underlying29, Try.t29, Try.type29, rfl, rfl, rfl⟩ (
  And.intro ⟨Try.underlying30, Try.t30, Try.type30, rfl, rfl, rfl⟩ (
  And.intro ⟨Try.underlying32, Try.t32, Try.type32, rfl, rfl, rfl⟩ (
  And.intro ⟨Try.underlying33, Try.t33, Try.type33, rfl, rfl, rfl⟩ (
  And.intro ⟨Try.underlying38, Try.t38, Try.type38, rfl, rfl, rfl⟩ (
  And.intro ⟨Try.underlying44, Try.t44, Try.type44, rfl, rfl, rfl⟩ (
  And.intro ⟨Try.underlying45, Try.t45, Try.type45, rfl, rfl, rfl⟩ (
  And.intro ⟨Try.underlying54, Try.t54, Try.type54, rfl, rfl, rfl⟩ (
  And.intro ⟨Try.underlying55, Try.t55, Try.type55, rfl, rfl, rfl⟩ (
  And.intro ⟨Try.underlying62, Try.t62, Try.type62, rfl, rfl, rfl⟩ (
  And.intro ⟨Try.underlying63, Try.t63, Try.type63, rfl, rfl, rfl⟩ (
  And.intro ⟨Try.underlying64, Try.t64, Try.type64, rfl, rfl, rfl⟩ (
  And.intro ⟨Try.underlying67, Try.t67, Try.type67, rfl, rfl, rfl⟩ (
  And.intro ⟨Try.underlying70, Try.t70, Try.type70, rfl, rfl, rfl⟩ (
  And.intro ⟨Try.underlying71, Try.t71, Try.type71, rfl, rfl, rfl⟩ (
  And.intro ⟨Try.underlying72, Try.t72, Try.type72, rfl, rfl, rfl⟩ (
  And.intro ⟨Try.underlying74, Try.t74, Try.type74, rfl, rfl, rfl⟩ (
  And.intro ⟨Try.underlying75, Try.t75, Try.type75, rfl, rfl, rfl⟩ (
  And.intro ⟨Try.underlying76, Try.t76, Try.type76, rfl, rfl, rfl⟩ (
  And.intro ⟨Try.underlying78, Try.t78, Try.type78, rfl, rfl, rfl⟩ (
  And.intro ⟨Try.underlying84, Try.t84, Try.type84, rfl, rfl, rfl⟩ (
  And.intro ⟨Try.underlying85, Try.t85, Try.type85, rfl, rfl, rfl⟩ (
  And.intro ⟨Try.underlying86, Try.t86, Try.type86, rfl, rfl, rfl⟩ (
  And.intro ⟨Try.underlying87, Try.t87, Try.type87, rfl, rfl, rfl⟩ (
  And.intro ⟨Try.underlying90, Try.t90, Try.type90, rfl, rfl, rfl⟩ (
  And.intro ⟨Try.underlying92, Try.t92, Try.type92, rfl, rfl, rfl⟩ (
  And.intro ⟨Try.underlying93, Try.t93, Try.type93, rfl, rfl, rfl⟩ (
  And.intro ⟨Try.underlying101, Try.t101, Try.type101, rfl, rfl, rfl⟩ (
  And.intro ⟨Try.underlying102, Try.t102, Try.type102, rfl, rfl, rfl⟩ (
  And.intro ⟨Try.underlying103, Try.t103, Try.type103, rfl, rfl, rfl⟩ (
  And.intro ⟨Try.underlying104, Try.t104, Try.type104, rfl, rfl, rfl⟩ (
  And.intro ⟨Try.underlying106, Try.t106, Try.type106, rfl, rfl, rfl⟩ (
  And.intro ⟨Try.underlying107, Try.t107, Try.type107, rfl, rfl, rfl⟩ (
  And.intro ⟨Try.underlying108, Try.t108, Try.type108, rfl, rfl, rfl⟩ (
  And.intro ⟨Try.underlying110, Try.t110, Try.type110, rfl, rfl, rfl⟩ (
  And.intro ⟨Try.underlying118, Try.t118, Try.type118, rfl, rfl, rfl⟩ (
  And.intro ⟨Try.underlying124, Try.t124, Try.type124, rfl, rfl, rfl⟩ (
  And.intro ⟨Try.underlying126, Try.t126, Try.type126, rfl, rfl, rfl⟩ (
  And.intro ⟨Try.underlying128, Try.t128, Try.type128, rfl, rfl, rfl⟩ (
  And.intro ⟨Try.underlying129, Try.t129, Try.type129, rfl, rfl, rfl⟩ (
  And.intro ⟨Try.underlying131, Try.t131, Try.type131, rfl, rfl, rfl⟩ (
  And.intro ⟨Try.underlying132, Try.t132, Try.type132, rfl, rfl, rfl⟩ (
  And.intro ⟨Try.underlying133, Try.t133, Try.type133, rfl, rfl, rfl⟩ (
  And.intro ⟨Try.underlying134, Try.t134, Try.type134, rfl, rfl, rfl⟩ (
  And.intro ⟨Try.underlying137, Try.t137, Try.type137, rfl, rfl, rfl⟩ (
  And.intro ⟨Try.underlying138, Try.t138, Try.type138, rfl, rfl, rfl⟩ (
  And.intro ⟨Try.underlying139, Try.t139, Try.type139, rfl, rfl, rfl⟩ (
  And.intro ⟨Try.underlying140, Try.t140, Try.type140, rfl, rfl, rfl⟩ (
  And.intro ⟨Try.underlying141, Try.t141, Try.type141, rfl, rfl, rfl⟩ (
  And.intro ⟨Try.underlying142, Try.t142, Try.type142, rfl, rfl, rfl⟩ (
  And.intro ⟨Try.underlying143, Try.t143, Try.type143, rfl, rfl, rfl⟩ (
  And.intro ⟨Try.underlying144, Try.t144, Try.type144, rfl, rfl, rfl⟩ (
  And.intro ⟨Try.underlying146, Try.t146, Try.type146, rfl, rfl, rfl⟩ (
  And.intro ⟨Try.underlying147, Try.t147, Try.type147, rfl, rfl, rfl⟩ (
  And.intro ⟨Try.underlying148, Try.t148, Try.type148, rfl, rfl, rfl⟩ (
  And.intro ⟨Try.underlying149, Try.t149, Try.type149, rfl, rfl, rfl⟩ (
  And.intro ⟨Try.underlying150, Try.t150, Try.type150, rfl, rfl, rfl⟩ (
  And.intro ⟨Try.underlying151, Try.t151, Try.type151, rfl, rfl, rfl⟩ (trivial)))))))))))))))))))))))))))))))))))))))))))))))))))))))))))))))))))))))))))))))))))))
theorem hmix : Try.prog.follows .mixedOrders = true := by kernel_rfl
end Go.Proofs.Ytnjnmkpgedkffaa
