import Derived.Test.YtjcpgiicdppkcaaDoorChecked
import Derived.Test.YtjcpgiicdppkcaaDoorE17
import Derived.KernelRfl
namespace Go.Proofs
theorem Tryd.mixed : Tryd.prog.follows .mixedOrders = true := by kernel_rfl
theorem Tryd.size1 : Go.Eng.sizeT Tryd.prog 1 = some 1 := by kernel_rfl
theorem Tryd.agg1 : Go.Eng.aggT Tryd.prog 1 = some false := by kernel_rfl
theorem Tryd.bytes1 : Go.Eng.bytesT Tryd.prog 1 = some 8 := by kernel_rfl
theorem Tryd.basic1 : Go.Eng.basicT Tryd.prog 1 = .other := by kernel_rfl
theorem Tryd.zero1 : Go.Eng.zeroT Tryd.prog 1 = some (.nilfn) := by kernel_rfl
theorem Tryd.size2 : Go.Eng.sizeT Tryd.prog 2 = some 1 := by kernel_rfl
theorem Tryd.agg2 : Go.Eng.aggT Tryd.prog 2 = some false := by kernel_rfl
theorem Tryd.bytes2 : Go.Eng.bytesT Tryd.prog 2 = some 8 := by kernel_rfl
theorem Tryd.basic2 : Go.Eng.basicT Tryd.prog 2 = .int .i64 := by kernel_rfl
theorem Tryd.zero2 : Go.Eng.zeroT Tryd.prog 2 = some (.int .i64 0) := by kernel_rfl
theorem Tryd.size3 : Go.Eng.sizeT Tryd.prog 3 = some 1 := by kernel_rfl
theorem Tryd.agg3 : Go.Eng.aggT Tryd.prog 3 = some false := by kernel_rfl
theorem Tryd.bytes3 : Go.Eng.bytesT Tryd.prog 3 = some 8 := by kernel_rfl
theorem Tryd.basic3 : Go.Eng.basicT Tryd.prog 3 = .int .i64 := by kernel_rfl
theorem Tryd.zero3 : Go.Eng.zeroT Tryd.prog 3 = some (.int .i64 0) := by kernel_rfl
theorem Tryd.size4 : Go.Eng.sizeT Tryd.prog 4 = some 1 := by kernel_rfl
theorem Tryd.agg4 : Go.Eng.aggT Tryd.prog 4 = some false := by kernel_rfl
theorem Tryd.bytes4 : Go.Eng.bytesT Tryd.prog 4 = some 1 := by kernel_rfl
theorem Tryd.basic4 : Go.Eng.basicT Tryd.prog 4 = .bool := by kernel_rfl
theorem Tryd.zero4 : Go.Eng.zeroT Tryd.prog 4 = some (.bool false) := by kernel_rfl
theorem Tryd.size5 : Go.Eng.sizeT Tryd.prog 5 = some 1 := by kernel_rfl
theorem Tryd.agg5 : Go.Eng.aggT Tryd.prog 5 = some false := by kernel_rfl
theorem Tryd.bytes5 : Go.Eng.bytesT Tryd.prog 5 = some 1 := by kernel_rfl
theorem Tryd.basic5 : Go.Eng.basicT Tryd.prog 5 = .int .u8 := by kernel_rfl
theorem Tryd.zero5 : Go.Eng.zeroT Tryd.prog 5 = some (.int .u8 0) := by kernel_rfl
theorem Tryd.size7 : Go.Eng.sizeT Tryd.prog 7 = some 4 := by kernel_rfl
theorem Tryd.agg7 : Go.Eng.aggT Tryd.prog 7 = some true := by kernel_rfl
theorem Tryd.bytes7 : Go.Eng.bytesT Tryd.prog 7 = some 24 := by kernel_rfl
theorem Tryd.basic7 : Go.Eng.basicT Tryd.prog 7 = .other := by kernel_rfl
theorem Tryd.field7_0 : Go.Eng.fieldT Tryd.prog 7 0 = some (0, 2) := by kernel_rfl
theorem Tryd.field7_1 : Go.Eng.fieldT Tryd.prog 7 1 = some (1, 3) := by kernel_rfl
theorem Tryd.field7_2 : Go.Eng.fieldT Tryd.prog 7 2 = some (2, 4) := by kernel_rfl
theorem Tryd.field7_3 : Go.Eng.fieldT Tryd.prog 7 3 = some (3, 6) := by kernel_rfl
theorem Tryd.places7 : Go.Eng.placesT Tryd.prog 7 = some (fun i => ([(0, 1), (1, 1), (2, 1), (3, 1)] : List (Nat × Nat))[i]?) := by kernel_rfl
theorem Tryd.eq7 : Go.Eng.eqT Tryd.prog 7 = some [.int .i64, .int .i64, .bool, .int .u8] := by kernel_rfl
theorem Tryd.zero7 : Go.Eng.zeroT Tryd.prog 7 = some (.agg [.int .i64 0, .int .i64 0, .bool false, .int .u8 0]) := by kernel_rfl
theorem Tryd.size9 : Go.Eng.sizeT Tryd.prog 9 = some 1 := by kernel_rfl
theorem Tryd.agg9 : Go.Eng.aggT Tryd.prog 9 = some false := by kernel_rfl
theorem Tryd.bytes9 : Go.Eng.bytesT Tryd.prog 9 = some 16 := by kernel_rfl
theorem Tryd.basic9 : Go.Eng.basicT Tryd.prog 9 = .str := by kernel_rfl
theorem Tryd.src9 : Go.Eng.srcT Tryd.prog 9 = true := by kernel_rfl
theorem Tryd.zero9 : Go.Eng.zeroT Tryd.prog 9 = some (.str []) := by kernel_rfl
theorem Tryd.size12 : Go.Eng.sizeT Tryd.prog 12 = some 1 := by kernel_rfl
theorem Tryd.agg12 : Go.Eng.aggT Tryd.prog 12 = some false := by kernel_rfl
theorem Tryd.bytes12 : Go.Eng.bytesT Tryd.prog 12 = some 8 := by kernel_rfl
theorem Tryd.basic12 : Go.Eng.basicT Tryd.prog 12 = .int .u64 := by kernel_rfl
theorem Tryd.zero12 : Go.Eng.zeroT Tryd.prog 12 = some (.int .u64 0) := by kernel_rfl
theorem Tryd.size13 : Go.Eng.sizeT Tryd.prog 13 = some 2 := by kernel_rfl
theorem Tryd.agg13 : Go.Eng.aggT Tryd.prog 13 = some true := by kernel_rfl
theorem Tryd.bytes13 : Go.Eng.bytesT Tryd.prog 13 = some 24 := by kernel_rfl
theorem Tryd.basic13 : Go.Eng.basicT Tryd.prog 13 = .other := by kernel_rfl
theorem Tryd.field13_0 : Go.Eng.fieldT Tryd.prog 13 0 = some (0, 9) := by kernel_rfl
theorem Tryd.field13_1 : Go.Eng.fieldT Tryd.prog 13 1 = some (1, 12) := by kernel_rfl
theorem Tryd.places13 : Go.Eng.placesT Tryd.prog 13 = some (fun i => ([(0, 1), (1, 1)] : List (Nat × Nat))[i]?) := by kernel_rfl
theorem Tryd.zero13 : Go.Eng.zeroT Tryd.prog 13 = some (.agg [.str [], .int .u64 0]) := by kernel_rfl
theorem Tryd.size18 : Go.Eng.sizeT Tryd.prog 18 = some 1 := by kernel_rfl
theorem Tryd.agg18 : Go.Eng.aggT Tryd.prog 18 = some true := by kernel_rfl
theorem Tryd.bytes18 : Go.Eng.bytesT Tryd.prog 18 = some 8 := by kernel_rfl
theorem Tryd.basic18 : Go.Eng.basicT Tryd.prog 18 = .other := by kernel_rfl
theorem Tryd.field18_0 : Go.Eng.fieldT Tryd.prog 18 0 = some (0, 17) := by kernel_rfl
theorem Tryd.places18 : Go.Eng.placesT Tryd.prog 18 = some (fun i => ([(0, 1)] : List (Nat × Nat))[i]?) := by kernel_rfl
theorem Tryd.zero18 : Go.Eng.zeroT Tryd.prog 18 = some (.agg [.nilp]) := by kernel_rfl
theorem Tryd.size20 : Go.Eng.sizeT Tryd.prog 20 = some 1 := by kernel_rfl
theorem Tryd.agg20 : Go.Eng.aggT Tryd.prog 20 = some false := by kernel_rfl
theorem Tryd.bytes20 : Go.Eng.bytesT Tryd.prog 20 = some 16 := by kernel_rfl
theorem Tryd.basic20 : Go.Eng.basicT Tryd.prog 20 = .other := by kernel_rfl
theorem Tryd.zero20 : Go.Eng.zeroT Tryd.prog 20 = some (.nilif) := by kernel_rfl
theorem Tryd.size21 : Go.Eng.sizeT Tryd.prog 21 = some 1 := by kernel_rfl
theorem Tryd.agg21 : Go.Eng.aggT Tryd.prog 21 = some false := by kernel_rfl
theorem Tryd.bytes21 : Go.Eng.bytesT Tryd.prog 21 = some 4 := by kernel_rfl
theorem Tryd.basic21 : Go.Eng.basicT Tryd.prog 21 = .int .i32 := by kernel_rfl
theorem Tryd.zero21 : Go.Eng.zeroT Tryd.prog 21 = some (.int .i32 0) := by kernel_rfl
theorem Tryd.size22 : Go.Eng.sizeT Tryd.prog 22 = some 1 := by kernel_rfl
theorem Tryd.agg22 : Go.Eng.aggT Tryd.prog 22 = some false := by kernel_rfl
theorem Tryd.bytes22 : Go.Eng.bytesT Tryd.prog 22 = some 24 := by kernel_rfl
theorem Tryd.basic22 : Go.Eng.basicT Tryd.prog 22 = .other := by kernel_rfl
theorem Tryd.slice22 : Go.Eng.sliceT Tryd.prog 22 = some 41 := by kernel_rfl
theorem Tryd.src22 : Go.Eng.srcT Tryd.prog 22 = true := by kernel_rfl
theorem Tryd.zero22 : Go.Eng.zeroT Tryd.prog 22 = some (.list []) := by kernel_rfl
theorem Tryd.size23 : Go.Eng.sizeT Tryd.prog 23 = some 1 := by kernel_rfl
theorem Tryd.agg23 : Go.Eng.aggT Tryd.prog 23 = some false := by kernel_rfl
theorem Tryd.bytes23 : Go.Eng.bytesT Tryd.prog 23 = some 8 := by kernel_rfl
theorem Tryd.basic23 : Go.Eng.basicT Tryd.prog 23 = .other := by kernel_rfl
theorem Tryd.zero23 : Go.Eng.zeroT Tryd.prog 23 = some (.nilfn) := by kernel_rfl
theorem Tryd.size24 : Go.Eng.sizeT Tryd.prog 24 = some 1 := by kernel_rfl
theorem Tryd.agg24 : Go.Eng.aggT Tryd.prog 24 = some false := by kernel_rfl
theorem Tryd.bytes24 : Go.Eng.bytesT Tryd.prog 24 = some 8 := by kernel_rfl
theorem Tryd.basic24 : Go.Eng.basicT Tryd.prog 24 = .other := by kernel_rfl
theorem Tryd.zero24 : Go.Eng.zeroT Tryd.prog 24 = some (.nilfn) := by kernel_rfl
theorem Tryd.size25 : Go.Eng.sizeT Tryd.prog 25 = some 1 := by kernel_rfl
theorem Tryd.agg25 : Go.Eng.aggT Tryd.prog 25 = some false := by kernel_rfl
theorem Tryd.bytes25 : Go.Eng.bytesT Tryd.prog 25 = some 8 := by kernel_rfl
theorem Tryd.basic25 : Go.Eng.basicT Tryd.prog 25 = .int .i64 := by kernel_rfl
theorem Tryd.zero25 : Go.Eng.zeroT Tryd.prog 25 = some (.int .i64 0) := by kernel_rfl
theorem Tryd.size27 : Go.Eng.sizeT Tryd.prog 27 = some 1 := by kernel_rfl
theorem Tryd.agg27 : Go.Eng.aggT Tryd.prog 27 = some false := by kernel_rfl
theorem Tryd.bytes27 : Go.Eng.bytesT Tryd.prog 27 = some 8 := by kernel_rfl
theorem Tryd.basic27 : Go.Eng.basicT Tryd.prog 27 = .other := by kernel_rfl
theorem Tryd.zero27 : Go.Eng.zeroT Tryd.prog 27 = some (.nilfn) := by kernel_rfl
theorem Tryd.size28 : Go.Eng.sizeT Tryd.prog 28 = some 1 := by kernel_rfl
theorem Tryd.agg28 : Go.Eng.aggT Tryd.prog 28 = some false := by kernel_rfl
theorem Tryd.bytes28 : Go.Eng.bytesT Tryd.prog 28 = some 8 := by kernel_rfl
theorem Tryd.basic28 : Go.Eng.basicT Tryd.prog 28 = .other := by kernel_rfl
theorem Tryd.zero28 : Go.Eng.zeroT Tryd.prog 28 = some (.nilfn) := by kernel_rfl
theorem Tryd.size29 : Go.Eng.sizeT Tryd.prog 29 = some 1 := by kernel_rfl
theorem Tryd.agg29 : Go.Eng.aggT Tryd.prog 29 = some false := by kernel_rfl
theorem Tryd.bytes29 : Go.Eng.bytesT Tryd.prog 29 = some 8 := by kernel_rfl
theorem Tryd.basic29 : Go.Eng.basicT Tryd.prog 29 = .other := by kernel_rfl
theorem Tryd.zero29 : Go.Eng.zeroT Tryd.prog 29 = some (.nilfn) := by kernel_rfl
theorem Tryd.size30 : Go.Eng.sizeT Tryd.prog 30 = some 1 := by kernel_rfl
theorem Tryd.agg30 : Go.Eng.aggT Tryd.prog 30 = some false := by kernel_rfl
theorem Tryd.bytes30 : Go.Eng.bytesT Tryd.prog 30 = some 8 := by kernel_rfl
theorem Tryd.basic30 : Go.Eng.basicT Tryd.prog 30 = .int .u64 := by kernel_rfl
theorem Tryd.zero30 : Go.Eng.zeroT Tryd.prog 30 = some (.int .u64 0) := by kernel_rfl
theorem Tryd.size31 : Go.Eng.sizeT Tryd.prog 31 = some 3 := by kernel_rfl
theorem Tryd.agg31 : Go.Eng.aggT Tryd.prog 31 = some true := by kernel_rfl
theorem Tryd.bytes31 : Go.Eng.bytesT Tryd.prog 31 = some 24 := by kernel_rfl
theorem Tryd.basic31 : Go.Eng.basicT Tryd.prog 31 = .other := by kernel_rfl
theorem Tryd.field31_0 : Go.Eng.fieldT Tryd.prog 31 0 = some (0, 3) := by kernel_rfl
theorem Tryd.field31_1 : Go.Eng.fieldT Tryd.prog 31 1 = some (1, 30) := by kernel_rfl
theorem Tryd.field31_2 : Go.Eng.fieldT Tryd.prog 31 2 = some (2, 3) := by kernel_rfl
theorem Tryd.places31 : Go.Eng.placesT Tryd.prog 31 = some (fun i => ([(0, 1), (1, 1), (2, 1)] : List (Nat × Nat))[i]?) := by kernel_rfl
theorem Tryd.eq31 : Go.Eng.eqT Tryd.prog 31 = some [.int .i64, .int .u64, .int .i64] := by kernel_rfl
theorem Tryd.zero31 : Go.Eng.zeroT Tryd.prog 31 = some (.agg [.int .i64 0, .int .u64 0, .int .i64 0]) := by kernel_rfl
theorem Tryd.size32 : Go.Eng.sizeT Tryd.prog 32 = some 3 := by kernel_rfl
theorem Tryd.agg32 : Go.Eng.aggT Tryd.prog 32 = some true := by kernel_rfl
theorem Tryd.bytes32 : Go.Eng.bytesT Tryd.prog 32 = some 24 := by kernel_rfl
theorem Tryd.basic32 : Go.Eng.basicT Tryd.prog 32 = .other := by kernel_rfl
theorem Tryd.field32_0 : Go.Eng.fieldT Tryd.prog 32 0 = some (0, 3) := by kernel_rfl
theorem Tryd.field32_1 : Go.Eng.fieldT Tryd.prog 32 1 = some (1, 30) := by kernel_rfl
theorem Tryd.field32_2 : Go.Eng.fieldT Tryd.prog 32 2 = some (2, 3) := by kernel_rfl
theorem Tryd.places32 : Go.Eng.placesT Tryd.prog 32 = some (fun i => ([(0, 1), (1, 1), (2, 1)] : List (Nat × Nat))[i]?) := by kernel_rfl
theorem Tryd.eq32 : Go.Eng.eqT Tryd.prog 32 = some [.int .i64, .int .u64, .int .i64] := by kernel_rfl
theorem Tryd.zero32 : Go.Eng.zeroT Tryd.prog 32 = some (.agg [.int .i64 0, .int .u64 0, .int .i64 0]) := by kernel_rfl
theorem Tryd.size34 : Go.Eng.sizeT Tryd.prog 34 = some 1 := by kernel_rfl
theorem Tryd.agg34 : Go.Eng.aggT Tryd.prog 34 = some false := by kernel_rfl
theorem Tryd.bytes34 : Go.Eng.bytesT Tryd.prog 34 = some 8 := by kernel_rfl
theorem Tryd.basic34 : Go.Eng.basicT Tryd.prog 34 = .other := by kernel_rfl
theorem Tryd.zero34 : Go.Eng.zeroT Tryd.prog 34 = some (.nilfn) := by kernel_rfl
theorem Tryd.size35 : Go.Eng.sizeT Tryd.prog 35 = some 1 := by kernel_rfl
theorem Tryd.agg35 : Go.Eng.aggT Tryd.prog 35 = some false := by kernel_rfl
theorem Tryd.bytes35 : Go.Eng.bytesT Tryd.prog 35 = some 8 := by kernel_rfl
theorem Tryd.basic35 : Go.Eng.basicT Tryd.prog 35 = .other := by kernel_rfl
theorem Tryd.zero35 : Go.Eng.zeroT Tryd.prog 35 = some (.nilfn) := by kernel_rfl
theorem Tryd.size36 : Go.Eng.sizeT Tryd.prog 36 = some 1 := by kernel_rfl
theorem Tryd.agg36 : Go.Eng.aggT Tryd.prog 36 = some false := by kernel_rfl
theorem Tryd.bytes36 : Go.Eng.bytesT Tryd.prog 36 = some 8 := by kernel_rfl
theorem Tryd.basic36 : Go.Eng.basicT Tryd.prog 36 = .other := by kernel_rfl
theorem Tryd.zero36 : Go.Eng.zeroT Tryd.prog 36 = some (.nilfn) := by kernel_rfl
theorem Tryd.size37 : Go.Eng.sizeT Tryd.prog 37 = some 1 := by kernel_rfl
theorem Tryd.agg37 : Go.Eng.aggT Tryd.prog 37 = some false := by kernel_rfl
theorem Tryd.bytes37 : Go.Eng.bytesT Tryd.prog 37 = some 24 := by kernel_rfl
theorem Tryd.basic37 : Go.Eng.basicT Tryd.prog 37 = .other := by kernel_rfl
theorem Tryd.slice37 : Go.Eng.sliceT Tryd.prog 37 = some 3 := by kernel_rfl
theorem Tryd.src37 : Go.Eng.srcT Tryd.prog 37 = true := by kernel_rfl
theorem Tryd.zero37 : Go.Eng.zeroT Tryd.prog 37 = some (.list []) := by kernel_rfl
theorem Tryd.size39 : Go.Eng.sizeT Tryd.prog 39 = some 1 := by kernel_rfl
theorem Tryd.agg39 : Go.Eng.aggT Tryd.prog 39 = some false := by kernel_rfl
theorem Tryd.bytes39 : Go.Eng.bytesT Tryd.prog 39 = some 8 := by kernel_rfl
theorem Tryd.basic39 : Go.Eng.basicT Tryd.prog 39 = .other := by kernel_rfl
theorem Tryd.zero39 : Go.Eng.zeroT Tryd.prog 39 = some (.nilfn) := by kernel_rfl
theorem Tryd.size40 : Go.Eng.sizeT Tryd.prog 40 = some 7 := by kernel_rfl
theorem Tryd.agg40 : Go.Eng.aggT Tryd.prog 40 = some true := by kernel_rfl
theorem Tryd.bytes40 : Go.Eng.bytesT Tryd.prog 40 = some 56 := by kernel_rfl
theorem Tryd.basic40 : Go.Eng.basicT Tryd.prog 40 = .other := by kernel_rfl
theorem Tryd.field40_0 : Go.Eng.fieldT Tryd.prog 40 0 = some (0, 3) := by kernel_rfl
theorem Tryd.field40_1 : Go.Eng.fieldT Tryd.prog 40 1 = some (1, 3) := by kernel_rfl
theorem Tryd.field40_2 : Go.Eng.fieldT Tryd.prog 40 2 = some (2, 3) := by kernel_rfl
theorem Tryd.field40_3 : Go.Eng.fieldT Tryd.prog 40 3 = some (3, 32) := by kernel_rfl
theorem Tryd.field40_4 : Go.Eng.fieldT Tryd.prog 40 4 = some (6, 3) := by kernel_rfl
theorem Tryd.places40 : Go.Eng.placesT Tryd.prog 40 = some (fun i => ([(0, 1), (1, 1), (2, 1), (3, 3), (6, 1)] : List (Nat × Nat))[i]?) := by kernel_rfl
theorem Tryd.eq40 : Go.Eng.eqT Tryd.prog 40 = some [.int .i64, .int .i64, .int .i64, .int .i64, .int .u64, .int .i64, .int .i64] := by kernel_rfl
theorem Tryd.zero40 : Go.Eng.zeroT Tryd.prog 40 = some (.agg [.int .i64 0, .int .i64 0, .int .i64 0, .int .i64 0, .int .u64 0, .int .i64 0, .int .i64 0]) := by kernel_rfl
theorem Tryd.size41 : Go.Eng.sizeT Tryd.prog 41 = some 7 := by kernel_rfl
theorem Tryd.agg41 : Go.Eng.aggT Tryd.prog 41 = some true := by kernel_rfl
theorem Tryd.bytes41 : Go.Eng.bytesT Tryd.prog 41 = some 56 := by kernel_rfl
theorem Tryd.basic41 : Go.Eng.basicT Tryd.prog 41 = .other := by kernel_rfl
theorem Tryd.field41_0 : Go.Eng.fieldT Tryd.prog 41 0 = some (0, 3) := by kernel_rfl
theorem Tryd.field41_1 : Go.Eng.fieldT Tryd.prog 41 1 = some (1, 3) := by kernel_rfl
theorem Tryd.field41_2 : Go.Eng.fieldT Tryd.prog 41 2 = some (2, 3) := by kernel_rfl
theorem Tryd.field41_3 : Go.Eng.fieldT Tryd.prog 41 3 = some (3, 32) := by kernel_rfl
theorem Tryd.field41_4 : Go.Eng.fieldT Tryd.prog 41 4 = some (6, 3) := by kernel_rfl
theorem Tryd.places41 : Go.Eng.placesT Tryd.prog 41 = some (fun i => ([(0, 1), (1, 1), (2, 1), (3, 3), (6, 1)] : List (Nat × Nat))[i]?) := by kernel_rfl
theorem Tryd.eq41 : Go.Eng.eqT Tryd.prog 41 = some [.int .i64, .int .i64, .int .i64, .int .i64, .int .u64, .int .i64, .int .i64] := by kernel_rfl
theorem Tryd.zero41 : Go.Eng.zeroT Tryd.prog 41 = some (.agg [.int .i64 0, .int .i64 0, .int .i64 0, .int .i64 0, .int .u64 0, .int .i64 0, .int .i64 0]) := by kernel_rfl
theorem Tryd.size43 : Go.Eng.sizeT Tryd.prog 43 = some 1 := by kernel_rfl
theorem Tryd.agg43 : Go.Eng.aggT Tryd.prog 43 = some false := by kernel_rfl
theorem Tryd.bytes43 : Go.Eng.bytesT Tryd.prog 43 = some 8 := by kernel_rfl
theorem Tryd.basic43 : Go.Eng.basicT Tryd.prog 43 = .other := by kernel_rfl
theorem Tryd.zero43 : Go.Eng.zeroT Tryd.prog 43 = some (.nilfn) := by kernel_rfl
theorem Tryd.size44 : Go.Eng.sizeT Tryd.prog 44 = some 1 := by kernel_rfl
theorem Tryd.agg44 : Go.Eng.aggT Tryd.prog 44 = some false := by kernel_rfl
theorem Tryd.bytes44 : Go.Eng.bytesT Tryd.prog 44 = some 8 := by kernel_rfl
theorem Tryd.basic44 : Go.Eng.basicT Tryd.prog 44 = .other := by kernel_rfl
theorem Tryd.zero44 : Go.Eng.zeroT Tryd.prog 44 = some (.nilfn) := by kernel_rfl
theorem Tryd.size45 : Go.Eng.sizeT Tryd.prog 45 = some 1 := by kernel_rfl
theorem Tryd.agg45 : Go.Eng.aggT Tryd.prog 45 = some false := by kernel_rfl
theorem Tryd.bytes45 : Go.Eng.bytesT Tryd.prog 45 = some 8 := by kernel_rfl
theorem Tryd.basic45 : Go.Eng.basicT Tryd.prog 45 = .other := by kernel_rfl
theorem Tryd.zero45 : Go.Eng.zeroT Tryd.prog 45 = some (.nilfn) := by kernel_rfl
theorem Tryd.size46 : Go.Eng.sizeT Tryd.prog 46 = some 1 := by kernel_rfl
theorem Tryd.agg46 : Go.Eng.aggT Tryd.prog 46 = some false := by kernel_rfl
theorem Tryd.bytes46 : Go.Eng.bytesT Tryd.prog 46 = some 8 := by kernel_rfl
theorem Tryd.basic46 : Go.Eng.basicT Tryd.prog 46 = .other := by kernel_rfl
theorem Tryd.zero46 : Go.Eng.zeroT Tryd.prog 46 = some (.nilfn) := by kernel_rfl
theorem Tryd.size48 : Go.Eng.sizeT Tryd.prog 48 = some 1 := by kernel_rfl
theorem Tryd.agg48 : Go.Eng.aggT Tryd.prog 48 = some false := by kernel_rfl
theorem Tryd.bytes48 : Go.Eng.bytesT Tryd.prog 48 = some 8 := by kernel_rfl
theorem Tryd.basic48 : Go.Eng.basicT Tryd.prog 48 = .other := by kernel_rfl
theorem Tryd.zero48 : Go.Eng.zeroT Tryd.prog 48 = some (.nilfn) := by kernel_rfl
theorem Tryd.size49 : Go.Eng.sizeT Tryd.prog 49 = some 2 := by kernel_rfl
theorem Tryd.agg49 : Go.Eng.aggT Tryd.prog 49 = some true := by kernel_rfl
theorem Tryd.bytes49 : Go.Eng.bytesT Tryd.prog 49 = some 16 := by kernel_rfl
theorem Tryd.basic49 : Go.Eng.basicT Tryd.prog 49 = .other := by kernel_rfl
theorem Tryd.field49_0 : Go.Eng.fieldT Tryd.prog 49 0 = some (0, 25) := by kernel_rfl
theorem Tryd.field49_1 : Go.Eng.fieldT Tryd.prog 49 1 = some (1, 3) := by kernel_rfl
theorem Tryd.places49 : Go.Eng.placesT Tryd.prog 49 = some (fun i => ([(0, 1), (1, 1)] : List (Nat × Nat))[i]?) := by kernel_rfl
theorem Tryd.eq49 : Go.Eng.eqT Tryd.prog 49 = some [.int .i64, .int .i64] := by kernel_rfl
theorem Tryd.zero49 : Go.Eng.zeroT Tryd.prog 49 = some (.agg [.int .i64 0, .int .i64 0]) := by kernel_rfl
theorem Tryd.size50 : Go.Eng.sizeT Tryd.prog 50 = some 2 := by kernel_rfl
theorem Tryd.agg50 : Go.Eng.aggT Tryd.prog 50 = some true := by kernel_rfl
theorem Tryd.bytes50 : Go.Eng.bytesT Tryd.prog 50 = some 16 := by kernel_rfl
theorem Tryd.basic50 : Go.Eng.basicT Tryd.prog 50 = .other := by kernel_rfl
theorem Tryd.field50_0 : Go.Eng.fieldT Tryd.prog 50 0 = some (0, 25) := by kernel_rfl
theorem Tryd.field50_1 : Go.Eng.fieldT Tryd.prog 50 1 = some (1, 3) := by kernel_rfl
theorem Tryd.places50 : Go.Eng.placesT Tryd.prog 50 = some (fun i => ([(0, 1), (1, 1)] : List (Nat × Nat))[i]?) := by kernel_rfl
theorem Tryd.eq50 : Go.Eng.eqT Tryd.prog 50 = some [.int .i64, .int .i64] := by kernel_rfl
theorem Tryd.zero50 : Go.Eng.zeroT Tryd.prog 50 = some (.agg [.int .i64 0, .int .i64 0]) := by kernel_rfl
theorem Tryd.size52 : Go.Eng.sizeT Tryd.prog 52 = some 1 := by kernel_rfl
theorem Tryd.agg52 : Go.Eng.aggT Tryd.prog 52 = some false := by kernel_rfl
theorem Tryd.bytes52 : Go.Eng.bytesT Tryd.prog 52 = some 8 := by kernel_rfl
theorem Tryd.basic52 : Go.Eng.basicT Tryd.prog 52 = .other := by kernel_rfl
theorem Tryd.zero52 : Go.Eng.zeroT Tryd.prog 52 = some (.nilfn) := by kernel_rfl
theorem Tryd.size53 : Go.Eng.sizeT Tryd.prog 53 = some 1 := by kernel_rfl
theorem Tryd.agg53 : Go.Eng.aggT Tryd.prog 53 = some false := by kernel_rfl
theorem Tryd.bytes53 : Go.Eng.bytesT Tryd.prog 53 = some 8 := by kernel_rfl
theorem Tryd.basic53 : Go.Eng.basicT Tryd.prog 53 = .other := by kernel_rfl
theorem Tryd.zero53 : Go.Eng.zeroT Tryd.prog 53 = some (.nilfn) := by kernel_rfl
theorem Tryd.size54 : Go.Eng.sizeT Tryd.prog 54 = some 1 := by kernel_rfl
theorem Tryd.agg54 : Go.Eng.aggT Tryd.prog 54 = some false := by kernel_rfl
theorem Tryd.bytes54 : Go.Eng.bytesT Tryd.prog 54 = some 8 := by kernel_rfl
theorem Tryd.basic54 : Go.Eng.basicT Tryd.prog 54 = .other := by kernel_rfl
theorem Tryd.zero54 : Go.Eng.zeroT Tryd.prog 54 = some (.nilfn) := by kernel_rfl
theorem Tryd.size55 : Go.Eng.sizeT Tryd.prog 55 = some 1 := by kernel_rfl
theorem Tryd.agg55 : Go.Eng.aggT Tryd.prog 55 = some false := by kernel_rfl
theorem Tryd.bytes55 : Go.Eng.bytesT Tryd.prog 55 = some 8 := by kernel_rfl
theorem Tryd.basic55 : Go.Eng.basicT Tryd.prog 55 = .other := by kernel_rfl
theorem Tryd.zero55 : Go.Eng.zeroT Tryd.prog 55 = some (.nilfn) := by kernel_rfl
theorem Tryd.size56 : Go.Eng.sizeT Tryd.prog 56 = some 1 := by kernel_rfl
theorem Tryd.agg56 : Go.Eng.aggT Tryd.prog 56 = some false := by kernel_rfl
theorem Tryd.bytes56 : Go.Eng.bytesT Tryd.prog 56 = some 8 := by kernel_rfl
theorem Tryd.basic56 : Go.Eng.basicT Tryd.prog 56 = .other := by kernel_rfl
theorem Tryd.zero56 : Go.Eng.zeroT Tryd.prog 56 = some (.nilfn) := by kernel_rfl
theorem Tryd.size57 : Go.Eng.sizeT Tryd.prog 57 = some 1 := by kernel_rfl
theorem Tryd.agg57 : Go.Eng.aggT Tryd.prog 57 = some false := by kernel_rfl
theorem Tryd.bytes57 : Go.Eng.bytesT Tryd.prog 57 = some 8 := by kernel_rfl
theorem Tryd.basic57 : Go.Eng.basicT Tryd.prog 57 = .other := by kernel_rfl
theorem Tryd.zero57 : Go.Eng.zeroT Tryd.prog 57 = some (.nilfn) := by kernel_rfl
theorem Tryd.size58 : Go.Eng.sizeT Tryd.prog 58 = some 1 := by kernel_rfl
theorem Tryd.agg58 : Go.Eng.aggT Tryd.prog 58 = some false := by kernel_rfl
theorem Tryd.bytes58 : Go.Eng.bytesT Tryd.prog 58 = some 8 := by kernel_rfl
theorem Tryd.basic58 : Go.Eng.basicT Tryd.prog 58 = .other := by kernel_rfl
theorem Tryd.map58 : Go.Eng.mapT Tryd.prog 58 = some (41, 3) := by kernel_rfl
theorem Tryd.keyT41 : Go.Eng.keyT Tryd.prog 41 = some (true, [.int .i64, .int .i64, .int .i64, .int .i64, .int .u64, .int .i64, .int .i64]) := by kernel_rfl
theorem Tryd.size60 : Go.Eng.sizeT Tryd.prog 60 = some 1 := by kernel_rfl
theorem Tryd.agg60 : Go.Eng.aggT Tryd.prog 60 = some false := by kernel_rfl
theorem Tryd.bytes60 : Go.Eng.bytesT Tryd.prog 60 = some 8 := by kernel_rfl
theorem Tryd.basic60 : Go.Eng.basicT Tryd.prog 60 = .other := by kernel_rfl
theorem Tryd.zero60 : Go.Eng.zeroT Tryd.prog 60 = some (.nilfn) := by kernel_rfl
theorem Tryd.size61 : Go.Eng.sizeT Tryd.prog 61 = some 1 := by kernel_rfl
theorem Tryd.agg61 : Go.Eng.aggT Tryd.prog 61 = some false := by kernel_rfl
theorem Tryd.bytes61 : Go.Eng.bytesT Tryd.prog 61 = some 8 := by kernel_rfl
theorem Tryd.basic61 : Go.Eng.basicT Tryd.prog 61 = .other := by kernel_rfl
theorem Tryd.zero61 : Go.Eng.zeroT Tryd.prog 61 = some (.nilfn) := by kernel_rfl
theorem Tryd.size62 : Go.Eng.sizeT Tryd.prog 62 = some 1 := by kernel_rfl
theorem Tryd.agg62 : Go.Eng.aggT Tryd.prog 62 = some false := by kernel_rfl
theorem Tryd.bytes62 : Go.Eng.bytesT Tryd.prog 62 = some 8 := by kernel_rfl
theorem Tryd.basic62 : Go.Eng.basicT Tryd.prog 62 = .other := by kernel_rfl
theorem Tryd.zero62 : Go.Eng.zeroT Tryd.prog 62 = some (.nilfn) := by kernel_rfl
theorem Tryd.size63 : Go.Eng.sizeT Tryd.prog 63 = some 1 := by kernel_rfl
theorem Tryd.agg63 : Go.Eng.aggT Tryd.prog 63 = some false := by kernel_rfl
theorem Tryd.bytes63 : Go.Eng.bytesT Tryd.prog 63 = some 8 := by kernel_rfl
theorem Tryd.basic63 : Go.Eng.basicT Tryd.prog 63 = .other := by kernel_rfl
theorem Tryd.zero63 : Go.Eng.zeroT Tryd.prog 63 = some (.nilfn) := by kernel_rfl
theorem Tryd.size64 : Go.Eng.sizeT Tryd.prog 64 = some 1 := by kernel_rfl
theorem Tryd.agg64 : Go.Eng.aggT Tryd.prog 64 = some false := by kernel_rfl
theorem Tryd.bytes64 : Go.Eng.bytesT Tryd.prog 64 = some 8 := by kernel_rfl
theorem Tryd.basic64 : Go.Eng.basicT Tryd.prog 64 = .other := by kernel_rfl
theorem Tryd.zero64 : Go.Eng.zeroT Tryd.prog 64 = some (.nilfn) := by kernel_rfl
theorem Tryd.size65 : Go.Eng.sizeT Tryd.prog 65 = some 1 := by kernel_rfl
theorem Tryd.agg65 : Go.Eng.aggT Tryd.prog 65 = some false := by kernel_rfl
theorem Tryd.bytes65 : Go.Eng.bytesT Tryd.prog 65 = some 8 := by kernel_rfl
theorem Tryd.basic65 : Go.Eng.basicT Tryd.prog 65 = .other := by kernel_rfl
theorem Tryd.zero65 : Go.Eng.zeroT Tryd.prog 65 = some (.nilfn) := by kernel_rfl
theorem Tryd.size66 : Go.Eng.sizeT Tryd.prog 66 = some 1 := by kernel_rfl
theorem Tryd.agg66 : Go.Eng.aggT Tryd.prog 66 = some false := by kernel_rfl
theorem Tryd.bytes66 : Go.Eng.bytesT Tryd.prog 66 = some 8 := by kernel_rfl
theorem Tryd.basic66 : Go.Eng.basicT Tryd.prog 66 = .other := by kernel_rfl
theorem Tryd.zero66 : Go.Eng.zeroT Tryd.prog 66 = some (.nilp) := by kernel_rfl
theorem Tryd.size67 : Go.Eng.sizeT Tryd.prog 67 = some 1 := by kernel_rfl
theorem Tryd.agg67 : Go.Eng.aggT Tryd.prog 67 = some false := by kernel_rfl
theorem Tryd.bytes67 : Go.Eng.bytesT Tryd.prog 67 = some 24 := by kernel_rfl
theorem Tryd.basic67 : Go.Eng.basicT Tryd.prog 67 = .other := by kernel_rfl
theorem Tryd.slice67 : Go.Eng.sliceT Tryd.prog 67 = some 5 := by kernel_rfl
theorem Tryd.src67 : Go.Eng.srcT Tryd.prog 67 = true := by kernel_rfl
theorem Tryd.zero67 : Go.Eng.zeroT Tryd.prog 67 = some (.list []) := by kernel_rfl
theorem Tryd.size68 : Go.Eng.sizeT Tryd.prog 68 = some 2 := by kernel_rfl
theorem Tryd.agg68 : Go.Eng.aggT Tryd.prog 68 = some true := by kernel_rfl
theorem Tryd.bytes68 : Go.Eng.bytesT Tryd.prog 68 = some 32 := by kernel_rfl
theorem Tryd.basic68 : Go.Eng.basicT Tryd.prog 68 = .other := by kernel_rfl
theorem Tryd.field68_0 : Go.Eng.fieldT Tryd.prog 68 0 = some (0, 66) := by kernel_rfl
theorem Tryd.field68_1 : Go.Eng.fieldT Tryd.prog 68 1 = some (1, 67) := by kernel_rfl
theorem Tryd.places68 : Go.Eng.placesT Tryd.prog 68 = some (fun i => ([(0, 1), (1, 1)] : List (Nat × Nat))[i]?) := by kernel_rfl
theorem Tryd.zero68 : Go.Eng.zeroT Tryd.prog 68 = some (.agg [.nilp, .list []]) := by kernel_rfl
theorem Tryd.size69 : Go.Eng.sizeT Tryd.prog 69 = some 2 := by kernel_rfl
theorem Tryd.agg69 : Go.Eng.aggT Tryd.prog 69 = some true := by kernel_rfl
theorem Tryd.bytes69 : Go.Eng.bytesT Tryd.prog 69 = some 32 := by kernel_rfl
theorem Tryd.basic69 : Go.Eng.basicT Tryd.prog 69 = .other := by kernel_rfl
theorem Tryd.field69_0 : Go.Eng.fieldT Tryd.prog 69 0 = some (0, 66) := by kernel_rfl
theorem Tryd.field69_1 : Go.Eng.fieldT Tryd.prog 69 1 = some (1, 67) := by kernel_rfl
theorem Tryd.places69 : Go.Eng.placesT Tryd.prog 69 = some (fun i => ([(0, 1), (1, 1)] : List (Nat × Nat))[i]?) := by kernel_rfl
theorem Tryd.zero69 : Go.Eng.zeroT Tryd.prog 69 = some (.agg [.nilp, .list []]) := by kernel_rfl
theorem Tryd.size70 : Go.Eng.sizeT Tryd.prog 70 = some 1 := by kernel_rfl
theorem Tryd.agg70 : Go.Eng.aggT Tryd.prog 70 = some false := by kernel_rfl
theorem Tryd.bytes70 : Go.Eng.bytesT Tryd.prog 70 = some 24 := by kernel_rfl
theorem Tryd.basic70 : Go.Eng.basicT Tryd.prog 70 = .other := by kernel_rfl
theorem Tryd.slice70 : Go.Eng.sliceT Tryd.prog 70 = some 73 := by kernel_rfl
theorem Tryd.src70 : Go.Eng.srcT Tryd.prog 70 = true := by kernel_rfl
theorem Tryd.zero70 : Go.Eng.zeroT Tryd.prog 70 = some (.list []) := by kernel_rfl
theorem Tryd.size71 : Go.Eng.sizeT Tryd.prog 71 = some 1 := by kernel_rfl
theorem Tryd.agg71 : Go.Eng.aggT Tryd.prog 71 = some false := by kernel_rfl
theorem Tryd.bytes71 : Go.Eng.bytesT Tryd.prog 71 = some 8 := by kernel_rfl
theorem Tryd.basic71 : Go.Eng.basicT Tryd.prog 71 = .other := by kernel_rfl
theorem Tryd.zero71 : Go.Eng.zeroT Tryd.prog 71 = some (.nilfn) := by kernel_rfl
theorem Tryd.size72 : Go.Eng.sizeT Tryd.prog 72 = some 3 := by kernel_rfl
theorem Tryd.agg72 : Go.Eng.aggT Tryd.prog 72 = some true := by kernel_rfl
theorem Tryd.bytes72 : Go.Eng.bytesT Tryd.prog 72 = some 40 := by kernel_rfl
theorem Tryd.basic72 : Go.Eng.basicT Tryd.prog 72 = .other := by kernel_rfl
theorem Tryd.field72_0 : Go.Eng.fieldT Tryd.prog 72 0 = some (0, 3) := by kernel_rfl
theorem Tryd.field72_1 : Go.Eng.fieldT Tryd.prog 72 1 = some (1, 9) := by kernel_rfl
theorem Tryd.field72_2 : Go.Eng.fieldT Tryd.prog 72 2 = some (2, 9) := by kernel_rfl
theorem Tryd.places72 : Go.Eng.placesT Tryd.prog 72 = some (fun i => ([(0, 1), (1, 1), (2, 1)] : List (Nat × Nat))[i]?) := by kernel_rfl
theorem Tryd.eq72 : Go.Eng.eqT Tryd.prog 72 = some [.int .i64, .str, .str] := by kernel_rfl
theorem Tryd.zero72 : Go.Eng.zeroT Tryd.prog 72 = some (.agg [.int .i64 0, .str [], .str []]) := by kernel_rfl
theorem Tryd.size73 : Go.Eng.sizeT Tryd.prog 73 = some 3 := by kernel_rfl
theorem Tryd.agg73 : Go.Eng.aggT Tryd.prog 73 = some true := by kernel_rfl
theorem Tryd.bytes73 : Go.Eng.bytesT Tryd.prog 73 = some 40 := by kernel_rfl
theorem Tryd.basic73 : Go.Eng.basicT Tryd.prog 73 = .other := by kernel_rfl
theorem Tryd.field73_0 : Go.Eng.fieldT Tryd.prog 73 0 = some (0, 3) := by kernel_rfl
theorem Tryd.field73_1 : Go.Eng.fieldT Tryd.prog 73 1 = some (1, 9) := by kernel_rfl
theorem Tryd.field73_2 : Go.Eng.fieldT Tryd.prog 73 2 = some (2, 9) := by kernel_rfl
theorem Tryd.places73 : Go.Eng.placesT Tryd.prog 73 = some (fun i => ([(0, 1), (1, 1), (2, 1)] : List (Nat × Nat))[i]?) := by kernel_rfl
theorem Tryd.eq73 : Go.Eng.eqT Tryd.prog 73 = some [.int .i64, .str, .str] := by kernel_rfl
theorem Tryd.zero73 : Go.Eng.zeroT Tryd.prog 73 = some (.agg [.int .i64 0, .str [], .str []]) := by kernel_rfl
theorem Tryd.size74 : Go.Eng.sizeT Tryd.prog 74 = some 1 := by kernel_rfl
theorem Tryd.agg74 : Go.Eng.aggT Tryd.prog 74 = some false := by kernel_rfl
theorem Tryd.bytes74 : Go.Eng.bytesT Tryd.prog 74 = some 16 := by kernel_rfl
theorem Tryd.basic74 : Go.Eng.basicT Tryd.prog 74 = .other := by kernel_rfl
theorem Tryd.zero74 : Go.Eng.zeroT Tryd.prog 74 = some (.nilif) := by kernel_rfl
theorem Tryd.size75 : Go.Eng.sizeT Tryd.prog 75 = some 1 := by kernel_rfl
theorem Tryd.agg75 : Go.Eng.aggT Tryd.prog 75 = some false := by kernel_rfl
theorem Tryd.bytes75 : Go.Eng.bytesT Tryd.prog 75 = some 16 := by kernel_rfl
theorem Tryd.basic75 : Go.Eng.basicT Tryd.prog 75 = .other := by kernel_rfl
theorem Tryd.zero75 : Go.Eng.zeroT Tryd.prog 75 = some (.nilif) := by kernel_rfl
theorem Tryd.size76 : Go.Eng.sizeT Tryd.prog 76 = some 1 := by kernel_rfl
theorem Tryd.agg76 : Go.Eng.aggT Tryd.prog 76 = some false := by kernel_rfl
theorem Tryd.bytes76 : Go.Eng.bytesT Tryd.prog 76 = some 8 := by kernel_rfl
theorem Tryd.basic76 : Go.Eng.basicT Tryd.prog 76 = .other := by kernel_rfl
theorem Tryd.zero76 : Go.Eng.zeroT Tryd.prog 76 = some (.nilfn) := by kernel_rfl
theorem Tryd.size78 : Go.Eng.sizeT Tryd.prog 78 = some 1 := by kernel_rfl
theorem Tryd.agg78 : Go.Eng.aggT Tryd.prog 78 = some false := by kernel_rfl
theorem Tryd.bytes78 : Go.Eng.bytesT Tryd.prog 78 = some 8 := by kernel_rfl
theorem Tryd.basic78 : Go.Eng.basicT Tryd.prog 78 = .other := by kernel_rfl
theorem Tryd.zero78 : Go.Eng.zeroT Tryd.prog 78 = some (.nilfn) := by kernel_rfl
theorem Tryd.size79 : Go.Eng.sizeT Tryd.prog 79 = some 1 := by kernel_rfl
theorem Tryd.agg79 : Go.Eng.aggT Tryd.prog 79 = some false := by kernel_rfl
theorem Tryd.bytes79 : Go.Eng.bytesT Tryd.prog 79 = some 8 := by kernel_rfl
theorem Tryd.basic79 : Go.Eng.basicT Tryd.prog 79 = .other := by kernel_rfl
theorem Tryd.zero79 : Go.Eng.zeroT Tryd.prog 79 = some (.nilfn) := by kernel_rfl
theorem Tryd.size80 : Go.Eng.sizeT Tryd.prog 80 = some 1 := by kernel_rfl
theorem Tryd.agg80 : Go.Eng.aggT Tryd.prog 80 = some false := by kernel_rfl
theorem Tryd.bytes80 : Go.Eng.bytesT Tryd.prog 80 = some 8 := by kernel_rfl
theorem Tryd.basic80 : Go.Eng.basicT Tryd.prog 80 = .other := by kernel_rfl
theorem Tryd.zero80 : Go.Eng.zeroT Tryd.prog 80 = some (.nilfn) := by kernel_rfl
theorem Tryd.size81 : Go.Eng.sizeT Tryd.prog 81 = some 1 := by kernel_rfl
theorem Tryd.agg81 : Go.Eng.aggT Tryd.prog 81 = some false := by kernel_rfl
theorem Tryd.bytes81 : Go.Eng.bytesT Tryd.prog 81 = some 24 := by kernel_rfl
theorem Tryd.basic81 : Go.Eng.basicT Tryd.prog 81 = .other := by kernel_rfl
theorem Tryd.slice81 : Go.Eng.sliceT Tryd.prog 81 = some 85 := by kernel_rfl
theorem Tryd.src81 : Go.Eng.srcT Tryd.prog 81 = true := by kernel_rfl
theorem Tryd.zero81 : Go.Eng.zeroT Tryd.prog 81 = some (.list []) := by kernel_rfl
theorem Tryd.size83 : Go.Eng.sizeT Tryd.prog 83 = some 1 := by kernel_rfl
theorem Tryd.agg83 : Go.Eng.aggT Tryd.prog 83 = some false := by kernel_rfl
theorem Tryd.bytes83 : Go.Eng.bytesT Tryd.prog 83 = some 8 := by kernel_rfl
theorem Tryd.basic83 : Go.Eng.basicT Tryd.prog 83 = .other := by kernel_rfl
theorem Tryd.zero83 : Go.Eng.zeroT Tryd.prog 83 = some (.nilfn) := by kernel_rfl
theorem Tryd.size84 : Go.Eng.sizeT Tryd.prog 84 = some 2 := by kernel_rfl
theorem Tryd.agg84 : Go.Eng.aggT Tryd.prog 84 = some true := by kernel_rfl
theorem Tryd.bytes84 : Go.Eng.bytesT Tryd.prog 84 = some 32 := by kernel_rfl
theorem Tryd.basic84 : Go.Eng.basicT Tryd.prog 84 = .other := by kernel_rfl
theorem Tryd.field84_0 : Go.Eng.fieldT Tryd.prog 84 0 = some (0, 3) := by kernel_rfl
theorem Tryd.field84_1 : Go.Eng.fieldT Tryd.prog 84 1 = some (1, 70) := by kernel_rfl
theorem Tryd.places84 : Go.Eng.placesT Tryd.prog 84 = some (fun i => ([(0, 1), (1, 1)] : List (Nat × Nat))[i]?) := by kernel_rfl
theorem Tryd.zero84 : Go.Eng.zeroT Tryd.prog 84 = some (.agg [.int .i64 0, .list []]) := by kernel_rfl
theorem Tryd.size85 : Go.Eng.sizeT Tryd.prog 85 = some 2 := by kernel_rfl
theorem Tryd.agg85 : Go.Eng.aggT Tryd.prog 85 = some true := by kernel_rfl
theorem Tryd.bytes85 : Go.Eng.bytesT Tryd.prog 85 = some 32 := by kernel_rfl
theorem Tryd.basic85 : Go.Eng.basicT Tryd.prog 85 = .other := by kernel_rfl
theorem Tryd.field85_0 : Go.Eng.fieldT Tryd.prog 85 0 = some (0, 3) := by kernel_rfl
theorem Tryd.field85_1 : Go.Eng.fieldT Tryd.prog 85 1 = some (1, 70) := by kernel_rfl
theorem Tryd.places85 : Go.Eng.placesT Tryd.prog 85 = some (fun i => ([(0, 1), (1, 1)] : List (Nat × Nat))[i]?) := by kernel_rfl
theorem Tryd.zero85 : Go.Eng.zeroT Tryd.prog 85 = some (.agg [.int .i64 0, .list []]) := by kernel_rfl
theorem Tryd.size86 : Go.Eng.sizeT Tryd.prog 86 = some 1 := by kernel_rfl
theorem Tryd.agg86 : Go.Eng.aggT Tryd.prog 86 = some false := by kernel_rfl
theorem Tryd.bytes86 : Go.Eng.bytesT Tryd.prog 86 = some 8 := by kernel_rfl
theorem Tryd.basic86 : Go.Eng.basicT Tryd.prog 86 = .other := by kernel_rfl
theorem Tryd.zero86 : Go.Eng.zeroT Tryd.prog 86 = some (.nilfn) := by kernel_rfl
theorem Tryd.size87 : Go.Eng.sizeT Tryd.prog 87 = some 1 := by kernel_rfl
theorem Tryd.agg87 : Go.Eng.aggT Tryd.prog 87 = some false := by kernel_rfl
theorem Tryd.bytes87 : Go.Eng.bytesT Tryd.prog 87 = some 8 := by kernel_rfl
theorem Tryd.basic87 : Go.Eng.basicT Tryd.prog 87 = .other := by kernel_rfl
theorem Tryd.zero87 : Go.Eng.zeroT Tryd.prog 87 = some (.nilfn) := by kernel_rfl
theorem Tryd.size88 : Go.Eng.sizeT Tryd.prog 88 = some 1 := by kernel_rfl
theorem Tryd.agg88 : Go.Eng.aggT Tryd.prog 88 = some false := by kernel_rfl
theorem Tryd.bytes88 : Go.Eng.bytesT Tryd.prog 88 = some 8 := by kernel_rfl
theorem Tryd.basic88 : Go.Eng.basicT Tryd.prog 88 = .other := by kernel_rfl
theorem Tryd.zero88 : Go.Eng.zeroT Tryd.prog 88 = some (.nilfn) := by kernel_rfl
theorem Tryd.size89 : Go.Eng.sizeT Tryd.prog 89 = some 1 := by kernel_rfl
theorem Tryd.agg89 : Go.Eng.aggT Tryd.prog 89 = some false := by kernel_rfl
theorem Tryd.bytes89 : Go.Eng.bytesT Tryd.prog 89 = some 8 := by kernel_rfl
theorem Tryd.basic89 : Go.Eng.basicT Tryd.prog 89 = .other := by kernel_rfl
theorem Tryd.zero89 : Go.Eng.zeroT Tryd.prog 89 = some (.nilfn) := by kernel_rfl
theorem Tryd.size90 : Go.Eng.sizeT Tryd.prog 90 = some 1 := by kernel_rfl
theorem Tryd.agg90 : Go.Eng.aggT Tryd.prog 90 = some false := by kernel_rfl
theorem Tryd.bytes90 : Go.Eng.bytesT Tryd.prog 90 = some 8 := by kernel_rfl
theorem Tryd.basic90 : Go.Eng.basicT Tryd.prog 90 = .other := by kernel_rfl
theorem Tryd.zero90 : Go.Eng.zeroT Tryd.prog 90 = some (.nilfn) := by kernel_rfl
theorem Tryd.size91 : Go.Eng.sizeT Tryd.prog 91 = some 3 := by kernel_rfl
theorem Tryd.agg91 : Go.Eng.aggT Tryd.prog 91 = some true := by kernel_rfl
theorem Tryd.bytes91 : Go.Eng.bytesT Tryd.prog 91 = some 24 := by kernel_rfl
theorem Tryd.basic91 : Go.Eng.basicT Tryd.prog 91 = .other := by kernel_rfl
theorem Tryd.field91_0 : Go.Eng.fieldT Tryd.prog 91 0 = some (0, 3) := by kernel_rfl
theorem Tryd.field91_1 : Go.Eng.fieldT Tryd.prog 91 1 = some (1, 3) := by kernel_rfl
theorem Tryd.field91_2 : Go.Eng.fieldT Tryd.prog 91 2 = some (2, 3) := by kernel_rfl
theorem Tryd.places91 : Go.Eng.placesT Tryd.prog 91 = some (fun i => ([(0, 1), (1, 1), (2, 1)] : List (Nat × Nat))[i]?) := by kernel_rfl
theorem Tryd.eq91 : Go.Eng.eqT Tryd.prog 91 = some [.int .i64, .int .i64, .int .i64] := by kernel_rfl
theorem Tryd.zero91 : Go.Eng.zeroT Tryd.prog 91 = some (.agg [.int .i64 0, .int .i64 0, .int .i64 0]) := by kernel_rfl
theorem Tryd.size92 : Go.Eng.sizeT Tryd.prog 92 = some 3 := by kernel_rfl
theorem Tryd.agg92 : Go.Eng.aggT Tryd.prog 92 = some true := by kernel_rfl
theorem Tryd.bytes92 : Go.Eng.bytesT Tryd.prog 92 = some 24 := by kernel_rfl
theorem Tryd.basic92 : Go.Eng.basicT Tryd.prog 92 = .other := by kernel_rfl
theorem Tryd.field92_0 : Go.Eng.fieldT Tryd.prog 92 0 = some (0, 3) := by kernel_rfl
theorem Tryd.field92_1 : Go.Eng.fieldT Tryd.prog 92 1 = some (1, 3) := by kernel_rfl
theorem Tryd.field92_2 : Go.Eng.fieldT Tryd.prog 92 2 = some (2, 3) := by kernel_rfl
theorem Tryd.places92 : Go.Eng.placesT Tryd.prog 92 = some (fun i => ([(0, 1), (1, 1), (2, 1)] : List (Nat × Nat))[i]?) := by kernel_rfl
theorem Tryd.eq92 : Go.Eng.eqT Tryd.prog 92 = some [.int .i64, .int .i64, .int .i64] := by kernel_rfl
theorem Tryd.zero92 : Go.Eng.zeroT Tryd.prog 92 = some (.agg [.int .i64 0, .int .i64 0, .int .i64 0]) := by kernel_rfl
theorem Tryd.size93 : Go.Eng.sizeT Tryd.prog 93 = some 1 := by kernel_rfl
theorem Tryd.agg93 : Go.Eng.aggT Tryd.prog 93 = some false := by kernel_rfl
theorem Tryd.bytes93 : Go.Eng.bytesT Tryd.prog 93 = some 24 := by kernel_rfl
theorem Tryd.basic93 : Go.Eng.basicT Tryd.prog 93 = .other := by kernel_rfl
theorem Tryd.slice93 : Go.Eng.sliceT Tryd.prog 93 = some 92 := by kernel_rfl
theorem Tryd.src93 : Go.Eng.srcT Tryd.prog 93 = true := by kernel_rfl
theorem Tryd.zero93 : Go.Eng.zeroT Tryd.prog 93 = some (.list []) := by kernel_rfl
theorem Tryd.size94 : Go.Eng.sizeT Tryd.prog 94 = some 2 := by kernel_rfl
theorem Tryd.agg94 : Go.Eng.aggT Tryd.prog 94 = some true := by kernel_rfl
theorem Tryd.bytes94 : Go.Eng.bytesT Tryd.prog 94 = some 24 := by kernel_rfl
theorem Tryd.basic94 : Go.Eng.basicT Tryd.prog 94 = .other := by kernel_rfl
theorem Tryd.field94_0 : Go.Eng.fieldT Tryd.prog 94 0 = some (0, 9) := by kernel_rfl
theorem Tryd.field94_1 : Go.Eng.fieldT Tryd.prog 94 1 = some (1, 3) := by kernel_rfl
theorem Tryd.places94 : Go.Eng.placesT Tryd.prog 94 = some (fun i => ([(0, 1), (1, 1)] : List (Nat × Nat))[i]?) := by kernel_rfl
theorem Tryd.eq94 : Go.Eng.eqT Tryd.prog 94 = some [.str, .int .i64] := by kernel_rfl
theorem Tryd.zero94 : Go.Eng.zeroT Tryd.prog 94 = some (.agg [.str [], .int .i64 0]) := by kernel_rfl
theorem Tryd.size95 : Go.Eng.sizeT Tryd.prog 95 = some 2 := by kernel_rfl
theorem Tryd.agg95 : Go.Eng.aggT Tryd.prog 95 = some true := by kernel_rfl
theorem Tryd.bytes95 : Go.Eng.bytesT Tryd.prog 95 = some 24 := by kernel_rfl
theorem Tryd.basic95 : Go.Eng.basicT Tryd.prog 95 = .other := by kernel_rfl
theorem Tryd.field95_0 : Go.Eng.fieldT Tryd.prog 95 0 = some (0, 9) := by kernel_rfl
theorem Tryd.field95_1 : Go.Eng.fieldT Tryd.prog 95 1 = some (1, 3) := by kernel_rfl
theorem Tryd.places95 : Go.Eng.placesT Tryd.prog 95 = some (fun i => ([(0, 1), (1, 1)] : List (Nat × Nat))[i]?) := by kernel_rfl
theorem Tryd.eq95 : Go.Eng.eqT Tryd.prog 95 = some [.str, .int .i64] := by kernel_rfl
theorem Tryd.zero95 : Go.Eng.zeroT Tryd.prog 95 = some (.agg [.str [], .int .i64 0]) := by kernel_rfl
theorem Tryd.size96 : Go.Eng.sizeT Tryd.prog 96 = some 32 := by kernel_rfl
theorem Tryd.agg96 : Go.Eng.aggT Tryd.prog 96 = some true := by kernel_rfl
theorem Tryd.bytes96 : Go.Eng.bytesT Tryd.prog 96 = some 384 := by kernel_rfl
theorem Tryd.basic96 : Go.Eng.basicT Tryd.prog 96 = .other := by kernel_rfl
theorem Tryd.arr96 : Go.Eng.arrT Tryd.prog 96 = some (16, 95) := by kernel_rfl
theorem Tryd.places96 : Go.Eng.placesT Tryd.prog 96 = some (fun i => some (i * 2, 2)) := by kernel_rfl
theorem Tryd.eq96 : Go.Eng.eqT Tryd.prog 96 = some [.str, .int .i64, .str, .int .i64, .str, .int .i64, .str, .int .i64, .str, .int .i64, .str, .int .i64, .str, .int .i64, .str, .int .i64, .str, .int .i64, .str, .int .i64, .str, .int .i64, .str, .int .i64, .str, .int .i64, .str, .int .i64, .str, .int .i64, .str, .int .i64] := by kernel_rfl
theorem Tryd.zero96 : Go.Eng.zeroT Tryd.prog 96 = some (.agg [.str [], .int .i64 0, .str [], .int .i64 0, .str [], .int .i64 0, .str [], .int .i64 0, .str [], .int .i64 0, .str [], .int .i64 0, .str [], .int .i64 0, .str [], .int .i64 0, .str [], .int .i64 0, .str [], .int .i64 0, .str [], .int .i64 0, .str [], .int .i64 0, .str [], .int .i64 0, .str [], .int .i64 0, .str [], .int .i64 0, .str [], .int .i64 0]) := by kernel_rfl
theorem Tryd.size97 : Go.Eng.sizeT Tryd.prog 97 = some 1 := by kernel_rfl
theorem Tryd.agg97 : Go.Eng.aggT Tryd.prog 97 = some false := by kernel_rfl
theorem Tryd.bytes97 : Go.Eng.bytesT Tryd.prog 97 = some 8 := by kernel_rfl
theorem Tryd.basic97 : Go.Eng.basicT Tryd.prog 97 = .int .i64 := by kernel_rfl
theorem Tryd.zero97 : Go.Eng.zeroT Tryd.prog 97 = some (.int .i64 0) := by kernel_rfl
theorem Tryd.size98 : Go.Eng.sizeT Tryd.prog 98 = some 1 := by kernel_rfl
theorem Tryd.agg98 : Go.Eng.aggT Tryd.prog 98 = some false := by kernel_rfl
theorem Tryd.bytes98 : Go.Eng.bytesT Tryd.prog 98 = some 8 := by kernel_rfl
theorem Tryd.basic98 : Go.Eng.basicT Tryd.prog 98 = .int .i64 := by kernel_rfl
theorem Tryd.zero98 : Go.Eng.zeroT Tryd.prog 98 = some (.int .i64 0) := by kernel_rfl
theorem Tryd.size99 : Go.Eng.sizeT Tryd.prog 99 = some 1 := by kernel_rfl
theorem Tryd.agg99 : Go.Eng.aggT Tryd.prog 99 = some false := by kernel_rfl
theorem Tryd.bytes99 : Go.Eng.bytesT Tryd.prog 99 = some 8 := by kernel_rfl
theorem Tryd.basic99 : Go.Eng.basicT Tryd.prog 99 = .int .i64 := by kernel_rfl
theorem Tryd.zero99 : Go.Eng.zeroT Tryd.prog 99 = some (.int .i64 0) := by kernel_rfl
theorem Tryd.size100 : Go.Eng.sizeT Tryd.prog 100 = some 1 := by kernel_rfl
theorem Tryd.agg100 : Go.Eng.aggT Tryd.prog 100 = some false := by kernel_rfl
theorem Tryd.bytes100 : Go.Eng.bytesT Tryd.prog 100 = some 24 := by kernel_rfl
theorem Tryd.basic100 : Go.Eng.basicT Tryd.prog 100 = .other := by kernel_rfl
theorem Tryd.slice100 : Go.Eng.sliceT Tryd.prog 100 = some 104 := by kernel_rfl
theorem Tryd.src100 : Go.Eng.srcT Tryd.prog 100 = true := by kernel_rfl
theorem Tryd.zero100 : Go.Eng.zeroT Tryd.prog 100 = some (.list []) := by kernel_rfl
theorem Tryd.size101 : Go.Eng.sizeT Tryd.prog 101 = some 3 := by kernel_rfl
theorem Tryd.agg101 : Go.Eng.aggT Tryd.prog 101 = some true := by kernel_rfl
theorem Tryd.bytes101 : Go.Eng.bytesT Tryd.prog 101 = some 24 := by kernel_rfl
theorem Tryd.basic101 : Go.Eng.basicT Tryd.prog 101 = .other := by kernel_rfl
theorem Tryd.field101_0 : Go.Eng.fieldT Tryd.prog 101 0 = some (0, 3) := by kernel_rfl
theorem Tryd.field101_1 : Go.Eng.fieldT Tryd.prog 101 1 = some (1, 30) := by kernel_rfl
theorem Tryd.field101_2 : Go.Eng.fieldT Tryd.prog 101 2 = some (2, 3) := by kernel_rfl
theorem Tryd.places101 : Go.Eng.placesT Tryd.prog 101 = some (fun i => ([(0, 1), (1, 1), (2, 1)] : List (Nat × Nat))[i]?) := by kernel_rfl
theorem Tryd.eq101 : Go.Eng.eqT Tryd.prog 101 = some [.int .i64, .int .u64, .int .i64] := by kernel_rfl
theorem Tryd.zero101 : Go.Eng.zeroT Tryd.prog 101 = some (.agg [.int .i64 0, .int .u64 0, .int .i64 0]) := by kernel_rfl
theorem Tryd.size102 : Go.Eng.sizeT Tryd.prog 102 = some 1 := by kernel_rfl
theorem Tryd.agg102 : Go.Eng.aggT Tryd.prog 102 = some false := by kernel_rfl
theorem Tryd.bytes102 : Go.Eng.bytesT Tryd.prog 102 = some 8 := by kernel_rfl
theorem Tryd.basic102 : Go.Eng.basicT Tryd.prog 102 = .int .i64 := by kernel_rfl
theorem Tryd.zero102 : Go.Eng.zeroT Tryd.prog 102 = some (.int .i64 0) := by kernel_rfl
theorem Tryd.size103 : Go.Eng.sizeT Tryd.prog 103 = some 1 := by kernel_rfl
theorem Tryd.agg103 : Go.Eng.aggT Tryd.prog 103 = some false := by kernel_rfl
theorem Tryd.bytes103 : Go.Eng.bytesT Tryd.prog 103 = some 16 := by kernel_rfl
theorem Tryd.basic103 : Go.Eng.basicT Tryd.prog 103 = .other := by kernel_rfl
theorem Tryd.zero103 : Go.Eng.zeroT Tryd.prog 103 = some (.nilif) := by kernel_rfl
theorem Tryd.size104 : Go.Eng.sizeT Tryd.prog 104 = some 1 := by kernel_rfl
theorem Tryd.agg104 : Go.Eng.aggT Tryd.prog 104 = some false := by kernel_rfl
theorem Tryd.bytes104 : Go.Eng.bytesT Tryd.prog 104 = some 16 := by kernel_rfl
theorem Tryd.basic104 : Go.Eng.basicT Tryd.prog 104 = .other := by kernel_rfl
theorem Tryd.zero104 : Go.Eng.zeroT Tryd.prog 104 = some (.nilif) := by kernel_rfl
theorem Tryd.size105 : Go.Eng.sizeT Tryd.prog 105 = some 1 := by kernel_rfl
theorem Tryd.agg105 : Go.Eng.aggT Tryd.prog 105 = some false := by kernel_rfl
theorem Tryd.bytes105 : Go.Eng.bytesT Tryd.prog 105 = some 8 := by kernel_rfl
theorem Tryd.basic105 : Go.Eng.basicT Tryd.prog 105 = .other := by kernel_rfl
theorem Tryd.zero105 : Go.Eng.zeroT Tryd.prog 105 = some (.nilfn) := by kernel_rfl
theorem Tryd.size106 : Go.Eng.sizeT Tryd.prog 106 = some 1 := by kernel_rfl
theorem Tryd.agg106 : Go.Eng.aggT Tryd.prog 106 = some false := by kernel_rfl
theorem Tryd.bytes106 : Go.Eng.bytesT Tryd.prog 106 = some 8 := by kernel_rfl
theorem Tryd.basic106 : Go.Eng.basicT Tryd.prog 106 = .other := by kernel_rfl
theorem Tryd.zero106 : Go.Eng.zeroT Tryd.prog 106 = some (.nilp) := by kernel_rfl
theorem Tryd.size107 : Go.Eng.sizeT Tryd.prog 107 = some 1 := by kernel_rfl
theorem Tryd.agg107 : Go.Eng.aggT Tryd.prog 107 = some false := by kernel_rfl
theorem Tryd.bytes107 : Go.Eng.bytesT Tryd.prog 107 = some 8 := by kernel_rfl
theorem Tryd.basic107 : Go.Eng.basicT Tryd.prog 107 = .other := by kernel_rfl
theorem Tryd.zero107 : Go.Eng.zeroT Tryd.prog 107 = some (.nilfn) := by kernel_rfl
theorem Tryd.size108 : Go.Eng.sizeT Tryd.prog 108 = some 1 := by kernel_rfl
theorem Tryd.agg108 : Go.Eng.aggT Tryd.prog 108 = some false := by kernel_rfl
theorem Tryd.bytes108 : Go.Eng.bytesT Tryd.prog 108 = some 8 := by kernel_rfl
theorem Tryd.basic108 : Go.Eng.basicT Tryd.prog 108 = .other := by kernel_rfl
theorem Tryd.zero108 : Go.Eng.zeroT Tryd.prog 108 = some (.nilfn) := by kernel_rfl
theorem Tryd.size109 : Go.Eng.sizeT Tryd.prog 109 = some 1 := by kernel_rfl
theorem Tryd.agg109 : Go.Eng.aggT Tryd.prog 109 = some false := by kernel_rfl
theorem Tryd.bytes109 : Go.Eng.bytesT Tryd.prog 109 = some 8 := by kernel_rfl
theorem Tryd.basic109 : Go.Eng.basicT Tryd.prog 109 = .other := by kernel_rfl
theorem Tryd.zero109 : Go.Eng.zeroT Tryd.prog 109 = some (.nilfn) := by kernel_rfl
theorem Tryd.size110 : Go.Eng.sizeT Tryd.prog 110 = some 1 := by kernel_rfl
theorem Tryd.agg110 : Go.Eng.aggT Tryd.prog 110 = some false := by kernel_rfl
theorem Tryd.bytes110 : Go.Eng.bytesT Tryd.prog 110 = some 8 := by kernel_rfl
theorem Tryd.basic110 : Go.Eng.basicT Tryd.prog 110 = .other := by kernel_rfl
theorem Tryd.zero110 : Go.Eng.zeroT Tryd.prog 110 = some (.nilfn) := by kernel_rfl
theorem Tryd.size111 : Go.Eng.sizeT Tryd.prog 111 = some 1 := by kernel_rfl
theorem Tryd.agg111 : Go.Eng.aggT Tryd.prog 111 = some false := by kernel_rfl
theorem Tryd.bytes111 : Go.Eng.bytesT Tryd.prog 111 = some 8 := by kernel_rfl
theorem Tryd.basic111 : Go.Eng.basicT Tryd.prog 111 = .other := by kernel_rfl
theorem Tryd.zero111 : Go.Eng.zeroT Tryd.prog 111 = some (.nilfn) := by kernel_rfl
theorem Tryd.size112 : Go.Eng.sizeT Tryd.prog 112 = some 1 := by kernel_rfl
theorem Tryd.agg112 : Go.Eng.aggT Tryd.prog 112 = some false := by kernel_rfl
theorem Tryd.bytes112 : Go.Eng.bytesT Tryd.prog 112 = some 8 := by kernel_rfl
theorem Tryd.basic112 : Go.Eng.basicT Tryd.prog 112 = .other := by kernel_rfl
theorem Tryd.zero112 : Go.Eng.zeroT Tryd.prog 112 = some (.nilfn) := by kernel_rfl
theorem Tryd.size113 : Go.Eng.sizeT Tryd.prog 113 = some 1 := by kernel_rfl
theorem Tryd.agg113 : Go.Eng.aggT Tryd.prog 113 = some false := by kernel_rfl
theorem Tryd.bytes113 : Go.Eng.bytesT Tryd.prog 113 = some 8 := by kernel_rfl
theorem Tryd.basic113 : Go.Eng.basicT Tryd.prog 113 = .other := by kernel_rfl
theorem Tryd.zero113 : Go.Eng.zeroT Tryd.prog 113 = some (.nilfn) := by kernel_rfl
theorem Tryd.size114 : Go.Eng.sizeT Tryd.prog 114 = some 1 := by kernel_rfl
theorem Tryd.agg114 : Go.Eng.aggT Tryd.prog 114 = some false := by kernel_rfl
theorem Tryd.bytes114 : Go.Eng.bytesT Tryd.prog 114 = some 8 := by kernel_rfl
theorem Tryd.basic114 : Go.Eng.basicT Tryd.prog 114 = .other := by kernel_rfl
theorem Tryd.zero114 : Go.Eng.zeroT Tryd.prog 114 = some (.nilfn) := by kernel_rfl
theorem Tryd.size115 : Go.Eng.sizeT Tryd.prog 115 = some 1 := by kernel_rfl
theorem Tryd.agg115 : Go.Eng.aggT Tryd.prog 115 = some false := by kernel_rfl
theorem Tryd.bytes115 : Go.Eng.bytesT Tryd.prog 115 = some 24 := by kernel_rfl
theorem Tryd.basic115 : Go.Eng.basicT Tryd.prog 115 = .other := by kernel_rfl
theorem Tryd.slice115 : Go.Eng.sliceT Tryd.prog 115 = some 95 := by kernel_rfl
theorem Tryd.src115 : Go.Eng.srcT Tryd.prog 115 = true := by kernel_rfl
theorem Tryd.zero115 : Go.Eng.zeroT Tryd.prog 115 = some (.list []) := by kernel_rfl
theorem Tryd.size116 : Go.Eng.sizeT Tryd.prog 116 = some 1 := by kernel_rfl
theorem Tryd.agg116 : Go.Eng.aggT Tryd.prog 116 = some false := by kernel_rfl
theorem Tryd.bytes116 : Go.Eng.bytesT Tryd.prog 116 = some 8 := by kernel_rfl
theorem Tryd.basic116 : Go.Eng.basicT Tryd.prog 116 = .other := by kernel_rfl
theorem Tryd.zero116 : Go.Eng.zeroT Tryd.prog 116 = some (.nilfn) := by kernel_rfl
theorem Tryd.size118 : Go.Eng.sizeT Tryd.prog 118 = some 1 := by kernel_rfl
theorem Tryd.agg118 : Go.Eng.aggT Tryd.prog 118 = some false := by kernel_rfl
theorem Tryd.bytes118 : Go.Eng.bytesT Tryd.prog 118 = some 8 := by kernel_rfl
theorem Tryd.basic118 : Go.Eng.basicT Tryd.prog 118 = .other := by kernel_rfl
theorem Tryd.zero118 : Go.Eng.zeroT Tryd.prog 118 = some (.nilfn) := by kernel_rfl
theorem Tryd.size119 : Go.Eng.sizeT Tryd.prog 119 = some 1 := by kernel_rfl
theorem Tryd.agg119 : Go.Eng.aggT Tryd.prog 119 = some false := by kernel_rfl
theorem Tryd.bytes119 : Go.Eng.bytesT Tryd.prog 119 = some 8 := by kernel_rfl
theorem Tryd.basic119 : Go.Eng.basicT Tryd.prog 119 = .other := by kernel_rfl
theorem Tryd.zero119 : Go.Eng.zeroT Tryd.prog 119 = some (.nilfn) := by kernel_rfl
theorem Tryd.size120 : Go.Eng.sizeT Tryd.prog 120 = some 1 := by kernel_rfl
theorem Tryd.agg120 : Go.Eng.aggT Tryd.prog 120 = some false := by kernel_rfl
theorem Tryd.bytes120 : Go.Eng.bytesT Tryd.prog 120 = some 8 := by kernel_rfl
theorem Tryd.basic120 : Go.Eng.basicT Tryd.prog 120 = .other := by kernel_rfl
theorem Tryd.zero120 : Go.Eng.zeroT Tryd.prog 120 = some (.nilfn) := by kernel_rfl
theorem Tryd.size122 : Go.Eng.sizeT Tryd.prog 122 = some 1 := by kernel_rfl
theorem Tryd.agg122 : Go.Eng.aggT Tryd.prog 122 = some false := by kernel_rfl
theorem Tryd.bytes122 : Go.Eng.bytesT Tryd.prog 122 = some 8 := by kernel_rfl
theorem Tryd.basic122 : Go.Eng.basicT Tryd.prog 122 = .other := by kernel_rfl
theorem Tryd.zero122 : Go.Eng.zeroT Tryd.prog 122 = some (.nilfn) := by kernel_rfl
theorem Tryd.size123 : Go.Eng.sizeT Tryd.prog 123 = some 1 := by kernel_rfl
theorem Tryd.agg123 : Go.Eng.aggT Tryd.prog 123 = some false := by kernel_rfl
theorem Tryd.bytes123 : Go.Eng.bytesT Tryd.prog 123 = some 8 := by kernel_rfl
theorem Tryd.basic123 : Go.Eng.basicT Tryd.prog 123 = .other := by kernel_rfl
theorem Tryd.zero123 : Go.Eng.zeroT Tryd.prog 123 = some (.nilfn) := by kernel_rfl
theorem Tryd.size124 : Go.Eng.sizeT Tryd.prog 124 = some 1 := by kernel_rfl
theorem Tryd.agg124 : Go.Eng.aggT Tryd.prog 124 = some false := by kernel_rfl
theorem Tryd.bytes124 : Go.Eng.bytesT Tryd.prog 124 = some 8 := by kernel_rfl
theorem Tryd.basic124 : Go.Eng.basicT Tryd.prog 124 = .other := by kernel_rfl
theorem Tryd.zero124 : Go.Eng.zeroT Tryd.prog 124 = some (.nilfn) := by kernel_rfl
theorem Tryd.size125 : Go.Eng.sizeT Tryd.prog 125 = some 1 := by kernel_rfl
theorem Tryd.agg125 : Go.Eng.aggT Tryd.prog 125 = some false := by kernel_rfl
theorem Tryd.bytes125 : Go.Eng.bytesT Tryd.prog 125 = some 8 := by kernel_rfl
theorem Tryd.basic125 : Go.Eng.basicT Tryd.prog 125 = .other := by kernel_rfl
theorem Tryd.zero125 : Go.Eng.zeroT Tryd.prog 125 = some (.nilp) := by kernel_rfl
theorem Tryd.size126 : Go.Eng.sizeT Tryd.prog 126 = some 2 := by kernel_rfl
theorem Tryd.agg126 : Go.Eng.aggT Tryd.prog 126 = some true := by kernel_rfl
theorem Tryd.bytes126 : Go.Eng.bytesT Tryd.prog 126 = some 24 := by kernel_rfl
theorem Tryd.basic126 : Go.Eng.basicT Tryd.prog 126 = .other := by kernel_rfl
theorem Tryd.field126_0 : Go.Eng.fieldT Tryd.prog 126 0 = some (0, 9) := by kernel_rfl
theorem Tryd.field126_1 : Go.Eng.fieldT Tryd.prog 126 1 = some (1, 3) := by kernel_rfl
theorem Tryd.places126 : Go.Eng.placesT Tryd.prog 126 = some (fun i => ([(0, 1), (1, 1)] : List (Nat × Nat))[i]?) := by kernel_rfl
theorem Tryd.eq126 : Go.Eng.eqT Tryd.prog 126 = some [.str, .int .i64] := by kernel_rfl
theorem Tryd.zero126 : Go.Eng.zeroT Tryd.prog 126 = some (.agg [.str [], .int .i64 0]) := by kernel_rfl
theorem Tryd.size127 : Go.Eng.sizeT Tryd.prog 127 = some 2 := by kernel_rfl
theorem Tryd.agg127 : Go.Eng.aggT Tryd.prog 127 = some true := by kernel_rfl
theorem Tryd.bytes127 : Go.Eng.bytesT Tryd.prog 127 = some 24 := by kernel_rfl
theorem Tryd.basic127 : Go.Eng.basicT Tryd.prog 127 = .other := by kernel_rfl
theorem Tryd.field127_0 : Go.Eng.fieldT Tryd.prog 127 0 = some (0, 9) := by kernel_rfl
theorem Tryd.field127_1 : Go.Eng.fieldT Tryd.prog 127 1 = some (1, 3) := by kernel_rfl
theorem Tryd.places127 : Go.Eng.placesT Tryd.prog 127 = some (fun i => ([(0, 1), (1, 1)] : List (Nat × Nat))[i]?) := by kernel_rfl
theorem Tryd.eq127 : Go.Eng.eqT Tryd.prog 127 = some [.str, .int .i64] := by kernel_rfl
theorem Tryd.zero127 : Go.Eng.zeroT Tryd.prog 127 = some (.agg [.str [], .int .i64 0]) := by kernel_rfl
theorem Tryd.size129 : Go.Eng.sizeT Tryd.prog 129 = some 1 := by kernel_rfl
theorem Tryd.agg129 : Go.Eng.aggT Tryd.prog 129 = some false := by kernel_rfl
theorem Tryd.bytes129 : Go.Eng.bytesT Tryd.prog 129 = some 8 := by kernel_rfl
theorem Tryd.basic129 : Go.Eng.basicT Tryd.prog 129 = .other := by kernel_rfl
theorem Tryd.zero129 : Go.Eng.zeroT Tryd.prog 129 = some (.nilfn) := by kernel_rfl
theorem Tryd.size131 : Go.Eng.sizeT Tryd.prog 131 = some 1 := by kernel_rfl
theorem Tryd.agg131 : Go.Eng.aggT Tryd.prog 131 = some false := by kernel_rfl
theorem Tryd.bytes131 : Go.Eng.bytesT Tryd.prog 131 = some 8 := by kernel_rfl
theorem Tryd.basic131 : Go.Eng.basicT Tryd.prog 131 = .other := by kernel_rfl
theorem Tryd.zero131 : Go.Eng.zeroT Tryd.prog 131 = some (.nilfn) := by kernel_rfl
theorem Tryd.size132 : Go.Eng.sizeT Tryd.prog 132 = some 3 := by kernel_rfl
theorem Tryd.agg132 : Go.Eng.aggT Tryd.prog 132 = some true := by kernel_rfl
theorem Tryd.bytes132 : Go.Eng.bytesT Tryd.prog 132 = some 24 := by kernel_rfl
theorem Tryd.basic132 : Go.Eng.basicT Tryd.prog 132 = .other := by kernel_rfl
theorem Tryd.arr132 : Go.Eng.arrT Tryd.prog 132 = some (3, 30) := by kernel_rfl
theorem Tryd.places132 : Go.Eng.placesT Tryd.prog 132 = some (fun i => some (i * 1, 1)) := by kernel_rfl
theorem Tryd.eq132 : Go.Eng.eqT Tryd.prog 132 = some [.int .u64, .int .u64, .int .u64] := by kernel_rfl
theorem Tryd.zero132 : Go.Eng.zeroT Tryd.prog 132 = some (.agg [.int .u64 0, .int .u64 0, .int .u64 0]) := by kernel_rfl
theorem Tryd.size133 : Go.Eng.sizeT Tryd.prog 133 = some 3 := by kernel_rfl
theorem Tryd.agg133 : Go.Eng.aggT Tryd.prog 133 = some true := by kernel_rfl
theorem Tryd.bytes133 : Go.Eng.bytesT Tryd.prog 133 = some 24 := by kernel_rfl
theorem Tryd.basic133 : Go.Eng.basicT Tryd.prog 133 = .other := by kernel_rfl
theorem Tryd.arr133 : Go.Eng.arrT Tryd.prog 133 = some (3, 3) := by kernel_rfl
theorem Tryd.places133 : Go.Eng.placesT Tryd.prog 133 = some (fun i => some (i * 1, 1)) := by kernel_rfl
theorem Tryd.eq133 : Go.Eng.eqT Tryd.prog 133 = some [.int .i64, .int .i64, .int .i64] := by kernel_rfl
theorem Tryd.zero133 : Go.Eng.zeroT Tryd.prog 133 = some (.agg [.int .i64 0, .int .i64 0, .int .i64 0]) := by kernel_rfl
theorem Tryd.size134 : Go.Eng.sizeT Tryd.prog 134 = some 1 := by kernel_rfl
theorem Tryd.agg134 : Go.Eng.aggT Tryd.prog 134 = some false := by kernel_rfl
theorem Tryd.bytes134 : Go.Eng.bytesT Tryd.prog 134 = some 8 := by kernel_rfl
theorem Tryd.basic134 : Go.Eng.basicT Tryd.prog 134 = .other := by kernel_rfl
theorem Tryd.zero134 : Go.Eng.zeroT Tryd.prog 134 = some (.nilfn) := by kernel_rfl
theorem Tryd.size136 : Go.Eng.sizeT Tryd.prog 136 = some 1 := by kernel_rfl
theorem Tryd.agg136 : Go.Eng.aggT Tryd.prog 136 = some false := by kernel_rfl
theorem Tryd.bytes136 : Go.Eng.bytesT Tryd.prog 136 = some 8 := by kernel_rfl
theorem Tryd.basic136 : Go.Eng.basicT Tryd.prog 136 = .other := by kernel_rfl
theorem Tryd.zero136 : Go.Eng.zeroT Tryd.prog 136 = some (.nilfn) := by kernel_rfl
theorem Tryd.size137 : Go.Eng.sizeT Tryd.prog 137 = some 1 := by kernel_rfl
theorem Tryd.agg137 : Go.Eng.aggT Tryd.prog 137 = some false := by kernel_rfl
theorem Tryd.bytes137 : Go.Eng.bytesT Tryd.prog 137 = some 8 := by kernel_rfl
theorem Tryd.basic137 : Go.Eng.basicT Tryd.prog 137 = .other := by kernel_rfl
theorem Tryd.zero137 : Go.Eng.zeroT Tryd.prog 137 = some (.nilfn) := by kernel_rfl
theorem Tryd.size138 : Go.Eng.sizeT Tryd.prog 138 = some 1 := by kernel_rfl
theorem Tryd.agg138 : Go.Eng.aggT Tryd.prog 138 = some false := by kernel_rfl
theorem Tryd.bytes138 : Go.Eng.bytesT Tryd.prog 138 = some 8 := by kernel_rfl
theorem Tryd.basic138 : Go.Eng.basicT Tryd.prog 138 = .other := by kernel_rfl
theorem Tryd.zero138 : Go.Eng.zeroT Tryd.prog 138 = some (.nilfn) := by kernel_rfl
theorem Tryd.size140 : Go.Eng.sizeT Tryd.prog 140 = some 1 := by kernel_rfl
theorem Tryd.agg140 : Go.Eng.aggT Tryd.prog 140 = some false := by kernel_rfl
theorem Tryd.bytes140 : Go.Eng.bytesT Tryd.prog 140 = some 8 := by kernel_rfl
theorem Tryd.basic140 : Go.Eng.basicT Tryd.prog 140 = .other := by kernel_rfl
theorem Tryd.zero140 : Go.Eng.zeroT Tryd.prog 140 = some (.nilfn) := by kernel_rfl
theorem Tryd.size141 : Go.Eng.sizeT Tryd.prog 141 = some 1 := by kernel_rfl
theorem Tryd.agg141 : Go.Eng.aggT Tryd.prog 141 = some false := by kernel_rfl
theorem Tryd.bytes141 : Go.Eng.bytesT Tryd.prog 141 = some 8 := by kernel_rfl
theorem Tryd.basic141 : Go.Eng.basicT Tryd.prog 141 = .other := by kernel_rfl
theorem Tryd.zero141 : Go.Eng.zeroT Tryd.prog 141 = some (.nilfn) := by kernel_rfl
theorem Tryd.size142 : Go.Eng.sizeT Tryd.prog 142 = some 1 := by kernel_rfl
theorem Tryd.agg142 : Go.Eng.aggT Tryd.prog 142 = some false := by kernel_rfl
theorem Tryd.bytes142 : Go.Eng.bytesT Tryd.prog 142 = some 8 := by kernel_rfl
theorem Tryd.basic142 : Go.Eng.basicT Tryd.prog 142 = .other := by kernel_rfl
theorem Tryd.zero142 : Go.Eng.zeroT Tryd.prog 142 = some (.nilfn) := by kernel_rfl
theorem Tryd.size143 : Go.Eng.sizeT Tryd.prog 143 = some 1 := by kernel_rfl
theorem Tryd.agg143 : Go.Eng.aggT Tryd.prog 143 = some false := by kernel_rfl
theorem Tryd.bytes143 : Go.Eng.bytesT Tryd.prog 143 = some 8 := by kernel_rfl
theorem Tryd.basic143 : Go.Eng.basicT Tryd.prog 143 = .other := by kernel_rfl
theorem Tryd.zero143 : Go.Eng.zeroT Tryd.prog 143 = some (.nilfn) := by kernel_rfl
theorem Tryd.size144 : Go.Eng.sizeT Tryd.prog 144 = some 1 := by kernel_rfl
theorem Tryd.agg144 : Go.Eng.aggT Tryd.prog 144 = some false := by kernel_rfl
theorem Tryd.bytes144 : Go.Eng.bytesT Tryd.prog 144 = some 8 := by kernel_rfl
theorem Tryd.basic144 : Go.Eng.basicT Tryd.prog 144 = .other := by kernel_rfl
theorem Tryd.zero144 : Go.Eng.zeroT Tryd.prog 144 = some (.nilfn) := by kernel_rfl
theorem Tryd.size145 : Go.Eng.sizeT Tryd.prog 145 = some 24 := by kernel_rfl
theorem Tryd.agg145 : Go.Eng.aggT Tryd.prog 145 = some true := by kernel_rfl
theorem Tryd.bytes145 : Go.Eng.bytesT Tryd.prog 145 = some 24 := by kernel_rfl
theorem Tryd.basic145 : Go.Eng.basicT Tryd.prog 145 = .other := by kernel_rfl
theorem Tryd.arr145 : Go.Eng.arrT Tryd.prog 145 = some (24, 5) := by kernel_rfl
theorem Tryd.places145 : Go.Eng.placesT Tryd.prog 145 = some (fun i => some (i * 1, 1)) := by kernel_rfl
theorem Tryd.eq145 : Go.Eng.eqT Tryd.prog 145 = some [.int .u8, .int .u8, .int .u8, .int .u8, .int .u8, .int .u8, .int .u8, .int .u8, .int .u8, .int .u8, .int .u8, .int .u8, .int .u8, .int .u8, .int .u8, .int .u8, .int .u8, .int .u8, .int .u8, .int .u8, .int .u8, .int .u8, .int .u8, .int .u8] := by kernel_rfl
theorem Tryd.zero145 : Go.Eng.zeroT Tryd.prog 145 = some (.agg [.int .u8 0, .int .u8 0, .int .u8 0, .int .u8 0, .int .u8 0, .int .u8 0, .int .u8 0, .int .u8 0, .int .u8 0, .int .u8 0, .int .u8 0, .int .u8 0, .int .u8 0, .int .u8 0, .int .u8 0, .int .u8 0, .int .u8 0, .int .u8 0, .int .u8 0, .int .u8 0, .int .u8 0, .int .u8 0, .int .u8 0, .int .u8 0]) := by kernel_rfl
theorem Tryd.size146 : Go.Eng.sizeT Tryd.prog 146 = some 1 := by kernel_rfl
theorem Tryd.agg146 : Go.Eng.aggT Tryd.prog 146 = some false := by kernel_rfl
theorem Tryd.bytes146 : Go.Eng.bytesT Tryd.prog 146 = some 8 := by kernel_rfl
theorem Tryd.basic146 : Go.Eng.basicT Tryd.prog 146 = .other := by kernel_rfl
theorem Tryd.zero146 : Go.Eng.zeroT Tryd.prog 146 = some (.nilfn) := by kernel_rfl
theorem Tryd.size147 : Go.Eng.sizeT Tryd.prog 147 = some 1 := by kernel_rfl
theorem Tryd.agg147 : Go.Eng.aggT Tryd.prog 147 = some false := by kernel_rfl
theorem Tryd.bytes147 : Go.Eng.bytesT Tryd.prog 147 = some 8 := by kernel_rfl
theorem Tryd.basic147 : Go.Eng.basicT Tryd.prog 147 = .other := by kernel_rfl
theorem Tryd.zero147 : Go.Eng.zeroT Tryd.prog 147 = some (.nilfn) := by kernel_rfl
theorem Tryd.size149 : Go.Eng.sizeT Tryd.prog 149 = some 1 := by kernel_rfl
theorem Tryd.agg149 : Go.Eng.aggT Tryd.prog 149 = some false := by kernel_rfl
theorem Tryd.bytes149 : Go.Eng.bytesT Tryd.prog 149 = some 8 := by kernel_rfl
theorem Tryd.basic149 : Go.Eng.basicT Tryd.prog 149 = .other := by kernel_rfl
theorem Tryd.zero149 : Go.Eng.zeroT Tryd.prog 149 = some (.nilfn) := by kernel_rfl
theorem Tryd.size150 : Go.Eng.sizeT Tryd.prog 150 = some 256 := by kernel_rfl
theorem Tryd.agg150 : Go.Eng.aggT Tryd.prog 150 = some true := by kernel_rfl
theorem Tryd.bytes150 : Go.Eng.bytesT Tryd.prog 150 = some 256 := by kernel_rfl
theorem Tryd.basic150 : Go.Eng.basicT Tryd.prog 150 = .other := by kernel_rfl
theorem Tryd.arr150 : Go.Eng.arrT Tryd.prog 150 = some (256, 5) := by kernel_rfl
theorem Tryd.places150 : Go.Eng.placesT Tryd.prog 150 = some (fun i => some (i * 1, 1)) := by kernel_rfl
theorem Tryd.eq150 : Go.Eng.eqT Tryd.prog 150 = some [.int .u8, .int .u8, .int .u8, .int .u8, .int .u8, .int .u8, .int .u8, .int .u8, .int .u8, .int .u8, .int .u8, .int .u8, .int .u8, .int .u8, .int .u8, .int .u8, .int .u8, .int .u8, .int .u8, .int .u8, .int .u8, .int .u8, .int .u8, .int .u8, .int .u8, .int .u8, .int .u8, .int .u8, .int .u8, .int .u8, .int .u8, .int .u8, .int .u8, .int .u8, .int .u8, .int .u8, .int .u8, .int .u8, .int .u8, .int .u8, .int .u8, .int .u8, .int .u8, .int .u8, .int .u8, .int .u8, .int .u8, .int .u8, .int .u8, .int .u8, .int .u8, .int .u8, .int .u8, .int .u8, .int .u8, .int .u8, .int .u8, .int .u8, .int .u8, .int .u8, .int .u8, .int .u8, .int .u8, .int .u8, .int .u8, .int .u8, .int .u8, .int .u8, .int .u8, .int .u8, .int .u8, .int .u8, .int .u8, .int .u8, .int .u8, .int .u8, .int .u8, .int .u8, .int .u8, .int .u8, .int .u8, .int .u8, .int .u8, .int .u8, .int .u8, .int .u8, .int .u8, .int .u8, .int .u8, .int .u8, .int .u8, .int .u8, .int .u8, .int .u8, .int .u8, .int .u8, .int .u8, .int .u8, .int .u8, .int .u8, .int .u8, .int .u8, .int .u8, .int .u8, .int .u8, .int .u8, .int .u8, .int .u8, .int .u8, .int .u8, .int .u8, .int .u8, .int .u8, .int .u8, .int .u8, .int .u8, .int .u8, .int .u8, .int .u8, .int .u8, .int .u8, .int .u8, .int .u8, .int .u8, .int .u8, .int .u8, .int .u8, .int .u8, .int .u8, .int .u8, .int .u8, .int .u8, .int .u8, .int .u8, .int .u8, .int .u8, .int .u8, .int .u8, .int .u8, .int .u8, .int .u8, .int .u8, .int .u8, .int .u8, .int .u8, .int .u8, .int .u8, .int .u8, .int .u8, .int .u8, .int .u8, .int .u8, .int .u8, .int .u8, .int .u8, .int .u8, .int .u8, .int .u8, .int .u8, .int .u8, .int .u8, .int .u8, .int .u8, .int .u8, .int .u8, .int .u8, .int .u8, .int .u8, .int .u8, .int .u8, .int .u8, .int .u8, .int .u8, .int .u8, .int .u8, .int .u8, .int .u8, .int .u8, .int .u8, .int .u8, .int .u8, .int .u8, .int .u8, .int .u8, .int .u8, .int .u8, .int .u8, .int .u8, .int .u8, .int .u8, .int .u8, .int .u8, .int .u8, .int .u8, .int .u8, .int .u8, .int .u8, .int .u8, .int .u8, .int .u8, .int .u8, .int .u8, .int .u8, .int .u8, .int .u8, .int .u8, .int .u8, .int .u8, .int .u8, .int .u8, .int .u8, .int .u8, .int .u8, .int .u8, .int .u8, .int .u8, .int .u8, .int .u8, .int .u8, .int .u8, .int .u8, .int .u8, .int .u8, .int .u8, .int .u8, .int .u8, .int .u8, .int .u8, .int .u8, .int .u8, .int .u8, .int .u8, .int .u8, .int .u8, .int .u8, .int .u8, .int .u8, .int .u8, .int .u8, .int .u8, .int .u8, .int .u8, .int .u8, .int .u8, .int .u8, .int .u8, .int .u8, .int .u8, .int .u8, .int .u8, .int .u8, .int .u8, .int .u8, .int .u8, .int .u8, .int .u8] := by kernel_rfl
theorem Tryd.size151 : Go.Eng.sizeT Tryd.prog 151 = some 1 := by kernel_rfl
theorem Tryd.agg151 : Go.Eng.aggT Tryd.prog 151 = some false := by kernel_rfl
theorem Tryd.bytes151 : Go.Eng.bytesT Tryd.prog 151 = some 8 := by kernel_rfl
theorem Tryd.basic151 : Go.Eng.basicT Tryd.prog 151 = .int .u64 := by kernel_rfl
theorem Tryd.zero151 : Go.Eng.zeroT Tryd.prog 151 = some (.int .u64 0) := by kernel_rfl
theorem Tryd.size152 : Go.Eng.sizeT Tryd.prog 152 = some 2 := by kernel_rfl
theorem Tryd.agg152 : Go.Eng.aggT Tryd.prog 152 = some true := by kernel_rfl
theorem Tryd.bytes152 : Go.Eng.bytesT Tryd.prog 152 = some 2 := by kernel_rfl
theorem Tryd.basic152 : Go.Eng.basicT Tryd.prog 152 = .other := by kernel_rfl
theorem Tryd.field152_0 : Go.Eng.fieldT Tryd.prog 152 0 = some (0, 5) := by kernel_rfl
theorem Tryd.field152_1 : Go.Eng.fieldT Tryd.prog 152 1 = some (1, 5) := by kernel_rfl
theorem Tryd.places152 : Go.Eng.placesT Tryd.prog 152 = some (fun i => ([(0, 1), (1, 1)] : List (Nat × Nat))[i]?) := by kernel_rfl
theorem Tryd.eq152 : Go.Eng.eqT Tryd.prog 152 = some [.int .u8, .int .u8] := by kernel_rfl
theorem Tryd.zero152 : Go.Eng.zeroT Tryd.prog 152 = some (.agg [.int .u8 0, .int .u8 0]) := by kernel_rfl
theorem Tryd.size153 : Go.Eng.sizeT Tryd.prog 153 = some 2 := by kernel_rfl
theorem Tryd.agg153 : Go.Eng.aggT Tryd.prog 153 = some true := by kernel_rfl
theorem Tryd.bytes153 : Go.Eng.bytesT Tryd.prog 153 = some 2 := by kernel_rfl
theorem Tryd.basic153 : Go.Eng.basicT Tryd.prog 153 = .other := by kernel_rfl
theorem Tryd.field153_0 : Go.Eng.fieldT Tryd.prog 153 0 = some (0, 5) := by kernel_rfl
theorem Tryd.field153_1 : Go.Eng.fieldT Tryd.prog 153 1 = some (1, 5) := by kernel_rfl
theorem Tryd.places153 : Go.Eng.placesT Tryd.prog 153 = some (fun i => ([(0, 1), (1, 1)] : List (Nat × Nat))[i]?) := by kernel_rfl
theorem Tryd.eq153 : Go.Eng.eqT Tryd.prog 153 = some [.int .u8, .int .u8] := by kernel_rfl
theorem Tryd.zero153 : Go.Eng.zeroT Tryd.prog 153 = some (.agg [.int .u8 0, .int .u8 0]) := by kernel_rfl
theorem Tryd.size154 : Go.Eng.sizeT Tryd.prog 154 = some 32 := by kernel_rfl
theorem Tryd.agg154 : Go.Eng.aggT Tryd.prog 154 = some true := by kernel_rfl
theorem Tryd.bytes154 : Go.Eng.bytesT Tryd.prog 154 = some 32 := by kernel_rfl
theorem Tryd.basic154 : Go.Eng.basicT Tryd.prog 154 = .other := by kernel_rfl
theorem Tryd.arr154 : Go.Eng.arrT Tryd.prog 154 = some (16, 153) := by kernel_rfl
theorem Tryd.places154 : Go.Eng.placesT Tryd.prog 154 = some (fun i => some (i * 2, 2)) := by kernel_rfl
theorem Tryd.eq154 : Go.Eng.eqT Tryd.prog 154 = some [.int .u8, .int .u8, .int .u8, .int .u8, .int .u8, .int .u8, .int .u8, .int .u8, .int .u8, .int .u8, .int .u8, .int .u8, .int .u8, .int .u8, .int .u8, .int .u8, .int .u8, .int .u8, .int .u8, .int .u8, .int .u8, .int .u8, .int .u8, .int .u8, .int .u8, .int .u8, .int .u8, .int .u8, .int .u8, .int .u8, .int .u8, .int .u8] := by kernel_rfl
theorem Tryd.zero154 : Go.Eng.zeroT Tryd.prog 154 = some (.agg [.int .u8 0, .int .u8 0, .int .u8 0, .int .u8 0, .int .u8 0, .int .u8 0, .int .u8 0, .int .u8 0, .int .u8 0, .int .u8 0, .int .u8 0, .int .u8 0, .int .u8 0, .int .u8 0, .int .u8 0, .int .u8 0, .int .u8 0, .int .u8 0, .int .u8 0, .int .u8 0, .int .u8 0, .int .u8 0, .int .u8 0, .int .u8 0, .int .u8 0, .int .u8 0, .int .u8 0, .int .u8 0, .int .u8 0, .int .u8 0, .int .u8 0, .int .u8 0]) := by kernel_rfl
theorem Tryd.size155 : Go.Eng.sizeT Tryd.prog 155 = some 1 := by kernel_rfl
theorem Tryd.agg155 : Go.Eng.aggT Tryd.prog 155 = some false := by kernel_rfl
theorem Tryd.bytes155 : Go.Eng.bytesT Tryd.prog 155 = some 8 := by kernel_rfl
theorem Tryd.basic155 : Go.Eng.basicT Tryd.prog 155 = .other := by kernel_rfl
theorem Tryd.zero155 : Go.Eng.zeroT Tryd.prog 155 = some (.nilfn) := by kernel_rfl
theorem Tryd.size156 : Go.Eng.sizeT Tryd.prog 156 = some 1 := by kernel_rfl
theorem Tryd.agg156 : Go.Eng.aggT Tryd.prog 156 = some false := by kernel_rfl
theorem Tryd.bytes156 : Go.Eng.bytesT Tryd.prog 156 = some 8 := by kernel_rfl
theorem Tryd.basic156 : Go.Eng.basicT Tryd.prog 156 = .other := by kernel_rfl
theorem Tryd.zero156 : Go.Eng.zeroT Tryd.prog 156 = some (.nilfn) := by kernel_rfl
theorem Tryd.size157 : Go.Eng.sizeT Tryd.prog 157 = some 1 := by kernel_rfl
theorem Tryd.agg157 : Go.Eng.aggT Tryd.prog 157 = some false := by kernel_rfl
theorem Tryd.bytes157 : Go.Eng.bytesT Tryd.prog 157 = some 8 := by kernel_rfl
theorem Tryd.basic157 : Go.Eng.basicT Tryd.prog 157 = .other := by kernel_rfl
theorem Tryd.zero157 : Go.Eng.zeroT Tryd.prog 157 = some (.nilfn) := by kernel_rfl
theorem Tryd.size159 : Go.Eng.sizeT Tryd.prog 159 = some 1 := by kernel_rfl
theorem Tryd.agg159 : Go.Eng.aggT Tryd.prog 159 = some false := by kernel_rfl
theorem Tryd.bytes159 : Go.Eng.bytesT Tryd.prog 159 = some 8 := by kernel_rfl
theorem Tryd.basic159 : Go.Eng.basicT Tryd.prog 159 = .other := by kernel_rfl
theorem Tryd.zero159 : Go.Eng.zeroT Tryd.prog 159 = some (.nilfn) := by kernel_rfl
theorem Tryd.size160 : Go.Eng.sizeT Tryd.prog 160 = some 20 := by kernel_rfl
theorem Tryd.agg160 : Go.Eng.aggT Tryd.prog 160 = some true := by kernel_rfl
theorem Tryd.bytes160 : Go.Eng.bytesT Tryd.prog 160 = some 160 := by kernel_rfl
theorem Tryd.basic160 : Go.Eng.basicT Tryd.prog 160 = .other := by kernel_rfl
theorem Tryd.arr160 : Go.Eng.arrT Tryd.prog 160 = some (20, 30) := by kernel_rfl
theorem Tryd.places160 : Go.Eng.placesT Tryd.prog 160 = some (fun i => some (i * 1, 1)) := by kernel_rfl
theorem Tryd.eq160 : Go.Eng.eqT Tryd.prog 160 = some [.int .u64, .int .u64, .int .u64, .int .u64, .int .u64, .int .u64, .int .u64, .int .u64, .int .u64, .int .u64, .int .u64, .int .u64, .int .u64, .int .u64, .int .u64, .int .u64, .int .u64, .int .u64, .int .u64, .int .u64] := by kernel_rfl
theorem Tryd.zero160 : Go.Eng.zeroT Tryd.prog 160 = some (.agg [.int .u64 0, .int .u64 0, .int .u64 0, .int .u64 0, .int .u64 0, .int .u64 0, .int .u64 0, .int .u64 0, .int .u64 0, .int .u64 0, .int .u64 0, .int .u64 0, .int .u64 0, .int .u64 0, .int .u64 0, .int .u64 0, .int .u64 0, .int .u64 0, .int .u64 0, .int .u64 0]) := by kernel_rfl
theorem Tryd.size161 : Go.Eng.sizeT Tryd.prog 161 = some 1 := by kernel_rfl
theorem Tryd.agg161 : Go.Eng.aggT Tryd.prog 161 = some false := by kernel_rfl
theorem Tryd.bytes161 : Go.Eng.bytesT Tryd.prog 161 = some 4 := by kernel_rfl
theorem Tryd.basic161 : Go.Eng.basicT Tryd.prog 161 = .int .u32 := by kernel_rfl
theorem Tryd.zero161 : Go.Eng.zeroT Tryd.prog 161 = some (.int .u32 0) := by kernel_rfl
theorem Tryd.size162 : Go.Eng.sizeT Tryd.prog 162 = some 65 := by kernel_rfl
theorem Tryd.agg162 : Go.Eng.aggT Tryd.prog 162 = some true := by kernel_rfl
theorem Tryd.bytes162 : Go.Eng.bytesT Tryd.prog 162 = some 65 := by kernel_rfl
theorem Tryd.basic162 : Go.Eng.basicT Tryd.prog 162 = .other := by kernel_rfl
theorem Tryd.arr162 : Go.Eng.arrT Tryd.prog 162 = some (65, 5) := by kernel_rfl
theorem Tryd.places162 : Go.Eng.placesT Tryd.prog 162 = some (fun i => some (i * 1, 1)) := by kernel_rfl
theorem Tryd.eq162 : Go.Eng.eqT Tryd.prog 162 = some [.int .u8, .int .u8, .int .u8, .int .u8, .int .u8, .int .u8, .int .u8, .int .u8, .int .u8, .int .u8, .int .u8, .int .u8, .int .u8, .int .u8, .int .u8, .int .u8, .int .u8, .int .u8, .int .u8, .int .u8, .int .u8, .int .u8, .int .u8, .int .u8, .int .u8, .int .u8, .int .u8, .int .u8, .int .u8, .int .u8, .int .u8, .int .u8, .int .u8, .int .u8, .int .u8, .int .u8, .int .u8, .int .u8, .int .u8, .int .u8, .int .u8, .int .u8, .int .u8, .int .u8, .int .u8, .int .u8, .int .u8, .int .u8, .int .u8, .int .u8, .int .u8, .int .u8, .int .u8, .int .u8, .int .u8, .int .u8, .int .u8, .int .u8, .int .u8, .int .u8, .int .u8, .int .u8, .int .u8, .int .u8, .int .u8] := by kernel_rfl
theorem Tryd.size163 : Go.Eng.sizeT Tryd.prog 163 = some 1 := by kernel_rfl
theorem Tryd.agg163 : Go.Eng.aggT Tryd.prog 163 = some false := by kernel_rfl
theorem Tryd.bytes163 : Go.Eng.bytesT Tryd.prog 163 = some 8 := by kernel_rfl
theorem Tryd.basic163 : Go.Eng.basicT Tryd.prog 163 = .other := by kernel_rfl
theorem Tryd.zero163 : Go.Eng.zeroT Tryd.prog 163 = some (.nilfn) := by kernel_rfl
theorem Tryd.size165 : Go.Eng.sizeT Tryd.prog 165 = some 1 := by kernel_rfl
theorem Tryd.agg165 : Go.Eng.aggT Tryd.prog 165 = some false := by kernel_rfl
theorem Tryd.bytes165 : Go.Eng.bytesT Tryd.prog 165 = some 8 := by kernel_rfl
theorem Tryd.basic165 : Go.Eng.basicT Tryd.prog 165 = .other := by kernel_rfl
theorem Tryd.zero165 : Go.Eng.zeroT Tryd.prog 165 = some (.nilfn) := by kernel_rfl
theorem Tryd.size166 : Go.Eng.sizeT Tryd.prog 166 = some 1 := by kernel_rfl
theorem Tryd.agg166 : Go.Eng.aggT Tryd.prog 166 = some false := by kernel_rfl
theorem Tryd.bytes166 : Go.Eng.bytesT Tryd.prog 166 = some 8 := by kernel_rfl
theorem Tryd.basic166 : Go.Eng.basicT Tryd.prog 166 = .other := by kernel_rfl
theorem Tryd.zero166 : Go.Eng.zeroT Tryd.prog 166 = some (.nilfn) := by kernel_rfl
theorem Tryd.size167 : Go.Eng.sizeT Tryd.prog 167 = some 32 := by kernel_rfl
theorem Tryd.agg167 : Go.Eng.aggT Tryd.prog 167 = some true := by kernel_rfl
theorem Tryd.bytes167 : Go.Eng.bytesT Tryd.prog 167 = some 32 := by kernel_rfl
theorem Tryd.basic167 : Go.Eng.basicT Tryd.prog 167 = .other := by kernel_rfl
theorem Tryd.arr167 : Go.Eng.arrT Tryd.prog 167 = some (32, 5) := by kernel_rfl
theorem Tryd.places167 : Go.Eng.placesT Tryd.prog 167 = some (fun i => some (i * 1, 1)) := by kernel_rfl
theorem Tryd.eq167 : Go.Eng.eqT Tryd.prog 167 = some [.int .u8, .int .u8, .int .u8, .int .u8, .int .u8, .int .u8, .int .u8, .int .u8, .int .u8, .int .u8, .int .u8, .int .u8, .int .u8, .int .u8, .int .u8, .int .u8, .int .u8, .int .u8, .int .u8, .int .u8, .int .u8, .int .u8, .int .u8, .int .u8, .int .u8, .int .u8, .int .u8, .int .u8, .int .u8, .int .u8, .int .u8, .int .u8] := by kernel_rfl
theorem Tryd.zero167 : Go.Eng.zeroT Tryd.prog 167 = some (.agg [.int .u8 0, .int .u8 0, .int .u8 0, .int .u8 0, .int .u8 0, .int .u8 0, .int .u8 0, .int .u8 0, .int .u8 0, .int .u8 0, .int .u8 0, .int .u8 0, .int .u8 0, .int .u8 0, .int .u8 0, .int .u8 0, .int .u8 0, .int .u8 0, .int .u8 0, .int .u8 0, .int .u8 0, .int .u8 0, .int .u8 0, .int .u8 0, .int .u8 0, .int .u8 0, .int .u8 0, .int .u8 0, .int .u8 0, .int .u8 0, .int .u8 0, .int .u8 0]) := by kernel_rfl
theorem Tryd.size168 : Go.Eng.sizeT Tryd.prog 168 = some 64 := by kernel_rfl
theorem Tryd.agg168 : Go.Eng.aggT Tryd.prog 168 = some true := by kernel_rfl
theorem Tryd.bytes168 : Go.Eng.bytesT Tryd.prog 168 = some 64 := by kernel_rfl
theorem Tryd.basic168 : Go.Eng.basicT Tryd.prog 168 = .other := by kernel_rfl
theorem Tryd.arr168 : Go.Eng.arrT Tryd.prog 168 = some (64, 5) := by kernel_rfl
theorem Tryd.places168 : Go.Eng.placesT Tryd.prog 168 = some (fun i => some (i * 1, 1)) := by kernel_rfl
theorem Tryd.eq168 : Go.Eng.eqT Tryd.prog 168 = some [.int .u8, .int .u8, .int .u8, .int .u8, .int .u8, .int .u8, .int .u8, .int .u8, .int .u8, .int .u8, .int .u8, .int .u8, .int .u8, .int .u8, .int .u8, .int .u8, .int .u8, .int .u8, .int .u8, .int .u8, .int .u8, .int .u8, .int .u8, .int .u8, .int .u8, .int .u8, .int .u8, .int .u8, .int .u8, .int .u8, .int .u8, .int .u8, .int .u8, .int .u8, .int .u8, .int .u8, .int .u8, .int .u8, .int .u8, .int .u8, .int .u8, .int .u8, .int .u8, .int .u8, .int .u8, .int .u8, .int .u8, .int .u8, .int .u8, .int .u8, .int .u8, .int .u8, .int .u8, .int .u8, .int .u8, .int .u8, .int .u8, .int .u8, .int .u8, .int .u8, .int .u8, .int .u8, .int .u8, .int .u8] := by kernel_rfl
theorem Tryd.zero168 : Go.Eng.zeroT Tryd.prog 168 = some (.agg [.int .u8 0, .int .u8 0, .int .u8 0, .int .u8 0, .int .u8 0, .int .u8 0, .int .u8 0, .int .u8 0, .int .u8 0, .int .u8 0, .int .u8 0, .int .u8 0, .int .u8 0, .int .u8 0, .int .u8 0, .int .u8 0, .int .u8 0, .int .u8 0, .int .u8 0, .int .u8 0, .int .u8 0, .int .u8 0, .int .u8 0, .int .u8 0, .int .u8 0, .int .u8 0, .int .u8 0, .int .u8 0, .int .u8 0, .int .u8 0, .int .u8 0, .int .u8 0, .int .u8 0, .int .u8 0, .int .u8 0, .int .u8 0, .int .u8 0, .int .u8 0, .int .u8 0, .int .u8 0, .int .u8 0, .int .u8 0, .int .u8 0, .int .u8 0, .int .u8 0, .int .u8 0, .int .u8 0, .int .u8 0, .int .u8 0, .int .u8 0, .int .u8 0, .int .u8 0, .int .u8 0, .int .u8 0, .int .u8 0, .int .u8 0, .int .u8 0, .int .u8 0, .int .u8 0, .int .u8 0, .int .u8 0, .int .u8 0, .int .u8 0, .int .u8 0]) := by kernel_rfl
theorem Tryd.size169 : Go.Eng.sizeT Tryd.prog 169 = some 4 := by kernel_rfl
theorem Tryd.agg169 : Go.Eng.aggT Tryd.prog 169 = some true := by kernel_rfl
theorem Tryd.bytes169 : Go.Eng.bytesT Tryd.prog 169 = some 40 := by kernel_rfl
theorem Tryd.basic169 : Go.Eng.basicT Tryd.prog 169 = .other := by kernel_rfl
theorem Tryd.field169_0 : Go.Eng.fieldT Tryd.prog 169 0 = some (0, 17) := by kernel_rfl
theorem Tryd.field169_1 : Go.Eng.fieldT Tryd.prog 169 1 = some (1, 17) := by kernel_rfl
theorem Tryd.field169_2 : Go.Eng.fieldT Tryd.prog 169 2 = some (2, 17) := by kernel_rfl
theorem Tryd.field169_3 : Go.Eng.fieldT Tryd.prog 169 3 = some (3, 9) := by kernel_rfl
theorem Tryd.places169 : Go.Eng.placesT Tryd.prog 169 = some (fun i => ([(0, 1), (1, 1), (2, 1), (3, 1)] : List (Nat × Nat))[i]?) := by kernel_rfl
theorem Tryd.zero169 : Go.Eng.zeroT Tryd.prog 169 = some (.agg [.nilp, .nilp, .nilp, .str []]) := by kernel_rfl
theorem Tryd.size171 : Go.Eng.sizeT Tryd.prog 171 = some 0 := by kernel_rfl
theorem Tryd.agg171 : Go.Eng.aggT Tryd.prog 171 = some true := by kernel_rfl
theorem Tryd.bytes171 : Go.Eng.bytesT Tryd.prog 171 = some 0 := by kernel_rfl
theorem Tryd.basic171 : Go.Eng.basicT Tryd.prog 171 = .other := by kernel_rfl
theorem Tryd.arr171 : Go.Eng.arrT Tryd.prog 171 = some (0, 16) := by kernel_rfl
theorem Tryd.places171 : Go.Eng.placesT Tryd.prog 171 = some (fun i => some (i * 1, 1)) := by kernel_rfl
theorem Tryd.zero171 : Go.Eng.zeroT Tryd.prog 171 = some (.agg []) := by kernel_rfl
theorem Tryd.size172 : Go.Eng.sizeT Tryd.prog 172 = some 0 := by kernel_rfl
theorem Tryd.agg172 : Go.Eng.aggT Tryd.prog 172 = some true := by kernel_rfl
theorem Tryd.bytes172 : Go.Eng.bytesT Tryd.prog 172 = some 0 := by kernel_rfl
theorem Tryd.basic172 : Go.Eng.basicT Tryd.prog 172 = .other := by kernel_rfl
theorem Tryd.field172_0 : Go.Eng.fieldT Tryd.prog 172 0 = some (0, 171) := by kernel_rfl
theorem Tryd.places172 : Go.Eng.placesT Tryd.prog 172 = some (fun i => ([(0, 0)] : List (Nat × Nat))[i]?) := by kernel_rfl
theorem Tryd.zero172 : Go.Eng.zeroT Tryd.prog 172 = some (.agg []) := by kernel_rfl
theorem Tryd.size176 : Go.Eng.sizeT Tryd.prog 176 = some 1 := by kernel_rfl
theorem Tryd.agg176 : Go.Eng.aggT Tryd.prog 176 = some false := by kernel_rfl
theorem Tryd.bytes176 : Go.Eng.bytesT Tryd.prog 176 = some 8 := by kernel_rfl
theorem Tryd.basic176 : Go.Eng.basicT Tryd.prog 176 = .other := by kernel_rfl
theorem Tryd.zero176 : Go.Eng.zeroT Tryd.prog 176 = some (.nilfn) := by kernel_rfl
theorem Tryd.size179 : Go.Eng.sizeT Tryd.prog 179 = some 11 := by kernel_rfl
theorem Tryd.agg179 : Go.Eng.aggT Tryd.prog 179 = some true := by kernel_rfl
theorem Tryd.bytes179 : Go.Eng.bytesT Tryd.prog 179 = some 48 := by kernel_rfl
theorem Tryd.basic179 : Go.Eng.basicT Tryd.prog 179 = .other := by kernel_rfl
theorem Tryd.field179_0 : Go.Eng.fieldT Tryd.prog 179 0 = some (0, 12) := by kernel_rfl
theorem Tryd.field179_1 : Go.Eng.fieldT Tryd.prog 179 1 = some (1, 12) := by kernel_rfl
theorem Tryd.field179_2 : Go.Eng.fieldT Tryd.prog 179 2 = some (2, 161) := by kernel_rfl
theorem Tryd.field179_3 : Go.Eng.fieldT Tryd.prog 179 3 = some (3, 174) := by kernel_rfl
theorem Tryd.field179_4 : Go.Eng.fieldT Tryd.prog 179 4 = some (4, 5) := by kernel_rfl
theorem Tryd.field179_5 : Go.Eng.fieldT Tryd.prog 179 5 = some (5, 5) := by kernel_rfl
theorem Tryd.field179_6 : Go.Eng.fieldT Tryd.prog 179 6 = some (6, 175) := by kernel_rfl
theorem Tryd.field179_7 : Go.Eng.fieldT Tryd.prog 179 7 = some (7, 176) := by kernel_rfl
theorem Tryd.field179_8 : Go.Eng.fieldT Tryd.prog 179 8 = some (8, 106) := by kernel_rfl
theorem Tryd.field179_9 : Go.Eng.fieldT Tryd.prog 179 9 = some (9, 177) := by kernel_rfl
theorem Tryd.field179_10 : Go.Eng.fieldT Tryd.prog 179 10 = some (10, 178) := by kernel_rfl
theorem Tryd.places179 : Go.Eng.placesT Tryd.prog 179 = some (fun i => ([(0, 1), (1, 1), (2, 1), (3, 1), (4, 1), (5, 1), (6, 1), (7, 1), (8, 1), (9, 1), (10, 1)] : List (Nat × Nat))[i]?) := by kernel_rfl
theorem Tryd.zero179 : Go.Eng.zeroT Tryd.prog 179 = some (.agg [.int .u64 0, .int .u64 0, .int .u32 0, .int .u8 0, .int .u8 0, .int .u8 0, .int .u8 0, .nilfn, .nilp, .int .i32 0, .int .i32 0]) := by kernel_rfl
theorem Tryd.go4 : Go.Eng.isGo Tryd.prog 4 = true := by kernel_rfl
theorem Tryd.go14 : Go.Eng.isGo Tryd.prog 14 = true := by kernel_rfl
theorem Tryd.go18 : Go.Eng.isGo Tryd.prog 18 = true := by kernel_rfl
theorem Tryd.go21 : Go.Eng.isGo Tryd.prog 21 = true := by kernel_rfl
theorem Tryd.go25 : Go.Eng.isGo Tryd.prog 25 = true := by kernel_rfl
theorem Tryd.go26 : Go.Eng.isGo Tryd.prog 26 = true := by kernel_rfl
theorem Tryd.go29 : Go.Eng.isGo Tryd.prog 29 = true := by kernel_rfl
theorem Tryd.go30 : Go.Eng.isGo Tryd.prog 30 = true := by kernel_rfl
theorem Tryd.go31 : Go.Eng.isGo Tryd.prog 31 = true := by kernel_rfl
theorem Tryd.go33 : Go.Eng.isGo Tryd.prog 33 = true := by kernel_rfl
theorem Tryd.go34 : Go.Eng.isGo Tryd.prog 34 = true := by kernel_rfl
theorem Tryd.go42 : Go.Eng.isGo Tryd.prog 42 = true := by kernel_rfl
theorem Tryd.go45 : Go.Eng.isGo Tryd.prog 45 = true := by kernel_rfl
theorem Tryd.go47 : Go.Eng.isGo Tryd.prog 47 = true := by kernel_rfl
theorem Tryd.facts : (((((((((type_of% @Tryd.size1 ∧ (type_of% @Tryd.agg1 ∧ type_of% @Tryd.bytes1)) ∧ ((type_of% @Tryd.basic1 ∧ type_of% @Tryd.zero1) ∧ (type_of% @Tryd.size2 ∧ type_of% @Tryd.agg2))) ∧ ((type_of% @Tryd.bytes2 ∧ (type_of% @Tryd.basic2 ∧ type_of% @Tryd.zero2)) ∧ ((type_of% @Tryd.size3 ∧ type_of% @Tryd.agg3) ∧ (type_of% @Tryd.bytes3 ∧ type_of% @Tryd.basic3)))) ∧ (((type_of% @Tryd.zero3 ∧ (type_of% @Tryd.size4 ∧ type_of% @Tryd.agg4)) ∧ ((type_of% @Tryd.bytes4 ∧ type_of% @Tryd.basic4) ∧ (type_of% @Tryd.zero4 ∧ type_of% @Tryd.size5))) ∧ ((type_of% @Tryd.agg5 ∧ (type_of% @Tryd.bytes5 ∧ type_of% @Tryd.basic5)) ∧ ((type_of% @Tryd.zero5 ∧ type_of% @Tryd.size7) ∧ (type_of% @Tryd.agg7 ∧ type_of% @Tryd.bytes7))))) ∧ ((((type_of% @Tryd.basic7 ∧ (type_of% @Tryd.field7_0 ∧ type_of% @Tryd.field7_1)) ∧ ((type_of% @Tryd.field7_2 ∧ type_of% @Tryd.field7_3) ∧ (type_of% @Tryd.places7 ∧ type_of% @Tryd.eq7))) ∧ ((type_of% @Tryd.zero7 ∧ (type_of% @Tryd.size9 ∧ type_of% @Tryd.agg9)) ∧ ((type_of% @Tryd.bytes9 ∧ type_of% @Tryd.basic9) ∧ (type_of% @Tryd.src9 ∧ type_of% @Tryd.zero9)))) ∧ (((type_of% @Tryd.size12 ∧ (type_of% @Tryd.agg12 ∧ type_of% @Tryd.bytes12)) ∧ ((type_of% @Tryd.basic12 ∧ type_of% @Tryd.zero12) ∧ (type_of% @Tryd.size13 ∧ type_of% @Tryd.agg13))) ∧ (((type_of% @Tryd.bytes13 ∧ type_of% @Tryd.basic13) ∧ (type_of% @Tryd.field13_0 ∧ type_of% @Tryd.field13_1)) ∧ ((type_of% @Tryd.places13 ∧ type_of% @Tryd.zero13) ∧ (type_of% @Tryd.size18 ∧ type_of% @Tryd.agg18)))))) ∧ (((((type_of% @Tryd.bytes18 ∧ (type_of% @Tryd.basic18 ∧ type_of% @Tryd.field18_0)) ∧ ((type_of% @Tryd.places18 ∧ type_of% @Tryd.zero18) ∧ (type_of% @Tryd.size20 ∧ type_of% @Tryd.agg20))) ∧ ((type_of% @Tryd.bytes20 ∧ (type_of% @Tryd.basic20 ∧ type_of% @Tryd.zero20)) ∧ ((type_of% @Tryd.size21 ∧ type_of% @Tryd.agg21) ∧ (type_of% @Tryd.bytes21 ∧ type_of% @Tryd.basic21)))) ∧ (((type_of% @Tryd.zero21 ∧ (type_of% @Tryd.size22 ∧ type_of% @Tryd.agg22)) ∧ ((type_of% @Tryd.bytes22 ∧ type_of% @Tryd.basic22) ∧ (type_of% @Tryd.slice22 ∧ type_of% @Tryd.src22))) ∧ ((type_of% @Tryd.zero22 ∧ (type_of% @Tryd.size23 ∧ type_of% @Tryd.agg23)) ∧ ((type_of% @Tryd.bytes23 ∧ type_of% @Tryd.basic23) ∧ (type_of% @Tryd.zero23 ∧ type_of% @Tryd.size24))))) ∧ ((((type_of% @Tryd.agg24 ∧ (type_of% @Tryd.bytes24 ∧ type_of% @Tryd.basic24)) ∧ ((type_of% @Tryd.zero24 ∧ type_of% @Tryd.size25) ∧ (type_of% @Tryd.agg25 ∧ type_of% @Tryd.bytes25))) ∧ ((type_of% @Tryd.basic25 ∧ (type_of% @Tryd.zero25 ∧ type_of% @Tryd.size27)) ∧ ((type_of% @Tryd.agg27 ∧ type_of% @Tryd.bytes27) ∧ (type_of% @Tryd.basic27 ∧ type_of% @Tryd.zero27)))) ∧ (((type_of% @Tryd.size28 ∧ (type_of% @Tryd.agg28 ∧ type_of% @Tryd.bytes28)) ∧ ((type_of% @Tryd.basic28 ∧ type_of% @Tryd.zero28) ∧ (type_of% @Tryd.size29 ∧ type_of% @Tryd.agg29))) ∧ (((type_of% @Tryd.bytes29 ∧ type_of% @Tryd.basic29) ∧ (type_of% @Tryd.zero29 ∧ type_of% @Tryd.size30)) ∧ ((type_of% @Tryd.agg30 ∧ type_of% @Tryd.bytes30) ∧ (type_of% @Tryd.basic30 ∧ type_of% @Tryd.zero30))))))) ∧ ((((((type_of% @Tryd.size31 ∧ (type_of% @Tryd.agg31 ∧ type_of% @Tryd.bytes31)) ∧ ((type_of% @Tryd.basic31 ∧ type_of% @Tryd.field31_0) ∧ (type_of% @Tryd.field31_1 ∧ type_of% @Tryd.field31_2))) ∧ ((type_of% @Tryd.places31 ∧ (type_of% @Tryd.eq31 ∧ type_of% @Tryd.zero31)) ∧ ((type_of% @Tryd.size32 ∧ type_of% @Tryd.agg32) ∧ (type_of% @Tryd.bytes32 ∧ type_of% @Tryd.basic32)))) ∧ (((type_of% @Tryd.field32_0 ∧ (type_of% @Tryd.field32_1 ∧ type_of% @Tryd.field32_2)) ∧ ((type_of% @Tryd.places32 ∧ type_of% @Tryd.eq32) ∧ (type_of% @Tryd.zero32 ∧ type_of% @Tryd.size34))) ∧ ((type_of% @Tryd.agg34 ∧ (type_of% @Tryd.bytes34 ∧ type_of% @Tryd.basic34)) ∧ ((type_of% @Tryd.zero34 ∧ type_of% @Tryd.size35) ∧ (type_of% @Tryd.agg35 ∧ type_of% @Tryd.bytes35))))) ∧ ((((type_of% @Tryd.basic35 ∧ (type_of% @Tryd.zero35 ∧ type_of% @Tryd.size36)) ∧ ((type_of% @Tryd.agg36 ∧ type_of% @Tryd.bytes36) ∧ (type_of% @Tryd.basic36 ∧ type_of% @Tryd.zero36))) ∧ ((type_of% @Tryd.size37 ∧ (type_of% @Tryd.agg37 ∧ type_of% @Tryd.bytes37)) ∧ ((type_of% @Tryd.basic37 ∧ type_of% @Tryd.slice37) ∧ (type_of% @Tryd.src37 ∧ type_of% @Tryd.zero37)))) ∧ (((type_of% @Tryd.size39 ∧ (type_of% @Tryd.agg39 ∧ type_of% @Tryd.bytes39)) ∧ ((type_of% @Tryd.basic39 ∧ type_of% @Tryd.zero39) ∧ (type_of% @Tryd.size40 ∧ type_of% @Tryd.agg40))) ∧ (((type_of% @Tryd.bytes40 ∧ type_of% @Tryd.basic40) ∧ (type_of% @Tryd.field40_0 ∧ type_of% @Tryd.field40_1)) ∧ ((type_of% @Tryd.field40_2 ∧ type_of% @Tryd.field40_3) ∧ (type_of% @Tryd.field40_4 ∧ type_of% @Tryd.places40)))))) ∧ (((((type_of% @Tryd.eq40 ∧ (type_of% @Tryd.zero40 ∧ type_of% @Tryd.size41)) ∧ ((type_of% @Tryd.agg41 ∧ type_of% @Tryd.bytes41) ∧ (type_of% @Tryd.basic41 ∧ type_of% @Tryd.field41_0))) ∧ ((type_of% @Tryd.field41_1 ∧ (type_of% @Tryd.field41_2 ∧ type_of% @Tryd.field41_3)) ∧ ((type_of% @Tryd.field41_4 ∧ type_of% @Tryd.places41) ∧ (type_of% @Tryd.eq41 ∧ type_of% @Tryd.zero41)))) ∧ (((type_of% @Tryd.size43 ∧ (type_of% @Tryd.agg43 ∧ type_of% @Tryd.bytes43)) ∧ ((type_of% @Tryd.basic43 ∧ type_of% @Tryd.zero43) ∧ (type_of% @Tryd.size44 ∧ type_of% @Tryd.agg44))) ∧ ((type_of% @Tryd.bytes44 ∧ (type_of% @Tryd.basic44 ∧ type_of% @Tryd.zero44)) ∧ ((type_of% @Tryd.size45 ∧ type_of% @Tryd.agg45) ∧ (type_of% @Tryd.bytes45 ∧ type_of% @Tryd.basic45))))) ∧ ((((type_of% @Tryd.zero45 ∧ (type_of% @Tryd.size46 ∧ type_of% @Tryd.agg46)) ∧ ((type_of% @Tryd.bytes46 ∧ type_of% @Tryd.basic46) ∧ (type_of% @Tryd.zero46 ∧ type_of% @Tryd.size48))) ∧ ((type_of% @Tryd.agg48 ∧ (type_of% @Tryd.bytes48 ∧ type_of% @Tryd.basic48)) ∧ ((type_of% @Tryd.zero48 ∧ type_of% @Tryd.size49) ∧ (type_of% @Tryd.agg49 ∧ type_of% @Tryd.bytes49)))) ∧ (((type_of% @Tryd.basic49 ∧ (type_of% @Tryd.field49_0 ∧ type_of% @Tryd.field49_1)) ∧ ((type_of% @Tryd.places49 ∧ type_of% @Tryd.eq49) ∧ (type_of% @Tryd.zero49 ∧ type_of% @Tryd.size50))) ∧ (((type_of% @Tryd.agg50 ∧ type_of% @Tryd.bytes50) ∧ (type_of% @Tryd.basic50 ∧ type_of% @Tryd.field50_0)) ∧ ((type_of% @Tryd.field50_1 ∧ type_of% @Tryd.places50) ∧ (type_of% @Tryd.eq50 ∧ type_of% @Tryd.zero50)))))))) ∧ (((((((type_of% @Tryd.size52 ∧ (type_of% @Tryd.agg52 ∧ type_of% @Tryd.bytes52)) ∧ ((type_of% @Tryd.basic52 ∧ type_of% @Tryd.zero52) ∧ (type_of% @Tryd.size53 ∧ type_of% @Tryd.agg53))) ∧ ((type_of% @Tryd.bytes53 ∧ (type_of% @Tryd.basic53 ∧ type_of% @Tryd.zero53)) ∧ ((type_of% @Tryd.size54 ∧ type_of% @Tryd.agg54) ∧ (type_of% @Tryd.bytes54 ∧ type_of% @Tryd.basic54)))) ∧ (((type_of% @Tryd.zero54 ∧ (type_of% @Tryd.size55 ∧ type_of% @Tryd.agg55)) ∧ ((type_of% @Tryd.bytes55 ∧ type_of% @Tryd.basic55) ∧ (type_of% @Tryd.zero55 ∧ type_of% @Tryd.size56))) ∧ ((type_of% @Tryd.agg56 ∧ (type_of% @Tryd.bytes56 ∧ type_of% @Tryd.basic56)) ∧ ((type_of% @Tryd.zero56 ∧ type_of% @Tryd.size57) ∧ (type_of% @Tryd.agg57 ∧ type_of% @Tryd.bytes57))))) ∧ ((((type_of% @Tryd.basic57 ∧ (type_of% @Tryd.zero57 ∧ type_of% @Tryd.size58)) ∧ ((type_of% @Tryd.agg58 ∧ type_of% @Tryd.bytes58) ∧ (type_of% @Tryd.basic58 ∧ type_of% @Tryd.map58))) ∧ ((type_of% @Tryd.keyT41 ∧ (type_of% @Tryd.size60 ∧ type_of% @Tryd.agg60)) ∧ ((type_of% @Tryd.bytes60 ∧ type_of% @Tryd.basic60) ∧ (type_of% @Tryd.zero60 ∧ type_of% @Tryd.size61)))) ∧ (((type_of% @Tryd.agg61 ∧ (type_of% @Tryd.bytes61 ∧ type_of% @Tryd.basic61)) ∧ ((type_of% @Tryd.zero61 ∧ type_of% @Tryd.size62) ∧ (type_of% @Tryd.agg62 ∧ type_of% @Tryd.bytes62))) ∧ (((type_of% @Tryd.basic62 ∧ type_of% @Tryd.zero62) ∧ (type_of% @Tryd.size63 ∧ type_of% @Tryd.agg63)) ∧ ((type_of% @Tryd.bytes63 ∧ type_of% @Tryd.basic63) ∧ (type_of% @Tryd.zero63 ∧ type_of% @Tryd.size64)))))) ∧ (((((type_of% @Tryd.agg64 ∧ (type_of% @Tryd.bytes64 ∧ type_of% @Tryd.basic64)) ∧ ((type_of% @Tryd.zero64 ∧ type_of% @Tryd.size65) ∧ (type_of% @Tryd.agg65 ∧ type_of% @Tryd.bytes65))) ∧ ((type_of% @Tryd.basic65 ∧ (type_of% @Tryd.zero65 ∧ type_of% @Tryd.size66)) ∧ ((type_of% @Tryd.agg66 ∧ type_of% @Tryd.bytes66) ∧ (type_of% @Tryd.basic66 ∧ type_of% @Tryd.zero66)))) ∧ (((type_of% @Tryd.size67 ∧ (type_of% @Tryd.agg67 ∧ type_of% @Tryd.bytes67)) ∧ ((type_of% @Tryd.basic67 ∧ type_of% @Tryd.slice67) ∧ (type_of% @Tryd.src67 ∧ type_of% @Tryd.zero67))) ∧ ((type_of% @Tryd.size68 ∧ (type_of% @Tryd.agg68 ∧ type_of% @Tryd.bytes68)) ∧ ((type_of% @Tryd.basic68 ∧ type_of% @Tryd.field68_0) ∧ (type_of% @Tryd.field68_1 ∧ type_of% @Tryd.places68))))) ∧ ((((type_of% @Tryd.zero68 ∧ (type_of% @Tryd.size69 ∧ type_of% @Tryd.agg69)) ∧ ((type_of% @Tryd.bytes69 ∧ type_of% @Tryd.basic69) ∧ (type_of% @Tryd.field69_0 ∧ type_of% @Tryd.field69_1))) ∧ ((type_of% @Tryd.places69 ∧ (type_of% @Tryd.zero69 ∧ type_of% @Tryd.size70)) ∧ ((type_of% @Tryd.agg70 ∧ type_of% @Tryd.bytes70) ∧ (type_of% @Tryd.basic70 ∧ type_of% @Tryd.slice70)))) ∧ (((type_of% @Tryd.src70 ∧ (type_of% @Tryd.zero70 ∧ type_of% @Tryd.size71)) ∧ ((type_of% @Tryd.agg71 ∧ type_of% @Tryd.bytes71) ∧ (type_of% @Tryd.basic71 ∧ type_of% @Tryd.zero71))) ∧ (((type_of% @Tryd.size72 ∧ type_of% @Tryd.agg72) ∧ (type_of% @Tryd.bytes72 ∧ type_of% @Tryd.basic72)) ∧ ((type_of% @Tryd.field72_0 ∧ type_of% @Tryd.field72_1) ∧ (type_of% @Tryd.field72_2 ∧ type_of% @Tryd.places72))))))) ∧ ((((((type_of% @Tryd.eq72 ∧ (type_of% @Tryd.zero72 ∧ type_of% @Tryd.size73)) ∧ ((type_of% @Tryd.agg73 ∧ type_of% @Tryd.bytes73) ∧ (type_of% @Tryd.basic73 ∧ type_of% @Tryd.field73_0))) ∧ ((type_of% @Tryd.field73_1 ∧ (type_of% @Tryd.field73_2 ∧ type_of% @Tryd.places73)) ∧ ((type_of% @Tryd.eq73 ∧ type_of% @Tryd.zero73) ∧ (type_of% @Tryd.size74 ∧ type_of% @Tryd.agg74)))) ∧ (((type_of% @Tryd.bytes74 ∧ (type_of% @Tryd.basic74 ∧ type_of% @Tryd.zero74)) ∧ ((type_of% @Tryd.size75 ∧ type_of% @Tryd.agg75) ∧ (type_of% @Tryd.bytes75 ∧ type_of% @Tryd.basic75))) ∧ ((type_of% @Tryd.zero75 ∧ (type_of% @Tryd.size76 ∧ type_of% @Tryd.agg76)) ∧ ((type_of% @Tryd.bytes76 ∧ type_of% @Tryd.basic76) ∧ (type_of% @Tryd.zero76 ∧ type_of% @Tryd.size78))))) ∧ ((((type_of% @Tryd.agg78 ∧ (type_of% @Tryd.bytes78 ∧ type_of% @Tryd.basic78)) ∧ ((type_of% @Tryd.zero78 ∧ type_of% @Tryd.size79) ∧ (type_of% @Tryd.agg79 ∧ type_of% @Tryd.bytes79))) ∧ ((type_of% @Tryd.basic79 ∧ (type_of% @Tryd.zero79 ∧ type_of% @Tryd.size80)) ∧ ((type_of% @Tryd.agg80 ∧ type_of% @Tryd.bytes80) ∧ (type_of% @Tryd.basic80 ∧ type_of% @Tryd.zero80)))) ∧ (((type_of% @Tryd.size81 ∧ (type_of% @Tryd.agg81 ∧ type_of% @Tryd.bytes81)) ∧ ((type_of% @Tryd.basic81 ∧ type_of% @Tryd.slice81) ∧ (type_of% @Tryd.src81 ∧ type_of% @Tryd.zero81))) ∧ (((type_of% @Tryd.size83 ∧ type_of% @Tryd.agg83) ∧ (type_of% @Tryd.bytes83 ∧ type_of% @Tryd.basic83)) ∧ ((type_of% @Tryd.zero83 ∧ type_of% @Tryd.size84) ∧ (type_of% @Tryd.agg84 ∧ type_of% @Tryd.bytes84)))))) ∧ (((((type_of% @Tryd.basic84 ∧ (type_of% @Tryd.field84_0 ∧ type_of% @Tryd.field84_1)) ∧ ((type_of% @Tryd.places84 ∧ type_of% @Tryd.zero84) ∧ (type_of% @Tryd.size85 ∧ type_of% @Tryd.agg85))) ∧ ((type_of% @Tryd.bytes85 ∧ (type_of% @Tryd.basic85 ∧ type_of% @Tryd.field85_0)) ∧ ((type_of% @Tryd.field85_1 ∧ type_of% @Tryd.places85) ∧ (type_of% @Tryd.zero85 ∧ type_of% @Tryd.size86)))) ∧ (((type_of% @Tryd.agg86 ∧ (type_of% @Tryd.bytes86 ∧ type_of% @Tryd.basic86)) ∧ ((type_of% @Tryd.zero86 ∧ type_of% @Tryd.size87) ∧ (type_of% @Tryd.agg87 ∧ type_of% @Tryd.bytes87))) ∧ (((type_of% @Tryd.basic87 ∧ type_of% @Tryd.zero87) ∧ (type_of% @Tryd.size88 ∧ type_of% @Tryd.agg88)) ∧ ((type_of% @Tryd.bytes88 ∧ type_of% @Tryd.basic88) ∧ (type_of% @Tryd.zero88 ∧ type_of% @Tryd.size89))))) ∧ ((((type_of% @Tryd.agg89 ∧ (type_of% @Tryd.bytes89 ∧ type_of% @Tryd.basic89)) ∧ ((type_of% @Tryd.zero89 ∧ type_of% @Tryd.size90) ∧ (type_of% @Tryd.agg90 ∧ type_of% @Tryd.bytes90))) ∧ ((type_of% @Tryd.basic90 ∧ (type_of% @Tryd.zero90 ∧ type_of% @Tryd.size91)) ∧ ((type_of% @Tryd.agg91 ∧ type_of% @Tryd.bytes91) ∧ (type_of% @Tryd.basic91 ∧ type_of% @Tryd.field91_0)))) ∧ (((type_of% @Tryd.field91_1 ∧ (type_of% @Tryd.field91_2 ∧ type_of% @Tryd.places91)) ∧ ((type_of% @Tryd.eq91 ∧ type_of% @Tryd.zero91) ∧ (type_of% @Tryd.size92 ∧ type_of% @Tryd.agg92))) ∧ (((type_of% @Tryd.bytes92 ∧ type_of% @Tryd.basic92) ∧ (type_of% @Tryd.field92_0 ∧ type_of% @Tryd.field92_1)) ∧ ((type_of% @Tryd.field92_2 ∧ type_of% @Tryd.places92) ∧ (type_of% @Tryd.eq92 ∧ type_of% @Tryd.zero92))))))))) ∧ ((((((((type_of% @Tryd.size93 ∧ (type_of% @Tryd.agg93 ∧ type_of% @Tryd.bytes93)) ∧ ((type_of% @Tryd.basic93 ∧ type_of% @Tryd.slice93) ∧ (type_of% @Tryd.src93 ∧ type_of% @Tryd.zero93))) ∧ ((type_of% @Tryd.size94 ∧ (type_of% @Tryd.agg94 ∧ type_of% @Tryd.bytes94)) ∧ ((type_of% @Tryd.basic94 ∧ type_of% @Tryd.field94_0) ∧ (type_of% @Tryd.field94_1 ∧ type_of% @Tryd.places94)))) ∧ (((type_of% @Tryd.eq94 ∧ (type_of% @Tryd.zero94 ∧ type_of% @Tryd.size95)) ∧ ((type_of% @Tryd.agg95 ∧ type_of% @Tryd.bytes95) ∧ (type_of% @Tryd.basic95 ∧ type_of% @Tryd.field95_0))) ∧ ((type_of% @Tryd.field95_1 ∧ (type_of% @Tryd.places95 ∧ type_of% @Tryd.eq95)) ∧ ((type_of% @Tryd.zero95 ∧ type_of% @Tryd.size96) ∧ (type_of% @Tryd.agg96 ∧ type_of% @Tryd.bytes96))))) ∧ ((((type_of% @Tryd.basic96 ∧ (type_of% @Tryd.arr96 ∧ type_of% @Tryd.places96)) ∧ ((type_of% @Tryd.eq96 ∧ type_of% @Tryd.zero96) ∧ (type_of% @Tryd.size97 ∧ type_of% @Tryd.agg97))) ∧ ((type_of% @Tryd.bytes97 ∧ (type_of% @Tryd.basic97 ∧ type_of% @Tryd.zero97)) ∧ ((type_of% @Tryd.size98 ∧ type_of% @Tryd.agg98) ∧ (type_of% @Tryd.bytes98 ∧ type_of% @Tryd.basic98)))) ∧ (((type_of% @Tryd.zero98 ∧ (type_of% @Tryd.size99 ∧ type_of% @Tryd.agg99)) ∧ ((type_of% @Tryd.bytes99 ∧ type_of% @Tryd.basic99) ∧ (type_of% @Tryd.zero99 ∧ type_of% @Tryd.size100))) ∧ (((type_of% @Tryd.agg100 ∧ type_of% @Tryd.bytes100) ∧ (type_of% @Tryd.basic100 ∧ type_of% @Tryd.slice100)) ∧ ((type_of% @Tryd.src100 ∧ type_of% @Tryd.zero100) ∧ (type_of% @Tryd.size101 ∧ type_of% @Tryd.agg101)))))) ∧ (((((type_of% @Tryd.bytes101 ∧ (type_of% @Tryd.basic101 ∧ type_of% @Tryd.field101_0)) ∧ ((type_of% @Tryd.field101_1 ∧ type_of% @Tryd.field101_2) ∧ (type_of% @Tryd.places101 ∧ type_of% @Tryd.eq101))) ∧ ((type_of% @Tryd.zero101 ∧ (type_of% @Tryd.size102 ∧ type_of% @Tryd.agg102)) ∧ ((type_of% @Tryd.bytes102 ∧ type_of% @Tryd.basic102) ∧ (type_of% @Tryd.zero102 ∧ type_of% @Tryd.size103)))) ∧ (((type_of% @Tryd.agg103 ∧ (type_of% @Tryd.bytes103 ∧ type_of% @Tryd.basic103)) ∧ ((type_of% @Tryd.zero103 ∧ type_of% @Tryd.size104) ∧ (type_of% @Tryd.agg104 ∧ type_of% @Tryd.bytes104))) ∧ ((type_of% @Tryd.basic104 ∧ (type_of% @Tryd.zero104 ∧ type_of% @Tryd.size105)) ∧ ((type_of% @Tryd.agg105 ∧ type_of% @Tryd.bytes105) ∧ (type_of% @Tryd.basic105 ∧ type_of% @Tryd.zero105))))) ∧ ((((type_of% @Tryd.size106 ∧ (type_of% @Tryd.agg106 ∧ type_of% @Tryd.bytes106)) ∧ ((type_of% @Tryd.basic106 ∧ type_of% @Tryd.zero106) ∧ (type_of% @Tryd.size107 ∧ type_of% @Tryd.agg107))) ∧ ((type_of% @Tryd.bytes107 ∧ (type_of% @Tryd.basic107 ∧ type_of% @Tryd.zero107)) ∧ ((type_of% @Tryd.size108 ∧ type_of% @Tryd.agg108) ∧ (type_of% @Tryd.bytes108 ∧ type_of% @Tryd.basic108)))) ∧ (((type_of% @Tryd.zero108 ∧ (type_of% @Tryd.size109 ∧ type_of% @Tryd.agg109)) ∧ ((type_of% @Tryd.bytes109 ∧ type_of% @Tryd.basic109) ∧ (type_of% @Tryd.zero109 ∧ type_of% @Tryd.size110))) ∧ (((type_of% @Tryd.agg110 ∧ type_of% @Tryd.bytes110) ∧ (type_of% @Tryd.basic110 ∧ type_of% @Tryd.zero110)) ∧ ((type_of% @Tryd.size111 ∧ type_of% @Tryd.agg111) ∧ (type_of% @Tryd.bytes111 ∧ type_of% @Tryd.basic111))))))) ∧ ((((((type_of% @Tryd.zero111 ∧ (type_of% @Tryd.size112 ∧ type_of% @Tryd.agg112)) ∧ ((type_of% @Tryd.bytes112 ∧ type_of% @Tryd.basic112) ∧ (type_of% @Tryd.zero112 ∧ type_of% @Tryd.size113))) ∧ ((type_of% @Tryd.agg113 ∧ (type_of% @Tryd.bytes113 ∧ type_of% @Tryd.basic113)) ∧ ((type_of% @Tryd.zero113 ∧ type_of% @Tryd.size114) ∧ (type_of% @Tryd.agg114 ∧ type_of% @Tryd.bytes114)))) ∧ (((type_of% @Tryd.basic114 ∧ (type_of% @Tryd.zero114 ∧ type_of% @Tryd.size115)) ∧ ((type_of% @Tryd.agg115 ∧ type_of% @Tryd.bytes115) ∧ (type_of% @Tryd.basic115 ∧ type_of% @Tryd.slice115))) ∧ ((type_of% @Tryd.src115 ∧ (type_of% @Tryd.zero115 ∧ type_of% @Tryd.size116)) ∧ ((type_of% @Tryd.agg116 ∧ type_of% @Tryd.bytes116) ∧ (type_of% @Tryd.basic116 ∧ type_of% @Tryd.zero116))))) ∧ ((((type_of% @Tryd.size118 ∧ (type_of% @Tryd.agg118 ∧ type_of% @Tryd.bytes118)) ∧ ((type_of% @Tryd.basic118 ∧ type_of% @Tryd.zero118) ∧ (type_of% @Tryd.size119 ∧ type_of% @Tryd.agg119))) ∧ ((type_of% @Tryd.bytes119 ∧ (type_of% @Tryd.basic119 ∧ type_of% @Tryd.zero119)) ∧ ((type_of% @Tryd.size120 ∧ type_of% @Tryd.agg120) ∧ (type_of% @Tryd.bytes120 ∧ type_of% @Tryd.basic120)))) ∧ (((type_of% @Tryd.zero120 ∧ (type_of% @Tryd.size122 ∧ type_of% @Tryd.agg122)) ∧ ((type_of% @Tryd.bytes122 ∧ type_of% @Tryd.basic122) ∧ (type_of% @Tryd.zero122 ∧ type_of% @Tryd.size123))) ∧ (((type_of% @Tryd.agg123 ∧ type_of% @Tryd.bytes123) ∧ (type_of% @Tryd.basic123 ∧ type_of% @Tryd.zero123)) ∧ ((type_of% @Tryd.size124 ∧ type_of% @Tryd.agg124) ∧ (type_of% @Tryd.bytes124 ∧ type_of% @Tryd.basic124)))))) ∧ (((((type_of% @Tryd.zero124 ∧ (type_of% @Tryd.size125 ∧ type_of% @Tryd.agg125)) ∧ ((type_of% @Tryd.bytes125 ∧ type_of% @Tryd.basic125) ∧ (type_of% @Tryd.zero125 ∧ type_of% @Tryd.size126))) ∧ ((type_of% @Tryd.agg126 ∧ (type_of% @Tryd.bytes126 ∧ type_of% @Tryd.basic126)) ∧ ((type_of% @Tryd.field126_0 ∧ type_of% @Tryd.field126_1) ∧ (type_of% @Tryd.places126 ∧ type_of% @Tryd.eq126)))) ∧ (((type_of% @Tryd.zero126 ∧ (type_of% @Tryd.size127 ∧ type_of% @Tryd.agg127)) ∧ ((type_of% @Tryd.bytes127 ∧ type_of% @Tryd.basic127) ∧ (type_of% @Tryd.field127_0 ∧ type_of% @Tryd.field127_1))) ∧ (((type_of% @Tryd.places127 ∧ type_of% @Tryd.eq127) ∧ (type_of% @Tryd.zero127 ∧ type_of% @Tryd.size129)) ∧ ((type_of% @Tryd.agg129 ∧ type_of% @Tryd.bytes129) ∧ (type_of% @Tryd.basic129 ∧ type_of% @Tryd.zero129))))) ∧ ((((type_of% @Tryd.size131 ∧ (type_of% @Tryd.agg131 ∧ type_of% @Tryd.bytes131)) ∧ ((type_of% @Tryd.basic131 ∧ type_of% @Tryd.zero131) ∧ (type_of% @Tryd.size132 ∧ type_of% @Tryd.agg132))) ∧ ((type_of% @Tryd.bytes132 ∧ (type_of% @Tryd.basic132 ∧ type_of% @Tryd.arr132)) ∧ ((type_of% @Tryd.places132 ∧ type_of% @Tryd.eq132) ∧ (type_of% @Tryd.zero132 ∧ type_of% @Tryd.size133)))) ∧ (((type_of% @Tryd.agg133 ∧ (type_of% @Tryd.bytes133 ∧ type_of% @Tryd.basic133)) ∧ ((type_of% @Tryd.arr133 ∧ type_of% @Tryd.places133) ∧ (type_of% @Tryd.eq133 ∧ type_of% @Tryd.zero133))) ∧ (((type_of% @Tryd.size134 ∧ type_of% @Tryd.agg134) ∧ (type_of% @Tryd.bytes134 ∧ type_of% @Tryd.basic134)) ∧ ((type_of% @Tryd.zero134 ∧ type_of% @Tryd.size136) ∧ (type_of% @Tryd.agg136 ∧ type_of% @Tryd.bytes136)))))))) ∧ (((((((type_of% @Tryd.basic136 ∧ (type_of% @Tryd.zero136 ∧ type_of% @Tryd.size137)) ∧ ((type_of% @Tryd.agg137 ∧ type_of% @Tryd.bytes137) ∧ (type_of% @Tryd.basic137 ∧ type_of% @Tryd.zero137))) ∧ ((type_of% @Tryd.size138 ∧ (type_of% @Tryd.agg138 ∧ type_of% @Tryd.bytes138)) ∧ ((type_of% @Tryd.basic138 ∧ type_of% @Tryd.zero138) ∧ (type_of% @Tryd.size140 ∧ type_of% @Tryd.agg140)))) ∧ (((type_of% @Tryd.bytes140 ∧ (type_of% @Tryd.basic140 ∧ type_of% @Tryd.zero140)) ∧ ((type_of% @Tryd.size141 ∧ type_of% @Tryd.agg141) ∧ (type_of% @Tryd.bytes141 ∧ type_of% @Tryd.basic141))) ∧ ((type_of% @Tryd.zero141 ∧ (type_of% @Tryd.size142 ∧ type_of% @Tryd.agg142)) ∧ ((type_of% @Tryd.bytes142 ∧ type_of% @Tryd.basic142) ∧ (type_of% @Tryd.zero142 ∧ type_of% @Tryd.size143))))) ∧ ((((type_of% @Tryd.agg143 ∧ (type_of% @Tryd.bytes143 ∧ type_of% @Tryd.basic143)) ∧ ((type_of% @Tryd.zero143 ∧ type_of% @Tryd.size144) ∧ (type_of% @Tryd.agg144 ∧ type_of% @Tryd.bytes144))) ∧ ((type_of% @Tryd.basic144 ∧ (type_of% @Tryd.zero144 ∧ type_of% @Tryd.size145)) ∧ ((type_of% @Tryd.agg145 ∧ type_of% @Tryd.bytes145) ∧ (type_of% @Tryd.basic145 ∧ type_of% @Tryd.arr145)))) ∧ (((type_of% @Tryd.places145 ∧ (type_of% @Tryd.eq145 ∧ type_of% @Tryd.zero145)) ∧ ((type_of% @Tryd.size146 ∧ type_of% @Tryd.agg146) ∧ (type_of% @Tryd.bytes146 ∧ type_of% @Tryd.basic146))) ∧ (((type_of% @Tryd.zero146 ∧ type_of% @Tryd.size147) ∧ (type_of% @Tryd.agg147 ∧ type_of% @Tryd.bytes147)) ∧ ((type_of% @Tryd.basic147 ∧ type_of% @Tryd.zero147) ∧ (type_of% @Tryd.size149 ∧ type_of% @Tryd.agg149)))))) ∧ (((((type_of% @Tryd.bytes149 ∧ (type_of% @Tryd.basic149 ∧ type_of% @Tryd.zero149)) ∧ ((type_of% @Tryd.size150 ∧ type_of% @Tryd.agg150) ∧ (type_of% @Tryd.bytes150 ∧ type_of% @Tryd.basic150))) ∧ ((type_of% @Tryd.arr150 ∧ (type_of% @Tryd.places150 ∧ type_of% @Tryd.eq150)) ∧ ((type_of% @Tryd.size151 ∧ type_of% @Tryd.agg151) ∧ (type_of% @Tryd.bytes151 ∧ type_of% @Tryd.basic151)))) ∧ (((type_of% @Tryd.zero151 ∧ (type_of% @Tryd.size152 ∧ type_of% @Tryd.agg152)) ∧ ((type_of% @Tryd.bytes152 ∧ type_of% @Tryd.basic152) ∧ (type_of% @Tryd.field152_0 ∧ type_of% @Tryd.field152_1))) ∧ ((type_of% @Tryd.places152 ∧ (type_of% @Tryd.eq152 ∧ type_of% @Tryd.zero152)) ∧ ((type_of% @Tryd.size153 ∧ type_of% @Tryd.agg153) ∧ (type_of% @Tryd.bytes153 ∧ type_of% @Tryd.basic153))))) ∧ ((((type_of% @Tryd.field153_0 ∧ (type_of% @Tryd.field153_1 ∧ type_of% @Tryd.places153)) ∧ ((type_of% @Tryd.eq153 ∧ type_of% @Tryd.zero153) ∧ (type_of% @Tryd.size154 ∧ type_of% @Tryd.agg154))) ∧ ((type_of% @Tryd.bytes154 ∧ (type_of% @Tryd.basic154 ∧ type_of% @Tryd.arr154)) ∧ ((type_of% @Tryd.places154 ∧ type_of% @Tryd.eq154) ∧ (type_of% @Tryd.zero154 ∧ type_of% @Tryd.size155)))) ∧ (((type_of% @Tryd.agg155 ∧ (type_of% @Tryd.bytes155 ∧ type_of% @Tryd.basic155)) ∧ ((type_of% @Tryd.zero155 ∧ type_of% @Tryd.size156) ∧ (type_of% @Tryd.agg156 ∧ type_of% @Tryd.bytes156))) ∧ (((type_of% @Tryd.basic156 ∧ type_of% @Tryd.zero156) ∧ (type_of% @Tryd.size157 ∧ type_of% @Tryd.agg157)) ∧ ((type_of% @Tryd.bytes157 ∧ type_of% @Tryd.basic157) ∧ (type_of% @Tryd.zero157 ∧ type_of% @Tryd.size159))))))) ∧ ((((((type_of% @Tryd.agg159 ∧ (type_of% @Tryd.bytes159 ∧ type_of% @Tryd.basic159)) ∧ ((type_of% @Tryd.zero159 ∧ type_of% @Tryd.size160) ∧ (type_of% @Tryd.agg160 ∧ type_of% @Tryd.bytes160))) ∧ ((type_of% @Tryd.basic160 ∧ (type_of% @Tryd.arr160 ∧ type_of% @Tryd.places160)) ∧ ((type_of% @Tryd.eq160 ∧ type_of% @Tryd.zero160) ∧ (type_of% @Tryd.size161 ∧ type_of% @Tryd.agg161)))) ∧ (((type_of% @Tryd.bytes161 ∧ (type_of% @Tryd.basic161 ∧ type_of% @Tryd.zero161)) ∧ ((type_of% @Tryd.size162 ∧ type_of% @Tryd.agg162) ∧ (type_of% @Tryd.bytes162 ∧ type_of% @Tryd.basic162))) ∧ ((type_of% @Tryd.arr162 ∧ (type_of% @Tryd.places162 ∧ type_of% @Tryd.eq162)) ∧ ((type_of% @Tryd.size163 ∧ type_of% @Tryd.agg163) ∧ (type_of% @Tryd.bytes163 ∧ type_of% @Tryd.basic163))))) ∧ ((((type_of% @Tryd.zero163 ∧ (type_of% @Tryd.size165 ∧ type_of% @Tryd.agg165)) ∧ ((type_of% @Tryd.bytes165 ∧ type_of% @Tryd.basic165) ∧ (type_of% @Tryd.zero165 ∧ type_of% @Tryd.size166))) ∧ ((type_of% @Tryd.agg166 ∧ (type_of% @Tryd.bytes166 ∧ type_of% @Tryd.basic166)) ∧ ((type_of% @Tryd.zero166 ∧ type_of% @Tryd.size167) ∧ (type_of% @Tryd.agg167 ∧ type_of% @Tryd.bytes167)))) ∧ (((type_of% @Tryd.basic167 ∧ (type_of% @Tryd.arr167 ∧ type_of% @Tryd.places167)) ∧ ((type_of% @Tryd.eq167 ∧ type_of% @Tryd.zero167) ∧ (type_of% @Tryd.size168 ∧ type_of% @Tryd.agg168))) ∧ (((type_of% @Tryd.bytes168 ∧ type_of% @Tryd.basic168) ∧ (type_of% @Tryd.arr168 ∧ type_of% @Tryd.places168)) ∧ ((type_of% @Tryd.eq168 ∧ type_of% @Tryd.zero168) ∧ (type_of% @Tryd.size169 ∧ type_of% @Tryd.agg169)))))) ∧ (((((type_of% @Tryd.bytes169 ∧ (type_of% @Tryd.basic169 ∧ type_of% @Tryd.field169_0)) ∧ ((type_of% @Tryd.field169_1 ∧ type_of% @Tryd.field169_2) ∧ (type_of% @Tryd.field169_3 ∧ type_of% @Tryd.places169))) ∧ ((type_of% @Tryd.zero169 ∧ (type_of% @Tryd.size171 ∧ type_of% @Tryd.agg171)) ∧ ((type_of% @Tryd.bytes171 ∧ type_of% @Tryd.basic171) ∧ (type_of% @Tryd.arr171 ∧ type_of% @Tryd.places171)))) ∧ (((type_of% @Tryd.zero171 ∧ (type_of% @Tryd.size172 ∧ type_of% @Tryd.agg172)) ∧ ((type_of% @Tryd.bytes172 ∧ type_of% @Tryd.basic172) ∧ (type_of% @Tryd.field172_0 ∧ type_of% @Tryd.places172))) ∧ (((type_of% @Tryd.zero172 ∧ type_of% @Tryd.size176) ∧ (type_of% @Tryd.agg176 ∧ type_of% @Tryd.bytes176)) ∧ ((type_of% @Tryd.basic176 ∧ type_of% @Tryd.zero176) ∧ (type_of% @Tryd.size179 ∧ type_of% @Tryd.agg179))))) ∧ ((((type_of% @Tryd.bytes179 ∧ (type_of% @Tryd.basic179 ∧ type_of% @Tryd.field179_0)) ∧ ((type_of% @Tryd.field179_1 ∧ type_of% @Tryd.field179_2) ∧ (type_of% @Tryd.field179_3 ∧ type_of% @Tryd.field179_4))) ∧ ((type_of% @Tryd.field179_5 ∧ (type_of% @Tryd.field179_6 ∧ type_of% @Tryd.field179_7)) ∧ ((type_of% @Tryd.field179_8 ∧ type_of% @Tryd.field179_9) ∧ (type_of% @Tryd.field179_10 ∧ type_of% @Tryd.places179)))) ∧ (((type_of% @Tryd.zero179 ∧ (type_of% @Tryd.go4 ∧ type_of% @Tryd.go14)) ∧ ((type_of% @Tryd.go18 ∧ type_of% @Tryd.go21) ∧ (type_of% @Tryd.go25 ∧ type_of% @Tryd.go26))) ∧ (((type_of% @Tryd.go29 ∧ type_of% @Tryd.go30) ∧ (type_of% @Tryd.go31 ∧ type_of% @Tryd.go33)) ∧ ((type_of% @Tryd.go34 ∧ type_of% @Tryd.go42) ∧ (type_of% @Tryd.go45 ∧ type_of% @Tryd.go47)))))))))) := ⟨⟨⟨⟨⟨⟨⟨⟨⟨@Tryd.size1, ⟨@Tryd.agg1, @Tryd.bytes1⟩⟩, ⟨⟨@Tryd.basic1, @Tryd.zero1⟩, ⟨@Tryd.size2, @Tryd.agg2⟩⟩⟩, ⟨⟨@Tryd.bytes2, ⟨@Tryd.basic2, @Tryd.zero2⟩⟩, ⟨⟨@Tryd.size3, @Tryd.agg3⟩, ⟨@Tryd.bytes3, @Tryd.basic3⟩⟩⟩⟩, ⟨⟨⟨@Tryd.zero3, ⟨@Tryd.size4, @Tryd.agg4⟩⟩, ⟨⟨@Tryd.bytes4, @Tryd.basic4⟩, ⟨@Tryd.zero4, @Tryd.size5⟩⟩⟩, ⟨⟨@Tryd.agg5, ⟨@Tryd.bytes5, @Tryd.basic5⟩⟩, ⟨⟨@Tryd.zero5, @Tryd.size7⟩, ⟨@Tryd.agg7, @Tryd.bytes7⟩⟩⟩⟩⟩, ⟨⟨⟨⟨@Tryd.basic7, ⟨@Tryd.field7_0, @Tryd.field7_1⟩⟩, ⟨⟨@Tryd.field7_2, @Tryd.field7_3⟩, ⟨@Tryd.places7, @Tryd.eq7⟩⟩⟩, ⟨⟨@Tryd.zero7, ⟨@Tryd.size9, @Tryd.agg9⟩⟩, ⟨⟨@Tryd.bytes9, @Tryd.basic9⟩, ⟨@Tryd.src9, @Tryd.zero9⟩⟩⟩⟩, ⟨⟨⟨@Tryd.size12, ⟨@Tryd.agg12, @Tryd.bytes12⟩⟩, ⟨⟨@Tryd.basic12, @Tryd.zero12⟩, ⟨@Tryd.size13, @Tryd.agg13⟩⟩⟩, ⟨⟨⟨@Tryd.bytes13, @Tryd.basic13⟩, ⟨@Tryd.field13_0, @Tryd.field13_1⟩⟩, ⟨⟨@Tryd.places13, @Tryd.zero13⟩, ⟨@Tryd.size18, @Tryd.agg18⟩⟩⟩⟩⟩⟩, ⟨⟨⟨⟨⟨@Tryd.bytes18, ⟨@Tryd.basic18, @Tryd.field18_0⟩⟩, ⟨⟨@Tryd.places18, @Tryd.zero18⟩, ⟨@Tryd.size20, @Tryd.agg20⟩⟩⟩, ⟨⟨@Tryd.bytes20, ⟨@Tryd.basic20, @Tryd.zero20⟩⟩, ⟨⟨@Tryd.size21, @Tryd.agg21⟩, ⟨@Tryd.bytes21, @Tryd.basic21⟩⟩⟩⟩, ⟨⟨⟨@Tryd.zero21, ⟨@Tryd.size22, @Tryd.agg22⟩⟩, ⟨⟨@Tryd.bytes22, @Tryd.basic22⟩, ⟨@Tryd.slice22, @Tryd.src22⟩⟩⟩, ⟨⟨@Tryd.zero22, ⟨@Tryd.size23, @Tryd.agg23⟩⟩, ⟨⟨@Tryd.bytes23, @Tryd.basic23⟩, ⟨@Tryd.zero23, @Tryd.size24⟩⟩⟩⟩⟩, ⟨⟨⟨⟨@Tryd.agg24, ⟨@Tryd.bytes24, @Tryd.basic24⟩⟩, ⟨⟨@Tryd.zero24, @Tryd.size25⟩, ⟨@Tryd.agg25, @Tryd.bytes25⟩⟩⟩, ⟨⟨@Tryd.basic25, ⟨@Tryd.zero25, @Tryd.size27⟩⟩, ⟨⟨@Tryd.agg27, @Tryd.bytes27⟩, ⟨@Tryd.basic27, @Tryd.zero27⟩⟩⟩⟩, ⟨⟨⟨@Tryd.size28, ⟨@Tryd.agg28, @Tryd.bytes28⟩⟩, ⟨⟨@Tryd.basic28, @Tryd.zero28⟩, ⟨@Tryd.size29, @Tryd.agg29⟩⟩⟩, ⟨⟨⟨@Tryd.bytes29, @Tryd.basic29⟩, ⟨@Tryd.zero29, @Tryd.size30⟩⟩, ⟨⟨@Tryd.agg30, @Tryd.bytes30⟩, ⟨@Tryd.basic30, @Tryd.zero30⟩⟩⟩⟩⟩⟩⟩, ⟨⟨⟨⟨⟨⟨@Tryd.size31, ⟨@Tryd.agg31, @Tryd.bytes31⟩⟩, ⟨⟨@Tryd.basic31, @Tryd.field31_0⟩, ⟨@Tryd.field31_1, @Tryd.field31_2⟩⟩⟩, ⟨⟨@Tryd.places31, ⟨@Tryd.eq31, @Tryd.zero31⟩⟩, ⟨⟨@Tryd.size32, @Tryd.agg32⟩, ⟨@Tryd.bytes32, @Tryd.basic32⟩⟩⟩⟩, ⟨⟨⟨@Tryd.field32_0, ⟨@Tryd.field32_1, @Tryd.field32_2⟩⟩, ⟨⟨@Tryd.places32, @Tryd.eq32⟩, ⟨@Tryd.zero32, @Tryd.size34⟩⟩⟩, ⟨⟨@Tryd.agg34, ⟨@Tryd.bytes34, @Tryd.basic34⟩⟩, ⟨⟨@Tryd.zero34, @Tryd.size35⟩, ⟨@Tryd.agg35, @Tryd.bytes35⟩⟩⟩⟩⟩, ⟨⟨⟨⟨@Tryd.basic35, ⟨@Tryd.zero35, @Tryd.size36⟩⟩, ⟨⟨@Tryd.agg36, @Tryd.bytes36⟩, ⟨@Tryd.basic36, @Tryd.zero36⟩⟩⟩, ⟨⟨@Tryd.size37, ⟨@Tryd.agg37, @Tryd.bytes37⟩⟩, ⟨⟨@Tryd.basic37, @Tryd.slice37⟩, ⟨@Tryd.src37, @Tryd.zero37⟩⟩⟩⟩, ⟨⟨⟨@Tryd.size39, ⟨@Tryd.agg39, @Tryd.bytes39⟩⟩, ⟨⟨@Tryd.basic39, @Tryd.zero39⟩, ⟨@Tryd.size40, @Tryd.agg40⟩⟩⟩, ⟨⟨⟨@Tryd.bytes40, @Tryd.basic40⟩, ⟨@Tryd.field40_0, @Tryd.field40_1⟩⟩, ⟨⟨@Tryd.field40_2, @Tryd.field40_3⟩, ⟨@Tryd.field40_4, @Tryd.places40⟩⟩⟩⟩⟩⟩, ⟨⟨⟨⟨⟨@Tryd.eq40, ⟨@Tryd.zero40, @Tryd.size41⟩⟩, ⟨⟨@Tryd.agg41, @Tryd.bytes41⟩, ⟨@Tryd.basic41, @Tryd.field41_0⟩⟩⟩, ⟨⟨@Tryd.field41_1, ⟨@Tryd.field41_2, @Tryd.field41_3⟩⟩, ⟨⟨@Tryd.field41_4, @Tryd.places41⟩, ⟨@Tryd.eq41, @Tryd.zero41⟩⟩⟩⟩, ⟨⟨⟨@Tryd.size43, ⟨@Tryd.agg43, @Tryd.bytes43⟩⟩, ⟨⟨@Tryd.basic43, @Tryd.zero43⟩, ⟨@Tryd.size44, @Tryd.agg44⟩⟩⟩, ⟨⟨@Tryd.bytes44, ⟨@Tryd.basic44, @Tryd.zero44⟩⟩, ⟨⟨@Tryd.size45, @Tryd.agg45⟩, ⟨@Tryd.bytes45, @Tryd.basic45⟩⟩⟩⟩⟩, ⟨⟨⟨⟨@Tryd.zero45, ⟨@Tryd.size46, @Tryd.agg46⟩⟩, ⟨⟨@Tryd.bytes46, @Tryd.basic46⟩, ⟨@Tryd.zero46, @Tryd.size48⟩⟩⟩, ⟨⟨@Tryd.agg48, ⟨@Tryd.bytes48, @Tryd.basic48⟩⟩, ⟨⟨@Tryd.zero48, @Tryd.size49⟩, ⟨@Tryd.agg49, @Tryd.bytes49⟩⟩⟩⟩, ⟨⟨⟨@Tryd.basic49, ⟨@Tryd.field49_0, @Tryd.field49_1⟩⟩, ⟨⟨@Tryd.places49, @Tryd.eq49⟩, ⟨@Tryd.zero49, @Tryd.size50⟩⟩⟩, ⟨⟨⟨@Tryd.agg50, @Tryd.bytes50⟩, ⟨@Tryd.basic50, @Tryd.field50_0⟩⟩, ⟨⟨@Tryd.field50_1, @Tryd.places50⟩, ⟨@Tryd.eq50, @Tryd.zero50⟩⟩⟩⟩⟩⟩⟩⟩, ⟨⟨⟨⟨⟨⟨⟨@Tryd.size52, ⟨@Tryd.agg52, @Tryd.bytes52⟩⟩, ⟨⟨@Tryd.basic52, @Tryd.zero52⟩, ⟨@Tryd.size53, @Tryd.agg53⟩⟩⟩, ⟨⟨@Tryd.bytes53, ⟨@Tryd.basic53, @Tryd.zero53⟩⟩, ⟨⟨@Tryd.size54, @Tryd.agg54⟩, ⟨@Tryd.bytes54, @Tryd.basic54⟩⟩⟩⟩, ⟨⟨⟨@Tryd.zero54, ⟨@Tryd.size55, @Tryd.agg55⟩⟩, ⟨⟨@Tryd.bytes55, @Tryd.basic55⟩, ⟨@Tryd.zero55, @Tryd.size56⟩⟩⟩, ⟨⟨@Tryd.agg56, ⟨@Tryd.bytes56, @Tryd.basic56⟩⟩, ⟨⟨@Tryd.zero56, @Tryd.size57⟩, ⟨@Tryd.agg57, @Tryd.bytes57⟩⟩⟩⟩⟩, ⟨⟨⟨⟨@Tryd.basic57, ⟨@Tryd.zero57, @Tryd.size58⟩⟩, ⟨⟨@Tryd.agg58, @Tryd.bytes58⟩, ⟨@Tryd.basic58, @Tryd.map58⟩⟩⟩, ⟨⟨@Tryd.keyT41, ⟨@Tryd.size60, @Tryd.agg60⟩⟩, ⟨⟨@Tryd.bytes60, @Tryd.basic60⟩, ⟨@Tryd.zero60, @Tryd.size61⟩⟩⟩⟩, ⟨⟨⟨@Tryd.agg61, ⟨@Tryd.bytes61, @Tryd.basic61⟩⟩, ⟨⟨@Tryd.zero61, @Tryd.size62⟩, ⟨@Tryd.agg62, @Tryd.bytes62⟩⟩⟩, ⟨⟨⟨@Tryd.basic62, @Tryd.zero62⟩, ⟨@Tryd.size63, @Tryd.agg63⟩⟩, ⟨⟨@Tryd.bytes63, @Tryd.basic63⟩, ⟨@Tryd.zero63, @Tryd.size64⟩⟩⟩⟩⟩⟩, ⟨⟨⟨⟨⟨@Tryd.agg64, ⟨@Tryd.bytes64, @Tryd.basic64⟩⟩, ⟨⟨@Tryd.zero64, @Tryd.size65⟩, ⟨@Tryd.agg65, @Tryd.bytes65⟩⟩⟩, ⟨⟨@Tryd.basic65, ⟨@Tryd.zero65, @Tryd.size66⟩⟩, ⟨⟨@Tryd.agg66, @Tryd.bytes66⟩, ⟨@Tryd.basic66, @Tryd.zero66⟩⟩⟩⟩, ⟨⟨⟨@Tryd.size67, ⟨@Tryd.agg67, @Tryd.bytes67⟩⟩, ⟨⟨@Tryd.basic67, @Tryd.slice67⟩, ⟨@Tryd.src67, @Tryd.zero67⟩⟩⟩, ⟨⟨@Tryd.size68, ⟨@Tryd.agg68, @Tryd.bytes68⟩⟩, ⟨⟨@Tryd.basic68, @Tryd.field68_0⟩, ⟨@Tryd.field68_1, @Tryd.places68⟩⟩⟩⟩⟩, ⟨⟨⟨⟨@Tryd.zero68, ⟨@Tryd.size69, @Tryd.agg69⟩⟩, ⟨⟨@Tryd.bytes69, @Tryd.basic69⟩, ⟨@Tryd.field69_0, @Tryd.field69_1⟩⟩⟩, ⟨⟨@Tryd.places69, ⟨@Tryd.zero69, @Tryd.size70⟩⟩, ⟨⟨@Tryd.agg70, @Tryd.bytes70⟩, ⟨@Tryd.basic70, @Tryd.slice70⟩⟩⟩⟩, ⟨⟨⟨@Tryd.src70, ⟨@Tryd.zero70, @Tryd.size71⟩⟩, ⟨⟨@Tryd.agg71, @Tryd.bytes71⟩, ⟨@Tryd.basic71, @Tryd.zero71⟩⟩⟩, ⟨⟨⟨@Tryd.size72, @Tryd.agg72⟩, ⟨@Tryd.bytes72, @Tryd.basic72⟩⟩, ⟨⟨@Tryd.field72_0, @Tryd.field72_1⟩, ⟨@Tryd.field72_2, @Tryd.places72⟩⟩⟩⟩⟩⟩⟩, ⟨⟨⟨⟨⟨⟨@Tryd.eq72, ⟨@Tryd.zero72, @Tryd.size73⟩⟩, ⟨⟨@Tryd.agg73, @Tryd.bytes73⟩, ⟨@Tryd.basic73, @Tryd.field73_0⟩⟩⟩, ⟨⟨@Tryd.field73_1, ⟨@Tryd.field73_2, @Tryd.places73⟩⟩, ⟨⟨@Tryd.eq73, @Tryd.zero73⟩, ⟨@Tryd.size74, @Tryd.agg74⟩⟩⟩⟩, ⟨⟨⟨@Tryd.bytes74, ⟨@Tryd.basic74, @Tryd.zero74⟩⟩, ⟨⟨@Tryd.size75, @Tryd.agg75⟩, ⟨@Tryd.bytes75, @Tryd.basic75⟩⟩⟩, ⟨⟨@Tryd.zero75, ⟨@Tryd.size76, @Tryd.agg76⟩⟩, ⟨⟨@Tryd.bytes76, @Tryd.basic76⟩, ⟨@Tryd.zero76, @Tryd.size78⟩⟩⟩⟩⟩, ⟨⟨⟨⟨@Tryd.agg78, ⟨@Tryd.bytes78, @Tryd.basic78⟩⟩, ⟨⟨@Tryd.zero78, @Tryd.size79⟩, ⟨@Tryd.agg79, @Tryd.bytes79⟩⟩⟩, ⟨⟨@Tryd.basic79, ⟨@Tryd.zero79, @Tryd.size80⟩⟩, ⟨⟨@Tryd.agg80, @Tryd.bytes80⟩, ⟨@Tryd.basic80, @Tryd.zero80⟩⟩⟩⟩, ⟨⟨⟨@Tryd.size81, ⟨@Tryd.agg81, @Tryd.bytes81⟩⟩, ⟨⟨@Tryd.basic81, @Tryd.slice81⟩, ⟨@Tryd.src81, @Tryd.zero81⟩⟩⟩, ⟨⟨⟨@Tryd.size83, @Tryd.agg83⟩, ⟨@Tryd.bytes83, @Tryd.basic83⟩⟩, ⟨⟨@Tryd.zero83, @Tryd.size84⟩, ⟨@Tryd.agg84, @Tryd.bytes84⟩⟩⟩⟩⟩⟩, ⟨⟨⟨⟨⟨@Tryd.basic84, ⟨@Tryd.field84_0, @Tryd.field84_1⟩⟩, ⟨⟨@Tryd.places84, @Tryd.zero84⟩, ⟨@Tryd.size85, @Tryd.agg85⟩⟩⟩, ⟨⟨@Tryd.bytes85, ⟨@Tryd.basic85, @Tryd.field85_0⟩⟩, ⟨⟨@Tryd.field85_1, @Tryd.places85⟩, ⟨@Tryd.zero85, @Tryd.size86⟩⟩⟩⟩, ⟨⟨⟨@Tryd.agg86, ⟨@Tryd.bytes86, @Tryd.basic86⟩⟩, ⟨⟨@Tryd.zero86, @Tryd.size87⟩, ⟨@Tryd.agg87, @Tryd.bytes87⟩⟩⟩, ⟨⟨⟨@Tryd.basic87, @Tryd.zero87⟩, ⟨@Tryd.size88, @Tryd.agg88⟩⟩, ⟨⟨@Tryd.bytes88, @Tryd.basic88⟩, ⟨@Tryd.zero88, @Tryd.size89⟩⟩⟩⟩⟩, ⟨⟨⟨⟨@Tryd.agg89, ⟨@Tryd.bytes89, @Tryd.basic89⟩⟩, ⟨⟨@Tryd.zero89, @Tryd.size90⟩, ⟨@Tryd.agg90, @Tryd.bytes90⟩⟩⟩, ⟨⟨@Tryd.basic90, ⟨@Tryd.zero90, @Tryd.size91⟩⟩, ⟨⟨@Tryd.agg91, @Tryd.bytes91⟩, ⟨@Tryd.basic91, @Tryd.field91_0⟩⟩⟩⟩, ⟨⟨⟨@Tryd.field91_1, ⟨@Tryd.field91_2, @Tryd.places91⟩⟩, ⟨⟨@Tryd.eq91, @Tryd.zero91⟩, ⟨@Tryd.size92, @Tryd.agg92⟩⟩⟩, ⟨⟨⟨@Tryd.bytes92, @Tryd.basic92⟩, ⟨@Tryd.field92_0, @Tryd.field92_1⟩⟩, ⟨⟨@Tryd.field92_2, @Tryd.places92⟩, ⟨@Tryd.eq92, @Tryd.zero92⟩⟩⟩⟩⟩⟩⟩⟩⟩, ⟨⟨⟨⟨⟨⟨⟨⟨@Tryd.size93, ⟨@Tryd.agg93, @Tryd.bytes93⟩⟩, ⟨⟨@Tryd.basic93, @Tryd.slice93⟩, ⟨@Tryd.src93, @Tryd.zero93⟩⟩⟩, ⟨⟨@Tryd.size94, ⟨@Tryd.agg94, @Tryd.bytes94⟩⟩, ⟨⟨@Tryd.basic94, @Tryd.field94_0⟩, ⟨@Tryd.field94_1, @Tryd.places94⟩⟩⟩⟩, ⟨⟨⟨@Tryd.eq94, ⟨@Tryd.zero94, @Tryd.size95⟩⟩, ⟨⟨@Tryd.agg95, @Tryd.bytes95⟩, ⟨@Tryd.basic95, @Tryd.field95_0⟩⟩⟩, ⟨⟨@Tryd.field95_1, ⟨@Tryd.places95, @Tryd.eq95⟩⟩, ⟨⟨@Tryd.zero95, @Tryd.size96⟩, ⟨@Tryd.agg96, @Tryd.bytes96⟩⟩⟩⟩⟩, ⟨⟨⟨⟨@Tryd.basic96, ⟨@Tryd.arr96, @Tryd.places96⟩⟩, ⟨⟨@Tryd.eq96, @Tryd.zero96⟩, ⟨@Tryd.size97, @Tryd.agg97⟩⟩⟩, ⟨⟨@Tryd.bytes97, ⟨@Tryd.basic97, @Tryd.zero97⟩⟩, ⟨⟨@Tryd.size98, @Tryd.agg98⟩, ⟨@Tryd.bytes98, @Tryd.basic98⟩⟩⟩⟩, ⟨⟨⟨@Tryd.zero98, ⟨@Tryd.size99, @Tryd.agg99⟩⟩, ⟨⟨@Tryd.bytes99, @Tryd.basic99⟩, ⟨@Tryd.zero99, @Tryd.size100⟩⟩⟩, ⟨⟨⟨@Tryd.agg100, @Tryd.bytes100⟩, ⟨@Tryd.basic100, @Tryd.slice100⟩⟩, ⟨⟨@Tryd.src100, @Tryd.zero100⟩, ⟨@Tryd.size101, @Tryd.agg101⟩⟩⟩⟩⟩⟩, ⟨⟨⟨⟨⟨@Tryd.bytes101, ⟨@Tryd.basic101, @Tryd.field101_0⟩⟩, ⟨⟨@Tryd.field101_1, @Tryd.field101_2⟩, ⟨@Tryd.places101, @Tryd.eq101⟩⟩⟩, ⟨⟨@Tryd.zero101, ⟨@Tryd.size102, @Tryd.agg102⟩⟩, ⟨⟨@Tryd.bytes102, @Tryd.basic102⟩, ⟨@Tryd.zero102, @Tryd.size103⟩⟩⟩⟩, ⟨⟨⟨@Tryd.agg103, ⟨@Tryd.bytes103, @Tryd.basic103⟩⟩, ⟨⟨@Tryd.zero103, @Tryd.size104⟩, ⟨@Tryd.agg104, @Tryd.bytes104⟩⟩⟩, ⟨⟨@Tryd.basic104, ⟨@Tryd.zero104, @Tryd.size105⟩⟩, ⟨⟨@Tryd.agg105, @Tryd.bytes105⟩, ⟨@Tryd.basic105, @Tryd.zero105⟩⟩⟩⟩⟩, ⟨⟨⟨⟨@Tryd.size106, ⟨@Tryd.agg106, @Tryd.bytes106⟩⟩, ⟨⟨@Tryd.basic106, @Tryd.zero106⟩, ⟨@Tryd.size107, @Tryd.agg107⟩⟩⟩, ⟨⟨@Tryd.bytes107, ⟨@Tryd.basic107, @Tryd.zero107⟩⟩, ⟨⟨@Tryd.size108, @Tryd.agg108⟩, ⟨@Tryd.bytes108, @Tryd.basic108⟩⟩⟩⟩, ⟨⟨⟨@Tryd.zero108, ⟨@Tryd.size109, @Tryd.agg109⟩⟩, ⟨⟨@Tryd.bytes109, @Tryd.basic109⟩, ⟨@Tryd.zero109, @Tryd.size110⟩⟩⟩, ⟨⟨⟨@Tryd.agg110, @Tryd.bytes110⟩, ⟨@Tryd.basic110, @Tryd.zero110⟩⟩, ⟨⟨@Tryd.size111, @Tryd.agg111⟩, ⟨@Tryd.bytes111, @Tryd.basic111⟩⟩⟩⟩⟩⟩⟩, ⟨⟨⟨⟨⟨⟨@Tryd.zero111, ⟨@Tryd.size112, @Tryd.agg112⟩⟩, ⟨⟨@Tryd.bytes112, @Tryd.basic112⟩, ⟨@Tryd.zero112, @Tryd.size113⟩⟩⟩, ⟨⟨@Tryd.agg113, ⟨@Tryd.bytes113, @Tryd.basic113⟩⟩, ⟨⟨@Tryd.zero113, @Tryd.size114⟩, ⟨@Tryd.agg114, @Tryd.bytes114⟩⟩⟩⟩, ⟨⟨⟨@Tryd.basic114, ⟨@Tryd.zero114, @Tryd.size115⟩⟩, ⟨⟨@Tryd.agg115, @Tryd.bytes115⟩, ⟨@Tryd.basic115, @Tryd.slice115⟩⟩⟩, ⟨⟨@Tryd.src115, ⟨@Tryd.zero115, @Tryd.size116⟩⟩, ⟨⟨@Tryd.agg116, @Tryd.bytes116⟩, ⟨@Tryd.basic116, @Tryd.zero116⟩⟩⟩⟩⟩, ⟨⟨⟨⟨@Tryd.size118, ⟨@Tryd.agg118, @Tryd.bytes118⟩⟩, ⟨⟨@Tryd.basic118, @Tryd.zero118⟩, ⟨@Tryd.size119, @Tryd.agg119⟩⟩⟩, ⟨⟨@Tryd.bytes119, ⟨@Tryd.basic119, @Tryd.zero119⟩⟩, ⟨⟨@Tryd.size120, @Tryd.agg120⟩, ⟨@Tryd.bytes120, @Tryd.basic120⟩⟩⟩⟩, ⟨⟨⟨@Tryd.zero120, ⟨@Tryd.size122, @Tryd.agg122⟩⟩, ⟨⟨@Tryd.bytes122, @Tryd.basic122⟩, ⟨@Tryd.zero122, @Tryd.size123⟩⟩⟩, ⟨⟨⟨@Tryd.agg123, @Tryd.bytes123⟩, ⟨@Tryd.basic123, @Tryd.zero123⟩⟩, ⟨⟨@Tryd.size124, @Tryd.agg124⟩, ⟨@Tryd.bytes124, @Tryd.basic124⟩⟩⟩⟩⟩⟩, ⟨⟨⟨⟨⟨@Tryd.zero124, ⟨@Tryd.size125, @Tryd.agg125⟩⟩, ⟨⟨@Tryd.bytes125, @Tryd.basic125⟩, ⟨@Tryd.zero125, @Tryd.size126⟩⟩⟩, ⟨⟨@Tryd.agg126, ⟨@Tryd.bytes126, @Tryd.basic126⟩⟩, ⟨⟨@Tryd.field126_0, @Tryd.field126_1⟩, ⟨@Tryd.places126, @Tryd.eq126⟩⟩⟩⟩, ⟨⟨⟨@Tryd.zero126, ⟨@Tryd.size127, @Tryd.agg127⟩⟩, ⟨⟨@Tryd.bytes127, @Tryd.basic127⟩, ⟨@Tryd.field127_0, @Tryd.field127_1⟩⟩⟩, ⟨⟨⟨@Tryd.places127, @Tryd.eq127⟩, ⟨@Tryd.zero127, @Tryd.size129⟩⟩, ⟨⟨@Tryd.agg129, @Tryd.bytes129⟩, ⟨@Tryd.basic129, @Tryd.zero129⟩⟩⟩⟩⟩, ⟨⟨⟨⟨@Tryd.size131, ⟨@Tryd.agg131, @Tryd.bytes131⟩⟩, ⟨⟨@Tryd.basic131, @Tryd.zero131⟩, ⟨@Tryd.size132, @Tryd.agg132⟩⟩⟩, ⟨⟨@Tryd.bytes132, ⟨@Tryd.basic132, @Tryd.arr132⟩⟩, ⟨⟨@Tryd.places132, @Tryd.eq132⟩, ⟨@Tryd.zero132, @Tryd.size133⟩⟩⟩⟩, ⟨⟨⟨@Tryd.agg133, ⟨@Tryd.bytes133, @Tryd.basic133⟩⟩, ⟨⟨@Tryd.arr133, @Tryd.places133⟩, ⟨@Tryd.eq133, @Tryd.zero133⟩⟩⟩, ⟨⟨⟨@Tryd.size134, @Tryd.agg134⟩, ⟨@Tryd.bytes134, @Tryd.basic134⟩⟩, ⟨⟨@Tryd.zero134, @Tryd.size136⟩, ⟨@Tryd.agg136, @Tryd.bytes136⟩⟩⟩⟩⟩⟩⟩⟩, ⟨⟨⟨⟨⟨⟨⟨@Tryd.basic136, ⟨@Tryd.zero136, @Tryd.size137⟩⟩, ⟨⟨@Tryd.agg137, @Tryd.bytes137⟩, ⟨@Tryd.basic137, @Tryd.zero137⟩⟩⟩, ⟨⟨@Tryd.size138, ⟨@Tryd.agg138, @Tryd.bytes138⟩⟩, ⟨⟨@Tryd.basic138, @Tryd.zero138⟩, ⟨@Tryd.size140, @Tryd.agg140⟩⟩⟩⟩, ⟨⟨⟨@Tryd.bytes140, ⟨@Tryd.basic140, @Tryd.zero140⟩⟩, ⟨⟨@Tryd.size141, @Tryd.agg141⟩, ⟨@Tryd.bytes141, @Tryd.basic141⟩⟩⟩, ⟨⟨@Tryd.zero141, ⟨@Tryd.size142, @Tryd.agg142⟩⟩, ⟨⟨@Tryd.bytes142, @Tryd.basic142⟩, ⟨@Tryd.zero142, @Tryd.size143⟩⟩⟩⟩⟩, ⟨⟨⟨⟨@Tryd.agg143, ⟨@Tryd.bytes143, @Tryd.basic143⟩⟩, ⟨⟨@Tryd.zero143, @Tryd.size144⟩, ⟨@Tryd.agg144, @Tryd.bytes144⟩⟩⟩, ⟨⟨@Tryd.basic144, ⟨@Tryd.zero144, @Tryd.size145⟩⟩, ⟨⟨@Tryd.agg145, @Tryd.bytes145⟩, ⟨@Tryd.basic145, @Tryd.arr145⟩⟩⟩⟩, ⟨⟨⟨@Tryd.places145, ⟨@Tryd.eq145, @Tryd.zero145⟩⟩, ⟨⟨@Tryd.size146, @Tryd.agg146⟩, ⟨@Tryd.bytes146, @Tryd.basic146⟩⟩⟩, ⟨⟨⟨@Tryd.zero146, @Tryd.size147⟩, ⟨@Tryd.agg147, @Tryd.bytes147⟩⟩, ⟨⟨@Tryd.basic147, @Tryd.zero147⟩, ⟨@Tryd.size149, @Tryd.agg149⟩⟩⟩⟩⟩⟩, ⟨⟨⟨⟨⟨@Tryd.bytes149, ⟨@Tryd.basic149, @Tryd.zero149⟩⟩, ⟨⟨@Tryd.size150, @Tryd.agg150⟩, ⟨@Tryd.bytes150, @Tryd.basic150⟩⟩⟩, ⟨⟨@Tryd.arr150, ⟨@Tryd.places150, @Tryd.eq150⟩⟩, ⟨⟨@Tryd.size151, @Tryd.agg151⟩, ⟨@Tryd.bytes151, @Tryd.basic151⟩⟩⟩⟩, ⟨⟨⟨@Tryd.zero151, ⟨@Tryd.size152, @Tryd.agg152⟩⟩, ⟨⟨@Tryd.bytes152, @Tryd.basic152⟩, ⟨@Tryd.field152_0, @Tryd.field152_1⟩⟩⟩, ⟨⟨@Tryd.places152, ⟨@Tryd.eq152, @Tryd.zero152⟩⟩, ⟨⟨@Tryd.size153, @Tryd.agg153⟩, ⟨@Tryd.bytes153, @Tryd.basic153⟩⟩⟩⟩⟩, ⟨⟨⟨⟨@Tryd.field153_0, ⟨@Tryd.field153_1, @Tryd.places153⟩⟩, ⟨⟨@Tryd.eq153, @Tryd.zero153⟩, ⟨@Tryd.size154, @Tryd.agg154⟩⟩⟩, ⟨⟨@Tryd.bytes154, ⟨@Tryd.basic154, @Tryd.arr154⟩⟩, ⟨⟨@Tryd.places154, @Tryd.eq154⟩, ⟨@Tryd.zero154, @Tryd.size155⟩⟩⟩⟩, ⟨⟨⟨@Tryd.agg155, ⟨@Tryd.bytes155, @Tryd.basic155⟩⟩, ⟨⟨@Tryd.zero155, @Tryd.size156⟩, ⟨@Tryd.agg156, @Tryd.bytes156⟩⟩⟩, ⟨⟨⟨@Tryd.basic156, @Tryd.zero156⟩, ⟨@Tryd.size157, @Tryd.agg157⟩⟩, ⟨⟨@Tryd.bytes157, @Tryd.basic157⟩, ⟨@Tryd.zero157, @Tryd.size159⟩⟩⟩⟩⟩⟩⟩, ⟨⟨⟨⟨⟨⟨@Tryd.agg159, ⟨@Tryd.bytes159, @Tryd.basic159⟩⟩, ⟨⟨@Tryd.zero159, @Tryd.size160⟩, ⟨@Tryd.agg160, @Tryd.bytes160⟩⟩⟩, ⟨⟨@Tryd.basic160, ⟨@Tryd.arr160, @Tryd.places160⟩⟩, ⟨⟨@Tryd.eq160, @Tryd.zero160⟩, ⟨@Tryd.size161, @Tryd.agg161⟩⟩⟩⟩, ⟨⟨⟨@Tryd.bytes161, ⟨@Tryd.basic161, @Tryd.zero161⟩⟩, ⟨⟨@Tryd.size162, @Tryd.agg162⟩, ⟨@Tryd.bytes162, @Tryd.basic162⟩⟩⟩, ⟨⟨@Tryd.arr162, ⟨@Tryd.places162, @Tryd.eq162⟩⟩, ⟨⟨@Tryd.size163, @Tryd.agg163⟩, ⟨@Tryd.bytes163, @Tryd.basic163⟩⟩⟩⟩⟩, ⟨⟨⟨⟨@Tryd.zero163, ⟨@Tryd.size165, @Tryd.agg165⟩⟩, ⟨⟨@Tryd.bytes165, @Tryd.basic165⟩, ⟨@Tryd.zero165, @Tryd.size166⟩⟩⟩, ⟨⟨@Tryd.agg166, ⟨@Tryd.bytes166, @Tryd.basic166⟩⟩, ⟨⟨@Tryd.zero166, @Tryd.size167⟩, ⟨@Tryd.agg167, @Tryd.bytes167⟩⟩⟩⟩, ⟨⟨⟨@Tryd.basic167, ⟨@Tryd.arr167, @Tryd.places167⟩⟩, ⟨⟨@Tryd.eq167, @Tryd.zero167⟩, ⟨@Tryd.size168, @Tryd.agg168⟩⟩⟩, ⟨⟨⟨@Tryd.bytes168, @Tryd.basic168⟩, ⟨@Tryd.arr168, @Tryd.places168⟩⟩, ⟨⟨@Tryd.eq168, @Tryd.zero168⟩, ⟨@Tryd.size169, @Tryd.agg169⟩⟩⟩⟩⟩⟩, ⟨⟨⟨⟨⟨@Tryd.bytes169, ⟨@Tryd.basic169, @Tryd.field169_0⟩⟩, ⟨⟨@Tryd.field169_1, @Tryd.field169_2⟩, ⟨@Tryd.field169_3, @Tryd.places169⟩⟩⟩, ⟨⟨@Tryd.zero169, ⟨@Tryd.size171, @Tryd.agg171⟩⟩, ⟨⟨@Tryd.bytes171, @Tryd.basic171⟩, ⟨@Tryd.arr171, @Tryd.places171⟩⟩⟩⟩, ⟨⟨⟨@Tryd.zero171, ⟨@Tryd.size172, @Tryd.agg172⟩⟩, ⟨⟨@Tryd.bytes172, @Tryd.basic172⟩, ⟨@Tryd.field172_0, @Tryd.places172⟩⟩⟩, ⟨⟨⟨@Tryd.zero172, @Tryd.size176⟩, ⟨@Tryd.agg176, @Tryd.bytes176⟩⟩, ⟨⟨@Tryd.basic176, @Tryd.zero176⟩, ⟨@Tryd.size179, @Tryd.agg179⟩⟩⟩⟩⟩, ⟨⟨⟨⟨@Tryd.bytes179, ⟨@Tryd.basic179, @Tryd.field179_0⟩⟩, ⟨⟨@Tryd.field179_1, @Tryd.field179_2⟩, ⟨@Tryd.field179_3, @Tryd.field179_4⟩⟩⟩, ⟨⟨@Tryd.field179_5, ⟨@Tryd.field179_6, @Tryd.field179_7⟩⟩, ⟨⟨@Tryd.field179_8, @Tryd.field179_9⟩, ⟨@Tryd.field179_10, @Tryd.places179⟩⟩⟩⟩, ⟨⟨⟨@Tryd.zero179, ⟨@Tryd.go4, @Tryd.go14⟩⟩, ⟨⟨@Tryd.go18, @Tryd.go21⟩, ⟨@Tryd.go25, @Tryd.go26⟩⟩⟩, ⟨⟨⟨@Tryd.go29, @Tryd.go30⟩, ⟨@Tryd.go31, @Tryd.go33⟩⟩, ⟨⟨@Tryd.go34, @Tryd.go42⟩, ⟨@Tryd.go45, @Tryd.go47⟩⟩⟩⟩⟩⟩⟩⟩⟩⟩
end Go.Proofs
