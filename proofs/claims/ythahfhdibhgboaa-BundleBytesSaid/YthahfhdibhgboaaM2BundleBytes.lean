/- Texts of the proof, one behind the other (IRE, Wire, Read, Same, Heads, Lays, Spoil, LaysR, RefL, RefR, Reads, ReadsR, Thing, May, Ent1, Ent2, Ent3, List, Ent4, SameE, SameF, SpoilE, Own, SpoilR, Makes). -/
import Derived.Test.YthahfhdibhgboaaM1BundleBytes
/- Functions of the program in the form that the deterministic machine runs. -/
set_option maxRecDepth 100000
namespace Go.Det
open Go.Proofs
def l40_1 : IC := IC.seq (IC.seq (IC.region [{ dst := some 6, op := IOp.mv (IX.t 4), guard := none }, { dst := some 7, op := IOp.fa 1 (IX.t 1), guard := none }, { dst := some 8, op := IOp.ld none (IX.t 7), guard := none }, { dst := some 9, op := IOp.len false (IX.t 8), guard := none }, { dst := some 10, op := IOp.bin (BinOp.lss) (IX.t 6) (IX.t 9), guard := none }]) (IC.cond (IX.t 10) (IC.skip) (IC.exit 0))) (IC.seq (IC.block 1 (IC.seq (IC.region [{ dst := some 5, op := IOp.mv (IX.c (AV.nils)), guard := none }]) (IC.region [{ dst := some 13, op := IOp.mv (IX.t 3), guard := none }, { dst := some 14, op := IOp.mv (IX.t 5), guard := none }, { dst := some 15, op := IOp.fa 1 (IX.t 1), guard := none }, { dst := some 16, op := IOp.ld none (IX.t 15), guard := none }, { dst := some 17, op := IOp.mv (IX.t 4), guard := none }, { dst := some 18, op := IOp.ia 1 (IX.t 16) (IX.t 17), guard := none }, { dst := some 19, op := IOp.ld none (IX.t 18), guard := none }, { dst := some 20, op := IOp.app 5 1 1 false (IX.t 14) (IX.t 19), guard := none }, { dst := some 21, op := IOp.bsl 22 [AV.nils] 1 [(0, 1, IX.t 20)], guard := none }, { dst := some 22, op := IOp.app 22 1 24 false (IX.t 13) (IX.t 21), guard := none }, { dst := some 3, op := IOp.mv (IX.t 22), guard := none }]))) (IC.region [{ dst := some 11, op := IOp.mv (IX.t 4), guard := none }, { dst := some 12, op := IOp.bin (BinOp.add) (IX.t 11) (IX.c (AV.int (IntKind.i64) 1)), guard := none }, { dst := some 4, op := IOp.mv (IX.t 12), guard := none }]))
/-- escritoire/escritoireref05.Own params 1 -/
def ir40 : IFunc := { ntmps := 27, results := [(2, some (some 2))], body := IC.seq (IC.region [{ dst := some 1, op := IOp.new 70 (IX.t 0), guard := none }, { dst := some 2, op := IOp.new 70 (IX.c (AV.agg [AV.int (IntKind.u64) 0, AV.nils])), guard := none }]) (IC.seq (IC.region [{ dst := some 3, op := IOp.mv (IX.c (AV.nils)), guard := none }]) (IC.seq (IC.seq (IC.region [{ dst := some 4, op := IOp.mv (IX.c (AV.int (IntKind.i64) 0)), guard := none }]) (IC.block 0 (IC.loop l40_1))) (IC.seq (IC.region [{ dst := some 23, op := IOp.fa 0 (IX.t 1), guard := none }, { dst := some 24, op := IOp.ld none (IX.t 23), guard := none }, { dst := some 25, op := IOp.mv (IX.t 3), guard := none }, { dst := some 26, op := IOp.build [AV.int (IntKind.u64) 0, AV.nils] [(0, 1, IX.t 24), (1, 1, IX.t 25)], guard := none }, { dst := none, op := IOp.st 2 (IX.t 2) (IX.t 26), guard := none }]) (IC.ret)))), known := false } 
theorem f40 : TF 40 = some ir40 := by kernel_rfl
/-- escritoire/entry.Record params 1 -/
def ir44 : IFunc := { ntmps := 14, results := [(2, none), (3, none)], body := IC.seq (IC.region [{ dst := some 1, op := IOp.new 70 (IX.t 0), guard := none }, { dst := some 2, op := IOp.mv (IX.c (AV.nils)), guard := none }, { dst := some 3, op := IOp.mv (IX.c (AV.int (IntKind.i64) 0)), guard := none }]) (IC.seq (IC.seq (IC.region [{ dst := some 4, op := IOp.ld (some 2) (IX.t 1), guard := none }, { dst := some 5, op := IOp.call 49 [IX.t 4], guard := none }, { dst := some 6, op := IOp.un (UnOp.not) (IX.t 5), guard := none }]) (IC.cond (IX.t 6) (IC.seq (IC.region [{ dst := some 2, op := IOp.mv (IX.c (AV.nils)), guard := none }, { dst := some 3, op := IOp.mv (IX.c (AV.int (IntKind.i64) 1)), guard := none }]) (IC.ret)) (IC.skip))) (IC.seq (IC.draw [{ toIOper := { dst := some 7, op := IOp.fa 0 (IX.t 1), guard := none }, act := false, id := 0, mask := 0 }, { toIOper := { dst := some 8, op := IOp.ld none (IX.t 7), guard := none }, act := false, id := 1, mask := 1 }, { toIOper := { dst := some 10, op := IOp.fa 1 (IX.t 1), guard := none }, act := false, id := 3, mask := 0 }, { toIOper := { dst := some 11, op := IOp.ld none (IX.t 10), guard := none }, act := false, id := 4, mask := 8 }, { toIOper := { dst := some 9, op := IOp.call 76 [IX.c (AV.nils), IX.t 8, IX.c (AV.int (IntKind.i64) 8)], guard := none }, act := true, id := 2, mask := 3 }, { toIOper := { dst := some 12, op := IOp.call 80 [IX.t 11], guard := none }, act := true, id := 5, mask := 31 }, { toIOper := { dst := some 13, op := IOp.app 5 1 1 false (IX.t 9) (IX.t 12), guard := none }, act := true, id := 6, mask := 63 }, { toIOper := { dst := some 2, op := IOp.mv (IX.t 13), guard := none }, act := false, id := 7, mask := 127 }, { toIOper := { dst := some 3, op := IOp.mv (IX.c (AV.int (IntKind.i64) 0)), guard := none }, act := false, id := 8, mask := 255 }]) (IC.ret))), known := false } 
theorem f44 : TF 44 = some ir44 := by kernel_rfl
/-- escritoire/escritoireref05.Record params 1 -/
def ir45 : IFunc := { ntmps := 14, results := [(2, none), (3, none)], body := IC.seq (IC.region [{ dst := some 1, op := IOp.new 70 (IX.t 0), guard := none }, { dst := some 2, op := IOp.mv (IX.c (AV.nils)), guard := none }, { dst := some 3, op := IOp.mv (IX.c (AV.int (IntKind.i64) 0)), guard := none }]) (IC.seq (IC.seq (IC.region [{ dst := some 4, op := IOp.ld (some 2) (IX.t 1), guard := none }, { dst := some 5, op := IOp.call 50 [IX.t 4], guard := none }, { dst := some 6, op := IOp.un (UnOp.not) (IX.t 5), guard := none }]) (IC.cond (IX.t 6) (IC.seq (IC.region [{ dst := some 2, op := IOp.mv (IX.c (AV.nils)), guard := none }, { dst := some 3, op := IOp.mv (IX.c (AV.int (IntKind.i64) 1)), guard := none }]) (IC.ret)) (IC.skip))) (IC.seq (IC.draw [{ toIOper := { dst := some 7, op := IOp.fa 0 (IX.t 1), guard := none }, act := false, id := 0, mask := 0 }, { toIOper := { dst := some 8, op := IOp.ld none (IX.t 7), guard := none }, act := false, id := 1, mask := 1 }, { toIOper := { dst := some 10, op := IOp.fa 1 (IX.t 1), guard := none }, act := false, id := 3, mask := 0 }, { toIOper := { dst := some 11, op := IOp.ld none (IX.t 10), guard := none }, act := false, id := 4, mask := 8 }, { toIOper := { dst := some 9, op := IOp.call 77 [IX.t 8, IX.c (AV.int (IntKind.i64) 8)], guard := none }, act := true, id := 2, mask := 3 }, { toIOper := { dst := some 12, op := IOp.call 81 [IX.t 11], guard := none }, act := true, id := 5, mask := 31 }, { toIOper := { dst := some 13, op := IOp.app 5 1 1 false (IX.t 9) (IX.t 12), guard := none }, act := true, id := 6, mask := 63 }, { toIOper := { dst := some 2, op := IOp.mv (IX.t 13), guard := none }, act := false, id := 7, mask := 127 }, { toIOper := { dst := some 3, op := IOp.mv (IX.c (AV.int (IntKind.i64) 0)), guard := none }, act := false, id := 8, mask := 255 }]) (IC.ret))), known := false } 
theorem f45 : TF 45 = some ir45 := by kernel_rfl
def l49_1 : IC := IC.seq (IC.region [{ dst := some 19, op := IOp.bin (BinOp.lss) (IX.t 18) (IX.t 17), guard := none }]) (IC.seq (IC.cond (IX.t 19) (IC.skip) (IC.exit 0)) (IC.seq (IC.block 1 (IC.seq (IC.region [{ dst := some 20, op := IOp.ia 1 (IX.t 16) (IX.t 18), guard := none }, { dst := some 21, op := IOp.ld none (IX.t 20), guard := none }, { dst := some 4, op := IOp.mv (IX.t 21), guard := none }]) (IC.seq (IC.region [{ dst := some 22, op := IOp.mv (IX.t 4), guard := none }, { dst := some 23, op := IOp.len false (IX.t 22), guard := none }, { dst := some 24, op := IOp.bin (BinOp.lss) (IX.t 23) (IX.c (AV.int (IntKind.i64) 1)), guard := none }, { dst := some 25, op := IOp.mv (IX.t 24), guard := none }, { dst := some 26, op := IOp.mv (IX.t 4), guard := some (25, false) }, { dst := some 27, op := IOp.len false (IX.t 26), guard := some (25, false) }, { dst := some 28, op := IOp.bin (BinOp.gtr) (IX.t 27) (IX.c (AV.int (IntKind.i64) 512)), guard := some (25, false) }, { dst := some 29, op := IOp.pick (IX.t 25) (IX.c (AV.bool true)) (IX.t 28), guard := none }]) (IC.cond (IX.t 29) (IC.seq (IC.region [{ dst := some 2, op := IOp.mv (IX.c (AV.bool false)), guard := none }]) (IC.ret)) (IC.skip))))) (IC.region [{ dst := some 30, op := IOp.bin (BinOp.add) (IX.t 18) (IX.c (AV.int (IntKind.i64) 1)), guard := none }, { dst := some 18, op := IOp.mv (IX.t 30), guard := none }])))
/-- escritoire/entry.May params 1 -/
def ir49 : IFunc := { ntmps := 31, results := [(2, none)], body := IC.seq (IC.region [{ dst := some 1, op := IOp.new 70 (IX.t 0), guard := none }, { dst := some 2, op := IOp.mv (IX.c (AV.bool false)), guard := none }]) (IC.seq (IC.seq (IC.region [{ dst := some 5, op := IOp.fa 1 (IX.t 1), guard := none }, { dst := some 6, op := IOp.ld none (IX.t 5), guard := none }, { dst := some 7, op := IOp.len false (IX.t 6), guard := none }, { dst := some 8, op := IOp.bin (BinOp.lss) (IX.t 7) (IX.c (AV.int (IntKind.i64) 1)), guard := none }, { dst := some 9, op := IOp.mv (IX.t 8), guard := none }, { dst := some 10, op := IOp.fa 1 (IX.t 1), guard := some (9, false) }, { dst := some 11, op := IOp.ld none (IX.t 10), guard := some (9, false) }, { dst := some 12, op := IOp.len false (IX.t 11), guard := some (9, false) }, { dst := some 13, op := IOp.bin (BinOp.gtr) (IX.t 12) (IX.c (AV.int (IntKind.i64) 4)), guard := some (9, false) }, { dst := some 14, op := IOp.pick (IX.t 9) (IX.c (AV.bool true)) (IX.t 13), guard := none }]) (IC.cond (IX.t 14) (IC.seq (IC.region [{ dst := some 2, op := IOp.mv (IX.c (AV.bool false)), guard := none }]) (IC.ret)) (IC.skip))) (IC.seq (IC.seq (IC.region [{ dst := some 15, op := IOp.fa 1 (IX.t 1), guard := none }, { dst := some 16, op := IOp.ld none (IX.t 15), guard := none }, { dst := some 17, op := IOp.len false (IX.t 16), guard := none }, { dst := some 18, op := IOp.mv (IX.c (AV.int (IntKind.i64) 0)), guard := none }]) (IC.block 0 (IC.loop l49_1))) (IC.seq (IC.region [{ dst := some 2, op := IOp.mv (IX.c (AV.bool true)), guard := none }]) (IC.ret)))), known := false } 
theorem f49 : TF 49 = some ir49 := by kernel_rfl
def l50_1 : IC := IC.seq (IC.seq (IC.region [{ dst := some 15, op := IOp.mv (IX.t 4), guard := none }, { dst := some 16, op := IOp.fa 1 (IX.t 1), guard := none }, { dst := some 17, op := IOp.ld none (IX.t 16), guard := none }, { dst := some 18, op := IOp.len false (IX.t 17), guard := none }, { dst := some 19, op := IOp.bin (BinOp.lss) (IX.t 15) (IX.t 18), guard := none }]) (IC.cond (IX.t 19) (IC.skip) (IC.exit 0))) (IC.seq (IC.block 1 (IC.seq (IC.region [{ dst := some 22, op := IOp.fa 1 (IX.t 1), guard := none }, { dst := some 23, op := IOp.ld none (IX.t 22), guard := none }, { dst := some 24, op := IOp.mv (IX.t 4), guard := none }, { dst := some 25, op := IOp.ia 1 (IX.t 23) (IX.t 24), guard := none }, { dst := some 26, op := IOp.ld none (IX.t 25), guard := none }, { dst := some 27, op := IOp.len false (IX.t 26), guard := none }, { dst := some 28, op := IOp.bin (BinOp.eql) (IX.t 27) (IX.c (AV.int (IntKind.i64) 0)), guard := none }, { dst := some 29, op := IOp.mv (IX.t 28), guard := none }, { dst := some 30, op := IOp.fa 1 (IX.t 1), guard := some (29, false) }, { dst := some 31, op := IOp.ld none (IX.t 30), guard := some (29, false) }, { dst := some 32, op := IOp.mv (IX.t 4), guard := some (29, false) }, { dst := some 33, op := IOp.ia 1 (IX.t 31) (IX.t 32), guard := some (29, false) }, { dst := some 34, op := IOp.ld none (IX.t 33), guard := some (29, false) }, { dst := some 35, op := IOp.len false (IX.t 34), guard := some (29, false) }, { dst := some 36, op := IOp.bin (BinOp.gtr) (IX.t 35) (IX.c (AV.int (IntKind.i64) 512)), guard := some (29, false) }, { dst := some 37, op := IOp.pick (IX.t 29) (IX.c (AV.bool true)) (IX.t 36), guard := none }]) (IC.cond (IX.t 37) (IC.region [{ dst := some 3, op := IOp.mv (IX.c (AV.bool false)), guard := none }]) (IC.skip)))) (IC.region [{ dst := some 20, op := IOp.mv (IX.t 4), guard := none }, { dst := some 21, op := IOp.bin (BinOp.add) (IX.t 20) (IX.c (AV.int (IntKind.i64) 1)), guard := none }, { dst := some 4, op := IOp.mv (IX.t 21), guard := none }]))
/-- escritoire/escritoireref05.May params 1 -/
def ir50 : IFunc := { ntmps := 39, results := [(2, none)], body := IC.seq (IC.region [{ dst := some 1, op := IOp.new 70 (IX.t 0), guard := none }, { dst := some 2, op := IOp.mv (IX.c (AV.bool false)), guard := none }]) (IC.seq (IC.region [{ dst := some 5, op := IOp.fa 1 (IX.t 1), guard := none }, { dst := some 6, op := IOp.ld none (IX.t 5), guard := none }, { dst := some 7, op := IOp.len false (IX.t 6), guard := none }, { dst := some 8, op := IOp.bin (BinOp.gtr) (IX.t 7) (IX.c (AV.int (IntKind.i64) 0)), guard := none }, { dst := some 9, op := IOp.mv (IX.t 8), guard := none }, { dst := some 10, op := IOp.fa 1 (IX.t 1), guard := some (9, true) }, { dst := some 11, op := IOp.ld none (IX.t 10), guard := some (9, true) }, { dst := some 12, op := IOp.len false (IX.t 11), guard := some (9, true) }, { dst := some 13, op := IOp.bin (BinOp.lss) (IX.t 12) (IX.c (AV.int (IntKind.i64) 5)), guard := some (9, true) }, { dst := some 14, op := IOp.pick (IX.t 9) (IX.t 13) (IX.c (AV.bool false)), guard := none }, { dst := some 3, op := IOp.mv (IX.t 14), guard := none }]) (IC.seq (IC.seq (IC.region [{ dst := some 4, op := IOp.mv (IX.c (AV.int (IntKind.i64) 0)), guard := none }]) (IC.block 0 (IC.loop l50_1))) (IC.seq (IC.region [{ dst := some 38, op := IOp.mv (IX.t 3), guard := none }, { dst := some 2, op := IOp.mv (IX.t 38), guard := none }]) (IC.ret)))), known := false } 
theorem f50 : TF 50 = some ir50 := by kernel_rfl
def l52_1 : IC := IC.seq (IC.seq (IC.region [{ dst := some 20, op := IOp.mv (IX.t 5), guard := none }, { dst := some 21, op := IOp.fa 1 (IX.t 2), guard := none }, { dst := some 22, op := IOp.ld none (IX.t 21), guard := none }, { dst := some 23, op := IOp.len false (IX.t 22), guard := none }, { dst := some 24, op := IOp.bin (BinOp.lss) (IX.t 20) (IX.t 23), guard := none }]) (IC.cond (IX.t 24) (IC.skip) (IC.exit 0))) (IC.seq (IC.block 1 (IC.seq (IC.draw [{ toIOper := { dst := some 27, op := IOp.fa 1 (IX.t 2), guard := none }, act := false, id := 0, mask := 0 }, { toIOper := { dst := some 28, op := IOp.ld none (IX.t 27), guard := none }, act := false, id := 1, mask := 1 }, { toIOper := { dst := some 29, op := IOp.mv (IX.t 5), guard := none }, act := false, id := 2, mask := 0 }, { toIOper := { dst := some 30, op := IOp.ia 1 (IX.t 28) (IX.t 29), guard := none }, act := false, id := 3, mask := 7 }, { toIOper := { dst := some 31, op := IOp.ld none (IX.t 30), guard := none }, act := false, id := 4, mask := 15 }, { toIOper := { dst := some 32, op := IOp.cvBS (IX.t 31), guard := none }, act := false, id := 5, mask := 31 }, { toIOper := { dst := some 33, op := IOp.fa 1 (IX.t 3), guard := none }, act := false, id := 6, mask := 0 }, { toIOper := { dst := some 34, op := IOp.ld none (IX.t 33), guard := none }, act := false, id := 7, mask := 64 }, { toIOper := { dst := some 35, op := IOp.mv (IX.t 5), guard := none }, act := false, id := 8, mask := 0 }, { toIOper := { dst := some 36, op := IOp.ia 1 (IX.t 34) (IX.t 35), guard := none }, act := false, id := 9, mask := 448 }, { toIOper := { dst := some 37, op := IOp.ld none (IX.t 36), guard := none }, act := false, id := 10, mask := 960 }, { toIOper := { dst := some 38, op := IOp.cvBS (IX.t 37), guard := none }, act := false, id := 11, mask := 1984 }, { toIOper := { dst := some 39, op := IOp.bin (BinOp.neq) (IX.t 32) (IX.t 38), guard := none }, act := false, id := 12, mask := 4095 }]) (IC.cond (IX.t 39) (IC.seq (IC.region [{ dst := some 4, op := IOp.mv (IX.c (AV.bool false)), guard := none }]) (IC.ret)) (IC.skip)))) (IC.region [{ dst := some 25, op := IOp.mv (IX.t 5), guard := none }, { dst := some 26, op := IOp.bin (BinOp.add) (IX.t 25) (IX.c (AV.int (IntKind.i64) 1)), guard := none }, { dst := some 5, op := IOp.mv (IX.t 26), guard := none }]))
/-- escritoire/escritoireref05.Same params 2 -/
def ir52 : IFunc := { ntmps := 40, results := [(4, none)], body := IC.seq (IC.region [{ dst := some 2, op := IOp.new 70 (IX.t 0), guard := none }, { dst := some 3, op := IOp.new 70 (IX.t 1), guard := none }, { dst := some 4, op := IOp.mv (IX.c (AV.bool false)), guard := none }]) (IC.seq (IC.seq (IC.region [{ dst := some 6, op := IOp.fa 0 (IX.t 2), guard := none }, { dst := some 7, op := IOp.ld none (IX.t 6), guard := none }, { dst := some 8, op := IOp.fa 0 (IX.t 3), guard := none }, { dst := some 9, op := IOp.ld none (IX.t 8), guard := none }, { dst := some 10, op := IOp.bin (BinOp.neq) (IX.t 7) (IX.t 9), guard := none }, { dst := some 11, op := IOp.mv (IX.t 10), guard := none }, { dst := some 12, op := IOp.fa 1 (IX.t 2), guard := some (11, false) }, { dst := some 13, op := IOp.ld none (IX.t 12), guard := some (11, false) }, { dst := some 14, op := IOp.len false (IX.t 13), guard := some (11, false) }, { dst := some 15, op := IOp.fa 1 (IX.t 3), guard := some (11, false) }, { dst := some 16, op := IOp.ld none (IX.t 15), guard := some (11, false) }, { dst := some 17, op := IOp.len false (IX.t 16), guard := some (11, false) }, { dst := some 18, op := IOp.bin (BinOp.neq) (IX.t 14) (IX.t 17), guard := some (11, false) }, { dst := some 19, op := IOp.pick (IX.t 11) (IX.c (AV.bool true)) (IX.t 18), guard := none }]) (IC.cond (IX.t 19) (IC.seq (IC.region [{ dst := some 4, op := IOp.mv (IX.c (AV.bool false)), guard := none }]) (IC.ret)) (IC.skip))) (IC.seq (IC.seq (IC.region [{ dst := some 5, op := IOp.mv (IX.c (AV.int (IntKind.i64) 0)), guard := none }]) (IC.block 0 (IC.loop l52_1))) (IC.seq (IC.region [{ dst := some 4, op := IOp.mv (IX.c (AV.bool true)), guard := none }]) (IC.ret)))), known := false } 
theorem f52 : TF 52 = some ir52 := by kernel_rfl
/-- escritoire/entry.TakeRecord params 1 -/
def ir54 : IFunc := { ntmps := 41, results := [(2, some (some 2)), (3, none)], body := IC.seq (IC.region [{ dst := some 2, op := IOp.new 70 (IX.c (AV.agg [AV.int (IntKind.u64) 0, AV.nils])), guard := none }, { dst := some 3, op := IOp.mv (IX.c (AV.int (IntKind.i64) 0)), guard := none }]) (IC.seq (IC.region [{ dst := some 9, op := IOp.mv (IX.t 0), guard := none }, { dst := some 10, op := IOp.call 25 [IX.t 9], guard := none }, { dst := some 4, op := IOp.mv (IX.t 10), guard := none }]) (IC.seq (IC.region [{ dst := some 12, op := IOp.mv (IX.t 4), guard := none }, { dst := some 13, op := IOp.call 27 [IX.t 12, IX.c (AV.int (IntKind.i64) 8)], guard := none }, { dst := some 11, op := IOp.mv (IX.t 13), guard := none }, { dst := some 14, op := IOp.ext (IX.t 11) 0, guard := none }, { dst := some 15, op := IOp.ext (IX.t 11) 1, guard := none }, { dst := some 5, op := IOp.mv (IX.t 14), guard := none }, { dst := some 6, op := IOp.mv (IX.t 15), guard := none }]) (IC.seq (IC.seq (IC.region [{ dst := some 16, op := IOp.mv (IX.t 6), guard := none }, { dst := some 17, op := IOp.bin (BinOp.neq) (IX.t 16) (IX.c (AV.int (IntKind.i64) 0)), guard := none }]) (IC.cond (IX.t 17) (IC.seq (IC.region [{ dst := some 18, op := IOp.build [AV.int (IntKind.u64) 0, AV.nils] [], guard := none }, { dst := none, op := IOp.st 2 (IX.t 2) (IX.t 18), guard := none }, { dst := some 3, op := IOp.mv (IX.c (AV.int (IntKind.i64) 5)), guard := none }]) (IC.ret)) (IC.skip))) (IC.seq (IC.region [{ dst := some 20, op := IOp.mv (IX.t 4), guard := none }, { dst := some 21, op := IOp.call 83 [IX.t 20], guard := none }, { dst := some 19, op := IOp.mv (IX.t 21), guard := none }, { dst := some 22, op := IOp.ext (IX.t 19) 0, guard := none }, { dst := some 23, op := IOp.ext (IX.t 19) 1, guard := none }, { dst := some 7, op := IOp.mv (IX.t 22), guard := none }, { dst := some 6, op := IOp.mv (IX.t 23), guard := none }]) (IC.seq (IC.region [{ dst := some 24, op := IOp.mv (IX.t 5), guard := none }, { dst := some 25, op := IOp.mv (IX.t 7), guard := none }, { dst := some 26, op := IOp.build [AV.int (IntKind.u64) 0, AV.nils] [(0, 1, IX.t 24), (1, 1, IX.t 25)], guard := none }, { dst := some 8, op := IOp.new 70 (IX.c (AV.agg [AV.int (IntKind.u64) 0, AV.nils])), guard := none }, { dst := none, op := IOp.st 2 (IX.t 8) (IX.t 26), guard := none }]) (IC.seq (IC.seq (IC.region [{ dst := some 27, op := IOp.mv (IX.t 6), guard := none }, { dst := some 28, op := IOp.bin (BinOp.neq) (IX.t 27) (IX.c (AV.int (IntKind.i64) 0)), guard := none }, { dst := some 29, op := IOp.mv (IX.t 28), guard := none }, { dst := some 30, op := IOp.mv (IX.t 4), guard := some (29, false) }, { dst := some 31, op := IOp.call 33 [IX.t 30], guard := some (29, false) }, { dst := some 32, op := IOp.bin (BinOp.gtr) (IX.t 31) (IX.c (AV.int (IntKind.i64) 0)), guard := some (29, false) }, { dst := some 33, op := IOp.pick (IX.t 29) (IX.c (AV.bool true)) (IX.t 32), guard := none }, { dst := some 34, op := IOp.mv (IX.t 33), guard := none }, { dst := some 35, op := IOp.ld (some 2) (IX.t 8), guard := some (34, false) }, { dst := some 36, op := IOp.call 49 [IX.t 35], guard := some (34, false) }, { dst := some 37, op := IOp.un (UnOp.not) (IX.t 36), guard := some (34, false) }, { dst := some 38, op := IOp.pick (IX.t 34) (IX.c (AV.bool true)) (IX.t 37), guard := none }]) (IC.cond (IX.t 38) (IC.seq (IC.region [{ dst := some 39, op := IOp.build [AV.int (IntKind.u64) 0, AV.nils] [], guard := none }, { dst := none, op := IOp.st 2 (IX.t 2) (IX.t 39), guard := none }, { dst := some 3, op := IOp.mv (IX.c (AV.int (IntKind.i64) 5)), guard := none }]) (IC.ret)) (IC.skip))) (IC.seq (IC.region [{ dst := some 40, op := IOp.ld (some 2) (IX.t 8), guard := none }, { dst := none, op := IOp.st 2 (IX.t 2) (IX.t 40), guard := none }, { dst := some 3, op := IOp.mv (IX.c (AV.int (IntKind.i64) 0)), guard := none }]) (IC.ret)))))))), known := false } 
theorem f54 : TF 54 = some ir54 := by kernel_rfl
/-- escritoire/escritoireref05.TakeRecord params 1 -/
def ir55 : IFunc := { ntmps := 40, results := [(2, some (some 2)), (3, none)], body := IC.seq (IC.region [{ dst := some 2, op := IOp.new 70 (IX.c (AV.agg [AV.int (IntKind.u64) 0, AV.nils])), guard := none }, { dst := some 3, op := IOp.mv (IX.c (AV.int (IntKind.i64) 0)), guard := none }]) (IC.seq (IC.seq (IC.region [{ dst := some 10, op := IOp.mv (IX.t 0), guard := none }, { dst := some 11, op := IOp.len false (IX.t 10), guard := none }, { dst := some 12, op := IOp.bin (BinOp.lss) (IX.t 11) (IX.c (AV.int (IntKind.i64) 8)), guard := none }]) (IC.cond (IX.t 12) (IC.seq (IC.region [{ dst := some 13, op := IOp.build [AV.int (IntKind.u64) 0, AV.nils] [], guard := none }, { dst := none, op := IOp.st 2 (IX.t 2) (IX.t 13), guard := none }, { dst := some 3, op := IOp.mv (IX.c (AV.int (IntKind.i64) 5)), guard := none }]) (IC.ret)) (IC.skip))) (IC.seq (IC.region [{ dst := some 14, op := IOp.mv (IX.t 0), guard := none }, { dst := some 15, op := IOp.slL 1 (IX.t 14) none (some (IX.c (AV.int (IntKind.i64) 8))) none, guard := none }, { dst := some 16, op := IOp.call 26 [IX.t 15], guard := none }, { dst := some 4, op := IOp.mv (IX.t 16), guard := none }]) (IC.seq (IC.region [{ dst := some 18, op := IOp.mv (IX.t 4), guard := none }, { dst := some 19, op := IOp.call 28 [IX.t 18, IX.c (AV.int (IntKind.i64) 8)], guard := none }, { dst := some 17, op := IOp.mv (IX.t 19), guard := none }, { dst := some 20, op := IOp.ext (IX.t 17) 0, guard := none }, { dst := some 21, op := IOp.ext (IX.t 17) 1, guard := none }, { dst := some 5, op := IOp.mv (IX.t 20), guard := none }, { dst := some 6, op := IOp.mv (IX.t 21), guard := none }]) (IC.seq (IC.region [{ dst := some 23, op := IOp.mv (IX.t 0), guard := none }, { dst := some 24, op := IOp.slL 1 (IX.t 23) (some (IX.c (AV.int (IntKind.i64) 8))) none none, guard := none }, { dst := some 25, op := IOp.call 84 [IX.t 24], guard := none }, { dst := some 22, op := IOp.mv (IX.t 25), guard := none }, { dst := some 26, op := IOp.ext (IX.t 22) 0, guard := none }, { dst := some 27, op := IOp.ext (IX.t 22) 1, guard := none }, { dst := some 7, op := IOp.mv (IX.t 26), guard := none }, { dst := some 8, op := IOp.mv (IX.t 27), guard := none }]) (IC.seq (IC.region [{ dst := some 28, op := IOp.mv (IX.t 5), guard := none }, { dst := some 29, op := IOp.mv (IX.t 7), guard := none }, { dst := some 30, op := IOp.build [AV.int (IntKind.u64) 0, AV.nils] [(0, 1, IX.t 28), (1, 1, IX.t 29)], guard := none }, { dst := some 9, op := IOp.new 70 (IX.c (AV.agg [AV.int (IntKind.u64) 0, AV.nils])), guard := none }, { dst := none, op := IOp.st 2 (IX.t 9) (IX.t 30), guard := none }]) (IC.seq (IC.seq (IC.region [{ dst := some 31, op := IOp.mv (IX.t 8), guard := none }, { dst := some 32, op := IOp.un (UnOp.not) (IX.t 31), guard := none }, { dst := some 33, op := IOp.mv (IX.t 32), guard := none }, { dst := some 34, op := IOp.ld (some 2) (IX.t 9), guard := some (33, false) }, { dst := some 35, op := IOp.call 50 [IX.t 34], guard := some (33, false) }, { dst := some 36, op := IOp.un (UnOp.not) (IX.t 35), guard := some (33, false) }, { dst := some 37, op := IOp.pick (IX.t 33) (IX.c (AV.bool true)) (IX.t 36), guard := none }]) (IC.cond (IX.t 37) (IC.seq (IC.region [{ dst := some 38, op := IOp.build [AV.int (IntKind.u64) 0, AV.nils] [], guard := none }, { dst := none, op := IOp.st 2 (IX.t 2) (IX.t 38), guard := none }, { dst := some 3, op := IOp.mv (IX.c (AV.int (IntKind.i64) 5)), guard := none }]) (IC.ret)) (IC.skip))) (IC.seq (IC.region [{ dst := some 39, op := IOp.ld (some 2) (IX.t 9), guard := none }, { dst := none, op := IOp.st 2 (IX.t 2) (IX.t 39), guard := none }, { dst := some 3, op := IOp.mv (IX.c (AV.int (IntKind.i64) 0)), guard := none }]) (IC.ret)))))))), known := false } 
theorem f55 : TF 55 = some ir55 := by kernel_rfl
/-- escritoire/escritoireref05.vec params 2 -/
def ir79 : IFunc := { ntmps := 14, results := [(4, none)], body := IC.seq (IC.region [{ dst := some 4, op := IOp.mv (IX.c (AV.nils)), guard := none }]) (IC.seq (IC.region [{ dst := some 8, op := IOp.mv (IX.t 0), guard := none }, { dst := some 9, op := IOp.mv (IX.t 1), guard := none }, { dst := some 10, op := IOp.call 22 [IX.c (AV.nils), IX.t 8, IX.t 9], guard := none }, { dst := some 7, op := IOp.mv (IX.t 10), guard := none }, { dst := some 11, op := IOp.ext (IX.t 7) 0, guard := none }, { dst := some 12, op := IOp.ext (IX.t 7) 1, guard := none }, { dst := some 5, op := IOp.mv (IX.t 11), guard := none }, { dst := some 6, op := IOp.mv (IX.t 12), guard := none }]) (IC.seq (IC.region [{ dst := some 13, op := IOp.mv (IX.t 5), guard := none }, { dst := some 4, op := IOp.mv (IX.t 13), guard := none }]) (IC.ret))), known := false } 
theorem f79 : TF 79 = some ir79 := by kernel_rfl
def l80_1 : IC := IC.seq (IC.region [{ dst := some 13, op := IOp.bin (BinOp.lss) (IX.t 12) (IX.t 11), guard := none }]) (IC.seq (IC.cond (IX.t 13) (IC.skip) (IC.exit 0)) (IC.seq (IC.block 1 (IC.seq (IC.region [{ dst := some 14, op := IOp.ia 1 (IX.t 10) (IX.t 12), guard := none }, { dst := some 15, op := IOp.ld none (IX.t 14), guard := none }, { dst := some 6, op := IOp.mv (IX.t 15), guard := none }]) (IC.region [{ dst := some 16, op := IOp.mv (IX.t 4), guard := none }, { dst := some 17, op := IOp.mv (IX.t 6), guard := none }, { dst := some 18, op := IOp.callv (IX.t 16) [IX.t 17], guard := none }]))) (IC.region [{ dst := some 19, op := IOp.bin (BinOp.add) (IX.t 12) (IX.c (AV.int (IntKind.i64) 1)), guard := none }, { dst := some 12, op := IOp.mv (IX.t 19), guard := none }])))
/-- escritoire/entry.list params 1 -/
def ir80 : IFunc := { ntmps := 26, results := [(2, none)], body := IC.seq (IC.region [{ dst := some 2, op := IOp.mv (IX.c (AV.nils)), guard := none }]) (IC.seq (IC.region [{ dst := some 3, op := IOp.new 22 (IX.c (AV.nils)), guard := none }]) (IC.seq (IC.region [{ dst := some 9, op := IOp.mkF (Fn.func 87) [] [IX.t 3], guard := none }, { dst := some 4, op := IOp.mv (IX.t 9), guard := none }]) (IC.seq (IC.seq (IC.region [{ dst := some 10, op := IOp.mv (IX.t 0), guard := none }, { dst := some 11, op := IOp.len false (IX.t 10), guard := none }, { dst := some 12, op := IOp.mv (IX.c (AV.int (IntKind.i64) 0)), guard := none }]) (IC.block 0 (IC.loop l80_1))) (IC.seq (IC.region [{ dst := some 21, op := IOp.ld none (IX.t 3), guard := none }, { dst := some 22, op := IOp.call 21 [IX.c (AV.nils), IX.t 21, IX.c (AV.int (IntKind.i64) 3)], guard := none }, { dst := some 20, op := IOp.mv (IX.t 22), guard := none }, { dst := some 23, op := IOp.ext (IX.t 20) 0, guard := none }, { dst := some 24, op := IOp.ext (IX.t 20) 1, guard := none }, { dst := some 7, op := IOp.mv (IX.t 23), guard := none }, { dst := some 8, op := IOp.mv (IX.t 24), guard := none }]) (IC.seq (IC.region [{ dst := some 25, op := IOp.mv (IX.t 7), guard := none }, { dst := some 2, op := IOp.mv (IX.t 25), guard := none }]) (IC.ret)))))), known := false } 
theorem f80 : TF 80 = some ir80 := by kernel_rfl
def l81_1 : IC := IC.seq (IC.seq (IC.region [{ dst := some 5, op := IOp.mv (IX.t 4), guard := none }, { dst := some 6, op := IOp.mv (IX.t 0), guard := none }, { dst := some 7, op := IOp.len false (IX.t 6), guard := none }, { dst := some 8, op := IOp.bin (BinOp.lss) (IX.t 5) (IX.t 7), guard := none }]) (IC.cond (IX.t 8) (IC.skip) (IC.exit 0))) (IC.seq (IC.block 1 (IC.region [{ dst := some 11, op := IOp.mv (IX.t 3), guard := none }, { dst := some 12, op := IOp.mv (IX.t 0), guard := none }, { dst := some 13, op := IOp.mv (IX.t 4), guard := none }, { dst := some 14, op := IOp.ia 1 (IX.t 12) (IX.t 13), guard := none }, { dst := some 15, op := IOp.ld none (IX.t 14), guard := none }, { dst := some 16, op := IOp.call 79 [IX.t 15, IX.c (AV.int (IntKind.i64) 3)], guard := none }, { dst := some 17, op := IOp.app 5 1 1 false (IX.t 11) (IX.t 16), guard := none }, { dst := some 3, op := IOp.mv (IX.t 17), guard := none }])) (IC.region [{ dst := some 9, op := IOp.mv (IX.t 4), guard := none }, { dst := some 10, op := IOp.bin (BinOp.add) (IX.t 9) (IX.c (AV.int (IntKind.i64) 1)), guard := none }, { dst := some 4, op := IOp.mv (IX.t 10), guard := none }]))
/-- escritoire/escritoireref05.list params 1 -/
def ir81 : IFunc := { ntmps := 20, results := [(2, none)], body := IC.seq (IC.region [{ dst := some 2, op := IOp.mv (IX.c (AV.nils)), guard := none }]) (IC.seq (IC.region [{ dst := some 3, op := IOp.mv (IX.c (AV.nils)), guard := none }]) (IC.seq (IC.seq (IC.region [{ dst := some 4, op := IOp.mv (IX.c (AV.int (IntKind.i64) 0)), guard := none }]) (IC.block 0 (IC.loop l81_1))) (IC.seq (IC.region [{ dst := some 18, op := IOp.mv (IX.t 3), guard := none }, { dst := some 19, op := IOp.call 79 [IX.t 18, IX.c (AV.int (IntKind.i64) 3)], guard := none }, { dst := some 2, op := IOp.mv (IX.t 19), guard := none }]) (IC.ret)))), known := false } 
theorem f81 : TF 81 = some ir81 := by kernel_rfl
def l83_1 : IC := IC.seq (IC.seq (IC.region [{ dst := some 20, op := IOp.mv (IX.t 7), guard := none }, { dst := some 21, op := IOp.call 33 [IX.t 20], guard := none }, { dst := some 22, op := IOp.bin (BinOp.gtr) (IX.t 21) (IX.c (AV.int (IntKind.i64) 0)), guard := none }]) (IC.cond (IX.t 22) (IC.skip) (IC.exit 0))) (IC.block 1 (IC.seq (IC.region [{ dst := some 24, op := IOp.mv (IX.t 7), guard := none }, { dst := some 25, op := IOp.call 29 [IX.t 24, IX.c (AV.int (IntKind.i64) 3)], guard := none }, { dst := some 23, op := IOp.mv (IX.t 25), guard := none }, { dst := some 26, op := IOp.ext (IX.t 23) 0, guard := none }, { dst := some 27, op := IOp.ext (IX.t 23) 1, guard := none }, { dst := some 8, op := IOp.mv (IX.t 26), guard := none }, { dst := some 9, op := IOp.mv (IX.t 27), guard := none }]) (IC.seq (IC.seq (IC.region [{ dst := some 28, op := IOp.mv (IX.t 9), guard := none }, { dst := some 29, op := IOp.bin (BinOp.neq) (IX.t 28) (IX.c (AV.int (IntKind.i64) 0)), guard := none }]) (IC.cond (IX.t 29) (IC.seq (IC.region [{ dst := some 30, op := IOp.mv (IX.t 9), guard := none }, { dst := some 2, op := IOp.mv (IX.c (AV.nils)), guard := none }, { dst := some 3, op := IOp.mv (IX.t 30), guard := none }]) (IC.ret)) (IC.skip))) (IC.region [{ dst := some 31, op := IOp.mv (IX.t 6), guard := none }, { dst := some 32, op := IOp.mv (IX.t 8), guard := none }, { dst := some 33, op := IOp.bsl 22 [AV.nils] 1 [(0, 1, IX.t 32)], guard := none }, { dst := some 34, op := IOp.app 22 1 24 false (IX.t 31) (IX.t 33), guard := none }, { dst := some 6, op := IOp.mv (IX.t 34), guard := none }]))))
/-- escritoire/entry.certs params 1 -/
def ir83 : IFunc := { ntmps := 36, results := [(2, none), (3, none)], body := IC.seq (IC.region [{ dst := some 2, op := IOp.mv (IX.c (AV.nils)), guard := none }, { dst := some 3, op := IOp.mv (IX.c (AV.int (IntKind.i64) 0)), guard := none }]) (IC.seq (IC.region [{ dst := some 11, op := IOp.mv (IX.t 0), guard := none }, { dst := some 12, op := IOp.call 29 [IX.t 11, IX.c (AV.int (IntKind.i64) 3)], guard := none }, { dst := some 10, op := IOp.mv (IX.t 12), guard := none }, { dst := some 13, op := IOp.ext (IX.t 10) 0, guard := none }, { dst := some 14, op := IOp.ext (IX.t 10) 1, guard := none }, { dst := some 4, op := IOp.mv (IX.t 13), guard := none }, { dst := some 5, op := IOp.mv (IX.t 14), guard := none }]) (IC.seq (IC.seq (IC.region [{ dst := some 15, op := IOp.mv (IX.t 5), guard := none }, { dst := some 16, op := IOp.bin (BinOp.neq) (IX.t 15) (IX.c (AV.int (IntKind.i64) 0)), guard := none }]) (IC.cond (IX.t 16) (IC.seq (IC.region [{ dst := some 17, op := IOp.mv (IX.t 5), guard := none }, { dst := some 2, op := IOp.mv (IX.c (AV.nils)), guard := none }, { dst := some 3, op := IOp.mv (IX.t 17), guard := none }]) (IC.ret)) (IC.skip))) (IC.seq (IC.region [{ dst := some 6, op := IOp.mv (IX.c (AV.nils)), guard := none }]) (IC.seq (IC.seq (IC.region [{ dst := some 18, op := IOp.mv (IX.t 4), guard := none }, { dst := some 19, op := IOp.call 25 [IX.t 18], guard := none }, { dst := some 7, op := IOp.mv (IX.t 19), guard := none }]) (IC.block 0 (IC.loop l83_1))) (IC.seq (IC.region [{ dst := some 35, op := IOp.mv (IX.t 6), guard := none }, { dst := some 2, op := IOp.mv (IX.t 35), guard := none }, { dst := some 3, op := IOp.mv (IX.c (AV.int (IntKind.i64) 0)), guard := none }]) (IC.ret)))))), known := false } 
theorem f83 : TF 83 = some ir83 := by kernel_rfl
def l84_1 : IC := IC.seq (IC.seq (IC.region [{ dst := some 30, op := IOp.mv (IX.t 8), guard := none }, { dst := some 31, op := IOp.nilck (IX.t 30), guard := none }, { dst := some 32, op := IOp.fa 0 (IX.t 31), guard := none }, { dst := some 33, op := IOp.ld none (IX.t 32), guard := none }, { dst := some 34, op := IOp.len false (IX.t 33), guard := none }, { dst := some 35, op := IOp.bin (BinOp.gtr) (IX.t 34) (IX.c (AV.int (IntKind.i64) 0)), guard := none }]) (IC.cond (IX.t 35) (IC.skip) (IC.exit 0))) (IC.block 1 (IC.seq (IC.region [{ dst := some 37, op := IOp.mv (IX.t 8), guard := none }, { dst := some 38, op := IOp.call 30 [IX.t 37, IX.c (AV.int (IntKind.i64) 3)], guard := none }, { dst := some 36, op := IOp.mv (IX.t 38), guard := none }, { dst := some 39, op := IOp.ext (IX.t 36) 0, guard := none }, { dst := some 40, op := IOp.ext (IX.t 36) 1, guard := none }, { dst := some 9, op := IOp.mv (IX.t 39), guard := none }, { dst := some 10, op := IOp.mv (IX.t 40), guard := none }]) (IC.seq (IC.seq (IC.region [{ dst := some 41, op := IOp.mv (IX.t 10), guard := none }, { dst := some 42, op := IOp.bin (BinOp.neq) (IX.t 41) (IX.c (AV.int (IntKind.i64) 0)), guard := none }]) (IC.cond (IX.t 42) (IC.seq (IC.region [{ dst := some 2, op := IOp.mv (IX.c (AV.nils)), guard := none }, { dst := some 3, op := IOp.mv (IX.c (AV.bool false)), guard := none }]) (IC.ret)) (IC.skip))) (IC.region [{ dst := some 43, op := IOp.mv (IX.t 7), guard := none }, { dst := some 44, op := IOp.mv (IX.t 9), guard := none }, { dst := some 45, op := IOp.bsl 22 [AV.nils] 1 [(0, 1, IX.t 44)], guard := none }, { dst := some 46, op := IOp.app 22 1 24 false (IX.t 43) (IX.t 45), guard := none }, { dst := some 7, op := IOp.mv (IX.t 46), guard := none }]))))
/-- escritoire/escritoireref05.certs params 1 -/
def ir84 : IFunc := { ntmps := 48, results := [(2, none), (3, none)], body := IC.seq (IC.region [{ dst := some 2, op := IOp.mv (IX.c (AV.nils)), guard := none }, { dst := some 3, op := IOp.mv (IX.c (AV.bool false)), guard := none }]) (IC.seq (IC.region [{ dst := some 11, op := IOp.mv (IX.t 0), guard := none }, { dst := some 12, op := IOp.call 26 [IX.t 11], guard := none }, { dst := some 4, op := IOp.mv (IX.t 12), guard := none }]) (IC.seq (IC.region [{ dst := some 14, op := IOp.mv (IX.t 4), guard := none }, { dst := some 15, op := IOp.call 30 [IX.t 14, IX.c (AV.int (IntKind.i64) 3)], guard := none }, { dst := some 13, op := IOp.mv (IX.t 15), guard := none }, { dst := some 16, op := IOp.ext (IX.t 13) 0, guard := none }, { dst := some 17, op := IOp.ext (IX.t 13) 1, guard := none }, { dst := some 5, op := IOp.mv (IX.t 16), guard := none }, { dst := some 6, op := IOp.mv (IX.t 17), guard := none }]) (IC.seq (IC.seq (IC.region [{ dst := some 18, op := IOp.mv (IX.t 6), guard := none }, { dst := some 19, op := IOp.bin (BinOp.neq) (IX.t 18) (IX.c (AV.int (IntKind.i64) 0)), guard := none }, { dst := some 20, op := IOp.mv (IX.t 19), guard := none }, { dst := some 21, op := IOp.mv (IX.t 4), guard := some (20, false) }, { dst := some 22, op := IOp.nilck (IX.t 21), guard := some (20, false) }, { dst := some 23, op := IOp.fa 0 (IX.t 22), guard := some (20, false) }, { dst := some 24, op := IOp.ld none (IX.t 23), guard := some (20, false) }, { dst := some 25, op := IOp.len false (IX.t 24), guard := some (20, false) }, { dst := some 26, op := IOp.bin (BinOp.gtr) (IX.t 25) (IX.c (AV.int (IntKind.i64) 0)), guard := some (20, false) }, { dst := some 27, op := IOp.pick (IX.t 20) (IX.c (AV.bool true)) (IX.t 26), guard := none }]) (IC.cond (IX.t 27) (IC.seq (IC.region [{ dst := some 2, op := IOp.mv (IX.c (AV.nils)), guard := none }, { dst := some 3, op := IOp.mv (IX.c (AV.bool false)), guard := none }]) (IC.ret)) (IC.skip))) (IC.seq (IC.region [{ dst := some 7, op := IOp.mv (IX.c (AV.nils)), guard := none }]) (IC.seq (IC.region [{ dst := some 28, op := IOp.mv (IX.t 5), guard := none }, { dst := some 29, op := IOp.call 26 [IX.t 28], guard := none }, { dst := some 8, op := IOp.mv (IX.t 29), guard := none }]) (IC.seq (IC.block 0 (IC.loop l84_1)) (IC.seq (IC.region [{ dst := some 47, op := IOp.mv (IX.t 7), guard := none }, { dst := some 2, op := IOp.mv (IX.t 47), guard := none }, { dst := some 3, op := IOp.mv (IX.c (AV.bool true)), guard := none }]) (IC.ret)))))))), known := false } 
theorem f84 : TF 84 = some ir84 := by kernel_rfl
/-- escritoire/entry.list$1 params 1 -/
def ir87 : IFunc := { ntmps := 14, results := [], body := IC.seq (IC.region [{ dst := some 6, op := IOp.ld none (IX.t 1), guard := none }, { dst := some 7, op := IOp.mv (IX.t 0), guard := none }, { dst := some 8, op := IOp.call 21 [IX.t 6, IX.t 7, IX.c (AV.int (IntKind.i64) 3)], guard := none }, { dst := some 5, op := IOp.mv (IX.t 8), guard := none }, { dst := some 9, op := IOp.ext (IX.t 5) 0, guard := none }, { dst := some 10, op := IOp.ext (IX.t 5) 1, guard := none }, { dst := some 3, op := IOp.mv (IX.t 9), guard := none }, { dst := some 4, op := IOp.mv (IX.t 10), guard := none }]) (IC.seq (IC.region [{ dst := some 11, op := IOp.mv (IX.t 4), guard := none }, { dst := some 12, op := IOp.bin (BinOp.eql) (IX.t 11) (IX.c (AV.int (IntKind.i64) 0)), guard := none }]) (IC.cond (IX.t 12) (IC.region [{ dst := some 13, op := IOp.mv (IX.t 3), guard := none }, { dst := none, op := IOp.st 1 (IX.t 1) (IX.t 13), guard := none }]) (IC.skip))), known := false } 
theorem f87 : TF 87 = some ir87 := by kernel_rfl
end Go.Det

/- What the writers of the packet's first package do: numbers and rows laid behind a row. -/
set_option linter.unusedVariables false
set_option linter.unusedSimpArgs false
namespace Go.Det
open Go.Proofs
theorem rsized8_run (h : H) : Runs TF 73 [.int .i64 8] h (.bool true) h := by
  refine Runs.of' f73 rfl ?_
  refine Wp.seq (Wp.region ?_)
  refine Wo.val _ _ rfl rfl (Wo.nil ?_)
  refine Wp.seq (Wp.region ?_)
  repeat (first | refine Wo.val _ _ rfl rfl ?_ | refine Wo.not rfl ?_)
  exact Wo.nil (Wp.ret ⟨.inr rfl, rfl, rfl⟩)

attribute [local simp] skip_iff ret_iff exit_iff seq_iff block_iff thenQ_normal thenQ_ret thenQ_exit thenQ_goto blockQ_normal blockQ_ret blockQ_exit blockQ_goto condQ_bool cond_iff region_iff wo_nil ansQ_val ansQ_call wo_cons wo_guard wanted put setL getL ev iop binop binInt shInt asI retV resOf unop getL_put len_put
attribute [local congr] ansQ_congr condQ_congr

theorem sized_run (s : Int) (h : H) : Runs TF 70 [.int .i64 s] h (.bool (decide (1 ≤ s ∧ s ≤ 4 ∨ s = 8))) h := by
  refine Runs.of' f70 rfl ?_
  simp [List.replicate]
  by_cases h3 : s = 8
  · subst h3; simp
  · by_cases h1 : 1 ≤ s <;> by_cases h2 : s ≤ 4 <;> simp [h1, h2, h3]

theorem most_run (s : Int) (hs : 1 ≤ s ∧ s ≤ 4 ∨ s = 8) (h : H) : Runs TF 71 [.int .i64 s] h (.int .u64 (2 ^ (8 * s.toNat) - 1)) h := by
  have : s = 1 ∨ s = 2 ∨ s = 3 ∨ s = 4 ∨ s = 8 := by omega
  refine Runs.of' f71 rfl ?_
  rcases this with rfl | rfl | rfl | rfl | rfl <;> simp [List.replicate, i64_fit, u64_fit, IntKind.bits] <;> decide

theorem clone_run {v : AV} {l : List UInt8} {h : H} (hb : Bs h v l) (hl : l.length ≤ maxRow) : ∃ x h', Runs TF 72 [v] h x h' ∧ Ext h h' ∧ Ow h.n h' x l := by
  rcases hb with ⟨rfl, rfl⟩ | ⟨a, c, rfl, h1, h2⟩
  · refine ⟨.nils, h, Runs.of' f72 rfl ?_, Ext.refl h, .inl ⟨rfl, rfl⟩⟩
    simp [List.replicate, eqv]
  · have hb : Bs (h.new (.cells 0 5 [] 0 false)) (.sl a l.length c) l := Bs.ext (.inr ⟨a, c, rfl, h1, h2⟩) (Ext.new h _)
    obtain ⟨x, h', e1, e2, e3, e4⟩ := Ow.app (lo := h.n) (h := h.new (.cells 0 5 [] 0 false)) (x := .sl ⟨h.n, 0, 0⟩ 0 (.ex 0)) (l := []) (.inr ⟨h.n, 0, Nat.le_refl _, by simp, by rw [h.get_new]; rfl, .inr rfl⟩) hb (by simp) (by simpa using hl)
    refine ⟨x, h', Runs.of' f72 rfl ?_, ?_, e2⟩
    · simp [List.replicate, eqv, fillL, isStrV, e1]
    · exact Ext2.one (((Ext.new h _).two (Nat.le_refl _)).trans e3)

theorem own_run {v : AV} {l : List UInt8} {h : H} (hb : Bs h v l) (hl : l.length ≤ maxRow) : ∃ x h', Runs TF 74 [v] h x h' ∧ Ext h h' ∧ Ow h.n h' x l := by
  obtain ⟨x, h', e1, e2, e3, e4⟩ := Ow.app (lo := h.n) (h := h) (x := .nils) (l := []) (.inl ⟨rfl, rfl⟩) hb (Nat.le_refl _) (by simpa using hl)
  refine ⟨x, h', Runs.of' f74 rfl ?_, Ext2.one e3, e2⟩
  simp [List.replicate, hb.notStr, e1]

/-- A digit of a number, from the front. -/
def dig (n size i : Nat) : UInt8 := b8 ((n : Int).fdiv (2 ^ (8 * (size - 1 - i))))
def digits (n size k : Nat) : List UInt8 := (List.range k).map (dig n size)
theorem digits_succ (n size k : Nat) : digits n size (k + 1) = digits n size k ++ [dig n size k] := by simp [digits, List.range_succ]
theorem digits_len (n size k : Nat) : (digits n size k).length = k := by simp [digits]

theorem num_loop {lo n size : Nat} (hn : n < 2 ^ 64) (hs : 1 ≤ size ∧ size ≤ 8) {l : List UInt8} (hl : l.length + 8 ≤ maxRow) :
    ∀ (k i : Nat), i + k = size → ∀ (x : AV) (h : H) (ts : List AV), ts.length = 39 → getL ts 1 = some (.int .u64 n) → getL ts 2 = some (.int .i64 size) → getL ts 8 = some x → getL ts 21 = some (.int .i64 size) → getL ts 22 = some (.int .i64 i) →
      lo ≤ h.n → Ow lo h x (l ++ digits n size i) → ∀ (Q : Ex → St → Prop), (∀ ts' h' x', ts'.length = 39 → getL ts' 8 = some x' → Ow lo h' x' (l ++ digits n size size) → Ext2 lo h h' → Q (.exit 1) (ts', h')) → Wp TF (.loop l19_1) (ts, h) Q := by
  intro k
  induction k with
  | zero =>
    intro i hi x h ts t0 t1 t2 t8 t21 t22 hlo hx Q hQ
    obtain rfl : i = size := by omega
    refine Wp.loop ?_
    simp [l19_1, t0, t21, t22]
    exact hQ _ _ _ (by simp [t0]) (by simp [t8]) hx ⟨Nat.le_refl _, fun _ _ => rfl⟩
  | succ k ih =>
    intro i hi x h ts t0 t1 t2 t8 t21 t22 hlo hx Q hQ
    refine Wp.loop ?_
    have hlt : i < size := by omega
    obtain ⟨e, he⟩ : ∃ e, e = size - 1 - i := ⟨_, rfl⟩
    have w1 : IntKind.i64.wrap ((size : Int) - 1) = (size : Int) - 1 := i64_fit _ (by omega)
    have w2 : IntKind.i64.wrap ((size : Int) - 1 - (i : Int)) = (e : Int) := by rw [i64_fit _ (by omega)]; omega
    have w3 : IntKind.i64.wrap (8 * (e : Int)) = 8 * (e : Int) := i64_fit _ (by omega)
    have w4 : IntKind.u64.wrap (8 * (e : Int)) = 8 * (e : Int) := u64_fit _ (by omega)
    have w5 : IntKind.i64.wrap ((i : Int) + 1) = (i : Int) + 1 := i64_fit _ (by omega)
    have w6 : min (8 * (e : Int)).toNat IntKind.u64.bits = 8 * e := by simp only [IntKind.bits]; omega
    have w7 : ¬ (8 * (e : Int) < 0) := by omega
    have w8 : IntKind.u8.wrap ((n : Int).fdiv (2 ^ (8 * e))) = ((dig n size i).toNat : Int) := by rw [wrap_u8, dig, ← he]
    obtain ⟨y, h', e1, e2, e3, e4⟩ := Ow.app (hx.ext (Ext.new h (.cells 0 5 [.int .u8 (dig n size i).toNat] 0 false))) (Bs.one h (dig n size i)) (by simp; omega) (by simp [digits_len]; omega)
    have hlo' : lo ≤ h'.n := by have := e3.1; simp at this; omega
    simp only [l19_1]
    simp [t0, t1, t2, t8, t21, t22, hlt, w1, w2, w3, w4, w5, w6, w7, w8, fillL, putAt, AV.cells, AV.one, isStrV, e1]
    refine ih (i + 1) (by omega) y h' _ (by simp [t0]) (by simp [t1]) (by simp [t2]) (by simp [t0]) (by simp [t21]) (by simp [t0]) hlo' (by rw [digits_succ, ← List.append_assoc]; exact e2) Q ?_
    intro ts' h2 x' g1 g2 g3 g4
    exact hQ ts' h2 x' g1 g2 g3 ((((Ext.new h _).two hlo).trans e3).trans g4)

def numE (n : Nat) (size : Int) : Int := if ¬ (1 ≤ size ∧ size ≤ 4 ∨ size = 8) then 1 else if 2 ^ (8 * size.toNat) ≤ n then 3 else 0

theorem num_run {b : AV} {l : List UInt8} {h : H} (hb : Bs h b l) (hl : l.length + 8 ≤ maxRow) {n : Nat} (hn : n < 2 ^ 64) (size : Int) :
    ∃ v h', Runs TF 19 [b, .int .u64 n, .int .i64 size] h v h' ∧ ∃ x, v = .tup [x, .int .i64 (numE n size)] ∧ Ext h h' ∧ Ow h.n h' x (if numE n size = 0 then l ++ digits n size.toNat size.toNat else []) := by
  refine Runs.ofP f19 rfl ?_
  simp [List.replicate]
  refine ⟨_, _, sized_run size h, ?_⟩
  by_cases hs : 1 ≤ size ∧ size ≤ 4 ∨ size = 8
  · simp [hs]
    refine ⟨_, _, most_run size hs h, ?_⟩
    by_cases hm : 2 ^ (8 * size.toNat) ≤ n
    · have e : numE n size = 3 := by simp [numE, hs, hm]
      have h3 : (2 : Int) ^ (8 * size.toNat) - 1 < (n : Int) := by have : ((2 ^ (8 * size.toNat) : Nat) : Int) ≤ n := by exact_mod_cast hm
                                                                   push_cast at this; omega
      simp [h3, e]
      exact ⟨Ext.refl h, .inl ⟨rfl, rfl⟩⟩
    · have e : numE n size = 0 := by simp [numE, hs, hm]
      have h3 : ¬ ((2 : Int) ^ (8 * size.toNat) - 1 < (n : Int)) := by have : (n : Int) < ((2 ^ (8 * size.toNat) : Nat) : Int) := by exact_mod_cast Nat.lt_of_not_le hm
                                                                       push_cast at this; omega
      obtain ⟨x, h', c1, c2, c3⟩ := clone_run hb (by omega)
      simp [h3]
      refine ⟨x, h', c1, ?_⟩
      obtain ⟨m, rfl⟩ : ∃ m : Nat, size = m := ⟨size.toNat, by omega⟩
      refine num_loop (lo := h.n) hn (size := m) (by omega) hl m 0 (by omega) x h' _ rfl rfl rfl rfl rfl rfl c2.1 (by simpa [digits] using c3) _ ?_
      intro ts' h2 x' g1 g2 g3 g4
      simp [g1, g2, e]
      exact ⟨⟨Nat.le_trans c2.1 g4.1, fun b hb => (g4.2 b hb).trans (c2.2 b hb)⟩, g3⟩
  · have e : numE n size = 1 := by simp [numE, hs]
    simp [hs, e]
    exact ⟨Ext.refl h, .inl ⟨rfl, rfl⟩⟩


theorem dig_eq (n size i : Nat) : dig n size i = UInt8.ofNat (n / 256 ^ (size - 1 - i)) := by
  have e : (n : Int).fdiv (2 ^ (8 * (size - 1 - i))) = ((n / 256 ^ (size - 1 - i) : Nat) : Int) := by
    have h2 : (2 : Int) ^ (8 * (size - 1 - i)) = ((256 ^ (size - 1 - i) : Nat) : Int) := by
      rw [show (256 : Nat) = 2 ^ 8 from rfl, ← Nat.pow_mul, Int.natCast_pow]
      rfl
    rw [h2, Int.fdiv_eq_ediv_of_nonneg _ (Int.natCast_nonneg _)]
    exact_mod_cast rfl
  rw [dig, e, b8]
  generalize n / 256 ^ (size - 1 - i) = x
  have : ((x : Int) % 256).toNat = x % 256 := by omega
  rw [this, ofNat_mod]

theorem rnum_loop {size n : Nat} (hn : n < 2 ^ 64) (hs : 1 ≤ size ∧ size ≤ 8) {blk : Nat} :
    ∀ (k : Nat), k ≤ size → ∀ (h : H) (ts : List AV), ts.length = 35 → blk < h.n → getL ts 1 = some (.int .u64 ((n / 256 ^ (size - k) : Nat) : Int)) → getL ts 8 = some (.sl ⟨blk, 0, 0⟩ size (.ex size)) → getL ts 9 = some (.int .i64 ((k : Int) - 1)) →
      h.get blk = some (.cells 0 5 (bytesAV (List.replicate k 0 ++ (digits n size size).drop k)) 0 false) →
      ∀ (Q : Ex → St → Prop), (∀ ts' h', ts'.length = 35 → getL ts' 0 = getL ts 0 → getL ts' 1 = some (.int .u64 ((n / 256 ^ size : Nat) : Int)) → getL ts' 8 = some (.sl ⟨blk, 0, 0⟩ size (.ex size)) → h'.get blk = some (.cells 0 5 (bytesAV (digits n size size)) 0 false) → h'.n = h.n → (∀ b, b ≠ blk → h'.get b = h.get b) → Q (.exit 0) (ts', h')) → Wp TF (.loop l20_1) (ts, h) Q := by
  intro k
  induction k with
  | zero =>
    intro hk h ts t0 hb t1 t8 t9 hg Q hQ
    refine Wp.loop ?_
    have w : ¬ ((0 : Int) ≤ -1) := by omega
    simp [l20_1, t0, t9]
    exact hQ _ _ (by simp [t0]) (by simp [t0]) (by simp [t0]; simpa using t1) (by simp [t0]; exact t8) (by simpa using hg) rfl (fun _ _ => rfl)
  | succ k ih =>
    intro hk h ts t0 hb t1 t8 t9 hg Q hQ
    refine Wp.loop ?_
    have t9 : getL ts 9 = some (.int .i64 (k : Int)) := by rw [t9]; congr 2; omega
    obtain ⟨m, hm⟩ : ∃ m, m = n / 256 ^ (size - (k + 1)) := ⟨_, rfl⟩
    rw [← hm] at t1
    have hm64 : m < 2 ^ 64 := by rw [hm]; exact Nat.lt_of_le_of_lt (Nat.div_le_self _ _) hn
    have hmd : m / 256 = n / 256 ^ (size - k) := by
      rw [hm, Nat.div_div_eq_div_mul, ← Nat.pow_succ]
      congr 2; omega
    have w1 : IntKind.u8.wrap ((m : Int).tmod 256) = ((dig n size k).toNat : Int) := by
      rw [dig_eq, ← show size - (k + 1) = size - 1 - k by omega, ← hm]
      have : (m : Int).tmod 256 = ((m % 256 : Nat) : Int) := by rw [Int.tmod_eq_emod_of_nonneg (by omega)]; omega
      rw [this, u8_fit _ (by omega), UInt8.toNat_ofNat']
    have w2 : IntKind.u64.wrap ((m : Int).tdiv 256) = (m : Int) / 256 := by
      rw [Int.tdiv_eq_ediv_of_nonneg (by omega), u64_fit _ (by omega)]
    have hmd' : (m : Int) / 256 = (n : Int) / 256 ^ (size - k) := by
      have := congrArg (Nat.cast : Nat → Int) hmd
      rw [Int.natCast_ediv, Int.natCast_ediv, Int.natCast_pow] at this
      exact this
    have w2' : IntKind.u64.wrap ((n : Int) / 256 ^ (size - k)) = (n : Int) / 256 ^ (size - k) := by
      rw [← hmd', u64_fit _ (by omega)]
    have w3 : IntKind.i64.wrap ((k : Int) - 1) = (k : Int) - 1 := i64_fit _ (by omega)
    have hl : (List.replicate (k + 1) (0 : UInt8) ++ (digits n size size).drop (k + 1)).length = size := by simp [digits_len]; omega
    have hset : (List.replicate (k + 1) (0 : UInt8) ++ (digits n size size).drop (k + 1)).set k (dig n size k) = List.replicate k 0 ++ (digits n size size).drop k := by
      have e1 : (digits n size size).drop k = dig n size k :: (digits n size size).drop (k + 1) := by
        rw [List.drop_eq_getElem_cons (by rw [digits_len]; omega)]
        simp [digits]
      rw [e1, List.replicate_succ', List.append_assoc, List.set_append_right _ _ (by simp)]
      simp
    have hst := st_byte hg (k := k) (by rw [hl]; omega) (dig n size k)
    rw [hset] at hst
    have hk' : k < size := by omega
    simp only [l20_1]
    simp [t0, t1, t8, t9, w1, hk', AV.cells, hst, w2, w3]
    refine ih (by omega) _ _ (by simp [t0]) (by simpa using hb) (by simp [t0, hmd', w2']) (by simp [t8]) (by simp [t0]) (by rw [h.get_set]) Q ?_
    intro ts' h' g1 g2 g3 g4 g5 g6 g7
    exact hQ ts' h' g1 (g2.trans (by simp)) g3 g4 g5 g6 (fun b hb => (g7 b hb).trans (h.get_set_ne _ b _ hb))

end Go.Det

/- What the packet's reader does: it takes numbers and rows of bytes from ahead. -/
set_option linter.unusedVariables false
set_option linter.unusedSimpArgs false
namespace Go.Det
open Go.Proofs
attribute [local simp] skip_iff ret_iff exit_iff seq_iff block_iff thenQ_normal thenQ_ret thenQ_exit thenQ_goto blockQ_normal blockQ_ret blockQ_exit blockQ_goto condQ_bool cond_iff region_iff wo_nil ansQ_val ansQ_call wo_cons wo_guard wanted put setL getL ev iop binop binInt shInt asI retV resOf unop draw_iff wd_nil wd_quiet wd_act holds_nil holds_cons
attribute [local congr] ansQ_congr condQ_congr Wo_congr Wp_congr Wd_congr

/-- A reader: its block, the row that is left, and how it reads. -/
def Rd (h : H) (b : Nat) (v : AV) (l : List UInt8) : Prop := b < h.n ∧ h.get b = some (.cells 0 121 [v, .bool true] 0 false) ∧ Bs h v l ∧ ∀ a n c, v = .sl a n c → a.b ≠ b ∧ ((∃ k, c = .ex k ∧ n ≤ k) ∨ c = .op 1)

theorem Rd.ld {h : H} {b : Nat} {v : AV} {l : List UInt8} (hR : Rd h b v l) : h.ldg ⟨b, 0, 0⟩ none = some v ∧ h.ldg ⟨b, 0, 1⟩ none = some (.bool true) := by
  simp [H.ldg, H.ld, H.row, hR.2.1]

theorem Ow.blk {lo : Nat} {h : H} {v : AV} {l : List UInt8} (ho : Ow lo h v l) {a : AA} {n : Nat} {c : Cp} (e : v = .sl a n c) : lo ≤ a.b ∧ a.b < h.n := by
  subst e
  rcases ho with ⟨e1, _⟩ | ⟨b', g', q1, q2, _, e1 | e1⟩
  · simp at e1
  · simp only [AV.sl.injEq] at e1; rw [e1.1]; exact ⟨q1, q2⟩
  · simp only [AV.sl.injEq] at e1; rw [e1.1]; exact ⟨q1, q2⟩

theorem new_run {v : AV} {l : List UInt8} {h : H} (hb : Bs h v l) (hl : l.length ≤ maxRow) : ∃ p h', Runs TF 25 [v] h p h' ∧ ∃ b u, p = .ptr ⟨b, 0, 0⟩ ∧ h.n ≤ b ∧ Rd h' b u l ∧ Ext h h' ∧ Ow h.n h' u l ∧ ∀ a n c, u = .sl a n c → h.n ≤ a.b ∧ a.b < b := by
  obtain ⟨x, h1, c1, c2, c3⟩ := clone_run hb hl
  have hx : x.cells = [x] ∧ x.one = true := by rcases c3 with ⟨rfl, _⟩ | ⟨_, _, _, _, _, rfl | rfl⟩ <;> exact ⟨rfl, rfl⟩
  obtain ⟨B, hB⟩ : ∃ B, B = Blk.cells 0 121 [x, .bool true] 0 false := ⟨_, rfl⟩
  have hO := c3.ext (Ext.new h1 B)
  refine ⟨.ptr ⟨h1.n, 0, 0⟩, h1.new B, Runs.of' f25 rfl ?_, h1.n, x, rfl, c2.1, ⟨by simp, by rw [h1.get_new, hB], hO.bs, ?_⟩, c2.trans (Ext.new h1 B), hO, fun a n c e => c3.blk e⟩
  · simp [List.replicate]
    refine ⟨_, _, c1, ?_⟩
    have o1 : (AV.bool true).one = true := rfl
    have o2 : (AV.bool true).cells = [AV.bool true] := rfl
    have o3 : ∀ cs, (AV.agg cs).cells = cs := fun _ => rfl
    simp [fillL, hx.1, hx.2, o2, o3, putAt, o1, ← hB]
  · rintro a n c rfl
    rcases c3 with ⟨e, _⟩ | ⟨b, g, g1, g2, g3, e | e⟩
    · simp at e
    · simp only [AV.sl.injEq] at e
      obtain ⟨rfl, rfl, rfl⟩ := e
      exact ⟨by simp; omega, .inr rfl⟩
    · simp only [AV.sl.injEq] at e
      obtain ⟨rfl, rfl, rfl⟩ := e
      exact ⟨by simp; omega, .inl ⟨_, rfl, Nat.le_refl _⟩⟩

def readyE (l : List UInt8) (n : Int) : Int := if n < 0 then 1 else if (l.length : Int) < n then 4 else 0

theorem ready_run {h : H} {b : Nat} {v : AV} {l : List UInt8} (hR : Rd h b v l) (n : Int) : Runs TF 75 [.ptr ⟨b, 0, 0⟩, .int .i64 n] h (.int .i64 (readyE l n)) h := by
  obtain ⟨l0, l1⟩ := hR.ld
  have hb := hR.2.2.1
  refine Runs.of' f75 rfl ?_
  refine Wp.seq (Wp.region (Wo.all (by kernel_rfl) ?_))
  refine Wp.seq (Wp.block (Wp.seq (Wp.region (Wo.pre 6 (by kernel_rfl) ?_))))
  refine Wo.val (.bool true) h (by kernel_rfl) (iop_ld (a := ⟨b, 0, 1⟩) (by kernel_rfl) l1) (Wo.all (by kernel_rfl) ?_)
  refine Wp.cond false (by kernel_rfl) ?_
  refine Wp.seq (Wp.region (Wo.all (by kernel_rfl) ?_))
  refine Wp.cond (decide (n < 0)) (by kernel_rfl) ?_
  by_cases h1 : n < 0
  · rw [if_pos (by simpa using h1)]
    refine Wp.seq (Wp.region (Wo.all (by kernel_rfl) (Wp.ret ?_)))
    exact ⟨.inr rfl, rfl, by rw [readyE, if_pos h1]; kernel_rfl⟩
  · rw [if_neg (by simpa using h1)]
    refine Wp.seq (Wp.region (Wo.pre 4 (by kernel_rfl) ?_))
    refine Wo.val v h (by kernel_rfl) (iop_ld (a := ⟨b, 0, 0⟩) (by kernel_rfl) l0) ?_
    refine Wo.val (.int .i64 l.length) h (by kernel_rfl) (hb.len (by kernel_rfl)) (Wo.all (by kernel_rfl) ?_)
    refine Wp.cond (decide ((l.length : Int) < n)) (by kernel_rfl) ?_
    by_cases h2 : (l.length : Int) < n
    · rw [if_pos (by simpa using h2)]
      refine Wp.seq (Wp.region (Wo.all (by kernel_rfl) (Wp.ret ?_)))
      exact ⟨.inr rfl, rfl, by rw [readyE, if_neg h1, if_pos h2]; kernel_rfl⟩
    · rw [if_neg (by simpa using h2)]
      refine Wp.skip ?_
      refine Wp.seq (Wp.region (Wo.all (by kernel_rfl) (Wp.ret ?_)))
      exact ⟨.inr rfl, rfl, by rw [readyE, if_neg h1, if_neg h2]; kernel_rfl⟩

theorem left_run {h : H} {b : Nat} {v : AV} {l : List UInt8} (hR : Rd h b v l) : Runs TF 33 [.ptr ⟨b, 0, 0⟩] h (.int .i64 l.length) h := by
  obtain ⟨l0, l1⟩ := hR.ld
  refine Runs.of' f33 rfl ?_
  rcases hR.2.2.1 with ⟨rfl, rfl⟩ | ⟨a, c, rfl, _, _⟩ <;> simp [List.replicate, eqv, l0]

/-- Only the reader's own block is written. -/
def ExtB (b : Nat) (h h' : H) : Prop := h.n ≤ h'.n ∧ ∀ k, k < h.n → k ≠ b → h'.get k = h.get k

theorem ExtB.trans {b : Nat} {h h' h'' : H} (x : ExtB b h h') (y : ExtB b h' h'') : ExtB b h h'' := ⟨Nat.le_trans x.1 y.1, fun k hk hb => (y.2 k (Nat.lt_of_lt_of_le hk x.1) hb).trans (x.2 k hk hb)⟩
theorem Ext.b {h h' : H} (x : Ext h h') (b : Nat) : ExtB b h h' := ⟨x.1, fun k hk _ => x.2 k hk⟩

theorem take_fail {h : H} {b : Nat} {v : AV} {l : List UInt8} (hR : Rd h b v l) {n : Int} (hn : readyE l n ≠ 0) : Runs TF 31 [.ptr ⟨b, 0, 0⟩, .int .i64 n] h (.tup [.nils, .int .i64 (readyE l n)]) h := by
  refine Runs.of' f31 rfl ?_
  simp [List.replicate]
  refine ⟨_, _, ready_run hR n, ?_⟩
  simp [hn]

/-- A row in the same block. -/
def SB (v v' : AV) : Prop := ∀ a n c, v' = .sl a n c → ∃ a0 n0 c0, v = .sl a0 n0 c0 ∧ a0.b = a.b
theorem SB.refl (v : AV) : SB v v := fun a n c e => ⟨a, n, c, e, rfl⟩
theorem SB.trans {u v w : AV} (x : SB u v) (y : SB v w) : SB u w := by
  intro a n c e
  obtain ⟨a1, n1, c1, e1, q1⟩ := y a n c e
  obtain ⟨a2, n2, c2, e2, q2⟩ := x a1 n1 c1 e1
  exact ⟨a2, n2, c2, e2, q2.trans q1⟩

theorem take_run {h : H} {b : Nat} {v : AV} {l : List UInt8} (hR : Rd h b v l) {n : Nat} (hn : n ≤ l.length) (hl : l.length ≤ maxRow) :
    ∃ r h', Runs TF 31 [.ptr ⟨b, 0, 0⟩, .int .i64 n] h r h' ∧ ∃ x v', r = .tup [x, .int .i64 0] ∧ Rd h' b v' (l.drop n) ∧ Ow h.n h' x (l.take n) ∧ ExtB b h h' ∧ SB v v' := by
  obtain ⟨l0, l1⟩ := hR.ld
  refine Runs.ofP f31 rfl ?_
  have e0 : readyE l n = 0 := by simp [readyE]; omega
  have hready := ready_run hR (n : Int)
  rw [e0] at hready
  have hm : n ≤ maxRow := by omega
  have hm2 : (n : Int) ≤ 9223372036854775807 := by unfold maxRow at hm; omega
  have hm3 : (n : Int) ≤ (maxRow : Int) := by omega
  obtain ⟨Z, hZ⟩ : ∃ Z, Z = Blk.cells 0 5 (List.replicate n (.int .u8 0)) 0 false := ⟨_, rfl⟩
  obtain ⟨Y, hY⟩ : ∃ Y, Y = Blk.cells 0 5 (bytesAV (l.take n)) 0 false := ⟨_, rfl⟩
  have hb := hR.1
  have gK : ∀ k, k ≠ h.n → ((h.new Z).set h.n Y).get k = h.get k := fun k hk => by rw [H.get_set_ne _ _ _ _ hk, h.get_new_ne k Z hk]
  have gb : ((h.new Z).set h.n Y).get b = some (.cells 0 121 [v, .bool true] 0 false) := by rw [gK b (by omega)]; exact hR.2.1
  have L1 : (h.new Z).ldg ⟨b, 0, 0⟩ none = some v := by simp [H.ldg, H.ld, H.row, h.get_new_ne b Z (by omega), hR.2.1]
  have L2 : ((h.new Z).set h.n Y).ldg ⟨b, 0, 0⟩ none = some v := by simp [H.ldg, H.ld, H.row, gb]
  have S1 : (h.new Z).st ⟨h.n, 0, 0⟩ (bytesAV (l.take n)) = some ((h.new Z).set h.n Y) := by
    unfold H.st
    simp only [h.get_new, hZ]
    have hone := bytes_one (l.take n)
    have hlen : (bytesAV (l.take n)).length = n := by rw [bytes_len, List.length_take]; omega
    rw [if_pos (by rw [hone, hlen]; simp)]
    have e : putAt (List.replicate n (AV.int .u8 0)) 0 (bytesAV (l.take n)) = bytesAV (l.take n) := by
      have : putAt (List.replicate n (AV.int .u8 0)) 0 (bytesAV (l.take n)) = bytesAV (l.take n) ++ (List.replicate n (AV.int .u8 0)).drop (bytesAV (l.take n)).length := by
        cases n <;> rfl
      rw [this, hlen]
      simp
    rw [e, hY]
  have C1 : ∀ {x y : IX} {ρ : IX → AV}, ρ x = .sl ⟨h.n, 0, 0⟩ n (.ex n) → ρ y = v → iop (.copy 1 x y) ρ (h.new Z) = some (.val (.int .i64 n) ((h.new Z).set h.n Y)) := by
    intro x y ρ hx hy
    rcases hR.2.2.1 with ⟨rfl, rfl⟩ | ⟨a, c, rfl, ha, hld⟩
    · have : n = 0 := by simpa using hn
      subst this
      simp only [iop, hx, hy, srcLen, srcFirst]
      rw [show bytesAV (([] : List UInt8).take 0) = ([] : List AV) from rfl] at S1
      rw [S1]
      rfl
    · have hmin : Nat.min l.length n = n := Nat.min_eq_right hn
      have hl2 : (h.new Z).ldn a (n * 1) = some (bytesAV (l.take n)) := by
        rw [ldn_same (h.get_new_ne _ Z (by omega)), Nat.mul_one, ldn_take hld hn, bytes_take]
      simp only [iop, hx, hy, srcLen, srcFirst, hmin, hl2, S1, Option.map_some]
  refine Wp.seq (Wp.region (Wo.all (by kernel_rfl) ?_))
  refine Wp.seq (Wp.seq (Wp.region (Wo.pre 2 (by kernel_rfl) (Wo.call (by kernel_rfl) (by kernel_rfl) hready (Wo.all (by kernel_rfl) ?_)))))
  refine Wp.seq (Wp.region (Wo.all (by kernel_rfl) ?_))
  refine Wp.cond false (by kernel_rfl) ?_
  refine Wp.skip ?_
  refine Wp.seq (Wp.region (Wo.pre 1 (by kernel_rfl) (Wo.val (.sl ⟨h.n, 0, 0⟩ n (.ex n)) (h.new Z) (by kernel_rfl) (by rw [hZ]; exact iop_mkS (k := .i64) (by kernel_rfl) hm) (Wo.all (by kernel_rfl) ?_))))
  refine Wp.seq (Wp.region (Wo.pre 4 (by kernel_rfl) (Wo.val v (h.new Z) (by kernel_rfl) (iop_ld (a := ⟨b, 0, 0⟩) (by kernel_rfl) L1) (Wo.val (.int .i64 n) ((h.new Z).set h.n Y) (by kernel_rfl) (C1 (by kernel_rfl) (by kernel_rfl)) (Wo.nil ?_)))))
  refine Wp.seq (Wp.region (Wo.pre 4 (by kernel_rfl) (Wo.val v ((h.new Z).set h.n Y) (by kernel_rfl) (iop_ld (a := ⟨b, 0, 0⟩) (by kernel_rfl) L2) ?_)))
  have hBK : Bs ((h.new Z).set h.n Y) v l := by
    rcases hR.2.2.1 with ⟨rfl, rfl⟩ | ⟨a, c, rfl, ha, hld⟩
    · exact .inl ⟨rfl, rfl⟩
    · exact .inr ⟨a, c, rfl, by simp; omega, by rw [ldn_same (gK _ (by omega))]; exact hld⟩
  obtain ⟨v', d1, d2, d3, d4, d5⟩ := hBK.drop (fun a m c e => (hR.2.2.2 a m c e).2) hn
  obtain ⟨X, hX⟩ : ∃ X, X = Blk.cells 0 121 [v', .bool true] 0 false := ⟨_, rfl⟩
  have S2 : ((h.new Z).set h.n Y).st ⟨b, 0, 0⟩ v'.cells = some (((h.new Z).set h.n Y).set b X) := by
    unfold H.st
    simp only [gb, d4]
    rw [if_pos (by simp [d5])]
    rw [hX]
    rfl
  refine Wo.pre 1 (by kernel_rfl) (Wo.val v' ((h.new Z).set h.n Y) (by kernel_rfl) (d1 _ _ _ (by kernel_rfl) (by kernel_rfl)) (Wo.pre 2 (by kernel_rfl) (Wo.val .undef (((h.new Z).set h.n Y).set b X) (by kernel_rfl) ?_ (Wo.nil ?_))))
  · have st_eq : ∀ (x y : IX) (ρ : IX → AV), ρ x = .ptr ⟨b, 0, 0⟩ → ρ y = v' → iop (.st 1 x y) ρ ((h.new Z).set h.n Y) = some (.val .undef (((h.new Z).set h.n Y).set b X)) := by
      intro x y ρ hx hy
      simp only [iop, hx, hy, S2]
      rw [if_pos (by rw [d4]; rfl)]
      rfl
    exact st_eq _ _ _ (by kernel_rfl) (by kernel_rfl)
  have hln : (l.take n).length = n := by rw [List.length_take]; omega
  have hne : h.n ≠ b := by omega
  refine Wp.seq (Wp.region (Wo.all (by kernel_rfl) (Wp.ret ⟨.inr rfl, .tup [.sl ⟨h.n, 0, 0⟩ n (.ex n), .int .i64 0], by kernel_rfl, ?_⟩)))
  refine ⟨.sl ⟨h.n, 0, 0⟩ n (.ex n), v', rfl, ⟨by show b < h.n + 1; omega, by show H.get _ b = _; rw [H.get_set, hX], ?_, ?_⟩, ?_, ?_, fun a m c e => (d3 a m c e).1⟩
  · rcases d2 with ⟨e1, e2⟩ | ⟨a, c, e1, e2, e3⟩
    · exact .inl ⟨e1, e2⟩
    · obtain ⟨⟨a0, m0, c0, q1, q2⟩, _⟩ := d3 _ _ _ e1
      have hab : a.b ≠ b := by rw [← q2]; exact (hR.2.2.2 _ _ _ q1).1
      exact .inr ⟨a, c, e1, e2, by rw [ldn_same (H.get_set_ne _ b _ X hab)]; exact e3⟩
  · intro a m c e
    obtain ⟨⟨a0, m0, c0, q1, q2⟩, q3⟩ := d3 _ _ _ e
    exact ⟨by rw [← q2]; exact (hR.2.2.2 _ _ _ q1).1, q3⟩
  · refine .inr ⟨h.n, 0, Nat.le_refl _, by show h.n < h.n + 1; omega, by show H.get _ h.n = _; rw [H.get_set_ne _ b _ X hne, H.get_set, hY], .inr (by rw [hln])⟩
  · exact ⟨by show h.n ≤ h.n + 1; omega, fun k hk hkb => by show H.get _ k = _; rw [H.get_set_ne _ b _ X hkb, gK k (by omega)]⟩

/-- A number's bytes, the first one foremost. -/
def be (l : List UInt8) : Nat := l.foldl (fun a c => a * 256 + c.toNat) 0
theorem be_snoc (l : List UInt8) (c : UInt8) : be (l ++ [c]) = be l * 256 + c.toNat := by simp [be]
theorem be_from : ∀ (l : List UInt8) (a : Nat), l.foldl (fun a c => a * 256 + c.toNat) a < (a + 1) * 256 ^ l.length
  | [], a => by simp
  | c :: l, a => by
    have h1 := be_from l (a * 256 + c.toNat)
    have h2 := c.toNat_lt
    have h3 : (a * 256 + c.toNat + 1) * 256 ^ l.length ≤ (a + 1) * 256 * 256 ^ l.length := Nat.mul_le_mul_right _ (by omega)
    simp only [List.foldl_cons, List.length_cons, Nat.pow_succ]
    have h4 : (a + 1) * (256 ^ l.length * 256) = (a + 1) * 256 * 256 ^ l.length := by rw [Nat.mul_comm (256 ^ l.length), Nat.mul_assoc]
    rw [h4]
    exact Nat.lt_of_lt_of_le h1 h3
theorem be_lt (l : List UInt8) : be l < 256 ^ l.length := by have := be_from l 0; simpa [be] using this

theorem or_add {A c : Nat} (hA : A * 256 < 2 ^ 64) (hc : c < 256) : IntKind.u64.wrap (((BitVec.ofInt IntKind.u64.bits ((A * 256 : Nat) : Int) ||| BitVec.ofInt IntKind.u64.bits (c : Int)).toNat : Nat) : Int) = ((A * 256 + c : Nat) : Int) := by
  have e : (BitVec.ofInt IntKind.u64.bits ((A * 256 : Nat) : Int) ||| BitVec.ofInt IntKind.u64.bits (c : Int)).toNat = A * 256 + c := by
    rw [BitVec.toNat_or, BitVec.ofInt_natCast, BitVec.ofInt_natCast, BitVec.toNat_ofNat, BitVec.toNat_ofNat]
    have h1 : A * 256 % 2 ^ IntKind.u64.bits = A * 256 := Nat.mod_eq_of_lt (by simpa [IntKind.bits] using hA)
    have h2 : c % 2 ^ IntKind.u64.bits = c := Nat.mod_eq_of_lt (by simp [IntKind.bits]; omega)
    rw [h1, h2]
    have := Nat.shiftLeft_add_eq_or_of_lt (i := 8) (b := c) (by omega) A
    rw [Nat.shiftLeft_eq] at this
    exact this.symm
  rw [e, u64_fit _ (by omega)]

/-- The loop of the reader's Num. -/
theorem rdnum_loop {l : List UInt8} {blk g : Nat} {cc : Cp} {size : Nat} (hs : size ≤ 8) (hl : l.length = size) {h : H} (hg : h.get blk = some (.cells g 5 (bytesAV l) 0 false)) :
    ∀ (k i : Nat), i + k = size → ∀ (ts : List AV), ts.length = 42 → getL ts 7 = some (.sl ⟨blk, g, 0⟩ size cc) → getL ts 9 = some (.int .u64 (be (l.take i) : Nat)) → getL ts 28 = some (.int .i64 size) → getL ts 29 = some (.int .i64 i) →
      ∀ (Q : Ex → St → Prop), (∀ ts', ts'.length = 42 → getL ts' 9 = some (.int .u64 (be l : Nat)) → Q (.exit 0) (ts', h)) → Wp TF (.loop l27_1) (ts, h) Q := by
  intro k
  induction k with
  | zero =>
    intro i hi ts t0 t7 t9 t28 t29 Q hQ
    obtain rfl : i = size := by omega
    refine Wp.loop ?_
    simp [l27_1, t0, t28, t29, getL_put, len_put]
    refine hQ _ (by simp [t0, len_put]) ?_
    simp [getL_put, t9]
    rw [← hl, List.take_length]
  | succ k ih =>
    intro i hi ts t0 t7 t9 t28 t29 Q hQ
    refine Wp.loop ?_
    have hlt : i < size := by omega
    have hget : l[i]? = some (l[i]'(by omega)) := by simp [hl, hlt]
    obtain ⟨c, hc⟩ : ∃ c, l[i]? = some c := ⟨_, hget⟩
    have hld : h.ldg ⟨blk, g, i⟩ none = some (.int .u8 c.toNat) := by simp [H.ldg, H.ld, H.row, hg, get_byte, hc]
    have ht : l.take (i + 1) = l.take i ++ [c] := by rw [List.take_add_one, hc]; rfl
    have hA : be (l.take i) < 256 ^ i := by have := be_lt (l.take i); rwa [List.length_take, Nat.min_eq_left (by omega)] at this
    have hA2 : be (l.take i) * 256 < 2 ^ 64 := by
      have : 256 ^ i ≤ 256 ^ 7 := Nat.pow_le_pow_right (by omega) (by omega)
      omega
    have w1 : IntKind.i64.wrap ((i : Int) + 1) = (i : Int) + 1 := i64_fit _ (by omega)
    obtain ⟨A, hAe⟩ : ∃ A, A = be (l.take i) := ⟨_, rfl⟩
    rw [← hAe] at t9 hA2
    have w2 : IntKind.u64.wrap ((A : Int) * 256) = (A : Int) * 256 := u64_fit _ (by omega)
    have hc8 := c.toNat_lt
    have w3 : IntKind.u64.wrap ((c.toNat : Nat) : Int) = ((c.toNat : Nat) : Int) := u64_fit _ (by omega)
    have w4 := or_add hA2 (c := c.toNat) (by omega)
    have w5 : IntKind.u64.wrap (((BitVec.ofInt 64 ((A : Int) * 256) ||| BitVec.ofNat 64 c.toNat).toNat : Nat) : Int) = ((be (l.take (i + 1)) : Nat) : Int) := by
      rw [← BitVec.ofInt_natCast, ht, be_snoc, ← hAe, ← w4, Int.natCast_mul]
      rfl
    simp only [l27_1]
    simp [t0, t7, t9, t28, t29, getL_put, len_put, hlt, hld, IntKind.bits]
    refine ih (i + 1) (by omega) _ (by simp [t0, len_put]) (by simp [t7, getL_put]) ?_ (by simp [t28, getL_put]) (by simp [t0, getL_put, len_put, w1]) Q hQ
    simp [t0, getL_put, len_put, w2, w3]
    exact w5

def rdE (l : List UInt8) (size : Int) : Int := if ¬ (1 ≤ size ∧ size ≤ 4 ∨ size = 8) then 1 else if (l.length : Int) < size then 4 else 0

/-- The reader's Num where it answers a number. -/
theorem rdnum_run {h : H} {b : Nat} {v : AV} {l : List UInt8} (hR : Rd h b v l) {size : Nat} (hs : 1 ≤ size ∧ size ≤ 4 ∨ size = 8) (hn : size ≤ l.length) (hl : l.length ≤ maxRow) :
    ∃ r h', Runs TF 27 [.ptr ⟨b, 0, 0⟩, .int .i64 size] h r h' ∧ ∃ v', r = .tup [.int .u64 (be (l.take size) : Nat), .int .i64 0] ∧ Rd h' b v' (l.drop size) ∧ ExtB b h h' ∧ SB v v' := by
  refine Runs.ofP f27 rfl ?_
  have e0 : readyE l 0 = 0 := by simp [readyE]
  have hready := ready_run hR 0
  rw [e0] at hready
  have hsz := sized_run (size : Int) h
  rw [show decide (1 ≤ (size : Int) ∧ (size : Int) ≤ 4 ∨ (size : Int) = 8) = true by simp; omega] at hsz
  obtain ⟨r, h', c1, x, v', rfl, c2, c3, c4⟩ := take_run hR hn hl
  refine Wp.seq (Wp.region (Wo.all (by kernel_rfl) ?_))
  refine Wp.seq (Wp.seq (Wp.region (Wo.pre 1 (by kernel_rfl) (Wo.call (by kernel_rfl) (by kernel_rfl) hready (Wo.all (by kernel_rfl) ?_)))))
  refine Wp.seq (Wp.region (Wo.all (by kernel_rfl) ?_))
  refine Wp.cond false (by kernel_rfl) ?_
  refine Wp.skip ?_
  refine Wp.seq (Wp.seq (Wp.region (Wo.pre 1 (by kernel_rfl) (Wo.call (by kernel_rfl) (by kernel_rfl) hsz (Wo.all (by kernel_rfl) ?_)))))
  refine Wp.cond false (by kernel_rfl) ?_
  refine Wp.skip ?_
  refine Wp.seq (Wp.region (Wo.pre 2 (by kernel_rfl) (Wo.call (by kernel_rfl) (by kernel_rfl) c1 (Wo.all (by kernel_rfl) ?_))))
  refine Wp.seq (Wp.seq (Wp.region (Wo.all (by kernel_rfl) ?_)))
  refine Wp.cond false (by kernel_rfl) ?_
  refine Wp.skip ?_
  refine Wp.seq (Wp.region (Wo.all (by kernel_rfl) ?_))
  have hlt8 : size ≤ 8 := by omega
  have hln : (l.take size).length = size := by rw [List.length_take]; omega
  rcases c3 with ⟨rfl, e⟩ | ⟨blk, g, q1, q2, q3, q4⟩
  · exfalso
    rw [e] at hln
    simp at hln
    omega
  · rw [hln] at q4
    obtain ⟨cc, rfl⟩ : ∃ cc, x = .sl ⟨blk, g, 0⟩ size cc := by rcases q4 with rfl | rfl <;> exact ⟨_, rfl⟩
    refine Wp.seq (Wp.seq (Wp.region (Wo.all (by kernel_rfl) ?_)))
    refine Wp.block ?_
    refine rdnum_loop (cc := cc) hlt8 hln q3 size 0 (by omega) _ (by kernel_rfl) (by kernel_rfl) (by kernel_rfl) (by kernel_rfl) (by kernel_rfl) _ ?_
    intro ts' g1 g2
    show Wp TF _ (ts', h') _
    refine Wp.seq (Wp.region ?_)
    simp [g1, g2, getL_put, len_put]
    exact ⟨v', c2, c4⟩

/-- The reader's Num where it answers none: nothing is changed. -/
theorem rdnum_fail {h : H} {b : Nat} {v : AV} {l : List UInt8} (hR : Rd h b v l) {size : Int} (he : rdE l size ≠ 0) :
    Runs TF 27 [.ptr ⟨b, 0, 0⟩, .int .i64 size] h (.tup [.int .u64 0, .int .i64 (rdE l size)]) h := by
  refine Runs.of' f27 rfl ?_
  have e0 : readyE l 0 = 0 := by simp [readyE]
  have hready := ready_run hR 0
  rw [e0] at hready
  have hsz := sized_run size h
  refine Wp.seq (Wp.region (Wo.all (by kernel_rfl) ?_))
  refine Wp.seq (Wp.seq (Wp.region (Wo.pre 1 (by kernel_rfl) (Wo.call (by kernel_rfl) (by kernel_rfl) hready (Wo.all (by kernel_rfl) ?_)))))
  refine Wp.seq (Wp.region (Wo.all (by kernel_rfl) ?_))
  refine Wp.cond false (by kernel_rfl) ?_
  refine Wp.skip ?_
  by_cases hs : 1 ≤ size ∧ size ≤ 4 ∨ size = 8
  · have hlt : (l.length : Int) < size := by
      by_cases h1 : (l.length : Int) < size
      · exact h1
      · exact absurd (by simp [rdE, hs, h1]) he
    have e4 : rdE l size = 4 := by simp [rdE, hs, hlt]
    have er : readyE l size = 4 := by
      have : ¬ size < 0 := by omega
      simp [readyE, this, hlt]
    have ht := take_fail hR (n := size) (by rw [er]; decide)
    rw [er] at ht
    rw [decide_eq_true hs] at hsz
    refine Wp.seq (Wp.seq (Wp.region (Wo.pre 1 (by kernel_rfl) (Wo.call (by kernel_rfl) (by kernel_rfl) hsz (Wo.all (by kernel_rfl) ?_)))))
    refine Wp.cond false (by kernel_rfl) ?_
    refine Wp.skip ?_
    refine Wp.seq (Wp.region (Wo.pre 2 (by kernel_rfl) (Wo.call (by kernel_rfl) (by kernel_rfl) ht (Wo.all (by kernel_rfl) ?_))))
    refine Wp.seq (Wp.seq (Wp.region (Wo.all (by kernel_rfl) ?_)))
    refine Wp.cond true (by kernel_rfl) ?_
    refine Wp.seq (Wp.region (Wo.all (by kernel_rfl) (Wp.ret ?_)))
    rw [e4]
    exact ⟨.inr rfl, rfl, by kernel_rfl⟩
  · have e1 : rdE l size = 1 := by simp [rdE, hs]
    rw [decide_eq_false hs] at hsz
    refine Wp.seq (Wp.seq (Wp.region (Wo.pre 1 (by kernel_rfl) (Wo.call (by kernel_rfl) (by kernel_rfl) hsz (Wo.all (by kernel_rfl) ?_)))))
    refine Wp.cond true (by kernel_rfl) ?_
    refine Wp.seq (Wp.region (Wo.all (by kernel_rfl) (Wp.ret ?_)))
    rw [e1]
    exact ⟨.inr rfl, rfl, by kernel_rfl⟩

/-- The reader's Vec where it answers a row. -/
theorem vec_run {h : H} {b : Nat} {v : AV} {l : List UInt8} (hR : Rd h b v l) {size n : Nat} (hs : 1 ≤ size ∧ size ≤ 3) (hbe : be (l.take size) = n) (hn : size + n ≤ l.length) (hl : l.length ≤ maxRow) :
    ∃ r h', Runs TF 29 [.ptr ⟨b, 0, 0⟩, .int .i64 size] h r h' ∧ ∃ x v', r = .tup [x, .int .i64 0] ∧ Rd h' b v' (l.drop (size + n)) ∧ Ow h.n h' x ((l.drop size).take n) ∧ ExtB b h h' ∧ SB v v' := by
  refine Runs.ofP f29 rfl ?_
  obtain ⟨l0, l1⟩ := hR.ld
  have e0 : readyE l 0 = 0 := by simp [readyE]
  have hready := ready_run hR 0
  rw [e0] at hready
  have hsz := sized_run (size : Int) h
  rw [show decide (1 ≤ (size : Int) ∧ (size : Int) ≤ 4 ∨ (size : Int) = 8) = true by simp; omega] at hsz
  obtain ⟨r, h1, c1, v1, rfl, c2, c3⟩ := rdnum_run hR (size := size) (by omega) (by omega) hl
  rw [hbe] at c1
  obtain ⟨r, h2, d1, x, v2, rfl, d2, d3, d4⟩ := take_run c2 (n := n) (by rw [List.length_drop]; omega) (by rw [List.length_drop]; omega)
  have hw : IntKind.i64.wrap (n : Int) = n := i64_fit _ (by unfold maxRow at hl; omega)
  have d1' : Runs TF 31 [.ptr ⟨b, 0, 0⟩, .int .i64 (IntKind.i64.wrap (n : Int))] h1 (.tup [x, .int .i64 0]) h2 := by rw [hw]; exact d1
  refine Wp.seq (Wp.region (Wo.all (by kernel_rfl) ?_))
  refine Wp.seq (Wp.seq (Wp.region (Wo.pre 1 (by kernel_rfl) (Wo.call (by kernel_rfl) (by kernel_rfl) hready (Wo.all (by kernel_rfl) ?_)))))
  refine Wp.seq (Wp.region (Wo.all (by kernel_rfl) ?_))
  refine Wp.cond false (by kernel_rfl) ?_
  refine Wp.skip ?_
  refine Wp.seq (Wp.seq (Wp.region (Wo.pre 1 (by kernel_rfl) (Wo.call (by kernel_rfl) (by kernel_rfl) hsz (Wo.all (by kernel_rfl) ?_)))))
  refine Wp.cond (decide ((size : Int) > 3)) (by kernel_rfl) ?_
  rw [if_neg (by simp; omega)]
  refine Wp.skip ?_
  refine Wp.seq (Wp.region (Wo.pre 3 (by kernel_rfl) (Wo.val v h (by kernel_rfl) (iop_ld (a := ⟨b, 0, 0⟩) (by kernel_rfl) l0) (Wo.all (by kernel_rfl) ?_))))
  refine Wp.seq (Wp.region (Wo.pre 2 (by kernel_rfl) (Wo.call (by kernel_rfl) (by kernel_rfl) c1 (Wo.all (by kernel_rfl) ?_))))
  refine Wp.seq (Wp.seq (Wp.region (Wo.all (by kernel_rfl) ?_)))
  refine Wp.cond false (by kernel_rfl) ?_
  refine Wp.skip ?_
  refine Wp.seq (Wp.region (Wo.pre 3 (by kernel_rfl) (Wo.call (by kernel_rfl) (by kernel_rfl) d1' (Wo.all (by kernel_rfl) ?_))))
  refine Wp.seq (Wp.seq (Wp.region (Wo.all (by kernel_rfl) ?_)))
  refine Wp.cond false (by kernel_rfl) ?_
  refine Wp.skip ?_
  refine Wp.seq (Wp.region (Wo.all (by kernel_rfl) (Wp.ret ⟨.inr rfl, .tup [x, .int .i64 0], by kernel_rfl, ?_⟩)))
  refine ⟨x, v2, rfl, by rw [← List.drop_drop]; exact d2, d3.mono c3.1.1, c3.1.trans d4.1, c3.2.trans d4.2⟩

/-- The reader's Vec where the number itself is cut off. -/
theorem vec_short {h : H} {b : Nat} {v : AV} {l : List UInt8} (hR : Rd h b v l) {size : Nat} (hs : 1 ≤ size ∧ size ≤ 3) (hn : l.length < size) :
    Runs TF 29 [.ptr ⟨b, 0, 0⟩, .int .i64 size] h (.tup [.nils, .int .i64 4]) h := by
  refine Runs.of' f29 rfl ?_
  obtain ⟨l0, l1⟩ := hR.ld
  have e0 : readyE l 0 = 0 := by simp [readyE]
  have hready := ready_run hR 0
  rw [e0] at hready
  have hsz := sized_run (size : Int) h
  rw [show decide (1 ≤ (size : Int) ∧ (size : Int) ≤ 4 ∨ (size : Int) = 8) = true by simp; omega] at hsz
  have e4 : rdE l size = 4 := by
    have h1 : (1 ≤ (size : Int) ∧ (size : Int) ≤ 4 ∨ (size : Int) = 8) := by omega
    have h2 : (l.length : Int) < (size : Int) := by omega
    simp only [rdE, h1, h2, not_true, if_true, if_false]
  have c1 := rdnum_fail hR (size := size) (by rw [e4]; decide)
  rw [e4] at c1
  refine Wp.seq (Wp.region (Wo.all (by kernel_rfl) ?_))
  refine Wp.seq (Wp.seq (Wp.region (Wo.pre 1 (by kernel_rfl) (Wo.call (by kernel_rfl) (by kernel_rfl) hready (Wo.all (by kernel_rfl) ?_)))))
  refine Wp.seq (Wp.region (Wo.all (by kernel_rfl) ?_))
  refine Wp.cond false (by kernel_rfl) ?_
  refine Wp.skip ?_
  refine Wp.seq (Wp.seq (Wp.region (Wo.pre 1 (by kernel_rfl) (Wo.call (by kernel_rfl) (by kernel_rfl) hsz (Wo.all (by kernel_rfl) ?_)))))
  refine Wp.cond (decide ((size : Int) > 3)) (by kernel_rfl) ?_
  rw [if_neg (by simp; omega)]
  refine Wp.skip ?_
  refine Wp.seq (Wp.region (Wo.pre 3 (by kernel_rfl) (Wo.val v h (by kernel_rfl) (iop_ld (a := ⟨b, 0, 0⟩) (by kernel_rfl) l0) (Wo.all (by kernel_rfl) ?_))))
  refine Wp.seq (Wp.region (Wo.pre 2 (by kernel_rfl) (Wo.call (by kernel_rfl) (by kernel_rfl) c1 (Wo.all (by kernel_rfl) ?_))))
  refine Wp.seq (Wp.seq (Wp.region (Wo.all (by kernel_rfl) ?_)))
  refine Wp.cond true (by kernel_rfl) ?_
  refine Wp.seq (Wp.region (Wo.all (by kernel_rfl) (Wp.ret ?_)))
  exact ⟨.inr rfl, rfl, by kernel_rfl⟩

/-- The reader's Vec where the row is cut off: it stands where it stood. -/
theorem vec_cut {h : H} {b : Nat} {v : AV} {l : List UInt8} (hR : Rd h b v l) {size n : Nat} (hs : 1 ≤ size ∧ size ≤ 3) (hbe : be (l.take size) = n) (hsl : size ≤ l.length) (hn : l.length < size + n) (hl : l.length ≤ maxRow) (hn63 : n < 2 ^ 63) :
    ∃ h', Runs TF 29 [.ptr ⟨b, 0, 0⟩, .int .i64 size] h (.tup [.nils, .int .i64 4]) h' ∧ Rd h' b v l ∧ ExtB b h h' := by
  obtain ⟨l0, l1⟩ := hR.ld
  have e0 : readyE l 0 = 0 := by simp [readyE]
  have hready := ready_run hR 0
  rw [e0] at hready
  have hsz := sized_run (size : Int) h
  rw [show decide (1 ≤ (size : Int) ∧ (size : Int) ≤ 4 ∨ (size : Int) = 8) = true by simp; omega] at hsz
  obtain ⟨r, h1, c1, v1, rfl, c2, c3⟩ := rdnum_run hR (size := size) (by omega) (by omega) hl
  rw [hbe] at c1
  have hw : IntKind.i64.wrap (n : Int) = n := i64_fit _ (by omega)
  have e4 : readyE (l.drop size) n = 4 := by
    have h1 : ¬ ((n : Int) < 0) := by omega
    have h2 : (((l.drop size).length : Nat) : Int) < (n : Int) := by rw [List.length_drop]; omega
    simp only [readyE, h1, h2, if_true, if_false]
  have d1 := take_fail c2 (n := n) (by rw [e4]; decide)
  rw [e4] at d1
  have d1' : Runs TF 31 [.ptr ⟨b, 0, 0⟩, .int .i64 (IntKind.i64.wrap (n : Int))] h1 (.tup [.nils, .int .i64 4]) h1 := by rw [hw]; exact d1
  have hv : v.cells = [v] ∧ v.one = true := by rcases hR.2.2.1 with ⟨rfl, _⟩ | ⟨_, _, rfl, _, _⟩ <;> exact ⟨rfl, rfl⟩
  obtain ⟨X, hX⟩ : ∃ X, X = Blk.cells 0 121 [v, .bool true] 0 false := ⟨_, rfl⟩
  have S2 : h1.st ⟨b, 0, 0⟩ v.cells = some (h1.set b X) := by
    unfold H.st
    simp only [c2.2.1, hv.1]
    rw [if_pos (by simp [hv.2])]
    rw [hX]
    rfl
  have st_eq : ∀ (x y : IX) (ρ : IX → AV), ρ x = .ptr ⟨b, 0, 0⟩ → ρ y = v → iop (.st 1 x y) ρ h1 = some (.val .undef (h1.set b X)) := by
    intro x y ρ hx hy
    simp only [iop, hx, hy, S2]
    rw [if_pos (by rw [hv.1]; rfl)]
    rfl
  refine ⟨h1.set b X, Runs.of' f29 rfl ?_, ⟨c2.1, by rw [h1.get_set, hX], ?_, hR.2.2.2⟩, c3.1.1, fun k hk hkb => by rw [h1.get_set_ne b k X hkb]; exact c3.1.2 k hk hkb⟩
  · refine Wp.seq (Wp.region (Wo.all (by kernel_rfl) ?_))
    refine Wp.seq (Wp.seq (Wp.region (Wo.pre 1 (by kernel_rfl) (Wo.call (by kernel_rfl) (by kernel_rfl) hready (Wo.all (by kernel_rfl) ?_)))))
    refine Wp.seq (Wp.region (Wo.all (by kernel_rfl) ?_))
    refine Wp.cond false (by kernel_rfl) ?_
    refine Wp.skip ?_
    refine Wp.seq (Wp.seq (Wp.region (Wo.pre 1 (by kernel_rfl) (Wo.call (by kernel_rfl) (by kernel_rfl) hsz (Wo.all (by kernel_rfl) ?_)))))
    refine Wp.cond (decide ((size : Int) > 3)) (by kernel_rfl) ?_
    rw [if_neg (by simp; omega)]
    refine Wp.skip ?_
    refine Wp.seq (Wp.region (Wo.pre 3 (by kernel_rfl) (Wo.val v h (by kernel_rfl) (iop_ld (a := ⟨b, 0, 0⟩) (by kernel_rfl) l0) (Wo.all (by kernel_rfl) ?_))))
    refine Wp.seq (Wp.region (Wo.pre 2 (by kernel_rfl) (Wo.call (by kernel_rfl) (by kernel_rfl) c1 (Wo.all (by kernel_rfl) ?_))))
    refine Wp.seq (Wp.seq (Wp.region (Wo.all (by kernel_rfl) ?_)))
    refine Wp.cond false (by kernel_rfl) ?_
    refine Wp.skip ?_
    refine Wp.seq (Wp.region (Wo.pre 3 (by kernel_rfl) (Wo.call (by kernel_rfl) (by kernel_rfl) d1' (Wo.all (by kernel_rfl) ?_))))
    refine Wp.seq (Wp.seq (Wp.region (Wo.all (by kernel_rfl) ?_)))
    refine Wp.cond true (by kernel_rfl) ?_
    refine Wp.seq (Wp.region (Wo.pre 4 (by kernel_rfl) (Wo.val .undef (h1.set b X) (by kernel_rfl) (st_eq _ _ _ (by kernel_rfl) (by kernel_rfl)) (Wo.nil ?_))))
    refine Wp.seq (Wp.region (Wo.all (by kernel_rfl) (Wp.ret ?_)))
    exact ⟨.inr rfl, rfl, by kernel_rfl⟩
  · rcases hR.2.2.1 with ⟨e1, e2⟩ | ⟨a, c, e1, e2, e3⟩
    · exact .inl ⟨e1, e2⟩
    · have hab := (hR.2.2.2 _ _ _ e1).1
      exact .inr ⟨a, c, e1, Nat.lt_of_lt_of_le e2 c3.1.1, by rw [ldn_same (h1.get_set_ne b _ X hab), ldn_same (c3.1.2 _ e2 hab)]; exact e3⟩

theorem numE_lt {n : Nat} {size : Nat} (hs : 1 ≤ size ∧ size ≤ 3) (he : numE n size = 0) : n < 16777216 := by
  have h1 : (1 ≤ (size : Int) ∧ (size : Int) ≤ 4 ∨ (size : Int) = 8) := by omega
  simp only [numE, h1, not_true, if_false, Int.toNat_natCast] at he
  split at he
  · cases he
  · rename_i h2
    have h3 : 2 ^ (8 * size) ≤ 2 ^ 24 := Nat.pow_le_pow_right (by omega) (by omega)
    omega

/-- wire.Vec, sizes 1 to 3. -/
theorem wvec_run {h : H} {x y : AV} {lx ly : List UInt8} (hx : Bs h x lx) (hy : Bs h y ly) {size : Nat} (hs : 1 ≤ size ∧ size ≤ 3) (hl : lx.length + 16777224 ≤ maxRow) (hl2 : ly.length ≤ maxRow) :
    ∃ r h', Runs TF 21 [x, y, .int .i64 size] h r h' ∧ ∃ z, r = .tup [z, .int .i64 (numE ly.length size)] ∧ Ext h h' ∧ Ow h.n h' z (if numE ly.length size = 0 then lx ++ digits ly.length size size ++ ly else []) := by
  refine Runs.ofP f21 rfl ?_
  have h64 : ly.length < 2 ^ 64 := by have := hl2; unfold maxRow at this; omega
  have hw : IntKind.u64.wrap ((ly.length : Nat) : Int) = ((ly.length : Nat) : Int) := u64_fit _ (by omega)
  obtain ⟨r, h1, c1, z1, rfl, c2, c3⟩ := num_run hx (by omega) h64 (size : Int)
  rw [← hw] at c1
  refine Wp.seq (Wp.region (Wo.all (by kernel_rfl) ?_))
  refine Wp.seq (Wp.seq (Wp.region (Wo.all (by kernel_rfl) ?_)))
  refine Wp.cond (decide ((size : Int) > 3)) (by kernel_rfl) ?_
  rw [if_neg (by simp; omega)]
  refine Wp.skip ?_
  by_cases he : numE ly.length size = 0
  · rw [he] at c1
    rw [if_pos he] at c3
    obtain ⟨z, h2, e1, e2, e3, e4⟩ := Ow.app c3 (hy.ext c2) c2.1 (by rw [List.length_append, digits_len]; have := numE_lt hs he; omega)
    have app_eq : ∀ (p q : IX) (ρ : IX → AV), ρ p = z1 → ρ q = y → iop (.app 5 1 1 false p q) ρ h1 = some (.val z h2) := by
      intro p q ρ hp hq
      simp only [iop, hp, hq, hy.notStr, BEq.rfl, if_true, e1]
    refine Wp.seq (Wp.region (Wo.pre 2 (by kernel_rfl) (Wo.val (.int .i64 ly.length) h (by kernel_rfl) (hy.len (by kernel_rfl)) (Wo.pre 2 (by kernel_rfl) (Wo.call (by kernel_rfl) (by kernel_rfl) c1 (Wo.all (by kernel_rfl) ?_))))))
    refine Wp.seq (Wp.seq (Wp.region (Wo.all (by kernel_rfl) ?_)))
    refine Wp.cond false (by kernel_rfl) ?_
    refine Wp.skip ?_
    refine Wp.seq (Wp.region (Wo.pre 2 (by kernel_rfl) (Wo.val z h2 (by kernel_rfl) (app_eq _ _ _ (by kernel_rfl) (by kernel_rfl)) (Wo.all (by kernel_rfl) (Wp.ret ⟨.inr rfl, .tup [z, .int .i64 0], by kernel_rfl, ?_⟩)))))
    refine ⟨z, by rw [he], ⟨Nat.le_trans c2.1 e3.1, fun k hk => (e3.2 k hk).trans (c2.2 k hk)⟩, ?_⟩
    rw [if_pos he]
    exact e2
  · have e3 : numE ly.length size = 3 := by
      have h1 : (1 ≤ (size : Int) ∧ (size : Int) ≤ 4 ∨ (size : Int) = 8) := by omega
      simp only [numE, h1, not_true, if_false] at he ⊢
      split at he
      · rename_i h2; rw [if_pos h2]
      · exact absurd rfl he
    rw [if_neg he] at c3
    rw [e3] at c1
    refine Wp.seq (Wp.region (Wo.pre 2 (by kernel_rfl) (Wo.val (.int .i64 ly.length) h (by kernel_rfl) (hy.len (by kernel_rfl)) (Wo.pre 2 (by kernel_rfl) (Wo.call (by kernel_rfl) (by kernel_rfl) c1 (Wo.all (by kernel_rfl) ?_))))))
    refine Wp.seq (Wp.seq (Wp.region (Wo.all (by kernel_rfl) ?_)))
    refine Wp.cond true (by kernel_rfl) ?_
    refine Wp.seq (Wp.region (Wo.all (by kernel_rfl) (Wp.ret ⟨.inr rfl, .tup [.nils, .int .i64 3], by kernel_rfl, ?_⟩)))
    refine ⟨.nils, by rw [e3], c2, ?_⟩
    rw [if_neg he]
    exact .inl ⟨rfl, rfl⟩
end Go.Det

/- The law WireSame: what is taken as a vector and laid down again is the bytes that went. -/
set_option linter.unusedVariables false
set_option linter.unusedSimpArgs false
set_option linter.unusedSectionVars false
namespace Go.Det
open Go.Proofs

theorem Rd.ext {h h' : H} {b : Nat} {v : AV} {l : List UInt8} (hR : Rd h b v l) (hx : Ext h h') : Rd h' b v l :=
  ⟨Nat.lt_of_lt_of_le hR.1 hx.1, by rw [hx.2 _ hR.1]; exact hR.2.1, hR.2.2.1.ext hx, hR.2.2.2⟩

theorem Bs.lt {h : H} {v : AV} {l : List UInt8} (hb : Bs h v l) {a : AA} {n : Nat} {c : Cp} (e : v = .sl a n c) : a.b < h.n := by
  rcases hb with ⟨rfl, rfl⟩ | ⟨a', c', rfl, h1, h2⟩
  · simp at e
  · simp only [AV.sl.injEq] at e; rw [← e.1]; exact h1

/-- The digits of a number that bytes are. -/
theorem be_digits : ∀ (l : List UInt8), digits (be l) l.length l.length = l := by
  intro l
  have key : ∀ (r l : List UInt8) (k : Nat), k = l.length → ∀ m, m = (l ++ r).length → digits (be (l ++ r)) m k = l := by
    suffices hs : ∀ (N : Nat) (r l : List UInt8), l.length = N → ∀ m, m = (l ++ r).length → digits (be (l ++ r)) m N = l from fun r l k hk m hm => by rw [hk]; exact hs _ r l rfl m hm
    intro N
    induction N with
    | zero => intro r l hk m hm; rw [List.length_eq_zero_iff] at hk; subst hk; rfl
    | succ N ih =>
      intro r l0 hk m hm
      obtain ⟨l, c, rfl⟩ : ∃ l c, l0 = l ++ [c] := ⟨l0.dropLast, l0.getLast (by intro e; simp [e] at hk), (List.dropLast_concat_getLast _).symm⟩
      have hk : l.length = N := by simpa using hk
      subst hk
      rw [digits_succ, List.append_assoc, ih ([c] ++ r) l rfl m (by rw [hm]; simp)]
      congr 1
      congr 1
      unfold dig b8
      have hm2 : m - 1 - l.length = r.length := by rw [hm]; simp only [List.length_append, List.length_cons, List.length_nil]; omega
      rw [hm2]
      have hb : be (l ++ ([c] ++ r)) = (be l * 256 + c.toNat) * 256 ^ r.length + be r := by
        have fold : ∀ (r : List UInt8) (a : Nat), r.foldl (fun a c => a * 256 + c.toNat) a = a * 256 ^ r.length + be r := by
          intro r
          induction r with
          | nil => intro a; simp [be]
          | cons d r ih2 =>
            intro a
            rw [List.foldl_cons, ih2]
            have : be (d :: r) = d.toNat * 256 ^ r.length + be r := by
              show List.foldl _ (0 * 256 + d.toNat) r = _
              rw [ih2]; simp
            rw [this, Nat.add_mul, List.length_cons, Nat.pow_succ]
            have : a * 256 * 256 ^ r.length = a * (256 ^ r.length * 256) := by rw [Nat.mul_assoc, Nat.mul_comm 256]
            omega
        show List.foldl _ 0 (l ++ ([c] ++ r)) = _
        rw [List.foldl_append, List.foldl_append]
        show List.foldl _ (be l * 256 + c.toNat) r = _
        rw [fold]
      rw [hb]
      have hlt := be_lt r
      have e8 : (2 : Int) ^ (8 * r.length) = ((256 ^ r.length : Nat) : Int) := by
        rw [Int.natCast_pow, Int.pow_mul]; rfl
      rw [e8, Int.fdiv_eq_ediv_of_nonneg _ (Int.natCast_nonneg _), ← Int.natCast_ediv]
      have hpos : 0 < 256 ^ r.length := Nat.pos_of_ne_zero (by simp)
      rw [Nat.add_comm, Nat.add_mul_div_right _ _ hpos, Nat.div_eq_of_lt hlt]
      have hc := c.toNat_lt
      have : ((((0 + (be l * 256 + c.toNat) : Nat) : Int) % 256).toNat) = c.toNat := by omega
      rw [this]
      simp
  have := key [] l l.length rfl l.length (by simp)
  rwa [List.append_nil] at this

end Go.Det

/- What is signed for a head: the program's bytes and the reference's. -/
set_option linter.unusedVariables false
set_option linter.unusedSimpArgs false
namespace Go.Det
open Go.Proofs
attribute [local simp] skip_iff ret_iff exit_iff seq_iff block_iff thenQ_normal thenQ_ret thenQ_exit thenQ_goto blockQ_normal blockQ_ret blockQ_exit blockQ_goto condQ_bool cond_iff region_iff wo_nil ansQ_val ansQ_call wo_cons wo_guard wanted put setL getL ev iop binop binInt shInt asI retV resOf unop getL_put len_put draw_iff wd_nil wd_quiet wd_act holds_nil holds_cons
attribute [local congr] ansQ_congr condQ_congr

theorem Bs.two (h : H) (c d : UInt8) : Ow h.n (h.new (.cells 0 5 [.int .u8 c.toNat, .int .u8 d.toNat] 0 false)) (.sl ⟨h.n, 0, 0⟩ 2 (.ex 2)) [c, d] :=
  .inr ⟨h.n, 0, Nat.le_refl _, by simp, by rw [h.get_new]; rfl, .inr rfl⟩

end Go.Det

/- The reference's writers, any size; the program's Vec, any size. -/
set_option linter.unusedVariables false
set_option linter.unusedSimpArgs false
set_option linter.unusedSectionVars false
namespace Go.Det
open Go.Proofs
attribute [local irreducible] Wp Wo Wd iop ev slots quiets wanted put

theorem rsized_run (s : Int) (h : H) : Runs TF 73 [.int .i64 s] h (.bool (decide (1 ≤ s ∧ s ≤ 4 ∨ s = 8))) h := by
  by_cases h5 : s = 8
  · subst h5; exact rsized8_run h
  · by_cases h0 : 1 ≤ s ∧ s ≤ 4
    · have : s = 1 ∨ s = 2 ∨ s = 3 ∨ s = 4 := by omega
      rcases this with rfl | rfl | rfl | rfl <;> (refine Runs.of' f73 rfl ?_; exact Wp.seq (Wp.region (Wo.all (by kernel_rfl) (Wp.seq (Wp.region (Wo.all (by kernel_rfl) (Wp.ret ⟨.inr rfl, rfl, (by kernel_rfl)⟩)))))))
    · have e : decide (1 ≤ s ∧ s ≤ 4 ∨ s = 8) = false := by simp; omega
      rw [e]
      have e1 : (s == 1) = false := by simp; omega
      have e2 : (s == 2) = false := by simp; omega
      have e3 : (s == 3) = false := by simp; omega
      have e4 : (s == 4) = false := by simp; omega
      have e5 : (s == 8) = false := by simp; omega
      refine Runs.of' f73 rfl ?_
      refine Wp.seq ?_
      refine Wp.region ?_
      refine Wo.pre 1 (by kernel_rfl) ?_
      refine Wo.nil ?_
      refine Wp.seq ?_
      refine Wp.region ?_
      refine Wo.pre 1 (by kernel_rfl) ?_
      refine Wo.val (.bool false) h (by kernel_rfl) (iop_eqB (k := .i64) (a := s) (b := 1) false (by kernel_rfl) (by kernel_rfl) e1) ?_
      refine Wo.pre 1 (by kernel_rfl) ?_
      refine Wo.pre 1 (by kernel_rfl) ?_
      refine Wo.val (.bool false) h (by kernel_rfl) (iop_eqB (k := .i64) (a := s) (b := 2) false (by kernel_rfl) (by kernel_rfl) e2) ?_
      refine Wo.pre 1 (by kernel_rfl) ?_
      refine Wo.pre 1 (by kernel_rfl) ?_
      refine Wo.pre 1 (by kernel_rfl) ?_
      refine Wo.val (.bool false) h (by kernel_rfl) (iop_eqB (k := .i64) (a := s) (b := 3) false (by kernel_rfl) (by kernel_rfl) e3) ?_
      refine Wo.pre 1 (by kernel_rfl) ?_
      refine Wo.pre 1 (by kernel_rfl) ?_
      refine Wo.pre 1 (by kernel_rfl) ?_
      refine Wo.val (.bool false) h (by kernel_rfl) (iop_eqB (k := .i64) (a := s) (b := 4) false (by kernel_rfl) (by kernel_rfl) e4) ?_
      refine Wo.pre 1 (by kernel_rfl) ?_
      refine Wo.pre 1 (by kernel_rfl) ?_
      refine Wo.pre 1 (by kernel_rfl) ?_
      refine Wo.val (.bool false) h (by kernel_rfl) (iop_eqB (k := .i64) (a := s) (b := 8) false (by kernel_rfl) (by kernel_rfl) e5) ?_
      refine Wo.pre 1 (by kernel_rfl) ?_
      refine Wo.pre 1 (by kernel_rfl) ?_
      refine Wo.nil ?_
      exact Wp.ret ⟨.inr rfl, rfl, (by kernel_rfl)⟩
theorem rnum_run {b : AV} {l : List UInt8} {h : H} (hb : Bs h b l) (hl : l.length + 8 ≤ maxRow) {n : Nat} (hn : n < 2 ^ 64) (size : Int) :
    ∃ v h', Runs TF 20 [b, .int .u64 n, .int .i64 size] h v h' ∧ ∃ x, v = .tup [x, .int .i64 (numE n size)] ∧ Ext h h' ∧ Ow h.n h' x (if numE n size = 0 then l ++ digits n size.toNat size.toNat else []) := by
  refine Runs.ofP f20 rfl ?_
  have hz := rsized_run size h
  by_cases hs : 1 ≤ size ∧ size ≤ 4 ∨ size = 8
  · rw [decide_eq_true hs] at hz
    obtain ⟨m, rfl⟩ : ∃ m : Nat, size = m := ⟨size.toNat, by omega⟩
    have hm8 : m ≤ 8 := by omega
    have hmax : 8 < maxRow := by decide
    have hm : m ≤ maxRow := by omega
    have w1 : IntKind.i64.wrap ((m : Int) - 1) = (m : Int) - 1 := i64_fit _ (by omega)
    have w2 : n / 256 ^ (m - m) = n := by simp
    refine Wp.seq ?_
    refine Wp.region ?_
    refine Wo.pre 8 (by kernel_rfl) ?_
    refine Wo.nil ?_
    refine Wp.seq ?_
    refine Wp.seq ?_
    refine Wp.region ?_
    refine Wo.pre 1 (by kernel_rfl) ?_
    refine Wo.call (by kernel_rfl) (by kernel_rfl) (hz) ?_
    refine Wo.pre 8 (by kernel_rfl) ?_
    refine Wo.nil ?_
    refine Wp.cond false (by kernel_rfl) ?_
    refine Wp.skip ?_
    refine Wp.seq ?_
    refine Wp.region ?_
    refine Wo.pre 1 (by kernel_rfl) ?_
    refine Wo.val (.sl ⟨h.n, 0, 0⟩ m (.ex m)) (h.new (.cells 0 5 (List.replicate m (.int .u8 0)) 0 false)) (by kernel_rfl) (iop_mkS (k := .i64) (by kernel_rfl) hm) ?_
    refine Wo.pre 8 (by kernel_rfl) ?_
    refine Wo.nil ?_
    refine Wp.seq ?_
    refine Wp.seq ?_
    refine Wp.region ?_
    refine Wo.pre 8 (by kernel_rfl) ?_
    refine Wo.nil ?_
    refine Wp.block ?_
    refine rnum_loop (size := m) hn (by omega) (blk := h.n) m (Nat.le_refl _) _ _ (by kernel_rfl) (by simp) (by rw [w2]; kernel_rfl) (by kernel_rfl) (by rw [← w1]; kernel_rfl) (by rw [h.get_new]; simp [bytesAV, digits_len]) _ ?_
    intro ts' h' g0 gb g1 g8 gc gn go
    have gb : getL ts' 0 = some b := gb.trans (by kernel_rfl)
    obtain ⟨q, hq⟩ : ∃ q, q = n / 256 ^ m := ⟨_, rfl⟩
    rw [← hq] at g1
    have he : Ext h h' := ⟨by rw [gn]; simp, fun k hk => by rw [go k (by omega)]; exact h.get_new_ne k _ (by omega)⟩
    rw [laid_eq g0 [(0, b), (1, .int .u64 q), (8, .sl ⟨h.n, 0, 0⟩ m (.ex m))] (by simp [g1, g8, gb])]
    have hp : (2 : Nat) ^ (8 * m) = 256 ^ m := by rw [Nat.pow_mul]
    by_cases hbig : 2 ^ (8 * m) ≤ n
    · have e3 : numE n (m : Int) = 3 := by simp only [numE, hs, Int.toNat_natCast, hbig, not_true, if_false, if_true]
      have hq0 : decide ((q : Int) > 0) = true := by
        have : 0 < q := by rw [hq]; exact Nat.div_pos (by rw [← hp]; exact hbig) (Nat.pos_of_ne_zero (by simp))
        simpa using this
      refine Wp.seq ?_
      refine Wp.seq ?_
      refine Wp.region ?_
      refine Wo.pre 8 (by kernel_rfl) ?_
      refine Wo.nil ?_
      refine Wp.cond (decide ((q : Int) > 0)) (by kernel_rfl) ?_
      rw [hq0]
      refine Wp.seq ?_
      refine Wp.region ?_
      refine Wo.pre 8 (by kernel_rfl) ?_
      refine Wo.nil ?_
      rw [e3]
      exact Wp.ret ⟨.inr rfl, .tup [.nils, .int .i64 3], (by kernel_rfl), .nils, rfl, he, .inl ⟨rfl, rfl⟩⟩
    · have e0 : numE n (m : Int) = 0 := by simp only [numE, hs, Int.toNat_natCast, hbig, not_true, if_false]
      have hq0 : q = 0 := by rw [hq]; exact Nat.div_eq_of_lt (by rw [← hp]; omega)
      subst hq0
      obtain ⟨x, h2, c1, c2, c3⟩ := own_run (hb.ext he) (by omega)
      have hy : Bs h' (.sl ⟨h.n, 0, 0⟩ m (.ex m)) (digits n m m) := (Ow.bs (lo := h.n) (.inr ⟨h.n, 0, Nat.le_refl _, by rw [gn]; simp, gc, .inr (by rw [digits_len])⟩))
      obtain ⟨y, h3, e1, e2, e3, _⟩ := Ow.app c3 (hy.ext c2) c2.1 (by rw [digits_len]; omega)
      refine Wp.seq ?_
      refine Wp.seq ?_
      refine Wp.region ?_
      refine Wo.pre 8 (by kernel_rfl) ?_
      refine Wo.nil ?_
      refine Wp.cond false (by kernel_rfl) ?_
      refine Wp.skip ?_
      refine Wp.seq ?_
      refine Wp.region ?_
      refine Wo.pre 1 (by kernel_rfl) ?_
      refine Wo.call (by kernel_rfl) (by kernel_rfl) (c1) ?_
      refine Wo.pre 1 (by kernel_rfl) ?_
      refine Wo.val y h3 (by kernel_rfl) (iop_app (v := x) (w := .sl ⟨h.n, 0, 0⟩ m (.ex m)) (by kernel_rfl) (by kernel_rfl) rfl e1) ?_
      refine Wo.pre 8 (by kernel_rfl) ?_
      refine Wo.nil ?_
      have hec := he.trans c2
      rw [e0]
      exact Wp.ret ⟨.inr rfl, .tup [y, .int .i64 0], (by kernel_rfl), y, rfl, ⟨Nat.le_trans hec.1 e3.1, fun k hk => (e3.2 k (Nat.lt_of_lt_of_le hk he.1)).trans (hec.2 k hk)⟩, e2.mono he.1⟩
  · rw [decide_eq_false hs] at hz
    have e1 : numE n size = 1 := by simp only [numE, hs, not_false_eq_true, if_true]
    refine Wp.seq ?_
    refine Wp.region ?_
    refine Wo.pre 8 (by kernel_rfl) ?_
    refine Wo.nil ?_
    refine Wp.seq ?_
    refine Wp.seq ?_
    refine Wp.region ?_
    refine Wo.pre 1 (by kernel_rfl) ?_
    refine Wo.call (by kernel_rfl) (by kernel_rfl) (hz) ?_
    refine Wo.pre 8 (by kernel_rfl) ?_
    refine Wo.nil ?_
    refine Wp.cond true (by kernel_rfl) ?_
    refine Wp.seq ?_
    refine Wp.region ?_
    refine Wo.pre 8 (by kernel_rfl) ?_
    refine Wo.nil ?_
    rw [e1]
    exact Wp.ret ⟨.inr rfl, .tup [.nils, .int .i64 1], (by kernel_rfl), .nils, rfl, Ext.refl h, .inl ⟨rfl, rfl⟩⟩

def vecE (n : Nat) (size : Int) : Int := if 1 ≤ size ∧ size ≤ 3 then numE n size else 1

theorem vecE_num {n : Nat} {size : Int} (hs : ¬ 3 < size) : vecE n size = numE n size := by
  unfold vecE
  split
  · rfl
  · rename_i h1
    have h2 : ¬ (1 ≤ size ∧ size ≤ 4 ∨ size = 8) := by omega
    simp only [numE, h2, not_false_eq_true, if_true]

/-- wire.Vec, any size. -/
theorem wvec_any {h : H} {x y : AV} {lx ly : List UInt8} (hx : Bs h x lx) (hy : Bs h y ly) (size : Int) (hl : lx.length + 16777224 ≤ maxRow) (hl2 : ly.length ≤ maxRow) :
    ∃ r h', Runs TF 21 [x, y, .int .i64 size] h r h' ∧ ∃ z, r = .tup [z, .int .i64 (vecE ly.length size)] ∧ Ext h h' ∧ Ow h.n h' z (if vecE ly.length size = 0 then lx ++ digits ly.length size.toNat size.toNat ++ ly else []) := by
  by_cases hs : 1 ≤ size ∧ size ≤ 3
  · obtain ⟨m, rfl⟩ : ∃ m : Nat, size = m := ⟨size.toNat, by omega⟩
    have e : vecE ly.length (m : Int) = numE ly.length m := vecE_num (by omega)
    rw [e]
    exact wvec_run hx hy (size := m) (by omega) hl hl2
  · have e1 : vecE ly.length size = 1 := by simp only [vecE, hs, if_false]
    rw [e1]
    refine Runs.ofP f21 rfl ?_
    refine Wp.seq ?_
    refine Wp.region ?_
    refine Wo.pre 8 (by kernel_rfl) ?_
    refine Wo.nil ?_
    refine Wp.seq ?_
    refine Wp.seq ?_
    refine Wp.region ?_
    refine Wo.pre 8 (by kernel_rfl) ?_
    refine Wo.nil ?_
    refine Wp.cond (decide (size > 3)) (by kernel_rfl) ?_
    by_cases h3 : 3 < size
    · rw [if_pos (by simpa using h3)]
      refine Wp.seq ?_
      refine Wp.region ?_
      refine Wo.pre 8 (by kernel_rfl) ?_
      refine Wo.nil ?_
      exact Wp.ret ⟨.inr rfl, .tup [.nils, .int .i64 1], (by kernel_rfl), .nils, rfl, Ext.refl h, .inl ⟨rfl, rfl⟩⟩
    · rw [if_neg (by simpa using h3)]
      have hw : IntKind.u64.wrap ((ly.length : Nat) : Int) = ((ly.length : Nat) : Int) := u64_fit _ (by unfold maxRow at hl2; omega)
      obtain ⟨r, h1, c1, z1, rfl, c2, c3⟩ := num_run hx (by omega) (n := ly.length) (by unfold maxRow at hl2; omega) size
      have en : numE ly.length size = 1 := by rw [← vecE_num h3, e1]
      rw [← hw, en] at c1
      rw [en] at c3
      refine Wp.skip ?_
      refine Wp.seq ?_
      refine Wp.region ?_
      refine Wo.pre 1 (by kernel_rfl) ?_
      refine Wo.pre 1 (by kernel_rfl) ?_
      refine Wo.val (.int .i64 ly.length) h (by kernel_rfl) (hy.len (by kernel_rfl)) ?_
      refine Wo.pre 1 (by kernel_rfl) ?_
      refine Wo.pre 1 (by kernel_rfl) ?_
      refine Wo.call (by kernel_rfl) (by kernel_rfl) (c1) ?_
      refine Wo.pre 8 (by kernel_rfl) ?_
      refine Wo.nil ?_
      refine Wp.seq ?_
      refine Wp.seq ?_
      refine Wp.region ?_
      refine Wo.pre 8 (by kernel_rfl) ?_
      refine Wo.nil ?_
      refine Wp.cond true (by kernel_rfl) ?_
      refine Wp.seq ?_
      refine Wp.region ?_
      refine Wo.pre 8 (by kernel_rfl) ?_
      refine Wo.nil ?_
      exact Wp.ret ⟨.inr rfl, .tup [.nils, .int .i64 1], (by kernel_rfl), .nils, rfl, c2, .inl ⟨rfl, rfl⟩⟩

/-- The reference's Vec, any size. -/
theorem rvec_run {h : H} {x y : AV} {lx ly : List UInt8} (hx : Bs h x lx) (hy : Bs h y ly) (size : Int) (hl : lx.length + 16777224 ≤ maxRow) (hl2 : ly.length ≤ maxRow) :
    ∃ r h', Runs TF 22 [x, y, .int .i64 size] h r h' ∧ ∃ z, r = .tup [z, .int .i64 (vecE ly.length size)] ∧ Ext h h' ∧ Ow h.n h' z (if vecE ly.length size = 0 then lx ++ digits ly.length size.toNat size.toNat ++ ly else []) := by
  by_cases hs : 1 ≤ size ∧ size ≤ 3
  · obtain ⟨m, rfl⟩ : ∃ m : Nat, size = m := ⟨size.toNat, by omega⟩
    have e : vecE ly.length (m : Int) = numE ly.length m := vecE_num (by omega)
    rw [e]
    have hw : IntKind.u64.wrap ((ly.length : Nat) : Int) = ((ly.length : Nat) : Int) := u64_fit _ (by unfold maxRow at hl2; omega)
    obtain ⟨r, h1, c1, z1, rfl, c2, c3⟩ := rnum_run hx (by omega) (n := ly.length) (by unfold maxRow at hl2; omega) m
    rw [← hw] at c1
    have hm : m = 1 ∨ m = 2 ∨ m = 3 := by omega
    rcases hm with rfl | rfl | rfl
    · skip
      by_cases he : numE ly.length ((1 : Nat) : Int) = 0
      · rw [he] at c1 ⊢
        rw [if_pos he] at c3
        obtain ⟨z, h2, e1, e2, e3, e4⟩ := Ow.app c3 (hy.ext c2) c2.1 (by rw [List.length_append, digits_len]; have := numE_lt (size := 1) (by omega) he; simp; omega)
        refine Runs.ofP f22 rfl ?_
        refine Wp.seq ?_
        refine Wp.region ?_
        refine Wo.pre 8 (by kernel_rfl) ?_
        refine Wo.nil ?_
        refine Wp.seq ?_
        refine Wp.seq ?_
        refine Wp.region ?_
        refine Wo.pre 8 (by kernel_rfl) ?_
        refine Wo.pre 8 (by kernel_rfl) ?_
        refine Wo.nil ?_
        refine Wp.cond false (by kernel_rfl) ?_
        refine Wp.skip ?_
        refine Wp.seq ?_
        refine Wp.region ?_
        refine Wo.pre 1 (by kernel_rfl) ?_
        refine Wo.pre 1 (by kernel_rfl) ?_
        refine Wo.val (.int .i64 ly.length) h (by kernel_rfl) (hy.len (by kernel_rfl)) ?_
        refine Wo.pre 1 (by kernel_rfl) ?_
        refine Wo.pre 1 (by kernel_rfl) ?_
        refine Wo.call (by kernel_rfl) (by kernel_rfl) (c1) ?_
        refine Wo.pre 8 (by kernel_rfl) ?_
        refine Wo.nil ?_
        refine Wp.seq ?_
        refine Wp.seq ?_
        refine Wp.region ?_
        refine Wo.pre 8 (by kernel_rfl) ?_
        refine Wo.nil ?_
        refine Wp.cond false (by kernel_rfl) ?_
        refine Wp.skip ?_
        refine Wp.seq ?_
        refine Wp.region ?_
        refine Wo.pre 1 (by kernel_rfl) ?_
        refine Wo.pre 1 (by kernel_rfl) ?_
        refine Wo.val z h2 (by kernel_rfl) (iop_app (v := z1) (w := y) (by kernel_rfl) (by kernel_rfl) hy.parts.2.2 e1) ?_
        refine Wo.pre 8 (by kernel_rfl) ?_
        refine Wo.nil ?_
        exact Wp.ret ⟨.inr rfl, .tup [z, .int .i64 0], (by kernel_rfl), z, rfl, ⟨Nat.le_trans c2.1 e3.1, fun k hk => (e3.2 k hk).trans (c2.2 k hk)⟩, e2⟩
      · have e3 : numE ly.length ((1 : Nat) : Int) = 3 := by
          have h1 : (1 ≤ ((1 : Nat) : Int) ∧ ((1 : Nat) : Int) ≤ 4 ∨ ((1 : Nat) : Int) = 8) := by omega
          simp only [numE, h1, not_true, if_false] at he ⊢
          split at he
          · rename_i h2; rw [if_pos h2]
          · exact absurd rfl he
        rw [e3] at c1 ⊢
        refine Runs.ofP f22 rfl ?_
        refine Wp.seq ?_
        refine Wp.region ?_
        refine Wo.pre 8 (by kernel_rfl) ?_
        refine Wo.nil ?_
        refine Wp.seq ?_
        refine Wp.seq ?_
        refine Wp.region ?_
        refine Wo.pre 8 (by kernel_rfl) ?_
        refine Wo.pre 8 (by kernel_rfl) ?_
        refine Wo.nil ?_
        refine Wp.cond false (by kernel_rfl) ?_
        refine Wp.skip ?_
        refine Wp.seq ?_
        refine Wp.region ?_
        refine Wo.pre 1 (by kernel_rfl) ?_
        refine Wo.pre 1 (by kernel_rfl) ?_
        refine Wo.val (.int .i64 ly.length) h (by kernel_rfl) (hy.len (by kernel_rfl)) ?_
        refine Wo.pre 1 (by kernel_rfl) ?_
        refine Wo.pre 1 (by kernel_rfl) ?_
        refine Wo.call (by kernel_rfl) (by kernel_rfl) (c1) ?_
        refine Wo.pre 8 (by kernel_rfl) ?_
        refine Wo.nil ?_
        refine Wp.seq ?_
        refine Wp.seq ?_
        refine Wp.region ?_
        refine Wo.pre 8 (by kernel_rfl) ?_
        refine Wo.nil ?_
        refine Wp.cond true (by kernel_rfl) ?_
        refine Wp.seq ?_
        refine Wp.region ?_
        refine Wo.pre 8 (by kernel_rfl) ?_
        refine Wo.nil ?_
        exact Wp.ret ⟨.inr rfl, .tup [.nils, .int .i64 3], (by kernel_rfl), .nils, rfl, c2, .inl ⟨rfl, rfl⟩⟩
    · skip
      by_cases he : numE ly.length ((2 : Nat) : Int) = 0
      · rw [he] at c1 ⊢
        rw [if_pos he] at c3
        obtain ⟨z, h2, e1, e2, e3, e4⟩ := Ow.app c3 (hy.ext c2) c2.1 (by rw [List.length_append, digits_len]; have := numE_lt (size := 2) (by omega) he; simp; omega)
        refine Runs.ofP f22 rfl ?_
        refine Wp.seq ?_
        refine Wp.region ?_
        refine Wo.pre 8 (by kernel_rfl) ?_
        refine Wo.nil ?_
        refine Wp.seq ?_
        refine Wp.seq ?_
        refine Wp.region ?_
        refine Wo.pre 8 (by kernel_rfl) ?_
        refine Wo.pre 8 (by kernel_rfl) ?_
        refine Wo.nil ?_
        refine Wp.cond false (by kernel_rfl) ?_
        refine Wp.skip ?_
        refine Wp.seq ?_
        refine Wp.region ?_
        refine Wo.pre 1 (by kernel_rfl) ?_
        refine Wo.pre 1 (by kernel_rfl) ?_
        refine Wo.val (.int .i64 ly.length) h (by kernel_rfl) (hy.len (by kernel_rfl)) ?_
        refine Wo.pre 1 (by kernel_rfl) ?_
        refine Wo.pre 1 (by kernel_rfl) ?_
        refine Wo.call (by kernel_rfl) (by kernel_rfl) (c1) ?_
        refine Wo.pre 8 (by kernel_rfl) ?_
        refine Wo.nil ?_
        refine Wp.seq ?_
        refine Wp.seq ?_
        refine Wp.region ?_
        refine Wo.pre 8 (by kernel_rfl) ?_
        refine Wo.nil ?_
        refine Wp.cond false (by kernel_rfl) ?_
        refine Wp.skip ?_
        refine Wp.seq ?_
        refine Wp.region ?_
        refine Wo.pre 1 (by kernel_rfl) ?_
        refine Wo.pre 1 (by kernel_rfl) ?_
        refine Wo.val z h2 (by kernel_rfl) (iop_app (v := z1) (w := y) (by kernel_rfl) (by kernel_rfl) hy.parts.2.2 e1) ?_
        refine Wo.pre 8 (by kernel_rfl) ?_
        refine Wo.nil ?_
        exact Wp.ret ⟨.inr rfl, .tup [z, .int .i64 0], (by kernel_rfl), z, rfl, ⟨Nat.le_trans c2.1 e3.1, fun k hk => (e3.2 k hk).trans (c2.2 k hk)⟩, e2⟩
      · have e3 : numE ly.length ((2 : Nat) : Int) = 3 := by
          have h1 : (1 ≤ ((2 : Nat) : Int) ∧ ((2 : Nat) : Int) ≤ 4 ∨ ((2 : Nat) : Int) = 8) := by omega
          simp only [numE, h1, not_true, if_false] at he ⊢
          split at he
          · rename_i h2; rw [if_pos h2]
          · exact absurd rfl he
        rw [e3] at c1 ⊢
        refine Runs.ofP f22 rfl ?_
        refine Wp.seq ?_
        refine Wp.region ?_
        refine Wo.pre 8 (by kernel_rfl) ?_
        refine Wo.nil ?_
        refine Wp.seq ?_
        refine Wp.seq ?_
        refine Wp.region ?_
        refine Wo.pre 8 (by kernel_rfl) ?_
        refine Wo.pre 8 (by kernel_rfl) ?_
        refine Wo.nil ?_
        refine Wp.cond false (by kernel_rfl) ?_
        refine Wp.skip ?_
        refine Wp.seq ?_
        refine Wp.region ?_
        refine Wo.pre 1 (by kernel_rfl) ?_
        refine Wo.pre 1 (by kernel_rfl) ?_
        refine Wo.val (.int .i64 ly.length) h (by kernel_rfl) (hy.len (by kernel_rfl)) ?_
        refine Wo.pre 1 (by kernel_rfl) ?_
        refine Wo.pre 1 (by kernel_rfl) ?_
        refine Wo.call (by kernel_rfl) (by kernel_rfl) (c1) ?_
        refine Wo.pre 8 (by kernel_rfl) ?_
        refine Wo.nil ?_
        refine Wp.seq ?_
        refine Wp.seq ?_
        refine Wp.region ?_
        refine Wo.pre 8 (by kernel_rfl) ?_
        refine Wo.nil ?_
        refine Wp.cond true (by kernel_rfl) ?_
        refine Wp.seq ?_
        refine Wp.region ?_
        refine Wo.pre 8 (by kernel_rfl) ?_
        refine Wo.nil ?_
        exact Wp.ret ⟨.inr rfl, .tup [.nils, .int .i64 3], (by kernel_rfl), .nils, rfl, c2, .inl ⟨rfl, rfl⟩⟩
    · skip
      by_cases he : numE ly.length ((3 : Nat) : Int) = 0
      · rw [he] at c1 ⊢
        rw [if_pos he] at c3
        obtain ⟨z, h2, e1, e2, e3, e4⟩ := Ow.app c3 (hy.ext c2) c2.1 (by rw [List.length_append, digits_len]; have := numE_lt (size := 3) (by omega) he; simp; omega)
        refine Runs.ofP f22 rfl ?_
        refine Wp.seq ?_
        refine Wp.region ?_
        refine Wo.pre 8 (by kernel_rfl) ?_
        refine Wo.nil ?_
        refine Wp.seq ?_
        refine Wp.seq ?_
        refine Wp.region ?_
        refine Wo.pre 8 (by kernel_rfl) ?_
        refine Wo.pre 8 (by kernel_rfl) ?_
        refine Wo.nil ?_
        refine Wp.cond false (by kernel_rfl) ?_
        refine Wp.skip ?_
        refine Wp.seq ?_
        refine Wp.region ?_
        refine Wo.pre 1 (by kernel_rfl) ?_
        refine Wo.pre 1 (by kernel_rfl) ?_
        refine Wo.val (.int .i64 ly.length) h (by kernel_rfl) (hy.len (by kernel_rfl)) ?_
        refine Wo.pre 1 (by kernel_rfl) ?_
        refine Wo.pre 1 (by kernel_rfl) ?_
        refine Wo.call (by kernel_rfl) (by kernel_rfl) (c1) ?_
        refine Wo.pre 8 (by kernel_rfl) ?_
        refine Wo.nil ?_
        refine Wp.seq ?_
        refine Wp.seq ?_
        refine Wp.region ?_
        refine Wo.pre 8 (by kernel_rfl) ?_
        refine Wo.nil ?_
        refine Wp.cond false (by kernel_rfl) ?_
        refine Wp.skip ?_
        refine Wp.seq ?_
        refine Wp.region ?_
        refine Wo.pre 1 (by kernel_rfl) ?_
        refine Wo.pre 1 (by kernel_rfl) ?_
        refine Wo.val z h2 (by kernel_rfl) (iop_app (v := z1) (w := y) (by kernel_rfl) (by kernel_rfl) hy.parts.2.2 e1) ?_
        refine Wo.pre 8 (by kernel_rfl) ?_
        refine Wo.nil ?_
        exact Wp.ret ⟨.inr rfl, .tup [z, .int .i64 0], (by kernel_rfl), z, rfl, ⟨Nat.le_trans c2.1 e3.1, fun k hk => (e3.2 k hk).trans (c2.2 k hk)⟩, e2⟩
      · have e3 : numE ly.length ((3 : Nat) : Int) = 3 := by
          have h1 : (1 ≤ ((3 : Nat) : Int) ∧ ((3 : Nat) : Int) ≤ 4 ∨ ((3 : Nat) : Int) = 8) := by omega
          simp only [numE, h1, not_true, if_false] at he ⊢
          split at he
          · rename_i h2; rw [if_pos h2]
          · exact absurd rfl he
        rw [e3] at c1 ⊢
        refine Runs.ofP f22 rfl ?_
        refine Wp.seq ?_
        refine Wp.region ?_
        refine Wo.pre 8 (by kernel_rfl) ?_
        refine Wo.nil ?_
        refine Wp.seq ?_
        refine Wp.seq ?_
        refine Wp.region ?_
        refine Wo.pre 8 (by kernel_rfl) ?_
        refine Wo.pre 8 (by kernel_rfl) ?_
        refine Wo.nil ?_
        refine Wp.cond false (by kernel_rfl) ?_
        refine Wp.skip ?_
        refine Wp.seq ?_
        refine Wp.region ?_
        refine Wo.pre 1 (by kernel_rfl) ?_
        refine Wo.pre 1 (by kernel_rfl) ?_
        refine Wo.val (.int .i64 ly.length) h (by kernel_rfl) (hy.len (by kernel_rfl)) ?_
        refine Wo.pre 1 (by kernel_rfl) ?_
        refine Wo.pre 1 (by kernel_rfl) ?_
        refine Wo.call (by kernel_rfl) (by kernel_rfl) (c1) ?_
        refine Wo.pre 8 (by kernel_rfl) ?_
        refine Wo.nil ?_
        refine Wp.seq ?_
        refine Wp.seq ?_
        refine Wp.region ?_
        refine Wo.pre 8 (by kernel_rfl) ?_
        refine Wo.nil ?_
        refine Wp.cond true (by kernel_rfl) ?_
        refine Wp.seq ?_
        refine Wp.region ?_
        refine Wo.pre 8 (by kernel_rfl) ?_
        refine Wo.nil ?_
        exact Wp.ret ⟨.inr rfl, .tup [.nils, .int .i64 3], (by kernel_rfl), .nils, rfl, c2, .inl ⟨rfl, rfl⟩⟩
  · have e1 : vecE ly.length size = 1 := by simp only [vecE, hs, if_false]
    rw [e1]
    have n1 : (size != 1) = true := by simp; omega
    have n2 : (size != 2) = true := by simp; omega
    have n3 : (size != 3) = true := by simp; omega
    refine Runs.ofP f22 rfl ?_
    refine Wp.seq ?_
    refine Wp.region ?_
    refine Wo.pre 1 (by kernel_rfl) ?_
    refine Wo.pre 1 (by kernel_rfl) ?_
    refine Wo.nil ?_
    refine Wp.seq ?_
    refine Wp.seq ?_
    refine Wp.region ?_
    refine Wo.pre 1 (by kernel_rfl) ?_
    refine Wo.val (.bool true) h (by kernel_rfl) (iop_neB (k := .i64) (a := size) (b := 1) true (by kernel_rfl) (by kernel_rfl) n1) ?_
    refine Wo.pre 1 (by kernel_rfl) ?_
    refine Wo.pre 1 (by kernel_rfl) ?_
    refine Wo.val (.bool true) h (by kernel_rfl) (iop_neB (k := .i64) (a := size) (b := 2) true (by kernel_rfl) (by kernel_rfl) n2) ?_
    refine Wo.pre 1 (by kernel_rfl) ?_
    refine Wo.pre 1 (by kernel_rfl) ?_
    refine Wo.pre 1 (by kernel_rfl) ?_
    refine Wo.val (.bool true) h (by kernel_rfl) (iop_neB (k := .i64) (a := size) (b := 3) true (by kernel_rfl) (by kernel_rfl) n3) ?_
    refine Wo.pre 1 (by kernel_rfl) ?_
    refine Wo.nil ?_
    refine Wp.cond true (by kernel_rfl) ?_
    refine Wp.seq ?_
    refine Wp.region ?_
    refine Wo.pre 1 (by kernel_rfl) ?_
    refine Wo.pre 1 (by kernel_rfl) ?_
    refine Wo.nil ?_
    exact Wp.ret ⟨.inr rfl, .tup [.nils, .int .i64 1], (by kernel_rfl), .nils, rfl, Ext.refl h, .inl ⟨rfl, rfl⟩⟩
end Go.Det

/- Rows that are spoiled, byte by byte. -/
set_option linter.unusedVariables false
set_option linter.unusedSimpArgs false
set_option linter.unusedSectionVars false
namespace Go.Det
open Go.Proofs
attribute [local simp] skip_iff ret_iff exit_iff seq_iff block_iff thenQ_normal thenQ_ret thenQ_exit thenQ_goto blockQ_normal blockQ_ret blockQ_exit blockQ_goto condQ_bool cond_iff region_iff wo_nil ansQ_val ansQ_call wo_cons wo_guard wanted put setL getL ev iop binop binInt shInt asI retV resOf unop
attribute [local congr] ansQ_congr condQ_congr Wo_congr Wp_congr

end Go.Det

/- The law WireLays: numbers and vectors are laid down as the document says; what is handed in stays. -/
set_option linter.unusedVariables false
set_option linter.unusedSimpArgs false
set_option linter.unusedSectionVars false
namespace Go.Det
open Go.Proofs
attribute [local irreducible] Wp Wo Wd iop ev slots quiets wanted put

end Go.Det

/- The loops of the reference's reader: a number out of bytes. -/
set_option linter.unusedVariables false
set_option linter.unusedSimpArgs false
set_option linter.unusedSectionVars false
namespace Go.Det
open Go.Proofs
attribute [local simp] skip_iff ret_iff exit_iff seq_iff block_iff thenQ_normal thenQ_ret thenQ_exit thenQ_goto blockQ_normal blockQ_ret blockQ_exit blockQ_goto condQ_bool cond_iff region_iff wo_nil ansQ_val ansQ_call wo_cons wo_guard wanted put setL getL ev iop binop binInt shInt asI retV resOf unop
attribute [local congr] ansQ_congr condQ_congr Wo_congr Wp_congr

/-- One cell of a row. -/
theorem ldn_at {h : H} {a : AA} {m : Nat} {c : List AV} (hc : h.ldn a m = some c) {i : Nat} {v : AV} (hv : c[i]? = some v) : h.ldg ⟨a.b, a.g, a.o + i⟩ none = some v := by
  unfold H.ldn at hc
  cases hr : h.row a with
  | none => rw [hr] at hc; simp at hc
  | some c0 =>
    rw [hr] at hc
    simp only [cut] at hc
    split at hc
    · simp only [Option.some.injEq] at hc
      subst hc
      simp only [H.ldg, H.ld, row_drop hr i, getL_eq]
      rw [List.getElem?_take] at hv
      split at hv
      · rw [List.getElem?_drop] at hv; exact hv
      · simp at hv
    · simp at hc

theorem Bs.at {h : H} {a : AA} {c : Cp} {l : List UInt8} (hb : Bs h (.sl a l.length c) l) {i : Nat} {b : UInt8} (hi : l[i]? = some b) : h.ldg ⟨a.b, a.g, a.o + i⟩ none = some (.int .u8 b.toNat) := by
  rcases hb with ⟨e, _⟩ | ⟨a', c', e, _, h2⟩
  · simp at e
  · simp only [AV.sl.injEq] at e
    obtain ⟨rfl, _, rfl⟩ := e
    exact ldn_at h2 (by simp [bytesAV, hi])

theorem be_take {l : List UInt8} {i : Nat} {c : UInt8} (hc : l[i]? = some c) : be (l.take (i + 1)) = be (l.take i) * 256 + c.toNat := by
  have ht : l.take (i + 1) = l.take i ++ [c] := by rw [List.take_add_one, hc]; rfl
  rw [ht, be_snoc]

theorem rrnum_loop {h : H} {l : List UInt8} {b : Nat} {a : AA} {cc : Cp} (hg : h.ldg ⟨b, 0, 0⟩ none = some (.sl a l.length cc)) (hb : Bs h (.sl a l.length cc) l) {size : Nat} (hs : size ≤ 8) (hl : size ≤ l.length) :
    ∀ (k i : Nat), i + k = size → ∀ (ts : List AV), ts.length = 44 → getL ts 0 = some (.ptr ⟨b, 0, 0⟩) → getL ts 1 = some (.int .i64 size) → getL ts 6 = some (.int .u64 (be (l.take i) : Nat)) → getL ts 7 = some (.int .i64 i) →
      ∀ (Q : Ex → St → Prop), (∀ ts', ts'.length = 44 → (∀ j, j < 6 → getL ts' j = getL ts j) → getL ts' 6 = some (.int .u64 (be (l.take size) : Nat)) → Q (.exit 0) (ts', h)) → Wp TF (.loop l28_1) (ts, h) Q := by
  intro k
  induction k with
  | zero =>
    intro i hi ts t0 ta t1 t6 t7 Q hQ
    obtain rfl : i = size := by omega
    refine Wp.loop ?_
    simp [l28_1, t0, t1, t7, getL_put, len_put]
    refine hQ _ (by simp [t0, len_put]) (fun j hj => ?_) (by simp [getL_put, t6])
    repeat rw [getL_low _ _ hj (by omega)]
  | succ k ih =>
    intro i hi ts t0 ta t1 t6 t7 Q hQ
    refine Wp.loop ?_
    have hlt : i < size := by omega
    have hlt2 : i < l.length := by omega
    obtain ⟨c, hc⟩ : ∃ c, l[i]? = some c := ⟨l[i]'(by omega), by simp [hlt2]⟩
    have hld := hb.at hc
    have hA : be (l.take i) < 256 ^ i := by have := be_lt (l.take i); rwa [List.length_take, Nat.min_eq_left (by omega)] at this
    have hA2 : be (l.take i) * 256 + 255 < 2 ^ 64 := by
      have : 256 ^ i ≤ 256 ^ 7 := Nat.pow_le_pow_right (by omega) (by omega)
      omega
    have hbe := be_take hc
    obtain ⟨A, hAe⟩ : ∃ A, A = be (l.take i) := ⟨_, rfl⟩
    rw [← hAe] at t6 hA2 hbe
    have w1 : IntKind.i64.wrap ((i : Int) + 1) = (i : Int) + 1 := i64_fit _ (by omega)
    have w2 : IntKind.u64.wrap (256 * (A : Int)) = 256 * (A : Int) := u64_fit _ (by omega)
    have hc8 := c.toNat_lt
    have w3 : IntKind.u64.wrap ((c.toNat : Nat) : Int) = ((c.toNat : Nat) : Int) := u64_fit _ (by omega)
    have w4 : IntKind.u64.wrap (256 * (A : Int) + ((c.toNat : Nat) : Int)) = ((be (l.take (i + 1)) : Nat) : Int) := by rw [u64_fit _ (by omega), hbe]; omega
    simp only [l28_1]
    simp [ta, t0, t1, t6, t7, getL_put, len_put, hlt, hlt2, hg, hld, w2, w3, w4]
    refine ih (i + 1) (by omega) _ (by simp [t0, len_put]) (by simp [ta, getL_put]) (by simp [t1, getL_put]) (by simp [t0, getL_put, len_put]) (by simp [t0, getL_put, len_put, w1]) Q ?_
    intro ts' g0 g1 g2
    refine hQ ts' g0 (fun j hj => ?_) g2
    rw [g1 j hj]
    repeat rw [getL_low _ _ hj (by omega)]

theorem rrvec_loop {h : H} {l : List UInt8} {b : Nat} {a : AA} {cc : Cp} (hg : h.ldg ⟨b, 0, 0⟩ none = some (.sl a l.length cc)) (hb : Bs h (.sl a l.length cc) l) {size : Nat} (hs : size ≤ 3) (hl : size ≤ l.length) :
    ∀ (k i : Nat), i + k = size → ∀ (ts : List AV), ts.length = 73 → getL ts 0 = some (.ptr ⟨b, 0, 0⟩) → getL ts 1 = some (.int .i64 size) → getL ts 6 = some (.int .i64 (be (l.take i) : Nat)) → getL ts 7 = some (.int .i64 i) →
      ∀ (Q : Ex → St → Prop), (∀ ts', ts'.length = 73 → (∀ j, j < 6 → getL ts' j = getL ts j) → getL ts' 6 = some (.int .i64 (be (l.take size) : Nat)) → Q (.exit 0) (ts', h)) → Wp TF (.loop l30_1) (ts, h) Q := by
  intro k
  induction k with
  | zero =>
    intro i hi ts t0 ta t1 t6 t7 Q hQ
    obtain rfl : i = size := by omega
    refine Wp.loop ?_
    simp [l30_1, t0, t1, t7, getL_put, len_put]
    refine hQ _ (by simp [t0, len_put]) (fun j hj => ?_) (by simp [getL_put, t6])
    repeat rw [getL_low _ _ hj (by omega)]
  | succ k ih =>
    intro i hi ts t0 ta t1 t6 t7 Q hQ
    refine Wp.loop ?_
    have hlt : i < size := by omega
    have hlt2 : i < l.length := by omega
    obtain ⟨c, hc⟩ : ∃ c, l[i]? = some c := ⟨l[i]'(by omega), by simp [hlt2]⟩
    have hld := hb.at hc
    have hA : be (l.take i) < 256 ^ i := by have := be_lt (l.take i); rwa [List.length_take, Nat.min_eq_left (by omega)] at this
    have hA2 : be (l.take i) * 256 + 255 < 2 ^ 62 := by
      have : 256 ^ i ≤ 256 ^ 3 := Nat.pow_le_pow_right (by omega) (by omega)
      omega
    have hbe := be_take hc
    obtain ⟨A, hAe⟩ : ∃ A, A = be (l.take i) := ⟨_, rfl⟩
    rw [← hAe] at t6 hA2 hbe
    have w1 : IntKind.i64.wrap ((i : Int) + 1) = (i : Int) + 1 := i64_fit _ (by omega)
    have w2 : IntKind.i64.wrap (256 * (A : Int)) = 256 * (A : Int) := i64_fit _ (by omega)
    have hc8 := c.toNat_lt
    have w3 : IntKind.i64.wrap ((c.toNat : Nat) : Int) = ((c.toNat : Nat) : Int) := i64_fit _ (by omega)
    have w4 : IntKind.i64.wrap (256 * (A : Int) + ((c.toNat : Nat) : Int)) = ((be (l.take (i + 1)) : Nat) : Int) := by rw [i64_fit _ (by omega), hbe]; omega
    simp only [l30_1]
    simp [ta, t0, t1, t6, t7, getL_put, len_put, hlt, hlt2, hg, hld, w2, w3, w4]
    refine ih (i + 1) (by omega) _ (by simp [t0, len_put]) (by simp [ta, getL_put]) (by simp [t1, getL_put]) (by simp [t0, getL_put, len_put]) (by simp [t0, getL_put, len_put, w1]) Q ?_
    intro ts' g0 g1 g2
    refine hQ ts' g0 (fun j hj => ?_) g2
    rw [g1 j hj]
    repeat rw [getL_low _ _ hj (by omega)]
end Go.Det

/- The reference's reader; the program's reader, all its ways. -/
set_option linter.unusedVariables false
set_option linter.unusedSimpArgs false
set_option linter.unusedSectionVars false
namespace Go.Det
open Go.Proofs
attribute [local irreducible] Wp Wo Wd iop ev slots quiets wanted put

def rdV (l : List UInt8) (size : Int) : Nat := if rdE l size = 0 then be (l.take size.toNat) else 0
def rdL (l : List UInt8) (size : Int) : List UInt8 := if rdE l size = 0 then l.drop size.toNat else l
def vE (l : List UInt8) (size : Int) : Int := if ¬ (1 ≤ size ∧ size ≤ 3) then 1 else if (l.length : Int) < size then 4 else if l.length < size.toNat + be (l.take size.toNat) then 4 else 0
def vN (l : List UInt8) (size : Int) : Nat := size.toNat + be (l.take size.toNat)
def vX (l : List UInt8) (size : Int) : List UInt8 := if vE l size = 0 then (l.drop size.toNat).take (be (l.take size.toNat)) else []
def vL (l : List UInt8) (size : Int) : List UInt8 := if vE l size = 0 then l.drop (vN l size) else l
theorem rdnum_any {h : H} {b : Nat} {v : AV} {l : List UInt8} (hR : Rd h b v l) (size : Int) (hl : l.length ≤ maxRow) :
    ∃ h' v', Runs TF 27 [.ptr ⟨b, 0, 0⟩, .int .i64 size] h (.tup [.int .u64 (rdV l size : Nat), .int .i64 (rdE l size)]) h' ∧ Rd h' b v' (rdL l size) ∧ ExtB b h h' ∧ SB v v' := by
  by_cases he : rdE l size = 0
  · have h1 : (1 ≤ size ∧ size ≤ 4 ∨ size = 8) ∧ ¬ (l.length : Int) < size := by
      unfold rdE at he
      split at he
      · cases he
      · rename_i h1
        split at he
        · cases he
        · rename_i h2; exact ⟨Classical.not_not.1 h1, h2⟩
    obtain ⟨m, rfl⟩ : ∃ m : Nat, size = m := ⟨size.toNat, by omega⟩
    obtain ⟨r, h', c1, v', rfl, c2, c3⟩ := rdnum_run hR (size := m) (by omega) (by omega) hl
    refine ⟨h', v', ?_, ?_, c3⟩
    · rw [he, rdV, if_pos he]; exact c1
    · rw [rdL, if_pos he]; exact c2
  · refine ⟨h, v, ?_, ?_, ⟨Nat.le_refl _, fun _ _ _ => rfl⟩, SB.refl _⟩
    · rw [rdV, if_neg he]; exact rdnum_fail hR he
    · rw [rdL, if_neg he]; exact hR

theorem vec_bad {h : H} {b : Nat} {v : AV} {l : List UInt8} (hR : Rd h b v l) {size : Int} (hs : ¬ (1 ≤ size ∧ size ≤ 3)) :
    Runs TF 29 [.ptr ⟨b, 0, 0⟩, .int .i64 size] h (.tup [.nils, .int .i64 1]) h := by
  refine Runs.of' f29 rfl ?_
  have e0 : readyE l 0 = 0 := by simp [readyE]
  have hready := ready_run hR 0
  rw [e0] at hready
  have hsz := sized_run size h
  by_cases h1 : 1 ≤ size ∧ size ≤ 4 ∨ size = 8
  · rw [decide_eq_true h1] at hsz
    refine Wp.seq ?_
    refine Wp.region ?_
    refine Wo.pre 8 (by kernel_rfl) ?_
    refine Wo.nil ?_
    refine Wp.seq ?_
    refine Wp.seq ?_
    refine Wp.region ?_
    refine Wo.pre 1 (by kernel_rfl) ?_
    refine Wo.call (by kernel_rfl) (by kernel_rfl) (hready) ?_
    refine Wo.pre 8 (by kernel_rfl) ?_
    refine Wo.nil ?_
    refine Wp.seq ?_
    refine Wp.region ?_
    refine Wo.pre 8 (by kernel_rfl) ?_
    refine Wo.nil ?_
    refine Wp.cond false (by kernel_rfl) ?_
    refine Wp.skip ?_
    refine Wp.seq ?_
    refine Wp.seq ?_
    refine Wp.region ?_
    refine Wo.pre 1 (by kernel_rfl) ?_
    refine Wo.call (by kernel_rfl) (by kernel_rfl) (hsz) ?_
    refine Wo.pre 8 (by kernel_rfl) ?_
    refine Wo.nil ?_
    refine Wp.cond (decide (size > 3)) (by kernel_rfl) ?_
    rw [if_pos (by simp; omega)]
    refine Wp.seq ?_
    refine Wp.region ?_
    refine Wo.pre 8 (by kernel_rfl) ?_
    refine Wo.nil ?_
    exact Wp.ret ⟨.inr rfl, rfl, (by kernel_rfl)⟩
  · rw [decide_eq_false h1] at hsz
    refine Wp.seq ?_
    refine Wp.region ?_
    refine Wo.pre 8 (by kernel_rfl) ?_
    refine Wo.nil ?_
    refine Wp.seq ?_
    refine Wp.seq ?_
    refine Wp.region ?_
    refine Wo.pre 1 (by kernel_rfl) ?_
    refine Wo.call (by kernel_rfl) (by kernel_rfl) (hready) ?_
    refine Wo.pre 8 (by kernel_rfl) ?_
    refine Wo.nil ?_
    refine Wp.seq ?_
    refine Wp.region ?_
    refine Wo.pre 8 (by kernel_rfl) ?_
    refine Wo.nil ?_
    refine Wp.cond false (by kernel_rfl) ?_
    refine Wp.skip ?_
    refine Wp.seq ?_
    refine Wp.seq ?_
    refine Wp.region ?_
    refine Wo.pre 1 (by kernel_rfl) ?_
    refine Wo.call (by kernel_rfl) (by kernel_rfl) (hsz) ?_
    refine Wo.pre 8 (by kernel_rfl) ?_
    refine Wo.nil ?_
    refine Wp.cond true (by kernel_rfl) ?_
    refine Wp.seq ?_
    refine Wp.region ?_
    refine Wo.pre 8 (by kernel_rfl) ?_
    refine Wo.nil ?_
    exact Wp.ret ⟨.inr rfl, rfl, (by kernel_rfl)⟩

theorem vec_any {h : H} {b : Nat} {v : AV} {l : List UInt8} (hR : Rd h b v l) (size : Int) (hl : l.length ≤ maxRow) :
    ∃ h' x v', Runs TF 29 [.ptr ⟨b, 0, 0⟩, .int .i64 size] h (.tup [x, .int .i64 (vE l size)]) h' ∧ Rd h' b v' (vL l size) ∧ Ow h.n h' x (vX l size) ∧ ExtB b h h' ∧ SB v v' := by
  by_cases hs : 1 ≤ size ∧ size ≤ 3
  · obtain ⟨m, rfl⟩ : ∃ m : Nat, size = m := ⟨size.toNat, by omega⟩
    have hs' : 1 ≤ m ∧ m ≤ 3 := by omega
    by_cases h1 : l.length < m
    · have he : vE l m = 4 := by
        have h1' : (l.length : Int) < (m : Int) := by omega
        simp only [vE, hs, and_self, h1', not_true, if_false, if_true]
      refine ⟨h, .nils, v, by rw [he]; exact vec_short hR hs' h1, ?_, ?_, ⟨Nat.le_refl _, fun _ _ _ => rfl⟩, SB.refl _⟩
      · rw [vL, if_neg (by rw [he]; decide)]; exact hR
      · rw [vX, if_neg (by rw [he]; decide)]; exact .inl ⟨rfl, rfl⟩
    · have h1' : ¬ (l.length : Int) < (m : Int) := by omega
      by_cases h2 : l.length < m + be (l.take m)
      · have he : vE l m = 4 := by
          simp only [vE, hs, and_self, h1', not_true, if_false, Int.toNat_natCast, h2, if_true]
        have hbl : be (l.take m) < 2 ^ 63 := by
          have := be_lt (l.take m)
          rw [List.length_take, Nat.min_eq_left (by omega)] at this
          have h2 : 256 ^ m ≤ 256 ^ 3 := Nat.pow_le_pow_right (by omega) hs'.2
          omega
        obtain ⟨h2', d1, d2, d3⟩ := vec_cut hR hs' rfl (by omega) h2 hl hbl
        refine ⟨h2', .nils, v, by rw [he]; exact d1, ?_, ?_, d3, SB.refl _⟩
        · rw [vL, if_neg (by rw [he]; decide)]; exact d2
        · rw [vX, if_neg (by rw [he]; decide)]; exact .inl ⟨rfl, rfl⟩
      · have he : vE l m = 0 := by
          simp only [vE, hs, and_self, h1', not_true, if_false, Int.toNat_natCast, h2]
        obtain ⟨r, h', c1, x, v', rfl, c2, c3, c4⟩ := vec_run hR hs' rfl (by omega) hl
        refine ⟨h', x, v', by rw [he]; exact c1, ?_, ?_, c4⟩
        · rw [vL, if_pos he, vN, Int.toNat_natCast]; exact c2
        · rw [vX, if_pos he, Int.toNat_natCast]; exact c3
  · have he : vE l size = 1 := by simp only [vE, hs, not_false_eq_true, if_true]
    refine ⟨h, .nils, v, by rw [he]; exact vec_bad hR hs, ?_, ?_, ⟨Nat.le_refl _, fun _ _ _ => rfl⟩, SB.refl _⟩
    · rw [vL, if_neg (by rw [he]; decide)]; exact hR
    · rw [vX, if_neg (by rw [he]; decide)]; exact .inl ⟨rfl, rfl⟩

/-- The reference's reader. -/
def RRd (h : H) (b : Nat) (w : AV) (l : List UInt8) : Prop := b < h.n ∧ h.get b = some (.cells 0 51 [w] 0 false) ∧ Bs h w l ∧ Cok w ∧ ∀ a n c, w = .sl a n c → a.b ≠ b

theorem RRd.ld {h : H} {b : Nat} {w : AV} {l : List UInt8} (hR : RRd h b w l) : h.ldg ⟨b, 0, 0⟩ none = some w := by
  simp [H.ldg, H.ld, H.row, hR.2.1, getL]

/-- What is left is written. -/
theorem RRd.st {h : H} {b : Nat} {w v' : AV} {l l' : List UInt8} (hR : RRd h b w l) (hb : Bs h v' l') (hc : Cok v') (hne : ∀ a n c, v' = .sl a n c → a.b ≠ b) :
    ∃ h', h.st ⟨b, 0, 0⟩ [v'] = some h' ∧ RRd h' b v' l' ∧ ExtB b h h' := by
  have hp := hb.parts
  refine ⟨h.set b (.cells 0 51 [v'] 0 false), ?_, ⟨hR.1, by rw [h.get_set], ?_, hc, hne⟩, Nat.le_refl _, fun k _ hkb => h.get_set_ne b k _ hkb⟩
  · unfold H.st
    simp only [hR.2.1]
    rw [if_pos (by simp [hp.2.1])]
    rfl
  · rcases hb with ⟨e1, e2⟩ | ⟨a, c, e1, e2, e3⟩
    · exact .inl ⟨e1, e2⟩
    · exact .inr ⟨a, c, e1, e2, by rw [ldn_same (h.get_set_ne b _ _ (hne _ _ _ e1))]; exact e3⟩

theorem rrnew_run {v : AV} {l : List UInt8} {h : H} (hb : Bs h v l) (hl : l.length ≤ maxRow) : ∃ h' b u, Runs TF 26 [v] h (.ptr ⟨b, 0, 0⟩) h' ∧ h.n ≤ b ∧ RRd h' b u l ∧ Ext h h' ∧ ∀ a n c, u = .sl a n c → h.n ≤ a.b ∧ a.b < b := by
  obtain ⟨x, h1, c1, c2, c3⟩ := own_run hb hl
  have hp := c3.bs.parts
  obtain ⟨h2, hh2⟩ : ∃ h2, h2 = h1.new (.cells 0 51 [x] 0 false) := ⟨_, rfl⟩
  have E : Ext h1 h2 := by rw [hh2]; exact Ext.new _ _
  have e1 : ∀ {y : IX} {ρ : IX → AV}, ρ y = x → iop (.build [.nils] [(0, 1, y)]) ρ h1 = some (.val (.agg [x]) h1) := by
    intro y ρ hy
    simp [iop, fillL, hy, hp.1, putAt]
  have e2 : ∀ {y : IX} {ρ : IX → AV}, ρ y = .agg [x] → iop (.new 51 y) ρ h1 = some (.val (.ptr ⟨h1.n, 0, 0⟩) h2) := fun hy => by rw [hh2]; exact iop_new hy (by simp [hp.2.1])
  refine ⟨h2, h1.n, x, Runs.of' f26 rfl ?_, c2.1, ⟨by rw [hh2]; simp, by rw [hh2]; exact h1.get_new _, (c3.ext E).bs, c3.cok, ?_⟩, c2.trans E, fun a n c e => c3.blk e⟩
  · refine Wp.seq ?_
    refine Wp.region ?_
    refine Wo.pre 8 (by kernel_rfl) ?_
    refine Wo.nil ?_
    refine Wp.seq ?_
    refine Wp.region ?_
    refine Wo.pre 1 (by kernel_rfl) ?_
    refine Wo.call (by kernel_rfl) (by kernel_rfl) (c1) ?_
    refine Wo.val (.agg [x]) h1 (by kernel_rfl) (e1 (by kernel_rfl)) ?_
    refine Wo.val _ _ (by kernel_rfl) (e2 (by kernel_rfl)) ?_
    refine Wo.pre 8 (by kernel_rfl) ?_
    refine Wo.nil ?_
    exact Wp.ret ⟨.inr rfl, rfl, (by kernel_rfl)⟩
  · intro a n c e
    have := c3.bs.lt e
    omega

theorem rrnum_any {h : H} {b : Nat} {w : AV} {l : List UInt8} (hR : RRd h b w l) (size : Int) (hl : l.length ≤ maxRow) :
    ∃ h' v', Runs TF 28 [.ptr ⟨b, 0, 0⟩, .int .i64 size] h (.tup [.int .u64 (rdV l size : Nat), .int .i64 (rdE l size)]) h' ∧ RRd h' b v' (rdL l size) ∧ ExtB b h h' ∧ SB w v' := by
  have l0 := hR.ld
  have hw := hR.2.2.1
  have hz := rsized_run size h
  by_cases hs : 1 ≤ size ∧ size ≤ 4 ∨ size = 8
  · rw [decide_eq_true hs] at hz
    by_cases h1 : (l.length : Int) < size
    · have he : rdE l size = 4 := by simp only [rdE, hs, h1, not_true, if_false, if_true]
      refine ⟨h, w, ?_, ?_, ⟨Nat.le_refl _, fun _ _ _ => rfl⟩, SB.refl _⟩
      · rw [rdV, if_neg (by rw [he]; decide), he]
        refine Runs.of' f28 rfl ?_
        refine Wp.seq ?_
        refine Wp.region ?_
        refine Wo.pre 8 (by kernel_rfl) ?_
        refine Wo.nil ?_
        refine Wp.seq ?_
        refine Wp.seq ?_
        refine Wp.region ?_
        refine Wo.pre 1 (by kernel_rfl) ?_
        refine Wo.call (by kernel_rfl) (by kernel_rfl) (hz) ?_
        refine Wo.pre 8 (by kernel_rfl) ?_
        refine Wo.nil ?_
        refine Wp.cond false (by kernel_rfl) ?_
        refine Wp.skip ?_
        refine Wp.seq ?_
        refine Wp.seq ?_
        refine Wp.region ?_
        refine Wo.pre 3 (by kernel_rfl) ?_
        refine Wo.val w h (by kernel_rfl) (iop_ld (a := ⟨b, 0, 0⟩) (by kernel_rfl) l0) ?_
        refine Wo.val (.int .i64 l.length) h (by kernel_rfl) (hw.len (by kernel_rfl)) ?_
        refine Wo.pre 8 (by kernel_rfl) ?_
        refine Wo.nil ?_
        refine Wp.cond (decide ((l.length : Int) < size)) (by kernel_rfl) ?_
        rw [if_pos (by simpa using h1)]
        refine Wp.seq ?_
        refine Wp.region ?_
        refine Wo.pre 8 (by kernel_rfl) ?_
        refine Wo.nil ?_
        exact Wp.ret ⟨.inr rfl, rfl, (by kernel_rfl)⟩
      · rw [rdL, if_neg (by rw [he]; decide)]; exact hR
    · have he : rdE l size = 0 := by simp only [rdE, hs, h1, not_true, if_false]
      obtain ⟨m, rfl⟩ : ∃ m : Nat, size = m := ⟨size.toNat, by omega⟩
      obtain ⟨v', d1, d2, d3, d4, d5⟩ := hw.drop hR.2.2.2.1 (n := m) (by omega)
      obtain ⟨h', s1, s2, s3⟩ := hR.st d2 (fun a n c e => (d3 a n c e).2) (fun a n c e => by obtain ⟨⟨a0, m0, c0, q1, q2⟩, _⟩ := d3 a n c e; rw [← q2]; exact hR.2.2.2.2 _ _ _ q1)
      refine ⟨h', v', ?_, by rw [rdL, if_pos he, Int.toNat_natCast]; exact s2, s3, fun a n c e => (d3 a n c e).1⟩
      rw [rdV, if_pos he, he, Int.toNat_natCast]
      refine Runs.of' f28 rfl ?_
      refine Wp.seq ?_
      refine Wp.region ?_
      refine Wo.pre 8 (by kernel_rfl) ?_
      refine Wo.nil ?_
      refine Wp.seq ?_
      refine Wp.seq ?_
      refine Wp.region ?_
      refine Wo.pre 1 (by kernel_rfl) ?_
      refine Wo.call (by kernel_rfl) (by kernel_rfl) (hz) ?_
      refine Wo.pre 8 (by kernel_rfl) ?_
      refine Wo.nil ?_
      refine Wp.cond false (by kernel_rfl) ?_
      refine Wp.skip ?_
      refine Wp.seq ?_
      refine Wp.seq ?_
      refine Wp.region ?_
      refine Wo.pre 3 (by kernel_rfl) ?_
      refine Wo.val w h (by kernel_rfl) (iop_ld (a := ⟨b, 0, 0⟩) (by kernel_rfl) l0) ?_
      refine Wo.val (.int .i64 l.length) h (by kernel_rfl) (hw.len (by kernel_rfl)) ?_
      refine Wo.pre 8 (by kernel_rfl) ?_
      refine Wo.nil ?_
      refine Wp.cond (decide ((l.length : Int) < (m : Int))) (by kernel_rfl) ?_
      rw [if_neg (by simpa using h1)]
      refine Wp.skip ?_
      refine Wp.seq ?_
      refine Wp.region ?_
      refine Wo.pre 8 (by kernel_rfl) ?_
      refine Wo.nil ?_
      refine Wp.seq ?_
      refine Wp.seq ?_
      refine Wp.region ?_
      refine Wo.pre 8 (by kernel_rfl) ?_
      refine Wo.nil ?_
      refine Wp.block ?_
      obtain ⟨a, c, rfl⟩ : ∃ a c, w = .sl a l.length c := by
        rcases hw with ⟨_, rfl⟩ | ⟨a, c, e, _⟩
        · exfalso; simp at h1; omega
        · exact ⟨a, c, e⟩
      refine rrnum_loop l0 hw (size := m) (by omega) (by omega) m 0 (by omega) _ (by kernel_rfl) (by kernel_rfl) (by kernel_rfl) (by kernel_rfl) (by kernel_rfl) _ ?_
      intro ts' g0 g1 g2
      have e0 : getL ts' 0 = some (.ptr ⟨b, 0, 0⟩) := (g1 0 (by omega)).trans (by kernel_rfl)
      have e1 : getL ts' 1 = some (.int .i64 m) := (g1 1 (by omega)).trans (by kernel_rfl)
      rw [laid_eq g0 [(0, .ptr ⟨b, 0, 0⟩), (1, .int .i64 m), (6, .int .u64 (be (l.take m) : Nat))] (by simp [e0, e1, g2])]
      refine Wp.seq ?_
      refine Wp.region ?_
      refine Wo.pre 3 (by kernel_rfl) ?_
      refine Wo.pre 1 (by kernel_rfl) ?_
      refine Wo.val (.sl a l.length c) h (by kernel_rfl) (iop_ld (a := ⟨b, 0, 0⟩) (by kernel_rfl) l0) ?_
      refine Wo.pre 1 (by kernel_rfl) ?_
      refine Wo.val v' h (by kernel_rfl) (d1 _ _ _ (by kernel_rfl) (by kernel_rfl)) ?_
      refine Wo.pre 1 (by kernel_rfl) ?_
      refine Wo.pre 1 (by kernel_rfl) ?_
      refine Wo.val .undef h' (by kernel_rfl) (iop_st1 (a := ⟨b, 0, 0⟩) (v := v') (by kernel_rfl) (by kernel_rfl) d4 s1) ?_
      refine Wo.nil ?_
      refine Wp.seq ?_
      refine Wp.region ?_
      refine Wo.pre 8 (by kernel_rfl) ?_
      refine Wo.nil ?_
      exact Wp.ret ⟨.inr rfl, rfl, (by kernel_rfl)⟩
  · rw [decide_eq_false hs] at hz
    have he : rdE l size = 1 := by simp only [rdE, hs, not_false_eq_true, if_true]
    refine ⟨h, w, ?_, ?_, ⟨Nat.le_refl _, fun _ _ _ => rfl⟩, SB.refl _⟩
    · rw [rdV, if_neg (by rw [he]; decide), he]
      refine Runs.of' f28 rfl ?_
      refine Wp.seq ?_
      refine Wp.region ?_
      refine Wo.pre 8 (by kernel_rfl) ?_
      refine Wo.nil ?_
      refine Wp.seq ?_
      refine Wp.seq ?_
      refine Wp.region ?_
      refine Wo.pre 1 (by kernel_rfl) ?_
      refine Wo.call (by kernel_rfl) (by kernel_rfl) (hz) ?_
      refine Wo.pre 8 (by kernel_rfl) ?_
      refine Wo.nil ?_
      refine Wp.cond true (by kernel_rfl) ?_
      refine Wp.seq ?_
      refine Wp.region ?_
      refine Wo.pre 8 (by kernel_rfl) ?_
      refine Wo.nil ?_
      exact Wp.ret ⟨.inr rfl, rfl, (by kernel_rfl)⟩
    · rw [rdL, if_neg (by rw [he]; decide)]; exact hR

set_option maxHeartbeats 4000000 in
theorem rrvec_any {h : H} {b : Nat} {w : AV} {l : List UInt8} (hR : RRd h b w l) (size : Int) (hl : l.length ≤ maxRow) :
    ∃ h' x v', Runs TF 30 [.ptr ⟨b, 0, 0⟩, .int .i64 size] h (.tup [x, .int .i64 (vE l size)]) h' ∧ RRd h' b v' (vL l size) ∧ Ow h.n h' x (vX l size) ∧ ExtB b h h' ∧ SB w v' := by
  have l0 := hR.ld
  have hw := hR.2.2.1
  by_cases hs : 1 ≤ size ∧ size ≤ 3
  · obtain ⟨m, rfl⟩ : ∃ m : Nat, size = m := ⟨size.toNat, by omega⟩
    have hm : m = 1 ∨ m = 2 ∨ m = 3 := by omega
    rcases hm with rfl | rfl | rfl
    · skip
      by_cases h1 : l.length < 1
      · have h1' : (l.length : Int) < ((1 : Nat) : Int) := by omega
        have he : vE l ((1 : Nat) : Int) = 4 := by simp only [vE, hs, and_self, h1', not_true, if_false, if_true]
        refine ⟨h, .nils, w, ?_, by rw [vL, if_neg (by rw [he]; decide)]; exact hR, by rw [vX, if_neg (by rw [he]; decide)]; exact .inl ⟨rfl, rfl⟩, ⟨Nat.le_refl _, fun _ _ _ => rfl⟩, SB.refl _⟩
        rw [he]
        refine Runs.of' f30 rfl ?_
        refine Wp.seq ?_
        refine Wp.region ?_
        refine Wo.pre 8 (by kernel_rfl) ?_
        refine Wo.nil ?_
        refine Wp.seq ?_
        refine Wp.seq ?_
        refine Wp.region ?_
        refine Wo.pre 8 (by kernel_rfl) ?_
        refine Wo.pre 8 (by kernel_rfl) ?_
        refine Wo.nil ?_
        refine Wp.cond false (by kernel_rfl) ?_
        refine Wp.skip ?_
        refine Wp.seq ?_
        refine Wp.seq ?_
        refine Wp.region ?_
        refine Wo.pre 3 (by kernel_rfl) ?_
        refine Wo.val w h (by kernel_rfl) (iop_ld (a := ⟨b, 0, 0⟩) (by kernel_rfl) l0) ?_
        refine Wo.val (.int .i64 l.length) h (by kernel_rfl) (hw.len (by kernel_rfl)) ?_
        refine Wo.pre 8 (by kernel_rfl) ?_
        refine Wo.nil ?_
        refine Wp.cond (decide ((l.length : Int) < 1)) (by kernel_rfl) ?_
        rw [if_pos (by simp; omega)]
        refine Wp.seq ?_
        refine Wp.region ?_
        refine Wo.pre 8 (by kernel_rfl) ?_
        refine Wo.nil ?_
        exact Wp.ret ⟨.inr rfl, rfl, (by kernel_rfl)⟩
      · have h1' : ¬ (l.length : Int) < ((1 : Nat) : Int) := by omega
        obtain ⟨a, c, rfl⟩ : ∃ a c, w = .sl a l.length c := by
          rcases hw with ⟨_, rfl⟩ | ⟨a, c, e, _⟩
          · exfalso; simp at h1
          · exact ⟨a, c, e⟩
        have hlt := be_lt (l.take 1)
        rw [List.length_take, Nat.min_eq_left (by omega)] at hlt
        obtain ⟨n, hn⟩ : ∃ n, n = be (l.take 1) := ⟨_, rfl⟩
        rw [← hn] at hlt
        have hn24 : n < 2 ^ 24 := by omega
        have hmx : maxRow < 2 ^ 62 := by decide
        have w1 : IntKind.i64.wrap ((l.length : Int) - 1) = (l.length : Int) - 1 := i64_fit _ (by omega)
        have w2 : IntKind.i64.wrap (1 + (n : Int)) = ((1 + n : Nat) : Int) := by rw [i64_fit _ (by omega)]; omega
        by_cases h2 : l.length < 1 + n
        · have he : vE l ((1 : Nat) : Int) = 4 := by
            have h2' : l.length < ((1 : Nat) : Int).toNat + be (l.take ((1 : Nat) : Int).toNat) := by rw [Int.toNat_natCast, ← hn]; exact h2
            simp only [vE, hs, and_self, h1', not_true, if_false, h2', if_true]
          refine ⟨h, .nils, .sl a l.length c, ?_, by rw [vL, if_neg (by rw [he]; decide)]; exact hR, by rw [vX, if_neg (by rw [he]; decide)]; exact .inl ⟨rfl, rfl⟩, ⟨Nat.le_refl _, fun _ _ _ => rfl⟩, SB.refl _⟩
          rw [he]
          refine Runs.of' f30 rfl ?_
          refine Wp.seq ?_
          refine Wp.region ?_
          refine Wo.pre 8 (by kernel_rfl) ?_
          refine Wo.nil ?_
          refine Wp.seq ?_
          refine Wp.seq ?_
          refine Wp.region ?_
          refine Wo.pre 8 (by kernel_rfl) ?_
          refine Wo.pre 8 (by kernel_rfl) ?_
          refine Wo.nil ?_
          refine Wp.cond false (by kernel_rfl) ?_
          refine Wp.skip ?_
          refine Wp.seq ?_
          refine Wp.seq ?_
          refine Wp.region ?_
          refine Wo.pre 3 (by kernel_rfl) ?_
          refine Wo.val (.sl a l.length c) h (by kernel_rfl) (iop_ld (a := ⟨b, 0, 0⟩) (by kernel_rfl) l0) ?_
          refine Wo.pre 8 (by kernel_rfl) ?_
          refine Wo.nil ?_
          refine Wp.cond (decide ((l.length : Int) < 1)) (by kernel_rfl) ?_
          rw [if_neg (by simp; omega)]
          refine Wp.skip ?_
          refine Wp.seq ?_
          refine Wp.region ?_
          refine Wo.pre 8 (by kernel_rfl) ?_
          refine Wo.nil ?_
          refine Wp.seq ?_
          refine Wp.seq ?_
          refine Wp.region ?_
          refine Wo.pre 8 (by kernel_rfl) ?_
          refine Wo.nil ?_
          refine Wp.block ?_
          refine rrvec_loop l0 hw (size := 1) (by omega) (by omega) 1 0 (by omega) _ (by kernel_rfl) (by kernel_rfl) (by kernel_rfl) (by kernel_rfl) (by kernel_rfl) _ ?_
          intro ts' g0 g1 g2
          have e0 : getL ts' 0 = some (.ptr ⟨b, 0, 0⟩) := (g1 0 (by omega)).trans (by kernel_rfl)
          have e1 : getL ts' 1 = some (.int .i64 ((1 : Nat) : Int)) := (g1 1 (by omega)).trans (by kernel_rfl)
          rw [← hn] at g2
          rw [laid_eq g0 [(0, .ptr ⟨b, 0, 0⟩), (1, .int .i64 1), (6, .int .i64 n)] (by simp [e0, e1, g2])]
          refine Wp.seq ?_
          refine Wp.seq ?_
          refine Wp.region ?_
          refine Wo.pre 3 (by kernel_rfl) ?_
          refine Wo.val (.sl a l.length c) h (by kernel_rfl) (iop_ld (a := ⟨b, 0, 0⟩) (by kernel_rfl) l0) ?_
          refine Wo.pre 8 (by kernel_rfl) ?_
          refine Wo.nil ?_
          refine Wp.cond (decide (IntKind.i64.wrap ((l.length : Int) - 1) < (n : Int))) (by kernel_rfl) ?_
          rw [w1, if_pos (by simp; omega)]
          refine Wp.seq ?_
          refine Wp.region ?_
          refine Wo.pre 8 (by kernel_rfl) ?_
          refine Wo.nil ?_
          exact Wp.ret ⟨.inr rfl, rfl, (by kernel_rfl)⟩
        · have he : vE l ((1 : Nat) : Int) = 0 := by
            have h2' : ¬ l.length < ((1 : Nat) : Int).toNat + be (l.take ((1 : Nat) : Int).toNat) := by rw [Int.toNat_natCast, ← hn]; exact h2
            simp only [vE, hs, and_self, h1', not_true, if_false, h2']
          obtain ⟨q, t1, t2, t3⟩ := hw.sub hR.2.2.2.1 (i := 1) (j := 1 + n) (by omega) (by omega)
          obtain ⟨x, h1b, c1, c2, c3⟩ := own_run t2 (by rw [List.length_drop, List.length_take]; omega)
          have hR1 : RRd h1b b (.sl a l.length c) l := ⟨Nat.lt_of_lt_of_le hR.1 c2.1, by rw [c2.2 _ hR.1]; exact hR.2.1, hw.ext c2, hR.2.2.2⟩
          have l1 := hR1.ld
          obtain ⟨v', d1, d2, d3, d4, d5⟩ := hR1.2.2.1.drop hR.2.2.2.1 (n := 1 + n) (by omega)
          obtain ⟨h', s1, s2, s3⟩ := hR1.st d2 (fun a n c e => (d3 a n c e).2) (fun a n c e => by obtain ⟨⟨a0, m0, c0, q1, q2⟩, _⟩ := d3 a n c e; rw [← q2]; exact hR.2.2.2.2 _ _ _ q1)
          have t1' : ∀ (x y z : IX) (ρ : IX → AV), ρ x = .sl a l.length c → ρ y = .int .i64 1 → ρ z = .int .i64 (IntKind.i64.wrap (1 + (n : Int))) → iop (.slL 1 x (some y) (some z) none) ρ h = some (.val q h) := fun x y z ρ hx hy hz => t1 x y z ρ hx hy (by rw [hz, w2])
          have d1' : ∀ (x y : IX) (ρ : IX → AV), ρ x = .sl a l.length c → ρ y = .int .i64 (IntKind.i64.wrap (1 + (n : Int))) → iop (.slL 1 x (some y) none none) ρ h1b = some (.val v' h1b) := fun x y ρ hx hy => d1 x y ρ hx (by rw [hy, w2])
          refine ⟨h', x, v', ?_, by rw [vL, if_pos he, vN, Int.toNat_natCast, ← hn]; exact s2, ?_, ⟨Nat.le_trans c2.1 s3.1, fun k hk hkb => by rw [s3.2 k (Nat.lt_of_lt_of_le hk c2.1) hkb, c2.2 k hk]⟩, fun a n c e => (d3 a n c e).1⟩
          · rw [he]
            refine Runs.of' f30 rfl ?_
            refine Wp.seq ?_
            refine Wp.region ?_
            refine Wo.pre 8 (by kernel_rfl) ?_
            refine Wo.nil ?_
            refine Wp.seq ?_
            refine Wp.seq ?_
            refine Wp.region ?_
            refine Wo.pre 8 (by kernel_rfl) ?_
            refine Wo.pre 8 (by kernel_rfl) ?_
            refine Wo.nil ?_
            refine Wp.cond false (by kernel_rfl) ?_
            refine Wp.skip ?_
            refine Wp.seq ?_
            refine Wp.seq ?_
            refine Wp.region ?_
            refine Wo.pre 3 (by kernel_rfl) ?_
            refine Wo.val (.sl a l.length c) h (by kernel_rfl) (iop_ld (a := ⟨b, 0, 0⟩) (by kernel_rfl) l0) ?_
            refine Wo.pre 8 (by kernel_rfl) ?_
            refine Wo.nil ?_
            refine Wp.cond (decide ((l.length : Int) < 1)) (by kernel_rfl) ?_
            rw [if_neg (by simp; omega)]
            refine Wp.skip ?_
            refine Wp.seq ?_
            refine Wp.region ?_
            refine Wo.pre 8 (by kernel_rfl) ?_
            refine Wo.nil ?_
            refine Wp.seq ?_
            refine Wp.seq ?_
            refine Wp.region ?_
            refine Wo.pre 8 (by kernel_rfl) ?_
            refine Wo.nil ?_
            refine Wp.block ?_
            refine rrvec_loop l0 hw (size := 1) (by omega) (by omega) 1 0 (by omega) _ (by kernel_rfl) (by kernel_rfl) (by kernel_rfl) (by kernel_rfl) (by kernel_rfl) _ ?_
            intro ts' g0 g1 g2
            have e0 : getL ts' 0 = some (.ptr ⟨b, 0, 0⟩) := (g1 0 (by omega)).trans (by kernel_rfl)
            have e1 : getL ts' 1 = some (.int .i64 ((1 : Nat) : Int)) := (g1 1 (by omega)).trans (by kernel_rfl)
            rw [← hn] at g2
            rw [laid_eq g0 [(0, .ptr ⟨b, 0, 0⟩), (1, .int .i64 1), (6, .int .i64 n)] (by simp [e0, e1, g2])]
            refine Wp.seq ?_
            refine Wp.seq ?_
            refine Wp.region ?_
            refine Wo.pre 3 (by kernel_rfl) ?_
            refine Wo.val (.sl a l.length c) h (by kernel_rfl) (iop_ld (a := ⟨b, 0, 0⟩) (by kernel_rfl) l0) ?_
            refine Wo.pre 8 (by kernel_rfl) ?_
            refine Wo.nil ?_
            refine Wp.cond (decide (IntKind.i64.wrap ((l.length : Int) - 1) < (n : Int))) (by kernel_rfl) ?_
            rw [w1, if_neg (by simp; omega)]
            refine Wp.skip ?_
            refine Wp.seq ?_
            refine Wp.region ?_
            refine Wo.pre 3 (by kernel_rfl) ?_
            refine Wo.val (.sl a l.length c) h (by kernel_rfl) (iop_ld (a := ⟨b, 0, 0⟩) (by kernel_rfl) l0) ?_
            refine Wo.pre 3 (by kernel_rfl) ?_
            refine Wo.pre 1 (by kernel_rfl) ?_
            refine Wo.val q h (by kernel_rfl) (t1' _ _ _ _ (by kernel_rfl) (by kernel_rfl) (by kernel_rfl)) ?_
            refine Wo.call (by kernel_rfl) (by kernel_rfl) (c1) ?_
            refine Wo.pre 8 (by kernel_rfl) ?_
            refine Wo.nil ?_
            refine Wp.seq ?_
            refine Wp.region ?_
            refine Wo.pre 3 (by kernel_rfl) ?_
            refine Wo.pre 1 (by kernel_rfl) ?_
            refine Wo.val (.sl a l.length c) h1b (by kernel_rfl) (iop_ld (a := ⟨b, 0, 0⟩) (by kernel_rfl) l1) ?_
            refine Wo.pre 3 (by kernel_rfl) ?_
            refine Wo.val v' h1b (by kernel_rfl) (d1' _ _ _ (by kernel_rfl) (by kernel_rfl)) ?_
            refine Wo.pre 1 (by kernel_rfl) ?_
            refine Wo.pre 1 (by kernel_rfl) ?_
            refine Wo.val .undef h' (by kernel_rfl) (iop_st1 (a := ⟨b, 0, 0⟩) (v := v') (by kernel_rfl) (by kernel_rfl) d4 s1) ?_
            refine Wo.nil ?_
            refine Wp.seq ?_
            refine Wp.region ?_
            refine Wo.pre 8 (by kernel_rfl) ?_
            refine Wo.nil ?_
            exact Wp.ret ⟨.inr rfl, rfl, (by kernel_rfl)⟩
          · have e : (l.take (1 + n)).drop 1 = (l.drop 1).take n := by rw [List.drop_take]; congr 1; omega
            rw [vX, if_pos he, Int.toNat_natCast, ← hn, ← e]
            rcases c3 with h0 | ⟨b', g, w1, w2, w3, w4⟩
            · exact .inl h0
            · exact .inr ⟨b', g, w1, Nat.lt_of_lt_of_le w2 s3.1, by rw [s3.2 _ w2 (by have := hR.1; omega)]; exact w3, w4⟩
    · skip
      by_cases h1 : l.length < 2
      · have h1' : (l.length : Int) < ((2 : Nat) : Int) := by omega
        have he : vE l ((2 : Nat) : Int) = 4 := by simp only [vE, hs, and_self, h1', not_true, if_false, if_true]
        refine ⟨h, .nils, w, ?_, by rw [vL, if_neg (by rw [he]; decide)]; exact hR, by rw [vX, if_neg (by rw [he]; decide)]; exact .inl ⟨rfl, rfl⟩, ⟨Nat.le_refl _, fun _ _ _ => rfl⟩, SB.refl _⟩
        rw [he]
        refine Runs.of' f30 rfl ?_
        refine Wp.seq ?_
        refine Wp.region ?_
        refine Wo.pre 8 (by kernel_rfl) ?_
        refine Wo.nil ?_
        refine Wp.seq ?_
        refine Wp.seq ?_
        refine Wp.region ?_
        refine Wo.pre 8 (by kernel_rfl) ?_
        refine Wo.pre 8 (by kernel_rfl) ?_
        refine Wo.nil ?_
        refine Wp.cond false (by kernel_rfl) ?_
        refine Wp.skip ?_
        refine Wp.seq ?_
        refine Wp.seq ?_
        refine Wp.region ?_
        refine Wo.pre 3 (by kernel_rfl) ?_
        refine Wo.val w h (by kernel_rfl) (iop_ld (a := ⟨b, 0, 0⟩) (by kernel_rfl) l0) ?_
        refine Wo.val (.int .i64 l.length) h (by kernel_rfl) (hw.len (by kernel_rfl)) ?_
        refine Wo.pre 8 (by kernel_rfl) ?_
        refine Wo.nil ?_
        refine Wp.cond (decide ((l.length : Int) < 2)) (by kernel_rfl) ?_
        rw [if_pos (by simp; omega)]
        refine Wp.seq ?_
        refine Wp.region ?_
        refine Wo.pre 8 (by kernel_rfl) ?_
        refine Wo.nil ?_
        exact Wp.ret ⟨.inr rfl, rfl, (by kernel_rfl)⟩
      · have h1' : ¬ (l.length : Int) < ((2 : Nat) : Int) := by omega
        obtain ⟨a, c, rfl⟩ : ∃ a c, w = .sl a l.length c := by
          rcases hw with ⟨_, rfl⟩ | ⟨a, c, e, _⟩
          · exfalso; simp at h1
          · exact ⟨a, c, e⟩
        have hlt := be_lt (l.take 2)
        rw [List.length_take, Nat.min_eq_left (by omega)] at hlt
        obtain ⟨n, hn⟩ : ∃ n, n = be (l.take 2) := ⟨_, rfl⟩
        rw [← hn] at hlt
        have hn24 : n < 2 ^ 24 := by omega
        have hmx : maxRow < 2 ^ 62 := by decide
        have w1 : IntKind.i64.wrap ((l.length : Int) - 2) = (l.length : Int) - 2 := i64_fit _ (by omega)
        have w2 : IntKind.i64.wrap (2 + (n : Int)) = ((2 + n : Nat) : Int) := by rw [i64_fit _ (by omega)]; omega
        by_cases h2 : l.length < 2 + n
        · have he : vE l ((2 : Nat) : Int) = 4 := by
            have h2' : l.length < ((2 : Nat) : Int).toNat + be (l.take ((2 : Nat) : Int).toNat) := by rw [Int.toNat_natCast, ← hn]; exact h2
            simp only [vE, hs, and_self, h1', not_true, if_false, h2', if_true]
          refine ⟨h, .nils, .sl a l.length c, ?_, by rw [vL, if_neg (by rw [he]; decide)]; exact hR, by rw [vX, if_neg (by rw [he]; decide)]; exact .inl ⟨rfl, rfl⟩, ⟨Nat.le_refl _, fun _ _ _ => rfl⟩, SB.refl _⟩
          rw [he]
          refine Runs.of' f30 rfl ?_
          refine Wp.seq ?_
          refine Wp.region ?_
          refine Wo.pre 8 (by kernel_rfl) ?_
          refine Wo.nil ?_
          refine Wp.seq ?_
          refine Wp.seq ?_
          refine Wp.region ?_
          refine Wo.pre 8 (by kernel_rfl) ?_
          refine Wo.pre 8 (by kernel_rfl) ?_
          refine Wo.nil ?_
          refine Wp.cond false (by kernel_rfl) ?_
          refine Wp.skip ?_
          refine Wp.seq ?_
          refine Wp.seq ?_
          refine Wp.region ?_
          refine Wo.pre 3 (by kernel_rfl) ?_
          refine Wo.val (.sl a l.length c) h (by kernel_rfl) (iop_ld (a := ⟨b, 0, 0⟩) (by kernel_rfl) l0) ?_
          refine Wo.pre 8 (by kernel_rfl) ?_
          refine Wo.nil ?_
          refine Wp.cond (decide ((l.length : Int) < 2)) (by kernel_rfl) ?_
          rw [if_neg (by simp; omega)]
          refine Wp.skip ?_
          refine Wp.seq ?_
          refine Wp.region ?_
          refine Wo.pre 8 (by kernel_rfl) ?_
          refine Wo.nil ?_
          refine Wp.seq ?_
          refine Wp.seq ?_
          refine Wp.region ?_
          refine Wo.pre 8 (by kernel_rfl) ?_
          refine Wo.nil ?_
          refine Wp.block ?_
          refine rrvec_loop l0 hw (size := 2) (by omega) (by omega) 2 0 (by omega) _ (by kernel_rfl) (by kernel_rfl) (by kernel_rfl) (by kernel_rfl) (by kernel_rfl) _ ?_
          intro ts' g0 g1 g2
          have e0 : getL ts' 0 = some (.ptr ⟨b, 0, 0⟩) := (g1 0 (by omega)).trans (by kernel_rfl)
          have e1 : getL ts' 1 = some (.int .i64 ((2 : Nat) : Int)) := (g1 1 (by omega)).trans (by kernel_rfl)
          rw [← hn] at g2
          rw [laid_eq g0 [(0, .ptr ⟨b, 0, 0⟩), (1, .int .i64 2), (6, .int .i64 n)] (by simp [e0, e1, g2])]
          refine Wp.seq ?_
          refine Wp.seq ?_
          refine Wp.region ?_
          refine Wo.pre 3 (by kernel_rfl) ?_
          refine Wo.val (.sl a l.length c) h (by kernel_rfl) (iop_ld (a := ⟨b, 0, 0⟩) (by kernel_rfl) l0) ?_
          refine Wo.pre 8 (by kernel_rfl) ?_
          refine Wo.nil ?_
          refine Wp.cond (decide (IntKind.i64.wrap ((l.length : Int) - 2) < (n : Int))) (by kernel_rfl) ?_
          rw [w1, if_pos (by simp; omega)]
          refine Wp.seq ?_
          refine Wp.region ?_
          refine Wo.pre 8 (by kernel_rfl) ?_
          refine Wo.nil ?_
          exact Wp.ret ⟨.inr rfl, rfl, (by kernel_rfl)⟩
        · have he : vE l ((2 : Nat) : Int) = 0 := by
            have h2' : ¬ l.length < ((2 : Nat) : Int).toNat + be (l.take ((2 : Nat) : Int).toNat) := by rw [Int.toNat_natCast, ← hn]; exact h2
            simp only [vE, hs, and_self, h1', not_true, if_false, h2']
          obtain ⟨q, t1, t2, t3⟩ := hw.sub hR.2.2.2.1 (i := 2) (j := 2 + n) (by omega) (by omega)
          obtain ⟨x, h1b, c1, c2, c3⟩ := own_run t2 (by rw [List.length_drop, List.length_take]; omega)
          have hR1 : RRd h1b b (.sl a l.length c) l := ⟨Nat.lt_of_lt_of_le hR.1 c2.1, by rw [c2.2 _ hR.1]; exact hR.2.1, hw.ext c2, hR.2.2.2⟩
          have l1 := hR1.ld
          obtain ⟨v', d1, d2, d3, d4, d5⟩ := hR1.2.2.1.drop hR.2.2.2.1 (n := 2 + n) (by omega)
          obtain ⟨h', s1, s2, s3⟩ := hR1.st d2 (fun a n c e => (d3 a n c e).2) (fun a n c e => by obtain ⟨⟨a0, m0, c0, q1, q2⟩, _⟩ := d3 a n c e; rw [← q2]; exact hR.2.2.2.2 _ _ _ q1)
          have t1' : ∀ (x y z : IX) (ρ : IX → AV), ρ x = .sl a l.length c → ρ y = .int .i64 2 → ρ z = .int .i64 (IntKind.i64.wrap (2 + (n : Int))) → iop (.slL 1 x (some y) (some z) none) ρ h = some (.val q h) := fun x y z ρ hx hy hz => t1 x y z ρ hx hy (by rw [hz, w2])
          have d1' : ∀ (x y : IX) (ρ : IX → AV), ρ x = .sl a l.length c → ρ y = .int .i64 (IntKind.i64.wrap (2 + (n : Int))) → iop (.slL 1 x (some y) none none) ρ h1b = some (.val v' h1b) := fun x y ρ hx hy => d1 x y ρ hx (by rw [hy, w2])
          refine ⟨h', x, v', ?_, by rw [vL, if_pos he, vN, Int.toNat_natCast, ← hn]; exact s2, ?_, ⟨Nat.le_trans c2.1 s3.1, fun k hk hkb => by rw [s3.2 k (Nat.lt_of_lt_of_le hk c2.1) hkb, c2.2 k hk]⟩, fun a n c e => (d3 a n c e).1⟩
          · rw [he]
            refine Runs.of' f30 rfl ?_
            refine Wp.seq ?_
            refine Wp.region ?_
            refine Wo.pre 8 (by kernel_rfl) ?_
            refine Wo.nil ?_
            refine Wp.seq ?_
            refine Wp.seq ?_
            refine Wp.region ?_
            refine Wo.pre 8 (by kernel_rfl) ?_
            refine Wo.pre 8 (by kernel_rfl) ?_
            refine Wo.nil ?_
            refine Wp.cond false (by kernel_rfl) ?_
            refine Wp.skip ?_
            refine Wp.seq ?_
            refine Wp.seq ?_
            refine Wp.region ?_
            refine Wo.pre 3 (by kernel_rfl) ?_
            refine Wo.val (.sl a l.length c) h (by kernel_rfl) (iop_ld (a := ⟨b, 0, 0⟩) (by kernel_rfl) l0) ?_
            refine Wo.pre 8 (by kernel_rfl) ?_
            refine Wo.nil ?_
            refine Wp.cond (decide ((l.length : Int) < 2)) (by kernel_rfl) ?_
            rw [if_neg (by simp; omega)]
            refine Wp.skip ?_
            refine Wp.seq ?_
            refine Wp.region ?_
            refine Wo.pre 8 (by kernel_rfl) ?_
            refine Wo.nil ?_
            refine Wp.seq ?_
            refine Wp.seq ?_
            refine Wp.region ?_
            refine Wo.pre 8 (by kernel_rfl) ?_
            refine Wo.nil ?_
            refine Wp.block ?_
            refine rrvec_loop l0 hw (size := 2) (by omega) (by omega) 2 0 (by omega) _ (by kernel_rfl) (by kernel_rfl) (by kernel_rfl) (by kernel_rfl) (by kernel_rfl) _ ?_
            intro ts' g0 g1 g2
            have e0 : getL ts' 0 = some (.ptr ⟨b, 0, 0⟩) := (g1 0 (by omega)).trans (by kernel_rfl)
            have e1 : getL ts' 1 = some (.int .i64 ((2 : Nat) : Int)) := (g1 1 (by omega)).trans (by kernel_rfl)
            rw [← hn] at g2
            rw [laid_eq g0 [(0, .ptr ⟨b, 0, 0⟩), (1, .int .i64 2), (6, .int .i64 n)] (by simp [e0, e1, g2])]
            refine Wp.seq ?_
            refine Wp.seq ?_
            refine Wp.region ?_
            refine Wo.pre 3 (by kernel_rfl) ?_
            refine Wo.val (.sl a l.length c) h (by kernel_rfl) (iop_ld (a := ⟨b, 0, 0⟩) (by kernel_rfl) l0) ?_
            refine Wo.pre 8 (by kernel_rfl) ?_
            refine Wo.nil ?_
            refine Wp.cond (decide (IntKind.i64.wrap ((l.length : Int) - 2) < (n : Int))) (by kernel_rfl) ?_
            rw [w1, if_neg (by simp; omega)]
            refine Wp.skip ?_
            refine Wp.seq ?_
            refine Wp.region ?_
            refine Wo.pre 3 (by kernel_rfl) ?_
            refine Wo.val (.sl a l.length c) h (by kernel_rfl) (iop_ld (a := ⟨b, 0, 0⟩) (by kernel_rfl) l0) ?_
            refine Wo.pre 3 (by kernel_rfl) ?_
            refine Wo.pre 1 (by kernel_rfl) ?_
            refine Wo.val q h (by kernel_rfl) (t1' _ _ _ _ (by kernel_rfl) (by kernel_rfl) (by kernel_rfl)) ?_
            refine Wo.call (by kernel_rfl) (by kernel_rfl) (c1) ?_
            refine Wo.pre 8 (by kernel_rfl) ?_
            refine Wo.nil ?_
            refine Wp.seq ?_
            refine Wp.region ?_
            refine Wo.pre 3 (by kernel_rfl) ?_
            refine Wo.pre 1 (by kernel_rfl) ?_
            refine Wo.val (.sl a l.length c) h1b (by kernel_rfl) (iop_ld (a := ⟨b, 0, 0⟩) (by kernel_rfl) l1) ?_
            refine Wo.pre 3 (by kernel_rfl) ?_
            refine Wo.val v' h1b (by kernel_rfl) (d1' _ _ _ (by kernel_rfl) (by kernel_rfl)) ?_
            refine Wo.pre 1 (by kernel_rfl) ?_
            refine Wo.pre 1 (by kernel_rfl) ?_
            refine Wo.val .undef h' (by kernel_rfl) (iop_st1 (a := ⟨b, 0, 0⟩) (v := v') (by kernel_rfl) (by kernel_rfl) d4 s1) ?_
            refine Wo.nil ?_
            refine Wp.seq ?_
            refine Wp.region ?_
            refine Wo.pre 8 (by kernel_rfl) ?_
            refine Wo.nil ?_
            exact Wp.ret ⟨.inr rfl, rfl, (by kernel_rfl)⟩
          · have e : (l.take (2 + n)).drop 2 = (l.drop 2).take n := by rw [List.drop_take]; congr 1; omega
            rw [vX, if_pos he, Int.toNat_natCast, ← hn, ← e]
            rcases c3 with h0 | ⟨b', g, w1, w2, w3, w4⟩
            · exact .inl h0
            · exact .inr ⟨b', g, w1, Nat.lt_of_lt_of_le w2 s3.1, by rw [s3.2 _ w2 (by have := hR.1; omega)]; exact w3, w4⟩
    · skip
      by_cases h1 : l.length < 3
      · have h1' : (l.length : Int) < ((3 : Nat) : Int) := by omega
        have he : vE l ((3 : Nat) : Int) = 4 := by simp only [vE, hs, and_self, h1', not_true, if_false, if_true]
        refine ⟨h, .nils, w, ?_, by rw [vL, if_neg (by rw [he]; decide)]; exact hR, by rw [vX, if_neg (by rw [he]; decide)]; exact .inl ⟨rfl, rfl⟩, ⟨Nat.le_refl _, fun _ _ _ => rfl⟩, SB.refl _⟩
        rw [he]
        refine Runs.of' f30 rfl ?_
        refine Wp.seq ?_
        refine Wp.region ?_
        refine Wo.pre 8 (by kernel_rfl) ?_
        refine Wo.nil ?_
        refine Wp.seq ?_
        refine Wp.seq ?_
        refine Wp.region ?_
        refine Wo.pre 8 (by kernel_rfl) ?_
        refine Wo.pre 8 (by kernel_rfl) ?_
        refine Wo.nil ?_
        refine Wp.cond false (by kernel_rfl) ?_
        refine Wp.skip ?_
        refine Wp.seq ?_
        refine Wp.seq ?_
        refine Wp.region ?_
        refine Wo.pre 3 (by kernel_rfl) ?_
        refine Wo.val w h (by kernel_rfl) (iop_ld (a := ⟨b, 0, 0⟩) (by kernel_rfl) l0) ?_
        refine Wo.val (.int .i64 l.length) h (by kernel_rfl) (hw.len (by kernel_rfl)) ?_
        refine Wo.pre 8 (by kernel_rfl) ?_
        refine Wo.nil ?_
        refine Wp.cond (decide ((l.length : Int) < 3)) (by kernel_rfl) ?_
        rw [if_pos (by simp; omega)]
        refine Wp.seq ?_
        refine Wp.region ?_
        refine Wo.pre 8 (by kernel_rfl) ?_
        refine Wo.nil ?_
        exact Wp.ret ⟨.inr rfl, rfl, (by kernel_rfl)⟩
      · have h1' : ¬ (l.length : Int) < ((3 : Nat) : Int) := by omega
        obtain ⟨a, c, rfl⟩ : ∃ a c, w = .sl a l.length c := by
          rcases hw with ⟨_, rfl⟩ | ⟨a, c, e, _⟩
          · exfalso; simp at h1
          · exact ⟨a, c, e⟩
        have hlt := be_lt (l.take 3)
        rw [List.length_take, Nat.min_eq_left (by omega)] at hlt
        obtain ⟨n, hn⟩ : ∃ n, n = be (l.take 3) := ⟨_, rfl⟩
        rw [← hn] at hlt
        have hn24 : n < 2 ^ 24 := by omega
        have hmx : maxRow < 2 ^ 62 := by decide
        have w1 : IntKind.i64.wrap ((l.length : Int) - 3) = (l.length : Int) - 3 := i64_fit _ (by omega)
        have w2 : IntKind.i64.wrap (3 + (n : Int)) = ((3 + n : Nat) : Int) := by rw [i64_fit _ (by omega)]; omega
        by_cases h2 : l.length < 3 + n
        · have he : vE l ((3 : Nat) : Int) = 4 := by
            have h2' : l.length < ((3 : Nat) : Int).toNat + be (l.take ((3 : Nat) : Int).toNat) := by rw [Int.toNat_natCast, ← hn]; exact h2
            simp only [vE, hs, and_self, h1', not_true, if_false, h2', if_true]
          refine ⟨h, .nils, .sl a l.length c, ?_, by rw [vL, if_neg (by rw [he]; decide)]; exact hR, by rw [vX, if_neg (by rw [he]; decide)]; exact .inl ⟨rfl, rfl⟩, ⟨Nat.le_refl _, fun _ _ _ => rfl⟩, SB.refl _⟩
          rw [he]
          refine Runs.of' f30 rfl ?_
          refine Wp.seq ?_
          refine Wp.region ?_
          refine Wo.pre 8 (by kernel_rfl) ?_
          refine Wo.nil ?_
          refine Wp.seq ?_
          refine Wp.seq ?_
          refine Wp.region ?_
          refine Wo.pre 8 (by kernel_rfl) ?_
          refine Wo.pre 8 (by kernel_rfl) ?_
          refine Wo.nil ?_
          refine Wp.cond false (by kernel_rfl) ?_
          refine Wp.skip ?_
          refine Wp.seq ?_
          refine Wp.seq ?_
          refine Wp.region ?_
          refine Wo.pre 3 (by kernel_rfl) ?_
          refine Wo.val (.sl a l.length c) h (by kernel_rfl) (iop_ld (a := ⟨b, 0, 0⟩) (by kernel_rfl) l0) ?_
          refine Wo.pre 8 (by kernel_rfl) ?_
          refine Wo.nil ?_
          refine Wp.cond (decide ((l.length : Int) < 3)) (by kernel_rfl) ?_
          rw [if_neg (by simp; omega)]
          refine Wp.skip ?_
          refine Wp.seq ?_
          refine Wp.region ?_
          refine Wo.pre 8 (by kernel_rfl) ?_
          refine Wo.nil ?_
          refine Wp.seq ?_
          refine Wp.seq ?_
          refine Wp.region ?_
          refine Wo.pre 8 (by kernel_rfl) ?_
          refine Wo.nil ?_
          refine Wp.block ?_
          refine rrvec_loop l0 hw (size := 3) (by omega) (by omega) 3 0 (by omega) _ (by kernel_rfl) (by kernel_rfl) (by kernel_rfl) (by kernel_rfl) (by kernel_rfl) _ ?_
          intro ts' g0 g1 g2
          have e0 : getL ts' 0 = some (.ptr ⟨b, 0, 0⟩) := (g1 0 (by omega)).trans (by kernel_rfl)
          have e1 : getL ts' 1 = some (.int .i64 ((3 : Nat) : Int)) := (g1 1 (by omega)).trans (by kernel_rfl)
          rw [← hn] at g2
          rw [laid_eq g0 [(0, .ptr ⟨b, 0, 0⟩), (1, .int .i64 3), (6, .int .i64 n)] (by simp [e0, e1, g2])]
          refine Wp.seq ?_
          refine Wp.seq ?_
          refine Wp.region ?_
          refine Wo.pre 3 (by kernel_rfl) ?_
          refine Wo.val (.sl a l.length c) h (by kernel_rfl) (iop_ld (a := ⟨b, 0, 0⟩) (by kernel_rfl) l0) ?_
          refine Wo.pre 8 (by kernel_rfl) ?_
          refine Wo.nil ?_
          refine Wp.cond (decide (IntKind.i64.wrap ((l.length : Int) - 3) < (n : Int))) (by kernel_rfl) ?_
          rw [w1, if_pos (by simp; omega)]
          refine Wp.seq ?_
          refine Wp.region ?_
          refine Wo.pre 8 (by kernel_rfl) ?_
          refine Wo.nil ?_
          exact Wp.ret ⟨.inr rfl, rfl, (by kernel_rfl)⟩
        · have he : vE l ((3 : Nat) : Int) = 0 := by
            have h2' : ¬ l.length < ((3 : Nat) : Int).toNat + be (l.take ((3 : Nat) : Int).toNat) := by rw [Int.toNat_natCast, ← hn]; exact h2
            simp only [vE, hs, and_self, h1', not_true, if_false, h2']
          obtain ⟨q, t1, t2, t3⟩ := hw.sub hR.2.2.2.1 (i := 3) (j := 3 + n) (by omega) (by omega)
          obtain ⟨x, h1b, c1, c2, c3⟩ := own_run t2 (by rw [List.length_drop, List.length_take]; omega)
          have hR1 : RRd h1b b (.sl a l.length c) l := ⟨Nat.lt_of_lt_of_le hR.1 c2.1, by rw [c2.2 _ hR.1]; exact hR.2.1, hw.ext c2, hR.2.2.2⟩
          have l1 := hR1.ld
          obtain ⟨v', d1, d2, d3, d4, d5⟩ := hR1.2.2.1.drop hR.2.2.2.1 (n := 3 + n) (by omega)
          obtain ⟨h', s1, s2, s3⟩ := hR1.st d2 (fun a n c e => (d3 a n c e).2) (fun a n c e => by obtain ⟨⟨a0, m0, c0, q1, q2⟩, _⟩ := d3 a n c e; rw [← q2]; exact hR.2.2.2.2 _ _ _ q1)
          have t1' : ∀ (x y z : IX) (ρ : IX → AV), ρ x = .sl a l.length c → ρ y = .int .i64 3 → ρ z = .int .i64 (IntKind.i64.wrap (3 + (n : Int))) → iop (.slL 1 x (some y) (some z) none) ρ h = some (.val q h) := fun x y z ρ hx hy hz => t1 x y z ρ hx hy (by rw [hz, w2])
          have d1' : ∀ (x y : IX) (ρ : IX → AV), ρ x = .sl a l.length c → ρ y = .int .i64 (IntKind.i64.wrap (3 + (n : Int))) → iop (.slL 1 x (some y) none none) ρ h1b = some (.val v' h1b) := fun x y ρ hx hy => d1 x y ρ hx (by rw [hy, w2])
          refine ⟨h', x, v', ?_, by rw [vL, if_pos he, vN, Int.toNat_natCast, ← hn]; exact s2, ?_, ⟨Nat.le_trans c2.1 s3.1, fun k hk hkb => by rw [s3.2 k (Nat.lt_of_lt_of_le hk c2.1) hkb, c2.2 k hk]⟩, fun a n c e => (d3 a n c e).1⟩
          · rw [he]
            refine Runs.of' f30 rfl ?_
            refine Wp.seq ?_
            refine Wp.region ?_
            refine Wo.pre 8 (by kernel_rfl) ?_
            refine Wo.nil ?_
            refine Wp.seq ?_
            refine Wp.seq ?_
            refine Wp.region ?_
            refine Wo.pre 8 (by kernel_rfl) ?_
            refine Wo.pre 8 (by kernel_rfl) ?_
            refine Wo.nil ?_
            refine Wp.cond false (by kernel_rfl) ?_
            refine Wp.skip ?_
            refine Wp.seq ?_
            refine Wp.seq ?_
            refine Wp.region ?_
            refine Wo.pre 3 (by kernel_rfl) ?_
            refine Wo.val (.sl a l.length c) h (by kernel_rfl) (iop_ld (a := ⟨b, 0, 0⟩) (by kernel_rfl) l0) ?_
            refine Wo.pre 8 (by kernel_rfl) ?_
            refine Wo.nil ?_
            refine Wp.cond (decide ((l.length : Int) < 3)) (by kernel_rfl) ?_
            rw [if_neg (by simp; omega)]
            refine Wp.skip ?_
            refine Wp.seq ?_
            refine Wp.region ?_
            refine Wo.pre 8 (by kernel_rfl) ?_
            refine Wo.nil ?_
            refine Wp.seq ?_
            refine Wp.seq ?_
            refine Wp.region ?_
            refine Wo.pre 8 (by kernel_rfl) ?_
            refine Wo.nil ?_
            refine Wp.block ?_
            refine rrvec_loop l0 hw (size := 3) (by omega) (by omega) 3 0 (by omega) _ (by kernel_rfl) (by kernel_rfl) (by kernel_rfl) (by kernel_rfl) (by kernel_rfl) _ ?_
            intro ts' g0 g1 g2
            have e0 : getL ts' 0 = some (.ptr ⟨b, 0, 0⟩) := (g1 0 (by omega)).trans (by kernel_rfl)
            have e1 : getL ts' 1 = some (.int .i64 ((3 : Nat) : Int)) := (g1 1 (by omega)).trans (by kernel_rfl)
            rw [← hn] at g2
            rw [laid_eq g0 [(0, .ptr ⟨b, 0, 0⟩), (1, .int .i64 3), (6, .int .i64 n)] (by simp [e0, e1, g2])]
            refine Wp.seq ?_
            refine Wp.seq ?_
            refine Wp.region ?_
            refine Wo.pre 3 (by kernel_rfl) ?_
            refine Wo.val (.sl a l.length c) h (by kernel_rfl) (iop_ld (a := ⟨b, 0, 0⟩) (by kernel_rfl) l0) ?_
            refine Wo.pre 8 (by kernel_rfl) ?_
            refine Wo.nil ?_
            refine Wp.cond (decide (IntKind.i64.wrap ((l.length : Int) - 3) < (n : Int))) (by kernel_rfl) ?_
            rw [w1, if_neg (by simp; omega)]
            refine Wp.skip ?_
            refine Wp.seq ?_
            refine Wp.region ?_
            refine Wo.pre 3 (by kernel_rfl) ?_
            refine Wo.val (.sl a l.length c) h (by kernel_rfl) (iop_ld (a := ⟨b, 0, 0⟩) (by kernel_rfl) l0) ?_
            refine Wo.pre 3 (by kernel_rfl) ?_
            refine Wo.pre 1 (by kernel_rfl) ?_
            refine Wo.val q h (by kernel_rfl) (t1' _ _ _ _ (by kernel_rfl) (by kernel_rfl) (by kernel_rfl)) ?_
            refine Wo.call (by kernel_rfl) (by kernel_rfl) (c1) ?_
            refine Wo.pre 8 (by kernel_rfl) ?_
            refine Wo.nil ?_
            refine Wp.seq ?_
            refine Wp.region ?_
            refine Wo.pre 3 (by kernel_rfl) ?_
            refine Wo.pre 1 (by kernel_rfl) ?_
            refine Wo.val (.sl a l.length c) h1b (by kernel_rfl) (iop_ld (a := ⟨b, 0, 0⟩) (by kernel_rfl) l1) ?_
            refine Wo.pre 3 (by kernel_rfl) ?_
            refine Wo.val v' h1b (by kernel_rfl) (d1' _ _ _ (by kernel_rfl) (by kernel_rfl)) ?_
            refine Wo.pre 1 (by kernel_rfl) ?_
            refine Wo.pre 1 (by kernel_rfl) ?_
            refine Wo.val .undef h' (by kernel_rfl) (iop_st1 (a := ⟨b, 0, 0⟩) (v := v') (by kernel_rfl) (by kernel_rfl) d4 s1) ?_
            refine Wo.nil ?_
            refine Wp.seq ?_
            refine Wp.region ?_
            refine Wo.pre 8 (by kernel_rfl) ?_
            refine Wo.nil ?_
            exact Wp.ret ⟨.inr rfl, rfl, (by kernel_rfl)⟩
          · have e : (l.take (3 + n)).drop 3 = (l.drop 3).take n := by rw [List.drop_take]; congr 1; omega
            rw [vX, if_pos he, Int.toNat_natCast, ← hn, ← e]
            rcases c3 with h0 | ⟨b', g, w1, w2, w3, w4⟩
            · exact .inl h0
            · exact .inr ⟨b', g, w1, Nat.lt_of_lt_of_le w2 s3.1, by rw [s3.2 _ w2 (by have := hR.1; omega)]; exact w3, w4⟩
  · have he : vE l size = 1 := by simp only [vE, hs, not_false_eq_true, if_true]
    have n1 : (size != 1) = true := by simp; omega
    have n2 : (size != 2) = true := by simp; omega
    have n3 : (size != 3) = true := by simp; omega
    refine ⟨h, .nils, w, ?_, by rw [vL, if_neg (by rw [he]; decide)]; exact hR, by rw [vX, if_neg (by rw [he]; decide)]; exact .inl ⟨rfl, rfl⟩, ⟨Nat.le_refl _, fun _ _ _ => rfl⟩, SB.refl _⟩
    rw [he]
    refine Runs.of' f30 rfl ?_
    refine Wp.seq ?_
    refine Wp.region ?_
    refine Wo.pre 1 (by kernel_rfl) ?_
    refine Wo.pre 1 (by kernel_rfl) ?_
    refine Wo.nil ?_
    refine Wp.seq ?_
    refine Wp.seq ?_
    refine Wp.region ?_
    refine Wo.pre 1 (by kernel_rfl) ?_
    refine Wo.val (.bool true) h (by kernel_rfl) (iop_neB (k := .i64) (a := size) (b := 1) true (by kernel_rfl) (by kernel_rfl) n1) ?_
    refine Wo.pre 1 (by kernel_rfl) ?_
    refine Wo.pre 1 (by kernel_rfl) ?_
    refine Wo.val (.bool true) h (by kernel_rfl) (iop_neB (k := .i64) (a := size) (b := 2) true (by kernel_rfl) (by kernel_rfl) n2) ?_
    refine Wo.pre 1 (by kernel_rfl) ?_
    refine Wo.pre 1 (by kernel_rfl) ?_
    refine Wo.pre 1 (by kernel_rfl) ?_
    refine Wo.val (.bool true) h (by kernel_rfl) (iop_neB (k := .i64) (a := size) (b := 3) true (by kernel_rfl) (by kernel_rfl) n3) ?_
    refine Wo.pre 1 (by kernel_rfl) ?_
    refine Wo.nil ?_
    refine Wp.cond true (by kernel_rfl) ?_
    refine Wp.seq ?_
    refine Wp.region ?_
    refine Wo.pre 1 (by kernel_rfl) ?_
    refine Wo.pre 1 (by kernel_rfl) ?_
    refine Wo.nil ?_
    exact Wp.ret ⟨.inr rfl, rfl, (by kernel_rfl)⟩
end Go.Det

/- The law WireReads: rows of calls of a reader are answered as the document says. -/
set_option linter.unusedVariables false
set_option linter.unusedSimpArgs false
set_option linter.unusedSectionVars false
namespace Go.Det
open Go.Proofs
attribute [local irreducible] Wp Wo Wd iop ev slots quiets wanted put

theorem iop_ia {x y : IX} {ρ : IX → AV} {h : H} {a : AA} {n : Nat} {c : Cp} {s i : Nat} (hx : ρ x = .sl a n c) (hy : ρ y = .int .i64 i) (hi : i < n) : iop (.ia s x y) ρ h = some (.val (.ptr ⟨a.b, a.g, a.o + i * s⟩) h) := by
  have h1 : (i : Int) < n := by omega
  simp [iop, hx, hy, asI, h1, hi]

theorem iop_stA {x y : IX} {ρ : IX → AV} {h h' : H} {a : AA} {cs : List AV} {n : Nat} (hx : ρ x = .ptr a) (hy : ρ y = .agg cs) (hn : cs.length = n) (hs : h.st a cs = some h') : iop (.st n x y) ρ h = some (.val .undef h') := by
  have e : (AV.agg cs).cells = cs := rfl
  simp only [iop, hx, hy, e, hn, BEq.rfl, if_true, hs, Option.map_some]

theorem Rd.keep {h h' : H} {rb : Nat} {v : AV} {L : List UInt8} (hR : Rd h rb v L) (hn : h.n ≤ h'.n) (h1 : h'.get rb = h.get rb) (h2 : ∀ a n c, v = .sl a n c → h'.get a.b = h.get a.b) : Rd h' rb v L := by
  refine ⟨Nat.lt_of_lt_of_le hR.1 hn, by rw [h1]; exact hR.2.1, ?_, hR.2.2.2⟩
  rcases hR.2.2.1 with h0 | ⟨a, c, e, e2, e3⟩
  · exact .inl h0
  · exact .inr ⟨a, c, e, Nat.lt_of_lt_of_le e2 hn, by rw [ldn_same (h2 _ _ _ e)]; exact e3⟩
theorem RRd.keep {h h' : H} {rb : Nat} {v : AV} {L : List UInt8} (hR : RRd h rb v L) (hn : h.n ≤ h'.n) (h1 : h'.get rb = h.get rb) (h2 : ∀ a n c, v = .sl a n c → h'.get a.b = h.get a.b) : RRd h' rb v L := by
  refine ⟨Nat.lt_of_lt_of_le hR.1 hn, by rw [h1]; exact hR.2.1, ?_, hR.2.2.2⟩
  rcases hR.2.2.1 with h0 | ⟨a, c, e, e2, e3⟩
  · exact .inl h0
  · exact .inr ⟨a, c, e, Nat.lt_of_lt_of_le e2 hn, by rw [ldn_same (h2 _ _ _ e)]; exact e3⟩
theorem vL_len (l : List UInt8) (n : Int) : (vL l n).length ≤ l.length := by unfold vL; split <;> simp
theorem vX_len (l : List UInt8) (n : Int) : (vX l n).length ≤ l.length := by unfold vX; split <;> simp [List.length_take, List.length_drop]; omega
/-- What holds at each call: both readers have the same row left. -/
structure Two (lo rb sb : Nat) (acts : List (Int × Int)) (ab : AA) (h : H) (L : List UInt8) : Prop where
  ex : ∃ v w, Rd h rb v L ∧ RRd h sb w L ∧ (∀ a n c, v = .sl a n c → a.b < rb) ∧ (∀ a n c, w = .sl a n c → rb < a.b ∧ a.b < sb)
  lt : rb < sb
  lob : lo ≤ rb
  len : L.length ≤ maxRow
  act : ∀ (j : Nat) (x : Int × Int), acts[j]? = some x → h.ldn ⟨ab.b, ab.g, ab.o + j * 2⟩ 2 = some [.int .i64 x.1, .int .i64 x.2]
  abn : acts ≠ [] → ab.b < lo

theorem Two.next {lo rb sb : Nat} {acts : List (Int × Int)} {ab : AA} {h h' : H} {L L' : List UInt8} {v w v' w' : AV} (hT : Two lo rb sb acts ab h L) (hR : Rd h rb v L) (hS : RRd h sb w L) (hv : ∀ a n c, v = .sl a n c → a.b < rb) (hw : ∀ a n c, w = .sl a n c → rb < a.b ∧ a.b < sb)
    (hR' : Rd h' rb v' L') (hS' : RRd h' sb w' L') (sv : SB v v') (sw : SB w w') (keep : ∀ b, b < h.n → b ≠ rb → b ≠ sb → h'.get b = h.get b) (hl : L'.length ≤ L.length) : Two lo rb sb acts ab h' L' := by
  refine ⟨⟨v', w', hR', hS', ?_, ?_⟩, hT.lt, hT.lob, Nat.le_trans hl hT.len, ?_, hT.abn⟩
  · intro a n c e
    obtain ⟨a0, n0, c0, e0, q⟩ := sv a n c e
    rw [← q]; exact hv _ _ _ e0
  · intro a n c e
    obtain ⟨a0, n0, c0, e0, q⟩ := sw a n c e
    rw [← q]; exact hw _ _ _ e0
  · intro j x hj
    have hne : acts ≠ [] := by intro e; rw [e] at hj; simp at hj
    have h1 := hT.abn hne
    have h2 := hT.lob
    have h3 := hT.lt
    have h4 := hR.1
    have hk : h'.get (AA.b ⟨ab.b, ab.g, ab.o + j * 2⟩) = h.get (AA.b ⟨ab.b, ab.g, ab.o + j * 2⟩) := keep ab.b (by omega) (by omega) (by omega)
    rw [ldn_same hk]
    exact hT.act j x hj

end Go.Det

/- The law WireReads, from its head. -/
set_option linter.unusedVariables false
set_option linter.unusedSimpArgs false
set_option linter.unusedSectionVars false
namespace Go.Det
open Go.Proofs
attribute [local irreducible] Wp Wo Wd iop ev slots quiets wanted put

theorem iop_lenS {x : IX} {ρ : IX → AV} {h : H} {v : AV} {n : Nat} (hx : ρ x = v) (hv : (v = .nils ∧ n = 0) ∨ ∃ a c, v = .sl a n c) : iop (.len false x) ρ h = some (.val (.int .i64 n) h) := by
  rcases hv with ⟨rfl, rfl⟩ | ⟨a, c, rfl⟩ <;> simp [iop, hx]

end Go.Det

/- The law WireBack: things, their sizes, how they are laid down and read. -/
set_option linter.unusedVariables false
set_option linter.unusedSimpArgs false
set_option linter.unusedSectionVars false
namespace Go.Det
open Go.Proofs
attribute [local irreducible] Wp Wo Wd iop ev slots quiets wanted put

/-- A row of cells of its own. -/
def OwC (e sz lo : Nat) (h : H) (v : AV) (cs : List AV) (n : Nat) : Prop := (v = .nils ∧ cs = [] ∧ n = 0) ∨ ∃ b g, lo ≤ b ∧ b < h.n ∧ h.get b = some (.cells g e cs 0 false) ∧ v = .sl ⟨b, g, 0⟩ n (.op sz) ∧ cs.length = n * sz

theorem OwC.ext {e sz lo n : Nat} {h h' : H} {v : AV} {cs : List AV} (ho : OwC e sz lo h v cs n) (hn : h.n ≤ h'.n) (hk : ∀ b g c, lo ≤ b → b < h.n → h.get b = some (.cells g e c 0 false) → h'.get b = h.get b) : OwC e sz lo h' v cs n := by
  rcases ho with h0 | ⟨b, g, h1, h2, h3, h4⟩
  · exact .inl h0
  · exact .inr ⟨b, g, h1, Nat.lt_of_lt_of_le h2 hn, by rw [hk b _ _ h1 h2 h3]; exact h3, h4⟩

theorem Ow.keep {lo : Nat} {h h' : H} {v : AV} {l : List UInt8} (ho : Ow lo h v l) (hn : h.n ≤ h'.n) (hk : ∀ b g c, lo ≤ b → b < h.n → h.get b = some (.cells g 5 c 0 false) → h'.get b = h.get b) : Ow lo h' v l := by
  rcases ho with h0 | ⟨b, g, h1, h2, h3, h4⟩
  · exact .inl h0
  · exact .inr ⟨b, g, h1, Nat.lt_of_lt_of_le h2 hn, by rw [hk b _ _ h1 h2 h3]; exact h3, h4⟩

theorem iop_appG {x y : IX} {ρ : IX → AV} {h h' : H} {v w z : AV} {e sz by_ : Nat} (hx : ρ x = v) (hy : ρ y = w) (hs : isStrV w = false) (ha : append h e sz by_ v w = some (.val z h')) : iop (.app e sz by_ false x y) ρ h = some (.val z h') := by
  simp only [iop, hx, hy, hs, BEq.rfl, if_true, ha]

/-- One more element behind. -/
theorem OwC.app {e sz lo n bytes : Nat} {h : H} {v : AV} {cs new : List AV} (ho : OwC e (sz + 1) lo h v cs n) (hlo : lo ≤ h.n) (hs : new.length = sz + 1) (h1 : new.all AV.one = true) (hf : fits (n + 1) bytes = true) (hb : n < 2 ^ 62) (H1 : H) (hH1 : H1 = h.new (.cells 0 e new 0 false)) :
    ∃ v' h', append H1 e (sz + 1) bytes v (.sl ⟨h.n, 0, 0⟩ 1 (.ex 1)) = some (.val v' h') ∧ OwC e (sz + 1) lo h' v' (cs ++ new) (n + 1) ∧ h.n ≤ h'.n ∧ ∀ b, b < h.n → (b < lo ∨ ∀ g c, h.get b ≠ some (.cells g e c 0 false)) → h'.get b = h.get b := by
  have g1 : H1.get h.n = some (.cells 0 e new 0 false) := by rw [hH1]; exact h.get_new _
  have n1 : H1.n = h.n + 1 := by rw [hH1]; rfl
  have hne : ∀ b, b ≠ h.n → H1.get b = h.get b := fun b hb => by rw [hH1]; exact h.get_new_ne b _ hb
  have hld : H1.ldn ⟨h.n, 0, 0⟩ (1 * (sz + 1)) = some new := by
    unfold H.ldn H.row
    simp only [g1, BEq.rfl, Bool.not_false, Bool.true_or, Bool.and_self, if_true, Nat.one_mul]
    rw [← hs]
    exact cut_all _
  unfold append
  simp only [srcCells, hld, Option.map_some]
  rcases ho with ⟨rfl, rfl, rfl⟩ | ⟨b, g, q1, q2, q3, rfl, q5⟩
  · rw [Nat.zero_add] at hf
    refine ⟨.sl ⟨H1.n, 0, 0⟩ 1 (.op (sz + 1)), H1.new (.cells 0 e new 0 false), ?_, .inr ⟨H1.n, 0, by omega, by show _ < H1.n + 1; omega, by rw [H1.get_new]; rfl, rfl, by simp [hs]⟩, by show h.n ≤ H1.n + 1; omega, fun b hb _ => ?_⟩
    · simp [hf, h1]
    · rw [H1.get_new_ne b _ (by omega), hne b (by omega)]
  · have hbn : b ≠ h.n := by omega
    have q3' : H1.get b = some (.cells g e cs 0 false) := by rw [hne b hbn]; exact q3
    refine ⟨.sl ⟨b, g + 1, 0⟩ (n + 1) (.op (sz + 1)), H1.set b (.cells (g + 1) e (cs ++ new) 0 false), ?_, .inr ⟨b, g + 1, q1, by show b < H1.n; omega, H1.get_set b _, rfl, by rw [List.length_append, q5, hs, Nat.succ_mul]⟩, by show h.n ≤ H1.n; omega, fun b' hb' hne' => ?_⟩
    · have hle : n + 1 ≤ 9223372036854775807 := by omega
      simp [hf, h1, q3', q5, hle]
    · have : b' ≠ b := by
        rintro rfl
        rcases hne' with h0 | h0
        · omega
        · exact h0 _ _ q3
      rw [H1.get_set_ne b b' _ this, hne b' (by omega)]

/-- A thing: whether a vector, how great, its number, its bytes. -/
structure Th where
  vec : Bool
  size : Int
  n : Nat
  b : List UInt8

def szOf (vec : Bool) (size : Int) : Nat := if vec then 1 + (IntKind.u64.wrap size).toNat % 3 else match (IntKind.u64.wrap size).toNat % 5 with
  | 0 => 1
  | 1 => 2
  | 2 => 3
  | 3 => 4
  | _ => 8
def Th.sz (t : Th) : Nat := szOf t.vec t.size

def Th.enc (t : Th) : List UInt8 := if t.vec = true then digits t.b.length t.sz t.sz ++ t.b else digits t.n t.sz t.sz
def Th.encE (t : Th) : Int := if t.vec = true then numE t.b.length t.sz else numE t.n t.sz

/-! What is kept. -/
def encs (ks : List (Th × AV)) : List UInt8 := (ks.map fun p => p.1.enc).flatten
def thC (p : Th × AV) : List AV := [.bool p.1.vec, .int .i64 p.1.size, .int .u64 p.1.n, p.2]
def kcells (ks : List (Th × AV)) : List AV := (ks.map thC).flatten
def ecells (ks : List (Th × AV)) : List AV := (List.range ks.length).map fun j => .int .i64 (encs (ks.take (j + 1))).length
structure J1 (h0 h : H) (al ke en : AV) (ks : List (Th × AV)) : Prop where
  ext : Ext h0 h
  al : Ow h0.n h al (encs ks)
  ke : OwC 57 4 h0.n h ke (kcells ks) ks.length
  en : OwC 3 1 h0.n h en (ecells ks) ks.length
  ok : ∀ p ∈ ks, Bs h0 p.2 p.1.b ∧ p.1.b.length ≤ 300 ∧ p.1.n < 2 ^ 64 ∧ p.1.encE = 0
  len : (encs ks).length ≤ 311 * ks.length
end Go.Det

/- Entries: whether they may be. -/
set_option linter.unusedVariables false
set_option linter.unusedSimpArgs false
set_option linter.unusedSectionVars false
namespace Go.Det
open Go.Proofs
attribute [local irreducible] Wp Wo Wd iop ev slots quiets wanted put

theorem iop_cmp {op : BinOp} {x y : IX} {ρ : IX → AV} {h : H} {k : IntKind} {a b : Int} (c : Bool) (hx : ρ x = .int k a) (hy : ρ y = .int k b) (hop : op = .lss ∨ op = .leq ∨ op = .gtr ∨ op = .geq ∨ op = .eql ∨ op = .neq) (e : binInt op k a b = some (.bool c)) : iop (.bin op x y) ρ h = some (.val (.bool c) h) := by
  rcases hop with rfl | rfl | rfl | rfl | rfl | rfl <;> simp [iop, binop, hx, hy, e]

/-- A chain: rows of bytes. -/
structure Ch (h : H) (v : AV) (xs : List (AV × List UInt8)) : Prop where
  row : (v = .nils ∧ xs = []) ∨ ∃ a c, v = .sl a xs.length c ∧ a.b < h.n ∧ h.ldn a xs.length = some (xs.map (·.1))
  el : ∀ p ∈ xs, Bs h p.1 p.2 ∧ Cok p.1
  cok : Cok v

theorem Ch.ext {h h' : H} {v : AV} {xs : List (AV × List UInt8)} (c : Ch h v xs) (hx : Ext h h') : Ch h' v xs := by
  refine ⟨c.row.imp id ?_, fun p hp => ⟨(c.el p hp).1.ext hx, (c.el p hp).2⟩, c.cok⟩
  rintro ⟨a, q, h1, h2, h3⟩
  exact ⟨a, q, h1, Nat.lt_of_lt_of_le h2 hx.1, by rw [ldn_same (hx.2 _ h2)]; exact h3⟩
theorem Ch.lenS {h : H} {v : AV} {xs : List (AV × List UInt8)} (c : Ch h v xs) : (v = .nils ∧ xs.length = 0) ∨ ∃ a q, v = .sl a xs.length q := by
  rcases c.row with ⟨h1, h2⟩ | ⟨a, q, h1, _⟩
  · exact .inl ⟨h1, by rw [h2]; rfl⟩
  · exact .inr ⟨a, q, h1⟩
theorem Ch.parts {h : H} {v : AV} {xs : List (AV × List UInt8)} (c : Ch h v xs) : v.cells = [v] ∧ v.one = true ∧ isStrV v = false := by
  rcases c.row with ⟨rfl, _⟩ | ⟨a, q, rfl, _⟩ <;> exact ⟨rfl, rfl, rfl⟩
theorem Ch.at {h : H} {v : AV} {xs : List (AV × List UInt8)} (c : Ch h v xs) {i : Nat} {p : AV × List UInt8} (hp : xs[i]? = some p) : ∃ a q, v = .sl a xs.length q ∧ h.ldg ⟨a.b, a.g, a.o + i * 1⟩ none = some p.1 := by
  rcases c.row with ⟨_, rfl⟩ | ⟨a, q, h1, h2, h3⟩
  · simp at hp
  · exact ⟨a, q, h1, by rw [Nat.mul_one]; exact ldn_at h3 (by simp [hp])⟩

def mayC (c : List UInt8) : Bool := decide (1 ≤ c.length ∧ c.length ≤ 512)
def mayE (xs : List (AV × List UInt8)) : Bool := decide (1 ≤ xs.length ∧ xs.length ≤ 4) && xs.all fun p => mayC p.2

set_option maxHeartbeats 1000000 in
theorem may_loop {h : H} {v : AV} {xs : List (AV × List UInt8)} (hc : Ch h v xs) (hlen : xs.length < 2 ^ 62) :
    ∀ (k i : Nat), i + k = xs.length → ∀ (ts : List AV), ts.length = 31 → getL ts 16 = some v → getL ts 17 = some (.int .i64 xs.length) → getL ts 18 = some (.int .i64 i) →
      ∀ (Q : Ex → St → Prop), ((xs.drop i).all (fun p => mayC p.2) = false → ∀ ts', ts'.length = 31 → getL ts' 2 = some (.bool false) → Q .ret (ts', h)) →
        ((xs.drop i).all (fun p => mayC p.2) = true → ∀ ts', ts'.length = 31 → Q (.exit 0) (ts', h)) → Wp TF (.loop l49_1) (ts, h) Q := by
  intro k
  induction k with
  | zero =>
    intro i hi ts t0 t16 t17 t18 Q hbad hgood
    obtain rfl : i = xs.length := by omega
    refine Wp.loop ?_
    rw [laid_eq t0 [(16, v), (17, .int .i64 xs.length), (18, .int .i64 xs.length)] (by simp [t16, t17, t18])]
    unfold l49_1
    refine Wp.seq ?_
    refine Wp.region ?_
    refine Wo.val (.bool false) h (by kernel_rfl) (iop_cmp (op := .lss) (k := .i64) (a := xs.length) (b := xs.length) false (by kernel_rfl) (by kernel_rfl) (by simp) (by simp [binInt])) ?_
    refine Wo.nil ?_
    refine Wp.seq ?_
    refine Wp.cond false (by kernel_rfl) ?_
    exact Wp.exit (hgood (by simp) _ (by kernel_rfl))
  | succ k ih =>
    intro i hi ts t0 t16 t17 t18 Q hbad hgood
    have hlt : i < xs.length := by omega
    obtain ⟨p, hp⟩ : ∃ p, xs[i]? = some p := ⟨xs[i], List.getElem?_eq_getElem hlt⟩
    have hdrop : xs.drop i = p :: xs.drop (i + 1) := by
      rw [List.drop_eq_getElem_cons hlt]
      congr 1
      exact (List.getElem?_eq_some_iff.1 hp).2
    obtain ⟨a, q, rfl, hld⟩ := hc.at hp
    have hB := (hc.el p (List.mem_of_getElem? hp)).1
    have wi : IntKind.i64.wrap ((i : Int) + 1) = ((i + 1 : Nat) : Int) := by rw [i64_fit _ (by omega)]; omega
    refine Wp.loop ?_
    rw [laid_eq t0 [(16, .sl a xs.length q), (17, .int .i64 xs.length), (18, .int .i64 i)] (by simp [t16, t17, t18])]
    unfold l49_1
    by_cases h1 : p.2.length < 1
    · have hf : (xs.drop i).all (fun p => mayC p.2) = false := by rw [hdrop, List.all_cons]; simp [mayC]; omega
      refine Wp.seq ?_
      refine Wp.region ?_
      refine Wo.val (.bool true) h (by kernel_rfl) (iop_cmp (op := .lss) (k := .i64) (a := i) (b := xs.length) true (by kernel_rfl) (by kernel_rfl) (by simp) (by simp [binInt]; omega)) ?_
      refine Wo.nil ?_
      refine Wp.seq ?_
      refine Wp.cond true (by kernel_rfl) ?_
      refine Wp.skip ?_
      refine Wp.seq ?_
      refine Wp.block ?_
      refine Wp.seq ?_
      refine Wp.region ?_
      refine Wo.val _ h (by kernel_rfl) (iop_ia (a := a) (n := xs.length) (c := q) (i := i) (by kernel_rfl) (by kernel_rfl) hlt) ?_
      refine Wo.val p.1 h (by kernel_rfl) (iop_ld (a := ⟨a.b, a.g, a.o + i * 1⟩) (by kernel_rfl) hld) ?_
      refine Wo.pre 1 (by kernel_rfl) ?_
      refine Wo.nil ?_
      refine Wp.seq ?_
      refine Wp.region ?_
      refine Wo.pre 1 (by kernel_rfl) ?_
      refine Wo.val (.int .i64 p.2.length) h (by kernel_rfl) ((hB.len (by kernel_rfl))) ?_
      refine Wo.val (.bool true) h (by kernel_rfl) (iop_cmp (op := .lss) (k := .i64) (a := p.2.length) (b := 1) true (by kernel_rfl) (by kernel_rfl) (by simp) (by simp [binInt]; omega)) ?_
      refine Wo.pre 1 (by kernel_rfl) ?_
      refine Wo.pre 1 (by kernel_rfl) ?_
      refine Wo.pre 1 (by kernel_rfl) ?_
      refine Wo.pre 1 (by kernel_rfl) ?_
      refine Wo.pre 1 (by kernel_rfl) ?_
      refine Wo.nil ?_
      refine Wp.cond true (by kernel_rfl) ?_
      refine Wp.seq ?_
      refine Wp.region ?_
      refine Wo.pre 1 (by kernel_rfl) ?_
      refine Wo.nil ?_
      exact Wp.ret (hbad hf _ (by kernel_rfl) (by kernel_rfl))
    · by_cases h2 : p.2.length > 512
      · have hf : (xs.drop i).all (fun p => mayC p.2) = false := by rw [hdrop, List.all_cons]; simp [mayC]; omega
        refine Wp.seq ?_
        refine Wp.region ?_
        refine Wo.val (.bool true) h (by kernel_rfl) (iop_cmp (op := .lss) (k := .i64) (a := i) (b := xs.length) true (by kernel_rfl) (by kernel_rfl) (by simp) (by simp [binInt]; omega)) ?_
        refine Wo.nil ?_
        refine Wp.seq ?_
        refine Wp.cond true (by kernel_rfl) ?_
        refine Wp.skip ?_
        refine Wp.seq ?_
        refine Wp.block ?_
        refine Wp.seq ?_
        refine Wp.region ?_
        refine Wo.val _ h (by kernel_rfl) (iop_ia (a := a) (n := xs.length) (c := q) (i := i) (by kernel_rfl) (by kernel_rfl) hlt) ?_
        refine Wo.val p.1 h (by kernel_rfl) (iop_ld (a := ⟨a.b, a.g, a.o + i * 1⟩) (by kernel_rfl) hld) ?_
        refine Wo.pre 1 (by kernel_rfl) ?_
        refine Wo.nil ?_
        refine Wp.seq ?_
        refine Wp.region ?_
        refine Wo.pre 1 (by kernel_rfl) ?_
        refine Wo.val (.int .i64 p.2.length) h (by kernel_rfl) ((hB.len (by kernel_rfl))) ?_
        refine Wo.val (.bool false) h (by kernel_rfl) (iop_cmp (op := .lss) (k := .i64) (a := p.2.length) (b := 1) false (by kernel_rfl) (by kernel_rfl) (by simp) (by simp [binInt]; omega)) ?_
        refine Wo.pre 1 (by kernel_rfl) ?_
        refine Wo.pre 1 (by kernel_rfl) ?_
        refine Wo.val (.int .i64 p.2.length) h (by kernel_rfl) ((hB.len (by kernel_rfl))) ?_
        refine Wo.val (.bool true) h (by kernel_rfl) (iop_cmp (op := .gtr) (k := .i64) (a := p.2.length) (b := 512) true (by kernel_rfl) (by kernel_rfl) (by simp) (by simp [binInt]; omega)) ?_
        refine Wo.pre 1 (by kernel_rfl) ?_
        refine Wo.nil ?_
        refine Wp.cond true (by kernel_rfl) ?_
        refine Wp.seq ?_
        refine Wp.region ?_
        refine Wo.pre 1 (by kernel_rfl) ?_
        refine Wo.nil ?_
        exact Wp.ret (hbad hf _ (by kernel_rfl) (by kernel_rfl))
      · have hf : (xs.drop i).all (fun p => mayC p.2) = (xs.drop (i + 1)).all (fun p => mayC p.2) := by
          have : mayC p.2 = true := by simp [mayC]; omega
          rw [hdrop, List.all_cons, this, Bool.true_and]
        rw [hf] at hbad hgood
        refine Wp.seq ?_
        refine Wp.region ?_
        refine Wo.val (.bool true) h (by kernel_rfl) (iop_cmp (op := .lss) (k := .i64) (a := i) (b := xs.length) true (by kernel_rfl) (by kernel_rfl) (by simp) (by simp [binInt]; omega)) ?_
        refine Wo.nil ?_
        refine Wp.seq ?_
        refine Wp.cond true (by kernel_rfl) ?_
        refine Wp.skip ?_
        refine Wp.seq ?_
        refine Wp.block ?_
        refine Wp.seq ?_
        refine Wp.region ?_
        refine Wo.val _ h (by kernel_rfl) (iop_ia (a := a) (n := xs.length) (c := q) (i := i) (by kernel_rfl) (by kernel_rfl) hlt) ?_
        refine Wo.val p.1 h (by kernel_rfl) (iop_ld (a := ⟨a.b, a.g, a.o + i * 1⟩) (by kernel_rfl) hld) ?_
        refine Wo.pre 1 (by kernel_rfl) ?_
        refine Wo.nil ?_
        refine Wp.seq ?_
        refine Wp.region ?_
        refine Wo.pre 1 (by kernel_rfl) ?_
        refine Wo.val (.int .i64 p.2.length) h (by kernel_rfl) ((hB.len (by kernel_rfl))) ?_
        refine Wo.val (.bool false) h (by kernel_rfl) (iop_cmp (op := .lss) (k := .i64) (a := p.2.length) (b := 1) false (by kernel_rfl) (by kernel_rfl) (by simp) (by simp [binInt]; omega)) ?_
        refine Wo.pre 1 (by kernel_rfl) ?_
        refine Wo.pre 1 (by kernel_rfl) ?_
        refine Wo.val (.int .i64 p.2.length) h (by kernel_rfl) ((hB.len (by kernel_rfl))) ?_
        refine Wo.val (.bool false) h (by kernel_rfl) (iop_cmp (op := .gtr) (k := .i64) (a := p.2.length) (b := 512) false (by kernel_rfl) (by kernel_rfl) (by simp) (by simp [binInt]; omega)) ?_
        refine Wo.pre 1 (by kernel_rfl) ?_
        refine Wo.nil ?_
        refine Wp.cond false (by kernel_rfl) ?_
        refine Wp.skip ?_
        refine Wp.region ?_
        refine Wo.pre 1 (by kernel_rfl) ?_
        refine Wo.pre 1 (by kernel_rfl) ?_
        refine Wo.nil ?_
        exact ih (i + 1) (by omega) _ (by kernel_rfl) (by kernel_rfl) (by kernel_rfl) (by rw [← wi]; kernel_rfl) Q hbad hgood

/-- An entry as a value. -/
def entV (t : Nat) (v : AV) : AV := .agg [.int .u64 t, v]

set_option maxHeartbeats 1000000 in
theorem may_run {h : H} {v : AV} {xs : List (AV × List UInt8)} (hc : Ch h v xs) (hlen : xs.length < 2 ^ 62) (t : Nat) : ∃ r h', Runs TF 49 [entV t v] h r h' ∧ r = .bool (mayE xs) ∧ Ext h h' := by
  refine Runs.ofP f49 rfl ?_
  have hall : ([.int .u64 t, v] : List AV).all AV.one = true := by
    have o1 := hc.parts.2.1
    have o3 : ∀ k i, (AV.int k i).one = true := fun _ _ => rfl
    simp [o1, o3]
  obtain ⟨H1, hH1⟩ : ∃ H1, H1 = h.new (.cells 0 70 [.int .u64 t, v] 0 false) := ⟨_, rfl⟩
  have X1 : Ext h H1 := by rw [hH1]; exact Ext.new _ _
  have enew : ∀ {x : IX} {ρ : IX → AV}, ρ x = .agg [.int .u64 t, v] → iop (.new 70 x) ρ h = some (.val (.ptr ⟨h.n, 0, 0⟩) H1) := fun hx => by rw [hH1]; exact iop_new hx hall
  have g1 : H1.get h.n = some (.cells 0 70 [.int .u64 t, v] 0 false) := by rw [hH1]; exact h.get_new _
  have L1 : H1.ldg ⟨h.n, 0, 1⟩ none = some v := by simp [H.ldg, H.ld, H.row, g1, getL]
  have hc1 := hc.ext X1
  unfold entV
  by_cases h1 : xs.length < 1
  · have e : mayE xs = false := by simp [mayE]; omega
    refine Wp.seq ?_
    refine Wp.region ?_
    refine Wo.val _ _ (by kernel_rfl) (enew (by kernel_rfl)) ?_
    refine Wo.pre 1 (by kernel_rfl) ?_
    refine Wo.nil ?_
    refine Wp.seq ?_
    refine Wp.seq ?_
    refine Wp.region ?_
    refine Wo.pre 1 (by kernel_rfl) ?_
    refine Wo.val v H1 (by kernel_rfl) (iop_ld (a := ⟨h.n, 0, 1⟩) (by kernel_rfl) L1) ?_
    refine Wo.val (.int .i64 xs.length) H1 (by kernel_rfl) (iop_lenS (v := v) (by kernel_rfl) hc.lenS) ?_
    refine Wo.val (.bool true) H1 (by kernel_rfl) (iop_cmp (op := .lss) (k := .i64) (a := xs.length) (b := 1) true (by kernel_rfl) (by kernel_rfl) (by simp) (by simp [binInt]; omega)) ?_
    refine Wo.pre 1 (by kernel_rfl) ?_
    refine Wo.pre 1 (by kernel_rfl) ?_
    refine Wo.pre 1 (by kernel_rfl) ?_
    refine Wo.pre 1 (by kernel_rfl) ?_
    refine Wo.pre 1 (by kernel_rfl) ?_
    refine Wo.pre 1 (by kernel_rfl) ?_
    refine Wo.nil ?_
    refine Wp.cond true (by kernel_rfl) ?_
    refine Wp.seq ?_
    refine Wp.region ?_
    refine Wo.pre 1 (by kernel_rfl) ?_
    refine Wo.nil ?_
    exact Wp.ret ⟨.inr rfl, .bool false, (by kernel_rfl), by rw [e], X1⟩
  · by_cases h2 : xs.length > 4
    · have e : mayE xs = false := by simp [mayE]; omega
      refine Wp.seq ?_
      refine Wp.region ?_
      refine Wo.val _ _ (by kernel_rfl) (enew (by kernel_rfl)) ?_
      refine Wo.pre 1 (by kernel_rfl) ?_
      refine Wo.nil ?_
      refine Wp.seq ?_
      refine Wp.seq ?_
      refine Wp.region ?_
      refine Wo.pre 1 (by kernel_rfl) ?_
      refine Wo.val v H1 (by kernel_rfl) (iop_ld (a := ⟨h.n, 0, 1⟩) (by kernel_rfl) L1) ?_
      refine Wo.val (.int .i64 xs.length) H1 (by kernel_rfl) (iop_lenS (v := v) (by kernel_rfl) hc.lenS) ?_
      refine Wo.val (.bool false) H1 (by kernel_rfl) (iop_cmp (op := .lss) (k := .i64) (a := xs.length) (b := 1) false (by kernel_rfl) (by kernel_rfl) (by simp) (by simp [binInt]; omega)) ?_
      refine Wo.pre 1 (by kernel_rfl) ?_
      refine Wo.pre 1 (by kernel_rfl) ?_
      refine Wo.val v H1 (by kernel_rfl) (iop_ld (a := ⟨h.n, 0, 1⟩) (by kernel_rfl) L1) ?_
      refine Wo.val (.int .i64 xs.length) H1 (by kernel_rfl) (iop_lenS (v := v) (by kernel_rfl) hc.lenS) ?_
      refine Wo.val (.bool true) H1 (by kernel_rfl) (iop_cmp (op := .gtr) (k := .i64) (a := xs.length) (b := 4) true (by kernel_rfl) (by kernel_rfl) (by simp) (by simp [binInt]; omega)) ?_
      refine Wo.pre 1 (by kernel_rfl) ?_
      refine Wo.nil ?_
      refine Wp.cond true (by kernel_rfl) ?_
      refine Wp.seq ?_
      refine Wp.region ?_
      refine Wo.pre 1 (by kernel_rfl) ?_
      refine Wo.nil ?_
      exact Wp.ret ⟨.inr rfl, .bool false, (by kernel_rfl), by rw [e], X1⟩
    · have e : mayE xs = xs.all fun p => mayC p.2 := by simp [mayE]; omega
      refine Wp.seq ?_
      refine Wp.region ?_
      refine Wo.val _ _ (by kernel_rfl) (enew (by kernel_rfl)) ?_
      refine Wo.pre 1 (by kernel_rfl) ?_
      refine Wo.nil ?_
      refine Wp.seq ?_
      refine Wp.seq ?_
      refine Wp.region ?_
      refine Wo.pre 1 (by kernel_rfl) ?_
      refine Wo.val v H1 (by kernel_rfl) (iop_ld (a := ⟨h.n, 0, 1⟩) (by kernel_rfl) L1) ?_
      refine Wo.val (.int .i64 xs.length) H1 (by kernel_rfl) (iop_lenS (v := v) (by kernel_rfl) hc.lenS) ?_
      refine Wo.val (.bool false) H1 (by kernel_rfl) (iop_cmp (op := .lss) (k := .i64) (a := xs.length) (b := 1) false (by kernel_rfl) (by kernel_rfl) (by simp) (by simp [binInt]; omega)) ?_
      refine Wo.pre 1 (by kernel_rfl) ?_
      refine Wo.pre 1 (by kernel_rfl) ?_
      refine Wo.val v H1 (by kernel_rfl) (iop_ld (a := ⟨h.n, 0, 1⟩) (by kernel_rfl) L1) ?_
      refine Wo.val (.int .i64 xs.length) H1 (by kernel_rfl) (iop_lenS (v := v) (by kernel_rfl) hc.lenS) ?_
      refine Wo.val (.bool false) H1 (by kernel_rfl) (iop_cmp (op := .gtr) (k := .i64) (a := xs.length) (b := 4) false (by kernel_rfl) (by kernel_rfl) (by simp) (by simp [binInt]; omega)) ?_
      refine Wo.pre 1 (by kernel_rfl) ?_
      refine Wo.nil ?_
      refine Wp.cond false (by kernel_rfl) ?_
      refine Wp.skip ?_
      refine Wp.seq ?_
      refine Wp.seq ?_
      refine Wp.region ?_
      refine Wo.pre 1 (by kernel_rfl) ?_
      refine Wo.val v H1 (by kernel_rfl) (iop_ld (a := ⟨h.n, 0, 1⟩) (by kernel_rfl) L1) ?_
      refine Wo.val (.int .i64 xs.length) H1 (by kernel_rfl) (iop_lenS (v := v) (by kernel_rfl) hc.lenS) ?_
      refine Wo.pre 1 (by kernel_rfl) ?_
      refine Wo.nil ?_
      refine Wp.block ?_
      refine may_loop hc1 hlen xs.length 0 (by omega) _ (by kernel_rfl) (by kernel_rfl) (by kernel_rfl) (by kernel_rfl) _ ?_ ?_
      · intro hf ts' d0 d2
        rw [laid_eq d0 [(2, .bool false)] (by simp [d2])]
        rw [List.drop_zero] at hf
        exact ⟨.inr rfl, .bool false, (by kernel_rfl), by rw [e, hf], X1⟩
      · intro hf ts' d0
        rw [List.drop_zero] at hf
        rw [laid_eq d0 [] (by simp)]
        refine Wp.seq ?_
        refine Wp.region ?_
        refine Wo.pre 8 (by kernel_rfl) ?_
        refine Wo.nil ?_
        exact Wp.ret ⟨.inr rfl, .bool true, (by kernel_rfl), by rw [e, hf], X1⟩
end Go.Det

/- Entries: the reference's May; numbers and vectors. -/
set_option linter.unusedVariables false
set_option linter.unusedSimpArgs false
set_option linter.unusedSectionVars false
namespace Go.Det
open Go.Proofs
attribute [local irreducible] Wp Wo Wd iop ev slots quiets wanted put

theorem binEq_false {k : IntKind} {a b : Int} (h : a ≠ b) : binInt .eql k a b = some (.bool false) := by simp [binInt, h]
theorem binEq_true {k : IntKind} {a b : Int} (h : a = b) : binInt .eql k a b = some (.bool true) := by simp [binInt, h]

set_option maxHeartbeats 1000000 in
theorem rmay_loop {h : H} {v : AV} {xs : List (AV × List UInt8)} {blk : Nat} (hc : Ch h v xs) (hlen : xs.length < 2 ^ 62) (hL : h.ldg ⟨blk, 0, 1⟩ none = some v) :
    ∀ (k i : Nat), i + k = xs.length → ∀ (ts : List AV) (b : Bool), ts.length = 39 → getL ts 1 = some (.ptr ⟨blk, 0, 0⟩) → getL ts 3 = some (.bool b) → getL ts 4 = some (.int .i64 i) →
      ∀ (Q : Ex → St → Prop), (∀ ts', ts'.length = 39 → getL ts' 3 = some (.bool (b && (xs.drop i).all (fun p => mayC p.2))) → Q (.exit 0) (ts', h)) → Wp TF (.loop l50_1) (ts, h) Q := by
  intro k
  induction k with
  | zero =>
    intro i hi ts b t0 t1 t3 t4 Q hQ
    obtain rfl : i = xs.length := by omega
    refine Wp.loop ?_
    rw [laid_eq t0 [(1, .ptr ⟨blk, 0, 0⟩), (3, .bool b), (4, .int .i64 xs.length)] (by simp [t1, t3, t4])]
    unfold l50_1
    refine Wp.seq ?_
    refine Wp.seq ?_
    refine Wp.region ?_
    refine Wo.pre 1 (by kernel_rfl) ?_
    refine Wo.pre 1 (by kernel_rfl) ?_
    refine Wo.val v h (by kernel_rfl) (iop_ld (a := ⟨blk, 0, 1⟩) (by kernel_rfl) hL) ?_
    refine Wo.val (.int .i64 xs.length) h (by kernel_rfl) (iop_lenS (v := v) (by kernel_rfl) hc.lenS) ?_
    refine Wo.val (.bool false) h (by kernel_rfl) (iop_cmp (op := .lss) (k := .i64) (a := xs.length) (b := xs.length) false (by kernel_rfl) (by kernel_rfl) (by simp) (by simp [binInt])) ?_
    refine Wo.nil ?_
    refine Wp.cond false (by kernel_rfl) ?_
    exact Wp.exit (hQ _ (by kernel_rfl) (by rw [List.drop_length, List.all_nil, Bool.and_true]; kernel_rfl))
  | succ k ih =>
    intro i hi ts b t0 t1 t3 t4 Q hQ
    have hlt : i < xs.length := by omega
    obtain ⟨p, hp⟩ : ∃ p, xs[i]? = some p := ⟨xs[i], List.getElem?_eq_getElem hlt⟩
    have hdrop : xs.drop i = p :: xs.drop (i + 1) := by
      rw [List.drop_eq_getElem_cons hlt]
      congr 1
      exact (List.getElem?_eq_some_iff.1 hp).2
    rw [hdrop, List.all_cons] at hQ
    have hls := hc.lenS
    obtain ⟨a, q, rfl, hld⟩ := hc.at hp
    have hB := (hc.el p (List.mem_of_getElem? hp)).1
    have wi : IntKind.i64.wrap ((i : Int) + 1) = ((i + 1 : Nat) : Int) := by rw [i64_fit _ (by omega)]; omega
    refine Wp.loop ?_
    rw [laid_eq t0 [(1, .ptr ⟨blk, 0, 0⟩), (3, .bool b), (4, .int .i64 i)] (by simp [t1, t3, t4])]
    unfold l50_1
    by_cases h1 : p.2.length = 0
    · have hm : mayC p.2 = false := by simp [mayC]; omega
      rw [hm, Bool.false_and, Bool.and_false] at hQ
      refine Wp.seq ?_
      refine Wp.seq ?_
      refine Wp.region ?_
      refine Wo.pre 1 (by kernel_rfl) ?_
      refine Wo.pre 1 (by kernel_rfl) ?_
      refine Wo.val (.sl a xs.length q) h (by kernel_rfl) (iop_ld (a := ⟨blk, 0, 1⟩) (by kernel_rfl) hL) ?_
      refine Wo.val (.int .i64 xs.length) h (by kernel_rfl) (iop_lenS (v := .sl a xs.length q) (by kernel_rfl) hls) ?_
      refine Wo.val (.bool true) h (by kernel_rfl) (iop_cmp (op := .lss) (k := .i64) (a := i) (b := xs.length) true (by kernel_rfl) (by kernel_rfl) (by simp) (by simp [binInt]; omega)) ?_
      refine Wo.nil ?_
      refine Wp.cond true (by kernel_rfl) ?_
      refine Wp.skip ?_
      refine Wp.seq ?_
      refine Wp.block ?_
      refine Wp.seq ?_
      refine Wp.region ?_
      refine Wo.pre 1 (by kernel_rfl) ?_
      refine Wo.val (.sl a xs.length q) h (by kernel_rfl) (iop_ld (a := ⟨blk, 0, 1⟩) (by kernel_rfl) hL) ?_
      refine Wo.pre 1 (by kernel_rfl) ?_
      refine Wo.val _ h (by kernel_rfl) (iop_ia (a := a) (n := xs.length) (c := q) (i := i) (by kernel_rfl) (by kernel_rfl) hlt) ?_
      refine Wo.val p.1 h (by kernel_rfl) (iop_ld (a := ⟨a.b, a.g, a.o + i * 1⟩) (by kernel_rfl) hld) ?_
      refine Wo.val (.int .i64 p.2.length) h (by kernel_rfl) ((hB.len (by kernel_rfl))) ?_
      refine Wo.val (.bool true) h (by kernel_rfl) (iop_cmp (op := .eql) (k := .i64) (a := p.2.length) (b := 0) true (by kernel_rfl) (by kernel_rfl) (by simp) (binEq_true (by omega))) ?_
      refine Wo.pre 1 (by kernel_rfl) ?_
      refine Wo.pre 1 (by kernel_rfl) ?_
      refine Wo.pre 1 (by kernel_rfl) ?_
      refine Wo.pre 1 (by kernel_rfl) ?_
      refine Wo.pre 1 (by kernel_rfl) ?_
      refine Wo.pre 1 (by kernel_rfl) ?_
      refine Wo.pre 1 (by kernel_rfl) ?_
      refine Wo.pre 1 (by kernel_rfl) ?_
      refine Wo.pre 1 (by kernel_rfl) ?_
      refine Wo.nil ?_
      refine Wp.cond true (by kernel_rfl) ?_
      refine Wp.region ?_
      refine Wo.pre 1 (by kernel_rfl) ?_
      refine Wo.nil ?_
      refine Wp.region ?_
      refine Wo.pre 1 (by kernel_rfl) ?_
      refine Wo.pre 1 (by kernel_rfl) ?_
      refine Wo.pre 1 (by kernel_rfl) ?_
      refine Wo.nil ?_
      exact ih (i + 1) (by omega) _ false (by kernel_rfl) (by kernel_rfl) (by kernel_rfl) (by rw [← wi]; kernel_rfl) Q (by simpa using hQ)
    · by_cases h2 : p.2.length > 512
      · have hm : mayC p.2 = false := by simp [mayC]; omega
        rw [hm, Bool.false_and, Bool.and_false] at hQ
        refine Wp.seq ?_
        refine Wp.seq ?_
        refine Wp.region ?_
        refine Wo.pre 1 (by kernel_rfl) ?_
        refine Wo.pre 1 (by kernel_rfl) ?_
        refine Wo.val (.sl a xs.length q) h (by kernel_rfl) (iop_ld (a := ⟨blk, 0, 1⟩) (by kernel_rfl) hL) ?_
        refine Wo.val (.int .i64 xs.length) h (by kernel_rfl) (iop_lenS (v := .sl a xs.length q) (by kernel_rfl) hls) ?_
        refine Wo.val (.bool true) h (by kernel_rfl) (iop_cmp (op := .lss) (k := .i64) (a := i) (b := xs.length) true (by kernel_rfl) (by kernel_rfl) (by simp) (by simp [binInt]; omega)) ?_
        refine Wo.nil ?_
        refine Wp.cond true (by kernel_rfl) ?_
        refine Wp.skip ?_
        refine Wp.seq ?_
        refine Wp.block ?_
        refine Wp.seq ?_
        refine Wp.region ?_
        refine Wo.pre 1 (by kernel_rfl) ?_
        refine Wo.val (.sl a xs.length q) h (by kernel_rfl) (iop_ld (a := ⟨blk, 0, 1⟩) (by kernel_rfl) hL) ?_
        refine Wo.pre 1 (by kernel_rfl) ?_
        refine Wo.val _ h (by kernel_rfl) (iop_ia (a := a) (n := xs.length) (c := q) (i := i) (by kernel_rfl) (by kernel_rfl) hlt) ?_
        refine Wo.val p.1 h (by kernel_rfl) (iop_ld (a := ⟨a.b, a.g, a.o + i * 1⟩) (by kernel_rfl) hld) ?_
        refine Wo.val (.int .i64 p.2.length) h (by kernel_rfl) ((hB.len (by kernel_rfl))) ?_
        refine Wo.val (.bool false) h (by kernel_rfl) (iop_cmp (op := .eql) (k := .i64) (a := p.2.length) (b := 0) false (by kernel_rfl) (by kernel_rfl) (by simp) (binEq_false (by omega))) ?_
        refine Wo.pre 1 (by kernel_rfl) ?_
        refine Wo.pre 1 (by kernel_rfl) ?_
        refine Wo.val (.sl a xs.length q) h (by kernel_rfl) (iop_ld (a := ⟨blk, 0, 1⟩) (by kernel_rfl) hL) ?_
        refine Wo.pre 1 (by kernel_rfl) ?_
        refine Wo.val _ h (by kernel_rfl) (iop_ia (a := a) (n := xs.length) (c := q) (i := i) (by kernel_rfl) (by kernel_rfl) hlt) ?_
        refine Wo.val p.1 h (by kernel_rfl) (iop_ld (a := ⟨a.b, a.g, a.o + i * 1⟩) (by kernel_rfl) hld) ?_
        refine Wo.val (.int .i64 p.2.length) h (by kernel_rfl) ((hB.len (by kernel_rfl))) ?_
        refine Wo.val (.bool true) h (by kernel_rfl) (iop_cmp (op := .gtr) (k := .i64) (a := p.2.length) (b := 512) true (by kernel_rfl) (by kernel_rfl) (by simp) (by simp [binInt]; omega)) ?_
        refine Wo.pre 1 (by kernel_rfl) ?_
        refine Wo.nil ?_
        refine Wp.cond true (by kernel_rfl) ?_
        refine Wp.region ?_
        refine Wo.pre 1 (by kernel_rfl) ?_
        refine Wo.nil ?_
        refine Wp.region ?_
        refine Wo.pre 1 (by kernel_rfl) ?_
        refine Wo.pre 1 (by kernel_rfl) ?_
        refine Wo.pre 1 (by kernel_rfl) ?_
        refine Wo.nil ?_
        exact ih (i + 1) (by omega) _ false (by kernel_rfl) (by kernel_rfl) (by kernel_rfl) (by rw [← wi]; kernel_rfl) Q (by simpa using hQ)
      · have hm : mayC p.2 = true := by simp [mayC]; omega
        rw [hm, Bool.true_and] at hQ
        refine Wp.seq ?_
        refine Wp.seq ?_
        refine Wp.region ?_
        refine Wo.pre 1 (by kernel_rfl) ?_
        refine Wo.pre 1 (by kernel_rfl) ?_
        refine Wo.val (.sl a xs.length q) h (by kernel_rfl) (iop_ld (a := ⟨blk, 0, 1⟩) (by kernel_rfl) hL) ?_
        refine Wo.val (.int .i64 xs.length) h (by kernel_rfl) (iop_lenS (v := .sl a xs.length q) (by kernel_rfl) hls) ?_
        refine Wo.val (.bool true) h (by kernel_rfl) (iop_cmp (op := .lss) (k := .i64) (a := i) (b := xs.length) true (by kernel_rfl) (by kernel_rfl) (by simp) (by simp [binInt]; omega)) ?_
        refine Wo.nil ?_
        refine Wp.cond true (by kernel_rfl) ?_
        refine Wp.skip ?_
        refine Wp.seq ?_
        refine Wp.block ?_
        refine Wp.seq ?_
        refine Wp.region ?_
        refine Wo.pre 1 (by kernel_rfl) ?_
        refine Wo.val (.sl a xs.length q) h (by kernel_rfl) (iop_ld (a := ⟨blk, 0, 1⟩) (by kernel_rfl) hL) ?_
        refine Wo.pre 1 (by kernel_rfl) ?_
        refine Wo.val _ h (by kernel_rfl) (iop_ia (a := a) (n := xs.length) (c := q) (i := i) (by kernel_rfl) (by kernel_rfl) hlt) ?_
        refine Wo.val p.1 h (by kernel_rfl) (iop_ld (a := ⟨a.b, a.g, a.o + i * 1⟩) (by kernel_rfl) hld) ?_
        refine Wo.val (.int .i64 p.2.length) h (by kernel_rfl) ((hB.len (by kernel_rfl))) ?_
        refine Wo.val (.bool false) h (by kernel_rfl) (iop_cmp (op := .eql) (k := .i64) (a := p.2.length) (b := 0) false (by kernel_rfl) (by kernel_rfl) (by simp) (binEq_false (by omega))) ?_
        refine Wo.pre 1 (by kernel_rfl) ?_
        refine Wo.pre 1 (by kernel_rfl) ?_
        refine Wo.val (.sl a xs.length q) h (by kernel_rfl) (iop_ld (a := ⟨blk, 0, 1⟩) (by kernel_rfl) hL) ?_
        refine Wo.pre 1 (by kernel_rfl) ?_
        refine Wo.val _ h (by kernel_rfl) (iop_ia (a := a) (n := xs.length) (c := q) (i := i) (by kernel_rfl) (by kernel_rfl) hlt) ?_
        refine Wo.val p.1 h (by kernel_rfl) (iop_ld (a := ⟨a.b, a.g, a.o + i * 1⟩) (by kernel_rfl) hld) ?_
        refine Wo.val (.int .i64 p.2.length) h (by kernel_rfl) ((hB.len (by kernel_rfl))) ?_
        refine Wo.val (.bool false) h (by kernel_rfl) (iop_cmp (op := .gtr) (k := .i64) (a := p.2.length) (b := 512) false (by kernel_rfl) (by kernel_rfl) (by simp) (by simp [binInt]; omega)) ?_
        refine Wo.pre 1 (by kernel_rfl) ?_
        refine Wo.nil ?_
        refine Wp.cond false (by kernel_rfl) ?_
        refine Wp.skip ?_
        refine Wp.region ?_
        refine Wo.pre 1 (by kernel_rfl) ?_
        refine Wo.pre 1 (by kernel_rfl) ?_
        refine Wo.pre 1 (by kernel_rfl) ?_
        refine Wo.nil ?_
        exact ih (i + 1) (by omega) _ b (by kernel_rfl) (by kernel_rfl) (by kernel_rfl) (by rw [← wi]; kernel_rfl) Q hQ

set_option maxHeartbeats 1000000 in
theorem rmay_run {h : H} {v : AV} {xs : List (AV × List UInt8)} (hc : Ch h v xs) (hlen : xs.length < 2 ^ 62) (t : Nat) : ∃ r h', Runs TF 50 [entV t v] h r h' ∧ r = .bool (mayE xs) ∧ Ext h h' := by
  refine Runs.ofP f50 rfl ?_
  have hall : ([.int .u64 t, v] : List AV).all AV.one = true := by
    have o1 := hc.parts.2.1
    have o3 : ∀ k i, (AV.int k i).one = true := fun _ _ => rfl
    simp [o1, o3]
  obtain ⟨H1, hH1⟩ : ∃ H1, H1 = h.new (.cells 0 70 [.int .u64 t, v] 0 false) := ⟨_, rfl⟩
  have X1 : Ext h H1 := by rw [hH1]; exact Ext.new _ _
  have enew : ∀ {x : IX} {ρ : IX → AV}, ρ x = .agg [.int .u64 t, v] → iop (.new 70 x) ρ h = some (.val (.ptr ⟨h.n, 0, 0⟩) H1) := fun hx => by rw [hH1]; exact iop_new hx hall
  have g1 : H1.get h.n = some (.cells 0 70 [.int .u64 t, v] 0 false) := by rw [hH1]; exact h.get_new _
  have L1 : H1.ldg ⟨h.n, 0, 1⟩ none = some v := by simp [H.ldg, H.ld, H.row, g1, getL]
  have hc1 := hc.ext X1
  unfold entV
  have fin : ∀ b : Bool, b = decide (1 ≤ xs.length ∧ xs.length ≤ 4) → ∀ ts' : List AV, ts'.length = 39 → getL ts' 3 = some (AV.bool (b && (xs.drop 0).all (fun p => mayC p.2))) → getL ts' 3 = some (AV.bool (mayE xs)) := by
    intro b hb ts' _ d3
    rw [d3, hb]
    rfl
  by_cases h1 : xs.length > 0
  · by_cases h2 : xs.length < 5
    · refine Wp.seq ?_
      refine Wp.region ?_
      refine Wo.val _ _ (by kernel_rfl) (enew (by kernel_rfl)) ?_
      refine Wo.pre 1 (by kernel_rfl) ?_
      refine Wo.nil ?_
      refine Wp.seq ?_
      refine Wp.region ?_
      refine Wo.pre 1 (by kernel_rfl) ?_
      refine Wo.val v H1 (by kernel_rfl) (iop_ld (a := ⟨h.n, 0, 1⟩) (by kernel_rfl) L1) ?_
      refine Wo.val (.int .i64 xs.length) H1 (by kernel_rfl) (iop_lenS (v := v) (by kernel_rfl) hc.lenS) ?_
      refine Wo.val (.bool true) H1 (by kernel_rfl) (iop_cmp (op := .gtr) (k := .i64) (a := xs.length) (b := 0) true (by kernel_rfl) (by kernel_rfl) (by simp) (by simp [binInt]; omega)) ?_
      refine Wo.pre 1 (by kernel_rfl) ?_
      refine Wo.pre 1 (by kernel_rfl) ?_
      refine Wo.val v H1 (by kernel_rfl) (iop_ld (a := ⟨h.n, 0, 1⟩) (by kernel_rfl) L1) ?_
      refine Wo.val (.int .i64 xs.length) H1 (by kernel_rfl) (iop_lenS (v := v) (by kernel_rfl) hc.lenS) ?_
      refine Wo.val (.bool true) H1 (by kernel_rfl) (iop_cmp (op := .lss) (k := .i64) (a := xs.length) (b := 5) true (by kernel_rfl) (by kernel_rfl) (by simp) (by simp [binInt]; omega)) ?_
      refine Wo.pre 1 (by kernel_rfl) ?_
      refine Wo.pre 1 (by kernel_rfl) ?_
      refine Wo.nil ?_
      refine Wp.seq ?_
      refine Wp.seq ?_
      refine Wp.region ?_
      refine Wo.pre 1 (by kernel_rfl) ?_
      refine Wo.nil ?_
      refine Wp.block ?_
      refine rmay_loop hc1 hlen L1 xs.length 0 (by omega) _ true (by kernel_rfl) (by kernel_rfl) (by kernel_rfl) (by kernel_rfl) _ ?_
      intro ts' d0 d3
      have d3 := fin true (by simp; omega) ts' d0 d3
      rw [laid_eq d0 [(3, .bool (mayE xs))] (by simp [d3])]
      refine Wp.seq ?_
      refine Wp.region ?_
      refine Wo.pre 8 (by kernel_rfl) ?_
      refine Wo.nil ?_
      exact Wp.ret ⟨.inr rfl, .bool (mayE xs), (by kernel_rfl), rfl, X1⟩
    · refine Wp.seq ?_
      refine Wp.region ?_
      refine Wo.val _ _ (by kernel_rfl) (enew (by kernel_rfl)) ?_
      refine Wo.pre 1 (by kernel_rfl) ?_
      refine Wo.nil ?_
      refine Wp.seq ?_
      refine Wp.region ?_
      refine Wo.pre 1 (by kernel_rfl) ?_
      refine Wo.val v H1 (by kernel_rfl) (iop_ld (a := ⟨h.n, 0, 1⟩) (by kernel_rfl) L1) ?_
      refine Wo.val (.int .i64 xs.length) H1 (by kernel_rfl) (iop_lenS (v := v) (by kernel_rfl) hc.lenS) ?_
      refine Wo.val (.bool true) H1 (by kernel_rfl) (iop_cmp (op := .gtr) (k := .i64) (a := xs.length) (b := 0) true (by kernel_rfl) (by kernel_rfl) (by simp) (by simp [binInt]; omega)) ?_
      refine Wo.pre 1 (by kernel_rfl) ?_
      refine Wo.pre 1 (by kernel_rfl) ?_
      refine Wo.val v H1 (by kernel_rfl) (iop_ld (a := ⟨h.n, 0, 1⟩) (by kernel_rfl) L1) ?_
      refine Wo.val (.int .i64 xs.length) H1 (by kernel_rfl) (iop_lenS (v := v) (by kernel_rfl) hc.lenS) ?_
      refine Wo.val (.bool false) H1 (by kernel_rfl) (iop_cmp (op := .lss) (k := .i64) (a := xs.length) (b := 5) false (by kernel_rfl) (by kernel_rfl) (by simp) (by simp [binInt]; omega)) ?_
      refine Wo.pre 1 (by kernel_rfl) ?_
      refine Wo.pre 1 (by kernel_rfl) ?_
      refine Wo.nil ?_
      refine Wp.seq ?_
      refine Wp.seq ?_
      refine Wp.region ?_
      refine Wo.pre 1 (by kernel_rfl) ?_
      refine Wo.nil ?_
      refine Wp.block ?_
      refine rmay_loop hc1 hlen L1 xs.length 0 (by omega) _ false (by kernel_rfl) (by kernel_rfl) (by kernel_rfl) (by kernel_rfl) _ ?_
      intro ts' d0 d3
      have d3 := fin false (by simp; omega) ts' d0 d3
      rw [laid_eq d0 [(3, .bool (mayE xs))] (by simp [d3])]
      refine Wp.seq ?_
      refine Wp.region ?_
      refine Wo.pre 8 (by kernel_rfl) ?_
      refine Wo.nil ?_
      exact Wp.ret ⟨.inr rfl, .bool (mayE xs), (by kernel_rfl), rfl, X1⟩
  · refine Wp.seq ?_
    refine Wp.region ?_
    refine Wo.val _ _ (by kernel_rfl) (enew (by kernel_rfl)) ?_
    refine Wo.pre 1 (by kernel_rfl) ?_
    refine Wo.nil ?_
    refine Wp.seq ?_
    refine Wp.region ?_
    refine Wo.pre 1 (by kernel_rfl) ?_
    refine Wo.val v H1 (by kernel_rfl) (iop_ld (a := ⟨h.n, 0, 1⟩) (by kernel_rfl) L1) ?_
    refine Wo.val (.int .i64 xs.length) H1 (by kernel_rfl) (iop_lenS (v := v) (by kernel_rfl) hc.lenS) ?_
    refine Wo.val (.bool false) H1 (by kernel_rfl) (iop_cmp (op := .gtr) (k := .i64) (a := xs.length) (b := 0) false (by kernel_rfl) (by kernel_rfl) (by simp) (by simp only [binInt]; rw [decide_eq_false (by omega)])) ?_
    refine Wo.pre 1 (by kernel_rfl) ?_
    refine Wo.pre 1 (by kernel_rfl) ?_
    refine Wo.pre 1 (by kernel_rfl) ?_
    refine Wo.pre 1 (by kernel_rfl) ?_
    refine Wo.pre 1 (by kernel_rfl) ?_
    refine Wo.pre 1 (by kernel_rfl) ?_
    refine Wo.pre 1 (by kernel_rfl) ?_
    refine Wo.nil ?_
    refine Wp.seq ?_
    refine Wp.seq ?_
    refine Wp.region ?_
    refine Wo.pre 1 (by kernel_rfl) ?_
    refine Wo.nil ?_
    refine Wp.block ?_
    refine rmay_loop hc1 hlen L1 xs.length 0 (by omega) _ false (by kernel_rfl) (by kernel_rfl) (by kernel_rfl) (by kernel_rfl) _ ?_
    intro ts' d0 d3
    have d3 := fin false (by simp; omega) ts' d0 d3
    rw [laid_eq d0 [(3, .bool (mayE xs))] (by simp [d3])]
    refine Wp.seq ?_
    refine Wp.region ?_
    refine Wo.pre 8 (by kernel_rfl) ?_
    refine Wo.nil ?_
    exact Wp.ret ⟨.inr rfl, .bool (mayE xs), (by kernel_rfl), rfl, X1⟩

theorem number_run {b : AV} {l : List UInt8} {h : H} (hb : Bs h b l) (hl : l.length + 8 ≤ maxRow) {n : Nat} (hn : n < 2 ^ 64) (size : Int) :
    ∃ x h', Runs TF 76 [b, .int .u64 n, .int .i64 size] h x h' ∧ Ext h h' ∧ Ow h.n h' x (if numE n size = 0 then l ++ digits n size.toNat size.toNat else []) := by
  obtain ⟨v, h', c1, x, rfl, c2, c3⟩ := num_run hb hl hn size
  refine Runs.ofP f76 rfl ?_
  refine Wp.seq ?_
  refine Wp.region ?_
  refine Wo.pre 8 (by kernel_rfl) ?_
  refine Wo.nil ?_
  refine Wp.seq ?_
  refine Wp.region ?_
  refine Wo.pre 3 (by kernel_rfl) ?_
  refine Wo.call (by kernel_rfl) (by kernel_rfl) (c1) ?_
  refine Wo.pre 8 (by kernel_rfl) ?_
  refine Wo.nil ?_
  refine Wp.seq ?_
  refine Wp.region ?_
  refine Wo.pre 8 (by kernel_rfl) ?_
  refine Wo.nil ?_
  exact Wp.ret ⟨.inr rfl, x, (by kernel_rfl), c2, c3⟩
theorem rnumq_run {h : H} {n : Nat} (hn : n < 2 ^ 64) (size : Int) :
    ∃ x h', Runs TF 77 [.int .u64 n, .int .i64 size] h x h' ∧ Ext h h' ∧ Ow h.n h' x (if numE n size = 0 then digits n size.toNat size.toNat else []) := by
  obtain ⟨v, h', c1, x, rfl, c2, c3⟩ := rnum_run (h := h) (b := .nils) (l := []) (.inl ⟨rfl, rfl⟩) (by decide) hn size
  rw [List.nil_append] at c3
  refine Runs.ofP f77 rfl ?_
  refine Wp.seq ?_
  refine Wp.region ?_
  refine Wo.pre 8 (by kernel_rfl) ?_
  refine Wo.nil ?_
  refine Wp.seq ?_
  refine Wp.region ?_
  refine Wo.pre 1 (by kernel_rfl) ?_
  refine Wo.pre 1 (by kernel_rfl) ?_
  refine Wo.call (by kernel_rfl) (by kernel_rfl) (c1) ?_
  refine Wo.pre 8 (by kernel_rfl) ?_
  refine Wo.nil ?_
  refine Wp.seq ?_
  refine Wp.region ?_
  refine Wo.pre 8 (by kernel_rfl) ?_
  refine Wo.nil ?_
  exact Wp.ret ⟨.inr rfl, x, (by kernel_rfl), c2, c3⟩
theorem rvecq_run {h : H} {y : AV} {ly : List UInt8} (hy : Bs h y ly) (size : Int) (hl2 : ly.length ≤ maxRow) :
    ∃ z h', Runs TF 79 [y, .int .i64 size] h z h' ∧ Ext h h' ∧ Ow h.n h' z (if vecE ly.length size = 0 then digits ly.length size.toNat size.toNat ++ ly else []) := by
  obtain ⟨v, h', c1, z, rfl, c2, c3⟩ := rvec_run (h := h) (x := .nils) (lx := []) (.inl ⟨rfl, rfl⟩) hy size (by decide) hl2
  rw [List.nil_append] at c3
  refine Runs.ofP f79 rfl ?_
  refine Wp.seq ?_
  refine Wp.region ?_
  refine Wo.pre 8 (by kernel_rfl) ?_
  refine Wo.nil ?_
  refine Wp.seq ?_
  refine Wp.region ?_
  refine Wo.pre 1 (by kernel_rfl) ?_
  refine Wo.pre 1 (by kernel_rfl) ?_
  refine Wo.call (by kernel_rfl) (by kernel_rfl) (c1) ?_
  refine Wo.pre 8 (by kernel_rfl) ?_
  refine Wo.nil ?_
  refine Wp.seq ?_
  refine Wp.region ?_
  refine Wo.pre 8 (by kernel_rfl) ?_
  refine Wo.nil ?_
  exact Wp.ret ⟨.inr rfl, z, (by kernel_rfl), c2, c3⟩
end Go.Det

/- Entries: leaves, what is signed. -/
set_option linter.unusedVariables false
set_option linter.unusedSimpArgs false
set_option linter.unusedSectionVars false
namespace Go.Det
open Go.Proofs
attribute [local irreducible] Wp Wo Wd iop ev slots quiets wanted put

/-- An entry, handed in: its own block. -/
theorem ent_new {h : H} {v : AV} {xs : List (AV × List UInt8)} (hc : Ch h v xs) (t : Nat) : ∃ H1, Ext h H1 ∧ h.n < H1.n ∧ (∀ {x : IX} {ρ : IX → AV}, ρ x = entV t v → iop (.new 70 x) ρ h = some (.val (.ptr ⟨h.n, 0, 0⟩) H1)) ∧
    ∀ q, Ext H1 q → q.ldg ⟨h.n, 0, 0⟩ none = some (.int .u64 t) ∧ q.ldg ⟨h.n, 0, 1⟩ none = some v ∧ q.ldg ⟨h.n, 0, 0⟩ (some 2) = some (entV t v) := by
  have hall : ([.int .u64 t, v] : List AV).all AV.one = true := by
    have o1 := hc.parts.2.1
    have o3 : ∀ k i, (AV.int k i).one = true := fun _ _ => rfl
    simp [o1, o3]
  refine ⟨h.new (.cells 0 70 [.int .u64 t, v] 0 false), Ext.new _ _, by simp, fun hx => iop_new hx hall, fun q hq => ?_⟩
  have g1 : q.get h.n = some (.cells 0 70 [.int .u64 t, v] 0 false) := by rw [hq.2 _ (by simp)]; exact h.get_new _
  simp [H.ldg, H.ld, H.ldn, H.row, g1, getL, cut, entV]

def c0 (xs : List (AV × List UInt8)) : List UInt8 := (xs.headD (.nils, [])).2
def leafB (t : Nat) (c : List UInt8) : List UInt8 := [0, 0] ++ digits t 8 8 ++ [0, 0] ++ (digits c.length 3 3 ++ c) ++ [0, 0]
def leafE (xs : List (AV × List UInt8)) : Int := if mayE xs = true then 0 else 1
def leafX (t : Nat) (xs : List (AV × List UInt8)) : List UInt8 := if mayE xs = true then leafB t (c0 xs) else []

theorem mayE_first {xs : List (AV × List UInt8)} (hm : mayE xs = true) : ∃ p, xs[0]? = some p ∧ c0 xs = p.2 ∧ 1 ≤ p.2.length ∧ p.2.length ≤ 512 ∧ xs.length ≤ 4 := by
  unfold mayE at hm
  simp only [Bool.and_eq_true, decide_eq_true_eq, List.all_eq_true] at hm
  obtain ⟨⟨h1, h4⟩, h2⟩ := hm
  cases xs with
  | nil => simp at h1
  | cons p xs =>
    have := h2 p (by simp)
    simp only [mayC, decide_eq_true_eq] at this
    exact ⟨p, rfl, rfl, this.1, this.2, h4⟩

theorem vecE_small {n : Nat} (hn : n < 65536) {s : Nat} (hs : s = 2 ∨ s = 3) : vecE n (s : Nat) = 0 := by
  have h1 : 1 ≤ (s : Int) ∧ (s : Int) ≤ 3 := by omega
  have h2 : (1 ≤ (s : Int) ∧ (s : Int) ≤ 4 ∨ (s : Int) = 8) := by omega
  have h3 : ¬ 2 ^ (8 * s) ≤ n := by rcases hs with rfl | rfl <;> omega
  unfold vecE
  rw [if_pos h1]
  unfold numE
  rw [if_neg (fun q => q h2), Int.toNat_natCast, if_neg h3]
theorem numE_8 {n : Nat} (hn : n < 2 ^ 64) : numE n 8 = 0 := by
  simp [numE]; omega
end Go.Det

/- Entries: the reference's leaves, what is signed. -/
set_option linter.unusedVariables false
set_option linter.unusedSimpArgs false
set_option linter.unusedSectionVars false
namespace Go.Det
open Go.Proofs
attribute [local irreducible] Wp Wo Wd iop ev slots quiets wanted put

end Go.Det

/- Entries: lists of certificates. -/
set_option linter.unusedVariables false
set_option linter.unusedSimpArgs false
set_option linter.unusedSectionVars false
namespace Go.Det
open Go.Proofs
attribute [local irreducible] Wp Wo Wd iop ev slots quiets wanted put

def certB (c : List UInt8) : List UInt8 := digits c.length 3 3 ++ c
def inner (xs : List (AV × List UInt8)) : List UInt8 := (xs.map fun p => certB p.2).flatten
def listB (xs : List (AV × List UInt8)) : List UInt8 := digits (inner xs).length 3 3 ++ inner xs
def Small (xs : List (AV × List UInt8)) : Prop := xs.length ≤ 4 ∧ ∀ p ∈ xs, p.2.length ≤ 512

theorem inner_snoc (xs : List (AV × List UInt8)) (p : AV × List UInt8) : inner (xs ++ [p]) = inner xs ++ certB p.2 := by simp [inner]
theorem inner_len : ∀ (xs : List (AV × List UInt8)), (∀ p ∈ xs, p.2.length ≤ 512) → (inner xs).length ≤ 515 * xs.length
  | [], _ => by simp [inner]
  | p :: xs, h => by
    have h1 := inner_len xs (fun q hq => h q (by simp [hq]))
    have h2 := h p (by simp)
    have : inner (p :: xs) = certB p.2 ++ inner xs := by simp [inner]
    rw [this, List.length_append]
    simp only [certB, List.length_append, digits_len, List.length_cons]
    omega
theorem take_step {α : Type} {xs : List α} {i : Nat} {p : α} (hp : xs[i]? = some p) : xs.take (i + 1) = xs.take i ++ [p] := by rw [List.take_add_one, hp]; rfl

set_option maxHeartbeats 1000000 in
theorem rlist_loop {h0 : H} {v : AV} {xs : List (AV × List UInt8)} (hc : Ch h0 v xs) (hs : Small xs) :
    ∀ (k i : Nat), i + k = xs.length → ∀ (h : H) (inV : AV) (ts : List AV), Ext h0 h → Ow h0.n h inV (inner (xs.take i)) → ts.length = 20 → getL ts 0 = some v → getL ts 3 = some inV → getL ts 4 = some (.int .i64 i) →
      ∀ (Q : Ex → St → Prop), (∀ ts' h' inV, ts'.length = 20 → Ext h0 h' → Ow h0.n h' inV (inner xs) → getL ts' 3 = some inV → Q (.exit 0) (ts', h')) → Wp TF (.loop l81_1) (ts, h) Q := by
  have hmx : 200000000000000 = maxRow := rfl
  intro k
  induction k with
  | zero =>
    intro i hi h inV ts hE hO t0 ta t3 t4 Q hQ
    obtain rfl : i = xs.length := by omega
    rw [List.take_length] at hO
    refine Wp.loop ?_
    rw [laid_eq t0 [(0, v), (3, inV), (4, .int .i64 xs.length)] (by simp [ta, t3, t4])]
    unfold l81_1
    refine Wp.seq ?_
    refine Wp.seq ?_
    refine Wp.region ?_
    refine Wo.pre 1 (by kernel_rfl) ?_
    refine Wo.pre 1 (by kernel_rfl) ?_
    refine Wo.val (.int .i64 xs.length) h (by kernel_rfl) (iop_lenS (v := v) (by kernel_rfl) hc.lenS) ?_
    refine Wo.val (.bool false) h (by kernel_rfl) (iop_cmp (op := .lss) (k := .i64) (a := xs.length) (b := xs.length) false (by kernel_rfl) (by kernel_rfl) (by simp) (by simp [binInt])) ?_
    refine Wo.nil ?_
    refine Wp.cond false (by kernel_rfl) ?_
    exact Wp.exit (hQ _ _ inV (by kernel_rfl) hE hO (by kernel_rfl))
  | succ k ih =>
    intro i hi h inV ts hE hO t0 ta t3 t4 Q hQ
    have hlt : i < xs.length := by omega
    obtain ⟨p, hp⟩ : ∃ p, xs[i]? = some p := ⟨xs[i], List.getElem?_eq_getElem hlt⟩
    have hps := hs.2 p (List.mem_of_getElem? hp)
    have hB := ((hc.el p (List.mem_of_getElem? hp)).1).ext hE
    have hls := hc.lenS
    obtain ⟨a, q, rfl, hld⟩ := (hc.ext hE).at hp
    have wi : IntKind.i64.wrap ((i : Int) + 1) = ((i + 1 : Nat) : Int) := by rw [i64_fit _ (by have := hs.1; omega)]; omega
    have hil : (inner (xs.take i)).length ≤ 515 * 4 := by
      have := inner_len (xs.take i) (fun q hq => hs.2 q (List.mem_of_mem_take hq))
      have h2 : (xs.take i).length ≤ 4 := by rw [List.length_take]; have := hs.1; omega
      omega
    obtain ⟨y, H1, c1, X1, o1⟩ := rvecq_run hB (3 : Nat) (by omega)
    rw [if_pos (vecE_small (by omega) (.inr rfl))] at o1
    have n0 := hE.1
    have n1 := X1.1
    obtain ⟨z, G1, a1, w1, Y1, _⟩ := (hO.ext X1).app o1.bs (by omega) (by simp [digits_len]; omega)
    have E1 : Ext h0 G1 := (hE.trans X1).then2 Y1
    have hstep : inner (xs.take i) ++ (digits p.2.length ((3 : Nat) : Int).toNat ((3 : Nat) : Int).toNat ++ p.2) = inner (xs.take (i + 1)) := by
      rw [take_step hp, inner_snoc]; rfl
    rw [hstep] at w1
    refine Wp.loop ?_
    rw [laid_eq t0 [(0, .sl a xs.length q), (3, inV), (4, .int .i64 i)] (by simp [ta, t3, t4])]
    unfold l81_1
    refine Wp.seq ?_
    refine Wp.seq ?_
    refine Wp.region ?_
    refine Wo.pre 1 (by kernel_rfl) ?_
    refine Wo.pre 1 (by kernel_rfl) ?_
    refine Wo.val (.int .i64 xs.length) h (by kernel_rfl) (iop_lenS (v := .sl a xs.length q) (by kernel_rfl) hls) ?_
    refine Wo.val (.bool true) h (by kernel_rfl) (iop_cmp (op := .lss) (k := .i64) (a := i) (b := xs.length) true (by kernel_rfl) (by kernel_rfl) (by simp) (by simp [binInt]; omega)) ?_
    refine Wo.nil ?_
    refine Wp.cond true (by kernel_rfl) ?_
    refine Wp.skip ?_
    refine Wp.seq ?_
    refine Wp.block ?_
    refine Wp.region ?_
    refine Wo.pre 1 (by kernel_rfl) ?_
    refine Wo.pre 1 (by kernel_rfl) ?_
    refine Wo.pre 1 (by kernel_rfl) ?_
    refine Wo.val _ h (by kernel_rfl) (iop_ia (a := a) (n := xs.length) (c := q) (i := i) (by kernel_rfl) (by kernel_rfl) hlt) ?_
    refine Wo.val p.1 h (by kernel_rfl) (iop_ld (a := ⟨a.b, a.g, a.o + i * 1⟩) (by kernel_rfl) hld) ?_
    refine Wo.call (by kernel_rfl) (by kernel_rfl) (c1) ?_
    refine Wo.val z G1 (by kernel_rfl) (iop_app (v := inV) (w := y) (by kernel_rfl) (by kernel_rfl) o1.bs.parts.2.2 a1) ?_
    refine Wo.pre 1 (by kernel_rfl) ?_
    refine Wo.nil ?_
    refine Wp.region ?_
    refine Wo.pre 1 (by kernel_rfl) ?_
    refine Wo.pre 1 (by kernel_rfl) ?_
    refine Wo.pre 1 (by kernel_rfl) ?_
    refine Wo.nil ?_
    exact ih (i + 1) (by omega) G1 z _ E1 w1 (by kernel_rfl) (by kernel_rfl) (by kernel_rfl) (by rw [← wi]; kernel_rfl) Q hQ

theorem rlist_run {h : H} {v : AV} {xs : List (AV × List UInt8)} (hc : Ch h v xs) (hs : Small xs) : ∃ z h', Runs TF 81 [v] h z h' ∧ Ext h h' ∧ Ow h.n h' z (listB xs) := by
  refine Runs.ofP f81 rfl ?_
  have hmx : 200000000000000 = maxRow := rfl
  refine Wp.seq ?_
  refine Wp.region ?_
  refine Wo.pre 8 (by kernel_rfl) ?_
  refine Wo.nil ?_
  refine Wp.seq ?_
  refine Wp.region ?_
  refine Wo.pre 8 (by kernel_rfl) ?_
  refine Wo.nil ?_
  refine Wp.seq ?_
  refine Wp.seq ?_
  refine Wp.region ?_
  refine Wo.pre 8 (by kernel_rfl) ?_
  refine Wo.nil ?_
  refine Wp.block ?_
  refine rlist_loop hc hs xs.length 0 (by omega) h .nils _ (Ext.refl h) (.inl ⟨rfl, by simp [inner]⟩) (by kernel_rfl) (by kernel_rfl) (by kernel_rfl) (by kernel_rfl) _ ?_
  intro ts' h' inV d0 hE hO d3
  rw [laid_eq d0 [(3, inV)] (by simp [d3])]
  have hil := inner_len xs hs.2
  have h4 := hs.1
  obtain ⟨z, H1, c1, X1, o1⟩ := rvecq_run hO.bs (3 : Nat) (by omega)
  rw [if_pos (vecE_small (by omega) (.inr rfl))] at o1
  refine Wp.seq ?_
  refine Wp.region ?_
  refine Wo.pre 1 (by kernel_rfl) ?_
  refine Wo.call (by kernel_rfl) (by kernel_rfl) (c1) ?_
  refine Wo.pre 8 (by kernel_rfl) ?_
  refine Wo.nil ?_
  exact Wp.ret ⟨.inr rfl, z, (by kernel_rfl), hE.trans X1, o1.mono hE.1⟩

/-- The closure: a certificate is laid behind. -/
theorem add_run {h : H} {ib : Nat} {inV c : AV} {l cl : List UInt8} (hg : h.get ib = some (.cells 0 22 [inV] 0 false)) (hib : ib < h.n) (hi : Bs h inV l) (hc : Bs h c cl) (hcl : cl.length < 65536) (hl : l.length + 16777224 ≤ maxRow) :
    ∃ r h', Runs TF 87 [c, .ptr ⟨ib, 0, 0⟩] h r h' ∧ ∃ z, h'.get ib = some (.cells 0 22 [z] 0 false) ∧ Ow h.n h' z (l ++ certB cl) ∧ ExtB ib h h' := by
  have hmx : 200000000000000 = maxRow := rfl
  obtain ⟨r1, H1, c1, z, rfl, X1, o1⟩ := wvec_any hi hc (3 : Nat) hl (by omega)
  rw [vecE_small hcl (.inr rfl)] at c1
  rw [if_pos (vecE_small hcl (.inr rfl)), List.append_assoc] at o1
  have o1 : Ow h.n H1 z (l ++ certB cl) := o1
  have hp := o1.bs.parts
  have g1 : H1.get ib = some (.cells 0 22 [inV] 0 false) := by rw [X1.2 _ hib]; exact hg
  have L0 : h.ldg ⟨ib, 0, 0⟩ none = some inV := by simp [H.ldg, H.ld, H.row, hg, getL]
  obtain ⟨H2, hH2⟩ : ∃ H2, H2 = H1.set ib (.cells 0 22 [z] 0 false) := ⟨_, rfl⟩
  have st : H1.st ⟨ib, 0, 0⟩ [z] = some H2 := by
    unfold H.st
    simp only [g1]
    rw [if_pos (by simp [hp.2.1]), hH2]
    rfl
  have n1 := X1.1
  refine Runs.ofP f87 rfl ?_
  refine Wp.seq ?_
  refine Wp.region ?_
  refine Wo.val inV h (by kernel_rfl) (iop_ld (a := ⟨ib, 0, 0⟩) (by kernel_rfl) L0) ?_
  refine Wo.pre 1 (by kernel_rfl) ?_
  refine Wo.call (by kernel_rfl) (by kernel_rfl) (c1) ?_
  refine Wo.pre 8 (by kernel_rfl) ?_
  refine Wo.nil ?_
  refine Wp.seq ?_
  refine Wp.region ?_
  refine Wo.pre 8 (by kernel_rfl) ?_
  refine Wo.nil ?_
  refine Wp.cond true (by kernel_rfl) ?_
  refine Wp.region ?_
  refine Wo.pre 1 (by kernel_rfl) ?_
  refine Wo.val .undef H2 (by kernel_rfl) (iop_st1 (a := ⟨ib, 0, 0⟩) (v := z) (by kernel_rfl) (by kernel_rfl) hp.1 st) ?_
  refine Wo.nil ?_
  refine ⟨.inl rfl, .tup [], (by kernel_rfl), z, by rw [hH2, H1.get_set], ?_, by rw [hH2]; exact n1, fun b hb hne => by rw [hH2, H1.get_set_ne _ b _ hne]; exact X1.2 b hb⟩
  rcases o1 with h0 | ⟨b, g, q1, q2, q3, q4⟩
  · exact .inl h0
  · exact .inr ⟨b, g, q1, by rw [hH2]; exact q2, by rw [hH2, H1.get_set_ne _ b _ (by omega)]; exact q3, q4⟩

set_option maxHeartbeats 1000000 in
theorem list_loop {h0 : H} {v : AV} {xs : List (AV × List UInt8)} {ib : Nat} (hc : Ch h0 v xs) (hs : Small xs) (hib0 : h0.n ≤ ib) :
    ∀ (k i : Nat), i + k = xs.length → ∀ (h : H) (inV : AV) (ts : List AV), Ext h0 h → ib < h.n → h.get ib = some (.cells 0 22 [inV] 0 false) → Bs h inV (inner (xs.take i)) → ts.length = 26 → getL ts 3 = some (.ptr ⟨ib, 0, 0⟩) → getL ts 4 = some (.fn (.func 87) [] [.ptr ⟨ib, 0, 0⟩]) → getL ts 10 = some v → getL ts 11 = some (.int .i64 xs.length) → getL ts 12 = some (.int .i64 i) →
      ∀ (Q : Ex → St → Prop), (∀ ts' h' inV, ts'.length = 26 → Ext h0 h' → h'.get ib = some (.cells 0 22 [inV] 0 false) → Bs h' inV (inner xs) → getL ts' 3 = some (.ptr ⟨ib, 0, 0⟩) → Q (.exit 0) (ts', h')) → Wp TF (.loop l80_1) (ts, h) Q := by
  have hmx : 200000000000000 = maxRow := rfl
  intro k
  induction k with
  | zero =>
    intro i hi h inV ts hE hib hg hO t0 t3 t4 t10 t11 t12 Q hQ
    obtain rfl : i = xs.length := by omega
    rw [List.take_length] at hO
    refine Wp.loop ?_
    rw [laid_eq t0 [(3, .ptr ⟨ib, 0, 0⟩), (4, .fn (.func 87) [] [.ptr ⟨ib, 0, 0⟩]), (10, v), (11, .int .i64 xs.length), (12, .int .i64 xs.length)] (by simp [t3, t4, t10, t11, t12])]
    unfold l80_1
    refine Wp.seq ?_
    refine Wp.region ?_
    refine Wo.val (.bool false) h (by kernel_rfl) (iop_cmp (op := .lss) (k := .i64) (a := xs.length) (b := xs.length) false (by kernel_rfl) (by kernel_rfl) (by simp) (by simp [binInt])) ?_
    refine Wo.nil ?_
    refine Wp.seq ?_
    refine Wp.cond false (by kernel_rfl) ?_
    exact Wp.exit (hQ _ _ inV (by kernel_rfl) hE hg hO (by kernel_rfl))
  | succ k ih =>
    intro i hi h inV ts hE hib hg hO t0 t3 t4 t10 t11 t12 Q hQ
    have hlt : i < xs.length := by omega
    obtain ⟨p, hp⟩ : ∃ p, xs[i]? = some p := ⟨xs[i], List.getElem?_eq_getElem hlt⟩
    have hps := hs.2 p (List.mem_of_getElem? hp)
    have hB := ((hc.el p (List.mem_of_getElem? hp)).1).ext hE
    obtain ⟨a, q, rfl, hld⟩ := (hc.ext hE).at hp
    have wi : IntKind.i64.wrap ((i : Int) + 1) = ((i + 1 : Nat) : Int) := by rw [i64_fit _ (by have := hs.1; omega)]; omega
    have hil : (inner (xs.take i)).length ≤ 515 * 4 := by
      have := inner_len (xs.take i) (fun q hq => hs.2 q (List.mem_of_mem_take hq))
      have h2 : (xs.take i).length ≤ 4 := by rw [List.length_take]; have := hs.1; omega
      omega
    obtain ⟨r1, H1, c1, z, g1, o1, X1⟩ := add_run hg hib hO hB (by omega) (by omega)
    have n0 := hE.1
    have n1 := X1.1
    have E1 : Ext h0 H1 := ⟨by omega, fun b hb => by rw [X1.2 b (by omega) (by omega)]; exact hE.2 b hb⟩
    have hstep : inner (xs.take i) ++ certB p.2 = inner (xs.take (i + 1)) := by rw [take_step hp, inner_snoc]
    rw [hstep] at o1
    refine Wp.loop ?_
    rw [laid_eq t0 [(3, .ptr ⟨ib, 0, 0⟩), (4, .fn (.func 87) [] [.ptr ⟨ib, 0, 0⟩]), (10, .sl a xs.length q), (11, .int .i64 xs.length), (12, .int .i64 i)] (by simp [t3, t4, t10, t11, t12])]
    unfold l80_1
    refine Wp.seq ?_
    refine Wp.region ?_
    refine Wo.val (.bool true) h (by kernel_rfl) (iop_cmp (op := .lss) (k := .i64) (a := i) (b := xs.length) true (by kernel_rfl) (by kernel_rfl) (by simp) (by simp [binInt]; omega)) ?_
    refine Wo.nil ?_
    refine Wp.seq ?_
    refine Wp.cond true (by kernel_rfl) ?_
    refine Wp.skip ?_
    refine Wp.seq ?_
    refine Wp.block ?_
    refine Wp.seq ?_
    refine Wp.region ?_
    refine Wo.val _ h (by kernel_rfl) (iop_ia (a := a) (n := xs.length) (c := q) (i := i) (by kernel_rfl) (by kernel_rfl) hlt) ?_
    refine Wo.val p.1 h (by kernel_rfl) (iop_ld (a := ⟨a.b, a.g, a.o + i * 1⟩) (by kernel_rfl) hld) ?_
    refine Wo.pre 1 (by kernel_rfl) ?_
    refine Wo.nil ?_
    refine Wp.region ?_
    refine Wo.pre 1 (by kernel_rfl) ?_
    refine Wo.pre 1 (by kernel_rfl) ?_
    refine Wo.call (by kernel_rfl) (by kernel_rfl) (c1) ?_
    refine Wo.nil ?_
    refine Wp.region ?_
    refine Wo.pre 1 (by kernel_rfl) ?_
    refine Wo.pre 1 (by kernel_rfl) ?_
    refine Wo.nil ?_
    exact ih (i + 1) (by omega) H1 z _ E1 (by omega) g1 o1.bs (by kernel_rfl) (by kernel_rfl) (by kernel_rfl) (by kernel_rfl) (by kernel_rfl) (by rw [← wi]; kernel_rfl) Q hQ

theorem list_run {h : H} {v : AV} {xs : List (AV × List UInt8)} (hc : Ch h v xs) (hs : Small xs) : ∃ z h', Runs TF 80 [v] h z h' ∧ Ext h h' ∧ Ow h.n h' z (listB xs) := by
  refine Runs.ofP f80 rfl ?_
  have hmx : 200000000000000 = maxRow := rfl
  obtain ⟨H1, hH1⟩ : ∃ H1, H1 = h.new (.cells 0 22 [.nils] 0 false) := ⟨_, rfl⟩
  have X1 : Ext h H1 := by rw [hH1]; exact Ext.new _ _
  have g1 : H1.get h.n = some (.cells 0 22 [.nils] 0 false) := by rw [hH1]; exact h.get_new _
  have en : ∀ ts, iop (.new 22 (.c .nils)) (ev ts) h = some (.val (.ptr ⟨h.n, 0, 0⟩) H1) := fun ts => by rw [hH1]; kernel_rfl
  refine Wp.seq ?_
  refine Wp.region ?_
  refine Wo.pre 8 (by kernel_rfl) ?_
  refine Wo.nil ?_
  refine Wp.seq ?_
  refine Wp.region ?_
  refine Wo.val _ _ (by kernel_rfl) (en _) ?_
  refine Wo.nil ?_
  refine Wp.seq ?_
  refine Wp.region ?_
  refine Wo.pre 8 (by kernel_rfl) ?_
  refine Wo.nil ?_
  refine Wp.seq ?_
  refine Wp.seq ?_
  refine Wp.region ?_
  refine Wo.pre 1 (by kernel_rfl) ?_
  refine Wo.val (.int .i64 xs.length) H1 (by kernel_rfl) (iop_lenS (v := v) (by kernel_rfl) hc.lenS) ?_
  refine Wo.pre 8 (by kernel_rfl) ?_
  refine Wo.nil ?_
  refine Wp.block ?_
  refine list_loop (ib := h.n) hc hs (Nat.le_refl _) xs.length 0 (by omega) H1 .nils _ X1 (by rw [hH1]; simp) g1 (.inl ⟨rfl, by simp [inner]⟩) (by kernel_rfl) (by kernel_rfl) (by kernel_rfl) (by kernel_rfl) (by kernel_rfl) (by kernel_rfl) _ ?_
  intro ts' h' inV d0 hE hg hO d3
  rw [laid_eq d0 [(3, .ptr ⟨h.n, 0, 0⟩)] (by simp [d3])]
  have hil := inner_len xs hs.2
  have h4 := hs.1
  have L0 : h'.ldg ⟨h.n, 0, 0⟩ none = some inV := by simp [H.ldg, H.ld, H.row, hg, getL]
  obtain ⟨r2, H2, c2, z, rfl, X2, o2⟩ := wvec_any (h := h') (x := .nils) (lx := []) (.inl ⟨rfl, rfl⟩) hO (3 : Nat) (by simp; omega) (by omega)
  rw [vecE_small (by omega) (.inr rfl)] at c2
  rw [if_pos (vecE_small (by omega) (.inr rfl)), List.nil_append] at o2
  refine Wp.seq ?_
  refine Wp.region ?_
  refine Wo.val inV h' (by kernel_rfl) (iop_ld (a := ⟨h.n, 0, 0⟩) (by kernel_rfl) L0) ?_
  refine Wo.call (by kernel_rfl) (by kernel_rfl) (c2) ?_
  refine Wo.pre 8 (by kernel_rfl) ?_
  refine Wo.nil ?_
  refine Wp.seq ?_
  refine Wp.region ?_
  refine Wo.pre 8 (by kernel_rfl) ?_
  refine Wo.nil ?_
  exact Wp.ret ⟨.inr rfl, z, (by kernel_rfl), hE.trans X2, o2.mono hE.1⟩
end Go.Det

/- Entries: what stands beside, records, items. -/
set_option linter.unusedVariables false
set_option linter.unusedSimpArgs false
set_option linter.unusedSectionVars false
namespace Go.Det
open Go.Proofs
attribute [local irreducible] Wp Wo Wd iop ev slots quiets wanted put

/-- A chain without its first. -/
theorem Ch.rest {h : H} {v : AV} {xs : List (AV × List UInt8)} (hc : Ch h v xs) (h1 : 1 ≤ xs.length) :
    ∃ v', (∀ (x y : IX) (ρ : IX → AV), ρ x = v → ρ y = .int .i64 1 → iop (.slL 1 x (some y) none none) ρ h = some (.val v' h)) ∧ Ch h v' (xs.drop 1) := by
  rcases hc.row with ⟨_, rfl⟩ | ⟨a, c, rfl, ha, hld⟩
  · simp at h1
  · have hel : ∀ p ∈ xs.drop 1, Bs h p.1 p.2 ∧ Cok p.1 := fun p hp => hc.el p (List.mem_of_mem_drop hp)
    have hd := ldn_drop hld (n := 1) h1
    have hm : (xs.map (·.1)).drop 1 = (xs.drop 1).map (·.1) := by rw [List.map_drop]
    rw [hm] at hd
    have hl : (xs.drop 1).length = xs.length - 1 := by simp
    have q1 : (1 : Int) ≤ (xs.length : Int) := by omega
    rcases hc.cok a _ c rfl with ⟨k, rfl, hk⟩ | rfl
    · have q2 : (xs.length : Int) ≤ (k : Int) := by omega
      by_cases hk1 : k = 1
      · have hx1 : xs.length = 1 := by omega
        have hnil : xs.drop 1 = [] := List.eq_nil_of_length_eq_zero (by omega)
        refine ⟨.sl a (xs.length - 1) (.ex (k - 1)), ?_, ?_⟩
        · intro x y ρ hx hy
          simp [iop, hx, hy, bounds, asI, q1, q2, hk1]
        · rw [hnil]
          refine ⟨.inr ⟨a, .ex (k - 1), by simp [hx1], ha, ?_⟩, fun p hp => by simp at hp, ?_⟩
          · exact ldn_take hld (n := 0) (by omega)
          · rintro a' m c' e
            simp only [AV.sl.injEq] at e
            obtain ⟨rfl, rfl, rfl⟩ := e
            exact .inl ⟨_, rfl, by omega⟩
      · refine ⟨.sl ⟨a.b, a.g, a.o + 1⟩ (xs.length - 1) (.ex (k - 1)), ?_, ⟨.inr ⟨⟨a.b, a.g, a.o + 1⟩, _, by rw [hl], ha, by rw [hl]; exact hd⟩, hel, ?_⟩⟩
        · intro x y ρ hx hy
          simp [iop, hx, hy, bounds, asI, q1, q2, hk1]
        · rintro a' m c' e
          simp only [AV.sl.injEq] at e
          obtain ⟨rfl, rfl, rfl⟩ := e
          exact .inl ⟨_, rfl, by omega⟩
    · refine ⟨.sl ⟨a.b, a.g, a.o + 1⟩ (xs.length - 1) (.op 1), ?_, ⟨.inr ⟨⟨a.b, a.g, a.o + 1⟩, _, by rw [hl], ha, by rw [hl]; exact hd⟩, hel, ?_⟩⟩
      · intro x y ρ hx hy
        simp [iop, hx, hy, bounds, asI, q1]
      · rintro a' m c' e
        simp only [AV.sl.injEq] at e
        obtain ⟨rfl, rfl, rfl⟩ := e
        exact .inr rfl

theorem mayE_small {xs : List (AV × List UInt8)} (hm : mayE xs = true) : Small xs ∧ 1 ≤ xs.length := by
  unfold mayE at hm
  simp only [Bool.and_eq_true, decide_eq_true_eq, List.all_eq_true] at hm
  obtain ⟨⟨h1, h4⟩, h2⟩ := hm
  refine ⟨⟨h4, fun p hp => ?_⟩, h1⟩
  have := h2 p hp
  simp only [mayC, decide_eq_true_eq] at this
  exact this.2

def extraX (xs : List (AV × List UInt8)) : List UInt8 := if mayE xs = true then listB (xs.drop 1) else []
def recX (t : Nat) (xs : List (AV × List UInt8)) : List UInt8 := if mayE xs = true then digits t 8 8 ++ listB xs else []

set_option maxHeartbeats 1000000 in
theorem record_run {h : H} {v : AV} {xs : List (AV × List UInt8)} (hc : Ch h v xs) (hlen : xs.length < 2 ^ 62) {t : Nat} (ht : t < 2 ^ 64) : ∃ r h', Runs TF 44 [entV t v] h r h' ∧ ∃ z, r = .tup [z, .int .i64 (leafE xs)] ∧ Ext h h' ∧ Ow h.n h' z (recX t xs) := by
  refine Runs.ofP f44 rfl ?_
  have hmx : 200000000000000 = maxRow := rfl
  obtain ⟨H1, X1, n1, enew, Ld⟩ := ent_new hc t
  obtain ⟨r2, H2, c2, rfl, X2⟩ := may_run (hc.ext X1) hlen t
  have l1 := Ld H1 (Ext.refl _)
  have l2 := Ld H2 X2
  by_cases hm : mayE xs = true
  rotate_left
  · have hm : mayE xs = false := by simpa using hm
    rw [hm] at c2
    have e1 : leafE xs = 1 := by rw [leafE, hm]; rfl
    have e2 : recX t xs = [] := by simp [extraX, recX, hm]
    refine Wp.seq ?_
    refine Wp.region ?_
    refine Wo.val _ _ (by kernel_rfl) (enew (by kernel_rfl)) ?_
    refine Wo.pre 8 (by kernel_rfl) ?_
    refine Wo.nil ?_
    refine Wp.seq ?_
    refine Wp.seq ?_
    refine Wp.region ?_
    refine Wo.val (entV t v) H1 (by kernel_rfl) (iop_ld (a := ⟨h.n, 0, 0⟩) (by kernel_rfl) l1.2.2) ?_
    refine Wo.call (by kernel_rfl) (by kernel_rfl) (c2) ?_
    refine Wo.pre 8 (by kernel_rfl) ?_
    refine Wo.nil ?_
    refine Wp.cond true (by kernel_rfl) ?_
    refine Wp.seq ?_
    refine Wp.region ?_
    refine Wo.pre 8 (by kernel_rfl) ?_
    refine Wo.nil ?_
    refine Wp.ret ⟨.inr rfl, .tup [.nils, .int .i64 1], (by kernel_rfl), .nils, by rw [e1], X1.trans X2, by rw [e2]; exact .inl ⟨rfl, rfl⟩⟩
  rw [hm] at c2
  have eE : leafE xs = 0 := by rw [leafE, hm]; rfl
  obtain ⟨hs, hx1⟩ := mayE_small hm
  have X12 := X1.trans X2
  rw [eE]
  have eX : recX t xs = digits t 8 (8 : Int).toNat ++ listB xs := by rw [recX, if_pos hm]; rfl
  rw [eX]
  obtain ⟨y, H3, c3, X3, o3⟩ := number_run (h := H2) (b := .nils) (l := []) (.inl ⟨rfl, rfl⟩) (by decide) ht 8
  rw [if_pos (numE_8 ht), List.nil_append] at o3
  obtain ⟨z, H4, c4, X4, o4⟩ := list_run (hc.ext (X12.trans X3)) hs
  have hil := inner_len xs hs.2
  have h4 := hs.1
  have hlb : (listB xs).length ≤ 3000 := by
    unfold listB
    rw [List.length_append, digits_len]; omega
  have m3 := X3.1
  have m4 := X4.1
  have m12 := X12.1
  obtain ⟨w, H5, a5, o5, Y5, _⟩ := ((o3.mono m12).ext X4).app o4.bs (by omega) (by simp [digits_len]; omega)
  have l3 := Ld H3 (X2.trans X3)
  refine Wp.seq ?_
  refine Wp.region ?_
  refine Wo.val _ _ (by kernel_rfl) (enew (by kernel_rfl)) ?_
  refine Wo.pre 8 (by kernel_rfl) ?_
  refine Wo.nil ?_
  refine Wp.seq ?_
  refine Wp.seq ?_
  refine Wp.region ?_
  refine Wo.val (entV t v) H1 (by kernel_rfl) (iop_ld (a := ⟨h.n, 0, 0⟩) (by kernel_rfl) l1.2.2) ?_
  refine Wo.call (by kernel_rfl) (by kernel_rfl) (c2) ?_
  refine Wo.pre 8 (by kernel_rfl) ?_
  refine Wo.nil ?_
  refine Wp.cond false (by kernel_rfl) ?_
  refine Wp.skip ?_
  refine Wp.seq ?_
  refine Wp.draw ?_
  refine Wd.pure (by kernel_rfl) (by kernel_rfl) ?_
  refine Wd.read (.int .u64 t) (.ld none (.c (.ptr ⟨h.n, 0, 0⟩))) (by kernel_rfl) (by kernel_rfl) (iop_ld (a := ⟨h.n, 0, 0⟩) (by kernel_rfl) l2.1) ?_
  refine Wd.pure (by kernel_rfl) (by kernel_rfl) ?_
  refine Wd.read v (.ld none (.c (.ptr ⟨h.n, 0, 1⟩))) (by kernel_rfl) (by kernel_rfl) (iop_ld (a := ⟨h.n, 0, 1⟩) (by kernel_rfl) l2.2.1) ?_
  refine Wd.call (by kernel_rfl) (by kernel_rfl) c3 (holds_of [(.ld none (.c (.ptr ⟨h.n, 0, 1⟩)), v, 4), (.ld none (.c (.ptr ⟨h.n, 0, 0⟩)), .int .u64 t, 1)] (by kernel_rfl) (holds_and (rd_ld l2.2.1) (holds_and (rd_ld l2.1) rfl))) ?_
  refine Wd.call (by kernel_rfl) (by kernel_rfl) c4 (holds_of [(.ld none (.c (.ptr ⟨h.n, 0, 1⟩)), v, 4)] (by kernel_rfl) (holds_and (rd_ld l3.2.1) rfl)) ?_
  refine Wd.act w H5 (by kernel_rfl) (iop_app (v := y) (w := z) (by kernel_rfl) (by kernel_rfl) o4.bs.parts.2.2 a5) (holds_of [] (by kernel_rfl) rfl) ?_
  refine Wd.pure (by kernel_rfl) (by kernel_rfl) ?_
  refine Wd.pure (by kernel_rfl) (by kernel_rfl) ?_
  refine Wd.done (holds_of [] (by kernel_rfl) rfl) ?_
  exact Wp.ret ⟨.inr rfl, .tup [w, .int .i64 0], (by kernel_rfl), w, rfl, ((X12.trans X3).trans X4).then2 Y5, o5⟩

set_option maxHeartbeats 1000000 in
theorem rrecord_run {h : H} {v : AV} {xs : List (AV × List UInt8)} (hc : Ch h v xs) (hlen : xs.length < 2 ^ 62) {t : Nat} (ht : t < 2 ^ 64) : ∃ r h', Runs TF 45 [entV t v] h r h' ∧ ∃ z, r = .tup [z, .int .i64 (leafE xs)] ∧ Ext h h' ∧ Ow h.n h' z (recX t xs) := by
  refine Runs.ofP f45 rfl ?_
  have hmx : 200000000000000 = maxRow := rfl
  obtain ⟨H1, X1, n1, enew, Ld⟩ := ent_new hc t
  obtain ⟨r2, H2, c2, rfl, X2⟩ := rmay_run (hc.ext X1) hlen t
  have l1 := Ld H1 (Ext.refl _)
  have l2 := Ld H2 X2
  by_cases hm : mayE xs = true
  rotate_left
  · have hm : mayE xs = false := by simpa using hm
    rw [hm] at c2
    have e1 : leafE xs = 1 := by rw [leafE, hm]; rfl
    have e2 : recX t xs = [] := by simp [extraX, recX, hm]
    refine Wp.seq ?_
    refine Wp.region ?_
    refine Wo.val _ _ (by kernel_rfl) (enew (by kernel_rfl)) ?_
    refine Wo.pre 8 (by kernel_rfl) ?_
    refine Wo.nil ?_
    refine Wp.seq ?_
    refine Wp.seq ?_
    refine Wp.region ?_
    refine Wo.val (entV t v) H1 (by kernel_rfl) (iop_ld (a := ⟨h.n, 0, 0⟩) (by kernel_rfl) l1.2.2) ?_
    refine Wo.call (by kernel_rfl) (by kernel_rfl) (c2) ?_
    refine Wo.pre 8 (by kernel_rfl) ?_
    refine Wo.nil ?_
    refine Wp.cond true (by kernel_rfl) ?_
    refine Wp.seq ?_
    refine Wp.region ?_
    refine Wo.pre 8 (by kernel_rfl) ?_
    refine Wo.nil ?_
    refine Wp.ret ⟨.inr rfl, .tup [.nils, .int .i64 1], (by kernel_rfl), .nils, by rw [e1], X1.trans X2, by rw [e2]; exact .inl ⟨rfl, rfl⟩⟩
  rw [hm] at c2
  have eE : leafE xs = 0 := by rw [leafE, hm]; rfl
  obtain ⟨hs, hx1⟩ := mayE_small hm
  have X12 := X1.trans X2
  rw [eE]
  have eX : recX t xs = digits t 8 (8 : Int).toNat ++ listB xs := by rw [recX, if_pos hm]; rfl
  rw [eX]
  obtain ⟨y, H3, c3, X3, o3⟩ := rnumq_run (h := H2) ht 8
  rw [if_pos (numE_8 ht)] at o3
  obtain ⟨z, H4, c4, X4, o4⟩ := rlist_run (hc.ext (X12.trans X3)) hs
  have hil := inner_len xs hs.2
  have h4 := hs.1
  have hlb : (listB xs).length ≤ 3000 := by
    unfold listB
    rw [List.length_append, digits_len]; omega
  have m3 := X3.1
  have m4 := X4.1
  have m12 := X12.1
  obtain ⟨w, H5, a5, o5, Y5, _⟩ := ((o3.mono m12).ext X4).app o4.bs (by omega) (by simp [digits_len]; omega)
  have l3 := Ld H3 (X2.trans X3)
  refine Wp.seq ?_
  refine Wp.region ?_
  refine Wo.val _ _ (by kernel_rfl) (enew (by kernel_rfl)) ?_
  refine Wo.pre 8 (by kernel_rfl) ?_
  refine Wo.nil ?_
  refine Wp.seq ?_
  refine Wp.seq ?_
  refine Wp.region ?_
  refine Wo.val (entV t v) H1 (by kernel_rfl) (iop_ld (a := ⟨h.n, 0, 0⟩) (by kernel_rfl) l1.2.2) ?_
  refine Wo.call (by kernel_rfl) (by kernel_rfl) (c2) ?_
  refine Wo.pre 8 (by kernel_rfl) ?_
  refine Wo.nil ?_
  refine Wp.cond false (by kernel_rfl) ?_
  refine Wp.skip ?_
  refine Wp.seq ?_
  refine Wp.draw ?_
  refine Wd.pure (by kernel_rfl) (by kernel_rfl) ?_
  refine Wd.read (.int .u64 t) (.ld none (.c (.ptr ⟨h.n, 0, 0⟩))) (by kernel_rfl) (by kernel_rfl) (iop_ld (a := ⟨h.n, 0, 0⟩) (by kernel_rfl) l2.1) ?_
  refine Wd.pure (by kernel_rfl) (by kernel_rfl) ?_
  refine Wd.read v (.ld none (.c (.ptr ⟨h.n, 0, 1⟩))) (by kernel_rfl) (by kernel_rfl) (iop_ld (a := ⟨h.n, 0, 1⟩) (by kernel_rfl) l2.2.1) ?_
  refine Wd.call (by kernel_rfl) (by kernel_rfl) c3 (holds_of [(.ld none (.c (.ptr ⟨h.n, 0, 1⟩)), v, 4), (.ld none (.c (.ptr ⟨h.n, 0, 0⟩)), .int .u64 t, 1)] (by kernel_rfl) (holds_and (rd_ld l2.2.1) (holds_and (rd_ld l2.1) rfl))) ?_
  refine Wd.call (by kernel_rfl) (by kernel_rfl) c4 (holds_of [(.ld none (.c (.ptr ⟨h.n, 0, 1⟩)), v, 4)] (by kernel_rfl) (holds_and (rd_ld l3.2.1) rfl)) ?_
  refine Wd.act w H5 (by kernel_rfl) (iop_app (v := y) (w := z) (by kernel_rfl) (by kernel_rfl) o4.bs.parts.2.2 a5) (holds_of [] (by kernel_rfl) rfl) ?_
  refine Wd.pure (by kernel_rfl) (by kernel_rfl) ?_
  refine Wd.pure (by kernel_rfl) (by kernel_rfl) ?_
  refine Wd.done (holds_of [] (by kernel_rfl) rfl) ?_
  exact Wp.ret ⟨.inr rfl, .tup [w, .int .i64 0], (by kernel_rfl), w, rfl, ((X12.trans X3).trans X4).then2 Y5, o5⟩

theorem retI {ts : List AV} {h : H} {k j ag : Nat} {a : AA} {v w : AV} (LA : h.ldg a (some ag) = some v) (h1 : getL ts k = some (.ptr a)) (h2 : getL ts j = some w) : retV h ts [(k, some (some ag)), (j, none)] = some (.tup [v, w]) := by
  simp [retV, resOf, iop, ev, h1, h2, LA]

end Go.Det

/- Entries: whether two say the same. -/
set_option linter.unusedVariables false
set_option linter.unusedSimpArgs false
set_option linter.unusedSectionVars false
namespace Go.Det
open Go.Proofs
attribute [local irreducible] Wp Wo Wd iop ev slots quiets wanted put

def says (xs : List (AV × List UInt8)) : List (List UInt8) := xs.map (·.2)
theorem says_drop {xs : List (AV × List UInt8)} {i : Nat} {p : AV × List UInt8} (hp : xs[i]? = some p) : says (xs.drop i) = p.2 :: says (xs.drop (i + 1)) := by
  have hlt : i < xs.length := (List.getElem?_eq_some_iff.1 hp).1
  rw [List.drop_eq_getElem_cons hlt, (List.getElem?_eq_some_iff.1 hp).2]
  rfl
theorem says_len (xs : List (AV × List UInt8)) : (says xs).length = xs.length := by simp [says]

def sameE (t : Nat) (xs : List (AV × List UInt8)) (t' : Nat) (ys : List (AV × List UInt8)) : Bool := decide (t = t') && decide (says xs = says ys)

end Go.Det

/- Entries: whether two say the same, by the reference. -/
set_option linter.unusedVariables false
set_option linter.unusedSimpArgs false
set_option linter.unusedSectionVars false
namespace Go.Det
open Go.Proofs
attribute [local irreducible] Wp Wo Wd iop ev slots quiets wanted put

theorem iop_neStr {x y : IX} {ρ : IX → AV} {h : H} {a b : List UInt8} (c : Bool) (hx : ρ x = .str a) (hy : ρ y = .str b) (e : (!(a == b)) = c) : iop (.bin .neq x y) ρ h = some (.val (.bool c) h) := by
  simp [iop, binop, binStr, hx, hy, ← e]
theorem rd_cvBS {h : H} {v : AV} {l : List UInt8} (hb : Bs h v l) : readsAs (.cvBS (.c v)) (.str l) h = true := reads_ok (h' := h) (iop_cvBS (v := v) (by kernel_rfl) hb)

set_option maxHeartbeats 2000000 in
theorem rsame_loop {h : H} {v w : AV} {xs ys : List (AV × List UInt8)} {b1 b2 : Nat} (hc : Ch h v xs) (hd : Ch h w ys) (hl : xs.length = ys.length) (hlen : xs.length < 2 ^ 62) (L1 : h.ldg ⟨b1, 0, 1⟩ none = some v) (L2 : h.ldg ⟨b2, 0, 1⟩ none = some w) :
    ∀ (k i : Nat), i + k = xs.length → ∀ (ts : List AV), ts.length = 40 → getL ts 2 = some (.ptr ⟨b1, 0, 0⟩) → getL ts 3 = some (.ptr ⟨b2, 0, 0⟩) → getL ts 5 = some (.int .i64 i) →
      ∀ (Q : Ex → St → Prop), (says (xs.drop i) ≠ says (ys.drop i) → ∀ ts', ts'.length = 40 → getL ts' 4 = some (.bool false) → Q .ret (ts', h)) →
        (says (xs.drop i) = says (ys.drop i) → ∀ ts', ts'.length = 40 → Q (.exit 0) (ts', h)) → Wp TF (.loop l52_1) (ts, h) Q := by
  intro k
  induction k with
  | zero =>
    intro i hi ts t0 t2 t3 t5 Q hbad hgood
    obtain rfl : i = xs.length := by omega
    refine Wp.loop ?_
    rw [laid_eq t0 [(2, .ptr ⟨b1, 0, 0⟩), (3, .ptr ⟨b2, 0, 0⟩), (5, .int .i64 xs.length)] (by simp [t2, t3, t5])]
    unfold l52_1
    refine Wp.seq ?_
    refine Wp.seq ?_
    refine Wp.region ?_
    refine Wo.pre 1 (by kernel_rfl) ?_
    refine Wo.pre 1 (by kernel_rfl) ?_
    refine Wo.val v h (by kernel_rfl) (iop_ld (a := ⟨b1, 0, 1⟩) (by kernel_rfl) L1) ?_
    refine Wo.val (.int .i64 xs.length) h (by kernel_rfl) (iop_lenS (v := v) (by kernel_rfl) hc.lenS) ?_
    refine Wo.val (.bool false) h (by kernel_rfl) (iop_cmp (op := .lss) (k := .i64) (a := xs.length) (b := xs.length) false (by kernel_rfl) (by kernel_rfl) (by simp) (by simp [binInt])) ?_
    refine Wo.nil ?_
    refine Wp.cond false (by kernel_rfl) ?_
    exact Wp.exit (hgood (by rw [List.drop_length, hl, List.drop_length]) _ (by kernel_rfl))
  | succ k ih =>
    intro i hi ts t0 t2 t3 t5 Q hbad hgood
    have hlt : i < xs.length := by omega
    have hlt2 : i < ys.length := by omega
    obtain ⟨p, hp⟩ : ∃ p, xs[i]? = some p := ⟨xs[i], List.getElem?_eq_getElem hlt⟩
    obtain ⟨q, hq⟩ : ∃ p, ys[i]? = some p := ⟨ys[i], List.getElem?_eq_getElem hlt2⟩
    rw [says_drop hp, says_drop hq] at hbad hgood
    have hls := hc.lenS
    obtain ⟨a, c, rfl, hld⟩ := hc.at hp
    obtain ⟨a', c', rfl, hld'⟩ := hd.at hq
    have pB := (hc.el p (List.mem_of_getElem? hp)).1
    have qB := (hd.el q (List.mem_of_getElem? hq)).1
    have wi : IntKind.i64.wrap ((i : Int) + 1) = ((i + 1 : Nat) : Int) := by rw [i64_fit _ (by omega)]; omega
    have hp6 : Pend.holds [(.cvBS (.c q.1), .str q.2, 11), (.ld none (.c (.ptr ⟨a'.b, a'.g, a'.o + i * 1⟩)), q.1, 10), (.ld none (.c (.ptr ⟨b2, 0, 1⟩)), .sl a' ys.length c', 7), (.cvBS (.c p.1), .str p.2, 5), (.ld none (.c (.ptr ⟨a.b, a.g, a.o + i * 1⟩)), p.1, 4), (.ld none (.c (.ptr ⟨b1, 0, 1⟩)), .sl a xs.length c, 1)] h = true :=
      holds_and (rd_cvBS qB) (holds_and (rd_ld hld') (holds_and (rd_ld L2) (holds_and (rd_cvBS pB) (holds_and (rd_ld hld) (holds_and (rd_ld L1) rfl)))))
    obtain ⟨eb, heb⟩ : ∃ eb, eb = (!(p.2 == q.2)) := ⟨_, rfl⟩
    refine Wp.loop ?_
    rw [laid_eq t0 [(2, .ptr ⟨b1, 0, 0⟩), (3, .ptr ⟨b2, 0, 0⟩), (5, .int .i64 i)] (by simp [t2, t3, t5])]
    unfold l52_1
    refine Wp.seq ?_
    refine Wp.seq ?_
    refine Wp.region ?_
    refine Wo.pre 1 (by kernel_rfl) ?_
    refine Wo.pre 1 (by kernel_rfl) ?_
    refine Wo.val (.sl a xs.length c) h (by kernel_rfl) (iop_ld (a := ⟨b1, 0, 1⟩) (by kernel_rfl) L1) ?_
    refine Wo.val (.int .i64 xs.length) h (by kernel_rfl) (iop_lenS (v := .sl a xs.length c) (by kernel_rfl) hls) ?_
    refine Wo.val (.bool true) h (by kernel_rfl) (iop_cmp (op := .lss) (k := .i64) (a := i) (b := xs.length) true (by kernel_rfl) (by kernel_rfl) (by simp) (by simp [binInt]; omega)) ?_
    refine Wo.nil ?_
    refine Wp.cond true (by kernel_rfl) ?_
    refine Wp.skip ?_
    refine Wp.seq ?_
    refine Wp.block ?_
    refine Wp.seq ?_
    refine Wp.draw ?_
    refine Wd.pure (by kernel_rfl) (by kernel_rfl) ?_
    refine Wd.read (.sl a xs.length c) (.ld none (.c (.ptr ⟨b1, 0, 1⟩))) (by kernel_rfl) (by kernel_rfl) (iop_ld (a := ⟨b1, 0, 1⟩) (by kernel_rfl) L1) ?_
    refine Wd.pure (by kernel_rfl) (by kernel_rfl) ?_
    refine Wd.make _ h (by kernel_rfl) (by kernel_rfl) (iop_ia (a := a) (n := xs.length) (c := c) (i := i) (by kernel_rfl) (by kernel_rfl) hlt) ?_
    refine Wd.read p.1 (.ld none (.c (.ptr ⟨a.b, a.g, a.o + i * 1⟩))) (by kernel_rfl) (by kernel_rfl) (iop_ld (a := ⟨a.b, a.g, a.o + i * 1⟩) (by kernel_rfl) hld) ?_
    refine Wd.read (.str p.2) (.cvBS (.c p.1)) (by kernel_rfl) (by kernel_rfl) (iop_cvBS (v := p.1) (by kernel_rfl) pB) ?_
    refine Wd.pure (by kernel_rfl) (by kernel_rfl) ?_
    refine Wd.read (.sl a' ys.length c') (.ld none (.c (.ptr ⟨b2, 0, 1⟩))) (by kernel_rfl) (by kernel_rfl) (iop_ld (a := ⟨b2, 0, 1⟩) (by kernel_rfl) L2) ?_
    refine Wd.pure (by kernel_rfl) (by kernel_rfl) ?_
    refine Wd.make _ h (by kernel_rfl) (by kernel_rfl) (iop_ia (a := a') (n := ys.length) (c := c') (i := i) (by kernel_rfl) (by kernel_rfl) hlt2) ?_
    refine Wd.read q.1 (.ld none (.c (.ptr ⟨a'.b, a'.g, a'.o + i * 1⟩))) (by kernel_rfl) (by kernel_rfl) (iop_ld (a := ⟨a'.b, a'.g, a'.o + i * 1⟩) (by kernel_rfl) hld') ?_
    refine Wd.read (.str q.2) (.cvBS (.c q.1)) (by kernel_rfl) (by kernel_rfl) (iop_cvBS (v := q.1) (by kernel_rfl) qB) ?_
    refine Wd.make (.bool eb) h (by kernel_rfl) (by kernel_rfl) (iop_neStr (a := p.2) (b := q.2) eb (by kernel_rfl) (by kernel_rfl) heb.symm) ?_
    refine Wd.done (holds_of _ (by kernel_rfl) hp6) ?_
    by_cases he : p.2 = q.2
    · have : eb = false := by rw [heb]; simp [he]
      subst this
      rw [he] at hbad hgood
      refine Wp.cond false (by kernel_rfl) ?_
      refine Wp.skip ?_
      refine Wp.region ?_
      refine Wo.pre 8 (by kernel_rfl) ?_
      refine Wo.nil ?_
      exact ih (i + 1) (by omega) _ (by kernel_rfl) (by kernel_rfl) (by kernel_rfl) (by rw [← wi]; kernel_rfl) Q (fun hn => hbad (fun e => hn (List.cons.inj e).2)) (fun e => hgood (by rw [e]))
    · have : eb = true := by rw [heb]; simp [he]
      subst this
      refine Wp.cond true (by kernel_rfl) ?_
      refine Wp.seq ?_
      refine Wp.region ?_
      refine Wo.pre 8 (by kernel_rfl) ?_
      refine Wo.nil ?_
      exact Wp.ret (hbad (fun e => he (List.cons.inj e).1) _ (by kernel_rfl) (by kernel_rfl))

set_option maxHeartbeats 1000000 in
theorem rsamee_run {h : H} {v w : AV} {xs ys : List (AV × List UInt8)} (hc : Ch h v xs) (hd : Ch h w ys) (hlen : xs.length < 2 ^ 62) (t t' : Nat) : ∃ r h', Runs TF 52 [entV t v, entV t' w] h r h' ∧ r = .bool (sameE t xs t' ys) ∧ Ext h h' := by
  refine Runs.ofP f52 rfl ?_
  obtain ⟨H1, X1, n1, enew, Ld⟩ := ent_new hc t
  obtain ⟨H2, X2, n2, enew2, Ld2⟩ := ent_new (hd.ext X1) t'
  have l1 := Ld H2 X2
  have l2 := Ld2 H2 (Ext.refl _)
  have X12 := X1.trans X2
  have hc2 := hc.ext X12
  have hd2 := hd.ext X12
  by_cases ht : t = t'
  · by_cases hl : xs.length = ys.length
    · refine Wp.seq ?_
      refine Wp.region ?_
      refine Wo.val _ _ (by kernel_rfl) (enew (by kernel_rfl)) ?_
      refine Wo.val _ _ (by kernel_rfl) (enew2 (by kernel_rfl)) ?_
      refine Wo.pre 1 (by kernel_rfl) ?_
      refine Wo.nil ?_
      refine Wp.seq ?_
      refine Wp.seq ?_
      refine Wp.region ?_
      refine Wo.pre 1 (by kernel_rfl) ?_
      refine Wo.val (.int .u64 t) H2 (by kernel_rfl) (iop_ld (a := ⟨h.n, 0, 0⟩) (by kernel_rfl) l1.1) ?_
      refine Wo.pre 1 (by kernel_rfl) ?_
      refine Wo.val (.int .u64 t') H2 (by kernel_rfl) (iop_ld (a := ⟨H1.n, 0, 0⟩) (by kernel_rfl) l2.1) ?_
      refine Wo.val (.bool false) H2 (by kernel_rfl) (iop_cmp (op := .neq) (k := .u64) (a := t) (b := t') false (by kernel_rfl) (by kernel_rfl) (by simp) (by simp [binInt, ht])) ?_
      refine Wo.pre 1 (by kernel_rfl) ?_
      refine Wo.pre 1 (by kernel_rfl) ?_
      refine Wo.val v H2 (by kernel_rfl) (iop_ld (a := ⟨h.n, 0, 1⟩) (by kernel_rfl) l1.2.1) ?_
      refine Wo.val (.int .i64 xs.length) H2 (by kernel_rfl) (iop_lenS (v := v) (by kernel_rfl) hc.lenS) ?_
      refine Wo.pre 1 (by kernel_rfl) ?_
      refine Wo.val w H2 (by kernel_rfl) (iop_ld (a := ⟨H1.n, 0, 1⟩) (by kernel_rfl) l2.2.1) ?_
      refine Wo.val (.int .i64 ys.length) H2 (by kernel_rfl) (iop_lenS (v := w) (by kernel_rfl) hd.lenS) ?_
      refine Wo.val (.bool false) H2 (by kernel_rfl) (iop_cmp (op := .neq) (k := .i64) (a := xs.length) (b := ys.length) false (by kernel_rfl) (by kernel_rfl) (by simp) (by simp [binInt, hl])) ?_
      refine Wo.pre 1 (by kernel_rfl) ?_
      refine Wo.nil ?_
      refine Wp.cond false (by kernel_rfl) ?_
      refine Wp.skip ?_
      refine Wp.seq ?_
      refine Wp.seq ?_
      refine Wp.region ?_
      refine Wo.pre 1 (by kernel_rfl) ?_
      refine Wo.nil ?_
      refine Wp.block ?_
      refine rsame_loop hc2 hd2 hl hlen l1.2.1 l2.2.1 xs.length 0 (by omega) _ (by kernel_rfl) (by kernel_rfl) (by kernel_rfl) (by kernel_rfl) _ ?_ ?_
      · intro hn ts' d0 d4
        rw [laid_eq d0 [(4, .bool false)] (by simp [d4])]
        have : sameE t xs t' ys = false := by
          have hn : ¬ says xs = says ys := hn
          simp [sameE, hn]
        exact ⟨.inr rfl, .bool false, (by kernel_rfl), by rw [this], X12⟩
      · intro he ts' d0
        have he : says xs = says ys := he
        rw [laid_eq d0 [] (by simp)]
        refine Wp.seq ?_
        refine Wp.region ?_
        refine Wo.pre 8 (by kernel_rfl) ?_
        refine Wo.nil ?_
        have : sameE t xs t' ys = true := by simp [sameE, he, ht]
        exact Wp.ret ⟨.inr rfl, .bool true, (by kernel_rfl), by rw [this], X12⟩
    · have hl' : (xs.length : Int) ≠ ys.length := by omega
      have : sameE t xs t' ys = false := by
        have : ¬ says xs = says ys := fun e => hl (by rw [← says_len xs, e, says_len])
        simp [sameE, this]
      refine Wp.seq ?_
      refine Wp.region ?_
      refine Wo.val _ _ (by kernel_rfl) (enew (by kernel_rfl)) ?_
      refine Wo.val _ _ (by kernel_rfl) (enew2 (by kernel_rfl)) ?_
      refine Wo.pre 1 (by kernel_rfl) ?_
      refine Wo.nil ?_
      refine Wp.seq ?_
      refine Wp.seq ?_
      refine Wp.region ?_
      refine Wo.pre 1 (by kernel_rfl) ?_
      refine Wo.val (.int .u64 t) H2 (by kernel_rfl) (iop_ld (a := ⟨h.n, 0, 0⟩) (by kernel_rfl) l1.1) ?_
      refine Wo.pre 1 (by kernel_rfl) ?_
      refine Wo.val (.int .u64 t') H2 (by kernel_rfl) (iop_ld (a := ⟨H1.n, 0, 0⟩) (by kernel_rfl) l2.1) ?_
      refine Wo.val (.bool false) H2 (by kernel_rfl) (iop_cmp (op := .neq) (k := .u64) (a := t) (b := t') false (by kernel_rfl) (by kernel_rfl) (by simp) (by simp [binInt, ht])) ?_
      refine Wo.pre 1 (by kernel_rfl) ?_
      refine Wo.pre 1 (by kernel_rfl) ?_
      refine Wo.val v H2 (by kernel_rfl) (iop_ld (a := ⟨h.n, 0, 1⟩) (by kernel_rfl) l1.2.1) ?_
      refine Wo.val (.int .i64 xs.length) H2 (by kernel_rfl) (iop_lenS (v := v) (by kernel_rfl) hc.lenS) ?_
      refine Wo.pre 1 (by kernel_rfl) ?_
      refine Wo.val w H2 (by kernel_rfl) (iop_ld (a := ⟨H1.n, 0, 1⟩) (by kernel_rfl) l2.2.1) ?_
      refine Wo.val (.int .i64 ys.length) H2 (by kernel_rfl) (iop_lenS (v := w) (by kernel_rfl) hd.lenS) ?_
      refine Wo.val (.bool true) H2 (by kernel_rfl) (iop_cmp (op := .neq) (k := .i64) (a := xs.length) (b := ys.length) true (by kernel_rfl) (by kernel_rfl) (by simp) (by simp only [binInt]; rw [bne_iff_ne.2 hl'])) ?_
      refine Wo.pre 1 (by kernel_rfl) ?_
      refine Wo.nil ?_
      refine Wp.cond true (by kernel_rfl) ?_
      refine Wp.seq ?_
      refine Wp.region ?_
      refine Wo.pre 1 (by kernel_rfl) ?_
      refine Wo.nil ?_
      exact Wp.ret ⟨.inr rfl, .bool false, (by kernel_rfl), by rw [this], X12⟩
  · have ht' : (t : Int) ≠ t' := by omega
    have : sameE t xs t' ys = false := by simp [sameE, ht]
    refine Wp.seq ?_
    refine Wp.region ?_
    refine Wo.val _ _ (by kernel_rfl) (enew (by kernel_rfl)) ?_
    refine Wo.val _ _ (by kernel_rfl) (enew2 (by kernel_rfl)) ?_
    refine Wo.pre 1 (by kernel_rfl) ?_
    refine Wo.nil ?_
    refine Wp.seq ?_
    refine Wp.seq ?_
    refine Wp.region ?_
    refine Wo.pre 1 (by kernel_rfl) ?_
    refine Wo.val (.int .u64 t) H2 (by kernel_rfl) (iop_ld (a := ⟨h.n, 0, 0⟩) (by kernel_rfl) l1.1) ?_
    refine Wo.pre 1 (by kernel_rfl) ?_
    refine Wo.val (.int .u64 t') H2 (by kernel_rfl) (iop_ld (a := ⟨H1.n, 0, 0⟩) (by kernel_rfl) l2.1) ?_
    refine Wo.val (.bool true) H2 (by kernel_rfl) (iop_cmp (op := .neq) (k := .u64) (a := t) (b := t') true (by kernel_rfl) (by kernel_rfl) (by simp) (by simp only [binInt]; rw [bne_iff_ne.2 ht'])) ?_
    refine Wo.pre 1 (by kernel_rfl) ?_
    refine Wo.pre 1 (by kernel_rfl) ?_
    refine Wo.pre 1 (by kernel_rfl) ?_
    refine Wo.pre 1 (by kernel_rfl) ?_
    refine Wo.pre 1 (by kernel_rfl) ?_
    refine Wo.pre 1 (by kernel_rfl) ?_
    refine Wo.pre 1 (by kernel_rfl) ?_
    refine Wo.pre 1 (by kernel_rfl) ?_
    refine Wo.pre 1 (by kernel_rfl) ?_
    refine Wo.nil ?_
    refine Wp.cond true (by kernel_rfl) ?_
    refine Wp.seq ?_
    refine Wp.region ?_
    refine Wo.pre 1 (by kernel_rfl) ?_
    refine Wo.nil ?_
    exact Wp.ret ⟨.inr rfl, .bool false, (by kernel_rfl), by rw [this], X12⟩
end Go.Det

/- Rows that are spoiled: entries' laws. -/
set_option linter.unusedVariables false
set_option linter.unusedSimpArgs false
set_option linter.unusedSectionVars false
namespace Go.Det
open Go.Proofs
attribute [local simp] skip_iff ret_iff exit_iff seq_iff block_iff thenQ_normal thenQ_ret thenQ_exit thenQ_goto blockQ_normal blockQ_ret blockQ_exit blockQ_goto condQ_bool cond_iff region_iff wo_nil ansQ_val ansQ_call wo_cons wo_guard wanted put setL getL ev iop binop binInt shInt asI retV resOf unop
attribute [local congr] ansQ_congr condQ_congr Wo_congr Wp_congr

end Go.Det

/- Entries: one in new memory; rows that are spoiled. -/
set_option linter.unusedVariables false
set_option linter.unusedSimpArgs false
set_option linter.unusedSectionVars false
namespace Go.Det
open Go.Proofs
attribute [local irreducible] Wp Wo Wd iop ev slots quiets wanted put

/-- A chain of its own, its rows too. -/
structure OwnCh (lo : Nat) (h : H) (v : AV) (ys : List (AV × List UInt8)) : Prop where
  row : OwC 22 1 lo h v (ys.map (·.1)) ys.length
  el : ∀ p ∈ ys, Ow lo h p.1 p.2

theorem OwnCh.ch {lo : Nat} {h : H} {v : AV} {ys : List (AV × List UInt8)} (o : OwnCh lo h v ys) : Ch h v ys := by
  refine ⟨?_, fun p hp => ⟨(o.el p hp).bs, (o.el p hp).cok⟩, ?_⟩
  · rcases o.row with ⟨h1, _, h2⟩ | ⟨b, g, h1, h2, h3, h4, h5⟩
    · exact .inl ⟨h1, List.length_eq_zero_iff.1 h2⟩
    · refine .inr ⟨⟨b, g, 0⟩, .op 1, h4, h2, ?_⟩
      unfold H.ldn H.row
      simp only [h3, BEq.rfl, Bool.not_false, Bool.true_or, Bool.and_self, if_true]
      have : ys.length = (ys.map (·.1)).length := by simp
      rw [this]
      exact cut_all _
  · rintro a m c e
    rcases o.row with ⟨h1, _⟩ | ⟨b, g, _, _, _, h4, _⟩
    · rw [h1] at e; simp at e
    · rw [h4] at e; simp only [AV.sl.injEq] at e; exact .inr e.2.2.symm

theorem OwnCh.ext {lo : Nat} {h h' : H} {v : AV} {ys : List (AV × List UInt8)} (o : OwnCh lo h v ys) (hx : Ext h h') : OwnCh lo h' v ys :=
  ⟨o.row.ext hx.1 (fun b _ _ _ h2 _ => hx.2 b h2), fun p hp => (o.el p hp).ext hx⟩

set_option maxHeartbeats 1000000 in
theorem owne_loop {h0 : H} {v : AV} {xs : List (AV × List UInt8)} {blk rb : Nat} (hc : Ch h0 v xs) (hx : ∀ p ∈ xs, p.2.length ≤ maxRow) (hlen : xs.length * 24 ≤ 140737488355328) (L : ∀ q, Ext h0 q → q.ldg ⟨blk, 0, 1⟩ none = some v) :
    ∀ (k i : Nat), i + k = xs.length → ∀ (h : H) (lV : AV) (ys : List (AV × List UInt8)) (ts : List AV), Ext h0 h → OwnCh h0.n h lV ys → says ys = says (xs.take i) → ys.length = i → ts.length = 27 → getL ts 1 = some (.ptr ⟨blk, 0, 0⟩) → getL ts 2 = some (.ptr ⟨rb, 0, 0⟩) → getL ts 3 = some lV → getL ts 4 = some (.int .i64 i) →
      ∀ (Q : Ex → St → Prop), (∀ ts' h' lV ys, Ext h0 h' → OwnCh h0.n h' lV ys → says ys = says xs → ts'.length = 27 → getL ts' 1 = some (.ptr ⟨blk, 0, 0⟩) → getL ts' 2 = some (.ptr ⟨rb, 0, 0⟩) → getL ts' 3 = some lV → Q (.exit 0) (ts', h')) → Wp TF (.loop l40_1) (ts, h) Q := by
  have hmx : 200000000000000 = maxRow := rfl
  intro k
  induction k with
  | zero =>
    intro i hi h lV ys ts hE hO hsy hyl t0 t1 t2 t3 t4 Q hQ
    obtain rfl : i = xs.length := by omega
    rw [List.take_length] at hsy
    refine Wp.loop ?_
    rw [laid_eq t0 [(1, .ptr ⟨blk, 0, 0⟩), (2, .ptr ⟨rb, 0, 0⟩), (3, lV), (4, .int .i64 xs.length)] (by simp [t1, t2, t3, t4])]
    unfold l40_1
    refine Wp.seq ?_
    refine Wp.seq ?_
    refine Wp.region ?_
    refine Wo.pre 1 (by kernel_rfl) ?_
    refine Wo.pre 1 (by kernel_rfl) ?_
    refine Wo.val v h (by kernel_rfl) (iop_ld (a := ⟨blk, 0, 1⟩) (by kernel_rfl) (L h hE)) ?_
    refine Wo.val (.int .i64 xs.length) h (by kernel_rfl) (iop_lenS (v := v) (by kernel_rfl) hc.lenS) ?_
    refine Wo.val (.bool false) h (by kernel_rfl) (iop_cmp (op := .lss) (k := .i64) (a := xs.length) (b := xs.length) false (by kernel_rfl) (by kernel_rfl) (by simp) (by simp [binInt])) ?_
    refine Wo.nil ?_
    refine Wp.cond false (by kernel_rfl) ?_
    exact Wp.exit (hQ _ _ lV ys hE hO hsy (by kernel_rfl) (by kernel_rfl) (by kernel_rfl) (by kernel_rfl))
  | succ k ih =>
    intro i hi h lV ys ts hE hO hsy hyl t0 t1 t2 t3 t4 Q hQ
    have hlt : i < xs.length := by omega
    obtain ⟨p, hp⟩ : ∃ p, xs[i]? = some p := ⟨xs[i], List.getElem?_eq_getElem hlt⟩
    have hps := hx p (List.mem_of_getElem? hp)
    have hB := ((hc.el p (List.mem_of_getElem? hp)).1).ext hE
    have hls := hc.lenS
    obtain ⟨a, q, rfl, hld⟩ := (hc.ext hE).at hp
    have wi : IntKind.i64.wrap ((i : Int) + 1) = ((i + 1 : Nat) : Int) := by rw [i64_fit _ (by omega)]; omega
    have n0 := hE.1
    obtain ⟨c', H1, a1, w1, Y1, Z1⟩ := Ow.app (lo := h0.n) (h := h) (x := .nils) (l := []) (.inl ⟨rfl, rfl⟩) hB n0 (by simpa using hps)
    rw [List.nil_append] at w1
    have X1 : Ext h H1 := ⟨Y1.1, fun b hb => Z1 b hb (fun _ _ _ e => by simp at e)⟩
    have hc1 := w1.bs.parts
    have O1 := hO.ext X1
    have n1 := X1.1
    have fit : fits (ys.length + 1) 24 = true := by
      simp only [fits, Bool.and_eq_true, decide_eq_true_eq]; omega
    obtain ⟨H2, hH2⟩ : ∃ H2, H2 = H1.new (.cells 0 22 [c'] 0 false) := ⟨_, rfl⟩
    obtain ⟨l', H3, a3, o3, n3, k3⟩ := O1.row.app (by omega) (new := [c']) rfl (by simp [hc1.2.1]) fit (by omega) H2 hH2
    have bslc : ∀ {y : IX} {ρ : IX → AV}, ρ y = c' → iop (.bsl 22 [.nils] 1 [(0, 1, y)]) ρ H1 = some (.val (.sl ⟨H1.n, 0, 0⟩ 1 (.ex 1)) H2) := by
      intro y ρ hy
      simp [iop, fillL, hy, hc1.1, hc1.2.1, putAt, ← hH2]
    have kp : ∀ b g c, h0.n ≤ b → b < H1.n → H1.get b = some (.cells g 5 c 0 false) → H3.get b = H1.get b := fun b g c h1 h2 h3 => k3 b h2 (.inr (fun g c e => by rw [h3] at e; simp at e))
    have E3 : Ext h0 H3 := ⟨by omega, fun b hb => by rw [k3 b (by omega) (.inl hb), X1.2 b (by omega)]; exact hE.2 b hb⟩
    have O3 : OwnCh h0.n H3 l' (ys ++ [(c', p.2)]) := by
      refine ⟨by rw [List.map_append, List.length_append]; exact o3, fun r hr => ?_⟩
      rcases List.mem_append.1 hr with hr | hr
      · exact (O1.el r hr).keep n3 kp
      · simp only [List.mem_cons, List.not_mem_nil, or_false] at hr
        subst hr
        exact w1.keep n3 kp
    have hsy' : says (ys ++ [(c', p.2)]) = says (xs.take (i + 1)) := by
      rw [take_step hp]
      simp only [says, List.map_append] at hsy ⊢
      rw [hsy]
      rfl
    refine Wp.loop ?_
    rw [laid_eq t0 [(1, .ptr ⟨blk, 0, 0⟩), (2, .ptr ⟨rb, 0, 0⟩), (3, lV), (4, .int .i64 i)] (by simp [t1, t2, t3, t4])]
    unfold l40_1
    refine Wp.seq ?_
    refine Wp.seq ?_
    refine Wp.region ?_
    refine Wo.pre 1 (by kernel_rfl) ?_
    refine Wo.pre 1 (by kernel_rfl) ?_
    refine Wo.val (.sl a xs.length q) h (by kernel_rfl) (iop_ld (a := ⟨blk, 0, 1⟩) (by kernel_rfl) (L h hE)) ?_
    refine Wo.val (.int .i64 xs.length) h (by kernel_rfl) (iop_lenS (v := .sl a xs.length q) (by kernel_rfl) hls) ?_
    refine Wo.val (.bool true) h (by kernel_rfl) (iop_cmp (op := .lss) (k := .i64) (a := i) (b := xs.length) true (by kernel_rfl) (by kernel_rfl) (by simp) (by simp [binInt]; omega)) ?_
    refine Wo.nil ?_
    refine Wp.cond true (by kernel_rfl) ?_
    refine Wp.skip ?_
    refine Wp.seq ?_
    refine Wp.block ?_
    refine Wp.seq ?_
    refine Wp.region ?_
    refine Wo.pre 1 (by kernel_rfl) ?_
    refine Wo.nil ?_
    refine Wp.region ?_
    refine Wo.pre 1 (by kernel_rfl) ?_
    refine Wo.pre 1 (by kernel_rfl) ?_
    refine Wo.pre 1 (by kernel_rfl) ?_
    refine Wo.val (.sl a xs.length q) h (by kernel_rfl) (iop_ld (a := ⟨blk, 0, 1⟩) (by kernel_rfl) (L h hE)) ?_
    refine Wo.pre 1 (by kernel_rfl) ?_
    refine Wo.val _ h (by kernel_rfl) (iop_ia (a := a) (n := xs.length) (c := q) (i := i) (by kernel_rfl) (by kernel_rfl) hlt) ?_
    refine Wo.val p.1 h (by kernel_rfl) (iop_ld (a := ⟨a.b, a.g, a.o + i * 1⟩) (by kernel_rfl) hld) ?_
    refine Wo.val c' H1 (by kernel_rfl) (iop_app (v := .nils) (w := p.1) (by kernel_rfl) (by kernel_rfl) hB.parts.2.2 a1) ?_
    refine Wo.val _ H2 (by kernel_rfl) (bslc (by kernel_rfl)) ?_
    refine Wo.val l' H3 (by kernel_rfl) (iop_appG (v := lV) (w := .sl ⟨H1.n, 0, 0⟩ 1 (.ex 1)) (by kernel_rfl) (by kernel_rfl) rfl a3) ?_
    refine Wo.pre 1 (by kernel_rfl) ?_
    refine Wo.nil ?_
    refine Wp.region ?_
    refine Wo.pre 1 (by kernel_rfl) ?_
    refine Wo.pre 1 (by kernel_rfl) ?_
    refine Wo.pre 1 (by kernel_rfl) ?_
    refine Wo.nil ?_
    exact ih (i + 1) (by omega) H3 l' _ _ E3 O3 hsy' (by rw [List.length_append, hyl]; rfl) (by kernel_rfl) (by kernel_rfl) (by kernel_rfl) (by kernel_rfl) (by rw [← wi]; kernel_rfl) Q hQ

theorem retS {ts : List AV} {h : H} {k ag : Nat} {a : AA} {v : AV} (LA : h.ldg a (some ag) = some v) (h1 : getL ts k = some (.ptr a)) : retV h ts [(k, some (some ag))] = some v := by
  simp [retV, resOf, iop, ev, h1, LA]

theorem owne_run {h : H} {v : AV} {xs : List (AV × List UInt8)} (hc : Ch h v xs) (hx : ∀ p ∈ xs, p.2.length ≤ maxRow) (hlen : xs.length * 24 ≤ 140737488355328) (t : Nat) : ∃ r h', Runs TF 40 [entV t v] h r h' ∧ ∃ v' ys, r = entV t v' ∧ Ext h h' ∧ OwnCh h.n h' v' ys ∧ says ys = says xs := by
  refine Runs.ofP f40 rfl ?_
  obtain ⟨H1, X1, n1, enew, Ld⟩ := ent_new hc t
  obtain ⟨H2, hH2⟩ : ∃ H2, H2 = H1.new (.cells 0 70 [.int .u64 0, .nils] 0 false) := ⟨_, rfl⟩
  have X2 : Ext H1 H2 := by rw [hH2]; exact Ext.new _ _
  have g2 : H2.get H1.n = some (.cells 0 70 [.int .u64 0, .nils] 0 false) := by rw [hH2]; exact H1.get_new _
  have n2 : H1.n < H2.n := by rw [hH2]; simp
  have en2 : ∀ ts, iop (.new 70 (.c (.agg [.int .u64 0, .nils]))) (ev ts) H1 = some (.val (.ptr ⟨H1.n, 0, 0⟩) H2) := fun ts => by rw [hH2]; exact iop_new (by kernel_rfl) rfl
  have X12 := X1.trans X2
  have m1 := X1.1
  refine Wp.seq ?_
  refine Wp.region ?_
  refine Wo.val _ _ (by kernel_rfl) (enew (by kernel_rfl)) ?_
  refine Wo.val _ _ (by kernel_rfl) (en2 _) ?_
  refine Wo.nil ?_
  refine Wp.seq ?_
  refine Wp.region ?_
  refine Wo.pre 8 (by kernel_rfl) ?_
  refine Wo.nil ?_
  refine Wp.seq ?_
  refine Wp.seq ?_
  refine Wp.region ?_
  refine Wo.pre 8 (by kernel_rfl) ?_
  refine Wo.nil ?_
  refine Wp.block ?_
  refine owne_loop (blk := h.n) (rb := H1.n) (hc.ext X12) hx hlen (fun q hq => (Ld q (X2.trans hq)).2.1) xs.length 0 (by omega) H2 .nils [] _ (Ext.refl _) ⟨.inl ⟨rfl, rfl, rfl⟩, fun p hp => by simp at hp⟩ (by simp [says]) rfl (by kernel_rfl) (by kernel_rfl) (by kernel_rfl) (by kernel_rfl) (by kernel_rfl) _ ?_
  intro ts' H3 lV ys hE hO hsy d0 d1 d2 d3
  rw [laid_eq d0 [(1, .ptr ⟨h.n, 0, 0⟩), (2, .ptr ⟨H1.n, 0, 0⟩), (3, lV)] (by simp [d1, d2, d3])]
  have l3 := Ld H3 (X2.trans hE)
  have hlp := hO.ch.parts
  have g3 : H3.get H1.n = some (.cells 0 70 [.int .u64 0, .nils] 0 false) := by rw [hE.2 _ n2]; exact g2
  obtain ⟨H4, hH4⟩ : ∃ H4, H4 = H3.set H1.n (.cells 0 70 [.int .u64 t, lV] 0 false) := ⟨_, rfl⟩
  have st : H3.st ⟨H1.n, 0, 0⟩ [.int .u64 t, lV] = some H4 := by
    have o3 : ∀ k i, (AV.int k i).one = true := fun _ _ => rfl
    unfold H.st
    simp only [g3]
    rw [if_pos (by simp [hlp.2.1, o3]), hH4]
    rfl
  have g4 : H4.get H1.n = some (.cells 0 70 [.int .u64 t, lV] 0 false) := by rw [hH4, H3.get_set]
  have kp : ∀ b, b ≠ H1.n → H4.get b = H3.get b := fun b hb => by rw [hH4, H3.get_set_ne _ b _ hb]
  have n4 : H4.n = H3.n := by rw [hH4]; rfl
  have eb : ∀ {x y : IX} {ρ : IX → AV}, ρ x = .int .u64 t → ρ y = lV → iop (.build [.int .u64 0, .nils] [(0, 1, x), (1, 1, y)]) ρ H3 = some (.val (.agg [.int .u64 t, lV]) H3) := by
    intro x y ρ hx hy
    have o : (AV.int .u64 (t : Int)).cells = [.int .u64 t] := rfl
    simp [iop, fillL, hx, hy, hlp.1, o, putAt]
  refine Wp.seq ?_
  refine Wp.region ?_
  refine Wo.pre 1 (by kernel_rfl) ?_
  refine Wo.val (.int .u64 t) H3 (by kernel_rfl) (iop_ld (a := ⟨h.n, 0, 0⟩) (by kernel_rfl) l3.1) ?_
  refine Wo.pre 1 (by kernel_rfl) ?_
  refine Wo.val (.agg [.int .u64 t, lV]) H3 (by kernel_rfl) (eb (by kernel_rfl) (by kernel_rfl)) ?_
  refine Wo.val .undef H4 (by kernel_rfl) (iop_stA (a := ⟨H1.n, 0, 0⟩) (cs := [.int .u64 t, lV]) (by kernel_rfl) (by kernel_rfl) rfl st) ?_
  refine Wo.nil ?_
  have LA : H4.ldg ⟨H1.n, 0, 0⟩ (some 2) = some (entV t lV) := by simp [H.ldg, H.ldn, H.row, g4, cut, entV]
  have e3 := hE.1
  refine Wp.ret ⟨.inr rfl, entV t lV, retS LA (by kernel_rfl), lV, ys, rfl, ⟨by show h.n ≤ H4.n; omega, fun b hb => ?_⟩, ⟨?_, fun p hp => ?_⟩, hsy⟩
  · show H4.get b = h.get b
    rw [kp b (by omega), hE.2 b (by omega)]; exact X12.2 b hb
  · rcases hO.row with h0 | ⟨b, g, q1, q2, q3, q4⟩
    · exact .inl h0
    · exact .inr ⟨b, g, by omega, by show b < H4.n; omega, by rw [kp b (by omega)]; exact q3, q4⟩
  · rcases hO.el p hp with h0 | ⟨b, g, q1, q2, q3, q4⟩
    · exact .inl h0
    · exact .inr ⟨b, g, by omega, by show b < H4.n; omega, by rw [kp b (by omega)]; exact q3, q4⟩
end Go.Det

/- Entries' laws: rows are spoiled. -/
set_option linter.unusedVariables false
set_option linter.unusedSimpArgs false
set_option linter.unusedSectionVars false
namespace Go.Det
open Go.Proofs
attribute [local irreducible] Wp Wo Wd iop ev slots quiets wanted put

end Go.Det

/- The law EntryMakes. -/
set_option linter.unusedVariables false
set_option linter.unusedSimpArgs false
set_option linter.unusedSectionVars false
namespace Go.Det
open Go.Proofs
attribute [local irreducible] Wp Wo Wd iop ev slots quiets wanted put

/-- A block of two cells, made and filled. -/
theorem made2 {h : H} (ty : Nat) {z1 z2 x y : AV} (hz : ([z1, z2] : List AV).all AV.one = true) (hx : x.one = true) (hy : y.one = true) :
    ∃ H1 H2, Ext h H2 ∧ H2.n = h.n + 1 ∧ H2.get h.n = some (.cells 0 ty [x, y] 0 false) ∧ (∀ {u : IX} {ρ : IX → AV}, ρ u = .agg [z1, z2] → iop (.new ty u) ρ h = some (.val (.ptr ⟨h.n, 0, 0⟩) H1)) ∧
      (∀ {u w : IX} {ρ : IX → AV}, ρ u = .ptr ⟨h.n, 0, 0⟩ → ρ w = .agg [x, y] → iop (.st 2 u w) ρ H1 = some (.val .undef H2)) ∧ Ext h H1 ∧ H1.n = h.n + 1 := by
  refine ⟨h.new (.cells 0 ty [z1, z2] 0 false), (h.new (.cells 0 ty [z1, z2] 0 false)).set h.n (.cells 0 ty [x, y] 0 false), ⟨Nat.le_succ _, fun b hb => ?_⟩, rfl, H.get_set _ _ _, fun hu => iop_new hu hz, fun hu hw => iop_stA (a := ⟨h.n, 0, 0⟩) (cs := [x, y]) hu hw rfl ?_, Ext.new _ _, rfl⟩
  · rw [H.get_set_ne _ _ _ _ (by omega)]; exact h.get_new_ne b _ (by omega)
  · unfold H.st
    simp only [H.get_new]
    rw [if_pos (by simp [hx, hy])]
    rfl

theorem ld_two {h : H} {b ty : Nat} {x y : AV} (hg : h.get b = some (.cells 0 ty [x, y] 0 false)) : h.ldg ⟨b, 0, 0⟩ (some 2) = some (.agg [x, y]) ∧ h.ldg ⟨b, 0, 0⟩ none = some x ∧ h.ldg ⟨b, 0, 1⟩ none = some y := by
  simp [H.ldg, H.ld, H.ldn, H.row, hg, getL, cut]

theorem made_len (xs : List (AV × List UInt8)) (t : Nat) : (leafX t xs).length ≤ 3000 ∧ (extraX xs).length ≤ 3000 ∧ (recX t xs).length ≤ 3000 := by
  unfold leafX extraX recX
  by_cases hm : mayE xs = true
  · obtain ⟨p, h1, h2, h3, h4, h5⟩ := mayE_first hm
    obtain ⟨hs, _⟩ := mayE_small hm
    have i1 := inner_len xs hs.2
    have i2 := inner_len (xs.drop 1) (fun q hq => hs.2 q (List.mem_of_mem_drop hq))
    have hl := hs.1
    have hd : (xs.drop 1).length ≤ 4 := by rw [List.length_drop]; omega
    simp only [if_pos hm, leafB, listB, List.length_append, digits_len, h2, List.length_cons, List.length_nil]
    refine ⟨by omega, by omega, by omega⟩
  · simp [if_neg hm]

end Go.Det

