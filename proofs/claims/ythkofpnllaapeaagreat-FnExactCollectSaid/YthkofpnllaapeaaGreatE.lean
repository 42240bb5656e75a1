/-
  Texts of the proof, part 5: a value-level evaluator and its soundness, what the functions compute, laws about it.
  Conditions: none.
-/
import Derived.Test.YthkofpnllaapeaaGreatD
import Derived.Lib.Strings
set_option linter.all false
namespace Go.Proofs.YthkofpnllaapeaaGreat
noncomputable section
open Go
theorem aEc (x0 : PV) : rQ x0=bd (PV.whole 3 x0) fun v0=>bd (PV.cell v0 0) fun v1=>bd (PV.cell v0 1) fun v2=>bd (PV.cell v0 2) fun v3=>bd (PV.one v1) fun v4=>bd (PV.one v2) fun v5=>bd (PV.one v3) fun v6=>some [(.agg [v4,v5,v6])]:=aP _ _ _ (by kernel_rfl)
theorem aEd (x0 x1 : PV) : rR x0 x1=bd (PV.whole 2 x0) fun v0=>bd (PV.cell v0 0) fun v1=>bd (PV.cell v0 1) fun v2=>bd (PV.whole 10 x1) fun v3=>bd (PV.cell v3 0) fun v4=>bd (PV.cell v3 1) fun v5=>bd (PV.cell v3 2) fun v6=>bd (PV.cell v3 3) fun v7=>bd (PV.cell v3 4) fun v8=>bd (PV.cell v3 5) fun v9=>bd (PV.cell v3 6) fun v10=>bd (PV.cell v3 7) fun v11=>
 bd (PV.cell v3 8) fun v12=>bd (PV.cell v3 9) fun v13=>bd (wA (.agg [v1,v2]) (.agg [v4,v5,v6,v7,v8,v9,v10,v11,v12,v13])) fun r14=>bd (PV.not (hd r14)) fun v15=>PV.ite v15 (some [(.int .i64 0),(.int .i64 0),(.int .i64 0),(.int .i64 0),(.int .i64 0),(.str (bs [])),(.int .i64 0),(.lst []),(.lst []),(.lst [])]) (bd (PV.one v5) fun v16=>jP (.int .i64 0) v4 v5 v6 v7 v8 v9 v10 v11 v12 v13 (.int .i64 0) (.int .i64 0) (.int .i64 0) (.int .i64 0) (.int .i64 0) (.str (bs [])) (.int .i64 0) v16 (.lst []) (.lst []) (.lst []) (.lst []) (.lst [])):=bQ _ _ _ _ (by kernel_rfl)
theorem sX (x0 x1 x2 x3 x4 x5 x6 x7 x8 x9 x10 x11 x12 x13 x14 x15 x16 x17 x18 x19 x20 x21 x22 x23 : PV) : jP x0 x1 x2 x3 x4 x5 x6 x7 x8 x9 x10 x11 x12 x13 x14 x15 x16 x17 x18 x19 x20 x21 x22 x23=bd (PV.len x2) fun v0=>bd (PV.bin .lss x0 v0) fun v1=>PV.ite v1 (bd (PV.cat 1 8 false x22 (.lst [(.int .i64 (-1))])) fun v2=>bd (PV.bin .add x0 (.int .i64 1)) fun v3=>
 jP v3 x1 x2 x3 x4 x5 x6 x7 x8 x9 x10 x11 x12 x13 x14 x15 x16 x17 x18 x19 x20 x21 v2 x23) (jQ (.int .i64 0) x1 x2 x3 x4 x5 x6 x7 x8 x9 x10 x11 x12 x13 x14 x15 x16 x17 x18 x19 x20 x21 x22 x23):=aT _ _ _ _ _ _ _ _ (by kernel_rfl)
theorem sY (x0 x1 x2 x3 x4 x5 x6 x7 x8 x9 x10 x11 x12 x13 x14 x15 x16 x17 x18 x19 x20 x21 x22 x23 : PV) : jQ x0 x1 x2 x3 x4 x5 x6 x7 x8 x9 x10 x11 x12 x13 x14 x15 x16 x17 x18 x19 x20 x21 x22 x23=bd (PV.len x1) fun v0=>bd (PV.bin .lss x0 v0) fun v1=>PV.ite v1 (bd (PV.at_ 4 true x1 x0) fun v2=>bd (PV.cell v2 2) fun v3=>bd (cE v3 x18 x22 x23) fun r4=>
 bd (PV.at_ 4 true x1 x0) fun v5=>bd (PV.cell v5 3) fun v6=>bd (cE v6 (gd r4 0) (gd r4 1) (gd r4 2)) fun r7=>bd (PV.bin .add x0 (.int .i64 1)) fun v8=>jQ v8 x1 x2 x3 x4 x5 x6 x7 x8 x9 x10 x11 x12 x13 x14 x15 x16 x17 (gd r7 0) x19 x20 x21 (gd r7 1) (gd r7 2)) (bd (gE x7 x8 x9 x18 x22 x23) fun r9=>lD (.int .i64 0) x1 x2 x3 x4 x5 x6 x7 x8 x9 x10 x11 x12 x13 x14 x15 x16 x17 (gd r9 1) x19 x20 x21 (gd r9 2) (gd r9 3)):=aT _ _ _ _ _ _ _ _ (by kernel_rfl)
theorem qY (x0 x1 x2 x3 x4 x5 x6 x7 x8 x9 x10 x11 x12 x13 x14 x15 x16 x17 x18 x19 x20 x21 x22 x23 : PV) : lD x0 x1 x2 x3 x4 x5 x6 x7 x8 x9 x10 x11 x12 x13 x14 x15 x16 x17 x18 x19 x20 x21 x22 x23=bd (PV.len x23) fun v0=>bd (PV.bin .lss x0 v0) fun v1=>PV.ite v1 (bd (PV.inb x23 x0) fun v2=>bd (PV.at_ 1 false x23 x0) fun v3=>bd (PV.at_ 1 true x2 v3) fun v4=>bd (PV.cell v4 0) fun v5=>
 bd (cE v5 x18 x22 x23) fun r6=>bd (PV.bin .add x0 (.int .i64 1)) fun v7=>lD v7 x1 x2 x3 x4 x5 x6 x7 x8 x9 x10 x11 x12 x13 x14 x15 x16 x17 (gd r6 0) x19 x20 x21 (gd r6 1) (gd r6 2)) (fY (.int .i64 0) (.int .i64 0) x1 x2 x3 x4 x5 x6 x7 x8 x9 x10 x11 x12 x13 x14 x15 x16 x17 x18 (.lst []) x19 x20 x21 x22 x23 (.lst []) (.lst [])):=aT _ _ _ _ _ _ _ _ (by kernel_rfl)
theorem qZ (x0 x1 x2 x3 x4 x5 x6 x7 x8 x9 x10 x11 x12 x13 x14 x15 x16 x17 x18 x19 x20 x21 x22 x23 x24 x25 x26 x27 : PV) : fY x0 x1 x2 x3 x4 x5 x6 x7 x8 x9 x10 x11 x12 x13 x14 x15 x16 x17 x18 x19 x20 x21 x22 x23 x24 x25 x26 x27=bd (PV.len x3) fun v0=>bd (PV.bin .lss x1 v0) fun v1=>PV.ite v1 (bd (PV.cat 1 8 false (.lst []) (.lst [x0])) fun v2=>bd (PV.cat 1 8 false x26 v2) fun v3=>
 bd (PV.inb x24 x1) fun v4=>bd (PV.at_ 1 false x24 x1) fun v5=>bd (PV.bin .geq v5 (.int .i64 0)) fun v6=>PV.ite v6 (bd (PV.bin .add x0 (.int .i64 1)) fun v7=>bd (PV.bin .add x1 (.int .i64 1)) fun v8=>fY v7 v8 x2 x3 x4 x5 x6 x7 x8 x9 x10 x11 x12 x13 x14 x15 x16 x17 x18 x19 x20 x21 x22 x23 x24 x25 v3 x27) (bd (PV.bin .add x1 (.int .i64 1)) fun v9=>fY x0 v9 x2 x3 x4 x5 x6 x7 x8 x9 x10 x11 x12 x13 x14 x15 x16 x17 x18 x19 x20 x21 x22 x23 x24 x25 v3 x27))
 (bd (rV (.agg [x2,x3,x4,x5,x6,x7,x8,x9,x10,x11])) fun r10=>PV.guardFlat (gd r10 0) (PV.guardFlat (gd r10 1) (PV.guardFlat (gd r10 2) (PV.guardFlat (gd r10 3) (PV.guardFlat (gd r10 4) (PV.guardFlat (gd r10 5) (PV.guardFlat (gd r10 6) (PV.guardOwn (.own 4 64 true [.leaf,.leaf,(.own 3 32 true []),(.own 3 32 true [])]) (gd r10 7) (PV.guardOwn (.own 1 24 true [(.own 3 32 true [])]) (gd r10 8) (
 PV.guardOwn (.own 1 16 false []) (gd r10 9) (fZ (.int .i64 0) x2 x3 x4 x5 x6 x7 x8 x9 x10 x11 x12 x13 x14 x15 x16 x17 x18 x19 x20 (gd r10 0) (gd r10 1) (gd r10 2) (gd r10 3) (gd r10 4) (gd r10 5) (gd r10 6) x21 x22 x23 x24 x25 x26 x27 (gd r10 7) (.lst []) (gd r10 9)))))))))))):=aT _ _ _ _ _ _ _ _ (by kernel_rfl)
theorem rA (x0 x1 x2 x3 x4 x5 x6 x7 x8 x9 x10 x11 x12 x13 x14 x15 x16 x17 x18 x19 x20 x21 x22 x23 x24 x25 x26 x27 x28 x29 x30 x31 x32 x33 x34 x35 x36 : PV) : fZ x0 x1 x2 x3 x4 x5 x6 x7 x8 x9 x10 x11 x12 x13 x14 x15 x16 x17 x18 x19 x20 x21 x22 x23 x24 x25 x26 x27 x28 x29 x30 x31 x32 x33 x34 x35 x36=bd (PV.len x2) fun v0=>bd (PV.bin .lss x0 v0) fun v1=>PV.ite v1 (bd (PV.inb x30 x0) fun v2=>
 bd (PV.at_ 1 false x30 x0) fun v3=>bd (PV.bin .geq v3 (.int .i64 0)) fun v4=>PV.ite v4 (bd (PV.at_ 1 true x2 x0) fun v5=>bd (PV.cell v5 0) fun v6=>bd (cE v6 x19 x32 x33) fun r7=>bd (PV.cat 1 24 true x35 (.lst [(.agg [(gd r7 3)])])) fun v8=>bd (PV.bin .add x0 (.int .i64 1)) fun v9=>fZ v9 x1 x2 x3 x4 x5 x6 x7 x8 x9 x10 x11 x12 x13 x14 x15 x16 x17 x18 (gd r7 0) x20 x21 x22 x23 x24 x25 x26 x27 x28 x29 x30 x31 (gd r7 1) (gd r7 2) x34 v8 x36)
 (bd (PV.bin .add x0 (.int .i64 1)) fun v10=>fZ v10 x1 x2 x3 x4 x5 x6 x7 x8 x9 x10 x11 x12 x13 x14 x15 x16 x17 x18 x19 x20 x21 x22 x23 x24 x25 x26 x27 x28 x29 x30 x31 x32 x33 x34 x35 x36)) (iQ (.int .i64 0) x1 x2 x3 x4 x5 x6 x7 x8 x9 x10 x11 x12 x13 x14 x15 x16 x17 x19 x20 x21 x22 x23 x24 x25 x26 x27 x28 x29 x32 x33 x34 x35 x36):=aT _ _ _ _ _ _ _ _ (by kernel_rfl)
theorem rB (x0 x1 x2 x3 x4 x5 x6 x7 x8 x9 x10 x11 x12 x13 x14 x15 x16 x17 x18 x19 x20 x21 x22 x23 x24 x25 x26 x27 x28 x29 x30 x31 x32 x33 : PV) : iQ x0 x1 x2 x3 x4 x5 x6 x7 x8 x9 x10 x11 x12 x13 x14 x15 x16 x17 x18 x19 x20 x21 x22 x23 x24 x25 x26 x27 x28 x29 x30 x31 x32 x33=bd (PV.len x1) fun v0=>bd (PV.bin .lss x0 v0) fun v1=>PV.ite v1 (bd (PV.at_ 4 true x1 x0) fun v2=>
 bd (PV.cell v2 2) fun v3=>bd (cE v3 x18 x29 x30) fun r4=>bd (PV.inb x31 x0) fun v5=>bd (PV.setCell 4 x31 x0 2 (gd r4 3)) fun v6=>bd (PV.at_ 4 true x1 x0) fun v7=>bd (PV.cell v7 3) fun v8=>bd (cE v8 (gd r4 0) (gd r4 1) (gd r4 2)) fun r9=>bd (PV.inb v6 x0) fun v10=>bd (PV.setCell 4 v6 x0 3 (gd r9 3)) fun v11=>bd (PV.bin .add x0 (.int .i64 1)) fun v12=>
 iQ v12 x1 x2 x3 x4 x5 x6 x7 x8 x9 x10 x11 x12 x13 x14 x15 x16 x17 (gd r9 0) x19 x20 x21 x22 x23 x24 x25 x26 x27 x28 (gd r9 1) (gd r9 2) v11 x32 x33) (bd (gE x7 x8 x9 x18 x29 x30) fun r13=>bd (PV.whole 3 (gd r13 0)) fun v14=>bd (PV.cell v14 0) fun v15=>bd (PV.cell v14 1) fun v16=>bd (PV.cell v14 2) fun v17=>some [x19,x20,x21,v15,v16,v17,x25,x31,x32,x33]):=aT _ _ _ _ _ _ _ _ (by kernel_rfl)
theorem aCh (x0 x1 : PV) : wA x0 x1=bd (PV.whole 2 x0) fun v0=>bd (PV.cell v0 0) fun v1=>bd (PV.cell v0 1) fun v2=>bd (PV.whole 10 x1) fun v3=>bd (PV.cell v3 0) fun v4=>bd (PV.cell v3 1) fun v5=>bd (PV.cell v3 2) fun v6=>bd (PV.cell v3 3) fun v7=>bd (PV.cell v3 4) fun v8=>bd (PV.cell v3 5) fun v9=>bd (PV.cell v3 6) fun v10=>bd (PV.cell v3 7) fun v11=>bd (PV.cell v3 8) fun v12=>
 bd (PV.cell v3 9) fun v13=>bd (xC (.agg [v1,v2])) fun r14=>PV.ite (hd r14) (bd (aCe (.agg [v1,v2]) (.agg [v4,v5,v6,v7,v8,v9,v10,v11,v12,v13])) fun r15=>some [(hd r15)]) (some [.bool false]):=aP _ _ _ (by kernel_rfl)
theorem aEe (x0 : PV) : xC x0=bd (PV.whole 2 x0) fun v0=>bd (PV.cell v0 0) fun v1=>bd (PV.cell v0 1) fun v2=>bd (zS (.agg [v1,v2])) fun r3=>bd (PV.cell (hd r3) 0) fun v4=>bd (PV.bin .eql v4 (.int .i64 0)) fun v5=>some [v5]:=aP _ _ _ (by kernel_rfl)
theorem yG (x0 x1 : PV) : aCe x0 x1=bd (PV.whole 2 x0) fun v0=>bd (PV.cell v0 0) fun v1=>bd (PV.cell v0 1) fun v2=>bd (PV.whole 10 x1) fun v3=>bd (PV.cell v3 0) fun v4=>bd (PV.cell v3 1) fun v5=>bd (PV.cell v3 2) fun v6=>bd (PV.cell v3 3) fun v7=>bd (PV.cell v3 4) fun v8=>bd (PV.cell v3 5) fun v9=>bd (PV.cell v3 6) fun v10=>bd (PV.cell v3 7) fun v11=>
 bd (PV.cell v3 8) fun v12=>bd (PV.cell v3 9) fun v13=>bd (PV.len v5) fun v14=>bd (PV.bin .gtr v14 (.int .i64 120)) fun v15=>PV.ite v15 (some [.bool false]) (bd (aJ v6 v14 (.int .i64 120)) fun r16=>bd (PV.not (hd r16)) fun v17=>PV.ite v17 (some [.bool false]) (bd (PV.len v7) fun v18=>bd (PV.bin .gtr v18 (.int .i64 200)) fun v19=>PV.ite v19 (some [.bool false]) (bd (aJ v13 (.int .i64 0) (.int .i64 50000)) fun r20=>
 bd (PV.not (hd r20)) fun v21=>PV.ite v21 (some [.bool false]) (bd (xD (.agg [v1,v2]) (.agg [v10,v11,v12]) v14) fun r22=>bd (PV.not (hd r22)) fun v23=>PV.ite v23 (some [.bool false]) (gL v14 (.int .i64 0) v1 v2 v4 v5 v6 v7 v8 v9 v10 v11 v12 v13))))):=aP _ _ _ (by kernel_rfl)
theorem jI (x0 x1 x2 x3 x4 x5 x6 x7 x8 x9 x10 x11 x12 x13 : PV) : gL x0 x1 x2 x3 x4 x5 x6 x7 x8 x9 x10 x11 x12 x13=bd (PV.bin .lss x1 x0) fun v0=>PV.ite v0 (bd (PV.at_ 1 true x5 x1) fun v1=>bd (PV.cell v1 0) fun v2=>bd (PV.len v2) fun v3=>bd (PV.bin .gtr v3 (.int .i64 6)) fun v4=>PV.ite v4 (some [.bool false]) (bd (PV.at_ 1 true x5 x1) fun v5=>bd (PV.cell v5 0) fun v6=>
 bd (iS (.agg [x2,x3]) v6 x0) fun r7=>bd (PV.not (hd r7)) fun v8=>PV.ite v8 (some [.bool false]) (bd (PV.bin .add x1 (.int .i64 1)) fun v9=>gL x0 v9 x2 x3 x4 x5 x6 x7 x8 x9 x10 x11 x12 x13))) (eD x0 (.int .i64 0) x2 x3 x4 x5 x6 x7 x8 x9 x10 x11 x12 x13):=aT _ _ _ _ _ _ _ _ (by kernel_rfl)
theorem iJ (x0 x1 x2 x3 x4 x5 x6 x7 x8 x9 x10 x11 x12 x13 : PV) : eD x0 x1 x2 x3 x4 x5 x6 x7 x8 x9 x10 x11 x12 x13=bd (PV.len x7) fun v0=>bd (PV.bin .lss x1 v0) fun v1=>PV.ite v1 (bd (PV.at_ 1 false x7 x1) fun v2=>bd (lE v2) fun r3=>bd (PV.not (hd r3)) fun v4=>PV.ite v4 (some [.bool false]) (bd (PV.bin .add x1 (.int .i64 1)) fun v5=>eD x0 v5 x2 x3 x4 x5 x6 x7 x8 x9 x10 x11 x12 x13))
 (bd (PV.bin .eql x8 (.int .i64 1)) fun v6=>PV.ite v6 (bd (PV.len x4) fun v7=>bd (PV.bin .eql v7 (.int .i64 0)) fun v8=>PV.ite v8 (bd (PV.bin .eql x9 (.int .i64 0)) fun v9=>some [v9]) (some [.bool false])) (bd (PV.bin .neq x8 (.int .i64 0)) fun v10=>PV.ite v10 (bd (PV.bin .neq x8 (.int .i64 2)) fun v11=>PV.ite v11 (some [.bool false]) (bd (PV.ceq [1,1,2] .neq (.agg [x10,x11,x12]) (.agg [(.int .i64 0),(.int .i64 0),(.str (bs []))])) fun v12=>
 PV.ite v12 (some [.bool false]) (bd (PV.len x4) fun v13=>bd (aJ v13 (.int .i64 1) (.int .i64 24)) fun r14=>bd (PV.not (hd r14)) fun v15=>PV.ite v15 (some [.bool false]) (bd (PV.bin .eql x8 (.int .i64 0)) fun v16=>PV.ite v16 (bd (PV.bin .neq x9 (.int .i64 0)) fun v17=>PV.ite v17 (some [.bool false]) (bd (PV.bin .eql x8 (.int .i64 2)) fun v18=>PV.ite v18 (bd (aJ x9 (.int .i64 1) (.int .i64 8)) fun r19=>
 bd (PV.not (hd r19)) fun v20=>PV.ite v20 (some [.bool false]) (bD x0 (.int .i64 0) x2 x3 x4 x5 x6 x7 x8 x9 x10 x11 x12 x13)) (bD x0 (.int .i64 0) x2 x3 x4 x5 x6 x7 x8 x9 x10 x11 x12 x13))) (bd (PV.bin .eql x8 (.int .i64 2)) fun v21=>PV.ite v21 (bd (aJ x9 (.int .i64 1) (.int .i64 8)) fun r22=>bd (PV.not (hd r22)) fun v23=>PV.ite v23 (some [.bool false])
 (bD x0 (.int .i64 0) x2 x3 x4 x5 x6 x7 x8 x9 x10 x11 x12 x13)) (bD x0 (.int .i64 0) x2 x3 x4 x5 x6 x7 x8 x9 x10 x11 x12 x13)))))) (bd (PV.ceq [1,1,2] .neq (.agg [x10,x11,x12]) (.agg [(.int .i64 0),(.int .i64 0),(.str (bs []))])) fun v24=>PV.ite v24 (some [.bool false]) (bd (PV.len x4) fun v25=>bd (aJ v25 (.int .i64 1) (.int .i64 24)) fun r26=>bd (PV.not (hd r26)) fun v27=>
 PV.ite v27 (some [.bool false]) (bd (PV.bin .eql x8 (.int .i64 0)) fun v28=>PV.ite v28 (bd (PV.bin .neq x9 (.int .i64 0)) fun v29=>PV.ite v29 (some [.bool false]) (bd (PV.bin .eql x8 (.int .i64 2)) fun v30=>PV.ite v30 (bd (aJ x9 (.int .i64 1) (.int .i64 8)) fun r31=>bd (PV.not (hd r31)) fun v32=>PV.ite v32 (some [.bool false]) (bD x0 (.int .i64 0) x2 x3 x4 x5 x6 x7 x8 x9 x10 x11 x12 x13))
 (bD x0 (.int .i64 0) x2 x3 x4 x5 x6 x7 x8 x9 x10 x11 x12 x13))) (bd (PV.bin .eql x8 (.int .i64 2)) fun v33=>PV.ite v33 (bd (aJ x9 (.int .i64 1) (.int .i64 8)) fun r34=>bd (PV.not (hd r34)) fun v35=>PV.ite v35 (some [.bool false]) (bD x0 (.int .i64 0) x2 x3 x4 x5 x6 x7 x8 x9 x10 x11 x12 x13)) (bD x0 (.int .i64 0) x2 x3 x4 x5 x6 x7 x8 x9 x10 x11 x12 x13))))))):=aT _ _ _ _ _ _ _ _ (by kernel_rfl)
theorem iK (x0 x1 x2 x3 x4 x5 x6 x7 x8 x9 x10 x11 x12 x13 : PV) : bD x0 x1 x2 x3 x4 x5 x6 x7 x8 x9 x10 x11 x12 x13=bd (PV.len x4) fun v0=>bd (PV.bin .lss x1 v0) fun v1=>PV.ite v1 (bd (PV.at_ 4 true x4 x1) fun v2=>bd (PV.len x4) fun v3=>bd (PV.bin .sub v3 (.int .i64 1)) fun v4=>bd (PV.bin .eql x1 v4) fun v5=>bd (mK (.agg [x2,x3]) v2 x0 v5) fun r6=>
 bd (PV.not (hd r6)) fun v7=>PV.ite v7 (some [.bool false]) (bd (PV.bin .add x1 (.int .i64 1)) fun v8=>bD x0 v8 x2 x3 x4 x5 x6 x7 x8 x9 x10 x11 x12 x13)) (some [.bool true]):=aT _ _ _ _ _ _ _ _ (by kernel_rfl)
theorem aFz (x0 : PV) : zS x0=bd (PV.whole 2 x0) fun v0=>bd (PV.cell v0 0) fun v1=>bd (PV.cell v0 1) fun v2=>bd (vA (.agg [v1,v2])) fun r3=>bd (PV.not (hd r3)) fun v4=>PV.ite v4 (some [(.agg [(.int .i64 1),(.int .i64 0),(.int .i64 0)])]) (kM (.int .i64 0) v1 v2 (.int .i64 0) (.int .i64 0) (.int .i64 0)):=aP _ _ _ (by kernel_rfl)
theorem uF (x0 x1 x2 x3 x4 x5 : PV) : kM x0 x1 x2 x3 x4 x5=bd (PV.len x2) fun v0=>bd (PV.bin .lss x0 v0) fun v1=>PV.ite v1 (bd (PV.at_ 3 true x2 x0) fun v2=>bd (PV.cell v2 2) fun v3=>bd (iU (.agg [x1,x2]) x0) fun r4=>iR x0 v3 (hd r4) (.int .i64 0) x1 x2 x3 x4 x5) (some [(.agg [(.int .i64 0),(.int .i64 0),(.int .i64 0)])]):=aT _ _ _ _ _ _ _ _ (by kernel_rfl)
theorem uG (x0 x1 x2 x3 x4 x5 x6 x7 x8 : PV) : iR x0 x1 x2 x3 x4 x5 x6 x7 x8=bd (PV.len x1) fun v0=>bd (PV.bin .lss x3 v0) fun v1=>PV.ite v1 (bd (PV.at_ 1 false x2 x3) fun v2=>bd (PV.bin .lss v2 (.int .i64 0)) fun v3=>PV.ite v3 (bd (PV.bin .add x3 (.int .i64 1)) fun v4=>iR x0 x1 x2 v4 x4 x5 x6 x7 x8) (bd (PV.at_ 2 true x1 x3) fun v5=>bd (tW (.agg [x4,x5]) v5) fun r6=>
 bd (PV.comp (hd r6) 0) fun v7=>bd (PV.comp (hd r6) 1) fun v8=>bd (PV.at_ 1 false x2 x3) fun v9=>bd (PV.bin .sub v9 v7) fun v10=>bd (PV.bin .add v10 v8) fun v11=>bd (PV.at_ 1 false x2 x3) fun v12=>bd (PV.bin .lss v12 v7) fun v13=>PV.ite v13 (bd (PV.one x0) fun v14=>bd (PV.one x3) fun v15=>some [(.agg [(.int .i64 2),v14,v15])]) (bd (PV.bin .gtr v11 (.int .i64 16)) fun v16=>PV.ite v16
 (bd (PV.one x0) fun v17=>bd (PV.one x3) fun v18=>some [(.agg [(.int .i64 2),v17,v18])]) (bd (PV.at_ 2 true x1 x3) fun v19=>bd (rS v19 x3) fun r20=>jR x0 x1 x2 x3 v11 (hd r20) (.int .i64 0) x4 x5 x6 x7 x8)))) (bd (PV.bin .add x0 (.int .i64 1)) fun v21=>kM v21 x4 x5 x6 x7 x8):=aT _ _ _ _ _ _ _ _ (by kernel_rfl)
theorem sZ (x0 x1 x2 x3 x4 x5 x6 x7 x8 x9 x10 x11 : PV) : jR x0 x1 x2 x3 x4 x5 x6 x7 x8 x9 x10 x11=bd (PV.len x5) fun v0=>bd (PV.bin .lss x6 v0) fun v1=>PV.ite v1 (bd (PV.at_ 1 false x5 x6) fun v2=>bd (PV.len x1) fun v3=>bd (PV.bin .geq v2 v3) fun v4=>PV.ite v4 (bd (PV.one x0) fun v5=>bd (PV.one x3) fun v6=>some [(.agg [(.int .i64 3),v5,v6])]) (bd (PV.bin .add x6 (.int .i64 1)) fun v7=>
 jR x0 x1 x2 x3 x4 x5 v7 x7 x8 x9 x10 x11)) (gM x0 x1 x2 x3 x4 x5 (.int .i64 0) x7 x8 x9 x10 x11):=aT _ _ _ _ _ _ _ _ (by kernel_rfl)
theorem tA (x0 x1 x2 x3 x4 x5 x6 x7 x8 x9 x10 x11 : PV) : gM x0 x1 x2 x3 x4 x5 x6 x7 x8 x9 x10 x11=bd (PV.len x5) fun v0=>bd (PV.bin .lss x6 v0) fun v1=>PV.ite v1 (bd (PV.at_ 1 false x5 x6) fun v2=>bd (PV.at_ 1 false x2 v2) fun v3=>bd (PV.bin .neq v3 x4) fun v4=>PV.ite v4 (bd (PV.one x0) fun v5=>bd (PV.one x3) fun v6=>some [(.agg [(.int .i64 4),v5,v6])])
 (bd (PV.bin .add x6 (.int .i64 1)) fun v7=>gM x0 x1 x2 x3 x4 x5 v7 x7 x8 x9 x10 x11)) (bd (PV.bin .add x3 (.int .i64 1)) fun v8=>iR x0 x1 x2 v8 x7 x8 x9 x10 x11):=aT _ _ _ _ _ _ _ _ (by kernel_rfl)
theorem aBz (x0 x1 x2 : PV) : aJ x0 x1 x2=bd (PV.bin .geq x0 x1) fun v0=>PV.ite v0 (bd (PV.bin .leq x0 x2) fun v1=>some [v1]) (some [.bool false]):=aP _ _ _ (by kernel_rfl)
theorem aGx (x0 x1 x2 : PV) : xD x0 x1 x2=bd (PV.whole 2 x0) fun v0=>bd (PV.cell v0 0) fun v1=>bd (PV.cell v0 1) fun v2=>bd (PV.whole 3 x1) fun v3=>bd (PV.cell v3 0) fun v4=>bd (PV.cell v3 1) fun v5=>bd (PV.cell v3 2) fun v6=>bd (PV.bin .neq v4 (.int .i64 3)) fun v7=>PV.ite v7 (bd (PV.bin .neq v6 (.str (bs []))) fun v8=>PV.ite v8 (some [.bool false]) (bd (PV.bin .eql v4 (.int .i64 0)) fun v9=>
 PV.ite v9 (bd (PV.bin .eql v5 (.int .i64 0)) fun v10=>some [v10]) (bd (PV.bin .eql v4 (.int .i64 1)) fun v11=>PV.ite v11 (bd (tX v5) fun r12=>some [(hd r12)]) (bd (PV.bin .eql v4 (.int .i64 2)) fun v13=>PV.ite v13 (bd (aJ v5 (.int .i64 0) (.int .i64 1)) fun r14=>some [(hd r14)]) (bd (PV.bin .eql v4 (.int .i64 3)) fun v15=>PV.ite v15 (bd (PV.bin .eql v5 (.int .i64 0)) fun v16=>
 PV.ite v16 (bd (lE v6) fun r17=>some [(hd r17)]) (some [.bool false])) (bd (PV.bin .eql v4 (.int .i64 4)) fun v18=>PV.ite v18 (bd (PV.bin .geq v5 (.int .i64 0)) fun v19=>PV.ite v19 (bd (PV.bin .lss v5 x2) fun v20=>some [v20]) (some [.bool false])) (bd (PV.bin .eql v4 (.int .i64 5)) fun v21=>PV.ite v21 (bd (PV.len v2) fun v22=>bd (PV.bin .sub v22 (.int .i64 1)) fun v23=>bd (aJ v5 (.int .i64 0) v23) fun r24=>
 some [(hd r24)]) (some [.bool false])))))))) (bd (PV.bin .eql v4 (.int .i64 0)) fun v25=>PV.ite v25 (bd (PV.bin .eql v5 (.int .i64 0)) fun v26=>some [v26]) (bd (PV.bin .eql v4 (.int .i64 1)) fun v27=>PV.ite v27 (bd (tX v5) fun r28=>some [(hd r28)]) (bd (PV.bin .eql v4 (.int .i64 2)) fun v29=>PV.ite v29 (bd (aJ v5 (.int .i64 0) (.int .i64 1)) fun r30=>some [(hd r30)])
 (bd (PV.bin .eql v4 (.int .i64 3)) fun v31=>PV.ite v31 (bd (PV.bin .eql v5 (.int .i64 0)) fun v32=>PV.ite v32 (bd (lE v6) fun r33=>some [(hd r33)]) (some [.bool false])) (bd (PV.bin .eql v4 (.int .i64 4)) fun v34=>PV.ite v34 (bd (PV.bin .geq v5 (.int .i64 0)) fun v35=>PV.ite v35 (bd (PV.bin .lss v5 x2) fun v36=>some [v36]) (some [.bool false])) (bd (PV.bin .eql v4 (.int .i64 5)) fun v37=>
 PV.ite v37 (bd (PV.len v2) fun v38=>bd (PV.bin .sub v38 (.int .i64 1)) fun v39=>bd (aJ v5 (.int .i64 0) v39) fun r40=>some [(hd r40)]) (some [.bool false]))))))):=aP _ _ _ (by kernel_rfl)
theorem uH (x0 x1 x2 : PV) : iS x0 x1 x2=bd (PV.whole 2 x0) fun v0=>bd (PV.cell v0 0) fun v1=>bd (PV.cell v0 1) fun v2=>gQ x1 x2 (.int .i64 0) v1 v2:=aP _ _ _ (by kernel_rfl)
theorem gW (x0 x1 x2 x3 x4 : PV) : gQ x0 x1 x2 x3 x4=bd (PV.len x0) fun v0=>bd (PV.bin .lss x2 v0) fun v1=>PV.ite v1 (bd (PV.at_ 3 true x0 x2) fun v2=>bd (xD (.agg [x3,x4]) v2 x1) fun r3=>bd (PV.not (hd r3)) fun v4=>PV.ite v4 (some [.bool false]) (bd (PV.bin .add x2 (.int .i64 1)) fun v5=>gQ x0 x1 v5 x3 x4)) (some [.bool true]):=aT _ _ _ _ _ _ _ _ (by kernel_rfl)
theorem aEf (x0 : PV) : lE x0=bd (PV.slen x0) fun v0=>bd (PV.bin .gtr v0 (.int .i64 60)) fun v1=>PV.ite v1 (some [.bool false]) (mJ x0 (.int .i64 0)):=aP _ _ _ (by kernel_rfl)
theorem tB (x0 x1 : PV) : mJ x0 x1=bd (PV.slen x0) fun v0=>bd (PV.bin .lss x1 v0) fun v1=>PV.ite v1 (bd (PV.chr x0 x1) fun v2=>bd (PV.bin .lss v2 (.int .u8 32)) fun v3=>PV.ite v3 (some [.bool false]) (bd (PV.chr x0 x1) fun v4=>bd (PV.bin .gtr v4 (.int .u8 126)) fun v5=>PV.ite v5 (some [.bool false]) (bd (PV.chr x0 x1) fun v6=>bd (PV.bin .eql v6 (.int .u8 34)) fun v7=>
 PV.ite v7 (some [.bool false]) (bd (PV.bin .add x1 (.int .i64 1)) fun v8=>mJ x0 v8)))) (some [.bool true]):=aT _ _ _ _ _ _ _ _ (by kernel_rfl)
theorem tC (x0 x1 x2 x3 : PV) : mK x0 x1 x2 x3=bd (PV.whole 2 x0) fun v0=>bd (PV.cell v0 0) fun v1=>bd (PV.cell v0 1) fun v2=>bd (PV.whole 4 x1) fun v3=>bd (PV.cell v3 0) fun v4=>bd (PV.cell v3 1) fun v5=>bd (PV.cell v3 2) fun v6=>bd (PV.cell v3 3) fun v7=>bd (PV.len v2) fun v8=>bd (PV.bin .sub v8 (.int .i64 1)) fun v9=>bd (aJ v4 (.int .i64 0) v9) fun r10=>
 bd (PV.not (hd r10)) fun v11=>PV.ite v11 (some [.bool false]) (bd (PV.at_ 3 true v2 v4) fun v12=>bd (PV.whole 3 v12) fun v13=>bd (PV.cell v13 0) fun v14=>bd (PV.cell v13 1) fun v15=>bd (PV.cell v13 2) fun v16=>bd (iU (.agg [v1,v2]) v4) fun r17=>bd (PV.len v6) fun v18=>bd (PV.bin .neq v18 v15) fun v19=>PV.ite v19 (some [.bool false]) (bd (PV.len v16) fun v20=>bd (PV.bin .sub v20 (.int .i64 1)) fun v21=>
 bd (aJ v5 (.int .i64 0) v21) fun r22=>bd (PV.not (hd r22)) fun v23=>PV.ite v23 (some [.bool false]) (bd (PV.at_ 1 false (hd r17) v5) fun v24=>bd (PV.bin .lss v24 (.int .i64 0)) fun v25=>PV.ite v25 (some [.bool false]) (bd (iS (.agg [v1,v2]) v6 x2) fun r26=>bd (PV.not (hd r26)) fun v27=>PV.ite v27 (some [.bool false]) (bd (iS (.agg [v1,v2]) v7 x2) fun r28=>
 bd (PV.not (hd r28)) fun v29=>PV.ite v29 (some [.bool false]) (PV.ite x3 (bd (PV.len v7) fun v30=>bd (PV.at_ 1 false (hd r17) v5) fun v31=>bd (PV.bin .eql v30 v31) fun v32=>some [v32]) (bd (PV.bin .lss v5 (.int .i64 1)) fun v33=>PV.ite v33 (some [.bool false]) (bd (PV.bin .sub v5 (.int .i64 1)) fun v34=>bd (PV.at_ 1 false (hd r17) v34) fun v35=>bd (PV.bin .lss v35 (.int .i64 0)) fun v36=>
 PV.ite v36 (some [.bool false]) (bd (PV.bin .sub v5 (.int .i64 1)) fun v37=>bd (PV.at_ 2 true v16 v37) fun v38=>bd (PV.cell v38 0) fun v39=>bd (PV.bin .eql v39 (.int .i64 23)) fun v40=>PV.ite v40 (bd (PV.len v7) fun v41=>bd (PV.at_ 1 false (hd r17) v5) fun v42=>bd (PV.bin .sub v42 (.int .i64 1)) fun v43=>bd (PV.bin .eql v41 v43) fun v44=>some [v44]) (bd (PV.bin .eql v39 (.int .i64 24)) fun v45=>
 PV.ite v45 (bd (PV.len v7) fun v46=>bd (PV.at_ 1 false (hd r17) v5) fun v47=>bd (PV.bin .sub v47 (.int .i64 1)) fun v48=>bd (PV.bin .eql v46 v48) fun v49=>some [v49]) (some [.bool false]))))))))))):=aP _ _ _ (by kernel_rfl)
theorem aC6 (x0 : PV) : vA x0=bd (PV.whole 2 x0) fun v0=>bd (PV.cell v0 0) fun v1=>bd (PV.cell v0 1) fun v2=>bd (PV.len v2) fun v3=>bd (aJ v3 (.int .i64 1) (.int .i64 12)) fun r4=>bd (PV.not (hd r4)) fun v5=>PV.ite v5 (some [.bool false]) (bd (PV.len v1) fun v6=>bd (PV.bin .gtr v6 (.int .i64 20)) fun v7=>PV.ite v7 (some [.bool false]) (lF (.int .i64 0) v1 v2)):=aP _ _ _ (by kernel_rfl)
theorem rC (x0 x1 x2 : PV) : lF x0 x1 x2=bd (PV.len x1) fun v0=>bd (PV.bin .lss x0 v0) fun v1=>PV.ite v1 (bd (PV.at_ 1 false x1 x0) fun v2=>bd (lE v2) fun r3=>bd (PV.not (hd r3)) fun v4=>PV.ite v4 (some [.bool false]) (bd (PV.bin .add x0 (.int .i64 1)) fun v5=>lF v5 x1 x2)) (iT (.int .i64 0) x1 x2):=aT _ _ _ _ _ _ _ _ (by kernel_rfl)
theorem rD (x0 x1 x2 : PV) : iT x0 x1 x2=bd (PV.len x2) fun v0=>bd (PV.bin .lss x0 v0) fun v1=>PV.ite v1 (bd (PV.at_ 3 true x2 x0) fun v2=>bd (PV.whole 3 v2) fun v3=>bd (PV.cell v3 0) fun v4=>bd (PV.cell v3 1) fun v5=>bd (PV.cell v3 2) fun v6=>bd (aJ v4 (.int .i64 0) (.int .i64 6)) fun r7=>bd (PV.not (hd r7)) fun v8=>PV.ite v8 (some [.bool false])
 (bd (aJ v5 v4 (.int .i64 12)) fun r9=>bd (PV.not (hd r9)) fun v10=>PV.ite v10 (some [.bool false]) (bd (PV.len v6) fun v11=>bd (aJ v11 (.int .i64 1) (.int .i64 120)) fun r12=>bd (PV.not (hd r12)) fun v13=>PV.ite v13 (some [.bool false]) (kD x0 (.int .i64 0) x1 x2 v4 v5 v6)))) (some [.bool true]):=aT _ _ _ _ _ _ _ _ (by kernel_rfl)
theorem pX (x0 x1 x2 x3 x4 x5 x6 : PV) : kD x0 x1 x2 x3 x4 x5 x6=bd (PV.len x6) fun v0=>bd (PV.bin .lss x1 v0) fun v1=>PV.ite v1 (bd (PV.at_ 2 true x6 x1) fun v2=>bd (aBt (.agg [x2,x3]) x0 v2) fun r3=>bd (PV.not (hd r3)) fun v4=>PV.ite v4 (some [.bool false]) (bd (PV.bin .add x1 (.int .i64 1)) fun v5=>kD x0 v5 x2 x3 x4 x5 x6)) (bd (PV.bin .add x0 (.int .i64 1)) fun v6=>
 iT v6 x2 x3):=aT _ _ _ _ _ _ _ _ (by kernel_rfl)
theorem aCi (x0 x1 : PV) : iU x0 x1=bd (PV.whole 2 x0) fun v0=>bd (PV.cell v0 0) fun v1=>bd (PV.cell v0 1) fun v2=>bd (PV.at_ 3 true v2 x1) fun v3=>bd (PV.cell v3 2) fun v4=>kE v4 (.int .i64 0) v1 v2 (.lst []):=aP _ _ _ (by kernel_rfl)
theorem pY (x0 x1 x2 x3 x4 : PV) : kE x0 x1 x2 x3 x4=bd (PV.len x0) fun v0=>bd (PV.bin .lss x1 v0) fun v1=>PV.ite v1 (bd (PV.cat 1 8 false x4 (.lst [(.int .i64 (-1))])) fun v2=>bd (PV.bin .add x1 (.int .i64 1)) fun v3=>kE x0 v3 x2 x3 v2) (bd (PV.inb x4 (.int .i64 0)) fun v4=>bd (PV.setAt 1 false x4 (.int .i64 0) (.int .i64 0)) fun v5=>gR x0 (.bool true) x2 x3 v5):=aT _ _ _ _ _ _ _ _ (by kernel_rfl)
theorem gX (x0 x1 x2 x3 x4 : PV) : gR x0 x1 x2 x3 x4=PV.ite x1 (dN x0 (.bool false) (.int .i64 0) x2 x3 x4) (some [x4]):=aT _ _ _ _ _ _ _ _ (by kernel_rfl)
theorem oT (x0 x1 x2 x3 x4 x5 : PV) : dN x0 x1 x2 x3 x4 x5=bd (PV.len x0) fun v0=>bd (PV.bin .lss x2 v0) fun v1=>PV.ite v1 (bd (PV.at_ 2 true x0 x2) fun v2=>bd (tW (.agg [x3,x4]) v2) fun r3=>bd (PV.comp (hd r3) 0) fun v4=>bd (PV.comp (hd r3) 1) fun v5=>bd (PV.inb x5 x2) fun v6=>bd (PV.at_ 1 false x5 x2) fun v7=>bd (PV.bin .sub v7 v4) fun v8=>
 bd (PV.bin .add v8 v5) fun v9=>bd (PV.inb x5 x2) fun v10=>bd (PV.at_ 1 false x5 x2) fun v11=>bd (PV.bin .lss v11 v4) fun v12=>PV.ite v12 (bd (PV.bin .add x2 (.int .i64 1)) fun v13=>dN x0 x1 v13 x3 x4 x5) (bd (PV.bin .gtr v9 (.int .i64 16)) fun v14=>PV.ite v14 (bd (PV.bin .add x2 (.int .i64 1)) fun v15=>dN x0 x1 v15 x3 x4 x5) (bd (PV.at_ 2 true x0 x2) fun v16=>
 bd (rS v16 x2) fun r17=>eB x0 x1 x2 v9 (hd r17) (.int .i64 0) x3 x4 x5))) (gR x0 x1 x3 x4 x5):=aT _ _ _ _ _ _ _ _ (by kernel_rfl)
theorem oU (x0 x1 x2 x3 x4 x5 x6 x7 x8 : PV) : eB x0 x1 x2 x3 x4 x5 x6 x7 x8=bd (PV.len x4) fun v0=>bd (PV.bin .lss x5 v0) fun v1=>PV.ite v1 (bd (PV.at_ 1 false x4 x5) fun v2=>bd (PV.len x0) fun v3=>bd (PV.bin .lss v2 v3) fun v4=>PV.ite v4 (bd (PV.at_ 1 false x4 x5) fun v5=>bd (PV.inb x8 v5) fun v6=>bd (PV.at_ 1 false x8 v5) fun v7=>bd (PV.bin .lss v7 (.int .i64 0)) fun v8=>
 PV.ite v8 (sS x0 x2 x3 x4 x5 x6 x7 x8) (bd (PV.bin .add x5 (.int .i64 1)) fun v9=>eB x0 x1 x2 x3 x4 v9 x6 x7 x8)) (bd (PV.bin .add x5 (.int .i64 1)) fun v10=>eB x0 x1 x2 x3 x4 v10 x6 x7 x8)) (bd (PV.bin .add x2 (.int .i64 1)) fun v11=>dN x0 x1 v11 x6 x7 x8):=aT _ _ _ _ _ _ _ _ (by kernel_rfl)
theorem yJ (x0 x1 x2 x3 x4 x5 x6 x7 : PV) : sS x0 x1 x2 x3 x4 x5 x6 x7=bd (PV.at_ 1 false x3 x4) fun v0=>bd (PV.inb x7 v0) fun v1=>bd (PV.setAt 1 false x7 v0 x2) fun v2=>bd (PV.bin .add x4 (.int .i64 1)) fun v3=>eB x0 (.bool true) x1 x2 x3 v3 x5 x6 v2:=aT _ _ _ _ _ _ _ _ (by kernel_rfl)
theorem aFA (x0 x1 : PV) : tW x0 x1=bd (PV.whole 2 x0) fun v0=>bd (PV.cell v0 0) fun v1=>bd (PV.cell v0 1) fun v2=>bd (PV.whole 2 x1) fun v3=>bd (PV.cell v3 0) fun v4=>bd (PV.cell v3 1) fun v5=>bd (PV.bin .eql v4 (.int .i64 1)) fun v6=>PV.ite v6 (some [(.tup [(.int .i64 0),(.int .i64 1)])]) (bd (PV.bin .eql v4 (.int .i64 2)) fun v7=>PV.ite v7 (some [(.tup [(.int .i64 0),(.int .i64 1)])])
 (bd (PV.bin .eql v4 (.int .i64 3)) fun v8=>PV.ite v8 (some [(.tup [(.int .i64 0),(.int .i64 1)])]) (bd (PV.bin .eql v4 (.int .i64 4)) fun v9=>PV.ite v9 (some [(.tup [(.int .i64 0),(.int .i64 1)])]) (bd (PV.bin .eql v4 (.int .i64 5)) fun v10=>PV.ite v10 (some [(.tup [(.int .i64 0),(.int .i64 1)])]) (bd (PV.bin .eql v4 (.int .i64 6)) fun v11=>PV.ite v11 (some [(.tup [(.int .i64 0),(.int .i64 1)])])
 (bd (PV.bin .eql v4 (.int .i64 20)) fun v12=>PV.ite v12 (some [(.tup [(.int .i64 0),(.int .i64 1)])]) (bd (PV.bin .eql v4 (.int .i64 7)) fun v13=>PV.ite v13 (some [(.tup [(.int .i64 1),(.int .i64 0)])]) (bd (PV.bin .eql v4 (.int .i64 9)) fun v14=>PV.ite v14 (some [(.tup [(.int .i64 1),(.int .i64 0)])]) (bd (PV.bin .eql v4 (.int .i64 18)) fun v15=>PV.ite v15 (some [(.tup [(.int .i64 1),(.int .i64 0)])])
 (bd (PV.bin .eql v4 (.int .i64 19)) fun v16=>PV.ite v16 (some [(.tup [(.int .i64 1),(.int .i64 0)])]) (bd (PV.bin .eql v4 (.int .i64 25)) fun v17=>PV.ite v17 (some [(.tup [(.int .i64 1),(.int .i64 0)])]) (bd (PV.bin .eql v4 (.int .i64 26)) fun v18=>PV.ite v18 (some [(.tup [(.int .i64 1),(.int .i64 0)])]) (bd (PV.bin .eql v4 (.int .i64 8)) fun v19=>PV.ite v19 (some [(.tup [(.int .i64 1),(.int .i64 2)])])
 (bd (PV.bin .eql v4 (.int .i64 10)) fun v20=>PV.ite v20 (some [(.tup [(.int .i64 2),(.int .i64 2)])]) (bd (PV.bin .eql v4 (.int .i64 11)) fun v21=>PV.ite v21 (some [(.tup [(.int .i64 2),(.int .i64 1)])]) (bd (PV.bin .eql v4 (.int .i64 12)) fun v22=>PV.ite v22 (some [(.tup [(.int .i64 2),(.int .i64 1)])]) (bd (PV.bin .eql v4 (.int .i64 13)) fun v23=>PV.ite v23 (some [(.tup [(.int .i64 2),(.int .i64 1)])])
 (bd (PV.bin .eql v4 (.int .i64 14)) fun v24=>PV.ite v24 (some [(.tup [(.int .i64 2),(.int .i64 1)])]) (bd (PV.bin .eql v4 (.int .i64 15)) fun v25=>PV.ite v25 (some [(.tup [(.int .i64 2),(.int .i64 1)])]) (bd (PV.bin .eql v4 (.int .i64 16)) fun v26=>PV.ite v26 (some [(.tup [(.int .i64 1),(.int .i64 1)])]) (bd (PV.bin .eql v4 (.int .i64 21)) fun v27=>PV.ite v27 (some [(.tup [(.int .i64 1),(.int .i64 1)])])
 (bd (PV.bin .eql v4 (.int .i64 22)) fun v28=>PV.ite v28 (some [(.tup [(.int .i64 2),(.int .i64 0)])]) (bd (PV.bin .eql v4 (.int .i64 23)) fun v29=>PV.ite v29 (bd (aJ v5 (.int .i64 0) (.int .i64 6)) fun r30=>PV.ite (hd r30) (bd (PV.bin .add v5 (.int .i64 1)) fun v31=>some [(.tup [v31,(.int .i64 1)])]) (some [(.tup [(.int .i64 0),(.int .i64 0)])])) (bd (PV.bin .eql v4 (.int .i64 24)) fun v32=>
 PV.ite v32 (bd (PV.len v2) fun v33=>bd (PV.bin .sub v33 (.int .i64 1)) fun v34=>bd (aJ v5 (.int .i64 0) v34) fun r35=>PV.ite (hd r35) (bd (PV.at_ 3 true v2 v5) fun v36=>bd (PV.cell v36 0) fun v37=>some [(.tup [v37,(.int .i64 1)])]) (some [(.tup [(.int .i64 0),(.int .i64 0)])])) (some [(.tup [(.int .i64 0),(.int .i64 0)])]))))))))))))))))))))))))):=aP _ _ _ (by kernel_rfl)
theorem aEg (x0 x1 : PV) : rS x0 x1=bd (PV.whole 2 x0) fun v0=>bd (PV.cell v0 0) fun v1=>bd (PV.cell v0 1) fun v2=>bd (PV.bin .neq v1 (.int .i64 17)) fun v3=>PV.ite v3 (bd (PV.bin .neq v1 (.int .i64 25)) fun v4=>PV.ite v4 (yA x1 v1 v2 (.lst [])) (mL v1 v2 (.lst []))) (mL v1 v2 (.lst [])):=aP _ _ _ (by kernel_rfl)
theorem aBA (x0 x1 x2 x3 : PV) : yA x0 x1 x2 x3=bd (PV.bin .add x0 (.int .i64 1)) fun v0=>bd (PV.cat 1 8 false (.lst []) (.lst [v0])) fun v1=>bd (PV.cat 1 8 false x3 v1) fun v2=>mL x1 x2 v2:=aT _ _ _ _ _ _ _ _ (by kernel_rfl)
theorem aBB (x0 x1 x2 : PV) : mL x0 x1 x2=bd (PV.bin .eql x0 (.int .i64 17)) fun v0=>PV.ite v0 (mN x0 x1 x2) (bd (PV.bin .eql x0 (.int .i64 18)) fun v1=>PV.ite v1 (mN x0 x1 x2) (bd (PV.bin .eql x0 (.int .i64 19)) fun v2=>PV.ite v2 (mN x0 x1 x2) (some [x2]))):=aT _ _ _ _ _ _ _ _ (by kernel_rfl)
theorem aBC (x0 x1 x2 : PV) : mN x0 x1 x2=bd (PV.cat 1 8 false (.lst []) (.lst [x1])) fun v0=>bd (PV.cat 1 8 false x2 v0) fun v1=>some [v1]:=aT _ _ _ _ _ _ _ _ (by kernel_rfl)
theorem aFB (x0 : PV) : tX x0=bd (aJ x0 (.int .i64 (-1000000000)) (.int .i64 1000000000)) fun r0=>some [(hd r0)]:=aP _ _ _ (by kernel_rfl)
theorem aGy (x0 x1 x2 : PV) : aBt x0 x1 x2=bd (PV.whole 2 x0) fun v0=>bd (PV.cell v0 0) fun v1=>bd (PV.cell v0 1) fun v2=>bd (PV.whole 2 x2) fun v3=>bd (PV.cell v3 0) fun v4=>bd (PV.cell v3 1) fun v5=>bd (PV.len v2) fun v6=>bd (PV.bin .sub v6 (.int .i64 1)) fun v7=>bd (aJ x1 (.int .i64 0) v7) fun r8=>bd (PV.not (hd r8)) fun v9=>PV.ite v9 (some [.bool false])
 (bd (PV.bin .eql v4 (.int .i64 1)) fun v10=>PV.ite v10 (bd (aJ v5 (.int .i64 (-1000000000)) (.int .i64 1000000000)) fun r11=>some [(hd r11)]) (bd (PV.bin .eql v4 (.int .i64 2)) fun v12=>PV.ite v12 (bd (aJ v5 (.int .i64 0) (.int .i64 1)) fun r13=>some [(hd r13)]) (bd (PV.bin .eql v4 (.int .i64 3)) fun v14=>PV.ite v14 (bd (PV.len v1) fun v15=>bd (PV.bin .sub v15 (.int .i64 1)) fun v16=>
 bd (aJ v5 (.int .i64 0) v16) fun r17=>some [(hd r17)]) (bd (PV.bin .eql v4 (.int .i64 5)) fun v18=>PV.ite v18 (bd (PV.len v2) fun v19=>bd (PV.bin .sub v19 (.int .i64 1)) fun v20=>bd (aJ v5 (.int .i64 0) v20) fun r21=>some [(hd r21)]) (bd (PV.bin .eql v4 (.int .i64 24)) fun v22=>PV.ite v22 (bd (PV.len v2) fun v23=>bd (PV.bin .sub v23 (.int .i64 1)) fun v24=>
 bd (aJ v5 (.int .i64 0) v24) fun r25=>some [(hd r25)]) (bd (PV.bin .eql v4 (.int .i64 6)) fun v26=>PV.ite v26 (bd (PV.at_ 3 true v2 x1) fun v27=>bd (PV.cell v27 1) fun v28=>bd (PV.bin .sub v28 (.int .i64 1)) fun v29=>bd (aJ v5 (.int .i64 0) v29) fun r30=>some [(hd r30)]) (bd (PV.bin .eql v4 (.int .i64 7)) fun v31=>PV.ite v31 (bd (PV.at_ 3 true v2 x1) fun v32=>
 bd (PV.cell v32 1) fun v33=>bd (PV.bin .sub v33 (.int .i64 1)) fun v34=>bd (aJ v5 (.int .i64 0) v34) fun r35=>some [(hd r35)]) (bd (PV.bin .eql v4 (.int .i64 17)) fun v36=>PV.ite v36 (bd (PV.at_ 3 true v2 x1) fun v37=>bd (PV.cell v37 2) fun v38=>bd (PV.len v38) fun v39=>bd (PV.bin .sub v39 (.int .i64 1)) fun v40=>bd (aJ v5 (.int .i64 0) v40) fun r41=>some [(hd r41)])
 (bd (PV.bin .eql v4 (.int .i64 18)) fun v42=>PV.ite v42 (bd (PV.at_ 3 true v2 x1) fun v43=>bd (PV.cell v43 2) fun v44=>bd (PV.len v44) fun v45=>bd (PV.bin .sub v45 (.int .i64 1)) fun v46=>bd (aJ v5 (.int .i64 0) v46) fun r47=>some [(hd r47)]) (bd (PV.bin .eql v4 (.int .i64 19)) fun v48=>PV.ite v48 (bd (PV.at_ 3 true v2 x1) fun v49=>bd (PV.cell v49 2) fun v50=>bd (PV.len v50) fun v51=>
 bd (PV.bin .sub v51 (.int .i64 1)) fun v52=>bd (aJ v5 (.int .i64 0) v52) fun r53=>some [(hd r53)]) (bd (PV.bin .eql v4 (.int .i64 20)) fun v54=>PV.ite v54 (bd (aJ v5 (.int .i64 0) (.int .i64 6)) fun r55=>some [(hd r55)]) (bd (PV.bin .eql v4 (.int .i64 21)) fun v56=>PV.ite v56 (bd (aJ v5 (.int .i64 0) (.int .i64 5)) fun r57=>some [(hd r57)]) (bd (PV.bin .eql v4 (.int .i64 22)) fun v58=>
 PV.ite v58 (bd (aJ v5 (.int .i64 0) (.int .i64 5)) fun r59=>some [(hd r59)]) (bd (PV.bin .eql v4 (.int .i64 23)) fun v60=>PV.ite v60 (bd (aJ v5 (.int .i64 0) (.int .i64 6)) fun r61=>some [(hd r61)]) (bd (aJ v4 (.int .i64 1) (.int .i64 26)) fun r62=>PV.ite (hd r62) (bd (PV.bin .eql v5 (.int .i64 0)) fun v63=>some [v63]) (some [.bool false])))))))))))))))):=aP _ _ _ (by kernel_rfl)
theorem aEh (x0 x1 : PV) : nY x0 x1=bd (PV.whole 2 x0) fun v0=>bd (PV.cell v0 0) fun v1=>bd (PV.cell v0 1) fun v2=>bd (PV.whole 10 x1) fun v3=>bd (PV.cell v3 0) fun v4=>bd (PV.cell v3 1) fun v5=>bd (PV.cell v3 2) fun v6=>bd (PV.cell v3 3) fun v7=>bd (PV.cell v3 4) fun v8=>bd (PV.cell v3 5) fun v9=>bd (PV.cell v3 6) fun v10=>bd (PV.cell v3 7) fun v11=>
 bd (PV.cell v3 8) fun v12=>bd (PV.cell v3 9) fun v13=>bd (wC (.agg [v1,v2]) (.agg [v4,v5,v6,v7,v8,v9,v10,v11,v12,v13])) fun r14=>bd (PV.not (hd r14)) fun v15=>PV.ite v15 (some [(.int .i64 0),(.int .i64 0),(.int .i64 0),(.int .i64 0),(.int .i64 0),(.str (bs [])),(.int .i64 0),(.lst []),(.lst []),(.lst [])]) (bd (pH (.agg [v4,v5,v6,v7,v8,v9,v10,v11,v12,v13])) fun r16=>
 bd (oP (hd r16)) fun r17=>bd (nZ (hd r17)) fun r18=>bd (qL (.agg [v4,v5,v6,v7,v8,v9,v10,v11,v12,v13]) (hd r18)) fun r19=>PV.guardFlat (gd r19 0) (PV.guardFlat (gd r19 1) (PV.guardFlat (gd r19 2) (PV.guardFlat (gd r19 3) (PV.guardFlat (gd r19 4) (PV.guardFlat (gd r19 5) (PV.guardFlat (gd r19 6) (PV.guardOwn (.own 4 64 true [.leaf,.leaf,(.own 3 32 true []),(.own 3 32 true [])]) (gd r19 7) (
 PV.guardOwn (.own 1 24 true [(.own 3 32 true [])]) (gd r19 8) (PV.guardOwn (.own 1 16 false []) (gd r19 9) (some [(gd r19 0),(gd r19 1),(gd r19 2),(gd r19 3),(gd r19 4),(gd r19 5),(gd r19 6),(gd r19 7),(gd r19 8),(gd r19 9)]))))))))))):=bQ _ _ _ _ (by kernel_rfl)
theorem aCj (x0 x1 : PV) : wC x0 x1=bd (PV.whole 2 x0) fun v0=>bd (PV.cell v0 0) fun v1=>bd (PV.cell v0 1) fun v2=>bd (PV.whole 10 x1) fun v3=>bd (PV.cell v3 0) fun v4=>bd (PV.cell v3 1) fun v5=>bd (PV.cell v3 2) fun v6=>bd (PV.cell v3 3) fun v7=>bd (PV.cell v3 4) fun v8=>bd (PV.cell v3 5) fun v9=>bd (PV.cell v3 6) fun v10=>bd (PV.cell v3 7) fun v11=>bd (PV.cell v3 8) fun v12=>
 bd (PV.cell v3 9) fun v13=>bd (zT (.agg [v1,v2])) fun r14=>PV.ite (hd r14) (bd (xE (.agg [v1,v2])) fun r15=>bd (aG7 (.agg [v1,v2]) (hd r15) (.agg [v4,v5,v6,v7,v8,v9,v10,v11,v12,v13])) fun r16=>some [(hd r16)]) (some [.bool false]):=aP _ _ _ (by kernel_rfl)
theorem aAU (x0 : PV) : pH x0=bd (PV.whole 10 x0) fun v0=>bd (PV.cell v0 0) fun v1=>bd (PV.cell v0 1) fun v2=>bd (PV.cell v0 2) fun v3=>bd (PV.cell v0 3) fun v4=>bd (PV.cell v0 4) fun v5=>bd (PV.cell v0 5) fun v6=>bd (PV.cell v0 6) fun v7=>bd (PV.cell v0 7) fun v8=>bd (PV.cell v0 8) fun v9=>bd (PV.cell v0 9) fun v10=>bd (PV.len v1) fun v11=>iG v1 v11 (.int .i64 0) v1 v2 v3 v4 v5 v6 v7 v8 v9 v10 (.lst []):=aP _ _ _ (by kernel_rfl)
theorem oG (x0 x1 x2 x3 x4 x5 x6 x7 x8 x9 x10 x11 x12 x13 : PV) : iG x0 x1 x2 x3 x4 x5 x6 x7 x8 x9 x10 x11 x12 x13=bd (PV.bin .lss x2 x1) fun v0=>PV.ite v0 (bd (PV.at_ 4 true x0 x2) fun v1=>bd (PV.whole 4 v1) fun v2=>bd (PV.cell v2 0) fun v3=>bd (PV.cell v2 1) fun v4=>bd (PV.cell v2 2) fun v5=>bd (PV.cell v2 3) fun v6=>bd (gF v5 x13) fun r7=>
 bd (gF v6 (gd r7 0)) fun r8=>bd (PV.bin .add x2 (.int .i64 1)) fun v9=>iG x0 x1 v9 x3 x4 x5 x6 x7 x8 x9 x10 x11 x12 (gd r8 0)) (bd (jX (.lst [(.agg [x9,x10,x11])]) x13) fun r10=>gS (.int .i64 0) x3 x4 x5 x6 x7 x8 x9 x10 x11 x12 (gd r10 0)):=aT _ _ _ _ _ _ _ _ (by kernel_rfl)
theorem nF (x0 x1 x2 x3 x4 x5 x6 x7 x8 x9 x10 x11 : PV) : gS x0 x1 x2 x3 x4 x5 x6 x7 x8 x9 x10 x11=bd (PV.len x11) fun v0=>bd (PV.bin .lss x0 v0) fun v1=>PV.ite v1 (bd (PV.inb x11 x0) fun v2=>bd (PV.at_ 1 false x11 x0) fun v3=>bd (PV.at_ 1 true x2 v3) fun v4=>bd (PV.cell v4 0) fun v5=>bd (gF v5 x11) fun r6=>bd (PV.bin .add x0 (.int .i64 1)) fun v7=>
 gS v7 x1 x2 x3 x4 x5 x6 x7 x8 x9 x10 (gd r6 0)) (some [x11]):=aT _ _ _ _ _ _ _ _ (by kernel_rfl)
theorem vI (x0 : PV) : oP x0=bd (PV.one x0) fun v0=>some [(.fn 65 [(.bx [v0])])]:=aP _ _ _ (by kernel_rfl)
theorem aAa (x0 : PV) : nZ x0=sH 65 [x0]:=aP _ _ _ (by kernel_rfl)
theorem aFC (x0 : PV) : zT x0=bd (PV.whole 2 x0) fun v0=>bd (PV.cell v0 0) fun v1=>bd (PV.cell v0 1) fun v2=>bd (zU (.agg [v1,v2])) fun r3=>bd (PV.whole 3 (hd r3)) fun v4=>bd (PV.cell v4 0) fun v5=>bd (PV.cell v4 1) fun v6=>bd (PV.cell v4 2) fun v7=>bd (PV.ceq [1,1,1] .eql (.agg [v5,v6,v7]) (.agg [(.int .i64 0),(.int .i64 0),(.int .i64 0)])) fun v8=>
 some [v8]:=aP _ _ _ (by kernel_rfl)
theorem aEi (x0 : PV) : xE x0=bd (PV.whole 2 x0) fun v0=>bd (PV.cell v0 0) fun v1=>bd (PV.cell v0 1) fun v2=>bd (PV.len v2) fun v3=>jS v3 (.int .i64 0) v1 v2 (.lst []):=aP _ _ _ (by kernel_rfl)
theorem tD (x0 x1 x2 x3 x4 : PV) : jS x0 x1 x2 x3 x4=bd (PV.bin .lss x1 x0) fun v0=>PV.ite v0 (bd (tY (.agg [x2,x3]) x1) fun r1=>bd (PV.cat 1 24 false (.lst []) (.lst [(hd r1)])) fun v2=>bd (PV.cat 1 24 false x4 v2) fun v3=>bd (PV.bin .add x1 (.int .i64 1)) fun v4=>jS x0 v4 x2 x3 v3) (some [x4]):=aT _ _ _ _ _ _ _ _ (by kernel_rfl)
theorem aCk (x0 x1 x2 : PV) : aG7 x0 x1 x2=bd (PV.whole 2 x0) fun v0=>bd (PV.cell v0 0) fun v1=>bd (PV.cell v0 1) fun v2=>bd (PV.whole 10 x2) fun v3=>bd (PV.cell v3 0) fun v4=>bd (PV.cell v3 1) fun v5=>bd (PV.cell v3 2) fun v6=>bd (PV.cell v3 3) fun v7=>bd (PV.cell v3 4) fun v8=>bd (PV.cell v3 5) fun v9=>bd (PV.cell v3 6) fun v10=>bd (PV.cell v3 7) fun v11=>
 bd (PV.cell v3 8) fun v12=>bd (PV.cell v3 9) fun v13=>bd (tZ v5) fun r14=>bd (PV.not (hd r14)) fun v15=>PV.ite v15 (some [.bool false]) (bd (PV.len v5) fun v16=>bd (bU v6 v16 (.int .i64 120)) fun r17=>bd (PV.not (hd r17)) fun v18=>PV.ite v18 (some [.bool false]) (bd (PV.len v7) fun v19=>bd (PV.bin .gtr v19 (.int .i64 200)) fun v20=>PV.ite v20 (some [.bool false])
 (bd (bU v13 (.int .i64 0) (.int .i64 50000)) fun r21=>bd (PV.not (hd r21)) fun v22=>PV.ite v22 (some [.bool false]) (bd (dF v7 (.fn 89 [])) fun r23=>PV.ite (hd r23) (some [.bool false]) (bd (oC v4 v5 v6 v7 v8 v9 v10 v11 v12 v13 (.bool true) v1 v2 v4 v5 v6 v7 v8 v9 v10 v11 v12 v13) fun r24=>bd (PV.len (gd r24 3)) fun v25=>gT x1 (gd r24 3) v25 (.int .i64 0) (gd r24 1) (gd r24 2) (gd r24 3) (gd r24 4) (gd r24 5) (gd r24 6) (gd r24 7) (gd r24 8) (gd r24 9) (gd r24 10) (gd r24 11) (gd r24 12) (gd r24 0)))))):=aP _ _ _ (by kernel_rfl)
theorem mQ (x0 x1 x2 x3 x4 x5 x6 x7 x8 x9 x10 x11 x12 x13 x14 x15 x16 : PV) : gT x0 x1 x2 x3 x4 x5 x6 x7 x8 x9 x10 x11 x12 x13 x14 x15 x16=bd (PV.bin .lss x3 x2) fun v0=>PV.ite v0 (bd (PV.at_ 4 true x1 x3) fun v1=>bd (PV.whole 4 v1) fun v2=>bd (PV.cell v2 0) fun v3=>bd (PV.cell v2 1) fun v4=>bd (PV.cell v2 2) fun v5=>bd (PV.cell v2 3) fun v6=>PV.ite x16 (bd (PV.len v5) fun v7=>
 bd (PV.len v6) fun v8=>bd (PV.len x6) fun v9=>bd (PV.bin .sub v9 (.int .i64 1)) fun v10=>bd (PV.bin .eql x3 v10) fun v11=>bd (rT (.agg [x4,x5]) x0 v3 v4 v7 v8 v11) fun r12=>bd (PV.one (hd r12)) fun v13=>bd (PV.bin .add x3 (.int .i64 1)) fun v14=>gT x0 x1 x2 v14 x4 x5 x6 x7 x8 x9 x10 x11 x12 x13 x14 x15 v13) (bd (PV.bin .add x3 (.int .i64 1)) fun v15=>gT x0 x1 x2 v15 x4 x5 x6 x7 x8 x9 x10 x11 x12 x13 x14 x15 (.bool false)))
 (bd (PV.len x6) fun v16=>bd (bU v16 (.int .i64 1) (.int .i64 24)) fun r17=>PV.ite (hd r17) (bd (PV.ceq [1,1,2] .eql (.agg [x12,x13,x14]) (.agg [(.int .i64 0),(.int .i64 0),(.str (bs []))])) fun v18=>bd (PV.bin .eql x10 (.int .i64 0)) fun v19=>PV.ite v19 (PV.ite x16 (PV.ite v18 (bd (PV.bin .eql x11 (.int .i64 0)) fun v20=>some [v20]) (some [.bool false])) (some [.bool false]))
 (bd (PV.bin .eql x10 (.int .i64 2)) fun v21=>PV.ite v21 (PV.ite x16 (PV.ite v18 (bd (bU x11 (.int .i64 1) (.int .i64 8)) fun r22=>some [(hd r22)]) (some [.bool false])) (some [.bool false])) (bd (PV.bin .eql x10 (.int .i64 1)) fun v23=>PV.ite v23 (PV.ite x16 (bd (PV.len x6) fun v24=>bd (PV.bin .eql v24 (.int .i64 0)) fun v25=>PV.ite v25 (bd (PV.bin .eql x11 (.int .i64 0)) fun v26=>
 some [v26]) (some [.bool false])) (some [.bool false])) (some [.bool false])))) (bd (PV.bin .eql x10 (.int .i64 0)) fun v27=>PV.ite v27 (PV.ite x16 (some [.bool false]) (some [.bool false])) (bd (PV.bin .eql x10 (.int .i64 2)) fun v28=>PV.ite v28 (PV.ite x16 (some [.bool false]) (some [.bool false])) (bd (PV.bin .eql x10 (.int .i64 1)) fun v29=>PV.ite v29 (PV.ite x16 (bd (PV.len x6) fun v30=>
 bd (PV.bin .eql v30 (.int .i64 0)) fun v31=>PV.ite v31 (bd (PV.bin .eql x11 (.int .i64 0)) fun v32=>some [v32]) (some [.bool false])) (some [.bool false])) (some [.bool false]))))):=aT _ _ _ _ _ _ _ _ (by kernel_rfl)
theorem aFD (x0 : PV) : zU x0=bd (PV.whole 2 x0) fun v0=>bd (PV.cell v0 0) fun v1=>bd (PV.cell v0 1) fun v2=>bd (vB (.agg [v1,v2])) fun r3=>bd (PV.not (hd r3)) fun v4=>PV.ite v4 (some [(.agg [(.int .i64 1),(.int .i64 0),(.int .i64 0)])]) (bd (PV.len v2) fun v5=>kN v5 (.int .i64 0) v1 v2 (.int .i64 0) (.int .i64 0) (.int .i64 0)):=aP _ _ _ (by kernel_rfl)
theorem uI (x0 x1 x2 x3 x4 x5 x6 : PV) : kN x0 x1 x2 x3 x4 x5 x6=bd (PV.bin .lss x1 x0) fun v0=>PV.ite v0 (bd (tY (.agg [x2,x3]) x1) fun r1=>bd (PV.one (hd r1)) fun v2=>bd (PV.at_ 3 true x3 x1) fun v3=>bd (PV.cell v3 2) fun v4=>bd (PV.len v4) fun v5=>kO x1 x0 x1 v4 v5 (.int .i64 0) x2 x3 x4 x5 x6 v2) (some [(.agg [(.int .i64 0),(.int .i64 0),(.int .i64 0)])]):=aT _ _ _ _ _ _ _ _ (by kernel_rfl)
theorem uJ (x0 x1 x2 x3 x4 x5 x6 x7 x8 x9 x10 x11 : PV) : kO x0 x1 x2 x3 x4 x5 x6 x7 x8 x9 x10 x11=bd (PV.bin .lss x5 x4) fun v0=>PV.ite v0 (bd (PV.at_ 2 true x3 x5) fun v1=>bd (PV.whole 2 v1) fun v2=>bd (PV.cell v2 0) fun v3=>bd (PV.cell v2 1) fun v4=>bd (PV.at_ 1 false x11 x5) fun v5=>bd (PV.bin .lss v5 (.int .i64 0)) fun v6=>PV.ite v6 (bd (PV.bin .add x5 (.int .i64 1)) fun v7=>
 kO x0 x1 x2 x3 x4 v7 x6 x7 x8 x9 x10 x11) (bd (PV.at_ 1 false x11 x5) fun v8=>bd (uA (.agg [x6,x7]) (.agg [v3,v4]) v8) fun r9=>bd (PV.comp (hd r9) 0) fun v10=>bd (PV.comp (hd r9) 1) fun v11=>bd (PV.one v10) fun v12=>bd (PV.not v11) fun v13=>PV.ite v13 (bd (PV.one x0) fun v14=>bd (PV.one x5) fun v15=>some [(.agg [(.int .i64 2),v14,v15])]) (bd (rU (.agg [v3,v4]) x5) fun r16=>
 bd (PV.len x11) fun v17=>bd (eE (hd r16) v17) fun r18=>PV.ite (hd r18) (bd (PV.one x0) fun v19=>bd (PV.one x5) fun v20=>some [(.agg [(.int .i64 3),v19,v20])]) (bd (fT (hd r16) (.fn 114 [(.bx [x11]),(.bx [v12])])) fun r21=>PV.guardFlat (hd r21) (PV.ite (hd r21) (bd (PV.one x0) fun v22=>bd (PV.one x5) fun v23=>some [(.agg [(.int .i64 4),v22,v23])])
 (bd (PV.bin .add x5 (.int .i64 1)) fun v24=>kO x0 x1 x2 x3 x4 v24 x6 x7 x8 x9 x10 x11)))))) (bd (PV.bin .add x2 (.int .i64 1)) fun v25=>kN x1 v25 x6 x7 x8 x9 x10):=aT _ _ _ _ _ _ _ _ (by kernel_rfl)
theorem aFE (x0 x1 : PV) : tY x0 x1=bd (PV.whole 2 x0) fun v0=>bd (PV.cell v0 0) fun v1=>bd (PV.cell v0 1) fun v2=>bd (PV.at_ 3 true v2 x1) fun v3=>bd (PV.cell v3 2) fun v4=>bd (PV.len v4) fun v5=>bd (jY (.lst [(.int .i64 (-1))]) v5) fun r6=>PV.guardOwn (.own 1 8 false []) (gd r6 0) (bd (PV.inb (gd r6 0) (.int .i64 0)) fun v7=>bd (PV.setAt 1 false (gd r6 0) (.int .i64 0) (.int .i64 0)) fun v8=>
 kP v4 (.bool true) v1 v2 v8):=aP _ _ _ (by kernel_rfl)
theorem kH (x0 x1 x2 x3 x4 : PV) : kP x0 x1 x2 x3 x4=PV.ite x1 (bd (PV.len x0) fun v0=>gB x0 (.bool false) x0 v0 (.int .i64 0) x2 x3 x4) (some [x4]):=aT _ _ _ _ _ _ _ _ (by kernel_rfl)
theorem uK (x0 x1 x2 x3 x4 x5 x6 x7 : PV) : gB x0 x1 x2 x3 x4 x5 x6 x7=bd (PV.bin .lss x4 x3) fun v0=>PV.ite v0 (bd (PV.at_ 2 true x2 x4) fun v1=>bd (PV.whole 2 v1) fun v2=>bd (PV.cell v2 0) fun v3=>bd (PV.cell v2 1) fun v4=>bd (PV.inb x7 x4) fun v5=>bd (PV.at_ 1 false x7 x4) fun v6=>bd (PV.bin .lss v6 (.int .i64 0)) fun v7=>PV.ite v7 (bd (PV.bin .add x4 (.int .i64 1)) fun v8=>
 gB x0 x1 x2 x3 v8 x5 x6 x7) (bd (PV.inb x7 x4) fun v9=>bd (PV.at_ 1 false x7 x4) fun v10=>bd (uA (.agg [x5,x6]) (.agg [v3,v4]) v10) fun r11=>bd (PV.comp (hd r11) 0) fun v12=>bd (PV.comp (hd r11) 1) fun v13=>bd (rU (.agg [v3,v4]) x4) fun r14=>bd (PV.len (hd r14)) fun v15=>eQ x0 x1 v12 v13 x2 x3 x4 (hd r14) v15 (.int .i64 0) x5 x6 x7)) (kP x0 x1 x5 x6 x7):=aT _ _ _ _ _ _ _ _ (by kernel_rfl)
theorem tE (x0 x1 x2 x3 x4 x5 x6 x7 x8 x9 x10 x11 x12 : PV) : eQ x0 x1 x2 x3 x4 x5 x6 x7 x8 x9 x10 x11 x12=bd (PV.bin .lss x9 x8) fun v0=>PV.ite v0 (bd (PV.at_ 1 false x7 x9) fun v1=>PV.ite x3 (bd (PV.len x0) fun v2=>bd (PV.bin .lss v1 v2) fun v3=>PV.ite v3 (bd (PV.inb x12 v1) fun v4=>bd (PV.at_ 1 false x12 v1) fun v5=>bd (PV.bin .lss v5 (.int .i64 0)) fun v6=>
 PV.ite v6 (yB x0 x2 x3 v1 x4 x5 x6 x7 x8 x9 x10 x11 x12) (bd (PV.bin .add x9 (.int .i64 1)) fun v7=>eQ x0 x1 x2 x3 x4 x5 x6 x7 x8 v7 x10 x11 x12)) (bd (PV.bin .add x9 (.int .i64 1)) fun v8=>eQ x0 x1 x2 x3 x4 x5 x6 x7 x8 v8 x10 x11 x12)) (bd (PV.bin .add x9 (.int .i64 1)) fun v9=>eQ x0 x1 x2 x3 x4 x5 x6 x7 x8 v9 x10 x11 x12)) (bd (PV.bin .add x6 (.int .i64 1)) fun v10=>
 gB x0 x1 x4 x5 v10 x10 x11 x12):=aT _ _ _ _ _ _ _ _ (by kernel_rfl)
theorem aBD (x0 x1 x2 x3 x4 x5 x6 x7 x8 x9 x10 x11 x12 : PV) : yB x0 x1 x2 x3 x4 x5 x6 x7 x8 x9 x10 x11 x12=bd (PV.inb x12 x3) fun v0=>bd (PV.setAt 1 false x12 x3 x1) fun v1=>bd (PV.bin .add x9 (.int .i64 1)) fun v2=>eQ x0 (.bool true) x1 x2 x4 x5 x6 x7 x8 v2 x10 x11 v1:=aT _ _ _ _ _ _ _ _ (by kernel_rfl)
theorem aAb (x0 : PV) : tZ x0=bd (PV.len x0) fun v0=>bd (PV.bin .leq v0 (.int .i64 120)) fun v1=>PV.ite v1 (bd (fF x0 (.fn 116 [])) fun r2=>bd (PV.not (hd r2)) fun v3=>some [v3]) (some [.bool false]):=aP _ _ _ (by kernel_rfl)
theorem aEj (x0 x1 x2 : PV) : bU x0 x1 x2=bd (PV.bin .leq x1 x0) fun v0=>PV.ite v0 (bd (PV.bin .leq x0 x2) fun v1=>some [v1]) (some [.bool false]):=aP _ _ _ (by kernel_rfl)
theorem lS (x0 x1 : PV) : dF x0 x1=bd (iV x0 x1) fun r0=>bd (PV.bin .geq (hd r0) (.int .i64 0)) fun v1=>some [v1]:=aP _ _ _ (by kernel_rfl)
theorem aAc (x0 : PV) : zV x0=bd (nC x0) fun r0=>bd (PV.not (hd r0)) fun v1=>some [v1]:=aP _ _ _ (by kernel_rfl)
theorem yH (x0 x1 x2 x3 x4 x5 x6 : PV) : rT x0 x1 x2 x3 x4 x5 x6=bd (PV.whole 2 x0) fun v0=>bd (PV.cell v0 0) fun v1=>bd (PV.cell v0 1) fun v2=>bd (PV.len v2) fun v3=>bd (cL x2 v3) fun r4=>bd (PV.not (hd r4)) fun v5=>PV.ite v5 (some [.bool false]) (bd (PV.at_ 3 true v2 x2) fun v6=>bd (PV.cell v6 1) fun v7=>bd (PV.bin .neq x4 v7) fun v8=>PV.ite v8
 (some [.bool false]) (bd (PV.at_ 3 true v2 x2) fun v9=>bd (PV.cell v9 2) fun v10=>bd (PV.len v10) fun v11=>bd (cL x3 v11) fun r12=>bd (PV.not (hd r12)) fun v13=>PV.ite v13 (some [.bool false]) (bd (PV.at_ 1 false x1 x2) fun v14=>bd (PV.at_ 1 false v14 x3) fun v15=>bd (PV.bin .lss v15 (.int .i64 0)) fun v16=>PV.ite v16 (some [.bool false]) (PV.ite x6 (bd (PV.at_ 1 false x1 x2) fun v17=>
 bd (PV.at_ 1 false v17 x3) fun v18=>bd (PV.bin .eql x5 v18) fun v19=>some [v19]) (bd (PV.bin .eql x3 (.int .i64 0)) fun v20=>PV.ite v20 (some [.bool false]) (bd (PV.at_ 1 false x1 x2) fun v21=>bd (PV.bin .sub x3 (.int .i64 1)) fun v22=>bd (PV.at_ 1 false v21 v22) fun v23=>bd (PV.bin .lss v23 (.int .i64 0)) fun v24=>PV.ite v24 (some [.bool false]) (bd (PV.at_ 3 true v2 x2) fun v25=>bd (PV.cell v25 2) fun v26=>
 bd (PV.bin .sub x3 (.int .i64 1)) fun v27=>bd (PV.at_ 2 true v26 v27) fun v28=>bd (PV.cell v28 0) fun v29=>bd (PV.bin .eql v29 (.int .i64 23)) fun v30=>PV.ite v30 (bd (PV.at_ 1 false x1 x2) fun v31=>bd (PV.at_ 1 false v31 x3) fun v32=>bd (PV.bin .sub v32 (.int .i64 1)) fun v33=>bd (PV.bin .eql x5 v33) fun v34=>some [v34]) (bd (PV.bin .eql v29 (.int .i64 24)) fun v35=>PV.ite v35 (bd (PV.at_ 1 false x1 x2) fun v36=>
 bd (PV.at_ 1 false v36 x3) fun v37=>bd (PV.bin .sub v37 (.int .i64 1)) fun v38=>bd (PV.bin .eql x5 v38) fun v39=>some [v39]) (some [.bool false]))))))))):=aP _ _ _ (by kernel_rfl)
theorem aC7 (x0 : PV) : vB x0=bd (PV.whole 2 x0) fun v0=>bd (PV.cell v0 0) fun v1=>bd (PV.cell v0 1) fun v2=>bd (PV.len v2) fun v3=>bd (bU v3 (.int .i64 1) (.int .i64 12)) fun r4=>bd (PV.not (hd r4)) fun v5=>PV.ite v5 (some [.bool false]) (bd (PV.len v1) fun v6=>bd (PV.bin .gtr v6 (.int .i64 20)) fun v7=>PV.ite v7 (some [.bool false]) (bd (dF v1 (.fn 135 [])) fun r8=>
 PV.ite (hd r8) (some [.bool false]) (bd (PV.len v2) fun v9=>lG v2 v9 (.int .i64 0) v1 v2))):=aP _ _ _ (by kernel_rfl)
theorem rE (x0 x1 x2 x3 x4 : PV) : lG x0 x1 x2 x3 x4=bd (PV.bin .lss x2 x1) fun v0=>PV.ite v0 (bd (PV.at_ 3 true x0 x2) fun v1=>bd (PV.whole 3 v1) fun v2=>bd (PV.cell v2 0) fun v3=>bd (PV.cell v2 1) fun v4=>bd (PV.cell v2 2) fun v5=>bd (bU v3 (.int .i64 0) (.int .i64 6)) fun r6=>bd (PV.not (hd r6)) fun v7=>PV.ite v7 (some [.bool false]) (bd (bU v4 v3 (.int .i64 12)) fun r8=>
 bd (PV.not (hd r8)) fun v9=>PV.ite v9 (some [.bool false]) (bd (PV.len v5) fun v10=>bd (bU v10 (.int .i64 1) (.int .i64 120)) fun r11=>bd (PV.not (hd r11)) fun v12=>PV.ite v12 (some [.bool false]) (bd (dP v5 (.fn 137 [(.bx [x3,x4]),(.bx [v3,v4,v5])])) fun r13=>PV.guardFlat (hd r13) (PV.ite (hd r13) (some [.bool false]) (bd (PV.bin .add x2 (.int .i64 1)) fun v14=>
 lG x0 x1 v14 x3 x4)))))) (some [.bool true]):=aT _ _ _ _ _ _ _ _ (by kernel_rfl)
theorem aFF (x0 x1 x2 : PV) : uA x0 x1 x2=bd (PV.whole 2 x0) fun v0=>bd (PV.cell v0 0) fun v1=>bd (PV.cell v0 1) fun v2=>bd (PV.whole 2 x1) fun v3=>bd (PV.cell v3 0) fun v4=>bd (PV.cell v3 1) fun v5=>bd (zW (.agg [v1,v2]) (.agg [v4,v5])) fun r6=>bd (PV.comp (hd r6) 0) fun v7=>bd (PV.comp (hd r6) 1) fun v8=>bd (PV.bin .sub x2 v7) fun v9=>bd (PV.bin .add v9 v8) fun v10=>
 bd (PV.bin .leq v7 x2) fun v11=>PV.ite v11 (bd (PV.bin .leq v10 (.int .i64 16)) fun v12=>some [(.tup [v10,v12])]) (some [(.tup [v10,(.bool false)])]):=aP _ _ _ (by kernel_rfl)
theorem aEk (x0 x1 : PV) : rU x0 x1=bd (PV.whole 2 x0) fun v0=>bd (PV.cell v0 0) fun v1=>bd (PV.cell v0 1) fun v2=>bd (PV.bin .eql v1 (.int .i64 25)) fun v3=>PV.ite v3 (some [(.lst [])]) (bd (PV.bin .eql v1 (.int .i64 17)) fun v4=>PV.ite v4 (bd (PV.cat 1 8 false (.lst []) (.lst [v2])) fun v5=>some [v5]) (bd (PV.bin .eql v1 (.int .i64 18)) fun v6=>PV.ite v6 (bd (PV.bin .add x1 (.int .i64 1)) fun v7=>
 bd (PV.cat 1 8 false (.lst []) (.lst [v7,v2])) fun v8=>some [v8]) (bd (PV.bin .eql v1 (.int .i64 19)) fun v9=>PV.ite v9 (bd (PV.bin .add x1 (.int .i64 1)) fun v10=>bd (PV.cat 1 8 false (.lst []) (.lst [v10,v2])) fun v11=>some [v11]) (bd (PV.bin .add x1 (.int .i64 1)) fun v12=>bd (PV.cat 1 8 false (.lst []) (.lst [v12])) fun v13=>some [v13])))):=aP _ _ _ (by kernel_rfl)
theorem tF (x0 x1 : PV) : eE x0 x1=bd (eF x0 x1) fun r0=>bd (PV.bin .geq (hd r0) (.int .i64 0)) fun v1=>some [v1]:=aP _ _ _ (by kernel_rfl)
theorem pJ (x0 x1 : PV) : fT x0 x1=bd (mB x0 x1) fun r0=>bd (PV.bin .geq (hd r0) (.int .i64 0)) fun v1=>some [v1]:=aP _ _ _ (by kernel_rfl)
theorem aC8 (x0 x1 x2 : PV) : aA6 x0 x1 x2=bd (PV.deref x1 0) fun v0=>bd (PV.at_ 1 false v0 x0) fun v1=>bd (PV.deref x2 0) fun v2=>bd (PV.bin .neq v1 v2) fun v3=>some [v3]:=aP _ _ _ (by kernel_rfl)
theorem eS (x0 x1 : PV) : fF x0 x1=bd (gC x0 x1) fun r0=>bd (PV.bin .geq (hd r0) (.int .i64 0)) fun v1=>some [v1]:=aP _ _ _ (by kernel_rfl)
theorem wD (x0 : PV) : vC x0=bd (PV.whole 1 x0) fun v0=>bd (PV.cell v0 0) fun v1=>bd (PV.len v1) fun v2=>bd (PV.bin .gtr v2 (.int .i64 6)) fun v3=>some [v3]:=aP _ _ _ (by kernel_rfl)
theorem nN (x0 x1 : PV) : iV x0 x1=bd (PV.len x0) fun v0=>dG x0 x1 v0 (.int .i64 0):=aP _ _ _ (by kernel_rfl)
theorem fR (x0 x1 x2 x3 : PV) : dG x0 x1 x2 x3=bd (PV.bin .lss x3 x2) fun v0=>PV.ite v0 (bd (PV.at_ 1 false x0 x3) fun v1=>bd (PV.apply aS x1 [v1]) fun r2=>PV.ite (hd r2) (some [x3]) (bd (PV.bin .add x3 (.int .i64 1)) fun v3=>dG x0 x1 x2 v3)) (some [(.int .i64 (-1))]):=aT _ _ _ _ _ _ _ _ (by kernel_rfl)
theorem aFG (x0 : PV) : nC x0=bd (PV.slen x0) fun v0=>oA x0 v0 (.int .i64 0):=aP _ _ _ (by kernel_rfl)
theorem uL (x0 x1 x2 : PV) : oA x0 x1 x2=bd (PV.bin .lss x2 x1) fun v0=>PV.ite v0 (bd (PV.chr x0 x2) fun v1=>bd (PV.bin .lss v1 (.int .u8 32)) fun v2=>PV.ite v2 (some [.bool false]) (bd (PV.chr x0 x2) fun v3=>bd (PV.bin .gtr v3 (.int .u8 126)) fun v4=>PV.ite v4 (some [.bool false]) (bd (PV.chr x0 x2) fun v5=>bd (PV.bin .eql v5 (.int .u8 34)) fun v6=>PV.ite v6
 (some [.bool false]) (bd (PV.bin .add x2 (.int .i64 1)) fun v7=>oA x0 x1 v7)))) (bd (PV.slen x0) fun v8=>bd (PV.bin .leq v8 (.int .i64 60)) fun v9=>some [v9]):=aT _ _ _ _ _ _ _ _ (by kernel_rfl)
theorem aEl (x0 x1 : PV) : cL x0 x1=bd (PV.bin .sub x1 (.int .i64 1)) fun v0=>bd (bU x0 (.int .i64 0) v0) fun r1=>some [(hd r1)]:=aP _ _ _ (by kernel_rfl)
theorem aBE (x0 : PV) : yC x0=bd (nC x0) fun r0=>bd (PV.not (hd r0)) fun v1=>some [v1]:=aP _ _ _ (by kernel_rfl)
theorem kA (x0 x1 : PV) : dP x0 x1=bd (gD x0 x1) fun r0=>bd (PV.bin .geq (hd r0) (.int .i64 0)) fun v1=>some [v1]:=aP _ _ _ (by kernel_rfl)
theorem aBF (x0 x1 x2 : PV) : yD x0 x1 x2=bd (PV.whole 2 x0) fun v0=>bd (PV.cell v0 0) fun v1=>bd (PV.cell v0 1) fun v2=>bd (PV.deref x1 0) fun v3=>bd (PV.deref x1 1) fun v4=>bd (PV.deref x2 0) fun v5=>bd (PV.deref x2 1) fun v6=>bd (PV.deref x2 2) fun v7=>bd (aBu (.agg [v3,v4]) (.agg [v5,v6,v7]) (.agg [v1,v2])) fun r8=>bd (PV.not (hd r8)) fun v9=>
 some [v9]:=aP _ _ _ (by kernel_rfl)
theorem aFH (x0 x1 : PV) : zW x0 x1=bd (PV.whole 2 x0) fun v0=>bd (PV.cell v0 0) fun v1=>bd (PV.cell v0 1) fun v2=>bd (PV.whole 2 x1) fun v3=>bd (PV.cell v3 0) fun v4=>bd (PV.cell v3 1) fun v5=>bd (bU v4 (.int .i64 1) (.int .i64 6)) fun r6=>PV.ite (hd r6) (some [(.tup [(.int .i64 0),(.int .i64 1)])]) (bd (PV.bin .eql v4 (.int .i64 20)) fun v7=>PV.ite v7
 (some [(.tup [(.int .i64 0),(.int .i64 1)])]) (bd (PV.bin .eql v4 (.int .i64 7)) fun v8=>PV.ite v8 (some [(.tup [(.int .i64 1),(.int .i64 0)])]) (bd (PV.bin .eql v4 (.int .i64 9)) fun v9=>PV.ite v9 (some [(.tup [(.int .i64 1),(.int .i64 0)])]) (bd (PV.bin .eql v4 (.int .i64 18)) fun v10=>PV.ite v10 (some [(.tup [(.int .i64 1),(.int .i64 0)])]) (bd (PV.bin .eql v4 (.int .i64 19)) fun v11=>
 PV.ite v11 (some [(.tup [(.int .i64 1),(.int .i64 0)])]) (bd (PV.bin .eql v4 (.int .i64 25)) fun v12=>PV.ite v12 (some [(.tup [(.int .i64 1),(.int .i64 0)])]) (bd (PV.bin .eql v4 (.int .i64 26)) fun v13=>PV.ite v13 (some [(.tup [(.int .i64 1),(.int .i64 0)])]) (bd (PV.bin .eql v4 (.int .i64 8)) fun v14=>PV.ite v14 (some [(.tup [(.int .i64 1),(.int .i64 2)])]) (bd (PV.bin .eql v4 (.int .i64 10)) fun v15=>
 PV.ite v15 (some [(.tup [(.int .i64 2),(.int .i64 2)])]) (bd (bU v4 (.int .i64 11) (.int .i64 15)) fun r16=>PV.ite (hd r16) (some [(.tup [(.int .i64 2),(.int .i64 1)])]) (bd (PV.bin .eql v4 (.int .i64 16)) fun v17=>PV.ite v17 (some [(.tup [(.int .i64 1),(.int .i64 1)])]) (bd (PV.bin .eql v4 (.int .i64 21)) fun v18=>PV.ite v18 (some [(.tup [(.int .i64 1),(.int .i64 1)])]) (bd (PV.bin .eql v4 (.int .i64 22)) fun v19=>
 PV.ite v19 (some [(.tup [(.int .i64 2),(.int .i64 0)])]) (bd (PV.bin .eql v4 (.int .i64 23)) fun v20=>PV.ite v20 (bd (bU v5 (.int .i64 0) (.int .i64 6)) fun r21=>PV.ite (hd r21) (bd (PV.bin .add v5 (.int .i64 1)) fun v22=>some [(.tup [v22,(.int .i64 1)])]) (mO v1 v2 v4 v5)) (mO v1 v2 v4 v5))))))))))))))):=aP _ _ _ (by kernel_rfl)
theorem aBG (x0 x1 x2 x3 : PV) : mO x0 x1 x2 x3=bd (PV.bin .eql x2 (.int .i64 24)) fun v0=>PV.ite v0 (bd (PV.len x1) fun v1=>bd (cL x3 v1) fun r2=>PV.ite (hd r2) (yE x0 x1 x2 x3) (some [(.tup [(.int .i64 0),(.int .i64 0)])])) (some [(.tup [(.int .i64 0),(.int .i64 0)])]):=aT _ _ _ _ _ _ _ _ (by kernel_rfl)
theorem aBH (x0 x1 x2 x3 : PV) : yE x0 x1 x2 x3=bd (PV.at_ 3 true x1 x3) fun v0=>bd (PV.cell v0 0) fun v1=>some [(.tup [v1,(.int .i64 1)])]:=aT _ _ _ _ _ _ _ _ (by kernel_rfl)
theorem nG (x0 x1 : PV) : eF x0 x1=bd (PV.len x0) fun v0=>eG x0 x1 v0 (.int .i64 0):=aP _ _ _ (by kernel_rfl)
theorem eP (x0 x1 x2 x3 : PV) : eG x0 x1 x2 x3=bd (PV.bin .lss x3 x2) fun v0=>PV.ite v0 (bd (PV.at_ 1 false x0 x3) fun v1=>bd (PV.bin .eql x1 v1) fun v2=>PV.ite v2 (some [x3]) (bd (PV.bin .add x3 (.int .i64 1)) fun v3=>eG x0 x1 x2 v3)) (some [(.int .i64 (-1))]):=aT _ _ _ _ _ _ _ _ (by kernel_rfl)
theorem rW (x0 x1 : PV) : mB x0 x1=bd (PV.len x0) fun v0=>eH x0 x1 v0 (.int .i64 0):=aP _ _ _ (by kernel_rfl)
theorem iX (x0 x1 x2 x3 : PV) : eH x0 x1 x2 x3=bd (PV.bin .lss x3 x2) fun v0=>PV.ite v0 (bd (PV.at_ 1 false x0 x3) fun v1=>bd (PV.apply aS x1 [v1]) fun r2=>PV.ite (hd r2) (some [x3]) (bd (PV.bin .add x3 (.int .i64 1)) fun v3=>eH x0 x1 x2 v3)) (some [(.int .i64 (-1))]):=aT _ _ _ _ _ _ _ _ (by kernel_rfl)
theorem fH (x0 x1 : PV) : gC x0 x1=bd (PV.len x0) fun v0=>bE x0 x1 v0 (.int .i64 0):=aP _ _ _ (by kernel_rfl)
theorem cA (x0 x1 x2 x3 : PV) : bE x0 x1 x2 x3=bd (PV.bin .lss x3 x2) fun v0=>PV.ite v0 (bd (PV.at_ 1 true x0 x3) fun v1=>bd (PV.apply aS x1 [v1]) fun r2=>PV.ite (hd r2) (some [x3]) (bd (PV.bin .add x3 (.int .i64 1)) fun v3=>bE x0 x1 x2 v3)) (some [(.int .i64 (-1))]):=aT _ _ _ _ _ _ _ _ (by kernel_rfl)
theorem lM (x0 x1 : PV) : gD x0 x1=bd (PV.len x0) fun v0=>cO x0 x1 v0 (.int .i64 0):=aP _ _ _ (by kernel_rfl)
theorem eT (x0 x1 x2 x3 : PV) : cO x0 x1 x2 x3=bd (PV.bin .lss x3 x2) fun v0=>PV.ite v0 (bd (PV.at_ 2 true x0 x3) fun v1=>bd (PV.apply aS x1 [v1]) fun r2=>PV.ite (hd r2) (some [x3]) (bd (PV.bin .add x3 (.int .i64 1)) fun v3=>cO x0 x1 x2 v3)) (some [(.int .i64 (-1))]):=aT _ _ _ _ _ _ _ _ (by kernel_rfl)
theorem aGz (x0 x1 x2 : PV) : aBu x0 x1 x2=bd (PV.whole 2 x0) fun v0=>bd (PV.cell v0 0) fun v1=>bd (PV.cell v0 1) fun v2=>bd (PV.whole 3 x1) fun v3=>bd (PV.cell v3 0) fun v4=>bd (PV.cell v3 1) fun v5=>bd (PV.cell v3 2) fun v6=>bd (PV.whole 2 x2) fun v7=>bd (PV.cell v7 0) fun v8=>bd (PV.cell v7 1) fun v9=>bd (PV.bin .eql v8 (.int .i64 1)) fun v10=>PV.ite v10
 (bd (sT v9) fun r11=>some [(hd r11)]) (bd (PV.bin .eql v8 (.int .i64 2)) fun v12=>PV.ite v12 (bd (bU v9 (.int .i64 0) (.int .i64 1)) fun r13=>some [(hd r13)]) (bd (PV.bin .eql v8 (.int .i64 3)) fun v14=>PV.ite v14 (bd (PV.len v1) fun v15=>bd (cL v9 v15) fun r16=>some [(hd r16)]) (bd (PV.bin .eql v8 (.int .i64 5)) fun v17=>PV.ite v17 (bd (PV.len v2) fun v18=>
 bd (cL v9 v18) fun r19=>some [(hd r19)]) (bd (PV.bin .eql v8 (.int .i64 24)) fun v20=>PV.ite v20 (bd (PV.len v2) fun v21=>bd (cL v9 v21) fun r22=>some [(hd r22)]) (bd (PV.bin .eql v8 (.int .i64 6)) fun v23=>PV.ite v23 (bd (cL v9 v5) fun r24=>some [(hd r24)]) (bd (PV.bin .eql v8 (.int .i64 7)) fun v25=>PV.ite v25 (bd (cL v9 v5) fun r26=>some [(hd r26)])
 (bd (PV.bin .eql v8 (.int .i64 17)) fun v27=>PV.ite v27 (bd (PV.len v6) fun v28=>bd (cL v9 v28) fun r29=>some [(hd r29)]) (bd (PV.bin .eql v8 (.int .i64 18)) fun v30=>PV.ite v30 (bd (PV.len v6) fun v31=>bd (cL v9 v31) fun r32=>some [(hd r32)]) (bd (PV.bin .eql v8 (.int .i64 19)) fun v33=>PV.ite v33 (bd (PV.len v6) fun v34=>bd (cL v9 v34) fun r35=>some [(hd r35)])
 (bd (PV.bin .eql v8 (.int .i64 20)) fun v36=>PV.ite v36 (bd (bU v9 (.int .i64 0) (.int .i64 6)) fun r37=>some [(hd r37)]) (bd (PV.bin .eql v8 (.int .i64 21)) fun v38=>PV.ite v38 (bd (cL v9 (.int .i64 6)) fun r39=>some [(hd r39)]) (bd (PV.bin .eql v8 (.int .i64 22)) fun v40=>PV.ite v40 (bd (cL v9 (.int .i64 6)) fun r41=>some [(hd r41)]) (bd (PV.bin .eql v8 (.int .i64 23)) fun v42=>
 PV.ite v42 (bd (bU v9 (.int .i64 0) (.int .i64 6)) fun r43=>some [(hd r43)]) (bd (bU v8 (.int .i64 1) (.int .i64 26)) fun r44=>PV.ite (hd r44) (bd (PV.bin .eql v9 (.int .i64 0)) fun v45=>some [v45]) (some [.bool false]))))))))))))))):=aP _ _ _ (by kernel_rfl)
theorem aA8 (x0 : PV) : sT x0=bd (bU x0 (.int .i64 (-1000000000)) (.int .i64 1000000000)) fun r0=>some [(hd r0)]:=aP _ _ _ (by kernel_rfl)
theorem aBI (x0 x1 x2 : PV) : qK x0 x1 x2=bd (lH x0 x1) fun r0=>bd (sU (gd r0 0) x2) fun r1=>some [(gd r1 0),(gd r0 1),(gd r1 1)]:=bQ _ _ _ _ (by kernel_rfl)
theorem aFI (x0 x1 x2 x3 x4 x5 x6 x7 x8 x9 x10 : PV) : uB x0 x1 x2 x3 x4 x5 x6 x7 x8 x9 x10=bd (qM x7 x8) fun r0=>bd (vE (gd r0 0) x9) fun r1=>bd (lH (gd r1 0) x10) fun r2=>some [(gd r2 0),(gd r0 1),(gd r1 1),(gd r2 1)]:=bQ _ _ _ _ (by kernel_rfl)
theorem aCl (x0 : PV) : oB x0=bd (PV.len x0) fun v0=>bd (PV.zeros 16 (.str (bs [])) v0) fun v1=>bd (PV.bin .leq v0 v0) fun v2=>PV.ite v2 (bd (PV.zeros 16 (.str (bs [])) v0) fun v3=>kF x0 (.int .i64 0) v3) (none):=bQ _ _ _ _ (by kernel_rfl)
theorem pZ (x0 x1 x2 : PV) : kF x0 x1 x2=bd (PV.len x0) fun v0=>bd (PV.bin .lss x1 v0) fun v1=>PV.ite v1 (bd (PV.at_ 1 false x0 x1) fun v2=>bd (PV.inb x2 x1) fun v3=>bd (PV.setAt 1 false x2 x1 v2) fun v4=>bd (PV.bin .add x1 (.int .i64 1)) fun v5=>kF x0 v5 v4) (some [x2]):=aT _ _ _ _ _ _ _ _ (by kernel_rfl)
theorem aEm (x0 : PV) : xF x0=bd (PV.len x0) fun v0=>bd (PV.zeros 40 (.agg [(.int .i64 0),(.int .i64 0),(.lst [])]) v0) fun v1=>bd (PV.bin .leq v0 v0) fun v2=>PV.ite v2 (bd (PV.zeros 40 (.agg [(.int .i64 0),(.int .i64 0),(.lst [])]) v0) fun v3=>jT x0 (.int .i64 0) v3) (none):=bQ _ _ _ _ (by kernel_rfl)
theorem tG (x0 x1 x2 : PV) : jT x0 x1 x2=bd (PV.len x0) fun v0=>bd (PV.bin .lss x1 v0) fun v1=>PV.ite v1 (bd (PV.at_ 3 true x0 x1) fun v2=>bd (zY v2) fun r3=>PV.guardFlat (gd r3 0) (PV.guardFlat (gd r3 1) (PV.guardOwn (.own 2 16 true []) (gd r3 2) (bd (PV.inb x2 x1) fun v4=>bd (PV.setAt 3 true x2 x1 (.agg [(gd r3 0),(gd r3 1),(gd r3 2)])) fun v5=>
 bd (PV.bin .add x1 (.int .i64 1)) fun v6=>jT x0 v6 v5)))) (some [x2]):=aT _ _ _ _ _ _ _ _ (by kernel_rfl)
theorem aC9 (x0 : PV) : vD x0=bd (PV.len x0) fun v0=>bd (PV.zeros 64 (.agg [(.int .i64 0),(.int .i64 0),(.lst []),(.lst [])]) v0) fun v1=>bd (PV.bin .leq v0 v0) fun v2=>PV.ite v2 (bd (PV.zeros 64 (.agg [(.int .i64 0),(.int .i64 0),(.lst []),(.lst [])]) v0) fun v3=>iW x0 (.int .i64 0) v3) (none):=bQ _ _ _ _ (by kernel_rfl)
theorem rF (x0 x1 x2 : PV) : iW x0 x1 x2=bd (PV.len x0) fun v0=>bd (PV.bin .lss x1 v0) fun v1=>PV.ite v1 (bd (PV.at_ 4 true x0 x1) fun v2=>bd (xG v2) fun r3=>PV.guardFlat (gd r3 0) (PV.guardFlat (gd r3 1) (PV.guardOwn (.own 3 32 true []) (gd r3 2) (PV.guardOwn (.own 3 32 true []) (gd r3 3) (bd (PV.inb x2 x1) fun v4=>bd (PV.setAt 4 true x2 x1 (.agg [(gd r3 0),(gd r3 1),(gd r3 2),(gd r3 3)])) fun v5=>
 bd (PV.bin .add x1 (.int .i64 1)) fun v6=>iW x0 v6 v5))))) (some [x2]):=aT _ _ _ _ _ _ _ _ (by kernel_rfl)
theorem aFJ (x0 : PV) : zX x0=bd (PV.len x0) fun v0=>bd (PV.zeros 24 (.agg [(.lst [])]) v0) fun v1=>bd (PV.bin .leq v0 v0) fun v2=>PV.ite v2 (bd (PV.zeros 24 (.agg [(.lst [])]) v0) fun v3=>kQ x0 (.int .i64 0) v3) (none):=bQ _ _ _ _ (by kernel_rfl)
theorem uM (x0 x1 x2 : PV) : kQ x0 x1 x2=bd (PV.len x0) fun v0=>bd (PV.bin .lss x1 v0) fun v1=>PV.ite v1 (bd (PV.at_ 1 true x0 x1) fun v2=>bd (aBv v2) fun r3=>PV.guardOwn (.own 3 32 true []) (gd r3 0) (bd (PV.inb x2 x1) fun v4=>bd (PV.setAt 1 true x2 x1 (.agg [(gd r3 0)])) fun v5=>bd (PV.bin .add x1 (.int .i64 1)) fun v6=>kQ x0 v6 v5))
 (some [x2]):=aT _ _ _ _ _ _ _ _ (by kernel_rfl)
theorem xJ (x0 x1 x2 x3 : PV) : cE x0 x1 x2 x3=cZ x0 (.int .i64 0) x1 x2 x3 (.lst []):=bQ _ _ _ _ (by kernel_rfl)
theorem lO (x0 x1 x2 x3 x4 x5 : PV) : cZ x0 x1 x2 x3 x4 x5=bd (PV.len x0) fun v0=>bd (PV.bin .lss x1 v0) fun v1=>PV.ite v1 (bd (PV.at_ 3 true x0 x1) fun v2=>bd (jZ v2 x2 x3 x4) fun r3=>bd (PV.cat 3 32 true (.lst []) (.lst [(gd r3 0)])) fun v4=>bd (PV.cat 3 32 true x5 v4) fun v5=>bd (PV.bin .add x1 (.int .i64 1)) fun v6=>cZ x0 v6 (gd r3 1) (gd r3 2) (gd r3 3) v5)
 (some [x2,x3,x4,x5]):=aT _ _ _ _ _ _ _ _ (by kernel_rfl)
theorem oV (x0 x1 x2 x3 x4 x5 : PV) : gE x0 x1 x2 x3 x4 x5=bd (PV.bin .neq x0 (.int .i64 4)) fun v0=>PV.ite v0 (some [(.agg [x0,x1,x2]),x3,x4,x5]) (bd (PV.inb x4 x1) fun v1=>bd (PV.at_ 1 false x4 x1) fun v2=>bd (PV.bin .lss v2 (.int .i64 0)) fun v3=>PV.ite v3 (bd (PV.len x5) fun v4=>bd (PV.inb x4 x1) fun v5=>bd (PV.setAt 1 false x4 x1 v4) fun v6=>
 bd (PV.cat 1 8 false (.lst []) (.lst [x1])) fun v7=>bd (PV.cat 1 8 false x5 v7) fun v8=>cQ x3 x0 x1 x2 (.int .i64 0) (.int .i64 0) (.str (bs [])) v6 v8) (cQ x3 x0 x1 x2 (.int .i64 0) (.int .i64 0) (.str (bs [])) x4 x5)):=bQ _ _ _ _ (by kernel_rfl)
theorem vJ (x0 x1 x2 x3 x4 x5 x6 x7 x8 : PV) : cQ x0 x1 x2 x3 x4 x5 x6 x7 x8=bd (PV.inb x7 x2) fun v0=>bd (PV.at_ 1 false x7 x2) fun v1=>bd (PV.one v1) fun v2=>some [(.agg [x1,v2,x3]),x0,x7,x8]:=aT _ _ _ _ _ _ _ _ (by kernel_rfl)
theorem aEn (x0 : PV) : rV x0=bd (PV.whole 10 x0) fun v0=>bd (PV.cell v0 0) fun v1=>bd (PV.cell v0 1) fun v2=>bd (PV.cell v0 2) fun v3=>bd (PV.cell v0 3) fun v4=>bd (PV.cell v0 4) fun v5=>bd (PV.cell v0 5) fun v6=>bd (PV.cell v0 6) fun v7=>bd (PV.cell v0 7) fun v8=>bd (PV.cell v0 8) fun v9=>bd (PV.cell v0 9) fun v10=>mP (.int .i64 0) v1 v2 v3 v4 v5 v6 v7 v8 v9 v10 (.int .i64 0) (.int .i64 0) (.int .i64 0) (.int .i64 0) (.int .i64 0) (.str (bs [])) (.int .i64 0) (.lst []) (.lst []) (.lst []) (.lst []):=bQ _ _ _ _ (by kernel_rfl)
theorem tH (x0 x1 x2 x3 x4 x5 x6 x7 x8 x9 x10 x11 x12 x13 x14 x15 x16 x17 x18 x19 x20 x21 : PV) : mP x0 x1 x2 x3 x4 x5 x6 x7 x8 x9 x10 x11 x12 x13 x14 x15 x16 x17 x18 x19 x20 x21=bd (PV.len x1) fun v0=>bd (PV.bin .lss x0 v0) fun v1=>PV.ite v1 (bd (PV.at_ 4 true x1 x0) fun v2=>bd (oD v2) fun r3=>PV.guardFlat (gd r3 0) (PV.guardFlat (gd r3 1) (PV.guardOwn (.own 3 32 true []) (gd r3 2) (
 PV.guardOwn (.own 3 32 true []) (gd r3 3) (bd (PV.cat 4 64 true x21 (.lst [(.agg [(gd r3 0),(gd r3 1),(gd r3 2),(gd r3 3)])])) fun v4=>bd (PV.bin .add x0 (.int .i64 1)) fun v5=>mP v5 x1 x2 x3 x4 x5 x6 x7 x8 x9 x10 x11 x12 x13 x14 x15 x16 x17 x18 x19 x20 v4))))) (bd (pI x2) fun r6=>PV.guardOwn (.own 1 24 true [(.own 3 32 true [])]) (gd r6 0) (bd (PV.cat 1 16 false (.lst []) x4) fun v7=>
 some [x3,x5,x6,x7,x8,x9,x10,x21,(gd r6 0),v7])):=aT _ _ _ _ _ _ _ _ (by kernel_rfl)
theorem aBJ (x0 x1 : PV) : qL x0 x1=bd (PV.whole 10 x0) fun v0=>bd (PV.cell v0 0) fun v1=>bd (PV.cell v0 1) fun v2=>bd (PV.cell v0 2) fun v3=>bd (PV.cell v0 3) fun v4=>bd (PV.cell v0 4) fun v5=>bd (PV.cell v0 5) fun v6=>bd (PV.cell v0 6) fun v7=>bd (PV.cell v0 7) fun v8=>bd (PV.cell v0 8) fun v9=>bd (PV.cell v0 9) fun v10=>bd (PV.one x1) fun v11=>
 bd (vF (.agg [v1,v2,v3,v4,v5,v6,v7,v8,v9,v10])) fun r12=>PV.guardFlat (gd r12 0) (PV.guardFlat (gd r12 1) (PV.guardFlat (gd r12 2) (PV.guardFlat (gd r12 3) (PV.guardFlat (gd r12 4) (PV.guardFlat (gd r12 5) (PV.guardFlat (gd r12 6) (PV.guardOwn (.own 4 64 true [.leaf,.leaf,(.own 3 32 true []),(.own 3 32 true [])]) (gd r12 7) (PV.guardOwn (.own 1 24 true [(.own 3 32 true [])]) (gd r12 8) (
 PV.guardOwn (.own 1 16 false []) (gd r12 9) (bd (PV.len v11) fun v13=>jE v11 v13 (.int .i64 0) v1 v2 v3 v4 v5 v6 v7 v8 v9 v10 (.int .i64 0) (.int .i64 0) (.int .i64 0) (.int .i64 0) (.int .i64 0) (.str (bs [])) (.int .i64 0) v11 (gd r12 0) (gd r12 1) (gd r12 2) (gd r12 3) (gd r12 4) (gd r12 5) (gd r12 6) (.lst []) (.lst []) (.lst []) (gd r12 7) (.lst []) (gd r12 9))))))))))):=bQ _ _ _ _ (by kernel_rfl)
theorem oW (x0 x1 x2 x3 x4 x5 x6 x7 x8 x9 x10 x11 x12 x13 x14 x15 x16 x17 x18 x19 x20 x21 x22 x23 x24 x25 x26 x27 x28 x29 x30 x31 x32 x33 : PV) : jE x0 x1 x2 x3 x4 x5 x6 x7 x8 x9 x10 x11 x12 x13 x14 x15 x16 x17 x18 x19 x20 x21 x22 x23 x24 x25 x26 x27 x28 x29 x30 x31 x32 x33=bd (PV.bin .lss x2 x1) fun v0=>PV.ite v0 (bd (PV.at_ 1 false x0 x2) fun v1=>bd (PV.at_ 1 true x4 v1) fun v2=>
 bd (PV.cell v2 0) fun v3=>bd (bP v3) fun r4=>PV.guardOwn (.own 3 32 true []) (gd r4 0) (bd (PV.cat 1 24 true x32 (.lst [(.agg [(gd r4 0)])])) fun v5=>bd (PV.bin .add x2 (.int .i64 1)) fun v6=>jE x0 x1 v6 x3 x4 x5 x6 x7 x8 x9 x10 x11 x12 x13 x14 x15 x16 x17 x18 x19 x20 x21 x22 x23 x24 x25 x26 x27 x28 x29 x30 x31 v5 x33)) (bd (PV.len x31) fun v7=>
 fP v7 (.int .i64 0) x3 x4 x5 x6 x7 x8 x9 x10 x11 x12 x13 x14 x15 x16 x17 x18 x19 x20 x21 x22 x23 x24 x25 x26 x27 x28 x29 x30 x31 x32 x33):=aT _ _ _ _ _ _ _ _ (by kernel_rfl)
theorem oH (x0 x1 x2 x3 x4 x5 x6 x7 x8 x9 x10 x11 x12 x13 x14 x15 x16 x17 x18 x19 x20 x21 x22 x23 x24 x25 x26 x27 x28 x29 x30 x31 x32 : PV) : fP x0 x1 x2 x3 x4 x5 x6 x7 x8 x9 x10 x11 x12 x13 x14 x15 x16 x17 x18 x19 x20 x21 x22 x23 x24 x25 x26 x27 x28 x29 x30 x31 x32=bd (PV.bin .lss x1 x0) fun v0=>PV.ite v0 (bd (PV.inb x30 x1) fun v1=>bd (PV.at_ 4 true x30 x1) fun v2=>
 bd (PV.cell v2 0) fun v3=>bd (PV.cell v2 1) fun v4=>bd (PV.at_ 4 true x30 x1) fun v5=>bd (PV.cell v5 2) fun v6=>bd (PV.at_ 4 true x30 x1) fun v7=>bd (PV.cell v7 2) fun v8=>bd (PV.setCell 4 x30 x1 2 .hole) fun v9=>bd (fG x19 v6) fun r10=>bd (PV.at_ 4 true v9 x1) fun v11=>bd (PV.cell v11 2) fun v12=>bd (PV.setCell 4 v9 x1 2 (gd r10 1)) fun v13=>bd (PV.at_ 4 true v13 x1) fun v14=>
 bd (PV.cell v14 3) fun v15=>bd (PV.at_ 4 true v13 x1) fun v16=>bd (PV.cell v16 3) fun v17=>bd (PV.setCell 4 v13 x1 3 .hole) fun v18=>bd (fG (gd r10 0) v15) fun r19=>bd (PV.at_ 4 true v18 x1) fun v20=>bd (PV.cell v20 3) fun v21=>bd (PV.setCell 4 v18 x1 3 (gd r19 1)) fun v22=>bd (PV.bin .add x1 (.int .i64 1)) fun v23=>fP x0 v23 x2 x3 x4 x5 x6 x7 x8 x9 x10 x11 x12 x13 x14 x15 x16 x17 x18 (gd r19 0) x20 x21 x22 x23 x24 x25 x26 x27 x28 x29 v22 x31 x32)
 (bd (PV.len x31) fun v24=>fQ v24 (.int .i64 0) x2 x3 x4 x5 x6 x7 x8 x9 x10 x11 x12 x13 x14 x15 x16 x17 x18 x19 x20 x21 x22 x23 x24 x25 x26 x27 x28 x29 x30 x31 x32):=aT _ _ _ _ _ _ _ _ (by kernel_rfl)
theorem oI (x0 x1 x2 x3 x4 x5 x6 x7 x8 x9 x10 x11 x12 x13 x14 x15 x16 x17 x18 x19 x20 x21 x22 x23 x24 x25 x26 x27 x28 x29 x30 x31 x32 : PV) : fQ x0 x1 x2 x3 x4 x5 x6 x7 x8 x9 x10 x11 x12 x13 x14 x15 x16 x17 x18 x19 x20 x21 x22 x23 x24 x25 x26 x27 x28 x29 x30 x31 x32=bd (PV.bin .lss x1 x0) fun v0=>PV.ite v0 (bd (PV.inb x31 x1) fun v1=>bd (PV.at_ 1 true x31 x1) fun v2=>
 bd (PV.at_ 1 true x31 x1) fun v3=>bd (PV.cell v3 0) fun v4=>bd (PV.at_ 1 true x31 x1) fun v5=>bd (PV.cell v5 0) fun v6=>bd (PV.setCell 1 x31 x1 0 .hole) fun v7=>bd (fG x19 v4) fun r8=>bd (PV.at_ 1 true v7 x1) fun v9=>bd (PV.cell v9 0) fun v10=>bd (PV.setCell 1 v7 x1 0 (gd r8 1)) fun v11=>bd (PV.bin .add x1 (.int .i64 1)) fun v12=>fQ x0 v12 x2 x3 x4 x5 x6 x7 x8 x9 x10 x11 x12 x13 x14 x15 x16 x17 x18 (gd r8 0) x20 x21 x22 x23 x24 x25 x26 x27 x28 x29 x30 v11 x32)
 (bd (fG x19 (.lst [(.agg [x8,x9,x10])])) fun r13=>bd (PV.inb (gd r13 1) (.int .i64 0)) fun v14=>bd (PV.at_ 3 true (gd r13 1) (.int .i64 0)) fun v15=>bd (PV.whole 3 v15) fun v16=>bd (PV.cell v16 0) fun v17=>bd (PV.cell v16 1) fun v18=>bd (PV.cell v16 2) fun v19=>some [x20,x21,x22,v17,v18,v19,x26,x30,x31,x32]):=aT _ _ _ _ _ _ _ _ (by kernel_rfl)
theorem yK (x0 x1 : PV) : gF x0 x1=bd (PV.len x0) fun v0=>dV x0 v0 (.int .i64 0) x1:=bQ _ _ _ _ (by kernel_rfl)
theorem mG (x0 x1 x2 x3 : PV) : dV x0 x1 x2 x3=bd (PV.bin .lss x2 x1) fun v0=>PV.ite v0 (bd (PV.at_ 3 true x0 x2) fun v1=>bd (PV.whole 3 v1) fun v2=>bd (PV.cell v2 0) fun v3=>bd (PV.cell v2 1) fun v4=>bd (PV.cell v2 2) fun v5=>bd (PV.bin .eql v3 (.int .i64 4)) fun v6=>PV.ite v6 (bd (eE x3 v4) fun r7=>PV.guardFlat (hd r7) (
 bd (PV.not (hd r7)) fun v8=>PV.ite v8 (oQ x0 x1 x2 v3 v4 v5 x3) (bd (PV.bin .add x2 (.int .i64 1)) fun v9=>dV x0 x1 v9 x3))) (bd (PV.bin .add x2 (.int .i64 1)) fun v10=>dV x0 x1 v10 x3)) (some [x3]):=aT _ _ _ _ _ _ _ _ (by kernel_rfl)
theorem vK (x0 x1 x2 x3 x4 x5 x6 : PV) : oQ x0 x1 x2 x3 x4 x5 x6=bd (PV.cat 1 8 false (.lst []) (.lst [x4])) fun v0=>bd (PV.cat 1 8 false x6 v0) fun v1=>bd (PV.bin .add x2 (.int .i64 1)) fun v2=>dV x0 x1 v2 v1:=aT _ _ _ _ _ _ _ _ (by kernel_rfl)
theorem vL (x0 x1 : PV) : jX x0 x1=bd (PV.len x0) fun v0=>dL v0 (.int .i64 0) x1 x0:=bQ _ _ _ _ (by kernel_rfl)
theorem kR (x0 x1 x2 x3 : PV) : dL x0 x1 x2 x3=bd (PV.bin .lss x1 x0) fun v0=>PV.ite v0 (bd (PV.inb x3 x1) fun v1=>bd (PV.at_ 3 true x3 x1) fun v2=>bd (PV.whole 3 v2) fun v3=>bd (PV.cell v3 0) fun v4=>bd (PV.cell v3 1) fun v5=>bd (PV.cell v3 2) fun v6=>bd (PV.bin .eql v4 (.int .i64 4)) fun v7=>PV.ite v7 (bd (eE x2 v5) fun r8=>
 PV.guardFlat (hd r8) (bd (PV.not (hd r8)) fun v9=>PV.ite v9 (nD x0 x1 v4 v5 v6 x2 x3) (bd (PV.bin .add x1 (.int .i64 1)) fun v10=>dL x0 v10 x2 x3))) (bd (PV.bin .add x1 (.int .i64 1)) fun v11=>dL x0 v11 x2 x3)) (some [x2]):=aT _ _ _ _ _ _ _ _ (by kernel_rfl)
theorem tI (x0 x1 x2 x3 x4 x5 x6 : PV) : nD x0 x1 x2 x3 x4 x5 x6=bd (PV.cat 1 8 false (.lst []) (.lst [x3])) fun v0=>bd (PV.cat 1 8 false x5 v0) fun v1=>bd (PV.bin .add x1 (.int .i64 1)) fun v2=>dL x0 v2 v1 x6:=aT _ _ _ _ _ _ _ _ (by kernel_rfl)
theorem uN (x0 x1 x2 x3 x4 x5 x6 x7 x8 x9 x10 x11 x12 x13 x14 x15 x16 x17 x18 x19 x20 x21 x22 : PV) : oC x0 x1 x2 x3 x4 x5 x6 x7 x8 x9 x10 x11 x12 x13 x14 x15 x16 x17 x18 x19 x20 x21 x22=bd (PV.len x0) fun v0=>eN x0 v0 (.int .i64 0) x10 x11 x12 x13 x14 x15 x16 x17 x18 x19 x20 x21 x22 x0 x1 x2 x3 x4 x5 x6 x7 x8 x9:=bQ _ _ _ _ (by kernel_rfl)
theorem gY (x0 x1 x2 x3 x4 x5 x6 x7 x8 x9 x10 x11 x12 x13 x14 x15 x16 x17 x18 x19 x20 x21 x22 x23 x24 x25 : PV) : eN x0 x1 x2 x3 x4 x5 x6 x7 x8 x9 x10 x11 x12 x13 x14 x15 x16 x17 x18 x19 x20 x21 x22 x23 x24 x25=bd (PV.bin .lss x2 x1) fun v0=>PV.ite v0 (bd (PV.at_ 4 true x0 x2) fun v1=>bd (PV.whole 4 v1) fun v2=>bd (PV.cell v2 0) fun v3=>bd (PV.cell v2 1) fun v4=>
 bd (PV.cell v2 2) fun v5=>bd (PV.cell v2 3) fun v6=>bd (PV.cat 1 24 false (.lst []) (.lst [v5,v6])) fun v7=>bd (dW v7) fun r8=>PV.guardOwn (.own 3 32 true []) (gd r8 0) (bd (PV.len (gd r8 0)) fun v9=>eO x0 x1 x2 v9 (.int .i64 0) x3 x4 x5 x6 x7 x8 x9 x10 x11 x12 x13 x14 x15 x16 x17 x18 x19 x20 x21 x22 x23 x24 x25 (gd r8 0))) (bd (PV.len x17) fun v10=>
 dA x17 v10 (.int .i64 0) x3 x4 x5 x6 x7 x8 x9 x10 x11 x12 x13 x14 x15 x16 x17 x18 x19 x20 x21 x22 x23 x24 x25):=aT _ _ _ _ _ _ _ _ (by kernel_rfl)
theorem gZ (x0 x1 x2 x3 x4 x5 x6 x7 x8 x9 x10 x11 x12 x13 x14 x15 x16 x17 x18 x19 x20 x21 x22 x23 x24 x25 x26 x27 x28 : PV) : eO x0 x1 x2 x3 x4 x5 x6 x7 x8 x9 x10 x11 x12 x13 x14 x15 x16 x17 x18 x19 x20 x21 x22 x23 x24 x25 x26 x27 x28=bd (PV.bin .lss x4 x3) fun v0=>PV.ite v0 (bd (PV.inb x28 x4) fun v1=>bd (PV.at_ 3 true x28 x4) fun v2=>bd (PV.whole 3 v2) fun v3=>
 bd (PV.cell v3 0) fun v4=>bd (PV.cell v3 1) fun v5=>bd (PV.cell v3 2) fun v6=>bd (nE v4 v5 v6 x5 x6 x7 x8 x9 x10 x11 x12 x13 x14 x15 x16 x17) fun r7=>bd (PV.bin .add x4 (.int .i64 1)) fun v8=>eO x0 x1 x2 x3 v8 (gd r7 0) (gd r7 1) (gd r7 2) (gd r7 3) (gd r7 4) (gd r7 5) (gd r7 6) (gd r7 7) (gd r7 8) (gd r7 9) (gd r7 10) (gd r7 11) (gd r7 12) x18 x19 x20 x21 x22 x23 x24 x25 x26 x27 x28)
 (bd (PV.bin .add x2 (.int .i64 1)) fun v9=>eN x0 x1 v9 x5 x6 x7 x8 x9 x10 x11 x12 x13 x14 x15 x16 x17 x18 x19 x20 x21 x22 x23 x24 x25 x26 x27):=aT _ _ _ _ _ _ _ _ (by kernel_rfl)
theorem gH (x0 x1 x2 x3 x4 x5 x6 x7 x8 x9 x10 x11 x12 x13 x14 x15 x16 x17 x18 x19 x20 x21 x22 x23 x24 x25 : PV) : dA x0 x1 x2 x3 x4 x5 x6 x7 x8 x9 x10 x11 x12 x13 x14 x15 x16 x17 x18 x19 x20 x21 x22 x23 x24 x25=bd (PV.bin .lss x2 x1) fun v0=>PV.ite v0 (bd (PV.at_ 1 true x0 x2) fun v1=>bd (PV.whole 1 v1) fun v2=>bd (PV.cell v2 0) fun v3=>bd (PV.len v3) fun v4=>
 eC x0 x1 x2 v3 v4 (.int .i64 0) x3 x4 x5 x6 x7 x8 x9 x10 x11 x12 x13 x14 x15 x16 x17 x18 x19 x20 x21 x22 x23 x24 x25) (bd (nE x22 x23 x24 x3 x4 x5 x6 x7 x8 x9 x10 x11 x12 x13 x14 x15) fun r5=>some [(gd r5 0),(gd r5 1),(gd r5 2),(gd r5 3),(gd r5 4),(gd r5 5),(gd r5 6),(gd r5 7),(gd r5 8),(gd r5 9),(gd r5 10),(gd r5 11),(gd r5 12)]):=aT _ _ _ _ _ _ _ _ (by kernel_rfl)
theorem gI (x0 x1 x2 x3 x4 x5 x6 x7 x8 x9 x10 x11 x12 x13 x14 x15 x16 x17 x18 x19 x20 x21 x22 x23 x24 x25 x26 x27 x28 : PV) : eC x0 x1 x2 x3 x4 x5 x6 x7 x8 x9 x10 x11 x12 x13 x14 x15 x16 x17 x18 x19 x20 x21 x22 x23 x24 x25 x26 x27 x28=bd (PV.bin .lss x5 x4) fun v0=>PV.ite v0 (bd (PV.at_ 3 true x3 x5) fun v1=>bd (PV.whole 3 v1) fun v2=>bd (PV.cell v2 0) fun v3=>
 bd (PV.cell v2 1) fun v4=>bd (PV.cell v2 2) fun v5=>bd (nE v3 v4 v5 x6 x7 x8 x9 x10 x11 x12 x13 x14 x15 x16 x17 x18) fun r6=>bd (PV.bin .add x5 (.int .i64 1)) fun v7=>eC x0 x1 x2 x3 x4 v7 (gd r6 0) (gd r6 1) (gd r6 2) (gd r6 3) (gd r6 4) (gd r6 5) (gd r6 6) (gd r6 7) (gd r6 8) (gd r6 9) (gd r6 10) (gd r6 11) (gd r6 12) x19 x20 x21 x22 x23 x24 x25 x26 x27 x28) (bd (PV.bin .add x2 (.int .i64 1)) fun v8=>
 dA x0 x1 v8 x6 x7 x8 x9 x10 x11 x12 x13 x14 x15 x16 x17 x18 x19 x20 x21 x22 x23 x24 x25 x26 x27 x28):=aT _ _ _ _ _ _ _ _ (by kernel_rfl)
theorem vM (x0 x1 : PV) : jY x0 x1=bd (PV.bin .lss x1 (.int .i64 0)) fun v0=>PV.ite v0 (none) (mC x0 x1):=bQ _ _ _ _ (by kernel_rfl)
theorem rX (x0 x1 : PV) : mC x0 x1=bd (PV.len x0) fun v0=>bd (PV.conv .u64 v0) fun v1=>bd (PV.conv .u64 x1) fun v2=>bd (aA7 v1 v2) fun r3=>bd (PV.comp (hd r3) 0) fun v4=>bd (PV.comp (hd r3) 1) fun v5=>bd (PV.bin .gtr v4 (.int .u64 0)) fun v6=>PV.ite v6 (none) (bd (PV.bin .gtr v5 (.int .u64 9223372036854775807)) fun v7=>PV.ite v7
 (none) (mD x0 v5)):=aT _ _ _ _ _ _ _ _ (by kernel_rfl)
theorem rY (x0 x1 : PV) : mD x0 x1=bd (PV.conv .i64 x1) fun v0=>bd (PV.zeros 8 (.int .i64 0) v0) fun v1=>bd (PV.bin .leq v0 v0) fun v2=>PV.ite v2 (bd (PV.zeros 8 (.int .i64 0) v0) fun v3=>bd (PV.len v3) fun v4=>bd (PV.ncopy v3 (.int .i64 0) v4 x0) fun v5=>bd (PV.copyIn 1 false v3 (.int .i64 0) v4 x0) fun v6=>eY v5 v6)
 (none):=aT _ _ _ _ _ _ _ _ (by kernel_rfl)
theorem kI (x0 x1 : PV) : eY x0 x1=bd (PV.len x1) fun v0=>bd (PV.bin .lss x0 v0) fun v1=>PV.ite v1 (bd (PV.len x1) fun v2=>bd (PV.cut 1 false x1 x0 v2) fun v3=>bd (PV.cut 1 false x1 (.int .i64 0) x0) fun v4=>bd (PV.cut 1 false x1 (.int .i64 0) x0) fun v5=>bd (PV.ncopy x1 x0 v2 v5) fun v6=>bd (PV.copyIn 1 false x1 x0 v2 v5) fun v7=>bd (PV.bin .add x0 v6) fun v8=>
 eY v8 v7) (some [x1]):=aT _ _ _ _ _ _ _ _ (by kernel_rfl)
theorem aDa (x0 x1 : PV) : aA7 x0 x1=bd (yF x0 x1) fun r0=>bd (PV.comp (hd r0) 0) fun v1=>bd (PV.comp (hd r0) 1) fun v2=>some [(.tup [v1,v2])]:=aP _ _ _ (by kernel_rfl)
theorem aBK (x0 x1 : PV) : yF x0 x1=bd (PV.bin .and x0 (.int .u64 4294967295)) fun v0=>bd (PV.bin .shr x0 (.int .u64 32)) fun v1=>bd (PV.bin .and x1 (.int .u64 4294967295)) fun v2=>bd (PV.bin .shr x1 (.int .u64 32)) fun v3=>bd (PV.bin .mul v0 v2) fun v4=>bd (PV.bin .mul v1 v2) fun v5=>bd (PV.bin .shr v4 (.int .u64 32)) fun v6=>bd (PV.bin .add v5 v6) fun v7=>
 bd (PV.bin .and v7 (.int .u64 4294967295)) fun v8=>bd (PV.bin .shr v7 (.int .u64 32)) fun v9=>bd (PV.bin .mul v0 v3) fun v10=>bd (PV.bin .add v8 v10) fun v11=>bd (PV.bin .mul v1 v3) fun v12=>bd (PV.bin .add v12 v9) fun v13=>bd (PV.bin .shr v11 (.int .u64 32)) fun v14=>bd (PV.bin .add v13 v14) fun v15=>bd (PV.bin .mul x0 x1) fun v16=>some [(.tup [v15,v16])]:=aP _ _ _ (by kernel_rfl)
theorem aAV (x0 x1 : PV) : lH x0 x1=iH x0 (.int .i64 0) x1:=bQ _ _ _ _ (by kernel_rfl)
theorem oJ (x0 x1 x2 : PV) : iH x0 x1 x2=bd (PV.len x2) fun v0=>bd (PV.bin .lss x1 v0) fun v1=>PV.ite v1 (bd (fW x0) fun r2=>bd (PV.inb x2 x1) fun v3=>bd (PV.setAt 1 false x2 x1 (hd r2)) fun v4=>bd (PV.bin .add x0 (.int .i64 1)) fun v5=>bd (PV.bin .add x1 (.int .i64 1)) fun v6=>iH v5 v6 v4) (some [x0,x2]):=aT _ _ _ _ _ _ _ _ (by kernel_rfl)
theorem aCm (x0 x1 : PV) : sU x0 x1=kG x0 (.int .i64 0) x1:=bQ _ _ _ _ (by kernel_rfl)
theorem qA (x0 x1 x2 : PV) : kG x0 x1 x2=bd (PV.len x2) fun v0=>bd (PV.bin .lss x1 v0) fun v1=>PV.ite v1 (bd (PV.inb x2 x1) fun v2=>bd (PV.one x0) fun v3=>bd (PV.setCell 3 x2 x1 0 v3) fun v4=>bd (PV.bin .add x0 (.int .i64 1)) fun v5=>bd (PV.inb v4 x1) fun v6=>bd (PV.one v5) fun v7=>bd (PV.setCell 3 v4 x1 1 v7) fun v8=>bd (PV.bin .add v5 (.int .i64 1)) fun v9=>
 bd (PV.inb v8 x1) fun v10=>bd (PV.at_ 3 true v8 x1) fun v11=>bd (vG x1 v9 v8) fun r12=>bd (PV.bin .add x1 (.int .i64 1)) fun v13=>kG (gd r12 0) v13 (gd r12 1)) (some [x0,x2]):=aT _ _ _ _ _ _ _ _ (by kernel_rfl)
theorem aBL (x0 x1 : PV) : qM x0 x1=jF x0 (.int .i64 0) x1:=bQ _ _ _ _ (by kernel_rfl)
theorem oX (x0 x1 x2 : PV) : jF x0 x1 x2=bd (PV.len x2) fun v0=>bd (PV.bin .lss x1 v0) fun v1=>PV.ite v1 (bd (PV.inb x2 x1) fun v2=>bd (PV.one x0) fun v3=>bd (PV.setCell 4 x2 x1 0 v3) fun v4=>bd (PV.bin .add x0 (.int .i64 1)) fun v5=>bd (PV.inb v4 x1) fun v6=>bd (PV.one v5) fun v7=>bd (PV.setCell 4 v4 x1 1 v7) fun v8=>bd (PV.bin .add v5 (.int .i64 1)) fun v9=>
 bd (PV.inb v8 x1) fun v10=>bd (PV.at_ 4 true v8 x1) fun v11=>bd (qN x1 v9 v8) fun r12=>bd (PV.inb (gd r12 1) x1) fun v13=>bd (PV.at_ 4 true (gd r12 1) x1) fun v14=>bd (mU x1 (gd r12 0) (gd r12 1)) fun r15=>bd (PV.bin .add x1 (.int .i64 1)) fun v16=>jF (gd r15 0) v16 (gd r15 1)) (some [x0,x2]):=aT _ _ _ _ _ _ _ _ (by kernel_rfl)
theorem aDb (x0 x1 : PV) : vE x0 x1=lI x0 (.int .i64 0) x1:=bQ _ _ _ _ (by kernel_rfl)
theorem rG (x0 x1 x2 : PV) : lI x0 x1 x2=bd (PV.len x2) fun v0=>bd (PV.bin .lss x1 v0) fun v1=>PV.ite v1 (bd (PV.inb x2 x1) fun v2=>bd (PV.at_ 1 true x2 x1) fun v3=>bd (mW x1 x0 x2) fun r4=>bd (PV.bin .add x1 (.int .i64 1)) fun v5=>lI (gd r4 0) v5 (gd r4 1)) (some [x0,x2]):=aT _ _ _ _ _ _ _ _ (by kernel_rfl)
theorem aFK (x0 : PV) : zY x0=bd (PV.whole 3 x0) fun v0=>bd (PV.cell v0 0) fun v1=>bd (PV.cell v0 1) fun v2=>bd (PV.cell v0 2) fun v3=>bd (PV.one v1) fun v4=>bd (PV.one v2) fun v5=>bd (zZ v3) fun r6=>PV.guardOwn (.own 2 16 true []) (gd r6 0) (some [v4,v5,(gd r6 0)]):=bQ _ _ _ _ (by kernel_rfl)
theorem aEo (x0 : PV) : xG x0=bd (PV.whole 4 x0) fun v0=>bd (PV.cell v0 0) fun v1=>bd (PV.cell v0 1) fun v2=>bd (PV.cell v0 2) fun v3=>bd (PV.cell v0 3) fun v4=>bd (PV.one v1) fun v5=>bd (PV.one v2) fun v6=>bd (mE v3) fun r7=>PV.guardOwn (.own 3 32 true []) (gd r7 0) (bd (mE v4) fun r8=>PV.guardOwn (.own 3 32 true []) (gd r8 0) (some [v5,v6,(gd r7 0),(gd r8 0)])):=bQ _ _ _ _ (by kernel_rfl)
theorem aGA (x0 : PV) : aBv x0=bd (PV.whole 1 x0) fun v0=>bd (PV.cell v0 0) fun v1=>bd (mE v1) fun r2=>PV.guardOwn (.own 3 32 true []) (gd r2 0) (some [(gd r2 0)]):=bQ _ _ _ _ (by kernel_rfl)
theorem vN (x0 x1 x2 x3 : PV) : jZ x0 x1 x2 x3=bd (PV.whole 3 x0) fun v0=>bd (PV.cell v0 0) fun v1=>bd (PV.cell v0 1) fun v2=>bd (PV.cell v0 2) fun v3=>bd (PV.bin .neq v1 (.int .i64 4)) fun v4=>PV.ite v4 (some [(.agg [v1,v2,v3]),x1,x2,x3]) (bd (PV.inb x2 v2) fun v5=>bd (PV.at_ 1 false x2 v2) fun v6=>bd (PV.bin .lss v6 (.int .i64 0)) fun v7=>
 PV.ite v7 (bd (PV.len x3) fun v8=>bd (PV.inb x2 v2) fun v9=>bd (PV.setAt 1 false x2 v2 v8) fun v10=>bd (PV.cat 1 8 false (.lst []) (.lst [v2])) fun v11=>bd (PV.cat 1 8 false x3 v11) fun v12=>cQ x1 v1 v2 v3 (.int .i64 0) (.int .i64 0) (.str (bs [])) v10 v12) (cQ x1 v1 v2 v3 (.int .i64 0) (.int .i64 0) (.str (bs [])) x2 x3)):=bQ _ _ _ _ (by kernel_rfl)
theorem aAd (x0 : PV) : oD x0=bd (PV.whole 4 x0) fun v0=>bd (PV.cell v0 0) fun v1=>bd (PV.cell v0 1) fun v2=>bd (PV.cell v0 2) fun v3=>bd (PV.cell v0 3) fun v4=>bd (PV.cat 3 32 true (.lst []) v3) fun v5=>bd (PV.cat 3 32 true (.lst []) v4) fun v6=>some [v1,v2,v5,v6]:=bQ _ _ _ _ (by kernel_rfl)
theorem aAW (x0 : PV) : pI x0=iI x0 (.int .i64 0) (.lst []):=bQ _ _ _ _ (by kernel_rfl)
theorem oK (x0 x1 x2 : PV) : iI x0 x1 x2=bd (PV.len x0) fun v0=>bd (PV.bin .lss x1 v0) fun v1=>PV.ite v1 (bd (PV.at_ 1 true x0 x1) fun v2=>bd (PV.cell v2 0) fun v3=>bd (PV.cat 3 32 true (.lst []) v3) fun v4=>bd (PV.cat 1 24 true x2 (.lst [(.agg [v4])])) fun v5=>bd (PV.bin .add x1 (.int .i64 1)) fun v6=>iI x0 v6 v5) (some [x2]):=aT _ _ _ _ _ _ _ _ (by kernel_rfl)
theorem aDc (x0 : PV) : vF x0=bd (PV.whole 10 x0) fun v0=>bd (PV.cell v0 0) fun v1=>bd (PV.cell v0 1) fun v2=>bd (PV.cell v0 2) fun v3=>bd (PV.cell v0 3) fun v4=>bd (PV.cell v0 4) fun v5=>bd (PV.cell v0 5) fun v6=>bd (PV.cell v0 6) fun v7=>bd (PV.cell v0 7) fun v8=>bd (PV.cell v0 8) fun v9=>bd (PV.cell v0 9) fun v10=>bd (qO v1) fun r11=>
 PV.guardOwn (.own 4 64 true [.leaf,.leaf,(.own 3 32 true []),(.own 3 32 true [])]) (gd r11 0) (bd (vH v2) fun r12=>PV.guardOwn (.own 1 24 true [(.own 3 32 true [])]) (gd r12 0) (bd (gG v4) fun r13=>PV.guardOwn (.own 1 16 false []) (gd r13 0) (some [v3,v5,v6,v7,v8,v9,v10,(gd r11 0),(gd r12 0),(gd r13 0)]))):=bQ _ _ _ _ (by kernel_rfl)
theorem lN (x0 : PV) : bP x0=bd (PV.isLst x0) fun v0=>PV.nilT v0 (some [(.lst [])]) (bd (PV.cat 3 32 true (.lst []) x0) fun v1=>some [v1]):=bQ _ _ _ _ (by kernel_rfl)
theorem aAe (x0 x1 : PV) : fG x0 x1=bd (PV.len x1) fun v0=>eZ v0 (.int .i64 0) x0 x1:=bQ _ _ _ _ (by kernel_rfl)
theorem nH (x0 x1 x2 x3 : PV) : eZ x0 x1 x2 x3=bd (PV.bin .lss x1 x0) fun v0=>PV.ite v0 (bd (PV.inb x3 x1) fun v1=>bd (PV.at_ 3 true x3 x1) fun v2=>bd (PV.whole 3 v2) fun v3=>bd (PV.cell v3 0) fun v4=>bd (PV.cell v3 1) fun v5=>bd (PV.cell v3 2) fun v6=>bd (PV.bin .eql v4 (.int .i64 4)) fun v7=>PV.ite v7 (bd (eF x2 v5) fun r8=>
 bd (PV.inb x3 x1) fun v9=>bd (PV.one (hd r8)) fun v10=>bd (PV.setCell 3 x3 x1 1 v10) fun v11=>bd (PV.bin .add x1 (.int .i64 1)) fun v12=>eZ x0 v12 x2 v11) (bd (PV.bin .add x1 (.int .i64 1)) fun v13=>eZ x0 v13 x2 x3)) (some [x2,x3]):=aT _ _ _ _ _ _ _ _ (by kernel_rfl)
theorem kS (x0 : PV) : dW x0=bd (PV.len x0) fun v0=>bN x0 (.int .i64 0) x0 v0 (.int .i64 0):=bQ _ _ _ _ (by kernel_rfl)
theorem dC (x0 x1 x2 x3 x4 : PV) : bN x0 x1 x2 x3 x4=bd (PV.bin .lss x4 x3) fun v0=>PV.ite v0 (bd (PV.at_ 1 false x2 x4) fun v1=>bd (PV.len v1) fun v2=>bd (PV.bin .add x1 v2) fun v3=>bd (PV.bin .lss v3 (.int .i64 0)) fun v4=>PV.ite v4 (none) (bd (PV.bin .add x4 (.int .i64 1)) fun v5=>bN x0 v3 x2 x3 v5))
 (bd (eI x1) fun r6=>bd (PV.len x0) fun v7=>bL x0 v7 (.int .i64 0) (gd r6 0)):=aT _ _ _ _ _ _ _ _ (by kernel_rfl)
theorem dB (x0 x1 x2 x3 : PV) : bL x0 x1 x2 x3=bd (PV.bin .lss x2 x1) fun v0=>PV.ite v0 (bd (PV.at_ 1 false x0 x2) fun v1=>bd (PV.cat 3 32 true x3 v1) fun v2=>bd (PV.bin .add x2 (.int .i64 1)) fun v3=>bL x0 x1 v3 v2) (some [x3]):=aT _ _ _ _ _ _ _ _ (by kernel_rfl)
theorem aAf (x0 x1 x2 x3 x4 x5 x6 x7 x8 x9 x10 x11 x12 x13 x14 x15 : PV) : nE x0 x1 x2 x3 x4 x5 x6 x7 x8 x9 x10 x11 x12 x13 x14 x15=PV.ite x3 (bd (PV.len x5) fun v0=>bd (PV.len x7) fun v1=>bd (xH (.agg [x0,x1,x2]) v0 v1) fun r2=>bd (PV.one (hd r2)) fun v3=>some [v3,x4,x5,x6,x7,x8,x9,x10,x11,x12,x13,x14,x15]) (some [(.bool false),x4,x5,x6,x7,x8,x9,x10,x11,x12,x13,x14,x15]):=bQ _ _ _ _ (by kernel_rfl)
theorem aEp (x0 x1 x2 : PV) : xH x0 x1 x2=bd (PV.whole 3 x0) fun v0=>bd (PV.cell v0 0) fun v1=>bd (PV.cell v0 1) fun v2=>bd (PV.cell v0 2) fun v3=>bd (PV.bin .eql v1 (.int .i64 0)) fun v4=>PV.ite v4 (bd (PV.ceq [1,1,2] .eql (.agg [v1,v2,v3]) (.agg [(.int .i64 0),(.int .i64 0),(.str (bs []))])) fun v5=>some [v5]) (bd (PV.bin .eql v1 (.int .i64 1)) fun v6=>
 PV.ite v6 (bd (sT v2) fun r7=>PV.ite (hd r7) (bd (PV.bin .eql v3 (.str (bs []))) fun v8=>some [v8]) (some [.bool false])) (bd (PV.bin .eql v1 (.int .i64 2)) fun v9=>PV.ite v9 (bd (bU v2 (.int .i64 0) (.int .i64 1)) fun r10=>PV.ite (hd r10) (bd (PV.bin .eql v3 (.str (bs []))) fun v11=>some [v11]) (some [.bool false])) (bd (PV.bin .eql v1 (.int .i64 3)) fun v12=>PV.ite v12
 (bd (PV.bin .eql v2 (.int .i64 0)) fun v13=>PV.ite v13 (bd (nC v3) fun r14=>some [(hd r14)]) (some [.bool false])) (bd (PV.bin .eql v1 (.int .i64 4)) fun v15=>PV.ite v15 (bd (cL v2 x2) fun r16=>PV.ite (hd r16) (bd (PV.bin .eql v3 (.str (bs []))) fun v17=>some [v17]) (some [.bool false])) (bd (PV.bin .eql v1 (.int .i64 5)) fun v18=>PV.ite v18 (bd (cL v2 x1) fun r19=>
 PV.ite (hd r19) (bd (PV.bin .eql v3 (.str (bs []))) fun v20=>some [v20]) (some [.bool false])) (some [.bool false])))))):=aP _ _ _ (by kernel_rfl)
theorem aDd (x0 x1 x2 : PV) : vG x0 x1 x2=lJ x0 x1 (.int .i64 0) x2:=bQ _ _ _ _ (by kernel_rfl)
theorem rH (x0 x1 x2 x3 : PV) : lJ x0 x1 x2 x3=bd (PV.at_ 3 true x3 x0) fun v0=>bd (PV.cell v0 2) fun v1=>bd (PV.len v1) fun v2=>bd (PV.bin .lss x2 v2) fun v3=>PV.ite v3 (bd (PV.at_ 3 true x3 x0) fun v4=>bd (PV.cell v4 2) fun v5=>bd (PV.inb v5 x2) fun v6=>bd (PV.at_ 3 true x3 x0) fun v7=>bd (PV.cell v7 2) fun v8=>bd (PV.one x1) fun v9=>bd (PV.at_ 3 true x3 x0) fun v10=>
 bd (PV.cell v10 2) fun v11=>bd (PV.setCell 2 v11 x2 0 v9) fun v12=>bd (PV.at_ 3 true x3 x0) fun v13=>bd (PV.cell v13 2) fun v14=>bd (PV.setCell 3 x3 x0 2 v12) fun v15=>bd (PV.bin .add x1 (.int .i64 1)) fun v16=>bd (PV.at_ 3 true v15 x0) fun v17=>bd (PV.cell v17 2) fun v18=>bd (PV.inb v18 x2) fun v19=>bd (PV.at_ 3 true v15 x0) fun v20=>bd (PV.cell v20 2) fun v21=>bd (PV.one v16) fun v22=>
 bd (PV.at_ 3 true v15 x0) fun v23=>bd (PV.cell v23 2) fun v24=>bd (PV.setCell 2 v24 x2 1 v22) fun v25=>bd (PV.at_ 3 true v15 x0) fun v26=>bd (PV.cell v26 2) fun v27=>bd (PV.setCell 3 v15 x0 2 v25) fun v28=>bd (PV.bin .add v16 (.int .i64 1)) fun v29=>bd (PV.bin .add x2 (.int .i64 1)) fun v30=>lJ x0 v29 v30 v28) (some [x1,x3]):=aT _ _ _ _ _ _ _ _ (by kernel_rfl)
theorem aBM (x0 x1 x2 : PV) : qN x0 x1 x2=jG x0 x1 (.int .i64 0) x2:=bQ _ _ _ _ (by kernel_rfl)
theorem oY (x0 x1 x2 x3 : PV) : jG x0 x1 x2 x3=bd (PV.at_ 4 true x3 x0) fun v0=>bd (PV.cell v0 2) fun v1=>bd (PV.len v1) fun v2=>bd (PV.bin .lss x2 v2) fun v3=>PV.ite v3 (bd (PV.at_ 4 true x3 x0) fun v4=>bd (PV.cell v4 2) fun v5=>bd (PV.inb v5 x2) fun v6=>bd (PV.at_ 4 true x3 x0) fun v7=>bd (PV.cell v7 2) fun v8=>bd (PV.one x1) fun v9=>bd (PV.at_ 4 true x3 x0) fun v10=>
 bd (PV.cell v10 2) fun v11=>bd (PV.setCell 3 v11 x2 0 v9) fun v12=>bd (PV.at_ 4 true x3 x0) fun v13=>bd (PV.cell v13 2) fun v14=>bd (PV.setCell 4 x3 x0 2 v12) fun v15=>bd (PV.bin .add x1 (.int .i64 1)) fun v16=>bd (PV.at_ 4 true v15 x0) fun v17=>bd (PV.cell v17 2) fun v18=>bd (PV.inb v18 x2) fun v19=>bd (PV.at_ 4 true v15 x0) fun v20=>bd (PV.cell v20 2) fun v21=>bd (PV.one v16) fun v22=>
 bd (PV.at_ 4 true v15 x0) fun v23=>bd (PV.cell v23 2) fun v24=>bd (PV.setCell 3 v24 x2 1 v22) fun v25=>bd (PV.at_ 4 true v15 x0) fun v26=>bd (PV.cell v26 2) fun v27=>bd (PV.setCell 4 v15 x0 2 v25) fun v28=>bd (PV.bin .add v16 (.int .i64 1)) fun v29=>bd (fW v29) fun r30=>bd (PV.at_ 4 true v28 x0) fun v31=>bd (PV.cell v31 2) fun v32=>bd (PV.inb v32 x2) fun v33=>bd (PV.at_ 4 true v28 x0) fun v34=>
 bd (PV.cell v34 2) fun v35=>bd (PV.one (hd r30)) fun v36=>bd (PV.at_ 4 true v28 x0) fun v37=>bd (PV.cell v37 2) fun v38=>bd (PV.setCell 3 v38 x2 2 v36) fun v39=>bd (PV.at_ 4 true v28 x0) fun v40=>bd (PV.cell v40 2) fun v41=>bd (PV.setCell 4 v28 x0 2 v39) fun v42=>bd (PV.bin .add v29 (.int .i64 1)) fun v43=>bd (PV.bin .add x2 (.int .i64 1)) fun v44=>jG x0 v43 v44 v42)
 (some [x1,x3]):=aT _ _ _ _ _ _ _ _ (by kernel_rfl)
theorem yL (x0 x1 x2 : PV) : mU x0 x1 x2=gU x0 x1 (.int .i64 0) x2:=bQ _ _ _ _ (by kernel_rfl)
theorem nI (x0 x1 x2 x3 : PV) : gU x0 x1 x2 x3=bd (PV.at_ 4 true x3 x0) fun v0=>bd (PV.cell v0 3) fun v1=>bd (PV.len v1) fun v2=>bd (PV.bin .lss x2 v2) fun v3=>PV.ite v3 (bd (PV.at_ 4 true x3 x0) fun v4=>bd (PV.cell v4 3) fun v5=>bd (PV.inb v5 x2) fun v6=>bd (PV.at_ 4 true x3 x0) fun v7=>bd (PV.cell v7 3) fun v8=>bd (PV.one x1) fun v9=>bd (PV.at_ 4 true x3 x0) fun v10=>
 bd (PV.cell v10 3) fun v11=>bd (PV.setCell 3 v11 x2 0 v9) fun v12=>bd (PV.at_ 4 true x3 x0) fun v13=>bd (PV.cell v13 3) fun v14=>bd (PV.setCell 4 x3 x0 3 v12) fun v15=>bd (PV.bin .add x1 (.int .i64 1)) fun v16=>bd (PV.at_ 4 true v15 x0) fun v17=>bd (PV.cell v17 3) fun v18=>bd (PV.inb v18 x2) fun v19=>bd (PV.at_ 4 true v15 x0) fun v20=>bd (PV.cell v20 3) fun v21=>bd (PV.one v16) fun v22=>
 bd (PV.at_ 4 true v15 x0) fun v23=>bd (PV.cell v23 3) fun v24=>bd (PV.setCell 3 v24 x2 1 v22) fun v25=>bd (PV.at_ 4 true v15 x0) fun v26=>bd (PV.cell v26 3) fun v27=>bd (PV.setCell 4 v15 x0 3 v25) fun v28=>bd (PV.bin .add v16 (.int .i64 1)) fun v29=>bd (fW v29) fun r30=>bd (PV.at_ 4 true v28 x0) fun v31=>bd (PV.cell v31 3) fun v32=>bd (PV.inb v32 x2) fun v33=>bd (PV.at_ 4 true v28 x0) fun v34=>
 bd (PV.cell v34 3) fun v35=>bd (PV.one (hd r30)) fun v36=>bd (PV.at_ 4 true v28 x0) fun v37=>bd (PV.cell v37 3) fun v38=>bd (PV.setCell 3 v38 x2 2 v36) fun v39=>bd (PV.at_ 4 true v28 x0) fun v40=>bd (PV.cell v40 3) fun v41=>bd (PV.setCell 4 v28 x0 3 v39) fun v42=>bd (PV.bin .add v29 (.int .i64 1)) fun v43=>bd (PV.bin .add x2 (.int .i64 1)) fun v44=>gU x0 v43 v44 v42)
 (some [x1,x3]):=aT _ _ _ _ _ _ _ _ (by kernel_rfl)
theorem yM (x0 x1 x2 : PV) : mW x0 x1 x2=gV x0 x1 (.int .i64 0) x2:=bQ _ _ _ _ (by kernel_rfl)
theorem nJ (x0 x1 x2 x3 : PV) : gV x0 x1 x2 x3=bd (PV.at_ 1 true x3 x0) fun v0=>bd (PV.cell v0 0) fun v1=>bd (PV.len v1) fun v2=>bd (PV.bin .lss x2 v2) fun v3=>PV.ite v3 (bd (PV.at_ 1 true x3 x0) fun v4=>bd (PV.cell v4 0) fun v5=>bd (PV.inb v5 x2) fun v6=>bd (PV.at_ 1 true x3 x0) fun v7=>bd (PV.cell v7 0) fun v8=>bd (PV.one x1) fun v9=>bd (PV.at_ 1 true x3 x0) fun v10=>
 bd (PV.cell v10 0) fun v11=>bd (PV.setCell 3 v11 x2 0 v9) fun v12=>bd (PV.at_ 1 true x3 x0) fun v13=>bd (PV.cell v13 0) fun v14=>bd (PV.setCell 1 x3 x0 0 v12) fun v15=>bd (PV.bin .add x1 (.int .i64 1)) fun v16=>bd (PV.at_ 1 true v15 x0) fun v17=>bd (PV.cell v17 0) fun v18=>bd (PV.inb v18 x2) fun v19=>bd (PV.at_ 1 true v15 x0) fun v20=>bd (PV.cell v20 0) fun v21=>bd (PV.one v16) fun v22=>
 bd (PV.at_ 1 true v15 x0) fun v23=>bd (PV.cell v23 0) fun v24=>bd (PV.setCell 3 v24 x2 1 v22) fun v25=>bd (PV.at_ 1 true v15 x0) fun v26=>bd (PV.cell v26 0) fun v27=>bd (PV.setCell 1 v15 x0 0 v25) fun v28=>bd (PV.bin .add v16 (.int .i64 1)) fun v29=>bd (fW v29) fun r30=>bd (PV.at_ 1 true v28 x0) fun v31=>bd (PV.cell v31 0) fun v32=>bd (PV.inb v32 x2) fun v33=>bd (PV.at_ 1 true v28 x0) fun v34=>
 bd (PV.cell v34 0) fun v35=>bd (PV.one (hd r30)) fun v36=>bd (PV.at_ 1 true v28 x0) fun v37=>bd (PV.cell v37 0) fun v38=>bd (PV.setCell 3 v38 x2 2 v36) fun v39=>bd (PV.at_ 1 true v28 x0) fun v40=>bd (PV.cell v40 0) fun v41=>bd (PV.setCell 1 v28 x0 0 v39) fun v42=>bd (PV.bin .add v29 (.int .i64 1)) fun v43=>bd (PV.bin .add x2 (.int .i64 1)) fun v44=>gV x0 v43 v44 v42)
 (some [x1,x3]):=aT _ _ _ _ _ _ _ _ (by kernel_rfl)
theorem aFL (x0 : PV) : zZ x0=bd (PV.len x0) fun v0=>bd (PV.zeros 16 (.agg [(.int .i64 0),(.int .i64 0)]) v0) fun v1=>bd (PV.bin .leq v0 v0) fun v2=>PV.ite v2 (bd (PV.zeros 16 (.agg [(.int .i64 0),(.int .i64 0)]) v0) fun v3=>oE x0 (.int .i64 0) v3) (none):=bQ _ _ _ _ (by kernel_rfl)
theorem uO (x0 x1 x2 : PV) : oE x0 x1 x2=bd (PV.len x0) fun v0=>bd (PV.bin .lss x1 v0) fun v1=>PV.ite v1 (bd (PV.at_ 2 true x0 x1) fun v2=>bd (aBw v2) fun r3=>bd (PV.inb x2 x1) fun v4=>bd (PV.setAt 2 true x2 x1 (hd r3)) fun v5=>bd (PV.bin .add x1 (.int .i64 1)) fun v6=>oE x0 v6 v5) (some [x2]):=aT _ _ _ _ _ _ _ _ (by kernel_rfl)
theorem aGB (x0 : PV) : aBw x0=bd (PV.whole 2 x0) fun v0=>bd (PV.cell v0 0) fun v1=>bd (PV.cell v0 1) fun v2=>bd (PV.one v1) fun v3=>bd (PV.one v2) fun v4=>some [(.agg [v3,v4])]:=aP _ _ _ (by kernel_rfl)
theorem aDe (x0 : PV) : mE x0=bd (PV.len x0) fun v0=>bd (PV.zeros 32 (.agg [(.int .i64 0),(.int .i64 0),(.str (bs []))]) v0) fun v1=>bd (PV.bin .leq v0 v0) fun v2=>PV.ite v2 (bd (PV.zeros 32 (.agg [(.int .i64 0),(.int .i64 0),(.str (bs []))]) v0) fun v3=>lK x0 (.int .i64 0) v3) (none):=bQ _ _ _ _ (by kernel_rfl)
theorem rI (x0 x1 x2 : PV) : lK x0 x1 x2=bd (PV.len x0) fun v0=>bd (PV.bin .lss x1 v0) fun v1=>PV.ite v1 (bd (PV.at_ 3 true x0 x1) fun v2=>bd (rQ v2) fun r3=>bd (PV.inb x2 x1) fun v4=>bd (PV.setAt 3 true x2 x1 (hd r3)) fun v5=>bd (PV.bin .add x1 (.int .i64 1)) fun v6=>lK x0 v6 v5) (some [x2]):=aT _ _ _ _ _ _ _ _ (by kernel_rfl)
theorem aBN (x0 : PV) : qO x0=bd (PV.len x0) fun v0=>jH x0 v0 (.int .i64 0) (.lst []):=bQ _ _ _ _ (by kernel_rfl)
theorem oZ (x0 x1 x2 x3 : PV) : jH x0 x1 x2 x3=bd (PV.bin .lss x2 x1) fun v0=>PV.ite v0 (bd (PV.at_ 4 true x0 x2) fun v1=>bd (PV.whole 4 v1) fun v2=>bd (PV.cell v2 0) fun v3=>bd (PV.cell v2 1) fun v4=>bd (PV.cell v2 2) fun v5=>bd (PV.cell v2 3) fun v6=>bd (bP v5) fun r7=>PV.guardOwn (.own 3 32 true []) (gd r7 0) (
 bd (bP v6) fun r8=>PV.guardOwn (.own 3 32 true []) (gd r8 0) (bd (PV.cat 4 64 true x3 (.lst [(.agg [v3,v4,(gd r7 0),(gd r8 0)])])) fun v9=>bd (PV.bin .add x2 (.int .i64 1)) fun v10=>jH x0 x1 v10 v9))) (some [x3]):=aT _ _ _ _ _ _ _ _ (by kernel_rfl)
theorem aDf (x0 : PV) : vH x0=bd (PV.len x0) fun v0=>lL x0 v0 (.int .i64 0) (.lst []):=bQ _ _ _ _ (by kernel_rfl)
theorem rJ (x0 x1 x2 x3 : PV) : lL x0 x1 x2 x3=bd (PV.bin .lss x2 x1) fun v0=>PV.ite v0 (bd (PV.at_ 1 true x0 x2) fun v1=>bd (PV.whole 1 v1) fun v2=>bd (PV.cell v2 0) fun v3=>bd (bP v3) fun r4=>PV.guardOwn (.own 3 32 true []) (gd r4 0) (bd (PV.cat 1 24 true x3 (.lst [(.agg [(gd r4 0)])])) fun v5=>bd (PV.bin .add x2 (.int .i64 1)) fun v6=>
 lL x0 x1 v6 v5)) (some [x3]):=aT _ _ _ _ _ _ _ _ (by kernel_rfl)
theorem qB (x0 : PV) : gG x0=bd (PV.isLst x0) fun v0=>PV.nilT v0 (some [(.lst [])]) (bd (PV.cat 1 16 false (.lst []) x0) fun v1=>some [v1]):=bQ _ _ _ _ (by kernel_rfl)
theorem lT (x0 : PV) : eI x0=sG 32 [.nils,.p x0] ⟨[],[],0,0,0⟩:=bQ _ _ _ _ (by kernel_rfl)
end
end Go.Proofs.YthkofpnllaapeaaGreat

namespace Go.Proofs.YthkofpnllaapeaaGreat
noncomputable section
open Go
attribute [local irreducible] bd PV.ite PV.guardFlat PV.guardOwn PV.whole PV.one PV.cell PV.sub PV.at_ PV.len PV.slen PV.chr PV.beq PV.peq PV.ceq PV.bin PV.neg PV.not PV.conv PV.cut PV.scut PV.cat PV.setAt PV.setCell PV.ncopy PV.copyIn PV.zeros PV.toStr PV.toBytes PV.deref PV.isPtr PV.comp PV.inb PV.off PV.imin PV.imax PV.sel PV.apply PV.isLst PV.isInt PV.ix PV.nilT
def Bts (l : List Int) : Prop:=(∀ x∈l,0≤x∧x≤255)∧l.length≤1048576
def aPN (l : List Int) (n a : Int) (r : R) : Prop:=∃ v a' s' : Int,r = [.int .i64 v,wW l,.int .i64 a',.int .i64 s']∧0≤v∧(v<n∨v=0)∧a≤a'∧a'≤a+1∧0≤s'∧s'<65521
section
variable {P : R → Prop} {k : R → Option R} {l : List Int} {a s : Int}
end
structure bK where
 o : Int
 a : Int
 deriving DecidableEq
structure cG where
 p : Int
 lc : Int
 code : List bK
 deriving DecidableEq
structure eJ where
 texts : List ByteArray
 funcs : List cG
def bK.pv (x : bK) : PV:=.agg [.int .i64 x.o,.int .i64 x.a]
def cG.pv (f : cG) : PV:=.agg [.int .i64 f.p,.int .i64 f.lc,.lst (f.code.map bK.pv)]
def eJ.pv (m : eJ) : PV:=.agg [.lst (m.texts.map PV.str),.lst (m.funcs.map cG.pv)]
def jK (n lo hi : Int) : Bool:=decide (lo≤n)&&decide (n≤hi)
def chB (c : UInt8) : Bool:=!(decide ((c.toNat : Int)<32))&&(!(decide ((126 : Int)<c.toNat))&&!(decide ((c.toNat : Int)=34)))
def cP (s : ByteArray) : Bool:=decide ((s.size : Int)≤60)&&s.data.toList.all chB
def bW (nt nf lc nc o a : Int) : Bool:=
 if o=1 then jK a (-1000000000) 1000000000 else if o=2 then jK a 0 1 else if o=3 then jK a 0 (nt - 1) else if o=5 then jK a 0 (nf - 1) else if o=24 then jK a 0 (nf - 1)
 else if o=6 then jK a 0 (lc - 1) else if o=7 then jK a 0 (lc - 1) else if o=17 then jK a 0 (nc - 1) else if o=18 then jK a 0 (nc - 1) else if o=19 then jK a 0 (nc - 1)
 else if o=20 then jK a 0 6 else if o=21 then jK a 0 5 else if o=22 then jK a 0 5 else if o=23 then jK a 0 6 else jK o 1 26&&decide (a=0)
def tJ (nt nf : Int) (f : cG) : Bool:=jK f.p 0 6&&(jK f.lc f.p 12&&(jK f.code.length 1 120&&f.code.all fun x=>bW nt nf f.lc f.code.length x.o x.a))
def eJ.okB (m : eJ) : Bool:=jK m.funcs.length 1 12&&(decide ((m.texts.length : Int)≤20)&&(m.texts.all cP&&m.funcs.all (tJ m.texts.length m.funcs.length)))
def eJ.sized (m : eJ) : Prop:=m.texts.length≤2097152∧m.funcs.length≤2097152∧(∀ t∈m.texts,t.size≤2097152)∧∀ f∈m.funcs,f.code.length≤1000000000
section
variable {P : R → Prop} {k : PV → Option R} {α : Type} {f : α → PV} {xs : List α}
theorem aN {s : Nat} {g : Bool} {kk : IntKind} {i : Nat} (hi : i<xs.length) (hel : ∀ a,(f a).isEl s g=true) (h : Ok P (k (f xs[i]))) : Ok P (bd (PV.at_ s g (.lst (xs.map f)) (.int kk (i : Int))) k):=by
 refine aOm (by omega) (by rw [List.length_map];omega) (fun x hx=>?_) (fun x _ hx=>?_)
 ·obtain ⟨a,_,rfl⟩:=List.mem_map.1 hx;exact hel a
 ·rw [Int.toNat_natCast,List.getElem?_map,List.getElem?_eq_getElem hi] at hx
  cases hx
  exact h
theorem aD (h : Ok P (k (.int .i64 xs.length))) : Ok P (bd (PV.len (.lst (xs.map f))) k):=by
 refine bJ ?_
 rw [List.length_map]
 exact h
theorem aOD {s : ByteArray} {i : Nat} (hi : i<s.data.toList.length) : s[i]? = some s.data.toList[i]:=by
 have h : i<s.size:=by
  have e : s.size=s.data.toList.length:=by rw [Array.length_toList];rfl
  rw [e];exact hi
 rw [getElem?_pos s i h,Array.getElem_toList]
 rfl
theorem aDg {s : ByteArray} {kk : IntKind} {i : Nat} (hi : i<s.data.toList.length) (h : Ok P (k (.int .u8 (s.data.toList[i].toNat : Int)))) : Ok P (bd (PV.chr (.str s) (.int kk (i : Int))) k):=by
 refine dR _ ?_ h
 simp only [PV.chr]
 rw [if_pos (by omega),Int.toNat_natCast,aOD hi]
theorem dX {k : R→Option R} {n lo hi : Int} (h : Ok P (k [.bool (jK n lo hi)])) : Ok P (bd (bU (.int .i64 n) (.int .i64 lo) (.int .i64 hi)) k):=by
 refine aF (Q:=fun r=>r = [.bool (jK n lo hi)]) ?_ (fun r hr=>by rw [hr];exact h)
 rw [aEj]
 refine lQ (aC (fun h1=>lQ (aB ?_)) (fun h1=>aB ?_))
 ·simp [jK,h1]
 ·simp [jK,h1]
theorem dH {k : R→Option R} {n lo hi : Int} (h : Ok P (k [.bool (jK n lo hi)])) : Ok P (bd (aJ (.int .i64 n) (.int .i64 lo) (.int .i64 hi)) k):=by
 refine aF (Q:=fun r=>r = [.bool (jK n lo hi)]) ?_ (fun r hr=>by rw [hr];exact h)
 rw [aBz]
 refine sQ (aC (fun h1=>lQ (aB ?_)) (fun h1=>aB ?_))
 ·simp [jK,h1]
 ·simp [jK,h1]
theorem fA {k : R→Option R} {n m : Int} (hm : -1000000000≤m∧m≤1000000000) (h : Ok P (k [.bool (jK n 0 (m - 1))])) : Ok P (bd (cL (.int .i64 n) (.int .i64 m)) k):=by
 refine aF (Q:=fun r=>r = [.bool (jK n 0 (m - 1))]) ?_ (fun r hr=>by rw [hr];exact h)
 rw [aEl]
 exact bY (by omega) (dX (aB rfl))
theorem aML {k : R→Option R} {n : Int} (h : Ok P (k [.bool (jK n (-1000000000) 1000000000)])) : Ok P (bd (sT (.int .i64 n)) k):=by
 refine aF (Q:=fun r=>r = [.bool (jK n (-1000000000) 1000000000)]) ?_ (fun r hr=>by rw [hr];exact h)
 rw [aA8]
 exact dX (aB rfl)
end
theorem wE {α : Type} {xs : List α} {i : Nat} (hi : i<xs.length) (p : α→Bool) : (xs.drop i).all p=(p xs[i]&&(xs.drop (i+1)).all p):=by
 rw [List.drop_eq_getElem_cons hi,List.all_cons]
theorem aOn {c : UInt8} (h : (c.toNat : Int)<32) : chB c=false:=by unfold chB;rw [decide_eq_true h];rfl
theorem aOo {c : UInt8} (h : (126 : Int)<c.toNat) : chB c=false:=by unfold chB;rw [decide_eq_true h];simp
theorem aOp {c : UInt8} (h : (c.toNat : Int)=34) : chB c=false:=by unfold chB;rw [decide_eq_true h];simp
theorem aFM {s : ByteArray} (hs : s.size≤2097152) : ∀ (j i : Nat),s.data.toList.length - i=j→i≤s.data.toList.length→
 Ok (fun r=>r = [.bool ((s.data.toList.drop i).all chB)]) (mJ (.str s) (.int .i64 i)):=by
 have hsz : s.size=s.data.toList.length:=by rw [Array.length_toList];rfl
 intro j
 induction j with
 | zero=>
   intro i h1 h2
   have : i=s.data.toList.length:=by omega
   rw [tB]
   refine wV (aE (aC (fun h=>by omega) (fun _=>aB ?_)))
   rw [this,List.drop_length];rfl
 | succ j ih=>
   intro i h1 h2
   have hi : i<s.data.toList.length:=by omega
   rw [tB,wE hi]
   refine wV (aE (aC (fun _=>?_) (fun h=>by omega)))
   refine aDg hi (aE (aC (fun h=>aB (by rw [aOn h];rfl)) (fun h3=>?_)))
   refine aDg hi (iC (aC (fun h=>aB (by rw [aOo h];rfl)) (fun h4=>?_)))
   refine aDg hi (aM (aC (fun h=>aB (by rw [aOp h];rfl)) (fun h5=>?_)))
   refine aI (by omega) ((ih (i+1) (by omega) (by omega)).mono ?_)
   rintro r rfl
   have : chB s.data.toList[i]=true:=by unfold chB;rw [decide_eq_false h3,decide_eq_false h4,decide_eq_false h5];rfl
   rw [this,Bool.true_and]
theorem aEy {P : R→Prop} {k : R→Option R} {s : ByteArray} (hs : s.size≤2097152) (h : Ok P (k [.bool (cP s)])) : Ok P (bd (lE (.str s)) k):=by
 refine aF (Q:=fun r=>r = [.bool (cP s)]) ?_ (fun r hr=>by rw [hr];exact h)
 rw [aEf]
 refine wV (iC (aC (fun h=>aB ?_) (fun h=>?_)))
 ·have : ¬ ((s.size : Int)≤60):=by omega
  simp [cP,this]
 ·refine (aFM hs _ 0 rfl (by omega)).mono ?_
  rintro r rfl
  have : (s.size : Int)≤60:=by omega
  rw [List.drop_zero]
  simp [cP,this]
theorem aFN {s : ByteArray} (hs : s.size≤2097152) : ∀ (j i : Nat),s.data.toList.length - i=j→i≤s.data.toList.length→
 Ok (fun r=>r = [.bool (decide ((s.size : Int)≤60)&&(s.data.toList.drop i).all chB)]) (oA (.str s) (.int .i64 s.size) (.int .i64 i)):=by
 have hsz : s.size=s.data.toList.length:=by rw [Array.length_toList];rfl
 intro j
 induction j with
 | zero=>
   intro i h1 h2
   have : i=s.data.toList.length:=by omega
   rw [uL]
   refine aE (aC (fun h=>by omega) (fun _=>wV (lQ (aB ?_))))
   rw [this,List.drop_length]
   simp
 | succ j ih=>
   intro i h1 h2
   have hi : i<s.data.toList.length:=by omega
   rw [uL,wE hi]
   refine aE (aC (fun _=>?_) (fun h=>by omega))
   refine aDg hi (aE (aC (fun h=>aB (by rw [aOn h];simp)) (fun h3=>?_)))
   refine aDg hi (iC (aC (fun h=>aB (by rw [aOo h];simp)) (fun h4=>?_)))
   refine aDg hi (aM (aC (fun h=>aB (by rw [aOp h];simp)) (fun h5=>?_)))
   refine aI (by omega) ((ih (i+1) (by omega) (by omega)).mono ?_)
   rintro r rfl
   have : chB s.data.toList[i]=true:=by unfold chB;rw [decide_eq_false h3,decide_eq_false h4,decide_eq_false h5];rfl
   rw [this,Bool.true_and]
theorem aAH {s : ByteArray} (hs : s.size≤2097152) : Ok (fun r=>r = [.bool (cP s)]) (nC (.str s)):=by
 rw [aFG]
 refine wV ((aFN hs _ 0 rfl (by omega)).mono ?_)
 rintro r rfl
 rw [List.drop_zero]
 rfl
theorem aMM {ts : List ByteArray} {fs : List cG} {i : Nat} {x : bK} (ht : ts.length≤2097152) (hf : fs.length≤2097152) (hi : i<fs.length) (hlc : 0≤fs[i].lc∧fs[i].lc≤12) (hc : fs[i].code.length≤1000) :
 Ok (fun r=>r = [.bool (bW ts.length fs.length fs[i].lc fs[i].code.length x.o x.a)]) (aBt (.agg [.lst (ts.map PV.str),.lst (fs.map cG.pv)]) (.int .i64 i) x.pv):=by
 rw [aGy]
 refine aH rfl (aA rfl (aA rfl (aH rfl (aA rfl (aA rfl ?_)))))
 refine aD (bY (by omega) (dH (bC ?_)))
 have hb : jK (i : Int) 0 ((fs.length : Int) - 1)=true:=by
  simp only [jK,Bool.and_eq_true,decide_eq_true_eq]
  omega
 rw [hb]
 refine aQ ?_
 refine aM (aC (fun h=>dH (aB (by simp [hd,bW,h]))) (fun h1=>?_))
 refine aM (aC (fun h=>dH (aB (by simp [hd,bW,h]))) (fun h2=>?_))
 refine aM (aC (fun h=>aD (bY (by omega) (dH (aB (by simp [hd,bW,h]))))) (fun h3=>?_))
 refine aM (aC (fun h=>aD (bY (by omega) (dH (aB (by simp [hd,bW,h]))))) (fun h5=>?_))
 refine aM (aC (fun h=>aD (bY (by omega) (dH (aB (by simp [hd,bW,h]))))) (fun h24=>?_))
 refine aM (aC (fun h=>aN hi (fun _=>rfl) (aA rfl (bY (by omega) (dH (aB (by simp [hd,bW,h])))))) (fun h6=>?_))
 refine aM (aC (fun h=>aN hi (fun _=>rfl) (aA rfl (bY (by omega) (dH (aB (by simp [hd,bW,h])))))) (fun h7=>?_))
 refine aM (aC (fun h=>aN hi (fun _=>rfl) (aA rfl (aD (bY (by omega) (dH (aB (by simp [hd,bW,h]))))))) (fun h17=>?_))
 refine aM (aC (fun h=>aN hi (fun _=>rfl) (aA rfl (aD (bY (by omega) (dH (aB (by simp [hd,bW,h]))))))) (fun h18=>?_))
 refine aM (aC (fun h=>aN hi (fun _=>rfl) (aA rfl (aD (bY (by omega) (dH (aB (by simp [hd,bW,h]))))))) (fun h19=>?_))
 refine aM (aC (fun h=>dH (aB (by simp [hd,bW,h]))) (fun h20=>?_))
 refine aM (aC (fun h=>dH (aB (by simp [hd,bW,h]))) (fun h21=>?_))
 refine aM (aC (fun h=>dH (aB (by simp [hd,bW,h]))) (fun h22=>?_))
 refine aM (aC (fun h=>dH (aB (by simp [hd,bW,h]))) (fun h23=>?_))
 refine dH (aZ (fun hb=>aM (aB (by simp [hd,bW,hb,h1,h2,h3,h5,h24,h6,h7,h17,h18,h19,h20,h21,h22,h23]))) (fun hb=>aB (by simp [hd,bW,hb,h1,h2,h3,h5,h24,h6,h7,h17,h18,h19,h20,h21,h22,h23])))
theorem aMN {ts : List ByteArray} {fs : List cG} {f : cG} {x : bK} (ht : ts.length≤2097152) (hf : fs.length≤2097152) (hlc : 0≤f.lc∧f.lc≤12) (hc : f.code.length≤1000) :
 Ok (fun r=>r = [.bool (bW ts.length fs.length f.lc f.code.length x.o x.a)]) (aBu (.agg [.lst (ts.map PV.str),.lst (fs.map cG.pv)]) f.pv x.pv):=by
 rw [aGz]
 refine aH rfl (aA rfl (aA rfl (aH rfl (aA rfl (aA rfl (aA rfl (aH rfl (aA rfl (aA rfl ?_)))))))))
 refine aM (aC (fun h=>aML (aB (by simp [hd,bW,h]))) (fun h1=>?_))
 refine aM (aC (fun h=>dX (aB (by simp [hd,bW,h]))) (fun h2=>?_))
 refine aM (aC (fun h=>aD (fA (by omega) (aB (by simp [hd,bW,h])))) (fun h3=>?_))
 refine aM (aC (fun h=>aD (fA (by omega) (aB (by simp [hd,bW,h])))) (fun h5=>?_))
 refine aM (aC (fun h=>aD (fA (by omega) (aB (by simp [hd,bW,h])))) (fun h24=>?_))
 refine aM (aC (fun h=>fA (by omega) (aB (by simp [hd,bW,h]))) (fun h6=>?_))
 refine aM (aC (fun h=>fA (by omega) (aB (by simp [hd,bW,h]))) (fun h7=>?_))
 refine aM (aC (fun h=>aD (fA (by omega) (aB (by simp [hd,bW,h])))) (fun h17=>?_))
 refine aM (aC (fun h=>aD (fA (by omega) (aB (by simp [hd,bW,h])))) (fun h18=>?_))
 refine aM (aC (fun h=>aD (fA (by omega) (aB (by simp [hd,bW,h])))) (fun h19=>?_))
 refine aM (aC (fun h=>dX (aB (by simp [hd,bW,h]))) (fun h20=>?_))
 refine aM (aC (fun h=>fA (by omega) (aB (by simp [hd,bW,h]))) (fun h21=>?_))
 refine aM (aC (fun h=>fA (by omega) (aB (by simp [hd,bW,h]))) (fun h22=>?_))
 refine aM (aC (fun h=>dX (aB (by simp [hd,bW,h]))) (fun h23=>?_))
 refine dX (aZ (fun hb=>aM (aB (by simp [hd,bW,hb,h1,h2,h3,h5,h24,h6,h7,h17,h18,h19,h20,h21,h22,h23]))) (fun hb=>aB (by simp [hd,bW,hb,h1,h2,h3,h5,h24,h6,h7,h17,h18,h19,h20,h21,h22,h23])))
section
variable {ts : List ByteArray} {fs : List cG} (ht : ts.length ≤ 2097152) (hf : fs.length ≤ 2097152)
include ht hf
theorem aH0 {i : Nat} (hi : i<fs.length) (hlc : 0≤fs[i].lc∧fs[i].lc≤12) (hc : fs[i].code.length≤1000) {b : Bool} (hb : Ok (fun r=>r = [.bool b]) (iT (.int .i64 ((i : Int)+1)) (.lst (ts.map PV.str)) (.lst (fs.map cG.pv)))) :
 ∀ (j n : Nat),fs[i].code.length - n=j→n≤fs[i].code.length→
 Ok (fun r=>r = [.bool ((fs[i].code.drop n).all (fun x=>bW ts.length fs.length fs[i].lc fs[i].code.length x.o x.a)&&b)])
  (kD (.int .i64 i) (.int .i64 n) (.lst (ts.map PV.str)) (.lst (fs.map cG.pv)) (.int .i64 fs[i].p) (.int .i64 fs[i].lc) (.lst (fs[i].code.map bK.pv))):=by
 intro j
 induction j with
 | zero=>
   intro n h1 h2
   have : n=fs[i].code.length:=by omega
   rw [pX]
   refine aD (aE (aC (fun h=>by omega) (fun _=>aI (by omega) ?_)))
   rw [this,List.drop_length]
   exact hb
 | succ j ih=>
   intro n h1 h2
   have hn : n<fs[i].code.length:=by omega
   rw [pX,wE hn]
   refine aD (aE (aC (fun _=>?_) (fun h=>by omega)))
   refine aN hn (fun _=>rfl) (aF (aMM ht hf hi hlc hc) (fun r hr=>?_))
   subst hr
   refine bC (aZ (fun h=>aB ?_) (fun h=>?_))
   ·have : bW ts.length fs.length fs[i].lc fs[i].code.length fs[i].code[n].o fs[i].code[n].a=false:=by simpa using h
    rw [this];rfl
   ·have : bW ts.length fs.length fs[i].lc fs[i].code.length fs[i].code[n].o fs[i].code[n].a=true:=by simpa using h
    rw [this,Bool.true_and]
    exact aI (by omega) (ih (n+1) (by omega) (by omega))
theorem aH1 : ∀ (j i : Nat),fs.length - i=j→i≤fs.length→
 Ok (fun r=>r = [.bool ((fs.drop i).all (tJ ts.length fs.length))]) (iT (.int .i64 i) (.lst (ts.map PV.str)) (.lst (fs.map cG.pv))):=by
 intro j
 induction j with
 | zero=>
   intro i h1 h2
   have : i=fs.length:=by omega
   rw [rD]
   refine aD (aE (aC (fun h=>by omega) (fun _=>aB ?_)))
   rw [this,List.drop_length];rfl
 | succ j ih=>
   intro i h1 h2
   have hi : i<fs.length:=by omega
   rw [rD,wE hi]
   refine aD (aE (aC (fun _=>?_) (fun h=>by omega)))
   refine aN hi (fun _=>rfl) (aH rfl (aA rfl (aA rfl (aA rfl ?_))))
   refine dH (bC (aZ (fun h=>aB ?_) (fun h1'=>?_)))
   ·have : jK fs[i].p 0 6=false:=by simpa using h
    simp [tJ,this]
   refine dH (bC (aZ (fun h=>aB ?_) (fun h2'=>?_)))
   ·have : jK fs[i].lc fs[i].p 12=false:=by simpa using h
    simp [tJ,this]
   refine aD (dH (bC (aZ (fun h=>aB ?_) (fun h3'=>?_))))
   ·have : jK (fs[i].code.length : Int) 1 120=false:=by simpa using h
    simp [tJ,this]
   have g1 : jK fs[i].p 0 6=true:=by simpa using h1'
   have g2 : jK fs[i].lc fs[i].p 12=true:=by simpa using h2'
   have g3 : jK (fs[i].code.length : Int) 1 120=true:=by simpa using h3'
   have q1:=g1
   have q2:=g2
   have q3:=g3
   simp only [jK,Bool.and_eq_true,decide_eq_true_eq] at q1 q2 q3
   refine (aH0 ht hf hi (by omega) (by omega) (ih (i+1) (by omega) (by omega)) _ 0 rfl (by omega)).mono ?_
   rintro r rfl
   rw [List.drop_zero]
   simp only [tJ,g1,g2,g3,Bool.true_and]
theorem aGC (hs : ∀ t∈ts,t.size≤2097152) : ∀ (j i : Nat),ts.length - i=j→i≤ts.length→
 Ok (fun r=>r = [.bool ((ts.drop i).all cP&&fs.all (tJ ts.length fs.length))]) (lF (.int .i64 i) (.lst (ts.map PV.str)) (.lst (fs.map cG.pv))):=by
 intro j
 induction j with
 | zero=>
   intro i h1 h2
   have : i=ts.length:=by omega
   rw [rC]
   refine aD (aE (aC (fun h=>by omega) (fun _=>?_)))
   rw [this,List.drop_length]
   exact aH1 ht hf _ 0 rfl (by omega)
 | succ j ih=>
   intro i h1 h2
   have hi : i<ts.length:=by omega
   rw [rC,wE hi]
   refine aD (aE (aC (fun _=>?_) (fun h=>by omega)))
   refine aN hi (fun _=>rfl) (aEy (hs _ (List.getElem_mem _)) (bC (aZ (fun h=>aB ?_) (fun h=>?_))))
   ·have : cP ts[i]=false:=by simpa using h
    rw [this];rfl
   ·have : cP ts[i]=true:=by simpa using h
    rw [this,Bool.true_and]
    exact aI (by omega) (ih (i+1) (by omega) (by omega))
end
theorem aGD {m : eJ} (h : m.sized) : Ok (fun r=>r = [.bool m.okB]) (vA m.pv):=by
 obtain ⟨ht,hf,hs,_⟩:=h
 rw [aC6]
 refine aH rfl (aA rfl (aA rfl (aD (dH (bC (aZ (fun h=>aB ?_) (fun h1=>?_)))))))
 ·have : jK (m.funcs.length : Int) 1 12=false:=by simpa using h
  simp [eJ.okB,this]
 refine aD (iC (aC (fun h=>aB ?_) (fun h2=>?_)))
 ·have : ¬ ((m.texts.length : Int)≤20):=by omega
  simp only [eJ.okB,decide_eq_false this,Bool.false_and,Bool.and_false]
 have g1 : jK (m.funcs.length : Int) 1 12=true:=by simpa using h1
 have g2 : (m.texts.length : Int)≤20:=by omega
 refine (aGC ht hf hs _ 0 rfl (by omega)).mono ?_
 rintro r rfl
 rw [List.drop_zero]
 simp only [eJ.okB,g1,decide_eq_true g2,Bool.true_and]
section
variable {P : R → Prop} {k : PV → Option R} {kr : R → Option R}
theorem aLO {f : Nat} {caps : List PV} {xs : List bK} (hx : xs.length≤1000000000) (p : bK→Bool) (hp : ∀ x∈xs,Ok (fun r=>r = [.bool (p x)]) (aS f ([x.pv]++caps))) : ∀ (j i : Nat),xs.length - i=j→i≤xs.length→
 Ok (fun r=>∃ n : Int,r = [.int .i64 n]∧(0≤n↔(xs.drop i).any p=true)) (cO (.lst (xs.map bK.pv)) (.fn f caps) (.int .i64 xs.length) (.int .i64 i)):=by
 intro j
 induction j with
 | zero=>
   intro i h1 h2
   have : i=xs.length:=by omega
   rw [eT]
   refine aE (aC (fun h=>by omega) (fun _=>aB ⟨-1,rfl,?_⟩))
   rw [this,List.drop_length]
   simp
 | succ j ih=>
   intro i h1 h2
   have hi : i<xs.length:=by omega
   rw [eT]
   refine aE (aC (fun _=>?_) (fun h=>by omega))
   refine aN hi (fun _=>rfl) (zL rfl (hp _ (List.getElem_mem _)) (fun r hr=>?_))
   subst hr
   rw [List.drop_eq_getElem_cons hi,List.any_cons]
   refine aZ (fun h=>aB ⟨i,rfl,?_⟩) (fun h=>?_)
   ·rw [h];simp
   ·refine aI (by omega) ((ih (i+1) (by omega) (by omega)).mono ?_)
    rintro r ⟨n,hr,hn⟩
    exact ⟨n,hr,by rw [h,Bool.false_or];exact hn⟩
theorem aLP {f : Nat} {caps : List PV} {xs : List bK} (hx : xs.length≤1000000000) (p : bK→Bool) (hp : ∀ x∈xs,Ok (fun r=>r = [.bool (p x)]) (aS f ([x.pv]++caps))) (h : Ok P (kr [.bool (xs.any p)])) :
 Ok P (bd (dP (.lst (xs.map bK.pv)) (.fn f caps)) kr):=by
 refine aF (Q:=fun r=>r = [.bool (xs.any p)]) ?_ (fun r hr=>by rw [hr];exact h)
 rw [kA]
 refine aF (Q:=fun r=>∃ n : Int,r = [.int .i64 n]∧(0≤n↔xs.any p=true)) ?_ ?_
 ·rw [lM]
  refine aD ?_
  exact aLO hx p hp _ 0 rfl (by omega)
 ·rintro r ⟨n,rfl,hn⟩
  refine sQ (aB ?_)
  have : decide (0≤n)=xs.any p:=by
   by_cases h : 0≤n
   ·rw [decide_eq_true h,hn.1 h]
   ·rw [decide_eq_false h]
    cases h2 : xs.any p with
    | false=>rfl
    | true=>exact absurd (hn.2 h2) h
  rw [this]
theorem aLQ {f : Nat} {caps : List PV} {xs : List ByteArray} (hx : xs.length≤1000000000) (p : ByteArray→Bool) (hp : ∀ x∈xs,Ok (fun r=>r = [.bool (p x)]) (aS f ([.str x]++caps))) : ∀ (j i : Nat),xs.length - i=j→i≤xs.length→
 Ok (fun r=>∃ n : Int,r = [.int .i64 n]∧(0≤n↔(xs.drop i).any p=true)) (dG (.lst (xs.map PV.str)) (.fn f caps) (.int .i64 xs.length) (.int .i64 i)):=by
 intro j
 induction j with
 | zero=>
   intro i h1 h2
   have : i=xs.length:=by omega
   rw [fR]
   refine aE (aC (fun h=>by omega) (fun _=>aB ⟨-1,rfl,?_⟩))
   rw [this,List.drop_length]
   simp
 | succ j ih=>
   intro i h1 h2
   have hi : i<xs.length:=by omega
   rw [fR]
   refine aE (aC (fun _=>?_) (fun h=>by omega))
   refine aN hi (fun _=>rfl) (zL rfl (hp _ (List.getElem_mem _)) (fun r hr=>?_))
   subst hr
   rw [List.drop_eq_getElem_cons hi,List.any_cons]
   refine aZ (fun h=>aB ⟨i,rfl,?_⟩) (fun h=>?_)
   ·rw [h];simp
   ·refine aI (by omega) ((ih (i+1) (by omega) (by omega)).mono ?_)
    rintro r ⟨n,hr,hn⟩
    exact ⟨n,hr,by rw [h,Bool.false_or];exact hn⟩
theorem aDh {f : Nat} {caps : List PV} {xs : List ByteArray} (hx : xs.length≤1000000000) (p : ByteArray→Bool) (hp : ∀ x∈xs,Ok (fun r=>r = [.bool (p x)]) (aS f ([.str x]++caps))) (h : Ok P (kr [.bool (xs.any p)])) :
 Ok P (bd (dF (.lst (xs.map PV.str)) (.fn f caps)) kr):=by
 refine aF (Q:=fun r=>r = [.bool (xs.any p)]) ?_ (fun r hr=>by rw [hr];exact h)
 rw [lS]
 refine aF (Q:=fun r=>∃ n : Int,r = [.int .i64 n]∧(0≤n↔xs.any p=true)) ?_ ?_
 ·rw [nN]
  refine aD ?_
  exact aLQ hx p hp _ 0 rfl (by omega)
 ·rintro r ⟨n,rfl,hn⟩
  refine sQ (aB ?_)
  have : decide (0≤n)=xs.any p:=by
   by_cases h : 0≤n
   ·rw [decide_eq_true h,hn.1 h]
   ·rw [decide_eq_false h]
    cases h2 : xs.any p with
    | false=>rfl
    | true=>exact absurd (hn.2 h2) h
  rw [this]
end
theorem aH2 {α : Type} (p : α→Bool) : ∀ (xs : List α),xs.any (fun x=>!p x) = !xs.all p
 | []=>rfl
 | x::r=>by rw [List.any_cons,List.all_cons,aH2 p r,Bool.not_and]
section
variable {ts : List ByteArray} {fs : List cG} (ht : ts.length ≤ 2097152) (hf : fs.length ≤ 2097152)
include ht hf
theorem aH3 : ∀ (j i : Nat),fs.length - i=j→i≤fs.length→
 Ok (fun r=>r = [.bool ((fs.drop i).all (tJ ts.length fs.length))]) (lG (.lst (fs.map cG.pv)) (.int .i64 fs.length) (.int .i64 i) (.lst (ts.map PV.str)) (.lst (fs.map cG.pv))):=by
 intro j
 induction j with
 | zero=>
   intro i h1 h2
   have : i=fs.length:=by omega
   rw [rE]
   refine aE (aC (fun h=>by omega) (fun _=>aB ?_))
   rw [this,List.drop_length];rfl
 | succ j ih=>
   intro i h1 h2
   have hi : i<fs.length:=by omega
   rw [rE,wE hi]
   refine aE (aC (fun _=>?_) (fun h=>by omega))
   refine aN hi (fun _=>rfl) (aH rfl (aA rfl (aA rfl (aA rfl ?_))))
   refine dX (bC (aZ (fun h=>aB ?_) (fun h1'=>?_)))
   ·have : jK fs[i].p 0 6=false:=by simpa using h
    simp [tJ,this]
   refine dX (bC (aZ (fun h=>aB ?_) (fun h2'=>?_)))
   ·have : jK fs[i].lc fs[i].p 12=false:=by simpa using h
    simp [tJ,this]
   refine aD (dX (bC (aZ (fun h=>aB ?_) (fun h3'=>?_))))
   ·have : jK (fs[i].code.length : Int) 1 120=false:=by simpa using h
    simp [tJ,this]
   have g1 : jK fs[i].p 0 6=true:=by simpa using h1'
   have g2 : jK fs[i].lc fs[i].p 12=true:=by simpa using h2'
   have g3 : jK (fs[i].code.length : Int) 1 120=true:=by simpa using h3'
   have q1:=g1
   have q2:=g2
   have q3:=g3
   simp only [jK,Bool.and_eq_true,decide_eq_true_eq] at q1 q2 q3
   refine aLP (by omega) (fun x=>!bW ts.length fs.length fs[i].lc fs[i].code.length x.o x.a) (fun x _=>?_) ?_
   ·show Ok _ (yD _ _ _)
    rw [aBF]
    refine aH rfl (aA rfl (aA rfl (sR rfl (sR rfl (sR rfl (sR rfl (sR rfl ?_)))))))
    refine aF (aMN (f:=fs[i]) (x:=x) ht hf (by omega) (by omega)) (fun r hr=>?_)
    subst hr
    exact bC (aB rfl)
   ·rw [aH2 (fun x : bK=>bW ts.length fs.length fs[i].lc fs[i].code.length x.o x.a)]
    refine fE rfl (aZ (fun h=>aB ?_) (fun h=>?_))
    ·have : fs[i].code.all (fun x=>bW ts.length fs.length fs[i].lc fs[i].code.length x.o x.a)=false:=by simpa using h
     simp only [tJ,this,Bool.and_false,Bool.false_and]
    ·have g4 : fs[i].code.all (fun x=>bW ts.length fs.length fs[i].lc fs[i].code.length x.o x.a)=true:=by
      rw [Bool.not_eq_false'] at h
      exact h
     refine aI (by omega) ((ih (i+1) (by omega) (by omega)).mono ?_)
     rintro r rfl
     simp only [tJ,g1,g2,g3,g4,Bool.true_and]
end
theorem aGE {m : eJ} (h : m.sized) : Ok (fun r=>r = [.bool m.okB]) (vB m.pv):=by
 obtain ⟨ht,hf,hs,_⟩:=h
 rw [aC7]
 refine aH rfl (aA rfl (aA rfl (aD (dX (bC (aZ (fun h=>aB ?_) (fun h1=>?_)))))))
 ·have : jK (m.funcs.length : Int) 1 12=false:=by simpa using h
  simp [eJ.okB,this]
 refine aD (iC (aC (fun h=>aB ?_) (fun h2=>?_)))
 ·have : ¬ ((m.texts.length : Int)≤20):=by omega
  simp only [eJ.okB,decide_eq_false this,Bool.false_and,Bool.and_false]
 have g1 : jK (m.funcs.length : Int) 1 12=true:=by simpa using h1
 have g2 : (m.texts.length : Int)≤20:=by omega
 refine aDh (by omega) (fun s=>!cP s) (fun x hx=>?_) ?_
 ·show Ok _ (yC _)
  rw [aBE]
  refine aF (aAH (hs x hx)) (fun r hr=>?_)
  subst hr
  exact bC (aB rfl)
 ·rw [aH2 cP]
  refine aZ (fun h=>aB ?_) (fun h=>?_)
  ·have : m.texts.all cP=false:=by rw [Bool.not_eq_true'] at h;exact h
   simp only [eJ.okB,this,Bool.and_false,Bool.false_and]
  ·have g3 : m.texts.all cP=true:=by rw [Bool.not_eq_false'] at h;exact h
   refine aD ((aH3 ht hf _ 0 rfl (by omega)).mono ?_)
   rintro r rfl
   rw [List.drop_zero]
   simp only [eJ.okB,g1,decide_eq_true g2,g3,Bool.true_and]
theorem cT {n : Nat} {F : Nat→Option R} {P : Nat→R→Prop} (he : Ok (P n) (F n)) (hs : ∀ i,i<n→Ok (P (i+1)) (F (i+1))→Ok (P i) (F i)) : ∀ i,i≤n→Ok (P i) (F i):=by
 have key : ∀ j i,n - i=j→i≤n→Ok (P i) (F i):=by
  intro j
  induction j with
  | zero=>intro i h1 h2;have : i=n:=by omega
          subst this;exact he
  | succ j ih=>intro i h1 h2;exact hs i (by omega) (ih (i+1) (by omega) (by omega))
 exact fun i hi=>key _ i rfl hi
theorem xK {σ : Type} {n : Nat} {F : Nat→σ→Option R} {P : R→Prop} (I : Nat→σ→Prop) (he : ∀ s,I n s→Ok P (F n s)) (hs : ∀ i s,i<n→I i s→(∀ s',I (i+1) s'→Ok P (F (i+1) s'))→Ok P (F i s)) : ∀ i s,i≤n→I i s→Ok P (F i s):=by
 have key : ∀ j i s,n - i=j→i≤n→I i s→Ok P (F i s):=by
  intro j
  induction j with
  | zero=>intro i s h1 h2 hI;have : i=n:=by omega
          subst this;exact he s hI
  | succ j ih=>intro i s h1 h2 hI;exact hs i s (by omega) hI (fun s' hI'=>ih (i+1) s' (by omega) (by omega) hI')
 exact fun i s hi hI=>key _ i s rfl hi hI
theorem aCn {α : Type} (n : Nat) (p : Nat→Option α) : (List.range' n (n - n)).findSome? p=none:=by rw [Nat.sub_self];rfl
theorem aAI {α : Type} {i n : Nat} (hi : i<n) (p : Nat→Option α) : (List.range' i (n - i)).findSome? p=(p i).or ((List.range' (i+1) (n - (i+1))).findSome? p):=by
 have : n - i=(n - (i+1))+1:=by omega
 rw [this,List.range'_succ,List.findSome?_cons]
 cases p i<;>rfl
def aX (l : List Int) : PV:=.lst (l.map (PV.int .i64))
section
variable {P : R → Prop} {k : PV → Option R} {l : List Int}
theorem cB (h : Ok P (k (.int .i64 l.length))) : Ok P (bd (PV.len (aX l)) k):=aD h
theorem cJ {i : Nat} {kk : IntKind} (hi : i<l.length) (h : Ok P (k (.int .i64 l[i]))) : Ok P (bd (PV.at_ 1 false (aX l) (.int kk (i : Int))) k):=aN hi (fun _=>rfl) h
theorem cX {i : Int} {kk : IntKind} (h0 : 0≤i) (hi : i<l.length) (h : Ok P (k (aX l))) : Ok P (bd (PV.inb (aX l) (.int kk i)) k):=aKm h0 (by rw [List.length_map];exact hi) h
theorem qC {i : Nat} {x : Int} {kk : IntKind} (hi : i<l.length) (h : Ok P (k (aX (l.set i x)))) : Ok P (bd (PV.setAt 1 false (aX l) (.int kk (i : Int)) (.int .i64 x)) k):=by
 refine aJd (by omega) (by rw [List.length_map];omega) rfl ?_
 rw [Int.toNat_natCast,← List.map_set]
 exact h
theorem dT {ys : List Int} {e : Nat} (hb : (l.length+ys.length)*e≤140737488355328) (h : Ok P (k (aX (l++ys)))) : Ok P (bd (PV.cat 1 e false (aX l) (.lst (ys.map (PV.int .i64)))) k):=by
 refine nT (by simpa using hb) (fun x hx=>?_) ?_
 ·obtain ⟨a,_,rfl⟩:=List.mem_map.1 hx;rfl
 ·rw [← List.map_append];exact h
theorem hJ {i : Int} {kk : IntKind} (h0 : 0≤i) (h1 : i<l.length) (h : ∀ x,l[i.toNat]? = some x→Ok P (k (.int .i64 x))) : Ok P (bd (PV.at_ 1 false (aX l) (.int kk i)) k):=by
 refine aOm h0 (by rw [List.length_map];exact h1) (fun x hx=>?_) (fun x _ hx=>?_)
 ·obtain ⟨a,_,rfl⟩:=List.mem_map.1 hx;rfl
 ·rw [List.getElem?_map] at hx
  cases hl : l[i.toNat]? with
  | none=>rw [hl] at hx;cases hx
  | some y=>rw [hl] at hx;cases hx;exact h y hl
end
def oL (fs : List cG) (i : Int) : Int:=(fs[i.toNat]?.map cG.p).getD 0
def dQ (fs : List cG) (x : bK) : Int × Int:=
 if (1≤x.o∧x.o≤6)∨x.o=20 then (0,1)
 else if x.o=7∨x.o=9∨x.o=18∨x.o=19∨x.o=25∨x.o=26 then (1,0)
 else if x.o=8 then (1,2)
 else if x.o=10 then (2,2)
 else if 11≤x.o∧x.o≤15 then (2,1)
 else if x.o=16∨x.o=21 then (1,1)
 else if x.o=22 then (2,0)
 else if x.o=23∧0≤x.a∧x.a≤6 then (x.a+1,1)
 else if x.o=24∧0≤x.a∧x.a<fs.length then (oL fs x.a,1)
 else (0,0)
def aJf (fs : List cG) (x : bK) : R:=[.tup [.int .i64 (dQ fs x).1,.int .i64 (dQ fs x).2]]
theorem aAg {fs : List cG} {x : bK} {a b : Int} (h : dQ fs x=(a,b)) : [PV.tup [.int .i64 a,.int .i64 b]]=aJf fs x:=by
 unfold aJf;rw [h]
theorem bA {n lo hi : Int} : jK n lo hi=true↔lo≤n∧n≤hi:=by simp [jK]
theorem aNR {n lo hi : Int} : jK n lo hi=false↔¬ (lo≤n∧n≤hi):=by rw [← bA];simp
theorem tK {P : R→Prop} {n lo hi : Int} {x y : Option R} (h1 : lo≤n∧n≤hi→Ok P x) (h2 : ¬ (lo≤n∧n≤hi)→Ok P y) : Ok P (PV.ite (hd [.bool (jK n lo hi)]) x y):=
 aZ (fun h=>h1 (bA.1 h)) (fun h=>h2 (aNR.1 h))
section
variable {fs : List cG} {x : bK} {T : PV} (hf : fs.length ≤ 2097152)
include hf
theorem aMO {P : R→Prop} {k : PV→Option R} {i : Int} (h0 : 0≤i) (h1 : i<fs.length) (h : ∀ lc code,Ok P (k (.agg [.int .i64 (oL fs i),lc,code]))) : Ok P (bd (PV.at_ 3 true (.lst (fs.map cG.pv)) (.int .i64 i)) k):=by
 obtain ⟨n,rfl⟩:=Int.eq_ofNat_of_zero_le h0
 have hn : n<fs.length:=by omega
 refine aN hn (fun _=>rfl) ?_
 have : oL fs (n : Int)=fs[n].p:=by simp [oL,List.getElem?_eq_getElem hn]
 rw [← show PV.agg [.int .i64 (oL fs (n : Int)),.int .i64 fs[n].lc,.lst (fs[n].code.map bK.pv)]=fs[n].pv by rw [this];rfl]
 exact h _ _
set_option maxRecDepth 100000 in
set_option maxHeartbeats 4000000 in
theorem aG8 : Ok (fun r=>r=aJf fs x) (tW (.agg [T,.lst (fs.map cG.pv)]) x.pv):=by
 rw [aFA]
 refine aH rfl (aA rfl (aA rfl (aH rfl (aA rfl (aA rfl ?_)))))
 repeat' (first
  | refine aM (aC (fun _=>?_) (fun _=>?_))
  | refine dH (tK (fun _=>?_) (fun _=>?_))
  | refine aD (bY (by omega) ?_)
  | refine aI (by omega) ?_
  | refine aMO hf (by omega) (by omega) (fun _ _=>?_)
  | refine aA rfl ?_
  | exact aB (aAg (by
   unfold dQ
   repeat (first | rfl | rw [if_pos (by omega)] | rw [if_neg (by omega)]))))
set_option maxRecDepth 100000 in
set_option maxHeartbeats 4000000 in
theorem aLR : Ok (fun r=>r=aJf fs x) (zW (.agg [T,.lst (fs.map cG.pv)]) x.pv):=by
 have c24 : ¬ (x.o=23∧0≤x.a∧x.a≤6)→¬ ((1≤x.o∧x.o≤16)∨(18≤x.o∧x.o≤22))→¬ (x.o=25∨x.o=26)→Ok (fun r=>r=aJf fs x) (mO T (.lst (fs.map cG.pv)) (.int .i64 x.o) (.int .i64 x.a)):=by
  intro h1 h2 h3
  rw [aBG]
  refine aM (aC (fun _=>?_) (fun _=>?_))
  ·refine aD (fA (by omega) (tK (fun _=>?_) (fun _=>?_)))
   ·rw [aBH]
    refine aMO hf (by omega) (by omega) (fun _ _=>aA rfl ?_)
    exact aB (aAg (by
     unfold dQ
     repeat (first | rfl | rw [if_pos (by omega)] | rw [if_neg (by omega)])))
   ·exact aB (aAg (by
    unfold dQ
    repeat (first | rfl | rw [if_pos (by omega)] | rw [if_neg (by omega)])))
  ·exact aB (aAg (by
   unfold dQ
   repeat (first | rfl | rw [if_pos (by omega)] | rw [if_neg (by omega)])))
 rw [aFH]
 refine aH rfl (aA rfl (aA rfl (aH rfl (aA rfl (aA rfl ?_)))))
 repeat' (first
  | exact c24 (by omega) (by omega) (by omega)
  | refine aM (aC (fun _=>?_) (fun _=>?_))
  | refine dX (tK (fun _=>?_) (fun _=>?_))
  | refine aI (by omega) ?_
  | exact aB (aAg (by
   unfold dQ
   repeat (first | rfl | rw [if_pos (by omega)] | rw [if_neg (by omega)]))))
end
def fI (x : bK) (pc : Int) : List Int:=(if x.o≠17∧x.o≠25 then [pc+1] else [])++(if x.o=17∨x.o=18∨x.o=19 then [x.a] else [])
theorem aKZ {P : R→Prop} {k : PV→Option R} {a : Int} (h : Ok P (k (aX [a]))) : Ok P (bd (PV.cat 1 8 false (.lst []) (.lst [.int .i64 a])) k):=
 dT (l:=[]) (ys:=[a]) (by simp) h
theorem aNS {P : R→Prop} {k : PV→Option R} {a b : Int} (h : Ok P (k (aX [a,b]))) : Ok P (bd (PV.cat 1 8 false (.lst []) (.lst [.int .i64 a,.int .i64 b])) k):=
 dT (l:=[]) (ys:=[a,b]) (by simp) h
theorem aOE {P : R→Prop} {k : PV→Option R} {a b : Int} (h : Ok P (k (aX [a,b]))) : Ok P (bd (PV.cat 1 8 false (aX [a]) (aX [b])) k):=
 dT (l:=[a]) (ys:=[b]) (by simp) h
theorem aOF {P : R→Prop} {k : PV→Option R} {b : Int} (h : Ok P (k (aX [b]))) : Ok P (bd (PV.cat 1 8 false (.lst []) (aX [b])) k):=
 dT (l:=[]) (ys:=[b]) (by simp) h
theorem aG9 {x : bK} {pc : Int} (hp : 0≤pc∧pc≤1000000000) : Ok (fun r=>r = [aX (fI x pc)]) (rS x.pv (.int .i64 pc)):=by
 rw [aEg]
 refine aH rfl (aA rfl (aA rfl ?_))
 repeat' (first
  | (rw [aBA];refine aI (by omega) ?_)
  | rw [aBB]
  | rw [aBC]
  | refine aKZ ?_
  | refine aOE ?_
  | refine aOF ?_
  | refine aM (aC (fun _=>?_) (fun _=>?_))
  | refine cW (aY (fun _=>?_) (fun _=>?_))
  | (exfalso;omega)
  | exact aB (congrArg (fun l=>[aX l]) (by unfold fI;repeat (first | rfl | rw [if_pos (by omega)] | rw [if_neg (by omega)])))
  | exact aB (congrArg (fun l=>[aX l]) (a₁:=[]) (by unfold fI;repeat (first | rfl | rw [if_pos (by omega)] | rw [if_neg (by omega)]))))
theorem aHa {x : bK} {pc : Int} (hp : 0≤pc∧pc≤1000000000) : Ok (fun r=>r = [aX (fI x pc)]) (rU x.pv (.int .i64 pc)):=by
 rw [aEk]
 refine aH rfl (aA rfl (aA rfl ?_))
 repeat' (first
  | refine aKZ ?_
  | refine aNS ?_
  | refine aI (by omega) ?_
  | refine aM (aC (fun _=>?_) (fun _=>?_))
  | exact aB (congrArg (fun l=>[aX l]) (by unfold fI;repeat (first | rfl | rw [if_pos (by omega)] | rw [if_neg (by omega)])))
  | exact aB (congrArg (fun l=>[aX l]) (a₁:=[]) (by unfold fI;repeat (first | rfl | rw [if_pos (by omega)] | rw [if_neg (by omega)]))))
end
noncomputable section
open Go Go.IntWalk
attribute [local irreducible] bd PV.ite PV.guardFlat PV.guardOwn PV.whole PV.one PV.cell PV.sub PV.at_ PV.len PV.slen PV.chr PV.beq PV.peq PV.ceq PV.bin PV.neg PV.not PV.conv PV.cut PV.scut PV.cat PV.setAt PV.setCell PV.ncopy PV.copyIn PV.zeros PV.toStr PV.toBytes PV.deref PV.isPtr PV.comp PV.inb PV.off PV.imin PV.imax PV.sel PV.apply PV.isLst PV.isInt PV.ix PV.nilT
structure bZ where
 k : Int
 n : Int
 s : ByteArray
def bZ.pv (v : bZ) : PV:=.agg [.int .i64 v.k,.int .i64 v.n,.str v.s]
def fB : bZ:=⟨0,0,bs []⟩
def aNT (n : Int) : bZ:=⟨1,n,bs []⟩
def aFO (b : Bool) : bZ:=⟨2,if b then 1 else 0,bs []⟩
def aK0 (s : ByteArray) : bZ:=⟨3,0,s⟩
def aOG (n : Int) : bZ:=⟨4,n,bs []⟩
def aOH (n : Int) : bZ:=⟨5,n,bs []⟩
def eK (n : Int) : Bool:=jK n (-1000000000) 1000000000
def hU (a b : ByteArray) : Bool:=a.toList==b.toList
theorem aFP (a : ByteArray) : hU a a=true:=by simp [hU]
def I64 (n : Int) : Prop:=-9223372036854775808≤n∧n≤9223372036854775807
section
variable {P : R → Prop} {k : PV → Option R} {kr : R → Option R} {a b : ByteArray}
theorem aNU (h : Ok P (k (.bool (!hU a b)))) : Ok P (bd (PV.bin .neq (.str a) (.str b)) k):=dR _ (by simp only [PV.bin,PV.strBin];rfl) h
theorem uP (h : Ok P (k (.bool (hU a b)))) : Ok P (bd (PV.bin .eql (.str a) (.str b)) k):=dR _ (by simp only [PV.bin,PV.strBin];rfl) h
theorem aH4 (hb : a.size+b.size≤4611686018427387904) (h : Ok P (k (.str (a++b)))) : Ok P (bd (PV.bin .add (.str a) (.str b)) k):=dR _ (by simp only [PV.bin,PV.strBin];rw [if_pos (by omega)]) h
theorem aMP {n : Int} (h : Ok P (kr [.bool (eK n)])) : Ok P (bd (tX (.int .i64 n)) kr):=by
 refine aF (Q:=fun r=>r = [.bool (eK n)]) ?_ (fun r hr=>by rw [hr];exact h)
 rw [aFB]
 exact dH (aB rfl)
end
def cD (nf recs : Int) (v : bZ) : Bool:=
 if v.k≠3∧hU v.s (bs [])=false then false
 else if v.k=0 then decide (v.n=0)
 else if v.k=1 then eK v.n
 else if v.k=2 then jK v.n 0 1
 else if v.k=3 then decide (v.n=0)&&cP v.s
 else if v.k=4 then decide (0≤v.n)&&decide (v.n<recs)
 else if v.k=5 then jK v.n 0 (nf - 1)
 else false
theorem xL {fs : List cG} {T : PV} {v : bZ} {recs : Int} (hf : fs.length≤2097152) (hs : v.s.size≤2097152) : Ok (fun r=>r = [.bool (cD fs.length recs v)]) (xD (.agg [T,.lst (fs.map cG.pv)]) v.pv (.int .i64 recs)):=by
 rw [aGx]
 refine aH rfl (aA rfl (aA rfl (aH rfl (aA rfl (aA rfl (aA rfl ?_))))))
 refine cW (aY (fun h3=>?_) (fun h3=>?_))
 ·refine aNU (aZ (fun h=>aB ?_) (fun h=>?_))
  ·have h : hU v.s (bs [])=false:=by simpa using h
   unfold cD
   rw [if_pos ⟨h3,h⟩]
  have h : hU v.s (bs [])=true:=by simpa using h
  repeat' (first
   | refine aM (aC (fun heq=>?_) (fun heq=>?_))
   | refine sQ (aC (fun hge=>?_) (fun hge=>?_))
   | exact aMP (aB (by unfold cD;rw [if_neg (by rw [h];simp)];repeat (first | rfl | rw [if_pos (by assumption)] | rw [if_neg (by assumption)])))
   | exact dH (aB (by unfold cD;rw [if_neg (by rw [h];simp)];repeat (first | rfl | rw [if_pos (by assumption)] | rw [if_neg (by assumption)])))
   | exact aD (bY (by omega) (dH (aB (by unfold cD;rw [if_neg (by rw [h];simp)];repeat (first | rfl | rw [if_pos (by assumption)] | rw [if_neg (by assumption)])))))
   | (exfalso;omega)
   | exact aM (aB (by unfold cD;rw [if_neg (by rw [h];simp)];repeat (first | rfl | rw [if_pos (by assumption)] | rw [if_neg (by assumption)])))
   | exact aE (aB (by unfold cD;rw [if_neg (by rw [h];simp)];repeat (first | rfl | rw [decide_eq_true hge,Bool.true_and] | rw [if_pos (by assumption)] | rw [if_neg (by assumption)])))
   | exact aB (by unfold cD;rw [if_neg (by rw [h];simp)];repeat (first | rfl | rw [decide_eq_false hge,Bool.false_and] | rw [if_pos (by assumption)] | rw [if_neg (by assumption)])))
 ·have hk : ¬ (v.k≠3∧hU v.s (bs [])=false):=fun h=>h.1 h3
  repeat' (first
   | refine aM (aC (fun heq=>?_) (fun heq=>?_))
   | (exfalso;omega)
   | exact aEy hs (aB (by unfold cD;rw [if_neg hk];repeat (first | rfl | rw [if_pos (by assumption)] | rw [if_neg (by omega)] | rw [decide_eq_true heq,Bool.true_and])))
   | exact aB (by unfold cD;rw [if_neg hk];repeat (first | rfl | rw [if_pos (by assumption)] | rw [if_neg (by omega)] | rw [decide_eq_false heq,Bool.false_and])))
def aPg (o a b : Int) : Int:=if o=12 then a - b else if o=13 then a*b else a+b
def aJg (o : Int) (a b : bZ) : bZ × Int:=
 if a.k≠1 then (fB,1) else if b.k≠1 then (fB,1) else if eK a.n=false then (fB,2) else if eK b.n=false then (fB,2)
 else if eK (aPg o a.n b.n)=false then (fB,2) else (aNT (aPg o a.n b.n),0)
def aPh (a b : bZ) : bZ:=aFO (decide (a.k=b.k)&&(decide (a.n=b.n)&&hU a.s b.s))
def opT (o : Int) (a b : bZ) : bZ × Int:=
 if o=11 then (if a.k=3∧b.k=3 then (if (60 : Int)<a.s.size+b.s.size then (fB,3) else (aK0 (a.s++b.s),0)) else aJg 11 a b)
 else if o=12 then aJg 12 a b
 else if o=13 then aJg 13 a b
 else if o=14 then (if a.k=3∧b.k=3 then (aFO (PV.bytesLt a.s.toList b.s.toList),0) else if a.k=1∧b.k=1 then (aFO (decide (a.n<b.n)),0) else (fB,1))
 else (aPh a b,0)
def opR (p : bZ × Int) : R:=[.tup [p.1.pv,.int .i64 p.2]]
def aKr (v : bZ) : bZ × Int:=if v.k≠2 then (fB,1) else (aFO (!decide (v.n=1)),0)
def dig (n : Int) : ByteArray:=⟨#[UInt8.ofNat (48+n).toNat]⟩
def aFQ : Nat→Int→ByteArray
 | 0,n=>dig n
 | j+1,n=>if n<10 then dig n else aFQ j (n / 10)++dig (n % 10)
def xM (n : Int) : ByteArray:=
 if n<0 then (if n < -9 then bs [45]++aFQ 18 (-(n.tdiv 10))++aFQ 18 (-(n.tmod 10)) else bs [45]++aFQ 18 (-n)) else aFQ 18 n
theorem aFR (n : Int) : (dig n).size=1:=rfl
theorem sE : ∀ (j : Nat) (n : Int),(aFQ j n).size≤j+1
 | 0,n=>by simp [aFQ,aFR]
 | j+1,n=>by
   unfold aFQ
   split
   ·rw [aFR];omega
   ·rw [ByteArray.size_append,aFR]
    have:=sE j (n / 10)
    omega
end
noncomputable section
open Go
attribute [local irreducible] bd PV.ite PV.guardFlat PV.guardOwn PV.whole PV.one PV.cell PV.sub PV.at_ PV.len PV.slen PV.chr PV.beq PV.peq PV.ceq PV.bin PV.neg PV.not PV.conv PV.cut PV.scut PV.cat PV.setAt PV.setCell PV.ncopy PV.copyIn PV.zeros PV.toStr PV.toBytes PV.deref PV.isPtr PV.comp PV.inb PV.off PV.imin PV.imax PV.sel PV.apply PV.isLst PV.isInt PV.ix PV.nilT
def gJ (fs : List cG) (x : bK) (h : Int) : Int:=h - (dQ fs x).1+(dQ fs x).2
def can (fs : List cG) (x : bK) (h : Int) : Bool:=decide ((dQ fs x).1≤h)&&decide (gJ fs x h≤16)
abbrev Hs:=List Int × Bool
def rZ (l : Int) (s : Hs) (t : Int) : Hs:=if t<s.1.length∧s.1[t.toNat]?.getD 0<0 then (s.1.set t.toNat l,true) else s
def yN (fs : List cG) (code : List bK) (s : Hs) (pc : Nat) : Hs:=
 match code[pc]? with
 | some x=>if can fs x (s.1[pc]?.getD 0) then (fI x pc).foldl (rZ (gJ fs x (s.1[pc]?.getD 0))) s else s
 | none=>s
def qD (fs : List cG) (code : List bK) (s : List Int) : Hs:=(List.range' 0 code.length).foldl (yN fs code) (s,false)
def aCp (fs : List cG) (code : List bK) : Nat→List Int→List Int
 | 0,s=>s
 | n+1,s=>if (qD fs code s).2 then aCp fs code n (qD fs code s).1 else (qD fs code s).1
def aH5 (n : Nat) : List Int:=(List.replicate n (-1)).set 0 0
def iD (fs : List cG) (code : List bK) : List Int:=aCp fs code (code.length+1) (aH5 code.length)
structure Fit (fs : List cG) (code : List bK) : Prop where
 n1 : 1≤code.length
 n2 : code.length≤120
 nf : fs.length≤12
 u : ∀ x∈code,0≤(dQ fs x).1∧(dQ fs x).1≤7∧0≤(dQ fs x).2∧(dQ fs x).2≤2
 j : ∀ x∈code,(x.o=17∨x.o=18∨x.o=19)→0≤x.a∧x.a<code.length
def yO (n : Nat) (s : List Int) : Prop:=s.length=n∧∀ v∈s,-1≤v∧v≤16
theorem yO.at {n : Nat} {s : List Int} (h : yO n s) (i : Nat) : -1≤s[i]?.getD 0∧s[i]?.getD 0≤16:=by
 cases hx : s[i]? with
 | none=>simp
 | some v=>exact h.2 v (List.mem_of_getElem? hx)
theorem yO.put {n : Nat} {s : Hs} (h : yO n s.1) {l : Int} (hl : -1≤l∧l≤16) (t : Int) : yO n (rZ l s t).1:=by
 unfold rZ
 split
 ·refine ⟨by simp only [List.length_set];exact h.1,fun v hv=>?_⟩
  rcases List.mem_or_eq_of_mem_set hv with h1 | h1
  ·exact h.2 v h1
  ·omega
 ·exact h
theorem yO.puts {n : Nat} {l : Int} (hl : -1≤l∧l≤16) : ∀ (ts : List Int) (s : Hs),yO n s.1→yO n (ts.foldl (rZ l) s).1
 | [],_,h=>h
 | t::r,s,h=>yO.puts hl r _ (h.put hl t)
theorem aJh {fs : List cG} {x : bK} {h : Int} (hu : 0≤(dQ fs x).1∧(dQ fs x).1≤7∧0≤(dQ fs x).2∧(dQ fs x).2≤2) (hc : can fs x h=true) : 0≤gJ fs x h∧gJ fs x h≤16:=by
 simp only [can,Bool.and_eq_true,decide_eq_true_eq] at hc
 unfold gJ at *
 omega
theorem yO.one {fs : List cG} {code : List bK} (F : Fit fs code) {n : Nat} {s : Hs} (h : yO n s.1) (pc : Nat) : yO n (yN fs code s pc).1:=by
 unfold yN
 split
 ·rename_i x hx
  split
  ·rename_i hc
   have:=aJh (F.u x (List.mem_of_getElem? hx)) hc
   exact yO.puts (by omega) _ _ h
  ·exact h
 ·exact h
theorem yO.ones {fs : List cG} {code : List bK} (F : Fit fs code) {n : Nat} : ∀ (l : List Nat) (s : Hs),yO n s.1→yO n (l.foldl (yN fs code) s).1
 | [],_,h=>h
 | t::r,s,h=>yO.ones F r _ (h.one F t)
theorem yO.pass {fs : List cG} {code : List bK} (F : Fit fs code) {n : Nat} {s : List Int} (h : yO n s) : yO n (qD fs code s).1:=yO.ones F _ _ h
theorem yO.start {n : Nat} : yO n (aH5 n):=by
 refine ⟨by simp [aH5],fun v hv=>?_⟩
 rcases List.mem_or_eq_of_mem_set hv with h1 | h1
 ·have:=List.eq_of_mem_replicate h1;omega
 ·omega
def nn (s : List Int) : Nat:=s.countP (· < 0)
def Dec (s s' : Hs) : Prop:=s'=s∨(s'.2=true∧nn s'.1<nn s.1)
theorem Dec.trans {a b c : Hs} (h : Dec a b) (k : Dec b c) : Dec a c:=by
 rcases h with rfl | h
 ·exact k
 ·rcases k with rfl | k
  ·exact .inr h
  ·exact .inr ⟨k.1,by omega⟩
theorem aMQ : ∀ (s : List Int) (i : Nat) (l : Int),0≤l→s[i]?.getD 0<0→nn (s.set i l)<nn s
 | [],i,l,_,h=>by simp at h
 | x::r,0,l,hl,h=>by
   simp only [List.getElem?_cons_zero,Option.getD_some] at h
   simp only [nn,List.set_cons_zero,List.countP_cons]
   rw [if_neg (by simp;omega),if_pos (by simpa using h)]
   omega
 | x::r,i+1,l,hl,h=>by
   simp only [List.getElem?_cons_succ] at h
   have:=aMQ r i l hl h
   simp only [nn,List.set_cons_succ,List.countP_cons] at *
   omega
theorem Dec.put {l : Int} (hl : 0≤l) (s : Hs) (t : Int) : Dec s (rZ l s t):=by
 unfold rZ
 split
 ·rename_i h
  exact .inr ⟨rfl,aMQ _ _ _ hl h.2⟩
 ·exact .inl rfl
theorem Dec.puts {l : Int} (hl : 0≤l) : ∀ (ts : List Int) (s : Hs),Dec s (ts.foldl (rZ l) s)
 | [],_=>.inl rfl
 | t::r,s=>(Dec.put hl s t).trans (Dec.puts hl r _)
theorem Dec.one {fs : List cG} {code : List bK} (F : Fit fs code) (s : Hs) (pc : Nat) : Dec s (yN fs code s pc):=by
 unfold yN
 split
 ·rename_i x hx
  split
  ·rename_i hc
   exact Dec.puts (aJh (F.u x (List.mem_of_getElem? hx)) hc).1 _ _
  ·exact .inl rfl
 ·exact .inl rfl
theorem Dec.ones {fs : List cG} {code : List bK} (F : Fit fs code) : ∀ (l : List Nat) (s : Hs),Dec s (l.foldl (yN fs code) s)
 | [],_=>.inl rfl
 | t::r,s=>(Dec.one F s t).trans (Dec.ones F r _)
theorem Dec.pass {fs : List cG} {code : List bK} (F : Fit fs code) (s : List Int) : Dec (s,false) (qD fs code s):=Dec.ones F _ _
theorem aMR {l : Int} {s : Hs} {t : Int} (h : s.1[0]? = some 0) : (rZ l s t).1[0]? = some 0:=by
 unfold rZ
 split
 ·rename_i hc
  rw [List.getElem?_set]
  split
  ·rename_i h0
   rw [h0] at hc
   rw [h] at hc
   simp at hc
  ·exact h
 ·exact h
theorem aHb {l : Int} : ∀ (ts : List Int) (s : Hs),s.1[0]? = some 0→(ts.foldl (rZ l) s).1[0]? = some 0
 | [],_,h=>h
 | t::r,s,h=>aHb r _ (aMR h)
theorem aMS {fs : List cG} {code : List bK} {s : Hs} (pc : Nat) (h : s.1[0]? = some 0) : (yN fs code s pc).1[0]? = some 0:=by
 unfold yN
 split
 ·split
  ·exact aHb _ _ h
  ·exact h
 ·exact h
theorem aDi {fs : List cG} {code : List bK} : ∀ (l : List Nat) (s : Hs),s.1[0]? = some 0→(l.foldl (yN fs code) s).1[0]? = some 0
 | [],_,h=>h
 | t::r,s,h=>aDi r _ (aMS t h)
theorem aJi {fs : List cG} {code : List bK} : ∀ (n : Nat) (s : List Int),s[0]? = some 0→(aCp fs code n s)[0]? = some 0
 | 0,_,h=>h
 | n+1,s,h=>by
   unfold aCp
   split
   ·exact aJi n _ (aDi _ _ h)
   ·exact aDi _ _ h
theorem aK1 {fs : List cG} {code : List bK} (F : Fit fs code) {m : Nat} : ∀ (n : Nat) (s : List Int),yO m s→yO m (aCp fs code n s)
 | 0,_,h=>h
 | n+1,s,h=>by
   unfold aCp
   split
   ·exact aK1 F n _ (h.pass F)
   ·exact h.pass F
theorem xN {fs : List cG} {code : List bK} (F : Fit fs code) : yO code.length (iD fs code):=aK1 F _ _ yO.start
theorem aJj {fs : List cG} {code : List bK} (F : Fit fs code) : (iD fs code)[0]? = some 0:=by
 refine aJi _ _ ?_
 have:=F.n1
 rw [aH5,List.getElem?_set_self (by rw [List.length_replicate];omega)]
theorem aEA {s : List Int} {i : Nat} (h : i<s.length) : s[i]=s[i]?.getD 0:=by rw [List.getElem?_eq_getElem h];rfl
theorem aAh {fs : List cG} {code : List bK} (F : Fit fs code) {x : bK} (hx : x∈code) {pc : Nat} (hp : pc<code.length) : ∀ t∈fI x pc,0≤t∧t≤code.length:=by
 intro t ht
 unfold fI at ht
 rcases List.mem_append.1 ht with h | h
 ·split at h
  ·simp only [List.mem_singleton] at h;omega
  ·cases h
 ·split at h
  ·rename_i hj
   simp only [List.mem_singleton] at h
   have:=F.j x hx hj
   omega
  ·cases h
theorem aK2 {l : Int} {s : Hs} {t : Int} (h1 : t<s.1.length) (h2 : s.1[t.toNat]?.getD 0<0) : rZ l s t=(s.1.set t.toNat l,true):=if_pos ⟨h1,h2⟩
theorem aH6 {l : Int} {s : Hs} {t : Int} (h : ¬ (t<s.1.length∧s.1[t.toNat]?.getD 0<0)) : rZ l s t=s:=if_neg h
section
variable {fs : List cG} {code : List bK} {T : PV} (F : Fit fs code)
include F
theorem aLS {P : R→Prop} {pc : Nat} (hpc : pc<code.length) {left : Int} {ts : List Int} (hts : ∀ t∈ts,0≤t∧t≤code.length) (hn : ts.length≤10) {s : Hs} (hs : s.1.length=code.length)
 (h : Ok P (dN (.lst (code.map bK.pv)) (.bool (ts.foldl (rZ left) s).2) (.int .i64 ((pc : Int)+1)) T (.lst (fs.map cG.pv)) (aX (ts.foldl (rZ left) s).1))) :
 Ok P (eB (.lst (code.map bK.pv)) (.bool s.2) (.int .i64 pc) (.int .i64 left) (aX ts) (.int .i64 0) T (.lst (fs.map cG.pv)) (aX s.1)):=by
 have hn2:=F.n2
 refine xK (n:=ts.length) (F:=fun i (q : Hs)=>eB (.lst (code.map bK.pv)) (.bool q.2) (.int .i64 pc) (.int .i64 left) (aX ts) (.int .i64 i) T (.lst (fs.map cG.pv)) (aX q.1))
  (fun i q=>q.1.length=code.length∧(ts.drop i).foldl (rZ left) q=ts.foldl (rZ left) s) ?_ ?_ 0 s (by omega) ⟨hs,by rw [List.drop_zero]⟩
 ·rintro q ⟨hq,he⟩
  rw [List.drop_length] at he
  have he : q=ts.foldl (rZ left) s:=he
  subst he
  rw [oU]
  exact cB (aE (aC (fun h=>by omega) (fun _=>aI (by omega) h)))
 ·rintro i q hi ⟨hq,he⟩ ih
  have ht:=hts ts[i] (List.getElem_mem _)
  rw [List.drop_eq_getElem_cons hi,List.foldl_cons] at he
  have ih:=fun s'=>ih s'
  rw [oU]
  refine cB (aE (aC (fun _=>?_) (fun h=>by omega)))
  refine cJ hi (aD (aE (aC (fun h1=>?_) (fun h1=>?_))))
  ·refine cJ hi (cX (by omega) (by omega) (hJ (by omega) (by omega) (fun v hv=>?_)))
   refine aE (aC (fun h2=>?_) (fun h2=>?_))
   ·rw [yJ]
    refine cJ hi (cX (by omega) (by omega) ?_)
    obtain ⟨t,et⟩:=Int.eq_ofNat_of_zero_le ht.1
    rw [et]
    refine qC (by omega) (aI (by omega) ?_)
    refine ih (q.1.set t left,true) ⟨by simpa using hq,?_⟩
    rw [aK2 (by omega) (by rw [hv];exact h2),et] at he
    exact he
   ·refine aI (by omega) (ih q ⟨hq,?_⟩)
    rw [aH6 (by rw [hv];simp only [Option.getD_some];omega)] at he
    exact he
  ·refine aI (by omega) (ih q ⟨hq,?_⟩)
   rw [aH6 (by omega)] at he
   exact he
theorem aFS {P : R→Prop} {s : List Int} (hs : yO code.length s)
 (h : Ok P (gR (.lst (code.map bK.pv)) (.bool (qD fs code s).2) T (.lst (fs.map cG.pv)) (aX (qD fs code s).1))) :
 Ok P (dN (.lst (code.map bK.pv)) (.bool false) (.int .i64 0) T (.lst (fs.map cG.pv)) (aX s)):=by
 have hn2:=F.n2
 have hnf:=F.nf
 refine xK (n:=code.length) (F:=fun i (q : Hs)=>dN (.lst (code.map bK.pv)) (.bool q.2) (.int .i64 i) T (.lst (fs.map cG.pv)) (aX q.1))
  (fun i q=>yO code.length q.1∧(List.range' i (code.length - i)).foldl (yN fs code) q=qD fs code s) ?_ ?_ 0 (s,false) (by omega) ⟨hs,rfl⟩
 ·rintro q ⟨hq,he⟩
  rw [Nat.sub_self] at he
  have he : q=qD fs code s:=he
  subst he
  rw [oT]
  exact aD (aE (aC (fun h=>by omega) (fun _=>h)))
 ·rintro i q hi ⟨hq,he⟩ ih
  have e1 : code.length - i=(code.length - (i+1))+1:=by omega
  rw [e1,List.range'_succ,List.foldl_cons] at he
  have hx : code[i]? = some code[i]:=List.getElem?_eq_getElem hi
  have hu:=F.u code[i] (List.getElem_mem _)
  have hil : i<q.1.length:=by rw [hq.1];exact hi
  have hv:=hq.at i
  have e2 : q.1[i]=q.1[i]?.getD 0:=aEA hil
  have hone:=hq.one F i
  have hgo:=ih (yN fs code q i) ⟨hone,he⟩
  have eo : yN fs code q i=if can fs code[i] (q.1[i]?.getD 0) then (fI code[i] i).foldl (rZ (gJ fs code[i] (q.1[i]?.getD 0))) q else q:=by
   conv=>lhs;unfold yN
   rw [hx]
  generalize hw : q.1[i]?.getD 0=w at *
  rw [oT]
  refine aD (aE (aC (fun _=>?_) (fun h=>by omega)))
  refine aN hi (fun _=>rfl) (aF (aG8 (T:=T) (by omega)) (fun r hr=>?_))
  subst hr
  refine kB rfl (kB rfl ?_)
  refine cX (by omega) (by omega) (cJ hil (bY (by omega) (aI (by omega) (cX (by omega) (by omega) (cJ hil ?_)))))
  rw [e2]
  refine aE (aC (fun h1=>?_) (fun h1=>?_))
  ·have hc : can fs code[i] w=false:=by simp only [can];rw [decide_eq_false (by omega)];rfl
   rw [hc,if_neg (by simp)] at eo
   rw [eo] at hgo
   exact aI (by omega) hgo
  refine iC (aC (fun h2=>?_) (fun h2=>?_))
  ·have hc : can fs code[i] w=false:=by simp only [can];rw [decide_eq_false (p:=gJ fs code[i] w≤16) (by unfold gJ;omega),Bool.and_false]
   rw [hc,if_neg (by simp)] at eo
   rw [eo] at hgo
   exact aI (by omega) hgo
  ·have hc : can fs code[i] w=true:=by simp only [can];rw [decide_eq_true (by omega),decide_eq_true (p:=gJ fs code[i] w≤16) (by unfold gJ;omega)];rfl
   rw [hc,if_pos rfl] at eo
   rw [eo] at hgo
   refine aN hi (fun _=>rfl) (aF (aG9 (by omega)) (fun r hr=>?_))
   subst hr
   exact aLS F hi (aAh F (List.getElem_mem _) hi) (by unfold fI;repeat' split<;>simp) hq.1 hgo
theorem aLT : ∀ (j : Nat) (s : List Int),nn s≤j→yO code.length s→Ok (fun r=>r = [aX (aCp fs code (j+1) s)]) (gR (.lst (code.map bK.pv)) (.bool true) T (.lst (fs.map cG.pv)) (aX s)):=by
 intro j
 induction j with
 | zero=>
   intro s hs hg
   rw [gX]
   refine bG (aFS F hg ?_)
   rcases Dec.pass F s with h | ⟨h,h2⟩
   ·unfold aCp
    rw [h,gX]
    exact aQ (aB rfl)
   ·have h3 : nn (qD fs code s).1<nn s:=h2
    omega
 | succ j ih=>
   intro s hs hg
   rw [gX]
   refine bG (aFS F hg ?_)
   rcases Dec.pass F s with h | ⟨h,h2⟩
   ·unfold aCp
    rw [h,gX]
    exact aQ (aB rfl)
   ·rw [aCp,h,if_pos rfl]
    exact ih _ (by have h3 : nn (qD fs code s).1<nn s:=h2;omega) (hg.pass F)
end
end
noncomputable section
open Go Go.IntWalk
attribute [local irreducible] bd PV.ite PV.guardFlat PV.guardOwn PV.whole PV.one PV.cell PV.sub PV.at_ PV.len PV.slen PV.chr PV.beq PV.peq PV.ceq PV.bin PV.neg PV.not PV.conv PV.cut PV.scut PV.cat PV.setAt PV.setCell PV.ncopy PV.copyIn PV.zeros PV.toStr PV.toBytes PV.deref PV.isPtr PV.comp PV.inb PV.off PV.imin PV.imax PV.sel PV.apply PV.isLst PV.isInt PV.ix PV.nilT
section
variable {fs : List cG} {code : List bK} {T : PV} (F : Fit fs code)
include F
theorem aAi {f : Nat} (hf : f<fs.length) (hc : fs[f].code=code) : Ok (fun r=>r = [aX (iD fs code)]) (iU (.agg [T,.lst (fs.map cG.pv)]) (.int .i64 f)):=by
 have hn2:=F.n2
 have hn1:=F.n1
 rw [aCi]
 refine aH rfl (aA rfl (aA rfl (aN hf (fun _=>rfl) (aA (y:=.lst (code.map bK.pv)) (by rw [← hc];rfl) ?_))))
 have key:=cT (n:=code.length) (P:=fun _ r=>r = [aX (iD fs code)])
  (F:=fun i=>kE (.lst (code.map bK.pv)) (.int .i64 i) T (.lst (fs.map cG.pv)) (aX (List.replicate i (-1)))) ?_ ?_ 0 (by omega)
 ·exact key
 ·rw [pY]
  refine aD (aE (aC (fun h=>by omega) (fun _=>?_)))
  refine cX (by omega) (by rw [List.length_replicate];omega) (qC (i:=0) (by rw [List.length_replicate];omega) ?_)
  exact aLT F code.length _ (by have:=(yO.start (n:=code.length)).1;unfold nn;exact Nat.le_trans List.countP_le_length (by omega)) yO.start
 ·intro i hi ih
  rw [pY]
  refine aD (aE (aC (fun h=>?_) (fun h=>by omega)))
  refine dT (ys:=[-1]) (by rw [List.length_replicate];simp only [List.length_cons,List.length_nil];omega) (aI (by omega) ?_)
  rw [← List.replicate_succ']
  exact ih
end
section
variable {P : R → Prop} {k : PV → Option R}
theorem aAJ {m n : Nat} {kk : IntKind} (h : n≤m) : PV.bound m (.int kk (n : Int))=some n:=by
 simp only [PV.bound]
 rw [if_pos (by omega),Int.toNat_natCast]
theorem aJk {xs ys : List PV} {lo hi : Nat} {k1 k2 : IntKind} (h1 : lo≤hi) (h2 : hi≤xs.length) (h3 : xs.length≤1000000000) (h : Ok P (k (.int .i64 (min (hi - lo) ys.length : Nat)))) :
 Ok P (bd (PV.ncopy (.lst xs) (.int k1 (lo : Int)) (.int k2 (hi : Int)) (.lst ys)) k):=
 dR _ (by
  simp only [PV.ncopy]
  rw [aAJ (by omega),aAJ (by omega)]
  simp only [PV.elems]
  rw [if_pos ⟨h1,h2⟩]) h
theorem aHc {s : Nat} {g : Bool} {xs ys : List PV} {lo hi : Nat} {k1 k2 : IntKind} (h1 : lo≤hi) (h2 : hi≤xs.length) (h3 : xs.length≤1000000000) (he : ∀ y∈ys,y.isEl s g=true)
 (h : Ok P (k (.lst (xs.take lo++ys.take (hi - lo)++xs.drop (lo+min (hi - lo) ys.length))))) :
 Ok P (bd (PV.copyIn s g (.lst xs) (.int k1 (lo : Int)) (.int k2 (hi : Int)) (.lst ys)) k):=
 dR _ (by
  simp only [PV.copyIn]
  rw [aAJ (by omega),aAJ (by omega)]
  simp only [PV.elems]
  rw [if_pos ⟨h1,h2,List.all_eq_true.2 he⟩]) h
theorem aJl {e n : Nat} {z : PV} {kk : IntKind} (h1 : n*e≤140737488355328) (h2 : n≤1000000000) (h : Ok P (k (.lst (List.replicate n z)))) : Ok P (bd (PV.zeros e z (.int kk (n : Int))) k):=
 dR _ (by
  simp only [PV.zeros]
  rw [if_pos ⟨by omega,by rw [Int.toNat_natCast];exact h1,by omega⟩,Int.toNat_natCast]) h
theorem aCq {l : List Int} : ∀ x∈l.map (PV.int .i64),x.isEl 1 false=true:=by
 intro x hx
 obtain ⟨a,_,rfl⟩:=List.mem_map.1 hx
 rfl
end
theorem aJm {n : Nat} (hn : n≤1000) : ∀ (j a : Nat),n - a≤j→1≤a→a≤n→
 Ok (fun r=>r = [aX (List.replicate n (-1))]) (eY (.int .i64 a) (aX (List.replicate a (-1)++List.replicate (n - a) 0))):=by
 intro j
 induction j with
 | zero=>
   intro a h1 h2 h3
   have : a=n:=by omega
   subst this
   rw [kI]
   refine cB (aE (aC (fun h=>?_) (fun _=>aB ?_)))
   ·simp at h
   ·simp
 | succ j ih=>
   intro a h1 h2 h3
   rw [kI]
   have hl : (List.replicate a (-1 : Int)++List.replicate (n - a) 0).length=n:=by simp;omega
   have hlm : ((List.replicate a (-1 : Int)++List.replicate (n - a) 0).map (PV.int .i64)).length=n:=by rw [List.length_map,hl]
   have ht : (List.replicate a (-1 : Int)++List.replicate (n - a) 0).take a=List.replicate a (-1):=by
    rw [List.take_left' (by simp)]
   refine cB (aE (aC (fun h=>?_) (fun h=>aB ?_)))
   ·rw [hl] at h
    refine cB ?_
    rw [hl]
    refine aKn (by omega) (by omega) (by omega) aCq ?_
    refine aKn (by omega) (by omega) (by omega) aCq ?_
    refine aKn (by omega) (by omega) (by omega) aCq ?_
    simp only [Int.toNat_natCast,Int.toNat_zero,List.drop_zero,← List.map_take]
    rw [ht]
    refine aJk (by omega) (by omega) (by omega) (aHc (by omega) (by omega) (by omega) aCq ?_)
    rw [← List.map_take,ht,← List.map_take,← List.map_drop,← List.map_append,← List.map_append,List.length_map,List.length_replicate]
    have e : List.replicate a (-1 : Int)++(List.replicate a (-1)).take (n - a)++(List.replicate a (-1)++List.replicate (n - a) 0).drop (a+min (n - a) a)=List.replicate (a+min (n - a) a) (-1)++List.replicate (n - (a+min (n - a) a)) 0:=by
     rw [List.take_replicate,List.replicate_append_replicate,List.drop_append,List.length_replicate,List.drop_eq_nil_of_le (by simp),List.nil_append,List.drop_replicate]
     congr 2
     omega
    rw [e]
    exact aI (by omega) (ih (a+min (n - a) a) (by omega) (by omega) (by omega))
   ·have : a=n:=by rw [hl] at h;omega
    subst this
    simp
theorem aH7 {P : R→Prop} {k : PV→Option R} {a : Int} (h1 : 0≤a∧a≤2097152) (h : Ok P (k (.int .u64 a))) : Ok P (bd (PV.bin .and (.int .u64 a) (.int .u64 4294967295)) k):=
 dR _ (by
  obtain ⟨n,rfl⟩:=Int.eq_ofNat_of_zero_le h1.1
  rw [kY (by simp) (by simp)]
  simp only [PV.intBin]
  have hb : IntKind.u64.bits=64:=rfl
  have e : (BitVec.ofInt 64 (n : Int)&&& BitVec.ofInt 64 4294967295).toNat=n:=by
   rw [BitVec.toNat_and,BitVec.ofInt_natCast,BitVec.toNat_ofNat]
   have : (BitVec.ofInt 64 4294967295).toNat=2 ^ 32 - 1:=by decide
   rw [this,Nat.and_two_pow_sub_one_eq_mod,Nat.mod_eq_of_lt (by omega),Nat.mod_eq_of_lt (by omega)]
  rw [hb,e,u64_in _ (by omega)]) h
theorem aAj {P : R→Prop} {k : PV→Option R} {a : Int} (h1 : 0≤a∧a≤2097152) (h : Ok P (k (.int .u64 0))) : Ok P (bd (PV.bin .shr (.int .u64 a) (.int .u64 32)) k):=
 dR _ (by
  simp only [PV.bin]
  rw [if_neg (by omega)]
  have : a.fdiv (2 ^ min (Int.toNat 32) IntKind.u64.bits)=0:=by
   have e : (2 : Int) ^ min (Int.toNat 32) IntKind.u64.bits=4294967296:=by decide
   rw [e,Int.fdiv_eq_ediv_of_nonneg _ (by omega)]
   omega
  rw [this]) h
theorem aAk {P : R→Prop} {k : PV→Option R} {a b : Int} (h1 : 0≤a*b∧a*b≤2097152) (h : Ok P (k (.int .u64 (a*b)))) : Ok P (bd (PV.bin .mul (.int .u64 a) (.int .u64 b)) k):=
 dR _ (by rw [kY (by simp) (by simp)];simp only [PV.intBin];rw [u64_in _ (by omega)]) h
theorem aCr {P : R→Prop} {k : PV→Option R} {a b : Int} (h1 : 0≤a+b∧a+b≤2097152) (h : Ok P (k (.int .u64 (a+b)))) : Ok P (bd (PV.bin .add (.int .u64 a) (.int .u64 b)) k):=
 dR _ (by rw [kY (by simp) (by simp)];simp only [PV.intBin];rw [u64_in _ (by omega)]) h
theorem aMT {P : R→Prop} {k : PV→Option R} {a : Int} {kk : IntKind} (h1 : 0≤a∧a≤2097152) (h : Ok P (k (.int .u64 a))) : Ok P (bd (PV.conv .u64 (.int kk a)) k):=dR _ (by simp only [PV.conv];rw [u64_in _ (by omega)]) h
theorem aLU {n : Nat} (h1 : 1≤n) (hn : n≤1000) : Ok (fun r=>r = [aX (List.replicate n (-1))]) (jY (.lst [.int .i64 (-1)]) (.int .i64 n)):=by
 rw [vM]
 refine aE (aC (fun h=>by omega) (fun _=>?_))
 rw [rX]
 refine bJ (aMT (by simp) (aMT (by omega) ?_))
 refine aF (Q:=fun r=>r = [.tup [.int .u64 0,.int .u64 n]]) ?_ (fun r hr=>?_)
 ·rw [aDa,aBK]
  simp only [List.length_cons,List.length_nil]
  refine aF (Q:=fun r=>r = [.tup [.int .u64 0,.int .u64 n]]) ?_ (fun r hr=>?_)
  ·refine aH7 (by omega) (aAj (by omega) (aH7 (by omega) (aAj (by omega) ?_)))
   refine aAk (by omega) (aAk (by omega) (aAj (by omega) (aCr (by omega) ?_)))
   refine aH7 (by omega) (aAj (by omega) (aAk (by omega) (aCr (by omega) ?_)))
   refine aAk (by omega) (aCr (by omega) (aAj (by omega) (aCr (by omega) (aAk (by omega) (aB ?_)))))
   simp
  ·subst hr
   exact kB rfl (kB rfl (aB rfl))
 subst hr
 refine kB rfl (kB rfl (iC (aC (fun h=>by omega) (fun _=>iC (aC (fun h=>by omega) (fun _=>?_))))))
 rw [rY]
 refine aOC (by omega) (aJl (by omega) (by omega) (lQ (aC (fun _=>?_) (fun h=>by omega))))
 refine aJl (by omega) (by omega) (bJ ?_)
 rw [List.length_replicate]
 refine aJk (lo:=0) (by omega) (by simp) (by simp;omega) (aHc (lo:=0) (by omega) (by simp) (by simp;omega) (aCq (l:=[-1])) ?_)
 have:=aJm hn n 1 (by omega) (by omega) h1
 have e : (min (n - 0) [PV.int .i64 (-1)].length : Nat)=1:=by simp;omega
 rw [e]
 have e2 : (List.replicate n (PV.int .i64 0)).take 0++[PV.int .i64 (-1)].take (n - 0)++(List.replicate n (PV.int .i64 0)).drop (0+1)=(List.replicate 1 (-1 : Int)++List.replicate (n - 1) 0).map (PV.int .i64):=by
  rw [List.take_zero,List.nil_append,List.take_of_length_le (by simp;omega),List.drop_replicate]
  simp
 rw [e2]
 exact this
end
noncomputable section
open Go
attribute [local irreducible] bd PV.ite PV.guardFlat PV.guardOwn PV.whole PV.one PV.cell PV.sub PV.at_ PV.len PV.slen PV.chr PV.beq PV.peq PV.ceq PV.bin PV.neg PV.not PV.conv PV.cut PV.scut PV.cat PV.setAt PV.setCell PV.ncopy PV.copyIn PV.zeros PV.toStr PV.toBytes PV.deref PV.isPtr PV.comp PV.inb PV.off PV.imin PV.imax PV.sel PV.apply PV.isLst PV.isInt PV.ix PV.nilT
section
variable {fs : List cG} {code : List bK} {T : PV} (F : Fit fs code)
include F
theorem aHd {x : bK} (hx : x∈code) {h : Int} (hh : -1≤h∧h≤16) : Ok (fun r=>r = [.tup [.int .i64 (gJ fs x h),.bool (can fs x h)]]) (uA (.agg [T,.lst (fs.map cG.pv)]) x.pv (.int .i64 h)):=by
 have hu:=F.u x hx
 have hnf:=F.nf
 rw [aFF]
 refine aH rfl (aA rfl (aA rfl (aH rfl (aA rfl (aA rfl ?_)))))
 refine aF (aLR (x:=x) (T:=T) (by omega)) (fun r hr=>?_)
 subst hr
 refine kB rfl (kB rfl (bY (by omega) (aI (by omega) (lQ (aC (fun h1=>?_) (fun h1=>aB ?_))))))
 ·refine lQ (aB ?_)
  unfold can gJ
  rw [decide_eq_true h1];rfl
 ·unfold can gJ
  rw [decide_eq_false h1];rfl
theorem aLV {P : R→Prop} {pc : Nat} (hpc : pc<code.length) {left : Int} {b : Bool} {ts : List Int} (hts : ∀ t∈ts,0≤t∧t≤code.length) (hn : ts.length≤10) {s : Hs} (hs : s.1.length=code.length)
 (h : Ok P (gB (.lst (code.map bK.pv)) (.bool (if b then ts.foldl (rZ left) s else s).2) (.lst (code.map bK.pv)) (.int .i64 code.length) (.int .i64 ((pc : Int)+1)) T (.lst (fs.map cG.pv)) (aX (if b then ts.foldl (rZ left) s else s).1))) :
 Ok P (eQ (.lst (code.map bK.pv)) (.bool s.2) (.int .i64 left) (.bool b) (.lst (code.map bK.pv)) (.int .i64 code.length) (.int .i64 pc) (aX ts) (.int .i64 ts.length) (.int .i64 0) T (.lst (fs.map cG.pv)) (aX s.1)):=by
 have hn2:=F.n2
 refine xK (n:=ts.length) (F:=fun i (q : Hs)=>eQ (.lst (code.map bK.pv)) (.bool q.2) (.int .i64 left) (.bool b) (.lst (code.map bK.pv)) (.int .i64 code.length) (.int .i64 pc) (aX ts) (.int .i64 ts.length) (.int .i64 i) T (.lst (fs.map cG.pv)) (aX q.1))
  (fun i q=>q.1.length=code.length∧(if b then (ts.drop i).foldl (rZ left) q else q)=(if b then ts.foldl (rZ left) s else s)) ?_ ?_ 0 s (by omega) ⟨hs,by rw [List.drop_zero]⟩
 ·rintro q ⟨hq,he⟩
  rw [List.drop_length] at he
  have he : q=(if b then ts.foldl (rZ left) s else s):=by rw [← he];split<;>rfl
  subst he
  rw [tE]
  exact aE (aC (fun h=>by omega) (fun _=>aI (by omega) h))
 ·rintro i q hi ⟨hq,he⟩ ih
  have ht:=hts ts[i] (List.getElem_mem _)
  rw [List.drop_eq_getElem_cons hi,List.foldl_cons] at he
  rw [tE]
  refine aE (aC (fun _=>?_) (fun h=>by omega))
  refine cJ hi (aZ (fun hb=>?_) (fun hb=>?_))
  ·subst hb
   simp only [if_true] at he ih
   refine aD (aE (aC (fun h1=>?_) (fun h1=>?_)))
   ·refine cX (by omega) (by omega) (hJ (by omega) (by omega) (fun v hv=>?_))
    refine aE (aC (fun h2=>?_) (fun h2=>?_))
    ·rw [aBD]
     refine cX (by omega) (by omega) ?_
     obtain ⟨t,et⟩:=Int.eq_ofNat_of_zero_le ht.1
     rw [et]
     refine qC (by omega) (aI (by omega) ?_)
     refine ih (q.1.set t left,true) ⟨by simpa using hq,?_⟩
     rw [aK2 (by omega) (by rw [hv];exact h2),et] at he
     exact he
    ·refine aI (by omega) (ih q ⟨hq,?_⟩)
     rw [aH6 (by rw [hv];simp only [Option.getD_some];omega)] at he
     exact he
   ·refine aI (by omega) (ih q ⟨hq,?_⟩)
    rw [aH6 (by omega)] at he
    exact he
  ·subst hb
   exact aI (by omega) (ih q ⟨hq,he⟩)
theorem aNV {x : bK} (hx : x∈code) {h : Int} (hh : h<0) : can fs x h=false:=by
 have hu:=F.u x hx
 simp only [can]
 rw [decide_eq_false (by omega)];rfl
theorem aFT {P : R→Prop} {s : List Int} (hs : yO code.length s)
 (h : Ok P (kP (.lst (code.map bK.pv)) (.bool (qD fs code s).2) T (.lst (fs.map cG.pv)) (aX (qD fs code s).1))) :
 Ok P (gB (.lst (code.map bK.pv)) (.bool false) (.lst (code.map bK.pv)) (.int .i64 code.length) (.int .i64 0) T (.lst (fs.map cG.pv)) (aX s)):=by
 have hn2:=F.n2
 have hnf:=F.nf
 refine xK (n:=code.length) (F:=fun i (q : Hs)=>gB (.lst (code.map bK.pv)) (.bool q.2) (.lst (code.map bK.pv)) (.int .i64 code.length) (.int .i64 i) T (.lst (fs.map cG.pv)) (aX q.1))
  (fun i q=>yO code.length q.1∧(List.range' i (code.length - i)).foldl (yN fs code) q=qD fs code s) ?_ ?_ 0 (s,false) (by omega) ⟨hs,rfl⟩
 ·rintro q ⟨hq,he⟩
  rw [Nat.sub_self] at he
  have he : q=qD fs code s:=he
  subst he
  rw [uK]
  exact aE (aC (fun h=>by omega) (fun _=>h))
 ·rintro i q hi ⟨hq,he⟩ ih
  have e1 : code.length - i=(code.length - (i+1))+1:=by omega
  rw [e1,List.range'_succ,List.foldl_cons] at he
  have hx : code[i]? = some code[i]:=List.getElem?_eq_getElem hi
  have hm : code[i]∈code:=List.getElem_mem _
  have hil : i<q.1.length:=by rw [hq.1];exact hi
  have hv:=hq.at i
  have e2 : q.1[i]=q.1[i]?.getD 0:=aEA hil
  have hone:=hq.one F i
  have hgo:=ih (yN fs code q i) ⟨hone,he⟩
  have eo : yN fs code q i=if can fs code[i] (q.1[i]?.getD 0) then (fI code[i] i).foldl (rZ (gJ fs code[i] (q.1[i]?.getD 0))) q else q:=by
   conv=>lhs;unfold yN
   rw [hx]
  generalize hw : q.1[i]?.getD 0=w at *
  rw [uK]
  refine aE (aC (fun _=>?_) (fun h=>by omega))
  refine aN hi (fun _=>rfl) (aH rfl (aA rfl (aA rfl ?_)))
  refine cX (by omega) (by omega) (cJ hil ?_)
  rw [e2]
  refine aE (aC (fun h1=>?_) (fun h1=>?_))
  ·rw [aNV F hm h1,if_neg (by simp)] at eo
   rw [eo] at hgo
   exact aI (by omega) hgo
  refine cX (by omega) (by omega) (cJ hil ?_)
  rw [e2]
  refine aF (aHd (T:=T) F hm hv) (fun r hr=>?_)
  subst hr
  refine kB rfl (kB rfl (aF (aHa (x:=code[i]) (by omega)) (fun r hr=>?_)))
  subst hr
  refine cB ?_
  refine aLV F hi (aAh F hm hi) (by unfold fI;repeat' split<;>simp) hq.1 ?_
  rw [← eo]
  exact hgo
theorem aLW : ∀ (j : Nat) (s : List Int),nn s≤j→yO code.length s→Ok (fun r=>r = [aX (aCp fs code (j+1) s)]) (kP (.lst (code.map bK.pv)) (.bool true) T (.lst (fs.map cG.pv)) (aX s)):=by
 intro j
 induction j with
 | zero=>
   intro s hs hg
   rw [kH]
   refine bG (aD (aFT F hg ?_))
   rcases Dec.pass F s with h | ⟨h,h2⟩
   ·unfold aCp
    rw [h,kH]
    exact aQ (aB rfl)
   ·have h3 : nn (qD fs code s).1<nn s:=h2
    omega
 | succ j ih=>
   intro s hs hg
   rw [kH]
   refine bG (aD (aFT F hg ?_))
   rcases Dec.pass F s with h | ⟨h,h2⟩
   ·unfold aCp
    rw [h,kH]
    exact aQ (aB rfl)
   ·rw [aCp,h,if_pos rfl]
    exact ih _ (by have h3 : nn (qD fs code s).1<nn s:=h2;omega) (hg.pass F)
theorem aLX (l : List Int) : PV.flatO (.own 1 8 false []) (aX l)=true:=by
 clear F
 show PV.flatEs false [] (l.map (PV.int .i64))=true
 induction l with
 | nil=>simp [PV.flatEs]
 | cons x r ih=>simp [PV.flatEs,PV.flatE,PV.flat,ih]
theorem aAl {f : Nat} (hf : f<fs.length) (hc : fs[f].code=code) : Ok (fun r=>r = [aX (iD fs code)]) (tY (.agg [T,.lst (fs.map cG.pv)]) (.int .i64 f)):=by
 have hn2:=F.n2
 have hn1:=F.n1
 rw [aFE]
 refine aH rfl (aA rfl (aA rfl (aN hf (fun _=>rfl) (aA (y:=.lst (code.map bK.pv)) (by rw [← hc];rfl) (aD ?_)))))
 refine aF (aLU hn1 (by omega)) (fun r hr=>?_)
 subst hr
 refine eA (aLX F _) (cX (by omega) (by rw [List.length_replicate];omega) (qC (i:=0) (by rw [List.length_replicate];omega) ?_))
 exact aLW F code.length _ (by have:=(yO.start (n:=code.length)).1;unfold nn;exact Nat.le_trans List.countP_le_length (by omega)) yO.start
end
theorem eJ.okB_fit {m : eJ} (h : m.okB=true) : 1≤m.funcs.length∧m.funcs.length≤12∧∀ f∈m.funcs,Fit m.funcs f.code∧0≤f.p∧f.p≤6∧f.p≤f.lc∧f.lc≤12:=by
 simp only [eJ.okB,Bool.and_eq_true,bA,decide_eq_true_eq,List.all_eq_true,tJ] at h
 obtain ⟨⟨h1,h2⟩,_,_,h3⟩:=h
 have hp : ∀ i : Int,0≤oL m.funcs i∧oL m.funcs i≤6:=by
  intro i
  unfold oL
  cases hx : m.funcs[i.toNat]? with
  | none=>simp
  | some f=>exact (h3 f (List.mem_of_getElem? hx)).1
 refine ⟨by omega,by omega,fun f hf=>?_⟩
 obtain ⟨p1,p2,p3,p4⟩:=h3 f hf
 refine ⟨⟨by omega,by omega,by omega,fun x hx=>?_,fun x hx hj=>?_⟩,p1.1,p1.2,p2.1,p2.2⟩
 ·have:=hp x.a
  unfold dQ
  repeat' split
  all_goals (simp only;omega)
 ·have:=p4 x hx
  unfold bW at this
  rcases hj with hj | hj | hj<;>simp [hj,jK] at this<;>omega
end
noncomputable section
open Go Go.IntWalk
attribute [local irreducible] bd PV.ite PV.guardFlat PV.guardOwn PV.whole PV.one PV.cell PV.sub PV.at_ PV.len PV.slen PV.chr PV.beq PV.peq PV.ceq PV.bin PV.neg PV.not PV.conv PV.cut PV.scut PV.cat PV.setAt PV.setCell PV.ncopy PV.copyIn PV.zeros PV.toStr PV.toBytes PV.deref PV.isPtr PV.comp PV.inb PV.off PV.imin PV.imax PV.sel PV.apply PV.isLst PV.isInt PV.ix PV.nilT
structure bT where
 f : Int
 pc : Int
 loc : List bZ
 stk : List bZ
def aU (l : List bZ) : PV:=.lst (l.map bZ.pv)
def bT.pv (f : bT) : PV:=.agg [.int .i64 f.f,.int .i64 f.pc,aU f.loc,aU f.stk]
def aL (r : List bZ) : PV:=.agg [aU r]
theorem aEB {l : List bZ} : ∀ x∈l.map bZ.pv,x.isEl 3 true=true:=by
 intro x hx
 obtain ⟨a,_,rfl⟩:=List.mem_map.1 hx
 rfl
section
variable {P : R → Prop} {k : PV → Option R}
theorem bH {l : List bZ} (h : Ok P (k (.int .i64 l.length))) : Ok P (bd (PV.len (aU l)) k):=aD h
theorem aDV {l : List bZ} {i : Int} (h0 : 0≤i) (h1 : i<l.length) (h : Ok P (k (aU l))) : Ok P (bd (PV.inb (aU l) (.int .i64 i)) k):=aKm h0 (by rw [List.length_map];exact h1) h
theorem aAm {l m : List bZ} (hb : l.length+m.length≤1000000000) (h : Ok P (k (aU (l++m)))) : Ok P (bd (PV.cat 3 32 true (aU l) (.lst (m.map bZ.pv))) k):=by
 refine nT (by simp only [List.length_map];omega) aEB ?_
 rw [← List.map_append]
 exact h
end
section
variable {P : R → Prop} {k : R → Option R} {a0 a1 a2 a3 a4 a5 a6 a7 a8 a9 H O : PV} {A : List PV}
end
inductive aH8 where
 | trap (c : Int)
 | next (fr : bT) (hp : List (List bZ)) (made : Int) (out : List ByteArray)
 | call (fr : bT) (g : bT)
 | ret (v : bZ)
def aCs (v : bZ) (hp : List (List bZ)) : ByteArray:=
 if v.k=0 then bs [110,105,108] else if v.k=1 then xM v.n else if v.k=2 then (if v.n=1 then bs [116,114,117,101] else bs [102,97,108,115,101]) else if v.k=3 then v.s
 else if v.k=5 then bs [102,117,110]++xM v.n
 else if v.k=4 then bs [123]++xM ((hp[v.n.toNat]?.getD []).length)++bs [125] else bs []
def aFU (fs : List cG) (i : Int) : Int:=(fs[i.toNat]?.map cG.lc).getD 0
def aGF (fs : List cG) (g : Int) (args : List bZ) : bT:=⟨g,0,args++List.replicate ((aFU fs g).toNat - args.length) fB,[]⟩
def doT (m : eJ) (fr : bT) (took : List bZ) (depth : Nat) (hp : List (List bZ)) (made : Int) (out : List ByteArray) (x : bK) : aH8:=
 let a:=took.headD fB
 let b:=took.tail.headD fB
 let go : List bZ→aH8:=fun l=>.next ⟨fr.f,fr.pc,fr.loc,fr.stk++l⟩ hp made out
 let rec_ : List bZ:=hp[a.n.toNat]?.getD []
 if x.o=1 then go [aNT x.a]
 else if x.o=2 then go [aFO (decide (x.a=1))]
 else if x.o=3 then go [aK0 (m.texts[x.a.toNat]?.getD (bs []))]
 else if x.o=4 then go [fB]
 else if x.o=5 then go [aOH x.a]
 else if x.o=6 then go [fr.loc[x.a.toNat]?.getD fB]
 else if x.o=7 then .next ⟨fr.f,fr.pc,fr.loc.set x.a.toNat a,fr.stk⟩ hp made out
 else if x.o=8 then go [a,a]
 else if x.o=9 then go []
 else if x.o=10 then go [b,a]
 else if x.o≤15 then (if (opT x.o a b).2≠0 then .trap (opT x.o a b).2 else go [(opT x.o a b).1])
 else if x.o=16 then (if (aKr a).2≠0 then .trap (aKr a).2 else go [(aKr a).1])
 else if x.o=17 then .next ⟨fr.f,x.a,fr.loc,fr.stk⟩ hp made out
 else if x.o≤19 then (if a.k≠2 then .trap 1 else if (decide (a.n=1)==decide (x.o=18))=true then .next ⟨fr.f,x.a,fr.loc,fr.stk⟩ hp made out else go [])
 else if x.o=20 then (if made=120 then .trap 7 else .next ⟨fr.f,fr.pc,fr.loc,fr.stk++[aOG hp.length]⟩ (hp++[List.replicate x.a.toNat fB]) (made+1) out)
 else if x.o=21 then (if a.k≠4 then .trap 1 else if rec_.length≤x.a then .trap 4 else go [rec_[x.a.toNat]?.getD fB])
 else if x.o=22 then (if a.k≠4 then .trap 1 else if rec_.length≤x.a then .trap 4 else .next fr (hp.set a.n.toNat (rec_.set x.a.toNat b)) made out)
 else if x.o=23 then (if a.k≠5 then .trap 1 else if oL m.funcs a.n≠x.a then .trap 5 else if depth=24 then .trap 6 else .call fr (aGF m.funcs a.n took.tail))
 else if x.o=24 then (if depth=24 then .trap 6 else .call fr (aGF m.funcs x.a took))
 else if x.o=25 then .ret a
 else if out.length=200 then .trap 8 else .next fr hp made (out++[aCs a hp])
section
variable {a2 a3 a4 a5 a6 a7 a8 H O T : PV} {A : List PV} {fs : List cG}
end
section
variable {P : R → Prop} {k : R → Option R}
theorem aGG {n : Int} (h : Ok P (k [.bool (eK n)])) : Ok P (bd (sT (.int .i64 n)) k):=by
 refine aF (Q:=fun r=>r = [.bool (eK n)]) ?_ (fun r hr=>by rw [hr];exact h)
 rw [aA8]
 exact dX (aB rfl)
def aPS (f : PV) (g : Int→Int→Int) : Prop:=∀ {a b : Int} {P : R→Prop} {k : R→Option R},eK a=true→eK b=true→Ok P (k [.int .i64 (g a b)])→Ok P (bd (PV.apply aS f [.int .i64 a,.int .i64 b]) k)
theorem aH9 {a b : bZ} {k : PV→Option R} (h : Ok P (k (.bool (decide (a.k=b.k)&&(decide (a.n=b.n)&&hU a.s b.s))))) : Ok P (bd (PV.ceq [1,1,2] .eql (.agg [.int .i64 a.k,.int .i64 a.n,.str a.s]) (.agg [.int .i64 b.k,.int .i64 b.n,.str b.s])) k):=
 dR _ (by simp [PV.ceq,PV.eqCells,PV.eqScalar,PV.eqOr,hU];rfl) h
end
def aDW (v : bZ) : List bT→List bT
 | []=>[]
 | [f]=>[⟨f.f,f.pc,f.loc,f.stk++[v]⟩]
 | f::g::r=>f::aDW v (g::r)
theorem aFV (v : bZ) : ∀ (l : List bT) (f : bT),aDW v (l++[f])=l++[⟨f.f,f.pc,f.loc,f.stk++[v]⟩]
 | [],_=>rfl
 | [a],f=>rfl
 | a::b::l,f=>by
   show a::aDW v (b::l++[f])=_
   rw [aFV v (b::l) f]
   rfl
def DoR (a0 a1 made a3 a4 a5 a6 a7 a8 H O : PV) (fs0 : List bT) : aH8→R→Prop
 | .trap c,r=>c≠0∧gd r 9 = .int .i64 c
 | .next fr hp made' out,r=>r = [a0,a1,.int .i64 made',a3,a4,a5,a6,a7,a8,.int .i64 0,.lst (fs0.map bT.pv++[fr.pv]),.lst (hp.map aL),.lst (out.map PV.str)]
 | .call fr g,r=>r = [a0,a1,made,a3,a4,a5,a6,a7,a8,.int .i64 0,.lst (fs0.map bT.pv++[fr.pv]++[g.pv]),H,O]
 | .ret v,r=>r=if fs0 = [] then [a0,a1,made,.int .i64 1,a4,.int .i64 v.k,.int .i64 v.n,.str v.s,a8,.int .i64 0,.lst [],H,O]
  else [a0,a1,made,a3,a4,a5,a6,a7,a8,.int .i64 0,.lst ((aDW v fs0).map bT.pv),H,O]
structure aPj (m : eJ) (fs0 : List bT) (fr : bT) (took : List bZ) (hp : List (List bZ)) (made : Int) (out : List ByteArray) : Prop where
 nf : m.funcs.length≤12
 nt : m.texts.length≤20
 par : ∀ f∈m.funcs,0≤f.p∧f.p≤6∧f.p≤f.lc∧f.lc≤12
 n0 : fs0.length≤23
 stks : ∀ f∈fs0,f.stk.length≤16
 nl : fr.loc.length≤12
 ns : fr.stk.length+took.length≤16
 recs : ∀ r∈hp,r.length≤6
 nh : hp.length≤120
 nm : 0≤made∧made≤120
 no : out.length≤200
 aU : ∀ v∈took,cD m.funcs.length hp.length v=true
theorem aBO {nf recs : Int} {v : bZ} (h : cD nf recs v=true) : v.s.size≤60:=by
 by_cases h3 : v.k=3
 ·unfold cD at h
  rw [if_neg (fun e=>e.1 h3),if_neg (by omega),if_neg (by omega),if_neg (by omega),if_pos h3] at h
  simp only [Bool.and_eq_true,cP,decide_eq_true_eq] at h
  omega
 ·unfold cD at h
  split at h
  ·cases h
  ·rename_i hn
   have he : hU v.s (bs [])=true:=by
    cases hs : hU v.s (bs []) with
    | true=>rfl
    | false=>exact absurd ⟨h3,hs⟩ hn
   have e0 : (bs []).toList = []:=by rw [Lib.toList_data];rfl
   unfold hU at he
   rw [e0] at he
   have hl : v.s.toList = []:=by simpa using he
   have hsz : v.s.size=v.s.toList.length:=by
    rw [Lib.toList_data,Array.length_toList]
    rfl
   rw [hsz,hl]
   simp
theorem aLY {nf recs : Int} {v : bZ} (h : cD nf recs v=true) (hk : v.k=5) : 0≤v.n∧v.n<nf:=by
 unfold cD at h
 by_cases hc : v.k≠3∧hU v.s (bs [])=false
 ·rw [if_pos hc] at h;cases h
 ·rw [if_neg hc,if_neg (by omega),if_neg (by omega),if_neg (by omega),if_neg (by omega),if_neg (by omega),if_pos hk] at h
  have:=bA.1 h
  omega
theorem aHe {nt nf lc nc : Int} {x : bK} (h : bW nt nf lc nc x.o x.a=true) : (1≤x.o∧x.o≤26)∧(x.o=3→0≤x.a∧x.a<nt)∧((x.o=6∨x.o=7)→0≤x.a∧x.a<lc)∧(x.o=20→0≤x.a∧x.a≤6)∧
 ((x.o=21∨x.o=22)→0≤x.a∧x.a≤5)∧(x.o=23→0≤x.a∧x.a≤6)∧((x.o=5∨x.o=24)→0≤x.a∧x.a<nf)∧((x.o=17∨x.o=18∨x.o=19)→0≤x.a∧x.a<nc)∧(x.o=1→eK x.a=true):=by
 unfold bW at h
 by_cases h1 : x.o=1
 ·rw [if_pos h1] at h
  have h:=bA.1 h
  exact ⟨by omega,fun _=>by omega,fun _=>by omega,fun _=>by omega,fun _=>by omega,fun _=>by omega,fun _=>by omega,fun _=>by omega,fun _=>by first | (unfold eK;exact bA.2 (by omega)) | (exfalso;omega)⟩
 rw [if_neg h1] at h
 by_cases h2 : x.o=2
 ·rw [if_pos h2] at h
  have h:=bA.1 h
  exact ⟨by omega,fun _=>by omega,fun _=>by omega,fun _=>by omega,fun _=>by omega,fun _=>by omega,fun _=>by omega,fun _=>by omega,fun _=>by first | (unfold eK;exact bA.2 (by omega)) | (exfalso;omega)⟩
 rw [if_neg h2] at h
 by_cases h3 : x.o=3
 ·rw [if_pos h3] at h
  have h:=bA.1 h
  exact ⟨by omega,fun _=>by omega,fun _=>by omega,fun _=>by omega,fun _=>by omega,fun _=>by omega,fun _=>by omega,fun _=>by omega,fun _=>by first | (unfold eK;exact bA.2 (by omega)) | (exfalso;omega)⟩
 rw [if_neg h3] at h
 by_cases h5 : x.o=5
 ·rw [if_pos h5] at h
  have h:=bA.1 h
  exact ⟨by omega,fun _=>by omega,fun _=>by omega,fun _=>by omega,fun _=>by omega,fun _=>by omega,fun _=>by omega,fun _=>by omega,fun _=>by first | (unfold eK;exact bA.2 (by omega)) | (exfalso;omega)⟩
 rw [if_neg h5] at h
 by_cases h24 : x.o=24
 ·rw [if_pos h24] at h
  have h:=bA.1 h
  exact ⟨by omega,fun _=>by omega,fun _=>by omega,fun _=>by omega,fun _=>by omega,fun _=>by omega,fun _=>by omega,fun _=>by omega,fun _=>by first | (unfold eK;exact bA.2 (by omega)) | (exfalso;omega)⟩
 rw [if_neg h24] at h
 by_cases h6 : x.o=6
 ·rw [if_pos h6] at h
  have h:=bA.1 h
  exact ⟨by omega,fun _=>by omega,fun _=>by omega,fun _=>by omega,fun _=>by omega,fun _=>by omega,fun _=>by omega,fun _=>by omega,fun _=>by first | (unfold eK;exact bA.2 (by omega)) | (exfalso;omega)⟩
 rw [if_neg h6] at h
 by_cases h7 : x.o=7
 ·rw [if_pos h7] at h
  have h:=bA.1 h
  exact ⟨by omega,fun _=>by omega,fun _=>by omega,fun _=>by omega,fun _=>by omega,fun _=>by omega,fun _=>by omega,fun _=>by omega,fun _=>by first | (unfold eK;exact bA.2 (by omega)) | (exfalso;omega)⟩
 rw [if_neg h7] at h
 by_cases h17 : x.o=17
 ·rw [if_pos h17] at h
  have h:=bA.1 h
  exact ⟨by omega,fun _=>by omega,fun _=>by omega,fun _=>by omega,fun _=>by omega,fun _=>by omega,fun _=>by omega,fun _=>by omega,fun _=>by first | (unfold eK;exact bA.2 (by omega)) | (exfalso;omega)⟩
 rw [if_neg h17] at h
 by_cases h18 : x.o=18
 ·rw [if_pos h18] at h
  have h:=bA.1 h
  exact ⟨by omega,fun _=>by omega,fun _=>by omega,fun _=>by omega,fun _=>by omega,fun _=>by omega,fun _=>by omega,fun _=>by omega,fun _=>by first | (unfold eK;exact bA.2 (by omega)) | (exfalso;omega)⟩
 rw [if_neg h18] at h
 by_cases h19 : x.o=19
 ·rw [if_pos h19] at h
  have h:=bA.1 h
  exact ⟨by omega,fun _=>by omega,fun _=>by omega,fun _=>by omega,fun _=>by omega,fun _=>by omega,fun _=>by omega,fun _=>by omega,fun _=>by first | (unfold eK;exact bA.2 (by omega)) | (exfalso;omega)⟩
 rw [if_neg h19] at h
 by_cases h20 : x.o=20
 ·rw [if_pos h20] at h
  have h:=bA.1 h
  exact ⟨by omega,fun _=>by omega,fun _=>by omega,fun _=>by omega,fun _=>by omega,fun _=>by omega,fun _=>by omega,fun _=>by omega,fun _=>by first | (unfold eK;exact bA.2 (by omega)) | (exfalso;omega)⟩
 rw [if_neg h20] at h
 by_cases h21 : x.o=21
 ·rw [if_pos h21] at h
  have h:=bA.1 h
  exact ⟨by omega,fun _=>by omega,fun _=>by omega,fun _=>by omega,fun _=>by omega,fun _=>by omega,fun _=>by omega,fun _=>by omega,fun _=>by first | (unfold eK;exact bA.2 (by omega)) | (exfalso;omega)⟩
 rw [if_neg h21] at h
 by_cases h22 : x.o=22
 ·rw [if_pos h22] at h
  have h:=bA.1 h
  exact ⟨by omega,fun _=>by omega,fun _=>by omega,fun _=>by omega,fun _=>by omega,fun _=>by omega,fun _=>by omega,fun _=>by omega,fun _=>by first | (unfold eK;exact bA.2 (by omega)) | (exfalso;omega)⟩
 rw [if_neg h22] at h
 by_cases h23 : x.o=23
 ·rw [if_pos h23] at h
  have h:=bA.1 h
  exact ⟨by omega,fun _=>by omega,fun _=>by omega,fun _=>by omega,fun _=>by omega,fun _=>by omega,fun _=>by omega,fun _=>by omega,fun _=>by first | (unfold eK;exact bA.2 (by omega)) | (exfalso;omega)⟩
 rw [if_neg h23] at h
 simp only [Bool.and_eq_true,decide_eq_true_eq,bA] at h
 exact ⟨by omega,fun _=>by omega,fun _=>by omega,fun _=>by omega,fun _=>by omega,fun _=>by omega,fun _=>by omega,fun _=>by omega,fun _=>by first | (unfold eK;exact bA.2 (by omega)) | (exfalso;omega)⟩
section
variable {P : R → Prop} {k : PV → Option R} {hp : List (List bZ)}
end
section
variable {P : R → Prop} {k : R → Option R}
theorem aNW {s : ByteArray} (hs : s.size≤2097152) (h : Ok P (k [.bool (cP s)])) : Ok P (bd (nC (.str s)) k):=aF (aAH hs) (fun r hr=>by rw [hr];exact h)
theorem aFW {v : bZ} {nf recs : Int} (hs : v.s.size≤2097152) (hn : -1000000000≤nf∧nf≤1000000000) (hr : -1000000000≤recs∧recs≤1000000000) : Ok (fun r=>r = [.bool (cD nf recs v)]) (xH v.pv (.int .i64 nf) (.int .i64 recs)):=by
 rw [aEp]
 refine aH rfl (aA rfl (aA rfl (aA rfl ?_)))
 refine aM (aC (fun h0=>?_) (fun h0=>?_))
 rotate_left
 refine aM (aC (fun h1=>aGG ?_) (fun h1=>?_))
 rotate_left
 refine aM (aC (fun h2=>dX ?_) (fun h2=>?_))
 rotate_left
 refine aM (aC (fun h3=>aM ?_) (fun h3=>?_))
 rotate_left
 refine aM (aC (fun h4=>fA hr ?_) (fun h4=>?_))
 rotate_left
 refine aM (aC (fun h5=>fA hn ?_) (fun h5=>aB ?_))
 rotate_right 5
 ·refine aH9 (a:=v) (b:=⟨0,0,bs []⟩) (aB ?_)
  unfold cD
  cases hse : hU v.s (bs []) with
  | false=>rw [if_pos ⟨by omega,rfl⟩];simp [hse]
  | true=>rw [if_neg (by simp),if_pos h0];simp [h0,hse]
 all_goals unfold cD
 ·cases hse : hU v.s (bs []) with
  | false=>
    rw [if_pos ⟨by omega,rfl⟩]
    cases eK v.n
    ·exact aQ (aB rfl)
    ·exact bG (uP (aB (by rw [hse])))
  | true=>
    rw [if_neg (by simp),if_neg h0,if_pos h1]
    cases eK v.n
    ·exact aQ (aB rfl)
    ·exact bG (uP (aB (by rw [hse])))
 ·cases hse : hU v.s (bs []) with
  | false=>
    rw [if_pos ⟨by omega,rfl⟩]
    cases jK v.n 0 1
    ·exact aQ (aB rfl)
    ·exact bG (uP (aB (by rw [hse])))
  | true=>
    rw [if_neg (by simp),if_neg h0,if_neg h1,if_pos h2]
    cases jK v.n 0 1
    ·exact aQ (aB rfl)
    ·exact bG (uP (aB (by rw [hse])))
 ·rw [if_neg (fun h=>h.1 h3),if_neg h0,if_neg h1,if_neg h2,if_pos h3]
  refine aC (fun h6=>aNW hs (aB ?_)) (fun h6=>aB ?_)
  ·rw [decide_eq_true h6];rfl
  ·rw [decide_eq_false h6];rfl
 ·have e : jK v.n 0 (recs - 1)=(decide (0≤v.n)&&decide (v.n<recs)):=by
   unfold jK
   congr 1
   exact decide_eq_decide.2 (by omega)
  rw [e]
  cases hse : hU v.s (bs []) with
  | false=>
    rw [if_pos ⟨by omega,rfl⟩]
    cases (decide (0≤v.n)&&decide (v.n<recs))
    ·exact aQ (aB rfl)
    ·exact bG (uP (aB (by rw [hse])))
  | true=>
    rw [if_neg (by simp),if_neg h0,if_neg h1,if_neg h2,if_neg h3,if_pos h4]
    cases (decide (0≤v.n)&&decide (v.n<recs))
    ·exact aQ (aB rfl)
    ·exact bG (uP (aB (by rw [hse])))
 ·cases hse : hU v.s (bs []) with
  | false=>
    rw [if_pos ⟨by omega,rfl⟩]
    cases jK v.n 0 (nf - 1)
    ·exact aQ (aB rfl)
    ·exact bG (uP (aB (by rw [hse])))
  | true=>
    rw [if_neg (by simp),if_neg h0,if_neg h1,if_neg h2,if_neg h3,if_neg h4,if_pos h5]
    cases jK v.n 0 (nf - 1)
    ·exact aQ (aB rfl)
    ·exact bG (uP (aB (by rw [hse])))
 ·by_cases hse : hU v.s (bs [])=false
  ·rw [if_pos ⟨by omega,hse⟩]
  ·rw [if_neg (fun h=>hse h.2),if_neg h0,if_neg h1,if_neg h2,if_neg h3,if_neg h4,if_neg h5]
end
structure fN where
 fr : List bT
 hp : List (List bZ)
 made : Int
 out : List ByteArray
 st : Int
 tr : Int
 val : bZ
 steps : Int
def fN.pv (v : fN) : PV:=.agg [.lst (v.fr.map bT.pv),.lst (v.hp.map aL),.int .i64 v.made,.lst (v.out.map PV.str),.int .i64 v.st,.int .i64 v.tr,.int .i64 v.val.k,.int .i64 v.val.n,.str v.val.s,.int .i64 v.steps]
def dY (v : fN) : R:=[.int .i64 v.made,.int .i64 v.st,.int .i64 v.tr,.int .i64 v.val.k,.int .i64 v.val.n,.str v.val.s,.int .i64 v.steps,.lst (v.fr.map bT.pv),.lst (v.hp.map aL),.lst (v.out.map PV.str)]
structure Sz (v : fN) : Prop where
 f : v.fr.length≤1000
 h : v.hp.length≤1000
 o : v.out.length≤1000
 fl : ∀ f∈v.fr,f.loc.length≤1000∧f.stk.length≤1000
 hl : ∀ r∈v.hp,r.length≤1000
theorem aAK (l : List bZ) : PV.flatEs true [] (l.map bZ.pv)=true:=by
 induction l with
 | nil=>simp [PV.flatEs]
 | cons x r ih=>simp [PV.flatEs,PV.flatE,PV.flatCs,PV.flat,bZ.pv,ih]
theorem eX (l : List bZ) : PV.flatO (.own 3 32 true []) (aU l)=true:=aAK l
theorem aAn (l : List bT) : PV.flatO (.own 4 64 true [.leaf,.leaf,(.own 3 32 true []),(.own 3 32 true [])]) (.lst (l.map bT.pv))=true:=by
 show PV.flatEs true _ (l.map bT.pv)=true
 induction l with
 | nil=>simp [PV.flatEs]
 | cons x r ih=>
   simp only [List.map_cons,PV.flatEs,Bool.and_eq_true]
   refine ⟨?_,ih⟩
   simp [bT.pv,PV.flatE,PV.flatCs,PV.flat,aU,aAK]
theorem aAL (l : List (List bZ)) : PV.flatO (.own 1 24 true [(.own 3 32 true [])]) (.lst (l.map aL))=true:=by
 show PV.flatEs true _ (l.map aL)=true
 induction l with
 | nil=>simp [PV.flatEs]
 | cons x r ih=>
   simp only [List.map_cons,PV.flatEs,Bool.and_eq_true]
   refine ⟨?_,ih⟩
   simp [aL,PV.flatE,PV.flatCs,aU,aAK]
theorem aDj (l : List ByteArray) : PV.flatO (.own 1 16 false []) (.lst (l.map PV.str))=true:=by
 show PV.flatEs false [] (l.map PV.str)=true
 induction l with
 | nil=>simp [PV.flatEs]
 | cons x r ih=>simp [PV.flatEs,PV.flatE,PV.flat,ih]
theorem aK3 {l : List ByteArray} : ∀ x∈l.map PV.str,x.isEl 1 false=true:=by
 intro x hx
 obtain ⟨a,_,rfl⟩:=List.mem_map.1 hx
 rfl
theorem aGH {hp : List (List bZ)} (h : hp.length≤1000) (hl : ∀ r∈hp,r.length≤1000) : Ok (fun r=>r = [.lst (hp.map aL)]) (pI (.lst (hp.map aL))):=by
 rw [aAW]
 refine cT (n:=hp.length) (P:=fun _ r=>r = [.lst (hp.map aL)]) (F:=fun i=>iI (.lst (hp.map aL)) (.int .i64 i) (.lst ((hp.take i).map aL))) ?_ ?_ 0 (by omega)
 ·rw [oK]
  refine aD (aE (aC (fun h=>by omega) (fun _=>aB ?_)))
  rw [List.take_length]
 ·intro i hi ih
  rw [oK]
  have:=hl _ (List.getElem_mem hi)
  refine aD (aE (aC (fun _=>?_) (fun h=>by omega)))
  refine aN hi (fun _=>rfl) (aA rfl (wX (by rw [List.length_map];omega) aEB ?_))
  refine nT (by simp;omega) (fun x hx=>by simp only [List.mem_singleton] at hx;subst hx;rfl) (aI (by omega) ?_)
  have e : (hp.take i).map aL++[PV.agg [.lst (hp[i].map bZ.pv)]]=(hp.take (i+1)).map aL:=by
   rw [List.take_add_one,List.getElem?_eq_getElem hi,List.map_append];rfl
  rw [e]
  exact ih
theorem aFX {f : bT} (h : f.loc.length≤1000∧f.stk.length≤1000) : Ok (fun r=>r = [.int .i64 f.f,.int .i64 f.pc,aU f.loc,aU f.stk]) (oD f.pv):=by
 rw [aAd]
 refine aH rfl (aA rfl (aA rfl (aA rfl (aA rfl ?_))))
 exact wX (by rw [List.length_map];omega) aEB (wX (by rw [List.length_map];omega) aEB (aB rfl))
theorem aLZ {v : fN} (z : Sz v) : Ok (fun r=>r=dY v) (rV v.pv):=by
 obtain ⟨zf,zh,zo,zfl,zhl⟩:=z
 rw [aEn]
 refine aH rfl (aA rfl (aA rfl (aA rfl (aA rfl (aA rfl (aA rfl (aA rfl (aA rfl (aA rfl (aA rfl ?_))))))))))
 refine cT (n:=v.fr.length) (P:=fun _ r=>r=dY v) (F:=fun i=>mP (.int .i64 i) (.lst (v.fr.map bT.pv)) (.lst (v.hp.map aL)) (.int .i64 v.made) (.lst (v.out.map PV.str)) (.int .i64 v.st) (.int .i64 v.tr) (.int .i64 v.val.k) (.int .i64 v.val.n) (.str v.val.s) (.int .i64 v.steps) (.int .i64 0) (.int .i64 0) (.int .i64 0) (.int .i64 0) (.int .i64 0) (.str (bs [])) (.int .i64 0) (.lst []) (.lst []) (.lst []) (.lst ((v.fr.take i).map bT.pv))) ?_ ?_ 0 (by omega)
 ·rw [tH]
  refine aD (aE (aC (fun h=>by omega) (fun _=>?_)))
  refine aF (aGH zh zhl) (fun r hr=>?_)
  subst hr
  refine eA (aAL _) (wX (by rw [List.length_map];omega) aK3 (aB ?_))
  rw [List.take_length]
  rfl
 ·intro i hi ih
  rw [tH]
  refine aD (aE (aC (fun _=>?_) (fun h=>by omega)))
  refine aN hi (fun _=>rfl) (aF (aFX (zfl _ (List.getElem_mem hi))) (fun r hr=>?_))
  subst hr
  refine fE rfl (fE rfl (eA (eX _) (eA (eX _) ?_)))
  refine nT (by simp;omega) (fun x hx=>by simp only [List.mem_singleton] at hx;subst hx;rfl) (aI (by omega) ?_)
  have e : (v.fr.take i).map bT.pv++[PV.agg [.int .i64 v.fr[i].f,.int .i64 v.fr[i].pc,aU v.fr[i].loc,aU v.fr[i].stk]]=(v.fr.take (i+1)).map bT.pv:=by
   rw [List.take_add_one,List.getElem?_eq_getElem hi,List.map_append];rfl
  exact e▸ih
theorem aNX {P : R→Prop} {k : R→Option R} {v : fN} (z : Sz v) (h : Ok P (k (dY v))) : Ok P (bd (rV v.pv) k):=aF (aLZ z) (fun r hr=>by rw [hr];exact h)
theorem jV {P : R→Prop} {v : fN} {o : Option R} (h : Ok P o) :
 Ok P (PV.guardFlat (gd (dY v) 0) (PV.guardFlat (gd (dY v) 1) (PV.guardFlat (gd (dY v) 2) (PV.guardFlat (gd (dY v) 3) (PV.guardFlat (gd (dY v) 4) (PV.guardFlat (gd (dY v) 5) (PV.guardFlat (gd (dY v) 6)
  (PV.guardOwn (.own 4 64 true [.leaf,.leaf,(.own 3 32 true []),(.own 3 32 true [])]) (gd (dY v) 7) (PV.guardOwn (.own 1 24 true [(.own 3 32 true [])]) (gd (dY v) 8) (PV.guardOwn (.own 1 16 false []) (gd (dY v) 9) o)))))))))):=
 fE rfl (fE rfl (fE rfl (fE rfl (fE rfl (fE rfl (fE rfl (eA (aAn _) (eA (aAL _) (eA (aDj _) h)))))))))
def dD (fs : List cG) (i : Int) : List bK:=(fs[i.toNat]?.map cG.code).getD []
def nK (fs : List cG) (f : bT) : bK:=(dD fs f.f)[f.pc.toNat]?.getD ⟨0,0⟩
def aL0 (_m : eJ) (v : fN) (fs0 : List bT) : aH8→fN
 | .trap c=>⟨v.fr,v.hp,v.made,v.out,2,c,v.val,v.steps+1⟩
 | .next fr hp made out=>⟨fs0++[fr],hp,made,out,v.st,v.tr,v.val,v.steps+1⟩
 | .call fr g=>⟨fs0++[fr,g],v.hp,v.made,v.out,v.st,v.tr,v.val,v.steps+1⟩
 | .ret a=>if fs0 = [] then ⟨[],v.hp,v.made,v.out,1,v.tr,a,v.steps+1⟩ else ⟨aDW a fs0,v.hp,v.made,v.out,v.st,v.tr,v.val,v.steps+1⟩
def aHf (m : eJ) (v : fN) (fs0 : List bT) (f : bT) : aH8:=
 let x:=nK m.funcs f
 let b:=f.stk.length - (dQ m.funcs x).1.toNat
 doT m ⟨f.f,f.pc+1,f.loc,f.stk.take b⟩ (f.stk.drop b) (fs0.length+1) v.hp v.made v.out x
def uQ (m : eJ) (v : fN) : fN:=
 if v.st≠0 then v else if v.steps=50000 then v
 else match v.fr.getLast? with
 | none=>v
 | some f=>aL0 m v v.fr.dropLast (aHf m v v.fr.dropLast f)
theorem aHg {m : eJ} {v : fN} {fs0 : List bT} {f : bT} (h1 : v.st=0) (h2 : v.steps≠50000) (h3 : v.fr=fs0++[f]) : uQ m v=aL0 m v fs0 (aHf m v fs0 f):=by
 unfold uQ
 rw [if_neg (by omega),if_neg h2,h3]
 simp
structure aPk (m : eJ) (v : fN) (fs0 : List bT) (f : bT) : Prop where
 fr : v.fr=fs0++[f]
 fi : 0≤f.f∧f.f<m.funcs.length
 pc : 0≤f.pc∧f.pc<(dD m.funcs f.f).length
 nc : (dD m.funcs f.f).length≤120
 ins : bW m.texts.length m.funcs.length f.loc.length (dD m.funcs f.f).length (nK m.funcs f).o (nK m.funcs f).a=true
 us : 0≤(dQ m.funcs (nK m.funcs f)).1∧(dQ m.funcs (nK m.funcs f)).1≤f.stk.length
 small : ∀ b,aPj m fs0 ⟨f.f,f.pc+1,f.loc,f.stk.take b⟩ (f.stk.drop b) v.hp v.made v.out
section
variable {P : R → Prop} {k : R → Option R}
theorem xO {l : List bZ} (hl : l.length≤2097152) (h : Ok P (k [aU l])) : Ok P (bd (bP (aU l)) k):=by
 refine aF (Q:=fun r=>r = [aU l]) ?_ (fun r hr=>by rw [hr];exact h)
 rw [lN]
 refine aJe (aKX (fun e=>aB ?_) ?_)
 ·have : l = []:=List.map_eq_nil_iff.1 e
  subst this;rfl
 ·exact aAm (l:=[]) (m:=l) (by simp;omega) (aB (by simp))
theorem aKs {l : List ByteArray} (hl : l.length≤2097152) (h : Ok P (k [.lst (l.map PV.str)])) : Ok P (bd (gG (.lst (l.map PV.str))) k):=by
 refine aF (Q:=fun r=>r = [.lst (l.map PV.str)]) ?_ (fun r hr=>by rw [hr];exact h)
 rw [qB]
 refine aJe (aKX (fun e=>aB ?_) ?_)
 ·have : l = []:=List.map_eq_nil_iff.1 e
  subst this;rfl
 ·exact wX (by simp;omega) aK3 (aB rfl)
theorem aNY {n : Int} (h0 : 0≤n) (h1 : n≤4194304) (h : Ok P (k [.lst []])) : Ok P (bd (eI (.int .i64 n)) k):=by
 refine aF (Q:=fun r=>r = [.lst []]) ?_ (fun r hr=>by rw [hr];exact h)
 rw [lT]
 unfold sG
 simp only
 rw [if_pos (by omega)]
 exact aB rfl
theorem aK4 {a b : List bZ} (ha : a.length≤2097152) (hb : b.length≤2097152) (h : Ok P (k [aU (a++b)])) : Ok P (bd (dW (.lst [aU a,aU b])) k):=by
 refine aF (Q:=fun r=>r = [aU (a++b)]) ?_ (fun r hr=>by rw [hr];exact h)
 have at0 : ∀ {P : R→Prop} {k : PV→Option R},Ok P (k (aU a))→Ok P (bd (PV.at_ 1 false (.lst [aU a,aU b]) (.int .i64 0)) k):=fun h=>aBp (by omega) rfl rfl h
 have at1 : ∀ {P : R→Prop} {k : PV→Option R},Ok P (k (aU b))→Ok P (bd (PV.at_ 1 false (.lst [aU a,aU b]) (.int .i64 1)) k):=fun h=>aBp (by omega) rfl rfl h
 rw [kS]
 refine bJ ?_
 show Ok _ (bN _ (.int .i64 0) _ (.int .i64 2) (.int .i64 0))
 rw [dC]
 refine aE (bG (at0 (bH (aI (by omega) (aE (aC (fun h=>by omega) (fun _=>aI (by omega) ?_)))))))
 show Ok _ (bN _ _ _ (.int .i64 2) (.int .i64 1))
 rw [dC]
 refine aE (bG (at1 (bH (aI (by omega) (aE (aC (fun h=>by omega) (fun _=>aI (by omega) ?_)))))))
 show Ok _ (bN _ _ _ (.int .i64 2) (.int .i64 2))
 rw [dC]
 refine aE (aQ (aNY (by omega) (by omega) (bJ ?_)))
 show Ok _ (bL _ (.int .i64 2) (.int .i64 0) (aU []))
 rw [dB]
 refine aE (bG (at0 (aAm (by simp;omega) (aI (by omega) ?_))))
 show Ok _ (bL _ (.int .i64 2) (.int .i64 1) _)
 rw [dB]
 refine aE (bG (at1 (aAm (by simp;omega) (aI (by omega) ?_))))
 show Ok _ (bL _ (.int .i64 2) (.int .i64 2) _)
 rw [dB]
 refine aE (aQ (aB ?_))
 simp
theorem aKt {fs : List cG} {i : Int} {k : PV→Option R} (h0 : 0≤i) (h1 : i<fs.length) (h : ∀ f : cG,fs[i.toNat]? = some f→Ok P (k f.pv)) : Ok P (bd (PV.at_ 3 true (.lst (fs.map cG.pv)) (.int .i64 i)) k):=by
 obtain ⟨n,rfl⟩:=Int.eq_ofNat_of_zero_le h0
 refine aN (by omega) (fun _=>rfl) (h _ ?_)
 rw [Int.toNat_natCast,List.getElem?_eq_getElem (by omega)]
theorem aJn {hp : List (List bZ)} (h : hp.length≤1000) (hl : ∀ r∈hp,r.length≤1000) : Ok (fun r=>r = [.lst (hp.map aL)]) (vH (.lst (hp.map aL))):=by
 rw [aDf]
 have e : (hp.map aL).length=hp.length:=List.length_map ..
 refine bJ ?_
 rw [e]
 refine (cT (n:=hp.length) (F:=fun i=>lL (.lst (hp.map aL)) (.int .i64 hp.length) (.int .i64 i) (.lst ((hp.take i).map aL))) (P:=fun _ r=>r = [.lst (hp.map aL)]) ?_ (fun i hi ih=>?_) 0 (Nat.zero_le _))
 ·rw [rJ]
  refine aE ?_
  rw [decide_eq_false (by omega)]
  refine aQ (aB ?_)
  rw [List.take_length]
 ·rw [rJ]
  refine aE ?_
  rw [decide_eq_true (by omega)]
  refine bG (aN hi (fun _=>rfl) (aH rfl (aA rfl (xO (by have:=hl _ (List.getElem_mem hi);omega) (eA (eX _) ?_)))))
  refine nT (by simp;omega) (fun x hx=>by simp at hx;subst hx;rfl) (aI (by omega) ?_)
  have e : (hp.take (i+1)).map aL=(hp.take i).map aL++[PV.agg [aU hp[i]]]:=by
   rw [List.take_add_one,List.getElem?_eq_getElem hi,List.map_append];rfl
  rw [e] at ih
  exact ih
theorem aGI {fr : List bT} (h : fr.length≤1000) (hl : ∀ f∈fr,f.loc.length≤1000∧f.stk.length≤1000) : Ok (fun r=>r = [.lst (fr.map bT.pv)]) (qO (.lst (fr.map bT.pv))):=by
 rw [aBN]
 have e : (fr.map bT.pv).length=fr.length:=List.length_map ..
 refine bJ ?_
 rw [e]
 refine (cT (n:=fr.length) (F:=fun i=>jH (.lst (fr.map bT.pv)) (.int .i64 fr.length) (.int .i64 i) (.lst ((fr.take i).map bT.pv))) (P:=fun _ r=>r = [.lst (fr.map bT.pv)]) ?_ (fun i hi ih=>?_) 0 (Nat.zero_le _))
 ·rw [oZ]
  refine aE ?_
  rw [decide_eq_false (by omega)]
  refine aQ (aB ?_)
  rw [List.take_length]
 ·rw [oZ]
  refine aE ?_
  rw [decide_eq_true (by omega)]
  have hb:=hl _ (List.getElem_mem hi)
  refine bG (aN hi (fun _=>rfl) (aH rfl (aA rfl (aA rfl (aA rfl (aA rfl (xO (by omega) (eA (eX _) (xO (by omega) (eA (eX _) ?_))))))))))
  refine nT (by simp;omega) (fun x hx=>by simp at hx;subst hx;rfl) (aI (by omega) ?_)
  have e : (fr.take (i+1)).map bT.pv=(fr.take i).map bT.pv++[fr[i].pv]:=by
   rw [List.take_add_one,List.getElem?_eq_getElem hi,List.map_append];rfl
  rw [e] at ih
  exact ih
theorem aMU {v : fN} (z : Sz v) (h : Ok P (k (dY v))) : Ok P (bd (vF v.pv) k):=by
 refine aF (Q:=fun r=>r=dY v) ?_ (fun r hr=>by rw [hr];exact h)
 rw [aDc]
 refine aH rfl (aA rfl (aA rfl (aA rfl (aA rfl (aA rfl (aA rfl (aA rfl (aA rfl (aA rfl (aA rfl ?_))))))))))
 refine aF (aGI z.f z.fl) (fun r hr=>?_)
 rw [hr]
 refine eA (aAn _) (aF (aJn z.h z.hl) (fun r hr=>?_))
 rw [hr]
 refine eA (aAL _) (aKs (by have:=z.o;omega) (eA (aDj _) (aB rfl)))
end
def DoI (made a3 a4 a5 a6 a7 a8 F H O : PV) (fs0 : List bT) : aH8→R→Prop
 | .trap c,r=>c≠0∧r = [.int .i64 c,made,a3,a4,a5,a6,a7,a8,F,H,O]
 | .next fr hp made' out,r=>r = [.int .i64 0,.int .i64 made',a3,a4,a5,a6,a7,a8,.lst (fs0.map bT.pv++[fr.pv]),.lst (hp.map aL),.lst (out.map PV.str)]
 | .call fr g,r=>r = [.int .i64 0,made,a3,a4,a5,a6,a7,a8,.lst (fs0.map bT.pv++[fr.pv]++[g.pv]),H,O]
 | .ret v,r=>r=if fs0 = [] then [.int .i64 0,made,.int .i64 1,a4,.int .i64 v.k,.int .i64 v.n,.str v.s,a8,.lst [],H,O]
  else [.int .i64 0,made,a3,a4,a5,a6,a7,a8,.lst ((aDW v fs0).map bT.pv),H,O]
section
variable {P : R → Prop} {k : R → Option R} {A : List PV}
end
end
noncomputable section
open Go
attribute [local irreducible] bd PV.ite PV.guardFlat PV.guardOwn PV.whole PV.one PV.cell PV.sub PV.at_ PV.len PV.slen PV.chr PV.beq PV.peq PV.ceq PV.bin PV.neg PV.not PV.conv PV.cut PV.scut PV.cat PV.setAt PV.setCell PV.ncopy PV.copyIn PV.zeros PV.toStr PV.toBytes PV.deref PV.isPtr PV.comp PV.inb PV.off PV.imin PV.imax PV.sel PV.apply PV.isLst PV.isInt PV.ix PV.nilT
def aCt (fs : List cG) (code : List bK) (d : List Int) (pc : Nat) : Option Int:=
 match code[pc]? with
 | none=>none
 | some x=>
   if d[pc]?.getD 0<0 then none
   else if can fs x (d[pc]?.getD 0)=false then some 2
   else if (fI x pc).any (fun t=>decide ((code.length : Int)≤t))=true then some 3
   else if (fI x pc).any (fun t=>!decide (d[t.toNat]?.getD 0=gJ fs x (d[pc]?.getD 0)))=true then some 4
   else none
def aA9 (fs : List cG) (code : List bK) (f pc : Nat) : Option (Int × Nat × Nat):=(aCt fs code (iD fs code) pc).map fun c=>(c,f,pc)
def aHh (fs : List cG) (f : Nat) : Option (Int × Nat × Nat):=match fs[f]? with
 | some x=>(List.range' 0 x.code.length).findSome? (aA9 fs x.code f)
 | none=>none
def bad (fs : List cG) : Option (Int × Nat × Nat):=(List.range' 0 fs.length).findSome? (aHh fs)
def aKu : Option (Int × Nat × Nat)→PV
 | some (c,f,pc)=>.agg [.int .i64 c,.int .i64 f,.int .i64 pc]
 | none=>.agg [.int .i64 0,.int .i64 0,.int .i64 0]
def eJ.verify (m : eJ) : PV:=if m.okB then aKu (bad m.funcs) else .agg [.int .i64 1,.int .i64 0,.int .i64 0]
theorem aEC {n : Nat} {F : Nat→Option R} {P : R→Prop} (I : Nat→Prop) (he : I n→Ok P (F n)) (hs : ∀ i,i<n→I i→(I (i+1)→Ok P (F (i+1)))→Ok P (F i)) (h0 : I 0) : Ok P (F 0):=
 xK (σ:=Unit) (F:=fun i _=>F i) (fun i _=>I i) (fun _ h=>he h) (fun i _ hi hI ih=>hs i hi hI (fun h=>ih () h)) 0 () (by omega) h0
theorem aCu {α : Type} {xs : List α} {i : Nat} (hi : i<xs.length) (p : α→Bool) : (xs.drop i).any p=(p xs[i]||(xs.drop (i+1)).any p):=by
 rw [List.drop_eq_getElem_cons hi,List.any_cons]
section
variable {fs : List cG} {code : List bK} {T x3 x4 x5 : PV} (F : Fit fs code) {f : Nat} (hf : f < fs.length)
include F hf
theorem aKv {P : R→Prop} {pc : Nat} (hpc : pc<code.length) {d : List Int} (hd : d.length=code.length) {left : Int} {ts : List Int} (hts : ∀ t∈ts,0≤t∧t<code.length) (hn : ts.length≤10)
 (h4 : ts.any (fun t=>!decide (d[t.toNat]?.getD 0=left))=true→P [.agg [.int .i64 4,.int .i64 f,.int .i64 pc]])
 (hgo : ts.any (fun t=>!decide (d[t.toNat]?.getD 0=left))=false→Ok P (iR (.int .i64 f) (.lst (code.map bK.pv)) (aX d) (.int .i64 ((pc : Int)+1)) T (.lst (fs.map cG.pv)) x3 x4 x5)) :
 Ok P (gM (.int .i64 f) (.lst (code.map bK.pv)) (aX d) (.int .i64 pc) (.int .i64 left) (aX ts) (.int .i64 0) T (.lst (fs.map cG.pv)) x3 x4 x5):=by
 have hn2:=F.n2
 refine aEC (n:=ts.length) (F:=fun i=>gM (.int .i64 f) (.lst (code.map bK.pv)) (aX d) (.int .i64 pc) (.int .i64 left) (aX ts) (.int .i64 i) T (.lst (fs.map cG.pv)) x3 x4 x5)
  (fun i=>(ts.drop i).any (fun t=>!decide (d[t.toNat]?.getD 0=left))=ts.any (fun t=>!decide (d[t.toNat]?.getD 0=left))) ?_ ?_ (by rw [List.drop_zero])
 ·intro hI
  rw [List.drop_length] at hI
  rw [tA]
  exact cB (aE (aC (fun h=>by omega) (fun _=>aI (by omega) (hgo hI.symm))))
 ·intro i hi hI ih
  rw [aCu hi] at hI
  have ht:=hts ts[i] (List.getElem_mem _)
  rw [tA]
  refine cB (aE (aC (fun _=>?_) (fun h=>by omega)))
  refine cJ hi (hJ (by omega) (by omega) (fun v hv=>?_))
  have hv' : d[ts[i].toNat]?.getD 0=v:=by rw [hv];rfl
  rw [hv'] at hI
  refine cW (aY (fun h=>?_) (fun h=>?_))
  ·rw [decide_eq_false h] at hI
   exact bR rfl (bR rfl (aB (h4 hI.symm)))
  ·rw [decide_eq_true h] at hI
   exact aI (by omega) (ih hI)
theorem aL1 {P : R→Prop} {pc : Nat} (hpc : pc<code.length) {d : List Int} (hd : d.length=code.length) {left : Int} {ts : List Int} (hts : ∀ t∈ts,0≤t∧t≤code.length) (hn : ts.length≤10)
 (h3 : ts.any (fun t=>decide ((code.length : Int)≤t))=true→P [.agg [.int .i64 3,.int .i64 f,.int .i64 pc]])
 (hgo : ts.any (fun t=>decide ((code.length : Int)≤t))=false→Ok P (gM (.int .i64 f) (.lst (code.map bK.pv)) (aX d) (.int .i64 pc) (.int .i64 left) (aX ts) (.int .i64 0) T (.lst (fs.map cG.pv)) x3 x4 x5)) :
 Ok P (jR (.int .i64 f) (.lst (code.map bK.pv)) (aX d) (.int .i64 pc) (.int .i64 left) (aX ts) (.int .i64 0) T (.lst (fs.map cG.pv)) x3 x4 x5):=by
 have hn2:=F.n2
 refine aEC (n:=ts.length) (F:=fun i=>jR (.int .i64 f) (.lst (code.map bK.pv)) (aX d) (.int .i64 pc) (.int .i64 left) (aX ts) (.int .i64 i) T (.lst (fs.map cG.pv)) x3 x4 x5)
  (fun i=>(ts.drop i).any (fun t=>decide ((code.length : Int)≤t))=ts.any (fun t=>decide ((code.length : Int)≤t))) ?_ ?_ (by rw [List.drop_zero])
 ·intro hI
  rw [List.drop_length] at hI
  rw [sZ]
  exact cB (aE (aC (fun h=>by omega) (fun _=>hgo hI.symm)))
 ·intro i hi hI ih
  rw [aCu hi] at hI
  rw [sZ]
  refine cB (aE (aC (fun _=>?_) (fun h=>by omega)))
  refine cJ hi (aD (sQ (aC (fun h=>?_) (fun h=>?_))))
  ·rw [decide_eq_true h] at hI
   exact bR rfl (bR rfl (aB (h3 hI.symm)))
  ·rw [decide_eq_false h] at hI
   exact aI (by omega) (ih hI)
theorem aK5 {ts : List Int} {n : Int} (h : ts.any (fun t=>decide (n≤t))=false) : ∀ t∈ts,t<n:=by
 clear F hf
 intro t ht
 rw [List.any_eq_false] at h
 have:=h t ht
 simp at this
 omega
theorem aKw {rest : Option (Int × Nat × Nat)} (hnext : Ok (fun r=>r = [aKu rest]) (kM (.int .i64 ((f : Int)+1)) T (.lst (fs.map cG.pv)) x3 x4 x5)) : ∀ pc,pc≤code.length→
 Ok (fun r=>r = [aKu (((List.range' pc (code.length - pc)).findSome? (aA9 fs code f)).or rest)]) (iR (.int .i64 f) (.lst (code.map bK.pv)) (aX (iD fs code)) (.int .i64 pc) T (.lst (fs.map cG.pv)) x3 x4 x5):=by
 have hn2:=F.n2
 have hnf:=F.nf
 have hg:=xN F
 generalize hd : iD fs code=d at hg
 refine cT ?_ ?_
 ·rw [uG,aCn]
  exact aD (aE (aC (fun h=>by omega) (fun _=>aI (by omega) hnext)))
 ·intro pc hpc ih
  have hx : code[pc]? = some code[pc]:=List.getElem?_eq_getElem hpc
  have hm : code[pc]∈code:=List.getElem_mem _
  have hu:=F.u code[pc] hm
  have hil : pc<d.length:=by rw [hg.1];exact hpc
  have hv:=hg.at pc
  have e2 : d[pc]=d[pc]?.getD 0:=aEA hil
  rw [aAI hpc]
  have eb : aA9 fs code f pc=(aCt fs code d pc).map fun c=>(c,f,pc):=by unfold aA9;rw [hd]
  rw [eb]
  have ec : aCt fs code d pc=if d[pc]?.getD 0<0 then none
   else if can fs code[pc] (d[pc]?.getD 0)=false then some 2
   else if (fI code[pc] pc).any (fun t=>decide ((code.length : Int)≤t))=true then some 3
   else if (fI code[pc] pc).any (fun t=>!decide (d[t.toNat]?.getD 0=gJ fs code[pc] (d[pc]?.getD 0)))=true then some 4
   else none:=by
   conv=>lhs;unfold aCt
   rw [hx]
  generalize hw : d[pc]?.getD 0=w at *
  generalize aCt fs code d pc=ch at *
  rw [uG]
  refine aD (aE (aC (fun _=>?_) (fun h=>by omega)))
  refine cJ hil ?_
  rw [e2]
  refine aE (aC (fun h1=>?_) (fun h1=>?_))
  ·rw [if_pos h1] at ec
   subst ec
   exact aI (by omega) ih
  rw [if_neg h1] at ec
  refine aN hpc (fun _=>rfl) (aF (aG8 (T:=T) (by omega)) (fun r hr=>?_))
  subst hr
  refine kB rfl (kB rfl (cJ hil ?_))
  rw [e2]
  refine bY (by omega) (aI (by omega) (cJ hil ?_))
  rw [e2]
  refine aE (aC (fun h2=>?_) (fun h2=>?_))
  ·have hc : can fs code[pc] w=false:=by simp only [can];rw [decide_eq_false (by omega)];rfl
   rw [if_pos hc] at ec
   subst ec
   exact bR rfl (bR rfl (aB rfl))
  refine iC (aC (fun h3=>?_) (fun h3=>?_))
  ·have hc : can fs code[pc] w=false:=by simp only [can];rw [decide_eq_false (p:=gJ fs code[pc] w≤16) (by unfold gJ;omega),Bool.and_false]
   rw [if_pos hc] at ec
   subst ec
   exact bR rfl (bR rfl (aB rfl))
  have hc : can fs code[pc] w=true:=by simp only [can];rw [decide_eq_true (by omega),decide_eq_true (p:=gJ fs code[pc] w≤16) (by unfold gJ;omega)];rfl
  rw [hc,if_neg (by simp)] at ec
  refine aN hpc (fun _=>rfl) (aF (aG9 (by omega)) (fun r hr=>?_))
  subst hr
  have hnx:=aAh F hm hpc
  have hl10 : (fI code[pc] pc).length≤10:=by unfold fI;repeat' split<;>simp
  refine aL1 F hf hpc hg.1 (left:=gJ fs code[pc] w) hnx hl10 (fun h=>?_) (fun h=>?_)
  ·rw [if_pos h] at ec
   subst ec
   rfl
  rw [if_neg (by rw [h];simp)] at ec
  refine aKv F hf hpc hg.1 (left:=gJ fs code[pc] w) (fun t ht=>⟨(hnx t ht).1,aK5 F hf h t ht⟩) hl10 (fun h=>?_) (fun h=>?_)
  ·rw [if_pos h] at ec
   subst ec
   rfl
  ·rw [if_neg (by rw [h];simp)] at ec
   subst ec
   exact ih
end
theorem aFY {fs : List cG} {f : Nat} (hf : f<fs.length) : aHh fs f=(List.range' 0 fs[f].code.length).findSome? (aA9 fs fs[f].code f):=by
 unfold aHh
 rw [List.getElem?_eq_getElem hf]
theorem aJo {m : eJ} (h : m.sized) : Ok (fun r=>r = [m.verify]) (zS m.pv):=by
 rw [aFz]
 refine aH rfl (aA rfl (aA rfl (aF (aGD h) (fun r hr=>?_))))
 subst hr
 unfold eJ.verify
 refine bC (aZ (fun hb=>aB ?_) (fun hb=>?_))
 ·have : m.okB=false:=by simpa using hb
  rw [this];rfl
 have hb : m.okB=true:=by simpa using hb
 rw [hb,if_pos rfl]
 obtain ⟨h1,h2,h3⟩:=eJ.okB_fit hb
 have key:=cT (n:=m.funcs.length) (P:=fun f r=>r = [aKu ((List.range' f (m.funcs.length - f)).findSome? (aHh m.funcs))])
  (F:=fun f=>kM (.int .i64 f) (.lst (m.texts.map PV.str)) (.lst (m.funcs.map cG.pv)) (.int .i64 0) (.int .i64 0) (.int .i64 0)) ?_ ?_ 0 (by omega)
 ·exact key
 ·rw [uF,aCn]
  exact aD (aE (aC (fun h=>by omega) (fun _=>aB rfl)))
 ·intro f hf ih
  have F:=(h3 m.funcs[f] (List.getElem_mem _)).1
  rw [uF,aAI hf,aFY hf]
  refine aD (aE (aC (fun _=>?_) (fun h=>by omega)))
  refine aN hf (fun _=>rfl) (aA rfl (aF (aAi F hf rfl) (fun r hr=>?_)))
  subst hr
  exact aKw F hf ih 0 (by omega)
section
variable {P : R → Prop} {k : R → Option R}
theorem aL2 {xs : List Int} (hx : xs.length≤1000000000) (y : Int) : Ok (fun r=>∃ n : Int,r = [.int .i64 n]∧(0≤n↔xs.any (fun x=>decide (y=x))=true)) (eF (aX xs) (.int .i64 y)):=by
 rw [nG]
 refine cB ?_
 refine aEC (n:=xs.length) (F:=fun i=>eG (aX xs) (.int .i64 y) (.int .i64 xs.length) (.int .i64 i)) (fun i=>(xs.drop i).any (fun x=>decide (y=x))=xs.any (fun x=>decide (y=x))) ?_ ?_ (by rw [List.drop_zero])
 ·intro hI
  rw [List.drop_length] at hI
  rw [eP]
  refine aE (aC (fun h=>by omega) (fun _=>aB ⟨-1,rfl,?_⟩))
  rw [← hI];simp
 ·intro i hi hI ih
  rw [aCu hi] at hI
  rw [eP]
  refine aE (aC (fun _=>?_) (fun h=>by omega))
  refine cJ hi (aM (aC (fun h=>aB ⟨i,rfl,?_⟩) (fun h=>?_)))
  ·rw [← hI,decide_eq_true h];simp
  ·rw [decide_eq_false h] at hI
   exact aI (by omega) (ih hI)
theorem aDk {xs : List Int} (hx : xs.length≤1000000000) {y : Int} (h : Ok P (k [.bool (xs.any (fun x=>decide (y=x)))])) : Ok P (bd (eE (aX xs) (.int .i64 y)) k):=by
 refine aF (Q:=fun r=>r = [.bool (xs.any (fun x=>decide (y=x)))]) ?_ (fun r hr=>by rw [hr];exact h)
 rw [tF]
 refine aF (aL2 hx y) ?_
 rintro r ⟨n,rfl,hn⟩
 refine sQ (aB ?_)
 by_cases h0 : 0≤n
 ·rw [decide_eq_true h0,hn.1 h0]
 ·rw [decide_eq_false h0]
  cases h2 : xs.any (fun x=>decide (y=x)) with
  | false=>rfl
  | true=>exact absurd (hn.2 h2) h0
theorem aL3 {f : Nat} {caps : List PV} {xs : List Int} (hx : xs.length≤1000000000) (p : Int→Bool) (hp : ∀ x∈xs,Ok (fun r=>r = [.bool (p x)]) (aS f ([.int .i64 x]++caps))) (h : Ok P (k [.bool (xs.any p)])) :
 Ok P (bd (fT (aX xs) (.fn f caps)) k):=by
 refine aF (Q:=fun r=>r = [.bool (xs.any p)]) ?_ (fun r hr=>by rw [hr];exact h)
 rw [pJ]
 refine aF (Q:=fun r=>∃ n : Int,r = [.int .i64 n]∧(0≤n↔xs.any p=true)) ?_ ?_
 ·rw [rW]
  refine cB ?_
  refine aEC (n:=xs.length) (F:=fun i=>eH (aX xs) (.fn f caps) (.int .i64 xs.length) (.int .i64 i)) (fun i=>(xs.drop i).any p=xs.any p) ?_ ?_ (by rw [List.drop_zero])
  ·intro hI
   rw [List.drop_length] at hI
   rw [iX]
   refine aE (aC (fun h=>by omega) (fun _=>aB ⟨-1,rfl,?_⟩))
   rw [← hI];simp
  ·intro i hi hI ih
   rw [aCu hi] at hI
   rw [iX]
   refine aE (aC (fun _=>?_) (fun h=>by omega))
   refine cJ hi (zL rfl (hp _ (List.getElem_mem _)) (fun r hr=>?_))
   subst hr
   refine aZ (fun h=>aB ⟨i,rfl,?_⟩) (fun h=>?_)
   ·rw [← hI,h];simp
   ·rw [h,Bool.false_or] at hI
    exact aI (by omega) (ih hI)
 ·rintro r ⟨n,rfl,hn⟩
  refine sQ (aB ?_)
  by_cases h0 : 0≤n
  ·rw [decide_eq_true h0,hn.1 h0]
  ·rw [decide_eq_false h0]
   cases h2 : xs.any p with
   | false=>rfl
   | true=>exact absurd (hn.2 h2) h0
end
theorem aNZ {ts : List Int} {n : Int} (h : ∀ t∈ts,t≤n) : ts.any (fun x=>decide (n=x))=ts.any (fun t=>decide (n≤t)):=by
 induction ts with
 | nil=>rfl
 | cons t r ih=>
   rw [List.any_cons,List.any_cons,ih (fun x hx=>h x (List.mem_cons_of_mem _ hx))]
   have:=h t List.mem_cons_self
   congr 1
   by_cases h1 : n=t
   ·rw [decide_eq_true h1,decide_eq_true (by omega)]
   ·rw [decide_eq_false h1,decide_eq_false (by omega)]
section
variable {fs : List cG} {code : List bK} {T x3 x4 x5 : PV} (F : Fit fs code) {f : Nat} (hf : f < fs.length)
include F hf
theorem aKx {rest : Option (Int × Nat × Nat)} (hnext : Ok (fun r=>r = [aKu rest]) (kN (.int .i64 fs.length) (.int .i64 ((f : Int)+1)) T (.lst (fs.map cG.pv)) x3 x4 x5)) : ∀ pc,pc≤code.length→
 Ok (fun r=>r = [aKu (((List.range' pc (code.length - pc)).findSome? (aA9 fs code f)).or rest)])
  (kO (.int .i64 f) (.int .i64 fs.length) (.int .i64 f) (.lst (code.map bK.pv)) (.int .i64 code.length) (.int .i64 pc) T (.lst (fs.map cG.pv)) x3 x4 x5 (aX (iD fs code))):=by
 have hn2:=F.n2
 have hnf:=F.nf
 have hg:=xN F
 generalize hd : iD fs code=d at hg
 refine cT ?_ ?_
 ·rw [uJ,aCn]
  exact aE (aC (fun h=>by omega) (fun _=>aI (by omega) hnext))
 ·intro pc hpc ih
  have hx : code[pc]? = some code[pc]:=List.getElem?_eq_getElem hpc
  have hm : code[pc]∈code:=List.getElem_mem _
  have hu:=F.u code[pc] hm
  have hil : pc<d.length:=by rw [hg.1];exact hpc
  have hv:=hg.at pc
  have e2 : d[pc]=d[pc]?.getD 0:=aEA hil
  rw [aAI hpc]
  have eb : aA9 fs code f pc=(aCt fs code d pc).map fun c=>(c,f,pc):=by unfold aA9;rw [hd]
  rw [eb]
  have ec : aCt fs code d pc=if d[pc]?.getD 0<0 then none
   else if can fs code[pc] (d[pc]?.getD 0)=false then some 2
   else if (fI code[pc] pc).any (fun t=>decide ((code.length : Int)≤t))=true then some 3
   else if (fI code[pc] pc).any (fun t=>!decide (d[t.toNat]?.getD 0=gJ fs code[pc] (d[pc]?.getD 0)))=true then some 4
   else none:=by
   conv=>lhs;unfold aCt
   rw [hx]
  generalize hw : d[pc]?.getD 0=w at *
  generalize aCt fs code d pc=ch at *
  rw [uJ]
  refine aE (aC (fun _=>?_) (fun h=>by omega))
  refine aN hpc (fun _=>rfl) (aH rfl (aA rfl (aA rfl (cJ hil ?_))))
  rw [e2]
  refine aE (aC (fun h1=>?_) (fun h1=>?_))
  ·rw [if_pos h1] at ec
   subst ec
   exact aI (by omega) ih
  rw [if_neg h1] at ec
  refine cJ hil ?_
  rw [e2]
  refine aF (aHd (T:=T) F hm hv) (fun r hr=>?_)
  subst hr
  refine kB rfl (kB rfl (bR rfl (bC (aZ (fun hc=>?_) (fun hc=>?_)))))
  ·have hc : can fs code[pc] w=false:=by simpa using hc
   rw [if_pos hc] at ec
   subst ec
   exact bR rfl (bR rfl (aB rfl))
  have hc : can fs code[pc] w=true:=by simpa using hc
  rw [hc,if_neg (by simp)] at ec
  refine aF (aHa (x:=code[pc]) (by omega)) (fun r hr=>?_)
  subst hr
  have hnx:=aAh F hm hpc
  have hl10 : (fI code[pc] pc).length≤10:=by unfold fI;repeat' split<;>simp
  refine cB (aDk (by omega) ?_)
  rw [hg.1,aNZ (fun t ht=>(hnx t ht).2)]
  refine aZ (fun h=>?_) (fun h=>?_)
  ·rw [if_pos h] at ec
   subst ec
   exact bR rfl (bR rfl (aB rfl))
  rw [if_neg (by rw [h];simp)] at ec
  refine aL3 (by omega) (fun t=>!decide (d[t.toNat]?.getD 0=gJ fs code[pc] w)) (fun t ht=>?_) ?_
  ·have:=hnx t ht
   have:=aK5 F hf h t ht
   show Ok _ (aA6 _ _ _)
   rw [aC8]
   refine sR rfl (hJ (by omega) (by rw [hg.1];omega) (fun v hv=>sR rfl (cW (aB ?_))))
   rw [hv];rfl
  ·refine fE rfl (aZ (fun h=>?_) (fun h=>?_))
   ·rw [if_pos h] at ec
    subst ec
    exact bR rfl (bR rfl (aB rfl))
   ·rw [if_neg (by rw [h];simp)] at ec
    subst ec
    exact aI (by omega) ih
end
theorem aJp {m : eJ} (h : m.sized) : Ok (fun r=>r = [m.verify]) (zU m.pv):=by
 rw [aFD]
 refine aH rfl (aA rfl (aA rfl (aF (aGE h) (fun r hr=>?_))))
 subst hr
 unfold eJ.verify
 refine bC (aZ (fun hb=>aB ?_) (fun hb=>?_))
 ·have : m.okB=false:=by simpa using hb
  rw [this];rfl
 have hb : m.okB=true:=by simpa using hb
 rw [hb,if_pos rfl]
 obtain ⟨h1,h2,h3⟩:=eJ.okB_fit hb
 refine aD ?_
 have key:=cT (n:=m.funcs.length) (P:=fun f r=>r = [aKu ((List.range' f (m.funcs.length - f)).findSome? (aHh m.funcs))])
  (F:=fun f=>kN (.int .i64 m.funcs.length) (.int .i64 f) (.lst (m.texts.map PV.str)) (.lst (m.funcs.map cG.pv)) (.int .i64 0) (.int .i64 0) (.int .i64 0)) ?_ ?_ 0 (by omega)
 ·exact key
 ·rw [uI,aCn]
  exact aE (aC (fun h=>by omega) (fun _=>aB rfl))
 ·intro f hf ih
  have F:=(h3 m.funcs[f] (List.getElem_mem _)).1
  rw [uI,aAI hf,aFY hf]
  refine aE (aC (fun _=>?_) (fun h=>by omega))
  refine aF (aAl F hf rfl) (fun r hr=>?_)
  subst hr
  refine bR rfl (aN hf (fun _=>rfl) (aA rfl (aD ?_)))
  exact aKx F hf ih 0 (by omega)
theorem aL4 {fs : List cG} {code : List bK} {d : List Int} {pc : Nat} (hpc : pc<code.length) (h : aCt fs code d pc=none) (h0 : ¬ d[pc]?.getD 0<0) :
 can fs code[pc] (d[pc]?.getD 0)=true∧∀ t∈fI code[pc] pc,t<code.length∧d[t.toNat]?.getD 0=gJ fs code[pc] (d[pc]?.getD 0):=by
 unfold aCt at h
 rw [List.getElem?_eq_getElem hpc] at h
 simp only at h
 rw [if_neg h0] at h
 split at h
 ·cases h
 rename_i h1
 split at h
 ·cases h
 rename_i h2
 split at h
 ·cases h
 rename_i h3
 refine ⟨by simpa using h1,fun t ht=>?_⟩
 rw [Bool.not_eq_true,List.any_eq_false] at h2 h3
 have g2:=h2 t ht
 have g3:=h3 t ht
 simp at g2 g3
 exact ⟨by omega,g3⟩
theorem aMV {fs : List cG} (h : bad fs=none) {f : Nat} (hf : f<fs.length) {pc : Nat} (hpc : pc<fs[f].code.length) : aCt fs fs[f].code (iD fs fs[f].code) pc=none:=by
 unfold bad at h
 rw [List.findSome?_eq_none_iff] at h
 have h1:=h f (by rw [List.mem_range'_1];omega)
 rw [aFY hf,List.findSome?_eq_none_iff] at h1
 have h2:=h1 pc (by rw [List.mem_range'_1];omega)
 simpa [aA9] using h2
end
noncomputable section
open Go Go.IntWalk
attribute [local irreducible] bd PV.ite PV.guardFlat PV.guardOwn PV.whole PV.one PV.cell PV.sub PV.at_ PV.len PV.slen PV.chr PV.beq PV.peq PV.ceq PV.bin PV.neg PV.not PV.conv PV.cut PV.scut PV.cat PV.setAt PV.setCell PV.ncopy PV.copyIn PV.zeros PV.toStr PV.toBytes PV.deref PV.isPtr PV.comp PV.inb PV.off PV.imin PV.imax PV.sel PV.apply PV.isLst PV.isInt PV.ix PV.nilT
structure fC (m : eJ) : Prop where
 sz : m.sized
 ok : m.okB=true
 bad : bad m.funcs=none
def dAt (m : eJ) (f pc : Int) : Int:=(iD m.funcs (dD m.funcs f))[pc.toNat]?.getD 0
def qE (m : eJ) (f pc : Int) : bK:=(dD m.funcs f)[pc.toNat]?.getD ⟨0,0⟩
abbrev iZ (m : eJ) (n : Int) (v : bZ) : Prop:=cD m.funcs.length n v=true
theorem aAo : hU (bs []) (bs [])=true:=aFP _
theorem mT {nf n : Int} : cD nf n fB=true:=by simp [cD,fB,aAo]
theorem aK6 {nf n x : Int} (h : eK x=true) : cD nf n (aNT x)=true:=by simp [cD,aNT,aAo,h]
theorem aCv {nf n : Int} {b : Bool} : cD nf n (aFO b)=true:=by cases b<;>simp [cD,aFO,aAo,jK]
theorem aJq {nf n : Int} {s : ByteArray} (h : cP s=true) : cD nf n (aK0 s)=true:=by simp [cD,aK0,h]
theorem aN0 {nf n i : Int} (h : 0≤i∧i<n) : cD nf n (aOG i)=true:=by simp [cD,aOG,aAo,h]
theorem aN1 {nf n i : Int} (h : 0≤i∧i<nf) : cD nf n (aOH i)=true:=by
 have : i≤nf - 1:=by omega
 simp [cD,aOH,aAo,jK,h,this]
theorem pK {nf n n' : Int} (hn : n≤n') {v : bZ} (h : cD nf n v=true) : cD nf n' v=true:=by
 unfold cD at *
 split at h
 ·cases h
 rename_i h0
 rw [if_neg h0]
 split at h
 ·rename_i h1;rw [if_pos h1];exact h
 rename_i h1
 rw [if_neg h1]
 split at h
 ·rename_i h1;rw [if_pos h1];exact h
 rename_i h2
 rw [if_neg h2]
 split at h
 ·rename_i h1;rw [if_pos h1];exact h
 rename_i h3
 rw [if_neg h3]
 split at h
 ·rename_i h1;rw [if_pos h1];exact h
 rename_i h4
 rw [if_neg h4]
 split at h
 ·rename_i h1
  rw [if_pos h1]
  simp only [Bool.and_eq_true,decide_eq_true_eq] at *
  omega
 rename_i h5
 rw [if_neg h5]
 exact h
theorem aN2 {a b : ByteArray} (ha : cP a=true) (hb : cP b=true) (h : ¬ (60 : Int)<a.size+b.size) : cP (a++b)=true:=by
 simp only [cP,Bool.and_eq_true,decide_eq_true_eq,List.all_eq_true] at *
 refine ⟨by rw [ByteArray.size_append];omega,fun x hx=>?_⟩
 rw [ByteArray.data_append,Array.toList_append,List.mem_append] at hx
 rcases hx with hx | hx
 ·exact ha.2 x hx
 ·exact hb.2 x hx
theorem aDl {nf n : Int} {v : bZ} (h : cD nf n v=true) (hk : v.k=3) : cP v.s=true:=by
 unfold cD at h
 rw [if_neg (fun e=>e.1 hk),if_neg (by omega),if_neg (by omega),if_neg (by omega),if_pos hk] at h
 simp only [Bool.and_eq_true] at h
 exact h.2
theorem aIa {nf n o : Int} {a b : bZ} : cD nf n (aJg o a b).1=true:=by
 unfold aJg
 repeat' split
 all_goals first
  | exact mT
  | (rename_i h;exact aK6 (by simpa using h))
theorem aOI {nf n o : Int} {a b : bZ} (ha : cD nf n a=true) (hb : cD nf n b=true) : cD nf n (opT o a b).1=true:=by
 unfold opT
 split
 ·split
  ·rename_i h
   split
   ·exact mT
   ·rename_i h2
    exact aJq (aN2 (aDl ha h.1) (aDl hb h.2) h2)
  ·exact aIa
 split
 ·exact aIa
 split
 ·exact aIa
 split
 ·repeat' split
  all_goals first
   | exact mT
   | exact aCv
 ·exact aCv
theorem fC.fit {m : eJ} (g : fC m) : 1≤m.funcs.length∧m.funcs.length≤12∧∀ f∈m.funcs,Fit m.funcs f.code∧0≤f.p∧f.p≤6∧f.p≤f.lc∧f.lc≤12:=eJ.okB_fit g.ok
theorem fC.code {m : eJ} (g : fC m) {f : Int} (h : 0≤f∧f<m.funcs.length) : ∃ i : Nat,∃ hi : i<m.funcs.length,f=i∧dD m.funcs f=m.funcs[i].code∧Fit m.funcs m.funcs[i].code∧0≤m.funcs[i].p∧m.funcs[i].p≤6∧m.funcs[i].p≤m.funcs[i].lc∧m.funcs[i].lc≤12∧aFU m.funcs f=m.funcs[i].lc∧oL m.funcs f=m.funcs[i].p∧
 ∀ x∈m.funcs[i].code,bW m.texts.length m.funcs.length m.funcs[i].lc m.funcs[i].code.length x.o x.a=true:=by
 obtain ⟨i,hi⟩:=Int.eq_ofNat_of_zero_le h.1
 have hl : i<m.funcs.length:=by omega
 have hm : m.funcs[i]∈m.funcs:=List.getElem_mem _
 obtain ⟨F,p1,p2,p3,p4⟩:=g.fit.2.2 _ hm
 refine ⟨i,hl,hi,by simp [dD,hi,List.getElem?_eq_getElem hl],F,p1,p2,p3,p4,by simp [aFU,hi,List.getElem?_eq_getElem hl],by simp [oL,hi,List.getElem?_eq_getElem hl],fun x hx=>?_⟩
 have h:=g.ok
 simp only [eJ.okB,Bool.and_eq_true,bA,decide_eq_true_eq,List.all_eq_true,tJ] at h
 exact (h.2.2.2 _ hm).2.2.2 x hx
theorem fC.at_ {m : eJ} (g : fC m) {f pc : Int} (h : 0≤f∧f<m.funcs.length) (hp : 0≤pc∧pc<(dD m.funcs f).length) (hd : 0≤dAt m f pc) :
 bW m.texts.length m.funcs.length (aFU m.funcs f) (dD m.funcs f).length (qE m f pc).o (qE m f pc).a=true∧
 (0≤(dQ m.funcs (qE m f pc)).1∧(dQ m.funcs (qE m f pc)).1≤dAt m f pc∧0≤(dQ m.funcs (qE m f pc)).2∧(dQ m.funcs (qE m f pc)).2≤2)∧dAt m f pc≤16∧gJ m.funcs (qE m f pc) (dAt m f pc)≤16∧
 ∀ t∈fI (qE m f pc) pc,(0≤t∧t<(dD m.funcs f).length)∧dAt m f t=gJ m.funcs (qE m f pc) (dAt m f pc):=by
 obtain ⟨i,hi,rfl,hc,F,p1,p2,p3,p4,hlc,hpar,hins⟩:=g.code h
 obtain ⟨j,rfl⟩:=Int.eq_ofNat_of_zero_le hp.1
 have hj : j<m.funcs[i].code.length:=by rw [hc] at hp;omega
 have hx : qE m i j=m.funcs[i].code[j]:=by simp [qE,hc,List.getElem?_eq_getElem hj]
 have hm : m.funcs[i].code[j]∈m.funcs[i].code:=List.getElem_mem _
 have hu:=F.u _ hm
 have hdd : ∀ t : Int,dAt m i t=(iD m.funcs m.funcs[i].code)[t.toNat]?.getD 0:=fun t=>by rw [dAt,hc]
 have hb:=(xN F).at j
 have hck:=aL4 hj (aMV g.bad hi hj)
 have hnx:=aAh F hm hj
 rw [hx,hc,hlc]
 rw [hdd,Int.toNat_natCast] at hd ⊢
 obtain ⟨hcan,hall⟩:=hck (by omega)
 simp only [can,Bool.and_eq_true,decide_eq_true_eq] at hcan
 refine ⟨hins _ hm,⟨hu.1,hcan.1,hu.2.2⟩,hb.2,hcan.2,fun t ht=>?_⟩
 obtain ⟨q1,q2⟩:=hall t ht
 exact ⟨⟨(hnx t ht).1,q1⟩,by rw [hdd];exact q2⟩
structure FrI (m : eJ) (n : Int) (f : bT) : Prop where
 fi : 0≤f.f∧f.f<m.funcs.length
 pc : 0≤f.pc∧f.pc<(dD m.funcs f.f).length
 loc : (f.loc.length : Int)=aFU m.funcs f.f
 d : 0≤dAt m f.f f.pc
 vl : ∀ v∈f.loc,iZ m n v
 vs : ∀ v∈f.stk,iZ m n v
structure aGJ (m : eJ) (n : Int) (f : bT) : Prop extends FrI m n f where
 h : (f.stk.length : Int)=dAt m f.f f.pc
structure aEr (m : eJ) (n : Int) (f : bT) : Prop extends FrI m n f where
 low : 1≤f.pc∧0≤dAt m f.f (f.pc - 1)∧((qE m f.f (f.pc - 1)).o=23∨(qE m f.f (f.pc - 1)).o=24)
 h : (f.stk.length : Int)=dAt m f.f f.pc - 1
structure HpI (m : eJ) (hp : List (List bZ)) (made : Int) (out : List ByteArray) : Prop where
 made : hp.length≤made∧made≤120
 recs : ∀ r∈hp,r.length≤6∧∀ v∈r,iZ m hp.length v
 out : out.length≤200
structure VmI (m : eJ) (v : fN) : Prop where
 hp : HpI m v.hp v.made v.out
 steps : 0≤v.steps∧v.steps≤50000
 nfr : v.fr.length≤24
 run : v.st=0→v.fr≠[]
 top : ∀ fs0 f,v.fr=fs0++[f]→aGJ m v.hp.length f∧∀ g∈fs0,aEr m v.hp.length g
theorem FrI.mono {m : eJ} {n n' : Int} (hn : n≤n') {f : bT} (h : FrI m n f) : FrI m n' f:=
 ⟨h.fi,h.pc,h.loc,h.d,fun v hv=>pK hn (h.vl v hv),fun v hv=>pK hn (h.vs v hv)⟩
theorem aEr.mono {m : eJ} {n n' : Int} (hn : n≤n') {f : bT} (h : aEr m n f) : aEr m n' f:=⟨h.toFrI.mono hn,h.low,h.h⟩
theorem FrI.small {m : eJ} (g : fC m) {n : Int} {f : bT} (h : FrI m n f) : f.loc.length≤12:=by
 obtain ⟨i,hi,he,hc,F,p1,p2,p3,p4,hlc,hpar,hins⟩:=g.code h.fi
 have:=h.loc
 omega
theorem FrI.dle {m : eJ} (g : fC m) {n : Int} {f : bT} (h : FrI m n f) : dAt m f.f f.pc≤16:=(g.at_ h.fi h.pc h.d).2.2.1
theorem VmI.sz {m : eJ} (g : fC m) {v : fN} (h : VmI m v) : Sz v:=by
 have:=h.hp.made
 have:=h.hp.out
 have:=h.nfr
 refine ⟨by omega,by omega,by omega,fun f hf=>?_,fun r hr=>by have:=(h.hp.recs r hr).1;omega⟩
 rcases List.eq_nil_or_concat v.fr with h0 | ⟨fs0,f0,h0⟩
 ·rw [h0] at hf;cases hf
 ·obtain ⟨t,l⟩:=h.top fs0 f0 (by rw [h0];simp)
  rw [h0] at hf
  simp only [List.concat_eq_append,List.mem_append,List.mem_singleton] at hf
  rcases hf with hf | rfl
  ·have:=(l f hf).toFrI.small g
   have:=(l f hf).toFrI.dle g
   have:=(l f hf).h
   omega
  ·have:=t.toFrI.small g
   have:=t.toFrI.dle g
   have:=t.h
   omega
theorem VmI.goes {m : eJ} (g : fC m) {v : fN} (h : VmI m v) (h0 : v.st=0) : ∃ fs0 f,aPk m v fs0 f:=by
 rcases List.eq_nil_or_concat v.fr with e | ⟨fs0,f,e⟩
 ·exact absurd e (h.run h0)
 rw [List.concat_eq_append] at e
 refine ⟨fs0,f,?_⟩
 obtain ⟨t,l⟩:=h.top fs0 f e
 obtain ⟨i,hi,he,hc,F,p1,p2,p3,p4,hlc,hpar,hins⟩:=g.code t.fi
 obtain ⟨a1,a2,a3,a4,a5⟩:=g.at_ t.fi t.pc t.d
 have hx : nK m.funcs f=qE m f.f f.pc:=rfl
 have hh:=t.h
 have hm:=h.hp.made
 have hn:=h.nfr
 rw [e,List.length_append,List.length_singleton] at hn
 refine ⟨e,t.fi,t.pc,by rw [hc];exact F.n2,by rw [hx,t.loc];exact a1,by rw [hx,hh];exact ⟨a2.1,a2.2.1⟩,fun b=>?_⟩
 refine ⟨g.fit.2.1,?_,fun f hf=>?_,by omega,fun f hf=>?_,by have:=t.toFrI.small g;exact this,?_,fun r hr=>(h.hp.recs r hr).1,by omega,by omega,h.hp.out,fun v hv=>t.vs v (List.mem_of_mem_drop hv)⟩
 ·have h:=g.ok
  simp only [eJ.okB,Bool.and_eq_true,bA,decide_eq_true_eq] at h
  omega
 ·have:=g.fit.2.2 f hf
  exact this.2
 ·have:=(l f hf).toFrI.dle g
  have:=(l f hf).h
  omega
 ·simp only [List.length_take,List.length_drop]
  omega
end
end Go.Proofs.YthkofpnllaapeaaGreat
