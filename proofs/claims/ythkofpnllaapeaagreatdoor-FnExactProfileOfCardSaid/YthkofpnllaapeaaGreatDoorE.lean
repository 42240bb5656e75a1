/-
  Texts of the proof, part 5: a value-level evaluator and its soundness, what the functions compute, laws about it.
  Conditions: none.
-/
import Derived.Test.YthkofpnllaapeaaGreatDoorD
set_option linter.all false
namespace Go.Proofs.YthkofpnllaapeaaGreatDoor
noncomputable section
open Go
theorem uX (x0 x1 x2 x3 x4 x5 x6 x7 x8 x9 x10 x11 x12 x13 : PV) : lJ x0 x1 x2 x3 x4 x5 x6 x7 x8 x9 x10 x11 x12 x13=bd (PV.len x0) fun v0=>bd (PV.bin .lss x1 v0) fun v1=>PV.ite v1 (bd (PV.at_ 3 true x0 x1) fun v2=>bd (aA6 (.agg [x2,x3]) v2 (.int .i64 0)) fun r3=>bd (PV.not (hd r3)) fun v4=>PV.ite v4 (some [(.int .i64 0),(.int .i64 0),(.int .i64 0),(.int .i64 0),(.int .i64 0),(.str (bs [])),(.int .i64 0),(.bool false),(.lst []),(.lst []),(.lst [])])
 (bd (PV.bin .add x1 (.int .i64 1)) fun v5=>lJ x0 v5 x2 x3 x4 x5 x6 x7 x8 x9 x10 x11 x12 x13)) (bd (PV.at_ 3 true x3 (.int .i64 0)) fun v6=>bd (PV.cell v6 1) fun v7=>bd (PV.zeros 32 (.agg [(.int .i64 0),(.int .i64 0),(.str (bs []))]) v7) fun v8=>bd (PV.bin .leq v7 v7) fun v9=>PV.ite v9 (bd (PV.zeros 32 (.agg [(.int .i64 0),(.int .i64 0),(.str (bs []))]) v7) fun v10=>jW x0 (.int .i64 0) x4 x5 x6 x7 x8 x9 x10 (.int .i64 0) (.int .i64 0) x11 x12 x13 v10 (.lst []))
 (none)):=aZ _ _ _ _ _ _ _ _ (by kernel_rfl)
theorem tH (x0 x1 x2 x3 x4 x5 x6 x7 x8 x9 x10 x11 x12 x13 x14 x15 : PV) : jW x0 x1 x2 x3 x4 x5 x6 x7 x8 x9 x10 x11 x12 x13 x14 x15=bd (PV.len x0) fun v0=>bd (PV.bin .lss x1 v0) fun v1=>PV.ite v1 (bd (PV.at_ 3 true x0 x1) fun v2=>bd (PV.inb x14 x1) fun v3=>bd (PV.setAt 3 true x14 x1 v2) fun v4=>bd (PV.bin .add x1 (.int .i64 1)) fun v5=>jW x0 v5 x2 x3 x4 x5 x6 x7 x8 x9 x10 x11 x12 x13 v4 x15)
 (some [(.int .i64 0),(.int .i64 0),(.int .i64 0),(.int .i64 0),(.int .i64 0),(.str (bs [])),(.int .i64 0),(.bool true),(.lst [(.agg [x9,x10,x14,x15])]),(.lst []),(.lst [])]):=aZ _ _ _ _ _ _ _ _ (by kernel_rfl)
theorem aEt (x0 : PV) : vX x0=bd (PV.whole 2 x0) fun v0=>bd (PV.cell v0 0) fun v1=>bd (PV.cell v0 1) fun v2=>bd (yO (.agg [v1,v2])) fun r3=>bd (PV.cell (hd r3) 0) fun v4=>bd (PV.bin .eql v4 (.int .i64 0)) fun v5=>some [v5]:=aK _ _ _ (by kernel_rfl)
theorem aGK (x0 x1 x2 : PV) : aA6 x0 x1 x2=bd (PV.whole 2 x0) fun v0=>bd (PV.cell v0 0) fun v1=>bd (PV.cell v0 1) fun v2=>bd (PV.whole 3 x1) fun v3=>bd (PV.cell v3 0) fun v4=>bd (PV.cell v3 1) fun v5=>bd (PV.cell v3 2) fun v6=>bd (PV.bin .neq v4 (.int .i64 3)) fun v7=>PV.ite v7 (bd (PV.bin .neq v6 (.str (bs []))) fun v8=>PV.ite v8 (some [.bool false]) (bd (PV.bin .eql v4 (.int .i64 0)) fun v9=>
 PV.ite v9 (bd (PV.bin .eql v5 (.int .i64 0)) fun v10=>some [v10]) (bd (PV.bin .eql v4 (.int .i64 1)) fun v11=>PV.ite v11 (bd (fT v5) fun r12=>some [(hd r12)]) (bd (PV.bin .eql v4 (.int .i64 2)) fun v13=>PV.ite v13 (bd (aP v5 (.int .i64 0) (.int .i64 1)) fun r14=>some [(hd r14)]) (bd (PV.bin .eql v4 (.int .i64 3)) fun v15=>PV.ite v15 (bd (PV.bin .eql v5 (.int .i64 0)) fun v16=>
 PV.ite v16 (bd (nE v6) fun r17=>some [(hd r17)]) (some [.bool false])) (bd (PV.bin .eql v4 (.int .i64 4)) fun v18=>PV.ite v18 (bd (PV.bin .geq v5 (.int .i64 0)) fun v19=>PV.ite v19 (bd (PV.bin .lss v5 x2) fun v20=>some [v20]) (some [.bool false])) (bd (PV.bin .eql v4 (.int .i64 5)) fun v21=>PV.ite v21 (bd (PV.len v2) fun v22=>bd (PV.bin .sub v22 (.int .i64 1)) fun v23=>bd (aP v5 (.int .i64 0) v23) fun r24=>
 some [(hd r24)]) (some [.bool false])))))))) (bd (PV.bin .eql v4 (.int .i64 0)) fun v25=>PV.ite v25 (bd (PV.bin .eql v5 (.int .i64 0)) fun v26=>some [v26]) (bd (PV.bin .eql v4 (.int .i64 1)) fun v27=>PV.ite v27 (bd (fT v5) fun r28=>some [(hd r28)]) (bd (PV.bin .eql v4 (.int .i64 2)) fun v29=>PV.ite v29 (bd (aP v5 (.int .i64 0) (.int .i64 1)) fun r30=>some [(hd r30)])
 (bd (PV.bin .eql v4 (.int .i64 3)) fun v31=>PV.ite v31 (bd (PV.bin .eql v5 (.int .i64 0)) fun v32=>PV.ite v32 (bd (nE v6) fun r33=>some [(hd r33)]) (some [.bool false])) (bd (PV.bin .eql v4 (.int .i64 4)) fun v34=>PV.ite v34 (bd (PV.bin .geq v5 (.int .i64 0)) fun v35=>PV.ite v35 (bd (PV.bin .lss v5 x2) fun v36=>some [v36]) (some [.bool false])) (bd (PV.bin .eql v4 (.int .i64 5)) fun v37=>
 PV.ite v37 (bd (PV.len v2) fun v38=>bd (PV.bin .sub v38 (.int .i64 1)) fun v39=>bd (aP v5 (.int .i64 0) v39) fun r40=>some [(hd r40)]) (some [.bool false]))))))):=aK _ _ _ (by kernel_rfl)
theorem aFO (x0 : PV) : yO x0=bd (PV.whole 2 x0) fun v0=>bd (PV.cell v0 0) fun v1=>bd (PV.cell v0 1) fun v2=>bd (uC (.agg [v1,v2])) fun r3=>bd (PV.not (hd r3)) fun v4=>PV.ite v4 (some [(.agg [(.int .i64 1),(.int .i64 0),(.int .i64 0)])]) (jX (.int .i64 0) v1 v2 (.int .i64 0) (.int .i64 0) (.int .i64 0)):=aK _ _ _ (by kernel_rfl)
theorem tI (x0 x1 x2 x3 x4 x5 : PV) : jX x0 x1 x2 x3 x4 x5=bd (PV.len x2) fun v0=>bd (PV.bin .lss x0 v0) fun v1=>PV.ite v1 (bd (PV.at_ 3 true x2 x0) fun v2=>bd (PV.cell v2 2) fun v3=>bd (rW (.agg [x1,x2]) x0) fun r4=>hY x0 v3 (hd r4) (.int .i64 0) x1 x2 x3 x4 x5) (some [(.agg [(.int .i64 0),(.int .i64 0),(.int .i64 0)])]):=aZ _ _ _ _ _ _ _ _ (by kernel_rfl)
theorem tJ (x0 x1 x2 x3 x4 x5 x6 x7 x8 : PV) : hY x0 x1 x2 x3 x4 x5 x6 x7 x8=bd (PV.len x1) fun v0=>bd (PV.bin .lss x3 v0) fun v1=>PV.ite v1 (bd (PV.at_ 1 false x2 x3) fun v2=>bd (PV.bin .lss v2 (.int .i64 0)) fun v3=>PV.ite v3 (bd (PV.bin .add x3 (.int .i64 1)) fun v4=>hY x0 x1 x2 v4 x4 x5 x6 x7 x8) (bd (PV.at_ 2 true x1 x3) fun v5=>bd (tC (.agg [x4,x5]) v5) fun r6=>
 bd (PV.comp (hd r6) 0) fun v7=>bd (PV.comp (hd r6) 1) fun v8=>bd (PV.at_ 1 false x2 x3) fun v9=>bd (PV.bin .sub v9 v7) fun v10=>bd (PV.bin .add v10 v8) fun v11=>bd (PV.at_ 1 false x2 x3) fun v12=>bd (PV.bin .lss v12 v7) fun v13=>PV.ite v13 (bd (PV.one x0) fun v14=>bd (PV.one x3) fun v15=>some [(.agg [(.int .i64 2),v14,v15])]) (bd (PV.bin .gtr v11 (.int .i64 16)) fun v16=>PV.ite v16
 (bd (PV.one x0) fun v17=>bd (PV.one x3) fun v18=>some [(.agg [(.int .i64 2),v17,v18])]) (bd (PV.at_ 2 true x1 x3) fun v19=>bd (qP v19 x3) fun r20=>iW x0 x1 x2 x3 v11 (hd r20) (.int .i64 0) x4 x5 x6 x7 x8)))) (bd (PV.bin .add x0 (.int .i64 1)) fun v21=>jX v21 x4 x5 x6 x7 x8):=aZ _ _ _ _ _ _ _ _ (by kernel_rfl)
theorem sI (x0 x1 x2 x3 x4 x5 x6 x7 x8 x9 x10 x11 : PV) : iW x0 x1 x2 x3 x4 x5 x6 x7 x8 x9 x10 x11=bd (PV.len x5) fun v0=>bd (PV.bin .lss x6 v0) fun v1=>PV.ite v1 (bd (PV.at_ 1 false x5 x6) fun v2=>bd (PV.len x1) fun v3=>bd (PV.bin .geq v2 v3) fun v4=>PV.ite v4 (bd (PV.one x0) fun v5=>bd (PV.one x3) fun v6=>some [(.agg [(.int .i64 3),v5,v6])]) (bd (PV.bin .add x6 (.int .i64 1)) fun v7=>
 iW x0 x1 x2 x3 x4 x5 v7 x7 x8 x9 x10 x11)) (gH x0 x1 x2 x3 x4 x5 (.int .i64 0) x7 x8 x9 x10 x11):=aZ _ _ _ _ _ _ _ _ (by kernel_rfl)
theorem sJ (x0 x1 x2 x3 x4 x5 x6 x7 x8 x9 x10 x11 : PV) : gH x0 x1 x2 x3 x4 x5 x6 x7 x8 x9 x10 x11=bd (PV.len x5) fun v0=>bd (PV.bin .lss x6 v0) fun v1=>PV.ite v1 (bd (PV.at_ 1 false x5 x6) fun v2=>bd (PV.at_ 1 false x2 v2) fun v3=>bd (PV.bin .neq v3 x4) fun v4=>PV.ite v4 (bd (PV.one x0) fun v5=>bd (PV.one x3) fun v6=>some [(.agg [(.int .i64 4),v5,v6])])
 (bd (PV.bin .add x6 (.int .i64 1)) fun v7=>gH x0 x1 x2 x3 x4 x5 v7 x7 x8 x9 x10 x11)) (bd (PV.bin .add x3 (.int .i64 1)) fun v8=>hY x0 x1 x2 v8 x7 x8 x9 x10 x11):=aZ _ _ _ _ _ _ _ _ (by kernel_rfl)
theorem aFP (x0 : PV) : fT x0=bd (aP x0 (.int .i64 (-1000000000)) (.int .i64 1000000000)) fun r0=>some [(hd r0)]:=aK _ _ _ (by kernel_rfl)
theorem aEu (x0 : PV) : nE x0=bd (PV.slen x0) fun v0=>bd (PV.bin .gtr v0 (.int .i64 60)) fun v1=>PV.ite v1 (some [.bool false]) (lQ x0 (.int .i64 0)):=aK _ _ _ (by kernel_rfl)
theorem sK (x0 x1 : PV) : lQ x0 x1=bd (PV.slen x0) fun v0=>bd (PV.bin .lss x1 v0) fun v1=>PV.ite v1 (bd (PV.chr x0 x1) fun v2=>bd (PV.bin .lss v2 (.int .u8 32)) fun v3=>PV.ite v3 (some [.bool false]) (bd (PV.chr x0 x1) fun v4=>bd (PV.bin .gtr v4 (.int .u8 126)) fun v5=>PV.ite v5 (some [.bool false]) (bd (PV.chr x0 x1) fun v6=>bd (PV.bin .eql v6 (.int .u8 34)) fun v7=>
 PV.ite v7 (some [.bool false]) (bd (PV.bin .add x1 (.int .i64 1)) fun v8=>lQ x0 v8)))) (some [.bool true]):=aZ _ _ _ _ _ _ _ _ (by kernel_rfl)
theorem aDq (x0 : PV) : uC x0=bd (PV.whole 2 x0) fun v0=>bd (PV.cell v0 0) fun v1=>bd (PV.cell v0 1) fun v2=>bd (PV.len v2) fun v3=>bd (aP v3 (.int .i64 1) (.int .i64 12)) fun r4=>bd (PV.not (hd r4)) fun v5=>PV.ite v5 (some [.bool false]) (bd (PV.len v1) fun v6=>bd (PV.bin .gtr v6 (.int .i64 20)) fun v7=>PV.ite v7 (some [.bool false]) (kQ (.int .i64 0) v1 v2)):=aK _ _ _ (by kernel_rfl)
theorem qJ (x0 x1 x2 : PV) : kQ x0 x1 x2=bd (PV.len x1) fun v0=>bd (PV.bin .lss x0 v0) fun v1=>PV.ite v1 (bd (PV.at_ 1 false x1 x0) fun v2=>bd (nE v2) fun r3=>bd (PV.not (hd r3)) fun v4=>PV.ite v4 (some [.bool false]) (bd (PV.bin .add x0 (.int .i64 1)) fun v5=>kQ v5 x1 x2)) (iA (.int .i64 0) x1 x2):=aZ _ _ _ _ _ _ _ _ (by kernel_rfl)
theorem qK (x0 x1 x2 : PV) : iA x0 x1 x2=bd (PV.len x2) fun v0=>bd (PV.bin .lss x0 v0) fun v1=>PV.ite v1 (bd (PV.at_ 3 true x2 x0) fun v2=>bd (PV.whole 3 v2) fun v3=>bd (PV.cell v3 0) fun v4=>bd (PV.cell v3 1) fun v5=>bd (PV.cell v3 2) fun v6=>bd (aP v4 (.int .i64 0) (.int .i64 6)) fun r7=>bd (PV.not (hd r7)) fun v8=>PV.ite v8 (some [.bool false])
 (bd (aP v5 v4 (.int .i64 12)) fun r9=>bd (PV.not (hd r9)) fun v10=>PV.ite v10 (some [.bool false]) (bd (PV.len v6) fun v11=>bd (aP v11 (.int .i64 1) (.int .i64 120)) fun r12=>bd (PV.not (hd r12)) fun v13=>PV.ite v13 (some [.bool false]) (jK x0 (.int .i64 0) x1 x2 v4 v5 v6)))) (some [.bool true]):=aZ _ _ _ _ _ _ _ _ (by kernel_rfl)
theorem pM (x0 x1 x2 x3 x4 x5 x6 : PV) : jK x0 x1 x2 x3 x4 x5 x6=bd (PV.len x6) fun v0=>bd (PV.bin .lss x1 v0) fun v1=>PV.ite v1 (bd (PV.at_ 2 true x6 x1) fun v2=>bd (aA7 (.agg [x2,x3]) x0 v2) fun r3=>bd (PV.not (hd r3)) fun v4=>PV.ite v4 (some [.bool false]) (bd (PV.bin .add x1 (.int .i64 1)) fun v5=>jK x0 v5 x2 x3 x4 x5 x6)) (bd (PV.bin .add x0 (.int .i64 1)) fun v6=>
 iA v6 x2 x3):=aZ _ _ _ _ _ _ _ _ (by kernel_rfl)
theorem aCm (x0 x1 : PV) : rW x0 x1=bd (PV.whole 2 x0) fun v0=>bd (PV.cell v0 0) fun v1=>bd (PV.cell v0 1) fun v2=>bd (PV.at_ 3 true v2 x1) fun v3=>bd (PV.cell v3 2) fun v4=>jL v4 (.int .i64 0) v1 v2 (.lst []):=aK _ _ _ (by kernel_rfl)
theorem pN (x0 x1 x2 x3 x4 : PV) : jL x0 x1 x2 x3 x4=bd (PV.len x0) fun v0=>bd (PV.bin .lss x1 v0) fun v1=>PV.ite v1 (bd (PV.cat 1 8 false x4 (.lst [(.int .i64 (-1))])) fun v2=>bd (PV.bin .add x1 (.int .i64 1)) fun v3=>jL x0 v3 x2 x3 v2) (bd (PV.inb x4 (.int .i64 0)) fun v4=>bd (PV.setAt 1 false x4 (.int .i64 0) (.int .i64 0)) fun v5=>gP x0 (.bool true) x2 x3 v5):=aZ _ _ _ _ _ _ _ _ (by kernel_rfl)
theorem gS (x0 x1 x2 x3 x4 : PV) : gP x0 x1 x2 x3 x4=PV.ite x1 (dN x0 (.bool false) (.int .i64 0) x2 x3 x4) (some [x4]):=aZ _ _ _ _ _ _ _ _ (by kernel_rfl)
theorem nV (x0 x1 x2 x3 x4 x5 : PV) : dN x0 x1 x2 x3 x4 x5=bd (PV.len x0) fun v0=>bd (PV.bin .lss x2 v0) fun v1=>PV.ite v1 (bd (PV.at_ 2 true x0 x2) fun v2=>bd (tC (.agg [x3,x4]) v2) fun r3=>bd (PV.comp (hd r3) 0) fun v4=>bd (PV.comp (hd r3) 1) fun v5=>bd (PV.inb x5 x2) fun v6=>bd (PV.at_ 1 false x5 x2) fun v7=>bd (PV.bin .sub v7 v4) fun v8=>
 bd (PV.bin .add v8 v5) fun v9=>bd (PV.inb x5 x2) fun v10=>bd (PV.at_ 1 false x5 x2) fun v11=>bd (PV.bin .lss v11 v4) fun v12=>PV.ite v12 (bd (PV.bin .add x2 (.int .i64 1)) fun v13=>dN x0 x1 v13 x3 x4 x5) (bd (PV.bin .gtr v9 (.int .i64 16)) fun v14=>PV.ite v14 (bd (PV.bin .add x2 (.int .i64 1)) fun v15=>dN x0 x1 v15 x3 x4 x5) (bd (PV.at_ 2 true x0 x2) fun v16=>
 bd (qP v16 x2) fun r17=>eG x0 x1 x2 v9 (hd r17) (.int .i64 0) x3 x4 x5))) (gP x0 x1 x3 x4 x5):=aZ _ _ _ _ _ _ _ _ (by kernel_rfl)
theorem nW (x0 x1 x2 x3 x4 x5 x6 x7 x8 : PV) : eG x0 x1 x2 x3 x4 x5 x6 x7 x8=bd (PV.len x4) fun v0=>bd (PV.bin .lss x5 v0) fun v1=>PV.ite v1 (bd (PV.at_ 1 false x4 x5) fun v2=>bd (PV.len x0) fun v3=>bd (PV.bin .lss v2 v3) fun v4=>PV.ite v4 (bd (PV.at_ 1 false x4 x5) fun v5=>bd (PV.inb x8 v5) fun v6=>bd (PV.at_ 1 false x8 v5) fun v7=>bd (PV.bin .lss v7 (.int .i64 0)) fun v8=>
 PV.ite v8 (rX x0 x2 x3 x4 x5 x6 x7 x8) (bd (PV.bin .add x5 (.int .i64 1)) fun v9=>eG x0 x1 x2 x3 x4 v9 x6 x7 x8)) (bd (PV.bin .add x5 (.int .i64 1)) fun v10=>eG x0 x1 x2 x3 x4 v10 x6 x7 x8)) (bd (PV.bin .add x2 (.int .i64 1)) fun v11=>dN x0 x1 v11 x6 x7 x8):=aZ _ _ _ _ _ _ _ _ (by kernel_rfl)
theorem xK (x0 x1 x2 x3 x4 x5 x6 x7 : PV) : rX x0 x1 x2 x3 x4 x5 x6 x7=bd (PV.at_ 1 false x3 x4) fun v0=>bd (PV.inb x7 v0) fun v1=>bd (PV.setAt 1 false x7 v0 x2) fun v2=>bd (PV.bin .add x4 (.int .i64 1)) fun v3=>eG x0 (.bool true) x1 x2 x3 v3 x5 x6 v2:=aZ _ _ _ _ _ _ _ _ (by kernel_rfl)
theorem aFQ (x0 x1 : PV) : tC x0 x1=bd (PV.whole 2 x0) fun v0=>bd (PV.cell v0 0) fun v1=>bd (PV.cell v0 1) fun v2=>bd (PV.whole 2 x1) fun v3=>bd (PV.cell v3 0) fun v4=>bd (PV.cell v3 1) fun v5=>bd (PV.bin .eql v4 (.int .i64 1)) fun v6=>PV.ite v6 (some [(.tup [(.int .i64 0),(.int .i64 1)])]) (bd (PV.bin .eql v4 (.int .i64 2)) fun v7=>PV.ite v7 (some [(.tup [(.int .i64 0),(.int .i64 1)])])
 (bd (PV.bin .eql v4 (.int .i64 3)) fun v8=>PV.ite v8 (some [(.tup [(.int .i64 0),(.int .i64 1)])]) (bd (PV.bin .eql v4 (.int .i64 4)) fun v9=>PV.ite v9 (some [(.tup [(.int .i64 0),(.int .i64 1)])]) (bd (PV.bin .eql v4 (.int .i64 5)) fun v10=>PV.ite v10 (some [(.tup [(.int .i64 0),(.int .i64 1)])]) (bd (PV.bin .eql v4 (.int .i64 6)) fun v11=>PV.ite v11 (some [(.tup [(.int .i64 0),(.int .i64 1)])])
 (bd (PV.bin .eql v4 (.int .i64 20)) fun v12=>PV.ite v12 (some [(.tup [(.int .i64 0),(.int .i64 1)])]) (bd (PV.bin .eql v4 (.int .i64 7)) fun v13=>PV.ite v13 (some [(.tup [(.int .i64 1),(.int .i64 0)])]) (bd (PV.bin .eql v4 (.int .i64 9)) fun v14=>PV.ite v14 (some [(.tup [(.int .i64 1),(.int .i64 0)])]) (bd (PV.bin .eql v4 (.int .i64 18)) fun v15=>PV.ite v15 (some [(.tup [(.int .i64 1),(.int .i64 0)])])
 (bd (PV.bin .eql v4 (.int .i64 19)) fun v16=>PV.ite v16 (some [(.tup [(.int .i64 1),(.int .i64 0)])]) (bd (PV.bin .eql v4 (.int .i64 25)) fun v17=>PV.ite v17 (some [(.tup [(.int .i64 1),(.int .i64 0)])]) (bd (PV.bin .eql v4 (.int .i64 26)) fun v18=>PV.ite v18 (some [(.tup [(.int .i64 1),(.int .i64 0)])]) (bd (PV.bin .eql v4 (.int .i64 8)) fun v19=>PV.ite v19 (some [(.tup [(.int .i64 1),(.int .i64 2)])])
 (bd (PV.bin .eql v4 (.int .i64 10)) fun v20=>PV.ite v20 (some [(.tup [(.int .i64 2),(.int .i64 2)])]) (bd (PV.bin .eql v4 (.int .i64 11)) fun v21=>PV.ite v21 (some [(.tup [(.int .i64 2),(.int .i64 1)])]) (bd (PV.bin .eql v4 (.int .i64 12)) fun v22=>PV.ite v22 (some [(.tup [(.int .i64 2),(.int .i64 1)])]) (bd (PV.bin .eql v4 (.int .i64 13)) fun v23=>PV.ite v23 (some [(.tup [(.int .i64 2),(.int .i64 1)])])
 (bd (PV.bin .eql v4 (.int .i64 14)) fun v24=>PV.ite v24 (some [(.tup [(.int .i64 2),(.int .i64 1)])]) (bd (PV.bin .eql v4 (.int .i64 15)) fun v25=>PV.ite v25 (some [(.tup [(.int .i64 2),(.int .i64 1)])]) (bd (PV.bin .eql v4 (.int .i64 16)) fun v26=>PV.ite v26 (some [(.tup [(.int .i64 1),(.int .i64 1)])]) (bd (PV.bin .eql v4 (.int .i64 21)) fun v27=>PV.ite v27 (some [(.tup [(.int .i64 1),(.int .i64 1)])])
 (bd (PV.bin .eql v4 (.int .i64 22)) fun v28=>PV.ite v28 (some [(.tup [(.int .i64 2),(.int .i64 0)])]) (bd (PV.bin .eql v4 (.int .i64 23)) fun v29=>PV.ite v29 (bd (aP v5 (.int .i64 0) (.int .i64 6)) fun r30=>PV.ite (hd r30) (bd (PV.bin .add v5 (.int .i64 1)) fun v31=>some [(.tup [v31,(.int .i64 1)])]) (some [(.tup [(.int .i64 0),(.int .i64 0)])])) (bd (PV.bin .eql v4 (.int .i64 24)) fun v32=>
 PV.ite v32 (bd (PV.len v2) fun v33=>bd (PV.bin .sub v33 (.int .i64 1)) fun v34=>bd (aP v5 (.int .i64 0) v34) fun r35=>PV.ite (hd r35) (bd (PV.at_ 3 true v2 v5) fun v36=>bd (PV.cell v36 0) fun v37=>some [(.tup [v37,(.int .i64 1)])]) (some [(.tup [(.int .i64 0),(.int .i64 0)])])) (some [(.tup [(.int .i64 0),(.int .i64 0)])]))))))))))))))))))))))))):=aK _ _ _ (by kernel_rfl)
theorem aEv (x0 x1 : PV) : qP x0 x1=bd (PV.whole 2 x0) fun v0=>bd (PV.cell v0 0) fun v1=>bd (PV.cell v0 1) fun v2=>bd (PV.bin .neq v1 (.int .i64 17)) fun v3=>PV.ite v3 (bd (PV.bin .neq v1 (.int .i64 25)) fun v4=>PV.ite v4 (xB x1 v1 v2 (.lst [])) (lR v1 v2 (.lst []))) (lR v1 v2 (.lst [])):=aK _ _ _ (by kernel_rfl)
theorem aBq (x0 x1 x2 x3 : PV) : xB x0 x1 x2 x3=bd (PV.bin .add x0 (.int .i64 1)) fun v0=>bd (PV.cat 1 8 false (.lst []) (.lst [v0])) fun v1=>bd (PV.cat 1 8 false x3 v1) fun v2=>lR x1 x2 v2:=aZ _ _ _ _ _ _ _ _ (by kernel_rfl)
theorem aBr (x0 x1 x2 : PV) : lR x0 x1 x2=bd (PV.bin .eql x0 (.int .i64 17)) fun v0=>PV.ite v0 (lS x0 x1 x2) (bd (PV.bin .eql x0 (.int .i64 18)) fun v1=>PV.ite v1 (lS x0 x1 x2) (bd (PV.bin .eql x0 (.int .i64 19)) fun v2=>PV.ite v2 (lS x0 x1 x2) (some [x2]))):=aZ _ _ _ _ _ _ _ _ (by kernel_rfl)
theorem aBs (x0 x1 x2 : PV) : lS x0 x1 x2=bd (PV.cat 1 8 false (.lst []) (.lst [x1])) fun v0=>bd (PV.cat 1 8 false x2 v0) fun v1=>some [v1]:=aZ _ _ _ _ _ _ _ _ (by kernel_rfl)
theorem aGL (x0 x1 x2 : PV) : aA7 x0 x1 x2=bd (PV.whole 2 x0) fun v0=>bd (PV.cell v0 0) fun v1=>bd (PV.cell v0 1) fun v2=>bd (PV.whole 2 x2) fun v3=>bd (PV.cell v3 0) fun v4=>bd (PV.cell v3 1) fun v5=>bd (PV.len v2) fun v6=>bd (PV.bin .sub v6 (.int .i64 1)) fun v7=>bd (aP x1 (.int .i64 0) v7) fun r8=>bd (PV.not (hd r8)) fun v9=>PV.ite v9 (some [.bool false])
 (bd (PV.bin .eql v4 (.int .i64 1)) fun v10=>PV.ite v10 (bd (aP v5 (.int .i64 (-1000000000)) (.int .i64 1000000000)) fun r11=>some [(hd r11)]) (bd (PV.bin .eql v4 (.int .i64 2)) fun v12=>PV.ite v12 (bd (aP v5 (.int .i64 0) (.int .i64 1)) fun r13=>some [(hd r13)]) (bd (PV.bin .eql v4 (.int .i64 3)) fun v14=>PV.ite v14 (bd (PV.len v1) fun v15=>bd (PV.bin .sub v15 (.int .i64 1)) fun v16=>
 bd (aP v5 (.int .i64 0) v16) fun r17=>some [(hd r17)]) (bd (PV.bin .eql v4 (.int .i64 5)) fun v18=>PV.ite v18 (bd (PV.len v2) fun v19=>bd (PV.bin .sub v19 (.int .i64 1)) fun v20=>bd (aP v5 (.int .i64 0) v20) fun r21=>some [(hd r21)]) (bd (PV.bin .eql v4 (.int .i64 24)) fun v22=>PV.ite v22 (bd (PV.len v2) fun v23=>bd (PV.bin .sub v23 (.int .i64 1)) fun v24=>
 bd (aP v5 (.int .i64 0) v24) fun r25=>some [(hd r25)]) (bd (PV.bin .eql v4 (.int .i64 6)) fun v26=>PV.ite v26 (bd (PV.at_ 3 true v2 x1) fun v27=>bd (PV.cell v27 1) fun v28=>bd (PV.bin .sub v28 (.int .i64 1)) fun v29=>bd (aP v5 (.int .i64 0) v29) fun r30=>some [(hd r30)]) (bd (PV.bin .eql v4 (.int .i64 7)) fun v31=>PV.ite v31 (bd (PV.at_ 3 true v2 x1) fun v32=>
 bd (PV.cell v32 1) fun v33=>bd (PV.bin .sub v33 (.int .i64 1)) fun v34=>bd (aP v5 (.int .i64 0) v34) fun r35=>some [(hd r35)]) (bd (PV.bin .eql v4 (.int .i64 17)) fun v36=>PV.ite v36 (bd (PV.at_ 3 true v2 x1) fun v37=>bd (PV.cell v37 2) fun v38=>bd (PV.len v38) fun v39=>bd (PV.bin .sub v39 (.int .i64 1)) fun v40=>bd (aP v5 (.int .i64 0) v40) fun r41=>some [(hd r41)])
 (bd (PV.bin .eql v4 (.int .i64 18)) fun v42=>PV.ite v42 (bd (PV.at_ 3 true v2 x1) fun v43=>bd (PV.cell v43 2) fun v44=>bd (PV.len v44) fun v45=>bd (PV.bin .sub v45 (.int .i64 1)) fun v46=>bd (aP v5 (.int .i64 0) v46) fun r47=>some [(hd r47)]) (bd (PV.bin .eql v4 (.int .i64 19)) fun v48=>PV.ite v48 (bd (PV.at_ 3 true v2 x1) fun v49=>bd (PV.cell v49 2) fun v50=>bd (PV.len v50) fun v51=>
 bd (PV.bin .sub v51 (.int .i64 1)) fun v52=>bd (aP v5 (.int .i64 0) v52) fun r53=>some [(hd r53)]) (bd (PV.bin .eql v4 (.int .i64 20)) fun v54=>PV.ite v54 (bd (aP v5 (.int .i64 0) (.int .i64 6)) fun r55=>some [(hd r55)]) (bd (PV.bin .eql v4 (.int .i64 21)) fun v56=>PV.ite v56 (bd (aP v5 (.int .i64 0) (.int .i64 5)) fun r57=>some [(hd r57)]) (bd (PV.bin .eql v4 (.int .i64 22)) fun v58=>
 PV.ite v58 (bd (aP v5 (.int .i64 0) (.int .i64 5)) fun r59=>some [(hd r59)]) (bd (PV.bin .eql v4 (.int .i64 23)) fun v60=>PV.ite v60 (bd (aP v5 (.int .i64 0) (.int .i64 6)) fun r61=>some [(hd r61)]) (bd (aP v4 (.int .i64 1) (.int .i64 26)) fun r62=>PV.ite (hd r62) (bd (PV.bin .eql v5 (.int .i64 0)) fun v63=>some [v63]) (some [.bool false])))))))))))))))):=aK _ _ _ (by kernel_rfl)
theorem aBt (x0 x1 x2 : PV) : pX x0 x1 x2=bd (PV.whole 2 x0) fun v0=>bd (PV.cell v0 0) fun v1=>bd (PV.cell v0 1) fun v2=>bd (PV.whole 10 x2) fun v3=>bd (PV.cell v3 0) fun v4=>bd (PV.cell v3 1) fun v5=>bd (PV.cell v3 2) fun v6=>bd (PV.cell v3 3) fun v7=>bd (PV.cell v3 4) fun v8=>bd (PV.cell v3 5) fun v9=>bd (PV.cell v3 6) fun v10=>bd (PV.cell v3 7) fun v11=>
 bd (PV.cell v3 8) fun v12=>bd (PV.cell v3 9) fun v13=>bd (yP (.agg [v1,v2]) (.agg [v4,v5,v6,v7,v8,v9,v10,v11,v12,v13])) fun r14=>bd (PV.comp (hd r14) 0) fun v15=>bd (PV.comp (hd r14) 1) fun v16=>bd (PV.whole 4 v15) fun v17=>bd (PV.cell v17 0) fun v18=>bd (PV.cell v17 1) fun v19=>bd (PV.cell v17 2) fun v20=>bd (PV.cell v17 3) fun v21=>bd (PV.not v16) fun v22=>
 PV.ite v22 (bd (PV.cat 4 32 true (.lst []) x1) fun v23=>some [v23]) (bd (yQ x1 v18 v19) fun r24=>bd (PV.cell (hd r24) 2) fun v25=>bd (PV.bin .eql v25 (.int .i64 0)) fun v26=>PV.ite v26 (bd (PV.len x1) fun v27=>bd (PV.bin .eql v27 (.int .i64 150)) fun v28=>PV.ite v28 (bd (PV.cat 4 32 true (.lst []) x1) fun v29=>some [v29]) (bd (pD (.agg [v1,v2]) x1 (.agg [v18,v19,v20,v21])) fun r30=>
 PV.guardOwn (.own 4 32 true []) (gd r30 0) (some [(gd r30 0)]))) (bd (pD (.agg [v1,v2]) x1 (.agg [v18,v19,v20,v21])) fun r31=>PV.guardOwn (.own 4 32 true []) (gd r31 0) (some [(gd r31 0)]))):=bK _ _ _ _ (by kernel_rfl)
theorem aFR (x0 x1 : PV) : yP x0 x1=bd (PV.whole 2 x0) fun v0=>bd (PV.cell v0 0) fun v1=>bd (PV.cell v0 1) fun v2=>bd (PV.whole 10 x1) fun v3=>bd (PV.cell v3 0) fun v4=>bd (PV.cell v3 1) fun v5=>bd (PV.cell v3 2) fun v6=>bd (PV.cell v3 3) fun v7=>bd (PV.cell v3 4) fun v8=>bd (PV.cell v3 5) fun v9=>bd (PV.cell v3 6) fun v10=>bd (PV.cell v3 7) fun v11=>bd (PV.cell v3 8) fun v12=>
 bd (PV.cell v3 9) fun v13=>bd (PV.bin .neq v8 (.int .i64 0)) fun v14=>PV.ite v14 (some [(.tup [(.agg [(.int .i64 0),(.int .i64 0),(.int .i64 0),(.int .i64 0)]),(.bool false)])]) (bd (PV.len v4) fun v15=>bd (PV.bin .sub v15 (.int .i64 1)) fun v16=>bd (PV.at_ 4 true v4 v16) fun v17=>bd (PV.whole 4 v17) fun v18=>bd (PV.cell v18 0) fun v19=>bd (PV.cell v18 1) fun v20=>bd (PV.cell v18 2) fun v21=>
 bd (PV.cell v18 3) fun v22=>bd (PV.at_ 3 true v2 v19) fun v23=>bd (PV.cell v23 2) fun v24=>bd (PV.at_ 2 true v24 v20) fun v25=>bd (PV.whole 2 v25) fun v26=>bd (PV.cell v26 0) fun v27=>bd (PV.cell v26 1) fun v28=>bd (PV.one v19) fun v29=>bd (PV.one v20) fun v30=>bd (PV.len v22) fun v31=>bd (aA8 v27) fun r32=>bd (PV.not (hd r32)) fun v33=>PV.ite v33 (some [(.tup [(.agg [(.int .i64 0),(.int .i64 0),(.int .i64 0),(.int .i64 0)]),(.bool false)])])
 (bd (PV.bin .eql v27 (.int .i64 23)) fun v34=>PV.ite v34 (bd (PV.bin .sub v31 (.int .i64 1)) fun v35=>bd (PV.bin .sub v35 v28) fun v36=>bd (PV.at_ 3 true v22 v36) fun v37=>bd (PV.whole 3 v37) fun v38=>bd (PV.cell v38 0) fun v39=>bd (PV.cell v38 1) fun v40=>bd (PV.cell v38 2) fun v41=>bd (PV.bin .eql v39 (.int .i64 5)) fun v42=>PV.ite v42 (bd (PV.one v40) fun v43=>some [(.tup [(.agg [v29,v30,(.int .i64 1),v43]),(.bool true)])])
 (some [(.tup [(.agg [v29,v30,(.int .i64 2),(.int .i64 0)]),(.bool true)])])) (bd (PV.bin .sub v31 (.int .i64 1)) fun v44=>bd (PV.at_ 3 true v22 v44) fun v45=>bd (PV.cell v45 0) fun v46=>bd (PV.bin .eql v46 (.int .i64 1)) fun v47=>PV.ite v47 (bd (PV.bin .sub v31 (.int .i64 2)) fun v48=>bd (PV.at_ 3 true v22 v48) fun v49=>bd (PV.cell v49 0) fun v50=>bd (PV.bin .eql v50 (.int .i64 1)) fun v51=>
 PV.ite v51 (some [(.tup [(.agg [v29,v30,(.int .i64 1),(.int .i64 0)]),(.bool true)])]) (some [(.tup [(.agg [v29,v30,(.int .i64 2),(.int .i64 0)]),(.bool true)])])) (some [(.tup [(.agg [v29,v30,(.int .i64 2),(.int .i64 0)]),(.bool true)])])))):=aK _ _ _ (by kernel_rfl)
theorem aFS (x0 x1 x2 : PV) : yQ x0 x1 x2=jY x0 x1 x2 (.int .i64 0) (.int .i64 0) (.int .i64 0) (.int .i64 0) (.int .i64 0):=aK _ _ _ (by kernel_rfl)
theorem tK (x0 x1 x2 x3 x4 x5 x6 x7 : PV) : jY x0 x1 x2 x3 x4 x5 x6 x7=bd (PV.len x0) fun v0=>bd (PV.bin .lss x3 v0) fun v1=>PV.ite v1 (bd (PV.at_ 4 true x0 x3) fun v2=>bd (PV.cell v2 0) fun v3=>bd (PV.bin .eql v3 x1) fun v4=>PV.ite v4 (bd (PV.at_ 4 true x0 x3) fun v5=>bd (PV.cell v5 1) fun v6=>bd (PV.bin .eql v6 x2) fun v7=>PV.ite v7 (bd (PV.at_ 4 true x0 x3) fun v8=>
 bd (PV.whole 4 v8) fun v9=>bd (PV.cell v9 0) fun v10=>bd (PV.cell v9 1) fun v11=>bd (PV.cell v9 2) fun v12=>bd (PV.cell v9 3) fun v13=>some [(.agg [v10,v11,v12,v13])]) (bd (PV.bin .add x3 (.int .i64 1)) fun v14=>jY x0 x1 x2 v14 x4 x5 x6 x7)) (bd (PV.bin .add x3 (.int .i64 1)) fun v15=>jY x0 x1 x2 v15 x4 x5 x6 x7)) (some [(.agg [(.int .i64 0),(.int .i64 0),(.int .i64 0),(.int .i64 0)])]):=aZ _ _ _ _ _ _ _ _ (by kernel_rfl)
theorem aGM (x0 : PV) : aA8 x0=bd (PV.bin .eql x0 (.int .i64 11)) fun v0=>PV.ite v0 (some [.bool true]) (bd (PV.bin .eql x0 (.int .i64 12)) fun v1=>PV.ite v1 (some [.bool true]) (bd (PV.bin .eql x0 (.int .i64 13)) fun v2=>PV.ite v2 (some [.bool true]) (bd (PV.bin .eql x0 (.int .i64 14)) fun v3=>PV.ite v3 (some [.bool true]) (bd (PV.bin .eql x0 (.int .i64 23)) fun v4=>PV.ite v4
 (some [.bool true]) (some [.bool false]))))):=aK _ _ _ (by kernel_rfl)
theorem aEw (x0 x1 : PV) : vY x0 x1=bd (PV.whole 2 x0) fun v0=>bd (PV.cell v0 0) fun v1=>bd (PV.cell v0 1) fun v2=>bd (PV.whole 10 x1) fun v3=>bd (PV.cell v3 0) fun v4=>bd (PV.cell v3 1) fun v5=>bd (PV.cell v3 2) fun v6=>bd (PV.cell v3 3) fun v7=>bd (PV.cell v3 4) fun v8=>bd (PV.cell v3 5) fun v9=>bd (PV.cell v3 6) fun v10=>bd (PV.cell v3 7) fun v11=>
 bd (PV.cell v3 8) fun v12=>bd (PV.cell v3 9) fun v13=>bd (PV.bin .neq v8 (.int .i64 0)) fun v14=>PV.ite v14 (bd (iN (.agg [v4,v5,v6,v7,v8,v9,v10,v11,v12,v13])) fun r15=>PV.guardFlat (gd r15 0) (PV.guardFlat (gd r15 1) (PV.guardFlat (gd r15 2) (PV.guardFlat (gd r15 3) (PV.guardFlat (gd r15 4) (PV.guardFlat (gd r15 5) (PV.guardFlat (gd r15 6) (PV.guardOwn (.own 4 64 true [.leaf,.leaf,(.own 3 32 true []),(.own 3 32 true [])]) (gd r15 7) (
 PV.guardOwn (.own 1 24 true [(.own 3 32 true [])]) (gd r15 8) (PV.guardOwn (.own 1 16 false []) (gd r15 9) (some [(gd r15 0),(gd r15 1),(gd r15 2),(gd r15 3),(gd r15 4),(gd r15 5),(gd r15 6),(gd r15 7),(gd r15 8),(gd r15 9)]))))))))))) (bd (PV.bin .eql v13 (.int .i64 50000)) fun v16=>PV.ite v16 (bd (iN (.agg [v4,v5,v6,v7,v8,v9,v10,v11,v12,v13])) fun r17=>PV.guardFlat (gd r17 0) (
 PV.guardFlat (gd r17 1) (PV.guardFlat (gd r17 2) (PV.guardFlat (gd r17 3) (PV.guardFlat (gd r17 4) (PV.guardFlat (gd r17 5) (PV.guardFlat (gd r17 6) (PV.guardOwn (.own 4 64 true [.leaf,.leaf,(.own 3 32 true []),(.own 3 32 true [])]) (gd r17 7) (PV.guardOwn (.own 1 24 true [(.own 3 32 true [])]) (gd r17 8) (PV.guardOwn (.own 1 16 false []) (gd r17 9) (some [(gd r17 0),(gd r17 1),(gd r17 2),(gd r17 3),(gd r17 4),(gd r17 5),(gd r17 6),(gd r17 7),(gd r17 8),(gd r17 9)])))))))))))
 (bd (iN (.agg [v4,v5,v6,v7,v8,v9,v10,v11,v12,v13])) fun r18=>PV.guardFlat (gd r18 0) (PV.guardFlat (gd r18 1) (PV.guardFlat (gd r18 2) (PV.guardFlat (gd r18 3) (PV.guardFlat (gd r18 4) (PV.guardFlat (gd r18 5) (PV.guardFlat (gd r18 6) (PV.guardOwn (.own 4 64 true [.leaf,.leaf,(.own 3 32 true []),(.own 3 32 true [])]) (gd r18 7) (PV.guardOwn (.own 1 24 true [(.own 3 32 true [])]) (gd r18 8) (
 PV.guardOwn (.own 1 16 false []) (gd r18 9) (bd (dX v1 v2 (gd r18 0) (gd r18 1) (gd r18 2) (gd r18 3) (gd r18 4) (gd r18 5) (gd r18 6) (.int .i64 0) (gd r18 7) (gd r18 8) (gd r18 9)) fun r19=>bd (PV.at_ 4 true (gd r19 11) (gd r19 0)) fun v20=>bd (PV.cell v20 0) fun v21=>bd (PV.at_ 3 true v2 v21) fun v22=>bd (PV.cell v22 2) fun v23=>bd (PV.at_ 4 true (gd r19 11) (gd r19 0)) fun v24=>
 bd (PV.cell v24 1) fun v25=>bd (PV.at_ 2 true v23 v25) fun v26=>bd (PV.whole 2 v26) fun v27=>bd (PV.cell v27 0) fun v28=>bd (PV.cell v27 1) fun v29=>bd (PV.at_ 4 true (gd r19 11) (gd r19 0)) fun v30=>bd (PV.cell v30 1) fun v31=>bd (PV.bin .add v31 (.int .i64 1)) fun v32=>bd (PV.one v32) fun v33=>bd (PV.setCell 4 (gd r19 11) (gd r19 0) 1 v33) fun v34=>bd (sA v28 v29 (gd r19 1) (gd r19 2) (gd r19 3) (gd r19 4) (gd r19 5) (gd r19 6) (gd r19 7) (gd r19 8) (gd r19 9) (gd r19 10) v34 (gd r19 12) (gd r19 13)) fun r35=>
 bd (PV.bin .neq (gd r35 9) (.int .i64 0)) fun v36=>PV.ite v36 (bd (iN (.agg [v4,v5,v6,v7,v8,v9,v10,v11,v12,v13])) fun r37=>PV.guardFlat (gd r37 0) (PV.guardFlat (gd r37 1) (PV.guardFlat (gd r37 2) (PV.guardFlat (gd r37 3) (PV.guardFlat (gd r37 4) (PV.guardFlat (gd r37 5) (PV.guardFlat (gd r37 6) (PV.guardOwn (.own 4 64 true [.leaf,.leaf,(.own 3 32 true []),(.own 3 32 true [])]) (gd r37 7) (
 PV.guardOwn (.own 1 24 true [(.own 3 32 true [])]) (gd r37 8) (PV.guardOwn (.own 1 16 false []) (gd r37 9) (bd (PV.one (gd r35 9)) fun v38=>bd (PV.bin .add (gd r37 6) (.int .i64 1)) fun v39=>bd (PV.one v39) fun v40=>some [(gd r37 0),(.int .i64 2),v38,(gd r37 3),(gd r37 4),(gd r37 5),v40,(gd r37 7),(gd r37 8),(gd r37 9)]))))))))))) (bd (PV.bin .add (gd r35 8) (.int .i64 1)) fun v41=>
 bd (PV.one v41) fun v42=>some [(gd r35 2),(gd r35 3),(gd r35 4),(gd r35 5),(gd r35 6),(gd r35 7),v42,(gd r35 10),(gd r35 11),(gd r35 12)]))))))))))))):=bK _ _ _ _ (by kernel_rfl)
theorem aJl (x0 x1 x2 x3 x4 x5 x6 : PV) : aJk x0 x1 x2 x3 x4 x5 x6=bd (aBd (.agg [x0,x1]) x2) fun r0=>PV.guardFlat (gd r0 0) (PV.guardFlat (gd r0 1) (PV.guardFlat (gd r0 2) (PV.guardFlat (gd r0 3) (PV.guardFlat (gd r0 4) (PV.guardFlat (gd r0 5) (PV.guardFlat (gd r0 6) (PV.guardFlat (gd r0 7) (PV.guardOwn (.own 4 64 true [.leaf,.leaf,(.own 3 32 true []),(.own 3 32 true [])]) (gd r0 8) (
 PV.guardOwn (.own 1 24 true [(.own 3 32 true [])]) (gd r0 9) (PV.guardOwn (.own 1 16 false []) (gd r0 10) (bd (PV.not (gd r0 7)) fun v1=>PV.ite v1 (some [(.int .i64 0),(.int .i64 0),(.int .i64 0),(.int .i64 0),(.int .i64 0),(.str (bs [])),(.int .i64 0),(.bool false),x4,x5,x6,(.lst []),(.lst []),(.lst [])]) (bd (cB x3 (.int .i64 0) (.int .i64 50000)) fun r2=>bd (PV.not (hd r2)) fun v3=>
 PV.ite v3 (some [(.int .i64 0),(.int .i64 0),(.int .i64 0),(.int .i64 0),(.int .i64 0),(.str (bs [])),(.int .i64 0),(.bool false),x4,x5,x6,(.lst []),(.lst []),(.lst [])]) (tD x3 (.int .i64 0) x4 x5 x0 x1 (.int .i64 0) (.int .i64 0) (.int .i64 0) (.int .i64 0) (.int .i64 0) (.str (bs [])) (.int .i64 0) (gd r0 0) (gd r0 1) (gd r0 2) (gd r0 3) (gd r0 4) (gd r0 5) (gd r0 6) x6 (.lst []) (.lst []) (.lst []) (gd r0 8) (gd r0 9) (gd r0 10)))))))))))))):=bK _ _ _ _ (by kernel_rfl)
theorem zD (x0 x1 x2 x3 x4 x5 x6 x7 x8 x9 x10 x11 x12 x13 x14 x15 x16 x17 x18 x19 x20 x21 x22 x23 x24 x25 x26 : PV) : tD x0 x1 x2 x3 x4 x5 x6 x7 x8 x9 x10 x11 x12 x13 x14 x15 x16 x17 x18 x19 x20 x21 x22 x23 x24 x25 x26=bd (PV.bin .lss x1 x0) fun v0=>PV.ite v0 (bd (PV.bin .neq x14 (.int .i64 0)) fun v1=>PV.ite v1 (bd (oX (.agg [x24,x25,x13,x26,x14,x15,x16,x17,x18,x19])) fun r2=>
 PV.guardFlat (gd r2 0) (PV.guardFlat (gd r2 1) (PV.guardFlat (gd r2 2) (PV.guardFlat (gd r2 3) (PV.guardFlat (gd r2 4) (PV.guardFlat (gd r2 5) (PV.guardFlat (gd r2 6) (PV.guardOwn (.own 4 64 true [.leaf,.leaf,(.own 3 32 true []),(.own 3 32 true [])]) (gd r2 7) (PV.guardOwn (.own 1 24 true [(.own 3 32 true [])]) (gd r2 8) (PV.guardOwn (.own 1 16 false []) (gd r2 9) (some [(gd r2 0),(gd r2 1),(gd r2 2),(gd r2 3),(gd r2 4),(gd r2 5),(gd r2 6),(.bool true),x2,x3,x20,(gd r2 7),(gd r2 8),(gd r2 9)])))))))))))
 (bd (uW x13 x14 x15 x16 x17 x18 x19 x2 x3 x24 x25 x26 x20) fun r3=>bd (wD x4 x5 (gd r3 0) (gd r3 1) (gd r3 2) (gd r3 3) (gd r3 4) (gd r3 5) (gd r3 6) (gd r3 9) (gd r3 10) (gd r3 11)) fun r4=>bd (PV.bin .add x1 (.int .i64 1)) fun v5=>tD x0 v5 (gd r3 7) (gd r3 8) x4 x5 x6 x7 x8 x9 x10 x11 x12 (gd r4 0) (gd r4 1) (gd r4 2) (gd r4 3) (gd r4 4) (gd r4 5) (gd r4 6) (gd r3 12) x21 x22 x23 (gd r4 7) (gd r4 8) (gd r4 9)))
 (bd (oX (.agg [x24,x25,x13,x26,x14,x15,x16,x17,x18,x19])) fun r6=>PV.guardFlat (gd r6 0) (PV.guardFlat (gd r6 1) (PV.guardFlat (gd r6 2) (PV.guardFlat (gd r6 3) (PV.guardFlat (gd r6 4) (PV.guardFlat (gd r6 5) (PV.guardFlat (gd r6 6) (PV.guardOwn (.own 4 64 true [.leaf,.leaf,(.own 3 32 true []),(.own 3 32 true [])]) (gd r6 7) (PV.guardOwn (.own 1 24 true [(.own 3 32 true [])]) (gd r6 8) (
 PV.guardOwn (.own 1 16 false []) (gd r6 9) (some [(gd r6 0),(gd r6 1),(gd r6 2),(gd r6 3),(gd r6 4),(gd r6 5),(gd r6 6),(.bool true),x2,x3,x20,(gd r6 7),(gd r6 8),(gd r6 9)]))))))))))):=aZ _ _ _ _ _ _ _ _ (by kernel_rfl)
theorem aEx (x0 x1 x2 : PV) : cB x0 x1 x2=bd (PV.bin .leq x1 x0) fun v0=>PV.ite v0 (bd (PV.bin .leq x0 x2) fun v1=>some [v1]) (some [.bool false]):=aK _ _ _ (by kernel_rfl)
theorem aAp (x0 x1 : PV) : oG x0 x1=gZ x0 (.int .i64 0) x1:=bK _ _ _ _ (by kernel_rfl)
theorem nL (x0 x1 x2 : PV) : gZ x0 x1 x2=bd (PV.len x2) fun v0=>bd (PV.bin .lss x1 v0) fun v1=>PV.ite v1 (bd (oW x0) fun r2=>bd (PV.inb x2 x1) fun v3=>bd (PV.setAt 1 false x2 x1 (hd r2)) fun v4=>bd (PV.bin .add x0 (.int .i64 1)) fun v5=>bd (PV.bin .add x1 (.int .i64 1)) fun v6=>gZ v5 v6 v4) (some [x0,x2]):=aZ _ _ _ _ _ _ _ _ (by kernel_rfl)
theorem aCn (x0 x1 : PV) : rY x0 x1=jM x0 (.int .i64 0) x1:=bK _ _ _ _ (by kernel_rfl)
theorem pO (x0 x1 x2 : PV) : jM x0 x1 x2=bd (PV.len x2) fun v0=>bd (PV.bin .lss x1 v0) fun v1=>PV.ite v1 (bd (PV.inb x2 x1) fun v2=>bd (PV.one x0) fun v3=>bd (PV.setCell 3 x2 x1 0 v3) fun v4=>bd (PV.bin .add x0 (.int .i64 1)) fun v5=>bd (PV.inb v4 x1) fun v6=>bd (PV.one v5) fun v7=>bd (PV.setCell 3 v4 x1 1 v7) fun v8=>bd (PV.bin .add v5 (.int .i64 1)) fun v9=>
 bd (PV.inb v8 x1) fun v10=>bd (PV.at_ 3 true v8 x1) fun v11=>bd (uF x1 v9 v8) fun r12=>bd (PV.bin .add x1 (.int .i64 1)) fun v13=>jM (gd r12 0) v13 (gd r12 1)) (some [x0,x2]):=aZ _ _ _ _ _ _ _ _ (by kernel_rfl)
theorem aFT (x0 : PV) : yR x0=bd (PV.whole 3 x0) fun v0=>bd (PV.cell v0 0) fun v1=>bd (PV.cell v0 1) fun v2=>bd (PV.cell v0 2) fun v3=>bd (PV.one v1) fun v4=>bd (PV.one v2) fun v5=>bd (zA v3) fun r6=>PV.guardOwn (.own 2 16 true []) (gd r6 0) (some [v4,v5,(gd r6 0)]):=bK _ _ _ _ (by kernel_rfl)
theorem aFU (x0 x1 x2 : PV) : pD x0 x1 x2=bd (PV.whole 2 x0) fun v0=>bd (PV.cell v0 0) fun v1=>bd (PV.cell v0 1) fun v2=>bd (PV.whole 4 x2) fun v3=>bd (PV.cell v3 0) fun v4=>bd (PV.cell v3 1) fun v5=>bd (PV.cell v3 2) fun v6=>bd (PV.cell v3 3) fun v7=>dZ x1 (.bool false) (.int .i64 0) v1 v2 v4 v5 v6 v7 (.lst []):=bK _ _ _ _ (by kernel_rfl)
theorem tL (x0 x1 x2 x3 x4 x5 x6 x7 x8 x9 : PV) : dZ x0 x1 x2 x3 x4 x5 x6 x7 x8 x9=bd (PV.len x0) fun v0=>bd (PV.bin .lss x2 v0) fun v1=>PV.ite v1 (bd (PV.at_ 4 true x0 x2) fun v2=>bd (PV.cell v2 0) fun v3=>bd (PV.bin .eql v3 x5) fun v4=>PV.ite v4 (bd (PV.at_ 4 true x0 x2) fun v5=>bd (PV.cell v5 1) fun v6=>bd (PV.bin .eql v6 x6) fun v7=>PV.ite v7 (rZ x0 x2 x3 x4 x5 x6 x7 x8 x9)
 (nF x0 x1 x2 x3 x4 x5 x6 x7 x8 x9)) (nF x0 x1 x2 x3 x4 x5 x6 x7 x8 x9)) (bd (PV.not x1) fun v8=>PV.ite v8 (bd (PV.cat 4 32 true x9 (.lst [(.agg [x5,x6,x7,x8])])) fun v9=>some [v9]) (some [x9])):=aZ _ _ _ _ _ _ _ _ (by kernel_rfl)
theorem aCo (x0 x1 x2 x3 x4 x5 x6 x7 x8 : PV) : rZ x0 x1 x2 x3 x4 x5 x6 x7 x8=bd (PV.at_ 3 true x3 x4) fun v0=>bd (PV.cell v0 2) fun v1=>bd (PV.at_ 2 true v1 x5) fun v2=>bd (PV.cell v2 0) fun v3=>bd (PV.at_ 4 true x0 x1) fun v4=>bd (vZ v3 v4 (.agg [x4,x5,x6,x7])) fun r5=>bd (PV.cat 4 32 true (.lst []) (.lst [(hd r5)])) fun v6=>bd (PV.cat 4 32 true x8 v6) fun v7=>
 bd (PV.bin .add x1 (.int .i64 1)) fun v8=>dZ x0 (.bool true) v8 x2 x3 x4 x5 x6 x7 v7:=aZ _ _ _ _ _ _ _ _ (by kernel_rfl)
theorem aCp (x0 x1 x2 x3 x4 x5 x6 x7 x8 x9 : PV) : nF x0 x1 x2 x3 x4 x5 x6 x7 x8 x9=bd (PV.not x1) fun v0=>PV.ite v0 (bd (PV.at_ 4 true x0 x2) fun v1=>bd (wA (.agg [x5,x6,x7,x8]) v1) fun r2=>PV.ite (hd r2) (xC x0 x2 x3 x4 x5 x6 x7 x8 x9) (bd (PV.at_ 4 true x0 x2) fun v3=>bd (PV.cat 4 32 true (.lst []) (.lst [v3])) fun v4=>bd (PV.cat 4 32 true x9 v4) fun v5=>
 bd (PV.bin .add x2 (.int .i64 1)) fun v6=>dZ x0 x1 v6 x3 x4 x5 x6 x7 x8 v5)) (bd (PV.at_ 4 true x0 x2) fun v7=>bd (PV.cat 4 32 true (.lst []) (.lst [v7])) fun v8=>bd (PV.cat 4 32 true x9 v8) fun v9=>bd (PV.bin .add x2 (.int .i64 1)) fun v10=>dZ x0 x1 v10 x3 x4 x5 x6 x7 x8 v9):=aZ _ _ _ _ _ _ _ _ (by kernel_rfl)
theorem aBu (x0 x1 x2 x3 x4 x5 x6 x7 x8 : PV) : xC x0 x1 x2 x3 x4 x5 x6 x7 x8=bd (PV.cat 4 32 true x8 (.lst [(.agg [x4,x5,x6,x7])])) fun v0=>bd (PV.at_ 4 true x0 x1) fun v1=>bd (PV.cat 4 32 true (.lst []) (.lst [v1])) fun v2=>bd (PV.cat 4 32 true v0 v2) fun v3=>bd (PV.bin .add x1 (.int .i64 1)) fun v4=>dZ x0 (.bool true) v4 x2 x3 x4 x5 x6 x7 v3:=aZ _ _ _ _ _ _ _ _ (by kernel_rfl)
theorem aEy (x0 x1 x2 : PV) : vZ x0 x1 x2=bd (PV.whole 4 x1) fun v0=>bd (PV.cell v0 0) fun v1=>bd (PV.cell v0 1) fun v2=>bd (PV.cell v0 2) fun v3=>bd (PV.cell v0 3) fun v4=>bd (PV.whole 4 x2) fun v5=>bd (PV.cell v5 0) fun v6=>bd (PV.cell v5 1) fun v7=>bd (PV.cell v5 2) fun v8=>bd (PV.cell v5 3) fun v9=>bd (PV.bin .neq x0 (.int .i64 23)) fun v10=>PV.ite v10
 (bd (PV.bin .or v3 v8) fun v11=>bd (PV.one v11) fun v12=>some [(.agg [v1,v2,v12,v4])]) (bd (PV.bin .neq v3 (.int .i64 1)) fun v13=>PV.ite v13 (some [(.agg [v1,v2,(.int .i64 2),(.int .i64 0)])]) (bd (PV.bin .neq v8 (.int .i64 1)) fun v14=>PV.ite v14 (some [(.agg [v1,v2,(.int .i64 2),(.int .i64 0)])]) (bd (PV.bin .neq v4 v9) fun v15=>PV.ite v15 (some [(.agg [v1,v2,(.int .i64 2),(.int .i64 0)])])
 (some [(.agg [v1,v2,v3,v4])])))):=aK _ _ _ (by kernel_rfl)
theorem aEz (x0 x1 : PV) : wA x0 x1=bd (PV.whole 4 x0) fun v0=>bd (PV.cell v0 0) fun v1=>bd (PV.cell v0 1) fun v2=>bd (PV.cell v0 2) fun v3=>bd (PV.cell v0 3) fun v4=>bd (PV.whole 4 x1) fun v5=>bd (PV.cell v5 0) fun v6=>bd (PV.cell v5 1) fun v7=>bd (PV.cell v5 2) fun v8=>bd (PV.cell v5 3) fun v9=>bd (PV.bin .lss v1 v6) fun v10=>PV.ite v10 (some [.bool true])
 (bd (PV.bin .eql v1 v6) fun v11=>PV.ite v11 (bd (PV.bin .lss v2 v7) fun v12=>some [v12]) (some [.bool false])):=aK _ _ _ (by kernel_rfl)
theorem aEA (x0 : PV) : iN x0=bd (PV.whole 10 x0) fun v0=>bd (PV.cell v0 0) fun v1=>bd (PV.cell v0 1) fun v2=>bd (PV.cell v0 2) fun v3=>bd (PV.cell v0 3) fun v4=>bd (PV.cell v0 4) fun v5=>bd (PV.cell v0 5) fun v6=>bd (PV.cell v0 6) fun v7=>bd (PV.cell v0 7) fun v8=>bd (PV.cell v0 8) fun v9=>bd (PV.cell v0 9) fun v10=>lT (.int .i64 0) v1 v2 v3 v4 v5 v6 v7 v8 v9 v10 (.int .i64 0) (.int .i64 0) (.int .i64 0) (.int .i64 0) (.int .i64 0) (.str (bs [])) (.int .i64 0) (.lst []) (.lst []) (.lst []) (.lst []):=bK _ _ _ _ (by kernel_rfl)
theorem sL (x0 x1 x2 x3 x4 x5 x6 x7 x8 x9 x10 x11 x12 x13 x14 x15 x16 x17 x18 x19 x20 x21 : PV) : lT x0 x1 x2 x3 x4 x5 x6 x7 x8 x9 x10 x11 x12 x13 x14 x15 x16 x17 x18 x19 x20 x21=bd (PV.len x1) fun v0=>bd (PV.bin .lss x0 v0) fun v1=>PV.ite v1 (bd (PV.at_ 4 true x1 x0) fun v2=>bd (nJ v2) fun r3=>PV.guardFlat (gd r3 0) (PV.guardFlat (gd r3 1) (PV.guardOwn (.own 3 32 true []) (gd r3 2) (
 PV.guardOwn (.own 3 32 true []) (gd r3 3) (bd (PV.cat 4 64 true x21 (.lst [(.agg [(gd r3 0),(gd r3 1),(gd r3 2),(gd r3 3)])])) fun v4=>bd (PV.bin .add x0 (.int .i64 1)) fun v5=>lT v5 x1 x2 x3 x4 x5 x6 x7 x8 x9 x10 x11 x12 x13 x14 x15 x16 x17 x18 x19 x20 v4))))) (bd (oH x2) fun r6=>PV.guardOwn (.own 1 24 true [(.own 3 32 true [])]) (gd r6 0) (bd (PV.cat 1 16 false (.lst []) x4) fun v7=>
 some [x3,x5,x6,x7,x8,x9,x10,x21,(gd r6 0),v7])):=aZ _ _ _ _ _ _ _ _ (by kernel_rfl)
theorem zE (x0 x1 x2 x3 x4 x5 x6 x7 x8 x9 x10 x11 x12 : PV) : dX x0 x1 x2 x3 x4 x5 x6 x7 x8 x9 x10 x11 x12=bd (PV.len x10) fun v0=>bd (PV.bin .sub v0 (.int .i64 1)) fun v1=>bd (PV.inb x10 v1) fun v2=>some [v1,x0,x1,x2,x3,x4,x5,x6,x7,x8,x9,x10,x11,x12]:=bK _ _ _ _ (by kernel_rfl)
theorem aCq (x0 x1 x2 x3 x4 x5 x6 x7 x8 x9 x10 x11 x12 x13 x14 : PV) : sA x0 x1 x2 x3 x4 x5 x6 x7 x8 x9 x10 x11 x12 x13 x14=bd (dX x2 x3 x4 x5 x6 x7 x8 x9 x10 x11 x12 x13 x14) fun r0=>bd (PV.bin .eql x0 (.int .i64 1)) fun v1=>PV.ite v1 (bd (pE x1) fun r2=>bd (fW (hd r2) (gd r0 1) (gd r0 2) (gd r0 3) (gd r0 4) (gd r0 5) (gd r0 6) (gd r0 7) (gd r0 8) (gd r0 9) (gd r0 10) (gd r0 11) (gd r0 12) (gd r0 13)) fun r3=>
 some [(gd r3 0),(gd r3 1),(gd r3 2),(gd r3 3),(gd r3 4),(gd r3 5),(gd r3 6),(gd r3 7),(gd r3 8),(gd r3 9),(gd r3 10),(gd r3 11),(gd r3 12)]) (bd (PV.bin .eql x0 (.int .i64 2)) fun v4=>PV.ite v4 (bd (PV.bin .eql x1 (.int .i64 1)) fun v5=>bd (fP v5) fun r6=>bd (fW (hd r6) (gd r0 1) (gd r0 2) (gd r0 3) (gd r0 4) (gd r0 5) (gd r0 6) (gd r0 7) (gd r0 8) (gd r0 9) (gd r0 10) (gd r0 11) (gd r0 12) (gd r0 13)) fun r7=>
 some [(gd r7 0),(gd r7 1),(gd r7 2),(gd r7 3),(gd r7 4),(gd r7 5),(gd r7 6),(gd r7 7),(gd r7 8),(gd r7 9),(gd r7 10),(gd r7 11),(gd r7 12)]) (bd (PV.bin .eql x0 (.int .i64 3)) fun v8=>PV.ite v8 (bd (PV.at_ 1 false (gd r0 1) x1) fun v9=>bd (PV.one v9) fun v10=>bd (bC (.int .i64 3) (.int .i64 0) v10 (gd r0 1) (gd r0 2) (gd r0 3) (gd r0 4) (gd r0 5) (gd r0 6) (gd r0 7) (gd r0 8) (gd r0 9) (gd r0 10) (gd r0 11) (gd r0 12) (gd r0 13)) fun r11=>
 some [(gd r11 0),(gd r11 1),(gd r11 2),(gd r11 3),(gd r11 4),(gd r11 5),(gd r11 6),(gd r11 7),(gd r11 8),(gd r11 9),(gd r11 10),(gd r11 11),(gd r11 12)]) (bd (PV.bin .eql x0 (.int .i64 4)) fun v12=>PV.ite v12 (bd (bC (.int .i64 0) (.int .i64 0) (.str (bs [])) (gd r0 1) (gd r0 2) (gd r0 3) (gd r0 4) (gd r0 5) (gd r0 6) (gd r0 7) (gd r0 8) (gd r0 9) (gd r0 10) (gd r0 11) (gd r0 12) (gd r0 13)) fun r13=>
 some [(gd r13 0),(gd r13 1),(gd r13 2),(gd r13 3),(gd r13 4),(gd r13 5),(gd r13 6),(gd r13 7),(gd r13 8),(gd r13 9),(gd r13 10),(gd r13 11),(gd r13 12)]) (bd (PV.bin .eql x0 (.int .i64 5)) fun v14=>PV.ite v14 (bd (PV.one x1) fun v15=>bd (bC (.int .i64 5) v15 (.str (bs [])) (gd r0 1) (gd r0 2) (gd r0 3) (gd r0 4) (gd r0 5) (gd r0 6) (gd r0 7) (gd r0 8) (gd r0 9) (gd r0 10) (gd r0 11) (gd r0 12) (gd r0 13)) fun r16=>
 some [(gd r16 0),(gd r16 1),(gd r16 2),(gd r16 3),(gd r16 4),(gd r16 5),(gd r16 6),(gd r16 7),(gd r16 8),(gd r16 9),(gd r16 10),(gd r16 11),(gd r16 12)]) (bd (PV.bin .eql x0 (.int .i64 6)) fun v17=>PV.ite v17 (bd (PV.at_ 4 true (gd r0 11) (gd r0 0)) fun v18=>bd (PV.at_ 4 true (gd r0 11) (gd r0 0)) fun v19=>bd (PV.cell v19 2) fun v20=>bd (PV.inb v20 x1) fun v21=>bd (PV.at_ 4 true (gd r0 11) (gd r0 0)) fun v22=>
 bd (PV.cell v22 2) fun v23=>bd (PV.at_ 3 true v23 x1) fun v24=>bd (fW v24 (gd r0 1) (gd r0 2) (gd r0 3) (gd r0 4) (gd r0 5) (gd r0 6) (gd r0 7) (gd r0 8) (gd r0 9) (gd r0 10) (gd r0 11) (gd r0 12) (gd r0 13)) fun r25=>some [(gd r25 0),(gd r25 1),(gd r25 2),(gd r25 3),(gd r25 4),(gd r25 5),(gd r25 6),(gd r25 7),(gd r25 8),(gd r25 9),(gd r25 10),(gd r25 11),(gd r25 12)])
 (bd (PV.bin .eql x0 (.int .i64 7)) fun v26=>PV.ite v26 (bd (aU (gd r0 1) (gd r0 2) (gd r0 3) (gd r0 4) (gd r0 5) (gd r0 6) (gd r0 7) (gd r0 8) (gd r0 9) (gd r0 10) (gd r0 11) (gd r0 12) (gd r0 13)) fun r27=>bd (PV.whole 3 (gd r27 0)) fun v28=>bd (PV.cell v28 0) fun v29=>bd (PV.cell v28 1) fun v30=>bd (PV.cell v28 2) fun v31=>bd (PV.at_ 4 true (gd r27 11) (gd r0 0)) fun v32=>
 bd (PV.at_ 4 true (gd r27 11) (gd r0 0)) fun v33=>bd (PV.cell v33 2) fun v34=>bd (PV.inb v34 x1) fun v35=>bd (PV.at_ 4 true (gd r27 11) (gd r0 0)) fun v36=>bd (PV.cell v36 2) fun v37=>bd (PV.at_ 4 true (gd r27 11) (gd r0 0)) fun v38=>bd (PV.cell v38 2) fun v39=>bd (PV.setAt 3 true v39 x1 (.agg [v29,v30,v31])) fun v40=>bd (PV.at_ 4 true (gd r27 11) (gd r0 0)) fun v41=>bd (PV.cell v41 2) fun v42=>
 bd (PV.setCell 4 (gd r27 11) (gd r0 0) 2 v40) fun v43=>some [(gd r27 1),(gd r27 2),(gd r27 3),(gd r27 4),(gd r27 5),(gd r27 6),(gd r27 7),(gd r27 8),(gd r27 9),(gd r27 10),v43,(gd r27 12),(gd r27 13)]) (bd (PV.bin .eql x0 (.int .i64 8)) fun v44=>PV.ite v44 (bd (aU (gd r0 1) (gd r0 2) (gd r0 3) (gd r0 4) (gd r0 5) (gd r0 6) (gd r0 7) (gd r0 8) (gd r0 9) (gd r0 10) (gd r0 11) (gd r0 12) (gd r0 13)) fun r45=>
 bd (PV.whole 3 (gd r45 0)) fun v46=>bd (PV.cell v46 0) fun v47=>bd (PV.cell v46 1) fun v48=>bd (PV.cell v46 2) fun v49=>bd (bC v47 v48 v49 (gd r45 1) (gd r45 2) (gd r45 3) (gd r45 4) (gd r45 5) (gd r45 6) (gd r45 7) (gd r45 8) (gd r45 9) (gd r45 10) (gd r45 11) (gd r45 12) (gd r45 13)) fun r50=>bd (bC v47 v48 v49 (gd r50 0) (gd r50 1) (gd r50 2) (gd r50 3) (gd r50 4) (gd r50 5) (gd r50 6) (gd r50 7) (gd r50 8) (gd r50 9) (gd r50 10) (gd r50 11) (gd r50 12)) fun r51=>
 some [(gd r51 0),(gd r51 1),(gd r51 2),(gd r51 3),(gd r51 4),(gd r51 5),(gd r51 6),(gd r51 7),(gd r51 8),(gd r51 9),(gd r51 10),(gd r51 11),(gd r51 12)]) (bd (PV.bin .eql x0 (.int .i64 9)) fun v52=>PV.ite v52 (bd (aU (gd r0 1) (gd r0 2) (gd r0 3) (gd r0 4) (gd r0 5) (gd r0 6) (gd r0 7) (gd r0 8) (gd r0 9) (gd r0 10) (gd r0 11) (gd r0 12) (gd r0 13)) fun r53=>some [(gd r53 1),(gd r53 2),(gd r53 3),(gd r53 4),(gd r53 5),(gd r53 6),(gd r53 7),(gd r53 8),(gd r53 9),(gd r53 10),(gd r53 11),(gd r53 12),(gd r53 13)])
 (bd (PV.bin .eql x0 (.int .i64 10)) fun v54=>PV.ite v54 (bd (aU (gd r0 1) (gd r0 2) (gd r0 3) (gd r0 4) (gd r0 5) (gd r0 6) (gd r0 7) (gd r0 8) (gd r0 9) (gd r0 10) (gd r0 11) (gd r0 12) (gd r0 13)) fun r55=>bd (PV.whole 3 (gd r55 0)) fun v56=>bd (PV.cell v56 0) fun v57=>bd (PV.cell v56 1) fun v58=>bd (PV.cell v56 2) fun v59=>bd (aU (gd r55 1) (gd r55 2) (gd r55 3) (gd r55 4) (gd r55 5) (gd r55 6) (gd r55 7) (gd r55 8) (gd r55 9) (gd r55 10) (gd r55 11) (gd r55 12) (gd r55 13)) fun r60=>
 bd (PV.whole 3 (gd r60 0)) fun v61=>bd (PV.cell v61 0) fun v62=>bd (PV.cell v61 1) fun v63=>bd (PV.cell v61 2) fun v64=>bd (bC v57 v58 v59 (gd r60 1) (gd r60 2) (gd r60 3) (gd r60 4) (gd r60 5) (gd r60 6) (gd r60 7) (gd r60 8) (gd r60 9) (gd r60 10) (gd r60 11) (gd r60 12) (gd r60 13)) fun r65=>bd (bC v62 v63 v64 (gd r65 0) (gd r65 1) (gd r65 2) (gd r65 3) (gd r65 4) (gd r65 5) (gd r65 6) (gd r65 7) (gd r65 8) (gd r65 9) (gd r65 10) (gd r65 11) (gd r65 12)) fun r66=>
 some [(gd r66 0),(gd r66 1),(gd r66 2),(gd r66 3),(gd r66 4),(gd r66 5),(gd r66 6),(gd r66 7),(gd r66 8),(gd r66 9),(gd r66 10),(gd r66 11),(gd r66 12)]) (bd (PV.bin .eql x0 (.int .i64 11)) fun v67=>PV.ite v67 (bd (aU (gd r0 1) (gd r0 2) (gd r0 3) (gd r0 4) (gd r0 5) (gd r0 6) (gd r0 7) (gd r0 8) (gd r0 9) (gd r0 10) (gd r0 11) (gd r0 12) (gd r0 13)) fun r68=>bd (PV.whole 3 (gd r68 0)) fun v69=>
 bd (PV.cell v69 0) fun v70=>bd (PV.cell v69 1) fun v71=>bd (PV.cell v69 2) fun v72=>bd (aU (gd r68 1) (gd r68 2) (gd r68 3) (gd r68 4) (gd r68 5) (gd r68 6) (gd r68 7) (gd r68 8) (gd r68 9) (gd r68 10) (gd r68 11) (gd r68 12) (gd r68 13)) fun r73=>bd (PV.whole 3 (gd r73 0)) fun v74=>bd (PV.cell v74 0) fun v75=>bd (PV.cell v74 1) fun v76=>bd (PV.cell v74 2) fun v77=>bd (lX x0 (.agg [v75,v76,v77]) (.agg [v70,v71,v72])) fun r78=>
 bd (PV.comp (hd r78) 0) fun v79=>bd (PV.comp (hd r78) 1) fun v80=>bd (PV.whole 3 v79) fun v81=>bd (PV.cell v81 0) fun v82=>bd (PV.cell v81 1) fun v83=>bd (PV.cell v81 2) fun v84=>bd (PV.one v80) fun v85=>bd (bC v82 v83 v84 (gd r73 1) (gd r73 2) (gd r73 3) (gd r73 4) (gd r73 5) (gd r73 6) (gd r73 7) (gd r73 8) (gd r73 9) v85 (gd r73 11) (gd r73 12) (gd r73 13)) fun r86=>
 some [(gd r86 0),(gd r86 1),(gd r86 2),(gd r86 3),(gd r86 4),(gd r86 5),(gd r86 6),(gd r86 7),(gd r86 8),(gd r86 9),(gd r86 10),(gd r86 11),(gd r86 12)]) (bd (PV.bin .eql x0 (.int .i64 12)) fun v87=>PV.ite v87 (bd (aU (gd r0 1) (gd r0 2) (gd r0 3) (gd r0 4) (gd r0 5) (gd r0 6) (gd r0 7) (gd r0 8) (gd r0 9) (gd r0 10) (gd r0 11) (gd r0 12) (gd r0 13)) fun r88=>bd (PV.whole 3 (gd r88 0)) fun v89=>
 bd (PV.cell v89 0) fun v90=>bd (PV.cell v89 1) fun v91=>bd (PV.cell v89 2) fun v92=>bd (aU (gd r88 1) (gd r88 2) (gd r88 3) (gd r88 4) (gd r88 5) (gd r88 6) (gd r88 7) (gd r88 8) (gd r88 9) (gd r88 10) (gd r88 11) (gd r88 12) (gd r88 13)) fun r93=>bd (PV.whole 3 (gd r93 0)) fun v94=>bd (PV.cell v94 0) fun v95=>bd (PV.cell v94 1) fun v96=>bd (PV.cell v94 2) fun v97=>bd (lX x0 (.agg [v95,v96,v97]) (.agg [v90,v91,v92])) fun r98=>
 bd (PV.comp (hd r98) 0) fun v99=>bd (PV.comp (hd r98) 1) fun v100=>bd (PV.whole 3 v99) fun v101=>bd (PV.cell v101 0) fun v102=>bd (PV.cell v101 1) fun v103=>bd (PV.cell v101 2) fun v104=>bd (PV.one v100) fun v105=>bd (bC v102 v103 v104 (gd r93 1) (gd r93 2) (gd r93 3) (gd r93 4) (gd r93 5) (gd r93 6) (gd r93 7) (gd r93 8) (gd r93 9) v105 (gd r93 11) (gd r93 12) (gd r93 13)) fun r106=>
 some [(gd r106 0),(gd r106 1),(gd r106 2),(gd r106 3),(gd r106 4),(gd r106 5),(gd r106 6),(gd r106 7),(gd r106 8),(gd r106 9),(gd r106 10),(gd r106 11),(gd r106 12)]) (bd (PV.bin .eql x0 (.int .i64 13)) fun v107=>PV.ite v107 (bd (aU (gd r0 1) (gd r0 2) (gd r0 3) (gd r0 4) (gd r0 5) (gd r0 6) (gd r0 7) (gd r0 8) (gd r0 9) (gd r0 10) (gd r0 11) (gd r0 12) (gd r0 13)) fun r108=>
 bd (PV.whole 3 (gd r108 0)) fun v109=>bd (PV.cell v109 0) fun v110=>bd (PV.cell v109 1) fun v111=>bd (PV.cell v109 2) fun v112=>bd (aU (gd r108 1) (gd r108 2) (gd r108 3) (gd r108 4) (gd r108 5) (gd r108 6) (gd r108 7) (gd r108 8) (gd r108 9) (gd r108 10) (gd r108 11) (gd r108 12) (gd r108 13)) fun r113=>bd (PV.whole 3 (gd r113 0)) fun v114=>bd (PV.cell v114 0) fun v115=>
 bd (PV.cell v114 1) fun v116=>bd (PV.cell v114 2) fun v117=>bd (lX x0 (.agg [v115,v116,v117]) (.agg [v110,v111,v112])) fun r118=>bd (PV.comp (hd r118) 0) fun v119=>bd (PV.comp (hd r118) 1) fun v120=>bd (PV.whole 3 v119) fun v121=>bd (PV.cell v121 0) fun v122=>bd (PV.cell v121 1) fun v123=>bd (PV.cell v121 2) fun v124=>bd (PV.one v120) fun v125=>bd (bC v122 v123 v124 (gd r113 1) (gd r113 2) (gd r113 3) (gd r113 4) (gd r113 5) (gd r113 6) (gd r113 7) (gd r113 8) (gd r113 9) v125 (gd r113 11) (gd r113 12) (gd r113 13)) fun r126=>
 some [(gd r126 0),(gd r126 1),(gd r126 2),(gd r126 3),(gd r126 4),(gd r126 5),(gd r126 6),(gd r126 7),(gd r126 8),(gd r126 9),(gd r126 10),(gd r126 11),(gd r126 12)]) (bd (PV.bin .eql x0 (.int .i64 14)) fun v127=>PV.ite v127 (bd (aU (gd r0 1) (gd r0 2) (gd r0 3) (gd r0 4) (gd r0 5) (gd r0 6) (gd r0 7) (gd r0 8) (gd r0 9) (gd r0 10) (gd r0 11) (gd r0 12) (gd r0 13)) fun r128=>
 bd (PV.whole 3 (gd r128 0)) fun v129=>bd (PV.cell v129 0) fun v130=>bd (PV.cell v129 1) fun v131=>bd (PV.cell v129 2) fun v132=>bd (aU (gd r128 1) (gd r128 2) (gd r128 3) (gd r128 4) (gd r128 5) (gd r128 6) (gd r128 7) (gd r128 8) (gd r128 9) (gd r128 10) (gd r128 11) (gd r128 12) (gd r128 13)) fun r133=>bd (PV.whole 3 (gd r133 0)) fun v134=>bd (PV.cell v134 0) fun v135=>
 bd (PV.cell v134 1) fun v136=>bd (PV.cell v134 2) fun v137=>bd (lX x0 (.agg [v135,v136,v137]) (.agg [v130,v131,v132])) fun r138=>bd (PV.comp (hd r138) 0) fun v139=>bd (PV.comp (hd r138) 1) fun v140=>bd (PV.whole 3 v139) fun v141=>bd (PV.cell v141 0) fun v142=>bd (PV.cell v141 1) fun v143=>bd (PV.cell v141 2) fun v144=>bd (PV.one v140) fun v145=>bd (bC v142 v143 v144 (gd r133 1) (gd r133 2) (gd r133 3) (gd r133 4) (gd r133 5) (gd r133 6) (gd r133 7) (gd r133 8) (gd r133 9) v145 (gd r133 11) (gd r133 12) (gd r133 13)) fun r146=>
 some [(gd r146 0),(gd r146 1),(gd r146 2),(gd r146 3),(gd r146 4),(gd r146 5),(gd r146 6),(gd r146 7),(gd r146 8),(gd r146 9),(gd r146 10),(gd r146 11),(gd r146 12)]) (bd (PV.bin .eql x0 (.int .i64 15)) fun v147=>PV.ite v147 (bd (aU (gd r0 1) (gd r0 2) (gd r0 3) (gd r0 4) (gd r0 5) (gd r0 6) (gd r0 7) (gd r0 8) (gd r0 9) (gd r0 10) (gd r0 11) (gd r0 12) (gd r0 13)) fun r148=>
 bd (PV.whole 3 (gd r148 0)) fun v149=>bd (PV.cell v149 0) fun v150=>bd (PV.cell v149 1) fun v151=>bd (PV.cell v149 2) fun v152=>bd (aU (gd r148 1) (gd r148 2) (gd r148 3) (gd r148 4) (gd r148 5) (gd r148 6) (gd r148 7) (gd r148 8) (gd r148 9) (gd r148 10) (gd r148 11) (gd r148 12) (gd r148 13)) fun r153=>bd (PV.whole 3 (gd r153 0)) fun v154=>bd (PV.cell v154 0) fun v155=>
 bd (PV.cell v154 1) fun v156=>bd (PV.cell v154 2) fun v157=>bd (lX x0 (.agg [v155,v156,v157]) (.agg [v150,v151,v152])) fun r158=>bd (PV.comp (hd r158) 0) fun v159=>bd (PV.comp (hd r158) 1) fun v160=>bd (PV.whole 3 v159) fun v161=>bd (PV.cell v161 0) fun v162=>bd (PV.cell v161 1) fun v163=>bd (PV.cell v161 2) fun v164=>bd (PV.one v160) fun v165=>bd (bC v162 v163 v164 (gd r153 1) (gd r153 2) (gd r153 3) (gd r153 4) (gd r153 5) (gd r153 6) (gd r153 7) (gd r153 8) (gd r153 9) v165 (gd r153 11) (gd r153 12) (gd r153 13)) fun r166=>
 some [(gd r166 0),(gd r166 1),(gd r166 2),(gd r166 3),(gd r166 4),(gd r166 5),(gd r166 6),(gd r166 7),(gd r166 8),(gd r166 9),(gd r166 10),(gd r166 11),(gd r166 12)]) (bd (PV.bin .eql x0 (.int .i64 16)) fun v167=>PV.ite v167 (bd (aU (gd r0 1) (gd r0 2) (gd r0 3) (gd r0 4) (gd r0 5) (gd r0 6) (gd r0 7) (gd r0 8) (gd r0 9) (gd r0 10) (gd r0 11) (gd r0 12) (gd r0 13)) fun r168=>
 bd (aA9 (gd r168 0)) fun r169=>bd (PV.comp (hd r169) 0) fun v170=>bd (PV.comp (hd r169) 1) fun v171=>bd (PV.whole 3 v170) fun v172=>bd (PV.cell v172 0) fun v173=>bd (PV.cell v172 1) fun v174=>bd (PV.cell v172 2) fun v175=>bd (PV.one v171) fun v176=>bd (bC v173 v174 v175 (gd r168 1) (gd r168 2) (gd r168 3) (gd r168 4) (gd r168 5) (gd r168 6) (gd r168 7) (gd r168 8) (gd r168 9) v176 (gd r168 11) (gd r168 12) (gd r168 13)) fun r177=>
 some [(gd r177 0),(gd r177 1),(gd r177 2),(gd r177 3),(gd r177 4),(gd r177 5),(gd r177 6),(gd r177 7),(gd r177 8),(gd r177 9),(gd r177 10),(gd r177 11),(gd r177 12)]) (bd (PV.bin .eql x0 (.int .i64 17)) fun v178=>PV.ite v178 (bd (PV.one x1) fun v179=>bd (PV.setCell 4 (gd r0 11) (gd r0 0) 1 v179) fun v180=>some [(gd r0 1),(gd r0 2),(gd r0 3),(gd r0 4),(gd r0 5),(gd r0 6),(gd r0 7),(gd r0 8),(gd r0 9),(gd r0 10),v180,(gd r0 12),(gd r0 13)])
 (bd (PV.bin .eql x0 (.int .i64 18)) fun v181=>PV.ite v181 (bd (aU (gd r0 1) (gd r0 2) (gd r0 3) (gd r0 4) (gd r0 5) (gd r0 6) (gd r0 7) (gd r0 8) (gd r0 9) (gd r0 10) (gd r0 11) (gd r0 12) (gd r0 13)) fun r182=>bd (PV.whole 3 (gd r182 0)) fun v183=>bd (PV.cell v183 0) fun v184=>bd (PV.cell v183 1) fun v185=>bd (PV.cell v183 2) fun v186=>bd (PV.bin .neq v184 (.int .i64 2)) fun v187=>
 PV.ite v187 (some [(gd r182 1),(gd r182 2),(gd r182 3),(gd r182 4),(gd r182 5),(gd r182 6),(gd r182 7),(gd r182 8),(gd r182 9),(.int .i64 1),(gd r182 11),(gd r182 12),(gd r182 13)]) (bd (PV.bin .eql v185 (.int .i64 1)) fun v188=>bd (PV.bin .eql x0 (.int .i64 18)) fun v189=>bd (PV.beq .eql v188 v189) fun v190=>PV.ite v190 (bd (PV.one x1) fun v191=>bd (PV.setCell 4 (gd r182 11) (gd r0 0) 1 v191) fun v192=>
 some [(gd r182 1),(gd r182 2),(gd r182 3),(gd r182 4),(gd r182 5),(gd r182 6),(gd r182 7),(gd r182 8),(gd r182 9),(gd r182 10),v192,(gd r182 12),(gd r182 13)]) (some [(gd r182 1),(gd r182 2),(gd r182 3),(gd r182 4),(gd r182 5),(gd r182 6),(gd r182 7),(gd r182 8),(gd r182 9),(gd r182 10),(gd r182 11),(gd r182 12),(gd r182 13)]))) (bd (PV.bin .eql x0 (.int .i64 19)) fun v193=>
 PV.ite v193 (bd (aU (gd r0 1) (gd r0 2) (gd r0 3) (gd r0 4) (gd r0 5) (gd r0 6) (gd r0 7) (gd r0 8) (gd r0 9) (gd r0 10) (gd r0 11) (gd r0 12) (gd r0 13)) fun r194=>bd (PV.whole 3 (gd r194 0)) fun v195=>bd (PV.cell v195 0) fun v196=>bd (PV.cell v195 1) fun v197=>bd (PV.cell v195 2) fun v198=>bd (PV.bin .neq v196 (.int .i64 2)) fun v199=>PV.ite v199 (some [(gd r194 1),(gd r194 2),(gd r194 3),(gd r194 4),(gd r194 5),(gd r194 6),(gd r194 7),(gd r194 8),(gd r194 9),(.int .i64 1),(gd r194 11),(gd r194 12),(gd r194 13)])
 (bd (PV.bin .eql v197 (.int .i64 1)) fun v200=>bd (PV.bin .eql x0 (.int .i64 18)) fun v201=>bd (PV.beq .eql v200 v201) fun v202=>PV.ite v202 (bd (PV.one x1) fun v203=>bd (PV.setCell 4 (gd r194 11) (gd r0 0) 1 v203) fun v204=>some [(gd r194 1),(gd r194 2),(gd r194 3),(gd r194 4),(gd r194 5),(gd r194 6),(gd r194 7),(gd r194 8),(gd r194 9),(gd r194 10),v204,(gd r194 12),(gd r194 13)])
 (some [(gd r194 1),(gd r194 2),(gd r194 3),(gd r194 4),(gd r194 5),(gd r194 6),(gd r194 7),(gd r194 8),(gd r194 9),(gd r194 10),(gd r194 11),(gd r194 12),(gd r194 13)]))) (bd (PV.bin .eql x0 (.int .i64 20)) fun v205=>PV.ite v205 (bd (PV.bin .eql (gd r0 3) (.int .i64 120)) fun v206=>PV.ite v206 (some [(gd r0 1),(gd r0 2),(gd r0 3),(gd r0 4),(gd r0 5),(gd r0 6),(gd r0 7),(gd r0 8),(gd r0 9),(.int .i64 7),(gd r0 11),(gd r0 12),(gd r0 13)])
 (bd (PV.len (gd r0 12)) fun v207=>bd (PV.one v207) fun v208=>bd (bC (.int .i64 4) v208 (.str (bs [])) (gd r0 1) (gd r0 2) (gd r0 3) (gd r0 4) (gd r0 5) (gd r0 6) (gd r0 7) (gd r0 8) (gd r0 9) (gd r0 10) (gd r0 11) (gd r0 12) (gd r0 13)) fun r209=>bd (PV.zeros 32 (.agg [(.int .i64 0),(.int .i64 0),(.str (bs []))]) x1) fun v210=>bd (PV.bin .leq x1 x1) fun v211=>PV.ite v211
 (bd (PV.zeros 32 (.agg [(.int .i64 0),(.int .i64 0),(.str (bs []))]) x1) fun v212=>bd (PV.cat 1 24 true (gd r209 11) (.lst [(.agg [v212])])) fun v213=>bd (PV.bin .add (gd r209 2) (.int .i64 1)) fun v214=>bd (PV.one v214) fun v215=>some [(gd r209 0),(gd r209 1),v215,(gd r209 3),(gd r209 4),(gd r209 5),(gd r209 6),(gd r209 7),(gd r209 8),(gd r209 9),(gd r209 10),v213,(gd r209 12)])
 (none))) (bd (PV.bin .eql x0 (.int .i64 21)) fun v216=>PV.ite v216 (bd (aU (gd r0 1) (gd r0 2) (gd r0 3) (gd r0 4) (gd r0 5) (gd r0 6) (gd r0 7) (gd r0 8) (gd r0 9) (gd r0 10) (gd r0 11) (gd r0 12) (gd r0 13)) fun r217=>bd (PV.whole 3 (gd r217 0)) fun v218=>bd (PV.cell v218 0) fun v219=>bd (PV.cell v218 1) fun v220=>bd (PV.cell v218 2) fun v221=>bd (PV.bin .neq v219 (.int .i64 4)) fun v222=>
 PV.ite v222 (some [(gd r217 1),(gd r217 2),(gd r217 3),(gd r217 4),(gd r217 5),(gd r217 6),(gd r217 7),(gd r217 8),(gd r217 9),(.int .i64 1),(gd r217 11),(gd r217 12),(gd r217 13)]) (bd (PV.inb (gd r217 12) v220) fun v223=>bd (PV.at_ 1 true (gd r217 12) v220) fun v224=>bd (PV.at_ 1 true (gd r217 12) v220) fun v225=>bd (PV.cell v225 0) fun v226=>bd (PV.len v226) fun v227=>bd (PV.bin .geq x1 v227) fun v228=>
 PV.ite v228 (some [(gd r217 1),(gd r217 2),(gd r217 3),(gd r217 4),(gd r217 5),(gd r217 6),(gd r217 7),(gd r217 8),(gd r217 9),(.int .i64 4),(gd r217 11),(gd r217 12),(gd r217 13)]) (bd (PV.inb (gd r217 12) v220) fun v229=>bd (PV.at_ 1 true (gd r217 12) v220) fun v230=>bd (PV.at_ 1 true (gd r217 12) v220) fun v231=>bd (PV.cell v231 0) fun v232=>bd (PV.inb v232 x1) fun v233=>bd (PV.at_ 1 true (gd r217 12) v220) fun v234=>
 bd (PV.cell v234 0) fun v235=>bd (PV.at_ 3 true v235 x1) fun v236=>bd (fW v236 (gd r217 1) (gd r217 2) (gd r217 3) (gd r217 4) (gd r217 5) (gd r217 6) (gd r217 7) (gd r217 8) (gd r217 9) (gd r217 10) (gd r217 11) (gd r217 12) (gd r217 13)) fun r237=>some [(gd r237 0),(gd r237 1),(gd r237 2),(gd r237 3),(gd r237 4),(gd r237 5),(gd r237 6),(gd r237 7),(gd r237 8),(gd r237 9),(gd r237 10),(gd r237 11),(gd r237 12)])))
 (bd (PV.bin .eql x0 (.int .i64 22)) fun v238=>PV.ite v238 (bd (aU (gd r0 1) (gd r0 2) (gd r0 3) (gd r0 4) (gd r0 5) (gd r0 6) (gd r0 7) (gd r0 8) (gd r0 9) (gd r0 10) (gd r0 11) (gd r0 12) (gd r0 13)) fun r239=>bd (PV.whole 3 (gd r239 0)) fun v240=>bd (PV.cell v240 0) fun v241=>bd (PV.cell v240 1) fun v242=>bd (PV.cell v240 2) fun v243=>bd (aU (gd r239 1) (gd r239 2) (gd r239 3) (gd r239 4) (gd r239 5) (gd r239 6) (gd r239 7) (gd r239 8) (gd r239 9) (gd r239 10) (gd r239 11) (gd r239 12) (gd r239 13)) fun r244=>
 bd (PV.whole 3 (gd r244 0)) fun v245=>bd (PV.cell v245 0) fun v246=>bd (PV.cell v245 1) fun v247=>bd (PV.cell v245 2) fun v248=>bd (PV.bin .neq v246 (.int .i64 4)) fun v249=>PV.ite v249 (some [(gd r244 1),(gd r244 2),(gd r244 3),(gd r244 4),(gd r244 5),(gd r244 6),(gd r244 7),(gd r244 8),(gd r244 9),(.int .i64 1),(gd r244 11),(gd r244 12),(gd r244 13)]) (bd (PV.inb (gd r244 12) v247) fun v250=>
 bd (PV.at_ 1 true (gd r244 12) v247) fun v251=>bd (PV.at_ 1 true (gd r244 12) v247) fun v252=>bd (PV.cell v252 0) fun v253=>bd (PV.len v253) fun v254=>bd (PV.bin .geq x1 v254) fun v255=>PV.ite v255 (some [(gd r244 1),(gd r244 2),(gd r244 3),(gd r244 4),(gd r244 5),(gd r244 6),(gd r244 7),(gd r244 8),(gd r244 9),(.int .i64 4),(gd r244 11),(gd r244 12),(gd r244 13)]) (bd (PV.inb (gd r244 12) v247) fun v256=>
 bd (PV.at_ 1 true (gd r244 12) v247) fun v257=>bd (PV.at_ 1 true (gd r244 12) v247) fun v258=>bd (PV.cell v258 0) fun v259=>bd (PV.inb v259 x1) fun v260=>bd (PV.at_ 1 true (gd r244 12) v247) fun v261=>bd (PV.cell v261 0) fun v262=>bd (PV.at_ 1 true (gd r244 12) v247) fun v263=>bd (PV.cell v263 0) fun v264=>bd (PV.setAt 3 true v264 x1 (.agg [v241,v242,v243])) fun v265=>bd (PV.at_ 1 true (gd r244 12) v247) fun v266=>
 bd (PV.cell v266 0) fun v267=>bd (PV.setCell 1 (gd r244 12) v247 0 v265) fun v268=>some [(gd r244 1),(gd r244 2),(gd r244 3),(gd r244 4),(gd r244 5),(gd r244 6),(gd r244 7),(gd r244 8),(gd r244 9),(gd r244 10),(gd r244 11),v268,(gd r244 13)]))) (bd (PV.bin .eql x0 (.int .i64 23)) fun v269=>PV.ite v269 (bd (PV.at_ 4 true (gd r0 11) (gd r0 0)) fun v270=>bd (PV.at_ 4 true (gd r0 11) (gd r0 0)) fun v271=>
 bd (PV.at_ 4 true (gd r0 11) (gd r0 0)) fun v272=>bd (PV.cell v272 3) fun v273=>bd (PV.len v273) fun v274=>bd (PV.bin .sub v274 (.int .i64 1)) fun v275=>bd (PV.bin .sub v275 x1) fun v276=>bd (PV.at_ 4 true (gd r0 11) (gd r0 0)) fun v277=>bd (PV.cell v277 3) fun v278=>bd (PV.inb v278 v276) fun v279=>bd (PV.at_ 4 true (gd r0 11) (gd r0 0)) fun v280=>bd (PV.cell v280 3) fun v281=>bd (PV.at_ 3 true v281 v276) fun v282=>
 bd (PV.whole 3 v282) fun v283=>bd (PV.cell v283 0) fun v284=>bd (PV.cell v283 1) fun v285=>bd (PV.cell v283 2) fun v286=>bd (PV.bin .neq v284 (.int .i64 5)) fun v287=>PV.ite v287 (some [(gd r0 1),(gd r0 2),(gd r0 3),(gd r0 4),(gd r0 5),(gd r0 6),(gd r0 7),(gd r0 8),(gd r0 9),(.int .i64 1),(gd r0 11),(gd r0 12),(gd r0 13)]) (bd (PV.at_ 3 true (gd r0 2) v285) fun v288=>bd (PV.cell v288 0) fun v289=>
 bd (PV.bin .neq v289 x1) fun v290=>PV.ite v290 (some [(gd r0 1),(gd r0 2),(gd r0 3),(gd r0 4),(gd r0 5),(gd r0 6),(gd r0 7),(gd r0 8),(gd r0 9),(.int .i64 5),(gd r0 11),(gd r0 12),(gd r0 13)]) (bd (kT v285 (.bool true) (gd r0 1) (gd r0 2) (gd r0 3) (gd r0 4) (gd r0 5) (gd r0 6) (gd r0 7) (gd r0 8) (gd r0 9) (gd r0 10) (gd r0 11) (gd r0 12) (gd r0 13)) fun r291=>some [(gd r291 0),(gd r291 1),(gd r291 2),(gd r291 3),(gd r291 4),(gd r291 5),(gd r291 6),(gd r291 7),(gd r291 8),(gd r291 9),(gd r291 10),(gd r291 11),(gd r291 12)])))
 (bd (PV.bin .eql x0 (.int .i64 24)) fun v292=>PV.ite v292 (bd (kT x1 (.bool false) (gd r0 1) (gd r0 2) (gd r0 3) (gd r0 4) (gd r0 5) (gd r0 6) (gd r0 7) (gd r0 8) (gd r0 9) (gd r0 10) (gd r0 11) (gd r0 12) (gd r0 13)) fun r293=>some [(gd r293 0),(gd r293 1),(gd r293 2),(gd r293 3),(gd r293 4),(gd r293 5),(gd r293 6),(gd r293 7),(gd r293 8),(gd r293 9),(gd r293 10),(gd r293 11),(gd r293 12)])
 (bd (PV.bin .eql x0 (.int .i64 25)) fun v294=>PV.ite v294 (bd (aU (gd r0 1) (gd r0 2) (gd r0 3) (gd r0 4) (gd r0 5) (gd r0 6) (gd r0 7) (gd r0 8) (gd r0 9) (gd r0 10) (gd r0 11) (gd r0 12) (gd r0 13)) fun r295=>bd (PV.whole 3 (gd r295 0)) fun v296=>bd (PV.cell v296 0) fun v297=>bd (PV.cell v296 1) fun v298=>bd (PV.cell v296 2) fun v299=>bd (PV.len (gd r295 11)) fun v300=>
 bd (PV.bin .sub v300 (.int .i64 1)) fun v301=>bd (PV.cut 4 true (gd r295 11) (.int .i64 0) v301) fun v302=>bd (PV.cut 4 true (gd r295 11) (.int .i64 0) v301) fun v303=>bd (PV.len v303) fun v304=>bd (PV.bin .eql v304 (.int .i64 0)) fun v305=>PV.ite v305 (some [(gd r295 1),(gd r295 2),(gd r295 3),(.int .i64 1),(gd r295 5),v297,v298,v299,(gd r295 9),(gd r295 10),v303,(gd r295 12),(gd r295 13)])
 (bd (bC v297 v298 v299 (gd r295 1) (gd r295 2) (gd r295 3) (gd r295 4) (gd r295 5) (gd r295 6) (gd r295 7) (gd r295 8) (gd r295 9) (gd r295 10) v303 (gd r295 12) (gd r295 13)) fun r306=>some [(gd r306 0),(gd r306 1),(gd r306 2),(gd r306 3),(gd r306 4),(gd r306 5),(gd r306 6),(gd r306 7),(gd r306 8),(gd r306 9),(gd r306 10),(gd r306 11),(gd r306 12)])) (bd (PV.bin .eql x0 (.int .i64 26)) fun v307=>
 PV.ite v307 (bd (aU (gd r0 1) (gd r0 2) (gd r0 3) (gd r0 4) (gd r0 5) (gd r0 6) (gd r0 7) (gd r0 8) (gd r0 9) (gd r0 10) (gd r0 11) (gd r0 12) (gd r0 13)) fun r308=>bd (PV.whole 3 (gd r308 0)) fun v309=>bd (PV.cell v309 0) fun v310=>bd (PV.cell v309 1) fun v311=>bd (PV.cell v309 2) fun v312=>bd (PV.len (gd r308 13)) fun v313=>bd (PV.bin .eql v313 (.int .i64 200)) fun v314=>
 PV.ite v314 (some [(gd r308 1),(gd r308 2),(gd r308 3),(gd r308 4),(gd r308 5),(gd r308 6),(gd r308 7),(gd r308 8),(gd r308 9),(.int .i64 8),(gd r308 11),(gd r308 12),(gd r308 13)]) (bd (sB (.agg [v310,v311,v312]) (gd r308 12)) fun r315=>PV.guardFlat (hd r315) (bd (PV.cat 1 16 false (.lst []) (.lst [(hd r315)])) fun v316=>bd (PV.cat 1 16 false (gd r308 13) v316) fun v317=>
 some [(gd r308 1),(gd r308 2),(gd r308 3),(gd r308 4),(gd r308 5),(gd r308 6),(gd r308 7),(gd r308 8),(gd r308 9),(gd r308 10),(gd r308 11),(gd r308 12),v317]))) (some [(gd r0 1),(gd r0 2),(gd r0 3),(gd r0 4),(gd r0 5),(gd r0 6),(gd r0 7),(gd r0 8),(gd r0 9),(gd r0 10),(gd r0 11),(gd r0 12),(gd r0 13)])))))))))))))))))))))))))):=bK _ _ _ _ (by kernel_rfl)
theorem aFV (x0 : PV) : pE x0=bd (PV.one x0) fun v0=>some [(.agg [(.int .i64 1),v0,(.str (bs []))])]:=aK _ _ _ (by kernel_rfl)
theorem aEB (x0 : PV) : fP x0=PV.ite x0 (some [(.agg [(.int .i64 2),(.int .i64 1),(.str (bs []))])]) (some [(.agg [(.int .i64 2),(.int .i64 0),(.str (bs []))])]):=aK _ _ _ (by kernel_rfl)
theorem aGN (x0 x1 x2 : PV) : lX x0 x1 x2=bd (PV.whole 3 x1) fun v0=>bd (PV.cell v0 0) fun v1=>bd (PV.cell v0 1) fun v2=>bd (PV.cell v0 2) fun v3=>bd (PV.whole 3 x2) fun v4=>bd (PV.cell v4 0) fun v5=>bd (PV.cell v4 1) fun v6=>bd (PV.cell v4 2) fun v7=>bd (PV.bin .eql x0 (.int .i64 11)) fun v8=>PV.ite v8 (bd (aBa (.agg [v1,v2,v3]) (.agg [v5,v6,v7])) fun r9=>
 bd (PV.comp (hd r9) 0) fun v10=>bd (PV.comp (hd r9) 1) fun v11=>bd (PV.whole 3 v10) fun v12=>bd (PV.cell v12 0) fun v13=>bd (PV.cell v12 1) fun v14=>bd (PV.cell v12 2) fun v15=>some [(.tup [(.agg [v13,v14,v15]),v11])]) (bd (PV.bin .eql x0 (.int .i64 12)) fun v16=>PV.ite v16 (bd (aBb (.agg [v1,v2,v3]) (.agg [v5,v6,v7])) fun r17=>bd (PV.comp (hd r17) 0) fun v18=>bd (PV.comp (hd r17) 1) fun v19=>
 bd (PV.whole 3 v18) fun v20=>bd (PV.cell v20 0) fun v21=>bd (PV.cell v20 1) fun v22=>bd (PV.cell v20 2) fun v23=>some [(.tup [(.agg [v21,v22,v23]),v19])]) (bd (PV.bin .eql x0 (.int .i64 13)) fun v24=>PV.ite v24 (bd (aBc (.agg [v1,v2,v3]) (.agg [v5,v6,v7])) fun r25=>bd (PV.comp (hd r25) 0) fun v26=>bd (PV.comp (hd r25) 1) fun v27=>bd (PV.whole 3 v26) fun v28=>bd (PV.cell v28 0) fun v29=>
 bd (PV.cell v28 1) fun v30=>bd (PV.cell v28 2) fun v31=>some [(.tup [(.agg [v29,v30,v31]),v27])]) (bd (PV.bin .eql x0 (.int .i64 14)) fun v32=>PV.ite v32 (bd (yS (.agg [v1,v2,v3]) (.agg [v5,v6,v7])) fun r33=>bd (PV.comp (hd r33) 0) fun v34=>bd (PV.comp (hd r33) 1) fun v35=>bd (PV.whole 3 v34) fun v36=>bd (PV.cell v36 0) fun v37=>bd (PV.cell v36 1) fun v38=>bd (PV.cell v36 2) fun v39=>
 some [(.tup [(.agg [v37,v38,v39]),v35])]) (bd (yV (.agg [v1,v2,v3]) (.agg [v5,v6,v7])) fun r40=>bd (PV.whole 3 (hd r40)) fun v41=>bd (PV.cell v41 0) fun v42=>bd (PV.cell v41 1) fun v43=>bd (PV.cell v41 2) fun v44=>some [(.tup [(.agg [v42,v43,v44]),(.int .i64 0)])])))):=aK _ _ _ (by kernel_rfl)
theorem aGO (x0 : PV) : aA9 x0=bd (PV.whole 3 x0) fun v0=>bd (PV.cell v0 0) fun v1=>bd (PV.cell v0 1) fun v2=>bd (PV.cell v0 2) fun v3=>bd (PV.bin .neq v1 (.int .i64 2)) fun v4=>PV.ite v4 (some [(.tup [(.agg [(.int .i64 0),(.int .i64 0),(.str (bs []))]),(.int .i64 1)])]) (bd (PV.bin .neq v2 (.int .i64 1)) fun v5=>bd (fP v5) fun r6=>bd (PV.whole 3 (hd r6)) fun v7=>
 bd (PV.cell v7 0) fun v8=>bd (PV.cell v7 1) fun v9=>bd (PV.cell v7 2) fun v10=>some [(.tup [(.agg [v8,v9,v10]),(.int .i64 0)])]):=aK _ _ _ (by kernel_rfl)
theorem aCr (x0 x1 : PV) : sB x0 x1=bd (PV.whole 3 x0) fun v0=>bd (PV.cell v0 0) fun v1=>bd (PV.cell v0 1) fun v2=>bd (PV.cell v0 2) fun v3=>bd (PV.bin .eql v1 (.int .i64 0)) fun v4=>PV.ite v4 (some [(.str (bs [110,105,108]))]) (bd (PV.bin .eql v1 (.int .i64 1)) fun v5=>PV.ite v5 (bd (eA v2) fun r6=>some [(hd r6)]) (bd (PV.bin .eql v1 (.int .i64 2)) fun v7=>
 PV.ite v7 (bd (PV.bin .eql v2 (.int .i64 1)) fun v8=>PV.ite v8 (some [(.str (bs [116,114,117,101]))]) (some [(.str (bs [102,97,108,115,101]))])) (bd (PV.bin .eql v1 (.int .i64 3)) fun v9=>PV.ite v9 (some [v3]) (bd (PV.bin .eql v1 (.int .i64 5)) fun v10=>PV.ite v10 (bd (eA v2) fun r11=>bd (PV.bin .add (.str (bs [102,117,110])) (hd r11)) fun v12=>some [v12]) (bd (PV.bin .eql v1 (.int .i64 4)) fun v13=>
 PV.ite v13 (bd (PV.len x1) fun v14=>bd (PV.bin .sub v14 (.int .i64 1)) fun v15=>bd (aP v2 (.int .i64 0) v15) fun r16=>PV.ite (hd r16) (bd (PV.at_ 1 true x1 v2) fun v17=>bd (PV.cell v17 0) fun v18=>bd (PV.len v18) fun v19=>bd (eA v19) fun r20=>bd (PV.bin .add (.str (bs [123])) (hd r20)) fun v21=>bd (PV.bin .add v21 (.str (bs [125]))) fun v22=>some [v22]) (some [(.str (bs []))]))
 (some [(.str (bs []))])))))):=aK _ _ _ (by kernel_rfl)
theorem aGP (x0 x1 : PV) : aBa x0 x1=bd (PV.whole 3 x0) fun v0=>bd (PV.cell v0 0) fun v1=>bd (PV.cell v0 1) fun v2=>bd (PV.cell v0 2) fun v3=>bd (PV.whole 3 x1) fun v4=>bd (PV.cell v4 0) fun v5=>bd (PV.cell v4 1) fun v6=>bd (PV.cell v4 2) fun v7=>bd (PV.bin .eql v1 (.int .i64 3)) fun v8=>PV.ite v8 (bd (PV.bin .eql v5 (.int .i64 3)) fun v9=>PV.ite v9 (aAF v1 v2 v3 v5 v6 v7 (.int .i64 0) (.int .i64 0) (.str (bs [])))
 (bd (gI (.int .i64 11) (.agg [v1,v2,v3]) (.agg [v5,v6,v7])) fun r10=>bd (PV.comp (hd r10) 0) fun v11=>bd (PV.comp (hd r10) 1) fun v12=>bd (PV.whole 3 v11) fun v13=>bd (PV.cell v13 0) fun v14=>bd (PV.cell v13 1) fun v15=>bd (PV.cell v13 2) fun v16=>some [(.tup [(.agg [v14,v15,v16]),v12])])) (bd (gI (.int .i64 11) (.agg [v1,v2,v3]) (.agg [v5,v6,v7])) fun r17=>
 bd (PV.comp (hd r17) 0) fun v18=>bd (PV.comp (hd r17) 1) fun v19=>bd (PV.whole 3 v18) fun v20=>bd (PV.cell v20 0) fun v21=>bd (PV.cell v20 1) fun v22=>bd (PV.cell v20 2) fun v23=>some [(.tup [(.agg [v21,v22,v23]),v19])]):=aK _ _ _ (by kernel_rfl)
theorem aDr (x0 x1 x2 x3 x4 x5 x6 x7 x8 : PV) : aAF x0 x1 x2 x3 x4 x5 x6 x7 x8=bd (PV.slen x2) fun v0=>bd (PV.slen x5) fun v1=>bd (PV.bin .sub (.int .i64 60) v1) fun v2=>bd (PV.bin .gtr v0 v2) fun v3=>PV.ite v3 (some [(.tup [(.agg [(.int .i64 0),(.int .i64 0),(.str (bs []))]),(.int .i64 3)])]) (bd (PV.bin .add x2 x5) fun v4=>bd (PV.one v4) fun v5=>some [(.tup [(.agg [(.int .i64 3),(.int .i64 0),v5]),(.int .i64 0)])]):=aZ _ _ _ _ _ _ _ _ (by kernel_rfl)
theorem aGQ (x0 x1 : PV) : aBb x0 x1=bd (PV.whole 3 x0) fun v0=>bd (PV.cell v0 0) fun v1=>bd (PV.cell v0 1) fun v2=>bd (PV.cell v0 2) fun v3=>bd (PV.whole 3 x1) fun v4=>bd (PV.cell v4 0) fun v5=>bd (PV.cell v4 1) fun v6=>bd (PV.cell v4 2) fun v7=>bd (gI (.int .i64 12) (.agg [v1,v2,v3]) (.agg [v5,v6,v7])) fun r8=>bd (PV.comp (hd r8) 0) fun v9=>
 bd (PV.comp (hd r8) 1) fun v10=>bd (PV.whole 3 v9) fun v11=>bd (PV.cell v11 0) fun v12=>bd (PV.cell v11 1) fun v13=>bd (PV.cell v11 2) fun v14=>some [(.tup [(.agg [v12,v13,v14]),v10])]:=aK _ _ _ (by kernel_rfl)
theorem aGR (x0 x1 : PV) : aBc x0 x1=bd (PV.whole 3 x0) fun v0=>bd (PV.cell v0 0) fun v1=>bd (PV.cell v0 1) fun v2=>bd (PV.cell v0 2) fun v3=>bd (PV.whole 3 x1) fun v4=>bd (PV.cell v4 0) fun v5=>bd (PV.cell v4 1) fun v6=>bd (PV.cell v4 2) fun v7=>bd (gI (.int .i64 13) (.agg [v1,v2,v3]) (.agg [v5,v6,v7])) fun r8=>bd (PV.comp (hd r8) 0) fun v9=>
 bd (PV.comp (hd r8) 1) fun v10=>bd (PV.whole 3 v9) fun v11=>bd (PV.cell v11 0) fun v12=>bd (PV.cell v11 1) fun v13=>bd (PV.cell v11 2) fun v14=>some [(.tup [(.agg [v12,v13,v14]),v10])]:=aK _ _ _ (by kernel_rfl)
theorem aFW (x0 x1 : PV) : yS x0 x1=bd (PV.whole 3 x0) fun v0=>bd (PV.cell v0 0) fun v1=>bd (PV.cell v0 1) fun v2=>bd (PV.cell v0 2) fun v3=>bd (PV.whole 3 x1) fun v4=>bd (PV.cell v4 0) fun v5=>bd (PV.cell v4 1) fun v6=>bd (PV.cell v4 2) fun v7=>bd (PV.bin .eql v1 (.int .i64 3)) fun v8=>PV.ite v8 (bd (PV.bin .eql v5 (.int .i64 3)) fun v9=>PV.ite v9 (yT v1 v2 v3 v5 v6 v7 (.int .i64 0) (.int .i64 0) (.str (bs [])))
 (nG v1 v2 v3 v5 v6 v7 (.int .i64 0) (.int .i64 0) (.str (bs [])))) (nG v1 v2 v3 v5 v6 v7 (.int .i64 0) (.int .i64 0) (.str (bs []))):=aK _ _ _ (by kernel_rfl)
theorem aCs (x0 x1 x2 x3 x4 x5 x6 x7 x8 : PV) : yT x0 x1 x2 x3 x4 x5 x6 x7 x8=bd (PV.bin .lss x2 x5) fun v0=>bd (fP v0) fun r1=>bd (PV.whole 3 (hd r1)) fun v2=>bd (PV.cell v2 0) fun v3=>bd (PV.cell v2 1) fun v4=>bd (PV.cell v2 2) fun v5=>some [(.tup [(.agg [v3,v4,v5]),(.int .i64 0)])]:=aZ _ _ _ _ _ _ _ _ (by kernel_rfl)
theorem aCt (x0 x1 x2 x3 x4 x5 x6 x7 x8 : PV) : nG x0 x1 x2 x3 x4 x5 x6 x7 x8=bd (PV.bin .eql x0 (.int .i64 1)) fun v0=>PV.ite v0 (bd (PV.bin .eql x3 (.int .i64 1)) fun v1=>PV.ite v1 (yU x0 x1 x2 x3 x4 x5 x6 x7 x8) (some [(.tup [(.agg [(.int .i64 0),(.int .i64 0),(.str (bs []))]),(.int .i64 1)])])) (some [(.tup [(.agg [(.int .i64 0),(.int .i64 0),(.str (bs []))]),(.int .i64 1)])]):=aZ _ _ _ _ _ _ _ _ (by kernel_rfl)
theorem aCu (x0 x1 x2 x3 x4 x5 x6 x7 x8 : PV) : yU x0 x1 x2 x3 x4 x5 x6 x7 x8=bd (PV.bin .lss x1 x4) fun v0=>bd (fP v0) fun r1=>bd (PV.whole 3 (hd r1)) fun v2=>bd (PV.cell v2 0) fun v3=>bd (PV.cell v2 1) fun v4=>bd (PV.cell v2 2) fun v5=>some [(.tup [(.agg [v3,v4,v5]),(.int .i64 0)])]:=aZ _ _ _ _ _ _ _ _ (by kernel_rfl)
theorem aFX (x0 x1 : PV) : yV x0 x1=bd (PV.whole 3 x0) fun v0=>bd (PV.cell v0 0) fun v1=>bd (PV.cell v0 1) fun v2=>bd (PV.cell v0 2) fun v3=>bd (PV.whole 3 x1) fun v4=>bd (PV.cell v4 0) fun v5=>bd (PV.cell v4 1) fun v6=>bd (PV.cell v4 2) fun v7=>bd (PV.bin .eql v1 v5) fun v8=>PV.ite v8 (bd (PV.bin .eql v2 v6) fun v9=>PV.ite v9 (bd (PV.bin .eql v3 v7) fun v10=>
 bd (fP v10) fun r11=>bd (PV.whole 3 (hd r11)) fun v12=>bd (PV.cell v12 0) fun v13=>bd (PV.cell v12 1) fun v14=>bd (PV.cell v12 2) fun v15=>some [(.agg [v13,v14,v15])]) (bd (fP (.bool false)) fun r16=>bd (PV.whole 3 (hd r16)) fun v17=>bd (PV.cell v17 0) fun v18=>bd (PV.cell v17 1) fun v19=>bd (PV.cell v17 2) fun v20=>some [(.agg [v18,v19,v20])])) (bd (fP (.bool false)) fun r21=>
 bd (PV.whole 3 (hd r21)) fun v22=>bd (PV.cell v22 0) fun v23=>bd (PV.cell v22 1) fun v24=>bd (PV.cell v22 2) fun v25=>some [(.agg [v23,v24,v25])]):=aK _ _ _ (by kernel_rfl)
theorem nM (x0 : PV) : eA x0=bd (PV.bin .lss x0 (.int .i64 0)) fun v0=>PV.ite v0 (bd (PV.bin .lss x0 (.int .i64 (-9))) fun v1=>PV.ite v1 (bd (PV.bin .quo x0 (.int .i64 10)) fun v2=>bd (PV.neg v2) fun v3=>bd (eA v3) fun r4=>bd (PV.bin .add (.str (bs [45])) (hd r4)) fun v5=>bd (PV.bin .rem x0 (.int .i64 10)) fun v6=>bd (PV.neg v6) fun v7=>bd (eA v7) fun r8=>
 bd (PV.bin .add v5 (hd r8)) fun v9=>some [v9]) (bd (PV.neg x0) fun v10=>bd (eA v10) fun r11=>bd (PV.bin .add (.str (bs [45])) (hd r11)) fun v12=>some [v12])) (bd (PV.bin .lss x0 (.int .i64 10)) fun v13=>PV.ite v13 (bd (PV.bin .add (.int .i64 48) x0) fun v14=>bd (PV.conv .u8 v14) fun v15=>bd (PV.cat 1 1 false (.lst []) (.lst [v15])) fun v16=>bd (PV.toStr v16) fun v17=>some [v17])
 (bd (PV.bin .quo x0 (.int .i64 10)) fun v18=>bd (eA v18) fun r19=>bd (PV.bin .rem x0 (.int .i64 10)) fun v20=>bd (PV.bin .add (.int .i64 48) v20) fun v21=>bd (PV.conv .u8 v21) fun v22=>bd (PV.cat 1 1 false (.lst []) (.lst [v22])) fun v23=>bd (PV.toStr v23) fun v24=>bd (PV.bin .add (hd r19) v24) fun v25=>some [v25])):=aK _ _ _ (by kernel_rfl)
theorem aBv (x0 x1 x2 : PV) : gI x0 x1 x2=bd (PV.whole 3 x1) fun v0=>bd (PV.cell v0 0) fun v1=>bd (PV.cell v0 1) fun v2=>bd (PV.cell v0 2) fun v3=>bd (PV.whole 3 x2) fun v4=>bd (PV.cell v4 0) fun v5=>bd (PV.cell v4 1) fun v6=>bd (PV.cell v4 2) fun v7=>bd (PV.bin .neq v1 (.int .i64 1)) fun v8=>PV.ite v8 (some [(.tup [(.agg [(.int .i64 0),(.int .i64 0),(.str (bs []))]),(.int .i64 1)])])
 (bd (PV.bin .neq v5 (.int .i64 1)) fun v9=>PV.ite v9 (some [(.tup [(.agg [(.int .i64 0),(.int .i64 0),(.str (bs []))]),(.int .i64 1)])]) (bd (uD x0 v2 v6) fun r10=>bd (PV.comp (hd r10) 0) fun v11=>bd (PV.comp (hd r10) 1) fun v12=>bd (PV.bin .neq v12 (.int .i64 0)) fun v13=>PV.ite v13 (some [(.tup [(.agg [(.int .i64 0),(.int .i64 0),(.str (bs []))]),v12])]) (bd (pE v11) fun r14=>
 bd (PV.whole 3 (hd r14)) fun v15=>bd (PV.cell v15 0) fun v16=>bd (PV.cell v15 1) fun v17=>bd (PV.cell v15 2) fun v18=>some [(.tup [(.agg [v16,v17,v18]),(.int .i64 0)])]))):=aK _ _ _ (by kernel_rfl)
theorem aDs (x0 x1 x2 : PV) : uD x0 x1 x2=bd (fT x1) fun r0=>bd (PV.not (hd r0)) fun v1=>PV.ite v1 (some [(.tup [(.int .i64 0),(.int .i64 2)])]) (bd (fT x2) fun r2=>bd (PV.not (hd r2)) fun v3=>PV.ite v3 (some [(.tup [(.int .i64 0),(.int .i64 2)])]) (bd (PV.bin .add x1 x2) fun v4=>bd (PV.bin .eql x0 (.int .i64 12)) fun v5=>PV.ite v5 (bd (PV.bin .sub x1 x2) fun v6=>
 bd (fT v6) fun r7=>bd (PV.not (hd r7)) fun v8=>PV.ite v8 (some [(.tup [(.int .i64 0),(.int .i64 2)])]) (some [(.tup [v6,(.int .i64 0)])])) (bd (PV.bin .eql x0 (.int .i64 13)) fun v9=>PV.ite v9 (bd (PV.bin .mul x1 x2) fun v10=>bd (fT v10) fun r11=>bd (PV.not (hd r11)) fun v12=>PV.ite v12 (some [(.tup [(.int .i64 0),(.int .i64 2)])]) (some [(.tup [v10,(.int .i64 0)])]))
 (bd (fT v4) fun r13=>bd (PV.not (hd r13)) fun v14=>PV.ite v14 (some [(.tup [(.int .i64 0),(.int .i64 2)])]) (some [(.tup [v4,(.int .i64 0)])]))))):=aK _ _ _ (by kernel_rfl)
theorem aGS (x0 x1 : PV) : aBd x0 x1=bd (PV.whole 2 x0) fun v0=>bd (PV.cell v0 0) fun v1=>bd (PV.cell v0 1) fun v2=>bd (yW (.agg [v1,v2])) fun r3=>bd (PV.not (hd r3)) fun v4=>PV.ite v4 (some [(.int .i64 0),(.int .i64 0),(.int .i64 0),(.int .i64 0),(.int .i64 0),(.str (bs [])),(.int .i64 0),(.bool false),(.lst []),(.lst []),(.lst [])]) (bd (yX (.agg [v1,v2]) x1) fun r5=>
 bd (PV.not (hd r5)) fun v6=>PV.ite v6 (some [(.int .i64 0),(.int .i64 0),(.int .i64 0),(.int .i64 0),(.int .i64 0),(.str (bs [])),(.int .i64 0),(.bool false),(.lst []),(.lst []),(.lst [])]) (bd (qR (.agg [v1,v2]) (.int .i64 0) x1) fun r7=>PV.guardFlat (gd r7 0) (PV.guardFlat (gd r7 1) (PV.guardOwn (.own 3 32 true []) (gd r7 2) (PV.guardOwn (.own 3 32 true []) (gd r7 3) (
 some [(.int .i64 0),(.int .i64 0),(.int .i64 0),(.int .i64 0),(.int .i64 0),(.str (bs [])),(.int .i64 0),(.bool true),(.lst [(.agg [(gd r7 0),(gd r7 1),(gd r7 2),(gd r7 3)])]),(.lst []),(.lst [])])))))):=bK _ _ _ _ (by kernel_rfl)
theorem aFY (x0 : PV) : yW x0=bd (PV.whole 2 x0) fun v0=>bd (PV.cell v0 0) fun v1=>bd (PV.cell v0 1) fun v2=>bd (yY (.agg [v1,v2])) fun r3=>bd (PV.whole 3 (hd r3)) fun v4=>bd (PV.cell v4 0) fun v5=>bd (PV.cell v4 1) fun v6=>bd (PV.cell v4 2) fun v7=>bd (PV.ceq [1,1,1] .eql (.agg [v5,v6,v7]) (.agg [(.int .i64 0),(.int .i64 0),(.int .i64 0)])) fun v8=>
 some [v8]:=aK _ _ _ (by kernel_rfl)
theorem aFZ (x0 x1 : PV) : yX x0 x1=bd (PV.whole 2 x0) fun v0=>bd (PV.cell v0 0) fun v1=>bd (PV.cell v0 1) fun v2=>bd (PV.len x1) fun v3=>bd (PV.at_ 3 true v2 (.int .i64 0)) fun v4=>bd (PV.cell v4 0) fun v5=>bd (PV.bin .eql v3 v5) fun v6=>PV.ite v6 (bd (eT x1 (.fn 204 [(.bx [v1,v2])])) fun r7=>PV.guardFlat (hd r7) (bd (PV.not (hd r7)) fun v8=>
 some [v8])) (some [.bool false]):=aK _ _ _ (by kernel_rfl)
theorem aF0 (x0 : PV) : yY x0=bd (PV.whole 2 x0) fun v0=>bd (PV.cell v0 0) fun v1=>bd (PV.cell v0 1) fun v2=>bd (uE (.agg [v1,v2])) fun r3=>bd (PV.not (hd r3)) fun v4=>PV.ite v4 (some [(.agg [(.int .i64 1),(.int .i64 0),(.int .i64 0)])]) (bd (PV.len v2) fun v5=>jZ v5 (.int .i64 0) v1 v2 (.int .i64 0) (.int .i64 0) (.int .i64 0)):=aK _ _ _ (by kernel_rfl)
theorem tM (x0 x1 x2 x3 x4 x5 x6 : PV) : jZ x0 x1 x2 x3 x4 x5 x6=bd (PV.bin .lss x1 x0) fun v0=>PV.ite v0 (bd (yZ (.agg [x2,x3]) x1) fun r1=>bd (PV.one (hd r1)) fun v2=>bd (PV.at_ 3 true x3 x1) fun v3=>bd (PV.cell v3 2) fun v4=>bd (PV.len v4) fun v5=>kA x1 x0 x1 v4 v5 (.int .i64 0) x2 x3 x4 x5 x6 v2) (some [(.agg [(.int .i64 0),(.int .i64 0),(.int .i64 0)])]):=aZ _ _ _ _ _ _ _ _ (by kernel_rfl)
theorem tN (x0 x1 x2 x3 x4 x5 x6 x7 x8 x9 x10 x11 : PV) : kA x0 x1 x2 x3 x4 x5 x6 x7 x8 x9 x10 x11=bd (PV.bin .lss x5 x4) fun v0=>PV.ite v0 (bd (PV.at_ 2 true x3 x5) fun v1=>bd (PV.whole 2 v1) fun v2=>bd (PV.cell v2 0) fun v3=>bd (PV.cell v2 1) fun v4=>bd (PV.at_ 1 false x11 x5) fun v5=>bd (PV.bin .lss v5 (.int .i64 0)) fun v6=>PV.ite v6 (bd (PV.bin .add x5 (.int .i64 1)) fun v7=>
 kA x0 x1 x2 x3 x4 v7 x6 x7 x8 x9 x10 x11) (bd (PV.at_ 1 false x11 x5) fun v8=>bd (tE (.agg [x6,x7]) (.agg [v3,v4]) v8) fun r9=>bd (PV.comp (hd r9) 0) fun v10=>bd (PV.comp (hd r9) 1) fun v11=>bd (PV.one v10) fun v12=>bd (PV.not v11) fun v13=>PV.ite v13 (bd (PV.one x0) fun v14=>bd (PV.one x5) fun v15=>some [(.agg [(.int .i64 2),v14,v15])]) (bd (qQ (.agg [v3,v4]) x5) fun r16=>
 bd (PV.len x11) fun v17=>bd (iB (hd r16) v17) fun r18=>PV.ite (hd r18) (bd (PV.one x0) fun v19=>bd (PV.one x5) fun v20=>some [(.agg [(.int .i64 3),v19,v20])]) (bd (fQ (hd r16) (.fn 214 [(.bx [x11]),(.bx [v12])])) fun r21=>PV.guardFlat (hd r21) (PV.ite (hd r21) (bd (PV.one x0) fun v22=>bd (PV.one x5) fun v23=>some [(.agg [(.int .i64 4),v22,v23])])
 (bd (PV.bin .add x5 (.int .i64 1)) fun v24=>kA x0 x1 x2 x3 x4 v24 x6 x7 x8 x9 x10 x11)))))) (bd (PV.bin .add x2 (.int .i64 1)) fun v25=>jZ x1 v25 x6 x7 x8 x9 x10):=aZ _ _ _ _ _ _ _ _ (by kernel_rfl)
theorem iE (x0 x1 : PV) : eT x0 x1=bd (fB x0 x1) fun r0=>bd (PV.bin .geq (hd r0) (.int .i64 0)) fun v1=>some [v1]:=aK _ _ _ (by kernel_rfl)
theorem aDt (x0 x1 : PV) : aAG x0 x1=bd (PV.whole 3 x0) fun v0=>bd (PV.cell v0 0) fun v1=>bd (PV.cell v0 1) fun v2=>bd (PV.cell v0 2) fun v3=>bd (PV.isPtr x1) fun v4=>bd (PV.deref v4 1) fun v5=>bd (PV.len v5) fun v6=>bd (wC (.agg [v1,v2,v3]) v6 (.int .i64 0)) fun r7=>bd (PV.not (hd r7)) fun v8=>some [v8]:=aK _ _ _ (by kernel_rfl)
theorem aDu (x0 : PV) : uE x0=bd (PV.whole 2 x0) fun v0=>bd (PV.cell v0 0) fun v1=>bd (PV.cell v0 1) fun v2=>bd (PV.len v2) fun v3=>bd (cB v3 (.int .i64 1) (.int .i64 12)) fun r4=>bd (PV.not (hd r4)) fun v5=>PV.ite v5 (some [.bool false]) (bd (PV.len v1) fun v6=>bd (PV.bin .gtr v6 (.int .i64 20)) fun v7=>PV.ite v7 (some [.bool false]) (bd (eL v1 (.fn 252 [])) fun r8=>
 PV.ite (hd r8) (some [.bool false]) (bd (PV.len v2) fun v9=>kR v2 v9 (.int .i64 0) v1 v2))):=aK _ _ _ (by kernel_rfl)
theorem qL (x0 x1 x2 x3 x4 : PV) : kR x0 x1 x2 x3 x4=bd (PV.bin .lss x2 x1) fun v0=>PV.ite v0 (bd (PV.at_ 3 true x0 x2) fun v1=>bd (PV.whole 3 v1) fun v2=>bd (PV.cell v2 0) fun v3=>bd (PV.cell v2 1) fun v4=>bd (PV.cell v2 2) fun v5=>bd (cB v3 (.int .i64 0) (.int .i64 6)) fun r6=>bd (PV.not (hd r6)) fun v7=>PV.ite v7 (some [.bool false]) (bd (cB v4 v3 (.int .i64 12)) fun r8=>
 bd (PV.not (hd r8)) fun v9=>PV.ite v9 (some [.bool false]) (bd (PV.len v5) fun v10=>bd (cB v10 (.int .i64 1) (.int .i64 120)) fun r11=>bd (PV.not (hd r11)) fun v12=>PV.ite v12 (some [.bool false]) (bd (dU v5 (.fn 254 [(.bx [x3,x4]),(.bx [v3,v4,v5])])) fun r13=>PV.guardFlat (hd r13) (PV.ite (hd r13) (some [.bool false]) (bd (PV.bin .add x2 (.int .i64 1)) fun v14=>
 kR x0 x1 v14 x3 x4)))))) (some [.bool true]):=aZ _ _ _ _ _ _ _ _ (by kernel_rfl)
theorem aF1 (x0 x1 : PV) : yZ x0 x1=bd (PV.whole 2 x0) fun v0=>bd (PV.cell v0 0) fun v1=>bd (PV.cell v0 1) fun v2=>bd (PV.at_ 3 true v2 x1) fun v3=>bd (PV.cell v3 2) fun v4=>bd (PV.len v4) fun v5=>bd (jD (.lst [(.int .i64 (-1))]) v5) fun r6=>PV.guardOwn (.own 1 8 false []) (gd r6 0) (bd (PV.inb (gd r6 0) (.int .i64 0)) fun v7=>bd (PV.setAt 1 false (gd r6 0) (.int .i64 0) (.int .i64 0)) fun v8=>
 kB v4 (.bool true) v1 v2 v8):=aK _ _ _ (by kernel_rfl)
theorem jO (x0 x1 x2 x3 x4 : PV) : kB x0 x1 x2 x3 x4=PV.ite x1 (bd (PV.len x0) fun v0=>fZ x0 (.bool false) x0 v0 (.int .i64 0) x2 x3 x4) (some [x4]):=aZ _ _ _ _ _ _ _ _ (by kernel_rfl)
theorem tO (x0 x1 x2 x3 x4 x5 x6 x7 : PV) : fZ x0 x1 x2 x3 x4 x5 x6 x7=bd (PV.bin .lss x4 x3) fun v0=>PV.ite v0 (bd (PV.at_ 2 true x2 x4) fun v1=>bd (PV.whole 2 v1) fun v2=>bd (PV.cell v2 0) fun v3=>bd (PV.cell v2 1) fun v4=>bd (PV.inb x7 x4) fun v5=>bd (PV.at_ 1 false x7 x4) fun v6=>bd (PV.bin .lss v6 (.int .i64 0)) fun v7=>PV.ite v7 (bd (PV.bin .add x4 (.int .i64 1)) fun v8=>
 fZ x0 x1 x2 x3 v8 x5 x6 x7) (bd (PV.inb x7 x4) fun v9=>bd (PV.at_ 1 false x7 x4) fun v10=>bd (tE (.agg [x5,x6]) (.agg [v3,v4]) v10) fun r11=>bd (PV.comp (hd r11) 0) fun v12=>bd (PV.comp (hd r11) 1) fun v13=>bd (qQ (.agg [v3,v4]) x4) fun r14=>bd (PV.len (hd r14)) fun v15=>eU x0 x1 v12 v13 x2 x3 x4 (hd r14) v15 (.int .i64 0) x5 x6 x7)) (kB x0 x1 x5 x6 x7):=aZ _ _ _ _ _ _ _ _ (by kernel_rfl)
theorem sM (x0 x1 x2 x3 x4 x5 x6 x7 x8 x9 x10 x11 x12 : PV) : eU x0 x1 x2 x3 x4 x5 x6 x7 x8 x9 x10 x11 x12=bd (PV.bin .lss x9 x8) fun v0=>PV.ite v0 (bd (PV.at_ 1 false x7 x9) fun v1=>PV.ite x3 (bd (PV.len x0) fun v2=>bd (PV.bin .lss v1 v2) fun v3=>PV.ite v3 (bd (PV.inb x12 v1) fun v4=>bd (PV.at_ 1 false x12 v1) fun v5=>bd (PV.bin .lss v5 (.int .i64 0)) fun v6=>
 PV.ite v6 (xD x0 x2 x3 v1 x4 x5 x6 x7 x8 x9 x10 x11 x12) (bd (PV.bin .add x9 (.int .i64 1)) fun v7=>eU x0 x1 x2 x3 x4 x5 x6 x7 x8 v7 x10 x11 x12)) (bd (PV.bin .add x9 (.int .i64 1)) fun v8=>eU x0 x1 x2 x3 x4 x5 x6 x7 x8 v8 x10 x11 x12)) (bd (PV.bin .add x9 (.int .i64 1)) fun v9=>eU x0 x1 x2 x3 x4 x5 x6 x7 x8 v9 x10 x11 x12)) (bd (PV.bin .add x6 (.int .i64 1)) fun v10=>
 fZ x0 x1 x4 x5 v10 x10 x11 x12):=aZ _ _ _ _ _ _ _ _ (by kernel_rfl)
theorem aBw (x0 x1 x2 x3 x4 x5 x6 x7 x8 x9 x10 x11 x12 : PV) : xD x0 x1 x2 x3 x4 x5 x6 x7 x8 x9 x10 x11 x12=bd (PV.inb x12 x3) fun v0=>bd (PV.setAt 1 false x12 x3 x1) fun v1=>bd (PV.bin .add x9 (.int .i64 1)) fun v2=>eU x0 (.bool true) x1 x2 x4 x5 x6 x7 x8 v2 x10 x11 v1:=aZ _ _ _ _ _ _ _ _ (by kernel_rfl)
theorem aF2 (x0 x1 x2 : PV) : tE x0 x1 x2=bd (PV.whole 2 x0) fun v0=>bd (PV.cell v0 0) fun v1=>bd (PV.cell v0 1) fun v2=>bd (PV.whole 2 x1) fun v3=>bd (PV.cell v3 0) fun v4=>bd (PV.cell v3 1) fun v5=>bd (tF (.agg [v1,v2]) (.agg [v4,v5])) fun r6=>bd (PV.comp (hd r6) 0) fun v7=>bd (PV.comp (hd r6) 1) fun v8=>bd (PV.bin .sub x2 v7) fun v9=>bd (PV.bin .add v9 v8) fun v10=>
 bd (PV.bin .leq v7 x2) fun v11=>PV.ite v11 (bd (PV.bin .leq v10 (.int .i64 16)) fun v12=>some [(.tup [v10,v12])]) (some [(.tup [v10,(.bool false)])]):=aK _ _ _ (by kernel_rfl)
theorem aEC (x0 x1 : PV) : qQ x0 x1=bd (PV.whole 2 x0) fun v0=>bd (PV.cell v0 0) fun v1=>bd (PV.cell v0 1) fun v2=>bd (PV.bin .eql v1 (.int .i64 25)) fun v3=>PV.ite v3 (some [(.lst [])]) (bd (PV.bin .eql v1 (.int .i64 17)) fun v4=>PV.ite v4 (bd (PV.cat 1 8 false (.lst []) (.lst [v2])) fun v5=>some [v5]) (bd (PV.bin .eql v1 (.int .i64 18)) fun v6=>PV.ite v6 (bd (PV.bin .add x1 (.int .i64 1)) fun v7=>
 bd (PV.cat 1 8 false (.lst []) (.lst [v7,v2])) fun v8=>some [v8]) (bd (PV.bin .eql v1 (.int .i64 19)) fun v9=>PV.ite v9 (bd (PV.bin .add x1 (.int .i64 1)) fun v10=>bd (PV.cat 1 8 false (.lst []) (.lst [v10,v2])) fun v11=>some [v11]) (bd (PV.bin .add x1 (.int .i64 1)) fun v12=>bd (PV.cat 1 8 false (.lst []) (.lst [v12])) fun v13=>some [v13])))):=aK _ _ _ (by kernel_rfl)
theorem sN (x0 x1 : PV) : iB x0 x1=bd (kC x0 x1) fun r0=>bd (PV.bin .geq (hd r0) (.int .i64 0)) fun v1=>some [v1]:=aK _ _ _ (by kernel_rfl)
theorem oI (x0 x1 : PV) : fQ x0 x1=bd (lK x0 x1) fun r0=>bd (PV.bin .geq (hd r0) (.int .i64 0)) fun v1=>some [v1]:=aK _ _ _ (by kernel_rfl)
theorem aDv (x0 x1 x2 : PV) : aAH x0 x1 x2=bd (PV.deref x1 0) fun v0=>bd (PV.at_ 1 false v0 x0) fun v1=>bd (PV.deref x2 0) fun v2=>bd (PV.bin .neq v1 v2) fun v3=>some [v3]:=aK _ _ _ (by kernel_rfl)
theorem iX (x0 x1 : PV) : fB x0 x1=bd (PV.len x0) fun v0=>bM x0 x1 v0 (.int .i64 0):=aK _ _ _ (by kernel_rfl)
theorem eI (x0 x1 x2 x3 : PV) : bM x0 x1 x2 x3=bd (PV.bin .lss x3 x2) fun v0=>PV.ite v0 (bd (PV.at_ 3 true x0 x3) fun v1=>bd (PV.apply aJ x1 [v1]) fun r2=>PV.ite (hd r2) (some [x3]) (bd (PV.bin .add x3 (.int .i64 1)) fun v3=>bM x0 x1 x2 v3)) (some [(.int .i64 (-1))]):=aZ _ _ _ _ _ _ _ _ (by kernel_rfl)
theorem aED (x0 x1 x2 : PV) : wC x0 x1 x2=bd (PV.whole 3 x0) fun v0=>bd (PV.cell v0 0) fun v1=>bd (PV.cell v0 1) fun v2=>bd (PV.cell v0 2) fun v3=>bd (PV.bin .eql v1 (.int .i64 0)) fun v4=>PV.ite v4 (bd (PV.ceq [1,1,2] .eql (.agg [v1,v2,v3]) (.agg [(.int .i64 0),(.int .i64 0),(.str (bs []))])) fun v5=>some [v5]) (bd (PV.bin .eql v1 (.int .i64 1)) fun v6=>
 PV.ite v6 (bd (kD v2) fun r7=>PV.ite (hd r7) (bd (PV.bin .eql v3 (.str (bs []))) fun v8=>some [v8]) (some [.bool false])) (bd (PV.bin .eql v1 (.int .i64 2)) fun v9=>PV.ite v9 (bd (cB v2 (.int .i64 0) (.int .i64 1)) fun r10=>PV.ite (hd r10) (bd (PV.bin .eql v3 (.str (bs []))) fun v11=>some [v11]) (some [.bool false])) (bd (PV.bin .eql v1 (.int .i64 3)) fun v12=>PV.ite v12
 (bd (PV.bin .eql v2 (.int .i64 0)) fun v13=>PV.ite v13 (bd (pF v3) fun r14=>some [(hd r14)]) (some [.bool false])) (bd (PV.bin .eql v1 (.int .i64 4)) fun v15=>PV.ite v15 (bd (cP v2 x2) fun r16=>PV.ite (hd r16) (bd (PV.bin .eql v3 (.str (bs []))) fun v17=>some [v17]) (some [.bool false])) (bd (PV.bin .eql v1 (.int .i64 5)) fun v18=>PV.ite v18 (bd (cP v2 x1) fun r19=>
 PV.ite (hd r19) (bd (PV.bin .eql v3 (.str (bs []))) fun v20=>some [v20]) (some [.bool false])) (some [.bool false])))))):=aK _ _ _ (by kernel_rfl)
theorem lC (x0 x1 : PV) : eL x0 x1=bd (iC x0 x1) fun r0=>bd (PV.bin .geq (hd r0) (.int .i64 0)) fun v1=>some [v1]:=aK _ _ _ (by kernel_rfl)
theorem aBx (x0 : PV) : xE x0=bd (pF x0) fun r0=>bd (PV.not (hd r0)) fun v1=>some [v1]:=aK _ _ _ (by kernel_rfl)
theorem jE (x0 x1 : PV) : dU x0 x1=bd (gA x0 x1) fun r0=>bd (PV.bin .geq (hd r0) (.int .i64 0)) fun v1=>some [v1]:=aK _ _ _ (by kernel_rfl)
theorem aBy (x0 x1 x2 : PV) : xF x0 x1 x2=bd (PV.whole 2 x0) fun v0=>bd (PV.cell v0 0) fun v1=>bd (PV.cell v0 1) fun v2=>bd (PV.deref x1 0) fun v3=>bd (PV.deref x1 1) fun v4=>bd (PV.deref x2 0) fun v5=>bd (PV.deref x2 1) fun v6=>bd (PV.deref x2 2) fun v7=>bd (aBe (.agg [v3,v4]) (.agg [v5,v6,v7]) (.agg [v1,v2])) fun r8=>bd (PV.not (hd r8)) fun v9=>
 some [v9]:=aK _ _ _ (by kernel_rfl)
theorem aF3 (x0 x1 : PV) : tF x0 x1=bd (PV.whole 2 x0) fun v0=>bd (PV.cell v0 0) fun v1=>bd (PV.cell v0 1) fun v2=>bd (PV.whole 2 x1) fun v3=>bd (PV.cell v3 0) fun v4=>bd (PV.cell v3 1) fun v5=>bd (cB v4 (.int .i64 1) (.int .i64 6)) fun r6=>PV.ite (hd r6) (some [(.tup [(.int .i64 0),(.int .i64 1)])]) (bd (PV.bin .eql v4 (.int .i64 20)) fun v7=>PV.ite v7
 (some [(.tup [(.int .i64 0),(.int .i64 1)])]) (bd (PV.bin .eql v4 (.int .i64 7)) fun v8=>PV.ite v8 (some [(.tup [(.int .i64 1),(.int .i64 0)])]) (bd (PV.bin .eql v4 (.int .i64 9)) fun v9=>PV.ite v9 (some [(.tup [(.int .i64 1),(.int .i64 0)])]) (bd (PV.bin .eql v4 (.int .i64 18)) fun v10=>PV.ite v10 (some [(.tup [(.int .i64 1),(.int .i64 0)])]) (bd (PV.bin .eql v4 (.int .i64 19)) fun v11=>
 PV.ite v11 (some [(.tup [(.int .i64 1),(.int .i64 0)])]) (bd (PV.bin .eql v4 (.int .i64 25)) fun v12=>PV.ite v12 (some [(.tup [(.int .i64 1),(.int .i64 0)])]) (bd (PV.bin .eql v4 (.int .i64 26)) fun v13=>PV.ite v13 (some [(.tup [(.int .i64 1),(.int .i64 0)])]) (bd (PV.bin .eql v4 (.int .i64 8)) fun v14=>PV.ite v14 (some [(.tup [(.int .i64 1),(.int .i64 2)])]) (bd (PV.bin .eql v4 (.int .i64 10)) fun v15=>
 PV.ite v15 (some [(.tup [(.int .i64 2),(.int .i64 2)])]) (bd (cB v4 (.int .i64 11) (.int .i64 15)) fun r16=>PV.ite (hd r16) (some [(.tup [(.int .i64 2),(.int .i64 1)])]) (bd (PV.bin .eql v4 (.int .i64 16)) fun v17=>PV.ite v17 (some [(.tup [(.int .i64 1),(.int .i64 1)])]) (bd (PV.bin .eql v4 (.int .i64 21)) fun v18=>PV.ite v18 (some [(.tup [(.int .i64 1),(.int .i64 1)])]) (bd (PV.bin .eql v4 (.int .i64 22)) fun v19=>
 PV.ite v19 (some [(.tup [(.int .i64 2),(.int .i64 0)])]) (bd (PV.bin .eql v4 (.int .i64 23)) fun v20=>PV.ite v20 (bd (cB v5 (.int .i64 0) (.int .i64 6)) fun r21=>PV.ite (hd r21) (bd (PV.bin .add v5 (.int .i64 1)) fun v22=>some [(.tup [v22,(.int .i64 1)])]) (lU v1 v2 v4 v5)) (lU v1 v2 v4 v5))))))))))))))):=aK _ _ _ (by kernel_rfl)
theorem aBz (x0 x1 x2 x3 : PV) : lU x0 x1 x2 x3=bd (PV.bin .eql x2 (.int .i64 24)) fun v0=>PV.ite v0 (bd (PV.len x1) fun v1=>bd (cP x3 v1) fun r2=>PV.ite (hd r2) (xG x0 x1 x2 x3) (some [(.tup [(.int .i64 0),(.int .i64 0)])])) (some [(.tup [(.int .i64 0),(.int .i64 0)])]):=aZ _ _ _ _ _ _ _ _ (by kernel_rfl)
theorem aBA (x0 x1 x2 x3 : PV) : xG x0 x1 x2 x3=bd (PV.at_ 3 true x1 x3) fun v0=>bd (PV.cell v0 0) fun v1=>some [(.tup [v1,(.int .i64 1)])]:=aZ _ _ _ _ _ _ _ _ (by kernel_rfl)
theorem uY (x0 x1 : PV) : kC x0 x1=bd (PV.len x0) fun v0=>fH x0 x1 v0 (.int .i64 0):=aK _ _ _ (by kernel_rfl)
theorem kF (x0 x1 x2 x3 : PV) : fH x0 x1 x2 x3=bd (PV.bin .lss x3 x2) fun v0=>PV.ite v0 (bd (PV.at_ 1 false x0 x3) fun v1=>bd (PV.bin .eql x1 v1) fun v2=>PV.ite v2 (some [x3]) (bd (PV.bin .add x3 (.int .i64 1)) fun v3=>fH x0 x1 x2 v3)) (some [(.int .i64 (-1))]):=aZ _ _ _ _ _ _ _ _ (by kernel_rfl)
theorem qS (x0 x1 : PV) : lK x0 x1=bd (PV.len x0) fun v0=>eK x0 x1 v0 (.int .i64 0):=aK _ _ _ (by kernel_rfl)
theorem iF (x0 x1 x2 x3 : PV) : eK x0 x1 x2 x3=bd (PV.bin .lss x3 x2) fun v0=>PV.ite v0 (bd (PV.at_ 1 false x0 x3) fun v1=>bd (PV.apply aJ x1 [v1]) fun r2=>PV.ite (hd r2) (some [x3]) (bd (PV.bin .add x3 (.int .i64 1)) fun v3=>eK x0 x1 x2 v3)) (some [(.int .i64 (-1))]):=aZ _ _ _ _ _ _ _ _ (by kernel_rfl)
theorem aAJ (x0 : PV) : kD x0=bd (cB x0 (.int .i64 (-1000000000)) (.int .i64 1000000000)) fun r0=>some [(hd r0)]:=aK _ _ _ (by kernel_rfl)
theorem aF4 (x0 : PV) : pF x0=bd (PV.slen x0) fun v0=>nH x0 v0 (.int .i64 0):=aK _ _ _ (by kernel_rfl)
theorem tP (x0 x1 x2 : PV) : nH x0 x1 x2=bd (PV.bin .lss x2 x1) fun v0=>PV.ite v0 (bd (PV.chr x0 x2) fun v1=>bd (PV.bin .lss v1 (.int .u8 32)) fun v2=>PV.ite v2 (some [.bool false]) (bd (PV.chr x0 x2) fun v3=>bd (PV.bin .gtr v3 (.int .u8 126)) fun v4=>PV.ite v4 (some [.bool false]) (bd (PV.chr x0 x2) fun v5=>bd (PV.bin .eql v5 (.int .u8 34)) fun v6=>PV.ite v6
 (some [.bool false]) (bd (PV.bin .add x2 (.int .i64 1)) fun v7=>nH x0 x1 v7)))) (bd (PV.slen x0) fun v8=>bd (PV.bin .leq v8 (.int .i64 60)) fun v9=>some [v9]):=aZ _ _ _ _ _ _ _ _ (by kernel_rfl)
theorem aEE (x0 x1 : PV) : cP x0 x1=bd (PV.bin .sub x1 (.int .i64 1)) fun v0=>bd (cB x0 (.int .i64 0) v0) fun r1=>some [(hd r1)]:=aK _ _ _ (by kernel_rfl)
theorem mL (x0 x1 : PV) : iC x0 x1=bd (PV.len x0) fun v0=>dC x0 x1 v0 (.int .i64 0):=aK _ _ _ (by kernel_rfl)
theorem fN (x0 x1 x2 x3 : PV) : dC x0 x1 x2 x3=bd (PV.bin .lss x3 x2) fun v0=>PV.ite v0 (bd (PV.at_ 1 false x0 x3) fun v1=>bd (PV.apply aJ x1 [v1]) fun r2=>PV.ite (hd r2) (some [x3]) (bd (PV.bin .add x3 (.int .i64 1)) fun v3=>dC x0 x1 x2 v3)) (some [(.int .i64 (-1))]):=aZ _ _ _ _ _ _ _ _ (by kernel_rfl)
theorem kW (x0 x1 : PV) : gA x0 x1=bd (PV.len x0) fun v0=>cJ x0 x1 v0 (.int .i64 0):=aK _ _ _ (by kernel_rfl)
theorem eX (x0 x1 x2 x3 : PV) : cJ x0 x1 x2 x3=bd (PV.bin .lss x3 x2) fun v0=>PV.ite v0 (bd (PV.at_ 2 true x0 x3) fun v1=>bd (PV.apply aJ x1 [v1]) fun r2=>PV.ite (hd r2) (some [x3]) (bd (PV.bin .add x3 (.int .i64 1)) fun v3=>cJ x0 x1 x2 v3)) (some [(.int .i64 (-1))]):=aZ _ _ _ _ _ _ _ _ (by kernel_rfl)
theorem aGT (x0 x1 x2 : PV) : aBe x0 x1 x2=bd (PV.whole 2 x0) fun v0=>bd (PV.cell v0 0) fun v1=>bd (PV.cell v0 1) fun v2=>bd (PV.whole 3 x1) fun v3=>bd (PV.cell v3 0) fun v4=>bd (PV.cell v3 1) fun v5=>bd (PV.cell v3 2) fun v6=>bd (PV.whole 2 x2) fun v7=>bd (PV.cell v7 0) fun v8=>bd (PV.cell v7 1) fun v9=>bd (PV.bin .eql v8 (.int .i64 1)) fun v10=>PV.ite v10
 (bd (kD v9) fun r11=>some [(hd r11)]) (bd (PV.bin .eql v8 (.int .i64 2)) fun v12=>PV.ite v12 (bd (cB v9 (.int .i64 0) (.int .i64 1)) fun r13=>some [(hd r13)]) (bd (PV.bin .eql v8 (.int .i64 3)) fun v14=>PV.ite v14 (bd (PV.len v1) fun v15=>bd (cP v9 v15) fun r16=>some [(hd r16)]) (bd (PV.bin .eql v8 (.int .i64 5)) fun v17=>PV.ite v17 (bd (PV.len v2) fun v18=>
 bd (cP v9 v18) fun r19=>some [(hd r19)]) (bd (PV.bin .eql v8 (.int .i64 24)) fun v20=>PV.ite v20 (bd (PV.len v2) fun v21=>bd (cP v9 v21) fun r22=>some [(hd r22)]) (bd (PV.bin .eql v8 (.int .i64 6)) fun v23=>PV.ite v23 (bd (cP v9 v5) fun r24=>some [(hd r24)]) (bd (PV.bin .eql v8 (.int .i64 7)) fun v25=>PV.ite v25 (bd (cP v9 v5) fun r26=>some [(hd r26)])
 (bd (PV.bin .eql v8 (.int .i64 17)) fun v27=>PV.ite v27 (bd (PV.len v6) fun v28=>bd (cP v9 v28) fun r29=>some [(hd r29)]) (bd (PV.bin .eql v8 (.int .i64 18)) fun v30=>PV.ite v30 (bd (PV.len v6) fun v31=>bd (cP v9 v31) fun r32=>some [(hd r32)]) (bd (PV.bin .eql v8 (.int .i64 19)) fun v33=>PV.ite v33 (bd (PV.len v6) fun v34=>bd (cP v9 v34) fun r35=>some [(hd r35)])
 (bd (PV.bin .eql v8 (.int .i64 20)) fun v36=>PV.ite v36 (bd (cB v9 (.int .i64 0) (.int .i64 6)) fun r37=>some [(hd r37)]) (bd (PV.bin .eql v8 (.int .i64 21)) fun v38=>PV.ite v38 (bd (cP v9 (.int .i64 6)) fun r39=>some [(hd r39)]) (bd (PV.bin .eql v8 (.int .i64 22)) fun v40=>PV.ite v40 (bd (cP v9 (.int .i64 6)) fun r41=>some [(hd r41)]) (bd (PV.bin .eql v8 (.int .i64 23)) fun v42=>
 PV.ite v42 (bd (cB v9 (.int .i64 0) (.int .i64 6)) fun r43=>some [(hd r43)]) (bd (cB v8 (.int .i64 1) (.int .i64 26)) fun r44=>PV.ite (hd r44) (bd (PV.bin .eql v9 (.int .i64 0)) fun v45=>some [v45]) (some [.bool false]))))))))))))))):=aK _ _ _ (by kernel_rfl)
theorem aDw (x0 : PV) : oX x0=bd (PV.whole 10 x0) fun v0=>bd (PV.cell v0 0) fun v1=>bd (PV.cell v0 1) fun v2=>bd (PV.cell v0 2) fun v3=>bd (PV.cell v0 3) fun v4=>bd (PV.cell v0 4) fun v5=>bd (PV.cell v0 5) fun v6=>bd (PV.cell v0 6) fun v7=>bd (PV.cell v0 7) fun v8=>bd (PV.cell v0 8) fun v9=>bd (PV.cell v0 9) fun v10=>bd (pY v1) fun r11=>
 PV.guardOwn (.own 4 64 true [.leaf,.leaf,(.own 3 32 true []),(.own 3 32 true [])]) (gd r11 0) (bd (uG v2) fun r12=>PV.guardOwn (.own 1 24 true [(.own 3 32 true [])]) (gd r12 0) (bd (gB v4) fun r13=>PV.guardOwn (.own 1 16 false []) (gd r13 0) (some [v3,v5,v6,v7,v8,v9,v10,(gd r11 0),(gd r12 0),(gd r13 0)]))):=bK _ _ _ _ (by kernel_rfl)
theorem aAq (x0 x1 x2 x3 x4 x5 x6 x7 x8 x9 x10 x11 x12 : PV) : uW x0 x1 x2 x3 x4 x5 x6 x7 x8 x9 x10 x11 x12=bd (uH x7 x8 x0 x1 x2 x3 x4 x5 x6 x12 x9 x10 x11) fun r0=>some [(gd r0 0),(gd r0 1),(gd r0 2),(gd r0 3),(gd r0 4),(gd r0 5),(gd r0 6),x7,x8,(gd r0 7),(gd r0 8),(gd r0 9),(gd r0 10)]:=bK _ _ _ _ (by kernel_rfl)
theorem aEF (x0 x1 x2 x3 x4 x5 x6 x7 x8 x9 x10 x11 : PV) : wD x0 x1 x2 x3 x4 x5 x6 x7 x8 x9 x10 x11=bd (PV.bin .add x8 (.int .i64 1)) fun v0=>bd (PV.one v0) fun v1=>bd (aBi x0 x1 x2 x3 x4 x5 x6 x7 v1 x9 x10 x11) fun r2=>bd (PV.bin .neq (gd r2 0) (.int .i64 0)) fun v3=>PV.ite v3 (bd (PV.one (gd r2 0)) fun v4=>some [(gd r2 1),(.int .i64 2),v4,(gd r2 4),(gd r2 5),(gd r2 6),(gd r2 7),(gd r2 8),(gd r2 9),(gd r2 10)])
 (some [(gd r2 1),(gd r2 2),(gd r2 3),(gd r2 4),(gd r2 5),(gd r2 6),(gd r2 7),(gd r2 8),(gd r2 9),(gd r2 10)]):=bK _ _ _ _ (by kernel_rfl)
theorem aDx (x0 x1 x2 : PV) : uF x0 x1 x2=kS x0 x1 (.int .i64 0) x2:=bK _ _ _ _ (by kernel_rfl)
theorem qM (x0 x1 x2 x3 : PV) : kS x0 x1 x2 x3=bd (PV.at_ 3 true x3 x0) fun v0=>bd (PV.cell v0 2) fun v1=>bd (PV.len v1) fun v2=>bd (PV.bin .lss x2 v2) fun v3=>PV.ite v3 (bd (PV.at_ 3 true x3 x0) fun v4=>bd (PV.cell v4 2) fun v5=>bd (PV.inb v5 x2) fun v6=>bd (PV.at_ 3 true x3 x0) fun v7=>bd (PV.cell v7 2) fun v8=>bd (PV.one x1) fun v9=>bd (PV.at_ 3 true x3 x0) fun v10=>
 bd (PV.cell v10 2) fun v11=>bd (PV.setCell 2 v11 x2 0 v9) fun v12=>bd (PV.at_ 3 true x3 x0) fun v13=>bd (PV.cell v13 2) fun v14=>bd (PV.setCell 3 x3 x0 2 v12) fun v15=>bd (PV.bin .add x1 (.int .i64 1)) fun v16=>bd (PV.at_ 3 true v15 x0) fun v17=>bd (PV.cell v17 2) fun v18=>bd (PV.inb v18 x2) fun v19=>bd (PV.at_ 3 true v15 x0) fun v20=>bd (PV.cell v20 2) fun v21=>bd (PV.one v16) fun v22=>
 bd (PV.at_ 3 true v15 x0) fun v23=>bd (PV.cell v23 2) fun v24=>bd (PV.setCell 2 v24 x2 1 v22) fun v25=>bd (PV.at_ 3 true v15 x0) fun v26=>bd (PV.cell v26 2) fun v27=>bd (PV.setCell 3 v15 x0 2 v25) fun v28=>bd (PV.bin .add v16 (.int .i64 1)) fun v29=>bd (PV.bin .add x2 (.int .i64 1)) fun v30=>kS x0 v29 v30 v28) (some [x1,x3]):=aZ _ _ _ _ _ _ _ _ (by kernel_rfl)
theorem aF5 (x0 : PV) : zA x0=bd (PV.len x0) fun v0=>bd (PV.zeros 16 (.agg [(.int .i64 0),(.int .i64 0)]) v0) fun v1=>bd (PV.bin .leq v0 v0) fun v2=>PV.ite v2 (bd (PV.zeros 16 (.agg [(.int .i64 0),(.int .i64 0)]) v0) fun v3=>nI x0 (.int .i64 0) v3) (none):=bK _ _ _ _ (by kernel_rfl)
theorem tQ (x0 x1 x2 : PV) : nI x0 x1 x2=bd (PV.len x0) fun v0=>bd (PV.bin .lss x1 v0) fun v1=>PV.ite v1 (bd (PV.at_ 2 true x0 x1) fun v2=>bd (aBf v2) fun r3=>bd (PV.inb x2 x1) fun v4=>bd (PV.setAt 2 true x2 x1 (hd r3)) fun v5=>bd (PV.bin .add x1 (.int .i64 1)) fun v6=>nI x0 v6 v5) (some [x2]):=aZ _ _ _ _ _ _ _ _ (by kernel_rfl)
theorem aGU (x0 : PV) : aBf x0=bd (PV.whole 2 x0) fun v0=>bd (PV.cell v0 0) fun v1=>bd (PV.cell v0 1) fun v2=>bd (PV.one v1) fun v3=>bd (PV.one v2) fun v4=>some [(.agg [v3,v4])]:=aK _ _ _ (by kernel_rfl)
theorem zF (x0 : PV) : nJ x0=bd (PV.whole 4 x0) fun v0=>bd (PV.cell v0 0) fun v1=>bd (PV.cell v0 1) fun v2=>bd (PV.cell v0 2) fun v3=>bd (PV.cell v0 3) fun v4=>bd (PV.cat 3 32 true (.lst []) v3) fun v5=>bd (PV.cat 3 32 true (.lst []) v4) fun v6=>some [v1,v2,v5,v6]:=bK _ _ _ _ (by kernel_rfl)
theorem aAr (x0 : PV) : oH x0=hH x0 (.int .i64 0) (.lst []):=bK _ _ _ _ (by kernel_rfl)
theorem nN (x0 x1 x2 : PV) : hH x0 x1 x2=bd (PV.len x0) fun v0=>bd (PV.bin .lss x1 v0) fun v1=>PV.ite v1 (bd (PV.at_ 1 true x0 x1) fun v2=>bd (PV.cell v2 0) fun v3=>bd (PV.cat 3 32 true (.lst []) v3) fun v4=>bd (PV.cat 1 24 true x2 (.lst [(.agg [v4])])) fun v5=>bd (PV.bin .add x1 (.int .i64 1)) fun v6=>hH x0 v6 v5) (some [x2]):=aZ _ _ _ _ _ _ _ _ (by kernel_rfl)
theorem aAs (x0 x1 x2 x3 x4 x5 x6 x7 x8 x9 x10 x11 x12 x13 : PV) : fW x0 x1 x2 x3 x4 x5 x6 x7 x8 x9 x10 x11 x12 x13=bd (PV.whole 3 x0) fun v0=>bd (PV.cell v0 0) fun v1=>bd (PV.cell v0 1) fun v2=>bd (PV.cell v0 2) fun v3=>bd (dX x1 x2 x3 x4 x5 x6 x7 x8 x9 x10 x11 x12 x13) fun r4=>bd (PV.at_ 4 true (gd r4 11) (gd r4 0)) fun v5=>bd (PV.at_ 4 true (gd r4 11) (gd r4 0)) fun v6=>
 bd (PV.cell v6 3) fun v7=>bd (PV.at_ 4 true (gd r4 11) (gd r4 0)) fun v8=>bd (PV.cell v8 3) fun v9=>bd (PV.setCell 4 (gd r4 11) (gd r4 0) 3 .hole) fun v10=>bd (PV.cat 3 32 true v7 (.lst [(.agg [v1,v2,v3])])) fun v11=>bd (PV.setCell 4 v10 (gd r4 0) 3 v11) fun v12=>some [(gd r4 1),(gd r4 2),(gd r4 3),(gd r4 4),(gd r4 5),(gd r4 6),(gd r4 7),(gd r4 8),(gd r4 9),(gd r4 10),v12,(gd r4 12),(gd r4 13)]:=bK _ _ _ _ (by kernel_rfl)
theorem wJ (x0 x1 x2 x3 x4 x5 x6 x7 x8 x9 x10 x11 x12 x13 x14 x15 : PV) : bC x0 x1 x2 x3 x4 x5 x6 x7 x8 x9 x10 x11 x12 x13 x14 x15=bd (dX x3 x4 x5 x6 x7 x8 x9 x10 x11 x12 x13 x14 x15) fun r0=>bd (PV.at_ 4 true (gd r0 11) (gd r0 0)) fun v1=>bd (PV.at_ 4 true (gd r0 11) (gd r0 0)) fun v2=>bd (PV.cell v2 3) fun v3=>bd (PV.at_ 4 true (gd r0 11) (gd r0 0)) fun v4=>
 bd (PV.cell v4 3) fun v5=>bd (PV.setCell 4 (gd r0 11) (gd r0 0) 3 .hole) fun v6=>bd (PV.cat 3 32 true v3 (.lst [(.agg [x0,x1,x2])])) fun v7=>bd (PV.setCell 4 v6 (gd r0 0) 3 v7) fun v8=>some [(gd r0 1),(gd r0 2),(gd r0 3),(gd r0 4),(gd r0 5),(gd r0 6),(gd r0 7),(gd r0 8),(gd r0 9),(gd r0 10),v8,(gd r0 12),(gd r0 13)]:=bK _ _ _ _ (by kernel_rfl)
theorem aBB (x0 x1 x2 x3 x4 x5 x6 x7 x8 x9 x10 x11 x12 : PV) : aU x0 x1 x2 x3 x4 x5 x6 x7 x8 x9 x10 x11 x12=bd (dX x0 x1 x2 x3 x4 x5 x6 x7 x8 x9 x10 x11 x12) fun r0=>bd (PV.at_ 4 true (gd r0 11) (gd r0 0)) fun v1=>bd (PV.at_ 4 true (gd r0 11) (gd r0 0)) fun v2=>bd (PV.at_ 4 true (gd r0 11) (gd r0 0)) fun v3=>bd (PV.cell v3 3) fun v4=>bd (PV.len v4) fun v5=>
 bd (PV.bin .sub v5 (.int .i64 1)) fun v6=>bd (PV.at_ 4 true (gd r0 11) (gd r0 0)) fun v7=>bd (PV.cell v7 3) fun v8=>bd (PV.inb v8 v6) fun v9=>bd (PV.at_ 4 true (gd r0 11) (gd r0 0)) fun v10=>bd (PV.cell v10 3) fun v11=>bd (PV.at_ 3 true v11 v6) fun v12=>bd (PV.whole 3 v12) fun v13=>bd (PV.cell v13 0) fun v14=>bd (PV.cell v13 1) fun v15=>bd (PV.cell v13 2) fun v16=>bd (PV.at_ 4 true (gd r0 11) (gd r0 0)) fun v17=>
 bd (PV.at_ 4 true (gd r0 11) (gd r0 0)) fun v18=>bd (PV.at_ 4 true (gd r0 11) (gd r0 0)) fun v19=>bd (PV.cell v19 3) fun v20=>bd (PV.len v20) fun v21=>bd (PV.bin .sub v21 (.int .i64 1)) fun v22=>bd (PV.at_ 4 true (gd r0 11) (gd r0 0)) fun v23=>bd (PV.cell v23 3) fun v24=>bd (PV.cut 3 true v24 (.int .i64 0) v22) fun v25=>bd (PV.at_ 4 true (gd r0 11) (gd r0 0)) fun v26=>bd (PV.cell v26 3) fun v27=>
 bd (PV.cut 3 true v27 (.int .i64 0) v22) fun v28=>bd (PV.at_ 4 true (gd r0 11) (gd r0 0)) fun v29=>bd (PV.cell v29 3) fun v30=>bd (PV.setCell 4 (gd r0 11) (gd r0 0) 3 .hole) fun v31=>bd (PV.setCell 4 v31 (gd r0 0) 3 v28) fun v32=>some [(.agg [v14,v15,v16]),(gd r0 1),(gd r0 2),(gd r0 3),(gd r0 4),(gd r0 5),(gd r0 6),(gd r0 7),(gd r0 8),(gd r0 9),(gd r0 10),v32,(gd r0 12),(gd r0 13)]:=bK _ _ _ _ (by kernel_rfl)
theorem aAt (x0 x1 x2 x3 x4 x5 x6 x7 x8 x9 x10 x11 x12 x13 x14 : PV) : kT x0 x1 x2 x3 x4 x5 x6 x7 x8 x9 x10 x11 x12 x13 x14=bd (PV.at_ 3 true x3 x0) fun v0=>bd (PV.whole 3 v0) fun v1=>bd (PV.cell v1 0) fun v2=>bd (PV.cell v1 1) fun v3=>bd (PV.cell v1 2) fun v4=>bd (PV.len x12) fun v5=>bd (PV.bin .eql v5 (.int .i64 24)) fun v6=>PV.ite v6 (some [x2,x3,x4,x5,x6,x7,x8,x9,x10,(.int .i64 6),x12,x13,x14])
 (bd (PV.zeros 32 (.agg [(.int .i64 0),(.int .i64 0),(.str (bs []))]) v3) fun v7=>bd (PV.bin .leq v3 v3) fun v8=>PV.ite v8 (bd (PV.zeros 32 (.agg [(.int .i64 0),(.int .i64 0),(.str (bs []))]) v3) fun v9=>bd (PV.bin .sub v2 (.int .i64 1)) fun v10=>hJ x0 x1 v10 x2 x3 x4 x5 x6 x7 x8 x9 x10 x11 x12 x13 x14 v9) (none)):=bK _ _ _ _ (by kernel_rfl)
theorem nO (x0 x1 x2 x3 x4 x5 x6 x7 x8 x9 x10 x11 x12 x13 x14 x15 x16 : PV) : hJ x0 x1 x2 x3 x4 x5 x6 x7 x8 x9 x10 x11 x12 x13 x14 x15 x16=bd (PV.bin .geq x2 (.int .i64 0)) fun v0=>PV.ite v0 (bd (aU x3 x4 x5 x6 x7 x8 x9 x10 x11 x12 x13 x14 x15) fun r1=>bd (PV.inb x16 x2) fun v2=>bd (PV.setAt 3 true x16 x2 (gd r1 0)) fun v3=>bd (PV.bin .sub x2 (.int .i64 1)) fun v4=>
 hJ x0 x1 v4 (gd r1 1) (gd r1 2) (gd r1 3) (gd r1 4) (gd r1 5) (gd r1 6) (gd r1 7) (gd r1 8) (gd r1 9) (gd r1 10) (gd r1 11) (gd r1 12) (gd r1 13) v3) (PV.ite x1 (bd (aU x3 x4 x5 x6 x7 x8 x9 x10 x11 x12 x13 x14 x15) fun r5=>gQ x0 (gd r5 1) (gd r5 2) (gd r5 3) (gd r5 4) (gd r5 5) (gd r5 6) (gd r5 7) (gd r5 8) (gd r5 9) (gd r5 10) (gd r5 11) (gd r5 12) (gd r5 13) x16)
 (gQ x0 x3 x4 x5 x6 x7 x8 x9 x10 x11 x12 x13 x14 x15 x16)):=aZ _ _ _ _ _ _ _ _ (by kernel_rfl)
theorem uZ (x0 x1 x2 x3 x4 x5 x6 x7 x8 x9 x10 x11 x12 x13 x14 : PV) : gQ x0 x1 x2 x3 x4 x5 x6 x7 x8 x9 x10 x11 x12 x13 x14=bd (PV.one x0) fun v0=>bd (PV.cat 4 64 true x11 (.lst [(.agg [v0,(.int .i64 0),x14,(.lst [])])])) fun v1=>some [x1,x2,x3,x4,x5,x6,x7,x8,x9,x10,v1,x12,x13]:=aZ _ _ _ _ _ _ _ _ (by kernel_rfl)
theorem aEG (x0 x1 x2 : PV) : qR x0 x1 x2=bd (PV.whole 2 x0) fun v0=>bd (PV.cell v0 0) fun v1=>bd (PV.cell v0 1) fun v2=>bd (PV.at_ 3 true v2 x1) fun v3=>bd (PV.cell v3 1) fun v4=>bd (PV.len x2) fun v5=>bd (PV.bin .sub v4 v5) fun v6=>bd (aAf v6) fun r7=>PV.guardOwn (.own 3 32 true []) (gd r7 0) (bd (PV.cat 1 24 false (.lst []) (.lst [x2,(gd r7 0)])) fun v8=>
 bd (eB v8) fun r9=>PV.guardOwn (.own 3 32 true []) (gd r9 0) (bd (PV.one x1) fun v10=>some [v10,(.int .i64 0),(gd r9 0),(.lst [])])):=bK _ _ _ _ (by kernel_rfl)
theorem uL (x0 x1 : PV) : jD x0 x1=bd (PV.bin .lss x1 (.int .i64 0)) fun v0=>PV.ite v0 (none) (lL x0 x1):=bK _ _ _ _ (by kernel_rfl)
theorem qT (x0 x1 : PV) : lL x0 x1=bd (PV.len x0) fun v0=>bd (PV.conv .u64 v0) fun v1=>bd (PV.conv .u64 x1) fun v2=>bd (aAI v1 v2) fun r3=>bd (PV.comp (hd r3) 0) fun v4=>bd (PV.comp (hd r3) 1) fun v5=>bd (PV.bin .gtr v4 (.int .u64 0)) fun v6=>PV.ite v6 (none) (bd (PV.bin .gtr v5 (.int .u64 9223372036854775807)) fun v7=>PV.ite v7
 (none) (lM x0 v5)):=aZ _ _ _ _ _ _ _ _ (by kernel_rfl)
theorem qU (x0 x1 : PV) : lM x0 x1=bd (PV.conv .i64 x1) fun v0=>bd (PV.zeros 8 (.int .i64 0) v0) fun v1=>bd (PV.bin .leq v0 v0) fun v2=>PV.ite v2 (bd (PV.zeros 8 (.int .i64 0) v0) fun v3=>bd (PV.len v3) fun v4=>bd (PV.ncopy v3 (.int .i64 0) v4 x0) fun v5=>bd (PV.copyIn 1 false v3 (.int .i64 0) v4 x0) fun v6=>fA v5 v6)
 (none):=aZ _ _ _ _ _ _ _ _ (by kernel_rfl)
theorem jP (x0 x1 : PV) : fA x0 x1=bd (PV.len x1) fun v0=>bd (PV.bin .lss x0 v0) fun v1=>PV.ite v1 (bd (PV.len x1) fun v2=>bd (PV.cut 1 false x1 x0 v2) fun v3=>bd (PV.cut 1 false x1 (.int .i64 0) x0) fun v4=>bd (PV.cut 1 false x1 (.int .i64 0) x0) fun v5=>bd (PV.ncopy x1 x0 v2 v5) fun v6=>bd (PV.copyIn 1 false x1 x0 v2 v5) fun v7=>bd (PV.bin .add x0 v6) fun v8=>
 fA v8 v7) (some [x1]):=aZ _ _ _ _ _ _ _ _ (by kernel_rfl)
theorem aDy (x0 x1 : PV) : aAI x0 x1=bd (xH x0 x1) fun r0=>bd (PV.comp (hd r0) 0) fun v1=>bd (PV.comp (hd r0) 1) fun v2=>some [(.tup [v1,v2])]:=aK _ _ _ (by kernel_rfl)
theorem aBC (x0 x1 : PV) : xH x0 x1=bd (PV.bin .and x0 (.int .u64 4294967295)) fun v0=>bd (PV.bin .shr x0 (.int .u64 32)) fun v1=>bd (PV.bin .and x1 (.int .u64 4294967295)) fun v2=>bd (PV.bin .shr x1 (.int .u64 32)) fun v3=>bd (PV.bin .mul v0 v2) fun v4=>bd (PV.bin .mul v1 v2) fun v5=>bd (PV.bin .shr v4 (.int .u64 32)) fun v6=>bd (PV.bin .add v5 v6) fun v7=>
 bd (PV.bin .and v7 (.int .u64 4294967295)) fun v8=>bd (PV.bin .shr v7 (.int .u64 32)) fun v9=>bd (PV.bin .mul v0 v3) fun v10=>bd (PV.bin .add v8 v10) fun v11=>bd (PV.bin .mul v1 v3) fun v12=>bd (PV.bin .add v12 v9) fun v13=>bd (PV.bin .shr v11 (.int .u64 32)) fun v14=>bd (PV.bin .add v13 v14) fun v15=>bd (PV.bin .mul x0 x1) fun v16=>some [(.tup [v15,v16])]:=aK _ _ _ (by kernel_rfl)
theorem aBD (x0 : PV) : pY x0=bd (PV.len x0) fun v0=>iO x0 v0 (.int .i64 0) (.lst []):=bK _ _ _ _ (by kernel_rfl)
theorem nX (x0 x1 x2 x3 : PV) : iO x0 x1 x2 x3=bd (PV.bin .lss x2 x1) fun v0=>PV.ite v0 (bd (PV.at_ 4 true x0 x2) fun v1=>bd (PV.whole 4 v1) fun v2=>bd (PV.cell v2 0) fun v3=>bd (PV.cell v2 1) fun v4=>bd (PV.cell v2 2) fun v5=>bd (PV.cell v2 3) fun v6=>bd (bP v5) fun r7=>PV.guardOwn (.own 3 32 true []) (gd r7 0) (
 bd (bP v6) fun r8=>PV.guardOwn (.own 3 32 true []) (gd r8 0) (bd (PV.cat 4 64 true x3 (.lst [(.agg [v3,v4,(gd r7 0),(gd r8 0)])])) fun v9=>bd (PV.bin .add x2 (.int .i64 1)) fun v10=>iO x0 x1 v10 v9))) (some [x3]):=aZ _ _ _ _ _ _ _ _ (by kernel_rfl)
theorem aDz (x0 : PV) : uG x0=bd (PV.len x0) fun v0=>kU x0 v0 (.int .i64 0) (.lst []):=bK _ _ _ _ (by kernel_rfl)
theorem qN (x0 x1 x2 x3 : PV) : kU x0 x1 x2 x3=bd (PV.bin .lss x2 x1) fun v0=>PV.ite v0 (bd (PV.at_ 1 true x0 x2) fun v1=>bd (PV.whole 1 v1) fun v2=>bd (PV.cell v2 0) fun v3=>bd (bP v3) fun r4=>PV.guardOwn (.own 3 32 true []) (gd r4 0) (bd (PV.cat 1 24 true x3 (.lst [(.agg [(gd r4 0)])])) fun v5=>bd (PV.bin .add x2 (.int .i64 1)) fun v6=>
 kU x0 x1 v6 v5)) (some [x3]):=aZ _ _ _ _ _ _ _ _ (by kernel_rfl)
theorem pP (x0 : PV) : gB x0=bd (PV.isLst x0) fun v0=>PV.nilT v0 (some [(.lst [])]) (bd (PV.cat 1 16 false (.lst []) x0) fun v1=>some [v1]):=bK _ _ _ _ (by kernel_rfl)
theorem aDA (x0 x1 x2 x3 x4 x5 x6 x7 x8 x9 x10 x11 x12 : PV) : uH x0 x1 x2 x3 x4 x5 x6 x7 x8 x9 x10 x11 x12=bd (PV.bin .neq x3 (.int .i64 0)) fun v0=>PV.ite v0 (some [x2,x3,x4,x5,x6,x7,x8,x10,x11,x12,x9]) (bd (aBg (.agg [x0,x1]) (.bx [x10,x11,x2,x12,x3,x4,x5,x6,x7,x8])) fun r1=>PV.guardFlat (hd r1) (bd (PV.comp (hd r1) 0) fun v2=>bd (PV.comp (hd r1) 1) fun v3=>
 bd (PV.whole 4 v2) fun v4=>bd (PV.cell v4 0) fun v5=>bd (PV.cell v4 1) fun v6=>bd (PV.cell v4 2) fun v7=>bd (PV.cell v4 3) fun v8=>bd (PV.not v3) fun v9=>PV.ite v9 (some [x2,x3,x4,x5,x6,x7,x8,x10,x11,x12,x9]) (bd (dE x9 (.agg [v5,v6,v7,v8]) (.fn 99 [])) fun r10=>PV.guardFlat (hd r10) (bd (PV.comp (hd r10) 0) fun v11=>bd (PV.comp (hd r10) 1) fun v12=>
 PV.ite v12 (bd (PV.inb x9 v11) fun v13=>bd (PV.at_ 4 true x9 v11) fun v14=>bd (uI (.agg [x0,x1]) v14 (.agg [v5,v6,v7,v8])) fun r15=>bd (PV.inb x9 v11) fun v16=>bd (PV.setAt 4 true x9 v11 (hd r15)) fun v17=>some [x2,x3,x4,x5,x6,x7,x8,x10,x11,x12,v17]) (bd (PV.len x9) fun v18=>bd (PV.bin .lss v18 (.int .i64 150)) fun v19=>PV.ite v19 (bd (eM v11 x9 (.lst [(.agg [v5,v6,v7,v8])])) fun r20=>
 some [x2,x3,x4,x5,x6,x7,x8,x10,x11,x12,(gd r20 0)]) (some [x2,x3,x4,x5,x6,x7,x8,x10,x11,x12,x9])))))):=bK _ _ _ _ (by kernel_rfl)
theorem aGV (x0 x1 : PV) : aBg x0 x1=bd (PV.whole 2 x0) fun v0=>bd (PV.cell v0 0) fun v1=>bd (PV.cell v0 1) fun v2=>bd (PV.isPtr x1) fun v3=>bd (PV.isPtr v3) fun v4=>bd (PV.deref v4 0) fun v5=>bd (PV.isPtr x1) fun v6=>bd (PV.isPtr v6) fun v7=>bd (PV.deref v7 0) fun v8=>bd (PV.len v8) fun v9=>bd (PV.bin .sub v9 (.int .i64 1)) fun v10=>bd (PV.at_ 4 true v5 v10) fun v11=>
 bd (PV.whole 4 v11) fun v12=>bd (PV.cell v12 0) fun v13=>bd (PV.cell v12 1) fun v14=>bd (PV.cell v12 2) fun v15=>bd (PV.cell v12 3) fun v16=>bd (PV.at_ 3 true v2 v13) fun v17=>bd (PV.cell v17 2) fun v18=>bd (PV.at_ 2 true v18 v14) fun v19=>bd (PV.len v16) fun v20=>bd (PV.whole 2 v19) fun v21=>bd (PV.cell v21 0) fun v22=>bd (PV.cell v21 1) fun v23=>bd (PV.one v13) fun v24=>
 bd (PV.one v14) fun v25=>bd (wE (.agg [v22,v23])) fun r26=>PV.ite (hd r26) (bd (PV.bin .sub v20 (.int .i64 2)) fun v27=>bd (PV.at_ 3 true v16 v27) fun v28=>bd (PV.bin .sub v20 (.int .i64 1)) fun v29=>bd (PV.at_ 3 true v16 v29) fun v30=>bd (mE v28 v30 (.int .i64 1)) fun r31=>PV.ite (hd r31) (some [(.tup [(.agg [v24,v25,(.int .i64 1),(.int .i64 0)]),(.bool true)])])
 (some [(.tup [(.agg [v24,v25,(.int .i64 2),(.int .i64 0)]),(.bool true)])])) (bd (PV.bin .eql v22 (.int .i64 23)) fun v32=>PV.ite v32 (bd (PV.bin .sub v20 (.int .i64 1)) fun v33=>bd (PV.bin .sub v33 v23) fun v34=>bd (PV.at_ 3 true v16 v34) fun v35=>bd (PV.whole 3 v35) fun v36=>bd (PV.cell v36 0) fun v37=>bd (PV.cell v36 1) fun v38=>bd (PV.cell v36 2) fun v39=>bd (PV.bin .eql v37 (.int .i64 5)) fun v40=>
 PV.ite v40 (bd (PV.one v38) fun v41=>some [(.tup [(.agg [v24,v25,(.int .i64 1),v41]),(.bool true)])]) (some [(.tup [(.agg [v24,v25,(.int .i64 2),(.int .i64 0)]),(.bool true)])])) (some [(.tup [(.agg [(.int .i64 0),(.int .i64 0),(.int .i64 0),(.int .i64 0)]),(.bool false)])])):=aK _ _ _ (by kernel_rfl)
theorem fC (x0 x1 x2 : PV) : dE x0 x1 x2=bd (PV.whole 4 x1) fun v0=>bd (PV.cell v0 0) fun v1=>bd (PV.cell v0 1) fun v2=>bd (PV.cell v0 2) fun v3=>bd (PV.cell v0 3) fun v4=>bd (PV.len x0) fun v5=>aX x0 x2 v5 (.int .i64 0) v5 v1 v2 v3 v4:=aK _ _ _ (by kernel_rfl)
theorem cL (x0 x1 x2 x3 x4 x5 x6 x7 x8 : PV) : aX x0 x1 x2 x3 x4 x5 x6 x7 x8=bd (PV.bin .lss x3 x4) fun v0=>PV.ite v0 (bd (PV.bin .add x3 x4) fun v1=>bd (PV.conv .u64 v1) fun v2=>bd (PV.bin .shr v2 (.int .u64 1)) fun v3=>bd (PV.conv .i64 v3) fun v4=>bd (PV.at_ 4 true x0 v4) fun v5=>
 bd (PV.apply aJ x1 [v5,(.agg [x5,x6,x7,x8])]) fun r6=>bd (PV.bin .lss (hd r6) (.int .i64 0)) fun v7=>PV.ite v7 (bd (PV.bin .add v4 (.int .i64 1)) fun v8=>aX x0 x1 x2 v8 x4 x5 x6 x7 x8) (aX x0 x1 x2 x3 v4 x5 x6 x7 x8)) (bd (PV.bin .lss x3 x2) fun v9=>PV.ite v9 (bd (PV.at_ 4 true x0 x3) fun v10=>
 bd (PV.apply aJ x1 [v10,(.agg [x5,x6,x7,x8])]) fun r11=>bd (PV.bin .eql (hd r11) (.int .i64 0)) fun v12=>some [(.tup [x3,v12])]) (some [(.tup [x3,(.bool false)])])):=aZ _ _ _ _ _ _ _ _ (by kernel_rfl)
theorem zG (x0 x1 : PV) : gR x0 x1=bd (PV.whole 4 x0) fun v0=>bd (PV.cell v0 0) fun v1=>bd (PV.cell v0 1) fun v2=>bd (PV.cell v0 2) fun v3=>bd (PV.cell v0 3) fun v4=>bd (PV.whole 4 x1) fun v5=>bd (PV.cell v5 0) fun v6=>bd (PV.cell v5 1) fun v7=>bd (PV.cell v5 2) fun v8=>bd (PV.cell v5 3) fun v9=>bd (lV v1 v6) fun r10=>bd (lV v2 v7) fun r11=>
 bd (PV.cat 1 8 false (.lst []) (.lst [(hd r10),(hd r11)])) fun v12=>bd (aBh v12) fun r13=>PV.guardFlat (hd r13) (some [(hd r13)]):=aK _ _ _ (by kernel_rfl)
theorem aDB (x0 x1 x2 : PV) : uI x0 x1 x2=bd (PV.whole 2 x0) fun v0=>bd (PV.cell v0 0) fun v1=>bd (PV.cell v0 1) fun v2=>bd (PV.whole 4 x1) fun v3=>bd (PV.cell v3 0) fun v4=>bd (PV.cell v3 1) fun v5=>bd (PV.cell v3 2) fun v6=>bd (PV.cell v3 3) fun v7=>bd (PV.whole 4 x2) fun v8=>bd (PV.cell v8 0) fun v9=>bd (PV.cell v8 1) fun v10=>bd (PV.cell v8 2) fun v11=>
 bd (PV.cell v8 3) fun v12=>bd (PV.at_ 3 true v2 v4) fun v13=>bd (PV.cell v13 2) fun v14=>bd (PV.at_ 2 true v14 v5) fun v15=>bd (PV.cell v15 0) fun v16=>bd (PV.bin .neq v16 (.int .i64 23)) fun v17=>PV.ite v17 (bd (PV.bin .or v6 v11) fun v18=>bd (PV.one v18) fun v19=>some [(.agg [v4,v5,v19,v7])]) (bd (PV.ceq [1,1,1,1] .neq (.agg [v4,v5,v6,v7]) (.agg [v9,v10,v11,v12])) fun v20=>
 PV.ite v20 (some [(.agg [v4,v5,(.int .i64 2),(.int .i64 0)])]) (some [(.agg [v4,v5,v6,v7])])):=aK _ _ _ (by kernel_rfl)
theorem aEH (x0 : PV) : wE x0=bd (PV.whole 2 x0) fun v0=>bd (PV.cell v0 0) fun v1=>bd (PV.cell v0 1) fun v2=>bd (cB v1 (.int .i64 11) (.int .i64 14)) fun r3=>some [(hd r3)]:=aK _ _ _ (by kernel_rfl)
theorem aCv (x0 x1 x2 : PV) : mE x0 x1 x2=bd (PV.whole 3 x0) fun v0=>bd (PV.cell v0 0) fun v1=>bd (PV.cell v0 1) fun v2=>bd (PV.cell v0 2) fun v3=>bd (PV.whole 3 x1) fun v4=>bd (PV.cell v4 0) fun v5=>bd (PV.cell v4 1) fun v6=>bd (PV.cell v4 2) fun v7=>bd (PV.bin .eql v1 x2) fun v8=>PV.ite v8 (bd (PV.bin .eql v5 x2) fun v9=>some [v9]) (some [.bool false]):=aK _ _ _ (by kernel_rfl)
theorem aBE (x0 x1 : PV) : lV x0 x1=bd (oY x0) fun r0=>bd (oY x1) fun r1=>PV.ite (hd r0) (PV.ite (hd r1) (some [.int .i64 0]) (some [(.int .i64 (-1))])) (PV.ite (hd r1) (some [.int .i64 1]) (bd (PV.bin .lss x0 x1) fun v2=>PV.ite v2 (some [(.int .i64 (-1))]) (bd (PV.bin .gtr x0 x1) fun v3=>PV.ite v3 (some [.int .i64 1]) (some [.int .i64 0])))):=aK _ _ _ (by kernel_rfl)
theorem aGW (x0 : PV) : aBh x0=bd (PV.len x0) fun v0=>uJ (.int .i64 0) x0 v0 (.int .i64 0):=aK _ _ _ (by kernel_rfl)
theorem oJ (x0 x1 x2 x3 : PV) : uJ x0 x1 x2 x3=bd (PV.bin .lss x3 x2) fun v0=>PV.ite v0 (bd (PV.at_ 1 false x1 x3) fun v1=>bd (PV.bin .neq v1 x0) fun v2=>PV.ite v2 (some [v1]) (bd (PV.bin .add x3 (.int .i64 1)) fun v3=>uJ x0 x1 x2 v3)) (some [x0]):=aZ _ _ _ _ _ _ _ _ (by kernel_rfl)
theorem aDC (x0 : PV) : oY x0=bd (PV.bin .neq x0 x0) fun v0=>some [v0]:=aK _ _ _ (by kernel_rfl)
theorem aGX (x0 x1 x2 x3 x4 x5 x6 x7 x8 x9 x10 x11 : PV) : aBi x0 x1 x2 x3 x4 x5 x6 x7 x8 x9 x10 x11=bd (PV.len x9) fun v0=>bd (PV.bin .sub v0 (.int .i64 1)) fun v1=>bd (PV.inb x9 v1) fun v2=>bd (PV.at_ 4 true x9 v1) fun v3=>bd (PV.cell v3 0) fun v4=>bd (PV.at_ 3 true x1 v4) fun v5=>bd (PV.cell v5 2) fun v6=>bd (PV.at_ 4 true x9 v1) fun v7=>bd (PV.cell v7 1) fun v8=>
 bd (PV.at_ 2 true v6 v8) fun v9=>bd (PV.whole 2 v9) fun v10=>bd (PV.cell v10 0) fun v11=>bd (PV.cell v10 1) fun v12=>bd (tF (.agg [x0,x1]) (.agg [v11,v12])) fun r13=>bd (PV.comp (hd r13) 0) fun v14=>bd (PV.comp (hd r13) 1) fun v15=>bd (PV.at_ 4 true x9 v1) fun v16=>bd (PV.at_ 4 true x9 v1) fun v17=>bd (PV.cell v17 3) fun v18=>bd (PV.len v18) fun v19=>bd (PV.bin .sub v19 v14) fun v20=>
 bd (PV.at_ 4 true x9 v1) fun v21=>bd (PV.at_ 4 true x9 v1) fun v22=>bd (PV.cell v22 3) fun v23=>bd (PV.len v23) fun v24=>bd (PV.cut 3 true v23 v20 v24) fun v25=>bd (PV.at_ 4 true x9 v1) fun v26=>bd (PV.cell v26 3) fun v27=>bd (PV.cut 3 true v27 v20 v24) fun v28=>bd (bP v28) fun r29=>PV.guardOwn (.own 3 32 true []) (gd r29 0) (bd (PV.at_ 4 true x9 v1) fun v30=>
 bd (PV.cell v30 1) fun v31=>bd (PV.bin .add v31 (.int .i64 1)) fun v32=>bd (PV.bin .eql v11 (.int .i64 1)) fun v33=>PV.ite v33 (bd (wF v12) fun r34=>bd (PV.cat 3 32 true (.lst []) (.lst [(hd r34)])) fun v35=>bd (PV.cat 3 32 true (.lst []) v35) fun v36=>bd (PV.at_ 4 true x9 v1) fun v37=>bd (PV.at_ 4 true x9 v1) fun v38=>bd (PV.cell v38 3) fun v39=>bd (PV.cut 3 true v39 (.int .i64 0) v20) fun v40=>
 bd (PV.at_ 4 true x9 v1) fun v41=>bd (PV.cell v41 3) fun v42=>bd (PV.cut 3 true v42 (.int .i64 0) v20) fun v43=>bd (PV.at_ 4 true x9 v1) fun v44=>bd (PV.cell v44 3) fun v45=>bd (PV.setCell 4 x9 v1 3 .hole) fun v46=>bd (PV.cat 3 32 true v43 v36) fun v47=>bd (PV.setCell 4 v46 v1 3 v47) fun v48=>bd (PV.one v32) fun v49=>bd (PV.setCell 4 v48 v1 1 v49) fun v50=>some [(.int .i64 0),x2,x3,x4,x5,x6,x7,x8,v50,x10,x11])
 (bd (PV.bin .eql v11 (.int .i64 2)) fun v51=>PV.ite v51 (bd (PV.bin .eql v12 (.int .i64 1)) fun v52=>bd (kE v52) fun r53=>bd (PV.cat 3 32 true (.lst []) (.lst [(hd r53)])) fun v54=>bd (PV.cat 3 32 true (.lst []) v54) fun v55=>bd (PV.at_ 4 true x9 v1) fun v56=>bd (PV.at_ 4 true x9 v1) fun v57=>bd (PV.cell v57 3) fun v58=>bd (PV.cut 3 true v58 (.int .i64 0) v20) fun v59=>bd (PV.at_ 4 true x9 v1) fun v60=>
 bd (PV.cell v60 3) fun v61=>bd (PV.cut 3 true v61 (.int .i64 0) v20) fun v62=>bd (PV.at_ 4 true x9 v1) fun v63=>bd (PV.cell v63 3) fun v64=>bd (PV.setCell 4 x9 v1 3 .hole) fun v65=>bd (PV.cat 3 32 true v62 v55) fun v66=>bd (PV.setCell 4 v65 v1 3 v66) fun v67=>bd (PV.one v32) fun v68=>bd (PV.setCell 4 v67 v1 1 v68) fun v69=>some [(.int .i64 0),x2,x3,x4,x5,x6,x7,x8,v69,x10,x11])
 (bd (PV.bin .eql v11 (.int .i64 3)) fun v70=>PV.ite v70 (bd (PV.at_ 1 false x0 v12) fun v71=>bd (PV.one v71) fun v72=>bd (PV.at_ 4 true x9 v1) fun v73=>bd (PV.at_ 4 true x9 v1) fun v74=>bd (PV.cell v74 3) fun v75=>bd (PV.cut 3 true v75 (.int .i64 0) v20) fun v76=>bd (PV.at_ 4 true x9 v1) fun v77=>bd (PV.cell v77 3) fun v78=>bd (PV.cut 3 true v78 (.int .i64 0) v20) fun v79=>bd (PV.at_ 4 true x9 v1) fun v80=>
 bd (PV.cell v80 3) fun v81=>bd (PV.setCell 4 x9 v1 3 .hole) fun v82=>bd (PV.cat 3 32 true v79 (.lst [(.agg [(.int .i64 3),(.int .i64 0),v72])])) fun v83=>bd (PV.setCell 4 v82 v1 3 v83) fun v84=>bd (PV.one v32) fun v85=>bd (PV.setCell 4 v84 v1 1 v85) fun v86=>some [(.int .i64 0),x2,x3,x4,x5,x6,x7,x8,v86,x10,x11]) (bd (PV.bin .eql v11 (.int .i64 4)) fun v87=>PV.ite v87 (bd (PV.at_ 4 true x9 v1) fun v88=>
 bd (PV.at_ 4 true x9 v1) fun v89=>bd (PV.cell v89 3) fun v90=>bd (PV.cut 3 true v90 (.int .i64 0) v20) fun v91=>bd (PV.at_ 4 true x9 v1) fun v92=>bd (PV.cell v92 3) fun v93=>bd (PV.cut 3 true v93 (.int .i64 0) v20) fun v94=>bd (PV.at_ 4 true x9 v1) fun v95=>bd (PV.cell v95 3) fun v96=>bd (PV.setCell 4 x9 v1 3 .hole) fun v97=>bd (PV.cat 3 32 true v94 (.lst [(.agg [(.int .i64 0),(.int .i64 0),(.str (bs []))])])) fun v98=>
 bd (PV.setCell 4 v97 v1 3 v98) fun v99=>bd (PV.one v32) fun v100=>bd (PV.setCell 4 v99 v1 1 v100) fun v101=>some [(.int .i64 0),x2,x3,x4,x5,x6,x7,x8,v101,x10,x11]) (bd (PV.bin .eql v11 (.int .i64 5)) fun v102=>PV.ite v102 (bd (PV.one v12) fun v103=>bd (PV.at_ 4 true x9 v1) fun v104=>bd (PV.at_ 4 true x9 v1) fun v105=>bd (PV.cell v105 3) fun v106=>bd (PV.cut 3 true v106 (.int .i64 0) v20) fun v107=>
 bd (PV.at_ 4 true x9 v1) fun v108=>bd (PV.cell v108 3) fun v109=>bd (PV.cut 3 true v109 (.int .i64 0) v20) fun v110=>bd (PV.at_ 4 true x9 v1) fun v111=>bd (PV.cell v111 3) fun v112=>bd (PV.setCell 4 x9 v1 3 .hole) fun v113=>bd (PV.cat 3 32 true v110 (.lst [(.agg [(.int .i64 5),v103,(.str (bs []))])])) fun v114=>bd (PV.setCell 4 v113 v1 3 v114) fun v115=>bd (PV.one v32) fun v116=>
 bd (PV.setCell 4 v115 v1 1 v116) fun v117=>some [(.int .i64 0),x2,x3,x4,x5,x6,x7,x8,v117,x10,x11]) (bd (PV.bin .eql v11 (.int .i64 6)) fun v118=>PV.ite v118 (bd (PV.at_ 4 true x9 v1) fun v119=>bd (PV.at_ 4 true x9 v1) fun v120=>bd (PV.cell v120 2) fun v121=>bd (PV.inb v121 v12) fun v122=>bd (PV.at_ 4 true x9 v1) fun v123=>bd (PV.cell v123 2) fun v124=>bd (PV.at_ 3 true v124 v12) fun v125=>
 bd (PV.cat 3 32 true (.lst []) (.lst [v125])) fun v126=>bd (PV.cat 3 32 true (.lst []) v126) fun v127=>bd (PV.at_ 4 true x9 v1) fun v128=>bd (PV.at_ 4 true x9 v1) fun v129=>bd (PV.cell v129 3) fun v130=>bd (PV.cut 3 true v130 (.int .i64 0) v20) fun v131=>bd (PV.at_ 4 true x9 v1) fun v132=>bd (PV.cell v132 3) fun v133=>bd (PV.cut 3 true v133 (.int .i64 0) v20) fun v134=>bd (PV.at_ 4 true x9 v1) fun v135=>
 bd (PV.cell v135 3) fun v136=>bd (PV.setCell 4 x9 v1 3 .hole) fun v137=>bd (PV.cat 3 32 true v134 v127) fun v138=>bd (PV.setCell 4 v137 v1 3 v138) fun v139=>bd (PV.one v32) fun v140=>bd (PV.setCell 4 v139 v1 1 v140) fun v141=>some [(.int .i64 0),x2,x3,x4,x5,x6,x7,x8,v141,x10,x11]) (bd (PV.bin .eql v11 (.int .i64 7)) fun v142=>PV.ite v142 (bd (PV.at_ 4 true x9 v1) fun v143=>
 bd (PV.inb (gd r29 0) (.int .i64 0)) fun v144=>bd (PV.at_ 3 true (gd r29 0) (.int .i64 0)) fun v145=>bd (PV.at_ 4 true x9 v1) fun v146=>bd (PV.cell v146 2) fun v147=>bd (PV.inb v147 v12) fun v148=>bd (PV.at_ 4 true x9 v1) fun v149=>bd (PV.cell v149 2) fun v150=>bd (PV.at_ 4 true x9 v1) fun v151=>bd (PV.cell v151 2) fun v152=>bd (PV.setAt 3 true v152 v12 v145) fun v153=>bd (PV.at_ 4 true x9 v1) fun v154=>
 bd (PV.cell v154 2) fun v155=>bd (PV.setCell 4 x9 v1 2 v153) fun v156=>bd (PV.at_ 4 true v156 v1) fun v157=>bd (PV.at_ 4 true v156 v1) fun v158=>bd (PV.cell v158 3) fun v159=>bd (PV.cut 3 true v159 (.int .i64 0) v20) fun v160=>bd (PV.at_ 4 true v156 v1) fun v161=>bd (PV.cell v161 3) fun v162=>bd (PV.cut 3 true v162 (.int .i64 0) v20) fun v163=>bd (PV.at_ 4 true v156 v1) fun v164=>
 bd (PV.cell v164 3) fun v165=>bd (PV.setCell 4 v156 v1 3 .hole) fun v166=>bd (PV.cat 3 32 true v163 (.lst [])) fun v167=>bd (PV.setCell 4 v166 v1 3 v167) fun v168=>bd (PV.one v32) fun v169=>bd (PV.setCell 4 v168 v1 1 v169) fun v170=>some [(.int .i64 0),x2,x3,x4,x5,x6,x7,x8,v170,x10,x11]) (bd (PV.bin .eql v11 (.int .i64 8)) fun v171=>PV.ite v171 (bd (PV.inb (gd r29 0) (.int .i64 0)) fun v172=>
 bd (PV.at_ 3 true (gd r29 0) (.int .i64 0)) fun v173=>bd (PV.inb (gd r29 0) (.int .i64 0)) fun v174=>bd (PV.at_ 3 true (gd r29 0) (.int .i64 0)) fun v175=>bd (PV.cat 3 32 true (.lst []) (.lst [v173,v175])) fun v176=>bd (PV.cat 3 32 true (.lst []) v176) fun v177=>bd (PV.at_ 4 true x9 v1) fun v178=>bd (PV.at_ 4 true x9 v1) fun v179=>bd (PV.cell v179 3) fun v180=>bd (PV.cut 3 true v180 (.int .i64 0) v20) fun v181=>
 bd (PV.at_ 4 true x9 v1) fun v182=>bd (PV.cell v182 3) fun v183=>bd (PV.cut 3 true v183 (.int .i64 0) v20) fun v184=>bd (PV.at_ 4 true x9 v1) fun v185=>bd (PV.cell v185 3) fun v186=>bd (PV.setCell 4 x9 v1 3 .hole) fun v187=>bd (PV.cat 3 32 true v184 v177) fun v188=>bd (PV.setCell 4 v187 v1 3 v188) fun v189=>bd (PV.one v32) fun v190=>bd (PV.setCell 4 v189 v1 1 v190) fun v191=>some [(.int .i64 0),x2,x3,x4,x5,x6,x7,x8,v191,x10,x11])
 (bd (PV.bin .eql v11 (.int .i64 10)) fun v192=>PV.ite v192 (bd (PV.inb (gd r29 0) (.int .i64 1)) fun v193=>bd (PV.at_ 3 true (gd r29 0) (.int .i64 1)) fun v194=>bd (PV.inb (gd r29 0) (.int .i64 0)) fun v195=>bd (PV.at_ 3 true (gd r29 0) (.int .i64 0)) fun v196=>bd (PV.cat 3 32 true (.lst []) (.lst [v194,v196])) fun v197=>bd (PV.cat 3 32 true (.lst []) v197) fun v198=>bd (PV.at_ 4 true x9 v1) fun v199=>
 bd (PV.at_ 4 true x9 v1) fun v200=>bd (PV.cell v200 3) fun v201=>bd (PV.cut 3 true v201 (.int .i64 0) v20) fun v202=>bd (PV.at_ 4 true x9 v1) fun v203=>bd (PV.cell v203 3) fun v204=>bd (PV.cut 3 true v204 (.int .i64 0) v20) fun v205=>bd (PV.at_ 4 true x9 v1) fun v206=>bd (PV.cell v206 3) fun v207=>bd (PV.setCell 4 x9 v1 3 .hole) fun v208=>bd (PV.cat 3 32 true v205 v198) fun v209=>
 bd (PV.setCell 4 v208 v1 3 v209) fun v210=>bd (PV.one v32) fun v211=>bd (PV.setCell 4 v210 v1 1 v211) fun v212=>some [(.int .i64 0),x2,x3,x4,x5,x6,x7,x8,v212,x10,x11]) (bd (PV.bin .eql v11 (.int .i64 11)) fun v213=>PV.ite v213 (bd (gJ v11) fun r214=>bd (PV.inb (gd r29 0) (.int .i64 0)) fun v215=>bd (PV.at_ 3 true (gd r29 0) (.int .i64 0)) fun v216=>bd (PV.inb (gd r29 0) (.int .i64 1)) fun v217=>
 bd (PV.at_ 3 true (gd r29 0) (.int .i64 1)) fun v218=>bd (PV.apply aJ (hd r214) [v216,v218]) fun r219=>bd (PV.comp (hd r219) 0) fun v220=>bd (PV.comp (hd r219) 1) fun v221=>bd (PV.whole 3 v220) fun v222=>bd (PV.cell v222 0) fun v223=>bd (PV.cell v222 1) fun v224=>bd (PV.cell v222 2) fun v225=>bd (PV.bin .neq v221 (.int .i64 0)) fun v226=>PV.ite v226 (some [v221,x2,x3,x4,x5,x6,x7,x8,x9,x10,x11])
 (bd (PV.at_ 4 true x9 v1) fun v227=>bd (PV.at_ 4 true x9 v1) fun v228=>bd (PV.cell v228 3) fun v229=>bd (PV.cut 3 true v229 (.int .i64 0) v20) fun v230=>bd (PV.at_ 4 true x9 v1) fun v231=>bd (PV.cell v231 3) fun v232=>bd (PV.cut 3 true v232 (.int .i64 0) v20) fun v233=>bd (PV.at_ 4 true x9 v1) fun v234=>bd (PV.cell v234 3) fun v235=>bd (PV.setCell 4 x9 v1 3 .hole) fun v236=>bd (PV.cat 3 32 true v233 (.lst [(.agg [v223,v224,v225])])) fun v237=>
 bd (PV.setCell 4 v236 v1 3 v237) fun v238=>bd (PV.one v32) fun v239=>bd (PV.setCell 4 v238 v1 1 v239) fun v240=>some [(.int .i64 0),x2,x3,x4,x5,x6,x7,x8,v240,x10,x11])) (bd (PV.bin .eql v11 (.int .i64 12)) fun v241=>PV.ite v241 (bd (gJ v11) fun r242=>bd (PV.inb (gd r29 0) (.int .i64 0)) fun v243=>bd (PV.at_ 3 true (gd r29 0) (.int .i64 0)) fun v244=>bd (PV.inb (gd r29 0) (.int .i64 1)) fun v245=>
 bd (PV.at_ 3 true (gd r29 0) (.int .i64 1)) fun v246=>bd (PV.apply aJ (hd r242) [v244,v246]) fun r247=>bd (PV.comp (hd r247) 0) fun v248=>bd (PV.comp (hd r247) 1) fun v249=>bd (PV.whole 3 v248) fun v250=>bd (PV.cell v250 0) fun v251=>bd (PV.cell v250 1) fun v252=>bd (PV.cell v250 2) fun v253=>bd (PV.bin .neq v249 (.int .i64 0)) fun v254=>PV.ite v254 (some [v249,x2,x3,x4,x5,x6,x7,x8,x9,x10,x11])
 (bd (PV.at_ 4 true x9 v1) fun v255=>bd (PV.at_ 4 true x9 v1) fun v256=>bd (PV.cell v256 3) fun v257=>bd (PV.cut 3 true v257 (.int .i64 0) v20) fun v258=>bd (PV.at_ 4 true x9 v1) fun v259=>bd (PV.cell v259 3) fun v260=>bd (PV.cut 3 true v260 (.int .i64 0) v20) fun v261=>bd (PV.at_ 4 true x9 v1) fun v262=>bd (PV.cell v262 3) fun v263=>bd (PV.setCell 4 x9 v1 3 .hole) fun v264=>bd (PV.cat 3 32 true v261 (.lst [(.agg [v251,v252,v253])])) fun v265=>
 bd (PV.setCell 4 v264 v1 3 v265) fun v266=>bd (PV.one v32) fun v267=>bd (PV.setCell 4 v266 v1 1 v267) fun v268=>some [(.int .i64 0),x2,x3,x4,x5,x6,x7,x8,v268,x10,x11])) (bd (PV.bin .eql v11 (.int .i64 13)) fun v269=>PV.ite v269 (bd (gJ v11) fun r270=>bd (PV.inb (gd r29 0) (.int .i64 0)) fun v271=>bd (PV.at_ 3 true (gd r29 0) (.int .i64 0)) fun v272=>bd (PV.inb (gd r29 0) (.int .i64 1)) fun v273=>
 bd (PV.at_ 3 true (gd r29 0) (.int .i64 1)) fun v274=>bd (PV.apply aJ (hd r270) [v272,v274]) fun r275=>bd (PV.comp (hd r275) 0) fun v276=>bd (PV.comp (hd r275) 1) fun v277=>bd (PV.whole 3 v276) fun v278=>bd (PV.cell v278 0) fun v279=>bd (PV.cell v278 1) fun v280=>bd (PV.cell v278 2) fun v281=>bd (PV.bin .neq v277 (.int .i64 0)) fun v282=>PV.ite v282 (some [v277,x2,x3,x4,x5,x6,x7,x8,x9,x10,x11])
 (bd (PV.at_ 4 true x9 v1) fun v283=>bd (PV.at_ 4 true x9 v1) fun v284=>bd (PV.cell v284 3) fun v285=>bd (PV.cut 3 true v285 (.int .i64 0) v20) fun v286=>bd (PV.at_ 4 true x9 v1) fun v287=>bd (PV.cell v287 3) fun v288=>bd (PV.cut 3 true v288 (.int .i64 0) v20) fun v289=>bd (PV.at_ 4 true x9 v1) fun v290=>bd (PV.cell v290 3) fun v291=>bd (PV.setCell 4 x9 v1 3 .hole) fun v292=>bd (PV.cat 3 32 true v289 (.lst [(.agg [v279,v280,v281])])) fun v293=>
 bd (PV.setCell 4 v292 v1 3 v293) fun v294=>bd (PV.one v32) fun v295=>bd (PV.setCell 4 v294 v1 1 v295) fun v296=>some [(.int .i64 0),x2,x3,x4,x5,x6,x7,x8,v296,x10,x11])) (bd (PV.bin .eql v11 (.int .i64 14)) fun v297=>PV.ite v297 (bd (gJ v11) fun r298=>bd (PV.inb (gd r29 0) (.int .i64 0)) fun v299=>bd (PV.at_ 3 true (gd r29 0) (.int .i64 0)) fun v300=>bd (PV.inb (gd r29 0) (.int .i64 1)) fun v301=>
 bd (PV.at_ 3 true (gd r29 0) (.int .i64 1)) fun v302=>bd (PV.apply aJ (hd r298) [v300,v302]) fun r303=>bd (PV.comp (hd r303) 0) fun v304=>bd (PV.comp (hd r303) 1) fun v305=>bd (PV.whole 3 v304) fun v306=>bd (PV.cell v306 0) fun v307=>bd (PV.cell v306 1) fun v308=>bd (PV.cell v306 2) fun v309=>bd (PV.bin .neq v305 (.int .i64 0)) fun v310=>PV.ite v310 (some [v305,x2,x3,x4,x5,x6,x7,x8,x9,x10,x11])
 (bd (PV.at_ 4 true x9 v1) fun v311=>bd (PV.at_ 4 true x9 v1) fun v312=>bd (PV.cell v312 3) fun v313=>bd (PV.cut 3 true v313 (.int .i64 0) v20) fun v314=>bd (PV.at_ 4 true x9 v1) fun v315=>bd (PV.cell v315 3) fun v316=>bd (PV.cut 3 true v316 (.int .i64 0) v20) fun v317=>bd (PV.at_ 4 true x9 v1) fun v318=>bd (PV.cell v318 3) fun v319=>bd (PV.setCell 4 x9 v1 3 .hole) fun v320=>bd (PV.cat 3 32 true v317 (.lst [(.agg [v307,v308,v309])])) fun v321=>
 bd (PV.setCell 4 v320 v1 3 v321) fun v322=>bd (PV.one v32) fun v323=>bd (PV.setCell 4 v322 v1 1 v323) fun v324=>some [(.int .i64 0),x2,x3,x4,x5,x6,x7,x8,v324,x10,x11])) (bd (PV.bin .eql v11 (.int .i64 15)) fun v325=>PV.ite v325 (bd (PV.inb (gd r29 0) (.int .i64 0)) fun v326=>bd (PV.at_ 3 true (gd r29 0) (.int .i64 0)) fun v327=>bd (PV.inb (gd r29 0) (.int .i64 1)) fun v328=>
 bd (PV.at_ 3 true (gd r29 0) (.int .i64 1)) fun v329=>bd (zB v327 v329) fun r330=>bd (PV.cat 3 32 true (.lst []) (.lst [(hd r330)])) fun v331=>bd (PV.cat 3 32 true (.lst []) v331) fun v332=>bd (PV.at_ 4 true x9 v1) fun v333=>bd (PV.at_ 4 true x9 v1) fun v334=>bd (PV.cell v334 3) fun v335=>bd (PV.cut 3 true v335 (.int .i64 0) v20) fun v336=>bd (PV.at_ 4 true x9 v1) fun v337=>
 bd (PV.cell v337 3) fun v338=>bd (PV.cut 3 true v338 (.int .i64 0) v20) fun v339=>bd (PV.at_ 4 true x9 v1) fun v340=>bd (PV.cell v340 3) fun v341=>bd (PV.setCell 4 x9 v1 3 .hole) fun v342=>bd (PV.cat 3 32 true v339 v332) fun v343=>bd (PV.setCell 4 v342 v1 3 v343) fun v344=>bd (PV.one v32) fun v345=>bd (PV.setCell 4 v344 v1 1 v345) fun v346=>some [(.int .i64 0),x2,x3,x4,x5,x6,x7,x8,v346,x10,x11])
 (bd (PV.bin .eql v11 (.int .i64 16)) fun v347=>PV.ite v347 (bd (PV.inb (gd r29 0) (.int .i64 0)) fun v348=>bd (PV.at_ 3 true (gd r29 0) (.int .i64 0)) fun v349=>bd (aBj v349) fun r350=>bd (PV.comp (hd r350) 0) fun v351=>bd (PV.comp (hd r350) 1) fun v352=>bd (PV.whole 3 v351) fun v353=>bd (PV.cell v353 0) fun v354=>bd (PV.cell v353 1) fun v355=>bd (PV.cell v353 2) fun v356=>
 bd (PV.bin .neq v352 (.int .i64 0)) fun v357=>PV.ite v357 (some [v352,x2,x3,x4,x5,x6,x7,x8,x9,x10,x11]) (bd (PV.at_ 4 true x9 v1) fun v358=>bd (PV.at_ 4 true x9 v1) fun v359=>bd (PV.cell v359 3) fun v360=>bd (PV.cut 3 true v360 (.int .i64 0) v20) fun v361=>bd (PV.at_ 4 true x9 v1) fun v362=>bd (PV.cell v362 3) fun v363=>bd (PV.cut 3 true v363 (.int .i64 0) v20) fun v364=>bd (PV.at_ 4 true x9 v1) fun v365=>
 bd (PV.cell v365 3) fun v366=>bd (PV.setCell 4 x9 v1 3 .hole) fun v367=>bd (PV.cat 3 32 true v364 (.lst [(.agg [v354,v355,v356])])) fun v368=>bd (PV.setCell 4 v367 v1 3 v368) fun v369=>bd (PV.one v32) fun v370=>bd (PV.setCell 4 v369 v1 1 v370) fun v371=>some [(.int .i64 0),x2,x3,x4,x5,x6,x7,x8,v371,x10,x11])) (bd (PV.bin .eql v11 (.int .i64 17)) fun v372=>PV.ite v372 (bd (PV.at_ 4 true x9 v1) fun v373=>
 bd (PV.at_ 4 true x9 v1) fun v374=>bd (PV.cell v374 3) fun v375=>bd (PV.cut 3 true v375 (.int .i64 0) v20) fun v376=>bd (PV.at_ 4 true x9 v1) fun v377=>bd (PV.cell v377 3) fun v378=>bd (PV.cut 3 true v378 (.int .i64 0) v20) fun v379=>bd (PV.at_ 4 true x9 v1) fun v380=>bd (PV.cell v380 3) fun v381=>bd (PV.setCell 4 x9 v1 3 .hole) fun v382=>bd (PV.cat 3 32 true v379 (.lst [])) fun v383=>
 bd (PV.setCell 4 v382 v1 3 v383) fun v384=>bd (PV.one v12) fun v385=>bd (PV.setCell 4 v384 v1 1 v385) fun v386=>some [(.int .i64 0),x2,x3,x4,x5,x6,x7,x8,v386,x10,x11]) (bd (PV.bin .eql v11 (.int .i64 18)) fun v387=>PV.ite v387 (bd (PV.inb (gd r29 0) (.int .i64 0)) fun v388=>bd (PV.at_ 3 true (gd r29 0) (.int .i64 0)) fun v389=>bd (PV.cell v389 0) fun v390=>bd (PV.bin .neq v390 (.int .i64 2)) fun v391=>
 PV.ite v391 (some [(.int .i64 1),x2,x3,x4,x5,x6,x7,x8,x9,x10,x11]) (bd (PV.inb (gd r29 0) (.int .i64 0)) fun v392=>bd (PV.at_ 3 true (gd r29 0) (.int .i64 0)) fun v393=>bd (PV.cell v393 1) fun v394=>bd (PV.bin .eql v394 (.int .i64 1)) fun v395=>bd (PV.bin .eql v11 (.int .i64 18)) fun v396=>bd (PV.beq .eql v395 v396) fun v397=>PV.ite v397 (bd (PV.at_ 4 true x9 v1) fun v398=>bd (PV.at_ 4 true x9 v1) fun v399=>
 bd (PV.cell v399 3) fun v400=>bd (PV.cut 3 true v400 (.int .i64 0) v20) fun v401=>bd (PV.at_ 4 true x9 v1) fun v402=>bd (PV.cell v402 3) fun v403=>bd (PV.cut 3 true v403 (.int .i64 0) v20) fun v404=>bd (PV.at_ 4 true x9 v1) fun v405=>bd (PV.cell v405 3) fun v406=>bd (PV.setCell 4 x9 v1 3 .hole) fun v407=>bd (PV.cat 3 32 true v404 (.lst [])) fun v408=>bd (PV.setCell 4 v407 v1 3 v408) fun v409=>
 bd (PV.one v12) fun v410=>bd (PV.setCell 4 v409 v1 1 v410) fun v411=>some [(.int .i64 0),x2,x3,x4,x5,x6,x7,x8,v411,x10,x11]) (bd (PV.at_ 4 true x9 v1) fun v412=>bd (PV.at_ 4 true x9 v1) fun v413=>bd (PV.cell v413 3) fun v414=>bd (PV.cut 3 true v414 (.int .i64 0) v20) fun v415=>bd (PV.at_ 4 true x9 v1) fun v416=>bd (PV.cell v416 3) fun v417=>bd (PV.cut 3 true v417 (.int .i64 0) v20) fun v418=>
 bd (PV.at_ 4 true x9 v1) fun v419=>bd (PV.cell v419 3) fun v420=>bd (PV.setCell 4 x9 v1 3 .hole) fun v421=>bd (PV.cat 3 32 true v418 (.lst [])) fun v422=>bd (PV.setCell 4 v421 v1 3 v422) fun v423=>bd (PV.one v32) fun v424=>bd (PV.setCell 4 v423 v1 1 v424) fun v425=>some [(.int .i64 0),x2,x3,x4,x5,x6,x7,x8,v425,x10,x11]))) (bd (PV.bin .eql v11 (.int .i64 19)) fun v426=>PV.ite v426
 (bd (PV.inb (gd r29 0) (.int .i64 0)) fun v427=>bd (PV.at_ 3 true (gd r29 0) (.int .i64 0)) fun v428=>bd (PV.cell v428 0) fun v429=>bd (PV.bin .neq v429 (.int .i64 2)) fun v430=>PV.ite v430 (some [(.int .i64 1),x2,x3,x4,x5,x6,x7,x8,x9,x10,x11]) (bd (PV.inb (gd r29 0) (.int .i64 0)) fun v431=>bd (PV.at_ 3 true (gd r29 0) (.int .i64 0)) fun v432=>bd (PV.cell v432 1) fun v433=>
 bd (PV.bin .eql v433 (.int .i64 1)) fun v434=>bd (PV.bin .eql v11 (.int .i64 18)) fun v435=>bd (PV.beq .eql v434 v435) fun v436=>PV.ite v436 (bd (PV.at_ 4 true x9 v1) fun v437=>bd (PV.at_ 4 true x9 v1) fun v438=>bd (PV.cell v438 3) fun v439=>bd (PV.cut 3 true v439 (.int .i64 0) v20) fun v440=>bd (PV.at_ 4 true x9 v1) fun v441=>bd (PV.cell v441 3) fun v442=>bd (PV.cut 3 true v442 (.int .i64 0) v20) fun v443=>
 bd (PV.at_ 4 true x9 v1) fun v444=>bd (PV.cell v444 3) fun v445=>bd (PV.setCell 4 x9 v1 3 .hole) fun v446=>bd (PV.cat 3 32 true v443 (.lst [])) fun v447=>bd (PV.setCell 4 v446 v1 3 v447) fun v448=>bd (PV.one v12) fun v449=>bd (PV.setCell 4 v448 v1 1 v449) fun v450=>some [(.int .i64 0),x2,x3,x4,x5,x6,x7,x8,v450,x10,x11]) (bd (PV.at_ 4 true x9 v1) fun v451=>bd (PV.at_ 4 true x9 v1) fun v452=>
 bd (PV.cell v452 3) fun v453=>bd (PV.cut 3 true v453 (.int .i64 0) v20) fun v454=>bd (PV.at_ 4 true x9 v1) fun v455=>bd (PV.cell v455 3) fun v456=>bd (PV.cut 3 true v456 (.int .i64 0) v20) fun v457=>bd (PV.at_ 4 true x9 v1) fun v458=>bd (PV.cell v458 3) fun v459=>bd (PV.setCell 4 x9 v1 3 .hole) fun v460=>bd (PV.cat 3 32 true v457 (.lst [])) fun v461=>bd (PV.setCell 4 v460 v1 3 v461) fun v462=>
 bd (PV.one v32) fun v463=>bd (PV.setCell 4 v462 v1 1 v463) fun v464=>some [(.int .i64 0),x2,x3,x4,x5,x6,x7,x8,v464,x10,x11]))) (bd (PV.bin .eql v11 (.int .i64 20)) fun v465=>PV.ite v465 (bd (PV.bin .eql x2 (.int .i64 120)) fun v466=>PV.ite v466 (some [(.int .i64 7),x2,x3,x4,x5,x6,x7,x8,x9,x10,x11]) (bd (PV.len x10) fun v467=>bd (PV.one v467) fun v468=>bd (aAf v12) fun r469=>
 PV.guardOwn (.own 3 32 true []) (gd r469 0) (bd (PV.cat 1 24 true x10 (.lst [(.agg [(gd r469 0)])])) fun v470=>bd (PV.bin .add x2 (.int .i64 1)) fun v471=>bd (PV.one v471) fun v472=>bd (PV.at_ 4 true x9 v1) fun v473=>bd (PV.at_ 4 true x9 v1) fun v474=>bd (PV.cell v474 3) fun v475=>bd (PV.cut 3 true v475 (.int .i64 0) v20) fun v476=>bd (PV.at_ 4 true x9 v1) fun v477=>bd (PV.cell v477 3) fun v478=>
 bd (PV.cut 3 true v478 (.int .i64 0) v20) fun v479=>bd (PV.at_ 4 true x9 v1) fun v480=>bd (PV.cell v480 3) fun v481=>bd (PV.setCell 4 x9 v1 3 .hole) fun v482=>bd (PV.cat 3 32 true v479 (.lst [(.agg [(.int .i64 4),v468,(.str (bs []))])])) fun v483=>bd (PV.setCell 4 v482 v1 3 v483) fun v484=>bd (PV.one v32) fun v485=>bd (PV.setCell 4 v484 v1 1 v485) fun v486=>some [(.int .i64 0),v472,x3,x4,x5,x6,x7,x8,v486,v470,x11])))
 (bd (PV.bin .eql v11 (.int .i64 21)) fun v487=>PV.ite v487 (bd (PV.inb (gd r29 0) (.int .i64 0)) fun v488=>bd (PV.at_ 3 true (gd r29 0) (.int .i64 0)) fun v489=>bd (oZ v489 v12 x2 x3 x4 x5 x6 x7 x8 x9 x10 x11) fun r490=>bd (PV.bin .neq (gd r490 2) (.int .i64 0)) fun v491=>PV.ite v491 (some [(gd r490 2),(gd r490 3),(gd r490 4),(gd r490 5),(gd r490 6),(gd r490 7),(gd r490 8),(gd r490 9),(gd r490 10),(gd r490 11),(gd r490 12)])
 (bd (PV.isInt (gd r490 1)) fun v492=>bd (PV.at_ 1 true (gd r490 11) (gd r490 0)) fun v493=>bd (PV.cell v493 0) fun v494=>bd (PV.at_ 3 true v494 v492) fun v495=>bd (PV.cat 3 32 true (.lst []) (.lst [v495])) fun v496=>bd (PV.cat 3 32 true (.lst []) v496) fun v497=>bd (PV.at_ 4 true (gd r490 10) v1) fun v498=>bd (PV.at_ 4 true (gd r490 10) v1) fun v499=>bd (PV.cell v499 3) fun v500=>
 bd (PV.cut 3 true v500 (.int .i64 0) v20) fun v501=>bd (PV.at_ 4 true (gd r490 10) v1) fun v502=>bd (PV.cell v502 3) fun v503=>bd (PV.cut 3 true v503 (.int .i64 0) v20) fun v504=>bd (PV.at_ 4 true (gd r490 10) v1) fun v505=>bd (PV.cell v505 3) fun v506=>bd (PV.setCell 4 (gd r490 10) v1 3 .hole) fun v507=>bd (PV.cat 3 32 true v504 v497) fun v508=>bd (PV.setCell 4 v507 v1 3 v508) fun v509=>
 bd (PV.one v32) fun v510=>bd (PV.setCell 4 v509 v1 1 v510) fun v511=>some [(.int .i64 0),(gd r490 3),(gd r490 4),(gd r490 5),(gd r490 6),(gd r490 7),(gd r490 8),(gd r490 9),v511,(gd r490 11),(gd r490 12)])) (bd (PV.bin .eql v11 (.int .i64 22)) fun v512=>PV.ite v512 (bd (PV.inb (gd r29 0) (.int .i64 0)) fun v513=>bd (PV.at_ 3 true (gd r29 0) (.int .i64 0)) fun v514=>bd (oZ v514 v12 x2 x3 x4 x5 x6 x7 x8 x9 x10 x11) fun r515=>
 bd (PV.bin .neq (gd r515 2) (.int .i64 0)) fun v516=>PV.ite v516 (some [(gd r515 2),(gd r515 3),(gd r515 4),(gd r515 5),(gd r515 6),(gd r515 7),(gd r515 8),(gd r515 9),(gd r515 10),(gd r515 11),(gd r515 12)]) (bd (PV.inb (gd r29 0) (.int .i64 1)) fun v517=>bd (PV.at_ 3 true (gd r29 0) (.int .i64 1)) fun v518=>bd (PV.isInt (gd r515 1)) fun v519=>bd (PV.at_ 1 true (gd r515 11) (gd r515 0)) fun v520=>
 bd (PV.cell v520 0) fun v521=>bd (PV.at_ 1 true (gd r515 11) (gd r515 0)) fun v522=>bd (PV.cell v522 0) fun v523=>bd (PV.setAt 3 true v523 v519 v518) fun v524=>bd (PV.at_ 1 true (gd r515 11) (gd r515 0)) fun v525=>bd (PV.cell v525 0) fun v526=>bd (PV.setCell 1 (gd r515 11) (gd r515 0) 0 v524) fun v527=>bd (PV.at_ 4 true (gd r515 10) v1) fun v528=>bd (PV.at_ 4 true (gd r515 10) v1) fun v529=>
 bd (PV.cell v529 3) fun v530=>bd (PV.cut 3 true v530 (.int .i64 0) v20) fun v531=>bd (PV.at_ 4 true (gd r515 10) v1) fun v532=>bd (PV.cell v532 3) fun v533=>bd (PV.cut 3 true v533 (.int .i64 0) v20) fun v534=>bd (PV.at_ 4 true (gd r515 10) v1) fun v535=>bd (PV.cell v535 3) fun v536=>bd (PV.setCell 4 (gd r515 10) v1 3 .hole) fun v537=>bd (PV.cat 3 32 true v534 (.lst [])) fun v538=>
 bd (PV.setCell 4 v537 v1 3 v538) fun v539=>bd (PV.one v32) fun v540=>bd (PV.setCell 4 v539 v1 1 v540) fun v541=>some [(.int .i64 0),(gd r515 3),(gd r515 4),(gd r515 5),(gd r515 6),(gd r515 7),(gd r515 8),(gd r515 9),v541,v527,(gd r515 12)])) (bd (PV.bin .eql v11 (.int .i64 23)) fun v542=>PV.ite v542 (bd (PV.bin .eql v11 (.int .i64 23)) fun v543=>PV.ite v543 (bd (PV.inb (gd r29 0) (.int .i64 0)) fun v544=>
 bd (PV.at_ 3 true (gd r29 0) (.int .i64 0)) fun v545=>bd (PV.cell v545 0) fun v546=>bd (PV.bin .neq v546 (.int .i64 5)) fun v547=>PV.ite v547 (some [(.int .i64 1),x2,x3,x4,x5,x6,x7,x8,x9,x10,x11]) (bd (PV.inb (gd r29 0) (.int .i64 0)) fun v548=>bd (PV.at_ 3 true (gd r29 0) (.int .i64 0)) fun v549=>bd (PV.cell v549 1) fun v550=>bd (PV.at_ 3 true x1 v550) fun v551=>bd (PV.cell v551 0) fun v552=>
 bd (PV.bin .neq v552 v12) fun v553=>PV.ite v553 (some [(.int .i64 5),x2,x3,x4,x5,x6,x7,x8,x9,x10,x11]) (bd (PV.inb (gd r29 0) (.int .i64 0)) fun v554=>bd (PV.at_ 3 true (gd r29 0) (.int .i64 0)) fun v555=>bd (PV.cell v555 1) fun v556=>bd (PV.len (gd r29 0)) fun v557=>bd (PV.cut 3 true (gd r29 0) (.int .i64 1) v557) fun v558=>bd (PV.cut 3 true (gd r29 0) (.int .i64 1) v557) fun v559=>
 iD v1 v20 v32 v556 x2 x3 x4 x5 x6 x7 x8 x0 x1 x9 x10 x11 v559))) (iD v1 v20 v32 v12 x2 x3 x4 x5 x6 x7 x8 x0 x1 x9 x10 x11 (gd r29 0))) (bd (PV.bin .eql v11 (.int .i64 24)) fun v560=>PV.ite v560 (bd (PV.bin .eql v11 (.int .i64 23)) fun v561=>PV.ite v561 (bd (PV.inb (gd r29 0) (.int .i64 0)) fun v562=>bd (PV.at_ 3 true (gd r29 0) (.int .i64 0)) fun v563=>bd (PV.cell v563 0) fun v564=>
 bd (PV.bin .neq v564 (.int .i64 5)) fun v565=>PV.ite v565 (some [(.int .i64 1),x2,x3,x4,x5,x6,x7,x8,x9,x10,x11]) (bd (PV.inb (gd r29 0) (.int .i64 0)) fun v566=>bd (PV.at_ 3 true (gd r29 0) (.int .i64 0)) fun v567=>bd (PV.cell v567 1) fun v568=>bd (PV.at_ 3 true x1 v568) fun v569=>bd (PV.cell v569 0) fun v570=>bd (PV.bin .neq v570 v12) fun v571=>PV.ite v571 (some [(.int .i64 5),x2,x3,x4,x5,x6,x7,x8,x9,x10,x11])
 (bd (PV.inb (gd r29 0) (.int .i64 0)) fun v572=>bd (PV.at_ 3 true (gd r29 0) (.int .i64 0)) fun v573=>bd (PV.cell v573 1) fun v574=>bd (PV.len (gd r29 0)) fun v575=>bd (PV.cut 3 true (gd r29 0) (.int .i64 1) v575) fun v576=>bd (PV.cut 3 true (gd r29 0) (.int .i64 1) v575) fun v577=>iD v1 v20 v32 v574 x2 x3 x4 x5 x6 x7 x8 x0 x1 x9 x10 x11 v577))) (iD v1 v20 v32 v12 x2 x3 x4 x5 x6 x7 x8 x0 x1 x9 x10 x11 (gd r29 0)))
 (bd (PV.bin .eql v11 (.int .i64 25)) fun v578=>PV.ite v578 (bd (PV.inb (gd r29 0) (.int .i64 0)) fun v579=>bd (PV.at_ 3 true (gd r29 0) (.int .i64 0)) fun v580=>bd (sD v580 x2 x3 x4 x5 x6 x7 x8 x9 x10 x11) fun r581=>some [(.int .i64 0),(gd r581 0),(gd r581 1),(gd r581 2),(gd r581 3),(gd r581 4),(gd r581 5),(gd r581 6),(gd r581 7),(gd r581 8),(gd r581 9)]) (bd (PV.bin .eql v11 (.int .i64 26)) fun v582=>
 PV.ite v582 (bd (PV.len x11) fun v583=>bd (PV.bin .eql v583 (.int .i64 200)) fun v584=>PV.ite v584 (some [(.int .i64 8),x2,x3,x4,x5,x6,x7,x8,x9,x10,x11]) (bd (PV.inb (gd r29 0) (.int .i64 0)) fun v585=>bd (PV.at_ 3 true (gd r29 0) (.int .i64 0)) fun v586=>bd (sC v586 x10) fun r587=>PV.guardFlat (hd r587) (bd (PV.cat 1 16 false (.lst []) (.lst [(hd r587)])) fun v588=>
 bd (PV.cat 1 16 false x11 v588) fun v589=>bd (PV.at_ 4 true x9 v1) fun v590=>bd (PV.at_ 4 true x9 v1) fun v591=>bd (PV.cell v591 3) fun v592=>bd (PV.cut 3 true v592 (.int .i64 0) v20) fun v593=>bd (PV.at_ 4 true x9 v1) fun v594=>bd (PV.cell v594 3) fun v595=>bd (PV.cut 3 true v595 (.int .i64 0) v20) fun v596=>bd (PV.at_ 4 true x9 v1) fun v597=>bd (PV.cell v597 3) fun v598=>bd (PV.setCell 4 x9 v1 3 .hole) fun v599=>
 bd (PV.cat 3 32 true v596 (.lst [])) fun v600=>bd (PV.setCell 4 v599 v1 3 v600) fun v601=>bd (PV.one v32) fun v602=>bd (PV.setCell 4 v601 v1 1 v602) fun v603=>some [(.int .i64 0),x2,x3,x4,x5,x6,x7,x8,v603,x10,v589]))) (bd (PV.at_ 4 true x9 v1) fun v604=>bd (PV.at_ 4 true x9 v1) fun v605=>bd (PV.cell v605 3) fun v606=>bd (PV.cut 3 true v606 (.int .i64 0) v20) fun v607=>bd (PV.at_ 4 true x9 v1) fun v608=>
 bd (PV.cell v608 3) fun v609=>bd (PV.cut 3 true v609 (.int .i64 0) v20) fun v610=>bd (PV.at_ 4 true x9 v1) fun v611=>bd (PV.cell v611 3) fun v612=>bd (PV.setCell 4 x9 v1 3 .hole) fun v613=>bd (PV.cat 3 32 true v610 (.lst [])) fun v614=>bd (PV.setCell 4 v613 v1 3 v614) fun v615=>bd (PV.one v32) fun v616=>bd (PV.setCell 4 v615 v1 1 v616) fun v617=>some [(.int .i64 0),x2,x3,x4,x5,x6,x7,x8,v617,x10,x11])))))))))))))))))))))))))):=bK _ _ _ _ (by kernel_rfl)
theorem aCw (x0 x1 x2 x3 x4 x5 x6 x7 x8 x9 x10 x11 x12 x13 x14 x15 x16 : PV) : iD x0 x1 x2 x3 x4 x5 x6 x7 x8 x9 x10 x11 x12 x13 x14 x15 x16=bd (PV.len x13) fun v0=>bd (PV.bin .eql v0 (.int .i64 24)) fun v1=>PV.ite v1 (some [(.int .i64 6),x4,x5,x6,x7,x8,x9,x10,x13,x14,x15]) (bd (PV.at_ 4 true x13 x0) fun v2=>bd (PV.at_ 4 true x13 x0) fun v3=>bd (PV.cell v3 3) fun v4=>
 bd (PV.cut 3 true v4 (.int .i64 0) x1) fun v5=>bd (PV.at_ 4 true x13 x0) fun v6=>bd (PV.cell v6 3) fun v7=>bd (PV.cut 3 true v7 (.int .i64 0) x1) fun v8=>bd (PV.at_ 4 true x13 x0) fun v9=>bd (PV.cell v9 3) fun v10=>bd (PV.setCell 4 x13 x0 3 .hole) fun v11=>bd (PV.setCell 4 v11 x0 3 v8) fun v12=>bd (PV.one x2) fun v13=>bd (PV.setCell 4 v12 x0 1 v13) fun v14=>bd (qR (.agg [x11,x12]) x3 x16) fun r15=>
 PV.guardFlat (gd r15 0) (PV.guardFlat (gd r15 1) (PV.guardOwn (.own 3 32 true []) (gd r15 2) (PV.guardOwn (.own 3 32 true []) (gd r15 3) (bd (PV.cat 4 64 true v14 (.lst [(.agg [(gd r15 0),(gd r15 1),(gd r15 2),(gd r15 3)])])) fun v16=>some [(.int .i64 0),x4,x5,x6,x7,x8,x9,x10,v16,x14,x15]))))):=aZ _ _ _ _ _ _ _ _ (by kernel_rfl)
theorem aGY (x0 : PV) : wF x0=bd (PV.one x0) fun v0=>some [(.agg [(.int .i64 1),v0,(.str (bs []))])]:=aK _ _ _ (by kernel_rfl)
theorem aF6 (x0 : PV) : kE x0=PV.ite x0 (some [(.agg [(.int .i64 2),(.int .i64 1),(.str (bs []))])]) (some [(.agg [(.int .i64 2),(.int .i64 0),(.str (bs []))])]):=aK _ _ _ (by kernel_rfl)
theorem aBF (x0 : PV) : gJ x0=bd (PV.bin .sub x0 (.int .i64 11)) fun v0=>bd (PV.ix 4 (.agg [(.fn 220 []),(.fn 221 []),(.fn 222 []),(.fn 223 [])]) v0) fun v1=>some [v1]:=aK _ _ _ (by kernel_rfl)
theorem aF7 (x0 x1 : PV) : zB x0 x1=bd (PV.whole 3 x0) fun v0=>bd (PV.cell v0 0) fun v1=>bd (PV.cell v0 1) fun v2=>bd (PV.cell v0 2) fun v3=>bd (PV.whole 3 x1) fun v4=>bd (PV.cell v4 0) fun v5=>bd (PV.cell v4 1) fun v6=>bd (PV.cell v4 2) fun v7=>bd (PV.ceq [1,1,2] .eql (.agg [v1,v2,v3]) (.agg [v5,v6,v7])) fun v8=>bd (kE v8) fun r9=>bd (PV.whole 3 (hd r9)) fun v10=>
 bd (PV.cell v10 0) fun v11=>bd (PV.cell v10 1) fun v12=>bd (PV.cell v10 2) fun v13=>some [(.agg [v11,v12,v13])]:=aK _ _ _ (by kernel_rfl)
theorem aGZ (x0 : PV) : aBj x0=bd (PV.whole 3 x0) fun v0=>bd (PV.cell v0 0) fun v1=>bd (PV.cell v0 1) fun v2=>bd (PV.cell v0 2) fun v3=>bd (PV.bin .neq v1 (.int .i64 2)) fun v4=>PV.ite v4 (some [(.tup [(.agg [(.int .i64 0),(.int .i64 0),(.str (bs []))]),(.int .i64 1)])]) (bd (PV.bin .neq v2 (.int .i64 1)) fun v5=>bd (kE v5) fun r6=>bd (PV.whole 3 (hd r6)) fun v7=>
 bd (PV.cell v7 0) fun v8=>bd (PV.cell v7 1) fun v9=>bd (PV.cell v7 2) fun v10=>some [(.tup [(.agg [v8,v9,v10]),(.int .i64 0)])]):=aK _ _ _ (by kernel_rfl)
theorem aCx (x0 x1 : PV) : sC x0 x1=bd (PV.whole 3 x0) fun v0=>bd (PV.cell v0 0) fun v1=>bd (PV.cell v0 1) fun v2=>bd (PV.cell v0 2) fun v3=>bd (PV.bin .eql v1 (.int .i64 0)) fun v4=>PV.ite v4 (some [(.str (bs [110,105,108]))]) (bd (PV.bin .eql v1 (.int .i64 1)) fun v5=>PV.ite v5 (bd (strconv_Itoa v2) fun r6=>some [(hd r6)]) (bd (PV.bin .eql v1 (.int .i64 2)) fun v7=>
 PV.ite v7 (bd (PV.bin .eql v2 (.int .i64 1)) fun v8=>bd (lY v8) fun r9=>some [(hd r9)]) (bd (PV.bin .eql v1 (.int .i64 3)) fun v10=>PV.ite v10 (some [v3]) (bd (PV.bin .eql v1 (.int .i64 5)) fun v11=>PV.ite v11 (bd (strconv_Itoa v2) fun r12=>bd (PV.bin .add (.str (bs [102,117,110])) (hd r12)) fun v13=>some [v13]) (bd (PV.bin .eql v1 (.int .i64 4)) fun v14=>PV.ite v14
 (bd (PV.len x1) fun v15=>bd (cP v2 v15) fun r16=>PV.ite (hd r16) (bd (PV.at_ 1 true x1 v2) fun v17=>bd (PV.cell v17 0) fun v18=>bd (PV.len v18) fun v19=>bd (strconv_Itoa v19) fun r20=>bd (PV.bin .add (.str (bs [123])) (hd r20)) fun v21=>bd (PV.bin .add v21 (.str (bs [125]))) fun v22=>some [v22]) (some [(.str (bs []))])) (some [(.str (bs []))])))))):=aK _ _ _ (by kernel_rfl)
theorem aG0 (x0 x1 : PV) : aBk x0 x1=bd (PV.whole 3 x0) fun v0=>bd (PV.cell v0 0) fun v1=>bd (PV.cell v0 1) fun v2=>bd (PV.cell v0 2) fun v3=>bd (PV.whole 3 x1) fun v4=>bd (PV.cell v4 0) fun v5=>bd (PV.cell v4 1) fun v6=>bd (PV.cell v4 2) fun v7=>bd (mE (.agg [v1,v2,v3]) (.agg [v5,v6,v7]) (.int .i64 3)) fun r8=>PV.ite (hd r8) (bd (PV.slen v3) fun v9=>
 bd (PV.slen v7) fun v10=>bd (PV.bin .add v9 v10) fun v11=>bd (PV.bin .gtr v11 (.int .i64 60)) fun v12=>PV.ite v12 (some [(.tup [(.agg [(.int .i64 0),(.int .i64 0),(.str (bs []))]),(.int .i64 3)])]) (bd (PV.bin .add v3 v7) fun v13=>bd (PV.one v13) fun v14=>some [(.tup [(.agg [(.int .i64 3),(.int .i64 0),v14]),(.int .i64 0)])])) (bd (nK (.agg [v1,v2,v3]) (.agg [v5,v6,v7]) (.fn 261 [])) fun r15=>
 bd (PV.comp (hd r15) 0) fun v16=>bd (PV.comp (hd r15) 1) fun v17=>bd (PV.whole 3 v16) fun v18=>bd (PV.cell v18 0) fun v19=>bd (PV.cell v18 1) fun v20=>bd (PV.cell v18 2) fun v21=>some [(.tup [(.agg [v19,v20,v21]),v17])]):=aK _ _ _ (by kernel_rfl)
theorem aG1 (x0 x1 : PV) : aBl x0 x1=bd (PV.whole 3 x0) fun v0=>bd (PV.cell v0 0) fun v1=>bd (PV.cell v0 1) fun v2=>bd (PV.cell v0 2) fun v3=>bd (PV.whole 3 x1) fun v4=>bd (PV.cell v4 0) fun v5=>bd (PV.cell v4 1) fun v6=>bd (PV.cell v4 2) fun v7=>bd (nK (.agg [v1,v2,v3]) (.agg [v5,v6,v7]) (.fn 262 [])) fun r8=>bd (PV.comp (hd r8) 0) fun v9=>bd (PV.comp (hd r8) 1) fun v10=>
 bd (PV.whole 3 v9) fun v11=>bd (PV.cell v11 0) fun v12=>bd (PV.cell v11 1) fun v13=>bd (PV.cell v11 2) fun v14=>some [(.tup [(.agg [v12,v13,v14]),v10])]:=aK _ _ _ (by kernel_rfl)
theorem aG2 (x0 x1 : PV) : aBm x0 x1=bd (PV.whole 3 x0) fun v0=>bd (PV.cell v0 0) fun v1=>bd (PV.cell v0 1) fun v2=>bd (PV.cell v0 2) fun v3=>bd (PV.whole 3 x1) fun v4=>bd (PV.cell v4 0) fun v5=>bd (PV.cell v4 1) fun v6=>bd (PV.cell v4 2) fun v7=>bd (nK (.agg [v1,v2,v3]) (.agg [v5,v6,v7]) (.fn 263 [])) fun r8=>bd (PV.comp (hd r8) 0) fun v9=>bd (PV.comp (hd r8) 1) fun v10=>
 bd (PV.whole 3 v9) fun v11=>bd (PV.cell v11 0) fun v12=>bd (PV.cell v11 1) fun v13=>bd (PV.cell v11 2) fun v14=>some [(.tup [(.agg [v12,v13,v14]),v10])]:=aK _ _ _ (by kernel_rfl)
theorem aF8 (x0 x1 : PV) : zC x0 x1=bd (PV.whole 3 x0) fun v0=>bd (PV.cell v0 0) fun v1=>bd (PV.cell v0 1) fun v2=>bd (PV.cell v0 2) fun v3=>bd (PV.whole 3 x1) fun v4=>bd (PV.cell v4 0) fun v5=>bd (PV.cell v4 1) fun v6=>bd (PV.cell v4 2) fun v7=>bd (mE (.agg [v1,v2,v3]) (.agg [v5,v6,v7]) (.int .i64 1)) fun r8=>PV.ite (hd r8) (bd (PV.bin .lss v2 v6) fun v9=>
 bd (kE v9) fun r10=>bd (PV.whole 3 (hd r10)) fun v11=>bd (PV.cell v11 0) fun v12=>bd (PV.cell v11 1) fun v13=>bd (PV.cell v11 2) fun v14=>some [(.tup [(.agg [v12,v13,v14]),(.int .i64 0)])]) (bd (mE (.agg [v1,v2,v3]) (.agg [v5,v6,v7]) (.int .i64 3)) fun r15=>PV.ite (hd r15) (bd (pZ v3 v7) fun r16=>bd (kE (hd r16)) fun r17=>bd (PV.whole 3 (hd r17)) fun v18=>
 bd (PV.cell v18 0) fun v19=>bd (PV.cell v18 1) fun v20=>bd (PV.cell v18 2) fun v21=>some [(.tup [(.agg [v19,v20,v21]),(.int .i64 0)])]) (some [(.tup [(.agg [(.int .i64 0),(.int .i64 0),(.str (bs []))]),(.int .i64 1)])])):=aK _ _ _ (by kernel_rfl)
theorem aEI (x0 : PV) : strconv_Itoa x0=xO [x0]:=aK _ _ _ (by kernel_rfl)
theorem xL (x0 : PV) : lY x0=bd (jN x0) fun r0=>some [(hd r0)]:=aK _ _ _ (by kernel_rfl)
theorem aEJ (x0 x1 x2 : PV) : nK x0 x1 x2=bd (PV.whole 3 x0) fun v0=>bd (PV.cell v0 0) fun v1=>bd (PV.cell v0 1) fun v2=>bd (PV.cell v0 2) fun v3=>bd (PV.whole 3 x1) fun v4=>bd (PV.cell v4 0) fun v5=>bd (PV.cell v4 1) fun v6=>bd (PV.cell v4 2) fun v7=>bd (mE (.agg [v1,v2,v3]) (.agg [v5,v6,v7]) (.int .i64 1)) fun r8=>bd (PV.not (hd r8)) fun v9=>
 PV.ite v9 (some [(.tup [(.agg [(.int .i64 0),(.int .i64 0),(.str (bs []))]),(.int .i64 1)])]) (bd (kD v2) fun r10=>bd (PV.not (hd r10)) fun v11=>PV.ite v11 (some [(.tup [(.agg [(.int .i64 0),(.int .i64 0),(.str (bs []))]),(.int .i64 2)])]) (bd (kD v6) fun r12=>bd (PV.not (hd r12)) fun v13=>PV.ite v13 (some [(.tup [(.agg [(.int .i64 0),(.int .i64 0),(.str (bs []))]),(.int .i64 2)])])
 (bd (PV.apply aJ x2 [v2,v6]) fun r14=>bd (kD (hd r14)) fun r15=>bd (PV.not (hd r15)) fun v16=>PV.ite v16 (some [(.tup [(.agg [(.int .i64 0),(.int .i64 0),(.str (bs []))]),(.int .i64 2)])]) (bd (PV.apply aJ x2 [v2,v6]) fun r17=>bd (wF (hd r17)) fun r18=>bd (PV.whole 3 (hd r18)) fun v19=>bd (PV.cell v19 0) fun v20=>bd (PV.cell v19 1) fun v21=>bd (PV.cell v19 2) fun v22=>
 some [(.tup [(.agg [v20,v21,v22]),(.int .i64 0)])])))):=aK _ _ _ (by kernel_rfl)
theorem aEK (x0 x1 : PV) : wG x0 x1=bd (PV.bin .add x0 x1) fun v0=>some [v0]:=aK _ _ _ (by kernel_rfl)
theorem aEL (x0 x1 : PV) : wH x0 x1=bd (PV.bin .sub x0 x1) fun v0=>some [v0]:=aK _ _ _ (by kernel_rfl)
theorem aEM (x0 x1 : PV) : wI x0 x1=bd (PV.bin .mul x0 x1) fun v0=>some [v0]:=aK _ _ _ (by kernel_rfl)
theorem aBG (x0 x1 : PV) : pZ x0 x1=bd (kV x0) fun r0=>PV.ite (hd r0) (bd (kV x1) fun r1=>bd (PV.not (hd r1)) fun v2=>PV.ite v2 (some [.bool true]) (bd (PV.bin .lss x0 x1) fun v3=>some [v3])) (bd (PV.bin .lss x0 x1) fun v4=>some [v4]):=aK _ _ _ (by kernel_rfl)
theorem oK (x0 : PV) : jN x0=PV.ite x0 (some [(.str (bs [116,114,117,101]))]) (some [(.str (bs [102,97,108,115,101]))]):=aK _ _ _ (by kernel_rfl)
theorem aAu (x0 : PV) : kV x0=bd (PV.bin .neq x0 x0) fun v0=>some [v0]:=aK _ _ _ (by kernel_rfl)
theorem aH9 (x0 : PV) : aAf x0=bd (PV.zeros 32 (.agg [(.int .i64 0),(.int .i64 0),(.str (bs []))]) x0) fun v0=>bd (PV.bin .leq x0 x0) fun v1=>PV.ite v1 (bd (PV.zeros 32 (.agg [(.int .i64 0),(.int .i64 0),(.str (bs []))]) x0) fun v2=>some [v2]) (none):=bK _ _ _ _ (by kernel_rfl)
theorem kG (x0 : PV) : eB x0=bd (PV.len x0) fun v0=>bI x0 (.int .i64 0) x0 v0 (.int .i64 0):=bK _ _ _ _ (by kernel_rfl)
theorem dB (x0 x1 x2 x3 x4 : PV) : bI x0 x1 x2 x3 x4=bd (PV.bin .lss x4 x3) fun v0=>PV.ite v0 (bd (PV.at_ 1 false x2 x4) fun v1=>bd (PV.len v1) fun v2=>bd (PV.bin .add x1 v2) fun v3=>bd (PV.bin .lss v3 (.int .i64 0)) fun v4=>PV.ite v4 (none) (bd (PV.bin .add x4 (.int .i64 1)) fun v5=>bI x0 v3 x2 x3 v5))
 (bd (eN x1) fun r6=>bd (PV.len x0) fun v7=>bG x0 v7 (.int .i64 0) (gd r6 0)):=aZ _ _ _ _ _ _ _ _ (by kernel_rfl)
theorem cY (x0 x1 x2 x3 : PV) : bG x0 x1 x2 x3=bd (PV.bin .lss x2 x1) fun v0=>PV.ite v0 (bd (PV.at_ 1 false x0 x2) fun v1=>bd (PV.cat 3 32 true x3 v1) fun v2=>bd (PV.bin .add x2 (.int .i64 1)) fun v3=>bG x0 x1 v3 v2) (some [x3]):=aZ _ _ _ _ _ _ _ _ (by kernel_rfl)
theorem kX (x0 : PV) : bP x0=bd (PV.isLst x0) fun v0=>PV.nilT v0 (some [(.lst [])]) (bd (PV.cat 3 32 true (.lst []) x0) fun v1=>some [v1]):=bK _ _ _ _ (by kernel_rfl)
theorem lD (x0 x1 x2 : PV) : eM x0 x1 x2=jS [.ref 0 [],.p x0,.ref 1 []] ⟨[],[(0,some ⟨(.own 4 32 true []),x1⟩),(1,some ⟨(.own 4 32 true []),x2⟩)],0,0,2⟩:=bK _ _ _ _ (by kernel_rfl)
theorem aDD (x0 x1 x2 x3 x4 x5 x6 x7 x8 x9 x10 x11 : PV) : oZ x0 x1 x2 x3 x4 x5 x6 x7 x8 x9 x10 x11=bd (PV.whole 3 x0) fun v0=>bd (PV.cell v0 0) fun v1=>bd (PV.cell v0 1) fun v2=>bd (PV.cell v0 2) fun v3=>bd (PV.bin .neq v1 (.int .i64 4)) fun v4=>PV.ite v4 (some [.nil,.nil,(.int .i64 1),x2,x3,x4,x5,x6,x7,x8,x9,x10,x11]) (bd (PV.inb x10 v2) fun v5=>bd (PV.at_ 1 true x10 v2) fun v6=>
 bd (PV.at_ 1 true x10 v2) fun v7=>bd (PV.cell v7 0) fun v8=>bd (PV.len v8) fun v9=>bd (PV.bin .geq x1 v9) fun v10=>PV.ite v10 (some [.nil,.nil,(.int .i64 4),x2,x3,x4,x5,x6,x7,x8,x9,x10,x11]) (bd (PV.inb x10 v2) fun v11=>bd (PV.at_ 1 true x10 v2) fun v12=>bd (PV.at_ 1 true x10 v2) fun v13=>bd (PV.cell v13 0) fun v14=>bd (PV.inb v14 x1) fun v15=>some [v2,x1,(.int .i64 0),x2,x3,x4,x5,x6,x7,x8,x9,x10,x11])):=bK _ _ _ _ (by kernel_rfl)
theorem aCy (x0 x1 x2 x3 x4 x5 x6 x7 x8 x9 x10 : PV) : sD x0 x1 x2 x3 x4 x5 x6 x7 x8 x9 x10=bd (PV.whole 3 x0) fun v0=>bd (PV.cell v0 0) fun v1=>bd (PV.cell v0 1) fun v2=>bd (PV.cell v0 2) fun v3=>bd (PV.len x8) fun v4=>bd (PV.bin .sub v4 (.int .i64 1)) fun v5=>bd (PV.cut 4 true x8 (.int .i64 0) v5) fun v6=>bd (PV.cut 4 true x8 (.int .i64 0) v5) fun v7=>bd (PV.bin .eql v5 (.int .i64 0)) fun v8=>
 PV.ite v8 (some [x1,(.int .i64 1),x3,v1,v2,v3,x7,v7,x9,x10]) (bd (PV.bin .sub v5 (.int .i64 1)) fun v9=>bd (PV.inb v7 v9) fun v10=>bd (PV.at_ 4 true v7 v9) fun v11=>bd (PV.at_ 4 true v7 v9) fun v12=>bd (PV.cell v12 3) fun v13=>bd (PV.at_ 4 true v7 v9) fun v14=>bd (PV.cell v14 3) fun v15=>bd (PV.setCell 4 v7 v9 3 .hole) fun v16=>bd (PV.cat 3 32 true v13 (.lst [(.agg [v1,v2,v3])])) fun v17=>
 bd (PV.setCell 4 v16 v9 3 v17) fun v18=>some [x1,x2,x3,x4,x5,x6,x7,v18,x9,x10]):=bK _ _ _ _ (by kernel_rfl)
theorem lE (x0 : PV) : eN x0=rI 32 [.nils,.p x0] ⟨[],[],0,0,0⟩:=bK _ _ _ _ (by kernel_rfl)
end
end Go.Proofs.YthkofpnllaapeaaGreatDoor

namespace Go.Proofs.YthkofpnllaapeaaGreatDoor
noncomputable section
open Go
attribute [local irreducible] bd PV.ite PV.guardFlat PV.guardOwn PV.whole PV.one PV.cell PV.sub PV.at_ PV.len PV.slen PV.chr PV.beq PV.peq PV.ceq PV.bin PV.neg PV.not PV.conv PV.cut PV.scut PV.cat PV.setAt PV.setCell PV.ncopy PV.copyIn PV.zeros PV.toStr PV.toBytes PV.deref PV.isPtr PV.comp PV.inb PV.off PV.imin PV.imax PV.sel PV.apply PV.isLst PV.isInt PV.ix PV.nilT
def Bts (l : List Int) : Prop:=(∀ x∈l,0≤x∧x≤255)∧l.length≤1048576
def aPI (l : List Int) (n a : Int) (r : R) : Prop:=∃ v a' s' : Int,r = [.int .i64 v,oT l,.int .i64 a',.int .i64 s']∧0≤v∧(v<n∨v=0)∧a≤a'∧a'≤a+1∧0≤s'∧s'<65521
section
variable {P : R → Prop} {k : R → Option R} {l : List Int} {a s : Int}
end
structure bE where
 o : Int
 a : Int
 deriving DecidableEq
structure cN where
 p : Int
 lc : Int
 code : List bE
 deriving DecidableEq
structure dT where
 texts : List ByteArray
 funcs : List cN
def bE.pv (x : bE) : PV:=.agg [.int .i64 x.o,.int .i64 x.a]
def cN.pv (f : cN) : PV:=.agg [.int .i64 f.p,.int .i64 f.lc,.lst (f.code.map bE.pv)]
def dT.pv (m : dT) : PV:=.agg [.lst (m.texts.map PV.str),.lst (m.funcs.map cN.pv)]
def iP (n lo hi : Int) : Bool:=decide (lo≤n)&&decide (n≤hi)
def chB (c : UInt8) : Bool:=!(decide ((c.toNat : Int)<32))&&(!(decide ((126 : Int)<c.toNat))&&!(decide ((c.toNat : Int)=34)))
def gF (s : ByteArray) : Bool:=decide ((s.size : Int)≤60)&&s.data.toList.all chB
def bU (nt nf lc nc o a : Int) : Bool:=
 if o=1 then iP a (-1000000000) 1000000000 else if o=2 then iP a 0 1 else if o=3 then iP a 0 (nt - 1) else if o=5 then iP a 0 (nf - 1) else if o=24 then iP a 0 (nf - 1)
 else if o=6 then iP a 0 (lc - 1) else if o=7 then iP a 0 (lc - 1) else if o=17 then iP a 0 (nc - 1) else if o=18 then iP a 0 (nc - 1) else if o=19 then iP a 0 (nc - 1)
 else if o=20 then iP a 0 6 else if o=21 then iP a 0 5 else if o=22 then iP a 0 5 else if o=23 then iP a 0 6 else iP o 1 26&&decide (a=0)
def sO (nt nf : Int) (f : cN) : Bool:=iP f.p 0 6&&(iP f.lc f.p 12&&(iP f.code.length 1 120&&f.code.all fun x=>bU nt nf f.lc f.code.length x.o x.a))
def dT.okB (m : dT) : Bool:=iP m.funcs.length 1 12&&(decide ((m.texts.length : Int)≤20)&&(m.texts.all gF&&m.funcs.all (sO m.texts.length m.funcs.length)))
def dT.sized (m : dT) : Prop:=m.texts.length≤2097152∧m.funcs.length≤2097152∧(∀ t∈m.texts,t.size≤2097152)∧∀ f∈m.funcs,f.code.length≤1000000000
section
variable {P : R → Prop} {k : PV → Option R} {α : Type} {f : α → PV} {xs : List α}
theorem aQ {s : Nat} {g : Bool} {kk : IntKind} {i : Nat} (hi : i<xs.length) (hel : ∀ a,(f a).isEl s g=true) (h : Ok P (k (f xs[i]))) : Ok P (bd (PV.at_ s g (.lst (xs.map f)) (.int kk (i : Int))) k):=by
 refine aML (by omega) (by rw [List.length_map];omega) (fun x hx=>?_) (fun x _ hx=>?_)
 ·obtain ⟨a,_,rfl⟩:=List.mem_map.1 hx;exact hel a
 ·rw [Int.toNat_natCast,List.getElem?_map,List.getElem?_eq_getElem hi] at hx
  cases hx
  exact h
theorem aE (h : Ok P (k (.int .i64 xs.length))) : Ok P (bd (PV.len (.lst (xs.map f))) k):=by
 refine bS ?_
 rw [List.length_map]
 exact h
theorem aOF {s : ByteArray} {i : Nat} (hi : i<s.data.toList.length) : s[i]? = some s.data.toList[i]:=by
 have h : i<s.size:=by
  have e : s.size=s.data.toList.length:=by rw [Array.length_toList];rfl
  rw [e];exact hi
 rw [getElem?_pos s i h,Array.getElem_toList]
 rfl
theorem aDE {s : ByteArray} {kk : IntKind} {i : Nat} (hi : i<s.data.toList.length) (h : Ok P (k (.int .u8 (s.data.toList[i].toNat : Int)))) : Ok P (bd (PV.chr (.str s) (.int kk (i : Int))) k):=by
 refine cK _ ?_ h
 simp only [PV.chr]
 rw [if_pos (by omega),Int.toNat_natCast,aOF hi]
theorem gC {k : R→Option R} {n lo hi : Int} (h : Ok P (k [.bool (iP n lo hi)])) : Ok P (bd (cB (.int .i64 n) (.int .i64 lo) (.int .i64 hi)) k):=by
 refine aG (Q:=fun r=>r = [.bool (iP n lo hi)]) ?_ (fun r hr=>by rw [hr];exact h)
 rw [aEx]
 refine lB (aC (fun h1=>lB (aB ?_)) (fun h1=>aB ?_))
 ·simp [iP,h1]
 ·simp [iP,h1]
theorem fD {k : R→Option R} {n lo hi : Int} (h : Ok P (k [.bool (iP n lo hi)])) : Ok P (bd (aP (.int .i64 n) (.int .i64 lo) (.int .i64 hi)) k):=by
 refine aG (Q:=fun r=>r = [.bool (iP n lo hi)]) ?_ (fun r hr=>by rw [hr];exact h)
 rw [aBn]
 refine oF (aC (fun h1=>lB (aB ?_)) (fun h1=>aB ?_))
 ·simp [iP,h1]
 ·simp [iP,h1]
theorem gT {k : R→Option R} {n m : Int} (hm : -1000000000≤m∧m≤1000000000) (h : Ok P (k [.bool (iP n 0 (m - 1))])) : Ok P (bd (cP (.int .i64 n) (.int .i64 m)) k):=by
 refine aG (Q:=fun r=>r = [.bool (iP n 0 (m - 1))]) ?_ (fun r hr=>by rw [hr];exact h)
 rw [aEE]
 exact bW (by omega) (gC (aB rfl))
theorem aMM {k : R→Option R} {n : Int} (h : Ok P (k [.bool (iP n (-1000000000) 1000000000)])) : Ok P (bd (kD (.int .i64 n)) k):=by
 refine aG (Q:=fun r=>r = [.bool (iP n (-1000000000) 1000000000)]) ?_ (fun r hr=>by rw [hr];exact h)
 rw [aAJ]
 exact gC (aB rfl)
end
theorem vA {α : Type} {xs : List α} {i : Nat} (hi : i<xs.length) (p : α→Bool) : (xs.drop i).all p=(p xs[i]&&(xs.drop (i+1)).all p):=by
 rw [List.drop_eq_getElem_cons hi,List.all_cons]
theorem aOr {c : UInt8} (h : (c.toNat : Int)<32) : chB c=false:=by unfold chB;rw [decide_eq_true h];rfl
theorem aOs {c : UInt8} (h : (126 : Int)<c.toNat) : chB c=false:=by unfold chB;rw [decide_eq_true h];simp
theorem aOt {c : UInt8} (h : (c.toNat : Int)=34) : chB c=false:=by unfold chB;rw [decide_eq_true h];simp
theorem aF9 {s : ByteArray} (hs : s.size≤2097152) : ∀ (j i : Nat),s.data.toList.length - i=j→i≤s.data.toList.length→
 Ok (fun r=>r = [.bool ((s.data.toList.drop i).all chB)]) (lQ (.str s) (.int .i64 i)):=by
 have hsz : s.size=s.data.toList.length:=by rw [Array.length_toList];rfl
 intro j
 induction j with
 | zero=>
   intro i h1 h2
   have : i=s.data.toList.length:=by omega
   rw [sK]
   refine mY (aH (aC (fun h=>by omega) (fun _=>aB ?_)))
   rw [this,List.drop_length];rfl
 | succ j ih=>
   intro i h1 h2
   have hi : i<s.data.toList.length:=by omega
   rw [sK,vA hi]
   refine mY (aH (aC (fun _=>?_) (fun h=>by omega)))
   refine aDE hi (aH (aC (fun h=>aB (by rw [aOr h];rfl)) (fun h3=>?_)))
   refine aDE hi (mX (aC (fun h=>aB (by rw [aOs h];rfl)) (fun h4=>?_)))
   refine aDE hi (aF (aC (fun h=>aB (by rw [aOt h];rfl)) (fun h5=>?_)))
   refine aM (by omega) ((ih (i+1) (by omega) (by omega)).mono ?_)
   rintro r rfl
   have : chB s.data.toList[i]=true:=by unfold chB;rw [decide_eq_false h3,decide_eq_false h4,decide_eq_false h5];rfl
   rw [this,Bool.true_and]
theorem aK8 {P : R→Prop} {k : R→Option R} {s : ByteArray} (hs : s.size≤2097152) (h : Ok P (k [.bool (gF s)])) : Ok P (bd (nE (.str s)) k):=by
 refine aG (Q:=fun r=>r = [.bool (gF s)]) ?_ (fun r hr=>by rw [hr];exact h)
 rw [aEu]
 refine mY (mX (aC (fun h=>aB ?_) (fun h=>?_)))
 ·have : ¬ ((s.size : Int)≤60):=by omega
  simp [gF,this]
 ·refine (aF9 hs _ 0 rfl (by omega)).mono ?_
  rintro r rfl
  have : (s.size : Int)≤60:=by omega
  rw [List.drop_zero]
  simp [gF,this]
theorem aGa {s : ByteArray} (hs : s.size≤2097152) : ∀ (j i : Nat),s.data.toList.length - i=j→i≤s.data.toList.length→
 Ok (fun r=>r = [.bool (decide ((s.size : Int)≤60)&&(s.data.toList.drop i).all chB)]) (nH (.str s) (.int .i64 s.size) (.int .i64 i)):=by
 have hsz : s.size=s.data.toList.length:=by rw [Array.length_toList];rfl
 intro j
 induction j with
 | zero=>
   intro i h1 h2
   have : i=s.data.toList.length:=by omega
   rw [tP]
   refine aH (aC (fun h=>by omega) (fun _=>mY (lB (aB ?_))))
   rw [this,List.drop_length]
   simp
 | succ j ih=>
   intro i h1 h2
   have hi : i<s.data.toList.length:=by omega
   rw [tP,vA hi]
   refine aH (aC (fun _=>?_) (fun h=>by omega))
   refine aDE hi (aH (aC (fun h=>aB (by rw [aOr h];simp)) (fun h3=>?_)))
   refine aDE hi (mX (aC (fun h=>aB (by rw [aOs h];simp)) (fun h4=>?_)))
   refine aDE hi (aF (aC (fun h=>aB (by rw [aOt h];simp)) (fun h5=>?_)))
   refine aM (by omega) ((ih (i+1) (by omega) (by omega)).mono ?_)
   rintro r rfl
   have : chB s.data.toList[i]=true:=by unfold chB;rw [decide_eq_false h3,decide_eq_false h4,decide_eq_false h5];rfl
   rw [this,Bool.true_and]
theorem aHr {s : ByteArray} (hs : s.size≤2097152) : Ok (fun r=>r = [.bool (gF s)]) (pF (.str s)):=by
 rw [aF4]
 refine mY ((aGa hs _ 0 rfl (by omega)).mono ?_)
 rintro r rfl
 rw [List.drop_zero]
 rfl
theorem aMN {ts : List ByteArray} {fs : List cN} {i : Nat} {x : bE} (ht : ts.length≤2097152) (hf : fs.length≤2097152) (hi : i<fs.length) (hlc : 0≤fs[i].lc∧fs[i].lc≤12) (hc : fs[i].code.length≤1000) :
 Ok (fun r=>r = [.bool (bU ts.length fs.length fs[i].lc fs[i].code.length x.o x.a)]) (aA7 (.agg [.lst (ts.map PV.str),.lst (fs.map cN.pv)]) (.int .i64 i) x.pv):=by
 rw [aGL]
 refine aD rfl (aA rfl (aA rfl (aD rfl (aA rfl (aA rfl ?_)))))
 refine aE (bW (by omega) (fD (bX ?_)))
 have hb : iP (i : Int) 0 ((fs.length : Int) - 1)=true:=by
  simp only [iP,Bool.and_eq_true,decide_eq_true_eq]
  omega
 rw [hb]
 refine aV ?_
 refine aF (aC (fun h=>fD (aB (by simp [hd,bU,h]))) (fun h1=>?_))
 refine aF (aC (fun h=>fD (aB (by simp [hd,bU,h]))) (fun h2=>?_))
 refine aF (aC (fun h=>aE (bW (by omega) (fD (aB (by simp [hd,bU,h]))))) (fun h3=>?_))
 refine aF (aC (fun h=>aE (bW (by omega) (fD (aB (by simp [hd,bU,h]))))) (fun h5=>?_))
 refine aF (aC (fun h=>aE (bW (by omega) (fD (aB (by simp [hd,bU,h]))))) (fun h24=>?_))
 refine aF (aC (fun h=>aQ hi (fun _=>rfl) (aA rfl (bW (by omega) (fD (aB (by simp [hd,bU,h])))))) (fun h6=>?_))
 refine aF (aC (fun h=>aQ hi (fun _=>rfl) (aA rfl (bW (by omega) (fD (aB (by simp [hd,bU,h])))))) (fun h7=>?_))
 refine aF (aC (fun h=>aQ hi (fun _=>rfl) (aA rfl (aE (bW (by omega) (fD (aB (by simp [hd,bU,h]))))))) (fun h17=>?_))
 refine aF (aC (fun h=>aQ hi (fun _=>rfl) (aA rfl (aE (bW (by omega) (fD (aB (by simp [hd,bU,h]))))))) (fun h18=>?_))
 refine aF (aC (fun h=>aQ hi (fun _=>rfl) (aA rfl (aE (bW (by omega) (fD (aB (by simp [hd,bU,h]))))))) (fun h19=>?_))
 refine aF (aC (fun h=>fD (aB (by simp [hd,bU,h]))) (fun h20=>?_))
 refine aF (aC (fun h=>fD (aB (by simp [hd,bU,h]))) (fun h21=>?_))
 refine aF (aC (fun h=>fD (aB (by simp [hd,bU,h]))) (fun h22=>?_))
 refine aF (aC (fun h=>fD (aB (by simp [hd,bU,h]))) (fun h23=>?_))
 refine fD (bQ (fun hb=>aF (aB (by simp [hd,bU,hb,h1,h2,h3,h5,h24,h6,h7,h17,h18,h19,h20,h21,h22,h23]))) (fun hb=>aB (by simp [hd,bU,hb,h1,h2,h3,h5,h24,h6,h7,h17,h18,h19,h20,h21,h22,h23])))
theorem aMO {ts : List ByteArray} {fs : List cN} {f : cN} {x : bE} (ht : ts.length≤2097152) (hf : fs.length≤2097152) (hlc : 0≤f.lc∧f.lc≤12) (hc : f.code.length≤1000) :
 Ok (fun r=>r = [.bool (bU ts.length fs.length f.lc f.code.length x.o x.a)]) (aBe (.agg [.lst (ts.map PV.str),.lst (fs.map cN.pv)]) f.pv x.pv):=by
 rw [aGT]
 refine aD rfl (aA rfl (aA rfl (aD rfl (aA rfl (aA rfl (aA rfl (aD rfl (aA rfl (aA rfl ?_)))))))))
 refine aF (aC (fun h=>aMM (aB (by simp [hd,bU,h]))) (fun h1=>?_))
 refine aF (aC (fun h=>gC (aB (by simp [hd,bU,h]))) (fun h2=>?_))
 refine aF (aC (fun h=>aE (gT (by omega) (aB (by simp [hd,bU,h])))) (fun h3=>?_))
 refine aF (aC (fun h=>aE (gT (by omega) (aB (by simp [hd,bU,h])))) (fun h5=>?_))
 refine aF (aC (fun h=>aE (gT (by omega) (aB (by simp [hd,bU,h])))) (fun h24=>?_))
 refine aF (aC (fun h=>gT (by omega) (aB (by simp [hd,bU,h]))) (fun h6=>?_))
 refine aF (aC (fun h=>gT (by omega) (aB (by simp [hd,bU,h]))) (fun h7=>?_))
 refine aF (aC (fun h=>aE (gT (by omega) (aB (by simp [hd,bU,h])))) (fun h17=>?_))
 refine aF (aC (fun h=>aE (gT (by omega) (aB (by simp [hd,bU,h])))) (fun h18=>?_))
 refine aF (aC (fun h=>aE (gT (by omega) (aB (by simp [hd,bU,h])))) (fun h19=>?_))
 refine aF (aC (fun h=>gC (aB (by simp [hd,bU,h]))) (fun h20=>?_))
 refine aF (aC (fun h=>gT (by omega) (aB (by simp [hd,bU,h]))) (fun h21=>?_))
 refine aF (aC (fun h=>gT (by omega) (aB (by simp [hd,bU,h]))) (fun h22=>?_))
 refine aF (aC (fun h=>gC (aB (by simp [hd,bU,h]))) (fun h23=>?_))
 refine gC (bQ (fun hb=>aF (aB (by simp [hd,bU,hb,h1,h2,h3,h5,h24,h6,h7,h17,h18,h19,h20,h21,h22,h23]))) (fun hb=>aB (by simp [hd,bU,hb,h1,h2,h3,h5,h24,h6,h7,h17,h18,h19,h20,h21,h22,h23])))
section
variable {ts : List ByteArray} {fs : List cN} (ht : ts.length ≤ 2097152) (hf : fs.length ≤ 2097152)
include ht hf
theorem aIa {i : Nat} (hi : i<fs.length) (hlc : 0≤fs[i].lc∧fs[i].lc≤12) (hc : fs[i].code.length≤1000) {b : Bool} (hb : Ok (fun r=>r = [.bool b]) (iA (.int .i64 ((i : Int)+1)) (.lst (ts.map PV.str)) (.lst (fs.map cN.pv)))) :
 ∀ (j n : Nat),fs[i].code.length - n=j→n≤fs[i].code.length→
 Ok (fun r=>r = [.bool ((fs[i].code.drop n).all (fun x=>bU ts.length fs.length fs[i].lc fs[i].code.length x.o x.a)&&b)])
  (jK (.int .i64 i) (.int .i64 n) (.lst (ts.map PV.str)) (.lst (fs.map cN.pv)) (.int .i64 fs[i].p) (.int .i64 fs[i].lc) (.lst (fs[i].code.map bE.pv))):=by
 intro j
 induction j with
 | zero=>
   intro n h1 h2
   have : n=fs[i].code.length:=by omega
   rw [pM]
   refine aE (aH (aC (fun h=>by omega) (fun _=>aM (by omega) ?_)))
   rw [this,List.drop_length]
   exact hb
 | succ j ih=>
   intro n h1 h2
   have hn : n<fs[i].code.length:=by omega
   rw [pM,vA hn]
   refine aE (aH (aC (fun _=>?_) (fun h=>by omega)))
   refine aQ hn (fun _=>rfl) (aG (aMN ht hf hi hlc hc) (fun r hr=>?_))
   subst hr
   refine bX (bQ (fun h=>aB ?_) (fun h=>?_))
   ·have : bU ts.length fs.length fs[i].lc fs[i].code.length fs[i].code[n].o fs[i].code[n].a=false:=by simpa using h
    rw [this];rfl
   ·have : bU ts.length fs.length fs[i].lc fs[i].code.length fs[i].code[n].o fs[i].code[n].a=true:=by simpa using h
    rw [this,Bool.true_and]
    exact aM (by omega) (ih (n+1) (by omega) (by omega))
theorem aIb : ∀ (j i : Nat),fs.length - i=j→i≤fs.length→
 Ok (fun r=>r = [.bool ((fs.drop i).all (sO ts.length fs.length))]) (iA (.int .i64 i) (.lst (ts.map PV.str)) (.lst (fs.map cN.pv))):=by
 intro j
 induction j with
 | zero=>
   intro i h1 h2
   have : i=fs.length:=by omega
   rw [qK]
   refine aE (aH (aC (fun h=>by omega) (fun _=>aB ?_)))
   rw [this,List.drop_length];rfl
 | succ j ih=>
   intro i h1 h2
   have hi : i<fs.length:=by omega
   rw [qK,vA hi]
   refine aE (aH (aC (fun _=>?_) (fun h=>by omega)))
   refine aQ hi (fun _=>rfl) (aD rfl (aA rfl (aA rfl (aA rfl ?_))))
   refine fD (bX (bQ (fun h=>aB ?_) (fun h1'=>?_)))
   ·have : iP fs[i].p 0 6=false:=by simpa using h
    simp [sO,this]
   refine fD (bX (bQ (fun h=>aB ?_) (fun h2'=>?_)))
   ·have : iP fs[i].lc fs[i].p 12=false:=by simpa using h
    simp [sO,this]
   refine aE (fD (bX (bQ (fun h=>aB ?_) (fun h3'=>?_))))
   ·have : iP (fs[i].code.length : Int) 1 120=false:=by simpa using h
    simp [sO,this]
   have g1 : iP fs[i].p 0 6=true:=by simpa using h1'
   have g2 : iP fs[i].lc fs[i].p 12=true:=by simpa using h2'
   have g3 : iP (fs[i].code.length : Int) 1 120=true:=by simpa using h3'
   have q1:=g1
   have q2:=g2
   have q3:=g3
   simp only [iP,Bool.and_eq_true,decide_eq_true_eq] at q1 q2 q3
   refine (aIa ht hf hi (by omega) (by omega) (ih (i+1) (by omega) (by omega)) _ 0 rfl (by omega)).mono ?_
   rintro r rfl
   rw [List.drop_zero]
   simp only [sO,g1,g2,g3,Bool.true_and]
theorem aG3 (hs : ∀ t∈ts,t.size≤2097152) : ∀ (j i : Nat),ts.length - i=j→i≤ts.length→
 Ok (fun r=>r = [.bool ((ts.drop i).all gF&&fs.all (sO ts.length fs.length))]) (kQ (.int .i64 i) (.lst (ts.map PV.str)) (.lst (fs.map cN.pv))):=by
 intro j
 induction j with
 | zero=>
   intro i h1 h2
   have : i=ts.length:=by omega
   rw [qJ]
   refine aE (aH (aC (fun h=>by omega) (fun _=>?_)))
   rw [this,List.drop_length]
   exact aIb ht hf _ 0 rfl (by omega)
 | succ j ih=>
   intro i h1 h2
   have hi : i<ts.length:=by omega
   rw [qJ,vA hi]
   refine aE (aH (aC (fun _=>?_) (fun h=>by omega)))
   refine aQ hi (fun _=>rfl) (aK8 (hs _ (List.getElem_mem _)) (bX (bQ (fun h=>aB ?_) (fun h=>?_))))
   ·have : gF ts[i]=false:=by simpa using h
    rw [this];rfl
   ·have : gF ts[i]=true:=by simpa using h
    rw [this,Bool.true_and]
    exact aM (by omega) (ih (i+1) (by omega) (by omega))
end
theorem aG4 {m : dT} (h : m.sized) : Ok (fun r=>r = [.bool m.okB]) (uC m.pv):=by
 obtain ⟨ht,hf,hs,_⟩:=h
 rw [aDq]
 refine aD rfl (aA rfl (aA rfl (aE (fD (bX (bQ (fun h=>aB ?_) (fun h1=>?_)))))))
 ·have : iP (m.funcs.length : Int) 1 12=false:=by simpa using h
  simp [dT.okB,this]
 refine aE (mX (aC (fun h=>aB ?_) (fun h2=>?_)))
 ·have : ¬ ((m.texts.length : Int)≤20):=by omega
  simp only [dT.okB,decide_eq_false this,Bool.false_and,Bool.and_false]
 have g1 : iP (m.funcs.length : Int) 1 12=true:=by simpa using h1
 have g2 : (m.texts.length : Int)≤20:=by omega
 refine (aG3 ht hf hs _ 0 rfl (by omega)).mono ?_
 rintro r rfl
 rw [List.drop_zero]
 simp only [dT.okB,g1,decide_eq_true g2,Bool.true_and]
section
variable {P : R → Prop} {k : PV → Option R} {kr : R → Option R}
theorem aLR {f : Nat} {caps : List PV} {xs : List bE} (hx : xs.length≤1000000000) (p : bE→Bool) (hp : ∀ x∈xs,Ok (fun r=>r = [.bool (p x)]) (aJ f ([x.pv]++caps))) : ∀ (j i : Nat),xs.length - i=j→i≤xs.length→
 Ok (fun r=>∃ n : Int,r = [.int .i64 n]∧(0≤n↔(xs.drop i).any p=true)) (cJ (.lst (xs.map bE.pv)) (.fn f caps) (.int .i64 xs.length) (.int .i64 i)):=by
 intro j
 induction j with
 | zero=>
   intro i h1 h2
   have : i=xs.length:=by omega
   rw [eX]
   refine aH (aC (fun h=>by omega) (fun _=>aB ⟨-1,rfl,?_⟩))
   rw [this,List.drop_length]
   simp
 | succ j ih=>
   intro i h1 h2
   have hi : i<xs.length:=by omega
   rw [eX]
   refine aH (aC (fun _=>?_) (fun h=>by omega))
   refine aQ hi (fun _=>rfl) (pC rfl (hp _ (List.getElem_mem _)) (fun r hr=>?_))
   subst hr
   rw [List.drop_eq_getElem_cons hi,List.any_cons]
   refine bQ (fun h=>aB ⟨i,rfl,?_⟩) (fun h=>?_)
   ·rw [h];simp
   ·refine aM (by omega) ((ih (i+1) (by omega) (by omega)).mono ?_)
    rintro r ⟨n,hr,hn⟩
    exact ⟨n,hr,by rw [h,Bool.false_or];exact hn⟩
theorem aLS {f : Nat} {caps : List PV} {xs : List bE} (hx : xs.length≤1000000000) (p : bE→Bool) (hp : ∀ x∈xs,Ok (fun r=>r = [.bool (p x)]) (aJ f ([x.pv]++caps))) (h : Ok P (kr [.bool (xs.any p)])) :
 Ok P (bd (dU (.lst (xs.map bE.pv)) (.fn f caps)) kr):=by
 refine aG (Q:=fun r=>r = [.bool (xs.any p)]) ?_ (fun r hr=>by rw [hr];exact h)
 rw [jE]
 refine aG (Q:=fun r=>∃ n : Int,r = [.int .i64 n]∧(0≤n↔xs.any p=true)) ?_ ?_
 ·rw [kW]
  refine aE ?_
  exact aLR hx p hp _ 0 rfl (by omega)
 ·rintro r ⟨n,rfl,hn⟩
  refine oF (aB ?_)
  have : decide (0≤n)=xs.any p:=by
   by_cases h : 0≤n
   ·rw [decide_eq_true h,hn.1 h]
   ·rw [decide_eq_false h]
    cases h2 : xs.any p with
    | false=>rfl
    | true=>exact absurd (hn.2 h2) h
  rw [this]
theorem aLT {f : Nat} {caps : List PV} {xs : List ByteArray} (hx : xs.length≤1000000000) (p : ByteArray→Bool) (hp : ∀ x∈xs,Ok (fun r=>r = [.bool (p x)]) (aJ f ([.str x]++caps))) : ∀ (j i : Nat),xs.length - i=j→i≤xs.length→
 Ok (fun r=>∃ n : Int,r = [.int .i64 n]∧(0≤n↔(xs.drop i).any p=true)) (dC (.lst (xs.map PV.str)) (.fn f caps) (.int .i64 xs.length) (.int .i64 i)):=by
 intro j
 induction j with
 | zero=>
   intro i h1 h2
   have : i=xs.length:=by omega
   rw [fN]
   refine aH (aC (fun h=>by omega) (fun _=>aB ⟨-1,rfl,?_⟩))
   rw [this,List.drop_length]
   simp
 | succ j ih=>
   intro i h1 h2
   have hi : i<xs.length:=by omega
   rw [fN]
   refine aH (aC (fun _=>?_) (fun h=>by omega))
   refine aQ hi (fun _=>rfl) (pC rfl (hp _ (List.getElem_mem _)) (fun r hr=>?_))
   subst hr
   rw [List.drop_eq_getElem_cons hi,List.any_cons]
   refine bQ (fun h=>aB ⟨i,rfl,?_⟩) (fun h=>?_)
   ·rw [h];simp
   ·refine aM (by omega) ((ih (i+1) (by omega) (by omega)).mono ?_)
    rintro r ⟨n,hr,hn⟩
    exact ⟨n,hr,by rw [h,Bool.false_or];exact hn⟩
theorem aLU {f : Nat} {caps : List PV} {xs : List ByteArray} (hx : xs.length≤1000000000) (p : ByteArray→Bool) (hp : ∀ x∈xs,Ok (fun r=>r = [.bool (p x)]) (aJ f ([.str x]++caps))) (h : Ok P (kr [.bool (xs.any p)])) :
 Ok P (bd (eL (.lst (xs.map PV.str)) (.fn f caps)) kr):=by
 refine aG (Q:=fun r=>r = [.bool (xs.any p)]) ?_ (fun r hr=>by rw [hr];exact h)
 rw [lC]
 refine aG (Q:=fun r=>∃ n : Int,r = [.int .i64 n]∧(0≤n↔xs.any p=true)) ?_ ?_
 ·rw [mL]
  refine aE ?_
  exact aLT hx p hp _ 0 rfl (by omega)
 ·rintro r ⟨n,rfl,hn⟩
  refine oF (aB ?_)
  have : decide (0≤n)=xs.any p:=by
   by_cases h : 0≤n
   ·rw [decide_eq_true h,hn.1 h]
   ·rw [decide_eq_false h]
    cases h2 : xs.any p with
    | false=>rfl
    | true=>exact absurd (hn.2 h2) h
  rw [this]
end
theorem aIc {α : Type} (p : α→Bool) : ∀ (xs : List α),xs.any (fun x=>!p x) = !xs.all p
 | []=>rfl
 | x::r=>by rw [List.any_cons,List.all_cons,aIc p r,Bool.not_and]
section
variable {ts : List ByteArray} {fs : List cN} (ht : ts.length ≤ 2097152) (hf : fs.length ≤ 2097152)
include ht hf
theorem aId : ∀ (j i : Nat),fs.length - i=j→i≤fs.length→
 Ok (fun r=>r = [.bool ((fs.drop i).all (sO ts.length fs.length))]) (kR (.lst (fs.map cN.pv)) (.int .i64 fs.length) (.int .i64 i) (.lst (ts.map PV.str)) (.lst (fs.map cN.pv))):=by
 intro j
 induction j with
 | zero=>
   intro i h1 h2
   have : i=fs.length:=by omega
   rw [qL]
   refine aH (aC (fun h=>by omega) (fun _=>aB ?_))
   rw [this,List.drop_length];rfl
 | succ j ih=>
   intro i h1 h2
   have hi : i<fs.length:=by omega
   rw [qL,vA hi]
   refine aH (aC (fun _=>?_) (fun h=>by omega))
   refine aQ hi (fun _=>rfl) (aD rfl (aA rfl (aA rfl (aA rfl ?_))))
   refine gC (bX (bQ (fun h=>aB ?_) (fun h1'=>?_)))
   ·have : iP fs[i].p 0 6=false:=by simpa using h
    simp [sO,this]
   refine gC (bX (bQ (fun h=>aB ?_) (fun h2'=>?_)))
   ·have : iP fs[i].lc fs[i].p 12=false:=by simpa using h
    simp [sO,this]
   refine aE (gC (bX (bQ (fun h=>aB ?_) (fun h3'=>?_))))
   ·have : iP (fs[i].code.length : Int) 1 120=false:=by simpa using h
    simp [sO,this]
   have g1 : iP fs[i].p 0 6=true:=by simpa using h1'
   have g2 : iP fs[i].lc fs[i].p 12=true:=by simpa using h2'
   have g3 : iP (fs[i].code.length : Int) 1 120=true:=by simpa using h3'
   have q1:=g1
   have q2:=g2
   have q3:=g3
   simp only [iP,Bool.and_eq_true,decide_eq_true_eq] at q1 q2 q3
   refine aLS (by omega) (fun x=>!bU ts.length fs.length fs[i].lc fs[i].code.length x.o x.a) (fun x _=>?_) ?_
   ·show Ok _ (xF _ _ _)
    rw [aBy]
    refine aD rfl (aA rfl (aA rfl (lI rfl (lI rfl (lI rfl (lI rfl (lI rfl ?_)))))))
    refine aG (aMO (f:=fs[i]) (x:=x) ht hf (by omega) (by omega)) (fun r hr=>?_)
    subst hr
    exact bX (aB rfl)
   ·rw [aIc (fun x : bE=>bU ts.length fs.length fs[i].lc fs[i].code.length x.o x.a)]
    refine cG rfl (bQ (fun h=>aB ?_) (fun h=>?_))
    ·have : fs[i].code.all (fun x=>bU ts.length fs.length fs[i].lc fs[i].code.length x.o x.a)=false:=by simpa using h
     simp only [sO,this,Bool.and_false,Bool.false_and]
    ·have g4 : fs[i].code.all (fun x=>bU ts.length fs.length fs[i].lc fs[i].code.length x.o x.a)=true:=by
      rw [Bool.not_eq_false'] at h
      exact h
     refine aM (by omega) ((ih (i+1) (by omega) (by omega)).mono ?_)
     rintro r rfl
     simp only [sO,g1,g2,g3,g4,Bool.true_and]
end
theorem aG5 {m : dT} (h : m.sized) : Ok (fun r=>r = [.bool m.okB]) (uE m.pv):=by
 obtain ⟨ht,hf,hs,_⟩:=h
 rw [aDu]
 refine aD rfl (aA rfl (aA rfl (aE (gC (bX (bQ (fun h=>aB ?_) (fun h1=>?_)))))))
 ·have : iP (m.funcs.length : Int) 1 12=false:=by simpa using h
  simp [dT.okB,this]
 refine aE (mX (aC (fun h=>aB ?_) (fun h2=>?_)))
 ·have : ¬ ((m.texts.length : Int)≤20):=by omega
  simp only [dT.okB,decide_eq_false this,Bool.false_and,Bool.and_false]
 have g1 : iP (m.funcs.length : Int) 1 12=true:=by simpa using h1
 have g2 : (m.texts.length : Int)≤20:=by omega
 refine aLU (by omega) (fun s=>!gF s) (fun x hx=>?_) ?_
 ·show Ok _ (xE _)
  rw [aBx]
  refine aG (aHr (hs x hx)) (fun r hr=>?_)
  subst hr
  exact bX (aB rfl)
 ·rw [aIc gF]
  refine bQ (fun h=>aB ?_) (fun h=>?_)
  ·have : m.texts.all gF=false:=by rw [Bool.not_eq_true'] at h;exact h
   simp only [dT.okB,this,Bool.and_false,Bool.false_and]
  ·have g3 : m.texts.all gF=true:=by rw [Bool.not_eq_false'] at h;exact h
   refine aE ((aId ht hf _ 0 rfl (by omega)).mono ?_)
   rintro r rfl
   rw [List.drop_zero]
   simp only [dT.okB,g1,decide_eq_true g2,g3,Bool.true_and]
theorem kY {n : Nat} {F : Nat→Option R} {P : Nat→R→Prop} (he : Ok (P n) (F n)) (hs : ∀ i,i<n→Ok (P (i+1)) (F (i+1))→Ok (P i) (F i)) : ∀ i,i≤n→Ok (P i) (F i):=by
 have key : ∀ j i,n - i=j→i≤n→Ok (P i) (F i):=by
  intro j
  induction j with
  | zero=>intro i h1 h2;have : i=n:=by omega
          subst this;exact he
  | succ j ih=>intro i h1 h2;exact hs i (by omega) (ih (i+1) (by omega) (by omega))
 exact fun i hi=>key _ i rfl hi
theorem aDF {σ : Type} {n : Nat} {F : Nat→σ→Option R} {P : R→Prop} (I : Nat→σ→Prop) (he : ∀ s,I n s→Ok P (F n s)) (hs : ∀ i s,i<n→I i s→(∀ s',I (i+1) s'→Ok P (F (i+1) s'))→Ok P (F i s)) : ∀ i s,i≤n→I i s→Ok P (F i s):=by
 have key : ∀ j i s,n - i=j→i≤n→I i s→Ok P (F i s):=by
  intro j
  induction j with
  | zero=>intro i s h1 h2 hI;have : i=n:=by omega
          subst this;exact he s hI
  | succ j ih=>intro i s h1 h2 hI;exact hs i s (by omega) hI (fun s' hI'=>ih (i+1) s' (by omega) (by omega) hI')
 exact fun i s hi hI=>key _ i s rfl hi hI
theorem aCz {α : Type} (n : Nat) (p : Nat→Option α) : (List.range' n (n - n)).findSome? p=none:=by rw [Nat.sub_self];rfl
theorem aAg {α : Type} {i n : Nat} (hi : i<n) (p : Nat→Option α) : (List.range' i (n - i)).findSome? p=(p i).or ((List.range' (i+1) (n - (i+1))).findSome? p):=by
 have : n - i=(n - (i+1))+1:=by omega
 rw [this,List.range'_succ,List.findSome?_cons]
 cases p i<;>rfl
def dV (l : List Int) : PV:=.lst (l.map (PV.int .i64))
section
variable {P : R → Prop} {k : PV → Option R} {l : List Int}
theorem dY (h : Ok P (k (.int .i64 l.length))) : Ok P (bd (PV.len (dV l)) k):=aE h
theorem cZ {i : Nat} {kk : IntKind} (hi : i<l.length) (h : Ok P (k (.int .i64 l[i]))) : Ok P (bd (PV.at_ 1 false (dV l) (.int kk (i : Int))) k):=aQ hi (fun _=>rfl) h
theorem fU {i : Int} {kk : IntKind} (h0 : 0≤i) (hi : i<l.length) (h : Ok P (k (dV l))) : Ok P (bd (PV.inb (dV l) (.int kk i)) k):=vQ h0 (by rw [List.length_map];exact hi) h
theorem tR {i : Nat} {x : Int} {kk : IntKind} (hi : i<l.length) (h : Ok P (k (dV (l.set i x)))) : Ok P (bd (PV.setAt 1 false (dV l) (.int kk (i : Int)) (.int .i64 x)) k):=by
 refine aCe (by omega) (by rw [List.length_map];omega) rfl ?_
 rw [Int.toNat_natCast,← List.map_set]
 exact h
theorem pQ {ys : List Int} {e : Nat} (hb : (l.length+ys.length)*e≤140737488355328) (h : Ok P (k (dV (l++ys)))) : Ok P (bd (PV.cat 1 e false (dV l) (.lst (ys.map (PV.int .i64)))) k):=by
 refine lW (by simpa using hb) (fun x hx=>?_) ?_
 ·obtain ⟨a,_,rfl⟩:=List.mem_map.1 hx;rfl
 ·rw [← List.map_append];exact h
theorem tS {i : Int} {kk : IntKind} (h0 : 0≤i) (h1 : i<l.length) (h : ∀ x,l[i.toNat]? = some x→Ok P (k (.int .i64 x))) : Ok P (bd (PV.at_ 1 false (dV l) (.int kk i)) k):=by
 refine aML h0 (by rw [List.length_map];exact h1) (fun x hx=>?_) (fun x _ hx=>?_)
 ·obtain ⟨a,_,rfl⟩:=List.mem_map.1 hx;rfl
 ·rw [List.getElem?_map] at hx
  cases hl : l[i.toNat]? with
  | none=>rw [hl] at hx;cases hx
  | some y=>rw [hl] at hx;cases hx;exact h y hl
end
def eJ (fs : List cN) (i : Int) : Int:=(fs[i.toNat]?.map cN.p).getD 0
def aT (fs : List cN) (x : bE) : Int × Int:=
 if (1≤x.o∧x.o≤6)∨x.o=20 then (0,1)
 else if x.o=7∨x.o=9∨x.o=18∨x.o=19∨x.o=25∨x.o=26 then (1,0)
 else if x.o=8 then (1,2)
 else if x.o=10 then (2,2)
 else if 11≤x.o∧x.o≤15 then (2,1)
 else if x.o=16∨x.o=21 then (1,1)
 else if x.o=22 then (2,0)
 else if x.o=23∧0≤x.a∧x.a≤6 then (x.a+1,1)
 else if x.o=24∧0≤x.a∧x.a<fs.length then (eJ fs x.a,1)
 else (0,0)
def aJm (fs : List cN) (x : bE) : R:=[.tup [.int .i64 (aT fs x).1,.int .i64 (aT fs x).2]]
theorem zH {fs : List cN} {x : bE} {a b : Int} (h : aT fs x=(a,b)) : [PV.tup [.int .i64 a,.int .i64 b]]=aJm fs x:=by
 unfold aJm;rw [h]
theorem bL {n lo hi : Int} : iP n lo hi=true↔lo≤n∧n≤hi:=by simp [iP]
theorem aNJ {n lo hi : Int} : iP n lo hi=false↔¬ (lo≤n∧n≤hi):=by rw [← bL];simp
theorem aBH {P : R→Prop} {n lo hi : Int} {x y : Option R} (h1 : lo≤n∧n≤hi→Ok P x) (h2 : ¬ (lo≤n∧n≤hi)→Ok P y) : Ok P (PV.ite (hd [.bool (iP n lo hi)]) x y):=
 bQ (fun h=>h1 (bL.1 h)) (fun h=>h2 (aNJ.1 h))
section
variable {fs : List cN} {x : bE} {T : PV} (hf : fs.length ≤ 2097152)
include hf
theorem aKu {P : R→Prop} {k : PV→Option R} {i : Int} (h0 : 0≤i) (h1 : i<fs.length) (h : ∀ lc code,Ok P (k (.agg [.int .i64 (eJ fs i),lc,code]))) : Ok P (bd (PV.at_ 3 true (.lst (fs.map cN.pv)) (.int .i64 i)) k):=by
 obtain ⟨n,rfl⟩:=Int.eq_ofNat_of_zero_le h0
 have hn : n<fs.length:=by omega
 refine aQ hn (fun _=>rfl) ?_
 have : eJ fs (n : Int)=fs[n].p:=by simp [eJ,List.getElem?_eq_getElem hn]
 rw [← show PV.agg [.int .i64 (eJ fs (n : Int)),.int .i64 fs[n].lc,.lst (fs[n].code.map bE.pv)]=fs[n].pv by rw [this];rfl]
 exact h _ _
set_option maxRecDepth 100000 in
set_option maxHeartbeats 4000000 in
theorem aHs : Ok (fun r=>r=aJm fs x) (tC (.agg [T,.lst (fs.map cN.pv)]) x.pv):=by
 rw [aFQ]
 refine aD rfl (aA rfl (aA rfl (aD rfl (aA rfl (aA rfl ?_)))))
 repeat' (first
  | refine aF (aC (fun _=>?_) (fun _=>?_))
  | refine fD (aBH (fun _=>?_) (fun _=>?_))
  | refine aE (bW (by omega) ?_)
  | refine aM (by omega) ?_
  | refine aKu hf (by omega) (by omega) (fun _ _=>?_)
  | refine aA rfl ?_
  | exact aB (zH (by
   unfold aT
   repeat (first | rfl | rw [if_pos (by omega)] | rw [if_neg (by omega)]))))
set_option maxRecDepth 100000 in
set_option maxHeartbeats 4000000 in
theorem aHt : Ok (fun r=>r=aJm fs x) (tF (.agg [T,.lst (fs.map cN.pv)]) x.pv):=by
 have c24 : ¬ (x.o=23∧0≤x.a∧x.a≤6)→¬ ((1≤x.o∧x.o≤16)∨(18≤x.o∧x.o≤22))→¬ (x.o=25∨x.o=26)→Ok (fun r=>r=aJm fs x) (lU T (.lst (fs.map cN.pv)) (.int .i64 x.o) (.int .i64 x.a)):=by
  intro h1 h2 h3
  rw [aBz]
  refine aF (aC (fun _=>?_) (fun _=>?_))
  ·refine aE (gT (by omega) (aBH (fun _=>?_) (fun _=>?_)))
   ·rw [aBA]
    refine aKu hf (by omega) (by omega) (fun _ _=>aA rfl ?_)
    exact aB (zH (by
     unfold aT
     repeat (first | rfl | rw [if_pos (by omega)] | rw [if_neg (by omega)])))
   ·exact aB (zH (by
    unfold aT
    repeat (first | rfl | rw [if_pos (by omega)] | rw [if_neg (by omega)])))
  ·exact aB (zH (by
   unfold aT
   repeat (first | rfl | rw [if_pos (by omega)] | rw [if_neg (by omega)])))
 rw [aF3]
 refine aD rfl (aA rfl (aA rfl (aD rfl (aA rfl (aA rfl ?_)))))
 repeat' (first
  | exact c24 (by omega) (by omega) (by omega)
  | refine aF (aC (fun _=>?_) (fun _=>?_))
  | refine gC (aBH (fun _=>?_) (fun _=>?_))
  | refine aM (by omega) ?_
  | exact aB (zH (by
   unfold aT
   repeat (first | rfl | rw [if_pos (by omega)] | rw [if_neg (by omega)]))))
end
def fI (x : bE) (pc : Int) : List Int:=(if x.o≠17∧x.o≠25 then [pc+1] else [])++(if x.o=17∨x.o=18∨x.o=19 then [x.a] else [])
theorem aK9 {P : R→Prop} {k : PV→Option R} {a : Int} (h : Ok P (k (dV [a]))) : Ok P (bd (PV.cat 1 8 false (.lst []) (.lst [.int .i64 a])) k):=
 pQ (l:=[]) (ys:=[a]) (by simp) h
theorem aLa {P : R→Prop} {k : PV→Option R} {a b : Int} (h : Ok P (k (dV [a,b]))) : Ok P (bd (PV.cat 1 8 false (.lst []) (.lst [.int .i64 a,.int .i64 b])) k):=
 pQ (l:=[]) (ys:=[a,b]) (by simp) h
theorem aOG {P : R→Prop} {k : PV→Option R} {a b : Int} (h : Ok P (k (dV [a,b]))) : Ok P (bd (PV.cat 1 8 false (dV [a]) (dV [b])) k):=
 pQ (l:=[a]) (ys:=[b]) (by simp) h
theorem aOH {P : R→Prop} {k : PV→Option R} {b : Int} (h : Ok P (k (dV [b]))) : Ok P (bd (PV.cat 1 8 false (.lst []) (dV [b])) k):=
 pQ (l:=[]) (ys:=[b]) (by simp) h
theorem aHu {x : bE} {pc : Int} (hp : 0≤pc∧pc≤1000000000) : Ok (fun r=>r = [dV (fI x pc)]) (qP x.pv (.int .i64 pc)):=by
 rw [aEv]
 refine aD rfl (aA rfl (aA rfl ?_))
 repeat' (first
  | (rw [aBq];refine aM (by omega) ?_)
  | rw [aBr]
  | rw [aBs]
  | refine aK9 ?_
  | refine aOG ?_
  | refine aOH ?_
  | refine aF (aC (fun _=>?_) (fun _=>?_))
  | refine aY (aI (fun _=>?_) (fun _=>?_))
  | (exfalso;omega)
  | exact aB (congrArg (fun l=>[dV l]) (by unfold fI;repeat (first | rfl | rw [if_pos (by omega)] | rw [if_neg (by omega)])))
  | exact aB (congrArg (fun l=>[dV l]) (a₁:=[]) (by unfold fI;repeat (first | rfl | rw [if_pos (by omega)] | rw [if_neg (by omega)]))))
theorem aHv {x : bE} {pc : Int} (hp : 0≤pc∧pc≤1000000000) : Ok (fun r=>r = [dV (fI x pc)]) (qQ x.pv (.int .i64 pc)):=by
 rw [aEC]
 refine aD rfl (aA rfl (aA rfl ?_))
 repeat' (first
  | refine aK9 ?_
  | refine aLa ?_
  | refine aM (by omega) ?_
  | refine aF (aC (fun _=>?_) (fun _=>?_))
  | exact aB (congrArg (fun l=>[dV l]) (by unfold fI;repeat (first | rfl | rw [if_pos (by omega)] | rw [if_neg (by omega)])))
  | exact aB (congrArg (fun l=>[dV l]) (a₁:=[]) (by unfold fI;repeat (first | rfl | rw [if_pos (by omega)] | rw [if_neg (by omega)]))))
end
noncomputable section
open Go Go.IntWalk
attribute [local irreducible] bd PV.ite PV.guardFlat PV.guardOwn PV.whole PV.one PV.cell PV.sub PV.at_ PV.len PV.slen PV.chr PV.beq PV.peq PV.ceq PV.bin PV.neg PV.not PV.conv PV.cut PV.scut PV.cat PV.setAt PV.setCell PV.ncopy PV.copyIn PV.zeros PV.toStr PV.toBytes PV.deref PV.isPtr PV.comp PV.inb PV.off PV.imin PV.imax PV.sel PV.apply PV.isLst PV.isInt PV.ix PV.nilT
structure cO where
 k : Int
 n : Int
 s : ByteArray
def cO.pv (v : cO) : PV:=.agg [.int .i64 v.k,.int .i64 v.n,.str v.s]
def eD : cO:=⟨0,0,bs []⟩
def aCA (n : Int) : cO:=⟨1,n,bs []⟩
def mG (b : Bool) : cO:=⟨2,if b then 1 else 0,bs []⟩
def aCB (s : ByteArray) : cO:=⟨3,0,s⟩
def aLV (n : Int) : cO:=⟨4,n,bs []⟩
def aLW (n : Int) : cO:=⟨5,n,bs []⟩
def bY (n : Int) : Bool:=iP n (-1000000000) 1000000000
def kH (a b : ByteArray) : Bool:=a.toList==b.toList
theorem aKv (a : ByteArray) : kH a a=true:=by simp [kH]
def I64 (n : Int) : Prop:=-9223372036854775808≤n∧n≤9223372036854775807
section
variable {P : R → Prop} {k : PV → Option R} {kr : R → Option R} {a b : ByteArray}
theorem aNK (h : Ok P (k (.bool (!kH a b)))) : Ok P (bd (PV.bin .neq (.str a) (.str b)) k):=cK _ (by simp only [PV.bin,PV.strBin];rfl) h
theorem qV (h : Ok P (k (.bool (kH a b)))) : Ok P (bd (PV.bin .eql (.str a) (.str b)) k):=cK _ (by simp only [PV.bin,PV.strBin];rfl) h
theorem aLb (h : Ok P (k (.bool (PV.bytesLt a.toList b.toList)))) : Ok P (bd (PV.bin .lss (.str a) (.str b)) k):=cK _ (by simp only [PV.bin,PV.strBin]) h
theorem iQ (hb : a.size+b.size≤4611686018427387904) (h : Ok P (k (.str (a++b)))) : Ok P (bd (PV.bin .add (.str a) (.str b)) k):=cK _ (by simp only [PV.bin,PV.strBin];rw [if_pos (by omega)]) h
theorem aCC {n : Int} (h : Ok P (kr [.bool (bY n)])) : Ok P (bd (fT (.int .i64 n)) kr):=by
 refine aG (Q:=fun r=>r = [.bool (bY n)]) ?_ (fun r hr=>by rw [hr];exact h)
 rw [aFP]
 exact fD (aB rfl)
theorem aJn {n : Int} (h : Ok P (kr [(aCA n).pv])) : Ok P (bd (pE (.int .i64 n)) kr):=by
 refine aG (Q:=fun r=>r = [(aCA n).pv]) ?_ (fun r hr=>by rw [hr];exact h)
 rw [aFV]
 exact bA rfl (aB rfl)
theorem oL {c : Bool} (h : Ok P (kr [(mG c).pv])) : Ok P (bd (fP (.bool c)) kr):=by
 refine aG (Q:=fun r=>r = [(mG c).pv]) ?_ (fun r hr=>by rw [hr];exact h)
 rw [aEB]
 exact bQ (fun h=>aB (by rw [h];rfl)) (fun h=>aB (by rw [h];rfl))
end
def bF (nf recs : Int) (v : cO) : Bool:=
 if v.k≠3∧kH v.s (bs [])=false then false
 else if v.k=0 then decide (v.n=0)
 else if v.k=1 then bY v.n
 else if v.k=2 then iP v.n 0 1
 else if v.k=3 then decide (v.n=0)&&gF v.s
 else if v.k=4 then decide (0≤v.n)&&decide (v.n<recs)
 else if v.k=5 then iP v.n 0 (nf - 1)
 else false
theorem aKw {fs : List cN} {T : PV} {v : cO} {recs : Int} (hf : fs.length≤2097152) (hs : v.s.size≤2097152) : Ok (fun r=>r = [.bool (bF fs.length recs v)]) (aA6 (.agg [T,.lst (fs.map cN.pv)]) v.pv (.int .i64 recs)):=by
 rw [aGK]
 refine aD rfl (aA rfl (aA rfl (aD rfl (aA rfl (aA rfl (aA rfl ?_))))))
 refine aY (aI (fun h3=>?_) (fun h3=>?_))
 ·refine aNK (bQ (fun h=>aB ?_) (fun h=>?_))
  ·have h : kH v.s (bs [])=false:=by simpa using h
   unfold bF
   rw [if_pos ⟨h3,h⟩]
  have h : kH v.s (bs [])=true:=by simpa using h
  repeat' (first
   | refine aF (aC (fun heq=>?_) (fun heq=>?_))
   | refine oF (aC (fun hge=>?_) (fun hge=>?_))
   | exact aCC (aB (by unfold bF;rw [if_neg (by rw [h];simp)];repeat (first | rfl | rw [if_pos (by assumption)] | rw [if_neg (by assumption)])))
   | exact fD (aB (by unfold bF;rw [if_neg (by rw [h];simp)];repeat (first | rfl | rw [if_pos (by assumption)] | rw [if_neg (by assumption)])))
   | exact aE (bW (by omega) (fD (aB (by unfold bF;rw [if_neg (by rw [h];simp)];repeat (first | rfl | rw [if_pos (by assumption)] | rw [if_neg (by assumption)])))))
   | (exfalso;omega)
   | exact aF (aB (by unfold bF;rw [if_neg (by rw [h];simp)];repeat (first | rfl | rw [if_pos (by assumption)] | rw [if_neg (by assumption)])))
   | exact aH (aB (by unfold bF;rw [if_neg (by rw [h];simp)];repeat (first | rfl | rw [decide_eq_true hge,Bool.true_and] | rw [if_pos (by assumption)] | rw [if_neg (by assumption)])))
   | exact aB (by unfold bF;rw [if_neg (by rw [h];simp)];repeat (first | rfl | rw [decide_eq_false hge,Bool.false_and] | rw [if_pos (by assumption)] | rw [if_neg (by assumption)])))
 ·have hk : ¬ (v.k≠3∧kH v.s (bs [])=false):=fun h=>h.1 h3
  repeat' (first
   | refine aF (aC (fun heq=>?_) (fun heq=>?_))
   | (exfalso;omega)
   | exact aK8 hs (aB (by unfold bF;rw [if_neg hk];repeat (first | rfl | rw [if_pos (by assumption)] | rw [if_neg (by omega)] | rw [decide_eq_true heq,Bool.true_and])))
   | exact aB (by unfold bF;rw [if_neg hk];repeat (first | rfl | rw [if_pos (by assumption)] | rw [if_neg (by omega)] | rw [decide_eq_false heq,Bool.false_and])))
def wK (o a b : Int) : Int:=if o=12 then a - b else if o=13 then a*b else a+b
def aBI (o : Int) (a b : cO) : cO × Int:=
 if a.k≠1 then (eD,1) else if b.k≠1 then (eD,1) else if bY a.n=false then (eD,2) else if bY b.n=false then (eD,2)
 else if bY (wK o a.n b.n)=false then (eD,2) else (aCA (wK o a.n b.n),0)
def aAK (a b : cO) : cO:=mG (decide (a.k=b.k)&&(decide (a.n=b.n)&&kH a.s b.s))
def nS (o : Int) (a b : cO) : cO × Int:=
 if o=11 then (if a.k=3∧b.k=3 then (if (60 : Int)<a.s.size+b.s.size then (eD,3) else (aCB (a.s++b.s),0)) else aBI 11 a b)
 else if o=12 then aBI 12 a b
 else if o=13 then aBI 13 a b
 else if o=14 then (if a.k=3∧b.k=3 then (mG (PV.bytesLt a.s.toList b.s.toList),0) else if a.k=1∧b.k=1 then (mG (decide (a.n<b.n)),0) else (eD,1))
 else (aAK a b,0)
def opR (p : cO × Int) : R:=[.tup [p.1.pv,.int .i64 p.2]]
theorem aMP {a b : Int} (ha : bY a=true) (hb : bY b=true) : -1000000000000000000≤a*b∧a*b≤1000000000000000000:=by
 have ha:=bL.1 ha
 have hb:=bL.1 hb
 have h : (a*b).natAbs≤1000000000*1000000000:=by
  rw [Int.natAbs_mul]
  exact Nat.mul_le_mul (by omega) (by omega)
 omega
theorem aKx {o a b : Int} (ho : o=11∨o=12∨o=13) : Ok (fun r=>r=(if bY a=false then [.tup [.int .i64 0,.int .i64 2]] else if bY b=false then [.tup [.int .i64 0,.int .i64 2]]
 else if bY (wK o a b)=false then [.tup [.int .i64 0,.int .i64 2]] else [.tup [.int .i64 (wK o a b),.int .i64 0]])) (uD (.int .i64 o) (.int .i64 a) (.int .i64 b)):=by
 rw [aDs]
 refine aCC (bX (bQ (fun h=>aB ?_) (fun h1=>?_)))
 ·rw [if_pos (by simpa using h)]
 have h1 : bY a=true:=by simpa using h1
 rw [if_neg (by rw [h1];simp)]
 refine aCC (bX (bQ (fun h=>aB ?_) (fun h2=>?_)))
 ·rw [if_pos (by simpa using h)]
 have h2 : bY b=true:=by simpa using h2
 rw [if_neg (by rw [h2];simp)]
 have ga:=bL.1 h1
 have gb:=bL.1 h2
 have gm:=aMP h1 h2
 have fin : ∀ n : Int,n=wK o a b→Ok (fun r=>r=(if bY (wK o a b)=false then [.tup [.int .i64 0,.int .i64 2]] else [.tup [.int .i64 (wK o a b),.int .i64 0]]))
  (bd (fT (.int .i64 n)) fun r=>bd (PV.not (hd r)) fun v=>PV.ite v (some [.tup [.int .i64 0,.int .i64 2]]) (some [.tup [.int .i64 n,.int .i64 0]])):=by
  intro n hn
  subst hn
  refine aCC (bX (bQ (fun h=>aB ?_) (fun h=>aB ?_)))
  ·rw [if_pos (by simpa using h)]
  ·rw [if_neg (by simpa using h)]
 refine aM (by omega) (aF (aC (fun h=>bW (by omega) ?_) (fun h12=>aF (aC (fun h=>aMH (by omega) ?_) (fun h13=>?_)))))
 ·exact fin _ (by unfold wK;rw [if_pos h])
 ·exact fin _ (by unfold wK;rw [if_neg h12,if_pos h])
 ·exact fin _ (by unfold wK;rw [if_neg h12,if_neg h13])
theorem wM {o : Int} {a b : cO} (ho : o=11∨o=12∨o=13) : Ok (fun r=>r=opR (aBI o a b)) (gI (.int .i64 o) a.pv b.pv):=by
 rw [aBv]
 refine aD rfl (aA rfl (aA rfl (aA rfl (aD rfl (aA rfl (aA rfl (aA rfl ?_)))))))
 refine aY (aI (fun h=>aB ?_) (fun h1=>aY (aI (fun h=>aB ?_) (fun h2=>?_))))
 ·unfold aBI;rw [if_pos h];rfl
 ·unfold aBI;rw [if_neg (by simpa using h1),if_pos h];rfl
 refine aG (aKx ho) (fun r hr=>?_)
 have e : aBI o a b=if bY a.n=false then (eD,2) else if bY b.n=false then (eD,2) else if bY (wK o a.n b.n)=false then (eD,2) else (aCA (wK o a.n b.n),0):=by
  unfold aBI;rw [if_neg (by simpa using h1),if_neg (by simpa using h2)]
 rw [e]
 have trap : ∀ {x : R},x = [.tup [.int .i64 0,.int .i64 2]]→r=x→Ok (fun r=>r=opR (eD,2)) (bd (PV.comp (hd r) 0) fun v2185=>bd (PV.comp (hd r) 1) fun v2186=>bd (PV.bin .neq v2186 (.int .i64 0)) fun v2187=>PV.ite v2187 (some [(.tup [(.agg [(.int .i64 0),(.int .i64 0),(.str (bs []))]),v2186])]) (bd (pE v2185) fun r2188=>bd (PV.whole 3 (hd r2188)) fun v2189=>bd (PV.cell v2189 0) fun v2190=>bd (PV.cell v2189 1) fun v2191=>bd (PV.cell v2189 2) fun v2192=>some [(.tup [(.agg [v2190,v2191,v2192]),(.int .i64 0)])])):=by
  intro x hx hr
  subst hx;subst hr
  exact aR rfl (aR rfl (aY (aI (fun _=>aB rfl) (fun h=>by omega))))
 split at hr
 ·rename_i h;rw [if_pos h];exact trap rfl hr
 rename_i h3
 rw [if_neg h3]
 split at hr
 ·rename_i h;rw [if_pos h];exact trap rfl hr
 rename_i h4
 rw [if_neg h4]
 split at hr
 ·rename_i h;rw [if_pos h];exact trap rfl hr
 rename_i h5
 rw [if_neg h5]
 subst hr
 refine aR rfl (aR rfl (aY (aI (fun h=>absurd rfl h) (fun _=>?_))))
 exact aJn (aD rfl (aA rfl (aA rfl (aA rfl (aB rfl)))))
theorem lZ {P : R→Prop} {k : R→Option R} {o : Option R} {p : cO × Int} (h : Ok (fun r=>r=opR p) o) (hk : Ok P (k [.tup [.agg [.int .i64 p.1.k,.int .i64 p.1.n,.str p.1.s],.int .i64 p.2]])) : Ok P (bd o k):=
 aG h (fun r hr=>by subst hr;exact hk)
set_option maxRecDepth 100000 in
theorem aCD {o : Int} {a b : cO} (ho : 11≤o∧o≤15) (hs : a.s.size≤2097152∧b.s.size≤2097152) : Ok (fun r=>r=opR (nS o a b)) (lX (.int .i64 o) a.pv b.pv):=by
 have less3 : ¬ (a.k=3∧b.k=3)→Ok (fun r=>r=opR (if a.k=1∧b.k=1 then (mG (decide (a.n<b.n)),0) else (eD,1))) (nG (.int .i64 a.k) (.int .i64 a.n) (.str a.s) (.int .i64 b.k) (.int .i64 b.n) (.str b.s) (.int .i64 0) (.int .i64 0) (.str (bs []))):=by
  intro _
  rw [aCt]
  refine aF (aC (fun h1=>aF (aC (fun h2=>?_) (fun h2=>aB ?_))) (fun h1=>aB ?_))
  ·rw [aCu,if_pos ⟨h1,h2⟩]
   exact aH (oL (aD rfl (aA rfl (aA rfl (aA rfl (aB rfl))))))
  ·rw [if_neg (fun h=>h2 h.2)];rfl
  ·rw [if_neg (fun h=>h1 h.1)];rfl
 have less : Ok (fun r=>r=opR (nS 14 a b)) (yS a.pv b.pv):=by
  rw [aFW]
  refine aD rfl (aA rfl (aA rfl (aA rfl (aD rfl (aA rfl (aA rfl (aA rfl ?_)))))))
  have e : nS 14 a b=(if a.k=3∧b.k=3 then (mG (PV.bytesLt a.s.toList b.s.toList),0) else if a.k=1∧b.k=1 then (mG (decide (a.n<b.n)),0) else (eD,1)):=rfl
  rw [e]
  refine aF (aC (fun h1=>aF (aC (fun h2=>?_) (fun h2=>?_))) (fun h1=>?_))
  ·rw [aCs,if_pos ⟨h1,h2⟩]
   exact aLb (oL (aD rfl (aA rfl (aA rfl (aA rfl (aB rfl))))))
  ·rw [if_neg (fun h=>h2 h.2)];exact less3 (fun h=>h2 h.2)
  ·rw [if_neg (fun h=>h1 h.1)];exact less3 (fun h=>h1 h.1)
 have add : Ok (fun r=>r=opR (nS 11 a b)) (aBa a.pv b.pv):=by
  rw [aGP]
  refine aD rfl (aA rfl (aA rfl (aA rfl (aD rfl (aA rfl (aA rfl (aA rfl ?_)))))))
  have e : nS 11 a b=(if a.k=3∧b.k=3 then (if (60 : Int)<a.s.size+b.s.size then (eD,3) else (aCB (a.s++b.s),0)) else aBI 11 a b):=rfl
  rw [e]
  have hn:=wM (o:=11) (a:=a) (b:=b) (by omega)
  refine aF (aC (fun h1=>aF (aC (fun h2=>?_) (fun h2=>?_))) (fun h1=>?_))
  ·rw [aDr,if_pos ⟨h1,h2⟩]
   refine mY (mY (bW (by omega) (mX (aC (fun h=>aB ?_) (fun h=>?_)))))
   ·rw [if_pos (by omega)];rfl
   ·rw [if_neg (by omega)]
    exact iQ (by omega) (bA rfl (aB rfl))
  ·rw [if_neg (fun h=>h2 h.2)]
   exact lZ hn (aR rfl (aR rfl (aD rfl (aA rfl (aA rfl (aA rfl (aB rfl)))))))
  ·rw [if_neg (fun h=>h1 h.1)]
   exact lZ hn (aR rfl (aR rfl (aD rfl (aA rfl (aA rfl (aA rfl (aB rfl)))))))
 rw [aGN]
 refine aD rfl (aA rfl (aA rfl (aA rfl (aD rfl (aA rfl (aA rfl (aA rfl ?_)))))))
 refine aF (aC (fun h=>?_) (fun h11=>aF (aC (fun h=>?_) (fun h12=>aF (aC (fun h=>?_) (fun h13=>aF (aC (fun h=>?_) (fun h14=>?_))))))))
 ·subst h
  exact lZ add (aR rfl (aR rfl (aD rfl (aA rfl (aA rfl (aA rfl (aB rfl)))))))
 ·subst h
  have : Ok (fun r=>r=opR (nS 12 a b)) (aBb a.pv b.pv):=by
   rw [aGQ]
   refine aD rfl (aA rfl (aA rfl (aA rfl (aD rfl (aA rfl (aA rfl (aA rfl ?_)))))))
   exact lZ (wM (o:=12) (by omega)) (aR rfl (aR rfl (aD rfl (aA rfl (aA rfl (aA rfl (aB rfl)))))))
  exact lZ this (aR rfl (aR rfl (aD rfl (aA rfl (aA rfl (aA rfl (aB rfl)))))))
 ·subst h
  have : Ok (fun r=>r=opR (nS 13 a b)) (aBc a.pv b.pv):=by
   rw [aGR]
   refine aD rfl (aA rfl (aA rfl (aA rfl (aD rfl (aA rfl (aA rfl (aA rfl ?_)))))))
   exact lZ (wM (o:=13) (by omega)) (aR rfl (aR rfl (aD rfl (aA rfl (aA rfl (aA rfl (aB rfl)))))))
  exact lZ this (aR rfl (aR rfl (aD rfl (aA rfl (aA rfl (aA rfl (aB rfl)))))))
 ·subst h
  exact lZ less (aR rfl (aR rfl (aD rfl (aA rfl (aA rfl (aA rfl (aB rfl)))))))
 ·have h15 : o=15:=by omega
  subst h15
  have same : Ok (fun r=>r = [(aAK a b).pv]) (yV a.pv b.pv):=by
   rw [aFX]
   refine aD rfl (aA rfl (aA rfl (aA rfl (aD rfl (aA rfl (aA rfl (aA rfl ?_)))))))
   refine aF (aC (fun h1=>aF (aC (fun h2=>qV ?_) (fun h2=>?_))) (fun h1=>?_))
   ·refine oL (aD rfl (aA rfl (aA rfl (aA rfl (aB ?_)))))
    unfold aAK;rw [decide_eq_true h1,decide_eq_true h2];rfl
   ·refine oL (aD rfl (aA rfl (aA rfl (aA rfl (aB ?_)))))
    unfold aAK;rw [decide_eq_true h1,decide_eq_false h2];rfl
   ·refine oL (aD rfl (aA rfl (aA rfl (aA rfl (aB ?_)))))
    unfold aAK;rw [decide_eq_false h1];rfl
  refine aG same (fun r hr=>?_)
  subst hr
  exact aD rfl (aA rfl (aA rfl (aA rfl (aB rfl))))
def zI (v : cO) : cO × Int:=if v.k≠2 then (eD,1) else (mG (!decide (v.n=1)),0)
theorem aMQ {v : cO} : Ok (fun r=>r=opR (zI v)) (aA9 v.pv):=by
 rw [aGO]
 refine aD rfl (aA rfl (aA rfl (aA rfl ?_)))
 refine aY (aI (fun h=>aB ?_) (fun h=>?_))
 ·unfold zI;rw [if_pos h];rfl
 ·refine aY (oL (aD rfl (aA rfl (aA rfl (aA rfl (aB ?_))))))
  unfold zI;rw [if_neg (by simpa using h)];rfl
def dig (n : Int) : ByteArray:=⟨#[UInt8.ofNat (48+n).toNat]⟩
def aAv : Nat→Int→ByteArray
 | 0,n=>dig n
 | j+1,n=>if n<10 then dig n else aAv j (n / 10)++dig (n % 10)
def jQ (n : Int) : ByteArray:=
 if n<0 then (if n < -9 then bs [45]++aAv 18 (-(n.tdiv 10))++aAv 18 (-(n.tmod 10)) else bs [45]++aAv 18 (-n)) else aAv 18 n
theorem aCE (n : Int) : (dig n).size=1:=rfl
theorem kZ : ∀ (j : Nat) (n : Int),(aAv j n).size≤j+1
 | 0,n=>by simp [aAv,aCE]
 | j+1,n=>by
   unfold aAv
   split
   ·rw [aCE];omega
   ·rw [ByteArray.size_append,aCE]
    have:=kZ j (n / 10)
    omega
theorem aAh : ∀ (j : Nat) (n : Int),0≤n→n<10 ^ (j+1)→n≤9223372036854775807→j≤100→Ok (fun r=>r = [.str (aAv j n)]) (eA (.int .i64 n)):=by
 have one : ∀ {P : R→Prop} {k : PV→Option R} {n : Int},0≤n→n<10→Ok P (k (.str (dig n)))→Ok P (bd (PV.bin .add (.int .i64 48) (.int .i64 n)) fun v=>bd (PV.conv .u8 v) fun v=>bd (PV.cat 1 1 false (.lst []) (.lst [v])) fun v=>bd (PV.toStr v) k):=by
  intro P k n h1 h2 h
  refine aM (by omega) (aOq (by omega) ?_)
  refine mZ (by simp) (fun x hx=>by simp only [List.mem_singleton] at hx;subst hx;rfl) ?_
  exact aJh (l:=[48+n]) h
 intro j
 induction j with
 | zero=>
   intro n h1 h2 _ _
   rw [nM]
   refine aH (aC (fun h=>by omega) (fun _=>aH (aC (fun h=>?_) (fun h=>by omega))))
   exact one h1 h (aB rfl)
 | succ j ih=>
   intro n h1 h2 hj hjj
   rw [nM]
   have hp2 : (10 : Int) ^ (j+1+1)=10 ^ (j+1)*10:=Int.pow_succ _ _
   refine aH (aC (fun h=>by omega) (fun _=>aH (aC (fun h=>?_) (fun h=>?_))))
   ·refine one h1 h (aB ?_)
    unfold aAv;rw [if_pos h]
   ·refine aMJ h1 (by omega) hj ?_
    refine aG (ih (n / 10) (by omega) (by omega) (by omega) (by omega)) (fun r hr=>?_)
    subst hr
    refine aMI h1 (by omega) (one (by omega) (by omega) ?_)
    have:=kZ j (n / 10)
    refine iQ (by rw [aCE];omega) (aB ?_)
    show _ = [PV.str (aAv (j+1) n)]
    rw [show aAv (j+1) n=aAv j (n / 10)++dig (n % 10) by conv=>lhs;unfold aAv
                                                         rw [if_neg h]]
theorem aNL {P : R→Prop} {k : PV→Option R} {a b : Int} (hb : b≠0) (hr : I64 (a.tdiv b)) (h : Ok P (k (.int .i64 (a.tdiv b)))) : Ok P (bd (PV.bin .quo (.int .i64 a) (.int .i64 b)) k):=
 cK _ (by rw [gN (by simp) (by simp)];simp only [PV.intBin];rw [if_neg hb,i64_in _ hr]) h
theorem aNM {P : R→Prop} {k : PV→Option R} {a b : Int} (hb : b≠0) (h : Ok P (k (.int .i64 (a.tmod b)))) : Ok P (bd (PV.bin .rem (.int .i64 a) (.int .i64 b)) k):=
 cK _ (by rw [gN (by simp) (by simp)];simp only [PV.intBin];rw [if_neg hb]) h
theorem aJo {n : Int} (h : n<0) : n.tdiv 10 = -((-n) / 10)∧n.tmod 10 = -((-n) % 10):=by
 have e : n = -(-n):=by omega
 constructor
 ·rw [e,Int.neg_tdiv,Int.tdiv_eq_ediv_of_nonneg (by omega)]
  simp
 ·rw [e,Int.neg_tmod,Int.tmod_eq_emod_of_nonneg (by omega)]
  simp
theorem qW (n : Int) : (jQ n).size≤40:=by
 have h45 : (bs [45]).size=1:=rfl
 unfold jQ
 split
 ·split
  ·rw [ByteArray.size_append,ByteArray.size_append,h45]
   have h1:=kZ 18 (-(n.tdiv 10))
   have h2:=kZ 18 (-(n.tmod 10))
   omega
  ·rw [ByteArray.size_append,h45]
   have h1:=kZ 18 (-n)
   omega
 ·have h1:=kZ 18 n
  omega
theorem zJ {n : Int} (hn : -9223372036854775807≤n∧n≤9223372036854775807) : Ok (fun r=>r = [.str (jQ n)]) (eA (.int .i64 n)):=by
 have big : ∀ {x : Int},x≤9223372036854775807→x<10 ^ (18+1):=fun h=>by
  have : (10 : Int) ^ (18+1)=10000000000000000000:=by decide
  omega
 have h45 : (bs [45]).size=1:=rfl
 by_cases h : n<0
 ·obtain ⟨e1,e2⟩:=aJo h
  rw [nM]
  refine aH (aC (fun _=>?_) (fun h'=>absurd h h'))
  refine aH (aC (fun h9=>?_) (fun h9=>?_))
  ·refine aNL (by omega) (by unfold I64;omega) (aKs (by omega) ?_)
   have z1 : 0 - n.tdiv 10 = -(n.tdiv 10):=by omega
   have z2 : 0 - n.tmod 10 = -(n.tmod 10):=by omega
   rw [z1]
   have s1:=kZ 18 (-(n.tdiv 10))
   have s2:=kZ 18 (-(n.tmod 10))
   refine aG (aAh 18 (-(n.tdiv 10)) (by omega) (big (by omega)) (by omega) (by omega)) (fun r hr=>?_)
   subst hr
   refine iQ (by omega) (aNM (by omega) (aKs (by omega) ?_))
   rw [z2]
   refine aG (aAh 18 (-(n.tmod 10)) (by omega) (big (by omega)) (by omega) (by omega)) (fun r hr=>?_)
   subst hr
   refine iQ (by rw [ByteArray.size_append];omega) (aB ?_)
   unfold jQ
   rw [if_pos h,if_pos h9]
  ·refine aKs (by omega) ?_
   have z1 : 0 - n = -n:=by omega
   rw [z1]
   have s1:=kZ 18 (-n)
   refine aG (aAh 18 (-n) (by omega) (big (by omega)) (by omega) (by omega)) (fun r hr=>?_)
   subst hr
   refine iQ (by omega) (aB ?_)
   unfold jQ
   rw [if_pos h,if_neg h9]
 ·refine (aAh 18 n (by omega) (big hn.2) hn.2 (by omega)).mono ?_
  rintro r rfl
  unfold jQ
  rw [if_neg h]
end
noncomputable section
open Go
attribute [local irreducible] bd PV.ite PV.guardFlat PV.guardOwn PV.whole PV.one PV.cell PV.sub PV.at_ PV.len PV.slen PV.chr PV.beq PV.peq PV.ceq PV.bin PV.neg PV.not PV.conv PV.cut PV.scut PV.cat PV.setAt PV.setCell PV.ncopy PV.copyIn PV.zeros PV.toStr PV.toBytes PV.deref PV.isPtr PV.comp PV.inb PV.off PV.imin PV.imax PV.sel PV.apply PV.isLst PV.isInt PV.ix PV.nilT
def gE (fs : List cN) (x : bE) (h : Int) : Int:=h - (aT fs x).1+(aT fs x).2
def can (fs : List cN) (x : bE) (h : Int) : Bool:=decide ((aT fs x).1≤h)&&decide (gE fs x h≤16)
abbrev Hs:=List Int × Bool
def qX (l : Int) (s : Hs) (t : Int) : Hs:=if t<s.1.length∧s.1[t.toNat]?.getD 0<0 then (s.1.set t.toNat l,true) else s
def xM (fs : List cN) (code : List bE) (s : Hs) (pc : Nat) : Hs:=
 match code[pc]? with
 | some x=>if can fs x (s.1[pc]?.getD 0) then (fI x pc).foldl (qX (gE fs x (s.1[pc]?.getD 0))) s else s
 | none=>s
def pR (fs : List cN) (code : List bE) (s : List Int) : Hs:=(List.range' 0 code.length).foldl (xM fs code) (s,false)
def aCG (fs : List cN) (code : List bE) : Nat→List Int→List Int
 | 0,s=>s
 | n+1,s=>if (pR fs code s).2 then aCG fs code n (pR fs code s).1 else (pR fs code s).1
def aIe (n : Nat) : List Int:=(List.replicate n (-1)).set 0 0
def oM (fs : List cN) (code : List bE) : List Int:=aCG fs code (code.length+1) (aIe code.length)
structure Fit (fs : List cN) (code : List bE) : Prop where
 n1 : 1≤code.length
 n2 : code.length≤120
 nf : fs.length≤12
 u : ∀ x∈code,0≤(aT fs x).1∧(aT fs x).1≤7∧0≤(aT fs x).2∧(aT fs x).2≤2
 j : ∀ x∈code,(x.o=17∨x.o=18∨x.o=19)→0≤x.a∧x.a<code.length
def xN (n : Nat) (s : List Int) : Prop:=s.length=n∧∀ v∈s,-1≤v∧v≤16
theorem xN.at {n : Nat} {s : List Int} (h : xN n s) (i : Nat) : -1≤s[i]?.getD 0∧s[i]?.getD 0≤16:=by
 cases hx : s[i]? with
 | none=>simp
 | some v=>exact h.2 v (List.mem_of_getElem? hx)
theorem xN.put {n : Nat} {s : Hs} (h : xN n s.1) {l : Int} (hl : -1≤l∧l≤16) (t : Int) : xN n (qX l s t).1:=by
 unfold qX
 split
 ·refine ⟨by simp only [List.length_set];exact h.1,fun v hv=>?_⟩
  rcases List.mem_or_eq_of_mem_set hv with h1 | h1
  ·exact h.2 v h1
  ·omega
 ·exact h
theorem xN.puts {n : Nat} {l : Int} (hl : -1≤l∧l≤16) : ∀ (ts : List Int) (s : Hs),xN n s.1→xN n (ts.foldl (qX l) s).1
 | [],_,h=>h
 | t::r,s,h=>xN.puts hl r _ (h.put hl t)
theorem aJp {fs : List cN} {x : bE} {h : Int} (hu : 0≤(aT fs x).1∧(aT fs x).1≤7∧0≤(aT fs x).2∧(aT fs x).2≤2) (hc : can fs x h=true) : 0≤gE fs x h∧gE fs x h≤16:=by
 simp only [can,Bool.and_eq_true,decide_eq_true_eq] at hc
 unfold gE at *
 omega
theorem xN.one {fs : List cN} {code : List bE} (F : Fit fs code) {n : Nat} {s : Hs} (h : xN n s.1) (pc : Nat) : xN n (xM fs code s pc).1:=by
 unfold xM
 split
 ·rename_i x hx
  split
  ·rename_i hc
   have:=aJp (F.u x (List.mem_of_getElem? hx)) hc
   exact xN.puts (by omega) _ _ h
  ·exact h
 ·exact h
theorem xN.ones {fs : List cN} {code : List bE} (F : Fit fs code) {n : Nat} : ∀ (l : List Nat) (s : Hs),xN n s.1→xN n (l.foldl (xM fs code) s).1
 | [],_,h=>h
 | t::r,s,h=>xN.ones F r _ (h.one F t)
theorem xN.pass {fs : List cN} {code : List bE} (F : Fit fs code) {n : Nat} {s : List Int} (h : xN n s) : xN n (pR fs code s).1:=xN.ones F _ _ h
theorem xN.start {n : Nat} : xN n (aIe n):=by
 refine ⟨by simp [aIe],fun v hv=>?_⟩
 rcases List.mem_or_eq_of_mem_set hv with h1 | h1
 ·have:=List.eq_of_mem_replicate h1;omega
 ·omega
def nn (s : List Int) : Nat:=s.countP (· < 0)
def Dec (s s' : Hs) : Prop:=s'=s∨(s'.2=true∧nn s'.1<nn s.1)
theorem Dec.trans {a b c : Hs} (h : Dec a b) (k : Dec b c) : Dec a c:=by
 rcases h with rfl | h
 ·exact k
 ·rcases k with rfl | k
  ·exact .inr h
  ·exact .inr ⟨k.1,by omega⟩
theorem aMR : ∀ (s : List Int) (i : Nat) (l : Int),0≤l→s[i]?.getD 0<0→nn (s.set i l)<nn s
 | [],i,l,_,h=>by simp at h
 | x::r,0,l,hl,h=>by
   simp only [List.getElem?_cons_zero,Option.getD_some] at h
   simp only [nn,List.set_cons_zero,List.countP_cons]
   rw [if_neg (by simp;omega),if_pos (by simpa using h)]
   omega
 | x::r,i+1,l,hl,h=>by
   simp only [List.getElem?_cons_succ] at h
   have:=aMR r i l hl h
   simp only [nn,List.set_cons_succ,List.countP_cons] at *
   omega
theorem Dec.put {l : Int} (hl : 0≤l) (s : Hs) (t : Int) : Dec s (qX l s t):=by
 unfold qX
 split
 ·rename_i h
  exact .inr ⟨rfl,aMR _ _ _ hl h.2⟩
 ·exact .inl rfl
theorem Dec.puts {l : Int} (hl : 0≤l) : ∀ (ts : List Int) (s : Hs),Dec s (ts.foldl (qX l) s)
 | [],_=>.inl rfl
 | t::r,s=>(Dec.put hl s t).trans (Dec.puts hl r _)
theorem Dec.one {fs : List cN} {code : List bE} (F : Fit fs code) (s : Hs) (pc : Nat) : Dec s (xM fs code s pc):=by
 unfold xM
 split
 ·rename_i x hx
  split
  ·rename_i hc
   exact Dec.puts (aJp (F.u x (List.mem_of_getElem? hx)) hc).1 _ _
  ·exact .inl rfl
 ·exact .inl rfl
theorem Dec.ones {fs : List cN} {code : List bE} (F : Fit fs code) : ∀ (l : List Nat) (s : Hs),Dec s (l.foldl (xM fs code) s)
 | [],_=>.inl rfl
 | t::r,s=>(Dec.one F s t).trans (Dec.ones F r _)
theorem Dec.pass {fs : List cN} {code : List bE} (F : Fit fs code) (s : List Int) : Dec (s,false) (pR fs code s):=Dec.ones F _ _
theorem aMS {l : Int} {s : Hs} {t : Int} (h : s.1[0]? = some 0) : (qX l s t).1[0]? = some 0:=by
 unfold qX
 split
 ·rename_i hc
  rw [List.getElem?_set]
  split
  ·rename_i h0
   rw [h0] at hc
   rw [h] at hc
   simp at hc
  ·exact h
 ·exact h
theorem aHw {l : Int} : ∀ (ts : List Int) (s : Hs),s.1[0]? = some 0→(ts.foldl (qX l) s).1[0]? = some 0
 | [],_,h=>h
 | t::r,s,h=>aHw r _ (aMS h)
theorem aMT {fs : List cN} {code : List bE} {s : Hs} (pc : Nat) (h : s.1[0]? = some 0) : (xM fs code s pc).1[0]? = some 0:=by
 unfold xM
 split
 ·split
  ·exact aHw _ _ h
  ·exact h
 ·exact h
theorem aDG {fs : List cN} {code : List bE} : ∀ (l : List Nat) (s : Hs),s.1[0]? = some 0→(l.foldl (xM fs code) s).1[0]? = some 0
 | [],_,h=>h
 | t::r,s,h=>aDG r _ (aMT t h)
theorem aJq {fs : List cN} {code : List bE} : ∀ (n : Nat) (s : List Int),s[0]? = some 0→(aCG fs code n s)[0]? = some 0
 | 0,_,h=>h
 | n+1,s,h=>by
   unfold aCG
   split
   ·exact aJq n _ (aDG _ _ h)
   ·exact aDG _ _ h
theorem aLc {fs : List cN} {code : List bE} (F : Fit fs code) {m : Nat} : ∀ (n : Nat) (s : List Int),xN m s→xN m (aCG fs code n s)
 | 0,_,h=>h
 | n+1,s,h=>by
   unfold aCG
   split
   ·exact aLc F n _ (h.pass F)
   ·exact h.pass F
theorem aBJ {fs : List cN} {code : List bE} (F : Fit fs code) : xN code.length (oM fs code):=aLc F _ _ xN.start
theorem aJr {fs : List cN} {code : List bE} (F : Fit fs code) : (oM fs code)[0]? = some 0:=by
 refine aJq _ _ ?_
 have:=F.n1
 rw [aIe,List.getElem?_set_self (by rw [List.length_replicate];omega)]
theorem aEV {s : List Int} {i : Nat} (h : i<s.length) : s[i]=s[i]?.getD 0:=by rw [List.getElem?_eq_getElem h];rfl
theorem zK {fs : List cN} {code : List bE} (F : Fit fs code) {x : bE} (hx : x∈code) {pc : Nat} (hp : pc<code.length) : ∀ t∈fI x pc,0≤t∧t≤code.length:=by
 intro t ht
 unfold fI at ht
 rcases List.mem_append.1 ht with h | h
 ·split at h
  ·simp only [List.mem_singleton] at h;omega
  ·cases h
 ·split at h
  ·rename_i hj
   simp only [List.mem_singleton] at h
   have:=F.j x hx hj
   omega
  ·cases h
theorem aLd {l : Int} {s : Hs} {t : Int} (h1 : t<s.1.length) (h2 : s.1[t.toNat]?.getD 0<0) : qX l s t=(s.1.set t.toNat l,true):=if_pos ⟨h1,h2⟩
theorem aIf {l : Int} {s : Hs} {t : Int} (h : ¬ (t<s.1.length∧s.1[t.toNat]?.getD 0<0)) : qX l s t=s:=if_neg h
section
variable {fs : List cN} {code : List bE} {T : PV} (F : Fit fs code)
include F
theorem aLX {P : R→Prop} {pc : Nat} (hpc : pc<code.length) {left : Int} {ts : List Int} (hts : ∀ t∈ts,0≤t∧t≤code.length) (hn : ts.length≤10) {s : Hs} (hs : s.1.length=code.length)
 (h : Ok P (dN (.lst (code.map bE.pv)) (.bool (ts.foldl (qX left) s).2) (.int .i64 ((pc : Int)+1)) T (.lst (fs.map cN.pv)) (dV (ts.foldl (qX left) s).1))) :
 Ok P (eG (.lst (code.map bE.pv)) (.bool s.2) (.int .i64 pc) (.int .i64 left) (dV ts) (.int .i64 0) T (.lst (fs.map cN.pv)) (dV s.1)):=by
 have hn2:=F.n2
 refine aDF (n:=ts.length) (F:=fun i (q : Hs)=>eG (.lst (code.map bE.pv)) (.bool q.2) (.int .i64 pc) (.int .i64 left) (dV ts) (.int .i64 i) T (.lst (fs.map cN.pv)) (dV q.1))
  (fun i q=>q.1.length=code.length∧(ts.drop i).foldl (qX left) q=ts.foldl (qX left) s) ?_ ?_ 0 s (by omega) ⟨hs,by rw [List.drop_zero]⟩
 ·rintro q ⟨hq,he⟩
  rw [List.drop_length] at he
  have he : q=ts.foldl (qX left) s:=he
  subst he
  rw [nW]
  exact dY (aH (aC (fun h=>by omega) (fun _=>aM (by omega) h)))
 ·rintro i q hi ⟨hq,he⟩ ih
  have ht:=hts ts[i] (List.getElem_mem _)
  rw [List.drop_eq_getElem_cons hi,List.foldl_cons] at he
  have ih:=fun s'=>ih s'
  rw [nW]
  refine dY (aH (aC (fun _=>?_) (fun h=>by omega)))
  refine cZ hi (aE (aH (aC (fun h1=>?_) (fun h1=>?_))))
  ·refine cZ hi (fU (by omega) (by omega) (tS (by omega) (by omega) (fun v hv=>?_)))
   refine aH (aC (fun h2=>?_) (fun h2=>?_))
   ·rw [xK]
    refine cZ hi (fU (by omega) (by omega) ?_)
    obtain ⟨t,et⟩:=Int.eq_ofNat_of_zero_le ht.1
    rw [et]
    refine tR (by omega) (aM (by omega) ?_)
    refine ih (q.1.set t left,true) ⟨by simpa using hq,?_⟩
    rw [aLd (by omega) (by rw [hv];exact h2),et] at he
    exact he
   ·refine aM (by omega) (ih q ⟨hq,?_⟩)
    rw [aIf (by rw [hv];simp only [Option.getD_some];omega)] at he
    exact he
  ·refine aM (by omega) (ih q ⟨hq,?_⟩)
   rw [aIf (by omega)] at he
   exact he
theorem aGb {P : R→Prop} {s : List Int} (hs : xN code.length s)
 (h : Ok P (gP (.lst (code.map bE.pv)) (.bool (pR fs code s).2) T (.lst (fs.map cN.pv)) (dV (pR fs code s).1))) :
 Ok P (dN (.lst (code.map bE.pv)) (.bool false) (.int .i64 0) T (.lst (fs.map cN.pv)) (dV s)):=by
 have hn2:=F.n2
 have hnf:=F.nf
 refine aDF (n:=code.length) (F:=fun i (q : Hs)=>dN (.lst (code.map bE.pv)) (.bool q.2) (.int .i64 i) T (.lst (fs.map cN.pv)) (dV q.1))
  (fun i q=>xN code.length q.1∧(List.range' i (code.length - i)).foldl (xM fs code) q=pR fs code s) ?_ ?_ 0 (s,false) (by omega) ⟨hs,rfl⟩
 ·rintro q ⟨hq,he⟩
  rw [Nat.sub_self] at he
  have he : q=pR fs code s:=he
  subst he
  rw [nV]
  exact aE (aH (aC (fun h=>by omega) (fun _=>h)))
 ·rintro i q hi ⟨hq,he⟩ ih
  have e1 : code.length - i=(code.length - (i+1))+1:=by omega
  rw [e1,List.range'_succ,List.foldl_cons] at he
  have hx : code[i]? = some code[i]:=List.getElem?_eq_getElem hi
  have hu:=F.u code[i] (List.getElem_mem _)
  have hil : i<q.1.length:=by rw [hq.1];exact hi
  have hv:=hq.at i
  have e2 : q.1[i]=q.1[i]?.getD 0:=aEV hil
  have hone:=hq.one F i
  have hgo:=ih (xM fs code q i) ⟨hone,he⟩
  have eo : xM fs code q i=if can fs code[i] (q.1[i]?.getD 0) then (fI code[i] i).foldl (qX (gE fs code[i] (q.1[i]?.getD 0))) q else q:=by
   conv=>lhs;unfold xM
   rw [hx]
  generalize hw : q.1[i]?.getD 0=w at *
  rw [nV]
  refine aE (aH (aC (fun _=>?_) (fun h=>by omega)))
  refine aQ hi (fun _=>rfl) (aG (aHs (T:=T) (by omega)) (fun r hr=>?_))
  subst hr
  refine aR rfl (aR rfl ?_)
  refine fU (by omega) (by omega) (cZ hil (bW (by omega) (aM (by omega) (fU (by omega) (by omega) (cZ hil ?_)))))
  rw [e2]
  refine aH (aC (fun h1=>?_) (fun h1=>?_))
  ·have hc : can fs code[i] w=false:=by simp only [can];rw [decide_eq_false (by omega)];rfl
   rw [hc,if_neg (by simp)] at eo
   rw [eo] at hgo
   exact aM (by omega) hgo
  refine mX (aC (fun h2=>?_) (fun h2=>?_))
  ·have hc : can fs code[i] w=false:=by simp only [can];rw [decide_eq_false (p:=gE fs code[i] w≤16) (by unfold gE;omega),Bool.and_false]
   rw [hc,if_neg (by simp)] at eo
   rw [eo] at hgo
   exact aM (by omega) hgo
  ·have hc : can fs code[i] w=true:=by simp only [can];rw [decide_eq_true (by omega),decide_eq_true (p:=gE fs code[i] w≤16) (by unfold gE;omega)];rfl
   rw [hc,if_pos rfl] at eo
   rw [eo] at hgo
   refine aQ hi (fun _=>rfl) (aG (aHu (by omega)) (fun r hr=>?_))
   subst hr
   exact aLX F hi (zK F (List.getElem_mem _) hi) (by unfold fI;repeat' split<;>simp) hq.1 hgo
theorem aLY : ∀ (j : Nat) (s : List Int),nn s≤j→xN code.length s→Ok (fun r=>r = [dV (aCG fs code (j+1) s)]) (gP (.lst (code.map bE.pv)) (.bool true) T (.lst (fs.map cN.pv)) (dV s)):=by
 intro j
 induction j with
 | zero=>
   intro s hs hg
   rw [gS]
   refine aW (aGb F hg ?_)
   rcases Dec.pass F s with h | ⟨h,h2⟩
   ·unfold aCG
    rw [h,gS]
    exact aV (aB rfl)
   ·have h3 : nn (pR fs code s).1<nn s:=h2
    omega
 | succ j ih=>
   intro s hs hg
   rw [gS]
   refine aW (aGb F hg ?_)
   rcases Dec.pass F s with h | ⟨h,h2⟩
   ·unfold aCG
    rw [h,gS]
    exact aV (aB rfl)
   ·rw [aCG,h,if_pos rfl]
    exact ih _ (by have h3 : nn (pR fs code s).1<nn s:=h2;omega) (hg.pass F)
end
end
end Go.Proofs.YthkofpnllaapeaaGreatDoor
