/-
  Texts of the proof, part 5: a value-level evaluator and its soundness, what the functions compute, laws about it.
  Conditions: none.
-/
import Derived.Test.YthkofpnllaapeaaGreatDoorD
set_option linter.all false
namespace Go.Proofs.YthkofpnllaapeaaGreatDoor
noncomputable section
open Go
theorem uD (x0 x1 x2 : PV) : iT x0 x1 x2=bd (PV.whole 2 x0) fun v0=>bd (PV.cell v0 0) fun v1=>bd (PV.cell v0 1) fun v2=>gW x1 x2 (.int .i64 0) v1 v2:=aK _ _ _ (by kernel_rfl)
theorem hX (x0 x1 x2 x3 x4 : PV) : gW x0 x1 x2 x3 x4=bd (PV.len x0) fun v0=>bd (PV.bin .lss x2 v0) fun v1=>PV.ite v1 (bd (PV.at_ 3 true x0 x2) fun v2=>bd (wY (.agg [x3,x4]) v2 x1) fun r3=>bd (PV.not (hd r3)) fun v4=>PV.ite v4 (some [.bool false]) (bd (PV.bin .add x2 (.int .i64 1)) fun v5=>gW x0 x1 v5 x3 x4)) (some [.bool true]):=aY _ _ _ _ _ _ _ _ (by kernel_rfl)
theorem aEP (x0 : PV) : lI x0=bd (PV.slen x0) fun v0=>bd (PV.bin .gtr v0 (.int .i64 60)) fun v1=>PV.ite v1 (some [.bool false]) (mK x0 (.int .i64 0)):=aK _ _ _ (by kernel_rfl)
theorem sV (x0 x1 : PV) : mK x0 x1=bd (PV.slen x0) fun v0=>bd (PV.bin .lss x1 v0) fun v1=>PV.ite v1 (bd (PV.chr x0 x1) fun v2=>bd (PV.bin .lss v2 (.int .u8 32)) fun v3=>PV.ite v3 (some [.bool false]) (bd (PV.chr x0 x1) fun v4=>bd (PV.bin .gtr v4 (.int .u8 126)) fun v5=>PV.ite v5 (some [.bool false]) (bd (PV.chr x0 x1) fun v6=>bd (PV.bin .eql v6 (.int .u8 34)) fun v7=>
 PV.ite v7 (some [.bool false]) (bd (PV.bin .add x1 (.int .i64 1)) fun v8=>mK x0 v8)))) (some [.bool true]):=aY _ _ _ _ _ _ _ _ (by kernel_rfl)
theorem sW (x0 x1 x2 x3 : PV) : mL x0 x1 x2 x3=bd (PV.whole 2 x0) fun v0=>bd (PV.cell v0 0) fun v1=>bd (PV.cell v0 1) fun v2=>bd (PV.whole 4 x1) fun v3=>bd (PV.cell v3 0) fun v4=>bd (PV.cell v3 1) fun v5=>bd (PV.cell v3 2) fun v6=>bd (PV.cell v3 3) fun v7=>bd (PV.len v2) fun v8=>bd (PV.bin .sub v8 (.int .i64 1)) fun v9=>bd (aM v4 (.int .i64 0) v9) fun r10=>
 bd (PV.not (hd r10)) fun v11=>PV.ite v11 (some [.bool false]) (bd (PV.at_ 3 true v2 v4) fun v12=>bd (PV.whole 3 v12) fun v13=>bd (PV.cell v13 0) fun v14=>bd (PV.cell v13 1) fun v15=>bd (PV.cell v13 2) fun v16=>bd (iV (.agg [v1,v2]) v4) fun r17=>bd (PV.len v6) fun v18=>bd (PV.bin .neq v18 v15) fun v19=>PV.ite v19 (some [.bool false]) (bd (PV.len v16) fun v20=>bd (PV.bin .sub v20 (.int .i64 1)) fun v21=>
 bd (aM v5 (.int .i64 0) v21) fun r22=>bd (PV.not (hd r22)) fun v23=>PV.ite v23 (some [.bool false]) (bd (PV.at_ 1 false (hd r17) v5) fun v24=>bd (PV.bin .lss v24 (.int .i64 0)) fun v25=>PV.ite v25 (some [.bool false]) (bd (iT (.agg [v1,v2]) v6 x2) fun r26=>bd (PV.not (hd r26)) fun v27=>PV.ite v27 (some [.bool false]) (bd (iT (.agg [v1,v2]) v7 x2) fun r28=>
 bd (PV.not (hd r28)) fun v29=>PV.ite v29 (some [.bool false]) (PV.ite x3 (bd (PV.len v7) fun v30=>bd (PV.at_ 1 false (hd r17) v5) fun v31=>bd (PV.bin .eql v30 v31) fun v32=>some [v32]) (bd (PV.bin .lss v5 (.int .i64 1)) fun v33=>PV.ite v33 (some [.bool false]) (bd (PV.bin .sub v5 (.int .i64 1)) fun v34=>bd (PV.at_ 1 false (hd r17) v34) fun v35=>bd (PV.bin .lss v35 (.int .i64 0)) fun v36=>
 PV.ite v36 (some [.bool false]) (bd (PV.bin .sub v5 (.int .i64 1)) fun v37=>bd (PV.at_ 2 true v16 v37) fun v38=>bd (PV.cell v38 0) fun v39=>bd (PV.bin .eql v39 (.int .i64 23)) fun v40=>PV.ite v40 (bd (PV.len v7) fun v41=>bd (PV.at_ 1 false (hd r17) v5) fun v42=>bd (PV.bin .sub v42 (.int .i64 1)) fun v43=>bd (PV.bin .eql v41 v43) fun v44=>some [v44]) (bd (PV.bin .eql v39 (.int .i64 24)) fun v45=>
 PV.ite v45 (bd (PV.len v7) fun v46=>bd (PV.at_ 1 false (hd r17) v5) fun v47=>bd (PV.bin .sub v47 (.int .i64 1)) fun v48=>bd (PV.bin .eql v46 v48) fun v49=>some [v49]) (some [.bool false]))))))))))):=aK _ _ _ (by kernel_rfl)
theorem aDN (x0 : PV) : uV x0=bd (PV.whole 2 x0) fun v0=>bd (PV.cell v0 0) fun v1=>bd (PV.cell v0 1) fun v2=>bd (PV.len v2) fun v3=>bd (aM v3 (.int .i64 1) (.int .i64 12)) fun r4=>bd (PV.not (hd r4)) fun v5=>PV.ite v5 (some [.bool false]) (bd (PV.len v1) fun v6=>bd (PV.bin .gtr v6 (.int .i64 20)) fun v7=>PV.ite v7 (some [.bool false]) (lJ (.int .i64 0) v1 v2)):=aK _ _ _ (by kernel_rfl)
theorem qY (x0 x1 x2 : PV) : lJ x0 x1 x2=bd (PV.len x1) fun v0=>bd (PV.bin .lss x0 v0) fun v1=>PV.ite v1 (bd (PV.at_ 1 false x1 x0) fun v2=>bd (lI v2) fun r3=>bd (PV.not (hd r3)) fun v4=>PV.ite v4 (some [.bool false]) (bd (PV.bin .add x0 (.int .i64 1)) fun v5=>lJ v5 x1 x2)) (iU (.int .i64 0) x1 x2):=aY _ _ _ _ _ _ _ _ (by kernel_rfl)
theorem qZ (x0 x1 x2 : PV) : iU x0 x1 x2=bd (PV.len x2) fun v0=>bd (PV.bin .lss x0 v0) fun v1=>PV.ite v1 (bd (PV.at_ 3 true x2 x0) fun v2=>bd (PV.whole 3 v2) fun v3=>bd (PV.cell v3 0) fun v4=>bd (PV.cell v3 1) fun v5=>bd (PV.cell v3 2) fun v6=>bd (aM v4 (.int .i64 0) (.int .i64 6)) fun r7=>bd (PV.not (hd r7)) fun v8=>PV.ite v8 (some [.bool false])
 (bd (aM v5 v4 (.int .i64 12)) fun r9=>bd (PV.not (hd r9)) fun v10=>PV.ite v10 (some [.bool false]) (bd (PV.len v6) fun v11=>bd (aM v11 (.int .i64 1) (.int .i64 120)) fun r12=>bd (PV.not (hd r12)) fun v13=>PV.ite v13 (some [.bool false]) (kF x0 (.int .i64 0) x1 x2 v4 v5 v6)))) (some [.bool true]):=aY _ _ _ _ _ _ _ _ (by kernel_rfl)
theorem pV (x0 x1 x2 x3 x4 x5 x6 : PV) : kF x0 x1 x2 x3 x4 x5 x6=bd (PV.len x6) fun v0=>bd (PV.bin .lss x1 v0) fun v1=>PV.ite v1 (bd (PV.at_ 2 true x6 x1) fun v2=>bd (aBN (.agg [x2,x3]) x0 v2) fun r3=>bd (PV.not (hd r3)) fun v4=>PV.ite v4 (some [.bool false]) (bd (PV.bin .add x1 (.int .i64 1)) fun v5=>kF x0 v5 x2 x3 x4 x5 x6)) (bd (PV.bin .add x0 (.int .i64 1)) fun v6=>
 iU v6 x2 x3):=aY _ _ _ _ _ _ _ _ (by kernel_rfl)
theorem aCN (x0 x1 : PV) : iV x0 x1=bd (PV.whole 2 x0) fun v0=>bd (PV.cell v0 0) fun v1=>bd (PV.cell v0 1) fun v2=>bd (PV.at_ 3 true v2 x1) fun v3=>bd (PV.cell v3 2) fun v4=>kG v4 (.int .i64 0) v1 v2 (.lst []):=aK _ _ _ (by kernel_rfl)
theorem pW (x0 x1 x2 x3 x4 : PV) : kG x0 x1 x2 x3 x4=bd (PV.len x0) fun v0=>bd (PV.bin .lss x1 v0) fun v1=>PV.ite v1 (bd (PV.cat 1 8 false x4 (.lst [(.int .i64 (-1))])) fun v2=>bd (PV.bin .add x1 (.int .i64 1)) fun v3=>kG x0 v3 x2 x3 v2) (bd (PV.inb x4 (.int .i64 0)) fun v4=>bd (PV.setAt 1 false x4 (.int .i64 0) (.int .i64 0)) fun v5=>gX x0 (.bool true) x2 x3 v5):=aY _ _ _ _ _ _ _ _ (by kernel_rfl)
theorem hY (x0 x1 x2 x3 x4 : PV) : gX x0 x1 x2 x3 x4=PV.ite x1 (dT x0 (.bool false) (.int .i64 0) x2 x3 x4) (some [x4]):=aY _ _ _ _ _ _ _ _ (by kernel_rfl)
theorem oS (x0 x1 x2 x3 x4 x5 : PV) : dT x0 x1 x2 x3 x4 x5=bd (PV.len x0) fun v0=>bd (PV.bin .lss x2 v0) fun v1=>PV.ite v1 (bd (PV.at_ 2 true x0 x2) fun v2=>bd (tT (.agg [x3,x4]) v2) fun r3=>bd (PV.comp (hd r3) 0) fun v4=>bd (PV.comp (hd r3) 1) fun v5=>bd (PV.inb x5 x2) fun v6=>bd (PV.at_ 1 false x5 x2) fun v7=>bd (PV.bin .sub v7 v4) fun v8=>
 bd (PV.bin .add v8 v5) fun v9=>bd (PV.inb x5 x2) fun v10=>bd (PV.at_ 1 false x5 x2) fun v11=>bd (PV.bin .lss v11 v4) fun v12=>PV.ite v12 (bd (PV.bin .add x2 (.int .i64 1)) fun v13=>dT x0 x1 v13 x3 x4 x5) (bd (PV.bin .gtr v9 (.int .i64 16)) fun v14=>PV.ite v14 (bd (PV.bin .add x2 (.int .i64 1)) fun v15=>dT x0 x1 v15 x3 x4 x5) (bd (PV.at_ 2 true x0 x2) fun v16=>
 bd (rK v16 x2) fun r17=>eE x0 x1 x2 v9 (hd r17) (.int .i64 0) x3 x4 x5))) (gX x0 x1 x3 x4 x5):=aY _ _ _ _ _ _ _ _ (by kernel_rfl)
theorem oT (x0 x1 x2 x3 x4 x5 x6 x7 x8 : PV) : eE x0 x1 x2 x3 x4 x5 x6 x7 x8=bd (PV.len x4) fun v0=>bd (PV.bin .lss x5 v0) fun v1=>PV.ite v1 (bd (PV.at_ 1 false x4 x5) fun v2=>bd (PV.len x0) fun v3=>bd (PV.bin .lss v2 v3) fun v4=>PV.ite v4 (bd (PV.at_ 1 false x4 x5) fun v5=>bd (PV.inb x8 v5) fun v6=>bd (PV.at_ 1 false x8 v5) fun v7=>bd (PV.bin .lss v7 (.int .i64 0)) fun v8=>
 PV.ite v8 (sL x0 x2 x3 x4 x5 x6 x7 x8) (bd (PV.bin .add x5 (.int .i64 1)) fun v9=>eE x0 x1 x2 x3 x4 v9 x6 x7 x8)) (bd (PV.bin .add x5 (.int .i64 1)) fun v10=>eE x0 x1 x2 x3 x4 v10 x6 x7 x8)) (bd (PV.bin .add x2 (.int .i64 1)) fun v11=>dT x0 x1 v11 x6 x7 x8):=aY _ _ _ _ _ _ _ _ (by kernel_rfl)
theorem yM (x0 x1 x2 x3 x4 x5 x6 x7 : PV) : sL x0 x1 x2 x3 x4 x5 x6 x7=bd (PV.at_ 1 false x3 x4) fun v0=>bd (PV.inb x7 v0) fun v1=>bd (PV.setAt 1 false x7 v0 x2) fun v2=>bd (PV.bin .add x4 (.int .i64 1)) fun v3=>eE x0 (.bool true) x1 x2 x3 v3 x5 x6 v2:=aY _ _ _ _ _ _ _ _ (by kernel_rfl)
theorem aGg (x0 x1 : PV) : tT x0 x1=bd (PV.whole 2 x0) fun v0=>bd (PV.cell v0 0) fun v1=>bd (PV.cell v0 1) fun v2=>bd (PV.whole 2 x1) fun v3=>bd (PV.cell v3 0) fun v4=>bd (PV.cell v3 1) fun v5=>bd (PV.bin .eql v4 (.int .i64 1)) fun v6=>PV.ite v6 (some [(.tup [(.int .i64 0),(.int .i64 1)])]) (bd (PV.bin .eql v4 (.int .i64 2)) fun v7=>PV.ite v7 (some [(.tup [(.int .i64 0),(.int .i64 1)])])
 (bd (PV.bin .eql v4 (.int .i64 3)) fun v8=>PV.ite v8 (some [(.tup [(.int .i64 0),(.int .i64 1)])]) (bd (PV.bin .eql v4 (.int .i64 4)) fun v9=>PV.ite v9 (some [(.tup [(.int .i64 0),(.int .i64 1)])]) (bd (PV.bin .eql v4 (.int .i64 5)) fun v10=>PV.ite v10 (some [(.tup [(.int .i64 0),(.int .i64 1)])]) (bd (PV.bin .eql v4 (.int .i64 6)) fun v11=>PV.ite v11 (some [(.tup [(.int .i64 0),(.int .i64 1)])])
 (bd (PV.bin .eql v4 (.int .i64 20)) fun v12=>PV.ite v12 (some [(.tup [(.int .i64 0),(.int .i64 1)])]) (bd (PV.bin .eql v4 (.int .i64 7)) fun v13=>PV.ite v13 (some [(.tup [(.int .i64 1),(.int .i64 0)])]) (bd (PV.bin .eql v4 (.int .i64 9)) fun v14=>PV.ite v14 (some [(.tup [(.int .i64 1),(.int .i64 0)])]) (bd (PV.bin .eql v4 (.int .i64 18)) fun v15=>PV.ite v15 (some [(.tup [(.int .i64 1),(.int .i64 0)])])
 (bd (PV.bin .eql v4 (.int .i64 19)) fun v16=>PV.ite v16 (some [(.tup [(.int .i64 1),(.int .i64 0)])]) (bd (PV.bin .eql v4 (.int .i64 25)) fun v17=>PV.ite v17 (some [(.tup [(.int .i64 1),(.int .i64 0)])]) (bd (PV.bin .eql v4 (.int .i64 26)) fun v18=>PV.ite v18 (some [(.tup [(.int .i64 1),(.int .i64 0)])]) (bd (PV.bin .eql v4 (.int .i64 8)) fun v19=>PV.ite v19 (some [(.tup [(.int .i64 1),(.int .i64 2)])])
 (bd (PV.bin .eql v4 (.int .i64 10)) fun v20=>PV.ite v20 (some [(.tup [(.int .i64 2),(.int .i64 2)])]) (bd (PV.bin .eql v4 (.int .i64 11)) fun v21=>PV.ite v21 (some [(.tup [(.int .i64 2),(.int .i64 1)])]) (bd (PV.bin .eql v4 (.int .i64 12)) fun v22=>PV.ite v22 (some [(.tup [(.int .i64 2),(.int .i64 1)])]) (bd (PV.bin .eql v4 (.int .i64 13)) fun v23=>PV.ite v23 (some [(.tup [(.int .i64 2),(.int .i64 1)])])
 (bd (PV.bin .eql v4 (.int .i64 14)) fun v24=>PV.ite v24 (some [(.tup [(.int .i64 2),(.int .i64 1)])]) (bd (PV.bin .eql v4 (.int .i64 15)) fun v25=>PV.ite v25 (some [(.tup [(.int .i64 2),(.int .i64 1)])]) (bd (PV.bin .eql v4 (.int .i64 16)) fun v26=>PV.ite v26 (some [(.tup [(.int .i64 1),(.int .i64 1)])]) (bd (PV.bin .eql v4 (.int .i64 21)) fun v27=>PV.ite v27 (some [(.tup [(.int .i64 1),(.int .i64 1)])])
 (bd (PV.bin .eql v4 (.int .i64 22)) fun v28=>PV.ite v28 (some [(.tup [(.int .i64 2),(.int .i64 0)])]) (bd (PV.bin .eql v4 (.int .i64 23)) fun v29=>PV.ite v29 (bd (aM v5 (.int .i64 0) (.int .i64 6)) fun r30=>PV.ite (hd r30) (bd (PV.bin .add v5 (.int .i64 1)) fun v31=>some [(.tup [v31,(.int .i64 1)])]) (some [(.tup [(.int .i64 0),(.int .i64 0)])])) (bd (PV.bin .eql v4 (.int .i64 24)) fun v32=>
 PV.ite v32 (bd (PV.len v2) fun v33=>bd (PV.bin .sub v33 (.int .i64 1)) fun v34=>bd (aM v5 (.int .i64 0) v34) fun r35=>PV.ite (hd r35) (bd (PV.at_ 3 true v2 v5) fun v36=>bd (PV.cell v36 0) fun v37=>some [(.tup [v37,(.int .i64 1)])]) (some [(.tup [(.int .i64 0),(.int .i64 0)])])) (some [(.tup [(.int .i64 0),(.int .i64 0)])]))))))))))))))))))))))))):=aK _ _ _ (by kernel_rfl)
theorem aEQ (x0 x1 : PV) : rK x0 x1=bd (PV.whole 2 x0) fun v0=>bd (PV.cell v0 0) fun v1=>bd (PV.cell v0 1) fun v2=>bd (PV.bin .neq v1 (.int .i64 17)) fun v3=>PV.ite v3 (bd (PV.bin .neq v1 (.int .i64 25)) fun v4=>PV.ite v4 (yD x1 v1 v2 (.lst [])) (mN v1 v2 (.lst []))) (mN v1 v2 (.lst [])):=aK _ _ _ (by kernel_rfl)
theorem aB4 (x0 x1 x2 x3 : PV) : yD x0 x1 x2 x3=bd (PV.bin .add x0 (.int .i64 1)) fun v0=>bd (PV.cat 1 8 false (.lst []) (.lst [v0])) fun v1=>bd (PV.cat 1 8 false x3 v1) fun v2=>mN x1 x2 v2:=aY _ _ _ _ _ _ _ _ (by kernel_rfl)
theorem aB5 (x0 x1 x2 : PV) : mN x0 x1 x2=bd (PV.bin .eql x0 (.int .i64 17)) fun v0=>PV.ite v0 (mO x0 x1 x2) (bd (PV.bin .eql x0 (.int .i64 18)) fun v1=>PV.ite v1 (mO x0 x1 x2) (bd (PV.bin .eql x0 (.int .i64 19)) fun v2=>PV.ite v2 (mO x0 x1 x2) (some [x2]))):=aY _ _ _ _ _ _ _ _ (by kernel_rfl)
theorem aB6 (x0 x1 x2 : PV) : mO x0 x1 x2=bd (PV.cat 1 8 false (.lst []) (.lst [x1])) fun v0=>bd (PV.cat 1 8 false x2 v0) fun v1=>some [v1]:=aY _ _ _ _ _ _ _ _ (by kernel_rfl)
theorem aGh (x0 : PV) : fX x0=bd (aM x0 (.int .i64 (-1000000000)) (.int .i64 1000000000)) fun r0=>some [(hd r0)]:=aK _ _ _ (by kernel_rfl)
theorem aHa (x0 x1 x2 : PV) : aBN x0 x1 x2=bd (PV.whole 2 x0) fun v0=>bd (PV.cell v0 0) fun v1=>bd (PV.cell v0 1) fun v2=>bd (PV.whole 2 x2) fun v3=>bd (PV.cell v3 0) fun v4=>bd (PV.cell v3 1) fun v5=>bd (PV.len v2) fun v6=>bd (PV.bin .sub v6 (.int .i64 1)) fun v7=>bd (aM x1 (.int .i64 0) v7) fun r8=>bd (PV.not (hd r8)) fun v9=>PV.ite v9 (some [.bool false])
 (bd (PV.bin .eql v4 (.int .i64 1)) fun v10=>PV.ite v10 (bd (aM v5 (.int .i64 (-1000000000)) (.int .i64 1000000000)) fun r11=>some [(hd r11)]) (bd (PV.bin .eql v4 (.int .i64 2)) fun v12=>PV.ite v12 (bd (aM v5 (.int .i64 0) (.int .i64 1)) fun r13=>some [(hd r13)]) (bd (PV.bin .eql v4 (.int .i64 3)) fun v14=>PV.ite v14 (bd (PV.len v1) fun v15=>bd (PV.bin .sub v15 (.int .i64 1)) fun v16=>
 bd (aM v5 (.int .i64 0) v16) fun r17=>some [(hd r17)]) (bd (PV.bin .eql v4 (.int .i64 5)) fun v18=>PV.ite v18 (bd (PV.len v2) fun v19=>bd (PV.bin .sub v19 (.int .i64 1)) fun v20=>bd (aM v5 (.int .i64 0) v20) fun r21=>some [(hd r21)]) (bd (PV.bin .eql v4 (.int .i64 24)) fun v22=>PV.ite v22 (bd (PV.len v2) fun v23=>bd (PV.bin .sub v23 (.int .i64 1)) fun v24=>
 bd (aM v5 (.int .i64 0) v24) fun r25=>some [(hd r25)]) (bd (PV.bin .eql v4 (.int .i64 6)) fun v26=>PV.ite v26 (bd (PV.at_ 3 true v2 x1) fun v27=>bd (PV.cell v27 1) fun v28=>bd (PV.bin .sub v28 (.int .i64 1)) fun v29=>bd (aM v5 (.int .i64 0) v29) fun r30=>some [(hd r30)]) (bd (PV.bin .eql v4 (.int .i64 7)) fun v31=>PV.ite v31 (bd (PV.at_ 3 true v2 x1) fun v32=>
 bd (PV.cell v32 1) fun v33=>bd (PV.bin .sub v33 (.int .i64 1)) fun v34=>bd (aM v5 (.int .i64 0) v34) fun r35=>some [(hd r35)]) (bd (PV.bin .eql v4 (.int .i64 17)) fun v36=>PV.ite v36 (bd (PV.at_ 3 true v2 x1) fun v37=>bd (PV.cell v37 2) fun v38=>bd (PV.len v38) fun v39=>bd (PV.bin .sub v39 (.int .i64 1)) fun v40=>bd (aM v5 (.int .i64 0) v40) fun r41=>some [(hd r41)])
 (bd (PV.bin .eql v4 (.int .i64 18)) fun v42=>PV.ite v42 (bd (PV.at_ 3 true v2 x1) fun v43=>bd (PV.cell v43 2) fun v44=>bd (PV.len v44) fun v45=>bd (PV.bin .sub v45 (.int .i64 1)) fun v46=>bd (aM v5 (.int .i64 0) v46) fun r47=>some [(hd r47)]) (bd (PV.bin .eql v4 (.int .i64 19)) fun v48=>PV.ite v48 (bd (PV.at_ 3 true v2 x1) fun v49=>bd (PV.cell v49 2) fun v50=>bd (PV.len v50) fun v51=>
 bd (PV.bin .sub v51 (.int .i64 1)) fun v52=>bd (aM v5 (.int .i64 0) v52) fun r53=>some [(hd r53)]) (bd (PV.bin .eql v4 (.int .i64 20)) fun v54=>PV.ite v54 (bd (aM v5 (.int .i64 0) (.int .i64 6)) fun r55=>some [(hd r55)]) (bd (PV.bin .eql v4 (.int .i64 21)) fun v56=>PV.ite v56 (bd (aM v5 (.int .i64 0) (.int .i64 5)) fun r57=>some [(hd r57)]) (bd (PV.bin .eql v4 (.int .i64 22)) fun v58=>
 PV.ite v58 (bd (aM v5 (.int .i64 0) (.int .i64 5)) fun r59=>some [(hd r59)]) (bd (PV.bin .eql v4 (.int .i64 23)) fun v60=>PV.ite v60 (bd (aM v5 (.int .i64 0) (.int .i64 6)) fun r61=>some [(hd r61)]) (bd (aM v4 (.int .i64 1) (.int .i64 26)) fun r62=>PV.ite (hd r62) (bd (PV.bin .eql v5 (.int .i64 0)) fun v63=>some [v63]) (some [.bool false])))))))))))))))):=aK _ _ _ (by kernel_rfl)
theorem aIx (x0 x1 : PV) : vS x0 x1=bd (PV.whole 2 x0) fun v0=>bd (PV.cell v0 0) fun v1=>bd (PV.cell v0 1) fun v2=>bd (PV.whole 10 x1) fun v3=>bd (PV.cell v3 0) fun v4=>bd (PV.cell v3 1) fun v5=>bd (PV.cell v3 2) fun v6=>bd (PV.cell v3 3) fun v7=>bd (PV.cell v3 4) fun v8=>bd (PV.cell v3 5) fun v9=>bd (PV.cell v3 6) fun v10=>bd (PV.cell v3 7) fun v11=>bd (PV.cell v3 8) fun v12=>
 bd (PV.cell v3 9) fun v13=>bd (vT (.agg [v1,v2]) (.agg [v4,v5,v6,v7,v8,v9,v10,v11,v12,v13])) fun r14=>bd (PV.not (hd r14)) fun v15=>PV.ite v15 (some [(.int .i64 0),(.int .i64 0),(.int .i64 0),(.int .i64 0),(.int .i64 0),(.str (bs [])),(.int .i64 0),(.lst []),(.lst []),(.lst [])]) (bd (jZ (.agg [v4,v5,v6,v7,v8,v9,v10,v11,v12,v13])) fun r16=>PV.guardFlat (gd r16 0) (
 PV.guardFlat (gd r16 1) (PV.guardFlat (gd r16 2) (PV.guardFlat (gd r16 3) (PV.guardFlat (gd r16 4) (PV.guardFlat (gd r16 5) (PV.guardFlat (gd r16 6) (PV.guardOwn (.own 4 64 true [.leaf,.leaf,(.own 3 32 true []),(.own 3 32 true [])]) (gd r16 7) (PV.guardOwn (.own 1 24 true [(.own 3 32 true [])]) (gd r16 8) (PV.guardOwn (.own 1 16 false []) (gd r16 9) (bd (PV.bin .eql (gd r16 1) (.int .i64 0)) fun v17=>
 PV.ite v17 (bd (PV.bin .lss (gd r16 6) (.int .i64 50000)) fun v18=>PV.ite v18 (bd (xC v1 v2 (gd r16 0) (gd r16 1) (gd r16 2) (gd r16 3) (gd r16 4) (gd r16 5) (gd r16 6) (gd r16 7) (gd r16 8) (gd r16 9)) fun r19=>bd (jZ (.agg [(gd r19 7),(gd r19 8),(gd r19 0),(gd r19 9),(gd r19 1),(gd r19 2),(gd r19 3),(gd r19 4),(gd r19 5),(gd r19 6)])) fun r20=>PV.guardFlat (gd r20 0) (
 PV.guardFlat (gd r20 1) (PV.guardFlat (gd r20 2) (PV.guardFlat (gd r20 3) (PV.guardFlat (gd r20 4) (PV.guardFlat (gd r20 5) (PV.guardFlat (gd r20 6) (PV.guardOwn (.own 4 64 true [.leaf,.leaf,(.own 3 32 true []),(.own 3 32 true [])]) (gd r20 7) (PV.guardOwn (.own 1 24 true [(.own 3 32 true [])]) (gd r20 8) (PV.guardOwn (.own 1 16 false []) (gd r20 9) (some [(gd r20 0),(gd r20 1),(gd r20 2),(gd r20 3),(gd r20 4),(gd r20 5),(gd r20 6),(gd r20 7),(gd r20 8),(gd r20 9)])))))))))))
 (bd (jZ (.agg [(gd r16 7),(gd r16 8),(gd r16 0),(gd r16 9),(gd r16 1),(gd r16 2),(gd r16 3),(gd r16 4),(gd r16 5),(gd r16 6)])) fun r21=>PV.guardFlat (gd r21 0) (PV.guardFlat (gd r21 1) (PV.guardFlat (gd r21 2) (PV.guardFlat (gd r21 3) (PV.guardFlat (gd r21 4) (PV.guardFlat (gd r21 5) (PV.guardFlat (gd r21 6) (PV.guardOwn (.own 4 64 true [.leaf,.leaf,(.own 3 32 true []),(.own 3 32 true [])]) (gd r21 7) (
 PV.guardOwn (.own 1 24 true [(.own 3 32 true [])]) (gd r21 8) (PV.guardOwn (.own 1 16 false []) (gd r21 9) (some [(gd r21 0),(gd r21 1),(gd r21 2),(gd r21 3),(gd r21 4),(gd r21 5),(gd r21 6),(gd r21 7),(gd r21 8),(gd r21 9)])))))))))))) (bd (jZ (.agg [(gd r16 7),(gd r16 8),(gd r16 0),(gd r16 9),(gd r16 1),(gd r16 2),(gd r16 3),(gd r16 4),(gd r16 5),(gd r16 6)])) fun r22=>
 PV.guardFlat (gd r22 0) (PV.guardFlat (gd r22 1) (PV.guardFlat (gd r22 2) (PV.guardFlat (gd r22 3) (PV.guardFlat (gd r22 4) (PV.guardFlat (gd r22 5) (PV.guardFlat (gd r22 6) (PV.guardOwn (.own 4 64 true [.leaf,.leaf,(.own 3 32 true []),(.own 3 32 true [])]) (gd r22 7) (PV.guardOwn (.own 1 24 true [(.own 3 32 true [])]) (gd r22 8) (PV.guardOwn (.own 1 16 false []) (gd r22 9) (some [(gd r22 0),(gd r22 1),(gd r22 2),(gd r22 3),(gd r22 4),(gd r22 5),(gd r22 6),(gd r22 7),(gd r22 8),(gd r22 9)])))))))))))))))))))))):=bS _ _ _ _ (by kernel_rfl)
theorem aCO (x0 x1 : PV) : vT x0 x1=bd (PV.whole 2 x0) fun v0=>bd (PV.cell v0 0) fun v1=>bd (PV.cell v0 1) fun v2=>bd (PV.whole 10 x1) fun v3=>bd (PV.cell v3 0) fun v4=>bd (PV.cell v3 1) fun v5=>bd (PV.cell v3 2) fun v6=>bd (PV.cell v3 3) fun v7=>bd (PV.cell v3 4) fun v8=>bd (PV.cell v3 5) fun v9=>bd (PV.cell v3 6) fun v10=>bd (PV.cell v3 7) fun v11=>bd (PV.cell v3 8) fun v12=>
 bd (PV.cell v3 9) fun v13=>bd (zY (.agg [v1,v2])) fun r14=>PV.ite (hd r14) (bd (wZ (.agg [v1,v2])) fun r15=>bd (aHP (.agg [v1,v2]) (hd r15) (.agg [v4,v5,v6,v7,v8,v9,v10,v11,v12,v13])) fun r16=>some [(hd r16)]) (some [.bool false]):=aK _ _ _ (by kernel_rfl)
theorem aGi (x0 : PV) : zY x0=bd (PV.whole 2 x0) fun v0=>bd (PV.cell v0 0) fun v1=>bd (PV.cell v0 1) fun v2=>bd (zZ (.agg [v1,v2])) fun r3=>bd (PV.whole 3 (hd r3)) fun v4=>bd (PV.cell v4 0) fun v5=>bd (PV.cell v4 1) fun v6=>bd (PV.cell v4 2) fun v7=>bd (PV.ceq [1,1,1] .eql (.agg [v5,v6,v7]) (.agg [(.int .i64 0),(.int .i64 0),(.int .i64 0)])) fun v8=>
 some [v8]:=aK _ _ _ (by kernel_rfl)
theorem aER (x0 : PV) : wZ x0=bd (PV.whole 2 x0) fun v0=>bd (PV.cell v0 0) fun v1=>bd (PV.cell v0 1) fun v2=>bd (PV.len v2) fun v3=>jU v3 (.int .i64 0) v1 v2 (.lst []):=aK _ _ _ (by kernel_rfl)
theorem sX (x0 x1 x2 x3 x4 : PV) : jU x0 x1 x2 x3 x4=bd (PV.bin .lss x1 x0) fun v0=>PV.ite v0 (bd (tU (.agg [x2,x3]) x1) fun r1=>bd (PV.cat 1 24 false (.lst []) (.lst [(hd r1)])) fun v2=>bd (PV.cat 1 24 false x4 v2) fun v3=>bd (PV.bin .add x1 (.int .i64 1)) fun v4=>jU x0 v4 x2 x3 v3) (some [x4]):=aY _ _ _ _ _ _ _ _ (by kernel_rfl)
theorem aCP (x0 x1 x2 : PV) : aHP x0 x1 x2=bd (PV.whole 2 x0) fun v0=>bd (PV.cell v0 0) fun v1=>bd (PV.cell v0 1) fun v2=>bd (PV.whole 10 x2) fun v3=>bd (PV.cell v3 0) fun v4=>bd (PV.cell v3 1) fun v5=>bd (PV.cell v3 2) fun v6=>bd (PV.cell v3 3) fun v7=>bd (PV.cell v3 4) fun v8=>bd (PV.cell v3 5) fun v9=>bd (PV.cell v3 6) fun v10=>bd (PV.cell v3 7) fun v11=>
 bd (PV.cell v3 8) fun v12=>bd (PV.cell v3 9) fun v13=>bd (tV v5) fun r14=>bd (PV.not (hd r14)) fun v15=>PV.ite v15 (some [.bool false]) (bd (PV.len v5) fun v16=>bd (cA v6 v16 (.int .i64 120)) fun r17=>bd (PV.not (hd r17)) fun v18=>PV.ite v18 (some [.bool false]) (bd (PV.len v7) fun v19=>bd (PV.bin .gtr v19 (.int .i64 200)) fun v20=>PV.ite v20 (some [.bool false])
 (bd (cA v13 (.int .i64 0) (.int .i64 50000)) fun r21=>bd (PV.not (hd r21)) fun v22=>PV.ite v22 (some [.bool false]) (bd (dK v7 (.fn 160 [])) fun r23=>PV.ite (hd r23) (some [.bool false]) (bd (oE v4 v5 v6 v7 v8 v9 v10 v11 v12 v13 (.bool true) v1 v2 v4 v5 v6 v7 v8 v9 v10 v11 v12 v13) fun r24=>bd (PV.len (gd r24 3)) fun v25=>gY x1 (gd r24 3) v25 (.int .i64 0) (gd r24 1) (gd r24 2) (gd r24 3) (gd r24 4) (gd r24 5) (gd r24 6) (gd r24 7) (gd r24 8) (gd r24 9) (gd r24 10) (gd r24 11) (gd r24 12) (gd r24 0)))))):=aK _ _ _ (by kernel_rfl)
theorem mT (x0 x1 x2 x3 x4 x5 x6 x7 x8 x9 x10 x11 x12 x13 x14 x15 x16 : PV) : gY x0 x1 x2 x3 x4 x5 x6 x7 x8 x9 x10 x11 x12 x13 x14 x15 x16=bd (PV.bin .lss x3 x2) fun v0=>PV.ite v0 (bd (PV.at_ 4 true x1 x3) fun v1=>bd (PV.whole 4 v1) fun v2=>bd (PV.cell v2 0) fun v3=>bd (PV.cell v2 1) fun v4=>bd (PV.cell v2 2) fun v5=>bd (PV.cell v2 3) fun v6=>PV.ite x16 (bd (PV.len v5) fun v7=>
 bd (PV.len v6) fun v8=>bd (PV.len x6) fun v9=>bd (PV.bin .sub v9 (.int .i64 1)) fun v10=>bd (PV.bin .eql x3 v10) fun v11=>bd (rL (.agg [x4,x5]) x0 v3 v4 v7 v8 v11) fun r12=>bd (PV.one (hd r12)) fun v13=>bd (PV.bin .add x3 (.int .i64 1)) fun v14=>gY x0 x1 x2 v14 x4 x5 x6 x7 x8 x9 x10 x11 x12 x13 x14 x15 v13) (bd (PV.bin .add x3 (.int .i64 1)) fun v15=>gY x0 x1 x2 v15 x4 x5 x6 x7 x8 x9 x10 x11 x12 x13 x14 x15 (.bool false)))
 (bd (PV.len x6) fun v16=>bd (cA v16 (.int .i64 1) (.int .i64 24)) fun r17=>PV.ite (hd r17) (bd (PV.ceq [1,1,2] .eql (.agg [x12,x13,x14]) (.agg [(.int .i64 0),(.int .i64 0),(.str (bs []))])) fun v18=>bd (PV.bin .eql x10 (.int .i64 0)) fun v19=>PV.ite v19 (PV.ite x16 (PV.ite v18 (bd (PV.bin .eql x11 (.int .i64 0)) fun v20=>some [v20]) (some [.bool false])) (some [.bool false]))
 (bd (PV.bin .eql x10 (.int .i64 2)) fun v21=>PV.ite v21 (PV.ite x16 (PV.ite v18 (bd (cA x11 (.int .i64 1) (.int .i64 8)) fun r22=>some [(hd r22)]) (some [.bool false])) (some [.bool false])) (bd (PV.bin .eql x10 (.int .i64 1)) fun v23=>PV.ite v23 (PV.ite x16 (bd (PV.len x6) fun v24=>bd (PV.bin .eql v24 (.int .i64 0)) fun v25=>PV.ite v25 (bd (PV.bin .eql x11 (.int .i64 0)) fun v26=>
 some [v26]) (some [.bool false])) (some [.bool false])) (some [.bool false])))) (bd (PV.bin .eql x10 (.int .i64 0)) fun v27=>PV.ite v27 (PV.ite x16 (some [.bool false]) (some [.bool false])) (bd (PV.bin .eql x10 (.int .i64 2)) fun v28=>PV.ite v28 (PV.ite x16 (some [.bool false]) (some [.bool false])) (bd (PV.bin .eql x10 (.int .i64 1)) fun v29=>PV.ite v29 (PV.ite x16 (bd (PV.len x6) fun v30=>
 bd (PV.bin .eql v30 (.int .i64 0)) fun v31=>PV.ite v31 (bd (PV.bin .eql x11 (.int .i64 0)) fun v32=>some [v32]) (some [.bool false])) (some [.bool false])) (some [.bool false]))))):=aY _ _ _ _ _ _ _ _ (by kernel_rfl)
theorem aGj (x0 : PV) : zZ x0=bd (PV.whole 2 x0) fun v0=>bd (PV.cell v0 0) fun v1=>bd (PV.cell v0 1) fun v2=>bd (uW (.agg [v1,v2])) fun r3=>bd (PV.not (hd r3)) fun v4=>PV.ite v4 (some [(.agg [(.int .i64 1),(.int .i64 0),(.int .i64 0)])]) (bd (PV.len v2) fun v5=>kP v5 (.int .i64 0) v1 v2 (.int .i64 0) (.int .i64 0) (.int .i64 0)):=aK _ _ _ (by kernel_rfl)
theorem uE (x0 x1 x2 x3 x4 x5 x6 : PV) : kP x0 x1 x2 x3 x4 x5 x6=bd (PV.bin .lss x1 x0) fun v0=>PV.ite v0 (bd (tU (.agg [x2,x3]) x1) fun r1=>bd (PV.one (hd r1)) fun v2=>bd (PV.at_ 3 true x3 x1) fun v3=>bd (PV.cell v3 2) fun v4=>bd (PV.len v4) fun v5=>kQ x1 x0 x1 v4 v5 (.int .i64 0) x2 x3 x4 x5 x6 v2) (some [(.agg [(.int .i64 0),(.int .i64 0),(.int .i64 0)])]):=aY _ _ _ _ _ _ _ _ (by kernel_rfl)
theorem uF (x0 x1 x2 x3 x4 x5 x6 x7 x8 x9 x10 x11 : PV) : kQ x0 x1 x2 x3 x4 x5 x6 x7 x8 x9 x10 x11=bd (PV.bin .lss x5 x4) fun v0=>PV.ite v0 (bd (PV.at_ 2 true x3 x5) fun v1=>bd (PV.whole 2 v1) fun v2=>bd (PV.cell v2 0) fun v3=>bd (PV.cell v2 1) fun v4=>bd (PV.at_ 1 false x11 x5) fun v5=>bd (PV.bin .lss v5 (.int .i64 0)) fun v6=>PV.ite v6 (bd (PV.bin .add x5 (.int .i64 1)) fun v7=>
 kQ x0 x1 x2 x3 x4 v7 x6 x7 x8 x9 x10 x11) (bd (PV.at_ 1 false x11 x5) fun v8=>bd (tW (.agg [x6,x7]) (.agg [v3,v4]) v8) fun r9=>bd (PV.comp (hd r9) 0) fun v10=>bd (PV.comp (hd r9) 1) fun v11=>bd (PV.one v10) fun v12=>bd (PV.not v11) fun v13=>PV.ite v13 (bd (PV.one x0) fun v14=>bd (PV.one x5) fun v15=>some [(.agg [(.int .i64 2),v14,v15])]) (bd (rM (.agg [v3,v4]) x5) fun r16=>
 bd (PV.len x11) fun v17=>bd (iW (hd r16) v17) fun r18=>PV.ite (hd r18) (bd (PV.one x0) fun v19=>bd (PV.one x5) fun v20=>some [(.agg [(.int .i64 3),v19,v20])]) (bd (fS (hd r16) (.fn 214 [(.bx [x11]),(.bx [v12])])) fun r21=>PV.guardFlat (hd r21) (PV.ite (hd r21) (bd (PV.one x0) fun v22=>bd (PV.one x5) fun v23=>some [(.agg [(.int .i64 4),v22,v23])])
 (bd (PV.bin .add x5 (.int .i64 1)) fun v24=>kQ x0 x1 x2 x3 x4 v24 x6 x7 x8 x9 x10 x11)))))) (bd (PV.bin .add x2 (.int .i64 1)) fun v25=>kP x1 v25 x6 x7 x8 x9 x10):=aY _ _ _ _ _ _ _ _ (by kernel_rfl)
theorem aGk (x0 x1 : PV) : tU x0 x1=bd (PV.whole 2 x0) fun v0=>bd (PV.cell v0 0) fun v1=>bd (PV.cell v0 1) fun v2=>bd (PV.at_ 3 true v2 x1) fun v3=>bd (PV.cell v3 2) fun v4=>bd (PV.len v4) fun v5=>bd (kC (.lst [(.int .i64 (-1))]) v5) fun r6=>PV.guardOwn (.own 1 8 false []) (gd r6 0) (bd (PV.inb (gd r6 0) (.int .i64 0)) fun v7=>bd (PV.setAt 1 false (gd r6 0) (.int .i64 0) (.int .i64 0)) fun v8=>
 kR v4 (.bool true) v1 v2 v8):=aK _ _ _ (by kernel_rfl)
theorem kK (x0 x1 x2 x3 x4 : PV) : kR x0 x1 x2 x3 x4=PV.ite x1 (bd (PV.len x0) fun v0=>gF x0 (.bool false) x0 v0 (.int .i64 0) x2 x3 x4) (some [x4]):=aY _ _ _ _ _ _ _ _ (by kernel_rfl)
theorem uG (x0 x1 x2 x3 x4 x5 x6 x7 : PV) : gF x0 x1 x2 x3 x4 x5 x6 x7=bd (PV.bin .lss x4 x3) fun v0=>PV.ite v0 (bd (PV.at_ 2 true x2 x4) fun v1=>bd (PV.whole 2 v1) fun v2=>bd (PV.cell v2 0) fun v3=>bd (PV.cell v2 1) fun v4=>bd (PV.inb x7 x4) fun v5=>bd (PV.at_ 1 false x7 x4) fun v6=>bd (PV.bin .lss v6 (.int .i64 0)) fun v7=>PV.ite v7 (bd (PV.bin .add x4 (.int .i64 1)) fun v8=>
 gF x0 x1 x2 x3 v8 x5 x6 x7) (bd (PV.inb x7 x4) fun v9=>bd (PV.at_ 1 false x7 x4) fun v10=>bd (tW (.agg [x5,x6]) (.agg [v3,v4]) v10) fun r11=>bd (PV.comp (hd r11) 0) fun v12=>bd (PV.comp (hd r11) 1) fun v13=>bd (rM (.agg [v3,v4]) x4) fun r14=>bd (PV.len (hd r14)) fun v15=>eR x0 x1 v12 v13 x2 x3 x4 (hd r14) v15 (.int .i64 0) x5 x6 x7)) (kR x0 x1 x5 x6 x7):=aY _ _ _ _ _ _ _ _ (by kernel_rfl)
theorem sY (x0 x1 x2 x3 x4 x5 x6 x7 x8 x9 x10 x11 x12 : PV) : eR x0 x1 x2 x3 x4 x5 x6 x7 x8 x9 x10 x11 x12=bd (PV.bin .lss x9 x8) fun v0=>PV.ite v0 (bd (PV.at_ 1 false x7 x9) fun v1=>PV.ite x3 (bd (PV.len x0) fun v2=>bd (PV.bin .lss v1 v2) fun v3=>PV.ite v3 (bd (PV.inb x12 v1) fun v4=>bd (PV.at_ 1 false x12 v1) fun v5=>bd (PV.bin .lss v5 (.int .i64 0)) fun v6=>
 PV.ite v6 (yE x0 x2 x3 v1 x4 x5 x6 x7 x8 x9 x10 x11 x12) (bd (PV.bin .add x9 (.int .i64 1)) fun v7=>eR x0 x1 x2 x3 x4 x5 x6 x7 x8 v7 x10 x11 x12)) (bd (PV.bin .add x9 (.int .i64 1)) fun v8=>eR x0 x1 x2 x3 x4 x5 x6 x7 x8 v8 x10 x11 x12)) (bd (PV.bin .add x9 (.int .i64 1)) fun v9=>eR x0 x1 x2 x3 x4 x5 x6 x7 x8 v9 x10 x11 x12)) (bd (PV.bin .add x6 (.int .i64 1)) fun v10=>
 gF x0 x1 x4 x5 v10 x10 x11 x12):=aY _ _ _ _ _ _ _ _ (by kernel_rfl)
theorem aB7 (x0 x1 x2 x3 x4 x5 x6 x7 x8 x9 x10 x11 x12 : PV) : yE x0 x1 x2 x3 x4 x5 x6 x7 x8 x9 x10 x11 x12=bd (PV.inb x12 x3) fun v0=>bd (PV.setAt 1 false x12 x3 x1) fun v1=>bd (PV.bin .add x9 (.int .i64 1)) fun v2=>eR x0 (.bool true) x1 x2 x4 x5 x6 x7 x8 v2 x10 x11 v1:=aY _ _ _ _ _ _ _ _ (by kernel_rfl)
theorem aAk (x0 : PV) : tV x0=bd (PV.len x0) fun v0=>bd (PV.bin .leq v0 (.int .i64 120)) fun v1=>PV.ite v1 (bd (fD x0 (.fn 216 [])) fun r2=>bd (PV.not (hd r2)) fun v3=>some [v3]) (some [.bool false]):=aK _ _ _ (by kernel_rfl)
theorem aES (x0 x1 x2 : PV) : cA x0 x1 x2=bd (PV.bin .leq x1 x0) fun v0=>PV.ite v0 (bd (PV.bin .leq x0 x2) fun v1=>some [v1]) (some [.bool false]):=aK _ _ _ (by kernel_rfl)
theorem lU (x0 x1 : PV) : dK x0 x1=bd (iX x0 x1) fun r0=>bd (PV.bin .geq (hd r0) (.int .i64 0)) fun v1=>some [v1]:=aK _ _ _ (by kernel_rfl)
theorem aAl (x0 : PV) : aAa x0=bd (nH x0) fun r0=>bd (PV.not (hd r0)) fun v1=>some [v1]:=aK _ _ _ (by kernel_rfl)
theorem yK (x0 x1 x2 x3 x4 x5 x6 : PV) : rL x0 x1 x2 x3 x4 x5 x6=bd (PV.whole 2 x0) fun v0=>bd (PV.cell v0 0) fun v1=>bd (PV.cell v0 1) fun v2=>bd (PV.len v2) fun v3=>bd (cK x2 v3) fun r4=>bd (PV.not (hd r4)) fun v5=>PV.ite v5 (some [.bool false]) (bd (PV.at_ 3 true v2 x2) fun v6=>bd (PV.cell v6 1) fun v7=>bd (PV.bin .neq x4 v7) fun v8=>PV.ite v8
 (some [.bool false]) (bd (PV.at_ 3 true v2 x2) fun v9=>bd (PV.cell v9 2) fun v10=>bd (PV.len v10) fun v11=>bd (cK x3 v11) fun r12=>bd (PV.not (hd r12)) fun v13=>PV.ite v13 (some [.bool false]) (bd (PV.at_ 1 false x1 x2) fun v14=>bd (PV.at_ 1 false v14 x3) fun v15=>bd (PV.bin .lss v15 (.int .i64 0)) fun v16=>PV.ite v16 (some [.bool false]) (PV.ite x6 (bd (PV.at_ 1 false x1 x2) fun v17=>
 bd (PV.at_ 1 false v17 x3) fun v18=>bd (PV.bin .eql x5 v18) fun v19=>some [v19]) (bd (PV.bin .eql x3 (.int .i64 0)) fun v20=>PV.ite v20 (some [.bool false]) (bd (PV.at_ 1 false x1 x2) fun v21=>bd (PV.bin .sub x3 (.int .i64 1)) fun v22=>bd (PV.at_ 1 false v21 v22) fun v23=>bd (PV.bin .lss v23 (.int .i64 0)) fun v24=>PV.ite v24 (some [.bool false]) (bd (PV.at_ 3 true v2 x2) fun v25=>bd (PV.cell v25 2) fun v26=>
 bd (PV.bin .sub x3 (.int .i64 1)) fun v27=>bd (PV.at_ 2 true v26 v27) fun v28=>bd (PV.cell v28 0) fun v29=>bd (PV.bin .eql v29 (.int .i64 23)) fun v30=>PV.ite v30 (bd (PV.at_ 1 false x1 x2) fun v31=>bd (PV.at_ 1 false v31 x3) fun v32=>bd (PV.bin .sub v32 (.int .i64 1)) fun v33=>bd (PV.bin .eql x5 v33) fun v34=>some [v34]) (bd (PV.bin .eql v29 (.int .i64 24)) fun v35=>PV.ite v35 (bd (PV.at_ 1 false x1 x2) fun v36=>
 bd (PV.at_ 1 false v36 x3) fun v37=>bd (PV.bin .sub v37 (.int .i64 1)) fun v38=>bd (PV.bin .eql x5 v38) fun v39=>some [v39]) (some [.bool false]))))))))):=aK _ _ _ (by kernel_rfl)
theorem aDO (x0 : PV) : uW x0=bd (PV.whole 2 x0) fun v0=>bd (PV.cell v0 0) fun v1=>bd (PV.cell v0 1) fun v2=>bd (PV.len v2) fun v3=>bd (cA v3 (.int .i64 1) (.int .i64 12)) fun r4=>bd (PV.not (hd r4)) fun v5=>PV.ite v5 (some [.bool false]) (bd (PV.len v1) fun v6=>bd (PV.bin .gtr v6 (.int .i64 20)) fun v7=>PV.ite v7 (some [.bool false]) (bd (dK v1 (.fn 252 [])) fun r8=>
 PV.ite (hd r8) (some [.bool false]) (bd (PV.len v2) fun v9=>lK v2 v9 (.int .i64 0) v1 v2))):=aK _ _ _ (by kernel_rfl)
theorem rA (x0 x1 x2 x3 x4 : PV) : lK x0 x1 x2 x3 x4=bd (PV.bin .lss x2 x1) fun v0=>PV.ite v0 (bd (PV.at_ 3 true x0 x2) fun v1=>bd (PV.whole 3 v1) fun v2=>bd (PV.cell v2 0) fun v3=>bd (PV.cell v2 1) fun v4=>bd (PV.cell v2 2) fun v5=>bd (cA v3 (.int .i64 0) (.int .i64 6)) fun r6=>bd (PV.not (hd r6)) fun v7=>PV.ite v7 (some [.bool false]) (bd (cA v4 v3 (.int .i64 12)) fun r8=>
 bd (PV.not (hd r8)) fun v9=>PV.ite v9 (some [.bool false]) (bd (PV.len v5) fun v10=>bd (cA v10 (.int .i64 1) (.int .i64 120)) fun r11=>bd (PV.not (hd r11)) fun v12=>PV.ite v12 (some [.bool false]) (bd (dW v5 (.fn 254 [(.bx [x3,x4]),(.bx [v3,v4,v5])])) fun r13=>PV.guardFlat (hd r13) (PV.ite (hd r13) (some [.bool false]) (bd (PV.bin .add x2 (.int .i64 1)) fun v14=>
 lK x0 x1 v14 x3 x4)))))) (some [.bool true]):=aY _ _ _ _ _ _ _ _ (by kernel_rfl)
theorem aGl (x0 x1 x2 : PV) : tW x0 x1 x2=bd (PV.whole 2 x0) fun v0=>bd (PV.cell v0 0) fun v1=>bd (PV.cell v0 1) fun v2=>bd (PV.whole 2 x1) fun v3=>bd (PV.cell v3 0) fun v4=>bd (PV.cell v3 1) fun v5=>bd (tX (.agg [v1,v2]) (.agg [v4,v5])) fun r6=>bd (PV.comp (hd r6) 0) fun v7=>bd (PV.comp (hd r6) 1) fun v8=>bd (PV.bin .sub x2 v7) fun v9=>bd (PV.bin .add v9 v8) fun v10=>
 bd (PV.bin .leq v7 x2) fun v11=>PV.ite v11 (bd (PV.bin .leq v10 (.int .i64 16)) fun v12=>some [(.tup [v10,v12])]) (some [(.tup [v10,(.bool false)])]):=aK _ _ _ (by kernel_rfl)
theorem aET (x0 x1 : PV) : rM x0 x1=bd (PV.whole 2 x0) fun v0=>bd (PV.cell v0 0) fun v1=>bd (PV.cell v0 1) fun v2=>bd (PV.bin .eql v1 (.int .i64 25)) fun v3=>PV.ite v3 (some [(.lst [])]) (bd (PV.bin .eql v1 (.int .i64 17)) fun v4=>PV.ite v4 (bd (PV.cat 1 8 false (.lst []) (.lst [v2])) fun v5=>some [v5]) (bd (PV.bin .eql v1 (.int .i64 18)) fun v6=>PV.ite v6 (bd (PV.bin .add x1 (.int .i64 1)) fun v7=>
 bd (PV.cat 1 8 false (.lst []) (.lst [v7,v2])) fun v8=>some [v8]) (bd (PV.bin .eql v1 (.int .i64 19)) fun v9=>PV.ite v9 (bd (PV.bin .add x1 (.int .i64 1)) fun v10=>bd (PV.cat 1 8 false (.lst []) (.lst [v10,v2])) fun v11=>some [v11]) (bd (PV.bin .add x1 (.int .i64 1)) fun v12=>bd (PV.cat 1 8 false (.lst []) (.lst [v12])) fun v13=>some [v13])))):=aK _ _ _ (by kernel_rfl)
theorem sZ (x0 x1 : PV) : iW x0 x1=bd (kS x0 x1) fun r0=>bd (PV.bin .geq (hd r0) (.int .i64 0)) fun v1=>some [v1]:=aK _ _ _ (by kernel_rfl)
theorem pG (x0 x1 : PV) : fS x0 x1=bd (mE x0 x1) fun r0=>bd (PV.bin .geq (hd r0) (.int .i64 0)) fun v1=>some [v1]:=aK _ _ _ (by kernel_rfl)
theorem aDP (x0 x1 x2 : PV) : aBl x0 x1 x2=bd (PV.deref x1 0) fun v0=>bd (PV.at_ 1 false v0 x0) fun v1=>bd (PV.deref x2 0) fun v2=>bd (PV.bin .neq v1 v2) fun v3=>some [v3]:=aK _ _ _ (by kernel_rfl)
theorem eU (x0 x1 : PV) : fD x0 x1=bd (gG x0 x1) fun r0=>bd (PV.bin .geq (hd r0) (.int .i64 0)) fun v1=>some [v1]:=aK _ _ _ (by kernel_rfl)
theorem vU (x0 : PV) : uX x0=bd (PV.whole 1 x0) fun v0=>bd (PV.cell v0 0) fun v1=>bd (PV.len v1) fun v2=>bd (PV.bin .gtr v2 (.int .i64 6)) fun v3=>some [v3]:=aK _ _ _ (by kernel_rfl)
theorem nO (x0 x1 : PV) : iX x0 x1=bd (PV.len x0) fun v0=>dL x0 x1 v0 (.int .i64 0):=aK _ _ _ (by kernel_rfl)
theorem fO (x0 x1 x2 x3 : PV) : dL x0 x1 x2 x3=bd (PV.bin .lss x3 x2) fun v0=>PV.ite v0 (bd (PV.at_ 1 false x0 x3) fun v1=>bd (PV.apply aL x1 [v1]) fun r2=>PV.ite (hd r2) (some [x3]) (bd (PV.bin .add x3 (.int .i64 1)) fun v3=>dL x0 x1 x2 v3)) (some [(.int .i64 (-1))]):=aY _ _ _ _ _ _ _ _ (by kernel_rfl)
theorem aGm (x0 : PV) : nH x0=bd (PV.slen x0) fun v0=>oC x0 v0 (.int .i64 0):=aK _ _ _ (by kernel_rfl)
theorem uH (x0 x1 x2 : PV) : oC x0 x1 x2=bd (PV.bin .lss x2 x1) fun v0=>PV.ite v0 (bd (PV.chr x0 x2) fun v1=>bd (PV.bin .lss v1 (.int .u8 32)) fun v2=>PV.ite v2 (some [.bool false]) (bd (PV.chr x0 x2) fun v3=>bd (PV.bin .gtr v3 (.int .u8 126)) fun v4=>PV.ite v4 (some [.bool false]) (bd (PV.chr x0 x2) fun v5=>bd (PV.bin .eql v5 (.int .u8 34)) fun v6=>PV.ite v6
 (some [.bool false]) (bd (PV.bin .add x2 (.int .i64 1)) fun v7=>oC x0 x1 v7)))) (bd (PV.slen x0) fun v8=>bd (PV.bin .leq v8 (.int .i64 60)) fun v9=>some [v9]):=aY _ _ _ _ _ _ _ _ (by kernel_rfl)
theorem aEU (x0 x1 : PV) : cK x0 x1=bd (PV.bin .sub x1 (.int .i64 1)) fun v0=>bd (cA x0 (.int .i64 0) v0) fun r1=>some [(hd r1)]:=aK _ _ _ (by kernel_rfl)
theorem aB8 (x0 : PV) : yF x0=bd (nH x0) fun r0=>bd (PV.not (hd r0)) fun v1=>some [v1]:=aK _ _ _ (by kernel_rfl)
theorem kD (x0 x1 : PV) : dW x0 x1=bd (gH x0 x1) fun r0=>bd (PV.bin .geq (hd r0) (.int .i64 0)) fun v1=>some [v1]:=aK _ _ _ (by kernel_rfl)
theorem aB9 (x0 x1 x2 : PV) : yG x0 x1 x2=bd (PV.whole 2 x0) fun v0=>bd (PV.cell v0 0) fun v1=>bd (PV.cell v0 1) fun v2=>bd (PV.deref x1 0) fun v3=>bd (PV.deref x1 1) fun v4=>bd (PV.deref x2 0) fun v5=>bd (PV.deref x2 1) fun v6=>bd (PV.deref x2 2) fun v7=>bd (aBO (.agg [v3,v4]) (.agg [v5,v6,v7]) (.agg [v1,v2])) fun r8=>bd (PV.not (hd r8)) fun v9=>
 some [v9]:=aK _ _ _ (by kernel_rfl)
theorem aGn (x0 x1 : PV) : tX x0 x1=bd (PV.whole 2 x0) fun v0=>bd (PV.cell v0 0) fun v1=>bd (PV.cell v0 1) fun v2=>bd (PV.whole 2 x1) fun v3=>bd (PV.cell v3 0) fun v4=>bd (PV.cell v3 1) fun v5=>bd (cA v4 (.int .i64 1) (.int .i64 6)) fun r6=>PV.ite (hd r6) (some [(.tup [(.int .i64 0),(.int .i64 1)])]) (bd (PV.bin .eql v4 (.int .i64 20)) fun v7=>PV.ite v7
 (some [(.tup [(.int .i64 0),(.int .i64 1)])]) (bd (PV.bin .eql v4 (.int .i64 7)) fun v8=>PV.ite v8 (some [(.tup [(.int .i64 1),(.int .i64 0)])]) (bd (PV.bin .eql v4 (.int .i64 9)) fun v9=>PV.ite v9 (some [(.tup [(.int .i64 1),(.int .i64 0)])]) (bd (PV.bin .eql v4 (.int .i64 18)) fun v10=>PV.ite v10 (some [(.tup [(.int .i64 1),(.int .i64 0)])]) (bd (PV.bin .eql v4 (.int .i64 19)) fun v11=>
 PV.ite v11 (some [(.tup [(.int .i64 1),(.int .i64 0)])]) (bd (PV.bin .eql v4 (.int .i64 25)) fun v12=>PV.ite v12 (some [(.tup [(.int .i64 1),(.int .i64 0)])]) (bd (PV.bin .eql v4 (.int .i64 26)) fun v13=>PV.ite v13 (some [(.tup [(.int .i64 1),(.int .i64 0)])]) (bd (PV.bin .eql v4 (.int .i64 8)) fun v14=>PV.ite v14 (some [(.tup [(.int .i64 1),(.int .i64 2)])]) (bd (PV.bin .eql v4 (.int .i64 10)) fun v15=>
 PV.ite v15 (some [(.tup [(.int .i64 2),(.int .i64 2)])]) (bd (cA v4 (.int .i64 11) (.int .i64 15)) fun r16=>PV.ite (hd r16) (some [(.tup [(.int .i64 2),(.int .i64 1)])]) (bd (PV.bin .eql v4 (.int .i64 16)) fun v17=>PV.ite v17 (some [(.tup [(.int .i64 1),(.int .i64 1)])]) (bd (PV.bin .eql v4 (.int .i64 21)) fun v18=>PV.ite v18 (some [(.tup [(.int .i64 1),(.int .i64 1)])]) (bd (PV.bin .eql v4 (.int .i64 22)) fun v19=>
 PV.ite v19 (some [(.tup [(.int .i64 2),(.int .i64 0)])]) (bd (PV.bin .eql v4 (.int .i64 23)) fun v20=>PV.ite v20 (bd (cA v5 (.int .i64 0) (.int .i64 6)) fun r21=>PV.ite (hd r21) (bd (PV.bin .add v5 (.int .i64 1)) fun v22=>some [(.tup [v22,(.int .i64 1)])]) (mP v1 v2 v4 v5)) (mP v1 v2 v4 v5))))))))))))))):=aK _ _ _ (by kernel_rfl)
theorem aCa (x0 x1 x2 x3 : PV) : mP x0 x1 x2 x3=bd (PV.bin .eql x2 (.int .i64 24)) fun v0=>PV.ite v0 (bd (PV.len x1) fun v1=>bd (cK x3 v1) fun r2=>PV.ite (hd r2) (yH x0 x1 x2 x3) (some [(.tup [(.int .i64 0),(.int .i64 0)])])) (some [(.tup [(.int .i64 0),(.int .i64 0)])]):=aY _ _ _ _ _ _ _ _ (by kernel_rfl)
theorem aCb (x0 x1 x2 x3 : PV) : yH x0 x1 x2 x3=bd (PV.at_ 3 true x1 x3) fun v0=>bd (PV.cell v0 0) fun v1=>some [(.tup [v1,(.int .i64 1)])]:=aY _ _ _ _ _ _ _ _ (by kernel_rfl)
theorem vV (x0 x1 : PV) : kS x0 x1=bd (PV.len x0) fun v0=>fE x0 x1 v0 (.int .i64 0):=aK _ _ _ (by kernel_rfl)
theorem kW (x0 x1 x2 x3 : PV) : fE x0 x1 x2 x3=bd (PV.bin .lss x3 x2) fun v0=>PV.ite v0 (bd (PV.at_ 1 false x0 x3) fun v1=>bd (PV.bin .eql x1 v1) fun v2=>PV.ite v2 (some [x3]) (bd (PV.bin .add x3 (.int .i64 1)) fun v3=>fE x0 x1 x2 v3)) (some [(.int .i64 (-1))]):=aY _ _ _ _ _ _ _ _ (by kernel_rfl)
theorem rN (x0 x1 : PV) : mE x0 x1=bd (PV.len x0) fun v0=>eJ x0 x1 v0 (.int .i64 0):=aK _ _ _ (by kernel_rfl)
theorem jA (x0 x1 x2 x3 : PV) : eJ x0 x1 x2 x3=bd (PV.bin .lss x3 x2) fun v0=>PV.ite v0 (bd (PV.at_ 1 false x0 x3) fun v1=>bd (PV.apply aL x1 [v1]) fun r2=>PV.ite (hd r2) (some [x3]) (bd (PV.bin .add x3 (.int .i64 1)) fun v3=>eJ x0 x1 x2 v3)) (some [(.int .i64 (-1))]):=aY _ _ _ _ _ _ _ _ (by kernel_rfl)
theorem fF (x0 x1 : PV) : gG x0 x1=bd (PV.len x0) fun v0=>bL x0 x1 v0 (.int .i64 0):=aK _ _ _ (by kernel_rfl)
theorem cL (x0 x1 x2 x3 : PV) : bL x0 x1 x2 x3=bd (PV.bin .lss x3 x2) fun v0=>PV.ite v0 (bd (PV.at_ 1 true x0 x3) fun v1=>bd (PV.apply aL x1 [v1]) fun r2=>PV.ite (hd r2) (some [x3]) (bd (PV.bin .add x3 (.int .i64 1)) fun v3=>bL x0 x1 x2 v3)) (some [(.int .i64 (-1))]):=aY _ _ _ _ _ _ _ _ (by kernel_rfl)
theorem lR (x0 x1 : PV) : gH x0 x1=bd (PV.len x0) fun v0=>cW x0 x1 v0 (.int .i64 0):=aK _ _ _ (by kernel_rfl)
theorem eV (x0 x1 x2 x3 : PV) : cW x0 x1 x2 x3=bd (PV.bin .lss x3 x2) fun v0=>PV.ite v0 (bd (PV.at_ 2 true x0 x3) fun v1=>bd (PV.apply aL x1 [v1]) fun r2=>PV.ite (hd r2) (some [x3]) (bd (PV.bin .add x3 (.int .i64 1)) fun v3=>cW x0 x1 x2 v3)) (some [(.int .i64 (-1))]):=aY _ _ _ _ _ _ _ _ (by kernel_rfl)
theorem aHb (x0 x1 x2 : PV) : aBO x0 x1 x2=bd (PV.whole 2 x0) fun v0=>bd (PV.cell v0 0) fun v1=>bd (PV.cell v0 1) fun v2=>bd (PV.whole 3 x1) fun v3=>bd (PV.cell v3 0) fun v4=>bd (PV.cell v3 1) fun v5=>bd (PV.cell v3 2) fun v6=>bd (PV.whole 2 x2) fun v7=>bd (PV.cell v7 0) fun v8=>bd (PV.cell v7 1) fun v9=>bd (PV.bin .eql v8 (.int .i64 1)) fun v10=>PV.ite v10
 (bd (kT v9) fun r11=>some [(hd r11)]) (bd (PV.bin .eql v8 (.int .i64 2)) fun v12=>PV.ite v12 (bd (cA v9 (.int .i64 0) (.int .i64 1)) fun r13=>some [(hd r13)]) (bd (PV.bin .eql v8 (.int .i64 3)) fun v14=>PV.ite v14 (bd (PV.len v1) fun v15=>bd (cK v9 v15) fun r16=>some [(hd r16)]) (bd (PV.bin .eql v8 (.int .i64 5)) fun v17=>PV.ite v17 (bd (PV.len v2) fun v18=>
 bd (cK v9 v18) fun r19=>some [(hd r19)]) (bd (PV.bin .eql v8 (.int .i64 24)) fun v20=>PV.ite v20 (bd (PV.len v2) fun v21=>bd (cK v9 v21) fun r22=>some [(hd r22)]) (bd (PV.bin .eql v8 (.int .i64 6)) fun v23=>PV.ite v23 (bd (cK v9 v5) fun r24=>some [(hd r24)]) (bd (PV.bin .eql v8 (.int .i64 7)) fun v25=>PV.ite v25 (bd (cK v9 v5) fun r26=>some [(hd r26)])
 (bd (PV.bin .eql v8 (.int .i64 17)) fun v27=>PV.ite v27 (bd (PV.len v6) fun v28=>bd (cK v9 v28) fun r29=>some [(hd r29)]) (bd (PV.bin .eql v8 (.int .i64 18)) fun v30=>PV.ite v30 (bd (PV.len v6) fun v31=>bd (cK v9 v31) fun r32=>some [(hd r32)]) (bd (PV.bin .eql v8 (.int .i64 19)) fun v33=>PV.ite v33 (bd (PV.len v6) fun v34=>bd (cK v9 v34) fun r35=>some [(hd r35)])
 (bd (PV.bin .eql v8 (.int .i64 20)) fun v36=>PV.ite v36 (bd (cA v9 (.int .i64 0) (.int .i64 6)) fun r37=>some [(hd r37)]) (bd (PV.bin .eql v8 (.int .i64 21)) fun v38=>PV.ite v38 (bd (cK v9 (.int .i64 6)) fun r39=>some [(hd r39)]) (bd (PV.bin .eql v8 (.int .i64 22)) fun v40=>PV.ite v40 (bd (cK v9 (.int .i64 6)) fun r41=>some [(hd r41)]) (bd (PV.bin .eql v8 (.int .i64 23)) fun v42=>
 PV.ite v42 (bd (cA v9 (.int .i64 0) (.int .i64 6)) fun r43=>some [(hd r43)]) (bd (cA v8 (.int .i64 1) (.int .i64 26)) fun r44=>PV.ite (hd r44) (bd (PV.bin .eql v9 (.int .i64 0)) fun v45=>some [v45]) (some [.bool false]))))))))))))))):=aK _ _ _ (by kernel_rfl)
theorem aBo (x0 : PV) : kT x0=bd (cA x0 (.int .i64 (-1000000000)) (.int .i64 1000000000)) fun r0=>some [(hd r0)]:=aK _ _ _ (by kernel_rfl)
theorem aCQ (x0 : PV) : oD x0=bd (PV.len x0) fun v0=>bd (PV.zeros 16 (.str (bs [])) v0) fun v1=>bd (PV.bin .leq v0 v0) fun v2=>PV.ite v2 (bd (PV.zeros 16 (.str (bs [])) v0) fun v3=>kH x0 (.int .i64 0) v3) (none):=bS _ _ _ _ (by kernel_rfl)
theorem pX (x0 x1 x2 : PV) : kH x0 x1 x2=bd (PV.len x0) fun v0=>bd (PV.bin .lss x1 v0) fun v1=>PV.ite v1 (bd (PV.at_ 1 false x0 x1) fun v2=>bd (PV.inb x2 x1) fun v3=>bd (PV.setAt 1 false x2 x1 v2) fun v4=>bd (PV.bin .add x1 (.int .i64 1)) fun v5=>kH x0 v5 v4) (some [x2]):=aY _ _ _ _ _ _ _ _ (by kernel_rfl)
theorem aEV (x0 : PV) : xA x0=bd (PV.len x0) fun v0=>bd (PV.zeros 40 (.agg [(.int .i64 0),(.int .i64 0),(.lst [])]) v0) fun v1=>bd (PV.bin .leq v0 v0) fun v2=>PV.ite v2 (bd (PV.zeros 40 (.agg [(.int .i64 0),(.int .i64 0),(.lst [])]) v0) fun v3=>jV x0 (.int .i64 0) v3) (none):=bS _ _ _ _ (by kernel_rfl)
theorem tA (x0 x1 x2 : PV) : jV x0 x1 x2=bd (PV.len x0) fun v0=>bd (PV.bin .lss x1 v0) fun v1=>PV.ite v1 (bd (PV.at_ 3 true x0 x1) fun v2=>bd (aAc v2) fun r3=>PV.guardFlat (gd r3 0) (PV.guardFlat (gd r3 1) (PV.guardOwn (.own 2 16 true []) (gd r3 2) (bd (PV.inb x2 x1) fun v4=>bd (PV.setAt 3 true x2 x1 (.agg [(gd r3 0),(gd r3 1),(gd r3 2)])) fun v5=>
 bd (PV.bin .add x1 (.int .i64 1)) fun v6=>jV x0 v6 v5)))) (some [x2]):=aY _ _ _ _ _ _ _ _ (by kernel_rfl)
theorem aEW (x0 x1 : PV) : xB x0 x1=bd (PV.whole 2 x0) fun v0=>bd (PV.cell v0 0) fun v1=>bd (PV.cell v0 1) fun v2=>bd (PV.whole 10 x1) fun v3=>bd (PV.cell v3 0) fun v4=>bd (PV.cell v3 1) fun v5=>bd (PV.cell v3 2) fun v6=>bd (PV.cell v3 3) fun v7=>bd (PV.cell v3 4) fun v8=>bd (PV.cell v3 5) fun v9=>bd (PV.cell v3 6) fun v10=>bd (PV.cell v3 7) fun v11=>
 bd (PV.cell v3 8) fun v12=>bd (PV.cell v3 9) fun v13=>bd (PV.bin .neq v8 (.int .i64 0)) fun v14=>PV.ite v14 (bd (jJ (.agg [v4,v5,v6,v7,v8,v9,v10,v11,v12,v13])) fun r15=>PV.guardFlat (gd r15 0) (PV.guardFlat (gd r15 1) (PV.guardFlat (gd r15 2) (PV.guardFlat (gd r15 3) (PV.guardFlat (gd r15 4) (PV.guardFlat (gd r15 5) (PV.guardFlat (gd r15 6) (PV.guardOwn (.own 4 64 true [.leaf,.leaf,(.own 3 32 true []),(.own 3 32 true [])]) (gd r15 7) (
 PV.guardOwn (.own 1 24 true [(.own 3 32 true [])]) (gd r15 8) (PV.guardOwn (.own 1 16 false []) (gd r15 9) (some [(gd r15 0),(gd r15 1),(gd r15 2),(gd r15 3),(gd r15 4),(gd r15 5),(gd r15 6),(gd r15 7),(gd r15 8),(gd r15 9)]))))))))))) (bd (PV.bin .eql v13 (.int .i64 50000)) fun v16=>PV.ite v16 (bd (jJ (.agg [v4,v5,v6,v7,v8,v9,v10,v11,v12,v13])) fun r17=>PV.guardFlat (gd r17 0) (
 PV.guardFlat (gd r17 1) (PV.guardFlat (gd r17 2) (PV.guardFlat (gd r17 3) (PV.guardFlat (gd r17 4) (PV.guardFlat (gd r17 5) (PV.guardFlat (gd r17 6) (PV.guardOwn (.own 4 64 true [.leaf,.leaf,(.own 3 32 true []),(.own 3 32 true [])]) (gd r17 7) (PV.guardOwn (.own 1 24 true [(.own 3 32 true [])]) (gd r17 8) (PV.guardOwn (.own 1 16 false []) (gd r17 9) (some [(gd r17 0),(gd r17 1),(gd r17 2),(gd r17 3),(gd r17 4),(gd r17 5),(gd r17 6),(gd r17 7),(gd r17 8),(gd r17 9)])))))))))))
 (bd (jJ (.agg [v4,v5,v6,v7,v8,v9,v10,v11,v12,v13])) fun r18=>PV.guardFlat (gd r18 0) (PV.guardFlat (gd r18 1) (PV.guardFlat (gd r18 2) (PV.guardFlat (gd r18 3) (PV.guardFlat (gd r18 4) (PV.guardFlat (gd r18 5) (PV.guardFlat (gd r18 6) (PV.guardOwn (.own 4 64 true [.leaf,.leaf,(.own 3 32 true []),(.own 3 32 true [])]) (gd r18 7) (PV.guardOwn (.own 1 24 true [(.own 3 32 true [])]) (gd r18 8) (
 PV.guardOwn (.own 1 16 false []) (gd r18 9) (bd (dY v1 v2 (gd r18 0) (gd r18 1) (gd r18 2) (gd r18 3) (gd r18 4) (gd r18 5) (gd r18 6) (.int .i64 0) (gd r18 7) (gd r18 8) (gd r18 9)) fun r19=>bd (PV.at_ 4 true (gd r19 11) (gd r19 0)) fun v20=>bd (PV.cell v20 0) fun v21=>bd (PV.at_ 3 true v2 v21) fun v22=>bd (PV.cell v22 2) fun v23=>bd (PV.at_ 4 true (gd r19 11) (gd r19 0)) fun v24=>
 bd (PV.cell v24 1) fun v25=>bd (PV.at_ 2 true v23 v25) fun v26=>bd (PV.whole 2 v26) fun v27=>bd (PV.cell v27 0) fun v28=>bd (PV.cell v27 1) fun v29=>bd (PV.at_ 4 true (gd r19 11) (gd r19 0)) fun v30=>bd (PV.cell v30 1) fun v31=>bd (PV.bin .add v31 (.int .i64 1)) fun v32=>bd (PV.one v32) fun v33=>bd (PV.setCell 4 (gd r19 11) (gd r19 0) 1 v33) fun v34=>bd (sN v28 v29 (gd r19 1) (gd r19 2) (gd r19 3) (gd r19 4) (gd r19 5) (gd r19 6) (gd r19 7) (gd r19 8) (gd r19 9) (gd r19 10) v34 (gd r19 12) (gd r19 13)) fun r35=>
 bd (PV.bin .neq (gd r35 9) (.int .i64 0)) fun v36=>PV.ite v36 (bd (jJ (.agg [v4,v5,v6,v7,v8,v9,v10,v11,v12,v13])) fun r37=>PV.guardFlat (gd r37 0) (PV.guardFlat (gd r37 1) (PV.guardFlat (gd r37 2) (PV.guardFlat (gd r37 3) (PV.guardFlat (gd r37 4) (PV.guardFlat (gd r37 5) (PV.guardFlat (gd r37 6) (PV.guardOwn (.own 4 64 true [.leaf,.leaf,(.own 3 32 true []),(.own 3 32 true [])]) (gd r37 7) (
 PV.guardOwn (.own 1 24 true [(.own 3 32 true [])]) (gd r37 8) (PV.guardOwn (.own 1 16 false []) (gd r37 9) (bd (PV.one (gd r35 9)) fun v38=>bd (PV.bin .add (gd r37 6) (.int .i64 1)) fun v39=>bd (PV.one v39) fun v40=>some [(gd r37 0),(.int .i64 2),v38,(gd r37 3),(gd r37 4),(gd r37 5),v40,(gd r37 7),(gd r37 8),(gd r37 9)]))))))))))) (bd (PV.bin .add (gd r35 8) (.int .i64 1)) fun v41=>
 bd (PV.one v41) fun v42=>some [(gd r35 2),(gd r35 3),(gd r35 4),(gd r35 5),(gd r35 6),(gd r35 7),v42,(gd r35 10),(gd r35 11),(gd r35 12)]))))))))))))):=bS _ _ _ _ (by kernel_rfl)
theorem aA7 (x0 x1 : PV) : lL x0 x1=iJ x0 (.int .i64 0) x1:=bS _ _ _ _ (by kernel_rfl)
theorem oK (x0 x1 x2 : PV) : iJ x0 x1 x2=bd (PV.len x2) fun v0=>bd (PV.bin .lss x1 v0) fun v1=>PV.ite v1 (bd (fV x0) fun r2=>bd (PV.inb x2 x1) fun v3=>bd (PV.setAt 1 false x2 x1 (hd r2)) fun v4=>bd (PV.bin .add x0 (.int .i64 1)) fun v5=>bd (PV.bin .add x1 (.int .i64 1)) fun v6=>iJ v5 v6 v4) (some [x0,x2]):=aY _ _ _ _ _ _ _ _ (by kernel_rfl)
theorem aCR (x0 x1 : PV) : sM x0 x1=kI x0 (.int .i64 0) x1:=bS _ _ _ _ (by kernel_rfl)
theorem pY (x0 x1 x2 : PV) : kI x0 x1 x2=bd (PV.len x2) fun v0=>bd (PV.bin .lss x1 v0) fun v1=>PV.ite v1 (bd (PV.inb x2 x1) fun v2=>bd (PV.one x0) fun v3=>bd (PV.setCell 3 x2 x1 0 v3) fun v4=>bd (PV.bin .add x0 (.int .i64 1)) fun v5=>bd (PV.inb v4 x1) fun v6=>bd (PV.one v5) fun v7=>bd (PV.setCell 3 v4 x1 1 v7) fun v8=>bd (PV.bin .add v5 (.int .i64 1)) fun v9=>
 bd (PV.inb v8 x1) fun v10=>bd (PV.at_ 3 true v8 x1) fun v11=>bd (vB x1 v9 v8) fun r12=>bd (PV.bin .add x1 (.int .i64 1)) fun v13=>kI (gd r12 0) v13 (gd r12 1)) (some [x0,x2]):=aY _ _ _ _ _ _ _ _ (by kernel_rfl)
theorem aCc (x0 x1 : PV) : qK x0 x1=jI x0 (.int .i64 0) x1:=bS _ _ _ _ (by kernel_rfl)
theorem oU (x0 x1 x2 : PV) : jI x0 x1 x2=bd (PV.len x2) fun v0=>bd (PV.bin .lss x1 v0) fun v1=>PV.ite v1 (bd (PV.inb x2 x1) fun v2=>bd (PV.one x0) fun v3=>bd (PV.setCell 4 x2 x1 0 v3) fun v4=>bd (PV.bin .add x0 (.int .i64 1)) fun v5=>bd (PV.inb v4 x1) fun v6=>bd (PV.one v5) fun v7=>bd (PV.setCell 4 v4 x1 1 v7) fun v8=>bd (PV.bin .add v5 (.int .i64 1)) fun v9=>
 bd (PV.inb v8 x1) fun v10=>bd (PV.at_ 4 true v8 x1) fun v11=>bd (mX x1 v9 v8) fun r12=>bd (PV.inb (gd r12 1) x1) fun v13=>bd (PV.at_ 4 true (gd r12 1) x1) fun v14=>bd (mY x1 (gd r12 0) (gd r12 1)) fun r15=>bd (PV.bin .add x1 (.int .i64 1)) fun v16=>jI (gd r15 0) v16 (gd r15 1)) (some [x0,x2]):=aY _ _ _ _ _ _ _ _ (by kernel_rfl)
theorem aDQ (x0 x1 : PV) : uY x0 x1=lM x0 (.int .i64 0) x1:=bS _ _ _ _ (by kernel_rfl)
theorem rB (x0 x1 x2 : PV) : lM x0 x1 x2=bd (PV.len x2) fun v0=>bd (PV.bin .lss x1 v0) fun v1=>PV.ite v1 (bd (PV.inb x2 x1) fun v2=>bd (PV.at_ 1 true x2 x1) fun v3=>bd (mZ x1 x0 x2) fun r4=>bd (PV.bin .add x1 (.int .i64 1)) fun v5=>lM (gd r4 0) v5 (gd r4 1)) (some [x0,x2]):=aY _ _ _ _ _ _ _ _ (by kernel_rfl)
theorem aDR (x0 : PV) : uZ x0=bd (PV.len x0) fun v0=>bd (PV.zeros 64 (.agg [(.int .i64 0),(.int .i64 0),(.lst []),(.lst [])]) v0) fun v1=>bd (PV.bin .leq v0 v0) fun v2=>PV.ite v2 (bd (PV.zeros 64 (.agg [(.int .i64 0),(.int .i64 0),(.lst []),(.lst [])]) v0) fun v3=>iY x0 (.int .i64 0) v3) (none):=bS _ _ _ _ (by kernel_rfl)
theorem rC (x0 x1 x2 : PV) : iY x0 x1 x2=bd (PV.len x0) fun v0=>bd (PV.bin .lss x1 v0) fun v1=>PV.ite v1 (bd (PV.at_ 4 true x0 x1) fun v2=>bd (xE v2) fun r3=>PV.guardFlat (gd r3 0) (PV.guardFlat (gd r3 1) (PV.guardOwn (.own 3 32 true []) (gd r3 2) (PV.guardOwn (.own 3 32 true []) (gd r3 3) (bd (PV.inb x2 x1) fun v4=>bd (PV.setAt 4 true x2 x1 (.agg [(gd r3 0),(gd r3 1),(gd r3 2),(gd r3 3)])) fun v5=>
 bd (PV.bin .add x1 (.int .i64 1)) fun v6=>iY x0 v6 v5))))) (some [x2]):=aY _ _ _ _ _ _ _ _ (by kernel_rfl)
theorem aGo (x0 : PV) : aAb x0=bd (PV.len x0) fun v0=>bd (PV.zeros 24 (.agg [(.lst [])]) v0) fun v1=>bd (PV.bin .leq v0 v0) fun v2=>PV.ite v2 (bd (PV.zeros 24 (.agg [(.lst [])]) v0) fun v3=>kU x0 (.int .i64 0) v3) (none):=bS _ _ _ _ (by kernel_rfl)
theorem uI (x0 x1 x2 : PV) : kU x0 x1 x2=bd (PV.len x0) fun v0=>bd (PV.bin .lss x1 v0) fun v1=>PV.ite v1 (bd (PV.at_ 1 true x0 x1) fun v2=>bd (aBT v2) fun r3=>PV.guardOwn (.own 3 32 true []) (gd r3 0) (bd (PV.inb x2 x1) fun v4=>bd (PV.setAt 1 true x2 x1 (.agg [(gd r3 0)])) fun v5=>bd (PV.bin .add x1 (.int .i64 1)) fun v6=>kU x0 v6 v5))
 (some [x2]):=aY _ _ _ _ _ _ _ _ (by kernel_rfl)
theorem aDS (x0 : PV) : jZ x0=bd (PV.whole 10 x0) fun v0=>bd (PV.cell v0 0) fun v1=>bd (PV.cell v0 1) fun v2=>bd (PV.cell v0 2) fun v3=>bd (PV.cell v0 3) fun v4=>bd (PV.cell v0 4) fun v5=>bd (PV.cell v0 5) fun v6=>bd (PV.cell v0 6) fun v7=>bd (PV.cell v0 7) fun v8=>bd (PV.cell v0 8) fun v9=>bd (PV.cell v0 9) fun v10=>bd (qL v1) fun r11=>
 PV.guardOwn (.own 4 64 true [.leaf,.leaf,(.own 3 32 true []),(.own 3 32 true [])]) (gd r11 0) (bd (vC v2) fun r12=>PV.guardOwn (.own 1 24 true [(.own 3 32 true [])]) (gd r12 0) (bd (gI v4) fun r13=>PV.guardOwn (.own 1 16 false []) (gd r13 0) (some [v3,v5,v6,v7,v8,v9,v10,(gd r11 0),(gd r12 0),(gd r13 0)]))):=bS _ _ _ _ (by kernel_rfl)
theorem aEX (x0 x1 x2 x3 x4 x5 x6 x7 x8 x9 x10 x11 : PV) : xC x0 x1 x2 x3 x4 x5 x6 x7 x8 x9 x10 x11=bd (PV.bin .add x8 (.int .i64 1)) fun v0=>bd (PV.one v0) fun v1=>bd (aBU x0 x1 x2 x3 x4 x5 x6 x7 v1 x9 x10 x11) fun r2=>bd (PV.bin .neq (gd r2 0) (.int .i64 0)) fun v3=>PV.ite v3 (bd (PV.one (gd r2 0)) fun v4=>some [(gd r2 1),(.int .i64 2),v4,(gd r2 4),(gd r2 5),(gd r2 6),(gd r2 7),(gd r2 8),(gd r2 9),(gd r2 10)])
 (some [(gd r2 1),(gd r2 2),(gd r2 3),(gd r2 4),(gd r2 5),(gd r2 6),(gd r2 7),(gd r2 8),(gd r2 9),(gd r2 10)]):=bS _ _ _ _ (by kernel_rfl)
theorem uJ (x0 x1 x2 x3 x4 x5 x6 x7 x8 x9 x10 x11 x12 x13 x14 x15 x16 x17 x18 x19 x20 x21 x22 : PV) : oE x0 x1 x2 x3 x4 x5 x6 x7 x8 x9 x10 x11 x12 x13 x14 x15 x16 x17 x18 x19 x20 x21 x22=bd (PV.len x0) fun v0=>eO x0 v0 (.int .i64 0) x10 x11 x12 x13 x14 x15 x16 x17 x18 x19 x20 x21 x22 x0 x1 x2 x3 x4 x5 x6 x7 x8 x9:=bS _ _ _ _ (by kernel_rfl)
theorem iA (x0 x1 x2 x3 x4 x5 x6 x7 x8 x9 x10 x11 x12 x13 x14 x15 x16 x17 x18 x19 x20 x21 x22 x23 x24 x25 : PV) : eO x0 x1 x2 x3 x4 x5 x6 x7 x8 x9 x10 x11 x12 x13 x14 x15 x16 x17 x18 x19 x20 x21 x22 x23 x24 x25=bd (PV.bin .lss x2 x1) fun v0=>PV.ite v0 (bd (PV.at_ 4 true x0 x2) fun v1=>bd (PV.whole 4 v1) fun v2=>bd (PV.cell v2 0) fun v3=>bd (PV.cell v2 1) fun v4=>
 bd (PV.cell v2 2) fun v5=>bd (PV.cell v2 3) fun v6=>bd (PV.cat 1 24 false (.lst []) (.lst [v5,v6])) fun v7=>bd (dA v7) fun r8=>PV.guardOwn (.own 3 32 true []) (gd r8 0) (bd (PV.len (gd r8 0)) fun v9=>eP x0 x1 x2 v9 (.int .i64 0) x3 x4 x5 x6 x7 x8 x9 x10 x11 x12 x13 x14 x15 x16 x17 x18 x19 x20 x21 x22 x23 x24 x25 (gd r8 0))) (bd (PV.len x17) fun v10=>
 dE x17 v10 (.int .i64 0) x3 x4 x5 x6 x7 x8 x9 x10 x11 x12 x13 x14 x15 x16 x17 x18 x19 x20 x21 x22 x23 x24 x25):=aY _ _ _ _ _ _ _ _ (by kernel_rfl)
theorem iB (x0 x1 x2 x3 x4 x5 x6 x7 x8 x9 x10 x11 x12 x13 x14 x15 x16 x17 x18 x19 x20 x21 x22 x23 x24 x25 x26 x27 x28 : PV) : eP x0 x1 x2 x3 x4 x5 x6 x7 x8 x9 x10 x11 x12 x13 x14 x15 x16 x17 x18 x19 x20 x21 x22 x23 x24 x25 x26 x27 x28=bd (PV.bin .lss x4 x3) fun v0=>PV.ite v0 (bd (PV.inb x28 x4) fun v1=>bd (PV.at_ 3 true x28 x4) fun v2=>bd (PV.whole 3 v2) fun v3=>
 bd (PV.cell v3 0) fun v4=>bd (PV.cell v3 1) fun v5=>bd (PV.cell v3 2) fun v6=>bd (nI v4 v5 v6 x5 x6 x7 x8 x9 x10 x11 x12 x13 x14 x15 x16 x17) fun r7=>bd (PV.bin .add x4 (.int .i64 1)) fun v8=>eP x0 x1 x2 x3 v8 (gd r7 0) (gd r7 1) (gd r7 2) (gd r7 3) (gd r7 4) (gd r7 5) (gd r7 6) (gd r7 7) (gd r7 8) (gd r7 9) (gd r7 10) (gd r7 11) (gd r7 12) x18 x19 x20 x21 x22 x23 x24 x25 x26 x27 x28)
 (bd (PV.bin .add x2 (.int .i64 1)) fun v9=>eO x0 x1 v9 x5 x6 x7 x8 x9 x10 x11 x12 x13 x14 x15 x16 x17 x18 x19 x20 x21 x22 x23 x24 x25 x26 x27):=aY _ _ _ _ _ _ _ _ (by kernel_rfl)
theorem gK (x0 x1 x2 x3 x4 x5 x6 x7 x8 x9 x10 x11 x12 x13 x14 x15 x16 x17 x18 x19 x20 x21 x22 x23 x24 x25 : PV) : dE x0 x1 x2 x3 x4 x5 x6 x7 x8 x9 x10 x11 x12 x13 x14 x15 x16 x17 x18 x19 x20 x21 x22 x23 x24 x25=bd (PV.bin .lss x2 x1) fun v0=>PV.ite v0 (bd (PV.at_ 1 true x0 x2) fun v1=>bd (PV.whole 1 v1) fun v2=>bd (PV.cell v2 0) fun v3=>bd (PV.len v3) fun v4=>
 eF x0 x1 x2 v3 v4 (.int .i64 0) x3 x4 x5 x6 x7 x8 x9 x10 x11 x12 x13 x14 x15 x16 x17 x18 x19 x20 x21 x22 x23 x24 x25) (bd (nI x22 x23 x24 x3 x4 x5 x6 x7 x8 x9 x10 x11 x12 x13 x14 x15) fun r5=>some [(gd r5 0),(gd r5 1),(gd r5 2),(gd r5 3),(gd r5 4),(gd r5 5),(gd r5 6),(gd r5 7),(gd r5 8),(gd r5 9),(gd r5 10),(gd r5 11),(gd r5 12)]):=aY _ _ _ _ _ _ _ _ (by kernel_rfl)
theorem gL (x0 x1 x2 x3 x4 x5 x6 x7 x8 x9 x10 x11 x12 x13 x14 x15 x16 x17 x18 x19 x20 x21 x22 x23 x24 x25 x26 x27 x28 : PV) : eF x0 x1 x2 x3 x4 x5 x6 x7 x8 x9 x10 x11 x12 x13 x14 x15 x16 x17 x18 x19 x20 x21 x22 x23 x24 x25 x26 x27 x28=bd (PV.bin .lss x5 x4) fun v0=>PV.ite v0 (bd (PV.at_ 3 true x3 x5) fun v1=>bd (PV.whole 3 v1) fun v2=>bd (PV.cell v2 0) fun v3=>
 bd (PV.cell v2 1) fun v4=>bd (PV.cell v2 2) fun v5=>bd (nI v3 v4 v5 x6 x7 x8 x9 x10 x11 x12 x13 x14 x15 x16 x17 x18) fun r6=>bd (PV.bin .add x5 (.int .i64 1)) fun v7=>eF x0 x1 x2 x3 x4 v7 (gd r6 0) (gd r6 1) (gd r6 2) (gd r6 3) (gd r6 4) (gd r6 5) (gd r6 6) (gd r6 7) (gd r6 8) (gd r6 9) (gd r6 10) (gd r6 11) (gd r6 12) x19 x20 x21 x22 x23 x24 x25 x26 x27 x28) (bd (PV.bin .add x2 (.int .i64 1)) fun v8=>
 dE x0 x1 v8 x6 x7 x8 x9 x10 x11 x12 x13 x14 x15 x16 x17 x18 x19 x20 x21 x22 x23 x24 x25 x26 x27 x28):=aY _ _ _ _ _ _ _ _ (by kernel_rfl)
theorem vD (x0 x1 : PV) : kC x0 x1=bd (PV.bin .lss x1 (.int .i64 0)) fun v0=>PV.ite v0 (none) (mG x0 x1):=bS _ _ _ _ (by kernel_rfl)
theorem rO (x0 x1 : PV) : mG x0 x1=bd (PV.len x0) fun v0=>bd (PV.conv .u64 v0) fun v1=>bd (PV.conv .u64 x1) fun v2=>bd (aBm v1 v2) fun r3=>bd (PV.comp (hd r3) 0) fun v4=>bd (PV.comp (hd r3) 1) fun v5=>bd (PV.bin .gtr v4 (.int .u64 0)) fun v6=>PV.ite v6 (none) (bd (PV.bin .gtr v5 (.int .u64 9223372036854775807)) fun v7=>PV.ite v7
 (none) (mH x0 v5)):=aY _ _ _ _ _ _ _ _ (by kernel_rfl)
theorem rP (x0 x1 : PV) : mH x0 x1=bd (PV.conv .i64 x1) fun v0=>bd (PV.zeros 8 (.int .i64 0) v0) fun v1=>bd (PV.bin .leq v0 v0) fun v2=>PV.ite v2 (bd (PV.zeros 8 (.int .i64 0) v0) fun v3=>bd (PV.len v3) fun v4=>bd (PV.ncopy v3 (.int .i64 0) v4 x0) fun v5=>bd (PV.copyIn 1 false v3 (.int .i64 0) v4 x0) fun v6=>fA v5 v6)
 (none):=aY _ _ _ _ _ _ _ _ (by kernel_rfl)
theorem kL (x0 x1 : PV) : fA x0 x1=bd (PV.len x1) fun v0=>bd (PV.bin .lss x0 v0) fun v1=>PV.ite v1 (bd (PV.len x1) fun v2=>bd (PV.cut 1 false x1 x0 v2) fun v3=>bd (PV.cut 1 false x1 (.int .i64 0) x0) fun v4=>bd (PV.cut 1 false x1 (.int .i64 0) x0) fun v5=>bd (PV.ncopy x1 x0 v2 v5) fun v6=>bd (PV.copyIn 1 false x1 x0 v2 v5) fun v7=>bd (PV.bin .add x0 v6) fun v8=>
 fA v8 v7) (some [x1]):=aY _ _ _ _ _ _ _ _ (by kernel_rfl)
theorem aDT (x0 x1 : PV) : aBm x0 x1=bd (yI x0 x1) fun r0=>bd (PV.comp (hd r0) 0) fun v1=>bd (PV.comp (hd r0) 1) fun v2=>some [(.tup [v1,v2])]:=aK _ _ _ (by kernel_rfl)
theorem aCd (x0 x1 : PV) : yI x0 x1=bd (PV.bin .and x0 (.int .u64 4294967295)) fun v0=>bd (PV.bin .shr x0 (.int .u64 32)) fun v1=>bd (PV.bin .and x1 (.int .u64 4294967295)) fun v2=>bd (PV.bin .shr x1 (.int .u64 32)) fun v3=>bd (PV.bin .mul v0 v2) fun v4=>bd (PV.bin .mul v1 v2) fun v5=>bd (PV.bin .shr v4 (.int .u64 32)) fun v6=>bd (PV.bin .add v5 v6) fun v7=>
 bd (PV.bin .and v7 (.int .u64 4294967295)) fun v8=>bd (PV.bin .shr v7 (.int .u64 32)) fun v9=>bd (PV.bin .mul v0 v3) fun v10=>bd (PV.bin .add v8 v10) fun v11=>bd (PV.bin .mul v1 v3) fun v12=>bd (PV.bin .add v12 v9) fun v13=>bd (PV.bin .shr v11 (.int .u64 32)) fun v14=>bd (PV.bin .add v13 v14) fun v15=>bd (PV.bin .mul x0 x1) fun v16=>some [(.tup [v15,v16])]:=aK _ _ _ (by kernel_rfl)
theorem aGp (x0 : PV) : aAc x0=bd (PV.whole 3 x0) fun v0=>bd (PV.cell v0 0) fun v1=>bd (PV.cell v0 1) fun v2=>bd (PV.cell v0 2) fun v3=>bd (PV.one v1) fun v4=>bd (PV.one v2) fun v5=>bd (aAj v3) fun r6=>PV.guardOwn (.own 2 16 true []) (gd r6 0) (some [v4,v5,(gd r6 0)]):=bS _ _ _ _ (by kernel_rfl)
theorem aEY (x0 : PV) : jJ x0=bd (PV.whole 10 x0) fun v0=>bd (PV.cell v0 0) fun v1=>bd (PV.cell v0 1) fun v2=>bd (PV.cell v0 2) fun v3=>bd (PV.cell v0 3) fun v4=>bd (PV.cell v0 4) fun v5=>bd (PV.cell v0 5) fun v6=>bd (PV.cell v0 6) fun v7=>bd (PV.cell v0 7) fun v8=>bd (PV.cell v0 8) fun v9=>bd (PV.cell v0 9) fun v10=>mQ (.int .i64 0) v1 v2 v3 v4 v5 v6 v7 v8 v9 v10 (.int .i64 0) (.int .i64 0) (.int .i64 0) (.int .i64 0) (.int .i64 0) (.str (bs [])) (.int .i64 0) (.lst []) (.lst []) (.lst []) (.lst []):=bS _ _ _ _ (by kernel_rfl)
theorem tB (x0 x1 x2 x3 x4 x5 x6 x7 x8 x9 x10 x11 x12 x13 x14 x15 x16 x17 x18 x19 x20 x21 : PV) : mQ x0 x1 x2 x3 x4 x5 x6 x7 x8 x9 x10 x11 x12 x13 x14 x15 x16 x17 x18 x19 x20 x21=bd (PV.len x1) fun v0=>bd (PV.bin .lss x0 v0) fun v1=>PV.ite v1 (bd (PV.at_ 4 true x1 x0) fun v2=>bd (oI v2) fun r3=>PV.guardFlat (gd r3 0) (PV.guardFlat (gd r3 1) (PV.guardOwn (.own 3 32 true []) (gd r3 2) (
 PV.guardOwn (.own 3 32 true []) (gd r3 3) (bd (PV.cat 4 64 true x21 (.lst [(.agg [(gd r3 0),(gd r3 1),(gd r3 2),(gd r3 3)])])) fun v4=>bd (PV.bin .add x0 (.int .i64 1)) fun v5=>mQ v5 x1 x2 x3 x4 x5 x6 x7 x8 x9 x10 x11 x12 x13 x14 x15 x16 x17 x18 x19 x20 v4))))) (bd (pF x2) fun r6=>PV.guardOwn (.own 1 24 true [(.own 3 32 true [])]) (gd r6 0) (bd (PV.cat 1 16 false (.lst []) x4) fun v7=>
 some [x3,x5,x6,x7,x8,x9,x10,x21,(gd r6 0),v7])):=aY _ _ _ _ _ _ _ _ (by kernel_rfl)
theorem aAm (x0 x1 x2 x3 x4 x5 x6 x7 x8 x9 x10 x11 x12 : PV) : dY x0 x1 x2 x3 x4 x5 x6 x7 x8 x9 x10 x11 x12=bd (PV.len x10) fun v0=>bd (PV.bin .sub v0 (.int .i64 1)) fun v1=>bd (PV.inb x10 v1) fun v2=>some [v1,x0,x1,x2,x3,x4,x5,x6,x7,x8,x9,x10,x11,x12]:=bS _ _ _ _ (by kernel_rfl)
theorem aCS (x0 x1 x2 x3 x4 x5 x6 x7 x8 x9 x10 x11 x12 x13 x14 : PV) : sN x0 x1 x2 x3 x4 x5 x6 x7 x8 x9 x10 x11 x12 x13 x14=bd (dY x2 x3 x4 x5 x6 x7 x8 x9 x10 x11 x12 x13 x14) fun r0=>bd (PV.bin .eql x0 (.int .i64 1)) fun v1=>PV.ite v1 (bd (pS x1) fun r2=>bd (gC (hd r2) (gd r0 1) (gd r0 2) (gd r0 3) (gd r0 4) (gd r0 5) (gd r0 6) (gd r0 7) (gd r0 8) (gd r0 9) (gd r0 10) (gd r0 11) (gd r0 12) (gd r0 13)) fun r3=>
 some [(gd r3 0),(gd r3 1),(gd r3 2),(gd r3 3),(gd r3 4),(gd r3 5),(gd r3 6),(gd r3 7),(gd r3 8),(gd r3 9),(gd r3 10),(gd r3 11),(gd r3 12)]) (bd (PV.bin .eql x0 (.int .i64 2)) fun v4=>PV.ite v4 (bd (PV.bin .eql x1 (.int .i64 1)) fun v5=>bd (fT v5) fun r6=>bd (gC (hd r6) (gd r0 1) (gd r0 2) (gd r0 3) (gd r0 4) (gd r0 5) (gd r0 6) (gd r0 7) (gd r0 8) (gd r0 9) (gd r0 10) (gd r0 11) (gd r0 12) (gd r0 13)) fun r7=>
 some [(gd r7 0),(gd r7 1),(gd r7 2),(gd r7 3),(gd r7 4),(gd r7 5),(gd r7 6),(gd r7 7),(gd r7 8),(gd r7 9),(gd r7 10),(gd r7 11),(gd r7 12)]) (bd (PV.bin .eql x0 (.int .i64 3)) fun v8=>PV.ite v8 (bd (PV.at_ 1 false (gd r0 1) x1) fun v9=>bd (PV.one v9) fun v10=>bd (bI (.int .i64 3) (.int .i64 0) v10 (gd r0 1) (gd r0 2) (gd r0 3) (gd r0 4) (gd r0 5) (gd r0 6) (gd r0 7) (gd r0 8) (gd r0 9) (gd r0 10) (gd r0 11) (gd r0 12) (gd r0 13)) fun r11=>
 some [(gd r11 0),(gd r11 1),(gd r11 2),(gd r11 3),(gd r11 4),(gd r11 5),(gd r11 6),(gd r11 7),(gd r11 8),(gd r11 9),(gd r11 10),(gd r11 11),(gd r11 12)]) (bd (PV.bin .eql x0 (.int .i64 4)) fun v12=>PV.ite v12 (bd (bI (.int .i64 0) (.int .i64 0) (.str (bs [])) (gd r0 1) (gd r0 2) (gd r0 3) (gd r0 4) (gd r0 5) (gd r0 6) (gd r0 7) (gd r0 8) (gd r0 9) (gd r0 10) (gd r0 11) (gd r0 12) (gd r0 13)) fun r13=>
 some [(gd r13 0),(gd r13 1),(gd r13 2),(gd r13 3),(gd r13 4),(gd r13 5),(gd r13 6),(gd r13 7),(gd r13 8),(gd r13 9),(gd r13 10),(gd r13 11),(gd r13 12)]) (bd (PV.bin .eql x0 (.int .i64 5)) fun v14=>PV.ite v14 (bd (PV.one x1) fun v15=>bd (bI (.int .i64 5) v15 (.str (bs [])) (gd r0 1) (gd r0 2) (gd r0 3) (gd r0 4) (gd r0 5) (gd r0 6) (gd r0 7) (gd r0 8) (gd r0 9) (gd r0 10) (gd r0 11) (gd r0 12) (gd r0 13)) fun r16=>
 some [(gd r16 0),(gd r16 1),(gd r16 2),(gd r16 3),(gd r16 4),(gd r16 5),(gd r16 6),(gd r16 7),(gd r16 8),(gd r16 9),(gd r16 10),(gd r16 11),(gd r16 12)]) (bd (PV.bin .eql x0 (.int .i64 6)) fun v17=>PV.ite v17 (bd (PV.at_ 4 true (gd r0 11) (gd r0 0)) fun v18=>bd (PV.at_ 4 true (gd r0 11) (gd r0 0)) fun v19=>bd (PV.cell v19 2) fun v20=>bd (PV.inb v20 x1) fun v21=>bd (PV.at_ 4 true (gd r0 11) (gd r0 0)) fun v22=>
 bd (PV.cell v22 2) fun v23=>bd (PV.at_ 3 true v23 x1) fun v24=>bd (gC v24 (gd r0 1) (gd r0 2) (gd r0 3) (gd r0 4) (gd r0 5) (gd r0 6) (gd r0 7) (gd r0 8) (gd r0 9) (gd r0 10) (gd r0 11) (gd r0 12) (gd r0 13)) fun r25=>some [(gd r25 0),(gd r25 1),(gd r25 2),(gd r25 3),(gd r25 4),(gd r25 5),(gd r25 6),(gd r25 7),(gd r25 8),(gd r25 9),(gd r25 10),(gd r25 11),(gd r25 12)])
 (bd (PV.bin .eql x0 (.int .i64 7)) fun v26=>PV.ite v26 (bd (aV (gd r0 1) (gd r0 2) (gd r0 3) (gd r0 4) (gd r0 5) (gd r0 6) (gd r0 7) (gd r0 8) (gd r0 9) (gd r0 10) (gd r0 11) (gd r0 12) (gd r0 13)) fun r27=>bd (PV.whole 3 (gd r27 0)) fun v28=>bd (PV.cell v28 0) fun v29=>bd (PV.cell v28 1) fun v30=>bd (PV.cell v28 2) fun v31=>bd (PV.at_ 4 true (gd r27 11) (gd r0 0)) fun v32=>
 bd (PV.at_ 4 true (gd r27 11) (gd r0 0)) fun v33=>bd (PV.cell v33 2) fun v34=>bd (PV.inb v34 x1) fun v35=>bd (PV.at_ 4 true (gd r27 11) (gd r0 0)) fun v36=>bd (PV.cell v36 2) fun v37=>bd (PV.at_ 4 true (gd r27 11) (gd r0 0)) fun v38=>bd (PV.cell v38 2) fun v39=>bd (PV.setAt 3 true v39 x1 (.agg [v29,v30,v31])) fun v40=>bd (PV.at_ 4 true (gd r27 11) (gd r0 0)) fun v41=>bd (PV.cell v41 2) fun v42=>
 bd (PV.setCell 4 (gd r27 11) (gd r0 0) 2 v40) fun v43=>some [(gd r27 1),(gd r27 2),(gd r27 3),(gd r27 4),(gd r27 5),(gd r27 6),(gd r27 7),(gd r27 8),(gd r27 9),(gd r27 10),v43,(gd r27 12),(gd r27 13)]) (bd (PV.bin .eql x0 (.int .i64 8)) fun v44=>PV.ite v44 (bd (aV (gd r0 1) (gd r0 2) (gd r0 3) (gd r0 4) (gd r0 5) (gd r0 6) (gd r0 7) (gd r0 8) (gd r0 9) (gd r0 10) (gd r0 11) (gd r0 12) (gd r0 13)) fun r45=>
 bd (PV.whole 3 (gd r45 0)) fun v46=>bd (PV.cell v46 0) fun v47=>bd (PV.cell v46 1) fun v48=>bd (PV.cell v46 2) fun v49=>bd (bI v47 v48 v49 (gd r45 1) (gd r45 2) (gd r45 3) (gd r45 4) (gd r45 5) (gd r45 6) (gd r45 7) (gd r45 8) (gd r45 9) (gd r45 10) (gd r45 11) (gd r45 12) (gd r45 13)) fun r50=>bd (bI v47 v48 v49 (gd r50 0) (gd r50 1) (gd r50 2) (gd r50 3) (gd r50 4) (gd r50 5) (gd r50 6) (gd r50 7) (gd r50 8) (gd r50 9) (gd r50 10) (gd r50 11) (gd r50 12)) fun r51=>
 some [(gd r51 0),(gd r51 1),(gd r51 2),(gd r51 3),(gd r51 4),(gd r51 5),(gd r51 6),(gd r51 7),(gd r51 8),(gd r51 9),(gd r51 10),(gd r51 11),(gd r51 12)]) (bd (PV.bin .eql x0 (.int .i64 9)) fun v52=>PV.ite v52 (bd (aV (gd r0 1) (gd r0 2) (gd r0 3) (gd r0 4) (gd r0 5) (gd r0 6) (gd r0 7) (gd r0 8) (gd r0 9) (gd r0 10) (gd r0 11) (gd r0 12) (gd r0 13)) fun r53=>some [(gd r53 1),(gd r53 2),(gd r53 3),(gd r53 4),(gd r53 5),(gd r53 6),(gd r53 7),(gd r53 8),(gd r53 9),(gd r53 10),(gd r53 11),(gd r53 12),(gd r53 13)])
 (bd (PV.bin .eql x0 (.int .i64 10)) fun v54=>PV.ite v54 (bd (aV (gd r0 1) (gd r0 2) (gd r0 3) (gd r0 4) (gd r0 5) (gd r0 6) (gd r0 7) (gd r0 8) (gd r0 9) (gd r0 10) (gd r0 11) (gd r0 12) (gd r0 13)) fun r55=>bd (PV.whole 3 (gd r55 0)) fun v56=>bd (PV.cell v56 0) fun v57=>bd (PV.cell v56 1) fun v58=>bd (PV.cell v56 2) fun v59=>bd (aV (gd r55 1) (gd r55 2) (gd r55 3) (gd r55 4) (gd r55 5) (gd r55 6) (gd r55 7) (gd r55 8) (gd r55 9) (gd r55 10) (gd r55 11) (gd r55 12) (gd r55 13)) fun r60=>
 bd (PV.whole 3 (gd r60 0)) fun v61=>bd (PV.cell v61 0) fun v62=>bd (PV.cell v61 1) fun v63=>bd (PV.cell v61 2) fun v64=>bd (bI v57 v58 v59 (gd r60 1) (gd r60 2) (gd r60 3) (gd r60 4) (gd r60 5) (gd r60 6) (gd r60 7) (gd r60 8) (gd r60 9) (gd r60 10) (gd r60 11) (gd r60 12) (gd r60 13)) fun r65=>bd (bI v62 v63 v64 (gd r65 0) (gd r65 1) (gd r65 2) (gd r65 3) (gd r65 4) (gd r65 5) (gd r65 6) (gd r65 7) (gd r65 8) (gd r65 9) (gd r65 10) (gd r65 11) (gd r65 12)) fun r66=>
 some [(gd r66 0),(gd r66 1),(gd r66 2),(gd r66 3),(gd r66 4),(gd r66 5),(gd r66 6),(gd r66 7),(gd r66 8),(gd r66 9),(gd r66 10),(gd r66 11),(gd r66 12)]) (bd (PV.bin .eql x0 (.int .i64 11)) fun v67=>PV.ite v67 (bd (aV (gd r0 1) (gd r0 2) (gd r0 3) (gd r0 4) (gd r0 5) (gd r0 6) (gd r0 7) (gd r0 8) (gd r0 9) (gd r0 10) (gd r0 11) (gd r0 12) (gd r0 13)) fun r68=>bd (PV.whole 3 (gd r68 0)) fun v69=>
 bd (PV.cell v69 0) fun v70=>bd (PV.cell v69 1) fun v71=>bd (PV.cell v69 2) fun v72=>bd (aV (gd r68 1) (gd r68 2) (gd r68 3) (gd r68 4) (gd r68 5) (gd r68 6) (gd r68 7) (gd r68 8) (gd r68 9) (gd r68 10) (gd r68 11) (gd r68 12) (gd r68 13)) fun r73=>bd (PV.whole 3 (gd r73 0)) fun v74=>bd (PV.cell v74 0) fun v75=>bd (PV.cell v74 1) fun v76=>bd (PV.cell v74 2) fun v77=>bd (mW x0 (.agg [v75,v76,v77]) (.agg [v70,v71,v72])) fun r78=>
 bd (PV.comp (hd r78) 0) fun v79=>bd (PV.comp (hd r78) 1) fun v80=>bd (PV.whole 3 v79) fun v81=>bd (PV.cell v81 0) fun v82=>bd (PV.cell v81 1) fun v83=>bd (PV.cell v81 2) fun v84=>bd (PV.one v80) fun v85=>bd (bI v82 v83 v84 (gd r73 1) (gd r73 2) (gd r73 3) (gd r73 4) (gd r73 5) (gd r73 6) (gd r73 7) (gd r73 8) (gd r73 9) v85 (gd r73 11) (gd r73 12) (gd r73 13)) fun r86=>
 some [(gd r86 0),(gd r86 1),(gd r86 2),(gd r86 3),(gd r86 4),(gd r86 5),(gd r86 6),(gd r86 7),(gd r86 8),(gd r86 9),(gd r86 10),(gd r86 11),(gd r86 12)]) (bd (PV.bin .eql x0 (.int .i64 12)) fun v87=>PV.ite v87 (bd (aV (gd r0 1) (gd r0 2) (gd r0 3) (gd r0 4) (gd r0 5) (gd r0 6) (gd r0 7) (gd r0 8) (gd r0 9) (gd r0 10) (gd r0 11) (gd r0 12) (gd r0 13)) fun r88=>bd (PV.whole 3 (gd r88 0)) fun v89=>
 bd (PV.cell v89 0) fun v90=>bd (PV.cell v89 1) fun v91=>bd (PV.cell v89 2) fun v92=>bd (aV (gd r88 1) (gd r88 2) (gd r88 3) (gd r88 4) (gd r88 5) (gd r88 6) (gd r88 7) (gd r88 8) (gd r88 9) (gd r88 10) (gd r88 11) (gd r88 12) (gd r88 13)) fun r93=>bd (PV.whole 3 (gd r93 0)) fun v94=>bd (PV.cell v94 0) fun v95=>bd (PV.cell v94 1) fun v96=>bd (PV.cell v94 2) fun v97=>bd (mW x0 (.agg [v95,v96,v97]) (.agg [v90,v91,v92])) fun r98=>
 bd (PV.comp (hd r98) 0) fun v99=>bd (PV.comp (hd r98) 1) fun v100=>bd (PV.whole 3 v99) fun v101=>bd (PV.cell v101 0) fun v102=>bd (PV.cell v101 1) fun v103=>bd (PV.cell v101 2) fun v104=>bd (PV.one v100) fun v105=>bd (bI v102 v103 v104 (gd r93 1) (gd r93 2) (gd r93 3) (gd r93 4) (gd r93 5) (gd r93 6) (gd r93 7) (gd r93 8) (gd r93 9) v105 (gd r93 11) (gd r93 12) (gd r93 13)) fun r106=>
 some [(gd r106 0),(gd r106 1),(gd r106 2),(gd r106 3),(gd r106 4),(gd r106 5),(gd r106 6),(gd r106 7),(gd r106 8),(gd r106 9),(gd r106 10),(gd r106 11),(gd r106 12)]) (bd (PV.bin .eql x0 (.int .i64 13)) fun v107=>PV.ite v107 (bd (aV (gd r0 1) (gd r0 2) (gd r0 3) (gd r0 4) (gd r0 5) (gd r0 6) (gd r0 7) (gd r0 8) (gd r0 9) (gd r0 10) (gd r0 11) (gd r0 12) (gd r0 13)) fun r108=>
 bd (PV.whole 3 (gd r108 0)) fun v109=>bd (PV.cell v109 0) fun v110=>bd (PV.cell v109 1) fun v111=>bd (PV.cell v109 2) fun v112=>bd (aV (gd r108 1) (gd r108 2) (gd r108 3) (gd r108 4) (gd r108 5) (gd r108 6) (gd r108 7) (gd r108 8) (gd r108 9) (gd r108 10) (gd r108 11) (gd r108 12) (gd r108 13)) fun r113=>bd (PV.whole 3 (gd r113 0)) fun v114=>bd (PV.cell v114 0) fun v115=>
 bd (PV.cell v114 1) fun v116=>bd (PV.cell v114 2) fun v117=>bd (mW x0 (.agg [v115,v116,v117]) (.agg [v110,v111,v112])) fun r118=>bd (PV.comp (hd r118) 0) fun v119=>bd (PV.comp (hd r118) 1) fun v120=>bd (PV.whole 3 v119) fun v121=>bd (PV.cell v121 0) fun v122=>bd (PV.cell v121 1) fun v123=>bd (PV.cell v121 2) fun v124=>bd (PV.one v120) fun v125=>bd (bI v122 v123 v124 (gd r113 1) (gd r113 2) (gd r113 3) (gd r113 4) (gd r113 5) (gd r113 6) (gd r113 7) (gd r113 8) (gd r113 9) v125 (gd r113 11) (gd r113 12) (gd r113 13)) fun r126=>
 some [(gd r126 0),(gd r126 1),(gd r126 2),(gd r126 3),(gd r126 4),(gd r126 5),(gd r126 6),(gd r126 7),(gd r126 8),(gd r126 9),(gd r126 10),(gd r126 11),(gd r126 12)]) (bd (PV.bin .eql x0 (.int .i64 14)) fun v127=>PV.ite v127 (bd (aV (gd r0 1) (gd r0 2) (gd r0 3) (gd r0 4) (gd r0 5) (gd r0 6) (gd r0 7) (gd r0 8) (gd r0 9) (gd r0 10) (gd r0 11) (gd r0 12) (gd r0 13)) fun r128=>
 bd (PV.whole 3 (gd r128 0)) fun v129=>bd (PV.cell v129 0) fun v130=>bd (PV.cell v129 1) fun v131=>bd (PV.cell v129 2) fun v132=>bd (aV (gd r128 1) (gd r128 2) (gd r128 3) (gd r128 4) (gd r128 5) (gd r128 6) (gd r128 7) (gd r128 8) (gd r128 9) (gd r128 10) (gd r128 11) (gd r128 12) (gd r128 13)) fun r133=>bd (PV.whole 3 (gd r133 0)) fun v134=>bd (PV.cell v134 0) fun v135=>
 bd (PV.cell v134 1) fun v136=>bd (PV.cell v134 2) fun v137=>bd (mW x0 (.agg [v135,v136,v137]) (.agg [v130,v131,v132])) fun r138=>bd (PV.comp (hd r138) 0) fun v139=>bd (PV.comp (hd r138) 1) fun v140=>bd (PV.whole 3 v139) fun v141=>bd (PV.cell v141 0) fun v142=>bd (PV.cell v141 1) fun v143=>bd (PV.cell v141 2) fun v144=>bd (PV.one v140) fun v145=>bd (bI v142 v143 v144 (gd r133 1) (gd r133 2) (gd r133 3) (gd r133 4) (gd r133 5) (gd r133 6) (gd r133 7) (gd r133 8) (gd r133 9) v145 (gd r133 11) (gd r133 12) (gd r133 13)) fun r146=>
 some [(gd r146 0),(gd r146 1),(gd r146 2),(gd r146 3),(gd r146 4),(gd r146 5),(gd r146 6),(gd r146 7),(gd r146 8),(gd r146 9),(gd r146 10),(gd r146 11),(gd r146 12)]) (bd (PV.bin .eql x0 (.int .i64 15)) fun v147=>PV.ite v147 (bd (aV (gd r0 1) (gd r0 2) (gd r0 3) (gd r0 4) (gd r0 5) (gd r0 6) (gd r0 7) (gd r0 8) (gd r0 9) (gd r0 10) (gd r0 11) (gd r0 12) (gd r0 13)) fun r148=>
 bd (PV.whole 3 (gd r148 0)) fun v149=>bd (PV.cell v149 0) fun v150=>bd (PV.cell v149 1) fun v151=>bd (PV.cell v149 2) fun v152=>bd (aV (gd r148 1) (gd r148 2) (gd r148 3) (gd r148 4) (gd r148 5) (gd r148 6) (gd r148 7) (gd r148 8) (gd r148 9) (gd r148 10) (gd r148 11) (gd r148 12) (gd r148 13)) fun r153=>bd (PV.whole 3 (gd r153 0)) fun v154=>bd (PV.cell v154 0) fun v155=>
 bd (PV.cell v154 1) fun v156=>bd (PV.cell v154 2) fun v157=>bd (mW x0 (.agg [v155,v156,v157]) (.agg [v150,v151,v152])) fun r158=>bd (PV.comp (hd r158) 0) fun v159=>bd (PV.comp (hd r158) 1) fun v160=>bd (PV.whole 3 v159) fun v161=>bd (PV.cell v161 0) fun v162=>bd (PV.cell v161 1) fun v163=>bd (PV.cell v161 2) fun v164=>bd (PV.one v160) fun v165=>bd (bI v162 v163 v164 (gd r153 1) (gd r153 2) (gd r153 3) (gd r153 4) (gd r153 5) (gd r153 6) (gd r153 7) (gd r153 8) (gd r153 9) v165 (gd r153 11) (gd r153 12) (gd r153 13)) fun r166=>
 some [(gd r166 0),(gd r166 1),(gd r166 2),(gd r166 3),(gd r166 4),(gd r166 5),(gd r166 6),(gd r166 7),(gd r166 8),(gd r166 9),(gd r166 10),(gd r166 11),(gd r166 12)]) (bd (PV.bin .eql x0 (.int .i64 16)) fun v167=>PV.ite v167 (bd (aV (gd r0 1) (gd r0 2) (gd r0 3) (gd r0 4) (gd r0 5) (gd r0 6) (gd r0 7) (gd r0 8) (gd r0 9) (gd r0 10) (gd r0 11) (gd r0 12) (gd r0 13)) fun r168=>
 bd (aBP (gd r168 0)) fun r169=>bd (PV.comp (hd r169) 0) fun v170=>bd (PV.comp (hd r169) 1) fun v171=>bd (PV.whole 3 v170) fun v172=>bd (PV.cell v172 0) fun v173=>bd (PV.cell v172 1) fun v174=>bd (PV.cell v172 2) fun v175=>bd (PV.one v171) fun v176=>bd (bI v173 v174 v175 (gd r168 1) (gd r168 2) (gd r168 3) (gd r168 4) (gd r168 5) (gd r168 6) (gd r168 7) (gd r168 8) (gd r168 9) v176 (gd r168 11) (gd r168 12) (gd r168 13)) fun r177=>
 some [(gd r177 0),(gd r177 1),(gd r177 2),(gd r177 3),(gd r177 4),(gd r177 5),(gd r177 6),(gd r177 7),(gd r177 8),(gd r177 9),(gd r177 10),(gd r177 11),(gd r177 12)]) (bd (PV.bin .eql x0 (.int .i64 17)) fun v178=>PV.ite v178 (bd (PV.one x1) fun v179=>bd (PV.setCell 4 (gd r0 11) (gd r0 0) 1 v179) fun v180=>some [(gd r0 1),(gd r0 2),(gd r0 3),(gd r0 4),(gd r0 5),(gd r0 6),(gd r0 7),(gd r0 8),(gd r0 9),(gd r0 10),v180,(gd r0 12),(gd r0 13)])
 (bd (PV.bin .eql x0 (.int .i64 18)) fun v181=>PV.ite v181 (bd (aV (gd r0 1) (gd r0 2) (gd r0 3) (gd r0 4) (gd r0 5) (gd r0 6) (gd r0 7) (gd r0 8) (gd r0 9) (gd r0 10) (gd r0 11) (gd r0 12) (gd r0 13)) fun r182=>bd (PV.whole 3 (gd r182 0)) fun v183=>bd (PV.cell v183 0) fun v184=>bd (PV.cell v183 1) fun v185=>bd (PV.cell v183 2) fun v186=>bd (PV.bin .neq v184 (.int .i64 2)) fun v187=>
 PV.ite v187 (some [(gd r182 1),(gd r182 2),(gd r182 3),(gd r182 4),(gd r182 5),(gd r182 6),(gd r182 7),(gd r182 8),(gd r182 9),(.int .i64 1),(gd r182 11),(gd r182 12),(gd r182 13)]) (bd (PV.bin .eql v185 (.int .i64 1)) fun v188=>bd (PV.bin .eql x0 (.int .i64 18)) fun v189=>bd (PV.beq .eql v188 v189) fun v190=>PV.ite v190 (bd (PV.one x1) fun v191=>bd (PV.setCell 4 (gd r182 11) (gd r0 0) 1 v191) fun v192=>
 some [(gd r182 1),(gd r182 2),(gd r182 3),(gd r182 4),(gd r182 5),(gd r182 6),(gd r182 7),(gd r182 8),(gd r182 9),(gd r182 10),v192,(gd r182 12),(gd r182 13)]) (some [(gd r182 1),(gd r182 2),(gd r182 3),(gd r182 4),(gd r182 5),(gd r182 6),(gd r182 7),(gd r182 8),(gd r182 9),(gd r182 10),(gd r182 11),(gd r182 12),(gd r182 13)]))) (bd (PV.bin .eql x0 (.int .i64 19)) fun v193=>
 PV.ite v193 (bd (aV (gd r0 1) (gd r0 2) (gd r0 3) (gd r0 4) (gd r0 5) (gd r0 6) (gd r0 7) (gd r0 8) (gd r0 9) (gd r0 10) (gd r0 11) (gd r0 12) (gd r0 13)) fun r194=>bd (PV.whole 3 (gd r194 0)) fun v195=>bd (PV.cell v195 0) fun v196=>bd (PV.cell v195 1) fun v197=>bd (PV.cell v195 2) fun v198=>bd (PV.bin .neq v196 (.int .i64 2)) fun v199=>PV.ite v199 (some [(gd r194 1),(gd r194 2),(gd r194 3),(gd r194 4),(gd r194 5),(gd r194 6),(gd r194 7),(gd r194 8),(gd r194 9),(.int .i64 1),(gd r194 11),(gd r194 12),(gd r194 13)])
 (bd (PV.bin .eql v197 (.int .i64 1)) fun v200=>bd (PV.bin .eql x0 (.int .i64 18)) fun v201=>bd (PV.beq .eql v200 v201) fun v202=>PV.ite v202 (bd (PV.one x1) fun v203=>bd (PV.setCell 4 (gd r194 11) (gd r0 0) 1 v203) fun v204=>some [(gd r194 1),(gd r194 2),(gd r194 3),(gd r194 4),(gd r194 5),(gd r194 6),(gd r194 7),(gd r194 8),(gd r194 9),(gd r194 10),v204,(gd r194 12),(gd r194 13)])
 (some [(gd r194 1),(gd r194 2),(gd r194 3),(gd r194 4),(gd r194 5),(gd r194 6),(gd r194 7),(gd r194 8),(gd r194 9),(gd r194 10),(gd r194 11),(gd r194 12),(gd r194 13)]))) (bd (PV.bin .eql x0 (.int .i64 20)) fun v205=>PV.ite v205 (bd (PV.bin .eql (gd r0 3) (.int .i64 120)) fun v206=>PV.ite v206 (some [(gd r0 1),(gd r0 2),(gd r0 3),(gd r0 4),(gd r0 5),(gd r0 6),(gd r0 7),(gd r0 8),(gd r0 9),(.int .i64 7),(gd r0 11),(gd r0 12),(gd r0 13)])
 (bd (PV.len (gd r0 12)) fun v207=>bd (PV.one v207) fun v208=>bd (bI (.int .i64 4) v208 (.str (bs [])) (gd r0 1) (gd r0 2) (gd r0 3) (gd r0 4) (gd r0 5) (gd r0 6) (gd r0 7) (gd r0 8) (gd r0 9) (gd r0 10) (gd r0 11) (gd r0 12) (gd r0 13)) fun r209=>bd (PV.zeros 32 (.agg [(.int .i64 0),(.int .i64 0),(.str (bs []))]) x1) fun v210=>bd (PV.bin .leq x1 x1) fun v211=>PV.ite v211
 (bd (PV.zeros 32 (.agg [(.int .i64 0),(.int .i64 0),(.str (bs []))]) x1) fun v212=>bd (PV.cat 1 24 true (gd r209 11) (.lst [(.agg [v212])])) fun v213=>bd (PV.bin .add (gd r209 2) (.int .i64 1)) fun v214=>bd (PV.one v214) fun v215=>some [(gd r209 0),(gd r209 1),v215,(gd r209 3),(gd r209 4),(gd r209 5),(gd r209 6),(gd r209 7),(gd r209 8),(gd r209 9),(gd r209 10),v213,(gd r209 12)])
 (none))) (bd (PV.bin .eql x0 (.int .i64 21)) fun v216=>PV.ite v216 (bd (aV (gd r0 1) (gd r0 2) (gd r0 3) (gd r0 4) (gd r0 5) (gd r0 6) (gd r0 7) (gd r0 8) (gd r0 9) (gd r0 10) (gd r0 11) (gd r0 12) (gd r0 13)) fun r217=>bd (PV.whole 3 (gd r217 0)) fun v218=>bd (PV.cell v218 0) fun v219=>bd (PV.cell v218 1) fun v220=>bd (PV.cell v218 2) fun v221=>bd (PV.bin .neq v219 (.int .i64 4)) fun v222=>
 PV.ite v222 (some [(gd r217 1),(gd r217 2),(gd r217 3),(gd r217 4),(gd r217 5),(gd r217 6),(gd r217 7),(gd r217 8),(gd r217 9),(.int .i64 1),(gd r217 11),(gd r217 12),(gd r217 13)]) (bd (PV.inb (gd r217 12) v220) fun v223=>bd (PV.at_ 1 true (gd r217 12) v220) fun v224=>bd (PV.at_ 1 true (gd r217 12) v220) fun v225=>bd (PV.cell v225 0) fun v226=>bd (PV.len v226) fun v227=>bd (PV.bin .geq x1 v227) fun v228=>
 PV.ite v228 (some [(gd r217 1),(gd r217 2),(gd r217 3),(gd r217 4),(gd r217 5),(gd r217 6),(gd r217 7),(gd r217 8),(gd r217 9),(.int .i64 4),(gd r217 11),(gd r217 12),(gd r217 13)]) (bd (PV.inb (gd r217 12) v220) fun v229=>bd (PV.at_ 1 true (gd r217 12) v220) fun v230=>bd (PV.at_ 1 true (gd r217 12) v220) fun v231=>bd (PV.cell v231 0) fun v232=>bd (PV.inb v232 x1) fun v233=>bd (PV.at_ 1 true (gd r217 12) v220) fun v234=>
 bd (PV.cell v234 0) fun v235=>bd (PV.at_ 3 true v235 x1) fun v236=>bd (gC v236 (gd r217 1) (gd r217 2) (gd r217 3) (gd r217 4) (gd r217 5) (gd r217 6) (gd r217 7) (gd r217 8) (gd r217 9) (gd r217 10) (gd r217 11) (gd r217 12) (gd r217 13)) fun r237=>some [(gd r237 0),(gd r237 1),(gd r237 2),(gd r237 3),(gd r237 4),(gd r237 5),(gd r237 6),(gd r237 7),(gd r237 8),(gd r237 9),(gd r237 10),(gd r237 11),(gd r237 12)])))
 (bd (PV.bin .eql x0 (.int .i64 22)) fun v238=>PV.ite v238 (bd (aV (gd r0 1) (gd r0 2) (gd r0 3) (gd r0 4) (gd r0 5) (gd r0 6) (gd r0 7) (gd r0 8) (gd r0 9) (gd r0 10) (gd r0 11) (gd r0 12) (gd r0 13)) fun r239=>bd (PV.whole 3 (gd r239 0)) fun v240=>bd (PV.cell v240 0) fun v241=>bd (PV.cell v240 1) fun v242=>bd (PV.cell v240 2) fun v243=>bd (aV (gd r239 1) (gd r239 2) (gd r239 3) (gd r239 4) (gd r239 5) (gd r239 6) (gd r239 7) (gd r239 8) (gd r239 9) (gd r239 10) (gd r239 11) (gd r239 12) (gd r239 13)) fun r244=>
 bd (PV.whole 3 (gd r244 0)) fun v245=>bd (PV.cell v245 0) fun v246=>bd (PV.cell v245 1) fun v247=>bd (PV.cell v245 2) fun v248=>bd (PV.bin .neq v246 (.int .i64 4)) fun v249=>PV.ite v249 (some [(gd r244 1),(gd r244 2),(gd r244 3),(gd r244 4),(gd r244 5),(gd r244 6),(gd r244 7),(gd r244 8),(gd r244 9),(.int .i64 1),(gd r244 11),(gd r244 12),(gd r244 13)]) (bd (PV.inb (gd r244 12) v247) fun v250=>
 bd (PV.at_ 1 true (gd r244 12) v247) fun v251=>bd (PV.at_ 1 true (gd r244 12) v247) fun v252=>bd (PV.cell v252 0) fun v253=>bd (PV.len v253) fun v254=>bd (PV.bin .geq x1 v254) fun v255=>PV.ite v255 (some [(gd r244 1),(gd r244 2),(gd r244 3),(gd r244 4),(gd r244 5),(gd r244 6),(gd r244 7),(gd r244 8),(gd r244 9),(.int .i64 4),(gd r244 11),(gd r244 12),(gd r244 13)]) (bd (PV.inb (gd r244 12) v247) fun v256=>
 bd (PV.at_ 1 true (gd r244 12) v247) fun v257=>bd (PV.at_ 1 true (gd r244 12) v247) fun v258=>bd (PV.cell v258 0) fun v259=>bd (PV.inb v259 x1) fun v260=>bd (PV.at_ 1 true (gd r244 12) v247) fun v261=>bd (PV.cell v261 0) fun v262=>bd (PV.at_ 1 true (gd r244 12) v247) fun v263=>bd (PV.cell v263 0) fun v264=>bd (PV.setAt 3 true v264 x1 (.agg [v241,v242,v243])) fun v265=>bd (PV.at_ 1 true (gd r244 12) v247) fun v266=>
 bd (PV.cell v266 0) fun v267=>bd (PV.setCell 1 (gd r244 12) v247 0 v265) fun v268=>some [(gd r244 1),(gd r244 2),(gd r244 3),(gd r244 4),(gd r244 5),(gd r244 6),(gd r244 7),(gd r244 8),(gd r244 9),(gd r244 10),(gd r244 11),v268,(gd r244 13)]))) (bd (PV.bin .eql x0 (.int .i64 23)) fun v269=>PV.ite v269 (bd (PV.at_ 4 true (gd r0 11) (gd r0 0)) fun v270=>bd (PV.at_ 4 true (gd r0 11) (gd r0 0)) fun v271=>
 bd (PV.at_ 4 true (gd r0 11) (gd r0 0)) fun v272=>bd (PV.cell v272 3) fun v273=>bd (PV.len v273) fun v274=>bd (PV.bin .sub v274 (.int .i64 1)) fun v275=>bd (PV.bin .sub v275 x1) fun v276=>bd (PV.at_ 4 true (gd r0 11) (gd r0 0)) fun v277=>bd (PV.cell v277 3) fun v278=>bd (PV.inb v278 v276) fun v279=>bd (PV.at_ 4 true (gd r0 11) (gd r0 0)) fun v280=>bd (PV.cell v280 3) fun v281=>bd (PV.at_ 3 true v281 v276) fun v282=>
 bd (PV.whole 3 v282) fun v283=>bd (PV.cell v283 0) fun v284=>bd (PV.cell v283 1) fun v285=>bd (PV.cell v283 2) fun v286=>bd (PV.bin .neq v284 (.int .i64 5)) fun v287=>PV.ite v287 (some [(gd r0 1),(gd r0 2),(gd r0 3),(gd r0 4),(gd r0 5),(gd r0 6),(gd r0 7),(gd r0 8),(gd r0 9),(.int .i64 1),(gd r0 11),(gd r0 12),(gd r0 13)]) (bd (PV.at_ 3 true (gd r0 2) v285) fun v288=>bd (PV.cell v288 0) fun v289=>
 bd (PV.bin .neq v289 x1) fun v290=>PV.ite v290 (some [(gd r0 1),(gd r0 2),(gd r0 3),(gd r0 4),(gd r0 5),(gd r0 6),(gd r0 7),(gd r0 8),(gd r0 9),(.int .i64 5),(gd r0 11),(gd r0 12),(gd r0 13)]) (bd (lQ v285 (.bool true) (gd r0 1) (gd r0 2) (gd r0 3) (gd r0 4) (gd r0 5) (gd r0 6) (gd r0 7) (gd r0 8) (gd r0 9) (gd r0 10) (gd r0 11) (gd r0 12) (gd r0 13)) fun r291=>some [(gd r291 0),(gd r291 1),(gd r291 2),(gd r291 3),(gd r291 4),(gd r291 5),(gd r291 6),(gd r291 7),(gd r291 8),(gd r291 9),(gd r291 10),(gd r291 11),(gd r291 12)])))
 (bd (PV.bin .eql x0 (.int .i64 24)) fun v292=>PV.ite v292 (bd (lQ x1 (.bool false) (gd r0 1) (gd r0 2) (gd r0 3) (gd r0 4) (gd r0 5) (gd r0 6) (gd r0 7) (gd r0 8) (gd r0 9) (gd r0 10) (gd r0 11) (gd r0 12) (gd r0 13)) fun r293=>some [(gd r293 0),(gd r293 1),(gd r293 2),(gd r293 3),(gd r293 4),(gd r293 5),(gd r293 6),(gd r293 7),(gd r293 8),(gd r293 9),(gd r293 10),(gd r293 11),(gd r293 12)])
 (bd (PV.bin .eql x0 (.int .i64 25)) fun v294=>PV.ite v294 (bd (aV (gd r0 1) (gd r0 2) (gd r0 3) (gd r0 4) (gd r0 5) (gd r0 6) (gd r0 7) (gd r0 8) (gd r0 9) (gd r0 10) (gd r0 11) (gd r0 12) (gd r0 13)) fun r295=>bd (PV.whole 3 (gd r295 0)) fun v296=>bd (PV.cell v296 0) fun v297=>bd (PV.cell v296 1) fun v298=>bd (PV.cell v296 2) fun v299=>bd (PV.len (gd r295 11)) fun v300=>
 bd (PV.bin .sub v300 (.int .i64 1)) fun v301=>bd (PV.cut 4 true (gd r295 11) (.int .i64 0) v301) fun v302=>bd (PV.cut 4 true (gd r295 11) (.int .i64 0) v301) fun v303=>bd (PV.len v303) fun v304=>bd (PV.bin .eql v304 (.int .i64 0)) fun v305=>PV.ite v305 (some [(gd r295 1),(gd r295 2),(gd r295 3),(.int .i64 1),(gd r295 5),v297,v298,v299,(gd r295 9),(gd r295 10),v303,(gd r295 12),(gd r295 13)])
 (bd (bI v297 v298 v299 (gd r295 1) (gd r295 2) (gd r295 3) (gd r295 4) (gd r295 5) (gd r295 6) (gd r295 7) (gd r295 8) (gd r295 9) (gd r295 10) v303 (gd r295 12) (gd r295 13)) fun r306=>some [(gd r306 0),(gd r306 1),(gd r306 2),(gd r306 3),(gd r306 4),(gd r306 5),(gd r306 6),(gd r306 7),(gd r306 8),(gd r306 9),(gd r306 10),(gd r306 11),(gd r306 12)])) (bd (PV.bin .eql x0 (.int .i64 26)) fun v307=>
 PV.ite v307 (bd (aV (gd r0 1) (gd r0 2) (gd r0 3) (gd r0 4) (gd r0 5) (gd r0 6) (gd r0 7) (gd r0 8) (gd r0 9) (gd r0 10) (gd r0 11) (gd r0 12) (gd r0 13)) fun r308=>bd (PV.whole 3 (gd r308 0)) fun v309=>bd (PV.cell v309 0) fun v310=>bd (PV.cell v309 1) fun v311=>bd (PV.cell v309 2) fun v312=>bd (PV.len (gd r308 13)) fun v313=>bd (PV.bin .eql v313 (.int .i64 200)) fun v314=>
 PV.ite v314 (some [(gd r308 1),(gd r308 2),(gd r308 3),(gd r308 4),(gd r308 5),(gd r308 6),(gd r308 7),(gd r308 8),(gd r308 9),(.int .i64 8),(gd r308 11),(gd r308 12),(gd r308 13)]) (bd (sO (.agg [v310,v311,v312]) (gd r308 12)) fun r315=>PV.guardFlat (hd r315) (bd (PV.cat 1 16 false (.lst []) (.lst [(hd r315)])) fun v316=>bd (PV.cat 1 16 false (gd r308 13) v316) fun v317=>
 some [(gd r308 1),(gd r308 2),(gd r308 3),(gd r308 4),(gd r308 5),(gd r308 6),(gd r308 7),(gd r308 8),(gd r308 9),(gd r308 10),(gd r308 11),(gd r308 12),v317]))) (some [(gd r0 1),(gd r0 2),(gd r0 3),(gd r0 4),(gd r0 5),(gd r0 6),(gd r0 7),(gd r0 8),(gd r0 9),(gd r0 10),(gd r0 11),(gd r0 12),(gd r0 13)])))))))))))))))))))))))))):=bS _ _ _ _ (by kernel_rfl)
theorem aGq (x0 : PV) : pS x0=bd (PV.one x0) fun v0=>some [(.agg [(.int .i64 1),v0,(.str (bs []))])]:=aK _ _ _ (by kernel_rfl)
theorem aEZ (x0 : PV) : fT x0=PV.ite x0 (some [(.agg [(.int .i64 2),(.int .i64 1),(.str (bs []))])]) (some [(.agg [(.int .i64 2),(.int .i64 0),(.str (bs []))])]):=aK _ _ _ (by kernel_rfl)
theorem aHc (x0 x1 x2 : PV) : mW x0 x1 x2=bd (PV.whole 3 x1) fun v0=>bd (PV.cell v0 0) fun v1=>bd (PV.cell v0 1) fun v2=>bd (PV.cell v0 2) fun v3=>bd (PV.whole 3 x2) fun v4=>bd (PV.cell v4 0) fun v5=>bd (PV.cell v4 1) fun v6=>bd (PV.cell v4 2) fun v7=>bd (PV.bin .eql x0 (.int .i64 11)) fun v8=>PV.ite v8 (bd (aBQ (.agg [v1,v2,v3]) (.agg [v5,v6,v7])) fun r9=>
 bd (PV.comp (hd r9) 0) fun v10=>bd (PV.comp (hd r9) 1) fun v11=>bd (PV.whole 3 v10) fun v12=>bd (PV.cell v12 0) fun v13=>bd (PV.cell v12 1) fun v14=>bd (PV.cell v12 2) fun v15=>some [(.tup [(.agg [v13,v14,v15]),v11])]) (bd (PV.bin .eql x0 (.int .i64 12)) fun v16=>PV.ite v16 (bd (aBR (.agg [v1,v2,v3]) (.agg [v5,v6,v7])) fun r17=>bd (PV.comp (hd r17) 0) fun v18=>bd (PV.comp (hd r17) 1) fun v19=>
 bd (PV.whole 3 v18) fun v20=>bd (PV.cell v20 0) fun v21=>bd (PV.cell v20 1) fun v22=>bd (PV.cell v20 2) fun v23=>some [(.tup [(.agg [v21,v22,v23]),v19])]) (bd (PV.bin .eql x0 (.int .i64 13)) fun v24=>PV.ite v24 (bd (aBS (.agg [v1,v2,v3]) (.agg [v5,v6,v7])) fun r25=>bd (PV.comp (hd r25) 0) fun v26=>bd (PV.comp (hd r25) 1) fun v27=>bd (PV.whole 3 v26) fun v28=>bd (PV.cell v28 0) fun v29=>
 bd (PV.cell v28 1) fun v30=>bd (PV.cell v28 2) fun v31=>some [(.tup [(.agg [v29,v30,v31]),v27])]) (bd (PV.bin .eql x0 (.int .i64 14)) fun v32=>PV.ite v32 (bd (aAd (.agg [v1,v2,v3]) (.agg [v5,v6,v7])) fun r33=>bd (PV.comp (hd r33) 0) fun v34=>bd (PV.comp (hd r33) 1) fun v35=>bd (PV.whole 3 v34) fun v36=>bd (PV.cell v36 0) fun v37=>bd (PV.cell v36 1) fun v38=>bd (PV.cell v36 2) fun v39=>
 some [(.tup [(.agg [v37,v38,v39]),v35])]) (bd (aAg (.agg [v1,v2,v3]) (.agg [v5,v6,v7])) fun r40=>bd (PV.whole 3 (hd r40)) fun v41=>bd (PV.cell v41 0) fun v42=>bd (PV.cell v41 1) fun v43=>bd (PV.cell v41 2) fun v44=>some [(.tup [(.agg [v42,v43,v44]),(.int .i64 0)])])))):=aK _ _ _ (by kernel_rfl)
theorem aHd (x0 : PV) : aBP x0=bd (PV.whole 3 x0) fun v0=>bd (PV.cell v0 0) fun v1=>bd (PV.cell v0 1) fun v2=>bd (PV.cell v0 2) fun v3=>bd (PV.bin .neq v1 (.int .i64 2)) fun v4=>PV.ite v4 (some [(.tup [(.agg [(.int .i64 0),(.int .i64 0),(.str (bs []))]),(.int .i64 1)])]) (bd (PV.bin .neq v2 (.int .i64 1)) fun v5=>bd (fT v5) fun r6=>bd (PV.whole 3 (hd r6)) fun v7=>
 bd (PV.cell v7 0) fun v8=>bd (PV.cell v7 1) fun v9=>bd (PV.cell v7 2) fun v10=>some [(.tup [(.agg [v8,v9,v10]),(.int .i64 0)])]):=aK _ _ _ (by kernel_rfl)
theorem aCT (x0 x1 : PV) : sO x0 x1=bd (PV.whole 3 x0) fun v0=>bd (PV.cell v0 0) fun v1=>bd (PV.cell v0 1) fun v2=>bd (PV.cell v0 2) fun v3=>bd (PV.bin .eql v1 (.int .i64 0)) fun v4=>PV.ite v4 (some [(.str (bs [110,105,108]))]) (bd (PV.bin .eql v1 (.int .i64 1)) fun v5=>PV.ite v5 (bd (dZ v2) fun r6=>some [(hd r6)]) (bd (PV.bin .eql v1 (.int .i64 2)) fun v7=>
 PV.ite v7 (bd (PV.bin .eql v2 (.int .i64 1)) fun v8=>PV.ite v8 (some [(.str (bs [116,114,117,101]))]) (some [(.str (bs [102,97,108,115,101]))])) (bd (PV.bin .eql v1 (.int .i64 3)) fun v9=>PV.ite v9 (some [v3]) (bd (PV.bin .eql v1 (.int .i64 5)) fun v10=>PV.ite v10 (bd (dZ v2) fun r11=>bd (PV.bin .add (.str (bs [102,117,110])) (hd r11)) fun v12=>some [v12]) (bd (PV.bin .eql v1 (.int .i64 4)) fun v13=>
 PV.ite v13 (bd (PV.len x1) fun v14=>bd (PV.bin .sub v14 (.int .i64 1)) fun v15=>bd (aM v2 (.int .i64 0) v15) fun r16=>PV.ite (hd r16) (bd (PV.at_ 1 true x1 v2) fun v17=>bd (PV.cell v17 0) fun v18=>bd (PV.len v18) fun v19=>bd (dZ v19) fun r20=>bd (PV.bin .add (.str (bs [123])) (hd r20)) fun v21=>bd (PV.bin .add v21 (.str (bs [125]))) fun v22=>some [v22]) (some [(.str (bs []))]))
 (some [(.str (bs []))])))))):=aK _ _ _ (by kernel_rfl)
theorem aHe (x0 x1 : PV) : aBQ x0 x1=bd (PV.whole 3 x0) fun v0=>bd (PV.cell v0 0) fun v1=>bd (PV.cell v0 1) fun v2=>bd (PV.cell v0 2) fun v3=>bd (PV.whole 3 x1) fun v4=>bd (PV.cell v4 0) fun v5=>bd (PV.cell v4 1) fun v6=>bd (PV.cell v4 2) fun v7=>bd (PV.bin .eql v1 (.int .i64 3)) fun v8=>PV.ite v8 (bd (PV.bin .eql v5 (.int .i64 3)) fun v9=>PV.ite v9 (aBn v1 v2 v3 v5 v6 v7 (.int .i64 0) (.int .i64 0) (.str (bs [])))
 (bd (gR (.int .i64 11) (.agg [v1,v2,v3]) (.agg [v5,v6,v7])) fun r10=>bd (PV.comp (hd r10) 0) fun v11=>bd (PV.comp (hd r10) 1) fun v12=>bd (PV.whole 3 v11) fun v13=>bd (PV.cell v13 0) fun v14=>bd (PV.cell v13 1) fun v15=>bd (PV.cell v13 2) fun v16=>some [(.tup [(.agg [v14,v15,v16]),v12])])) (bd (gR (.int .i64 11) (.agg [v1,v2,v3]) (.agg [v5,v6,v7])) fun r17=>
 bd (PV.comp (hd r17) 0) fun v18=>bd (PV.comp (hd r17) 1) fun v19=>bd (PV.whole 3 v18) fun v20=>bd (PV.cell v20 0) fun v21=>bd (PV.cell v20 1) fun v22=>bd (PV.cell v20 2) fun v23=>some [(.tup [(.agg [v21,v22,v23]),v19])]):=aK _ _ _ (by kernel_rfl)
theorem aDU (x0 x1 x2 x3 x4 x5 x6 x7 x8 : PV) : aBn x0 x1 x2 x3 x4 x5 x6 x7 x8=bd (PV.slen x2) fun v0=>bd (PV.slen x5) fun v1=>bd (PV.bin .sub (.int .i64 60) v1) fun v2=>bd (PV.bin .gtr v0 v2) fun v3=>PV.ite v3 (some [(.tup [(.agg [(.int .i64 0),(.int .i64 0),(.str (bs []))]),(.int .i64 3)])]) (bd (PV.bin .add x2 x5) fun v4=>bd (PV.one v4) fun v5=>some [(.tup [(.agg [(.int .i64 3),(.int .i64 0),v5]),(.int .i64 0)])]):=aY _ _ _ _ _ _ _ _ (by kernel_rfl)
theorem aHf (x0 x1 : PV) : aBR x0 x1=bd (PV.whole 3 x0) fun v0=>bd (PV.cell v0 0) fun v1=>bd (PV.cell v0 1) fun v2=>bd (PV.cell v0 2) fun v3=>bd (PV.whole 3 x1) fun v4=>bd (PV.cell v4 0) fun v5=>bd (PV.cell v4 1) fun v6=>bd (PV.cell v4 2) fun v7=>bd (gR (.int .i64 12) (.agg [v1,v2,v3]) (.agg [v5,v6,v7])) fun r8=>bd (PV.comp (hd r8) 0) fun v9=>
 bd (PV.comp (hd r8) 1) fun v10=>bd (PV.whole 3 v9) fun v11=>bd (PV.cell v11 0) fun v12=>bd (PV.cell v11 1) fun v13=>bd (PV.cell v11 2) fun v14=>some [(.tup [(.agg [v12,v13,v14]),v10])]:=aK _ _ _ (by kernel_rfl)
theorem aHg (x0 x1 : PV) : aBS x0 x1=bd (PV.whole 3 x0) fun v0=>bd (PV.cell v0 0) fun v1=>bd (PV.cell v0 1) fun v2=>bd (PV.cell v0 2) fun v3=>bd (PV.whole 3 x1) fun v4=>bd (PV.cell v4 0) fun v5=>bd (PV.cell v4 1) fun v6=>bd (PV.cell v4 2) fun v7=>bd (gR (.int .i64 13) (.agg [v1,v2,v3]) (.agg [v5,v6,v7])) fun r8=>bd (PV.comp (hd r8) 0) fun v9=>
 bd (PV.comp (hd r8) 1) fun v10=>bd (PV.whole 3 v9) fun v11=>bd (PV.cell v11 0) fun v12=>bd (PV.cell v11 1) fun v13=>bd (PV.cell v11 2) fun v14=>some [(.tup [(.agg [v12,v13,v14]),v10])]:=aK _ _ _ (by kernel_rfl)
theorem aGr (x0 x1 : PV) : aAd x0 x1=bd (PV.whole 3 x0) fun v0=>bd (PV.cell v0 0) fun v1=>bd (PV.cell v0 1) fun v2=>bd (PV.cell v0 2) fun v3=>bd (PV.whole 3 x1) fun v4=>bd (PV.cell v4 0) fun v5=>bd (PV.cell v4 1) fun v6=>bd (PV.cell v4 2) fun v7=>bd (PV.bin .eql v1 (.int .i64 3)) fun v8=>PV.ite v8 (bd (PV.bin .eql v5 (.int .i64 3)) fun v9=>PV.ite v9 (aAe v1 v2 v3 v5 v6 v7 (.int .i64 0) (.int .i64 0) (.str (bs [])))
 (oF v1 v2 v3 v5 v6 v7 (.int .i64 0) (.int .i64 0) (.str (bs [])))) (oF v1 v2 v3 v5 v6 v7 (.int .i64 0) (.int .i64 0) (.str (bs []))):=aK _ _ _ (by kernel_rfl)
theorem aCU (x0 x1 x2 x3 x4 x5 x6 x7 x8 : PV) : aAe x0 x1 x2 x3 x4 x5 x6 x7 x8=bd (PV.bin .lss x2 x5) fun v0=>bd (fT v0) fun r1=>bd (PV.whole 3 (hd r1)) fun v2=>bd (PV.cell v2 0) fun v3=>bd (PV.cell v2 1) fun v4=>bd (PV.cell v2 2) fun v5=>some [(.tup [(.agg [v3,v4,v5]),(.int .i64 0)])]:=aY _ _ _ _ _ _ _ _ (by kernel_rfl)
theorem aCV (x0 x1 x2 x3 x4 x5 x6 x7 x8 : PV) : oF x0 x1 x2 x3 x4 x5 x6 x7 x8=bd (PV.bin .eql x0 (.int .i64 1)) fun v0=>PV.ite v0 (bd (PV.bin .eql x3 (.int .i64 1)) fun v1=>PV.ite v1 (aAf x0 x1 x2 x3 x4 x5 x6 x7 x8) (some [(.tup [(.agg [(.int .i64 0),(.int .i64 0),(.str (bs []))]),(.int .i64 1)])])) (some [(.tup [(.agg [(.int .i64 0),(.int .i64 0),(.str (bs []))]),(.int .i64 1)])]):=aY _ _ _ _ _ _ _ _ (by kernel_rfl)
theorem aCW (x0 x1 x2 x3 x4 x5 x6 x7 x8 : PV) : aAf x0 x1 x2 x3 x4 x5 x6 x7 x8=bd (PV.bin .lss x1 x4) fun v0=>bd (fT v0) fun r1=>bd (PV.whole 3 (hd r1)) fun v2=>bd (PV.cell v2 0) fun v3=>bd (PV.cell v2 1) fun v4=>bd (PV.cell v2 2) fun v5=>some [(.tup [(.agg [v3,v4,v5]),(.int .i64 0)])]:=aY _ _ _ _ _ _ _ _ (by kernel_rfl)
theorem aGs (x0 x1 : PV) : aAg x0 x1=bd (PV.whole 3 x0) fun v0=>bd (PV.cell v0 0) fun v1=>bd (PV.cell v0 1) fun v2=>bd (PV.cell v0 2) fun v3=>bd (PV.whole 3 x1) fun v4=>bd (PV.cell v4 0) fun v5=>bd (PV.cell v4 1) fun v6=>bd (PV.cell v4 2) fun v7=>bd (PV.bin .eql v1 v5) fun v8=>PV.ite v8 (bd (PV.bin .eql v2 v6) fun v9=>PV.ite v9 (bd (PV.bin .eql v3 v7) fun v10=>
 bd (fT v10) fun r11=>bd (PV.whole 3 (hd r11)) fun v12=>bd (PV.cell v12 0) fun v13=>bd (PV.cell v12 1) fun v14=>bd (PV.cell v12 2) fun v15=>some [(.agg [v13,v14,v15])]) (bd (fT (.bool false)) fun r16=>bd (PV.whole 3 (hd r16)) fun v17=>bd (PV.cell v17 0) fun v18=>bd (PV.cell v17 1) fun v19=>bd (PV.cell v17 2) fun v20=>some [(.agg [v18,v19,v20])])) (bd (fT (.bool false)) fun r21=>
 bd (PV.whole 3 (hd r21)) fun v22=>bd (PV.cell v22 0) fun v23=>bd (PV.cell v22 1) fun v24=>bd (PV.cell v22 2) fun v25=>some [(.agg [v23,v24,v25])]):=aK _ _ _ (by kernel_rfl)
theorem oL (x0 : PV) : dZ x0=bd (PV.bin .lss x0 (.int .i64 0)) fun v0=>PV.ite v0 (bd (PV.bin .lss x0 (.int .i64 (-9))) fun v1=>PV.ite v1 (bd (PV.bin .quo x0 (.int .i64 10)) fun v2=>bd (PV.neg v2) fun v3=>bd (dZ v3) fun r4=>bd (PV.bin .add (.str (bs [45])) (hd r4)) fun v5=>bd (PV.bin .rem x0 (.int .i64 10)) fun v6=>bd (PV.neg v6) fun v7=>bd (dZ v7) fun r8=>
 bd (PV.bin .add v5 (hd r8)) fun v9=>some [v9]) (bd (PV.neg x0) fun v10=>bd (dZ v10) fun r11=>bd (PV.bin .add (.str (bs [45])) (hd r11)) fun v12=>some [v12])) (bd (PV.bin .lss x0 (.int .i64 10)) fun v13=>PV.ite v13 (bd (PV.bin .add (.int .i64 48) x0) fun v14=>bd (PV.conv .u8 v14) fun v15=>bd (PV.cat 1 1 false (.lst []) (.lst [v15])) fun v16=>bd (PV.toStr v16) fun v17=>some [v17])
 (bd (PV.bin .quo x0 (.int .i64 10)) fun v18=>bd (dZ v18) fun r19=>bd (PV.bin .rem x0 (.int .i64 10)) fun v20=>bd (PV.bin .add (.int .i64 48) v20) fun v21=>bd (PV.conv .u8 v21) fun v22=>bd (PV.cat 1 1 false (.lst []) (.lst [v22])) fun v23=>bd (PV.toStr v23) fun v24=>bd (PV.bin .add (hd r19) v24) fun v25=>some [v25])):=aK _ _ _ (by kernel_rfl)
theorem aCe (x0 x1 x2 : PV) : gR x0 x1 x2=bd (PV.whole 3 x1) fun v0=>bd (PV.cell v0 0) fun v1=>bd (PV.cell v0 1) fun v2=>bd (PV.cell v0 2) fun v3=>bd (PV.whole 3 x2) fun v4=>bd (PV.cell v4 0) fun v5=>bd (PV.cell v4 1) fun v6=>bd (PV.cell v4 2) fun v7=>bd (PV.bin .neq v1 (.int .i64 1)) fun v8=>PV.ite v8 (some [(.tup [(.agg [(.int .i64 0),(.int .i64 0),(.str (bs []))]),(.int .i64 1)])])
 (bd (PV.bin .neq v5 (.int .i64 1)) fun v9=>PV.ite v9 (some [(.tup [(.agg [(.int .i64 0),(.int .i64 0),(.str (bs []))]),(.int .i64 1)])]) (bd (vA x0 v2 v6) fun r10=>bd (PV.comp (hd r10) 0) fun v11=>bd (PV.comp (hd r10) 1) fun v12=>bd (PV.bin .neq v12 (.int .i64 0)) fun v13=>PV.ite v13 (some [(.tup [(.agg [(.int .i64 0),(.int .i64 0),(.str (bs []))]),v12])]) (bd (pS v11) fun r14=>
 bd (PV.whole 3 (hd r14)) fun v15=>bd (PV.cell v15 0) fun v16=>bd (PV.cell v15 1) fun v17=>bd (PV.cell v15 2) fun v18=>some [(.tup [(.agg [v16,v17,v18]),(.int .i64 0)])]))):=aK _ _ _ (by kernel_rfl)
theorem aDV (x0 x1 x2 : PV) : vA x0 x1 x2=bd (fX x1) fun r0=>bd (PV.not (hd r0)) fun v1=>PV.ite v1 (some [(.tup [(.int .i64 0),(.int .i64 2)])]) (bd (fX x2) fun r2=>bd (PV.not (hd r2)) fun v3=>PV.ite v3 (some [(.tup [(.int .i64 0),(.int .i64 2)])]) (bd (PV.bin .add x1 x2) fun v4=>bd (PV.bin .eql x0 (.int .i64 12)) fun v5=>PV.ite v5 (bd (PV.bin .sub x1 x2) fun v6=>
 bd (fX v6) fun r7=>bd (PV.not (hd r7)) fun v8=>PV.ite v8 (some [(.tup [(.int .i64 0),(.int .i64 2)])]) (some [(.tup [v6,(.int .i64 0)])])) (bd (PV.bin .eql x0 (.int .i64 13)) fun v9=>PV.ite v9 (bd (PV.bin .mul x1 x2) fun v10=>bd (fX v10) fun r11=>bd (PV.not (hd r11)) fun v12=>PV.ite v12 (some [(.tup [(.int .i64 0),(.int .i64 2)])]) (some [(.tup [v10,(.int .i64 0)])]))
 (bd (fX v4) fun r13=>bd (PV.not (hd r13)) fun v14=>PV.ite v14 (some [(.tup [(.int .i64 0),(.int .i64 2)])]) (some [(.tup [v4,(.int .i64 0)])]))))):=aK _ _ _ (by kernel_rfl)
theorem aE0 (x0 x1 x2 : PV) : xD x0 x1 x2=bd (PV.whole 3 x0) fun v0=>bd (PV.cell v0 0) fun v1=>bd (PV.cell v0 1) fun v2=>bd (PV.cell v0 2) fun v3=>bd (PV.bin .eql v1 (.int .i64 0)) fun v4=>PV.ite v4 (bd (PV.ceq [1,1,2] .eql (.agg [v1,v2,v3]) (.agg [(.int .i64 0),(.int .i64 0),(.str (bs []))])) fun v5=>some [v5]) (bd (PV.bin .eql v1 (.int .i64 1)) fun v6=>
 PV.ite v6 (bd (kT v2) fun r7=>PV.ite (hd r7) (bd (PV.bin .eql v3 (.str (bs []))) fun v8=>some [v8]) (some [.bool false])) (bd (PV.bin .eql v1 (.int .i64 2)) fun v9=>PV.ite v9 (bd (cA v2 (.int .i64 0) (.int .i64 1)) fun r10=>PV.ite (hd r10) (bd (PV.bin .eql v3 (.str (bs []))) fun v11=>some [v11]) (some [.bool false])) (bd (PV.bin .eql v1 (.int .i64 3)) fun v12=>PV.ite v12
 (bd (PV.bin .eql v2 (.int .i64 0)) fun v13=>PV.ite v13 (bd (nH v3) fun r14=>some [(hd r14)]) (some [.bool false])) (bd (PV.bin .eql v1 (.int .i64 4)) fun v15=>PV.ite v15 (bd (cK v2 x2) fun r16=>PV.ite (hd r16) (bd (PV.bin .eql v3 (.str (bs []))) fun v17=>some [v17]) (some [.bool false])) (bd (PV.bin .eql v1 (.int .i64 5)) fun v18=>PV.ite v18 (bd (cK v2 x1) fun r19=>
 PV.ite (hd r19) (bd (PV.bin .eql v3 (.str (bs []))) fun v20=>some [v20]) (some [.bool false])) (some [.bool false])))))):=aK _ _ _ (by kernel_rfl)
theorem aDW (x0 x1 x2 : PV) : vB x0 x1 x2=lN x0 x1 (.int .i64 0) x2:=bS _ _ _ _ (by kernel_rfl)
theorem rD (x0 x1 x2 x3 : PV) : lN x0 x1 x2 x3=bd (PV.at_ 3 true x3 x0) fun v0=>bd (PV.cell v0 2) fun v1=>bd (PV.len v1) fun v2=>bd (PV.bin .lss x2 v2) fun v3=>PV.ite v3 (bd (PV.at_ 3 true x3 x0) fun v4=>bd (PV.cell v4 2) fun v5=>bd (PV.inb v5 x2) fun v6=>bd (PV.at_ 3 true x3 x0) fun v7=>bd (PV.cell v7 2) fun v8=>bd (PV.one x1) fun v9=>bd (PV.at_ 3 true x3 x0) fun v10=>
 bd (PV.cell v10 2) fun v11=>bd (PV.setCell 2 v11 x2 0 v9) fun v12=>bd (PV.at_ 3 true x3 x0) fun v13=>bd (PV.cell v13 2) fun v14=>bd (PV.setCell 3 x3 x0 2 v12) fun v15=>bd (PV.bin .add x1 (.int .i64 1)) fun v16=>bd (PV.at_ 3 true v15 x0) fun v17=>bd (PV.cell v17 2) fun v18=>bd (PV.inb v18 x2) fun v19=>bd (PV.at_ 3 true v15 x0) fun v20=>bd (PV.cell v20 2) fun v21=>bd (PV.one v16) fun v22=>
 bd (PV.at_ 3 true v15 x0) fun v23=>bd (PV.cell v23 2) fun v24=>bd (PV.setCell 2 v24 x2 1 v22) fun v25=>bd (PV.at_ 3 true v15 x0) fun v26=>bd (PV.cell v26 2) fun v27=>bd (PV.setCell 3 v15 x0 2 v25) fun v28=>bd (PV.bin .add v16 (.int .i64 1)) fun v29=>bd (PV.bin .add x2 (.int .i64 1)) fun v30=>lN x0 v29 v30 v28) (some [x1,x3]):=aY _ _ _ _ _ _ _ _ (by kernel_rfl)
theorem yN (x0 x1 x2 : PV) : mX x0 x1 x2=gZ x0 x1 (.int .i64 0) x2:=bS _ _ _ _ (by kernel_rfl)
theorem nJ (x0 x1 x2 x3 : PV) : gZ x0 x1 x2 x3=bd (PV.at_ 4 true x3 x0) fun v0=>bd (PV.cell v0 2) fun v1=>bd (PV.len v1) fun v2=>bd (PV.bin .lss x2 v2) fun v3=>PV.ite v3 (bd (PV.at_ 4 true x3 x0) fun v4=>bd (PV.cell v4 2) fun v5=>bd (PV.inb v5 x2) fun v6=>bd (PV.at_ 4 true x3 x0) fun v7=>bd (PV.cell v7 2) fun v8=>bd (PV.one x1) fun v9=>bd (PV.at_ 4 true x3 x0) fun v10=>
 bd (PV.cell v10 2) fun v11=>bd (PV.setCell 3 v11 x2 0 v9) fun v12=>bd (PV.at_ 4 true x3 x0) fun v13=>bd (PV.cell v13 2) fun v14=>bd (PV.setCell 4 x3 x0 2 v12) fun v15=>bd (PV.bin .add x1 (.int .i64 1)) fun v16=>bd (PV.at_ 4 true v15 x0) fun v17=>bd (PV.cell v17 2) fun v18=>bd (PV.inb v18 x2) fun v19=>bd (PV.at_ 4 true v15 x0) fun v20=>bd (PV.cell v20 2) fun v21=>bd (PV.one v16) fun v22=>
 bd (PV.at_ 4 true v15 x0) fun v23=>bd (PV.cell v23 2) fun v24=>bd (PV.setCell 3 v24 x2 1 v22) fun v25=>bd (PV.at_ 4 true v15 x0) fun v26=>bd (PV.cell v26 2) fun v27=>bd (PV.setCell 4 v15 x0 2 v25) fun v28=>bd (PV.bin .add v16 (.int .i64 1)) fun v29=>bd (fV v29) fun r30=>bd (PV.at_ 4 true v28 x0) fun v31=>bd (PV.cell v31 2) fun v32=>bd (PV.inb v32 x2) fun v33=>bd (PV.at_ 4 true v28 x0) fun v34=>
 bd (PV.cell v34 2) fun v35=>bd (PV.one (hd r30)) fun v36=>bd (PV.at_ 4 true v28 x0) fun v37=>bd (PV.cell v37 2) fun v38=>bd (PV.setCell 3 v38 x2 2 v36) fun v39=>bd (PV.at_ 4 true v28 x0) fun v40=>bd (PV.cell v40 2) fun v41=>bd (PV.setCell 4 v28 x0 2 v39) fun v42=>bd (PV.bin .add v29 (.int .i64 1)) fun v43=>bd (PV.bin .add x2 (.int .i64 1)) fun v44=>gZ x0 v43 v44 v42)
 (some [x1,x3]):=aY _ _ _ _ _ _ _ _ (by kernel_rfl)
theorem yO (x0 x1 x2 : PV) : mY x0 x1 x2=hH x0 x1 (.int .i64 0) x2:=bS _ _ _ _ (by kernel_rfl)
theorem nK (x0 x1 x2 x3 : PV) : hH x0 x1 x2 x3=bd (PV.at_ 4 true x3 x0) fun v0=>bd (PV.cell v0 3) fun v1=>bd (PV.len v1) fun v2=>bd (PV.bin .lss x2 v2) fun v3=>PV.ite v3 (bd (PV.at_ 4 true x3 x0) fun v4=>bd (PV.cell v4 3) fun v5=>bd (PV.inb v5 x2) fun v6=>bd (PV.at_ 4 true x3 x0) fun v7=>bd (PV.cell v7 3) fun v8=>bd (PV.one x1) fun v9=>bd (PV.at_ 4 true x3 x0) fun v10=>
 bd (PV.cell v10 3) fun v11=>bd (PV.setCell 3 v11 x2 0 v9) fun v12=>bd (PV.at_ 4 true x3 x0) fun v13=>bd (PV.cell v13 3) fun v14=>bd (PV.setCell 4 x3 x0 3 v12) fun v15=>bd (PV.bin .add x1 (.int .i64 1)) fun v16=>bd (PV.at_ 4 true v15 x0) fun v17=>bd (PV.cell v17 3) fun v18=>bd (PV.inb v18 x2) fun v19=>bd (PV.at_ 4 true v15 x0) fun v20=>bd (PV.cell v20 3) fun v21=>bd (PV.one v16) fun v22=>
 bd (PV.at_ 4 true v15 x0) fun v23=>bd (PV.cell v23 3) fun v24=>bd (PV.setCell 3 v24 x2 1 v22) fun v25=>bd (PV.at_ 4 true v15 x0) fun v26=>bd (PV.cell v26 3) fun v27=>bd (PV.setCell 4 v15 x0 3 v25) fun v28=>bd (PV.bin .add v16 (.int .i64 1)) fun v29=>bd (fV v29) fun r30=>bd (PV.at_ 4 true v28 x0) fun v31=>bd (PV.cell v31 3) fun v32=>bd (PV.inb v32 x2) fun v33=>bd (PV.at_ 4 true v28 x0) fun v34=>
 bd (PV.cell v34 3) fun v35=>bd (PV.one (hd r30)) fun v36=>bd (PV.at_ 4 true v28 x0) fun v37=>bd (PV.cell v37 3) fun v38=>bd (PV.setCell 3 v38 x2 2 v36) fun v39=>bd (PV.at_ 4 true v28 x0) fun v40=>bd (PV.cell v40 3) fun v41=>bd (PV.setCell 4 v28 x0 3 v39) fun v42=>bd (PV.bin .add v29 (.int .i64 1)) fun v43=>bd (PV.bin .add x2 (.int .i64 1)) fun v44=>hH x0 v43 v44 v42)
 (some [x1,x3]):=aY _ _ _ _ _ _ _ _ (by kernel_rfl)
theorem yP (x0 x1 x2 : PV) : mZ x0 x1 x2=hJ x0 x1 (.int .i64 0) x2:=bS _ _ _ _ (by kernel_rfl)
theorem nL (x0 x1 x2 x3 : PV) : hJ x0 x1 x2 x3=bd (PV.at_ 1 true x3 x0) fun v0=>bd (PV.cell v0 0) fun v1=>bd (PV.len v1) fun v2=>bd (PV.bin .lss x2 v2) fun v3=>PV.ite v3 (bd (PV.at_ 1 true x3 x0) fun v4=>bd (PV.cell v4 0) fun v5=>bd (PV.inb v5 x2) fun v6=>bd (PV.at_ 1 true x3 x0) fun v7=>bd (PV.cell v7 0) fun v8=>bd (PV.one x1) fun v9=>bd (PV.at_ 1 true x3 x0) fun v10=>
 bd (PV.cell v10 0) fun v11=>bd (PV.setCell 3 v11 x2 0 v9) fun v12=>bd (PV.at_ 1 true x3 x0) fun v13=>bd (PV.cell v13 0) fun v14=>bd (PV.setCell 1 x3 x0 0 v12) fun v15=>bd (PV.bin .add x1 (.int .i64 1)) fun v16=>bd (PV.at_ 1 true v15 x0) fun v17=>bd (PV.cell v17 0) fun v18=>bd (PV.inb v18 x2) fun v19=>bd (PV.at_ 1 true v15 x0) fun v20=>bd (PV.cell v20 0) fun v21=>bd (PV.one v16) fun v22=>
 bd (PV.at_ 1 true v15 x0) fun v23=>bd (PV.cell v23 0) fun v24=>bd (PV.setCell 3 v24 x2 1 v22) fun v25=>bd (PV.at_ 1 true v15 x0) fun v26=>bd (PV.cell v26 0) fun v27=>bd (PV.setCell 1 v15 x0 0 v25) fun v28=>bd (PV.bin .add v16 (.int .i64 1)) fun v29=>bd (fV v29) fun r30=>bd (PV.at_ 1 true v28 x0) fun v31=>bd (PV.cell v31 0) fun v32=>bd (PV.inb v32 x2) fun v33=>bd (PV.at_ 1 true v28 x0) fun v34=>
 bd (PV.cell v34 0) fun v35=>bd (PV.one (hd r30)) fun v36=>bd (PV.at_ 1 true v28 x0) fun v37=>bd (PV.cell v37 0) fun v38=>bd (PV.setCell 3 v38 x2 2 v36) fun v39=>bd (PV.at_ 1 true v28 x0) fun v40=>bd (PV.cell v40 0) fun v41=>bd (PV.setCell 1 v28 x0 0 v39) fun v42=>bd (PV.bin .add v29 (.int .i64 1)) fun v43=>bd (PV.bin .add x2 (.int .i64 1)) fun v44=>hJ x0 v43 v44 v42)
 (some [x1,x3]):=aY _ _ _ _ _ _ _ _ (by kernel_rfl)
theorem aE1 (x0 : PV) : xE x0=bd (PV.whole 4 x0) fun v0=>bd (PV.cell v0 0) fun v1=>bd (PV.cell v0 1) fun v2=>bd (PV.cell v0 2) fun v3=>bd (PV.cell v0 3) fun v4=>bd (PV.one v1) fun v5=>bd (PV.one v2) fun v6=>bd (mD v3) fun r7=>PV.guardOwn (.own 3 32 true []) (gd r7 0) (bd (mD v4) fun r8=>PV.guardOwn (.own 3 32 true []) (gd r8 0) (some [v5,v6,(gd r7 0),(gd r8 0)])):=bS _ _ _ _ (by kernel_rfl)
theorem aHh (x0 : PV) : aBT x0=bd (PV.whole 1 x0) fun v0=>bd (PV.cell v0 0) fun v1=>bd (mD v1) fun r2=>PV.guardOwn (.own 3 32 true []) (gd r2 0) (some [(gd r2 0)]):=bS _ _ _ _ (by kernel_rfl)
theorem aCf (x0 : PV) : qL x0=bd (PV.len x0) fun v0=>jK x0 v0 (.int .i64 0) (.lst []):=bS _ _ _ _ (by kernel_rfl)
theorem oV (x0 x1 x2 x3 : PV) : jK x0 x1 x2 x3=bd (PV.bin .lss x2 x1) fun v0=>PV.ite v0 (bd (PV.at_ 4 true x0 x2) fun v1=>bd (PV.whole 4 v1) fun v2=>bd (PV.cell v2 0) fun v3=>bd (PV.cell v2 1) fun v4=>bd (PV.cell v2 2) fun v5=>bd (PV.cell v2 3) fun v6=>bd (bX v5) fun r7=>PV.guardOwn (.own 3 32 true []) (gd r7 0) (
 bd (bX v6) fun r8=>PV.guardOwn (.own 3 32 true []) (gd r8 0) (bd (PV.cat 4 64 true x3 (.lst [(.agg [v3,v4,(gd r7 0),(gd r8 0)])])) fun v9=>bd (PV.bin .add x2 (.int .i64 1)) fun v10=>jK x0 x1 v10 v9))) (some [x3]):=aY _ _ _ _ _ _ _ _ (by kernel_rfl)
theorem aDX (x0 : PV) : vC x0=bd (PV.len x0) fun v0=>lO x0 v0 (.int .i64 0) (.lst []):=bS _ _ _ _ (by kernel_rfl)
theorem rE (x0 x1 x2 x3 : PV) : lO x0 x1 x2 x3=bd (PV.bin .lss x2 x1) fun v0=>PV.ite v0 (bd (PV.at_ 1 true x0 x2) fun v1=>bd (PV.whole 1 v1) fun v2=>bd (PV.cell v2 0) fun v3=>bd (bX v3) fun r4=>PV.guardOwn (.own 3 32 true []) (gd r4 0) (bd (PV.cat 1 24 true x3 (.lst [(.agg [(gd r4 0)])])) fun v5=>bd (PV.bin .add x2 (.int .i64 1)) fun v6=>
 lO x0 x1 v6 v5)) (some [x3]):=aY _ _ _ _ _ _ _ _ (by kernel_rfl)
theorem pZ (x0 : PV) : gI x0=bd (PV.isLst x0) fun v0=>PV.nilT v0 (some [(.lst [])]) (bd (PV.cat 1 16 false (.lst []) x0) fun v1=>some [v1]):=bS _ _ _ _ (by kernel_rfl)
theorem aHi (x0 x1 x2 x3 x4 x5 x6 x7 x8 x9 x10 x11 : PV) : aBU x0 x1 x2 x3 x4 x5 x6 x7 x8 x9 x10 x11=bd (PV.len x9) fun v0=>bd (PV.bin .sub v0 (.int .i64 1)) fun v1=>bd (PV.inb x9 v1) fun v2=>bd (PV.at_ 4 true x9 v1) fun v3=>bd (PV.cell v3 0) fun v4=>bd (PV.at_ 3 true x1 v4) fun v5=>bd (PV.cell v5 2) fun v6=>bd (PV.at_ 4 true x9 v1) fun v7=>bd (PV.cell v7 1) fun v8=>
 bd (PV.at_ 2 true v6 v8) fun v9=>bd (PV.whole 2 v9) fun v10=>bd (PV.cell v10 0) fun v11=>bd (PV.cell v10 1) fun v12=>bd (tX (.agg [x0,x1]) (.agg [v11,v12])) fun r13=>bd (PV.comp (hd r13) 0) fun v14=>bd (PV.comp (hd r13) 1) fun v15=>bd (PV.at_ 4 true x9 v1) fun v16=>bd (PV.at_ 4 true x9 v1) fun v17=>bd (PV.cell v17 3) fun v18=>bd (PV.len v18) fun v19=>bd (PV.bin .sub v19 v14) fun v20=>
 bd (PV.at_ 4 true x9 v1) fun v21=>bd (PV.at_ 4 true x9 v1) fun v22=>bd (PV.cell v22 3) fun v23=>bd (PV.len v23) fun v24=>bd (PV.cut 3 true v23 v20 v24) fun v25=>bd (PV.at_ 4 true x9 v1) fun v26=>bd (PV.cell v26 3) fun v27=>bd (PV.cut 3 true v27 v20 v24) fun v28=>bd (bX v28) fun r29=>PV.guardOwn (.own 3 32 true []) (gd r29 0) (bd (PV.at_ 4 true x9 v1) fun v30=>
 bd (PV.cell v30 1) fun v31=>bd (PV.bin .add v31 (.int .i64 1)) fun v32=>bd (PV.bin .eql v11 (.int .i64 1)) fun v33=>PV.ite v33 (bd (xF v12) fun r34=>bd (PV.cat 3 32 true (.lst []) (.lst [(hd r34)])) fun v35=>bd (PV.cat 3 32 true (.lst []) v35) fun v36=>bd (PV.at_ 4 true x9 v1) fun v37=>bd (PV.at_ 4 true x9 v1) fun v38=>bd (PV.cell v38 3) fun v39=>bd (PV.cut 3 true v39 (.int .i64 0) v20) fun v40=>
 bd (PV.at_ 4 true x9 v1) fun v41=>bd (PV.cell v41 3) fun v42=>bd (PV.cut 3 true v42 (.int .i64 0) v20) fun v43=>bd (PV.at_ 4 true x9 v1) fun v44=>bd (PV.cell v44 3) fun v45=>bd (PV.setCell 4 x9 v1 3 .hole) fun v46=>bd (PV.cat 3 32 true v43 v36) fun v47=>bd (PV.setCell 4 v46 v1 3 v47) fun v48=>bd (PV.one v32) fun v49=>bd (PV.setCell 4 v48 v1 1 v49) fun v50=>some [(.int .i64 0),x2,x3,x4,x5,x6,x7,x8,v50,x10,x11])
 (bd (PV.bin .eql v11 (.int .i64 2)) fun v51=>PV.ite v51 (bd (PV.bin .eql v12 (.int .i64 1)) fun v52=>bd (kV v52) fun r53=>bd (PV.cat 3 32 true (.lst []) (.lst [(hd r53)])) fun v54=>bd (PV.cat 3 32 true (.lst []) v54) fun v55=>bd (PV.at_ 4 true x9 v1) fun v56=>bd (PV.at_ 4 true x9 v1) fun v57=>bd (PV.cell v57 3) fun v58=>bd (PV.cut 3 true v58 (.int .i64 0) v20) fun v59=>bd (PV.at_ 4 true x9 v1) fun v60=>
 bd (PV.cell v60 3) fun v61=>bd (PV.cut 3 true v61 (.int .i64 0) v20) fun v62=>bd (PV.at_ 4 true x9 v1) fun v63=>bd (PV.cell v63 3) fun v64=>bd (PV.setCell 4 x9 v1 3 .hole) fun v65=>bd (PV.cat 3 32 true v62 v55) fun v66=>bd (PV.setCell 4 v65 v1 3 v66) fun v67=>bd (PV.one v32) fun v68=>bd (PV.setCell 4 v67 v1 1 v68) fun v69=>some [(.int .i64 0),x2,x3,x4,x5,x6,x7,x8,v69,x10,x11])
 (bd (PV.bin .eql v11 (.int .i64 3)) fun v70=>PV.ite v70 (bd (PV.at_ 1 false x0 v12) fun v71=>bd (PV.one v71) fun v72=>bd (PV.at_ 4 true x9 v1) fun v73=>bd (PV.at_ 4 true x9 v1) fun v74=>bd (PV.cell v74 3) fun v75=>bd (PV.cut 3 true v75 (.int .i64 0) v20) fun v76=>bd (PV.at_ 4 true x9 v1) fun v77=>bd (PV.cell v77 3) fun v78=>bd (PV.cut 3 true v78 (.int .i64 0) v20) fun v79=>bd (PV.at_ 4 true x9 v1) fun v80=>
 bd (PV.cell v80 3) fun v81=>bd (PV.setCell 4 x9 v1 3 .hole) fun v82=>bd (PV.cat 3 32 true v79 (.lst [(.agg [(.int .i64 3),(.int .i64 0),v72])])) fun v83=>bd (PV.setCell 4 v82 v1 3 v83) fun v84=>bd (PV.one v32) fun v85=>bd (PV.setCell 4 v84 v1 1 v85) fun v86=>some [(.int .i64 0),x2,x3,x4,x5,x6,x7,x8,v86,x10,x11]) (bd (PV.bin .eql v11 (.int .i64 4)) fun v87=>PV.ite v87 (bd (PV.at_ 4 true x9 v1) fun v88=>
 bd (PV.at_ 4 true x9 v1) fun v89=>bd (PV.cell v89 3) fun v90=>bd (PV.cut 3 true v90 (.int .i64 0) v20) fun v91=>bd (PV.at_ 4 true x9 v1) fun v92=>bd (PV.cell v92 3) fun v93=>bd (PV.cut 3 true v93 (.int .i64 0) v20) fun v94=>bd (PV.at_ 4 true x9 v1) fun v95=>bd (PV.cell v95 3) fun v96=>bd (PV.setCell 4 x9 v1 3 .hole) fun v97=>bd (PV.cat 3 32 true v94 (.lst [(.agg [(.int .i64 0),(.int .i64 0),(.str (bs []))])])) fun v98=>
 bd (PV.setCell 4 v97 v1 3 v98) fun v99=>bd (PV.one v32) fun v100=>bd (PV.setCell 4 v99 v1 1 v100) fun v101=>some [(.int .i64 0),x2,x3,x4,x5,x6,x7,x8,v101,x10,x11]) (bd (PV.bin .eql v11 (.int .i64 5)) fun v102=>PV.ite v102 (bd (PV.one v12) fun v103=>bd (PV.at_ 4 true x9 v1) fun v104=>bd (PV.at_ 4 true x9 v1) fun v105=>bd (PV.cell v105 3) fun v106=>bd (PV.cut 3 true v106 (.int .i64 0) v20) fun v107=>
 bd (PV.at_ 4 true x9 v1) fun v108=>bd (PV.cell v108 3) fun v109=>bd (PV.cut 3 true v109 (.int .i64 0) v20) fun v110=>bd (PV.at_ 4 true x9 v1) fun v111=>bd (PV.cell v111 3) fun v112=>bd (PV.setCell 4 x9 v1 3 .hole) fun v113=>bd (PV.cat 3 32 true v110 (.lst [(.agg [(.int .i64 5),v103,(.str (bs []))])])) fun v114=>bd (PV.setCell 4 v113 v1 3 v114) fun v115=>bd (PV.one v32) fun v116=>
 bd (PV.setCell 4 v115 v1 1 v116) fun v117=>some [(.int .i64 0),x2,x3,x4,x5,x6,x7,x8,v117,x10,x11]) (bd (PV.bin .eql v11 (.int .i64 6)) fun v118=>PV.ite v118 (bd (PV.at_ 4 true x9 v1) fun v119=>bd (PV.at_ 4 true x9 v1) fun v120=>bd (PV.cell v120 2) fun v121=>bd (PV.inb v121 v12) fun v122=>bd (PV.at_ 4 true x9 v1) fun v123=>bd (PV.cell v123 2) fun v124=>bd (PV.at_ 3 true v124 v12) fun v125=>
 bd (PV.cat 3 32 true (.lst []) (.lst [v125])) fun v126=>bd (PV.cat 3 32 true (.lst []) v126) fun v127=>bd (PV.at_ 4 true x9 v1) fun v128=>bd (PV.at_ 4 true x9 v1) fun v129=>bd (PV.cell v129 3) fun v130=>bd (PV.cut 3 true v130 (.int .i64 0) v20) fun v131=>bd (PV.at_ 4 true x9 v1) fun v132=>bd (PV.cell v132 3) fun v133=>bd (PV.cut 3 true v133 (.int .i64 0) v20) fun v134=>bd (PV.at_ 4 true x9 v1) fun v135=>
 bd (PV.cell v135 3) fun v136=>bd (PV.setCell 4 x9 v1 3 .hole) fun v137=>bd (PV.cat 3 32 true v134 v127) fun v138=>bd (PV.setCell 4 v137 v1 3 v138) fun v139=>bd (PV.one v32) fun v140=>bd (PV.setCell 4 v139 v1 1 v140) fun v141=>some [(.int .i64 0),x2,x3,x4,x5,x6,x7,x8,v141,x10,x11]) (bd (PV.bin .eql v11 (.int .i64 7)) fun v142=>PV.ite v142 (bd (PV.at_ 4 true x9 v1) fun v143=>
 bd (PV.inb (gd r29 0) (.int .i64 0)) fun v144=>bd (PV.at_ 3 true (gd r29 0) (.int .i64 0)) fun v145=>bd (PV.at_ 4 true x9 v1) fun v146=>bd (PV.cell v146 2) fun v147=>bd (PV.inb v147 v12) fun v148=>bd (PV.at_ 4 true x9 v1) fun v149=>bd (PV.cell v149 2) fun v150=>bd (PV.at_ 4 true x9 v1) fun v151=>bd (PV.cell v151 2) fun v152=>bd (PV.setAt 3 true v152 v12 v145) fun v153=>bd (PV.at_ 4 true x9 v1) fun v154=>
 bd (PV.cell v154 2) fun v155=>bd (PV.setCell 4 x9 v1 2 v153) fun v156=>bd (PV.at_ 4 true v156 v1) fun v157=>bd (PV.at_ 4 true v156 v1) fun v158=>bd (PV.cell v158 3) fun v159=>bd (PV.cut 3 true v159 (.int .i64 0) v20) fun v160=>bd (PV.at_ 4 true v156 v1) fun v161=>bd (PV.cell v161 3) fun v162=>bd (PV.cut 3 true v162 (.int .i64 0) v20) fun v163=>bd (PV.at_ 4 true v156 v1) fun v164=>
 bd (PV.cell v164 3) fun v165=>bd (PV.setCell 4 v156 v1 3 .hole) fun v166=>bd (PV.cat 3 32 true v163 (.lst [])) fun v167=>bd (PV.setCell 4 v166 v1 3 v167) fun v168=>bd (PV.one v32) fun v169=>bd (PV.setCell 4 v168 v1 1 v169) fun v170=>some [(.int .i64 0),x2,x3,x4,x5,x6,x7,x8,v170,x10,x11]) (bd (PV.bin .eql v11 (.int .i64 8)) fun v171=>PV.ite v171 (bd (PV.inb (gd r29 0) (.int .i64 0)) fun v172=>
 bd (PV.at_ 3 true (gd r29 0) (.int .i64 0)) fun v173=>bd (PV.inb (gd r29 0) (.int .i64 0)) fun v174=>bd (PV.at_ 3 true (gd r29 0) (.int .i64 0)) fun v175=>bd (PV.cat 3 32 true (.lst []) (.lst [v173,v175])) fun v176=>bd (PV.cat 3 32 true (.lst []) v176) fun v177=>bd (PV.at_ 4 true x9 v1) fun v178=>bd (PV.at_ 4 true x9 v1) fun v179=>bd (PV.cell v179 3) fun v180=>bd (PV.cut 3 true v180 (.int .i64 0) v20) fun v181=>
 bd (PV.at_ 4 true x9 v1) fun v182=>bd (PV.cell v182 3) fun v183=>bd (PV.cut 3 true v183 (.int .i64 0) v20) fun v184=>bd (PV.at_ 4 true x9 v1) fun v185=>bd (PV.cell v185 3) fun v186=>bd (PV.setCell 4 x9 v1 3 .hole) fun v187=>bd (PV.cat 3 32 true v184 v177) fun v188=>bd (PV.setCell 4 v187 v1 3 v188) fun v189=>bd (PV.one v32) fun v190=>bd (PV.setCell 4 v189 v1 1 v190) fun v191=>some [(.int .i64 0),x2,x3,x4,x5,x6,x7,x8,v191,x10,x11])
 (bd (PV.bin .eql v11 (.int .i64 10)) fun v192=>PV.ite v192 (bd (PV.inb (gd r29 0) (.int .i64 1)) fun v193=>bd (PV.at_ 3 true (gd r29 0) (.int .i64 1)) fun v194=>bd (PV.inb (gd r29 0) (.int .i64 0)) fun v195=>bd (PV.at_ 3 true (gd r29 0) (.int .i64 0)) fun v196=>bd (PV.cat 3 32 true (.lst []) (.lst [v194,v196])) fun v197=>bd (PV.cat 3 32 true (.lst []) v197) fun v198=>bd (PV.at_ 4 true x9 v1) fun v199=>
 bd (PV.at_ 4 true x9 v1) fun v200=>bd (PV.cell v200 3) fun v201=>bd (PV.cut 3 true v201 (.int .i64 0) v20) fun v202=>bd (PV.at_ 4 true x9 v1) fun v203=>bd (PV.cell v203 3) fun v204=>bd (PV.cut 3 true v204 (.int .i64 0) v20) fun v205=>bd (PV.at_ 4 true x9 v1) fun v206=>bd (PV.cell v206 3) fun v207=>bd (PV.setCell 4 x9 v1 3 .hole) fun v208=>bd (PV.cat 3 32 true v205 v198) fun v209=>
 bd (PV.setCell 4 v208 v1 3 v209) fun v210=>bd (PV.one v32) fun v211=>bd (PV.setCell 4 v210 v1 1 v211) fun v212=>some [(.int .i64 0),x2,x3,x4,x5,x6,x7,x8,v212,x10,x11]) (bd (PV.bin .eql v11 (.int .i64 11)) fun v213=>PV.ite v213 (bd (gS v11) fun r214=>bd (PV.inb (gd r29 0) (.int .i64 0)) fun v215=>bd (PV.at_ 3 true (gd r29 0) (.int .i64 0)) fun v216=>bd (PV.inb (gd r29 0) (.int .i64 1)) fun v217=>
 bd (PV.at_ 3 true (gd r29 0) (.int .i64 1)) fun v218=>bd (PV.apply aL (hd r214) [v216,v218]) fun r219=>bd (PV.comp (hd r219) 0) fun v220=>bd (PV.comp (hd r219) 1) fun v221=>bd (PV.whole 3 v220) fun v222=>bd (PV.cell v222 0) fun v223=>bd (PV.cell v222 1) fun v224=>bd (PV.cell v222 2) fun v225=>bd (PV.bin .neq v221 (.int .i64 0)) fun v226=>PV.ite v226 (some [v221,x2,x3,x4,x5,x6,x7,x8,x9,x10,x11])
 (bd (PV.at_ 4 true x9 v1) fun v227=>bd (PV.at_ 4 true x9 v1) fun v228=>bd (PV.cell v228 3) fun v229=>bd (PV.cut 3 true v229 (.int .i64 0) v20) fun v230=>bd (PV.at_ 4 true x9 v1) fun v231=>bd (PV.cell v231 3) fun v232=>bd (PV.cut 3 true v232 (.int .i64 0) v20) fun v233=>bd (PV.at_ 4 true x9 v1) fun v234=>bd (PV.cell v234 3) fun v235=>bd (PV.setCell 4 x9 v1 3 .hole) fun v236=>bd (PV.cat 3 32 true v233 (.lst [(.agg [v223,v224,v225])])) fun v237=>
 bd (PV.setCell 4 v236 v1 3 v237) fun v238=>bd (PV.one v32) fun v239=>bd (PV.setCell 4 v238 v1 1 v239) fun v240=>some [(.int .i64 0),x2,x3,x4,x5,x6,x7,x8,v240,x10,x11])) (bd (PV.bin .eql v11 (.int .i64 12)) fun v241=>PV.ite v241 (bd (gS v11) fun r242=>bd (PV.inb (gd r29 0) (.int .i64 0)) fun v243=>bd (PV.at_ 3 true (gd r29 0) (.int .i64 0)) fun v244=>bd (PV.inb (gd r29 0) (.int .i64 1)) fun v245=>
 bd (PV.at_ 3 true (gd r29 0) (.int .i64 1)) fun v246=>bd (PV.apply aL (hd r242) [v244,v246]) fun r247=>bd (PV.comp (hd r247) 0) fun v248=>bd (PV.comp (hd r247) 1) fun v249=>bd (PV.whole 3 v248) fun v250=>bd (PV.cell v250 0) fun v251=>bd (PV.cell v250 1) fun v252=>bd (PV.cell v250 2) fun v253=>bd (PV.bin .neq v249 (.int .i64 0)) fun v254=>PV.ite v254 (some [v249,x2,x3,x4,x5,x6,x7,x8,x9,x10,x11])
 (bd (PV.at_ 4 true x9 v1) fun v255=>bd (PV.at_ 4 true x9 v1) fun v256=>bd (PV.cell v256 3) fun v257=>bd (PV.cut 3 true v257 (.int .i64 0) v20) fun v258=>bd (PV.at_ 4 true x9 v1) fun v259=>bd (PV.cell v259 3) fun v260=>bd (PV.cut 3 true v260 (.int .i64 0) v20) fun v261=>bd (PV.at_ 4 true x9 v1) fun v262=>bd (PV.cell v262 3) fun v263=>bd (PV.setCell 4 x9 v1 3 .hole) fun v264=>bd (PV.cat 3 32 true v261 (.lst [(.agg [v251,v252,v253])])) fun v265=>
 bd (PV.setCell 4 v264 v1 3 v265) fun v266=>bd (PV.one v32) fun v267=>bd (PV.setCell 4 v266 v1 1 v267) fun v268=>some [(.int .i64 0),x2,x3,x4,x5,x6,x7,x8,v268,x10,x11])) (bd (PV.bin .eql v11 (.int .i64 13)) fun v269=>PV.ite v269 (bd (gS v11) fun r270=>bd (PV.inb (gd r29 0) (.int .i64 0)) fun v271=>bd (PV.at_ 3 true (gd r29 0) (.int .i64 0)) fun v272=>bd (PV.inb (gd r29 0) (.int .i64 1)) fun v273=>
 bd (PV.at_ 3 true (gd r29 0) (.int .i64 1)) fun v274=>bd (PV.apply aL (hd r270) [v272,v274]) fun r275=>bd (PV.comp (hd r275) 0) fun v276=>bd (PV.comp (hd r275) 1) fun v277=>bd (PV.whole 3 v276) fun v278=>bd (PV.cell v278 0) fun v279=>bd (PV.cell v278 1) fun v280=>bd (PV.cell v278 2) fun v281=>bd (PV.bin .neq v277 (.int .i64 0)) fun v282=>PV.ite v282 (some [v277,x2,x3,x4,x5,x6,x7,x8,x9,x10,x11])
 (bd (PV.at_ 4 true x9 v1) fun v283=>bd (PV.at_ 4 true x9 v1) fun v284=>bd (PV.cell v284 3) fun v285=>bd (PV.cut 3 true v285 (.int .i64 0) v20) fun v286=>bd (PV.at_ 4 true x9 v1) fun v287=>bd (PV.cell v287 3) fun v288=>bd (PV.cut 3 true v288 (.int .i64 0) v20) fun v289=>bd (PV.at_ 4 true x9 v1) fun v290=>bd (PV.cell v290 3) fun v291=>bd (PV.setCell 4 x9 v1 3 .hole) fun v292=>bd (PV.cat 3 32 true v289 (.lst [(.agg [v279,v280,v281])])) fun v293=>
 bd (PV.setCell 4 v292 v1 3 v293) fun v294=>bd (PV.one v32) fun v295=>bd (PV.setCell 4 v294 v1 1 v295) fun v296=>some [(.int .i64 0),x2,x3,x4,x5,x6,x7,x8,v296,x10,x11])) (bd (PV.bin .eql v11 (.int .i64 14)) fun v297=>PV.ite v297 (bd (gS v11) fun r298=>bd (PV.inb (gd r29 0) (.int .i64 0)) fun v299=>bd (PV.at_ 3 true (gd r29 0) (.int .i64 0)) fun v300=>bd (PV.inb (gd r29 0) (.int .i64 1)) fun v301=>
 bd (PV.at_ 3 true (gd r29 0) (.int .i64 1)) fun v302=>bd (PV.apply aL (hd r298) [v300,v302]) fun r303=>bd (PV.comp (hd r303) 0) fun v304=>bd (PV.comp (hd r303) 1) fun v305=>bd (PV.whole 3 v304) fun v306=>bd (PV.cell v306 0) fun v307=>bd (PV.cell v306 1) fun v308=>bd (PV.cell v306 2) fun v309=>bd (PV.bin .neq v305 (.int .i64 0)) fun v310=>PV.ite v310 (some [v305,x2,x3,x4,x5,x6,x7,x8,x9,x10,x11])
 (bd (PV.at_ 4 true x9 v1) fun v311=>bd (PV.at_ 4 true x9 v1) fun v312=>bd (PV.cell v312 3) fun v313=>bd (PV.cut 3 true v313 (.int .i64 0) v20) fun v314=>bd (PV.at_ 4 true x9 v1) fun v315=>bd (PV.cell v315 3) fun v316=>bd (PV.cut 3 true v316 (.int .i64 0) v20) fun v317=>bd (PV.at_ 4 true x9 v1) fun v318=>bd (PV.cell v318 3) fun v319=>bd (PV.setCell 4 x9 v1 3 .hole) fun v320=>bd (PV.cat 3 32 true v317 (.lst [(.agg [v307,v308,v309])])) fun v321=>
 bd (PV.setCell 4 v320 v1 3 v321) fun v322=>bd (PV.one v32) fun v323=>bd (PV.setCell 4 v322 v1 1 v323) fun v324=>some [(.int .i64 0),x2,x3,x4,x5,x6,x7,x8,v324,x10,x11])) (bd (PV.bin .eql v11 (.int .i64 15)) fun v325=>PV.ite v325 (bd (PV.inb (gd r29 0) (.int .i64 0)) fun v326=>bd (PV.at_ 3 true (gd r29 0) (.int .i64 0)) fun v327=>bd (PV.inb (gd r29 0) (.int .i64 1)) fun v328=>
 bd (PV.at_ 3 true (gd r29 0) (.int .i64 1)) fun v329=>bd (aAh v327 v329) fun r330=>bd (PV.cat 3 32 true (.lst []) (.lst [(hd r330)])) fun v331=>bd (PV.cat 3 32 true (.lst []) v331) fun v332=>bd (PV.at_ 4 true x9 v1) fun v333=>bd (PV.at_ 4 true x9 v1) fun v334=>bd (PV.cell v334 3) fun v335=>bd (PV.cut 3 true v335 (.int .i64 0) v20) fun v336=>bd (PV.at_ 4 true x9 v1) fun v337=>
 bd (PV.cell v337 3) fun v338=>bd (PV.cut 3 true v338 (.int .i64 0) v20) fun v339=>bd (PV.at_ 4 true x9 v1) fun v340=>bd (PV.cell v340 3) fun v341=>bd (PV.setCell 4 x9 v1 3 .hole) fun v342=>bd (PV.cat 3 32 true v339 v332) fun v343=>bd (PV.setCell 4 v342 v1 3 v343) fun v344=>bd (PV.one v32) fun v345=>bd (PV.setCell 4 v344 v1 1 v345) fun v346=>some [(.int .i64 0),x2,x3,x4,x5,x6,x7,x8,v346,x10,x11])
 (bd (PV.bin .eql v11 (.int .i64 16)) fun v347=>PV.ite v347 (bd (PV.inb (gd r29 0) (.int .i64 0)) fun v348=>bd (PV.at_ 3 true (gd r29 0) (.int .i64 0)) fun v349=>bd (aBV v349) fun r350=>bd (PV.comp (hd r350) 0) fun v351=>bd (PV.comp (hd r350) 1) fun v352=>bd (PV.whole 3 v351) fun v353=>bd (PV.cell v353 0) fun v354=>bd (PV.cell v353 1) fun v355=>bd (PV.cell v353 2) fun v356=>
 bd (PV.bin .neq v352 (.int .i64 0)) fun v357=>PV.ite v357 (some [v352,x2,x3,x4,x5,x6,x7,x8,x9,x10,x11]) (bd (PV.at_ 4 true x9 v1) fun v358=>bd (PV.at_ 4 true x9 v1) fun v359=>bd (PV.cell v359 3) fun v360=>bd (PV.cut 3 true v360 (.int .i64 0) v20) fun v361=>bd (PV.at_ 4 true x9 v1) fun v362=>bd (PV.cell v362 3) fun v363=>bd (PV.cut 3 true v363 (.int .i64 0) v20) fun v364=>bd (PV.at_ 4 true x9 v1) fun v365=>
 bd (PV.cell v365 3) fun v366=>bd (PV.setCell 4 x9 v1 3 .hole) fun v367=>bd (PV.cat 3 32 true v364 (.lst [(.agg [v354,v355,v356])])) fun v368=>bd (PV.setCell 4 v367 v1 3 v368) fun v369=>bd (PV.one v32) fun v370=>bd (PV.setCell 4 v369 v1 1 v370) fun v371=>some [(.int .i64 0),x2,x3,x4,x5,x6,x7,x8,v371,x10,x11])) (bd (PV.bin .eql v11 (.int .i64 17)) fun v372=>PV.ite v372 (bd (PV.at_ 4 true x9 v1) fun v373=>
 bd (PV.at_ 4 true x9 v1) fun v374=>bd (PV.cell v374 3) fun v375=>bd (PV.cut 3 true v375 (.int .i64 0) v20) fun v376=>bd (PV.at_ 4 true x9 v1) fun v377=>bd (PV.cell v377 3) fun v378=>bd (PV.cut 3 true v378 (.int .i64 0) v20) fun v379=>bd (PV.at_ 4 true x9 v1) fun v380=>bd (PV.cell v380 3) fun v381=>bd (PV.setCell 4 x9 v1 3 .hole) fun v382=>bd (PV.cat 3 32 true v379 (.lst [])) fun v383=>
 bd (PV.setCell 4 v382 v1 3 v383) fun v384=>bd (PV.one v12) fun v385=>bd (PV.setCell 4 v384 v1 1 v385) fun v386=>some [(.int .i64 0),x2,x3,x4,x5,x6,x7,x8,v386,x10,x11]) (bd (PV.bin .eql v11 (.int .i64 18)) fun v387=>PV.ite v387 (bd (PV.inb (gd r29 0) (.int .i64 0)) fun v388=>bd (PV.at_ 3 true (gd r29 0) (.int .i64 0)) fun v389=>bd (PV.cell v389 0) fun v390=>bd (PV.bin .neq v390 (.int .i64 2)) fun v391=>
 PV.ite v391 (some [(.int .i64 1),x2,x3,x4,x5,x6,x7,x8,x9,x10,x11]) (bd (PV.inb (gd r29 0) (.int .i64 0)) fun v392=>bd (PV.at_ 3 true (gd r29 0) (.int .i64 0)) fun v393=>bd (PV.cell v393 1) fun v394=>bd (PV.bin .eql v394 (.int .i64 1)) fun v395=>bd (PV.bin .eql v11 (.int .i64 18)) fun v396=>bd (PV.beq .eql v395 v396) fun v397=>PV.ite v397 (bd (PV.at_ 4 true x9 v1) fun v398=>bd (PV.at_ 4 true x9 v1) fun v399=>
 bd (PV.cell v399 3) fun v400=>bd (PV.cut 3 true v400 (.int .i64 0) v20) fun v401=>bd (PV.at_ 4 true x9 v1) fun v402=>bd (PV.cell v402 3) fun v403=>bd (PV.cut 3 true v403 (.int .i64 0) v20) fun v404=>bd (PV.at_ 4 true x9 v1) fun v405=>bd (PV.cell v405 3) fun v406=>bd (PV.setCell 4 x9 v1 3 .hole) fun v407=>bd (PV.cat 3 32 true v404 (.lst [])) fun v408=>bd (PV.setCell 4 v407 v1 3 v408) fun v409=>
 bd (PV.one v12) fun v410=>bd (PV.setCell 4 v409 v1 1 v410) fun v411=>some [(.int .i64 0),x2,x3,x4,x5,x6,x7,x8,v411,x10,x11]) (bd (PV.at_ 4 true x9 v1) fun v412=>bd (PV.at_ 4 true x9 v1) fun v413=>bd (PV.cell v413 3) fun v414=>bd (PV.cut 3 true v414 (.int .i64 0) v20) fun v415=>bd (PV.at_ 4 true x9 v1) fun v416=>bd (PV.cell v416 3) fun v417=>bd (PV.cut 3 true v417 (.int .i64 0) v20) fun v418=>
 bd (PV.at_ 4 true x9 v1) fun v419=>bd (PV.cell v419 3) fun v420=>bd (PV.setCell 4 x9 v1 3 .hole) fun v421=>bd (PV.cat 3 32 true v418 (.lst [])) fun v422=>bd (PV.setCell 4 v421 v1 3 v422) fun v423=>bd (PV.one v32) fun v424=>bd (PV.setCell 4 v423 v1 1 v424) fun v425=>some [(.int .i64 0),x2,x3,x4,x5,x6,x7,x8,v425,x10,x11]))) (bd (PV.bin .eql v11 (.int .i64 19)) fun v426=>PV.ite v426
 (bd (PV.inb (gd r29 0) (.int .i64 0)) fun v427=>bd (PV.at_ 3 true (gd r29 0) (.int .i64 0)) fun v428=>bd (PV.cell v428 0) fun v429=>bd (PV.bin .neq v429 (.int .i64 2)) fun v430=>PV.ite v430 (some [(.int .i64 1),x2,x3,x4,x5,x6,x7,x8,x9,x10,x11]) (bd (PV.inb (gd r29 0) (.int .i64 0)) fun v431=>bd (PV.at_ 3 true (gd r29 0) (.int .i64 0)) fun v432=>bd (PV.cell v432 1) fun v433=>
 bd (PV.bin .eql v433 (.int .i64 1)) fun v434=>bd (PV.bin .eql v11 (.int .i64 18)) fun v435=>bd (PV.beq .eql v434 v435) fun v436=>PV.ite v436 (bd (PV.at_ 4 true x9 v1) fun v437=>bd (PV.at_ 4 true x9 v1) fun v438=>bd (PV.cell v438 3) fun v439=>bd (PV.cut 3 true v439 (.int .i64 0) v20) fun v440=>bd (PV.at_ 4 true x9 v1) fun v441=>bd (PV.cell v441 3) fun v442=>bd (PV.cut 3 true v442 (.int .i64 0) v20) fun v443=>
 bd (PV.at_ 4 true x9 v1) fun v444=>bd (PV.cell v444 3) fun v445=>bd (PV.setCell 4 x9 v1 3 .hole) fun v446=>bd (PV.cat 3 32 true v443 (.lst [])) fun v447=>bd (PV.setCell 4 v446 v1 3 v447) fun v448=>bd (PV.one v12) fun v449=>bd (PV.setCell 4 v448 v1 1 v449) fun v450=>some [(.int .i64 0),x2,x3,x4,x5,x6,x7,x8,v450,x10,x11]) (bd (PV.at_ 4 true x9 v1) fun v451=>bd (PV.at_ 4 true x9 v1) fun v452=>
 bd (PV.cell v452 3) fun v453=>bd (PV.cut 3 true v453 (.int .i64 0) v20) fun v454=>bd (PV.at_ 4 true x9 v1) fun v455=>bd (PV.cell v455 3) fun v456=>bd (PV.cut 3 true v456 (.int .i64 0) v20) fun v457=>bd (PV.at_ 4 true x9 v1) fun v458=>bd (PV.cell v458 3) fun v459=>bd (PV.setCell 4 x9 v1 3 .hole) fun v460=>bd (PV.cat 3 32 true v457 (.lst [])) fun v461=>bd (PV.setCell 4 v460 v1 3 v461) fun v462=>
 bd (PV.one v32) fun v463=>bd (PV.setCell 4 v462 v1 1 v463) fun v464=>some [(.int .i64 0),x2,x3,x4,x5,x6,x7,x8,v464,x10,x11]))) (bd (PV.bin .eql v11 (.int .i64 20)) fun v465=>PV.ite v465 (bd (PV.bin .eql x2 (.int .i64 120)) fun v466=>PV.ite v466 (some [(.int .i64 7),x2,x3,x4,x5,x6,x7,x8,x9,x10,x11]) (bd (PV.len x10) fun v467=>bd (PV.one v467) fun v468=>bd (aAN v12) fun r469=>
 PV.guardOwn (.own 3 32 true []) (gd r469 0) (bd (PV.cat 1 24 true x10 (.lst [(.agg [(gd r469 0)])])) fun v470=>bd (PV.bin .add x2 (.int .i64 1)) fun v471=>bd (PV.one v471) fun v472=>bd (PV.at_ 4 true x9 v1) fun v473=>bd (PV.at_ 4 true x9 v1) fun v474=>bd (PV.cell v474 3) fun v475=>bd (PV.cut 3 true v475 (.int .i64 0) v20) fun v476=>bd (PV.at_ 4 true x9 v1) fun v477=>bd (PV.cell v477 3) fun v478=>
 bd (PV.cut 3 true v478 (.int .i64 0) v20) fun v479=>bd (PV.at_ 4 true x9 v1) fun v480=>bd (PV.cell v480 3) fun v481=>bd (PV.setCell 4 x9 v1 3 .hole) fun v482=>bd (PV.cat 3 32 true v479 (.lst [(.agg [(.int .i64 4),v468,(.str (bs []))])])) fun v483=>bd (PV.setCell 4 v482 v1 3 v483) fun v484=>bd (PV.one v32) fun v485=>bd (PV.setCell 4 v484 v1 1 v485) fun v486=>some [(.int .i64 0),v472,x3,x4,x5,x6,x7,x8,v486,v470,x11])))
 (bd (PV.bin .eql v11 (.int .i64 21)) fun v487=>PV.ite v487 (bd (PV.inb (gd r29 0) (.int .i64 0)) fun v488=>bd (PV.at_ 3 true (gd r29 0) (.int .i64 0)) fun v489=>bd (pQ v489 v12 x2 x3 x4 x5 x6 x7 x8 x9 x10 x11) fun r490=>bd (PV.bin .neq (gd r490 2) (.int .i64 0)) fun v491=>PV.ite v491 (some [(gd r490 2),(gd r490 3),(gd r490 4),(gd r490 5),(gd r490 6),(gd r490 7),(gd r490 8),(gd r490 9),(gd r490 10),(gd r490 11),(gd r490 12)])
 (bd (PV.isInt (gd r490 1)) fun v492=>bd (PV.at_ 1 true (gd r490 11) (gd r490 0)) fun v493=>bd (PV.cell v493 0) fun v494=>bd (PV.at_ 3 true v494 v492) fun v495=>bd (PV.cat 3 32 true (.lst []) (.lst [v495])) fun v496=>bd (PV.cat 3 32 true (.lst []) v496) fun v497=>bd (PV.at_ 4 true (gd r490 10) v1) fun v498=>bd (PV.at_ 4 true (gd r490 10) v1) fun v499=>bd (PV.cell v499 3) fun v500=>
 bd (PV.cut 3 true v500 (.int .i64 0) v20) fun v501=>bd (PV.at_ 4 true (gd r490 10) v1) fun v502=>bd (PV.cell v502 3) fun v503=>bd (PV.cut 3 true v503 (.int .i64 0) v20) fun v504=>bd (PV.at_ 4 true (gd r490 10) v1) fun v505=>bd (PV.cell v505 3) fun v506=>bd (PV.setCell 4 (gd r490 10) v1 3 .hole) fun v507=>bd (PV.cat 3 32 true v504 v497) fun v508=>bd (PV.setCell 4 v507 v1 3 v508) fun v509=>
 bd (PV.one v32) fun v510=>bd (PV.setCell 4 v509 v1 1 v510) fun v511=>some [(.int .i64 0),(gd r490 3),(gd r490 4),(gd r490 5),(gd r490 6),(gd r490 7),(gd r490 8),(gd r490 9),v511,(gd r490 11),(gd r490 12)])) (bd (PV.bin .eql v11 (.int .i64 22)) fun v512=>PV.ite v512 (bd (PV.inb (gd r29 0) (.int .i64 0)) fun v513=>bd (PV.at_ 3 true (gd r29 0) (.int .i64 0)) fun v514=>bd (pQ v514 v12 x2 x3 x4 x5 x6 x7 x8 x9 x10 x11) fun r515=>
 bd (PV.bin .neq (gd r515 2) (.int .i64 0)) fun v516=>PV.ite v516 (some [(gd r515 2),(gd r515 3),(gd r515 4),(gd r515 5),(gd r515 6),(gd r515 7),(gd r515 8),(gd r515 9),(gd r515 10),(gd r515 11),(gd r515 12)]) (bd (PV.inb (gd r29 0) (.int .i64 1)) fun v517=>bd (PV.at_ 3 true (gd r29 0) (.int .i64 1)) fun v518=>bd (PV.isInt (gd r515 1)) fun v519=>bd (PV.at_ 1 true (gd r515 11) (gd r515 0)) fun v520=>
 bd (PV.cell v520 0) fun v521=>bd (PV.at_ 1 true (gd r515 11) (gd r515 0)) fun v522=>bd (PV.cell v522 0) fun v523=>bd (PV.setAt 3 true v523 v519 v518) fun v524=>bd (PV.at_ 1 true (gd r515 11) (gd r515 0)) fun v525=>bd (PV.cell v525 0) fun v526=>bd (PV.setCell 1 (gd r515 11) (gd r515 0) 0 v524) fun v527=>bd (PV.at_ 4 true (gd r515 10) v1) fun v528=>bd (PV.at_ 4 true (gd r515 10) v1) fun v529=>
 bd (PV.cell v529 3) fun v530=>bd (PV.cut 3 true v530 (.int .i64 0) v20) fun v531=>bd (PV.at_ 4 true (gd r515 10) v1) fun v532=>bd (PV.cell v532 3) fun v533=>bd (PV.cut 3 true v533 (.int .i64 0) v20) fun v534=>bd (PV.at_ 4 true (gd r515 10) v1) fun v535=>bd (PV.cell v535 3) fun v536=>bd (PV.setCell 4 (gd r515 10) v1 3 .hole) fun v537=>bd (PV.cat 3 32 true v534 (.lst [])) fun v538=>
 bd (PV.setCell 4 v537 v1 3 v538) fun v539=>bd (PV.one v32) fun v540=>bd (PV.setCell 4 v539 v1 1 v540) fun v541=>some [(.int .i64 0),(gd r515 3),(gd r515 4),(gd r515 5),(gd r515 6),(gd r515 7),(gd r515 8),(gd r515 9),v541,v527,(gd r515 12)])) (bd (PV.bin .eql v11 (.int .i64 23)) fun v542=>PV.ite v542 (bd (PV.bin .eql v11 (.int .i64 23)) fun v543=>PV.ite v543 (bd (PV.inb (gd r29 0) (.int .i64 0)) fun v544=>
 bd (PV.at_ 3 true (gd r29 0) (.int .i64 0)) fun v545=>bd (PV.cell v545 0) fun v546=>bd (PV.bin .neq v546 (.int .i64 5)) fun v547=>PV.ite v547 (some [(.int .i64 1),x2,x3,x4,x5,x6,x7,x8,x9,x10,x11]) (bd (PV.inb (gd r29 0) (.int .i64 0)) fun v548=>bd (PV.at_ 3 true (gd r29 0) (.int .i64 0)) fun v549=>bd (PV.cell v549 1) fun v550=>bd (PV.at_ 3 true x1 v550) fun v551=>bd (PV.cell v551 0) fun v552=>
 bd (PV.bin .neq v552 v12) fun v553=>PV.ite v553 (some [(.int .i64 5),x2,x3,x4,x5,x6,x7,x8,x9,x10,x11]) (bd (PV.inb (gd r29 0) (.int .i64 0)) fun v554=>bd (PV.at_ 3 true (gd r29 0) (.int .i64 0)) fun v555=>bd (PV.cell v555 1) fun v556=>bd (PV.len (gd r29 0)) fun v557=>bd (PV.cut 3 true (gd r29 0) (.int .i64 1) v557) fun v558=>bd (PV.cut 3 true (gd r29 0) (.int .i64 1) v557) fun v559=>
 iZ v1 v20 v32 v556 x2 x3 x4 x5 x6 x7 x8 x0 x1 x9 x10 x11 v559))) (iZ v1 v20 v32 v12 x2 x3 x4 x5 x6 x7 x8 x0 x1 x9 x10 x11 (gd r29 0))) (bd (PV.bin .eql v11 (.int .i64 24)) fun v560=>PV.ite v560 (bd (PV.bin .eql v11 (.int .i64 23)) fun v561=>PV.ite v561 (bd (PV.inb (gd r29 0) (.int .i64 0)) fun v562=>bd (PV.at_ 3 true (gd r29 0) (.int .i64 0)) fun v563=>bd (PV.cell v563 0) fun v564=>
 bd (PV.bin .neq v564 (.int .i64 5)) fun v565=>PV.ite v565 (some [(.int .i64 1),x2,x3,x4,x5,x6,x7,x8,x9,x10,x11]) (bd (PV.inb (gd r29 0) (.int .i64 0)) fun v566=>bd (PV.at_ 3 true (gd r29 0) (.int .i64 0)) fun v567=>bd (PV.cell v567 1) fun v568=>bd (PV.at_ 3 true x1 v568) fun v569=>bd (PV.cell v569 0) fun v570=>bd (PV.bin .neq v570 v12) fun v571=>PV.ite v571 (some [(.int .i64 5),x2,x3,x4,x5,x6,x7,x8,x9,x10,x11])
 (bd (PV.inb (gd r29 0) (.int .i64 0)) fun v572=>bd (PV.at_ 3 true (gd r29 0) (.int .i64 0)) fun v573=>bd (PV.cell v573 1) fun v574=>bd (PV.len (gd r29 0)) fun v575=>bd (PV.cut 3 true (gd r29 0) (.int .i64 1) v575) fun v576=>bd (PV.cut 3 true (gd r29 0) (.int .i64 1) v575) fun v577=>iZ v1 v20 v32 v574 x2 x3 x4 x5 x6 x7 x8 x0 x1 x9 x10 x11 v577))) (iZ v1 v20 v32 v12 x2 x3 x4 x5 x6 x7 x8 x0 x1 x9 x10 x11 (gd r29 0)))
 (bd (PV.bin .eql v11 (.int .i64 25)) fun v578=>PV.ite v578 (bd (PV.inb (gd r29 0) (.int .i64 0)) fun v579=>bd (PV.at_ 3 true (gd r29 0) (.int .i64 0)) fun v580=>bd (sQ v580 x2 x3 x4 x5 x6 x7 x8 x9 x10 x11) fun r581=>some [(.int .i64 0),(gd r581 0),(gd r581 1),(gd r581 2),(gd r581 3),(gd r581 4),(gd r581 5),(gd r581 6),(gd r581 7),(gd r581 8),(gd r581 9)]) (bd (PV.bin .eql v11 (.int .i64 26)) fun v582=>
 PV.ite v582 (bd (PV.len x11) fun v583=>bd (PV.bin .eql v583 (.int .i64 200)) fun v584=>PV.ite v584 (some [(.int .i64 8),x2,x3,x4,x5,x6,x7,x8,x9,x10,x11]) (bd (PV.inb (gd r29 0) (.int .i64 0)) fun v585=>bd (PV.at_ 3 true (gd r29 0) (.int .i64 0)) fun v586=>bd (sP v586 x10) fun r587=>PV.guardFlat (hd r587) (bd (PV.cat 1 16 false (.lst []) (.lst [(hd r587)])) fun v588=>
 bd (PV.cat 1 16 false x11 v588) fun v589=>bd (PV.at_ 4 true x9 v1) fun v590=>bd (PV.at_ 4 true x9 v1) fun v591=>bd (PV.cell v591 3) fun v592=>bd (PV.cut 3 true v592 (.int .i64 0) v20) fun v593=>bd (PV.at_ 4 true x9 v1) fun v594=>bd (PV.cell v594 3) fun v595=>bd (PV.cut 3 true v595 (.int .i64 0) v20) fun v596=>bd (PV.at_ 4 true x9 v1) fun v597=>bd (PV.cell v597 3) fun v598=>bd (PV.setCell 4 x9 v1 3 .hole) fun v599=>
 bd (PV.cat 3 32 true v596 (.lst [])) fun v600=>bd (PV.setCell 4 v599 v1 3 v600) fun v601=>bd (PV.one v32) fun v602=>bd (PV.setCell 4 v601 v1 1 v602) fun v603=>some [(.int .i64 0),x2,x3,x4,x5,x6,x7,x8,v603,x10,v589]))) (bd (PV.at_ 4 true x9 v1) fun v604=>bd (PV.at_ 4 true x9 v1) fun v605=>bd (PV.cell v605 3) fun v606=>bd (PV.cut 3 true v606 (.int .i64 0) v20) fun v607=>bd (PV.at_ 4 true x9 v1) fun v608=>
 bd (PV.cell v608 3) fun v609=>bd (PV.cut 3 true v609 (.int .i64 0) v20) fun v610=>bd (PV.at_ 4 true x9 v1) fun v611=>bd (PV.cell v611 3) fun v612=>bd (PV.setCell 4 x9 v1 3 .hole) fun v613=>bd (PV.cat 3 32 true v610 (.lst [])) fun v614=>bd (PV.setCell 4 v613 v1 3 v614) fun v615=>bd (PV.one v32) fun v616=>bd (PV.setCell 4 v615 v1 1 v616) fun v617=>some [(.int .i64 0),x2,x3,x4,x5,x6,x7,x8,v617,x10,x11])))))))))))))))))))))))))):=bS _ _ _ _ (by kernel_rfl)
theorem aCX (x0 x1 x2 x3 x4 x5 x6 x7 x8 x9 x10 x11 x12 x13 x14 x15 x16 : PV) : iZ x0 x1 x2 x3 x4 x5 x6 x7 x8 x9 x10 x11 x12 x13 x14 x15 x16=bd (PV.len x13) fun v0=>bd (PV.bin .eql v0 (.int .i64 24)) fun v1=>PV.ite v1 (some [(.int .i64 6),x4,x5,x6,x7,x8,x9,x10,x13,x14,x15]) (bd (PV.at_ 4 true x13 x0) fun v2=>bd (PV.at_ 4 true x13 x0) fun v3=>bd (PV.cell v3 3) fun v4=>
 bd (PV.cut 3 true v4 (.int .i64 0) x1) fun v5=>bd (PV.at_ 4 true x13 x0) fun v6=>bd (PV.cell v6 3) fun v7=>bd (PV.cut 3 true v7 (.int .i64 0) x1) fun v8=>bd (PV.at_ 4 true x13 x0) fun v9=>bd (PV.cell v9 3) fun v10=>bd (PV.setCell 4 x13 x0 3 .hole) fun v11=>bd (PV.setCell 4 v11 x0 3 v8) fun v12=>bd (PV.one x2) fun v13=>bd (PV.setCell 4 v12 x0 1 v13) fun v14=>bd (xJ (.agg [x11,x12]) x3 x16) fun r15=>
 PV.guardFlat (gd r15 0) (PV.guardFlat (gd r15 1) (PV.guardOwn (.own 3 32 true []) (gd r15 2) (PV.guardOwn (.own 3 32 true []) (gd r15 3) (bd (PV.cat 4 64 true v14 (.lst [(.agg [(gd r15 0),(gd r15 1),(gd r15 2),(gd r15 3)])])) fun v16=>some [(.int .i64 0),x4,x5,x6,x7,x8,x9,x10,v16,x14,x15]))))):=aY _ _ _ _ _ _ _ _ (by kernel_rfl)
theorem aHj (x0 : PV) : xF x0=bd (PV.one x0) fun v0=>some [(.agg [(.int .i64 1),v0,(.str (bs []))])]:=aK _ _ _ (by kernel_rfl)
theorem aGt (x0 : PV) : kV x0=PV.ite x0 (some [(.agg [(.int .i64 2),(.int .i64 1),(.str (bs []))])]) (some [(.agg [(.int .i64 2),(.int .i64 0),(.str (bs []))])]):=aK _ _ _ (by kernel_rfl)
theorem aCg (x0 : PV) : gS x0=bd (PV.bin .sub x0 (.int .i64 11)) fun v0=>bd (PV.ix 4 (.agg [(.fn 220 []),(.fn 221 []),(.fn 222 []),(.fn 223 [])]) v0) fun v1=>some [v1]:=aK _ _ _ (by kernel_rfl)
theorem aGu (x0 x1 : PV) : aAh x0 x1=bd (PV.whole 3 x0) fun v0=>bd (PV.cell v0 0) fun v1=>bd (PV.cell v0 1) fun v2=>bd (PV.cell v0 2) fun v3=>bd (PV.whole 3 x1) fun v4=>bd (PV.cell v4 0) fun v5=>bd (PV.cell v4 1) fun v6=>bd (PV.cell v4 2) fun v7=>bd (PV.ceq [1,1,2] .eql (.agg [v1,v2,v3]) (.agg [v5,v6,v7])) fun v8=>bd (kV v8) fun r9=>bd (PV.whole 3 (hd r9)) fun v10=>
 bd (PV.cell v10 0) fun v11=>bd (PV.cell v10 1) fun v12=>bd (PV.cell v10 2) fun v13=>some [(.agg [v11,v12,v13])]:=aK _ _ _ (by kernel_rfl)
theorem aHk (x0 : PV) : aBV x0=bd (PV.whole 3 x0) fun v0=>bd (PV.cell v0 0) fun v1=>bd (PV.cell v0 1) fun v2=>bd (PV.cell v0 2) fun v3=>bd (PV.bin .neq v1 (.int .i64 2)) fun v4=>PV.ite v4 (some [(.tup [(.agg [(.int .i64 0),(.int .i64 0),(.str (bs []))]),(.int .i64 1)])]) (bd (PV.bin .neq v2 (.int .i64 1)) fun v5=>bd (kV v5) fun r6=>bd (PV.whole 3 (hd r6)) fun v7=>
 bd (PV.cell v7 0) fun v8=>bd (PV.cell v7 1) fun v9=>bd (PV.cell v7 2) fun v10=>some [(.tup [(.agg [v8,v9,v10]),(.int .i64 0)])]):=aK _ _ _ (by kernel_rfl)
theorem aCY (x0 x1 : PV) : sP x0 x1=bd (PV.whole 3 x0) fun v0=>bd (PV.cell v0 0) fun v1=>bd (PV.cell v0 1) fun v2=>bd (PV.cell v0 2) fun v3=>bd (PV.bin .eql v1 (.int .i64 0)) fun v4=>PV.ite v4 (some [(.str (bs [110,105,108]))]) (bd (PV.bin .eql v1 (.int .i64 1)) fun v5=>PV.ite v5 (bd (strconv_Itoa v2) fun r6=>some [(hd r6)]) (bd (PV.bin .eql v1 (.int .i64 2)) fun v7=>
 PV.ite v7 (bd (PV.bin .eql v2 (.int .i64 1)) fun v8=>bd (nB v8) fun r9=>some [(hd r9)]) (bd (PV.bin .eql v1 (.int .i64 3)) fun v10=>PV.ite v10 (some [v3]) (bd (PV.bin .eql v1 (.int .i64 5)) fun v11=>PV.ite v11 (bd (strconv_Itoa v2) fun r12=>bd (PV.bin .add (.str (bs [102,117,110])) (hd r12)) fun v13=>some [v13]) (bd (PV.bin .eql v1 (.int .i64 4)) fun v14=>PV.ite v14
 (bd (PV.len x1) fun v15=>bd (cK v2 v15) fun r16=>PV.ite (hd r16) (bd (PV.at_ 1 true x1 v2) fun v17=>bd (PV.cell v17 0) fun v18=>bd (PV.len v18) fun v19=>bd (strconv_Itoa v19) fun r20=>bd (PV.bin .add (.str (bs [123])) (hd r20)) fun v21=>bd (PV.bin .add v21 (.str (bs [125]))) fun v22=>some [v22]) (some [(.str (bs []))])) (some [(.str (bs []))])))))):=aK _ _ _ (by kernel_rfl)
theorem aHl (x0 x1 : PV) : aBW x0 x1=bd (PV.whole 3 x0) fun v0=>bd (PV.cell v0 0) fun v1=>bd (PV.cell v0 1) fun v2=>bd (PV.cell v0 2) fun v3=>bd (PV.whole 3 x1) fun v4=>bd (PV.cell v4 0) fun v5=>bd (PV.cell v4 1) fun v6=>bd (PV.cell v4 2) fun v7=>bd (rY (.agg [v1,v2,v3]) (.agg [v5,v6,v7]) (.int .i64 3)) fun r8=>PV.ite (hd r8) (bd (PV.slen v3) fun v9=>
 bd (PV.slen v7) fun v10=>bd (PV.bin .add v9 v10) fun v11=>bd (PV.bin .gtr v11 (.int .i64 60)) fun v12=>PV.ite v12 (some [(.tup [(.agg [(.int .i64 0),(.int .i64 0),(.str (bs []))]),(.int .i64 3)])]) (bd (PV.bin .add v3 v7) fun v13=>bd (PV.one v13) fun v14=>some [(.tup [(.agg [(.int .i64 3),(.int .i64 0),v14]),(.int .i64 0)])])) (bd (oG (.agg [v1,v2,v3]) (.agg [v5,v6,v7]) (.fn 261 [])) fun r15=>
 bd (PV.comp (hd r15) 0) fun v16=>bd (PV.comp (hd r15) 1) fun v17=>bd (PV.whole 3 v16) fun v18=>bd (PV.cell v18 0) fun v19=>bd (PV.cell v18 1) fun v20=>bd (PV.cell v18 2) fun v21=>some [(.tup [(.agg [v19,v20,v21]),v17])]):=aK _ _ _ (by kernel_rfl)
theorem aHm (x0 x1 : PV) : aBX x0 x1=bd (PV.whole 3 x0) fun v0=>bd (PV.cell v0 0) fun v1=>bd (PV.cell v0 1) fun v2=>bd (PV.cell v0 2) fun v3=>bd (PV.whole 3 x1) fun v4=>bd (PV.cell v4 0) fun v5=>bd (PV.cell v4 1) fun v6=>bd (PV.cell v4 2) fun v7=>bd (oG (.agg [v1,v2,v3]) (.agg [v5,v6,v7]) (.fn 262 [])) fun r8=>bd (PV.comp (hd r8) 0) fun v9=>bd (PV.comp (hd r8) 1) fun v10=>
 bd (PV.whole 3 v9) fun v11=>bd (PV.cell v11 0) fun v12=>bd (PV.cell v11 1) fun v13=>bd (PV.cell v11 2) fun v14=>some [(.tup [(.agg [v12,v13,v14]),v10])]:=aK _ _ _ (by kernel_rfl)
theorem aHn (x0 x1 : PV) : aBY x0 x1=bd (PV.whole 3 x0) fun v0=>bd (PV.cell v0 0) fun v1=>bd (PV.cell v0 1) fun v2=>bd (PV.cell v0 2) fun v3=>bd (PV.whole 3 x1) fun v4=>bd (PV.cell v4 0) fun v5=>bd (PV.cell v4 1) fun v6=>bd (PV.cell v4 2) fun v7=>bd (oG (.agg [v1,v2,v3]) (.agg [v5,v6,v7]) (.fn 263 [])) fun r8=>bd (PV.comp (hd r8) 0) fun v9=>bd (PV.comp (hd r8) 1) fun v10=>
 bd (PV.whole 3 v9) fun v11=>bd (PV.cell v11 0) fun v12=>bd (PV.cell v11 1) fun v13=>bd (PV.cell v11 2) fun v14=>some [(.tup [(.agg [v12,v13,v14]),v10])]:=aK _ _ _ (by kernel_rfl)
theorem aGv (x0 x1 : PV) : aAi x0 x1=bd (PV.whole 3 x0) fun v0=>bd (PV.cell v0 0) fun v1=>bd (PV.cell v0 1) fun v2=>bd (PV.cell v0 2) fun v3=>bd (PV.whole 3 x1) fun v4=>bd (PV.cell v4 0) fun v5=>bd (PV.cell v4 1) fun v6=>bd (PV.cell v4 2) fun v7=>bd (rY (.agg [v1,v2,v3]) (.agg [v5,v6,v7]) (.int .i64 1)) fun r8=>PV.ite (hd r8) (bd (PV.bin .lss v2 v6) fun v9=>
 bd (kV v9) fun r10=>bd (PV.whole 3 (hd r10)) fun v11=>bd (PV.cell v11 0) fun v12=>bd (PV.cell v11 1) fun v13=>bd (PV.cell v11 2) fun v14=>some [(.tup [(.agg [v12,v13,v14]),(.int .i64 0)])]) (bd (rY (.agg [v1,v2,v3]) (.agg [v5,v6,v7]) (.int .i64 3)) fun r15=>PV.ite (hd r15) (bd (qM v3 v7) fun r16=>bd (kV (hd r16)) fun r17=>bd (PV.whole 3 (hd r17)) fun v18=>
 bd (PV.cell v18 0) fun v19=>bd (PV.cell v18 1) fun v20=>bd (PV.cell v18 2) fun v21=>some [(.tup [(.agg [v19,v20,v21]),(.int .i64 0)])]) (some [(.tup [(.agg [(.int .i64 0),(.int .i64 0),(.str (bs []))]),(.int .i64 1)])])):=aK _ _ _ (by kernel_rfl)
theorem aE2 (x0 : PV) : strconv_Itoa x0=yU [x0]:=aK _ _ _ (by kernel_rfl)
theorem yQ (x0 : PV) : nB x0=bd (kJ x0) fun r0=>some [(hd r0)]:=aK _ _ _ (by kernel_rfl)
theorem aIy (x0 x1 x2 : PV) : rY x0 x1 x2=bd (PV.whole 3 x0) fun v0=>bd (PV.cell v0 0) fun v1=>bd (PV.cell v0 1) fun v2=>bd (PV.cell v0 2) fun v3=>bd (PV.whole 3 x1) fun v4=>bd (PV.cell v4 0) fun v5=>bd (PV.cell v4 1) fun v6=>bd (PV.cell v4 2) fun v7=>bd (PV.bin .eql v1 x2) fun v8=>PV.ite v8 (bd (PV.bin .eql v5 x2) fun v9=>some [v9]) (some [.bool false]):=aK _ _ _ (by kernel_rfl)
theorem aE3 (x0 x1 x2 : PV) : oG x0 x1 x2=bd (PV.whole 3 x0) fun v0=>bd (PV.cell v0 0) fun v1=>bd (PV.cell v0 1) fun v2=>bd (PV.cell v0 2) fun v3=>bd (PV.whole 3 x1) fun v4=>bd (PV.cell v4 0) fun v5=>bd (PV.cell v4 1) fun v6=>bd (PV.cell v4 2) fun v7=>bd (rY (.agg [v1,v2,v3]) (.agg [v5,v6,v7]) (.int .i64 1)) fun r8=>bd (PV.not (hd r8)) fun v9=>
 PV.ite v9 (some [(.tup [(.agg [(.int .i64 0),(.int .i64 0),(.str (bs []))]),(.int .i64 1)])]) (bd (kT v2) fun r10=>bd (PV.not (hd r10)) fun v11=>PV.ite v11 (some [(.tup [(.agg [(.int .i64 0),(.int .i64 0),(.str (bs []))]),(.int .i64 2)])]) (bd (kT v6) fun r12=>bd (PV.not (hd r12)) fun v13=>PV.ite v13 (some [(.tup [(.agg [(.int .i64 0),(.int .i64 0),(.str (bs []))]),(.int .i64 2)])])
 (bd (PV.apply aL x2 [v2,v6]) fun r14=>bd (kT (hd r14)) fun r15=>bd (PV.not (hd r15)) fun v16=>PV.ite v16 (some [(.tup [(.agg [(.int .i64 0),(.int .i64 0),(.str (bs []))]),(.int .i64 2)])]) (bd (PV.apply aL x2 [v2,v6]) fun r17=>bd (xF (hd r17)) fun r18=>bd (PV.whole 3 (hd r18)) fun v19=>bd (PV.cell v19 0) fun v20=>bd (PV.cell v19 1) fun v21=>bd (PV.cell v19 2) fun v22=>
 some [(.tup [(.agg [v20,v21,v22]),(.int .i64 0)])])))):=aK _ _ _ (by kernel_rfl)
theorem aE4 (x0 x1 : PV) : xG x0 x1=bd (PV.bin .add x0 x1) fun v0=>some [v0]:=aK _ _ _ (by kernel_rfl)
theorem aE5 (x0 x1 : PV) : xH x0 x1=bd (PV.bin .sub x0 x1) fun v0=>some [v0]:=aK _ _ _ (by kernel_rfl)
theorem aE6 (x0 x1 : PV) : xI x0 x1=bd (PV.bin .mul x0 x1) fun v0=>some [v0]:=aK _ _ _ (by kernel_rfl)
theorem aCh (x0 x1 : PV) : qM x0 x1=bd (lP x0) fun r0=>PV.ite (hd r0) (bd (lP x1) fun r1=>bd (PV.not (hd r1)) fun v2=>PV.ite v2 (some [.bool true]) (bd (PV.bin .lss x0 x1) fun v3=>some [v3])) (bd (PV.bin .lss x0 x1) fun v4=>some [v4]):=aK _ _ _ (by kernel_rfl)
theorem pH (x0 : PV) : kJ x0=PV.ite x0 (some [(.str (bs [116,114,117,101]))]) (some [(.str (bs [102,97,108,115,101]))]):=aK _ _ _ (by kernel_rfl)
theorem aA8 (x0 : PV) : lP x0=bd (PV.bin .neq x0 x0) fun v0=>some [v0]:=aK _ _ _ (by kernel_rfl)
theorem kX (x0 : PV) : dA x0=bd (PV.len x0) fun v0=>bR x0 (.int .i64 0) x0 v0 (.int .i64 0):=bS _ _ _ _ (by kernel_rfl)
theorem dH (x0 x1 x2 x3 x4 : PV) : bR x0 x1 x2 x3 x4=bd (PV.bin .lss x4 x3) fun v0=>PV.ite v0 (bd (PV.at_ 1 false x2 x4) fun v1=>bd (PV.len v1) fun v2=>bd (PV.bin .add x1 v2) fun v3=>bd (PV.bin .lss v3 (.int .i64 0)) fun v4=>PV.ite v4 (none) (bd (PV.bin .add x4 (.int .i64 1)) fun v5=>bR x0 v3 x2 x3 v5))
 (bd (eL x1) fun r6=>bd (PV.len x0) fun v7=>bP x0 v7 (.int .i64 0) (gd r6 0)):=aY _ _ _ _ _ _ _ _ (by kernel_rfl)
theorem dF (x0 x1 x2 x3 : PV) : bP x0 x1 x2 x3=bd (PV.bin .lss x2 x1) fun v0=>PV.ite v0 (bd (PV.at_ 1 false x0 x2) fun v1=>bd (PV.cat 3 32 true x3 v1) fun v2=>bd (PV.bin .add x2 (.int .i64 1)) fun v3=>bP x0 x1 v3 v2) (some [x3]):=aY _ _ _ _ _ _ _ _ (by kernel_rfl)
theorem aAn (x0 x1 x2 x3 x4 x5 x6 x7 x8 x9 x10 x11 x12 x13 x14 x15 : PV) : nI x0 x1 x2 x3 x4 x5 x6 x7 x8 x9 x10 x11 x12 x13 x14 x15=PV.ite x3 (bd (PV.len x5) fun v0=>bd (PV.len x7) fun v1=>bd (xD (.agg [x0,x1,x2]) v0 v1) fun r2=>bd (PV.one (hd r2)) fun v3=>some [v3,x4,x5,x6,x7,x8,x9,x10,x11,x12,x13,x14,x15]) (some [(.bool false),x4,x5,x6,x7,x8,x9,x10,x11,x12,x13,x14,x15]):=bS _ _ _ _ (by kernel_rfl)
theorem aGw (x0 : PV) : aAj x0=bd (PV.len x0) fun v0=>bd (PV.zeros 16 (.agg [(.int .i64 0),(.int .i64 0)]) v0) fun v1=>bd (PV.bin .leq v0 v0) fun v2=>PV.ite v2 (bd (PV.zeros 16 (.agg [(.int .i64 0),(.int .i64 0)]) v0) fun v3=>oH x0 (.int .i64 0) v3) (none):=bS _ _ _ _ (by kernel_rfl)
theorem uK (x0 x1 x2 : PV) : oH x0 x1 x2=bd (PV.len x0) fun v0=>bd (PV.bin .lss x1 v0) fun v1=>PV.ite v1 (bd (PV.at_ 2 true x0 x1) fun v2=>bd (aBZ v2) fun r3=>bd (PV.inb x2 x1) fun v4=>bd (PV.setAt 2 true x2 x1 (hd r3)) fun v5=>bd (PV.bin .add x1 (.int .i64 1)) fun v6=>oH x0 v6 v5) (some [x2]):=aY _ _ _ _ _ _ _ _ (by kernel_rfl)
theorem aHo (x0 : PV) : aBZ x0=bd (PV.whole 2 x0) fun v0=>bd (PV.cell v0 0) fun v1=>bd (PV.cell v0 1) fun v2=>bd (PV.one v1) fun v3=>bd (PV.one v2) fun v4=>some [(.agg [v3,v4])]:=aK _ _ _ (by kernel_rfl)
theorem aAo (x0 : PV) : oI x0=bd (PV.whole 4 x0) fun v0=>bd (PV.cell v0 0) fun v1=>bd (PV.cell v0 1) fun v2=>bd (PV.cell v0 2) fun v3=>bd (PV.cell v0 3) fun v4=>bd (PV.cat 3 32 true (.lst []) v3) fun v5=>bd (PV.cat 3 32 true (.lst []) v4) fun v6=>some [v1,v2,v5,v6]:=bS _ _ _ _ (by kernel_rfl)
theorem aA9 (x0 : PV) : pF x0=iK x0 (.int .i64 0) (.lst []):=bS _ _ _ _ (by kernel_rfl)
theorem oM (x0 x1 x2 : PV) : iK x0 x1 x2=bd (PV.len x0) fun v0=>bd (PV.bin .lss x1 v0) fun v1=>PV.ite v1 (bd (PV.at_ 1 true x0 x1) fun v2=>bd (PV.cell v2 0) fun v3=>bd (PV.cat 3 32 true (.lst []) v3) fun v4=>bd (PV.cat 1 24 true x2 (.lst [(.agg [v4])])) fun v5=>bd (PV.bin .add x1 (.int .i64 1)) fun v6=>iK x0 v6 v5) (some [x2]):=aY _ _ _ _ _ _ _ _ (by kernel_rfl)
theorem aBa (x0 x1 x2 x3 x4 x5 x6 x7 x8 x9 x10 x11 x12 x13 : PV) : gC x0 x1 x2 x3 x4 x5 x6 x7 x8 x9 x10 x11 x12 x13=bd (PV.whole 3 x0) fun v0=>bd (PV.cell v0 0) fun v1=>bd (PV.cell v0 1) fun v2=>bd (PV.cell v0 2) fun v3=>bd (dY x1 x2 x3 x4 x5 x6 x7 x8 x9 x10 x11 x12 x13) fun r4=>bd (PV.at_ 4 true (gd r4 11) (gd r4 0)) fun v5=>bd (PV.at_ 4 true (gd r4 11) (gd r4 0)) fun v6=>
 bd (PV.cell v6 3) fun v7=>bd (PV.at_ 4 true (gd r4 11) (gd r4 0)) fun v8=>bd (PV.cell v8 3) fun v9=>bd (PV.setCell 4 (gd r4 11) (gd r4 0) 3 .hole) fun v10=>bd (PV.cat 3 32 true v7 (.lst [(.agg [v1,v2,v3])])) fun v11=>bd (PV.setCell 4 v10 (gd r4 0) 3 v11) fun v12=>some [(gd r4 1),(gd r4 2),(gd r4 3),(gd r4 4),(gd r4 5),(gd r4 6),(gd r4 7),(gd r4 8),(gd r4 9),(gd r4 10),v12,(gd r4 12),(gd r4 13)]:=bS _ _ _ _ (by kernel_rfl)
theorem xK (x0 x1 x2 x3 x4 x5 x6 x7 x8 x9 x10 x11 x12 x13 x14 x15 : PV) : bI x0 x1 x2 x3 x4 x5 x6 x7 x8 x9 x10 x11 x12 x13 x14 x15=bd (dY x3 x4 x5 x6 x7 x8 x9 x10 x11 x12 x13 x14 x15) fun r0=>bd (PV.at_ 4 true (gd r0 11) (gd r0 0)) fun v1=>bd (PV.at_ 4 true (gd r0 11) (gd r0 0)) fun v2=>bd (PV.cell v2 3) fun v3=>bd (PV.at_ 4 true (gd r0 11) (gd r0 0)) fun v4=>
 bd (PV.cell v4 3) fun v5=>bd (PV.setCell 4 (gd r0 11) (gd r0 0) 3 .hole) fun v6=>bd (PV.cat 3 32 true v3 (.lst [(.agg [x0,x1,x2])])) fun v7=>bd (PV.setCell 4 v6 (gd r0 0) 3 v7) fun v8=>some [(gd r0 1),(gd r0 2),(gd r0 3),(gd r0 4),(gd r0 5),(gd r0 6),(gd r0 7),(gd r0 8),(gd r0 9),(gd r0 10),v8,(gd r0 12),(gd r0 13)]:=bS _ _ _ _ (by kernel_rfl)
theorem aCi (x0 x1 x2 x3 x4 x5 x6 x7 x8 x9 x10 x11 x12 : PV) : aV x0 x1 x2 x3 x4 x5 x6 x7 x8 x9 x10 x11 x12=bd (dY x0 x1 x2 x3 x4 x5 x6 x7 x8 x9 x10 x11 x12) fun r0=>bd (PV.at_ 4 true (gd r0 11) (gd r0 0)) fun v1=>bd (PV.at_ 4 true (gd r0 11) (gd r0 0)) fun v2=>bd (PV.at_ 4 true (gd r0 11) (gd r0 0)) fun v3=>bd (PV.cell v3 3) fun v4=>bd (PV.len v4) fun v5=>
 bd (PV.bin .sub v5 (.int .i64 1)) fun v6=>bd (PV.at_ 4 true (gd r0 11) (gd r0 0)) fun v7=>bd (PV.cell v7 3) fun v8=>bd (PV.inb v8 v6) fun v9=>bd (PV.at_ 4 true (gd r0 11) (gd r0 0)) fun v10=>bd (PV.cell v10 3) fun v11=>bd (PV.at_ 3 true v11 v6) fun v12=>bd (PV.whole 3 v12) fun v13=>bd (PV.cell v13 0) fun v14=>bd (PV.cell v13 1) fun v15=>bd (PV.cell v13 2) fun v16=>bd (PV.at_ 4 true (gd r0 11) (gd r0 0)) fun v17=>
 bd (PV.at_ 4 true (gd r0 11) (gd r0 0)) fun v18=>bd (PV.at_ 4 true (gd r0 11) (gd r0 0)) fun v19=>bd (PV.cell v19 3) fun v20=>bd (PV.len v20) fun v21=>bd (PV.bin .sub v21 (.int .i64 1)) fun v22=>bd (PV.at_ 4 true (gd r0 11) (gd r0 0)) fun v23=>bd (PV.cell v23 3) fun v24=>bd (PV.cut 3 true v24 (.int .i64 0) v22) fun v25=>bd (PV.at_ 4 true (gd r0 11) (gd r0 0)) fun v26=>bd (PV.cell v26 3) fun v27=>
 bd (PV.cut 3 true v27 (.int .i64 0) v22) fun v28=>bd (PV.at_ 4 true (gd r0 11) (gd r0 0)) fun v29=>bd (PV.cell v29 3) fun v30=>bd (PV.setCell 4 (gd r0 11) (gd r0 0) 3 .hole) fun v31=>bd (PV.setCell 4 v31 (gd r0 0) 3 v28) fun v32=>some [(.agg [v14,v15,v16]),(gd r0 1),(gd r0 2),(gd r0 3),(gd r0 4),(gd r0 5),(gd r0 6),(gd r0 7),(gd r0 8),(gd r0 9),(gd r0 10),v32,(gd r0 12),(gd r0 13)]:=bS _ _ _ _ (by kernel_rfl)
theorem aBb (x0 x1 x2 x3 x4 x5 x6 x7 x8 x9 x10 x11 x12 x13 x14 : PV) : lQ x0 x1 x2 x3 x4 x5 x6 x7 x8 x9 x10 x11 x12 x13 x14=bd (PV.at_ 3 true x3 x0) fun v0=>bd (PV.whole 3 v0) fun v1=>bd (PV.cell v1 0) fun v2=>bd (PV.cell v1 1) fun v3=>bd (PV.cell v1 2) fun v4=>bd (PV.len x12) fun v5=>bd (PV.bin .eql v5 (.int .i64 24)) fun v6=>PV.ite v6 (some [x2,x3,x4,x5,x6,x7,x8,x9,x10,(.int .i64 6),x12,x13,x14])
 (bd (PV.zeros 32 (.agg [(.int .i64 0),(.int .i64 0),(.str (bs []))]) v3) fun v7=>bd (PV.bin .leq v3 v3) fun v8=>PV.ite v8 (bd (PV.zeros 32 (.agg [(.int .i64 0),(.int .i64 0),(.str (bs []))]) v3) fun v9=>bd (PV.bin .sub v2 (.int .i64 1)) fun v10=>iL x0 x1 v10 x2 x3 x4 x5 x6 x7 x8 x9 x10 x11 x12 x13 x14 v9) (none)):=bS _ _ _ _ (by kernel_rfl)
theorem oN (x0 x1 x2 x3 x4 x5 x6 x7 x8 x9 x10 x11 x12 x13 x14 x15 x16 : PV) : iL x0 x1 x2 x3 x4 x5 x6 x7 x8 x9 x10 x11 x12 x13 x14 x15 x16=bd (PV.bin .geq x2 (.int .i64 0)) fun v0=>PV.ite v0 (bd (aV x3 x4 x5 x6 x7 x8 x9 x10 x11 x12 x13 x14 x15) fun r1=>bd (PV.inb x16 x2) fun v2=>bd (PV.setAt 3 true x16 x2 (gd r1 0)) fun v3=>bd (PV.bin .sub x2 (.int .i64 1)) fun v4=>
 iL x0 x1 v4 (gd r1 1) (gd r1 2) (gd r1 3) (gd r1 4) (gd r1 5) (gd r1 6) (gd r1 7) (gd r1 8) (gd r1 9) (gd r1 10) (gd r1 11) (gd r1 12) (gd r1 13) v3) (PV.ite x1 (bd (aV x3 x4 x5 x6 x7 x8 x9 x10 x11 x12 x13 x14 x15) fun r5=>hU x0 (gd r5 1) (gd r5 2) (gd r5 3) (gd r5 4) (gd r5 5) (gd r5 6) (gd r5 7) (gd r5 8) (gd r5 9) (gd r5 10) (gd r5 11) (gd r5 12) (gd r5 13) x16)
 (hU x0 x3 x4 x5 x6 x7 x8 x9 x10 x11 x12 x13 x14 x15 x16)):=aY _ _ _ _ _ _ _ _ (by kernel_rfl)
theorem vW (x0 x1 x2 x3 x4 x5 x6 x7 x8 x9 x10 x11 x12 x13 x14 : PV) : hU x0 x1 x2 x3 x4 x5 x6 x7 x8 x9 x10 x11 x12 x13 x14=bd (PV.one x0) fun v0=>bd (PV.cat 4 64 true x11 (.lst [(.agg [v0,(.int .i64 0),x14,(.lst [])])])) fun v1=>some [x1,x2,x3,x4,x5,x6,x7,x8,x9,x10,v1,x12,x13]:=aY _ _ _ _ _ _ _ _ (by kernel_rfl)
theorem aE7 (x0 x1 x2 : PV) : xJ x0 x1 x2=bd (PV.whole 2 x0) fun v0=>bd (PV.cell v0 0) fun v1=>bd (PV.cell v0 1) fun v2=>bd (PV.at_ 3 true v2 x1) fun v3=>bd (PV.cell v3 1) fun v4=>bd (PV.len x2) fun v5=>bd (PV.bin .sub v4 v5) fun v6=>bd (aAN v6) fun r7=>PV.guardOwn (.own 3 32 true []) (gd r7 0) (bd (PV.cat 1 24 false (.lst []) (.lst [x2,(gd r7 0)])) fun v8=>
 bd (dA v8) fun r9=>PV.guardOwn (.own 3 32 true []) (gd r9 0) (bd (PV.one x1) fun v10=>some [v10,(.int .i64 0),(gd r9 0),(.lst [])])):=bS _ _ _ _ (by kernel_rfl)
theorem lS (x0 : PV) : bX x0=bd (PV.isLst x0) fun v0=>PV.nilT v0 (some [(.lst [])]) (bd (PV.cat 3 32 true (.lst []) x0) fun v1=>some [v1]):=bS _ _ _ _ (by kernel_rfl)
theorem aIz (x0 : PV) : aAN x0=bd (PV.zeros 32 (.agg [(.int .i64 0),(.int .i64 0),(.str (bs []))]) x0) fun v0=>bd (PV.bin .leq x0 x0) fun v1=>PV.ite v1 (bd (PV.zeros 32 (.agg [(.int .i64 0),(.int .i64 0),(.str (bs []))]) x0) fun v2=>some [v2]) (none):=bS _ _ _ _ (by kernel_rfl)
theorem aDY (x0 x1 x2 x3 x4 x5 x6 x7 x8 x9 x10 x11 : PV) : pQ x0 x1 x2 x3 x4 x5 x6 x7 x8 x9 x10 x11=bd (PV.whole 3 x0) fun v0=>bd (PV.cell v0 0) fun v1=>bd (PV.cell v0 1) fun v2=>bd (PV.cell v0 2) fun v3=>bd (PV.bin .neq v1 (.int .i64 4)) fun v4=>PV.ite v4 (some [.nil,.nil,(.int .i64 1),x2,x3,x4,x5,x6,x7,x8,x9,x10,x11]) (bd (PV.inb x10 v2) fun v5=>bd (PV.at_ 1 true x10 v2) fun v6=>
 bd (PV.at_ 1 true x10 v2) fun v7=>bd (PV.cell v7 0) fun v8=>bd (PV.len v8) fun v9=>bd (PV.bin .geq x1 v9) fun v10=>PV.ite v10 (some [.nil,.nil,(.int .i64 4),x2,x3,x4,x5,x6,x7,x8,x9,x10,x11]) (bd (PV.inb x10 v2) fun v11=>bd (PV.at_ 1 true x10 v2) fun v12=>bd (PV.at_ 1 true x10 v2) fun v13=>bd (PV.cell v13 0) fun v14=>bd (PV.inb v14 x1) fun v15=>some [v2,x1,(.int .i64 0),x2,x3,x4,x5,x6,x7,x8,x9,x10,x11])):=bS _ _ _ _ (by kernel_rfl)
theorem aCZ (x0 x1 x2 x3 x4 x5 x6 x7 x8 x9 x10 : PV) : sQ x0 x1 x2 x3 x4 x5 x6 x7 x8 x9 x10=bd (PV.whole 3 x0) fun v0=>bd (PV.cell v0 0) fun v1=>bd (PV.cell v0 1) fun v2=>bd (PV.cell v0 2) fun v3=>bd (PV.len x8) fun v4=>bd (PV.bin .sub v4 (.int .i64 1)) fun v5=>bd (PV.cut 4 true x8 (.int .i64 0) v5) fun v6=>bd (PV.cut 4 true x8 (.int .i64 0) v5) fun v7=>bd (PV.bin .eql v5 (.int .i64 0)) fun v8=>
 PV.ite v8 (some [x1,(.int .i64 1),x3,v1,v2,v3,x7,v7,x9,x10]) (bd (PV.bin .sub v5 (.int .i64 1)) fun v9=>bd (PV.inb v7 v9) fun v10=>bd (PV.at_ 4 true v7 v9) fun v11=>bd (PV.at_ 4 true v7 v9) fun v12=>bd (PV.cell v12 3) fun v13=>bd (PV.at_ 4 true v7 v9) fun v14=>bd (PV.cell v14 3) fun v15=>bd (PV.setCell 4 v7 v9 3 .hole) fun v16=>bd (PV.cat 3 32 true v13 (.lst [(.agg [v1,v2,v3])])) fun v17=>
 bd (PV.setCell 4 v16 v9 3 v17) fun v18=>some [x1,x2,x3,x4,x5,x6,x7,v18,x9,x10]):=bS _ _ _ _ (by kernel_rfl)
theorem lV (x0 : PV) : eL x0=sA 32 [.nils,.p x0] ⟨[],[],0,0,0⟩:=bS _ _ _ _ (by kernel_rfl)
end
end Go.Proofs.YthkofpnllaapeaaGreatDoor

namespace Go.Proofs.YthkofpnllaapeaaGreatDoor
noncomputable section
open Go
attribute [local irreducible] bd PV.ite PV.guardFlat PV.guardOwn PV.whole PV.one PV.cell PV.sub PV.at_ PV.len PV.slen PV.chr PV.beq PV.peq PV.ceq PV.bin PV.neg PV.not PV.conv PV.cut PV.scut PV.cat PV.setAt PV.setCell PV.ncopy PV.copyIn PV.zeros PV.toStr PV.toBytes PV.deref PV.isPtr PV.comp PV.inb PV.off PV.imin PV.imax PV.sel PV.apply PV.isLst PV.isInt PV.ix PV.nilT
def Bts (l : List Int) : Prop:=(∀ x∈l,0≤x∧x≤255)∧l.length≤1048576
def aP1 (l : List Int) (n a : Int) (r : R) : Prop:=∃ v a' s' : Int,r = [.int .i64 v,wR l,.int .i64 a',.int .i64 s']∧0≤v∧(v<n∨v=0)∧a≤a'∧a'≤a+1∧0≤s'∧s'<65521
section
variable {P : R → Prop} {k : R → Option R} {l : List Int} {a s : Int}
end
structure bM where
 o : Int
 a : Int
 deriving DecidableEq
structure cD where
 p : Int
 lc : Int
 code : List bM
 deriving DecidableEq
structure eM where
 texts : List ByteArray
 funcs : List cD
def bM.pv (x : bM) : PV:=.agg [.int .i64 x.o,.int .i64 x.a]
def cD.pv (f : cD) : PV:=.agg [.int .i64 f.p,.int .i64 f.lc,.lst (f.code.map bM.pv)]
def eM.pv (m : eM) : PV:=.agg [.lst (m.texts.map PV.str),.lst (m.funcs.map cD.pv)]
def jM (n lo hi : Int) : Bool:=decide (lo≤n)&&decide (n≤hi)
def chB (c : UInt8) : Bool:=!(decide ((c.toNat : Int)<32))&&(!(decide ((126 : Int)<c.toNat))&&!(decide ((c.toNat : Int)=34)))
def cY (s : ByteArray) : Bool:=decide ((s.size : Int)≤60)&&s.data.toList.all chB
def cC (nt nf lc nc o a : Int) : Bool:=
 if o=1 then jM a (-1000000000) 1000000000 else if o=2 then jM a 0 1 else if o=3 then jM a 0 (nt - 1) else if o=5 then jM a 0 (nf - 1) else if o=24 then jM a 0 (nf - 1)
 else if o=6 then jM a 0 (lc - 1) else if o=7 then jM a 0 (lc - 1) else if o=17 then jM a 0 (nc - 1) else if o=18 then jM a 0 (nc - 1) else if o=19 then jM a 0 (nc - 1)
 else if o=20 then jM a 0 6 else if o=21 then jM a 0 5 else if o=22 then jM a 0 5 else if o=23 then jM a 0 6 else jM o 1 26&&decide (a=0)
def tC (nt nf : Int) (f : cD) : Bool:=jM f.p 0 6&&(jM f.lc f.p 12&&(jM f.code.length 1 120&&f.code.all fun x=>cC nt nf f.lc f.code.length x.o x.a))
def eM.okB (m : eM) : Bool:=jM m.funcs.length 1 12&&(decide ((m.texts.length : Int)≤20)&&(m.texts.all cY&&m.funcs.all (tC m.texts.length m.funcs.length)))
def eM.sized (m : eM) : Prop:=m.texts.length≤2097152∧m.funcs.length≤2097152∧(∀ t∈m.texts,t.size≤2097152)∧∀ f∈m.funcs,f.code.length≤1000000000
section
variable {P : R → Prop} {k : PV → Option R} {α : Type} {f : α → PV} {xs : List α}
theorem aS {s : Nat} {g : Bool} {kk : IntKind} {i : Nat} (hi : i<xs.length) (hel : ∀ a,(f a).isEl s g=true) (h : Ok P (k (f xs[i]))) : Ok P (bd (PV.at_ s g (.lst (xs.map f)) (.int kk (i : Int))) k):=by
 refine aM8 (by omega) (by rw [List.length_map];omega) (fun x hx=>?_) (fun x _ hx=>?_)
 ·obtain ⟨a,_,rfl⟩:=List.mem_map.1 hx;exact hel a
 ·rw [Int.toNat_natCast,List.getElem?_map,List.getElem?_eq_getElem hi] at hx
  cases hx
  exact h
theorem aE (h : Ok P (k (.int .i64 xs.length))) : Ok P (bd (PV.len (.lst (xs.map f))) k):=by
 refine bJ ?_
 rw [List.length_map]
 exact h
theorem aOY {s : ByteArray} {i : Nat} (hi : i<s.data.toList.length) : s[i]? = some s.data.toList[i]:=by
 have h : i<s.size:=by
  have e : s.size=s.data.toList.length:=by rw [Array.length_toList];rfl
  rw [e];exact hi
 rw [getElem?_pos s i h,Array.getElem_toList]
 rfl
theorem aDZ {s : ByteArray} {kk : IntKind} {i : Nat} (hi : i<s.data.toList.length) (h : Ok P (k (.int .u8 (s.data.toList[i].toNat : Int)))) : Ok P (bd (PV.chr (.str s) (.int kk (i : Int))) k):=by
 refine dB _ ?_ h
 simp only [PV.chr]
 rw [if_pos (by omega),Int.toNat_natCast,aOY hi]
theorem eA {k : R→Option R} {n lo hi : Int} (h : Ok P (k [.bool (jM n lo hi)])) : Ok P (bd (cA (.int .i64 n) (.int .i64 lo) (.int .i64 hi)) k):=by
 refine aH (Q:=fun r=>r = [.bool (jM n lo hi)]) ?_ (fun r hr=>by rw [hr];exact h)
 rw [aES]
 refine jF (aC (fun h1=>jF (aB ?_)) (fun h1=>aB ?_))
 ·simp [jM,h1]
 ·simp [jM,h1]
theorem dI {k : R→Option R} {n lo hi : Int} (h : Ok P (k [.bool (jM n lo hi)])) : Ok P (bd (aM (.int .i64 n) (.int .i64 lo) (.int .i64 hi)) k):=by
 refine aH (Q:=fun r=>r = [.bool (jM n lo hi)]) ?_ (fun r hr=>by rw [hr];exact h)
 rw [aB2]
 refine nW (aC (fun h1=>jF (aB ?_)) (fun h1=>aB ?_))
 ·simp [jM,h1]
 ·simp [jM,h1]
theorem eW {k : R→Option R} {n m : Int} (hm : -1000000000≤m∧m≤1000000000) (h : Ok P (k [.bool (jM n 0 (m - 1))])) : Ok P (bd (cK (.int .i64 n) (.int .i64 m)) k):=by
 refine aH (Q:=fun r=>r = [.bool (jM n 0 (m - 1))]) ?_ (fun r hr=>by rw [hr];exact h)
 rw [aEU]
 exact bN (by omega) (eA (aB rfl))
theorem aM9 {k : R→Option R} {n : Int} (h : Ok P (k [.bool (jM n (-1000000000) 1000000000)])) : Ok P (bd (kT (.int .i64 n)) k):=by
 refine aH (Q:=fun r=>r = [.bool (jM n (-1000000000) 1000000000)]) ?_ (fun r hr=>by rw [hr];exact h)
 rw [aBo]
 exact eA (aB rfl)
end
theorem vX {α : Type} {xs : List α} {i : Nat} (hi : i<xs.length) (p : α→Bool) : (xs.drop i).all p=(p xs[i]&&(xs.drop (i+1)).all p):=by
 rw [List.drop_eq_getElem_cons hi,List.all_cons]
theorem aOI {c : UInt8} (h : (c.toNat : Int)<32) : chB c=false:=by unfold chB;rw [decide_eq_true h];rfl
theorem aOJ {c : UInt8} (h : (126 : Int)<c.toNat) : chB c=false:=by unfold chB;rw [decide_eq_true h];simp
theorem aOK {c : UInt8} (h : (c.toNat : Int)=34) : chB c=false:=by unfold chB;rw [decide_eq_true h];simp
theorem aGx {s : ByteArray} (hs : s.size≤2097152) : ∀ (j i : Nat),s.data.toList.length - i=j→i≤s.data.toList.length→
 Ok (fun r=>r = [.bool ((s.data.toList.drop i).all chB)]) (mK (.str s) (.int .i64 i)):=by
 have hsz : s.size=s.data.toList.length:=by rw [Array.length_toList];rfl
 intro j
 induction j with
 | zero=>
   intro i h1 h2
   have : i=s.data.toList.length:=by omega
   rw [sV]
   refine nX (aF (aC (fun h=>by omega) (fun _=>aB ?_)))
   rw [this,List.drop_length];rfl
 | succ j ih=>
   intro i h1 h2
   have hi : i<s.data.toList.length:=by omega
   rw [sV,vX hi]
   refine nX (aF (aC (fun _=>?_) (fun h=>by omega)))
   refine aDZ hi (aF (aC (fun h=>aB (by rw [aOI h];rfl)) (fun h3=>?_)))
   refine aDZ hi (gE (aC (fun h=>aB (by rw [aOJ h];rfl)) (fun h4=>?_)))
   refine aDZ hi (aG (aC (fun h=>aB (by rw [aOK h];rfl)) (fun h5=>?_)))
   refine aN (by omega) ((ih (i+1) (by omega) (by omega)).mono ?_)
   rintro r rfl
   have : chB s.data.toList[i]=true:=by unfold chB;rw [decide_eq_false h3,decide_eq_false h4,decide_eq_false h5];rfl
   rw [this,Bool.true_and]
theorem aFf {P : R→Prop} {k : R→Option R} {s : ByteArray} (hs : s.size≤2097152) (h : Ok P (k [.bool (cY s)])) : Ok P (bd (lI (.str s)) k):=by
 refine aH (Q:=fun r=>r = [.bool (cY s)]) ?_ (fun r hr=>by rw [hr];exact h)
 rw [aEP]
 refine nX (gE (aC (fun h=>aB ?_) (fun h=>?_)))
 ·have : ¬ ((s.size : Int)≤60):=by omega
  simp [cY,this]
 ·refine (aGx hs _ 0 rfl (by omega)).mono ?_
  rintro r rfl
  have : (s.size : Int)≤60:=by omega
  rw [List.drop_zero]
  simp [cY,this]
theorem aGy {s : ByteArray} (hs : s.size≤2097152) : ∀ (j i : Nat),s.data.toList.length - i=j→i≤s.data.toList.length→
 Ok (fun r=>r = [.bool (decide ((s.size : Int)≤60)&&(s.data.toList.drop i).all chB)]) (oC (.str s) (.int .i64 s.size) (.int .i64 i)):=by
 have hsz : s.size=s.data.toList.length:=by rw [Array.length_toList];rfl
 intro j
 induction j with
 | zero=>
   intro i h1 h2
   have : i=s.data.toList.length:=by omega
   rw [uH]
   refine aF (aC (fun h=>by omega) (fun _=>nX (jF (aB ?_))))
   rw [this,List.drop_length]
   simp
 | succ j ih=>
   intro i h1 h2
   have hi : i<s.data.toList.length:=by omega
   rw [uH,vX hi]
   refine aF (aC (fun _=>?_) (fun h=>by omega))
   refine aDZ hi (aF (aC (fun h=>aB (by rw [aOI h];simp)) (fun h3=>?_)))
   refine aDZ hi (gE (aC (fun h=>aB (by rw [aOJ h];simp)) (fun h4=>?_)))
   refine aDZ hi (aG (aC (fun h=>aB (by rw [aOK h];simp)) (fun h5=>?_)))
   refine aN (by omega) ((ih (i+1) (by omega) (by omega)).mono ?_)
   rintro r rfl
   have : chB s.data.toList[i]=true:=by unfold chB;rw [decide_eq_false h3,decide_eq_false h4,decide_eq_false h5];rfl
   rw [this,Bool.true_and]
theorem aAO {s : ByteArray} (hs : s.size≤2097152) : Ok (fun r=>r = [.bool (cY s)]) (nH (.str s)):=by
 rw [aGm]
 refine nX ((aGy hs _ 0 rfl (by omega)).mono ?_)
 rintro r rfl
 rw [List.drop_zero]
 rfl
theorem aNa {ts : List ByteArray} {fs : List cD} {i : Nat} {x : bM} (ht : ts.length≤2097152) (hf : fs.length≤2097152) (hi : i<fs.length) (hlc : 0≤fs[i].lc∧fs[i].lc≤12) (hc : fs[i].code.length≤1000) :
 Ok (fun r=>r = [.bool (cC ts.length fs.length fs[i].lc fs[i].code.length x.o x.a)]) (aBN (.agg [.lst (ts.map PV.str),.lst (fs.map cD.pv)]) (.int .i64 i) x.pv):=by
 rw [aHa]
 refine aD rfl (aA rfl (aA rfl (aD rfl (aA rfl (aA rfl ?_)))))
 refine aE (bN (by omega) (dI (bH ?_)))
 have hb : jM (i : Int) 0 ((fs.length : Int) - 1)=true:=by
  simp only [jM,Bool.and_eq_true,decide_eq_true_eq]
  omega
 rw [hb]
 refine aP ?_
 refine aG (aC (fun h=>dI (aB (by simp [hd,cC,h]))) (fun h1=>?_))
 refine aG (aC (fun h=>dI (aB (by simp [hd,cC,h]))) (fun h2=>?_))
 refine aG (aC (fun h=>aE (bN (by omega) (dI (aB (by simp [hd,cC,h]))))) (fun h3=>?_))
 refine aG (aC (fun h=>aE (bN (by omega) (dI (aB (by simp [hd,cC,h]))))) (fun h5=>?_))
 refine aG (aC (fun h=>aE (bN (by omega) (dI (aB (by simp [hd,cC,h]))))) (fun h24=>?_))
 refine aG (aC (fun h=>aS hi (fun _=>rfl) (aA rfl (bN (by omega) (dI (aB (by simp [hd,cC,h])))))) (fun h6=>?_))
 refine aG (aC (fun h=>aS hi (fun _=>rfl) (aA rfl (bN (by omega) (dI (aB (by simp [hd,cC,h])))))) (fun h7=>?_))
 refine aG (aC (fun h=>aS hi (fun _=>rfl) (aA rfl (aE (bN (by omega) (dI (aB (by simp [hd,cC,h]))))))) (fun h17=>?_))
 refine aG (aC (fun h=>aS hi (fun _=>rfl) (aA rfl (aE (bN (by omega) (dI (aB (by simp [hd,cC,h]))))))) (fun h18=>?_))
 refine aG (aC (fun h=>aS hi (fun _=>rfl) (aA rfl (aE (bN (by omega) (dI (aB (by simp [hd,cC,h]))))))) (fun h19=>?_))
 refine aG (aC (fun h=>dI (aB (by simp [hd,cC,h]))) (fun h20=>?_))
 refine aG (aC (fun h=>dI (aB (by simp [hd,cC,h]))) (fun h21=>?_))
 refine aG (aC (fun h=>dI (aB (by simp [hd,cC,h]))) (fun h22=>?_))
 refine aG (aC (fun h=>dI (aB (by simp [hd,cC,h]))) (fun h23=>?_))
 refine dI (aZ (fun hb=>aG (aB (by simp [hd,cC,hb,h1,h2,h3,h5,h24,h6,h7,h17,h18,h19,h20,h21,h22,h23]))) (fun hb=>aB (by simp [hd,cC,hb,h1,h2,h3,h5,h24,h6,h7,h17,h18,h19,h20,h21,h22,h23])))
theorem aNb {ts : List ByteArray} {fs : List cD} {f : cD} {x : bM} (ht : ts.length≤2097152) (hf : fs.length≤2097152) (hlc : 0≤f.lc∧f.lc≤12) (hc : f.code.length≤1000) :
 Ok (fun r=>r = [.bool (cC ts.length fs.length f.lc f.code.length x.o x.a)]) (aBO (.agg [.lst (ts.map PV.str),.lst (fs.map cD.pv)]) f.pv x.pv):=by
 rw [aHb]
 refine aD rfl (aA rfl (aA rfl (aD rfl (aA rfl (aA rfl (aA rfl (aD rfl (aA rfl (aA rfl ?_)))))))))
 refine aG (aC (fun h=>aM9 (aB (by simp [hd,cC,h]))) (fun h1=>?_))
 refine aG (aC (fun h=>eA (aB (by simp [hd,cC,h]))) (fun h2=>?_))
 refine aG (aC (fun h=>aE (eW (by omega) (aB (by simp [hd,cC,h])))) (fun h3=>?_))
 refine aG (aC (fun h=>aE (eW (by omega) (aB (by simp [hd,cC,h])))) (fun h5=>?_))
 refine aG (aC (fun h=>aE (eW (by omega) (aB (by simp [hd,cC,h])))) (fun h24=>?_))
 refine aG (aC (fun h=>eW (by omega) (aB (by simp [hd,cC,h]))) (fun h6=>?_))
 refine aG (aC (fun h=>eW (by omega) (aB (by simp [hd,cC,h]))) (fun h7=>?_))
 refine aG (aC (fun h=>aE (eW (by omega) (aB (by simp [hd,cC,h])))) (fun h17=>?_))
 refine aG (aC (fun h=>aE (eW (by omega) (aB (by simp [hd,cC,h])))) (fun h18=>?_))
 refine aG (aC (fun h=>aE (eW (by omega) (aB (by simp [hd,cC,h])))) (fun h19=>?_))
 refine aG (aC (fun h=>eA (aB (by simp [hd,cC,h]))) (fun h20=>?_))
 refine aG (aC (fun h=>eW (by omega) (aB (by simp [hd,cC,h]))) (fun h21=>?_))
 refine aG (aC (fun h=>eW (by omega) (aB (by simp [hd,cC,h]))) (fun h22=>?_))
 refine aG (aC (fun h=>eA (aB (by simp [hd,cC,h]))) (fun h23=>?_))
 refine eA (aZ (fun hb=>aG (aB (by simp [hd,cC,hb,h1,h2,h3,h5,h24,h6,h7,h17,h18,h19,h20,h21,h22,h23]))) (fun hb=>aB (by simp [hd,cC,hb,h1,h2,h3,h5,h24,h6,h7,h17,h18,h19,h20,h21,h22,h23])))
section
variable {ts : List ByteArray} {fs : List cD} (ht : ts.length ≤ 2097152) (hf : fs.length ≤ 2097152)
include ht hf
theorem aIA {i : Nat} (hi : i<fs.length) (hlc : 0≤fs[i].lc∧fs[i].lc≤12) (hc : fs[i].code.length≤1000) {b : Bool} (hb : Ok (fun r=>r = [.bool b]) (iU (.int .i64 ((i : Int)+1)) (.lst (ts.map PV.str)) (.lst (fs.map cD.pv)))) :
 ∀ (j n : Nat),fs[i].code.length - n=j→n≤fs[i].code.length→
 Ok (fun r=>r = [.bool ((fs[i].code.drop n).all (fun x=>cC ts.length fs.length fs[i].lc fs[i].code.length x.o x.a)&&b)])
  (kF (.int .i64 i) (.int .i64 n) (.lst (ts.map PV.str)) (.lst (fs.map cD.pv)) (.int .i64 fs[i].p) (.int .i64 fs[i].lc) (.lst (fs[i].code.map bM.pv))):=by
 intro j
 induction j with
 | zero=>
   intro n h1 h2
   have : n=fs[i].code.length:=by omega
   rw [pV]
   refine aE (aF (aC (fun h=>by omega) (fun _=>aN (by omega) ?_)))
   rw [this,List.drop_length]
   exact hb
 | succ j ih=>
   intro n h1 h2
   have hn : n<fs[i].code.length:=by omega
   rw [pV,vX hn]
   refine aE (aF (aC (fun _=>?_) (fun h=>by omega)))
   refine aS hn (fun _=>rfl) (aH (aNa ht hf hi hlc hc) (fun r hr=>?_))
   subst hr
   refine bH (aZ (fun h=>aB ?_) (fun h=>?_))
   ·have : cC ts.length fs.length fs[i].lc fs[i].code.length fs[i].code[n].o fs[i].code[n].a=false:=by simpa using h
    rw [this];rfl
   ·have : cC ts.length fs.length fs[i].lc fs[i].code.length fs[i].code[n].o fs[i].code[n].a=true:=by simpa using h
    rw [this,Bool.true_and]
    exact aN (by omega) (ih (n+1) (by omega) (by omega))
theorem aIB : ∀ (j i : Nat),fs.length - i=j→i≤fs.length→
 Ok (fun r=>r = [.bool ((fs.drop i).all (tC ts.length fs.length))]) (iU (.int .i64 i) (.lst (ts.map PV.str)) (.lst (fs.map cD.pv))):=by
 intro j
 induction j with
 | zero=>
   intro i h1 h2
   have : i=fs.length:=by omega
   rw [qZ]
   refine aE (aF (aC (fun h=>by omega) (fun _=>aB ?_)))
   rw [this,List.drop_length];rfl
 | succ j ih=>
   intro i h1 h2
   have hi : i<fs.length:=by omega
   rw [qZ,vX hi]
   refine aE (aF (aC (fun _=>?_) (fun h=>by omega)))
   refine aS hi (fun _=>rfl) (aD rfl (aA rfl (aA rfl (aA rfl ?_))))
   refine dI (bH (aZ (fun h=>aB ?_) (fun h1'=>?_)))
   ·have : jM fs[i].p 0 6=false:=by simpa using h
    simp [tC,this]
   refine dI (bH (aZ (fun h=>aB ?_) (fun h2'=>?_)))
   ·have : jM fs[i].lc fs[i].p 12=false:=by simpa using h
    simp [tC,this]
   refine aE (dI (bH (aZ (fun h=>aB ?_) (fun h3'=>?_))))
   ·have : jM (fs[i].code.length : Int) 1 120=false:=by simpa using h
    simp [tC,this]
   have g1 : jM fs[i].p 0 6=true:=by simpa using h1'
   have g2 : jM fs[i].lc fs[i].p 12=true:=by simpa using h2'
   have g3 : jM (fs[i].code.length : Int) 1 120=true:=by simpa using h3'
   have q1:=g1
   have q2:=g2
   have q3:=g3
   simp only [jM,Bool.and_eq_true,decide_eq_true_eq] at q1 q2 q3
   refine (aIA ht hf hi (by omega) (by omega) (ih (i+1) (by omega) (by omega)) _ 0 rfl (by omega)).mono ?_
   rintro r rfl
   rw [List.drop_zero]
   simp only [tC,g1,g2,g3,Bool.true_and]
theorem aHp (hs : ∀ t∈ts,t.size≤2097152) : ∀ (j i : Nat),ts.length - i=j→i≤ts.length→
 Ok (fun r=>r = [.bool ((ts.drop i).all cY&&fs.all (tC ts.length fs.length))]) (lJ (.int .i64 i) (.lst (ts.map PV.str)) (.lst (fs.map cD.pv))):=by
 intro j
 induction j with
 | zero=>
   intro i h1 h2
   have : i=ts.length:=by omega
   rw [qY]
   refine aE (aF (aC (fun h=>by omega) (fun _=>?_)))
   rw [this,List.drop_length]
   exact aIB ht hf _ 0 rfl (by omega)
 | succ j ih=>
   intro i h1 h2
   have hi : i<ts.length:=by omega
   rw [qY,vX hi]
   refine aE (aF (aC (fun _=>?_) (fun h=>by omega)))
   refine aS hi (fun _=>rfl) (aFf (hs _ (List.getElem_mem _)) (bH (aZ (fun h=>aB ?_) (fun h=>?_))))
   ·have : cY ts[i]=false:=by simpa using h
    rw [this];rfl
   ·have : cY ts[i]=true:=by simpa using h
    rw [this,Bool.true_and]
    exact aN (by omega) (ih (i+1) (by omega) (by omega))
end
theorem aHq {m : eM} (h : m.sized) : Ok (fun r=>r = [.bool m.okB]) (uV m.pv):=by
 obtain ⟨ht,hf,hs,_⟩:=h
 rw [aDN]
 refine aD rfl (aA rfl (aA rfl (aE (dI (bH (aZ (fun h=>aB ?_) (fun h1=>?_)))))))
 ·have : jM (m.funcs.length : Int) 1 12=false:=by simpa using h
  simp [eM.okB,this]
 refine aE (gE (aC (fun h=>aB ?_) (fun h2=>?_)))
 ·have : ¬ ((m.texts.length : Int)≤20):=by omega
  simp only [eM.okB,decide_eq_false this,Bool.false_and,Bool.and_false]
 have g1 : jM (m.funcs.length : Int) 1 12=true:=by simpa using h1
 have g2 : (m.texts.length : Int)≤20:=by omega
 refine (aHp ht hf hs _ 0 rfl (by omega)).mono ?_
 rintro r rfl
 rw [List.drop_zero]
 simp only [eM.okB,g1,decide_eq_true g2,Bool.true_and]
section
variable {P : R → Prop} {k : PV → Option R} {kr : R → Option R}
theorem aMc {f : Nat} {caps : List PV} {xs : List bM} (hx : xs.length≤1000000000) (p : bM→Bool) (hp : ∀ x∈xs,Ok (fun r=>r = [.bool (p x)]) (aL f ([x.pv]++caps))) : ∀ (j i : Nat),xs.length - i=j→i≤xs.length→
 Ok (fun r=>∃ n : Int,r = [.int .i64 n]∧(0≤n↔(xs.drop i).any p=true)) (cW (.lst (xs.map bM.pv)) (.fn f caps) (.int .i64 xs.length) (.int .i64 i)):=by
 intro j
 induction j with
 | zero=>
   intro i h1 h2
   have : i=xs.length:=by omega
   rw [eV]
   refine aF (aC (fun h=>by omega) (fun _=>aB ⟨-1,rfl,?_⟩))
   rw [this,List.drop_length]
   simp
 | succ j ih=>
   intro i h1 h2
   have hi : i<xs.length:=by omega
   rw [eV]
   refine aF (aC (fun _=>?_) (fun h=>by omega))
   refine aS hi (fun _=>rfl) (sJ rfl (hp _ (List.getElem_mem _)) (fun r hr=>?_))
   subst hr
   rw [List.drop_eq_getElem_cons hi,List.any_cons]
   refine aZ (fun h=>aB ⟨i,rfl,?_⟩) (fun h=>?_)
   ·rw [h];simp
   ·refine aN (by omega) ((ih (i+1) (by omega) (by omega)).mono ?_)
    rintro r ⟨n,hr,hn⟩
    exact ⟨n,hr,by rw [h,Bool.false_or];exact hn⟩
theorem aMd {f : Nat} {caps : List PV} {xs : List bM} (hx : xs.length≤1000000000) (p : bM→Bool) (hp : ∀ x∈xs,Ok (fun r=>r = [.bool (p x)]) (aL f ([x.pv]++caps))) (h : Ok P (kr [.bool (xs.any p)])) :
 Ok P (bd (dW (.lst (xs.map bM.pv)) (.fn f caps)) kr):=by
 refine aH (Q:=fun r=>r = [.bool (xs.any p)]) ?_ (fun r hr=>by rw [hr];exact h)
 rw [kD]
 refine aH (Q:=fun r=>∃ n : Int,r = [.int .i64 n]∧(0≤n↔xs.any p=true)) ?_ ?_
 ·rw [lR]
  refine aE ?_
  exact aMc hx p hp _ 0 rfl (by omega)
 ·rintro r ⟨n,rfl,hn⟩
  refine nW (aB ?_)
  have : decide (0≤n)=xs.any p:=by
   by_cases h : 0≤n
   ·rw [decide_eq_true h,hn.1 h]
   ·rw [decide_eq_false h]
    cases h2 : xs.any p with
    | false=>rfl
    | true=>exact absurd (hn.2 h2) h
  rw [this]
theorem aMe {f : Nat} {caps : List PV} {xs : List ByteArray} (hx : xs.length≤1000000000) (p : ByteArray→Bool) (hp : ∀ x∈xs,Ok (fun r=>r = [.bool (p x)]) (aL f ([.str x]++caps))) : ∀ (j i : Nat),xs.length - i=j→i≤xs.length→
 Ok (fun r=>∃ n : Int,r = [.int .i64 n]∧(0≤n↔(xs.drop i).any p=true)) (dL (.lst (xs.map PV.str)) (.fn f caps) (.int .i64 xs.length) (.int .i64 i)):=by
 intro j
 induction j with
 | zero=>
   intro i h1 h2
   have : i=xs.length:=by omega
   rw [fO]
   refine aF (aC (fun h=>by omega) (fun _=>aB ⟨-1,rfl,?_⟩))
   rw [this,List.drop_length]
   simp
 | succ j ih=>
   intro i h1 h2
   have hi : i<xs.length:=by omega
   rw [fO]
   refine aF (aC (fun _=>?_) (fun h=>by omega))
   refine aS hi (fun _=>rfl) (sJ rfl (hp _ (List.getElem_mem _)) (fun r hr=>?_))
   subst hr
   rw [List.drop_eq_getElem_cons hi,List.any_cons]
   refine aZ (fun h=>aB ⟨i,rfl,?_⟩) (fun h=>?_)
   ·rw [h];simp
   ·refine aN (by omega) ((ih (i+1) (by omega) (by omega)).mono ?_)
    rintro r ⟨n,hr,hn⟩
    exact ⟨n,hr,by rw [h,Bool.false_or];exact hn⟩
theorem aD0 {f : Nat} {caps : List PV} {xs : List ByteArray} (hx : xs.length≤1000000000) (p : ByteArray→Bool) (hp : ∀ x∈xs,Ok (fun r=>r = [.bool (p x)]) (aL f ([.str x]++caps))) (h : Ok P (kr [.bool (xs.any p)])) :
 Ok P (bd (dK (.lst (xs.map PV.str)) (.fn f caps)) kr):=by
 refine aH (Q:=fun r=>r = [.bool (xs.any p)]) ?_ (fun r hr=>by rw [hr];exact h)
 rw [lU]
 refine aH (Q:=fun r=>∃ n : Int,r = [.int .i64 n]∧(0≤n↔xs.any p=true)) ?_ ?_
 ·rw [nO]
  refine aE ?_
  exact aMe hx p hp _ 0 rfl (by omega)
 ·rintro r ⟨n,rfl,hn⟩
  refine nW (aB ?_)
  have : decide (0≤n)=xs.any p:=by
   by_cases h : 0≤n
   ·rw [decide_eq_true h,hn.1 h]
   ·rw [decide_eq_false h]
    cases h2 : xs.any p with
    | false=>rfl
    | true=>exact absurd (hn.2 h2) h
  rw [this]
end
theorem aIC {α : Type} (p : α→Bool) : ∀ (xs : List α),xs.any (fun x=>!p x) = !xs.all p
 | []=>rfl
 | x::r=>by rw [List.any_cons,List.all_cons,aIC p r,Bool.not_and]
section
variable {ts : List ByteArray} {fs : List cD} (ht : ts.length ≤ 2097152) (hf : fs.length ≤ 2097152)
include ht hf
theorem aID : ∀ (j i : Nat),fs.length - i=j→i≤fs.length→
 Ok (fun r=>r = [.bool ((fs.drop i).all (tC ts.length fs.length))]) (lK (.lst (fs.map cD.pv)) (.int .i64 fs.length) (.int .i64 i) (.lst (ts.map PV.str)) (.lst (fs.map cD.pv))):=by
 intro j
 induction j with
 | zero=>
   intro i h1 h2
   have : i=fs.length:=by omega
   rw [rA]
   refine aF (aC (fun h=>by omega) (fun _=>aB ?_))
   rw [this,List.drop_length];rfl
 | succ j ih=>
   intro i h1 h2
   have hi : i<fs.length:=by omega
   rw [rA,vX hi]
   refine aF (aC (fun _=>?_) (fun h=>by omega))
   refine aS hi (fun _=>rfl) (aD rfl (aA rfl (aA rfl (aA rfl ?_))))
   refine eA (bH (aZ (fun h=>aB ?_) (fun h1'=>?_)))
   ·have : jM fs[i].p 0 6=false:=by simpa using h
    simp [tC,this]
   refine eA (bH (aZ (fun h=>aB ?_) (fun h2'=>?_)))
   ·have : jM fs[i].lc fs[i].p 12=false:=by simpa using h
    simp [tC,this]
   refine aE (eA (bH (aZ (fun h=>aB ?_) (fun h3'=>?_))))
   ·have : jM (fs[i].code.length : Int) 1 120=false:=by simpa using h
    simp [tC,this]
   have g1 : jM fs[i].p 0 6=true:=by simpa using h1'
   have g2 : jM fs[i].lc fs[i].p 12=true:=by simpa using h2'
   have g3 : jM (fs[i].code.length : Int) 1 120=true:=by simpa using h3'
   have q1:=g1
   have q2:=g2
   have q3:=g3
   simp only [jM,Bool.and_eq_true,decide_eq_true_eq] at q1 q2 q3
   refine aMd (by omega) (fun x=>!cC ts.length fs.length fs[i].lc fs[i].code.length x.o x.a) (fun x _=>?_) ?_
   ·show Ok _ (yG _ _ _)
    rw [aB9]
    refine aD rfl (aA rfl (aA rfl (sK rfl (sK rfl (sK rfl (sK rfl (sK rfl ?_)))))))
    refine aH (aNb (f:=fs[i]) (x:=x) ht hf (by omega) (by omega)) (fun r hr=>?_)
    subst hr
    exact bH (aB rfl)
   ·rw [aIC (fun x : bM=>cC ts.length fs.length fs[i].lc fs[i].code.length x.o x.a)]
    refine eS rfl (aZ (fun h=>aB ?_) (fun h=>?_))
    ·have : fs[i].code.all (fun x=>cC ts.length fs.length fs[i].lc fs[i].code.length x.o x.a)=false:=by simpa using h
     simp only [tC,this,Bool.and_false,Bool.false_and]
    ·have g4 : fs[i].code.all (fun x=>cC ts.length fs.length fs[i].lc fs[i].code.length x.o x.a)=true:=by
      rw [Bool.not_eq_false'] at h
      exact h
     refine aN (by omega) ((ih (i+1) (by omega) (by omega)).mono ?_)
     rintro r rfl
     simp only [tC,g1,g2,g3,g4,Bool.true_and]
end
theorem aHr {m : eM} (h : m.sized) : Ok (fun r=>r = [.bool m.okB]) (uW m.pv):=by
 obtain ⟨ht,hf,hs,_⟩:=h
 rw [aDO]
 refine aD rfl (aA rfl (aA rfl (aE (eA (bH (aZ (fun h=>aB ?_) (fun h1=>?_)))))))
 ·have : jM (m.funcs.length : Int) 1 12=false:=by simpa using h
  simp [eM.okB,this]
 refine aE (gE (aC (fun h=>aB ?_) (fun h2=>?_)))
 ·have : ¬ ((m.texts.length : Int)≤20):=by omega
  simp only [eM.okB,decide_eq_false this,Bool.false_and,Bool.and_false]
 have g1 : jM (m.funcs.length : Int) 1 12=true:=by simpa using h1
 have g2 : (m.texts.length : Int)≤20:=by omega
 refine aD0 (by omega) (fun s=>!cY s) (fun x hx=>?_) ?_
 ·show Ok _ (yF _)
  rw [aB8]
  refine aH (aAO (hs x hx)) (fun r hr=>?_)
  subst hr
  exact bH (aB rfl)
 ·rw [aIC cY]
  refine aZ (fun h=>aB ?_) (fun h=>?_)
  ·have : m.texts.all cY=false:=by rw [Bool.not_eq_true'] at h;exact h
   simp only [eM.okB,this,Bool.and_false,Bool.false_and]
  ·have g3 : m.texts.all cY=true:=by rw [Bool.not_eq_false'] at h;exact h
   refine aE ((aID ht hf _ 0 rfl (by omega)).mono ?_)
   rintro r rfl
   rw [List.drop_zero]
   simp only [eM.okB,g1,decide_eq_true g2,g3,Bool.true_and]
theorem eK {n : Nat} {F : Nat→Option R} {P : Nat→R→Prop} (he : Ok (P n) (F n)) (hs : ∀ i,i<n→Ok (P (i+1)) (F (i+1))→Ok (P i) (F i)) : ∀ i,i≤n→Ok (P i) (F i):=by
 have key : ∀ j i,n - i=j→i≤n→Ok (P i) (F i):=by
  intro j
  induction j with
  | zero=>intro i h1 h2;have : i=n:=by omega
          subst this;exact he
  | succ j ih=>intro i h1 h2;exact hs i (by omega) (ih (i+1) (by omega) (by omega))
 exact fun i hi=>key _ i rfl hi
theorem aGz {σ : Type} {n : Nat} {F : Nat→σ→Option R} {P : R→Prop} (I : Nat→σ→Prop) (he : ∀ s,I n s→Ok P (F n s)) (hs : ∀ i s,i<n→I i s→(∀ s',I (i+1) s'→Ok P (F (i+1) s'))→Ok P (F i s)) : ∀ i s,i≤n→I i s→Ok P (F i s):=by
 have key : ∀ j i s,n - i=j→i≤n→I i s→Ok P (F i s):=by
  intro j
  induction j with
  | zero=>intro i s h1 h2 hI;have : i=n:=by omega
          subst this;exact he s hI
  | succ j ih=>intro i s h1 h2 hI;exact hs i s (by omega) hI (fun s' hI'=>ih (i+1) s' (by omega) (by omega) hI')
 exact fun i s hi hI=>key _ i s rfl hi hI
theorem aC0 {α : Type} (n : Nat) (p : Nat→Option α) : (List.range' n (n - n)).findSome? p=none:=by rw [Nat.sub_self];rfl
theorem aAP {α : Type} {i n : Nat} (hi : i<n) (p : Nat→Option α) : (List.range' i (n - i)).findSome? p=(p i).or ((List.range' (i+1) (n - (i+1))).findSome? p):=by
 have : n - i=(n - (i+1))+1:=by omega
 rw [this,List.range'_succ,List.findSome?_cons]
 cases p i<;>rfl
def dN (l : List Int) : PV:=.lst (l.map (PV.int .i64))
section
variable {P : R → Prop} {k : PV → Option R} {l : List Int}
theorem eH (h : Ok P (k (.int .i64 l.length))) : Ok P (bd (PV.len (dN l)) k):=aE h
theorem dU {i : Nat} {kk : IntKind} (hi : i<l.length) (h : Ok P (k (.int .i64 l[i]))) : Ok P (bd (PV.at_ 1 false (dN l) (.int kk (i : Int))) k):=aS hi (fun _=>rfl) h
theorem fY {i : Int} {kk : IntKind} (h0 : 0≤i) (hi : i<l.length) (h : Ok P (k (dN l))) : Ok P (bd (PV.inb (dN l) (.int kk i)) k):=aBI h0 (by rw [List.length_map];exact hi) h
theorem uL {i : Nat} {x : Int} {kk : IntKind} (hi : i<l.length) (h : Ok P (k (dN (l.set i x)))) : Ok P (bd (PV.setAt 1 false (dN l) (.int kk (i : Int)) (.int .i64 x)) k):=by
 refine aF5 (by omega) (by rw [List.length_map];omega) rfl ?_
 rw [Int.toNat_natCast,← List.map_set]
 exact h
theorem qA {ys : List Int} {e : Nat} (hb : (l.length+ys.length)*e≤140737488355328) (h : Ok P (k (dN (l++ys)))) : Ok P (bd (PV.cat 1 e false (dN l) (.lst (ys.map (PV.int .i64)))) k):=by
 refine kB (by simpa using hb) (fun x hx=>?_) ?_
 ·obtain ⟨a,_,rfl⟩:=List.mem_map.1 hx;rfl
 ·rw [← List.map_append];exact h
theorem qB {i : Int} {kk : IntKind} (h0 : 0≤i) (h1 : i<l.length) (h : ∀ x,l[i.toNat]? = some x→Ok P (k (.int .i64 x))) : Ok P (bd (PV.at_ 1 false (dN l) (.int kk i)) k):=by
 refine aM8 h0 (by rw [List.length_map];exact h1) (fun x hx=>?_) (fun x _ hx=>?_)
 ·obtain ⟨a,_,rfl⟩:=List.mem_map.1 hx;rfl
 ·rw [List.getElem?_map] at hx
  cases hl : l[i.toNat]? with
  | none=>rw [hl] at hx;cases hx
  | some y=>rw [hl] at hx;cases hx;exact h y hl
end
def fZ (fs : List cD) (i : Int) : Int:=(fs[i.toNat]?.map cD.p).getD 0
def aX (fs : List cD) (x : bM) : Int × Int:=
 if (1≤x.o∧x.o≤6)∨x.o=20 then (0,1)
 else if x.o=7∨x.o=9∨x.o=18∨x.o=19∨x.o=25∨x.o=26 then (1,0)
 else if x.o=8 then (1,2)
 else if x.o=10 then (2,2)
 else if 11≤x.o∧x.o≤15 then (2,1)
 else if x.o=16∨x.o=21 then (1,1)
 else if x.o=22 then (2,0)
 else if x.o=23∧0≤x.a∧x.a≤6 then (x.a+1,1)
 else if x.o=24∧0≤x.a∧x.a<fs.length then (fZ fs x.a,1)
 else (0,0)
def aJP (fs : List cD) (x : bM) : R:=[.tup [.int .i64 (aX fs x).1,.int .i64 (aX fs x).2]]
theorem aAp {fs : List cD} {x : bM} {a b : Int} (h : aX fs x=(a,b)) : [PV.tup [.int .i64 a,.int .i64 b]]=aJP fs x:=by
 unfold aJP;rw [h]
theorem bA {n lo hi : Int} : jM n lo hi=true↔lo≤n∧n≤hi:=by simp [jM]
theorem aOb {n lo hi : Int} : jM n lo hi=false↔¬ (lo≤n∧n≤hi):=by rw [← bA];simp
theorem tD {P : R→Prop} {n lo hi : Int} {x y : Option R} (h1 : lo≤n∧n≤hi→Ok P x) (h2 : ¬ (lo≤n∧n≤hi)→Ok P y) : Ok P (PV.ite (hd [.bool (jM n lo hi)]) x y):=
 aZ (fun h=>h1 (bA.1 h)) (fun h=>h2 (aOb.1 h))
section
variable {fs : List cD} {x : bM} {T : PV} (hf : fs.length ≤ 2097152)
include hf
theorem aKT {P : R→Prop} {k : PV→Option R} {i : Int} (h0 : 0≤i) (h1 : i<fs.length) (h : ∀ lc code,Ok P (k (.agg [.int .i64 (fZ fs i),lc,code]))) : Ok P (bd (PV.at_ 3 true (.lst (fs.map cD.pv)) (.int .i64 i)) k):=by
 obtain ⟨n,rfl⟩:=Int.eq_ofNat_of_zero_le h0
 have hn : n<fs.length:=by omega
 refine aS hn (fun _=>rfl) ?_
 have : fZ fs (n : Int)=fs[n].p:=by simp [fZ,List.getElem?_eq_getElem hn]
 rw [← show PV.agg [.int .i64 (fZ fs (n : Int)),.int .i64 fs[n].lc,.lst (fs[n].code.map bM.pv)]=fs[n].pv by rw [this];rfl]
 exact h _ _
set_option maxRecDepth 100000 in
set_option maxHeartbeats 4000000 in
theorem aHQ : Ok (fun r=>r=aJP fs x) (tT (.agg [T,.lst (fs.map cD.pv)]) x.pv):=by
 rw [aGg]
 refine aD rfl (aA rfl (aA rfl (aD rfl (aA rfl (aA rfl ?_)))))
 repeat' (first
  | refine aG (aC (fun _=>?_) (fun _=>?_))
  | refine dI (tD (fun _=>?_) (fun _=>?_))
  | refine aE (bN (by omega) ?_)
  | refine aN (by omega) ?_
  | refine aKT hf (by omega) (by omega) (fun _ _=>?_)
  | refine aA rfl ?_
  | exact aB (aAp (by
   unfold aX
   repeat (first | rfl | rw [if_pos (by omega)] | rw [if_neg (by omega)]))))
set_option maxRecDepth 100000 in
set_option maxHeartbeats 4000000 in
theorem aHR : Ok (fun r=>r=aJP fs x) (tX (.agg [T,.lst (fs.map cD.pv)]) x.pv):=by
 have c24 : ¬ (x.o=23∧0≤x.a∧x.a≤6)→¬ ((1≤x.o∧x.o≤16)∨(18≤x.o∧x.o≤22))→¬ (x.o=25∨x.o=26)→Ok (fun r=>r=aJP fs x) (mP T (.lst (fs.map cD.pv)) (.int .i64 x.o) (.int .i64 x.a)):=by
  intro h1 h2 h3
  rw [aCa]
  refine aG (aC (fun _=>?_) (fun _=>?_))
  ·refine aE (eW (by omega) (tD (fun _=>?_) (fun _=>?_)))
   ·rw [aCb]
    refine aKT hf (by omega) (by omega) (fun _ _=>aA rfl ?_)
    exact aB (aAp (by
     unfold aX
     repeat (first | rfl | rw [if_pos (by omega)] | rw [if_neg (by omega)])))
   ·exact aB (aAp (by
    unfold aX
    repeat (first | rfl | rw [if_pos (by omega)] | rw [if_neg (by omega)])))
  ·exact aB (aAp (by
   unfold aX
   repeat (first | rfl | rw [if_pos (by omega)] | rw [if_neg (by omega)])))
 rw [aGn]
 refine aD rfl (aA rfl (aA rfl (aD rfl (aA rfl (aA rfl ?_)))))
 repeat' (first
  | exact c24 (by omega) (by omega) (by omega)
  | refine aG (aC (fun _=>?_) (fun _=>?_))
  | refine eA (tD (fun _=>?_) (fun _=>?_))
  | refine aN (by omega) ?_
  | exact aB (aAp (by
   unfold aX
   repeat (first | rfl | rw [if_pos (by omega)] | rw [if_neg (by omega)]))))
end
def fG (x : bM) (pc : Int) : List Int:=(if x.o≠17∧x.o≠25 then [pc+1] else [])++(if x.o=17∨x.o=18∨x.o=19 then [x.a] else [])
theorem aLv {P : R→Prop} {k : PV→Option R} {a : Int} (h : Ok P (k (dN [a]))) : Ok P (bd (PV.cat 1 8 false (.lst []) (.lst [.int .i64 a])) k):=
 qA (l:=[]) (ys:=[a]) (by simp) h
theorem aOc {P : R→Prop} {k : PV→Option R} {a b : Int} (h : Ok P (k (dN [a,b]))) : Ok P (bd (PV.cat 1 8 false (.lst []) (.lst [.int .i64 a,.int .i64 b])) k):=
 qA (l:=[]) (ys:=[a,b]) (by simp) h
theorem aOZ {P : R→Prop} {k : PV→Option R} {a b : Int} (h : Ok P (k (dN [a,b]))) : Ok P (bd (PV.cat 1 8 false (dN [a]) (dN [b])) k):=
 qA (l:=[a]) (ys:=[b]) (by simp) h
theorem aO0 {P : R→Prop} {k : PV→Option R} {b : Int} (h : Ok P (k (dN [b]))) : Ok P (bd (PV.cat 1 8 false (.lst []) (dN [b])) k):=
 qA (l:=[]) (ys:=[b]) (by simp) h
theorem aHS {x : bM} {pc : Int} (hp : 0≤pc∧pc≤1000000000) : Ok (fun r=>r = [dN (fG x pc)]) (rK x.pv (.int .i64 pc)):=by
 rw [aEQ]
 refine aD rfl (aA rfl (aA rfl ?_))
 repeat' (first
  | (rw [aB4];refine aN (by omega) ?_)
  | rw [aB5]
  | rw [aB6]
  | refine aLv ?_
  | refine aOZ ?_
  | refine aO0 ?_
  | refine aG (aC (fun _=>?_) (fun _=>?_))
  | refine bF (aI (fun _=>?_) (fun _=>?_))
  | (exfalso;omega)
  | exact aB (congrArg (fun l=>[dN l]) (by unfold fG;repeat (first | rfl | rw [if_pos (by omega)] | rw [if_neg (by omega)])))
  | exact aB (congrArg (fun l=>[dN l]) (a₁:=[]) (by unfold fG;repeat (first | rfl | rw [if_pos (by omega)] | rw [if_neg (by omega)]))))
theorem aHT {x : bM} {pc : Int} (hp : 0≤pc∧pc≤1000000000) : Ok (fun r=>r = [dN (fG x pc)]) (rM x.pv (.int .i64 pc)):=by
 rw [aET]
 refine aD rfl (aA rfl (aA rfl ?_))
 repeat' (first
  | refine aLv ?_
  | refine aOc ?_
  | refine aN (by omega) ?_
  | refine aG (aC (fun _=>?_) (fun _=>?_))
  | exact aB (congrArg (fun l=>[dN l]) (by unfold fG;repeat (first | rfl | rw [if_pos (by omega)] | rw [if_neg (by omega)])))
  | exact aB (congrArg (fun l=>[dN l]) (a₁:=[]) (by unfold fG;repeat (first | rfl | rw [if_pos (by omega)] | rw [if_neg (by omega)]))))
end
noncomputable section
open Go Go.IntWalk
attribute [local irreducible] bd PV.ite PV.guardFlat PV.guardOwn PV.whole PV.one PV.cell PV.sub PV.at_ PV.len PV.slen PV.chr PV.beq PV.peq PV.ceq PV.bin PV.neg PV.not PV.conv PV.cut PV.scut PV.cat PV.setAt PV.setCell PV.ncopy PV.copyIn PV.zeros PV.toStr PV.toBytes PV.deref PV.isPtr PV.comp PV.inb PV.off PV.imin PV.imax PV.sel PV.apply PV.isLst PV.isInt PV.ix PV.nilT
structure cJ where
 k : Int
 n : Int
 s : ByteArray
def cJ.pv (v : cJ) : PV:=.agg [.int .i64 v.k,.int .i64 v.n,.str v.s]
def dC : cJ:=⟨0,0,bs []⟩
def aC1 (n : Int) : cJ:=⟨1,n,bs []⟩
def nM (b : Bool) : cJ:=⟨2,if b then 1 else 0,bs []⟩
def aC2 (s : ByteArray) : cJ:=⟨3,0,s⟩
def aMf (n : Int) : cJ:=⟨4,n,bs []⟩
def aMg (n : Int) : cJ:=⟨5,n,bs []⟩
def cG (n : Int) : Bool:=jM n (-1000000000) 1000000000
def gN (a b : ByteArray) : Bool:=a.toList==b.toList
theorem aGA (a : ByteArray) : gN a a=true:=by simp [gN]
def I64 (n : Int) : Prop:=-9223372036854775808≤n∧n≤9223372036854775807
section
variable {P : R → Prop} {k : PV → Option R} {kr : R → Option R} {a b : ByteArray}
theorem aOd (h : Ok P (k (.bool (!gN a b)))) : Ok P (bd (PV.bin .neq (.str a) (.str b)) k):=dB _ (by simp only [PV.bin,PV.strBin];rfl) h
theorem rQ (h : Ok P (k (.bool (gN a b)))) : Ok P (bd (PV.bin .eql (.str a) (.str b)) k):=dB _ (by simp only [PV.bin,PV.strBin];rfl) h
theorem aLw (h : Ok P (k (.bool (PV.bytesLt a.toList b.toList)))) : Ok P (bd (PV.bin .lss (.str a) (.str b)) k):=dB _ (by simp only [PV.bin,PV.strBin]) h
theorem jN (hb : a.size+b.size≤4611686018427387904) (h : Ok P (k (.str (a++b)))) : Ok P (bd (PV.bin .add (.str a) (.str b)) k):=dB _ (by simp only [PV.bin,PV.strBin];rw [if_pos (by omega)]) h
theorem aC3 {n : Int} (h : Ok P (kr [.bool (cG n)])) : Ok P (bd (fX (.int .i64 n)) kr):=by
 refine aH (Q:=fun r=>r = [.bool (cG n)]) ?_ (fun r hr=>by rw [hr];exact h)
 rw [aGh]
 exact dI (aB rfl)
theorem aJQ {n : Int} (h : Ok P (kr [(aC1 n).pv])) : Ok P (bd (pS (.int .i64 n)) kr):=by
 refine aH (Q:=fun r=>r = [(aC1 n).pv]) ?_ (fun r hr=>by rw [hr];exact h)
 rw [aGq]
 exact bD rfl (aB rfl)
theorem pI {c : Bool} (h : Ok P (kr [(nM c).pv])) : Ok P (bd (fT (.bool c)) kr):=by
 refine aH (Q:=fun r=>r = [(nM c).pv]) ?_ (fun r hr=>by rw [hr];exact h)
 rw [aEZ]
 exact aZ (fun h=>aB (by rw [h];rfl)) (fun h=>aB (by rw [h];rfl))
end
def cB (nf recs : Int) (v : cJ) : Bool:=
 if v.k≠3∧gN v.s (bs [])=false then false
 else if v.k=0 then decide (v.n=0)
 else if v.k=1 then cG v.n
 else if v.k=2 then jM v.n 0 1
 else if v.k=3 then decide (v.n=0)&&cY v.s
 else if v.k=4 then decide (0≤v.n)&&decide (v.n<recs)
 else if v.k=5 then jM v.n 0 (nf - 1)
 else false
theorem xL {fs : List cD} {T : PV} {v : cJ} {recs : Int} (hf : fs.length≤2097152) (hs : v.s.size≤2097152) : Ok (fun r=>r = [.bool (cB fs.length recs v)]) (wY (.agg [T,.lst (fs.map cD.pv)]) v.pv (.int .i64 recs)):=by
 rw [aG9]
 refine aD rfl (aA rfl (aA rfl (aD rfl (aA rfl (aA rfl (aA rfl ?_))))))
 refine bF (aI (fun h3=>?_) (fun h3=>?_))
 ·refine aOd (aZ (fun h=>aB ?_) (fun h=>?_))
  ·have h : gN v.s (bs [])=false:=by simpa using h
   unfold cB
   rw [if_pos ⟨h3,h⟩]
  have h : gN v.s (bs [])=true:=by simpa using h
  repeat' (first
   | refine aG (aC (fun heq=>?_) (fun heq=>?_))
   | refine nW (aC (fun hge=>?_) (fun hge=>?_))
   | exact aC3 (aB (by unfold cB;rw [if_neg (by rw [h];simp)];repeat (first | rfl | rw [if_pos (by assumption)] | rw [if_neg (by assumption)])))
   | exact dI (aB (by unfold cB;rw [if_neg (by rw [h];simp)];repeat (first | rfl | rw [if_pos (by assumption)] | rw [if_neg (by assumption)])))
   | exact aE (bN (by omega) (dI (aB (by unfold cB;rw [if_neg (by rw [h];simp)];repeat (first | rfl | rw [if_pos (by assumption)] | rw [if_neg (by assumption)])))))
   | (exfalso;omega)
   | exact aG (aB (by unfold cB;rw [if_neg (by rw [h];simp)];repeat (first | rfl | rw [if_pos (by assumption)] | rw [if_neg (by assumption)])))
   | exact aF (aB (by unfold cB;rw [if_neg (by rw [h];simp)];repeat (first | rfl | rw [decide_eq_true hge,Bool.true_and] | rw [if_pos (by assumption)] | rw [if_neg (by assumption)])))
   | exact aB (by unfold cB;rw [if_neg (by rw [h];simp)];repeat (first | rfl | rw [decide_eq_false hge,Bool.false_and] | rw [if_pos (by assumption)] | rw [if_neg (by assumption)])))
 ·have hk : ¬ (v.k≠3∧gN v.s (bs [])=false):=fun h=>h.1 h3
  repeat' (first
   | refine aG (aC (fun heq=>?_) (fun heq=>?_))
   | (exfalso;omega)
   | exact aFf hs (aB (by unfold cB;rw [if_neg hk];repeat (first | rfl | rw [if_pos (by assumption)] | rw [if_neg (by omega)] | rw [decide_eq_true heq,Bool.true_and])))
   | exact aB (by unfold cB;rw [if_neg hk];repeat (first | rfl | rw [if_pos (by assumption)] | rw [if_neg (by omega)] | rw [decide_eq_false heq,Bool.false_and])))
def xM (o a b : Int) : Int:=if o=12 then a - b else if o=13 then a*b else a+b
def yR (o : Int) (a b : cJ) : cJ × Int:=
 if a.k≠1 then (dC,1) else if b.k≠1 then (dC,1) else if cG a.n=false then (dC,2) else if cG b.n=false then (dC,2)
 else if cG (xM o a.n b.n)=false then (dC,2) else (aC1 (xM o a.n b.n),0)
def aBp (a b : cJ) : cJ:=nM (decide (a.k=b.k)&&(decide (a.n=b.n)&&gN a.s b.s))
def nP (o : Int) (a b : cJ) : cJ × Int:=
 if o=11 then (if a.k=3∧b.k=3 then (if (60 : Int)<a.s.size+b.s.size then (dC,3) else (aC2 (a.s++b.s),0)) else yR 11 a b)
 else if o=12 then yR 12 a b
 else if o=13 then yR 13 a b
 else if o=14 then (if a.k=3∧b.k=3 then (nM (PV.bytesLt a.s.toList b.s.toList),0) else if a.k=1∧b.k=1 then (nM (decide (a.n<b.n)),0) else (dC,1))
 else (aBp a b,0)
def opR (p : cJ × Int) : R:=[.tup [p.1.pv,.int .i64 p.2]]
theorem aNc {a b : Int} (ha : cG a=true) (hb : cG b=true) : -1000000000000000000≤a*b∧a*b≤1000000000000000000:=by
 have ha:=bA.1 ha
 have hb:=bA.1 hb
 have h : (a*b).natAbs≤1000000000*1000000000:=by
  rw [Int.natAbs_mul]
  exact Nat.mul_le_mul (by omega) (by omega)
 omega
theorem aKU {o a b : Int} (ho : o=11∨o=12∨o=13) : Ok (fun r=>r=(if cG a=false then [.tup [.int .i64 0,.int .i64 2]] else if cG b=false then [.tup [.int .i64 0,.int .i64 2]]
 else if cG (xM o a b)=false then [.tup [.int .i64 0,.int .i64 2]] else [.tup [.int .i64 (xM o a b),.int .i64 0]])) (vA (.int .i64 o) (.int .i64 a) (.int .i64 b)):=by
 rw [aDV]
 refine aC3 (bH (aZ (fun h=>aB ?_) (fun h1=>?_)))
 ·rw [if_pos (by simpa using h)]
 have h1 : cG a=true:=by simpa using h1
 rw [if_neg (by rw [h1];simp)]
 refine aC3 (bH (aZ (fun h=>aB ?_) (fun h2=>?_)))
 ·rw [if_pos (by simpa using h)]
 have h2 : cG b=true:=by simpa using h2
 rw [if_neg (by rw [h2];simp)]
 have ga:=bA.1 h1
 have gb:=bA.1 h2
 have gm:=aNc h1 h2
 have fin : ∀ n : Int,n=xM o a b→Ok (fun r=>r=(if cG (xM o a b)=false then [.tup [.int .i64 0,.int .i64 2]] else [.tup [.int .i64 (xM o a b),.int .i64 0]]))
  (bd (fX (.int .i64 n)) fun r=>bd (PV.not (hd r)) fun v=>PV.ite v (some [.tup [.int .i64 0,.int .i64 2]]) (some [.tup [.int .i64 n,.int .i64 0]])):=by
  intro n hn
  subst hn
  refine aC3 (bH (aZ (fun h=>aB ?_) (fun h=>aB ?_)))
  ·rw [if_pos (by simpa using h)]
  ·rw [if_neg (by simpa using h)]
 refine aN (by omega) (aG (aC (fun h=>bN (by omega) ?_) (fun h12=>aG (aC (fun h=>aM5 (by omega) ?_) (fun h13=>?_)))))
 ·exact fin _ (by unfold xM;rw [if_pos h])
 ·exact fin _ (by unfold xM;rw [if_neg h12,if_pos h])
 ·exact fin _ (by unfold xM;rw [if_neg h12,if_neg h13])
theorem xN {o : Int} {a b : cJ} (ho : o=11∨o=12∨o=13) : Ok (fun r=>r=opR (yR o a b)) (gR (.int .i64 o) a.pv b.pv):=by
 rw [aCe]
 refine aD rfl (aA rfl (aA rfl (aA rfl (aD rfl (aA rfl (aA rfl (aA rfl ?_)))))))
 refine bF (aI (fun h=>aB ?_) (fun h1=>bF (aI (fun h=>aB ?_) (fun h2=>?_))))
 ·unfold yR;rw [if_pos h];rfl
 ·unfold yR;rw [if_neg (by simpa using h1),if_pos h];rfl
 refine aH (aKU ho) (fun r hr=>?_)
 have e : yR o a b=if cG a.n=false then (dC,2) else if cG b.n=false then (dC,2) else if cG (xM o a.n b.n)=false then (dC,2) else (aC1 (xM o a.n b.n),0):=by
  unfold yR;rw [if_neg (by simpa using h1),if_neg (by simpa using h2)]
 rw [e]
 have trap : ∀ {x : R},x = [.tup [.int .i64 0,.int .i64 2]]→r=x→Ok (fun r=>r=opR (dC,2)) (bd (PV.comp (hd r) 0) fun v2185=>bd (PV.comp (hd r) 1) fun v2186=>bd (PV.bin .neq v2186 (.int .i64 0)) fun v2187=>PV.ite v2187 (some [(.tup [(.agg [(.int .i64 0),(.int .i64 0),(.str (bs []))]),v2186])]) (bd (pS v2185) fun r2188=>bd (PV.whole 3 (hd r2188)) fun v2189=>bd (PV.cell v2189 0) fun v2190=>bd (PV.cell v2189 1) fun v2191=>bd (PV.cell v2189 2) fun v2192=>some [(.tup [(.agg [v2190,v2191,v2192]),(.int .i64 0)])])):=by
  intro x hx hr
  subst hx;subst hr
  exact bE rfl (bE rfl (bF (aI (fun _=>aB rfl) (fun h=>by omega))))
 split at hr
 ·rename_i h;rw [if_pos h];exact trap rfl hr
 rename_i h3
 rw [if_neg h3]
 split at hr
 ·rename_i h;rw [if_pos h];exact trap rfl hr
 rename_i h4
 rw [if_neg h4]
 split at hr
 ·rename_i h;rw [if_pos h];exact trap rfl hr
 rename_i h5
 rw [if_neg h5]
 subst hr
 refine bE rfl (bE rfl (bF (aI (fun h=>absurd rfl h) (fun _=>?_))))
 exact aJQ (aD rfl (aA rfl (aA rfl (aA rfl (aB rfl)))))
theorem nC {P : R→Prop} {k : R→Option R} {o : Option R} {p : cJ × Int} (h : Ok (fun r=>r=opR p) o) (hk : Ok P (k [.tup [.agg [.int .i64 p.1.k,.int .i64 p.1.n,.str p.1.s],.int .i64 p.2]])) : Ok P (bd o k):=
 aH h (fun r hr=>by subst hr;exact hk)
set_option maxRecDepth 100000 in
theorem aC4 {o : Int} {a b : cJ} (ho : 11≤o∧o≤15) (hs : a.s.size≤2097152∧b.s.size≤2097152) : Ok (fun r=>r=opR (nP o a b)) (mW (.int .i64 o) a.pv b.pv):=by
 have less3 : ¬ (a.k=3∧b.k=3)→Ok (fun r=>r=opR (if a.k=1∧b.k=1 then (nM (decide (a.n<b.n)),0) else (dC,1))) (oF (.int .i64 a.k) (.int .i64 a.n) (.str a.s) (.int .i64 b.k) (.int .i64 b.n) (.str b.s) (.int .i64 0) (.int .i64 0) (.str (bs []))):=by
  intro _
  rw [aCV]
  refine aG (aC (fun h1=>aG (aC (fun h2=>?_) (fun h2=>aB ?_))) (fun h1=>aB ?_))
  ·rw [aCW,if_pos ⟨h1,h2⟩]
   exact aF (pI (aD rfl (aA rfl (aA rfl (aA rfl (aB rfl))))))
  ·rw [if_neg (fun h=>h2 h.2)];rfl
  ·rw [if_neg (fun h=>h1 h.1)];rfl
 have less : Ok (fun r=>r=opR (nP 14 a b)) (aAd a.pv b.pv):=by
  rw [aGr]
  refine aD rfl (aA rfl (aA rfl (aA rfl (aD rfl (aA rfl (aA rfl (aA rfl ?_)))))))
  have e : nP 14 a b=(if a.k=3∧b.k=3 then (nM (PV.bytesLt a.s.toList b.s.toList),0) else if a.k=1∧b.k=1 then (nM (decide (a.n<b.n)),0) else (dC,1)):=rfl
  rw [e]
  refine aG (aC (fun h1=>aG (aC (fun h2=>?_) (fun h2=>?_))) (fun h1=>?_))
  ·rw [aCU,if_pos ⟨h1,h2⟩]
   exact aLw (pI (aD rfl (aA rfl (aA rfl (aA rfl (aB rfl))))))
  ·rw [if_neg (fun h=>h2 h.2)];exact less3 (fun h=>h2 h.2)
  ·rw [if_neg (fun h=>h1 h.1)];exact less3 (fun h=>h1 h.1)
 have add : Ok (fun r=>r=opR (nP 11 a b)) (aBQ a.pv b.pv):=by
  rw [aHe]
  refine aD rfl (aA rfl (aA rfl (aA rfl (aD rfl (aA rfl (aA rfl (aA rfl ?_)))))))
  have e : nP 11 a b=(if a.k=3∧b.k=3 then (if (60 : Int)<a.s.size+b.s.size then (dC,3) else (aC2 (a.s++b.s),0)) else yR 11 a b):=rfl
  rw [e]
  have hn:=xN (o:=11) (a:=a) (b:=b) (by omega)
  refine aG (aC (fun h1=>aG (aC (fun h2=>?_) (fun h2=>?_))) (fun h1=>?_))
  ·rw [aDU,if_pos ⟨h1,h2⟩]
   refine nX (nX (bN (by omega) (gE (aC (fun h=>aB ?_) (fun h=>?_)))))
   ·rw [if_pos (by omega)];rfl
   ·rw [if_neg (by omega)]
    exact jN (by omega) (bD rfl (aB rfl))
  ·rw [if_neg (fun h=>h2 h.2)]
   exact nC hn (bE rfl (bE rfl (aD rfl (aA rfl (aA rfl (aA rfl (aB rfl)))))))
  ·rw [if_neg (fun h=>h1 h.1)]
   exact nC hn (bE rfl (bE rfl (aD rfl (aA rfl (aA rfl (aA rfl (aB rfl)))))))
 rw [aHc]
 refine aD rfl (aA rfl (aA rfl (aA rfl (aD rfl (aA rfl (aA rfl (aA rfl ?_)))))))
 refine aG (aC (fun h=>?_) (fun h11=>aG (aC (fun h=>?_) (fun h12=>aG (aC (fun h=>?_) (fun h13=>aG (aC (fun h=>?_) (fun h14=>?_))))))))
 ·subst h
  exact nC add (bE rfl (bE rfl (aD rfl (aA rfl (aA rfl (aA rfl (aB rfl)))))))
 ·subst h
  have : Ok (fun r=>r=opR (nP 12 a b)) (aBR a.pv b.pv):=by
   rw [aHf]
   refine aD rfl (aA rfl (aA rfl (aA rfl (aD rfl (aA rfl (aA rfl (aA rfl ?_)))))))
   exact nC (xN (o:=12) (by omega)) (bE rfl (bE rfl (aD rfl (aA rfl (aA rfl (aA rfl (aB rfl)))))))
  exact nC this (bE rfl (bE rfl (aD rfl (aA rfl (aA rfl (aA rfl (aB rfl)))))))
 ·subst h
  have : Ok (fun r=>r=opR (nP 13 a b)) (aBS a.pv b.pv):=by
   rw [aHg]
   refine aD rfl (aA rfl (aA rfl (aA rfl (aD rfl (aA rfl (aA rfl (aA rfl ?_)))))))
   exact nC (xN (o:=13) (by omega)) (bE rfl (bE rfl (aD rfl (aA rfl (aA rfl (aA rfl (aB rfl)))))))
  exact nC this (bE rfl (bE rfl (aD rfl (aA rfl (aA rfl (aA rfl (aB rfl)))))))
 ·subst h
  exact nC less (bE rfl (bE rfl (aD rfl (aA rfl (aA rfl (aA rfl (aB rfl)))))))
 ·have h15 : o=15:=by omega
  subst h15
  have same : Ok (fun r=>r = [(aBp a b).pv]) (aAg a.pv b.pv):=by
   rw [aGs]
   refine aD rfl (aA rfl (aA rfl (aA rfl (aD rfl (aA rfl (aA rfl (aA rfl ?_)))))))
   refine aG (aC (fun h1=>aG (aC (fun h2=>rQ ?_) (fun h2=>?_))) (fun h1=>?_))
   ·refine pI (aD rfl (aA rfl (aA rfl (aA rfl (aB ?_)))))
    unfold aBp;rw [decide_eq_true h1,decide_eq_true h2];rfl
   ·refine pI (aD rfl (aA rfl (aA rfl (aA rfl (aB ?_)))))
    unfold aBp;rw [decide_eq_true h1,decide_eq_false h2];rfl
   ·refine pI (aD rfl (aA rfl (aA rfl (aA rfl (aB ?_)))))
    unfold aBp;rw [decide_eq_false h1];rfl
  refine aH same (fun r hr=>?_)
  subst hr
  exact aD rfl (aA rfl (aA rfl (aA rfl (aB rfl))))
def vY (v : cJ) : cJ × Int:=if v.k≠2 then (dC,1) else (nM (!decide (v.n=1)),0)
theorem aNd {v : cJ} : Ok (fun r=>r=opR (vY v)) (aBP v.pv):=by
 rw [aHd]
 refine aD rfl (aA rfl (aA rfl (aA rfl ?_)))
 refine bF (aI (fun h=>aB ?_) (fun h=>?_))
 ·unfold vY;rw [if_pos h];rfl
 ·refine bF (pI (aD rfl (aA rfl (aA rfl (aA rfl (aB ?_))))))
  unfold vY;rw [if_neg (by simpa using h)];rfl
def dig (n : Int) : ByteArray:=⟨#[UInt8.ofNat (48+n).toNat]⟩
def xO : Nat→Int→ByteArray
 | 0,n=>dig n
 | j+1,n=>if n<10 then dig n else xO j (n / 10)++dig (n % 10)
def gM (n : Int) : ByteArray:=
 if n<0 then (if n < -9 then bs [45]++xO 18 (-(n.tdiv 10))++xO 18 (-(n.tmod 10)) else bs [45]++xO 18 (-n)) else xO 18 n
theorem aC5 (n : Int) : (dig n).size=1:=rfl
theorem fH : ∀ (j : Nat) (n : Int),(xO j n).size≤j+1
 | 0,n=>by simp [xO,aC5]
 | j+1,n=>by
   unfold xO
   split
   ·rw [aC5];omega
   ·rw [ByteArray.size_append,aC5]
    have:=fH j (n / 10)
    omega
theorem aAQ : ∀ (j : Nat) (n : Int),0≤n→n<10 ^ (j+1)→n≤9223372036854775807→j≤100→Ok (fun r=>r = [.str (xO j n)]) (dZ (.int .i64 n)):=by
 have one : ∀ {P : R→Prop} {k : PV→Option R} {n : Int},0≤n→n<10→Ok P (k (.str (dig n)))→Ok P (bd (PV.bin .add (.int .i64 48) (.int .i64 n)) fun v=>bd (PV.conv .u8 v) fun v=>bd (PV.cat 1 1 false (.lst []) (.lst [v])) fun v=>bd (PV.toStr v) k):=by
  intro P k n h1 h2 h
  refine aN (by omega) (aOH (by omega) ?_)
  refine rG (by simp) (fun x hx=>by simp only [List.mem_singleton] at hx;subst hx;rfl) ?_
  exact aJM (l:=[48+n]) h
 intro j
 induction j with
 | zero=>
   intro n h1 h2 _ _
   rw [oL]
   refine aF (aC (fun h=>by omega) (fun _=>aF (aC (fun h=>?_) (fun h=>by omega))))
   exact one h1 h (aB rfl)
 | succ j ih=>
   intro n h1 h2 hj hjj
   rw [oL]
   have hp2 : (10 : Int) ^ (j+1+1)=10 ^ (j+1)*10:=Int.pow_succ _ _
   refine aF (aC (fun h=>by omega) (fun _=>aF (aC (fun h=>?_) (fun h=>?_))))
   ·refine one h1 h (aB ?_)
    unfold xO;rw [if_pos h]
   ·refine aM7 h1 (by omega) hj ?_
    refine aH (ih (n / 10) (by omega) (by omega) (by omega) (by omega)) (fun r hr=>?_)
    subst hr
    refine aM6 h1 (by omega) (one (by omega) (by omega) ?_)
    have:=fH j (n / 10)
    refine jN (by rw [aC5];omega) (aB ?_)
    show _ = [PV.str (xO (j+1) n)]
    rw [show xO (j+1) n=xO j (n / 10)++dig (n % 10) by conv=>lhs;unfold xO
                                                       rw [if_neg h]]
theorem aOe {P : R→Prop} {k : PV→Option R} {a b : Int} (hb : b≠0) (hr : I64 (a.tdiv b)) (h : Ok P (k (.int .i64 (a.tdiv b)))) : Ok P (bd (PV.bin .quo (.int .i64 a) (.int .i64 b)) k):=
 dB _ (by rw [iH (by simp) (by simp)];simp only [PV.intBin];rw [if_neg hb,i64_in _ hr]) h
theorem aOf {P : R→Prop} {k : PV→Option R} {a b : Int} (hb : b≠0) (h : Ok P (k (.int .i64 (a.tmod b)))) : Ok P (bd (PV.bin .rem (.int .i64 a) (.int .i64 b)) k):=
 dB _ (by rw [iH (by simp) (by simp)];simp only [PV.intBin];rw [if_neg hb]) h
theorem aJR {n : Int} (h : n<0) : n.tdiv 10 = -((-n) / 10)∧n.tmod 10 = -((-n) % 10):=by
 have e : n = -(-n):=by omega
 constructor
 ·rw [e,Int.neg_tdiv,Int.tdiv_eq_ediv_of_nonneg (by omega)]
  simp
 ·rw [e,Int.neg_tmod,Int.tmod_eq_emod_of_nonneg (by omega)]
  simp
theorem rR (n : Int) : (gM n).size≤40:=by
 have h45 : (bs [45]).size=1:=rfl
 unfold gM
 split
 ·split
  ·rw [ByteArray.size_append,ByteArray.size_append,h45]
   have h1:=fH 18 (-(n.tdiv 10))
   have h2:=fH 18 (-(n.tmod 10))
   omega
  ·rw [ByteArray.size_append,h45]
   have h1:=fH 18 (-n)
   omega
 ·have h1:=fH 18 n
  omega
theorem aAq {n : Int} (hn : -9223372036854775807≤n∧n≤9223372036854775807) : Ok (fun r=>r = [.str (gM n)]) (dZ (.int .i64 n)):=by
 have big : ∀ {x : Int},x≤9223372036854775807→x<10 ^ (18+1):=fun h=>by
  have : (10 : Int) ^ (18+1)=10000000000000000000:=by decide
  omega
 have h45 : (bs [45]).size=1:=rfl
 by_cases h : n<0
 ·obtain ⟨e1,e2⟩:=aJR h
  rw [oL]
  refine aF (aC (fun _=>?_) (fun h'=>absurd h h'))
  refine aF (aC (fun h9=>?_) (fun h9=>?_))
  ·refine aOe (by omega) (by unfold I64;omega) (aKQ (by omega) ?_)
   have z1 : 0 - n.tdiv 10 = -(n.tdiv 10):=by omega
   have z2 : 0 - n.tmod 10 = -(n.tmod 10):=by omega
   rw [z1]
   have s1:=fH 18 (-(n.tdiv 10))
   have s2:=fH 18 (-(n.tmod 10))
   refine aH (aAQ 18 (-(n.tdiv 10)) (by omega) (big (by omega)) (by omega) (by omega)) (fun r hr=>?_)
   subst hr
   refine jN (by omega) (aOf (by omega) (aKQ (by omega) ?_))
   rw [z2]
   refine aH (aAQ 18 (-(n.tmod 10)) (by omega) (big (by omega)) (by omega) (by omega)) (fun r hr=>?_)
   subst hr
   refine jN (by rw [ByteArray.size_append];omega) (aB ?_)
   unfold gM
   rw [if_pos h,if_pos h9]
  ·refine aKQ (by omega) ?_
   have z1 : 0 - n = -n:=by omega
   rw [z1]
   have s1:=fH 18 (-n)
   refine aH (aAQ 18 (-n) (by omega) (big (by omega)) (by omega) (by omega)) (fun r hr=>?_)
   subst hr
   refine jN (by omega) (aB ?_)
   unfold gM
   rw [if_pos h,if_neg h9]
 ·refine (aAQ 18 n (by omega) (big hn.2) hn.2 (by omega)).mono ?_
  rintro r rfl
  unfold gM
  rw [if_neg h]
end
noncomputable section
open Go
attribute [local irreducible] bd PV.ite PV.guardFlat PV.guardOwn PV.whole PV.one PV.cell PV.sub PV.at_ PV.len PV.slen PV.chr PV.beq PV.peq PV.ceq PV.bin PV.neg PV.not PV.conv PV.cut PV.scut PV.cat PV.setAt PV.setCell PV.ncopy PV.copyIn PV.zeros PV.toStr PV.toBytes PV.deref PV.isPtr PV.comp PV.inb PV.off PV.imin PV.imax PV.sel PV.apply PV.isLst PV.isInt PV.ix PV.nilT
def gO (fs : List cD) (x : bM) (h : Int) : Int:=h - (aX fs x).1+(aX fs x).2
def can (fs : List cD) (x : bM) (h : Int) : Bool:=decide ((aX fs x).1≤h)&&decide (gO fs x h≤16)
abbrev Hs:=List Int × Bool
def rS (l : Int) (s : Hs) (t : Int) : Hs:=if t<s.1.length∧s.1[t.toNat]?.getD 0<0 then (s.1.set t.toNat l,true) else s
def yS (fs : List cD) (code : List bM) (s : Hs) (pc : Nat) : Hs:=
 match code[pc]? with
 | some x=>if can fs x (s.1[pc]?.getD 0) then (fG x pc).foldl (rS (gO fs x (s.1[pc]?.getD 0))) s else s
 | none=>s
def qC (fs : List cD) (code : List bM) (s : List Int) : Hs:=(List.range' 0 code.length).foldl (yS fs code) (s,false)
def aC7 (fs : List cD) (code : List bM) : Nat→List Int→List Int
 | 0,s=>s
 | n+1,s=>if (qC fs code s).2 then aC7 fs code n (qC fs code s).1 else (qC fs code s).1
def aIE (n : Nat) : List Int:=(List.replicate n (-1)).set 0 0
def iG (fs : List cD) (code : List bM) : List Int:=aC7 fs code (code.length+1) (aIE code.length)
structure Fit (fs : List cD) (code : List bM) : Prop where
 n1 : 1≤code.length
 n2 : code.length≤120
 nf : fs.length≤12
 u : ∀ x∈code,0≤(aX fs x).1∧(aX fs x).1≤7∧0≤(aX fs x).2∧(aX fs x).2≤2
 j : ∀ x∈code,(x.o=17∨x.o=18∨x.o=19)→0≤x.a∧x.a<code.length
def yT (n : Nat) (s : List Int) : Prop:=s.length=n∧∀ v∈s,-1≤v∧v≤16
theorem yT.at {n : Nat} {s : List Int} (h : yT n s) (i : Nat) : -1≤s[i]?.getD 0∧s[i]?.getD 0≤16:=by
 cases hx : s[i]? with
 | none=>simp
 | some v=>exact h.2 v (List.mem_of_getElem? hx)
theorem yT.put {n : Nat} {s : Hs} (h : yT n s.1) {l : Int} (hl : -1≤l∧l≤16) (t : Int) : yT n (rS l s t).1:=by
 unfold rS
 split
 ·refine ⟨by simp only [List.length_set];exact h.1,fun v hv=>?_⟩
  rcases List.mem_or_eq_of_mem_set hv with h1 | h1
  ·exact h.2 v h1
  ·omega
 ·exact h
theorem yT.puts {n : Nat} {l : Int} (hl : -1≤l∧l≤16) : ∀ (ts : List Int) (s : Hs),yT n s.1→yT n (ts.foldl (rS l) s).1
 | [],_,h=>h
 | t::r,s,h=>yT.puts hl r _ (h.put hl t)
theorem aJS {fs : List cD} {x : bM} {h : Int} (hu : 0≤(aX fs x).1∧(aX fs x).1≤7∧0≤(aX fs x).2∧(aX fs x).2≤2) (hc : can fs x h=true) : 0≤gO fs x h∧gO fs x h≤16:=by
 simp only [can,Bool.and_eq_true,decide_eq_true_eq] at hc
 unfold gO at *
 omega
theorem yT.one {fs : List cD} {code : List bM} (F : Fit fs code) {n : Nat} {s : Hs} (h : yT n s.1) (pc : Nat) : yT n (yS fs code s pc).1:=by
 unfold yS
 split
 ·rename_i x hx
  split
  ·rename_i hc
   have:=aJS (F.u x (List.mem_of_getElem? hx)) hc
   exact yT.puts (by omega) _ _ h
  ·exact h
 ·exact h
theorem yT.ones {fs : List cD} {code : List bM} (F : Fit fs code) {n : Nat} : ∀ (l : List Nat) (s : Hs),yT n s.1→yT n (l.foldl (yS fs code) s).1
 | [],_,h=>h
 | t::r,s,h=>yT.ones F r _ (h.one F t)
theorem yT.pass {fs : List cD} {code : List bM} (F : Fit fs code) {n : Nat} {s : List Int} (h : yT n s) : yT n (qC fs code s).1:=yT.ones F _ _ h
theorem yT.start {n : Nat} : yT n (aIE n):=by
 refine ⟨by simp [aIE],fun v hv=>?_⟩
 rcases List.mem_or_eq_of_mem_set hv with h1 | h1
 ·have:=List.eq_of_mem_replicate h1;omega
 ·omega
def nn (s : List Int) : Nat:=s.countP (· < 0)
def Dec (s s' : Hs) : Prop:=s'=s∨(s'.2=true∧nn s'.1<nn s.1)
theorem Dec.trans {a b c : Hs} (h : Dec a b) (k : Dec b c) : Dec a c:=by
 rcases h with rfl | h
 ·exact k
 ·rcases k with rfl | k
  ·exact .inr h
  ·exact .inr ⟨k.1,by omega⟩
theorem aNe : ∀ (s : List Int) (i : Nat) (l : Int),0≤l→s[i]?.getD 0<0→nn (s.set i l)<nn s
 | [],i,l,_,h=>by simp at h
 | x::r,0,l,hl,h=>by
   simp only [List.getElem?_cons_zero,Option.getD_some] at h
   simp only [nn,List.set_cons_zero,List.countP_cons]
   rw [if_neg (by simp;omega),if_pos (by simpa using h)]
   omega
 | x::r,i+1,l,hl,h=>by
   simp only [List.getElem?_cons_succ] at h
   have:=aNe r i l hl h
   simp only [nn,List.set_cons_succ,List.countP_cons] at *
   omega
theorem Dec.put {l : Int} (hl : 0≤l) (s : Hs) (t : Int) : Dec s (rS l s t):=by
 unfold rS
 split
 ·rename_i h
  exact .inr ⟨rfl,aNe _ _ _ hl h.2⟩
 ·exact .inl rfl
theorem Dec.puts {l : Int} (hl : 0≤l) : ∀ (ts : List Int) (s : Hs),Dec s (ts.foldl (rS l) s)
 | [],_=>.inl rfl
 | t::r,s=>(Dec.put hl s t).trans (Dec.puts hl r _)
theorem Dec.one {fs : List cD} {code : List bM} (F : Fit fs code) (s : Hs) (pc : Nat) : Dec s (yS fs code s pc):=by
 unfold yS
 split
 ·rename_i x hx
  split
  ·rename_i hc
   exact Dec.puts (aJS (F.u x (List.mem_of_getElem? hx)) hc).1 _ _
  ·exact .inl rfl
 ·exact .inl rfl
theorem Dec.ones {fs : List cD} {code : List bM} (F : Fit fs code) : ∀ (l : List Nat) (s : Hs),Dec s (l.foldl (yS fs code) s)
 | [],_=>.inl rfl
 | t::r,s=>(Dec.one F s t).trans (Dec.ones F r _)
theorem Dec.pass {fs : List cD} {code : List bM} (F : Fit fs code) (s : List Int) : Dec (s,false) (qC fs code s):=Dec.ones F _ _
theorem aNf {l : Int} {s : Hs} {t : Int} (h : s.1[0]? = some 0) : (rS l s t).1[0]? = some 0:=by
 unfold rS
 split
 ·rename_i hc
  rw [List.getElem?_set]
  split
  ·rename_i h0
   rw [h0] at hc
   rw [h] at hc
   simp at hc
  ·exact h
 ·exact h
theorem aHU {l : Int} : ∀ (ts : List Int) (s : Hs),s.1[0]? = some 0→(ts.foldl (rS l) s).1[0]? = some 0
 | [],_,h=>h
 | t::r,s,h=>aHU r _ (aNf h)
theorem aNg {fs : List cD} {code : List bM} {s : Hs} (pc : Nat) (h : s.1[0]? = some 0) : (yS fs code s pc).1[0]? = some 0:=by
 unfold yS
 split
 ·split
  ·exact aHU _ _ h
  ·exact h
 ·exact h
theorem aD1 {fs : List cD} {code : List bM} : ∀ (l : List Nat) (s : Hs),s.1[0]? = some 0→(l.foldl (yS fs code) s).1[0]? = some 0
 | [],_,h=>h
 | t::r,s,h=>aD1 r _ (aNg t h)
theorem aJT {fs : List cD} {code : List bM} : ∀ (n : Nat) (s : List Int),s[0]? = some 0→(aC7 fs code n s)[0]? = some 0
 | 0,_,h=>h
 | n+1,s,h=>by
   unfold aC7
   split
   ·exact aJT n _ (aD1 _ _ h)
   ·exact aD1 _ _ h
theorem aLx {fs : List cD} {code : List bM} (F : Fit fs code) {m : Nat} : ∀ (n : Nat) (s : List Int),yT m s→yT m (aC7 fs code n s)
 | 0,_,h=>h
 | n+1,s,h=>by
   unfold aC7
   split
   ·exact aLx F n _ (h.pass F)
   ·exact h.pass F
theorem xP {fs : List cD} {code : List bM} (F : Fit fs code) : yT code.length (iG fs code):=aLx F _ _ yT.start
theorem aJU {fs : List cD} {code : List bM} (F : Fit fs code) : (iG fs code)[0]? = some 0:=by
 refine aJT _ _ ?_
 have:=F.n1
 rw [aIE,List.getElem?_set_self (by rw [List.length_replicate];omega)]
theorem aFh {s : List Int} {i : Nat} (h : i<s.length) : s[i]=s[i]?.getD 0:=by rw [List.getElem?_eq_getElem h];rfl
theorem aAr {fs : List cD} {code : List bM} (F : Fit fs code) {x : bM} (hx : x∈code) {pc : Nat} (hp : pc<code.length) : ∀ t∈fG x pc,0≤t∧t≤code.length:=by
 intro t ht
 unfold fG at ht
 rcases List.mem_append.1 ht with h | h
 ·split at h
  ·simp only [List.mem_singleton] at h;omega
  ·cases h
 ·split at h
  ·rename_i hj
   simp only [List.mem_singleton] at h
   have:=F.j x hx hj
   omega
  ·cases h
theorem aLy {l : Int} {s : Hs} {t : Int} (h1 : t<s.1.length) (h2 : s.1[t.toNat]?.getD 0<0) : rS l s t=(s.1.set t.toNat l,true):=if_pos ⟨h1,h2⟩
theorem aIF {l : Int} {s : Hs} {t : Int} (h : ¬ (t<s.1.length∧s.1[t.toNat]?.getD 0<0)) : rS l s t=s:=if_neg h
section
variable {fs : List cD} {code : List bM} {T : PV} (F : Fit fs code)
include F
theorem aMh {P : R→Prop} {pc : Nat} (hpc : pc<code.length) {left : Int} {ts : List Int} (hts : ∀ t∈ts,0≤t∧t≤code.length) (hn : ts.length≤10) {s : Hs} (hs : s.1.length=code.length)
 (h : Ok P (dT (.lst (code.map bM.pv)) (.bool (ts.foldl (rS left) s).2) (.int .i64 ((pc : Int)+1)) T (.lst (fs.map cD.pv)) (dN (ts.foldl (rS left) s).1))) :
 Ok P (eE (.lst (code.map bM.pv)) (.bool s.2) (.int .i64 pc) (.int .i64 left) (dN ts) (.int .i64 0) T (.lst (fs.map cD.pv)) (dN s.1)):=by
 have hn2:=F.n2
 refine aGz (n:=ts.length) (F:=fun i (q : Hs)=>eE (.lst (code.map bM.pv)) (.bool q.2) (.int .i64 pc) (.int .i64 left) (dN ts) (.int .i64 i) T (.lst (fs.map cD.pv)) (dN q.1))
  (fun i q=>q.1.length=code.length∧(ts.drop i).foldl (rS left) q=ts.foldl (rS left) s) ?_ ?_ 0 s (by omega) ⟨hs,by rw [List.drop_zero]⟩
 ·rintro q ⟨hq,he⟩
  rw [List.drop_length] at he
  have he : q=ts.foldl (rS left) s:=he
  subst he
  rw [oT]
  exact eH (aF (aC (fun h=>by omega) (fun _=>aN (by omega) h)))
 ·rintro i q hi ⟨hq,he⟩ ih
  have ht:=hts ts[i] (List.getElem_mem _)
  rw [List.drop_eq_getElem_cons hi,List.foldl_cons] at he
  have ih:=fun s'=>ih s'
  rw [oT]
  refine eH (aF (aC (fun _=>?_) (fun h=>by omega)))
  refine dU hi (aE (aF (aC (fun h1=>?_) (fun h1=>?_))))
  ·refine dU hi (fY (by omega) (by omega) (qB (by omega) (by omega) (fun v hv=>?_)))
   refine aF (aC (fun h2=>?_) (fun h2=>?_))
   ·rw [yM]
    refine dU hi (fY (by omega) (by omega) ?_)
    obtain ⟨t,et⟩:=Int.eq_ofNat_of_zero_le ht.1
    rw [et]
    refine uL (by omega) (aN (by omega) ?_)
    refine ih (q.1.set t left,true) ⟨by simpa using hq,?_⟩
    rw [aLy (by omega) (by rw [hv];exact h2),et] at he
    exact he
   ·refine aN (by omega) (ih q ⟨hq,?_⟩)
    rw [aIF (by rw [hv];simp only [Option.getD_some];omega)] at he
    exact he
  ·refine aN (by omega) (ih q ⟨hq,?_⟩)
   rw [aIF (by omega)] at he
   exact he
theorem aGB {P : R→Prop} {s : List Int} (hs : yT code.length s)
 (h : Ok P (gX (.lst (code.map bM.pv)) (.bool (qC fs code s).2) T (.lst (fs.map cD.pv)) (dN (qC fs code s).1))) :
 Ok P (dT (.lst (code.map bM.pv)) (.bool false) (.int .i64 0) T (.lst (fs.map cD.pv)) (dN s)):=by
 have hn2:=F.n2
 have hnf:=F.nf
 refine aGz (n:=code.length) (F:=fun i (q : Hs)=>dT (.lst (code.map bM.pv)) (.bool q.2) (.int .i64 i) T (.lst (fs.map cD.pv)) (dN q.1))
  (fun i q=>yT code.length q.1∧(List.range' i (code.length - i)).foldl (yS fs code) q=qC fs code s) ?_ ?_ 0 (s,false) (by omega) ⟨hs,rfl⟩
 ·rintro q ⟨hq,he⟩
  rw [Nat.sub_self] at he
  have he : q=qC fs code s:=he
  subst he
  rw [oS]
  exact aE (aF (aC (fun h=>by omega) (fun _=>h)))
 ·rintro i q hi ⟨hq,he⟩ ih
  have e1 : code.length - i=(code.length - (i+1))+1:=by omega
  rw [e1,List.range'_succ,List.foldl_cons] at he
  have hx : code[i]? = some code[i]:=List.getElem?_eq_getElem hi
  have hu:=F.u code[i] (List.getElem_mem _)
  have hil : i<q.1.length:=by rw [hq.1];exact hi
  have hv:=hq.at i
  have e2 : q.1[i]=q.1[i]?.getD 0:=aFh hil
  have hone:=hq.one F i
  have hgo:=ih (yS fs code q i) ⟨hone,he⟩
  have eo : yS fs code q i=if can fs code[i] (q.1[i]?.getD 0) then (fG code[i] i).foldl (rS (gO fs code[i] (q.1[i]?.getD 0))) q else q:=by
   conv=>lhs;unfold yS
   rw [hx]
  generalize hw : q.1[i]?.getD 0=w at *
  rw [oS]
  refine aE (aF (aC (fun _=>?_) (fun h=>by omega)))
  refine aS hi (fun _=>rfl) (aH (aHQ (T:=T) (by omega)) (fun r hr=>?_))
  subst hr
  refine bE rfl (bE rfl ?_)
  refine fY (by omega) (by omega) (dU hil (bN (by omega) (aN (by omega) (fY (by omega) (by omega) (dU hil ?_)))))
  rw [e2]
  refine aF (aC (fun h1=>?_) (fun h1=>?_))
  ·have hc : can fs code[i] w=false:=by simp only [can];rw [decide_eq_false (by omega)];rfl
   rw [hc,if_neg (by simp)] at eo
   rw [eo] at hgo
   exact aN (by omega) hgo
  refine gE (aC (fun h2=>?_) (fun h2=>?_))
  ·have hc : can fs code[i] w=false:=by simp only [can];rw [decide_eq_false (p:=gO fs code[i] w≤16) (by unfold gO;omega),Bool.and_false]
   rw [hc,if_neg (by simp)] at eo
   rw [eo] at hgo
   exact aN (by omega) hgo
  ·have hc : can fs code[i] w=true:=by simp only [can];rw [decide_eq_true (by omega),decide_eq_true (p:=gO fs code[i] w≤16) (by unfold gO;omega)];rfl
   rw [hc,if_pos rfl] at eo
   rw [eo] at hgo
   refine aS hi (fun _=>rfl) (aH (aHS (by omega)) (fun r hr=>?_))
   subst hr
   exact aMh F hi (aAr F (List.getElem_mem _) hi) (by unfold fG;repeat' split<;>simp) hq.1 hgo
theorem aMi : ∀ (j : Nat) (s : List Int),nn s≤j→yT code.length s→Ok (fun r=>r = [dN (aC7 fs code (j+1) s)]) (gX (.lst (code.map bM.pv)) (.bool true) T (.lst (fs.map cD.pv)) (dN s)):=by
 intro j
 induction j with
 | zero=>
   intro s hs hg
   rw [hY]
   refine aW (aGB F hg ?_)
   rcases Dec.pass F s with h | ⟨h,h2⟩
   ·unfold aC7
    rw [h,hY]
    exact aP (aB rfl)
   ·have h3 : nn (qC fs code s).1<nn s:=h2
    omega
 | succ j ih=>
   intro s hs hg
   rw [hY]
   refine aW (aGB F hg ?_)
   rcases Dec.pass F s with h | ⟨h,h2⟩
   ·unfold aC7
    rw [h,hY]
    exact aP (aB rfl)
   ·rw [aC7,h,if_pos rfl]
    exact ih _ (by have h3 : nn (qC fs code s).1<nn s:=h2;omega) (hg.pass F)
end
end
end Go.Proofs.YthkofpnllaapeaaGreatDoor
