/-
  Texts of the proof, part 5: a value-level evaluator and its soundness, what the functions compute, laws about it.
  Conditions: none.
-/
import Derived.Test.YtjgleeamiclokaaGreatD
import Derived.Calls
import Derived.KernelRfl
import Derived.Orders
import Derived.IntWalk
import Derived.Test.YtjgleeamiclokaaGreatProg
import Derived.Laws.IdiomCopy
import Derived.Laws.Cells
import Derived.Below
import Derived.Laws.StructEq
import Derived.Laws.BytesString
import Derived.Laws.NewFold
import Derived.Laws.Tables
import Derived.Great.FillDense
set_option linter.all false
namespace Go.Proofs.YtjgleeamiclokaaGreat
open Go
theorem laws_FnPlanned_eq (x0 : PV) : laws_FnPlanned x0 =
 bd (laws_big x0) fun r0 =>
 PV.ite (hd r0)
 (some [.bool true])
 (bd (spec_DrawPlanOf x0) fun r1 =>
 bd (PV.comp (hd r1) 0) fun v2 =>
 bd (PV.comp (hd r1) 1) fun v3 =>
 bd (PV.comp (hd r1) 2) fun v4 =>
 bd (PV.comp (hd r1) 3) fun v5 =>
 bd (PV.comp (hd r1) 4) fun v6 =>
 bd (PV.whole 2 v2) fun v7 =>
 bd (PV.cell v7 0) fun v8 =>
 bd (PV.cell v7 1) fun v9 =>
 bd (impl_PlanOf (.agg [v8, v9]) v3 v4 v5 v6) fun r10 =>
 bd (PV.whole 3 (hd r10)) fun v11 =>
 bd (PV.cell v11 0) fun v12 =>
 bd (PV.cell v11 1) fun v13 =>
 bd (PV.cell v11 2) fun v14 =>
 bd (spec_PlanOf (.agg [v8, v9]) v3 v4 v5 v6) fun r15 =>
 bd (PV.whole 3 (hd r15)) fun v16 =>
 bd (PV.cell v16 0) fun v17 =>
 bd (PV.cell v16 1) fun v18 =>
 bd (PV.cell v16 2) fun v19 =>
 bd (PV.len v12) fun v20 =>
 bd (PV.len v17) fun v21 =>
 bd (PV.bin .neq v20 v21) fun v22 =>
 PV.ite v22
 (some [.bool false])
 (bd (PV.bin .neq v13 v18) fun v23 =>
 PV.ite v23
 (some [.bool false])
 (bd (PV.beq .neq v14 v19) fun v24 =>
 PV.ite v24
 (some [.bool false])
 (bd (spec_ProfileOk (.agg [v8, v9]) v3) fun r25 =>
 bd (PV.not (hd r25)) fun v26 =>
 PV.ite v26
 (bd (PV.len v12) fun v27 =>
 bd (PV.bin .eql v27 (.int .i64 0)) fun v28 =>
 some [v28])
 (bd (PV.bin .lss v5 (.int .i64 0)) fun v29 =>
 PV.ite v29
 (bd (PV.len v12) fun v30 =>
 bd (PV.bin .eql v30 (.int .i64 0)) fun v31 =>
 some [v31])
 (bd (PV.bin .gtr v5 (.int .i64 3)) fun v32 =>
 PV.ite v32
 (bd (PV.len v12) fun v33 =>
 bd (PV.bin .eql v33 (.int .i64 0)) fun v34 =>
 some [v34])
 (laws_FnPlanned_c11 v3 v4 (.int .i64 0) v8 v9 v12 v13 v14 v17 v18 v19))))))) := pcallEq _ _ _ (by kernel_rfl)
theorem laws_FnPlanned_c11_eq (x0 x1 x2 x3 x4 x5 x6 x7 x8 x9 x10 : PV) : laws_FnPlanned_c11 x0 x1 x2 x3 x4 x5 x6 x7 x8 x9 x10 =
 bd (PV.len x5) fun v0 =>
 bd (PV.bin .lss x2 v0) fun v1 =>
 PV.ite v1
 (bd (PV.at_ 4 true x5 x2) fun v2 =>
 bd (PV.whole 4 v2) fun v3 =>
 bd (PV.cell v3 0) fun v4 =>
 bd (PV.cell v3 1) fun v5 =>
 bd (PV.cell v3 2) fun v6 =>
 bd (PV.cell v3 3) fun v7 =>
 bd (impl_SiteAt x0 v4 v5) fun r8 =>
 bd (PV.whole 4 (hd r8)) fun v9 =>
 bd (PV.cell v9 0) fun v10 =>
 bd (PV.cell v9 1) fun v11 =>
 bd (PV.cell v9 2) fun v12 =>
 bd (PV.cell v9 3) fun v13 =>
 bd (PV.at_ 4 true x8 x2) fun v14 =>
 bd (PV.whole 4 v14) fun v15 =>
 bd (PV.cell v15 0) fun v16 =>
 bd (PV.cell v15 1) fun v17 =>
 bd (PV.cell v15 2) fun v18 =>
 bd (PV.cell v15 3) fun v19 =>
 bd (PV.ceq [1, 1, 1, 1] .neq (.agg [v4, v5, v6, v7]) (.agg [v16, v17, v18, v19])) fun v20 =>
 PV.ite v20
 (some [.bool false])
 (bd (PV.bin .neq v12 (.int .i64 1)) fun v21 =>
 PV.ite v21
 (some [.bool false])
 (bd (PV.bin .eql v6 (.int .i64 2)) fun v22 =>
 PV.ite v22
 (bd (PV.bin .neq v13 v7) fun v23 =>
 PV.ite v23
 (some [.bool false])
 (laws_FnPlanned_c18 x0 x1 x2 (.int .i64 0) x3 x4 x5 x6 x7 x8 x9 x10 v4 v5 v6 v7))
 (laws_FnPlanned_c18 x0 x1 x2 (.int .i64 0) x3 x4 x5 x6 x7 x8 x9 x10 v4 v5 v6 v7))))
 (bd (impl_PlanOk (.agg [x3, x4]) (.agg [x5, x6, x7])) fun r24 =>
 some [(hd r24)]) := goOnEq _ _ _ _ _ _ _ _ (by kernel_rfl)
theorem laws_FnPlanned_c18_eq (x0 x1 x2 x3 x4 x5 x6 x7 x8 x9 x10 x11 x12 x13 x14 x15 : PV) : laws_FnPlanned_c18 x0 x1 x2 x3 x4 x5 x6 x7 x8 x9 x10 x11 x12 x13 x14 x15 =
 bd (PV.len x1) fun v0 =>
 bd (PV.bin .lss x3 v0) fun v1 =>
 PV.ite v1
 (bd (PV.at_ 4 true x1 x3) fun v2 =>
 bd (PV.cell v2 0) fun v3 =>
 bd (PV.bin .eql v3 x12) fun v4 =>
 PV.ite v4
 (bd (PV.at_ 4 true x1 x3) fun v5 =>
 bd (PV.cell v5 1) fun v6 =>
 bd (PV.bin .eql v6 x13) fun v7 =>
 PV.ite v7
 (bd (PV.at_ 4 true x1 x3) fun v8 =>
 bd (PV.cell v8 2) fun v9 =>
 bd (PV.bin .eql v9 x14) fun v10 =>
 PV.ite v10
 (some [.bool false])
 (bd (PV.bin .add x3 (.int .i64 1)) fun v11 =>
 laws_FnPlanned_c18 x0 x1 x2 v11 x4 x5 x6 x7 x8 x9 x10 x11 x12 x13 x14 x15))
 (bd (PV.bin .add x3 (.int .i64 1)) fun v12 =>
 laws_FnPlanned_c18 x0 x1 x2 v12 x4 x5 x6 x7 x8 x9 x10 x11 x12 x13 x14 x15))
 (bd (PV.bin .add x3 (.int .i64 1)) fun v13 =>
 laws_FnPlanned_c18 x0 x1 x2 v13 x4 x5 x6 x7 x8 x9 x10 x11 x12 x13 x14 x15))
 (bd (PV.bin .add x2 (.int .i64 1)) fun v14 =>
 laws_FnPlanned_c11 x0 x1 v14 x4 x5 x6 x7 x8 x9 x10 x11) := goOnEq _ _ _ _ _ _ _ _ (by kernel_rfl)
theorem laws_big_eq (x0 : PV) : laws_big x0 = bd (PV.len x0) fun v0 => bd (PV.bin .gtr v0 (.int .i64 1048576)) fun v1 => some [v1] := pcallEq _ _ _ (by kernel_rfl)
theorem spec_DrawPlanOf_eq (x0 : PV) : spec_DrawPlanOf x0 =
 bd (spec_l01Open x0) fun r0 =>
 bd (spec_l05DrawMany (gd r0 0) (gd r0 1) (gd r0 2)) fun r1 =>
 bd (PV.whole 2 (gd r1 0)) fun v2 =>
 bd (PV.cell v2 0) fun v3 =>
 bd (PV.cell v2 1) fun v4 =>
 bd (spec_l07DrawProfile v3 v4 (.int .i64 20) (gd r1 1) (gd r1 2) (gd r1 3)) fun r5 =>
 bd (spec_l01Cur_pick (.int .i64 4) (gd r5 1) (gd r5 2) (gd r5 3)) fun r6 =>
 spec_DrawPlanOf_c6 (gd r5 0) (gd r6 0) (gd r6 1) (gd r6 2) (gd r6 3) v3 v4 (.lst []) (.lst []) (.lst []) := pcallEq _ _ _ (by kernel_rfl)
theorem spec_DrawPlanOf_c6_eq (x0 x1 x2 x3 x4 x5 x6 x7 x8 x9 : PV) : spec_DrawPlanOf_c6 x0 x1 x2 x3 x4 x5 x6 x7 x8 x9 =
 bd (PV.bin .gtr x1 (.int .i64 0)) fun v0 =>
 PV.ite v0
 (bd (PV.len x0) fun v1 =>
 bd (PV.bin .gtr v1 (.int .i64 0)) fun v2 =>
 PV.ite v2
 (bd (PV.len x0) fun v3 =>
 bd (spec_l01Cur_pick v3 x2 x3 x4) fun r4 =>
 bd (PV.at_ 4 true x0 (gd r4 0)) fun v5 =>
 bd (PV.whole 4 v5) fun v6 =>
 bd (PV.cell v6 0) fun v7 =>
 bd (PV.cell v6 1) fun v8 =>
 bd (PV.cell v6 2) fun v9 =>
 bd (PV.cell v6 3) fun v10 =>
 bd (spec_l01Cur_pick (.int .i64 2) (gd r4 1) (gd r4 2) (gd r4 3)) fun r11 =>
 bd (PV.bin .add (.int .i64 1) (gd r11 0)) fun v12 =>
 bd (spec_l01Cur_pick (.int .i64 3) (gd r11 1) (gd r11 2) (gd r11 3)) fun r13 =>
 bd (PV.one v7) fun v14 =>
 bd (PV.one v8) fun v15 =>
 bd (PV.one v12) fun v16 =>
 bd (PV.one (gd r13 0)) fun v17 =>
 bd (PV.cat 4 32 true x9 (.lst [(.agg [v14, v15, v16, v17])])) fun v18 =>
 bd (PV.bin .sub x1 (.int .i64 1)) fun v19 =>
 spec_DrawPlanOf_c6 x0 v19 (gd r13 1) (gd r13 2) (gd r13 3) x5 x6 x7 x8 v18)
 (bd (spec_l01Cur_pick (.int .i64 6) x2 x3 x4) fun r20 =>
 bd (PV.bin .sub (gd r20 0) (.int .i64 1)) fun v21 =>
 bd (spec_l01Cur_once (.int .i64 2) (gd r20 1) (gd r20 2) (gd r20 3)) fun r22 =>
 some [(.tup [(.agg [x5, x6]), x0, x9, v21, (gd r22 0)])]))
 (bd (spec_l01Cur_pick (.int .i64 6) x2 x3 x4) fun r23 =>
 bd (PV.bin .sub (gd r23 0) (.int .i64 1)) fun v24 =>
 bd (spec_l01Cur_once (.int .i64 2) (gd r23 1) (gd r23 2) (gd r23 3)) fun r25 =>
 some [(.tup [(.agg [x5, x6]), x0, x9, v24, (gd r25 0)])]) := goOnEq _ _ _ _ _ _ _ _ (by kernel_rfl)
theorem impl_PlanOf_eq (x0 x1 x2 x3 x4 : PV) : impl_PlanOf x0 x1 x2 x3 x4 =
 bd (PV.whole 2 x0) fun v0 =>
 bd (PV.cell v0 0) fun v1 =>
 bd (PV.cell v0 1) fun v2 =>
 bd (impl_ProfileOk (.agg [v1, v2]) x1) fun r3 =>
 bd (PV.not (hd r3)) fun v4 =>
 PV.ite v4
 (some [(.agg [(.lst []), (.int .i64 0), (.bool false)])])
 (bd (impl_inRange x3 (.int .i64 0) (.int .i64 3)) fun r5 =>
 bd (PV.not (hd r5)) fun v6 =>
 PV.ite v6
 (some [(.agg [(.lst []), (.int .i64 0), (.bool false)])])
 (bd (PV.one x3) fun v7 =>
 bd (PV.one x4) fun v8 =>
 bd (PV.len x1) fun v9 =>
 impl_PlanOf_c5 x2 x1 v9 (.int .i64 0) v1 v2 (.int .i64 0) (.bool false) v7 v8 (.lst []) (.lst []))) := pcallEq _ _ _ (by kernel_rfl)
theorem impl_PlanOf_c5_eq (x0 x1 x2 x3 x4 x5 x6 x7 x8 x9 x10 x11 : PV) : impl_PlanOf_c5 x0 x1 x2 x3 x4 x5 x6 x7 x8 x9 x10 x11 =
 bd (PV.bin .lss x3 x2) fun v0 =>
 PV.ite v0
 (bd (PV.at_ 4 true x1 x3) fun v1 =>
 bd (PV.whole 4 v1) fun v2 =>
 bd (PV.cell v2 0) fun v3 =>
 bd (PV.cell v2 1) fun v4 =>
 bd (PV.cell v2 2) fun v5 =>
 bd (PV.cell v2 3) fun v6 =>
 bd (PV.one v3) fun v7 =>
 bd (PV.one v4) fun v8 =>
 bd (PV.one v6) fun v9 =>
 bd (PV.at_ 3 true x5 v3) fun v10 =>
 bd (PV.cell v10 2) fun v11 =>
 bd (PV.at_ 2 true v11 v4) fun v12 =>
 bd (PV.cell v12 0) fun v13 =>
 bd (PV.bin .eql v13 (.int .i64 23)) fun v14 =>
 PV.ite v14
 (impl_PlanOf_c10 x0 x1 x2 x3 x4 x5 x6 x7 x8 x9 v3 v4 v5 v6 v7 v8 (.int .i64 2) v9 x10 x11)
 (impl_PlanOf_c10 x0 x1 x2 x3 x4 x5 x6 x7 x8 x9 v3 v4 v5 v6 v7 v8 (.int .i64 1) v9 x10 x11))
 (some [(.agg [x11, x8, x9])]) := goOnEq _ _ _ _ _ _ _ _ (by kernel_rfl)
theorem impl_PlanOf_c10_eq (x0 x1 x2 x3 x4 x5 x6 x7 x8 x9 x10 x11 x12 x13 x14 x15 x16 x17 x18 x19 : PV) : impl_PlanOf_c10 x0 x1 x2 x3 x4 x5 x6 x7 x8 x9 x10 x11 x12 x13 x14 x15 x16 x17 x18 x19 =
 bd (slices_ContainsFunc_impl_Spec_impl_Spec x0 (.fn 51 [(.bx [x14, x15, x16, x17])])) fun r0 =>
 PV.guardFlat (hd r0) (
 bd (PV.bin .eql x12 (.int .i64 1)) fun v1 =>
 PV.ite v1
 (bd (PV.not (hd r0)) fun v2 =>
 PV.ite v2
 (bd (impl_specOk (.agg [x4, x5]) (.agg [x14, x15, x16, x17])) fun r3 =>
 PV.ite (hd r3)
 (impl_PlanOf_c12 x0 x1 x2 x3 x4 x5 x6 x7 x8 x9 x14 x15 x16 x17 x18 x19)
 (bd (PV.bin .add x3 (.int .i64 1)) fun v4 =>
 impl_PlanOf_c5 x0 x1 x2 v4 x4 x5 x6 x7 x8 x9 x18 x19))
 (bd (PV.bin .add x3 (.int .i64 1)) fun v5 =>
 impl_PlanOf_c5 x0 x1 x2 v5 x4 x5 x6 x7 x8 x9 x18 x19))
 (bd (PV.bin .add x3 (.int .i64 1)) fun v6 =>
 impl_PlanOf_c5 x0 x1 x2 v6 x4 x5 x6 x7 x8 x9 x18 x19)) := goOnEq _ _ _ _ _ _ _ _ (by kernel_rfl)
theorem impl_PlanOf_c12_eq (x0 x1 x2 x3 x4 x5 x6 x7 x8 x9 x10 x11 x12 x13 x14 x15 : PV) : impl_PlanOf_c12 x0 x1 x2 x3 x4 x5 x6 x7 x8 x9 x10 x11 x12 x13 x14 x15 =
 bd (PV.cat 4 32 true x15 (.lst [(.agg [x10, x11, x12, x13])])) fun v0 =>
 bd (PV.bin .add x3 (.int .i64 1)) fun v1 =>
 impl_PlanOf_c5 x0 x1 x2 v1 x4 x5 x6 x7 x8 x9 x14 v0 := goOnEq _ _ _ _ _ _ _ _ (by kernel_rfl)
theorem spec_PlanOf_eq (x0 x1 x2 x3 x4 : PV) : spec_PlanOf x0 x1 x2 x3 x4 =
 bd (PV.whole 2 x0) fun v0 =>
 bd (PV.cell v0 0) fun v1 =>
 bd (PV.cell v0 1) fun v2 =>
 bd (spec_ProfileOk (.agg [v1, v2]) x1) fun r3 =>
 bd (PV.not (hd r3)) fun v4 =>
 PV.ite v4
 (some [(.agg [(.lst []), (.int .i64 0), (.bool false)])])
 (bd (spec_l01Between x3 (.int .i64 0) (.int .i64 3)) fun r5 =>
 bd (PV.not (hd r5)) fun v6 =>
 PV.ite v6
 (some [(.agg [(.lst []), (.int .i64 0), (.bool false)])])
 (bd (spec_l09Plan (.agg [v1, v2]) x1 x2 x3 x4) fun r7 =>
 bd (PV.whole 3 (hd r7)) fun v8 =>
 bd (PV.cell v8 0) fun v9 =>
 bd (PV.cell v8 1) fun v10 =>
 bd (PV.cell v8 2) fun v11 =>
 some [(.agg [v9, v10, v11])])) := pcallEq _ _ _ (by kernel_rfl)
theorem spec_ProfileOk_eq (x0 x1 : PV) : spec_ProfileOk x0 x1 =
 bd (PV.whole 2 x0) fun v0 =>
 bd (PV.cell v0 0) fun v1 =>
 bd (PV.cell v0 1) fun v2 =>
 bd (spec_l03Good (.agg [v1, v2])) fun r3 =>
 PV.ite (hd r3)
 (bd (spec_l07Ok (.agg [v1, v2]) x1) fun r4 =>
 some [(hd r4)])
 (some [.bool false]) := pcallEq _ _ _ (by kernel_rfl)
theorem impl_SiteAt_eq (x0 x1 x2 : PV) : impl_SiteAt x0 x1 x2 =
 bd (PV.len x0) fun v0 =>
 impl_SiteAt_c2 x1 x2 x0 v0 (.int .i64 0) (.int .i64 0) (.int .i64 0) (.int .i64 0) (.int .i64 0) := pcallEq _ _ _ (by kernel_rfl)
theorem impl_SiteAt_c2_eq (x0 x1 x2 x3 x4 x5 x6 x7 x8 : PV) : impl_SiteAt_c2 x0 x1 x2 x3 x4 x5 x6 x7 x8 =
 bd (PV.bin .lss x4 x3) fun v0 =>
 PV.ite v0
 (bd (PV.at_ 4 true x2 x4) fun v1 =>
 bd (PV.whole 4 v1) fun v2 =>
 bd (PV.cell v2 0) fun v3 =>
 bd (PV.cell v2 1) fun v4 =>
 bd (PV.cell v2 2) fun v5 =>
 bd (PV.cell v2 3) fun v6 =>
 bd (PV.bin .eql v3 x0) fun v7 =>
 PV.ite v7
 (bd (PV.bin .eql v4 x1) fun v8 =>
 PV.ite v8
 (some [(.agg [v3, v4, v5, v6])])
 (bd (PV.bin .add x4 (.int .i64 1)) fun v9 =>
 impl_SiteAt_c2 x0 x1 x2 x3 v9 x5 x6 x7 x8))
 (bd (PV.bin .add x4 (.int .i64 1)) fun v10 =>
 impl_SiteAt_c2 x0 x1 x2 x3 v10 x5 x6 x7 x8))
 (some [(.agg [(.int .i64 0), (.int .i64 0), (.int .i64 0), (.int .i64 0)])]) := goOnEq _ _ _ _ _ _ _ _ (by kernel_rfl)
theorem impl_PlanOk_eq (x0 x1 : PV) : impl_PlanOk x0 x1 =
 bd (PV.whole 2 x0) fun v0 =>
 bd (PV.cell v0 0) fun v1 =>
 bd (PV.cell v0 1) fun v2 =>
 bd (PV.whole 3 x1) fun v3 =>
 bd (PV.cell v3 0) fun v4 =>
 bd (PV.cell v3 1) fun v5 =>
 bd (PV.cell v3 2) fun v6 =>
 bd (impl_isGood (.agg [v1, v2])) fun r7 =>
 PV.ite (hd r7)
 (bd (impl_planOk (.agg [v1, v2]) (.agg [v4, v5, v6])) fun r8 =>
 some [(hd r8)])
 (some [.bool false]) := pcallEq _ _ _ (by kernel_rfl)
theorem impl_ProfileOk_eq (x0 x1 : PV) : impl_ProfileOk x0 x1 =
 bd (PV.whole 2 x0) fun v0 =>
 bd (PV.cell v0 0) fun v1 =>
 bd (PV.cell v0 1) fun v2 =>
 bd (impl_isGood (.agg [v1, v2])) fun r3 =>
 PV.ite (hd r3)
 (bd (impl_profileOk (.agg [v1, v2]) x1) fun r4 =>
 some [(hd r4)])
 (some [.bool false]) := pcallEq _ _ _ (by kernel_rfl)
theorem impl_inRange_eq (x0 x1 x2 : PV) : impl_inRange x0 x1 x2 =
 bd (PV.bin .leq x1 x0) fun v0 =>
 PV.ite v0
 (bd (PV.bin .leq x0 x2) fun v1 =>
 some [v1])
 (some [.bool false]) := pcallEq _ _ _ (by kernel_rfl)
theorem slices_ContainsFunc_impl_Spec_impl_Spec_eq (x0 x1 : PV) : slices_ContainsFunc_impl_Spec_impl_Spec x0 x1 =
 bd (slices_IndexFunc_impl_Spec_impl_Spec x0 x1) fun r0 =>
 bd (PV.bin .geq (hd r0) (.int .i64 0)) fun v1 =>
 some [v1] := pcallEq _ _ _ (by kernel_rfl)
theorem impl_PlanOf_1_eq (x0 x1 : PV) : impl_PlanOf_1 x0 x1 =
 bd (PV.whole 4 x0) fun v0 =>
 bd (PV.cell v0 0) fun v1 =>
 bd (PV.cell v0 1) fun v2 =>
 bd (PV.cell v0 2) fun v3 =>
 bd (PV.cell v0 3) fun v4 =>
 bd (PV.isPtr x1) fun v5 =>
 bd (PV.deref v5 0) fun v6 =>
 bd (PV.bin .eql v1 v6) fun v7 =>
 PV.ite v7
 (bd (PV.isPtr x1) fun v8 =>
 bd (PV.deref v8 1) fun v9 =>
 bd (PV.bin .eql v2 v9) fun v10 =>
 PV.ite v10
 (bd (PV.isPtr x1) fun v11 =>
 bd (PV.deref v11 2) fun v12 =>
 bd (PV.bin .eql v3 v12) fun v13 =>
 some [v13])
 (some [.bool false]))
 (some [.bool false]) := pcallEq _ _ _ (by kernel_rfl)
theorem impl_specOk_eq (x0 x1 : PV) : impl_specOk x0 x1 =
 bd (PV.whole 2 x0) fun v0 =>
 bd (PV.cell v0 0) fun v1 =>
 bd (PV.cell v0 1) fun v2 =>
 bd (PV.whole 4 x1) fun v3 =>
 bd (PV.cell v3 0) fun v4 =>
 bd (PV.cell v3 1) fun v5 =>
 bd (PV.cell v3 2) fun v6 =>
 bd (PV.cell v3 3) fun v7 =>
 bd (impl_insAt (.agg [v1, v2]) v4 v5) fun r8 =>
 bd (PV.comp (hd r8) 0) fun v9 =>
 bd (PV.comp (hd r8) 1) fun v10 =>
 bd (PV.whole 2 v9) fun v11 =>
 bd (PV.cell v11 0) fun v12 =>
 bd (PV.cell v11 1) fun v13 =>
 bd (PV.not v10) fun v14 =>
 PV.ite v14
 (some [.bool false])
 (bd (PV.bin .eql v6 (.int .i64 1)) fun v15 =>
 PV.ite v15
 (bd (impl_isArith (.agg [v12, v13])) fun r16 =>
 PV.ite (hd r16)
 (bd (PV.bin .eql v7 (.int .i64 0)) fun v17 =>
 some [v17])
 (some [.bool false]))
 (bd (PV.bin .eql v6 (.int .i64 2)) fun v18 =>
 PV.ite v18
 (bd (PV.bin .eql v12 (.int .i64 23)) fun v19 =>
 PV.ite v19
 (bd (PV.len v2) fun v20 =>
 bd (impl_isPlace v7 v20) fun r21 =>
 PV.ite (hd r21)
 (bd (PV.at_ 3 true v2 v7) fun v22 =>
 bd (PV.cell v22 0) fun v23 =>
 bd (PV.bin .eql v23 v13) fun v24 =>
 some [v24])
 (some [.bool false]))
 (some [.bool false]))
 (some [.bool false]))) := pcallEq _ _ _ (by kernel_rfl)
theorem spec_l01Between_eq (x0 x1 x2 : PV) : spec_l01Between x0 x1 x2 =
 bd (PV.bin .geq x0 x1) fun v0 =>
 PV.ite v0
 (bd (PV.bin .leq x0 x2) fun v1 =>
 some [v1])
 (some [.bool false]) := pcallEq _ _ _ (by kernel_rfl)
theorem spec_l09Plan_eq (x0 x1 x2 x3 x4 : PV) : spec_l09Plan x0 x1 x2 x3 x4 =
 bd (PV.whole 2 x0) fun v0 =>
 bd (PV.cell v0 0) fun v1 =>
 bd (PV.cell v0 1) fun v2 =>
 bd (PV.one x3) fun v3 =>
 bd (PV.one x4) fun v4 =>
 spec_l09Plan_c3 x1 x2 (.int .i64 0) v1 v2 (.int .i64 0) (.bool false) v3 v4 (.lst []) (.lst []) := pcallEq _ _ _ (by kernel_rfl)
theorem spec_l09Plan_c3_eq (x0 x1 x2 x3 x4 x5 x6 x7 x8 x9 x10 : PV) : spec_l09Plan_c3 x0 x1 x2 x3 x4 x5 x6 x7 x8 x9 x10 =
 bd (PV.len x0) fun v0 =>
 bd (PV.bin .lss x2 v0) fun v1 =>
 PV.ite v1
 (bd (PV.at_ 4 true x0 x2) fun v2 =>
 bd (PV.cell v2 0) fun v3 =>
 bd (PV.at_ 4 true x0 x2) fun v4 =>
 bd (PV.cell v4 1) fun v5 =>
 bd (PV.one v3) fun v6 =>
 bd (PV.one v5) fun v7 =>
 bd (PV.at_ 3 true x4 v6) fun v8 =>
 bd (PV.cell v8 2) fun v9 =>
 bd (PV.at_ 2 true v9 v7) fun v10 =>
 bd (PV.cell v10 0) fun v11 =>
 bd (PV.bin .eql v11 (.int .i64 23)) fun v12 =>
 PV.ite v12
 (bd (PV.at_ 4 true x0 x2) fun v13 =>
 bd (PV.cell v13 3) fun v14 =>
 bd (PV.one v14) fun v15 =>
 spec_l09Plan_c9 x0 x1 x2 x3 x4 x5 x6 x7 x8 v6 v7 (.int .i64 2) v15 x9 x10)
 (spec_l09Plan_c9 x0 x1 x2 x3 x4 x5 x6 x7 x8 v6 v7 (.int .i64 1) (.int .i64 0) x9 x10))
 (some [(.agg [x10, x7, x8])]) := goOnEq _ _ _ _ _ _ _ _ (by kernel_rfl)
theorem spec_l09Plan_c9_eq (x0 x1 x2 x3 x4 x5 x6 x7 x8 x9 x10 x11 x12 x13 x14 : PV) : spec_l09Plan_c9 x0 x1 x2 x3 x4 x5 x6 x7 x8 x9 x10 x11 x12 x13 x14 =
 bd (PV.at_ 4 true x0 x2) fun v0 =>
 bd (PV.cell v0 2) fun v1 =>
 bd (PV.bin .neq v1 (.int .i64 1)) fun v2 =>
 PV.ite v2
 (spec_l09Plan_c11 x0 x1 x2 (.bool true) (.int .i64 0) x3 x4 x5 x6 x7 x8 x9 x10 x11 x12 x13 x14)
 (bd (spec_l09SpecOk (.agg [x3, x4]) (.agg [x9, x10, x11, x12])) fun r3 =>
 bd (PV.not (hd r3)) fun v4 =>
 spec_l09Plan_c11 x0 x1 x2 v4 (.int .i64 0) x3 x4 x5 x6 x7 x8 x9 x10 x11 x12 x13 x14) := goOnEq _ _ _ _ _ _ _ _ (by kernel_rfl)
theorem spec_l09Plan_c11_eq (x0 x1 x2 x3 x4 x5 x6 x7 x8 x9 x10 x11 x12 x13 x14 x15 x16 : PV) : spec_l09Plan_c11 x0 x1 x2 x3 x4 x5 x6 x7 x8 x9 x10 x11 x12 x13 x14 x15 x16 =
 bd (PV.len x1) fun v0 =>
 bd (PV.bin .lss x4 v0) fun v1 =>
 PV.ite v1
 (PV.ite x3
 (bd (PV.bin .add x4 (.int .i64 1)) fun v2 =>
 spec_l09Plan_c11 x0 x1 x2 (.bool true) v2 x5 x6 x7 x8 x9 x10 x11 x12 x13 x14 x15 x16)
 (bd (PV.at_ 4 true x1 x4) fun v3 =>
 bd (PV.cell v3 0) fun v4 =>
 bd (PV.bin .eql v4 x11) fun v5 =>
 PV.ite v5
 (bd (PV.at_ 4 true x1 x4) fun v6 =>
 bd (PV.cell v6 1) fun v7 =>
 bd (PV.bin .eql v7 x12) fun v8 =>
 PV.ite v8
 (bd (PV.at_ 4 true x1 x4) fun v9 =>
 bd (PV.cell v9 2) fun v10 =>
 bd (PV.bin .eql v10 x13) fun v11 =>
 bd (PV.bin .add x4 (.int .i64 1)) fun v12 =>
 spec_l09Plan_c11 x0 x1 x2 v11 v12 x5 x6 x7 x8 x9 x10 x11 x12 x13 x14 x15 x16)
 (bd (PV.bin .add x4 (.int .i64 1)) fun v13 =>
 spec_l09Plan_c11 x0 x1 x2 (.bool false) v13 x5 x6 x7 x8 x9 x10 x11 x12 x13 x14 x15 x16))
 (bd (PV.bin .add x4 (.int .i64 1)) fun v14 =>
 spec_l09Plan_c11 x0 x1 x2 (.bool false) v14 x5 x6 x7 x8 x9 x10 x11 x12 x13 x14 x15 x16)))
 (bd (PV.not x3) fun v15 =>
 PV.ite v15
 (bd (PV.cat 4 32 true x16 (.lst [(.agg [x11, x12, x13, x14])])) fun v16 =>
 bd (PV.bin .add x2 (.int .i64 1)) fun v17 =>
 spec_l09Plan_c3 x0 x1 v17 x5 x6 x7 x8 x9 x10 x15 v16)
 (bd (PV.bin .add x2 (.int .i64 1)) fun v18 =>
 spec_l09Plan_c3 x0 x1 v18 x5 x6 x7 x8 x9 x10 x15 x16)) := goOnEq _ _ _ _ _ _ _ _ (by kernel_rfl)
theorem spec_l03Good_eq (x0 : PV) : spec_l03Good x0 =
 bd (PV.whole 2 x0) fun v0 =>
 bd (PV.cell v0 0) fun v1 =>
 bd (PV.cell v0 1) fun v2 =>
 bd (spec_Verify (.agg [v1, v2])) fun r3 =>
 bd (PV.cell (hd r3) 0) fun v4 =>
 bd (PV.bin .eql v4 (.int .i64 0)) fun v5 =>
 some [v5] := pcallEq _ _ _ (by kernel_rfl)
theorem spec_l07Ok_eq (x0 x1 : PV) : spec_l07Ok x0 x1 =
 bd (PV.whole 2 x0) fun v0 =>
 bd (PV.cell v0 0) fun v1 =>
 bd (PV.cell v0 1) fun v2 =>
 bd (PV.len x1) fun v3 =>
 bd (PV.bin .gtr v3 (.int .i64 150)) fun v4 =>
 PV.ite v4
 (some [.bool false])
 (spec_l07Ok_c4 x1 (.int .i64 0) v1 v2) := pcallEq _ _ _ (by kernel_rfl)
theorem spec_l07Ok_c4_eq (x0 x1 x2 x3 : PV) : spec_l07Ok_c4 x0 x1 x2 x3 =
 bd (PV.len x0) fun v0 =>
 bd (PV.bin .lss x1 v0) fun v1 =>
 PV.ite v1
 (bd (PV.at_ 4 true x0 x1) fun v2 =>
 bd (PV.whole 4 v2) fun v3 =>
 bd (PV.cell v3 0) fun v4 =>
 bd (PV.cell v3 1) fun v5 =>
 bd (PV.cell v3 2) fun v6 =>
 bd (PV.cell v3 3) fun v7 =>
 bd (PV.bin .gtr x1 (.int .i64 0)) fun v8 =>
 PV.ite v8
 (bd (PV.bin .sub x1 (.int .i64 1)) fun v9 =>
 bd (PV.at_ 4 true x0 v9) fun v10 =>
 bd (spec_l07Less v10 (.agg [v4, v5, v6, v7])) fun r11 =>
 bd (PV.not (hd r11)) fun v12 =>
 PV.ite v12
 (some [.bool false])
 (bd (PV.len x3) fun v13 =>
 bd (PV.bin .sub v13 (.int .i64 1)) fun v14 =>
 bd (spec_l01Between v4 (.int .i64 0) v14) fun r15 =>
 bd (PV.not (hd r15)) fun v16 =>
 PV.ite v16
 (some [.bool false])
 (bd (PV.at_ 3 true x3 v4) fun v17 =>
 bd (PV.cell v17 2) fun v18 =>
 bd (PV.len v18) fun v19 =>
 bd (PV.bin .sub v19 (.int .i64 1)) fun v20 =>
 bd (spec_l01Between v5 (.int .i64 0) v20) fun r21 =>
 bd (PV.not (hd r21)) fun v22 =>
 PV.ite v22
 (some [.bool false])
 (bd (PV.at_ 3 true x3 v4) fun v23 =>
 bd (PV.cell v23 2) fun v24 =>
 bd (PV.at_ 2 true v24 v5) fun v25 =>
 bd (PV.cell v25 0) fun v26 =>
 bd (spec_l07Is v26) fun r27 =>
 bd (PV.not (hd r27)) fun v28 =>
 PV.ite v28
 (some [.bool false])
 (bd (spec_l01Between v6 (.int .i64 1) (.int .i64 3)) fun r29 =>
 bd (PV.not (hd r29)) fun v30 =>
 PV.ite v30
 (some [.bool false])
 (bd (PV.bin .eql v26 (.int .i64 23)) fun v31 =>
 PV.ite v31
 (bd (PV.bin .eql v6 (.int .i64 1)) fun v32 =>
 PV.ite v32
 (spec_l07Ok_c13 x0 x1 x2 x3 v4 v5 v6 v7)
 (spec_l07Ok_c15 x0 x1 v26 x2 x3 v4 v5 v6 v7))
 (spec_l07Ok_c15 x0 x1 v26 x2 x3 v4 v5 v6 v7)))))))
 (bd (PV.len x3) fun v33 =>
 bd (PV.bin .sub v33 (.int .i64 1)) fun v34 =>
 bd (spec_l01Between v4 (.int .i64 0) v34) fun r35 =>
 bd (PV.not (hd r35)) fun v36 =>
 PV.ite v36
 (some [.bool false])
 (bd (PV.at_ 3 true x3 v4) fun v37 =>
 bd (PV.cell v37 2) fun v38 =>
 bd (PV.len v38) fun v39 =>
 bd (PV.bin .sub v39 (.int .i64 1)) fun v40 =>
 bd (spec_l01Between v5 (.int .i64 0) v40) fun r41 =>
 bd (PV.not (hd r41)) fun v42 =>
 PV.ite v42
 (some [.bool false])
 (bd (PV.at_ 3 true x3 v4) fun v43 =>
 bd (PV.cell v43 2) fun v44 =>
 bd (PV.at_ 2 true v44 v5) fun v45 =>
 bd (PV.cell v45 0) fun v46 =>
 bd (spec_l07Is v46) fun r47 =>
 bd (PV.not (hd r47)) fun v48 =>
 PV.ite v48
 (some [.bool false])
 (bd (spec_l01Between v6 (.int .i64 1) (.int .i64 3)) fun r49 =>
 bd (PV.not (hd r49)) fun v50 =>
 PV.ite v50
 (some [.bool false])
 (bd (PV.bin .eql v46 (.int .i64 23)) fun v51 =>
 PV.ite v51
 (bd (PV.bin .eql v6 (.int .i64 1)) fun v52 =>
 PV.ite v52
 (spec_l07Ok_c13 x0 x1 x2 x3 v4 v5 v6 v7)
 (spec_l07Ok_c15 x0 x1 v46 x2 x3 v4 v5 v6 v7))
 (spec_l07Ok_c15 x0 x1 v46 x2 x3 v4 v5 v6 v7)))))))
 (some [.bool true]) := goOnEq _ _ _ _ _ _ _ _ (by kernel_rfl)
theorem spec_l07Ok_c13_eq (x0 x1 x2 x3 x4 x5 x6 x7 : PV) : spec_l07Ok_c13 x0 x1 x2 x3 x4 x5 x6 x7 =
 bd (PV.len x3) fun v0 =>
 bd (PV.bin .sub v0 (.int .i64 1)) fun v1 =>
 bd (spec_l01Between x7 (.int .i64 0) v1) fun r2 =>
 bd (PV.not (hd r2)) fun v3 =>
 PV.ite v3
 (some [.bool false])
 (bd (PV.bin .add x1 (.int .i64 1)) fun v4 =>
 spec_l07Ok_c4 x0 v4 x2 x3) := goOnEq _ _ _ _ _ _ _ _ (by kernel_rfl)
theorem spec_l07Ok_c15_eq (x0 x1 x2 x3 x4 x5 x6 x7 x8 : PV) : spec_l07Ok_c15 x0 x1 x2 x3 x4 x5 x6 x7 x8 =
 bd (PV.bin .neq x8 (.int .i64 0)) fun v0 =>
 PV.ite v0
 (some [.bool false])
 (bd (PV.bin .eql x2 (.int .i64 23)) fun v1 =>
 PV.ite v1
 (bd (PV.bin .eql x7 (.int .i64 3)) fun v2 =>
 PV.ite v2
 (some [.bool false])
 (bd (PV.bin .add x1 (.int .i64 1)) fun v3 =>
 spec_l07Ok_c4 x0 v3 x3 x4))
 (bd (PV.bin .add x1 (.int .i64 1)) fun v4 =>
 spec_l07Ok_c4 x0 v4 x3 x4)) := goOnEq _ _ _ _ _ _ _ _ (by kernel_rfl)
theorem impl_isGood_eq (x0 : PV) : impl_isGood x0 =
 bd (PV.whole 2 x0) fun v0 =>
 bd (PV.cell v0 0) fun v1 =>
 bd (PV.cell v0 1) fun v2 =>
 bd (impl_Verify (.agg [v1, v2])) fun r3 =>
 bd (PV.whole 3 (hd r3)) fun v4 =>
 bd (PV.cell v4 0) fun v5 =>
 bd (PV.cell v4 1) fun v6 =>
 bd (PV.cell v4 2) fun v7 =>
 bd (PV.ceq [1, 1, 1] .eql (.agg [v5, v6, v7]) (.agg [(.int .i64 0), (.int .i64 0), (.int .i64 0)])) fun v8 =>
 some [v8] := pcallEq _ _ _ (by kernel_rfl)
theorem impl_planOk_eq (x0 x1 : PV) : impl_planOk x0 x1 =
 bd (PV.whole 2 x0) fun v0 =>
 bd (PV.cell v0 0) fun v1 =>
 bd (PV.cell v0 1) fun v2 =>
 bd (PV.whole 3 x1) fun v3 =>
 bd (PV.cell v3 0) fun v4 =>
 bd (PV.cell v3 1) fun v5 =>
 bd (PV.cell v3 2) fun v6 =>
 bd (PV.len v4) fun v7 =>
 impl_planOk_c2 v4 v7 (.int .i64 0) v1 v2 v4 v5 v6 := pcallEq _ _ _ (by kernel_rfl)
theorem impl_planOk_c2_eq (x0 x1 x2 x3 x4 x5 x6 x7 : PV) : impl_planOk_c2 x0 x1 x2 x3 x4 x5 x6 x7 =
 bd (PV.bin .lss x2 x1) fun v0 =>
 PV.ite v0
 (bd (PV.at_ 4 true x0 x2) fun v1 =>
 bd (PV.whole 4 v1) fun v2 =>
 bd (PV.cell v2 0) fun v3 =>
 bd (PV.cell v2 1) fun v4 =>
 bd (PV.cell v2 2) fun v5 =>
 bd (PV.cell v2 3) fun v6 =>
 bd (impl_specOk (.agg [x3, x4]) (.agg [v3, v4, v5, v6])) fun r7 =>
 bd (PV.not (hd r7)) fun v8 =>
 PV.ite v8
 (some [.bool false])
 (bd (PV.bin .gtr x2 (.int .i64 0)) fun v9 =>
 PV.ite v9
 (bd (PV.bin .sub x2 (.int .i64 1)) fun v10 =>
 bd (PV.at_ 4 true x5 v10) fun v11 =>
 bd (impl_comparePlaces v11 (.agg [v3, v4, v5, v6])) fun r12 =>
 bd (PV.bin .geq (hd r12) (.int .i64 0)) fun v13 =>
 PV.ite v13
 (some [.bool false])
 (bd (PV.bin .add x2 (.int .i64 1)) fun v14 =>
 impl_planOk_c2 x0 x1 v14 x3 x4 x5 x6 x7))
 (bd (PV.bin .add x2 (.int .i64 1)) fun v15 =>
 impl_planOk_c2 x0 x1 v15 x3 x4 x5 x6 x7)))
 (bd (PV.len x5) fun v16 =>
 bd (PV.bin .leq v16 (.int .i64 150)) fun v17 =>
 PV.ite v17
 (bd (impl_inRange x6 (.int .i64 0) (.int .i64 3)) fun r18 =>
 some [(hd r18)])
 (some [.bool false])) := goOnEq _ _ _ _ _ _ _ _ (by kernel_rfl)
theorem impl_profileOk_eq (x0 x1 : PV) : impl_profileOk x0 x1 =
 bd (PV.whole 2 x0) fun v0 =>
 bd (PV.cell v0 0) fun v1 =>
 bd (PV.cell v0 1) fun v2 =>
 bd (PV.len x1) fun v3 =>
 impl_profileOk_c2 x1 x1 v3 (.int .i64 0) v1 v2 := pcallEq _ _ _ (by kernel_rfl)
theorem impl_profileOk_c2_eq (x0 x1 x2 x3 x4 x5 : PV) : impl_profileOk_c2 x0 x1 x2 x3 x4 x5 =
 bd (PV.bin .lss x3 x2) fun v0 =>
 PV.ite v0
 (bd (PV.at_ 4 true x1 x3) fun v1 =>
 bd (PV.whole 4 v1) fun v2 =>
 bd (PV.cell v2 0) fun v3 =>
 bd (PV.cell v2 1) fun v4 =>
 bd (PV.cell v2 2) fun v5 =>
 bd (PV.cell v2 3) fun v6 =>
 bd (impl_siteOk (.agg [x4, x5]) (.agg [v3, v4, v5, v6])) fun r7 =>
 bd (PV.not (hd r7)) fun v8 =>
 PV.ite v8
 (some [.bool false])
 (bd (PV.bin .gtr x3 (.int .i64 0)) fun v9 =>
 PV.ite v9
 (bd (PV.bin .sub x3 (.int .i64 1)) fun v10 =>
 bd (PV.at_ 4 true x0 v10) fun v11 =>
 bd (impl_compareSites v11 (.agg [v3, v4, v5, v6])) fun r12 =>
 bd (PV.bin .geq (hd r12) (.int .i64 0)) fun v13 =>
 PV.ite v13
 (some [.bool false])
 (bd (PV.bin .add x3 (.int .i64 1)) fun v14 =>
 impl_profileOk_c2 x0 x1 x2 v14 x4 x5))
 (bd (PV.bin .add x3 (.int .i64 1)) fun v15 =>
 impl_profileOk_c2 x0 x1 x2 v15 x4 x5)))
 (bd (PV.len x0) fun v16 =>
 bd (PV.bin .leq v16 (.int .i64 150)) fun v17 =>
 some [v17]) := goOnEq _ _ _ _ _ _ _ _ (by kernel_rfl)
theorem impl_compareSites_eq (x0 x1 : PV) : impl_compareSites x0 x1 =
 bd (PV.whole 4 x0) fun v0 =>
 bd (PV.cell v0 0) fun v1 =>
 bd (PV.cell v0 1) fun v2 =>
 bd (PV.cell v0 2) fun v3 =>
 bd (PV.cell v0 3) fun v4 =>
 bd (PV.whole 4 x1) fun v5 =>
 bd (PV.cell v5 0) fun v6 =>
 bd (PV.cell v5 1) fun v7 =>
 bd (PV.cell v5 2) fun v8 =>
 bd (PV.cell v5 3) fun v9 =>
 bd (cmp_Compare_int v1 v6) fun r10 =>
 bd (cmp_Compare_int v2 v7) fun r11 =>
 bd (PV.cat 1 8 false (.lst []) (.lst [(hd r10), (hd r11)])) fun v12 =>
 bd (cmp_Or_int v12) fun r13 =>
 PV.guardFlat (hd r13) (
 some [(hd r13)]) := pcallEq _ _ _ (by kernel_rfl)
theorem slices_IndexFunc_impl_Spec_impl_Spec_eq (x0 x1 : PV) : slices_IndexFunc_impl_Spec_impl_Spec x0 x1 =
 bd (PV.len x0) fun v0 =>
 slices_IndexFunc_impl_Spec_impl_Spec_c2 x0 x1 v0 (.int .i64 0) := pcallEq _ _ _ (by kernel_rfl)
theorem slices_IndexFunc_impl_Spec_impl_Spec_c2_eq (x0 x1 x2 x3 : PV) : slices_IndexFunc_impl_Spec_impl_Spec_c2 x0 x1 x2 x3 =
 bd (PV.bin .lss x3 x2) fun v0 =>
 PV.ite v0
 (bd (PV.at_ 4 true x0 x3) fun v1 =>
 bd (PV.apply pcallO x1 [v1]) fun r2 =>
 PV.ite (hd r2)
 (some [x3])
 (bd (PV.bin .add x3 (.int .i64 1)) fun v3 =>
 slices_IndexFunc_impl_Spec_impl_Spec_c2 x0 x1 x2 v3))
 (some [(.int .i64 (-1))]) := goOnEq _ _ _ _ _ _ _ _ (by kernel_rfl)
theorem impl_insAt_eq (x0 x1 x2 : PV) : impl_insAt x0 x1 x2 =
 bd (PV.whole 2 x0) fun v0 =>
 bd (PV.cell v0 0) fun v1 =>
 bd (PV.cell v0 1) fun v2 =>
 bd (PV.len v2) fun v3 =>
 bd (impl_isPlace x1 v3) fun r4 =>
 bd (PV.not (hd r4)) fun v5 =>
 PV.ite v5
 (some [(.tup [(.agg [(.int .i64 0), (.int .i64 0)]), (.bool false)])])
 (bd (PV.at_ 3 true v2 x1) fun v6 =>
 bd (PV.cell v6 2) fun v7 =>
 bd (PV.len v7) fun v8 =>
 bd (impl_isPlace x2 v8) fun r9 =>
 bd (PV.not (hd r9)) fun v10 =>
 PV.ite v10
 (some [(.tup [(.agg [(.int .i64 0), (.int .i64 0)]), (.bool false)])])
 (bd (PV.at_ 3 true v2 x1) fun v11 =>
 bd (PV.cell v11 2) fun v12 =>
 bd (PV.at_ 2 true v12 x2) fun v13 =>
 bd (PV.whole 2 v13) fun v14 =>
 bd (PV.cell v14 0) fun v15 =>
 bd (PV.cell v14 1) fun v16 =>
 some [(.tup [(.agg [v15, v16]), (.bool true)])])) := pcallEq _ _ _ (by kernel_rfl)
theorem impl_isArith_eq (x0 : PV) : impl_isArith x0 =
 bd (PV.whole 2 x0) fun v0 =>
 bd (PV.cell v0 0) fun v1 =>
 bd (PV.cell v0 1) fun v2 =>
 bd (impl_inRange v1 (.int .i64 11) (.int .i64 14)) fun r3 =>
 some [(hd r3)] := pcallEq _ _ _ (by kernel_rfl)
theorem impl_isPlace_eq (x0 x1 : PV) : impl_isPlace x0 x1 =
 bd (PV.bin .sub x1 (.int .i64 1)) fun v0 =>
 bd (impl_inRange x0 (.int .i64 0) v0) fun r1 =>
 some [(hd r1)] := pcallEq _ _ _ (by kernel_rfl)
theorem spec_l09SpecOk_eq (x0 x1 : PV) : spec_l09SpecOk x0 x1 =
 bd (PV.whole 2 x0) fun v0 =>
 bd (PV.cell v0 0) fun v1 =>
 bd (PV.cell v0 1) fun v2 =>
 bd (PV.whole 4 x1) fun v3 =>
 bd (PV.cell v3 0) fun v4 =>
 bd (PV.cell v3 1) fun v5 =>
 bd (PV.cell v3 2) fun v6 =>
 bd (PV.cell v3 3) fun v7 =>
 bd (PV.len v2) fun v8 =>
 bd (PV.bin .sub v8 (.int .i64 1)) fun v9 =>
 bd (spec_l01Between v4 (.int .i64 0) v9) fun r10 =>
 bd (PV.not (hd r10)) fun v11 =>
 PV.ite v11
 (some [.bool false])
 (bd (PV.at_ 3 true v2 v4) fun v12 =>
 bd (PV.cell v12 2) fun v13 =>
 bd (PV.len v13) fun v14 =>
 bd (PV.bin .sub v14 (.int .i64 1)) fun v15 =>
 bd (spec_l01Between v5 (.int .i64 0) v15) fun r16 =>
 bd (PV.not (hd r16)) fun v17 =>
 PV.ite v17
 (some [.bool false])
 (bd (PV.at_ 3 true v2 v4) fun v18 =>
 bd (PV.cell v18 2) fun v19 =>
 bd (PV.at_ 2 true v19 v5) fun v20 =>
 bd (PV.whole 2 v20) fun v21 =>
 bd (PV.cell v21 0) fun v22 =>
 bd (PV.cell v21 1) fun v23 =>
 bd (PV.bin .eql v6 (.int .i64 1)) fun v24 =>
 PV.ite v24
 (bd (spec_l07Is v22) fun r25 =>
 PV.ite (hd r25)
 (bd (PV.bin .neq v22 (.int .i64 23)) fun v26 =>
 PV.ite v26
 (bd (PV.bin .eql v7 (.int .i64 0)) fun v27 =>
 some [v27])
 (some [.bool false]))
 (some [.bool false]))
 (bd (PV.bin .eql v6 (.int .i64 2)) fun v28 =>
 PV.ite v28
 (bd (PV.bin .eql v22 (.int .i64 23)) fun v29 =>
 PV.ite v29
 (bd (PV.len v2) fun v30 =>
 bd (PV.bin .sub v30 (.int .i64 1)) fun v31 =>
 bd (spec_l01Between v7 (.int .i64 0) v31) fun r32 =>
 PV.ite (hd r32)
 (bd (PV.at_ 3 true v2 v7) fun v33 =>
 bd (PV.cell v33 0) fun v34 =>
 bd (PV.bin .eql v34 v23) fun v35 =>
 some [v35])
 (some [.bool false]))
 (some [.bool false]))
 (some [.bool false])))) := pcallEq _ _ _ (by kernel_rfl)
end Go.Proofs.YtjgleeamiclokaaGreat
namespace Go.Proofs.YtjgleeamiclokaaGreat
open Go
theorem spec_Verify_eq (x0 : PV) : spec_Verify x0 =
 bd (PV.whole 2 x0) fun v0 =>
 bd (PV.cell v0 0) fun v1 =>
 bd (PV.cell v0 1) fun v2 =>
 bd (spec_ModuleOk (.agg [v1, v2])) fun r3 =>
 bd (PV.not (hd r3)) fun v4 =>
 PV.ite v4
 (some [(.agg [(.int .i64 1), (.int .i64 0), (.int .i64 0)])])
 (spec_Verify_c4 (.int .i64 0) v1 v2 (.int .i64 0) (.int .i64 0) (.int .i64 0)) := pcallEq _ _ _ (by kernel_rfl)
theorem spec_Verify_c4_eq (x0 x1 x2 x3 x4 x5 : PV) : spec_Verify_c4 x0 x1 x2 x3 x4 x5 =
 bd (PV.len x2) fun v0 =>
 bd (PV.bin .lss x0 v0) fun v1 =>
 PV.ite v1
 (bd (PV.at_ 3 true x2 x0) fun v2 =>
 bd (PV.cell v2 2) fun v3 =>
 bd (spec_l03Depths (.agg [x1, x2]) x0) fun r4 =>
 spec_Verify_c9 x0 v3 (hd r4) (.int .i64 0) x1 x2 x3 x4 x5)
 (some [(.agg [(.int .i64 0), (.int .i64 0), (.int .i64 0)])]) := goOnEq _ _ _ _ _ _ _ _ (by kernel_rfl)
theorem spec_Verify_c9_eq (x0 x1 x2 x3 x4 x5 x6 x7 x8 : PV) : spec_Verify_c9 x0 x1 x2 x3 x4 x5 x6 x7 x8 =
 bd (PV.len x1) fun v0 =>
 bd (PV.bin .lss x3 v0) fun v1 =>
 PV.ite v1
 (bd (PV.at_ 1 false x2 x3) fun v2 =>
 bd (PV.bin .lss v2 (.int .i64 0)) fun v3 =>
 PV.ite v3
 (bd (PV.bin .add x3 (.int .i64 1)) fun v4 =>
 spec_Verify_c9 x0 x1 x2 v4 x4 x5 x6 x7 x8)
 (bd (PV.at_ 2 true x1 x3) fun v5 =>
 bd (spec_UsesOf (.agg [x4, x5]) v5) fun r6 =>
 bd (PV.comp (hd r6) 0) fun v7 =>
 bd (PV.comp (hd r6) 1) fun v8 =>
 bd (PV.at_ 1 false x2 x3) fun v9 =>
 bd (PV.bin .sub v9 v7) fun v10 =>
 bd (PV.bin .add v10 v8) fun v11 =>
 bd (PV.at_ 1 false x2 x3) fun v12 =>
 bd (PV.bin .lss v12 v7) fun v13 =>
 PV.ite v13
 (bd (PV.one x0) fun v14 =>
 bd (PV.one x3) fun v15 =>
 some [(.agg [(.int .i64 2), v14, v15])])
 (bd (PV.bin .gtr v11 (.int .i64 16)) fun v16 =>
 PV.ite v16
 (bd (PV.one x0) fun v17 =>
 bd (PV.one x3) fun v18 =>
 some [(.agg [(.int .i64 2), v17, v18])])
 (bd (PV.at_ 2 true x1 x3) fun v19 =>
 bd (spec_l03Next v19 x3) fun r20 =>
 spec_Verify_c18 x0 x1 x2 x3 v11 (hd r20) (.int .i64 0) x4 x5 x6 x7 x8))))
 (bd (PV.bin .add x0 (.int .i64 1)) fun v21 =>
 spec_Verify_c4 v21 x4 x5 x6 x7 x8) := goOnEq _ _ _ _ _ _ _ _ (by kernel_rfl)
theorem spec_Verify_c18_eq (x0 x1 x2 x3 x4 x5 x6 x7 x8 x9 x10 x11 : PV) : spec_Verify_c18 x0 x1 x2 x3 x4 x5 x6 x7 x8 x9 x10 x11 =
 bd (PV.len x5) fun v0 =>
 bd (PV.bin .lss x6 v0) fun v1 =>
 PV.ite v1
 (bd (PV.at_ 1 false x5 x6) fun v2 =>
 bd (PV.len x1) fun v3 =>
 bd (PV.bin .geq v2 v3) fun v4 =>
 PV.ite v4
 (bd (PV.one x0) fun v5 =>
 bd (PV.one x3) fun v6 =>
 some [(.agg [(.int .i64 3), v5, v6])])
 (bd (PV.bin .add x6 (.int .i64 1)) fun v7 =>
 spec_Verify_c18 x0 x1 x2 x3 x4 x5 v7 x7 x8 x9 x10 x11))
 (spec_Verify_c23 x0 x1 x2 x3 x4 x5 (.int .i64 0) x7 x8 x9 x10 x11) := goOnEq _ _ _ _ _ _ _ _ (by kernel_rfl)
theorem spec_Verify_c23_eq (x0 x1 x2 x3 x4 x5 x6 x7 x8 x9 x10 x11 : PV) : spec_Verify_c23 x0 x1 x2 x3 x4 x5 x6 x7 x8 x9 x10 x11 =
 bd (PV.len x5) fun v0 =>
 bd (PV.bin .lss x6 v0) fun v1 =>
 PV.ite v1
 (bd (PV.at_ 1 false x5 x6) fun v2 =>
 bd (PV.at_ 1 false x2 v2) fun v3 =>
 bd (PV.bin .neq v3 x4) fun v4 =>
 PV.ite v4
 (bd (PV.one x0) fun v5 =>
 bd (PV.one x3) fun v6 =>
 some [(.agg [(.int .i64 4), v5, v6])])
 (bd (PV.bin .add x6 (.int .i64 1)) fun v7 =>
 spec_Verify_c23 x0 x1 x2 x3 x4 x5 v7 x7 x8 x9 x10 x11))
 (bd (PV.bin .add x3 (.int .i64 1)) fun v8 =>
 spec_Verify_c9 x0 x1 x2 v8 x7 x8 x9 x10 x11) := goOnEq _ _ _ _ _ _ _ _ (by kernel_rfl)
theorem spec_l07Less_eq (x0 x1 : PV) : spec_l07Less x0 x1 =
 bd (PV.whole 4 x0) fun v0 =>
 bd (PV.cell v0 0) fun v1 =>
 bd (PV.cell v0 1) fun v2 =>
 bd (PV.cell v0 2) fun v3 =>
 bd (PV.cell v0 3) fun v4 =>
 bd (PV.whole 4 x1) fun v5 =>
 bd (PV.cell v5 0) fun v6 =>
 bd (PV.cell v5 1) fun v7 =>
 bd (PV.cell v5 2) fun v8 =>
 bd (PV.cell v5 3) fun v9 =>
 bd (PV.bin .lss v1 v6) fun v10 =>
 PV.ite v10
 (some [.bool true])
 (bd (PV.bin .eql v1 v6) fun v11 =>
 PV.ite v11
 (bd (PV.bin .lss v2 v7) fun v12 =>
 some [v12])
 (some [.bool false])) := pcallEq _ _ _ (by kernel_rfl)
theorem spec_l07Is_eq (x0 : PV) : spec_l07Is x0 =
 bd (PV.bin .eql x0 (.int .i64 11)) fun v0 =>
 PV.ite v0
 (some [.bool true])
 (bd (PV.bin .eql x0 (.int .i64 12)) fun v1 =>
 PV.ite v1
 (some [.bool true])
 (bd (PV.bin .eql x0 (.int .i64 13)) fun v2 =>
 PV.ite v2
 (some [.bool true])
 (bd (PV.bin .eql x0 (.int .i64 14)) fun v3 =>
 PV.ite v3
 (some [.bool true])
 (bd (PV.bin .eql x0 (.int .i64 23)) fun v4 =>
 PV.ite v4
 (some [.bool true])
 (some [.bool false]))))) := pcallEq _ _ _ (by kernel_rfl)
theorem impl_Verify_eq (x0 : PV) : impl_Verify x0 =
 bd (PV.whole 2 x0) fun v0 =>
 bd (PV.cell v0 0) fun v1 =>
 bd (PV.cell v0 1) fun v2 =>
 bd (impl_ModuleOk (.agg [v1, v2])) fun r3 =>
 bd (PV.not (hd r3)) fun v4 =>
 PV.ite v4
 (some [(.agg [(.int .i64 1), (.int .i64 0), (.int .i64 0)])])
 (bd (PV.len v2) fun v5 =>
 impl_Verify_c4 v5 (.int .i64 0) v1 v2 (.int .i64 0) (.int .i64 0) (.int .i64 0)) := pcallEq _ _ _ (by kernel_rfl)
theorem impl_Verify_c4_eq (x0 x1 x2 x3 x4 x5 x6 : PV) : impl_Verify_c4 x0 x1 x2 x3 x4 x5 x6 =
 bd (PV.bin .lss x1 x0) fun v0 =>
 PV.ite v0
 (bd (impl_depths (.agg [x2, x3]) x1) fun r1 =>
 bd (PV.one (hd r1)) fun v2 =>
 bd (PV.at_ 3 true x3 x1) fun v3 =>
 bd (PV.cell v3 2) fun v4 =>
 bd (PV.len v4) fun v5 =>
 impl_Verify_c8 x1 x0 x1 v4 v5 (.int .i64 0) x2 x3 x4 x5 x6 v2)
 (some [(.agg [(.int .i64 0), (.int .i64 0), (.int .i64 0)])]) := goOnEq _ _ _ _ _ _ _ _ (by kernel_rfl)
theorem impl_Verify_c8_eq (x0 x1 x2 x3 x4 x5 x6 x7 x8 x9 x10 x11 : PV) : impl_Verify_c8 x0 x1 x2 x3 x4 x5 x6 x7 x8 x9 x10 x11 =
 bd (PV.bin .lss x5 x4) fun v0 =>
 PV.ite v0
 (bd (PV.at_ 2 true x3 x5) fun v1 =>
 bd (PV.whole 2 v1) fun v2 =>
 bd (PV.cell v2 0) fun v3 =>
 bd (PV.cell v2 1) fun v4 =>
 bd (PV.at_ 1 false x11 x5) fun v5 =>
 bd (PV.bin .lss v5 (.int .i64 0)) fun v6 =>
 PV.ite v6
 (bd (PV.bin .add x5 (.int .i64 1)) fun v7 =>
 impl_Verify_c8 x0 x1 x2 x3 x4 v7 x6 x7 x8 x9 x10 x11)
 (bd (PV.at_ 1 false x11 x5) fun v8 =>
 bd (impl_leaves (.agg [x6, x7]) (.agg [v3, v4]) v8) fun r9 =>
 bd (PV.comp (hd r9) 0) fun v10 =>
 bd (PV.comp (hd r9) 1) fun v11 =>
 bd (PV.one v10) fun v12 =>
 bd (PV.not v11) fun v13 =>
 PV.ite v13
 (bd (PV.one x0) fun v14 =>
 bd (PV.one x5) fun v15 =>
 some [(.agg [(.int .i64 2), v14, v15])])
 (bd (impl_follows (.agg [v3, v4]) x5) fun r16 =>
 bd (PV.len x11) fun v17 =>
 bd (slices_Contains_int_int (hd r16) v17) fun r18 =>
 PV.ite (hd r18)
 (bd (PV.one x0) fun v19 =>
 bd (PV.one x5) fun v20 =>
 some [(.agg [(.int .i64 3), v19, v20])])
 (bd (slices_ContainsFunc_int_int (hd r16) (.fn 119 [(.bx [x11]), (.bx [v12])])) fun r21 =>
 PV.guardFlat (hd r21) (
 PV.ite (hd r21)
 (bd (PV.one x0) fun v22 =>
 bd (PV.one x5) fun v23 =>
 some [(.agg [(.int .i64 4), v22, v23])])
 (bd (PV.bin .add x5 (.int .i64 1)) fun v24 =>
 impl_Verify_c8 x0 x1 x2 x3 x4 v24 x6 x7 x8 x9 x10 x11))))))
 (bd (PV.bin .add x2 (.int .i64 1)) fun v25 =>
 impl_Verify_c4 x1 v25 x6 x7 x8 x9 x10) := goOnEq _ _ _ _ _ _ _ _ (by kernel_rfl)
theorem impl_comparePlaces_eq (x0 x1 : PV) : impl_comparePlaces x0 x1 =
 bd (PV.whole 4 x0) fun v0 =>
 bd (PV.cell v0 0) fun v1 =>
 bd (PV.cell v0 1) fun v2 =>
 bd (PV.cell v0 2) fun v3 =>
 bd (PV.cell v0 3) fun v4 =>
 bd (PV.whole 4 x1) fun v5 =>
 bd (PV.cell v5 0) fun v6 =>
 bd (PV.cell v5 1) fun v7 =>
 bd (PV.cell v5 2) fun v8 =>
 bd (PV.cell v5 3) fun v9 =>
 bd (cmp_Compare_int v1 v6) fun r10 =>
 bd (cmp_Compare_int v2 v7) fun r11 =>
 bd (PV.cat 1 8 false (.lst []) (.lst [(hd r10), (hd r11)])) fun v12 =>
 bd (cmp_Or_int v12) fun r13 =>
 PV.guardFlat (hd r13) (
 some [(hd r13)]) := pcallEq _ _ _ (by kernel_rfl)
theorem impl_siteOk_eq (x0 x1 : PV) : impl_siteOk x0 x1 =
 bd (PV.whole 2 x0) fun v0 =>
 bd (PV.cell v0 0) fun v1 =>
 bd (PV.cell v0 1) fun v2 =>
 bd (PV.whole 4 x1) fun v3 =>
 bd (PV.cell v3 0) fun v4 =>
 bd (PV.cell v3 1) fun v5 =>
 bd (PV.cell v3 2) fun v6 =>
 bd (PV.cell v3 3) fun v7 =>
 bd (impl_insAt (.agg [v1, v2]) v4 v5) fun r8 =>
 bd (PV.comp (hd r8) 0) fun v9 =>
 bd (PV.comp (hd r8) 1) fun v10 =>
 bd (PV.whole 2 v9) fun v11 =>
 bd (PV.cell v11 0) fun v12 =>
 bd (PV.cell v11 1) fun v13 =>
 bd (PV.not v10) fun v14 =>
 PV.ite v14
 (some [.bool false])
 (bd (PV.bin .eql v12 (.int .i64 23)) fun v15 =>
 PV.ite v15
 (bd (PV.bin .eql v6 (.int .i64 1)) fun v16 =>
 PV.ite v16
 (impl_siteOk_c5 v1 v2 v4 v5 v6 v7)
 (impl_siteOk_c6 v4 v5 v6 v7 v12 v13))
 (impl_siteOk_c6 v4 v5 v6 v7 v12 v13)) := pcallEq _ _ _ (by kernel_rfl)
theorem impl_siteOk_c5_eq (x0 x1 x2 x3 x4 x5 : PV) : impl_siteOk_c5 x0 x1 x2 x3 x4 x5 =
 bd (PV.len x1) fun v0 =>
 bd (impl_isPlace x5 v0) fun r1 =>
 some [(hd r1)] := goOnEq _ _ _ _ _ _ _ _ (by kernel_rfl)
theorem impl_siteOk_c6_eq (x0 x1 x2 x3 x4 x5 : PV) : impl_siteOk_c6 x0 x1 x2 x3 x4 x5 =
 bd (PV.bin .eql x4 (.int .i64 23)) fun v0 =>
 PV.ite v0
 (bd (PV.bin .eql x2 (.int .i64 2)) fun v1 =>
 PV.ite v1
 (bd (PV.bin .eql x3 (.int .i64 0)) fun v2 =>
 some [v2])
 (some [.bool false]))
 (bd (impl_isArith (.agg [x4, x5])) fun r3 =>
 PV.ite (hd r3)
 (bd (impl_inRange x2 (.int .i64 1) (.int .i64 3)) fun r4 =>
 PV.ite (hd r4)
 (bd (PV.bin .eql x3 (.int .i64 0)) fun v5 =>
 some [v5])
 (some [.bool false]))
 (some [.bool false])) := goOnEq _ _ _ _ _ _ _ _ (by kernel_rfl)
theorem cmp_Compare_int_eq (x0 x1 : PV) : cmp_Compare_int x0 x1 =
 bd (cmp_isNaN_int x0) fun r0 =>
 bd (cmp_isNaN_int x1) fun r1 =>
 PV.ite (hd r0)
 (PV.ite (hd r1)
 (some [.int .i64 0])
 (some [(.int .i64 (-1))]))
 (PV.ite (hd r1)
 (some [.int .i64 1])
 (bd (PV.bin .lss x0 x1) fun v2 =>
 PV.ite v2
 (some [(.int .i64 (-1))])
 (bd (PV.bin .gtr x0 x1) fun v3 =>
 PV.ite v3
 (some [.int .i64 1])
 (some [.int .i64 0])))) := pcallEq _ _ _ (by kernel_rfl)
theorem cmp_Or_int_eq (x0 : PV) : cmp_Or_int x0 = bd (PV.len x0) fun v0 => cmp_Or_int_c3 (.int .i64 0) x0 v0 (.int .i64 0) := pcallEq _ _ _ (by kernel_rfl)
theorem cmp_Or_int_c3_eq (x0 x1 x2 x3 : PV) : cmp_Or_int_c3 x0 x1 x2 x3 =
 bd (PV.bin .lss x3 x2) fun v0 =>
 PV.ite v0
 (bd (PV.at_ 1 false x1 x3) fun v1 =>
 bd (PV.bin .neq v1 x0) fun v2 =>
 PV.ite v2
 (some [v1])
 (bd (PV.bin .add x3 (.int .i64 1)) fun v3 =>
 cmp_Or_int_c3 x0 x1 x2 v3))
 (some [x0]) := goOnEq _ _ _ _ _ _ _ _ (by kernel_rfl)
theorem spec_ModuleOk_eq (x0 : PV) : spec_ModuleOk x0 =
 bd (PV.whole 2 x0) fun v0 =>
 bd (PV.cell v0 0) fun v1 =>
 bd (PV.cell v0 1) fun v2 =>
 bd (PV.len v2) fun v3 =>
 bd (spec_l01Between v3 (.int .i64 1) (.int .i64 12)) fun r4 =>
 bd (PV.not (hd r4)) fun v5 =>
 PV.ite v5
 (some [.bool false])
 (bd (PV.len v1) fun v6 =>
 bd (PV.bin .gtr v6 (.int .i64 20)) fun v7 =>
 PV.ite v7
 (some [.bool false])
 (spec_ModuleOk_c4 (.int .i64 0) v1 v2)) := pcallEq _ _ _ (by kernel_rfl)
theorem spec_ModuleOk_c4_eq (x0 x1 x2 : PV) : spec_ModuleOk_c4 x0 x1 x2 =
 bd (PV.len x1) fun v0 =>
 bd (PV.bin .lss x0 v0) fun v1 =>
 PV.ite v1
 (bd (PV.at_ 1 false x1 x0) fun v2 =>
 bd (spec_l01Text v2) fun r3 =>
 bd (PV.not (hd r3)) fun v4 =>
 PV.ite v4
 (some [.bool false])
 (bd (PV.bin .add x0 (.int .i64 1)) fun v5 =>
 spec_ModuleOk_c4 v5 x1 x2))
 (spec_ModuleOk_c9 (.int .i64 0) x1 x2) := goOnEq _ _ _ _ _ _ _ _ (by kernel_rfl)
theorem spec_ModuleOk_c9_eq (x0 x1 x2 : PV) : spec_ModuleOk_c9 x0 x1 x2 =
 bd (PV.len x2) fun v0 =>
 bd (PV.bin .lss x0 v0) fun v1 =>
 PV.ite v1
 (bd (PV.at_ 3 true x2 x0) fun v2 =>
 bd (PV.whole 3 v2) fun v3 =>
 bd (PV.cell v3 0) fun v4 =>
 bd (PV.cell v3 1) fun v5 =>
 bd (PV.cell v3 2) fun v6 =>
 bd (spec_l01Between v4 (.int .i64 0) (.int .i64 6)) fun r7 =>
 bd (PV.not (hd r7)) fun v8 =>
 PV.ite v8
 (some [.bool false])
 (bd (spec_l01Between v5 v4 (.int .i64 12)) fun r9 =>
 bd (PV.not (hd r9)) fun v10 =>
 PV.ite v10
 (some [.bool false])
 (bd (PV.len v6) fun v11 =>
 bd (spec_l01Between v11 (.int .i64 1) (.int .i64 120)) fun r12 =>
 bd (PV.not (hd r12)) fun v13 =>
 PV.ite v13
 (some [.bool false])
 (spec_ModuleOk_c15 x0 (.int .i64 0) x1 x2 v4 v5 v6))))
 (some [.bool true]) := goOnEq _ _ _ _ _ _ _ _ (by kernel_rfl)
theorem spec_ModuleOk_c15_eq (x0 x1 x2 x3 x4 x5 x6 : PV) : spec_ModuleOk_c15 x0 x1 x2 x3 x4 x5 x6 =
 bd (PV.len x6) fun v0 =>
 bd (PV.bin .lss x1 v0) fun v1 =>
 PV.ite v1
 (bd (PV.at_ 2 true x6 x1) fun v2 =>
 bd (spec_InsOk (.agg [x2, x3]) x0 v2) fun r3 =>
 bd (PV.not (hd r3)) fun v4 =>
 PV.ite v4
 (some [.bool false])
 (bd (PV.bin .add x1 (.int .i64 1)) fun v5 =>
 spec_ModuleOk_c15 x0 v5 x2 x3 x4 x5 x6))
 (bd (PV.bin .add x0 (.int .i64 1)) fun v6 =>
 spec_ModuleOk_c9 v6 x2 x3) := goOnEq _ _ _ _ _ _ _ _ (by kernel_rfl)
theorem spec_l03Depths_eq (x0 x1 : PV) : spec_l03Depths x0 x1 =
 bd (PV.whole 2 x0) fun v0 =>
 bd (PV.cell v0 0) fun v1 =>
 bd (PV.cell v0 1) fun v2 =>
 bd (PV.at_ 3 true v2 x1) fun v3 =>
 bd (PV.cell v3 2) fun v4 =>
 spec_l03Depths_c4 v4 (.int .i64 0) v1 v2 (.lst []) := pcallEq _ _ _ (by kernel_rfl)
theorem spec_l03Depths_c4_eq (x0 x1 x2 x3 x4 : PV) : spec_l03Depths_c4 x0 x1 x2 x3 x4 =
 bd (PV.len x0) fun v0 =>
 bd (PV.bin .lss x1 v0) fun v1 =>
 PV.ite v1
 (bd (PV.cat 1 8 false x4 (.lst [(.int .i64 (-1))])) fun v2 =>
 bd (PV.bin .add x1 (.int .i64 1)) fun v3 =>
 spec_l03Depths_c4 x0 v3 x2 x3 v2)
 (bd (PV.inb x4 (.int .i64 0)) fun v4 =>
 bd (PV.setAt 1 false x4 (.int .i64 0) (.int .i64 0)) fun v5 =>
 spec_l03Depths_c9 x0 (.bool true) x2 x3 v5) := goOnEq _ _ _ _ _ _ _ _ (by kernel_rfl)
theorem spec_l03Depths_c9_eq (x0 x1 x2 x3 x4 : PV) : spec_l03Depths_c9 x0 x1 x2 x3 x4 =
 PV.ite x1
 (spec_l03Depths_c12 x0 (.bool false) (.int .i64 0) x2 x3 x4)
 (some [x4]) := goOnEq _ _ _ _ _ _ _ _ (by kernel_rfl)
theorem spec_l03Depths_c12_eq (x0 x1 x2 x3 x4 x5 : PV) : spec_l03Depths_c12 x0 x1 x2 x3 x4 x5 =
 bd (PV.len x0) fun v0 =>
 bd (PV.bin .lss x2 v0) fun v1 =>
 PV.ite v1
 (bd (PV.at_ 2 true x0 x2) fun v2 =>
 bd (spec_UsesOf (.agg [x3, x4]) v2) fun r3 =>
 bd (PV.comp (hd r3) 0) fun v4 =>
 bd (PV.comp (hd r3) 1) fun v5 =>
 bd (PV.inb x5 x2) fun v6 =>
 bd (PV.at_ 1 false x5 x2) fun v7 =>
 bd (PV.bin .sub v7 v4) fun v8 =>
 bd (PV.bin .add v8 v5) fun v9 =>
 bd (PV.inb x5 x2) fun v10 =>
 bd (PV.at_ 1 false x5 x2) fun v11 =>
 bd (PV.bin .lss v11 v4) fun v12 =>
 PV.ite v12
 (bd (PV.bin .add x2 (.int .i64 1)) fun v13 =>
 spec_l03Depths_c12 x0 x1 v13 x3 x4 x5)
 (bd (PV.bin .gtr v9 (.int .i64 16)) fun v14 =>
 PV.ite v14
 (bd (PV.bin .add x2 (.int .i64 1)) fun v15 =>
 spec_l03Depths_c12 x0 x1 v15 x3 x4 x5)
 (bd (PV.at_ 2 true x0 x2) fun v16 =>
 bd (spec_l03Next v16 x2) fun r17 =>
 spec_l03Depths_c19 x0 x1 x2 v9 (hd r17) (.int .i64 0) x3 x4 x5)))
 (spec_l03Depths_c9 x0 x1 x3 x4 x5) := goOnEq _ _ _ _ _ _ _ _ (by kernel_rfl)
theorem spec_l03Depths_c19_eq (x0 x1 x2 x3 x4 x5 x6 x7 x8 : PV) : spec_l03Depths_c19 x0 x1 x2 x3 x4 x5 x6 x7 x8 =
 bd (PV.len x4) fun v0 =>
 bd (PV.bin .lss x5 v0) fun v1 =>
 PV.ite v1
 (bd (PV.at_ 1 false x4 x5) fun v2 =>
 bd (PV.len x0) fun v3 =>
 bd (PV.bin .lss v2 v3) fun v4 =>
 PV.ite v4
 (bd (PV.at_ 1 false x4 x5) fun v5 =>
 bd (PV.inb x8 v5) fun v6 =>
 bd (PV.at_ 1 false x8 v5) fun v7 =>
 bd (PV.bin .lss v7 (.int .i64 0)) fun v8 =>
 PV.ite v8
 (spec_l03Depths_c22 x0 x2 x3 x4 x5 x6 x7 x8)
 (bd (PV.bin .add x5 (.int .i64 1)) fun v9 =>
 spec_l03Depths_c19 x0 x1 x2 x3 x4 v9 x6 x7 x8))
 (bd (PV.bin .add x5 (.int .i64 1)) fun v10 =>
 spec_l03Depths_c19 x0 x1 x2 x3 x4 v10 x6 x7 x8))
 (bd (PV.bin .add x2 (.int .i64 1)) fun v11 =>
 spec_l03Depths_c12 x0 x1 v11 x6 x7 x8) := goOnEq _ _ _ _ _ _ _ _ (by kernel_rfl)
theorem spec_l03Depths_c22_eq (x0 x1 x2 x3 x4 x5 x6 x7 : PV) : spec_l03Depths_c22 x0 x1 x2 x3 x4 x5 x6 x7 =
 bd (PV.at_ 1 false x3 x4) fun v0 =>
 bd (PV.inb x7 v0) fun v1 =>
 bd (PV.setAt 1 false x7 v0 x2) fun v2 =>
 bd (PV.bin .add x4 (.int .i64 1)) fun v3 =>
 spec_l03Depths_c19 x0 (.bool true) x1 x2 x3 v3 x5 x6 v2 := goOnEq _ _ _ _ _ _ _ _ (by kernel_rfl)
theorem spec_UsesOf_eq (x0 x1 : PV) : spec_UsesOf x0 x1 =
 bd (PV.whole 2 x0) fun v0 =>
 bd (PV.cell v0 0) fun v1 =>
 bd (PV.cell v0 1) fun v2 =>
 bd (PV.whole 2 x1) fun v3 =>
 bd (PV.cell v3 0) fun v4 =>
 bd (PV.cell v3 1) fun v5 =>
 bd (PV.bin .eql v4 (.int .i64 1)) fun v6 =>
 PV.ite v6
 (some [(.tup [(.int .i64 0), (.int .i64 1)])])
 (bd (PV.bin .eql v4 (.int .i64 2)) fun v7 =>
 PV.ite v7
 (some [(.tup [(.int .i64 0), (.int .i64 1)])])
 (bd (PV.bin .eql v4 (.int .i64 3)) fun v8 =>
 PV.ite v8
 (some [(.tup [(.int .i64 0), (.int .i64 1)])])
 (bd (PV.bin .eql v4 (.int .i64 4)) fun v9 =>
 PV.ite v9
 (some [(.tup [(.int .i64 0), (.int .i64 1)])])
 (bd (PV.bin .eql v4 (.int .i64 5)) fun v10 =>
 PV.ite v10
 (some [(.tup [(.int .i64 0), (.int .i64 1)])])
 (bd (PV.bin .eql v4 (.int .i64 6)) fun v11 =>
 PV.ite v11
 (some [(.tup [(.int .i64 0), (.int .i64 1)])])
 (bd (PV.bin .eql v4 (.int .i64 20)) fun v12 =>
 PV.ite v12
 (some [(.tup [(.int .i64 0), (.int .i64 1)])])
 (bd (PV.bin .eql v4 (.int .i64 7)) fun v13 =>
 PV.ite v13
 (some [(.tup [(.int .i64 1), (.int .i64 0)])])
 (bd (PV.bin .eql v4 (.int .i64 9)) fun v14 =>
 PV.ite v14
 (some [(.tup [(.int .i64 1), (.int .i64 0)])])
 (bd (PV.bin .eql v4 (.int .i64 18)) fun v15 =>
 PV.ite v15
 (some [(.tup [(.int .i64 1), (.int .i64 0)])])
 (bd (PV.bin .eql v4 (.int .i64 19)) fun v16 =>
 PV.ite v16
 (some [(.tup [(.int .i64 1), (.int .i64 0)])])
 (bd (PV.bin .eql v4 (.int .i64 25)) fun v17 =>
 PV.ite v17
 (some [(.tup [(.int .i64 1), (.int .i64 0)])])
 (bd (PV.bin .eql v4 (.int .i64 26)) fun v18 =>
 PV.ite v18
 (some [(.tup [(.int .i64 1), (.int .i64 0)])])
 (bd (PV.bin .eql v4 (.int .i64 8)) fun v19 =>
 PV.ite v19
 (some [(.tup [(.int .i64 1), (.int .i64 2)])])
 (bd (PV.bin .eql v4 (.int .i64 10)) fun v20 =>
 PV.ite v20
 (some [(.tup [(.int .i64 2), (.int .i64 2)])])
 (bd (PV.bin .eql v4 (.int .i64 11)) fun v21 =>
 PV.ite v21
 (some [(.tup [(.int .i64 2), (.int .i64 1)])])
 (bd (PV.bin .eql v4 (.int .i64 12)) fun v22 =>
 PV.ite v22
 (some [(.tup [(.int .i64 2), (.int .i64 1)])])
 (bd (PV.bin .eql v4 (.int .i64 13)) fun v23 =>
 PV.ite v23
 (some [(.tup [(.int .i64 2), (.int .i64 1)])])
 (bd (PV.bin .eql v4 (.int .i64 14)) fun v24 =>
 PV.ite v24
 (some [(.tup [(.int .i64 2), (.int .i64 1)])])
 (bd (PV.bin .eql v4 (.int .i64 15)) fun v25 =>
 PV.ite v25
 (some [(.tup [(.int .i64 2), (.int .i64 1)])])
 (bd (PV.bin .eql v4 (.int .i64 16)) fun v26 =>
 PV.ite v26
 (some [(.tup [(.int .i64 1), (.int .i64 1)])])
 (bd (PV.bin .eql v4 (.int .i64 21)) fun v27 =>
 PV.ite v27
 (some [(.tup [(.int .i64 1), (.int .i64 1)])])
 (bd (PV.bin .eql v4 (.int .i64 22)) fun v28 =>
 PV.ite v28
 (some [(.tup [(.int .i64 2), (.int .i64 0)])])
 (bd (PV.bin .eql v4 (.int .i64 23)) fun v29 =>
 PV.ite v29
 (bd (spec_l01Between v5 (.int .i64 0) (.int .i64 6)) fun r30 =>
 PV.ite (hd r30)
 (bd (PV.bin .add v5 (.int .i64 1)) fun v31 =>
 some [(.tup [v31, (.int .i64 1)])])
 (some [(.tup [(.int .i64 0), (.int .i64 0)])]))
 (bd (PV.bin .eql v4 (.int .i64 24)) fun v32 =>
 PV.ite v32
 (bd (PV.len v2) fun v33 =>
 bd (PV.bin .sub v33 (.int .i64 1)) fun v34 =>
 bd (spec_l01Between v5 (.int .i64 0) v34) fun r35 =>
 PV.ite (hd r35)
 (bd (PV.at_ 3 true v2 v5) fun v36 =>
 bd (PV.cell v36 0) fun v37 =>
 some [(.tup [v37, (.int .i64 1)])])
 (some [(.tup [(.int .i64 0), (.int .i64 0)])]))
 (some [(.tup [(.int .i64 0), (.int .i64 0)])]))))))))))))))))))))))))) := pcallEq _ _ _ (by kernel_rfl)
theorem spec_l03Next_eq (x0 x1 : PV) : spec_l03Next x0 x1 =
 bd (PV.whole 2 x0) fun v0 =>
 bd (PV.cell v0 0) fun v1 =>
 bd (PV.cell v0 1) fun v2 =>
 bd (PV.bin .neq v1 (.int .i64 17)) fun v3 =>
 PV.ite v3
 (bd (PV.bin .neq v1 (.int .i64 25)) fun v4 =>
 PV.ite v4
 (spec_l03Next_c3 x1 v1 v2 (.lst []))
 (spec_l03Next_c4 v1 v2 (.lst [])))
 (spec_l03Next_c4 v1 v2 (.lst [])) := pcallEq _ _ _ (by kernel_rfl)
theorem spec_l03Next_c3_eq (x0 x1 x2 x3 : PV) : spec_l03Next_c3 x0 x1 x2 x3 =
 bd (PV.bin .add x0 (.int .i64 1)) fun v0 =>
 bd (PV.cat 1 8 false (.lst []) (.lst [v0])) fun v1 =>
 bd (PV.cat 1 8 false x3 v1) fun v2 =>
 spec_l03Next_c4 x1 x2 v2 := goOnEq _ _ _ _ _ _ _ _ (by kernel_rfl)
theorem spec_l03Next_c4_eq (x0 x1 x2 : PV) : spec_l03Next_c4 x0 x1 x2 =
 bd (PV.bin .eql x0 (.int .i64 17)) fun v0 =>
 PV.ite v0
 (spec_l03Next_c5 x0 x1 x2)
 (bd (PV.bin .eql x0 (.int .i64 18)) fun v1 =>
 PV.ite v1
 (spec_l03Next_c5 x0 x1 x2)
 (bd (PV.bin .eql x0 (.int .i64 19)) fun v2 =>
 PV.ite v2
 (spec_l03Next_c5 x0 x1 x2)
 (some [x2]))) := goOnEq _ _ _ _ _ _ _ _ (by kernel_rfl)
theorem spec_l03Next_c5_eq (x0 x1 x2 : PV) : spec_l03Next_c5 x0 x1 x2 =
 bd (PV.cat 1 8 false (.lst []) (.lst [x1])) fun v0 =>
 bd (PV.cat 1 8 false x2 v0) fun v1 =>
 some [v1] := goOnEq _ _ _ _ _ _ _ _ (by kernel_rfl)
theorem impl_ModuleOk_eq (x0 : PV) : impl_ModuleOk x0 =
 bd (PV.whole 2 x0) fun v0 =>
 bd (PV.cell v0 0) fun v1 =>
 bd (PV.cell v0 1) fun v2 =>
 bd (PV.len v2) fun v3 =>
 bd (impl_inRange v3 (.int .i64 1) (.int .i64 12)) fun r4 =>
 bd (PV.not (hd r4)) fun v5 =>
 PV.ite v5
 (some [.bool false])
 (bd (PV.len v1) fun v6 =>
 bd (PV.bin .gtr v6 (.int .i64 20)) fun v7 =>
 PV.ite v7
 (some [.bool false])
 (bd (slices_ContainsFunc_string_string v1 (.fn 71 [])) fun r8 =>
 PV.ite (hd r8)
 (some [.bool false])
 (bd (PV.len v2) fun v9 =>
 impl_ModuleOk_c4 v2 v9 (.int .i64 0) v1 v2))) := pcallEq _ _ _ (by kernel_rfl)
theorem impl_ModuleOk_c4_eq (x0 x1 x2 x3 x4 : PV) : impl_ModuleOk_c4 x0 x1 x2 x3 x4 =
 bd (PV.bin .lss x2 x1) fun v0 =>
 PV.ite v0
 (bd (PV.at_ 3 true x0 x2) fun v1 =>
 bd (PV.whole 3 v1) fun v2 =>
 bd (PV.cell v2 0) fun v3 =>
 bd (PV.cell v2 1) fun v4 =>
 bd (PV.cell v2 2) fun v5 =>
 bd (impl_inRange v3 (.int .i64 0) (.int .i64 6)) fun r6 =>
 bd (PV.not (hd r6)) fun v7 =>
 PV.ite v7
 (some [.bool false])
 (bd (impl_inRange v4 v3 (.int .i64 12)) fun r8 =>
 bd (PV.not (hd r8)) fun v9 =>
 PV.ite v9
 (some [.bool false])
 (bd (PV.len v5) fun v10 =>
 bd (impl_inRange v10 (.int .i64 1) (.int .i64 120)) fun r11 =>
 bd (PV.not (hd r11)) fun v12 =>
 PV.ite v12
 (some [.bool false])
 (bd (slices_ContainsFunc_impl_Ins_impl_Ins v5 (.fn 74 [(.bx [x3, x4]), (.bx [v3, v4, v5])])) fun r13 =>
 PV.guardFlat (hd r13) (
 PV.ite (hd r13)
 (some [.bool false])
 (bd (PV.bin .add x2 (.int .i64 1)) fun v14 =>
 impl_ModuleOk_c4 x0 x1 v14 x3 x4))))))
 (some [.bool true]) := goOnEq _ _ _ _ _ _ _ _ (by kernel_rfl)
theorem impl_depths_eq (x0 x1 : PV) : impl_depths x0 x1 =
 bd (PV.whole 2 x0) fun v0 =>
 bd (PV.cell v0 0) fun v1 =>
 bd (PV.cell v0 1) fun v2 =>
 bd (PV.at_ 3 true v2 x1) fun v3 =>
 bd (PV.cell v3 2) fun v4 =>
 bd (PV.len v4) fun v5 =>
 bd (slices_Repeat_int_int (.lst [(.int .i64 (-1))]) v5) fun r6 =>
 PV.guardOwn (.own 1 8 false []) (gd r6 0) (
 bd (PV.inb (gd r6 0) (.int .i64 0)) fun v7 =>
 bd (PV.setAt 1 false (gd r6 0) (.int .i64 0) (.int .i64 0)) fun v8 =>
 impl_depths_c5 v4 (.bool true) v1 v2 v8) := pcallEq _ _ _ (by kernel_rfl)
theorem impl_depths_c5_eq (x0 x1 x2 x3 x4 : PV) : impl_depths_c5 x0 x1 x2 x3 x4 =
 PV.ite x1
 (bd (PV.len x0) fun v0 =>
 impl_depths_c8 x0 (.bool false) x0 v0 (.int .i64 0) x2 x3 x4)
 (some [x4]) := goOnEq _ _ _ _ _ _ _ _ (by kernel_rfl)
theorem impl_depths_c8_eq (x0 x1 x2 x3 x4 x5 x6 x7 : PV) : impl_depths_c8 x0 x1 x2 x3 x4 x5 x6 x7 =
 bd (PV.bin .lss x4 x3) fun v0 =>
 PV.ite v0
 (bd (PV.at_ 2 true x2 x4) fun v1 =>
 bd (PV.whole 2 v1) fun v2 =>
 bd (PV.cell v2 0) fun v3 =>
 bd (PV.cell v2 1) fun v4 =>
 bd (PV.inb x7 x4) fun v5 =>
 bd (PV.at_ 1 false x7 x4) fun v6 =>
 bd (PV.bin .lss v6 (.int .i64 0)) fun v7 =>
 PV.ite v7
 (bd (PV.bin .add x4 (.int .i64 1)) fun v8 =>
 impl_depths_c8 x0 x1 x2 x3 v8 x5 x6 x7)
 (bd (PV.inb x7 x4) fun v9 =>
 bd (PV.at_ 1 false x7 x4) fun v10 =>
 bd (impl_leaves (.agg [x5, x6]) (.agg [v3, v4]) v10) fun r11 =>
 bd (PV.comp (hd r11) 0) fun v12 =>
 bd (PV.comp (hd r11) 1) fun v13 =>
 bd (impl_follows (.agg [v3, v4]) x4) fun r14 =>
 bd (PV.len (hd r14)) fun v15 =>
 impl_depths_c13 x0 x1 v12 v13 x2 x3 x4 (hd r14) v15 (.int .i64 0) x5 x6 x7))
 (impl_depths_c5 x0 x1 x5 x6 x7) := goOnEq _ _ _ _ _ _ _ _ (by kernel_rfl)
theorem impl_depths_c13_eq (x0 x1 x2 x3 x4 x5 x6 x7 x8 x9 x10 x11 x12 : PV) : impl_depths_c13 x0 x1 x2 x3 x4 x5 x6 x7 x8 x9 x10 x11 x12 =
 bd (PV.bin .lss x9 x8) fun v0 =>
 PV.ite v0
 (bd (PV.at_ 1 false x7 x9) fun v1 =>
 PV.ite x3
 (bd (PV.len x0) fun v2 =>
 bd (PV.bin .lss v1 v2) fun v3 =>
 PV.ite v3
 (bd (PV.inb x12 v1) fun v4 =>
 bd (PV.at_ 1 false x12 v1) fun v5 =>
 bd (PV.bin .lss v5 (.int .i64 0)) fun v6 =>
 PV.ite v6
 (impl_depths_c16 x0 x2 x3 v1 x4 x5 x6 x7 x8 x9 x10 x11 x12)
 (bd (PV.bin .add x9 (.int .i64 1)) fun v7 =>
 impl_depths_c13 x0 x1 x2 x3 x4 x5 x6 x7 x8 v7 x10 x11 x12))
 (bd (PV.bin .add x9 (.int .i64 1)) fun v8 =>
 impl_depths_c13 x0 x1 x2 x3 x4 x5 x6 x7 x8 v8 x10 x11 x12))
 (bd (PV.bin .add x9 (.int .i64 1)) fun v9 =>
 impl_depths_c13 x0 x1 x2 x3 x4 x5 x6 x7 x8 v9 x10 x11 x12))
 (bd (PV.bin .add x6 (.int .i64 1)) fun v10 =>
 impl_depths_c8 x0 x1 x4 x5 v10 x10 x11 x12) := goOnEq _ _ _ _ _ _ _ _ (by kernel_rfl)
theorem impl_depths_c16_eq (x0 x1 x2 x3 x4 x5 x6 x7 x8 x9 x10 x11 x12 : PV) : impl_depths_c16 x0 x1 x2 x3 x4 x5 x6 x7 x8 x9 x10 x11 x12 =
 bd (PV.inb x12 x3) fun v0 =>
 bd (PV.setAt 1 false x12 x3 x1) fun v1 =>
 bd (PV.bin .add x9 (.int .i64 1)) fun v2 =>
 impl_depths_c13 x0 (.bool true) x1 x2 x4 x5 x6 x7 x8 v2 x10 x11 v1 := goOnEq _ _ _ _ _ _ _ _ (by kernel_rfl)
theorem impl_leaves_eq (x0 x1 x2 : PV) : impl_leaves x0 x1 x2 =
 bd (PV.whole 2 x0) fun v0 =>
 bd (PV.cell v0 0) fun v1 =>
 bd (PV.cell v0 1) fun v2 =>
 bd (PV.whole 2 x1) fun v3 =>
 bd (PV.cell v3 0) fun v4 =>
 bd (PV.cell v3 1) fun v5 =>
 bd (impl_UsesOf (.agg [v1, v2]) (.agg [v4, v5])) fun r6 =>
 bd (PV.comp (hd r6) 0) fun v7 =>
 bd (PV.comp (hd r6) 1) fun v8 =>
 bd (PV.bin .sub x2 v7) fun v9 =>
 bd (PV.bin .add v9 v8) fun v10 =>
 bd (PV.bin .leq v7 x2) fun v11 =>
 PV.ite v11
 (bd (PV.bin .leq v10 (.int .i64 16)) fun v12 =>
 some [(.tup [v10, v12])])
 (some [(.tup [v10, (.bool false)])]) := pcallEq _ _ _ (by kernel_rfl)
theorem impl_follows_eq (x0 x1 : PV) : impl_follows x0 x1 =
 bd (PV.whole 2 x0) fun v0 =>
 bd (PV.cell v0 0) fun v1 =>
 bd (PV.cell v0 1) fun v2 =>
 bd (PV.bin .eql v1 (.int .i64 25)) fun v3 =>
 PV.ite v3
 (some [(.lst [])])
 (bd (PV.bin .eql v1 (.int .i64 17)) fun v4 =>
 PV.ite v4
 (bd (PV.cat 1 8 false (.lst []) (.lst [v2])) fun v5 =>
 some [v5])
 (bd (PV.bin .eql v1 (.int .i64 18)) fun v6 =>
 PV.ite v6
 (bd (PV.bin .add x1 (.int .i64 1)) fun v7 =>
 bd (PV.cat 1 8 false (.lst []) (.lst [v7, v2])) fun v8 =>
 some [v8])
 (bd (PV.bin .eql v1 (.int .i64 19)) fun v9 =>
 PV.ite v9
 (bd (PV.bin .add x1 (.int .i64 1)) fun v10 =>
 bd (PV.cat 1 8 false (.lst []) (.lst [v10, v2])) fun v11 =>
 some [v11])
 (bd (PV.bin .add x1 (.int .i64 1)) fun v12 =>
 bd (PV.cat 1 8 false (.lst []) (.lst [v12])) fun v13 =>
 some [v13])))) := pcallEq _ _ _ (by kernel_rfl)
theorem slices_Contains_int_int_eq (x0 x1 : PV) : slices_Contains_int_int x0 x1 =
 bd (slices_Index_int_int x0 x1) fun r0 =>
 bd (PV.bin .geq (hd r0) (.int .i64 0)) fun v1 =>
 some [v1] := pcallEq _ _ _ (by kernel_rfl)
theorem slices_ContainsFunc_int_int_eq (x0 x1 : PV) : slices_ContainsFunc_int_int x0 x1 =
 bd (slices_IndexFunc_int_int x0 x1) fun r0 =>
 bd (PV.bin .geq (hd r0) (.int .i64 0)) fun v1 =>
 some [v1] := pcallEq _ _ _ (by kernel_rfl)
theorem impl_Verify_1_eq (x0 x1 x2 : PV) : impl_Verify_1 x0 x1 x2 =
 bd (PV.deref x1 0) fun v0 =>
 bd (PV.at_ 1 false v0 x0) fun v1 =>
 bd (PV.deref x2 0) fun v2 =>
 bd (PV.bin .neq v1 v2) fun v3 =>
 some [v3] := pcallEq _ _ _ (by kernel_rfl)
theorem cmp_isNaN_int_eq (x0 : PV) : cmp_isNaN_int x0 = bd (PV.bin .neq x0 x0) fun v0 => some [v0] := pcallEq _ _ _ (by kernel_rfl)
theorem spec_l01Text_eq (x0 : PV) : spec_l01Text x0 =
 bd (PV.slen x0) fun v0 =>
 bd (PV.bin .gtr v0 (.int .i64 60)) fun v1 =>
 PV.ite v1
 (some [.bool false])
 (spec_l01Text_c4 x0 (.int .i64 0)) := pcallEq _ _ _ (by kernel_rfl)
theorem spec_l01Text_c4_eq (x0 x1 : PV) : spec_l01Text_c4 x0 x1 =
 bd (PV.slen x0) fun v0 =>
 bd (PV.bin .lss x1 v0) fun v1 =>
 PV.ite v1
 (bd (PV.chr x0 x1) fun v2 =>
 bd (PV.bin .lss v2 (.int .u8 32)) fun v3 =>
 PV.ite v3
 (some [.bool false])
 (bd (PV.chr x0 x1) fun v4 =>
 bd (PV.bin .gtr v4 (.int .u8 126)) fun v5 =>
 PV.ite v5
 (some [.bool false])
 (bd (PV.chr x0 x1) fun v6 =>
 bd (PV.bin .eql v6 (.int .u8 34)) fun v7 =>
 PV.ite v7
 (some [.bool false])
 (bd (PV.bin .add x1 (.int .i64 1)) fun v8 =>
 spec_l01Text_c4 x0 v8))))
 (some [.bool true]) := goOnEq _ _ _ _ _ _ _ _ (by kernel_rfl)
theorem spec_InsOk_eq (x0 x1 x2 : PV) : spec_InsOk x0 x1 x2 =
 bd (PV.whole 2 x0) fun v0 =>
 bd (PV.cell v0 0) fun v1 =>
 bd (PV.cell v0 1) fun v2 =>
 bd (PV.whole 2 x2) fun v3 =>
 bd (PV.cell v3 0) fun v4 =>
 bd (PV.cell v3 1) fun v5 =>
 bd (PV.len v2) fun v6 =>
 bd (PV.bin .sub v6 (.int .i64 1)) fun v7 =>
 bd (spec_l01Between x1 (.int .i64 0) v7) fun r8 =>
 bd (PV.not (hd r8)) fun v9 =>
 PV.ite v9
 (some [.bool false])
 (bd (PV.bin .eql v4 (.int .i64 1)) fun v10 =>
 PV.ite v10
 (bd (spec_l01Between v5 (.int .i64 (-1000000000)) (.int .i64 1000000000)) fun r11 =>
 some [(hd r11)])
 (bd (PV.bin .eql v4 (.int .i64 2)) fun v12 =>
 PV.ite v12
 (bd (spec_l01Between v5 (.int .i64 0) (.int .i64 1)) fun r13 =>
 some [(hd r13)])
 (bd (PV.bin .eql v4 (.int .i64 3)) fun v14 =>
 PV.ite v14
 (bd (PV.len v1) fun v15 =>
 bd (PV.bin .sub v15 (.int .i64 1)) fun v16 =>
 bd (spec_l01Between v5 (.int .i64 0) v16) fun r17 =>
 some [(hd r17)])
 (bd (PV.bin .eql v4 (.int .i64 5)) fun v18 =>
 PV.ite v18
 (bd (PV.len v2) fun v19 =>
 bd (PV.bin .sub v19 (.int .i64 1)) fun v20 =>
 bd (spec_l01Between v5 (.int .i64 0) v20) fun r21 =>
 some [(hd r21)])
 (bd (PV.bin .eql v4 (.int .i64 24)) fun v22 =>
 PV.ite v22
 (bd (PV.len v2) fun v23 =>
 bd (PV.bin .sub v23 (.int .i64 1)) fun v24 =>
 bd (spec_l01Between v5 (.int .i64 0) v24) fun r25 =>
 some [(hd r25)])
 (bd (PV.bin .eql v4 (.int .i64 6)) fun v26 =>
 PV.ite v26
 (bd (PV.at_ 3 true v2 x1) fun v27 =>
 bd (PV.cell v27 1) fun v28 =>
 bd (PV.bin .sub v28 (.int .i64 1)) fun v29 =>
 bd (spec_l01Between v5 (.int .i64 0) v29) fun r30 =>
 some [(hd r30)])
 (bd (PV.bin .eql v4 (.int .i64 7)) fun v31 =>
 PV.ite v31
 (bd (PV.at_ 3 true v2 x1) fun v32 =>
 bd (PV.cell v32 1) fun v33 =>
 bd (PV.bin .sub v33 (.int .i64 1)) fun v34 =>
 bd (spec_l01Between v5 (.int .i64 0) v34) fun r35 =>
 some [(hd r35)])
 (bd (PV.bin .eql v4 (.int .i64 17)) fun v36 =>
 PV.ite v36
 (bd (PV.at_ 3 true v2 x1) fun v37 =>
 bd (PV.cell v37 2) fun v38 =>
 bd (PV.len v38) fun v39 =>
 bd (PV.bin .sub v39 (.int .i64 1)) fun v40 =>
 bd (spec_l01Between v5 (.int .i64 0) v40) fun r41 =>
 some [(hd r41)])
 (bd (PV.bin .eql v4 (.int .i64 18)) fun v42 =>
 PV.ite v42
 (bd (PV.at_ 3 true v2 x1) fun v43 =>
 bd (PV.cell v43 2) fun v44 =>
 bd (PV.len v44) fun v45 =>
 bd (PV.bin .sub v45 (.int .i64 1)) fun v46 =>
 bd (spec_l01Between v5 (.int .i64 0) v46) fun r47 =>
 some [(hd r47)])
 (bd (PV.bin .eql v4 (.int .i64 19)) fun v48 =>
 PV.ite v48
 (bd (PV.at_ 3 true v2 x1) fun v49 =>
 bd (PV.cell v49 2) fun v50 =>
 bd (PV.len v50) fun v51 =>
 bd (PV.bin .sub v51 (.int .i64 1)) fun v52 =>
 bd (spec_l01Between v5 (.int .i64 0) v52) fun r53 =>
 some [(hd r53)])
 (bd (PV.bin .eql v4 (.int .i64 20)) fun v54 =>
 PV.ite v54
 (bd (spec_l01Between v5 (.int .i64 0) (.int .i64 6)) fun r55 =>
 some [(hd r55)])
 (bd (PV.bin .eql v4 (.int .i64 21)) fun v56 =>
 PV.ite v56
 (bd (spec_l01Between v5 (.int .i64 0) (.int .i64 5)) fun r57 =>
 some [(hd r57)])
 (bd (PV.bin .eql v4 (.int .i64 22)) fun v58 =>
 PV.ite v58
 (bd (spec_l01Between v5 (.int .i64 0) (.int .i64 5)) fun r59 =>
 some [(hd r59)])
 (bd (PV.bin .eql v4 (.int .i64 23)) fun v60 =>
 PV.ite v60
 (bd (spec_l01Between v5 (.int .i64 0) (.int .i64 6)) fun r61 =>
 some [(hd r61)])
 (bd (spec_l01Between v4 (.int .i64 1) (.int .i64 26)) fun r62 =>
 PV.ite (hd r62)
 (bd (PV.bin .eql v5 (.int .i64 0)) fun v63 =>
 some [v63])
 (some [.bool false])))))))))))))))) := pcallEq _ _ _ (by kernel_rfl)
theorem slices_ContainsFunc_string_string_eq (x0 x1 : PV) : slices_ContainsFunc_string_string x0 x1 =
 bd (slices_IndexFunc_string_string x0 x1) fun r0 =>
 bd (PV.bin .geq (hd r0) (.int .i64 0)) fun v1 =>
 some [v1] := pcallEq _ _ _ (by kernel_rfl)
theorem impl_ModuleOk_1_eq (x0 : PV) : impl_ModuleOk_1 x0 = bd (impl_textOk x0) fun r0 => bd (PV.not (hd r0)) fun v1 => some [v1] := pcallEq _ _ _ (by kernel_rfl)
theorem slices_ContainsFunc_impl_Ins_impl_Ins_eq (x0 x1 : PV) : slices_ContainsFunc_impl_Ins_impl_Ins x0 x1 =
 bd (slices_IndexFunc_impl_Ins_impl_Ins x0 x1) fun r0 =>
 bd (PV.bin .geq (hd r0) (.int .i64 0)) fun v1 =>
 some [v1] := pcallEq _ _ _ (by kernel_rfl)
theorem impl_ModuleOk_2_eq (x0 x1 x2 : PV) : impl_ModuleOk_2 x0 x1 x2 =
 bd (PV.whole 2 x0) fun v0 =>
 bd (PV.cell v0 0) fun v1 =>
 bd (PV.cell v0 1) fun v2 =>
 bd (PV.deref x1 0) fun v3 =>
 bd (PV.deref x1 1) fun v4 =>
 bd (PV.deref x2 0) fun v5 =>
 bd (PV.deref x2 1) fun v6 =>
 bd (PV.deref x2 2) fun v7 =>
 bd (impl_insOk (.agg [v3, v4]) (.agg [v5, v6, v7]) (.agg [v1, v2])) fun r8 =>
 bd (PV.not (hd r8)) fun v9 =>
 some [v9] := pcallEq _ _ _ (by kernel_rfl)
theorem impl_UsesOf_eq (x0 x1 : PV) : impl_UsesOf x0 x1 =
 bd (PV.whole 2 x0) fun v0 =>
 bd (PV.cell v0 0) fun v1 =>
 bd (PV.cell v0 1) fun v2 =>
 bd (PV.whole 2 x1) fun v3 =>
 bd (PV.cell v3 0) fun v4 =>
 bd (PV.cell v3 1) fun v5 =>
 bd (impl_inRange v4 (.int .i64 1) (.int .i64 6)) fun r6 =>
 PV.ite (hd r6)
 (some [(.tup [(.int .i64 0), (.int .i64 1)])])
 (bd (PV.bin .eql v4 (.int .i64 20)) fun v7 =>
 PV.ite v7
 (some [(.tup [(.int .i64 0), (.int .i64 1)])])
 (bd (PV.bin .eql v4 (.int .i64 7)) fun v8 =>
 PV.ite v8
 (some [(.tup [(.int .i64 1), (.int .i64 0)])])
 (bd (PV.bin .eql v4 (.int .i64 9)) fun v9 =>
 PV.ite v9
 (some [(.tup [(.int .i64 1), (.int .i64 0)])])
 (bd (PV.bin .eql v4 (.int .i64 18)) fun v10 =>
 PV.ite v10
 (some [(.tup [(.int .i64 1), (.int .i64 0)])])
 (bd (PV.bin .eql v4 (.int .i64 19)) fun v11 =>
 PV.ite v11
 (some [(.tup [(.int .i64 1), (.int .i64 0)])])
 (bd (PV.bin .eql v4 (.int .i64 25)) fun v12 =>
 PV.ite v12
 (some [(.tup [(.int .i64 1), (.int .i64 0)])])
 (bd (PV.bin .eql v4 (.int .i64 26)) fun v13 =>
 PV.ite v13
 (some [(.tup [(.int .i64 1), (.int .i64 0)])])
 (bd (PV.bin .eql v4 (.int .i64 8)) fun v14 =>
 PV.ite v14
 (some [(.tup [(.int .i64 1), (.int .i64 2)])])
 (bd (PV.bin .eql v4 (.int .i64 10)) fun v15 =>
 PV.ite v15
 (some [(.tup [(.int .i64 2), (.int .i64 2)])])
 (bd (impl_inRange v4 (.int .i64 11) (.int .i64 15)) fun r16 =>
 PV.ite (hd r16)
 (some [(.tup [(.int .i64 2), (.int .i64 1)])])
 (bd (PV.bin .eql v4 (.int .i64 16)) fun v17 =>
 PV.ite v17
 (some [(.tup [(.int .i64 1), (.int .i64 1)])])
 (bd (PV.bin .eql v4 (.int .i64 21)) fun v18 =>
 PV.ite v18
 (some [(.tup [(.int .i64 1), (.int .i64 1)])])
 (bd (PV.bin .eql v4 (.int .i64 22)) fun v19 =>
 PV.ite v19
 (some [(.tup [(.int .i64 2), (.int .i64 0)])])
 (bd (PV.bin .eql v4 (.int .i64 23)) fun v20 =>
 PV.ite v20
 (bd (impl_inRange v5 (.int .i64 0) (.int .i64 6)) fun r21 =>
 PV.ite (hd r21)
 (bd (PV.bin .add v5 (.int .i64 1)) fun v22 =>
 some [(.tup [v22, (.int .i64 1)])])
 (impl_UsesOf_c24 v1 v2 v4 v5))
 (impl_UsesOf_c24 v1 v2 v4 v5))))))))))))))) := pcallEq _ _ _ (by kernel_rfl)
end Go.Proofs.YtjgleeamiclokaaGreat
namespace Go.Proofs.YtjgleeamiclokaaGreat
open Go
theorem impl_UsesOf_c24_eq (x0 x1 x2 x3 : PV) : impl_UsesOf_c24 x0 x1 x2 x3 =
 bd (PV.bin .eql x2 (.int .i64 24)) fun v0 =>
 PV.ite v0
 (bd (PV.len x1) fun v1 =>
 bd (impl_isPlace x3 v1) fun r2 =>
 PV.ite (hd r2)
 (impl_UsesOf_c25 x0 x1 x2 x3)
 (some [(.tup [(.int .i64 0), (.int .i64 0)])]))
 (some [(.tup [(.int .i64 0), (.int .i64 0)])]) := goOnEq _ _ _ _ _ _ _ _ (by kernel_rfl)
theorem impl_UsesOf_c25_eq (x0 x1 x2 x3 : PV) : impl_UsesOf_c25 x0 x1 x2 x3 =
 bd (PV.at_ 3 true x1 x3) fun v0 =>
 bd (PV.cell v0 0) fun v1 =>
 some [(.tup [v1, (.int .i64 1)])] := goOnEq _ _ _ _ _ _ _ _ (by kernel_rfl)
theorem slices_Index_int_int_eq (x0 x1 : PV) : slices_Index_int_int x0 x1 = bd (PV.len x0) fun v0 => slices_Index_int_int_c2 x0 x1 v0 (.int .i64 0) := pcallEq _ _ _ (by kernel_rfl)
theorem slices_Index_int_int_c2_eq (x0 x1 x2 x3 : PV) : slices_Index_int_int_c2 x0 x1 x2 x3 =
 bd (PV.bin .lss x3 x2) fun v0 =>
 PV.ite v0
 (bd (PV.at_ 1 false x0 x3) fun v1 =>
 bd (PV.bin .eql x1 v1) fun v2 =>
 PV.ite v2
 (some [x3])
 (bd (PV.bin .add x3 (.int .i64 1)) fun v3 =>
 slices_Index_int_int_c2 x0 x1 x2 v3))
 (some [(.int .i64 (-1))]) := goOnEq _ _ _ _ _ _ _ _ (by kernel_rfl)
theorem slices_IndexFunc_int_int_eq (x0 x1 : PV) : slices_IndexFunc_int_int x0 x1 = bd (PV.len x0) fun v0 => slices_IndexFunc_int_int_c2 x0 x1 v0 (.int .i64 0) := pcallEq _ _ _ (by kernel_rfl)
theorem slices_IndexFunc_int_int_c2_eq (x0 x1 x2 x3 : PV) : slices_IndexFunc_int_int_c2 x0 x1 x2 x3 =
 bd (PV.bin .lss x3 x2) fun v0 =>
 PV.ite v0
 (bd (PV.at_ 1 false x0 x3) fun v1 =>
 bd (PV.apply pcallO x1 [v1]) fun r2 =>
 PV.ite (hd r2)
 (some [x3])
 (bd (PV.bin .add x3 (.int .i64 1)) fun v3 =>
 slices_IndexFunc_int_int_c2 x0 x1 x2 v3))
 (some [(.int .i64 (-1))]) := goOnEq _ _ _ _ _ _ _ _ (by kernel_rfl)
theorem slices_IndexFunc_string_string_eq (x0 x1 : PV) : slices_IndexFunc_string_string x0 x1 =
 bd (PV.len x0) fun v0 =>
 slices_IndexFunc_string_string_c2 x0 x1 v0 (.int .i64 0) := pcallEq _ _ _ (by kernel_rfl)
theorem slices_IndexFunc_string_string_c2_eq (x0 x1 x2 x3 : PV) : slices_IndexFunc_string_string_c2 x0 x1 x2 x3 =
 bd (PV.bin .lss x3 x2) fun v0 =>
 PV.ite v0
 (bd (PV.at_ 1 false x0 x3) fun v1 =>
 bd (PV.apply pcallO x1 [v1]) fun r2 =>
 PV.ite (hd r2)
 (some [x3])
 (bd (PV.bin .add x3 (.int .i64 1)) fun v3 =>
 slices_IndexFunc_string_string_c2 x0 x1 x2 v3))
 (some [(.int .i64 (-1))]) := goOnEq _ _ _ _ _ _ _ _ (by kernel_rfl)
theorem impl_textOk_eq (x0 : PV) : impl_textOk x0 = bd (PV.slen x0) fun v0 => impl_textOk_c2 x0 v0 (.int .i64 0) := pcallEq _ _ _ (by kernel_rfl)
theorem impl_textOk_c2_eq (x0 x1 x2 : PV) : impl_textOk_c2 x0 x1 x2 =
 bd (PV.bin .lss x2 x1) fun v0 =>
 PV.ite v0
 (bd (PV.chr x0 x2) fun v1 =>
 bd (PV.bin .lss v1 (.int .u8 32)) fun v2 =>
 PV.ite v2
 (some [.bool false])
 (bd (PV.chr x0 x2) fun v3 =>
 bd (PV.bin .gtr v3 (.int .u8 126)) fun v4 =>
 PV.ite v4
 (some [.bool false])
 (bd (PV.chr x0 x2) fun v5 =>
 bd (PV.bin .eql v5 (.int .u8 34)) fun v6 =>
 PV.ite v6
 (some [.bool false])
 (bd (PV.bin .add x2 (.int .i64 1)) fun v7 =>
 impl_textOk_c2 x0 x1 v7))))
 (bd (PV.slen x0) fun v8 =>
 bd (PV.bin .leq v8 (.int .i64 60)) fun v9 =>
 some [v9]) := goOnEq _ _ _ _ _ _ _ _ (by kernel_rfl)
theorem slices_IndexFunc_impl_Ins_impl_Ins_eq (x0 x1 : PV) : slices_IndexFunc_impl_Ins_impl_Ins x0 x1 =
 bd (PV.len x0) fun v0 =>
 slices_IndexFunc_impl_Ins_impl_Ins_c2 x0 x1 v0 (.int .i64 0) := pcallEq _ _ _ (by kernel_rfl)
theorem slices_IndexFunc_impl_Ins_impl_Ins_c2_eq (x0 x1 x2 x3 : PV) : slices_IndexFunc_impl_Ins_impl_Ins_c2 x0 x1 x2 x3 =
 bd (PV.bin .lss x3 x2) fun v0 =>
 PV.ite v0
 (bd (PV.at_ 2 true x0 x3) fun v1 =>
 bd (PV.apply pcallO x1 [v1]) fun r2 =>
 PV.ite (hd r2)
 (some [x3])
 (bd (PV.bin .add x3 (.int .i64 1)) fun v3 =>
 slices_IndexFunc_impl_Ins_impl_Ins_c2 x0 x1 x2 v3))
 (some [(.int .i64 (-1))]) := goOnEq _ _ _ _ _ _ _ _ (by kernel_rfl)
theorem impl_insOk_eq (x0 x1 x2 : PV) : impl_insOk x0 x1 x2 =
 bd (PV.whole 2 x0) fun v0 =>
 bd (PV.cell v0 0) fun v1 =>
 bd (PV.cell v0 1) fun v2 =>
 bd (PV.whole 3 x1) fun v3 =>
 bd (PV.cell v3 0) fun v4 =>
 bd (PV.cell v3 1) fun v5 =>
 bd (PV.cell v3 2) fun v6 =>
 bd (PV.whole 2 x2) fun v7 =>
 bd (PV.cell v7 0) fun v8 =>
 bd (PV.cell v7 1) fun v9 =>
 bd (PV.bin .eql v8 (.int .i64 1)) fun v10 =>
 PV.ite v10
 (bd (impl_isNum v9) fun r11 =>
 some [(hd r11)])
 (bd (PV.bin .eql v8 (.int .i64 2)) fun v12 =>
 PV.ite v12
 (bd (impl_inRange v9 (.int .i64 0) (.int .i64 1)) fun r13 =>
 some [(hd r13)])
 (bd (PV.bin .eql v8 (.int .i64 3)) fun v14 =>
 PV.ite v14
 (bd (PV.len v1) fun v15 =>
 bd (impl_isPlace v9 v15) fun r16 =>
 some [(hd r16)])
 (bd (PV.bin .eql v8 (.int .i64 5)) fun v17 =>
 PV.ite v17
 (bd (PV.len v2) fun v18 =>
 bd (impl_isPlace v9 v18) fun r19 =>
 some [(hd r19)])
 (bd (PV.bin .eql v8 (.int .i64 24)) fun v20 =>
 PV.ite v20
 (bd (PV.len v2) fun v21 =>
 bd (impl_isPlace v9 v21) fun r22 =>
 some [(hd r22)])
 (bd (PV.bin .eql v8 (.int .i64 6)) fun v23 =>
 PV.ite v23
 (bd (impl_isPlace v9 v5) fun r24 =>
 some [(hd r24)])
 (bd (PV.bin .eql v8 (.int .i64 7)) fun v25 =>
 PV.ite v25
 (bd (impl_isPlace v9 v5) fun r26 =>
 some [(hd r26)])
 (bd (PV.bin .eql v8 (.int .i64 17)) fun v27 =>
 PV.ite v27
 (bd (PV.len v6) fun v28 =>
 bd (impl_isPlace v9 v28) fun r29 =>
 some [(hd r29)])
 (bd (PV.bin .eql v8 (.int .i64 18)) fun v30 =>
 PV.ite v30
 (bd (PV.len v6) fun v31 =>
 bd (impl_isPlace v9 v31) fun r32 =>
 some [(hd r32)])
 (bd (PV.bin .eql v8 (.int .i64 19)) fun v33 =>
 PV.ite v33
 (bd (PV.len v6) fun v34 =>
 bd (impl_isPlace v9 v34) fun r35 =>
 some [(hd r35)])
 (bd (PV.bin .eql v8 (.int .i64 20)) fun v36 =>
 PV.ite v36
 (bd (impl_inRange v9 (.int .i64 0) (.int .i64 6)) fun r37 =>
 some [(hd r37)])
 (bd (PV.bin .eql v8 (.int .i64 21)) fun v38 =>
 PV.ite v38
 (bd (impl_isPlace v9 (.int .i64 6)) fun r39 =>
 some [(hd r39)])
 (bd (PV.bin .eql v8 (.int .i64 22)) fun v40 =>
 PV.ite v40
 (bd (impl_isPlace v9 (.int .i64 6)) fun r41 =>
 some [(hd r41)])
 (bd (PV.bin .eql v8 (.int .i64 23)) fun v42 =>
 PV.ite v42
 (bd (impl_inRange v9 (.int .i64 0) (.int .i64 6)) fun r43 =>
 some [(hd r43)])
 (bd (impl_inRange v8 (.int .i64 1) (.int .i64 26)) fun r44 =>
 PV.ite (hd r44)
 (bd (PV.bin .eql v9 (.int .i64 0)) fun v45 =>
 some [v45])
 (some [.bool false]))))))))))))))) := pcallEq _ _ _ (by kernel_rfl)
theorem impl_isNum_eq (x0 : PV) : impl_isNum x0 = bd (impl_inRange x0 (.int .i64 (-1000000000)) (.int .i64 1000000000)) fun r0 => some [(hd r0)] := pcallEq _ _ _ (by kernel_rfl)
theorem spec_l01Open_eq (x0 : PV) : spec_l01Open x0 =
 bd (PV.len x0) fun v0 =>
 bd (PV.bin .rem v0 (.int .i64 1000)) fun v1 =>
 bd (PV.bin .add (.int .i64 11) v1) fun v2 =>
 bd (PV.one x0) fun v3 =>
 bd (PV.one v2) fun v4 =>
 some [v3, (.int .i64 0), v4] := scallEq _ _ _ _ (by kernel_rfl)
theorem spec_l05DrawMany_eq (x0 x1 x2 : PV) : spec_l05DrawMany x0 x1 x2 =
 bd (spec_l01Cur_once (.int .i64 25) x0 x1 x2) fun r0 =>
 PV.ite (gd r0 0)
 (bd (spec_l01DrawAny (.int .i64 2) (gd r0 1) (gd r0 2) (gd r0 3)) fun r1 =>
 bd (PV.whole 2 (gd r1 0)) fun v2 =>
 bd (PV.cell v2 0) fun v3 =>
 bd (PV.cell v2 1) fun v4 =>
 some [(.agg [v3, v4]), (gd r1 1), (gd r1 2), (gd r1 3)])
 (bd (spec_l05DrawGood (gd r0 1) (gd r0 2) (gd r0 3)) fun r5 =>
 bd (PV.whole 2 (gd r5 0)) fun v6 =>
 bd (PV.cell v6 0) fun v7 =>
 bd (PV.cell v6 1) fun v8 =>
 some [(.agg [v7, v8]), (gd r5 1), (gd r5 2), (gd r5 3)]) := scallEq _ _ _ _ (by kernel_rfl)
theorem spec_l07DrawProfile_eq (x0 x1 x2 x3 x4 x5 : PV) : spec_l07DrawProfile x0 x1 x2 x3 x4 x5 =
 bd (spec_l01Cur_pick (.int .i64 4) x3 x4 x5) fun r0 =>
 bd (PV.bin .gtr (gd r0 0) (.int .i64 0)) fun v1 =>
 PV.ite v1
 (bd (spec_l05DrawArgs x0 x1 (gd r0 1) (gd r0 2) (gd r0 3)) fun r2 =>
 bd (spec_l01Cur_pick (.int .i64 200) (gd r2 1) (gd r2 2) (gd r2 3)) fun r3 =>
 bd (spec_ProfileOf (.agg [x0, x1]) (gd r2 0) (gd r3 0)) fun r4 =>
 PV.guardOwn (.own 4 32 true []) (gd r4 0) (
 spec_l07DrawProfile_c4 x2 (gd r3 1) (gd r3 2) (gd r3 3) x0 x1 (gd r4 0)))
 (spec_l07DrawProfile_c4 x2 (gd r0 1) (gd r0 2) (gd r0 3) x0 x1 (.lst [])) := scallEq _ _ _ _ (by kernel_rfl)
theorem spec_l07DrawProfile_c4_eq (x0 x1 x2 x3 x4 x5 x6 : PV) : spec_l07DrawProfile_c4 x0 x1 x2 x3 x4 x5 x6 =
 bd (spec_l03Good (.agg [x4, x5])) fun r0 =>
 PV.ite (hd r0)
 (spec_l07DrawProfile_c6 x0 (.int .i64 0) x1 x2 x3 x4 x5 x6)
 (spec_l07DrawProfile_c19 x0 x1 x2 x3 x6) := goOnEq _ _ _ _ _ _ _ _ (by kernel_rfl)
theorem spec_l07DrawProfile_c6_eq (x0 x1 x2 x3 x4 x5 x6 x7 : PV) : spec_l07DrawProfile_c6 x0 x1 x2 x3 x4 x5 x6 x7 =
 bd (PV.len x6) fun v0 =>
 bd (PV.bin .lss x1 v0) fun v1 =>
 PV.ite v1
 (spec_l07DrawProfile_c9 x0 x1 (.int .i64 0) x2 x3 x4 x5 x6 x7)
 (spec_l07DrawProfile_c19 x0 x2 x3 x4 x7) := goOnEq _ _ _ _ _ _ _ _ (by kernel_rfl)
theorem spec_l07DrawProfile_c19_eq (x0 x1 x2 x3 x4 : PV) : spec_l07DrawProfile_c19 x0 x1 x2 x3 x4 =
 bd (spec_l01Cur_once x0 x1 x2 x3) fun r0 =>
 PV.ite (gd r0 0)
 (bd (spec_l01Cur_pick (.int .i64 4) (gd r0 1) (gd r0 2) (gd r0 3)) fun r1 =>
 bd (PV.bin .sub (gd r1 0) (.int .i64 1)) fun v2 =>
 bd (spec_l01Cur_pick (.int .i64 9) (gd r1 1) (gd r1 2) (gd r1 3)) fun r3 =>
 bd (PV.bin .sub (gd r3 0) (.int .i64 1)) fun v4 =>
 bd (spec_l01Cur_pick (.int .i64 6) (gd r3 1) (gd r3 2) (gd r3 3)) fun r5 =>
 bd (PV.bin .sub (gd r5 0) (.int .i64 1)) fun v6 =>
 bd (spec_l01Cur_pick (.int .i64 5) (gd r5 1) (gd r5 2) (gd r5 3)) fun r7 =>
 bd (PV.bin .sub (gd r7 0) (.int .i64 1)) fun v8 =>
 bd (PV.one v2) fun v9 =>
 bd (PV.one v4) fun v10 =>
 bd (PV.one v6) fun v11 =>
 bd (PV.one v8) fun v12 =>
 bd (PV.cat 4 32 true x4 (.lst [(.agg [v9, v10, v11, v12])])) fun v13 =>
 some [v13, (gd r7 1), (gd r7 2), (gd r7 3)])
 (some [x4, (gd r0 1), (gd r0 2), (gd r0 3)]) := goOnEq _ _ _ _ _ _ _ _ (by kernel_rfl)
theorem spec_l07DrawProfile_c9_eq (x0 x1 x2 x3 x4 x5 x6 x7 x8 : PV) : spec_l07DrawProfile_c9 x0 x1 x2 x3 x4 x5 x6 x7 x8 =
 bd (PV.at_ 3 true x7 x1) fun v0 =>
 bd (PV.cell v0 2) fun v1 =>
 bd (PV.len v1) fun v2 =>
 bd (PV.bin .lss x2 v2) fun v3 =>
 PV.ite v3
 (bd (PV.at_ 3 true x7 x1) fun v4 =>
 bd (PV.cell v4 2) fun v5 =>
 bd (PV.at_ 2 true v5 x2) fun v6 =>
 bd (PV.cell v6 0) fun v7 =>
 bd (spec_l07Is v7) fun r8 =>
 bd (PV.not (hd r8)) fun v9 =>
 PV.ite v9
 (bd (PV.bin .add x2 (.int .i64 1)) fun v10 =>
 spec_l07DrawProfile_c9 x0 x1 v10 x3 x4 x5 x6 x7 x8)
 (bd (spec_l01Cur_pick (.int .i64 4) x3 x4 x5) fun r11 =>
 bd (PV.bin .gtr (gd r11 0) (.int .i64 0)) fun v12 =>
 PV.ite v12
 (bd (PV.bin .add x2 (.int .i64 1)) fun v13 =>
 spec_l07DrawProfile_c9 x0 x1 v13 (gd r11 1) (gd r11 2) (gd r11 3) x6 x7 x8)
 (bd (PV.one x1) fun v14 =>
 bd (PV.one x2) fun v15 =>
 bd (PV.bin .eql v7 (.int .i64 23)) fun v16 =>
 PV.ite v16
 (bd (PV.len x7) fun v17 =>
 bd (spec_l01Cur_pick v17 (gd r11 1) (gd r11 2) (gd r11 3)) fun r18 =>
 bd (PV.one (gd r18 0)) fun v19 =>
 bd (spec_l07Lay (.agg [x6, x7]) x8 (.agg [v14, v15, (.int .i64 1), v19])) fun r20 =>
 PV.guardOwn (.own 4 32 true []) (gd r20 0) (
 bd (PV.bin .add x2 (.int .i64 1)) fun v21 =>
 spec_l07DrawProfile_c9 x0 x1 v21 (gd r18 1) (gd r18 2) (gd r18 3) x6 x7 (gd r20 0)))
 (bd (spec_l01Cur_once (.int .i64 5) (gd r11 1) (gd r11 2) (gd r11 3)) fun r22 =>
 PV.ite (gd r22 0)
 (bd (spec_l01Cur_pick (.int .i64 3) (gd r22 1) (gd r22 2) (gd r22 3)) fun r23 =>
 bd (PV.bin .add (.int .i64 1) (gd r23 0)) fun v24 =>
 bd (PV.one v24) fun v25 =>
 bd (spec_l07Lay (.agg [x6, x7]) x8 (.agg [v14, v15, v25, (.int .i64 0)])) fun r26 =>
 PV.guardOwn (.own 4 32 true []) (gd r26 0) (
 bd (PV.bin .add x2 (.int .i64 1)) fun v27 =>
 spec_l07DrawProfile_c9 x0 x1 v27 (gd r23 1) (gd r23 2) (gd r23 3) x6 x7 (gd r26 0)))
 (bd (spec_l07Lay (.agg [x6, x7]) x8 (.agg [v14, v15, (.int .i64 1), (.int .i64 0)])) fun r28 =>
 PV.guardOwn (.own 4 32 true []) (gd r28 0) (
 bd (PV.bin .add x2 (.int .i64 1)) fun v29 =>
 spec_l07DrawProfile_c9 x0 x1 v29 (gd r22 1) (gd r22 2) (gd r22 3) x6 x7 (gd r28 0)))))))
 (bd (PV.bin .add x1 (.int .i64 1)) fun v30 =>
 spec_l07DrawProfile_c6 x0 v30 x3 x4 x5 x6 x7 x8) := goOnEq _ _ _ _ _ _ _ _ (by kernel_rfl)
theorem spec_l01Cur_pick_eq (x0 x1 x2 x3 : PV) : spec_l01Cur_pick x0 x1 x2 x3 =
 bd (PV.bin .lss x0 (.int .i64 2)) fun v0 =>
 PV.ite v0
 (some [(.int .i64 0), x1, x2, x3])
 (bd (PV.len x1) fun v1 =>
 bd (PV.bin .lss x2 v1) fun v2 =>
 PV.ite v2
 (bd (PV.at_ 1 false x1 x2) fun v3 =>
 bd (PV.conv .i64 v3) fun v4 =>
 spec_l01Cur_pick_c9 x0 v4 x1 x2 x3)
 (bd (PV.bin .mul x3 (.int .i64 1103)) fun v5 =>
 bd (PV.bin .add v5 (.int .i64 12345)) fun v6 =>
 bd (PV.bin .rem v6 (.int .i64 65521)) fun v7 =>
 bd (PV.one v7) fun v8 =>
 bd (PV.len x1) fun v9 =>
 bd (PV.bin .gtr v9 (.int .i64 0)) fun v10 =>
 PV.ite v10
 (bd (PV.bin .quo v8 (.int .i64 7)) fun v11 =>
 bd (PV.len x1) fun v12 =>
 bd (PV.bin .rem x2 v12) fun v13 =>
 bd (PV.at_ 1 false x1 v13) fun v14 =>
 bd (PV.conv .i64 v14) fun v15 =>
 bd (PV.bin .add v11 v15) fun v16 =>
 spec_l01Cur_pick_c9 x0 v16 x1 x2 v8)
 (spec_l01Cur_pick_c9 x0 (.int .i64 0) x1 x2 v8))) := scallEq _ _ _ _ (by kernel_rfl)
theorem spec_l01Cur_pick_c9_eq (x0 x1 x2 x3 x4 : PV) : spec_l01Cur_pick_c9 x0 x1 x2 x3 x4 =
 bd (PV.bin .add x3 (.int .i64 1)) fun v0 =>
 bd (PV.one v0) fun v1 =>
 bd (PV.bin .rem x1 x0) fun v2 =>
 some [v2, x2, v1, x4] := goOnEq _ _ _ _ _ _ _ _ (by kernel_rfl)
theorem spec_l01Cur_once_eq (x0 x1 x2 x3 : PV) : spec_l01Cur_once x0 x1 x2 x3 =
 bd (spec_l01Cur_pick x0 x1 x2 x3) fun r0 =>
 bd (PV.bin .sub x0 (.int .i64 1)) fun v1 =>
 bd (PV.bin .eql (gd r0 0) v1) fun v2 =>
 some [v2, (gd r0 1), (gd r0 2), (gd r0 3)] := scallEq _ _ _ _ (by kernel_rfl)
theorem spec_l07Lay_eq (x0 x1 x2 : PV) : spec_l07Lay x0 x1 x2 =
 bd (PV.whole 2 x0) fun v0 =>
 bd (PV.cell v0 0) fun v1 =>
 bd (PV.cell v0 1) fun v2 =>
 bd (PV.whole 4 x2) fun v3 =>
 bd (PV.cell v3 0) fun v4 =>
 bd (PV.cell v3 1) fun v5 =>
 bd (PV.cell v3 2) fun v6 =>
 bd (PV.cell v3 3) fun v7 =>
 spec_l07Lay_c4 x1 (.bool false) (.int .i64 0) v1 v2 v4 v5 v6 v7 (.lst []) := scallEq _ _ _ _ (by kernel_rfl)
theorem spec_l07Lay_c4_eq (x0 x1 x2 x3 x4 x5 x6 x7 x8 x9 : PV) : spec_l07Lay_c4 x0 x1 x2 x3 x4 x5 x6 x7 x8 x9 =
 bd (PV.len x0) fun v0 =>
 bd (PV.bin .lss x2 v0) fun v1 =>
 PV.ite v1
 (bd (PV.at_ 4 true x0 x2) fun v2 =>
 bd (PV.cell v2 0) fun v3 =>
 bd (PV.bin .eql v3 x5) fun v4 =>
 PV.ite v4
 (bd (PV.at_ 4 true x0 x2) fun v5 =>
 bd (PV.cell v5 1) fun v6 =>
 bd (PV.bin .eql v6 x6) fun v7 =>
 PV.ite v7
 (spec_l07Lay_c7 x0 x2 x3 x4 x5 x6 x7 x8 x9)
 (spec_l07Lay_c9 x0 x1 x2 x3 x4 x5 x6 x7 x8 x9))
 (spec_l07Lay_c9 x0 x1 x2 x3 x4 x5 x6 x7 x8 x9))
 (bd (PV.not x1) fun v8 =>
 PV.ite v8
 (bd (PV.cat 4 32 true x9 (.lst [(.agg [x5, x6, x7, x8])])) fun v9 =>
 some [v9])
 (some [x9])) := goOnEq _ _ _ _ _ _ _ _ (by kernel_rfl)
theorem spec_l07Lay_c7_eq (x0 x1 x2 x3 x4 x5 x6 x7 x8 : PV) : spec_l07Lay_c7 x0 x1 x2 x3 x4 x5 x6 x7 x8 =
 bd (PV.at_ 3 true x3 x4) fun v0 =>
 bd (PV.cell v0 2) fun v1 =>
 bd (PV.at_ 2 true v1 x5) fun v2 =>
 bd (PV.cell v2 0) fun v3 =>
 bd (PV.at_ 4 true x0 x1) fun v4 =>
 bd (spec_l07Both v3 v4 (.agg [x4, x5, x6, x7])) fun r5 =>
 bd (PV.cat 4 32 true (.lst []) (.lst [(hd r5)])) fun v6 =>
 bd (PV.cat 4 32 true x8 v6) fun v7 =>
 bd (PV.bin .add x1 (.int .i64 1)) fun v8 =>
 spec_l07Lay_c4 x0 (.bool true) v8 x2 x3 x4 x5 x6 x7 v7 := goOnEq _ _ _ _ _ _ _ _ (by kernel_rfl)
theorem spec_l07Lay_c9_eq (x0 x1 x2 x3 x4 x5 x6 x7 x8 x9 : PV) : spec_l07Lay_c9 x0 x1 x2 x3 x4 x5 x6 x7 x8 x9 =
 bd (PV.not x1) fun v0 =>
 PV.ite v0
 (bd (PV.at_ 4 true x0 x2) fun v1 =>
 bd (spec_l07Less (.agg [x5, x6, x7, x8]) v1) fun r2 =>
 PV.ite (hd r2)
 (spec_l07Lay_c10 x0 x2 x3 x4 x5 x6 x7 x8 x9)
 (bd (PV.at_ 4 true x0 x2) fun v3 =>
 bd (PV.cat 4 32 true (.lst []) (.lst [v3])) fun v4 =>
 bd (PV.cat 4 32 true x9 v4) fun v5 =>
 bd (PV.bin .add x2 (.int .i64 1)) fun v6 =>
 spec_l07Lay_c4 x0 x1 v6 x3 x4 x5 x6 x7 x8 v5))
 (bd (PV.at_ 4 true x0 x2) fun v7 =>
 bd (PV.cat 4 32 true (.lst []) (.lst [v7])) fun v8 =>
 bd (PV.cat 4 32 true x9 v8) fun v9 =>
 bd (PV.bin .add x2 (.int .i64 1)) fun v10 =>
 spec_l07Lay_c4 x0 x1 v10 x3 x4 x5 x6 x7 x8 v9) := goOnEq _ _ _ _ _ _ _ _ (by kernel_rfl)
theorem spec_l07Lay_c10_eq (x0 x1 x2 x3 x4 x5 x6 x7 x8 : PV) : spec_l07Lay_c10 x0 x1 x2 x3 x4 x5 x6 x7 x8 =
 bd (PV.cat 4 32 true x8 (.lst [(.agg [x4, x5, x6, x7])])) fun v0 =>
 bd (PV.at_ 4 true x0 x1) fun v1 =>
 bd (PV.cat 4 32 true (.lst []) (.lst [v1])) fun v2 =>
 bd (PV.cat 4 32 true v0 v2) fun v3 =>
 bd (PV.bin .add x1 (.int .i64 1)) fun v4 =>
 spec_l07Lay_c4 x0 (.bool true) v4 x2 x3 x4 x5 x6 x7 v3 := goOnEq _ _ _ _ _ _ _ _ (by kernel_rfl)
theorem spec_l07Both_eq (x0 x1 x2 : PV) : spec_l07Both x0 x1 x2 =
 bd (PV.whole 4 x1) fun v0 =>
 bd (PV.cell v0 0) fun v1 =>
 bd (PV.cell v0 1) fun v2 =>
 bd (PV.cell v0 2) fun v3 =>
 bd (PV.cell v0 3) fun v4 =>
 bd (PV.whole 4 x2) fun v5 =>
 bd (PV.cell v5 0) fun v6 =>
 bd (PV.cell v5 1) fun v7 =>
 bd (PV.cell v5 2) fun v8 =>
 bd (PV.cell v5 3) fun v9 =>
 bd (PV.bin .neq x0 (.int .i64 23)) fun v10 =>
 PV.ite v10
 (bd (PV.bin .or v3 v8) fun v11 =>
 bd (PV.one v11) fun v12 =>
 some [(.agg [v1, v2, v12, v4])])
 (bd (PV.bin .neq v3 (.int .i64 1)) fun v13 =>
 PV.ite v13
 (some [(.agg [v1, v2, (.int .i64 2), (.int .i64 0)])])
 (bd (PV.bin .neq v8 (.int .i64 1)) fun v14 =>
 PV.ite v14
 (some [(.agg [v1, v2, (.int .i64 2), (.int .i64 0)])])
 (bd (PV.bin .neq v4 v9) fun v15 =>
 PV.ite v15
 (some [(.agg [v1, v2, (.int .i64 2), (.int .i64 0)])])
 (some [(.agg [v1, v2, v3, v4])])))) := pcallEq _ _ _ (by kernel_rfl)
theorem slices_Repeat_int_int_eq (x0 x1 : PV) : slices_Repeat_int_int x0 x1 =
 bd (PV.bin .lss x1 (.int .i64 0)) fun v0 =>
 PV.ite v0
 (none)
 (slices_Repeat_int_int_c3 x0 x1) := scallEq _ _ _ _ (by kernel_rfl)
theorem slices_Repeat_int_int_c3_eq (x0 x1 : PV) : slices_Repeat_int_int_c3 x0 x1 =
 bd (PV.len x0) fun v0 =>
 bd (PV.conv .u64 v0) fun v1 =>
 bd (PV.conv .u64 x1) fun v2 =>
 bd (math_bits_Mul v1 v2) fun r3 =>
 bd (PV.comp (hd r3) 0) fun v4 =>
 bd (PV.comp (hd r3) 1) fun v5 =>
 bd (PV.bin .gtr v4 (.int .u64 0)) fun v6 =>
 PV.ite v6
 (none)
 (bd (PV.bin .gtr v5 (.int .u64 9223372036854775807)) fun v7 =>
 PV.ite v7
 (none)
 (slices_Repeat_int_int_c6 x0 v5)) := goOnEq _ _ _ _ _ _ _ _ (by kernel_rfl)
theorem slices_Repeat_int_int_c6_eq (x0 x1 : PV) : slices_Repeat_int_int_c6 x0 x1 =
 bd (PV.conv .i64 x1) fun v0 =>
 bd (PV.zeros 8 (.int .i64 0) v0) fun v1 =>
 bd (PV.bin .leq v0 v0) fun v2 =>
 PV.ite v2
 (bd (PV.zeros 8 (.int .i64 0) v0) fun v3 =>
 bd (PV.len v3) fun v4 =>
 bd (PV.ncopy v3 (.int .i64 0) v4 x0) fun v5 =>
 bd (PV.copyIn 1 false v3 (.int .i64 0) v4 x0) fun v6 =>
 slices_Repeat_int_int_c8 v5 v6)
 (none) := goOnEq _ _ _ _ _ _ _ _ (by kernel_rfl)
theorem slices_Repeat_int_int_c8_eq (x0 x1 : PV) : slices_Repeat_int_int_c8 x0 x1 =
 bd (PV.len x1) fun v0 =>
 bd (PV.bin .lss x0 v0) fun v1 =>
 PV.ite v1
 (bd (PV.len x1) fun v2 =>
 bd (PV.cut 1 false x1 x0 v2) fun v3 =>
 bd (PV.cut 1 false x1 (.int .i64 0) x0) fun v4 =>
 bd (PV.cut 1 false x1 (.int .i64 0) x0) fun v5 =>
 bd (PV.ncopy x1 x0 v2 v5) fun v6 =>
 bd (PV.copyIn 1 false x1 x0 v2 v5) fun v7 =>
 bd (PV.bin .add x0 v6) fun v8 =>
 slices_Repeat_int_int_c8 v8 v7)
 (some [x1]) := goOnEq _ _ _ _ _ _ _ _ (by kernel_rfl)
theorem math_bits_Mul_eq (x0 x1 : PV) : math_bits_Mul x0 x1 =
 bd (math_bits_Mul64 x0 x1) fun r0 =>
 bd (PV.comp (hd r0) 0) fun v1 =>
 bd (PV.comp (hd r0) 1) fun v2 =>
 some [(.tup [v1, v2])] := pcallEq _ _ _ (by kernel_rfl)
theorem math_bits_Mul64_eq (x0 x1 : PV) : math_bits_Mul64 x0 x1 =
 bd (PV.bin .and x0 (.int .u64 4294967295)) fun v0 =>
 bd (PV.bin .shr x0 (.int .u64 32)) fun v1 =>
 bd (PV.bin .and x1 (.int .u64 4294967295)) fun v2 =>
 bd (PV.bin .shr x1 (.int .u64 32)) fun v3 =>
 bd (PV.bin .mul v0 v2) fun v4 =>
 bd (PV.bin .mul v1 v2) fun v5 =>
 bd (PV.bin .shr v4 (.int .u64 32)) fun v6 =>
 bd (PV.bin .add v5 v6) fun v7 =>
 bd (PV.bin .and v7 (.int .u64 4294967295)) fun v8 =>
 bd (PV.bin .shr v7 (.int .u64 32)) fun v9 =>
 bd (PV.bin .mul v0 v3) fun v10 =>
 bd (PV.bin .add v8 v10) fun v11 =>
 bd (PV.bin .mul v1 v3) fun v12 =>
 bd (PV.bin .add v12 v9) fun v13 =>
 bd (PV.bin .shr v11 (.int .u64 32)) fun v14 =>
 bd (PV.bin .add v13 v14) fun v15 =>
 bd (PV.bin .mul x0 x1) fun v16 =>
 some [(.tup [v15, v16])] := pcallEq _ _ _ (by kernel_rfl)
theorem spec_l01DrawAny_eq (x0 x1 x2 x3 : PV) : spec_l01DrawAny x0 x1 x2 x3 =
 bd (spec_l01DrawModule x1 x2 x3) fun r0 =>
 bd (PV.whole 2 (gd r0 0)) fun v1 =>
 bd (PV.cell v1 0) fun v2 =>
 bd (PV.cell v1 1) fun v3 =>
 bd (spec_l01Cur_once x0 (gd r0 1) (gd r0 2) (gd r0 3)) fun r4 =>
 PV.ite (gd r4 0)
 (bd (spec_l01Spoil v2 v3 (gd r4 1) (gd r4 2) (gd r4 3)) fun r5 =>
 bd (PV.whole 2 (gd r5 0)) fun v6 =>
 bd (PV.cell v6 0) fun v7 =>
 bd (PV.cell v6 1) fun v8 =>
 some [(.agg [v7, v8]), (gd r5 1), (gd r5 2), (gd r5 3)])
 (some [(.agg [v2, v3]), (gd r4 1), (gd r4 2), (gd r4 3)]) := scallEq _ _ _ _ (by kernel_rfl)
theorem spec_l05DrawGood_eq (x0 x1 x2 : PV) : spec_l05DrawGood x0 x1 x2 =
 bd (spec_l01DrawModule x0 x1 x2) fun r0 =>
 bd (PV.whole 2 (gd r0 0)) fun v1 =>
 bd (PV.cell v1 0) fun v2 =>
 bd (PV.cell v1 1) fun v3 =>
 bd (spec_l03Good (.agg [v2, v3])) fun r4 =>
 bd (PV.not (hd r4)) fun v5 =>
 PV.ite v5
 (some [(.agg [(.lst []), (.lst [(.agg [(.int .i64 0), (.int .i64 1), (.lst [(.agg [(.int .i64 6), (.int .i64 0)]), (.agg [(.int .i64 26), (.int .i64 0)]), (.agg [(.int .i64 4), (.int .i64 0)]), (.agg [(.int .i64 25), (.int .i64 0)])])])])]), (gd r0 1), (gd r0 2), (gd r0 3)])
 (some [(.agg [v2, v3]), (gd r0 1), (gd r0 2), (gd r0 3)]) := scallEq _ _ _ _ (by kernel_rfl)
theorem spec_l05DrawArgs_eq (x0 x1 x2 x3 x4 : PV) : spec_l05DrawArgs x0 x1 x2 x3 x4 = spec_l05DrawArgs_c3 (.int .i64 0) x2 x3 x4 x0 x1 (.lst []) := scallEq _ _ _ _ (by kernel_rfl)
theorem spec_l05DrawArgs_c3_eq (x0 x1 x2 x3 x4 x5 x6 : PV) : spec_l05DrawArgs_c3 x0 x1 x2 x3 x4 x5 x6 =
 bd (PV.at_ 3 true x5 (.int .i64 0)) fun v0 =>
 bd (PV.cell v0 0) fun v1 =>
 bd (PV.bin .lss x0 v1) fun v2 =>
 PV.ite v2
 (bd (PV.bin .lss x0 (.int .i64 20)) fun v3 =>
 PV.ite v3
 (bd (spec_l01Cur_pick (.int .i64 9) x1 x2 x3) fun r4 =>
 bd (spec_l04Int (gd r4 0)) fun r5 =>
 bd (spec_l01Cur_pick (.int .i64 5) (gd r4 1) (gd r4 2) (gd r4 3)) fun r6 =>
 bd (PV.bin .sub (gd r6 0) (.int .i64 2)) fun v7 =>
 bd (spec_l04Int v7) fun r8 =>
 bd (spec_l01Cur_pick (.int .i64 40) (gd r6 1) (gd r6 2) (gd r6 3)) fun r9 =>
 bd (spec_l04Int (gd r9 0)) fun r10 =>
 bd (spec_l04Bool (.bool true)) fun r11 =>
 bd (PV.len x5) fun v12 =>
 bd (spec_l01Cur_pick v12 (gd r9 1) (gd r9 2) (gd r9 3)) fun r13 =>
 bd (PV.one (gd r13 0)) fun v14 =>
 bd (PV.cat 3 32 true (.lst []) (.lst [(hd r5), (hd r8), (hd r10), (hd r11), (.agg [(.int .i64 3), (.int .i64 0), (.str (bs [113]))]), (.agg [(.int .i64 0), (.int .i64 0), (.str (bs []))]), (.agg [(.int .i64 5), v14, (.str (bs []))])])) fun v15 =>
 bd (spec_l01Cur_pick (.int .i64 7) (gd r13 1) (gd r13 2) (gd r13 3)) fun r16 =>
 bd (PV.inb v15 (gd r16 0)) fun v17 =>
 bd (PV.at_ 3 true v15 (gd r16 0)) fun v18 =>
 bd (PV.cat 3 32 true (.lst []) (.lst [v18])) fun v19 =>
 bd (PV.cat 3 32 true x6 v19) fun v20 =>
 bd (PV.bin .add x0 (.int .i64 1)) fun v21 =>
 spec_l05DrawArgs_c3 v21 (gd r16 1) (gd r16 2) (gd r16 3) x4 x5 v20)
 (bd (spec_l01Cur_once (.int .i64 30) x1 x2 x3) fun r22 =>
 PV.ite (gd r22 0)
 (bd (spec_l04DrawValue (gd r22 1) (gd r22 2) (gd r22 3)) fun r23 =>
 bd (PV.cat 3 32 true (.lst []) (.lst [(gd r23 0)])) fun v24 =>
 bd (PV.cat 3 32 true x6 v24) fun v25 =>
 some [v25, (gd r23 1), (gd r23 2), (gd r23 3)])
 (some [x6, (gd r22 1), (gd r22 2), (gd r22 3)])))
 (bd (spec_l01Cur_once (.int .i64 30) x1 x2 x3) fun r26 =>
 PV.ite (gd r26 0)
 (bd (spec_l04DrawValue (gd r26 1) (gd r26 2) (gd r26 3)) fun r27 =>
 bd (PV.cat 3 32 true (.lst []) (.lst [(gd r27 0)])) fun v28 =>
 bd (PV.cat 3 32 true x6 v28) fun v29 =>
 some [v29, (gd r27 1), (gd r27 2), (gd r27 3)])
 (some [x6, (gd r26 1), (gd r26 2), (gd r26 3)])) := goOnEq _ _ _ _ _ _ _ _ (by kernel_rfl)
theorem spec_l04Int_eq (x0 : PV) : spec_l04Int x0 = bd (PV.one x0) fun v0 => some [(.agg [(.int .i64 1), v0, (.str (bs []))])] := pcallEq _ _ _ (by kernel_rfl)
theorem spec_l04Bool_eq (x0 : PV) : spec_l04Bool x0 =
 PV.ite x0
 (some [(.agg [(.int .i64 2), (.int .i64 1), (.str (bs []))])])
 (some [(.agg [(.int .i64 2), (.int .i64 0), (.str (bs []))])]) := pcallEq _ _ _ (by kernel_rfl)
theorem spec_ProfileOf_eq (x0 x1 x2 : PV) : spec_ProfileOf x0 x1 x2 =
 bd (PV.whole 2 x0) fun v0 =>
 bd (PV.cell v0 0) fun v1 =>
 bd (PV.cell v0 1) fun v2 =>
 bd (spec_Start (.agg [v1, v2]) x1) fun r3 =>
 bd (PV.comp (hd r3) 0) fun v4 =>
 bd (PV.comp (hd r3) 1) fun v5 =>
 bd (PV.whole 10 v4) fun v6 =>
 bd (PV.cell v6 0) fun v7 =>
 bd (PV.cell v6 1) fun v8 =>
 bd (PV.cell v6 2) fun v9 =>
 bd (PV.cell v6 3) fun v10 =>
 bd (PV.cell v6 4) fun v11 =>
 bd (PV.cell v6 5) fun v12 =>
 bd (PV.cell v6 6) fun v13 =>
 bd (PV.cell v6 7) fun v14 =>
 bd (PV.cell v6 8) fun v15 =>
 bd (PV.cell v6 9) fun v16 =>
 bd (PV.not v5) fun v17 =>
 PV.ite v17
 (some [(.lst [])])
 (bd (spec_l01Between x2 (.int .i64 0) (.int .i64 50000)) fun r18 =>
 bd (PV.not (hd r18)) fun v19 =>
 PV.ite v19
 (some [(.lst [])])
 (spec_ProfileOf_c6 x2 (.int .i64 0) v1 v2 v7 v8 v9 v10 v11 v12 v13 v14 v15 v16 (.lst []))) := scallEq _ _ _ _ (by kernel_rfl)
theorem spec_ProfileOf_c6_eq (x0 x1 x2 x3 x4 x5 x6 x7 x8 x9 x10 x11 x12 x13 x14 : PV) : spec_ProfileOf_c6 x0 x1 x2 x3 x4 x5 x6 x7 x8 x9 x10 x11 x12 x13 x14 =
 bd (PV.bin .lss x1 x0) fun v0 =>
 PV.ite v0
 (bd (PV.bin .eql x8 (.int .i64 0)) fun v1 =>
 PV.ite v1
 (bd (spec_l07Observe (.agg [x2, x3]) x14 (.agg [x4, x5, x6, x7, x8, x9, x10, x11, x12, x13])) fun r2 =>
 PV.guardOwn (.own 4 32 true []) (gd r2 0) (
 bd (spec_l05Step (.agg [x2, x3]) (.agg [x4, x5, x6, x7, x8, x9, x10, x11, x12, x13])) fun r3 =>
 bd (PV.whole 10 (hd r3)) fun v4 =>
 bd (PV.cell v4 0) fun v5 =>
 bd (PV.cell v4 1) fun v6 =>
 bd (PV.cell v4 2) fun v7 =>
 bd (PV.cell v4 3) fun v8 =>
 bd (PV.cell v4 4) fun v9 =>
 bd (PV.cell v4 5) fun v10 =>
 bd (PV.cell v4 6) fun v11 =>
 bd (PV.cell v4 7) fun v12 =>
 bd (PV.cell v4 8) fun v13 =>
 bd (PV.cell v4 9) fun v14 =>
 bd (PV.bin .add x1 (.int .i64 1)) fun v15 =>
 spec_ProfileOf_c6 x0 v15 x2 x3 v5 v6 v7 v8 v9 v10 v11 v12 v13 v14 (gd r2 0)))
 (some [x14]))
 (some [x14]) := goOnEq _ _ _ _ _ _ _ _ (by kernel_rfl)
theorem spec_Start_eq (x0 x1 : PV) : spec_Start x0 x1 =
 bd (PV.whole 2 x0) fun v0 =>
 bd (PV.cell v0 0) fun v1 =>
 bd (PV.cell v0 1) fun v2 =>
 bd (spec_l03Good (.agg [v1, v2])) fun r3 =>
 bd (PV.not (hd r3)) fun v4 =>
 PV.ite v4
 (some [(.tup [(.agg [(.lst []), (.lst []), (.int .i64 0), (.lst []), (.int .i64 0), (.int .i64 0), (.int .i64 0), (.int .i64 0), (.str (bs [])), (.int .i64 0)]), (.bool false)])])
 (bd (PV.len x1) fun v5 =>
 bd (PV.at_ 3 true v2 (.int .i64 0)) fun v6 =>
 bd (PV.cell v6 0) fun v7 =>
 bd (PV.bin .neq v5 v7) fun v8 =>
 PV.ite v8
 (some [(.tup [(.agg [(.lst []), (.lst []), (.int .i64 0), (.lst []), (.int .i64 0), (.int .i64 0), (.int .i64 0), (.int .i64 0), (.str (bs [])), (.int .i64 0)]), (.bool false)])])
 (spec_Start_c4 x1 (.int .i64 0) v1 v2 (.int .i64 0) (.int .i64 0) (.int .i64 0) (.int .i64 0) (.int .i64 0) (.str (bs [])) (.int .i64 0) (.lst []) (.lst []) (.lst []))) := pcallEq _ _ _ (by kernel_rfl)
theorem spec_Start_c4_eq (x0 x1 x2 x3 x4 x5 x6 x7 x8 x9 x10 x11 x12 x13 : PV) : spec_Start_c4 x0 x1 x2 x3 x4 x5 x6 x7 x8 x9 x10 x11 x12 x13 =
 bd (PV.len x0) fun v0 =>
 bd (PV.bin .lss x1 v0) fun v1 =>
 PV.ite v1
 (bd (PV.at_ 3 true x0 x1) fun v2 =>
 bd (spec_l04Ok (.agg [x2, x3]) v2 (.int .i64 0)) fun r3 =>
 bd (PV.not (hd r3)) fun v4 =>
 PV.ite v4
 (some [(.tup [(.agg [(.lst []), (.lst []), (.int .i64 0), (.lst []), (.int .i64 0), (.int .i64 0), (.int .i64 0), (.int .i64 0), (.str (bs [])), (.int .i64 0)]), (.bool false)])])
 (bd (PV.bin .add x1 (.int .i64 1)) fun v5 =>
 spec_Start_c4 x0 v5 x2 x3 x4 x5 x6 x7 x8 x9 x10 x11 x12 x13))
 (bd (PV.at_ 3 true x3 (.int .i64 0)) fun v6 =>
 bd (PV.cell v6 1) fun v7 =>
 bd (PV.zeros 32 (.agg [(.int .i64 0), (.int .i64 0), (.str (bs []))]) v7) fun v8 =>
 bd (PV.bin .leq v7 v7) fun v9 =>
 PV.ite v9
 (bd (PV.zeros 32 (.agg [(.int .i64 0), (.int .i64 0), (.str (bs []))]) v7) fun v10 =>
 spec_Start_c10 x0 (.int .i64 0) x4 x5 x6 x7 x8 x9 x10 (.int .i64 0) (.int .i64 0) x11 x12 x13 v10 (.lst []))
 (none)) := goOnEq _ _ _ _ _ _ _ _ (by kernel_rfl)
theorem spec_Start_c10_eq (x0 x1 x2 x3 x4 x5 x6 x7 x8 x9 x10 x11 x12 x13 x14 x15 : PV) : spec_Start_c10 x0 x1 x2 x3 x4 x5 x6 x7 x8 x9 x10 x11 x12 x13 x14 x15 =
 bd (PV.len x0) fun v0 =>
 bd (PV.bin .lss x1 v0) fun v1 =>
 PV.ite v1
 (bd (PV.at_ 3 true x0 x1) fun v2 =>
 bd (PV.inb x14 x1) fun v3 =>
 bd (PV.setAt 3 true x14 x1 v2) fun v4 =>
 bd (PV.bin .add x1 (.int .i64 1)) fun v5 =>
 spec_Start_c10 x0 v5 x2 x3 x4 x5 x6 x7 x8 x9 x10 x11 x12 x13 v4 x15)
 (some [(.tup [(.agg [(.lst [(.agg [x9, x10, x14, x15])]), (.lst []), (.int .i64 0), (.lst []), (.int .i64 0), (.int .i64 0), (.int .i64 0), (.int .i64 0), (.str (bs [])), (.int .i64 0)]), (.bool true)])]) := goOnEq _ _ _ _ _ _ _ _ (by kernel_rfl)
theorem spec_l05Step_eq (x0 x1 : PV) : spec_l05Step x0 x1 =
 bd (PV.whole 2 x0) fun v0 =>
 bd (PV.cell v0 0) fun v1 =>
 bd (PV.cell v0 1) fun v2 =>
 bd (PV.whole 10 x1) fun v3 =>
 bd (PV.cell v3 0) fun v4 =>
 bd (PV.cell v3 1) fun v5 =>
 bd (PV.cell v3 2) fun v6 =>
 bd (PV.cell v3 3) fun v7 =>
 bd (PV.cell v3 4) fun v8 =>
 bd (PV.cell v3 5) fun v9 =>
 bd (PV.cell v3 6) fun v10 =>
 bd (PV.cell v3 7) fun v11 =>
 bd (PV.cell v3 8) fun v12 =>
 bd (PV.cell v3 9) fun v13 =>
 bd (PV.bin .neq v8 (.int .i64 0)) fun v14 =>
 PV.ite v14
 (bd (spec_l05Copy (.agg [v4, v5, v6, v7, v8, v9, v10, v11, v12, v13])) fun r15 =>
 PV.guardFlat (gd r15 0) (
 PV.guardFlat (gd r15 1) (
 PV.guardFlat (gd r15 2) (
 PV.guardFlat (gd r15 3) (
 PV.guardFlat (gd r15 4) (
 PV.guardFlat (gd r15 5) (
 PV.guardFlat (gd r15 6) (
 PV.guardOwn (.own 4 64 true [.leaf, .leaf, (.own 3 32 true []), (.own 3 32 true [])]) (gd r15 7) (
 PV.guardOwn (.own 1 24 true [(.own 3 32 true [])]) (gd r15 8) (
 PV.guardOwn (.own 1 16 false []) (gd r15 9) (
 some [(.agg [(gd r15 7), (gd r15 8), (gd r15 0), (gd r15 9), (gd r15 1), (gd r15 2), (gd r15 3), (gd r15 4), (gd r15 5), (gd r15 6)])])))))))))))
 (bd (PV.bin .eql v13 (.int .i64 50000)) fun v16 =>
 PV.ite v16
 (bd (spec_l05Copy (.agg [v4, v5, v6, v7, v8, v9, v10, v11, v12, v13])) fun r17 =>
 PV.guardFlat (gd r17 0) (
 PV.guardFlat (gd r17 1) (
 PV.guardFlat (gd r17 2) (
 PV.guardFlat (gd r17 3) (
 PV.guardFlat (gd r17 4) (
 PV.guardFlat (gd r17 5) (
 PV.guardFlat (gd r17 6) (
 PV.guardOwn (.own 4 64 true [.leaf, .leaf, (.own 3 32 true []), (.own 3 32 true [])]) (gd r17 7) (
 PV.guardOwn (.own 1 24 true [(.own 3 32 true [])]) (gd r17 8) (
 PV.guardOwn (.own 1 16 false []) (gd r17 9) (
 some [(.agg [(gd r17 7), (gd r17 8), (gd r17 0), (gd r17 9), (gd r17 1), (gd r17 2), (gd r17 3), (gd r17 4), (gd r17 5), (gd r17 6)])])))))))))))
 (bd (spec_l05Copy (.agg [v4, v5, v6, v7, v8, v9, v10, v11, v12, v13])) fun r18 =>
 PV.guardFlat (gd r18 0) (
 PV.guardFlat (gd r18 1) (
 PV.guardFlat (gd r18 2) (
 PV.guardFlat (gd r18 3) (
 PV.guardFlat (gd r18 4) (
 PV.guardFlat (gd r18 5) (
 PV.guardFlat (gd r18 6) (
 PV.guardOwn (.own 4 64 true [.leaf, .leaf, (.own 3 32 true []), (.own 3 32 true [])]) (gd r18 7) (
 PV.guardOwn (.own 1 24 true [(.own 3 32 true [])]) (gd r18 8) (
 PV.guardOwn (.own 1 16 false []) (gd r18 9) (
 bd (spec_l05Top_frame v1 v2 (gd r18 0) (gd r18 1) (gd r18 2) (gd r18 3) (gd r18 4) (gd r18 5) (gd r18 6) (.int .i64 0) (gd r18 7) (gd r18 8) (gd r18 9)) fun r19 =>
 bd (PV.at_ 4 true (gd r19 11) (gd r19 0)) fun v20 =>
 bd (PV.cell v20 0) fun v21 =>
 bd (PV.at_ 3 true v2 v21) fun v22 =>
 bd (PV.cell v22 2) fun v23 =>
 bd (PV.at_ 4 true (gd r19 11) (gd r19 0)) fun v24 =>
 bd (PV.cell v24 1) fun v25 =>
 bd (PV.at_ 2 true v23 v25) fun v26 =>
 bd (PV.whole 2 v26) fun v27 =>
 bd (PV.cell v27 0) fun v28 =>
 bd (PV.cell v27 1) fun v29 =>
 bd (PV.at_ 4 true (gd r19 11) (gd r19 0)) fun v30 =>
 bd (PV.cell v30 1) fun v31 =>
 bd (PV.bin .add v31 (.int .i64 1)) fun v32 =>
 bd (PV.one v32) fun v33 =>
 bd (PV.setCell 4 (gd r19 11) (gd r19 0) 1 v33) fun v34 =>
 bd (spec_l05Top_do v28 v29 (gd r19 1) (gd r19 2) (gd r19 3) (gd r19 4) (gd r19 5) (gd r19 6) (gd r19 7) (gd r19 8) (gd r19 9) (gd r19 10) v34 (gd r19 12) (gd r19 13)) fun r35 =>
 bd (PV.bin .neq (gd r35 9) (.int .i64 0)) fun v36 =>
 PV.ite v36
 (bd (spec_l05Copy (.agg [v4, v5, v6, v7, v8, v9, v10, v11, v12, v13])) fun r37 =>
 PV.guardFlat (gd r37 0) (
 PV.guardFlat (gd r37 1) (
 PV.guardFlat (gd r37 2) (
 PV.guardFlat (gd r37 3) (
 PV.guardFlat (gd r37 4) (
 PV.guardFlat (gd r37 5) (
 PV.guardFlat (gd r37 6) (
 PV.guardOwn (.own 4 64 true [.leaf, .leaf, (.own 3 32 true []), (.own 3 32 true [])]) (gd r37 7) (
 PV.guardOwn (.own 1 24 true [(.own 3 32 true [])]) (gd r37 8) (
 PV.guardOwn (.own 1 16 false []) (gd r37 9) (
 bd (PV.one (gd r35 9)) fun v38 =>
 bd (PV.bin .add (gd r37 6) (.int .i64 1)) fun v39 =>
 bd (PV.one v39) fun v40 =>
 some [(.agg [(gd r37 7), (gd r37 8), (gd r37 0), (gd r37 9), (.int .i64 2), v38, (gd r37 3), (gd r37 4), (gd r37 5), v40])])))))))))))
 (bd (PV.bin .add (gd r35 8) (.int .i64 1)) fun v41 =>
 bd (PV.one v41) fun v42 =>
 some [(.agg [(gd r35 10), (gd r35 11), (gd r35 2), (gd r35 12), (gd r35 3), (gd r35 4), (gd r35 5), (gd r35 6), (gd r35 7), v42])]))))))))))))) := pcallEq _ _ _ (by kernel_rfl)
theorem spec_l04Ok_eq (x0 x1 x2 : PV) : spec_l04Ok x0 x1 x2 =
 bd (PV.whole 2 x0) fun v0 =>
 bd (PV.cell v0 0) fun v1 =>
 bd (PV.cell v0 1) fun v2 =>
 bd (PV.whole 3 x1) fun v3 =>
 bd (PV.cell v3 0) fun v4 =>
 bd (PV.cell v3 1) fun v5 =>
 bd (PV.cell v3 2) fun v6 =>
 bd (PV.bin .neq v4 (.int .i64 3)) fun v7 =>
 PV.ite v7
 (bd (PV.bin .neq v6 (.str (bs []))) fun v8 =>
 PV.ite v8
 (some [.bool false])
 (bd (PV.bin .eql v4 (.int .i64 0)) fun v9 =>
 PV.ite v9
 (bd (PV.bin .eql v5 (.int .i64 0)) fun v10 =>
 some [v10])
 (bd (PV.bin .eql v4 (.int .i64 1)) fun v11 =>
 PV.ite v11
 (bd (spec_l04Num v5) fun r12 =>
 some [(hd r12)])
 (bd (PV.bin .eql v4 (.int .i64 2)) fun v13 =>
 PV.ite v13
 (bd (spec_l01Between v5 (.int .i64 0) (.int .i64 1)) fun r14 =>
 some [(hd r14)])
 (bd (PV.bin .eql v4 (.int .i64 3)) fun v15 =>
 PV.ite v15
 (bd (PV.bin .eql v5 (.int .i64 0)) fun v16 =>
 PV.ite v16
 (bd (spec_l01Text v6) fun r17 =>
 some [(hd r17)])
 (some [.bool false]))
 (bd (PV.bin .eql v4 (.int .i64 4)) fun v18 =>
 PV.ite v18
 (bd (PV.bin .geq v5 (.int .i64 0)) fun v19 =>
 PV.ite v19
 (bd (PV.bin .lss v5 x2) fun v20 =>
 some [v20])
 (some [.bool false]))
 (bd (PV.bin .eql v4 (.int .i64 5)) fun v21 =>
 PV.ite v21
 (bd (PV.len v2) fun v22 =>
 bd (PV.bin .sub v22 (.int .i64 1)) fun v23 =>
 bd (spec_l01Between v5 (.int .i64 0) v23) fun r24 =>
 some [(hd r24)])
 (some [.bool false]))))))))
 (bd (PV.bin .eql v4 (.int .i64 0)) fun v25 =>
 PV.ite v25
 (bd (PV.bin .eql v5 (.int .i64 0)) fun v26 =>
 some [v26])
 (bd (PV.bin .eql v4 (.int .i64 1)) fun v27 =>
 PV.ite v27
 (bd (spec_l04Num v5) fun r28 =>
 some [(hd r28)])
 (bd (PV.bin .eql v4 (.int .i64 2)) fun v29 =>
 PV.ite v29
 (bd (spec_l01Between v5 (.int .i64 0) (.int .i64 1)) fun r30 =>
 some [(hd r30)])
 (bd (PV.bin .eql v4 (.int .i64 3)) fun v31 =>
 PV.ite v31
 (bd (PV.bin .eql v5 (.int .i64 0)) fun v32 =>
 PV.ite v32
 (bd (spec_l01Text v6) fun r33 =>
 some [(hd r33)])
 (some [.bool false]))
 (bd (PV.bin .eql v4 (.int .i64 4)) fun v34 =>
 PV.ite v34
 (bd (PV.bin .geq v5 (.int .i64 0)) fun v35 =>
 PV.ite v35
 (bd (PV.bin .lss v5 x2) fun v36 =>
 some [v36])
 (some [.bool false]))
 (bd (PV.bin .eql v4 (.int .i64 5)) fun v37 =>
 PV.ite v37
 (bd (PV.len v2) fun v38 =>
 bd (PV.bin .sub v38 (.int .i64 1)) fun v39 =>
 bd (spec_l01Between v5 (.int .i64 0) v39) fun r40 =>
 some [(hd r40)])
 (some [.bool false]))))))) := pcallEq _ _ _ (by kernel_rfl)
theorem spec_l04Num_eq (x0 : PV) : spec_l04Num x0 = bd (spec_l01Between x0 (.int .i64 (-1000000000)) (.int .i64 1000000000)) fun r0 => some [(hd r0)] := pcallEq _ _ _ (by kernel_rfl)
end Go.Proofs.YtjgleeamiclokaaGreat
namespace Go.Proofs.YtjgleeamiclokaaGreat
open Go
theorem spec_l01DrawModule_eq (x0 x1 x2 : PV) : spec_l01DrawModule x0 x1 x2 =
 bd (spec_l01Cur_pick (.int .i64 3) x0 x1 x2) fun r0 =>
 spec_l01DrawModule_c3 (gd r0 0) (gd r0 1) (gd r0 2) (gd r0 3) (.lst []) (.lst []) (.lst []) (.lst []) := scallEq _ _ _ _ (by kernel_rfl)
theorem spec_l01DrawModule_c3_eq (x0 x1 x2 x3 x4 x5 x6 x7 : PV) : spec_l01DrawModule_c3 x0 x1 x2 x3 x4 x5 x6 x7 =
 bd (PV.bin .gtr x0 (.int .i64 0)) fun v0 =>
 PV.ite v0
 (bd (spec_l01Cur_pick (.int .i64 5) x1 x2 x3) fun r1 =>
 bd (PV.inb (.lst [(.str (bs [])), (.str (bs [97])), (.str (bs [98, 99])), (.str (bs [104, 101, 108, 108, 111, 32, 119, 111, 114, 108, 100])), (.str (bs [120, 32, 121]))]) (gd r1 0)) fun v2 =>
 bd (PV.at_ 1 false (.lst [(.str (bs [])), (.str (bs [97])), (.str (bs [98, 99])), (.str (bs [104, 101, 108, 108, 111, 32, 119, 111, 114, 108, 100])), (.str (bs [120, 32, 121]))]) (gd r1 0)) fun v3 =>
 bd (PV.cat 1 16 false (.lst []) (.lst [v3])) fun v4 =>
 bd (PV.cat 1 16 false x6 v4) fun v5 =>
 bd (PV.bin .sub x0 (.int .i64 1)) fun v6 =>
 spec_l01DrawModule_c3 v6 (gd r1 1) (gd r1 2) (gd r1 3) x4 x5 v5 x7)
 (bd (spec_l01Cur_pick (.int .i64 4) x1 x2 x3) fun r7 =>
 spec_l01DrawModule_c8 (gd r7 0) (gd r7 1) (gd r7 2) (gd r7 3) x4 x5 x6 x7 (.lst [])) := goOnEq _ _ _ _ _ _ _ _ (by kernel_rfl)
theorem spec_l01DrawModule_c8_eq (x0 x1 x2 x3 x4 x5 x6 x7 x8 : PV) : spec_l01DrawModule_c8 x0 x1 x2 x3 x4 x5 x6 x7 x8 =
 bd (PV.bin .gtr x0 (.int .i64 0)) fun v0 =>
 PV.ite v0
 (bd (spec_l01Cur_pick (.int .i64 3) x1 x2 x3) fun r1 =>
 bd (PV.one (gd r1 0)) fun v2 =>
 bd (PV.bin .add (.int .i64 1) v2) fun v3 =>
 bd (spec_l01Cur_pick (.int .i64 2) (gd r1 1) (gd r1 2) (gd r1 3)) fun r4 =>
 bd (PV.bin .add v3 (gd r4 0)) fun v5 =>
 bd (PV.one v5) fun v6 =>
 bd (PV.len x6) fun v7 =>
 bd (PV.cat 3 40 true (.lst []) x8) fun v8 =>
 bd (PV.one v7) fun v9 =>
 bd (PV.one v6) fun v10 =>
 bd (spec_l01Cur_once (.int .i64 3) (gd r4 1) (gd r4 2) (gd r4 3)) fun r11 =>
 PV.ite (gd r11 0)
 (bd (spec_l01Asm_list (.int .i64 1) (.int .i64 2) v8 v9 v10 (.bool false) (gd r11 1) (gd r11 2) (gd r11 3) (.lst [])) fun r12 =>
 spec_l01DrawModule_c15 x0 (gd r12 4) (gd r12 5) (gd r12 6) v2 v6 (gd r12 0) (gd r12 1) (gd r12 2) (gd r12 3) x4 x5 x6 x7 x8 (.lst []) (gd r12 7))
 (spec_l01DrawModule_c15 x0 (gd r11 1) (gd r11 2) (gd r11 3) v2 v6 v8 v9 v10 (.bool false) x4 x5 x6 x7 x8 (.lst []) (.lst [])))
 (bd (spec_l01Cur_pick (.int .i64 3) x1 x2 x3) fun r13 =>
 bd (spec_l01Cur_pick (.int .i64 2) (gd r13 1) (gd r13 2) (gd r13 3)) fun r14 =>
 bd (PV.bin .add (.int .i64 3) (gd r14 0)) fun v15 =>
 bd (PV.one (gd r13 0)) fun v16 =>
 bd (PV.one v15) fun v17 =>
 bd (PV.len x6) fun v18 =>
 bd (PV.one v18) fun v19 =>
 bd (PV.one v17) fun v20 =>
 bd (spec_l01Cur_size (.int .i64 5) (gd r14 1) (gd r14 2) (gd r14 3)) fun r21 =>
 bd (PV.bin .add (.int .i64 1) (gd r21 0)) fun v22 =>
 bd (spec_l01Asm_list (.int .i64 2) v22 x8 v19 v20 (.bool true) (gd r21 1) (gd r21 2) (gd r21 3) (.lst [])) fun r23 =>
 bd (spec_l01Asm_value (.int .i64 1) (gd r23 0) (gd r23 1) (gd r23 2) (gd r23 3) (gd r23 4) (gd r23 5) (gd r23 6) (gd r23 7)) fun r24 =>
 bd (spec_l01Asm_put (.int .i64 25) (.int .i64 0) (gd r24 0) (gd r24 1) (gd r24 2) (gd r24 3) (gd r24 4) (gd r24 5) (gd r24 6) (gd r24 7)) fun r25 =>
 bd (PV.cat 3 40 true (.lst [(.agg [v16, v17, (gd r25 7)])]) x8) fun v26 =>
 some [(.agg [x6, v26]), (gd r25 4), (gd r25 5), (gd r25 6)]) := goOnEq _ _ _ _ _ _ _ _ (by kernel_rfl)
theorem spec_l01DrawModule_c15_eq (x0 x1 x2 x3 x4 x5 x6 x7 x8 x9 x10 x11 x12 x13 x14 x15 x16 : PV) : spec_l01DrawModule_c15 x0 x1 x2 x3 x4 x5 x6 x7 x8 x9 x10 x11 x12 x13 x14 x15 x16 =
 bd (spec_l01Asm_value (.int .i64 2) x6 x7 x8 x9 x1 x2 x3 x16) fun r0 =>
 bd (spec_l01Asm_put (.int .i64 25) (.int .i64 0) (gd r0 0) (gd r0 1) (gd r0 2) (gd r0 3) (gd r0 4) (gd r0 5) (gd r0 6) (gd r0 7)) fun r1 =>
 bd (PV.cat 3 40 true x14 (.lst [(.agg [x4, x5, (gd r1 7)])])) fun v2 =>
 bd (PV.bin .sub x0 (.int .i64 1)) fun v3 =>
 spec_l01DrawModule_c8 v3 (gd r1 4) (gd r1 5) (gd r1 6) x10 x11 x12 x13 v2 := goOnEq _ _ _ _ _ _ _ _ (by kernel_rfl)
theorem spec_l01Spoil_eq (x0 x1 x2 x3 x4 : PV) : spec_l01Spoil x0 x1 x2 x3 x4 =
 bd (spec_l01CopyModule (.agg [x0, x1])) fun r0 =>
 PV.guardOwn (.own 1 16 false []) (gd r0 0) (
 PV.guardOwn (.own 3 40 true [.leaf, .leaf, (.own 2 16 true [])]) (gd r0 1) (
 bd (PV.len (gd r0 1)) fun v1 =>
 bd (spec_l01Cur_pick v1 x2 x3 x4) fun r2 =>
 bd (PV.inb (gd r0 1) (gd r2 0)) fun v3 =>
 bd (PV.at_ 3 true (gd r0 1) (gd r2 0)) fun v4 =>
 bd (PV.at_ 3 true (gd r0 1) (gd r2 0)) fun v5 =>
 bd (PV.cell v5 2) fun v6 =>
 bd (PV.len v6) fun v7 =>
 bd (spec_l01Cur_pick v7 (gd r2 1) (gd r2 2) (gd r2 3)) fun r8 =>
 bd (spec_l01Cur_pick (.int .i64 8) (gd r8 1) (gd r8 2) (gd r8 3)) fun r9 =>
 bd (PV.bin .eql (gd r9 0) (.int .i64 0)) fun v10 =>
 PV.ite v10
 (bd (PV.inb (gd r0 1) (gd r2 0)) fun v11 =>
 bd (PV.at_ 3 true (gd r0 1) (gd r2 0)) fun v12 =>
 bd (spec_l01Cur_pick (.int .i64 29) (gd r9 1) (gd r9 2) (gd r9 3)) fun r13 =>
 bd (PV.bin .sub (gd r13 0) (.int .i64 1)) fun v14 =>
 bd (PV.at_ 3 true (gd r0 1) (gd r2 0)) fun v15 =>
 bd (PV.cell v15 2) fun v16 =>
 bd (PV.inb v16 (gd r8 0)) fun v17 =>
 bd (PV.at_ 3 true (gd r0 1) (gd r2 0)) fun v18 =>
 bd (PV.cell v18 2) fun v19 =>
 bd (PV.one v14) fun v20 =>
 bd (PV.at_ 3 true (gd r0 1) (gd r2 0)) fun v21 =>
 bd (PV.cell v21 2) fun v22 =>
 bd (PV.setCell 2 v22 (gd r8 0) 0 v20) fun v23 =>
 bd (PV.at_ 3 true (gd r0 1) (gd r2 0)) fun v24 =>
 bd (PV.cell v24 2) fun v25 =>
 bd (PV.setCell 3 (gd r0 1) (gd r2 0) 2 v23) fun v26 =>
 some [(.agg [(gd r0 0), v26]), (gd r13 1), (gd r13 2), (gd r13 3)])
 (bd (PV.bin .eql (gd r9 0) (.int .i64 1)) fun v27 =>
 PV.ite v27
 (bd (PV.inb (gd r0 1) (gd r2 0)) fun v28 =>
 bd (PV.at_ 3 true (gd r0 1) (gd r2 0)) fun v29 =>
 bd (spec_l01Cur_number (gd r9 1) (gd r9 2) (gd r9 3)) fun r30 =>
 bd (PV.at_ 3 true (gd r0 1) (gd r2 0)) fun v31 =>
 bd (PV.cell v31 2) fun v32 =>
 bd (PV.inb v32 (gd r8 0)) fun v33 =>
 bd (PV.at_ 3 true (gd r0 1) (gd r2 0)) fun v34 =>
 bd (PV.cell v34 2) fun v35 =>
 bd (PV.one (gd r30 0)) fun v36 =>
 bd (PV.at_ 3 true (gd r0 1) (gd r2 0)) fun v37 =>
 bd (PV.cell v37 2) fun v38 =>
 bd (PV.setCell 2 v38 (gd r8 0) 1 v36) fun v39 =>
 bd (PV.at_ 3 true (gd r0 1) (gd r2 0)) fun v40 =>
 bd (PV.cell v40 2) fun v41 =>
 bd (PV.setCell 3 (gd r0 1) (gd r2 0) 2 v39) fun v42 =>
 some [(.agg [(gd r0 0), v42]), (gd r30 1), (gd r30 2), (gd r30 3)])
 (bd (PV.bin .eql (gd r9 0) (.int .i64 2)) fun v43 =>
 PV.ite v43
 (bd (spec_l01Cur_pick (.int .i64 9) (gd r9 1) (gd r9 2) (gd r9 3)) fun r44 =>
 bd (PV.bin .sub (gd r44 0) (.int .i64 1)) fun v45 =>
 bd (PV.inb (gd r0 1) (gd r2 0)) fun v46 =>
 bd (PV.one v45) fun v47 =>
 bd (PV.setCell 3 (gd r0 1) (gd r2 0) 0 v47) fun v48 =>
 some [(.agg [(gd r0 0), v48]), (gd r44 1), (gd r44 2), (gd r44 3)])
 (bd (PV.bin .eql (gd r9 0) (.int .i64 3)) fun v49 =>
 PV.ite v49
 (bd (spec_l01Cur_pick (.int .i64 4) (gd r9 1) (gd r9 2) (gd r9 3)) fun r50 =>
 bd (PV.inb (.lst [(.int .i64 (-1)), (.int .i64 0), (.int .i64 12), (.int .i64 13)]) (gd r50 0)) fun v51 =>
 bd (PV.at_ 1 false (.lst [(.int .i64 (-1)), (.int .i64 0), (.int .i64 12), (.int .i64 13)]) (gd r50 0)) fun v52 =>
 bd (PV.inb (gd r0 1) (gd r2 0)) fun v53 =>
 bd (PV.one v52) fun v54 =>
 bd (PV.setCell 3 (gd r0 1) (gd r2 0) 1 v54) fun v55 =>
 some [(.agg [(gd r0 0), v55]), (gd r50 1), (gd r50 2), (gd r50 3)])
 (bd (PV.bin .eql (gd r9 0) (.int .i64 4)) fun v56 =>
 PV.ite v56
 (bd (spec_l01Cur_pick (.int .i64 4) (gd r9 1) (gd r9 2) (gd r9 3)) fun r57 =>
 bd (PV.inb (.lst [(.str (bs [113, 34])), (.str (bs [10])), (.str (bs [48, 49, 50, 51, 52, 53, 54, 55, 56, 57, 48, 49, 50, 51, 52, 53, 54, 55, 56, 57, 48, 49, 50, 51, 52, 53, 54, 55, 56, 57, 48, 49, 50, 51, 52, 53, 54, 55, 56, 57, 48, 49, 50, 51, 52, 53, 54, 55, 56, 57, 48, 49, 50, 51, 52, 53, 54, 55, 56, 57, 48])), (.str (bs [195, 169]))]) (gd r57 0)) fun v58 =>
 bd (PV.at_ 1 false (.lst [(.str (bs [113, 34])), (.str (bs [10])), (.str (bs [48, 49, 50, 51, 52, 53, 54, 55, 56, 57, 48, 49, 50, 51, 52, 53, 54, 55, 56, 57, 48, 49, 50, 51, 52, 53, 54, 55, 56, 57, 48, 49, 50, 51, 52, 53, 54, 55, 56, 57, 48, 49, 50, 51, 52, 53, 54, 55, 56, 57, 48, 49, 50, 51, 52, 53, 54, 55, 56, 57, 48])), (.str (bs [195, 169]))]) (gd r57 0)) fun v59 =>
 bd (PV.cat 1 16 false (.lst []) (.lst [v59])) fun v60 =>
 bd (PV.cat 1 16 false (gd r0 0) v60) fun v61 =>
 some [(.agg [v61, (gd r0 1)]), (gd r57 1), (gd r57 2), (gd r57 3)])
 (bd (PV.bin .eql (gd r9 0) (.int .i64 5)) fun v62 =>
 PV.ite v62
 (bd (PV.inb (gd r0 1) (gd r2 0)) fun v63 =>
 bd (PV.at_ 3 true (gd r0 1) (gd r2 0)) fun v64 =>
 bd (PV.at_ 3 true (gd r0 1) (gd r2 0)) fun v65 =>
 bd (PV.cell v65 2) fun v66 =>
 bd (PV.cut 2 true v66 (.int .i64 0) (gd r8 0)) fun v67 =>
 bd (PV.inb (gd r0 1) (gd r2 0)) fun v68 =>
 bd (PV.at_ 3 true (gd r0 1) (gd r2 0)) fun v69 =>
 bd (PV.bin .add (gd r8 0) (.int .i64 1)) fun v70 =>
 bd (PV.at_ 3 true (gd r0 1) (gd r2 0)) fun v71 =>
 bd (PV.cell v71 2) fun v72 =>
 bd (PV.len v72) fun v73 =>
 bd (PV.cut 2 true v72 v70 v73) fun v74 =>
 bd (PV.at_ 3 true (gd r0 1) (gd r2 0)) fun v75 =>
 bd (PV.cell v75 2) fun v76 =>
 bd (PV.at_ 3 true (gd r0 1) (gd r2 0)) fun v77 =>
 bd (PV.cell v77 2) fun v78 =>
 bd (PV.cut 2 true v78 v70 v73) fun v79 =>
 bd (PV.cut 2 true v76 (.int .i64 0) (gd r8 0)) fun v80 =>
 bd (PV.at_ 3 true (gd r0 1) (gd r2 0)) fun v81 =>
 bd (PV.cell v81 2) fun v82 =>
 bd (PV.setCell 3 (gd r0 1) (gd r2 0) 2 .hole) fun v83 =>
 bd (PV.cat 2 16 true v80 v79) fun v84 =>
 bd (PV.inb v83 (gd r2 0)) fun v85 =>
 bd (PV.setCell 3 v83 (gd r2 0) 2 v84) fun v86 =>
 some [(.agg [(gd r0 0), v86]), (gd r9 1), (gd r9 2), (gd r9 3)])
 (bd (PV.bin .eql (gd r9 0) (.int .i64 6)) fun v87 =>
 PV.ite v87
 (spec_l01Spoil_c21 (gd r9 1) (gd r9 2) (gd r9 3) (.lst []) (.lst []) (gd r0 0) (gd r0 1))
 (bd (PV.inb (gd r0 1) (gd r2 0)) fun v88 =>
 bd (PV.at_ 3 true (gd r0 1) (gd r2 0)) fun v89 =>
 bd (PV.at_ 3 true (gd r0 1) (gd r2 0)) fun v90 =>
 bd (PV.cell v90 2) fun v91 =>
 bd (PV.inb v91 (gd r8 0)) fun v92 =>
 bd (PV.at_ 3 true (gd r0 1) (gd r2 0)) fun v93 =>
 bd (PV.cell v93 2) fun v94 =>
 bd (PV.at_ 2 true v94 (gd r8 0)) fun v95 =>
 bd (PV.whole 2 v95) fun v96 =>
 bd (PV.cell v96 0) fun v97 =>
 bd (PV.cell v96 1) fun v98 =>
 spec_l01Spoil_c6 (gd r2 0) (gd r9 1) (gd r9 2) (gd r9 3) v97 v98 (.lst []) (.lst []) (gd r0 0) (gd r0 1)))))))))) := scallEq _ _ _ _ (by kernel_rfl)
theorem spec_l01Spoil_c21_eq (x0 x1 x2 x3 x4 x5 x6 : PV) : spec_l01Spoil_c21 x0 x1 x2 x3 x4 x5 x6 =
 bd (PV.len x6) fun v0 =>
 bd (spec_l01Cur_pick (.int .i64 2) x0 x1 x2) fun r1 =>
 bd (PV.bin .add (.int .i64 12) (gd r1 0)) fun v2 =>
 bd (PV.bin .lss v0 v2) fun v3 =>
 PV.ite v3
 (bd (PV.cat 3 40 true x6 (.lst [(.agg [(.int .i64 0), (.int .i64 0), (.lst [(.agg [(.int .i64 4), (.int .i64 0)]), (.agg [(.int .i64 25), (.int .i64 0)])])])])) fun v4 =>
 spec_l01Spoil_c21 (gd r1 1) (gd r1 2) (gd r1 3) x3 x4 x5 v4)
 (some [(.agg [x5, x6]), (gd r1 1), (gd r1 2), (gd r1 3)]) := goOnEq _ _ _ _ _ _ _ _ (by kernel_rfl)
theorem spec_l01Spoil_c6_eq (x0 x1 x2 x3 x4 x5 x6 x7 x8 x9 : PV) : spec_l01Spoil_c6 x0 x1 x2 x3 x4 x5 x6 x7 x8 x9 =
 bd (PV.inb x9 x0) fun v0 =>
 bd (PV.at_ 3 true x9 x0) fun v1 =>
 bd (PV.at_ 3 true x9 x0) fun v2 =>
 bd (PV.cell v2 2) fun v3 =>
 bd (PV.len v3) fun v4 =>
 bd (spec_l01Cur_pick (.int .i64 2) x1 x2 x3) fun r5 =>
 bd (PV.bin .add (.int .i64 120) (gd r5 0)) fun v6 =>
 bd (PV.bin .lss v4 v6) fun v7 =>
 PV.ite v7
 (bd (PV.inb x9 x0) fun v8 =>
 bd (PV.at_ 3 true x9 x0) fun v9 =>
 bd (PV.at_ 3 true x9 x0) fun v10 =>
 bd (PV.cell v10 2) fun v11 =>
 bd (PV.at_ 3 true x9 x0) fun v12 =>
 bd (PV.cell v12 2) fun v13 =>
 bd (PV.setCell 3 x9 x0 2 .hole) fun v14 =>
 bd (PV.cat 2 16 true v11 (.lst [(.agg [x4, x5])])) fun v15 =>
 bd (PV.inb v14 x0) fun v16 =>
 bd (PV.setCell 3 v14 x0 2 v15) fun v17 =>
 spec_l01Spoil_c6 x0 (gd r5 1) (gd r5 2) (gd r5 3) x4 x5 x6 x7 x8 v17)
 (some [(.agg [x8, x9]), (gd r5 1), (gd r5 2), (gd r5 3)]) := goOnEq _ _ _ _ _ _ _ _ (by kernel_rfl)
theorem spec_l04DrawValue_eq (x0 x1 x2 : PV) : spec_l04DrawValue x0 x1 x2 =
 bd (spec_l01Cur_pick (.int .i64 9) x0 x1 x2) fun r0 =>
 bd (PV.bin .eql (gd r0 0) (.int .i64 0)) fun v1 =>
 PV.ite v1
 (some [(.agg [(.int .i64 0), (.int .i64 0), (.str (bs []))]), (gd r0 1), (gd r0 2), (gd r0 3)])
 (bd (PV.bin .eql (gd r0 0) (.int .i64 1)) fun v2 =>
 PV.ite v2
 (bd (spec_l01Cur_number (gd r0 1) (gd r0 2) (gd r0 3)) fun r3 =>
 bd (spec_l04Int (gd r3 0)) fun r4 =>
 bd (PV.whole 3 (hd r4)) fun v5 =>
 bd (PV.cell v5 0) fun v6 =>
 bd (PV.cell v5 1) fun v7 =>
 bd (PV.cell v5 2) fun v8 =>
 some [(.agg [v6, v7, v8]), (gd r3 1), (gd r3 2), (gd r3 3)])
 (bd (PV.bin .eql (gd r0 0) (.int .i64 2)) fun v9 =>
 PV.ite v9
 (bd (spec_l01Cur_number (gd r0 1) (gd r0 2) (gd r0 3)) fun r10 =>
 bd (spec_l04Int (gd r10 0)) fun r11 =>
 bd (PV.whole 3 (hd r11)) fun v12 =>
 bd (PV.cell v12 0) fun v13 =>
 bd (PV.cell v12 1) fun v14 =>
 bd (PV.cell v12 2) fun v15 =>
 some [(.agg [v13, v14, v15]), (gd r10 1), (gd r10 2), (gd r10 3)])
 (bd (PV.bin .eql (gd r0 0) (.int .i64 3)) fun v16 =>
 PV.ite v16
 (bd (spec_l01Cur_number (gd r0 1) (gd r0 2) (gd r0 3)) fun r17 =>
 bd (spec_l04Int (gd r17 0)) fun r18 =>
 bd (PV.whole 3 (hd r18)) fun v19 =>
 bd (PV.cell v19 0) fun v20 =>
 bd (PV.cell v19 1) fun v21 =>
 bd (PV.cell v19 2) fun v22 =>
 some [(.agg [v20, v21, v22]), (gd r17 1), (gd r17 2), (gd r17 3)])
 (bd (PV.bin .eql (gd r0 0) (.int .i64 4)) fun v23 =>
 PV.ite v23
 (bd (spec_l01Cur_pick (.int .i64 2) (gd r0 1) (gd r0 2) (gd r0 3)) fun r24 =>
 bd (PV.one (gd r24 0)) fun v25 =>
 some [(.agg [(.int .i64 2), v25, (.str (bs []))]), (gd r24 1), (gd r24 2), (gd r24 3)])
 (bd (PV.bin .eql (gd r0 0) (.int .i64 5)) fun v26 =>
 PV.ite v26
 (bd (spec_l01Cur_pick (.int .i64 4) (gd r0 1) (gd r0 2) (gd r0 3)) fun r27 =>
 bd (PV.inb (.lst [(.str (bs [])), (.str (bs [97])), (.str (bs [98, 99])), (.str (bs [48, 49, 50, 51, 52, 53, 54, 55, 56, 57, 48, 49, 50, 51, 52, 53, 54, 55, 56, 57, 48, 49, 50, 51, 52, 53, 54, 55, 56, 57, 48, 49, 50, 51, 52, 53, 54, 55, 56, 57]))]) (gd r27 0)) fun v28 =>
 bd (PV.at_ 1 false (.lst [(.str (bs [])), (.str (bs [97])), (.str (bs [98, 99])), (.str (bs [48, 49, 50, 51, 52, 53, 54, 55, 56, 57, 48, 49, 50, 51, 52, 53, 54, 55, 56, 57, 48, 49, 50, 51, 52, 53, 54, 55, 56, 57, 48, 49, 50, 51, 52, 53, 54, 55, 56, 57]))]) (gd r27 0)) fun v29 =>
 bd (PV.one v29) fun v30 =>
 some [(.agg [(.int .i64 3), (.int .i64 0), v30]), (gd r27 1), (gd r27 2), (gd r27 3)])
 (bd (PV.bin .eql (gd r0 0) (.int .i64 6)) fun v31 =>
 PV.ite v31
 (bd (spec_l01Cur_pick (.int .i64 4) (gd r0 1) (gd r0 2) (gd r0 3)) fun r32 =>
 bd (PV.one (gd r32 0)) fun v33 =>
 some [(.agg [(.int .i64 4), v33, (.str (bs []))]), (gd r32 1), (gd r32 2), (gd r32 3)])
 (bd (PV.bin .eql (gd r0 0) (.int .i64 7)) fun v34 =>
 PV.ite v34
 (bd (spec_l01Cur_pick (.int .i64 4) (gd r0 1) (gd r0 2) (gd r0 3)) fun r35 =>
 bd (PV.one (gd r35 0)) fun v36 =>
 some [(.agg [(.int .i64 5), v36, (.str (bs []))]), (gd r35 1), (gd r35 2), (gd r35 3)])
 (bd (spec_l01Cur_pick (.int .i64 8) (gd r0 1) (gd r0 2) (gd r0 3)) fun r37 =>
 bd (PV.bin .sub (gd r37 0) (.int .i64 1)) fun v38 =>
 bd (spec_l01Cur_pick (.int .i64 4) (gd r37 1) (gd r37 2) (gd r37 3)) fun r39 =>
 bd (PV.bin .sub (gd r39 0) (.int .i64 1)) fun v40 =>
 bd (spec_l01Cur_pick (.int .i64 3) (gd r39 1) (gd r39 2) (gd r39 3)) fun r41 =>
 bd (PV.inb (.lst [(.str (bs [])), (.str (bs [97])), (.str (bs [34]))]) (gd r41 0)) fun v42 =>
 bd (PV.at_ 1 false (.lst [(.str (bs [])), (.str (bs [97])), (.str (bs [34]))]) (gd r41 0)) fun v43 =>
 bd (PV.one v38) fun v44 =>
 bd (PV.one v40) fun v45 =>
 bd (PV.one v43) fun v46 =>
 some [(.agg [v44, v45, v46]), (gd r41 1), (gd r41 2), (gd r41 3)])))))))) := scallEq _ _ _ _ (by kernel_rfl)
theorem spec_l07Observe_eq (x0 x1 x2 : PV) : spec_l07Observe x0 x1 x2 =
 bd (PV.whole 2 x0) fun v0 =>
 bd (PV.cell v0 0) fun v1 =>
 bd (PV.cell v0 1) fun v2 =>
 bd (PV.whole 10 x2) fun v3 =>
 bd (PV.cell v3 0) fun v4 =>
 bd (PV.cell v3 1) fun v5 =>
 bd (PV.cell v3 2) fun v6 =>
 bd (PV.cell v3 3) fun v7 =>
 bd (PV.cell v3 4) fun v8 =>
 bd (PV.cell v3 5) fun v9 =>
 bd (PV.cell v3 6) fun v10 =>
 bd (PV.cell v3 7) fun v11 =>
 bd (PV.cell v3 8) fun v12 =>
 bd (PV.cell v3 9) fun v13 =>
 bd (spec_l07See (.agg [v1, v2]) (.agg [v4, v5, v6, v7, v8, v9, v10, v11, v12, v13])) fun r14 =>
 bd (PV.comp (hd r14) 0) fun v15 =>
 bd (PV.comp (hd r14) 1) fun v16 =>
 bd (PV.whole 4 v15) fun v17 =>
 bd (PV.cell v17 0) fun v18 =>
 bd (PV.cell v17 1) fun v19 =>
 bd (PV.cell v17 2) fun v20 =>
 bd (PV.cell v17 3) fun v21 =>
 bd (PV.not v16) fun v22 =>
 PV.ite v22
 (bd (PV.cat 4 32 true (.lst []) x1) fun v23 =>
 some [v23])
 (bd (spec_SiteAt x1 v18 v19) fun r24 =>
 bd (PV.cell (hd r24) 2) fun v25 =>
 bd (PV.bin .eql v25 (.int .i64 0)) fun v26 =>
 PV.ite v26
 (bd (PV.len x1) fun v27 =>
 bd (PV.bin .eql v27 (.int .i64 150)) fun v28 =>
 PV.ite v28
 (bd (PV.cat 4 32 true (.lst []) x1) fun v29 =>
 some [v29])
 (bd (spec_l07Lay (.agg [v1, v2]) x1 (.agg [v18, v19, v20, v21])) fun r30 =>
 PV.guardOwn (.own 4 32 true []) (gd r30 0) (
 some [(gd r30 0)])))
 (bd (spec_l07Lay (.agg [v1, v2]) x1 (.agg [v18, v19, v20, v21])) fun r31 =>
 PV.guardOwn (.own 4 32 true []) (gd r31 0) (
 some [(gd r31 0)]))) := scallEq _ _ _ _ (by kernel_rfl)
theorem spec_l07See_eq (x0 x1 : PV) : spec_l07See x0 x1 =
 bd (PV.whole 2 x0) fun v0 =>
 bd (PV.cell v0 0) fun v1 =>
 bd (PV.cell v0 1) fun v2 =>
 bd (PV.whole 10 x1) fun v3 =>
 bd (PV.cell v3 0) fun v4 =>
 bd (PV.cell v3 1) fun v5 =>
 bd (PV.cell v3 2) fun v6 =>
 bd (PV.cell v3 3) fun v7 =>
 bd (PV.cell v3 4) fun v8 =>
 bd (PV.cell v3 5) fun v9 =>
 bd (PV.cell v3 6) fun v10 =>
 bd (PV.cell v3 7) fun v11 =>
 bd (PV.cell v3 8) fun v12 =>
 bd (PV.cell v3 9) fun v13 =>
 bd (PV.bin .neq v8 (.int .i64 0)) fun v14 =>
 PV.ite v14
 (some [(.tup [(.agg [(.int .i64 0), (.int .i64 0), (.int .i64 0), (.int .i64 0)]), (.bool false)])])
 (bd (PV.len v4) fun v15 =>
 bd (PV.bin .sub v15 (.int .i64 1)) fun v16 =>
 bd (PV.at_ 4 true v4 v16) fun v17 =>
 bd (PV.whole 4 v17) fun v18 =>
 bd (PV.cell v18 0) fun v19 =>
 bd (PV.cell v18 1) fun v20 =>
 bd (PV.cell v18 2) fun v21 =>
 bd (PV.cell v18 3) fun v22 =>
 bd (PV.at_ 3 true v2 v19) fun v23 =>
 bd (PV.cell v23 2) fun v24 =>
 bd (PV.at_ 2 true v24 v20) fun v25 =>
 bd (PV.whole 2 v25) fun v26 =>
 bd (PV.cell v26 0) fun v27 =>
 bd (PV.cell v26 1) fun v28 =>
 bd (PV.one v19) fun v29 =>
 bd (PV.one v20) fun v30 =>
 bd (PV.len v22) fun v31 =>
 bd (spec_l07Is v27) fun r32 =>
 bd (PV.not (hd r32)) fun v33 =>
 PV.ite v33
 (some [(.tup [(.agg [(.int .i64 0), (.int .i64 0), (.int .i64 0), (.int .i64 0)]), (.bool false)])])
 (bd (PV.bin .eql v27 (.int .i64 23)) fun v34 =>
 PV.ite v34
 (bd (PV.bin .sub v31 (.int .i64 1)) fun v35 =>
 bd (PV.bin .sub v35 v28) fun v36 =>
 bd (PV.at_ 3 true v22 v36) fun v37 =>
 bd (PV.whole 3 v37) fun v38 =>
 bd (PV.cell v38 0) fun v39 =>
 bd (PV.cell v38 1) fun v40 =>
 bd (PV.cell v38 2) fun v41 =>
 bd (PV.bin .eql v39 (.int .i64 5)) fun v42 =>
 PV.ite v42
 (bd (PV.one v40) fun v43 =>
 some [(.tup [(.agg [v29, v30, (.int .i64 1), v43]), (.bool true)])])
 (some [(.tup [(.agg [v29, v30, (.int .i64 2), (.int .i64 0)]), (.bool true)])]))
 (bd (PV.bin .sub v31 (.int .i64 1)) fun v44 =>
 bd (PV.at_ 3 true v22 v44) fun v45 =>
 bd (PV.cell v45 0) fun v46 =>
 bd (PV.bin .eql v46 (.int .i64 1)) fun v47 =>
 PV.ite v47
 (bd (PV.bin .sub v31 (.int .i64 2)) fun v48 =>
 bd (PV.at_ 3 true v22 v48) fun v49 =>
 bd (PV.cell v49 0) fun v50 =>
 bd (PV.bin .eql v50 (.int .i64 1)) fun v51 =>
 PV.ite v51
 (some [(.tup [(.agg [v29, v30, (.int .i64 1), (.int .i64 0)]), (.bool true)])])
 (some [(.tup [(.agg [v29, v30, (.int .i64 2), (.int .i64 0)]), (.bool true)])]))
 (some [(.tup [(.agg [v29, v30, (.int .i64 2), (.int .i64 0)]), (.bool true)])])))) := pcallEq _ _ _ (by kernel_rfl)
theorem spec_SiteAt_eq (x0 x1 x2 : PV) : spec_SiteAt x0 x1 x2 = spec_SiteAt_c2 x0 x1 x2 (.int .i64 0) (.int .i64 0) (.int .i64 0) (.int .i64 0) (.int .i64 0) := pcallEq _ _ _ (by kernel_rfl)
theorem spec_SiteAt_c2_eq (x0 x1 x2 x3 x4 x5 x6 x7 : PV) : spec_SiteAt_c2 x0 x1 x2 x3 x4 x5 x6 x7 =
 bd (PV.len x0) fun v0 =>
 bd (PV.bin .lss x3 v0) fun v1 =>
 PV.ite v1
 (bd (PV.at_ 4 true x0 x3) fun v2 =>
 bd (PV.cell v2 0) fun v3 =>
 bd (PV.bin .eql v3 x1) fun v4 =>
 PV.ite v4
 (bd (PV.at_ 4 true x0 x3) fun v5 =>
 bd (PV.cell v5 1) fun v6 =>
 bd (PV.bin .eql v6 x2) fun v7 =>
 PV.ite v7
 (bd (PV.at_ 4 true x0 x3) fun v8 =>
 bd (PV.whole 4 v8) fun v9 =>
 bd (PV.cell v9 0) fun v10 =>
 bd (PV.cell v9 1) fun v11 =>
 bd (PV.cell v9 2) fun v12 =>
 bd (PV.cell v9 3) fun v13 =>
 some [(.agg [v10, v11, v12, v13])])
 (bd (PV.bin .add x3 (.int .i64 1)) fun v14 =>
 spec_SiteAt_c2 x0 x1 x2 v14 x4 x5 x6 x7))
 (bd (PV.bin .add x3 (.int .i64 1)) fun v15 =>
 spec_SiteAt_c2 x0 x1 x2 v15 x4 x5 x6 x7))
 (some [(.agg [(.int .i64 0), (.int .i64 0), (.int .i64 0), (.int .i64 0)])]) := goOnEq _ _ _ _ _ _ _ _ (by kernel_rfl)
theorem spec_l05Copy_eq (x0 : PV) : spec_l05Copy x0 =
 bd (PV.whole 10 x0) fun v0 =>
 bd (PV.cell v0 0) fun v1 =>
 bd (PV.cell v0 1) fun v2 =>
 bd (PV.cell v0 2) fun v3 =>
 bd (PV.cell v0 3) fun v4 =>
 bd (PV.cell v0 4) fun v5 =>
 bd (PV.cell v0 5) fun v6 =>
 bd (PV.cell v0 6) fun v7 =>
 bd (PV.cell v0 7) fun v8 =>
 bd (PV.cell v0 8) fun v9 =>
 bd (PV.cell v0 9) fun v10 =>
 spec_l05Copy_c3 (.int .i64 0) v1 v2 v3 v4 v5 v6 v7 v8 v9 v10 (.int .i64 0) (.int .i64 0) (.int .i64 0) (.int .i64 0) (.int .i64 0) (.str (bs [])) (.int .i64 0) (.lst []) (.lst []) (.lst []) (.lst []) := scallEq _ _ _ _ (by kernel_rfl)
theorem spec_l05Copy_c3_eq (x0 x1 x2 x3 x4 x5 x6 x7 x8 x9 x10 x11 x12 x13 x14 x15 x16 x17 x18 x19 x20 x21 : PV) : spec_l05Copy_c3 x0 x1 x2 x3 x4 x5 x6 x7 x8 x9 x10 x11 x12 x13 x14 x15 x16 x17 x18 x19 x20 x21 =
 bd (PV.len x1) fun v0 =>
 bd (PV.bin .lss x0 v0) fun v1 =>
 PV.ite v1
 (bd (PV.at_ 4 true x1 x0) fun v2 =>
 bd (spec_l05CopyFrame v2) fun r3 =>
 PV.guardFlat (gd r3 0) (
 PV.guardFlat (gd r3 1) (
 PV.guardOwn (.own 3 32 true []) (gd r3 2) (
 PV.guardOwn (.own 3 32 true []) (gd r3 3) (
 bd (PV.cat 4 64 true x21 (.lst [(.agg [(gd r3 0), (gd r3 1), (gd r3 2), (gd r3 3)])])) fun v4 =>
 bd (PV.bin .add x0 (.int .i64 1)) fun v5 =>
 spec_l05Copy_c3 v5 x1 x2 x3 x4 x5 x6 x7 x8 x9 x10 x11 x12 x13 x14 x15 x16 x17 x18 x19 x20 v4)))))
 (bd (spec_l05CopyHeap x2) fun r6 =>
 PV.guardOwn (.own 1 24 true [(.own 3 32 true [])]) (gd r6 0) (
 bd (PV.cat 1 16 false (.lst []) x4) fun v7 =>
 some [x3, x5, x6, x7, x8, x9, x10, x21, (gd r6 0), v7])) := goOnEq _ _ _ _ _ _ _ _ (by kernel_rfl)
theorem spec_l05Top_frame_eq (x0 x1 x2 x3 x4 x5 x6 x7 x8 x9 x10 x11 x12 : PV) : spec_l05Top_frame x0 x1 x2 x3 x4 x5 x6 x7 x8 x9 x10 x11 x12 =
 bd (PV.len x10) fun v0 =>
 bd (PV.bin .sub v0 (.int .i64 1)) fun v1 =>
 bd (PV.inb x10 v1) fun v2 =>
 some [v1, x0, x1, x2, x3, x4, x5, x6, x7, x8, x9, x10, x11, x12] := scallEq _ _ _ _ (by kernel_rfl)
theorem spec_l05Top_do_eq (x0 x1 x2 x3 x4 x5 x6 x7 x8 x9 x10 x11 x12 x13 x14 : PV) : spec_l05Top_do x0 x1 x2 x3 x4 x5 x6 x7 x8 x9 x10 x11 x12 x13 x14 =
 bd (spec_l05Top_frame x2 x3 x4 x5 x6 x7 x8 x9 x10 x11 x12 x13 x14) fun r0 =>
 bd (PV.bin .eql x0 (.int .i64 1)) fun v1 =>
 PV.ite v1
 (bd (spec_l04Int x1) fun r2 =>
 bd (spec_l05Top_push (hd r2) (gd r0 1) (gd r0 2) (gd r0 3) (gd r0 4) (gd r0 5) (gd r0 6) (gd r0 7) (gd r0 8) (gd r0 9) (gd r0 10) (gd r0 11) (gd r0 12) (gd r0 13)) fun r3 =>
 some [(gd r3 0), (gd r3 1), (gd r3 2), (gd r3 3), (gd r3 4), (gd r3 5), (gd r3 6), (gd r3 7), (gd r3 8), (gd r3 9), (gd r3 10), (gd r3 11), (gd r3 12)])
 (bd (PV.bin .eql x0 (.int .i64 2)) fun v4 =>
 PV.ite v4
 (bd (PV.bin .eql x1 (.int .i64 1)) fun v5 =>
 bd (spec_l04Bool v5) fun r6 =>
 bd (spec_l05Top_push (hd r6) (gd r0 1) (gd r0 2) (gd r0 3) (gd r0 4) (gd r0 5) (gd r0 6) (gd r0 7) (gd r0 8) (gd r0 9) (gd r0 10) (gd r0 11) (gd r0 12) (gd r0 13)) fun r7 =>
 some [(gd r7 0), (gd r7 1), (gd r7 2), (gd r7 3), (gd r7 4), (gd r7 5), (gd r7 6), (gd r7 7), (gd r7 8), (gd r7 9), (gd r7 10), (gd r7 11), (gd r7 12)])
 (bd (PV.bin .eql x0 (.int .i64 3)) fun v8 =>
 PV.ite v8
 (bd (PV.at_ 1 false (gd r0 1) x1) fun v9 =>
 bd (PV.one v9) fun v10 =>
 bd (spec_l05Top_push_v1 (.int .i64 3) (.int .i64 0) v10 (gd r0 1) (gd r0 2) (gd r0 3) (gd r0 4) (gd r0 5) (gd r0 6) (gd r0 7) (gd r0 8) (gd r0 9) (gd r0 10) (gd r0 11) (gd r0 12) (gd r0 13)) fun r11 =>
 some [(gd r11 0), (gd r11 1), (gd r11 2), (gd r11 3), (gd r11 4), (gd r11 5), (gd r11 6), (gd r11 7), (gd r11 8), (gd r11 9), (gd r11 10), (gd r11 11), (gd r11 12)])
 (bd (PV.bin .eql x0 (.int .i64 4)) fun v12 =>
 PV.ite v12
 (bd (spec_l05Top_push_v1 (.int .i64 0) (.int .i64 0) (.str (bs [])) (gd r0 1) (gd r0 2) (gd r0 3) (gd r0 4) (gd r0 5) (gd r0 6) (gd r0 7) (gd r0 8) (gd r0 9) (gd r0 10) (gd r0 11) (gd r0 12) (gd r0 13)) fun r13 =>
 some [(gd r13 0), (gd r13 1), (gd r13 2), (gd r13 3), (gd r13 4), (gd r13 5), (gd r13 6), (gd r13 7), (gd r13 8), (gd r13 9), (gd r13 10), (gd r13 11), (gd r13 12)])
 (bd (PV.bin .eql x0 (.int .i64 5)) fun v14 =>
 PV.ite v14
 (bd (PV.one x1) fun v15 =>
 bd (spec_l05Top_push_v1 (.int .i64 5) v15 (.str (bs [])) (gd r0 1) (gd r0 2) (gd r0 3) (gd r0 4) (gd r0 5) (gd r0 6) (gd r0 7) (gd r0 8) (gd r0 9) (gd r0 10) (gd r0 11) (gd r0 12) (gd r0 13)) fun r16 =>
 some [(gd r16 0), (gd r16 1), (gd r16 2), (gd r16 3), (gd r16 4), (gd r16 5), (gd r16 6), (gd r16 7), (gd r16 8), (gd r16 9), (gd r16 10), (gd r16 11), (gd r16 12)])
 (bd (PV.bin .eql x0 (.int .i64 6)) fun v17 =>
 PV.ite v17
 (bd (PV.at_ 4 true (gd r0 11) (gd r0 0)) fun v18 =>
 bd (PV.at_ 4 true (gd r0 11) (gd r0 0)) fun v19 =>
 bd (PV.cell v19 2) fun v20 =>
 bd (PV.inb v20 x1) fun v21 =>
 bd (PV.at_ 4 true (gd r0 11) (gd r0 0)) fun v22 =>
 bd (PV.cell v22 2) fun v23 =>
 bd (PV.at_ 3 true v23 x1) fun v24 =>
 bd (spec_l05Top_push v24 (gd r0 1) (gd r0 2) (gd r0 3) (gd r0 4) (gd r0 5) (gd r0 6) (gd r0 7) (gd r0 8) (gd r0 9) (gd r0 10) (gd r0 11) (gd r0 12) (gd r0 13)) fun r25 =>
 some [(gd r25 0), (gd r25 1), (gd r25 2), (gd r25 3), (gd r25 4), (gd r25 5), (gd r25 6), (gd r25 7), (gd r25 8), (gd r25 9), (gd r25 10), (gd r25 11), (gd r25 12)])
 (bd (PV.bin .eql x0 (.int .i64 7)) fun v26 =>
 PV.ite v26
 (bd (spec_l05Top_pop (gd r0 1) (gd r0 2) (gd r0 3) (gd r0 4) (gd r0 5) (gd r0 6) (gd r0 7) (gd r0 8) (gd r0 9) (gd r0 10) (gd r0 11) (gd r0 12) (gd r0 13)) fun r27 =>
 bd (PV.whole 3 (gd r27 0)) fun v28 =>
 bd (PV.cell v28 0) fun v29 =>
 bd (PV.cell v28 1) fun v30 =>
 bd (PV.cell v28 2) fun v31 =>
 bd (PV.at_ 4 true (gd r27 11) (gd r0 0)) fun v32 =>
 bd (PV.at_ 4 true (gd r27 11) (gd r0 0)) fun v33 =>
 bd (PV.cell v33 2) fun v34 =>
 bd (PV.inb v34 x1) fun v35 =>
 bd (PV.at_ 4 true (gd r27 11) (gd r0 0)) fun v36 =>
 bd (PV.cell v36 2) fun v37 =>
 bd (PV.at_ 4 true (gd r27 11) (gd r0 0)) fun v38 =>
 bd (PV.cell v38 2) fun v39 =>
 bd (PV.setAt 3 true v39 x1 (.agg [v29, v30, v31])) fun v40 =>
 bd (PV.at_ 4 true (gd r27 11) (gd r0 0)) fun v41 =>
 bd (PV.cell v41 2) fun v42 =>
 bd (PV.setCell 4 (gd r27 11) (gd r0 0) 2 v40) fun v43 =>
 some [(gd r27 1), (gd r27 2), (gd r27 3), (gd r27 4), (gd r27 5), (gd r27 6), (gd r27 7), (gd r27 8), (gd r27 9), (gd r27 10), v43, (gd r27 12), (gd r27 13)])
 (bd (PV.bin .eql x0 (.int .i64 8)) fun v44 =>
 PV.ite v44
 (bd (spec_l05Top_pop (gd r0 1) (gd r0 2) (gd r0 3) (gd r0 4) (gd r0 5) (gd r0 6) (gd r0 7) (gd r0 8) (gd r0 9) (gd r0 10) (gd r0 11) (gd r0 12) (gd r0 13)) fun r45 =>
 bd (PV.whole 3 (gd r45 0)) fun v46 =>
 bd (PV.cell v46 0) fun v47 =>
 bd (PV.cell v46 1) fun v48 =>
 bd (PV.cell v46 2) fun v49 =>
 bd (spec_l05Top_push_v1 v47 v48 v49 (gd r45 1) (gd r45 2) (gd r45 3) (gd r45 4) (gd r45 5) (gd r45 6) (gd r45 7) (gd r45 8) (gd r45 9) (gd r45 10) (gd r45 11) (gd r45 12) (gd r45 13)) fun r50 =>
 bd (spec_l05Top_push_v1 v47 v48 v49 (gd r50 0) (gd r50 1) (gd r50 2) (gd r50 3) (gd r50 4) (gd r50 5) (gd r50 6) (gd r50 7) (gd r50 8) (gd r50 9) (gd r50 10) (gd r50 11) (gd r50 12)) fun r51 =>
 some [(gd r51 0), (gd r51 1), (gd r51 2), (gd r51 3), (gd r51 4), (gd r51 5), (gd r51 6), (gd r51 7), (gd r51 8), (gd r51 9), (gd r51 10), (gd r51 11), (gd r51 12)])
 (bd (PV.bin .eql x0 (.int .i64 9)) fun v52 =>
 PV.ite v52
 (bd (spec_l05Top_pop (gd r0 1) (gd r0 2) (gd r0 3) (gd r0 4) (gd r0 5) (gd r0 6) (gd r0 7) (gd r0 8) (gd r0 9) (gd r0 10) (gd r0 11) (gd r0 12) (gd r0 13)) fun r53 =>
 some [(gd r53 1), (gd r53 2), (gd r53 3), (gd r53 4), (gd r53 5), (gd r53 6), (gd r53 7), (gd r53 8), (gd r53 9), (gd r53 10), (gd r53 11), (gd r53 12), (gd r53 13)])
 (bd (PV.bin .eql x0 (.int .i64 10)) fun v54 =>
 PV.ite v54
 (bd (spec_l05Top_pop (gd r0 1) (gd r0 2) (gd r0 3) (gd r0 4) (gd r0 5) (gd r0 6) (gd r0 7) (gd r0 8) (gd r0 9) (gd r0 10) (gd r0 11) (gd r0 12) (gd r0 13)) fun r55 =>
 bd (PV.whole 3 (gd r55 0)) fun v56 =>
 bd (PV.cell v56 0) fun v57 =>
 bd (PV.cell v56 1) fun v58 =>
 bd (PV.cell v56 2) fun v59 =>
 bd (spec_l05Top_pop (gd r55 1) (gd r55 2) (gd r55 3) (gd r55 4) (gd r55 5) (gd r55 6) (gd r55 7) (gd r55 8) (gd r55 9) (gd r55 10) (gd r55 11) (gd r55 12) (gd r55 13)) fun r60 =>
 bd (PV.whole 3 (gd r60 0)) fun v61 =>
 bd (PV.cell v61 0) fun v62 =>
 bd (PV.cell v61 1) fun v63 =>
 bd (PV.cell v61 2) fun v64 =>
 bd (spec_l05Top_push_v1 v57 v58 v59 (gd r60 1) (gd r60 2) (gd r60 3) (gd r60 4) (gd r60 5) (gd r60 6) (gd r60 7) (gd r60 8) (gd r60 9) (gd r60 10) (gd r60 11) (gd r60 12) (gd r60 13)) fun r65 =>
 bd (spec_l05Top_push_v1 v62 v63 v64 (gd r65 0) (gd r65 1) (gd r65 2) (gd r65 3) (gd r65 4) (gd r65 5) (gd r65 6) (gd r65 7) (gd r65 8) (gd r65 9) (gd r65 10) (gd r65 11) (gd r65 12)) fun r66 =>
 some [(gd r66 0), (gd r66 1), (gd r66 2), (gd r66 3), (gd r66 4), (gd r66 5), (gd r66 6), (gd r66 7), (gd r66 8), (gd r66 9), (gd r66 10), (gd r66 11), (gd r66 12)])
 (bd (PV.bin .eql x0 (.int .i64 11)) fun v67 =>
 PV.ite v67
 (bd (spec_l05Top_pop (gd r0 1) (gd r0 2) (gd r0 3) (gd r0 4) (gd r0 5) (gd r0 6) (gd r0 7) (gd r0 8) (gd r0 9) (gd r0 10) (gd r0 11) (gd r0 12) (gd r0 13)) fun r68 =>
 bd (PV.whole 3 (gd r68 0)) fun v69 =>
 bd (PV.cell v69 0) fun v70 =>
 bd (PV.cell v69 1) fun v71 =>
 bd (PV.cell v69 2) fun v72 =>
 bd (spec_l05Top_pop (gd r68 1) (gd r68 2) (gd r68 3) (gd r68 4) (gd r68 5) (gd r68 6) (gd r68 7) (gd r68 8) (gd r68 9) (gd r68 10) (gd r68 11) (gd r68 12) (gd r68 13)) fun r73 =>
 bd (PV.whole 3 (gd r73 0)) fun v74 =>
 bd (PV.cell v74 0) fun v75 =>
 bd (PV.cell v74 1) fun v76 =>
 bd (PV.cell v74 2) fun v77 =>
 bd (spec_l05Op x0 (.agg [v75, v76, v77]) (.agg [v70, v71, v72])) fun r78 =>
 bd (PV.comp (hd r78) 0) fun v79 =>
 bd (PV.comp (hd r78) 1) fun v80 =>
 bd (PV.whole 3 v79) fun v81 =>
 bd (PV.cell v81 0) fun v82 =>
 bd (PV.cell v81 1) fun v83 =>
 bd (PV.cell v81 2) fun v84 =>
 bd (PV.one v80) fun v85 =>
 bd (spec_l05Top_push_v1 v82 v83 v84 (gd r73 1) (gd r73 2) (gd r73 3) (gd r73 4) (gd r73 5) (gd r73 6) (gd r73 7) (gd r73 8) (gd r73 9) v85 (gd r73 11) (gd r73 12) (gd r73 13)) fun r86 =>
 some [(gd r86 0), (gd r86 1), (gd r86 2), (gd r86 3), (gd r86 4), (gd r86 5), (gd r86 6), (gd r86 7), (gd r86 8), (gd r86 9), (gd r86 10), (gd r86 11), (gd r86 12)])
 (bd (PV.bin .eql x0 (.int .i64 12)) fun v87 =>
 PV.ite v87
 (bd (spec_l05Top_pop (gd r0 1) (gd r0 2) (gd r0 3) (gd r0 4) (gd r0 5) (gd r0 6) (gd r0 7) (gd r0 8) (gd r0 9) (gd r0 10) (gd r0 11) (gd r0 12) (gd r0 13)) fun r88 =>
 bd (PV.whole 3 (gd r88 0)) fun v89 =>
 bd (PV.cell v89 0) fun v90 =>
 bd (PV.cell v89 1) fun v91 =>
 bd (PV.cell v89 2) fun v92 =>
 bd (spec_l05Top_pop (gd r88 1) (gd r88 2) (gd r88 3) (gd r88 4) (gd r88 5) (gd r88 6) (gd r88 7) (gd r88 8) (gd r88 9) (gd r88 10) (gd r88 11) (gd r88 12) (gd r88 13)) fun r93 =>
 bd (PV.whole 3 (gd r93 0)) fun v94 =>
 bd (PV.cell v94 0) fun v95 =>
 bd (PV.cell v94 1) fun v96 =>
 bd (PV.cell v94 2) fun v97 =>
 bd (spec_l05Op x0 (.agg [v95, v96, v97]) (.agg [v90, v91, v92])) fun r98 =>
 bd (PV.comp (hd r98) 0) fun v99 =>
 bd (PV.comp (hd r98) 1) fun v100 =>
 bd (PV.whole 3 v99) fun v101 =>
 bd (PV.cell v101 0) fun v102 =>
 bd (PV.cell v101 1) fun v103 =>
 bd (PV.cell v101 2) fun v104 =>
 bd (PV.one v100) fun v105 =>
 bd (spec_l05Top_push_v1 v102 v103 v104 (gd r93 1) (gd r93 2) (gd r93 3) (gd r93 4) (gd r93 5) (gd r93 6) (gd r93 7) (gd r93 8) (gd r93 9) v105 (gd r93 11) (gd r93 12) (gd r93 13)) fun r106 =>
 some [(gd r106 0), (gd r106 1), (gd r106 2), (gd r106 3), (gd r106 4), (gd r106 5), (gd r106 6), (gd r106 7), (gd r106 8), (gd r106 9), (gd r106 10), (gd r106 11), (gd r106 12)])
 (bd (PV.bin .eql x0 (.int .i64 13)) fun v107 =>
 PV.ite v107
 (bd (spec_l05Top_pop (gd r0 1) (gd r0 2) (gd r0 3) (gd r0 4) (gd r0 5) (gd r0 6) (gd r0 7) (gd r0 8) (gd r0 9) (gd r0 10) (gd r0 11) (gd r0 12) (gd r0 13)) fun r108 =>
 bd (PV.whole 3 (gd r108 0)) fun v109 =>
 bd (PV.cell v109 0) fun v110 =>
 bd (PV.cell v109 1) fun v111 =>
 bd (PV.cell v109 2) fun v112 =>
 bd (spec_l05Top_pop (gd r108 1) (gd r108 2) (gd r108 3) (gd r108 4) (gd r108 5) (gd r108 6) (gd r108 7) (gd r108 8) (gd r108 9) (gd r108 10) (gd r108 11) (gd r108 12) (gd r108 13)) fun r113 =>
 bd (PV.whole 3 (gd r113 0)) fun v114 =>
 bd (PV.cell v114 0) fun v115 =>
 bd (PV.cell v114 1) fun v116 =>
 bd (PV.cell v114 2) fun v117 =>
 bd (spec_l05Op x0 (.agg [v115, v116, v117]) (.agg [v110, v111, v112])) fun r118 =>
 bd (PV.comp (hd r118) 0) fun v119 =>
 bd (PV.comp (hd r118) 1) fun v120 =>
 bd (PV.whole 3 v119) fun v121 =>
 bd (PV.cell v121 0) fun v122 =>
 bd (PV.cell v121 1) fun v123 =>
 bd (PV.cell v121 2) fun v124 =>
 bd (PV.one v120) fun v125 =>
 bd (spec_l05Top_push_v1 v122 v123 v124 (gd r113 1) (gd r113 2) (gd r113 3) (gd r113 4) (gd r113 5) (gd r113 6) (gd r113 7) (gd r113 8) (gd r113 9) v125 (gd r113 11) (gd r113 12) (gd r113 13)) fun r126 =>
 some [(gd r126 0), (gd r126 1), (gd r126 2), (gd r126 3), (gd r126 4), (gd r126 5), (gd r126 6), (gd r126 7), (gd r126 8), (gd r126 9), (gd r126 10), (gd r126 11), (gd r126 12)])
 (bd (PV.bin .eql x0 (.int .i64 14)) fun v127 =>
 PV.ite v127
 (bd (spec_l05Top_pop (gd r0 1) (gd r0 2) (gd r0 3) (gd r0 4) (gd r0 5) (gd r0 6) (gd r0 7) (gd r0 8) (gd r0 9) (gd r0 10) (gd r0 11) (gd r0 12) (gd r0 13)) fun r128 =>
 bd (PV.whole 3 (gd r128 0)) fun v129 =>
 bd (PV.cell v129 0) fun v130 =>
 bd (PV.cell v129 1) fun v131 =>
 bd (PV.cell v129 2) fun v132 =>
 bd (spec_l05Top_pop (gd r128 1) (gd r128 2) (gd r128 3) (gd r128 4) (gd r128 5) (gd r128 6) (gd r128 7) (gd r128 8) (gd r128 9) (gd r128 10) (gd r128 11) (gd r128 12) (gd r128 13)) fun r133 =>
 bd (PV.whole 3 (gd r133 0)) fun v134 =>
 bd (PV.cell v134 0) fun v135 =>
 bd (PV.cell v134 1) fun v136 =>
 bd (PV.cell v134 2) fun v137 =>
 bd (spec_l05Op x0 (.agg [v135, v136, v137]) (.agg [v130, v131, v132])) fun r138 =>
 bd (PV.comp (hd r138) 0) fun v139 =>
 bd (PV.comp (hd r138) 1) fun v140 =>
 bd (PV.whole 3 v139) fun v141 =>
 bd (PV.cell v141 0) fun v142 =>
 bd (PV.cell v141 1) fun v143 =>
 bd (PV.cell v141 2) fun v144 =>
 bd (PV.one v140) fun v145 =>
 bd (spec_l05Top_push_v1 v142 v143 v144 (gd r133 1) (gd r133 2) (gd r133 3) (gd r133 4) (gd r133 5) (gd r133 6) (gd r133 7) (gd r133 8) (gd r133 9) v145 (gd r133 11) (gd r133 12) (gd r133 13)) fun r146 =>
 some [(gd r146 0), (gd r146 1), (gd r146 2), (gd r146 3), (gd r146 4), (gd r146 5), (gd r146 6), (gd r146 7), (gd r146 8), (gd r146 9), (gd r146 10), (gd r146 11), (gd r146 12)])
 (bd (PV.bin .eql x0 (.int .i64 15)) fun v147 =>
 PV.ite v147
 (bd (spec_l05Top_pop (gd r0 1) (gd r0 2) (gd r0 3) (gd r0 4) (gd r0 5) (gd r0 6) (gd r0 7) (gd r0 8) (gd r0 9) (gd r0 10) (gd r0 11) (gd r0 12) (gd r0 13)) fun r148 =>
 bd (PV.whole 3 (gd r148 0)) fun v149 =>
 bd (PV.cell v149 0) fun v150 =>
 bd (PV.cell v149 1) fun v151 =>
 bd (PV.cell v149 2) fun v152 =>
 bd (spec_l05Top_pop (gd r148 1) (gd r148 2) (gd r148 3) (gd r148 4) (gd r148 5) (gd r148 6) (gd r148 7) (gd r148 8) (gd r148 9) (gd r148 10) (gd r148 11) (gd r148 12) (gd r148 13)) fun r153 =>
 bd (PV.whole 3 (gd r153 0)) fun v154 =>
 bd (PV.cell v154 0) fun v155 =>
 bd (PV.cell v154 1) fun v156 =>
 bd (PV.cell v154 2) fun v157 =>
 bd (spec_l05Op x0 (.agg [v155, v156, v157]) (.agg [v150, v151, v152])) fun r158 =>
 bd (PV.comp (hd r158) 0) fun v159 =>
 bd (PV.comp (hd r158) 1) fun v160 =>
 bd (PV.whole 3 v159) fun v161 =>
 bd (PV.cell v161 0) fun v162 =>
 bd (PV.cell v161 1) fun v163 =>
 bd (PV.cell v161 2) fun v164 =>
 bd (PV.one v160) fun v165 =>
 bd (spec_l05Top_push_v1 v162 v163 v164 (gd r153 1) (gd r153 2) (gd r153 3) (gd r153 4) (gd r153 5) (gd r153 6) (gd r153 7) (gd r153 8) (gd r153 9) v165 (gd r153 11) (gd r153 12) (gd r153 13)) fun r166 =>
 some [(gd r166 0), (gd r166 1), (gd r166 2), (gd r166 3), (gd r166 4), (gd r166 5), (gd r166 6), (gd r166 7), (gd r166 8), (gd r166 9), (gd r166 10), (gd r166 11), (gd r166 12)])
 (bd (PV.bin .eql x0 (.int .i64 16)) fun v167 =>
 PV.ite v167
 (bd (spec_l05Top_pop (gd r0 1) (gd r0 2) (gd r0 3) (gd r0 4) (gd r0 5) (gd r0 6) (gd r0 7) (gd r0 8) (gd r0 9) (gd r0 10) (gd r0 11) (gd r0 12) (gd r0 13)) fun r168 =>
 bd (spec_NotOf (gd r168 0)) fun r169 =>
 bd (PV.comp (hd r169) 0) fun v170 =>
 bd (PV.comp (hd r169) 1) fun v171 =>
 bd (PV.whole 3 v170) fun v172 =>
 bd (PV.cell v172 0) fun v173 =>
 bd (PV.cell v172 1) fun v174 =>
 bd (PV.cell v172 2) fun v175 =>
 bd (PV.one v171) fun v176 =>
 bd (spec_l05Top_push_v1 v173 v174 v175 (gd r168 1) (gd r168 2) (gd r168 3) (gd r168 4) (gd r168 5) (gd r168 6) (gd r168 7) (gd r168 8) (gd r168 9) v176 (gd r168 11) (gd r168 12) (gd r168 13)) fun r177 =>
 some [(gd r177 0), (gd r177 1), (gd r177 2), (gd r177 3), (gd r177 4), (gd r177 5), (gd r177 6), (gd r177 7), (gd r177 8), (gd r177 9), (gd r177 10), (gd r177 11), (gd r177 12)])
 (bd (PV.bin .eql x0 (.int .i64 17)) fun v178 =>
 PV.ite v178
 (bd (PV.one x1) fun v179 =>
 bd (PV.setCell 4 (gd r0 11) (gd r0 0) 1 v179) fun v180 =>
 some [(gd r0 1), (gd r0 2), (gd r0 3), (gd r0 4), (gd r0 5), (gd r0 6), (gd r0 7), (gd r0 8), (gd r0 9), (gd r0 10), v180, (gd r0 12), (gd r0 13)])
 (bd (PV.bin .eql x0 (.int .i64 18)) fun v181 =>
 PV.ite v181
 (bd (spec_l05Top_pop (gd r0 1) (gd r0 2) (gd r0 3) (gd r0 4) (gd r0 5) (gd r0 6) (gd r0 7) (gd r0 8) (gd r0 9) (gd r0 10) (gd r0 11) (gd r0 12) (gd r0 13)) fun r182 =>
 bd (PV.whole 3 (gd r182 0)) fun v183 =>
 bd (PV.cell v183 0) fun v184 =>
 bd (PV.cell v183 1) fun v185 =>
 bd (PV.cell v183 2) fun v186 =>
 bd (PV.bin .neq v184 (.int .i64 2)) fun v187 =>
 PV.ite v187
 (some [(gd r182 1), (gd r182 2), (gd r182 3), (gd r182 4), (gd r182 5), (gd r182 6), (gd r182 7), (gd r182 8), (gd r182 9), (.int .i64 1), (gd r182 11), (gd r182 12), (gd r182 13)])
 (bd (PV.bin .eql v185 (.int .i64 1)) fun v188 =>
 bd (PV.bin .eql x0 (.int .i64 18)) fun v189 =>
 bd (PV.beq .eql v188 v189) fun v190 =>
 PV.ite v190
 (bd (PV.one x1) fun v191 =>
 bd (PV.setCell 4 (gd r182 11) (gd r0 0) 1 v191) fun v192 =>
 some [(gd r182 1), (gd r182 2), (gd r182 3), (gd r182 4), (gd r182 5), (gd r182 6), (gd r182 7), (gd r182 8), (gd r182 9), (gd r182 10), v192, (gd r182 12), (gd r182 13)])
 (some [(gd r182 1), (gd r182 2), (gd r182 3), (gd r182 4), (gd r182 5), (gd r182 6), (gd r182 7), (gd r182 8), (gd r182 9), (gd r182 10), (gd r182 11), (gd r182 12), (gd r182 13)])))
 (bd (PV.bin .eql x0 (.int .i64 19)) fun v193 =>
 PV.ite v193
 (bd (spec_l05Top_pop (gd r0 1) (gd r0 2) (gd r0 3) (gd r0 4) (gd r0 5) (gd r0 6) (gd r0 7) (gd r0 8) (gd r0 9) (gd r0 10) (gd r0 11) (gd r0 12) (gd r0 13)) fun r194 =>
 bd (PV.whole 3 (gd r194 0)) fun v195 =>
 bd (PV.cell v195 0) fun v196 =>
 bd (PV.cell v195 1) fun v197 =>
 bd (PV.cell v195 2) fun v198 =>
 bd (PV.bin .neq v196 (.int .i64 2)) fun v199 =>
 PV.ite v199
 (some [(gd r194 1), (gd r194 2), (gd r194 3), (gd r194 4), (gd r194 5), (gd r194 6), (gd r194 7), (gd r194 8), (gd r194 9), (.int .i64 1), (gd r194 11), (gd r194 12), (gd r194 13)])
 (bd (PV.bin .eql v197 (.int .i64 1)) fun v200 =>
 bd (PV.bin .eql x0 (.int .i64 18)) fun v201 =>
 bd (PV.beq .eql v200 v201) fun v202 =>
 PV.ite v202
 (bd (PV.one x1) fun v203 =>
 bd (PV.setCell 4 (gd r194 11) (gd r0 0) 1 v203) fun v204 =>
 some [(gd r194 1), (gd r194 2), (gd r194 3), (gd r194 4), (gd r194 5), (gd r194 6), (gd r194 7), (gd r194 8), (gd r194 9), (gd r194 10), v204, (gd r194 12), (gd r194 13)])
 (some [(gd r194 1), (gd r194 2), (gd r194 3), (gd r194 4), (gd r194 5), (gd r194 6), (gd r194 7), (gd r194 8), (gd r194 9), (gd r194 10), (gd r194 11), (gd r194 12), (gd r194 13)])))
 (bd (PV.bin .eql x0 (.int .i64 20)) fun v205 =>
 PV.ite v205
 (bd (PV.bin .eql (gd r0 3) (.int .i64 120)) fun v206 =>
 PV.ite v206
 (some [(gd r0 1), (gd r0 2), (gd r0 3), (gd r0 4), (gd r0 5), (gd r0 6), (gd r0 7), (gd r0 8), (gd r0 9), (.int .i64 7), (gd r0 11), (gd r0 12), (gd r0 13)])
 (bd (PV.len (gd r0 12)) fun v207 =>
 bd (PV.one v207) fun v208 =>
 bd (spec_l05Top_push_v1 (.int .i64 4) v208 (.str (bs [])) (gd r0 1) (gd r0 2) (gd r0 3) (gd r0 4) (gd r0 5) (gd r0 6) (gd r0 7) (gd r0 8) (gd r0 9) (gd r0 10) (gd r0 11) (gd r0 12) (gd r0 13)) fun r209 =>
 bd (PV.zeros 32 (.agg [(.int .i64 0), (.int .i64 0), (.str (bs []))]) x1) fun v210 =>
 bd (PV.bin .leq x1 x1) fun v211 =>
 PV.ite v211
 (bd (PV.zeros 32 (.agg [(.int .i64 0), (.int .i64 0), (.str (bs []))]) x1) fun v212 =>
 bd (PV.cat 1 24 true (gd r209 11) (.lst [(.agg [v212])])) fun v213 =>
 bd (PV.bin .add (gd r209 2) (.int .i64 1)) fun v214 =>
 bd (PV.one v214) fun v215 =>
 some [(gd r209 0), (gd r209 1), v215, (gd r209 3), (gd r209 4), (gd r209 5), (gd r209 6), (gd r209 7), (gd r209 8), (gd r209 9), (gd r209 10), v213, (gd r209 12)])
 (none)))
 (bd (PV.bin .eql x0 (.int .i64 21)) fun v216 =>
 PV.ite v216
 (bd (spec_l05Top_pop (gd r0 1) (gd r0 2) (gd r0 3) (gd r0 4) (gd r0 5) (gd r0 6) (gd r0 7) (gd r0 8) (gd r0 9) (gd r0 10) (gd r0 11) (gd r0 12) (gd r0 13)) fun r217 =>
 bd (PV.whole 3 (gd r217 0)) fun v218 =>
 bd (PV.cell v218 0) fun v219 =>
 bd (PV.cell v218 1) fun v220 =>
 bd (PV.cell v218 2) fun v221 =>
 bd (PV.bin .neq v219 (.int .i64 4)) fun v222 =>
 PV.ite v222
 (some [(gd r217 1), (gd r217 2), (gd r217 3), (gd r217 4), (gd r217 5), (gd r217 6), (gd r217 7), (gd r217 8), (gd r217 9), (.int .i64 1), (gd r217 11), (gd r217 12), (gd r217 13)])
 (bd (PV.inb (gd r217 12) v220) fun v223 =>
 bd (PV.at_ 1 true (gd r217 12) v220) fun v224 =>
 bd (PV.at_ 1 true (gd r217 12) v220) fun v225 =>
 bd (PV.cell v225 0) fun v226 =>
 bd (PV.len v226) fun v227 =>
 bd (PV.bin .geq x1 v227) fun v228 =>
 PV.ite v228
 (some [(gd r217 1), (gd r217 2), (gd r217 3), (gd r217 4), (gd r217 5), (gd r217 6), (gd r217 7), (gd r217 8), (gd r217 9), (.int .i64 4), (gd r217 11), (gd r217 12), (gd r217 13)])
 (bd (PV.inb (gd r217 12) v220) fun v229 =>
 bd (PV.at_ 1 true (gd r217 12) v220) fun v230 =>
 bd (PV.at_ 1 true (gd r217 12) v220) fun v231 =>
 bd (PV.cell v231 0) fun v232 =>
 bd (PV.inb v232 x1) fun v233 =>
 bd (PV.at_ 1 true (gd r217 12) v220) fun v234 =>
 bd (PV.cell v234 0) fun v235 =>
 bd (PV.at_ 3 true v235 x1) fun v236 =>
 bd (spec_l05Top_push v236 (gd r217 1) (gd r217 2) (gd r217 3) (gd r217 4) (gd r217 5) (gd r217 6) (gd r217 7) (gd r217 8) (gd r217 9) (gd r217 10) (gd r217 11) (gd r217 12) (gd r217 13)) fun r237 =>
 some [(gd r237 0), (gd r237 1), (gd r237 2), (gd r237 3), (gd r237 4), (gd r237 5), (gd r237 6), (gd r237 7), (gd r237 8), (gd r237 9), (gd r237 10), (gd r237 11), (gd r237 12)])))
 (bd (PV.bin .eql x0 (.int .i64 22)) fun v238 =>
 PV.ite v238
 (bd (spec_l05Top_pop (gd r0 1) (gd r0 2) (gd r0 3) (gd r0 4) (gd r0 5) (gd r0 6) (gd r0 7) (gd r0 8) (gd r0 9) (gd r0 10) (gd r0 11) (gd r0 12) (gd r0 13)) fun r239 =>
 bd (PV.whole 3 (gd r239 0)) fun v240 =>
 bd (PV.cell v240 0) fun v241 =>
 bd (PV.cell v240 1) fun v242 =>
 bd (PV.cell v240 2) fun v243 =>
 bd (spec_l05Top_pop (gd r239 1) (gd r239 2) (gd r239 3) (gd r239 4) (gd r239 5) (gd r239 6) (gd r239 7) (gd r239 8) (gd r239 9) (gd r239 10) (gd r239 11) (gd r239 12) (gd r239 13)) fun r244 =>
 bd (PV.whole 3 (gd r244 0)) fun v245 =>
 bd (PV.cell v245 0) fun v246 =>
 bd (PV.cell v245 1) fun v247 =>
 bd (PV.cell v245 2) fun v248 =>
 bd (PV.bin .neq v246 (.int .i64 4)) fun v249 =>
 PV.ite v249
 (some [(gd r244 1), (gd r244 2), (gd r244 3), (gd r244 4), (gd r244 5), (gd r244 6), (gd r244 7), (gd r244 8), (gd r244 9), (.int .i64 1), (gd r244 11), (gd r244 12), (gd r244 13)])
 (bd (PV.inb (gd r244 12) v247) fun v250 =>
 bd (PV.at_ 1 true (gd r244 12) v247) fun v251 =>
 bd (PV.at_ 1 true (gd r244 12) v247) fun v252 =>
 bd (PV.cell v252 0) fun v253 =>
 bd (PV.len v253) fun v254 =>
 bd (PV.bin .geq x1 v254) fun v255 =>
 PV.ite v255
 (some [(gd r244 1), (gd r244 2), (gd r244 3), (gd r244 4), (gd r244 5), (gd r244 6), (gd r244 7), (gd r244 8), (gd r244 9), (.int .i64 4), (gd r244 11), (gd r244 12), (gd r244 13)])
 (bd (PV.inb (gd r244 12) v247) fun v256 =>
 bd (PV.at_ 1 true (gd r244 12) v247) fun v257 =>
 bd (PV.at_ 1 true (gd r244 12) v247) fun v258 =>
 bd (PV.cell v258 0) fun v259 =>
 bd (PV.inb v259 x1) fun v260 =>
 bd (PV.at_ 1 true (gd r244 12) v247) fun v261 =>
 bd (PV.cell v261 0) fun v262 =>
 bd (PV.at_ 1 true (gd r244 12) v247) fun v263 =>
 bd (PV.cell v263 0) fun v264 =>
 bd (PV.setAt 3 true v264 x1 (.agg [v241, v242, v243])) fun v265 =>
 bd (PV.at_ 1 true (gd r244 12) v247) fun v266 =>
 bd (PV.cell v266 0) fun v267 =>
 bd (PV.setCell 1 (gd r244 12) v247 0 v265) fun v268 =>
 some [(gd r244 1), (gd r244 2), (gd r244 3), (gd r244 4), (gd r244 5), (gd r244 6), (gd r244 7), (gd r244 8), (gd r244 9), (gd r244 10), (gd r244 11), v268, (gd r244 13)])))
 (bd (PV.bin .eql x0 (.int .i64 23)) fun v269 =>
 PV.ite v269
 (bd (PV.at_ 4 true (gd r0 11) (gd r0 0)) fun v270 =>
 bd (PV.at_ 4 true (gd r0 11) (gd r0 0)) fun v271 =>
 bd (PV.at_ 4 true (gd r0 11) (gd r0 0)) fun v272 =>
 bd (PV.cell v272 3) fun v273 =>
 bd (PV.len v273) fun v274 =>
 bd (PV.bin .sub v274 (.int .i64 1)) fun v275 =>
 bd (PV.bin .sub v275 x1) fun v276 =>
 bd (PV.at_ 4 true (gd r0 11) (gd r0 0)) fun v277 =>
 bd (PV.cell v277 3) fun v278 =>
 bd (PV.inb v278 v276) fun v279 =>
 bd (PV.at_ 4 true (gd r0 11) (gd r0 0)) fun v280 =>
 bd (PV.cell v280 3) fun v281 =>
 bd (PV.at_ 3 true v281 v276) fun v282 =>
 bd (PV.whole 3 v282) fun v283 =>
 bd (PV.cell v283 0) fun v284 =>
 bd (PV.cell v283 1) fun v285 =>
 bd (PV.cell v283 2) fun v286 =>
 bd (PV.bin .neq v284 (.int .i64 5)) fun v287 =>
 PV.ite v287
 (some [(gd r0 1), (gd r0 2), (gd r0 3), (gd r0 4), (gd r0 5), (gd r0 6), (gd r0 7), (gd r0 8), (gd r0 9), (.int .i64 1), (gd r0 11), (gd r0 12), (gd r0 13)])
 (bd (PV.at_ 3 true (gd r0 2) v285) fun v288 =>
 bd (PV.cell v288 0) fun v289 =>
 bd (PV.bin .neq v289 x1) fun v290 =>
 PV.ite v290
 (some [(gd r0 1), (gd r0 2), (gd r0 3), (gd r0 4), (gd r0 5), (gd r0 6), (gd r0 7), (gd r0 8), (gd r0 9), (.int .i64 5), (gd r0 11), (gd r0 12), (gd r0 13)])
 (bd (spec_l05Top_call v285 (.bool true) (gd r0 1) (gd r0 2) (gd r0 3) (gd r0 4) (gd r0 5) (gd r0 6) (gd r0 7) (gd r0 8) (gd r0 9) (gd r0 10) (gd r0 11) (gd r0 12) (gd r0 13)) fun r291 =>
 some [(gd r291 0), (gd r291 1), (gd r291 2), (gd r291 3), (gd r291 4), (gd r291 5), (gd r291 6), (gd r291 7), (gd r291 8), (gd r291 9), (gd r291 10), (gd r291 11), (gd r291 12)])))
 (bd (PV.bin .eql x0 (.int .i64 24)) fun v292 =>
 PV.ite v292
 (bd (spec_l05Top_call x1 (.bool false) (gd r0 1) (gd r0 2) (gd r0 3) (gd r0 4) (gd r0 5) (gd r0 6) (gd r0 7) (gd r0 8) (gd r0 9) (gd r0 10) (gd r0 11) (gd r0 12) (gd r0 13)) fun r293 =>
 some [(gd r293 0), (gd r293 1), (gd r293 2), (gd r293 3), (gd r293 4), (gd r293 5), (gd r293 6), (gd r293 7), (gd r293 8), (gd r293 9), (gd r293 10), (gd r293 11), (gd r293 12)])
 (bd (PV.bin .eql x0 (.int .i64 25)) fun v294 =>
 PV.ite v294
 (bd (spec_l05Top_pop (gd r0 1) (gd r0 2) (gd r0 3) (gd r0 4) (gd r0 5) (gd r0 6) (gd r0 7) (gd r0 8) (gd r0 9) (gd r0 10) (gd r0 11) (gd r0 12) (gd r0 13)) fun r295 =>
 bd (PV.whole 3 (gd r295 0)) fun v296 =>
 bd (PV.cell v296 0) fun v297 =>
 bd (PV.cell v296 1) fun v298 =>
 bd (PV.cell v296 2) fun v299 =>
 bd (PV.len (gd r295 11)) fun v300 =>
 bd (PV.bin .sub v300 (.int .i64 1)) fun v301 =>
 bd (PV.cut 4 true (gd r295 11) (.int .i64 0) v301) fun v302 =>
 bd (PV.cut 4 true (gd r295 11) (.int .i64 0) v301) fun v303 =>
 bd (PV.len v303) fun v304 =>
 bd (PV.bin .eql v304 (.int .i64 0)) fun v305 =>
 PV.ite v305
 (some [(gd r295 1), (gd r295 2), (gd r295 3), (.int .i64 1), (gd r295 5), v297, v298, v299, (gd r295 9), (gd r295 10), v303, (gd r295 12), (gd r295 13)])
 (bd (spec_l05Top_push_v1 v297 v298 v299 (gd r295 1) (gd r295 2) (gd r295 3) (gd r295 4) (gd r295 5) (gd r295 6) (gd r295 7) (gd r295 8) (gd r295 9) (gd r295 10) v303 (gd r295 12) (gd r295 13)) fun r306 =>
 some [(gd r306 0), (gd r306 1), (gd r306 2), (gd r306 3), (gd r306 4), (gd r306 5), (gd r306 6), (gd r306 7), (gd r306 8), (gd r306 9), (gd r306 10), (gd r306 11), (gd r306 12)]))
 (bd (PV.bin .eql x0 (.int .i64 26)) fun v307 =>
 PV.ite v307
 (bd (spec_l05Top_pop (gd r0 1) (gd r0 2) (gd r0 3) (gd r0 4) (gd r0 5) (gd r0 6) (gd r0 7) (gd r0 8) (gd r0 9) (gd r0 10) (gd r0 11) (gd r0 12) (gd r0 13)) fun r308 =>
 bd (PV.whole 3 (gd r308 0)) fun v309 =>
 bd (PV.cell v309 0) fun v310 =>
 bd (PV.cell v309 1) fun v311 =>
 bd (PV.cell v309 2) fun v312 =>
 bd (PV.len (gd r308 13)) fun v313 =>
 bd (PV.bin .eql v313 (.int .i64 200)) fun v314 =>
 PV.ite v314
 (some [(gd r308 1), (gd r308 2), (gd r308 3), (gd r308 4), (gd r308 5), (gd r308 6), (gd r308 7), (gd r308 8), (gd r308 9), (.int .i64 8), (gd r308 11), (gd r308 12), (gd r308 13)])
 (bd (spec_ValueText (.agg [v310, v311, v312]) (gd r308 12)) fun r315 =>
 PV.guardFlat (hd r315) (
 bd (PV.cat 1 16 false (.lst []) (.lst [(hd r315)])) fun v316 =>
 bd (PV.cat 1 16 false (gd r308 13) v316) fun v317 =>
 some [(gd r308 1), (gd r308 2), (gd r308 3), (gd r308 4), (gd r308 5), (gd r308 6), (gd r308 7), (gd r308 8), (gd r308 9), (gd r308 10), (gd r308 11), (gd r308 12), v317])))
 (some [(gd r0 1), (gd r0 2), (gd r0 3), (gd r0 4), (gd r0 5), (gd r0 6), (gd r0 7), (gd r0 8), (gd r0 9), (gd r0 10), (gd r0 11), (gd r0 12), (gd r0 13)])))))))))))))))))))))))))) := scallEq _ _ _ _ (by kernel_rfl)
end Go.Proofs.YtjgleeamiclokaaGreat
namespace Go.Proofs.YtjgleeamiclokaaGreat
open Go
theorem spec_l05Op_eq (x0 x1 x2 : PV) : spec_l05Op x0 x1 x2 =
 bd (PV.whole 3 x1) fun v0 =>
 bd (PV.cell v0 0) fun v1 =>
 bd (PV.cell v0 1) fun v2 =>
 bd (PV.cell v0 2) fun v3 =>
 bd (PV.whole 3 x2) fun v4 =>
 bd (PV.cell v4 0) fun v5 =>
 bd (PV.cell v4 1) fun v6 =>
 bd (PV.cell v4 2) fun v7 =>
 bd (PV.bin .eql x0 (.int .i64 11)) fun v8 =>
 PV.ite v8
 (bd (spec_AddOf (.agg [v1, v2, v3]) (.agg [v5, v6, v7])) fun r9 =>
 bd (PV.comp (hd r9) 0) fun v10 =>
 bd (PV.comp (hd r9) 1) fun v11 =>
 bd (PV.whole 3 v10) fun v12 =>
 bd (PV.cell v12 0) fun v13 =>
 bd (PV.cell v12 1) fun v14 =>
 bd (PV.cell v12 2) fun v15 =>
 some [(.tup [(.agg [v13, v14, v15]), v11])])
 (bd (PV.bin .eql x0 (.int .i64 12)) fun v16 =>
 PV.ite v16
 (bd (spec_SubOf (.agg [v1, v2, v3]) (.agg [v5, v6, v7])) fun r17 =>
 bd (PV.comp (hd r17) 0) fun v18 =>
 bd (PV.comp (hd r17) 1) fun v19 =>
 bd (PV.whole 3 v18) fun v20 =>
 bd (PV.cell v20 0) fun v21 =>
 bd (PV.cell v20 1) fun v22 =>
 bd (PV.cell v20 2) fun v23 =>
 some [(.tup [(.agg [v21, v22, v23]), v19])])
 (bd (PV.bin .eql x0 (.int .i64 13)) fun v24 =>
 PV.ite v24
 (bd (spec_MulOf (.agg [v1, v2, v3]) (.agg [v5, v6, v7])) fun r25 =>
 bd (PV.comp (hd r25) 0) fun v26 =>
 bd (PV.comp (hd r25) 1) fun v27 =>
 bd (PV.whole 3 v26) fun v28 =>
 bd (PV.cell v28 0) fun v29 =>
 bd (PV.cell v28 1) fun v30 =>
 bd (PV.cell v28 2) fun v31 =>
 some [(.tup [(.agg [v29, v30, v31]), v27])])
 (bd (PV.bin .eql x0 (.int .i64 14)) fun v32 =>
 PV.ite v32
 (bd (spec_LessOf (.agg [v1, v2, v3]) (.agg [v5, v6, v7])) fun r33 =>
 bd (PV.comp (hd r33) 0) fun v34 =>
 bd (PV.comp (hd r33) 1) fun v35 =>
 bd (PV.whole 3 v34) fun v36 =>
 bd (PV.cell v36 0) fun v37 =>
 bd (PV.cell v36 1) fun v38 =>
 bd (PV.cell v36 2) fun v39 =>
 some [(.tup [(.agg [v37, v38, v39]), v35])])
 (bd (spec_SameOf (.agg [v1, v2, v3]) (.agg [v5, v6, v7])) fun r40 =>
 bd (PV.whole 3 (hd r40)) fun v41 =>
 bd (PV.cell v41 0) fun v42 =>
 bd (PV.cell v41 1) fun v43 =>
 bd (PV.cell v41 2) fun v44 =>
 some [(.tup [(.agg [v42, v43, v44]), (.int .i64 0)])])))) := pcallEq _ _ _ (by kernel_rfl)
theorem spec_NotOf_eq (x0 : PV) : spec_NotOf x0 =
 bd (PV.whole 3 x0) fun v0 =>
 bd (PV.cell v0 0) fun v1 =>
 bd (PV.cell v0 1) fun v2 =>
 bd (PV.cell v0 2) fun v3 =>
 bd (PV.bin .neq v1 (.int .i64 2)) fun v4 =>
 PV.ite v4
 (some [(.tup [(.agg [(.int .i64 0), (.int .i64 0), (.str (bs []))]), (.int .i64 1)])])
 (bd (PV.bin .neq v2 (.int .i64 1)) fun v5 =>
 bd (spec_l04Bool v5) fun r6 =>
 bd (PV.whole 3 (hd r6)) fun v7 =>
 bd (PV.cell v7 0) fun v8 =>
 bd (PV.cell v7 1) fun v9 =>
 bd (PV.cell v7 2) fun v10 =>
 some [(.tup [(.agg [v8, v9, v10]), (.int .i64 0)])]) := pcallEq _ _ _ (by kernel_rfl)
theorem spec_ValueText_eq (x0 x1 : PV) : spec_ValueText x0 x1 =
 bd (PV.whole 3 x0) fun v0 =>
 bd (PV.cell v0 0) fun v1 =>
 bd (PV.cell v0 1) fun v2 =>
 bd (PV.cell v0 2) fun v3 =>
 bd (PV.bin .eql v1 (.int .i64 0)) fun v4 =>
 PV.ite v4
 (some [(.str (bs [110, 105, 108]))])
 (bd (PV.bin .eql v1 (.int .i64 1)) fun v5 =>
 PV.ite v5
 (bd (spec_l02Digits v2) fun r6 =>
 some [(hd r6)])
 (bd (PV.bin .eql v1 (.int .i64 2)) fun v7 =>
 PV.ite v7
 (bd (PV.bin .eql v2 (.int .i64 1)) fun v8 =>
 PV.ite v8
 (some [(.str (bs [116, 114, 117, 101]))])
 (some [(.str (bs [102, 97, 108, 115, 101]))]))
 (bd (PV.bin .eql v1 (.int .i64 3)) fun v9 =>
 PV.ite v9
 (some [v3])
 (bd (PV.bin .eql v1 (.int .i64 5)) fun v10 =>
 PV.ite v10
 (bd (spec_l02Digits v2) fun r11 =>
 bd (PV.bin .add (.str (bs [102, 117, 110])) (hd r11)) fun v12 =>
 some [v12])
 (bd (PV.bin .eql v1 (.int .i64 4)) fun v13 =>
 PV.ite v13
 (bd (PV.len x1) fun v14 =>
 bd (PV.bin .sub v14 (.int .i64 1)) fun v15 =>
 bd (spec_l01Between v2 (.int .i64 0) v15) fun r16 =>
 PV.ite (hd r16)
 (bd (PV.at_ 1 true x1 v2) fun v17 =>
 bd (PV.cell v17 0) fun v18 =>
 bd (PV.len v18) fun v19 =>
 bd (spec_l02Digits v19) fun r20 =>
 bd (PV.bin .add (.str (bs [123])) (hd r20)) fun v21 =>
 bd (PV.bin .add v21 (.str (bs [125]))) fun v22 =>
 some [v22])
 (some [(.str (bs []))]))
 (some [(.str (bs []))])))))) := pcallEq _ _ _ (by kernel_rfl)
theorem spec_AddOf_eq (x0 x1 : PV) : spec_AddOf x0 x1 =
 bd (PV.whole 3 x0) fun v0 =>
 bd (PV.cell v0 0) fun v1 =>
 bd (PV.cell v0 1) fun v2 =>
 bd (PV.cell v0 2) fun v3 =>
 bd (PV.whole 3 x1) fun v4 =>
 bd (PV.cell v4 0) fun v5 =>
 bd (PV.cell v4 1) fun v6 =>
 bd (PV.cell v4 2) fun v7 =>
 bd (PV.bin .eql v1 (.int .i64 3)) fun v8 =>
 PV.ite v8
 (bd (PV.bin .eql v5 (.int .i64 3)) fun v9 =>
 PV.ite v9
 (spec_AddOf_c2 v1 v2 v3 v5 v6 v7 (.int .i64 0) (.int .i64 0) (.str (bs [])))
 (bd (spec_l04Numbers (.int .i64 11) (.agg [v1, v2, v3]) (.agg [v5, v6, v7])) fun r10 =>
 bd (PV.comp (hd r10) 0) fun v11 =>
 bd (PV.comp (hd r10) 1) fun v12 =>
 bd (PV.whole 3 v11) fun v13 =>
 bd (PV.cell v13 0) fun v14 =>
 bd (PV.cell v13 1) fun v15 =>
 bd (PV.cell v13 2) fun v16 =>
 some [(.tup [(.agg [v14, v15, v16]), v12])]))
 (bd (spec_l04Numbers (.int .i64 11) (.agg [v1, v2, v3]) (.agg [v5, v6, v7])) fun r17 =>
 bd (PV.comp (hd r17) 0) fun v18 =>
 bd (PV.comp (hd r17) 1) fun v19 =>
 bd (PV.whole 3 v18) fun v20 =>
 bd (PV.cell v20 0) fun v21 =>
 bd (PV.cell v20 1) fun v22 =>
 bd (PV.cell v20 2) fun v23 =>
 some [(.tup [(.agg [v21, v22, v23]), v19])]) := pcallEq _ _ _ (by kernel_rfl)
theorem spec_AddOf_c2_eq (x0 x1 x2 x3 x4 x5 x6 x7 x8 : PV) : spec_AddOf_c2 x0 x1 x2 x3 x4 x5 x6 x7 x8 =
 bd (PV.slen x2) fun v0 =>
 bd (PV.slen x5) fun v1 =>
 bd (PV.bin .sub (.int .i64 60) v1) fun v2 =>
 bd (PV.bin .gtr v0 v2) fun v3 =>
 PV.ite v3
 (some [(.tup [(.agg [(.int .i64 0), (.int .i64 0), (.str (bs []))]), (.int .i64 3)])])
 (bd (PV.bin .add x2 x5) fun v4 =>
 bd (PV.one v4) fun v5 =>
 some [(.tup [(.agg [(.int .i64 3), (.int .i64 0), v5]), (.int .i64 0)])]) := goOnEq _ _ _ _ _ _ _ _ (by kernel_rfl)
theorem spec_SubOf_eq (x0 x1 : PV) : spec_SubOf x0 x1 =
 bd (PV.whole 3 x0) fun v0 =>
 bd (PV.cell v0 0) fun v1 =>
 bd (PV.cell v0 1) fun v2 =>
 bd (PV.cell v0 2) fun v3 =>
 bd (PV.whole 3 x1) fun v4 =>
 bd (PV.cell v4 0) fun v5 =>
 bd (PV.cell v4 1) fun v6 =>
 bd (PV.cell v4 2) fun v7 =>
 bd (spec_l04Numbers (.int .i64 12) (.agg [v1, v2, v3]) (.agg [v5, v6, v7])) fun r8 =>
 bd (PV.comp (hd r8) 0) fun v9 =>
 bd (PV.comp (hd r8) 1) fun v10 =>
 bd (PV.whole 3 v9) fun v11 =>
 bd (PV.cell v11 0) fun v12 =>
 bd (PV.cell v11 1) fun v13 =>
 bd (PV.cell v11 2) fun v14 =>
 some [(.tup [(.agg [v12, v13, v14]), v10])] := pcallEq _ _ _ (by kernel_rfl)
theorem spec_MulOf_eq (x0 x1 : PV) : spec_MulOf x0 x1 =
 bd (PV.whole 3 x0) fun v0 =>
 bd (PV.cell v0 0) fun v1 =>
 bd (PV.cell v0 1) fun v2 =>
 bd (PV.cell v0 2) fun v3 =>
 bd (PV.whole 3 x1) fun v4 =>
 bd (PV.cell v4 0) fun v5 =>
 bd (PV.cell v4 1) fun v6 =>
 bd (PV.cell v4 2) fun v7 =>
 bd (spec_l04Numbers (.int .i64 13) (.agg [v1, v2, v3]) (.agg [v5, v6, v7])) fun r8 =>
 bd (PV.comp (hd r8) 0) fun v9 =>
 bd (PV.comp (hd r8) 1) fun v10 =>
 bd (PV.whole 3 v9) fun v11 =>
 bd (PV.cell v11 0) fun v12 =>
 bd (PV.cell v11 1) fun v13 =>
 bd (PV.cell v11 2) fun v14 =>
 some [(.tup [(.agg [v12, v13, v14]), v10])] := pcallEq _ _ _ (by kernel_rfl)
theorem spec_LessOf_eq (x0 x1 : PV) : spec_LessOf x0 x1 =
 bd (PV.whole 3 x0) fun v0 =>
 bd (PV.cell v0 0) fun v1 =>
 bd (PV.cell v0 1) fun v2 =>
 bd (PV.cell v0 2) fun v3 =>
 bd (PV.whole 3 x1) fun v4 =>
 bd (PV.cell v4 0) fun v5 =>
 bd (PV.cell v4 1) fun v6 =>
 bd (PV.cell v4 2) fun v7 =>
 bd (PV.bin .eql v1 (.int .i64 3)) fun v8 =>
 PV.ite v8
 (bd (PV.bin .eql v5 (.int .i64 3)) fun v9 =>
 PV.ite v9
 (spec_LessOf_c2 v1 v2 v3 v5 v6 v7 (.int .i64 0) (.int .i64 0) (.str (bs [])))
 (spec_LessOf_c3 v1 v2 v3 v5 v6 v7 (.int .i64 0) (.int .i64 0) (.str (bs []))))
 (spec_LessOf_c3 v1 v2 v3 v5 v6 v7 (.int .i64 0) (.int .i64 0) (.str (bs []))) := pcallEq _ _ _ (by kernel_rfl)
theorem spec_LessOf_c2_eq (x0 x1 x2 x3 x4 x5 x6 x7 x8 : PV) : spec_LessOf_c2 x0 x1 x2 x3 x4 x5 x6 x7 x8 =
 bd (PV.bin .lss x2 x5) fun v0 =>
 bd (spec_l04Bool v0) fun r1 =>
 bd (PV.whole 3 (hd r1)) fun v2 =>
 bd (PV.cell v2 0) fun v3 =>
 bd (PV.cell v2 1) fun v4 =>
 bd (PV.cell v2 2) fun v5 =>
 some [(.tup [(.agg [v3, v4, v5]), (.int .i64 0)])] := goOnEq _ _ _ _ _ _ _ _ (by kernel_rfl)
theorem spec_LessOf_c3_eq (x0 x1 x2 x3 x4 x5 x6 x7 x8 : PV) : spec_LessOf_c3 x0 x1 x2 x3 x4 x5 x6 x7 x8 =
 bd (PV.bin .eql x0 (.int .i64 1)) fun v0 =>
 PV.ite v0
 (bd (PV.bin .eql x3 (.int .i64 1)) fun v1 =>
 PV.ite v1
 (spec_LessOf_c4 x0 x1 x2 x3 x4 x5 x6 x7 x8)
 (some [(.tup [(.agg [(.int .i64 0), (.int .i64 0), (.str (bs []))]), (.int .i64 1)])]))
 (some [(.tup [(.agg [(.int .i64 0), (.int .i64 0), (.str (bs []))]), (.int .i64 1)])]) := goOnEq _ _ _ _ _ _ _ _ (by kernel_rfl)
theorem spec_LessOf_c4_eq (x0 x1 x2 x3 x4 x5 x6 x7 x8 : PV) : spec_LessOf_c4 x0 x1 x2 x3 x4 x5 x6 x7 x8 =
 bd (PV.bin .lss x1 x4) fun v0 =>
 bd (spec_l04Bool v0) fun r1 =>
 bd (PV.whole 3 (hd r1)) fun v2 =>
 bd (PV.cell v2 0) fun v3 =>
 bd (PV.cell v2 1) fun v4 =>
 bd (PV.cell v2 2) fun v5 =>
 some [(.tup [(.agg [v3, v4, v5]), (.int .i64 0)])] := goOnEq _ _ _ _ _ _ _ _ (by kernel_rfl)
theorem spec_SameOf_eq (x0 x1 : PV) : spec_SameOf x0 x1 =
 bd (PV.whole 3 x0) fun v0 =>
 bd (PV.cell v0 0) fun v1 =>
 bd (PV.cell v0 1) fun v2 =>
 bd (PV.cell v0 2) fun v3 =>
 bd (PV.whole 3 x1) fun v4 =>
 bd (PV.cell v4 0) fun v5 =>
 bd (PV.cell v4 1) fun v6 =>
 bd (PV.cell v4 2) fun v7 =>
 bd (PV.bin .eql v1 v5) fun v8 =>
 PV.ite v8
 (bd (PV.bin .eql v2 v6) fun v9 =>
 PV.ite v9
 (bd (PV.bin .eql v3 v7) fun v10 =>
 bd (spec_l04Bool v10) fun r11 =>
 bd (PV.whole 3 (hd r11)) fun v12 =>
 bd (PV.cell v12 0) fun v13 =>
 bd (PV.cell v12 1) fun v14 =>
 bd (PV.cell v12 2) fun v15 =>
 some [(.agg [v13, v14, v15])])
 (bd (spec_l04Bool (.bool false)) fun r16 =>
 bd (PV.whole 3 (hd r16)) fun v17 =>
 bd (PV.cell v17 0) fun v18 =>
 bd (PV.cell v17 1) fun v19 =>
 bd (PV.cell v17 2) fun v20 =>
 some [(.agg [v18, v19, v20])]))
 (bd (spec_l04Bool (.bool false)) fun r21 =>
 bd (PV.whole 3 (hd r21)) fun v22 =>
 bd (PV.cell v22 0) fun v23 =>
 bd (PV.cell v22 1) fun v24 =>
 bd (PV.cell v22 2) fun v25 =>
 some [(.agg [v23, v24, v25])]) := pcallEq _ _ _ (by kernel_rfl)
theorem spec_l02Digits_eq (x0 : PV) : spec_l02Digits x0 =
 bd (PV.bin .lss x0 (.int .i64 0)) fun v0 =>
 PV.ite v0
 (bd (PV.bin .lss x0 (.int .i64 (-9))) fun v1 =>
 PV.ite v1
 (bd (PV.bin .quo x0 (.int .i64 10)) fun v2 =>
 bd (PV.neg v2) fun v3 =>
 bd (spec_l02Digits v3) fun r4 =>
 bd (PV.bin .add (.str (bs [45])) (hd r4)) fun v5 =>
 bd (PV.bin .rem x0 (.int .i64 10)) fun v6 =>
 bd (PV.neg v6) fun v7 =>
 bd (spec_l02Digits v7) fun r8 =>
 bd (PV.bin .add v5 (hd r8)) fun v9 =>
 some [v9])
 (bd (PV.neg x0) fun v10 =>
 bd (spec_l02Digits v10) fun r11 =>
 bd (PV.bin .add (.str (bs [45])) (hd r11)) fun v12 =>
 some [v12]))
 (bd (PV.bin .lss x0 (.int .i64 10)) fun v13 =>
 PV.ite v13
 (bd (PV.bin .add (.int .i64 48) x0) fun v14 =>
 bd (PV.conv .u8 v14) fun v15 =>
 bd (PV.cat 1 1 false (.lst []) (.lst [v15])) fun v16 =>
 bd (PV.toStr v16) fun v17 =>
 some [v17])
 (bd (PV.bin .quo x0 (.int .i64 10)) fun v18 =>
 bd (spec_l02Digits v18) fun r19 =>
 bd (PV.bin .rem x0 (.int .i64 10)) fun v20 =>
 bd (PV.bin .add (.int .i64 48) v20) fun v21 =>
 bd (PV.conv .u8 v21) fun v22 =>
 bd (PV.cat 1 1 false (.lst []) (.lst [v22])) fun v23 =>
 bd (PV.toStr v23) fun v24 =>
 bd (PV.bin .add (hd r19) v24) fun v25 =>
 some [v25])) := pcallEq _ _ _ (by kernel_rfl)
theorem spec_l04Numbers_eq (x0 x1 x2 : PV) : spec_l04Numbers x0 x1 x2 =
 bd (PV.whole 3 x1) fun v0 =>
 bd (PV.cell v0 0) fun v1 =>
 bd (PV.cell v0 1) fun v2 =>
 bd (PV.cell v0 2) fun v3 =>
 bd (PV.whole 3 x2) fun v4 =>
 bd (PV.cell v4 0) fun v5 =>
 bd (PV.cell v4 1) fun v6 =>
 bd (PV.cell v4 2) fun v7 =>
 bd (PV.bin .neq v1 (.int .i64 1)) fun v8 =>
 PV.ite v8
 (some [(.tup [(.agg [(.int .i64 0), (.int .i64 0), (.str (bs []))]), (.int .i64 1)])])
 (bd (PV.bin .neq v5 (.int .i64 1)) fun v9 =>
 PV.ite v9
 (some [(.tup [(.agg [(.int .i64 0), (.int .i64 0), (.str (bs []))]), (.int .i64 1)])])
 (bd (spec_l04Arith x0 v2 v6) fun r10 =>
 bd (PV.comp (hd r10) 0) fun v11 =>
 bd (PV.comp (hd r10) 1) fun v12 =>
 bd (PV.bin .neq v12 (.int .i64 0)) fun v13 =>
 PV.ite v13
 (some [(.tup [(.agg [(.int .i64 0), (.int .i64 0), (.str (bs []))]), v12])])
 (bd (spec_l04Int v11) fun r14 =>
 bd (PV.whole 3 (hd r14)) fun v15 =>
 bd (PV.cell v15 0) fun v16 =>
 bd (PV.cell v15 1) fun v17 =>
 bd (PV.cell v15 2) fun v18 =>
 some [(.tup [(.agg [v16, v17, v18]), (.int .i64 0)])]))) := pcallEq _ _ _ (by kernel_rfl)
theorem spec_l04Arith_eq (x0 x1 x2 : PV) : spec_l04Arith x0 x1 x2 =
 bd (spec_l04Num x1) fun r0 =>
 bd (PV.not (hd r0)) fun v1 =>
 PV.ite v1
 (some [(.tup [(.int .i64 0), (.int .i64 2)])])
 (bd (spec_l04Num x2) fun r2 =>
 bd (PV.not (hd r2)) fun v3 =>
 PV.ite v3
 (some [(.tup [(.int .i64 0), (.int .i64 2)])])
 (bd (PV.bin .add x1 x2) fun v4 =>
 bd (PV.bin .eql x0 (.int .i64 12)) fun v5 =>
 PV.ite v5
 (bd (PV.bin .sub x1 x2) fun v6 =>
 bd (spec_l04Num v6) fun r7 =>
 bd (PV.not (hd r7)) fun v8 =>
 PV.ite v8
 (some [(.tup [(.int .i64 0), (.int .i64 2)])])
 (some [(.tup [v6, (.int .i64 0)])]))
 (bd (PV.bin .eql x0 (.int .i64 13)) fun v9 =>
 PV.ite v9
 (bd (PV.bin .mul x1 x2) fun v10 =>
 bd (spec_l04Num v10) fun r11 =>
 bd (PV.not (hd r11)) fun v12 =>
 PV.ite v12
 (some [(.tup [(.int .i64 0), (.int .i64 2)])])
 (some [(.tup [v10, (.int .i64 0)])]))
 (bd (spec_l04Num v4) fun r13 =>
 bd (PV.not (hd r13)) fun v14 =>
 PV.ite v14
 (some [(.tup [(.int .i64 0), (.int .i64 2)])])
 (some [(.tup [v4, (.int .i64 0)])]))))) := pcallEq _ _ _ (by kernel_rfl)
theorem spec_l01Asm_list_eq (x0 x1 x2 x3 x4 x5 x6 x7 x8 x9 : PV) : spec_l01Asm_list x0 x1 x2 x3 x4 x5 x6 x7 x8 x9 =
 bd (spec_l01Cur_pick x1 x6 x7 x8) fun r0 =>
 bd (PV.bin .add (.int .i64 1) (gd r0 0)) fun v1 =>
 spec_l01Asm_list_c1 x0 v1 x2 x3 x4 x5 (gd r0 1) (gd r0 2) (gd r0 3) x9 := scallEq _ _ _ _ (by kernel_rfl)
theorem spec_l01Asm_list_c1_eq (x0 x1 x2 x3 x4 x5 x6 x7 x8 x9 : PV) : spec_l01Asm_list_c1 x0 x1 x2 x3 x4 x5 x6 x7 x8 x9 =
 bd (PV.bin .gtr x1 (.int .i64 0)) fun v0 =>
 PV.ite v0
 (bd (PV.len x9) fun v1 =>
 bd (PV.bin .lss v1 (.int .i64 70)) fun v2 =>
 PV.ite v2
 (bd (spec_l01Asm_stmt x0 x2 x3 x4 x5 x6 x7 x8 x9) fun r3 =>
 bd (PV.bin .sub x1 (.int .i64 1)) fun v4 =>
 spec_l01Asm_list_c1 x0 v4 (gd r3 0) (gd r3 1) (gd r3 2) (gd r3 3) (gd r3 4) (gd r3 5) (gd r3 6) (gd r3 7))
 (some [x2, x3, x4, x5, x6, x7, x8, x9]))
 (some [x2, x3, x4, x5, x6, x7, x8, x9]) := goOnEq _ _ _ _ _ _ _ _ (by kernel_rfl)
end Go.Proofs.YtjgleeamiclokaaGreat
namespace Go.Proofs.YtjgleeamiclokaaGreat
open Go
theorem spec_l01Cur_size_eq (x0 x1 x2 x3 : PV) : spec_l01Cur_size x0 x1 x2 x3 =
 bd (PV.len x1) fun v0 =>
 bd (PV.bin .quo v0 (.int .i64 12)) fun v1 =>
 bd (PV.bin .add (.int .i64 1) v1) fun v2 =>
 bd (PV.bin .gtr v2 x0) fun v3 =>
 PV.ite v3
 (bd (PV.bin .add x0 (.int .i64 1)) fun v4 =>
 bd (spec_l01Cur_pick v4 x1 x2 x3) fun r5 =>
 some [(gd r5 0), (gd r5 1), (gd r5 2), (gd r5 3)])
 (bd (PV.bin .add v2 (.int .i64 1)) fun v6 =>
 bd (spec_l01Cur_pick v6 x1 x2 x3) fun r7 =>
 some [(gd r7 0), (gd r7 1), (gd r7 2), (gd r7 3)]) := scallEq _ _ _ _ (by kernel_rfl)
theorem spec_l01Asm_value_eq (x0 x1 x2 x3 x4 x5 x6 x7 x8 : PV) : spec_l01Asm_value x0 x1 x2 x3 x4 x5 x6 x7 x8 =
 bd (PV.bin .leq x0 (.int .i64 0)) fun v0 =>
 PV.ite v0
 (spec_l01Asm_value_c2 x1 x2 x3 x4 x5 x6 x7 x8)
 (bd (PV.len x8) fun v1 =>
 bd (PV.bin .gtr v1 (.int .i64 90)) fun v2 =>
 PV.ite v2
 (spec_l01Asm_value_c2 x1 x2 x3 x4 x5 x6 x7 x8)
 (bd (spec_l01Cur_pick (.int .i64 16) x5 x6 x7) fun r3 =>
 bd (PV.bin .eql (gd r3 0) (.int .i64 0)) fun v4 =>
 PV.ite v4
 (bd (spec_l01Cur_pick (.int .i64 8) (gd r3 1) (gd r3 2) (gd r3 3)) fun r5 =>
 bd (PV.inb (.lst [(.int .i64 0), (.int .i64 1), (.int .i64 2), (.int .i64 10), (.int .i64 31623), (.int .i64 1000000000), (.int .i64 (-1)), (.int .i64 7)]) (gd r5 0)) fun v6 =>
 bd (PV.at_ 1 false (.lst [(.int .i64 0), (.int .i64 1), (.int .i64 2), (.int .i64 10), (.int .i64 31623), (.int .i64 1000000000), (.int .i64 (-1)), (.int .i64 7)]) (gd r5 0)) fun v7 =>
 bd (spec_l01Asm_put (.int .i64 1) v7 x1 x2 x3 x4 (gd r5 1) (gd r5 2) (gd r5 3) x8) fun r8 =>
 some [(gd r8 0), (gd r8 1), (gd r8 2), (gd r8 3), (gd r8 4), (gd r8 5), (gd r8 6), (gd r8 7)])
 (bd (PV.bin .eql (gd r3 0) (.int .i64 1)) fun v9 =>
 PV.ite v9
 (bd (spec_l01Cur_pick (.int .i64 2) (gd r3 1) (gd r3 2) (gd r3 3)) fun r10 =>
 bd (spec_l01Asm_put (.int .i64 2) (gd r10 0) x1 x2 x3 x4 (gd r10 1) (gd r10 2) (gd r10 3) x8) fun r11 =>
 some [(gd r11 0), (gd r11 1), (gd r11 2), (gd r11 3), (gd r11 4), (gd r11 5), (gd r11 6), (gd r11 7)])
 (bd (PV.bin .eql (gd r3 0) (.int .i64 2)) fun v12 =>
 PV.ite v12
 (bd (PV.bin .sub x0 (.int .i64 1)) fun v13 =>
 bd (spec_l01Asm_value v13 x1 x2 x3 x4 (gd r3 1) (gd r3 2) (gd r3 3) x8) fun r14 =>
 bd (PV.bin .sub x0 (.int .i64 1)) fun v15 =>
 bd (spec_l01Asm_value v15 (gd r14 0) (gd r14 1) (gd r14 2) (gd r14 3) (gd r14 4) (gd r14 5) (gd r14 6) (gd r14 7)) fun r16 =>
 bd (spec_l01Cur_pick (.int .i64 6) (gd r16 4) (gd r16 5) (gd r16 6)) fun r17 =>
 bd (PV.inb (.lst [(.int .i64 11), (.int .i64 11), (.int .i64 12), (.int .i64 13), (.int .i64 14), (.int .i64 15)]) (gd r17 0)) fun v18 =>
 bd (PV.at_ 1 false (.lst [(.int .i64 11), (.int .i64 11), (.int .i64 12), (.int .i64 13), (.int .i64 14), (.int .i64 15)]) (gd r17 0)) fun v19 =>
 bd (spec_l01Asm_put v19 (.int .i64 0) (gd r16 0) (gd r16 1) (gd r16 2) (gd r16 3) (gd r17 1) (gd r17 2) (gd r17 3) (gd r16 7)) fun r20 =>
 some [(gd r20 0), (gd r20 1), (gd r20 2), (gd r20 3), (gd r20 4), (gd r20 5), (gd r20 6), (gd r20 7)])
 (bd (PV.bin .eql (gd r3 0) (.int .i64 3)) fun v21 =>
 PV.ite v21
 (bd (PV.bin .sub x0 (.int .i64 1)) fun v22 =>
 bd (spec_l01Asm_value v22 x1 x2 x3 x4 (gd r3 1) (gd r3 2) (gd r3 3) x8) fun r23 =>
 bd (PV.bin .sub x0 (.int .i64 1)) fun v24 =>
 bd (spec_l01Asm_value v24 (gd r23 0) (gd r23 1) (gd r23 2) (gd r23 3) (gd r23 4) (gd r23 5) (gd r23 6) (gd r23 7)) fun r25 =>
 bd (spec_l01Cur_pick (.int .i64 6) (gd r25 4) (gd r25 5) (gd r25 6)) fun r26 =>
 bd (PV.inb (.lst [(.int .i64 11), (.int .i64 11), (.int .i64 12), (.int .i64 13), (.int .i64 14), (.int .i64 15)]) (gd r26 0)) fun v27 =>
 bd (PV.at_ 1 false (.lst [(.int .i64 11), (.int .i64 11), (.int .i64 12), (.int .i64 13), (.int .i64 14), (.int .i64 15)]) (gd r26 0)) fun v28 =>
 bd (spec_l01Asm_put v28 (.int .i64 0) (gd r25 0) (gd r25 1) (gd r25 2) (gd r25 3) (gd r26 1) (gd r26 2) (gd r26 3) (gd r25 7)) fun r29 =>
 some [(gd r29 0), (gd r29 1), (gd r29 2), (gd r29 3), (gd r29 4), (gd r29 5), (gd r29 6), (gd r29 7)])
 (bd (PV.bin .eql (gd r3 0) (.int .i64 4)) fun v30 =>
 PV.ite v30
 (bd (PV.bin .sub x0 (.int .i64 1)) fun v31 =>
 bd (spec_l01Asm_value v31 x1 x2 x3 x4 (gd r3 1) (gd r3 2) (gd r3 3) x8) fun r32 =>
 bd (PV.bin .sub x0 (.int .i64 1)) fun v33 =>
 bd (spec_l01Asm_value v33 (gd r32 0) (gd r32 1) (gd r32 2) (gd r32 3) (gd r32 4) (gd r32 5) (gd r32 6) (gd r32 7)) fun r34 =>
 bd (spec_l01Cur_pick (.int .i64 6) (gd r34 4) (gd r34 5) (gd r34 6)) fun r35 =>
 bd (PV.inb (.lst [(.int .i64 11), (.int .i64 11), (.int .i64 12), (.int .i64 13), (.int .i64 14), (.int .i64 15)]) (gd r35 0)) fun v36 =>
 bd (PV.at_ 1 false (.lst [(.int .i64 11), (.int .i64 11), (.int .i64 12), (.int .i64 13), (.int .i64 14), (.int .i64 15)]) (gd r35 0)) fun v37 =>
 bd (spec_l01Asm_put v37 (.int .i64 0) (gd r34 0) (gd r34 1) (gd r34 2) (gd r34 3) (gd r35 1) (gd r35 2) (gd r35 3) (gd r34 7)) fun r38 =>
 some [(gd r38 0), (gd r38 1), (gd r38 2), (gd r38 3), (gd r38 4), (gd r38 5), (gd r38 6), (gd r38 7)])
 (bd (PV.bin .eql (gd r3 0) (.int .i64 5)) fun v39 =>
 PV.ite v39
 (bd (PV.bin .sub x0 (.int .i64 1)) fun v40 =>
 bd (spec_l01Asm_value v40 x1 x2 x3 x4 (gd r3 1) (gd r3 2) (gd r3 3) x8) fun r41 =>
 bd (PV.bin .sub x0 (.int .i64 1)) fun v42 =>
 bd (spec_l01Asm_value v42 (gd r41 0) (gd r41 1) (gd r41 2) (gd r41 3) (gd r41 4) (gd r41 5) (gd r41 6) (gd r41 7)) fun r43 =>
 bd (spec_l01Cur_pick (.int .i64 6) (gd r43 4) (gd r43 5) (gd r43 6)) fun r44 =>
 bd (PV.inb (.lst [(.int .i64 11), (.int .i64 11), (.int .i64 12), (.int .i64 13), (.int .i64 14), (.int .i64 15)]) (gd r44 0)) fun v45 =>
 bd (PV.at_ 1 false (.lst [(.int .i64 11), (.int .i64 11), (.int .i64 12), (.int .i64 13), (.int .i64 14), (.int .i64 15)]) (gd r44 0)) fun v46 =>
 bd (spec_l01Asm_put v46 (.int .i64 0) (gd r43 0) (gd r43 1) (gd r43 2) (gd r43 3) (gd r44 1) (gd r44 2) (gd r44 3) (gd r43 7)) fun r47 =>
 some [(gd r47 0), (gd r47 1), (gd r47 2), (gd r47 3), (gd r47 4), (gd r47 5), (gd r47 6), (gd r47 7)])
 (bd (PV.bin .eql (gd r3 0) (.int .i64 6)) fun v48 =>
 PV.ite v48
 (bd (PV.bin .sub x0 (.int .i64 1)) fun v49 =>
 bd (spec_l01Asm_value v49 x1 x2 x3 x4 (gd r3 1) (gd r3 2) (gd r3 3) x8) fun r50 =>
 bd (PV.bin .sub x0 (.int .i64 1)) fun v51 =>
 bd (spec_l01Asm_value v51 (gd r50 0) (gd r50 1) (gd r50 2) (gd r50 3) (gd r50 4) (gd r50 5) (gd r50 6) (gd r50 7)) fun r52 =>
 bd (spec_l01Cur_pick (.int .i64 6) (gd r52 4) (gd r52 5) (gd r52 6)) fun r53 =>
 bd (PV.inb (.lst [(.int .i64 11), (.int .i64 11), (.int .i64 12), (.int .i64 13), (.int .i64 14), (.int .i64 15)]) (gd r53 0)) fun v54 =>
 bd (PV.at_ 1 false (.lst [(.int .i64 11), (.int .i64 11), (.int .i64 12), (.int .i64 13), (.int .i64 14), (.int .i64 15)]) (gd r53 0)) fun v55 =>
 bd (spec_l01Asm_put v55 (.int .i64 0) (gd r52 0) (gd r52 1) (gd r52 2) (gd r52 3) (gd r53 1) (gd r53 2) (gd r53 3) (gd r52 7)) fun r56 =>
 some [(gd r56 0), (gd r56 1), (gd r56 2), (gd r56 3), (gd r56 4), (gd r56 5), (gd r56 6), (gd r56 7)])
 (bd (PV.bin .eql (gd r3 0) (.int .i64 7)) fun v57 =>
 PV.ite v57
 (bd (PV.bin .sub x0 (.int .i64 1)) fun v58 =>
 bd (spec_l01Asm_value v58 x1 x2 x3 x4 (gd r3 1) (gd r3 2) (gd r3 3) x8) fun r59 =>
 bd (spec_l01Asm_put (.int .i64 16) (.int .i64 0) (gd r59 0) (gd r59 1) (gd r59 2) (gd r59 3) (gd r59 4) (gd r59 5) (gd r59 6) (gd r59 7)) fun r60 =>
 some [(gd r60 0), (gd r60 1), (gd r60 2), (gd r60 3), (gd r60 4), (gd r60 5), (gd r60 6), (gd r60 7)])
 (bd (PV.bin .eql (gd r3 0) (.int .i64 8)) fun v61 =>
 PV.ite v61
 (bd (spec_l01Asm_record x0 x1 x2 x3 x4 (gd r3 1) (gd r3 2) (gd r3 3) x8) fun r62 =>
 some [(gd r62 0), (gd r62 1), (gd r62 2), (gd r62 3), (gd r62 4), (gd r62 5), (gd r62 6), (gd r62 7)])
 (bd (PV.bin .eql (gd r3 0) (.int .i64 9)) fun v63 =>
 PV.ite v63
 (bd (spec_l01Asm_record x0 x1 x2 x3 x4 (gd r3 1) (gd r3 2) (gd r3 3) x8) fun r64 =>
 some [(gd r64 0), (gd r64 1), (gd r64 2), (gd r64 3), (gd r64 4), (gd r64 5), (gd r64 6), (gd r64 7)])
 (bd (PV.bin .eql (gd r3 0) (.int .i64 10)) fun v65 =>
 PV.ite v65
 (bd (PV.bin .sub x0 (.int .i64 1)) fun v66 =>
 bd (spec_l01Asm_value v66 x1 x2 x3 x4 (gd r3 1) (gd r3 2) (gd r3 3) x8) fun r67 =>
 bd (spec_l01Cur_pick (.int .i64 2) (gd r67 4) (gd r67 5) (gd r67 6)) fun r68 =>
 bd (spec_l01Asm_put (.int .i64 21) (gd r68 0) (gd r67 0) (gd r67 1) (gd r67 2) (gd r67 3) (gd r68 1) (gd r68 2) (gd r68 3) (gd r67 7)) fun r69 =>
 some [(gd r69 0), (gd r69 1), (gd r69 2), (gd r69 3), (gd r69 4), (gd r69 5), (gd r69 6), (gd r69 7)])
 (bd (PV.bin .eql (gd r3 0) (.int .i64 11)) fun v70 =>
 PV.ite v70
 (bd (PV.len x1) fun v71 =>
 bd (PV.bin .gtr v71 (.int .i64 0)) fun v72 =>
 PV.ite v72
 (bd (PV.len x1) fun v73 =>
 bd (spec_l01Cur_pick v73 (gd r3 1) (gd r3 2) (gd r3 3)) fun r74 =>
 spec_l01Asm_value_c38 x0 (gd r74 0) (.int .i64 0) x1 x2 x3 x4 (gd r74 1) (gd r74 2) (gd r74 3) x8)
 (bd (PV.bin .sub x0 (.int .i64 1)) fun v75 =>
 bd (spec_l01Asm_value v75 x1 x2 x3 x4 (gd r3 1) (gd r3 2) (gd r3 3) x8) fun r76 =>
 some [(gd r76 0), (gd r76 1), (gd r76 2), (gd r76 3), (gd r76 4), (gd r76 5), (gd r76 6), (gd r76 7)]))
 (bd (PV.bin .eql (gd r3 0) (.int .i64 12)) fun v77 =>
 PV.ite v77
 (bd (PV.len x1) fun v78 =>
 bd (PV.bin .gtr v78 (.int .i64 0)) fun v79 =>
 PV.ite v79
 (bd (PV.len x1) fun v80 =>
 bd (spec_l01Cur_pick v80 (gd r3 1) (gd r3 2) (gd r3 3)) fun r81 =>
 spec_l01Asm_value_c38 x0 (gd r81 0) (.int .i64 0) x1 x2 x3 x4 (gd r81 1) (gd r81 2) (gd r81 3) x8)
 (bd (PV.bin .sub x0 (.int .i64 1)) fun v82 =>
 bd (spec_l01Asm_value v82 x1 x2 x3 x4 (gd r3 1) (gd r3 2) (gd r3 3) x8) fun r83 =>
 some [(gd r83 0), (gd r83 1), (gd r83 2), (gd r83 3), (gd r83 4), (gd r83 5), (gd r83 6), (gd r83 7)]))
 (bd (PV.bin .eql (gd r3 0) (.int .i64 13)) fun v84 =>
 PV.ite v84
 (bd (PV.len x1) fun v85 =>
 bd (PV.bin .gtr v85 (.int .i64 0)) fun v86 =>
 PV.ite v86
 (bd (PV.len x1) fun v87 =>
 bd (spec_l01Cur_pick v87 (gd r3 1) (gd r3 2) (gd r3 3)) fun r88 =>
 bd (spec_l01Asm_number (gd r88 0) x1 x2 x3 x4 (gd r88 1) (gd r88 2) (gd r88 3) x8) fun r89 =>
 bd (spec_l01Asm_put (.int .i64 5) (gd r89 0) (gd r89 1) (gd r89 2) (gd r89 3) (gd r89 4) (gd r89 5) (gd r89 6) (gd r89 7) (gd r89 8)) fun r90 =>
 bd (spec_l01Cur_once (.int .i64 6) (gd r90 4) (gd r90 5) (gd r90 6)) fun r91 =>
 PV.ite (gd r91 0)
 (bd (PV.len (gd r90 7)) fun v92 =>
 bd (PV.bin .sub v92 (.int .i64 1)) fun v93 =>
 bd (PV.cut 2 true (gd r90 7) (.int .i64 0) v93) fun v94 =>
 bd (PV.cut 2 true (gd r90 7) (.int .i64 0) v93) fun v95 =>
 bd (spec_l01Cur_pick (gd r90 2) (gd r91 1) (gd r91 2) (gd r91 3)) fun r96 =>
 bd (spec_l01Asm_put (.int .i64 6) (gd r96 0) (gd r90 0) (gd r90 1) (gd r90 2) (gd r90 3) (gd r96 1) (gd r96 2) (gd r96 3) v95) fun r97 =>
 spec_l01Asm_value_c50 x0 (gd r88 0) (gd r97 0) (gd r97 1) (gd r97 2) (gd r97 3) (gd r97 4) (gd r97 5) (gd r97 6) (gd r97 7))
 (spec_l01Asm_value_c50 x0 (gd r88 0) (gd r90 0) (gd r90 1) (gd r90 2) (gd r90 3) (gd r91 1) (gd r91 2) (gd r91 3) (gd r90 7)))
 (bd (PV.bin .sub x0 (.int .i64 1)) fun v98 =>
 bd (spec_l01Asm_value v98 x1 x2 x3 x4 (gd r3 1) (gd r3 2) (gd r3 3) x8) fun r99 =>
 some [(gd r99 0), (gd r99 1), (gd r99 2), (gd r99 3), (gd r99 4), (gd r99 5), (gd r99 6), (gd r99 7)]))
 (bd (PV.bin .eql (gd r3 0) (.int .i64 14)) fun v100 =>
 PV.ite v100
 (bd (PV.bin .sub x0 (.int .i64 1)) fun v101 =>
 bd (spec_l01Asm_value v101 x1 x2 x3 x4 (gd r3 1) (gd r3 2) (gd r3 3) x8) fun r102 =>
 bd (spec_l01Asm_put (.int .i64 8) (.int .i64 0) (gd r102 0) (gd r102 1) (gd r102 2) (gd r102 3) (gd r102 4) (gd r102 5) (gd r102 6) (gd r102 7)) fun r103 =>
 bd (spec_l01Cur_pick (.int .i64 3) (gd r103 4) (gd r103 5) (gd r103 6)) fun r104 =>
 bd (PV.inb (.lst [(.int .i64 11), (.int .i64 15), (.int .i64 13)]) (gd r104 0)) fun v105 =>
 bd (PV.at_ 1 false (.lst [(.int .i64 11), (.int .i64 15), (.int .i64 13)]) (gd r104 0)) fun v106 =>
 bd (spec_l01Asm_put v106 (.int .i64 0) (gd r103 0) (gd r103 1) (gd r103 2) (gd r103 3) (gd r104 1) (gd r104 2) (gd r104 3) (gd r103 7)) fun r107 =>
 some [(gd r107 0), (gd r107 1), (gd r107 2), (gd r107 3), (gd r107 4), (gd r107 5), (gd r107 6), (gd r107 7)])
 (bd (spec_l01Cur_pick x3 (gd r3 1) (gd r3 2) (gd r3 3)) fun r108 =>
 bd (spec_l01Asm_put (.int .i64 6) (gd r108 0) x1 x2 x3 x4 (gd r108 1) (gd r108 2) (gd r108 3) x8) fun r109 =>
 some [(gd r109 0), (gd r109 1), (gd r109 2), (gd r109 3), (gd r109 4), (gd r109 5), (gd r109 6), (gd r109 7)]))))))))))))))))) := scallEq _ _ _ _ (by kernel_rfl)
theorem spec_l01Asm_value_c2_eq (x0 x1 x2 x3 x4 x5 x6 x7 : PV) : spec_l01Asm_value_c2 x0 x1 x2 x3 x4 x5 x6 x7 =
 bd (spec_l01Cur_pick (.int .i64 5) x4 x5 x6) fun r0 =>
 bd (PV.bin .eql (gd r0 0) (.int .i64 0)) fun v1 =>
 PV.ite v1
 (bd (spec_l01Cur_pick (.int .i64 9) (gd r0 1) (gd r0 2) (gd r0 3)) fun r2 =>
 bd (PV.bin .sub (gd r2 0) (.int .i64 2)) fun v3 =>
 bd (spec_l01Asm_put (.int .i64 1) v3 x0 x1 x2 x3 (gd r2 1) (gd r2 2) (gd r2 3) x7) fun r4 =>
 some [(gd r4 0), (gd r4 1), (gd r4 2), (gd r4 3), (gd r4 4), (gd r4 5), (gd r4 6), (gd r4 7)])
 (bd (PV.bin .eql (gd r0 0) (.int .i64 1)) fun v5 =>
 PV.ite v5
 (bd (PV.bin .gtr x1 (.int .i64 0)) fun v6 =>
 PV.ite v6
 (bd (spec_l01Cur_pick x1 (gd r0 1) (gd r0 2) (gd r0 3)) fun r7 =>
 bd (spec_l01Asm_put (.int .i64 3) (gd r7 0) x0 x1 x2 x3 (gd r7 1) (gd r7 2) (gd r7 3) x7) fun r8 =>
 some [(gd r8 0), (gd r8 1), (gd r8 2), (gd r8 3), (gd r8 4), (gd r8 5), (gd r8 6), (gd r8 7)])
 (bd (spec_l01Asm_put (.int .i64 4) (.int .i64 0) x0 x1 x2 x3 (gd r0 1) (gd r0 2) (gd r0 3) x7) fun r9 =>
 some [(gd r9 0), (gd r9 1), (gd r9 2), (gd r9 3), (gd r9 4), (gd r9 5), (gd r9 6), (gd r9 7)]))
 (bd (spec_l01Cur_pick x2 (gd r0 1) (gd r0 2) (gd r0 3)) fun r10 =>
 bd (spec_l01Asm_put (.int .i64 6) (gd r10 0) x0 x1 x2 x3 (gd r10 1) (gd r10 2) (gd r10 3) x7) fun r11 =>
 some [(gd r11 0), (gd r11 1), (gd r11 2), (gd r11 3), (gd r11 4), (gd r11 5), (gd r11 6), (gd r11 7)])) := goOnEq _ _ _ _ _ _ _ _ (by kernel_rfl)
theorem spec_l01Asm_value_c38_eq (x0 x1 x2 x3 x4 x5 x6 x7 x8 x9 x10 : PV) : spec_l01Asm_value_c38 x0 x1 x2 x3 x4 x5 x6 x7 x8 x9 x10 =
 bd (PV.at_ 3 true x3 x1) fun v0 =>
 bd (PV.cell v0 0) fun v1 =>
 bd (PV.bin .lss x2 v1) fun v2 =>
 PV.ite v2
 (bd (PV.bin .sub x0 (.int .i64 1)) fun v3 =>
 bd (spec_l01Asm_value v3 x3 x4 x5 x6 x7 x8 x9 x10) fun r4 =>
 bd (PV.bin .add x2 (.int .i64 1)) fun v5 =>
 spec_l01Asm_value_c38 x0 x1 v5 (gd r4 0) (gd r4 1) (gd r4 2) (gd r4 3) (gd r4 4) (gd r4 5) (gd r4 6) (gd r4 7))
 (bd (spec_l01Asm_number x1 x3 x4 x5 x6 x7 x8 x9 x10) fun r6 =>
 bd (spec_l01Asm_put (.int .i64 24) (gd r6 0) (gd r6 1) (gd r6 2) (gd r6 3) (gd r6 4) (gd r6 5) (gd r6 6) (gd r6 7) (gd r6 8)) fun r7 =>
 some [(gd r7 0), (gd r7 1), (gd r7 2), (gd r7 3), (gd r7 4), (gd r7 5), (gd r7 6), (gd r7 7)]) := goOnEq _ _ _ _ _ _ _ _ (by kernel_rfl)
theorem spec_l01Asm_value_c50_eq (x0 x1 x2 x3 x4 x5 x6 x7 x8 x9 : PV) : spec_l01Asm_value_c50 x0 x1 x2 x3 x4 x5 x6 x7 x8 x9 =
 spec_l01Asm_value_c51 x0 x1 (.int .i64 0) x2 x3 x4 x5 x6 x7 x8 x9 := goOnEq _ _ _ _ _ _ _ _ (by kernel_rfl)
theorem spec_l01Asm_value_c51_eq (x0 x1 x2 x3 x4 x5 x6 x7 x8 x9 x10 : PV) : spec_l01Asm_value_c51 x0 x1 x2 x3 x4 x5 x6 x7 x8 x9 x10 =
 bd (PV.at_ 3 true x3 x1) fun v0 =>
 bd (PV.cell v0 0) fun v1 =>
 bd (PV.bin .lss x2 v1) fun v2 =>
 PV.ite v2
 (bd (PV.bin .sub x0 (.int .i64 1)) fun v3 =>
 bd (spec_l01Asm_value v3 x3 x4 x5 x6 x7 x8 x9 x10) fun r4 =>
 bd (PV.bin .add x2 (.int .i64 1)) fun v5 =>
 spec_l01Asm_value_c51 x0 x1 v5 (gd r4 0) (gd r4 1) (gd r4 2) (gd r4 3) (gd r4 4) (gd r4 5) (gd r4 6) (gd r4 7))
 (bd (PV.at_ 3 true x3 x1) fun v6 =>
 bd (PV.cell v6 0) fun v7 =>
 bd (spec_l01Asm_put (.int .i64 23) v7 x3 x4 x5 x6 x7 x8 x9 x10) fun r8 =>
 some [(gd r8 0), (gd r8 1), (gd r8 2), (gd r8 3), (gd r8 4), (gd r8 5), (gd r8 6), (gd r8 7)]) := goOnEq _ _ _ _ _ _ _ _ (by kernel_rfl)
theorem spec_l01Asm_put_eq (x0 x1 x2 x3 x4 x5 x6 x7 x8 x9 : PV) : spec_l01Asm_put x0 x1 x2 x3 x4 x5 x6 x7 x8 x9 =
 bd (PV.one x0) fun v0 =>
 bd (PV.one x1) fun v1 =>
 bd (PV.cat 2 16 true x9 (.lst [(.agg [v0, v1])])) fun v2 =>
 some [x2, x3, x4, x5, x6, x7, x8, v2] := scallEq _ _ _ _ (by kernel_rfl)
theorem spec_l01CopyModule_eq (x0 : PV) : spec_l01CopyModule x0 =
 bd (PV.whole 2 x0) fun v0 =>
 bd (PV.cell v0 0) fun v1 =>
 bd (PV.cell v0 1) fun v2 =>
 bd (PV.cat 1 16 false (.lst []) v1) fun v3 =>
 spec_l01CopyModule_c3 (.int .i64 0) v1 v2 (.lst []) (.lst []) v3 (.lst []) := scallEq _ _ _ _ (by kernel_rfl)
theorem spec_l01CopyModule_c3_eq (x0 x1 x2 x3 x4 x5 x6 : PV) : spec_l01CopyModule_c3 x0 x1 x2 x3 x4 x5 x6 =
 bd (PV.len x2) fun v0 =>
 bd (PV.bin .lss x0 v0) fun v1 =>
 PV.ite v1
 (bd (PV.at_ 3 true x2 x0) fun v2 =>
 bd (PV.whole 3 v2) fun v3 =>
 bd (PV.cell v3 0) fun v4 =>
 bd (PV.cell v3 1) fun v5 =>
 bd (PV.cell v3 2) fun v6 =>
 bd (PV.cat 2 16 true (.lst []) v6) fun v7 =>
 bd (PV.one v4) fun v8 =>
 bd (PV.one v5) fun v9 =>
 bd (PV.cat 3 40 true x6 (.lst [(.agg [v8, v9, v7])])) fun v10 =>
 bd (PV.bin .add x0 (.int .i64 1)) fun v11 =>
 spec_l01CopyModule_c3 v11 x1 x2 x3 x4 x5 v10)
 (some [x5, x6]) := goOnEq _ _ _ _ _ _ _ _ (by kernel_rfl)
theorem spec_l01Cur_number_eq (x0 x1 x2 : PV) : spec_l01Cur_number x0 x1 x2 =
 bd (spec_l01Cur_pick (.int .i64 9) x0 x1 x2) fun r0 =>
 bd (PV.bin .eql (gd r0 0) (.int .i64 0)) fun v1 =>
 PV.ite v1
 (bd (spec_l01Cur_pick (.int .i64 256) (gd r0 1) (gd r0 2) (gd r0 3)) fun r2 =>
 bd (PV.bin .sub (gd r2 0) (.int .i64 128)) fun v3 =>
 some [v3, (gd r2 1), (gd r2 2), (gd r2 3)])
 (bd (PV.bin .eql (gd r0 0) (.int .i64 1)) fun v4 =>
 PV.ite v4
 (bd (spec_l01Cur_pick (.int .i64 8) (gd r0 1) (gd r0 2) (gd r0 3)) fun r5 =>
 bd (PV.inb (.lst [(.int .i64 1000000000), (.int .i64 (-1000000000)), (.int .i64 1000000001), (.int .i64 (-1000000001)), (.int .i64 9223372036854775807), (.int .i64 (-9223372036854775808)), (.int .i64 4611686018427387904), (.int .i64 31623)]) (gd r5 0)) fun v6 =>
 bd (PV.at_ 1 false (.lst [(.int .i64 1000000000), (.int .i64 (-1000000000)), (.int .i64 1000000001), (.int .i64 (-1000000001)), (.int .i64 9223372036854775807), (.int .i64 (-9223372036854775808)), (.int .i64 4611686018427387904), (.int .i64 31623)]) (gd r5 0)) fun v7 =>
 some [v7, (gd r5 1), (gd r5 2), (gd r5 3)])
 (bd (spec_l01Cur_pick (.int .i64 12) (gd r0 1) (gd r0 2) (gd r0 3)) fun r8 =>
 bd (PV.bin .sub (gd r8 0) (.int .i64 3)) fun v9 =>
 some [v9, (gd r8 1), (gd r8 2), (gd r8 3)])) := scallEq _ _ _ _ (by kernel_rfl)
theorem spec_l05CopyFrame_eq (x0 : PV) : spec_l05CopyFrame x0 =
 bd (PV.whole 4 x0) fun v0 =>
 bd (PV.cell v0 0) fun v1 =>
 bd (PV.cell v0 1) fun v2 =>
 bd (PV.cell v0 2) fun v3 =>
 bd (PV.cell v0 3) fun v4 =>
 bd (PV.cat 3 32 true (.lst []) v3) fun v5 =>
 bd (PV.cat 3 32 true (.lst []) v4) fun v6 =>
 some [v1, v2, v5, v6] := scallEq _ _ _ _ (by kernel_rfl)
theorem spec_l05CopyHeap_eq (x0 : PV) : spec_l05CopyHeap x0 = spec_l05CopyHeap_c3 x0 (.int .i64 0) (.lst []) := scallEq _ _ _ _ (by kernel_rfl)
theorem spec_l05CopyHeap_c3_eq (x0 x1 x2 : PV) : spec_l05CopyHeap_c3 x0 x1 x2 =
 bd (PV.len x0) fun v0 =>
 bd (PV.bin .lss x1 v0) fun v1 =>
 PV.ite v1
 (bd (PV.at_ 1 true x0 x1) fun v2 =>
 bd (PV.cell v2 0) fun v3 =>
 bd (PV.cat 3 32 true (.lst []) v3) fun v4 =>
 bd (PV.cat 1 24 true x2 (.lst [(.agg [v4])])) fun v5 =>
 bd (PV.bin .add x1 (.int .i64 1)) fun v6 =>
 spec_l05CopyHeap_c3 x0 v6 v5)
 (some [x2]) := goOnEq _ _ _ _ _ _ _ _ (by kernel_rfl)
theorem spec_l05Top_push_eq (x0 x1 x2 x3 x4 x5 x6 x7 x8 x9 x10 x11 x12 x13 : PV) : spec_l05Top_push x0 x1 x2 x3 x4 x5 x6 x7 x8 x9 x10 x11 x12 x13 =
 bd (PV.whole 3 x0) fun v0 =>
 bd (PV.cell v0 0) fun v1 =>
 bd (PV.cell v0 1) fun v2 =>
 bd (PV.cell v0 2) fun v3 =>
 bd (spec_l05Top_frame x1 x2 x3 x4 x5 x6 x7 x8 x9 x10 x11 x12 x13) fun r4 =>
 bd (PV.at_ 4 true (gd r4 11) (gd r4 0)) fun v5 =>
 bd (PV.at_ 4 true (gd r4 11) (gd r4 0)) fun v6 =>
 bd (PV.cell v6 3) fun v7 =>
 bd (PV.at_ 4 true (gd r4 11) (gd r4 0)) fun v8 =>
 bd (PV.cell v8 3) fun v9 =>
 bd (PV.setCell 4 (gd r4 11) (gd r4 0) 3 .hole) fun v10 =>
 bd (PV.cat 3 32 true v7 (.lst [(.agg [v1, v2, v3])])) fun v11 =>
 bd (PV.setCell 4 v10 (gd r4 0) 3 v11) fun v12 =>
 some [(gd r4 1), (gd r4 2), (gd r4 3), (gd r4 4), (gd r4 5), (gd r4 6), (gd r4 7), (gd r4 8), (gd r4 9), (gd r4 10), v12, (gd r4 12), (gd r4 13)] := scallEq _ _ _ _ (by kernel_rfl)
theorem spec_l05Top_push_v1_eq (x0 x1 x2 x3 x4 x5 x6 x7 x8 x9 x10 x11 x12 x13 x14 x15 : PV) : spec_l05Top_push_v1 x0 x1 x2 x3 x4 x5 x6 x7 x8 x9 x10 x11 x12 x13 x14 x15 =
 bd (spec_l05Top_frame x3 x4 x5 x6 x7 x8 x9 x10 x11 x12 x13 x14 x15) fun r0 =>
 bd (PV.at_ 4 true (gd r0 11) (gd r0 0)) fun v1 =>
 bd (PV.at_ 4 true (gd r0 11) (gd r0 0)) fun v2 =>
 bd (PV.cell v2 3) fun v3 =>
 bd (PV.at_ 4 true (gd r0 11) (gd r0 0)) fun v4 =>
 bd (PV.cell v4 3) fun v5 =>
 bd (PV.setCell 4 (gd r0 11) (gd r0 0) 3 .hole) fun v6 =>
 bd (PV.cat 3 32 true v3 (.lst [(.agg [x0, x1, x2])])) fun v7 =>
 bd (PV.setCell 4 v6 (gd r0 0) 3 v7) fun v8 =>
 some [(gd r0 1), (gd r0 2), (gd r0 3), (gd r0 4), (gd r0 5), (gd r0 6), (gd r0 7), (gd r0 8), (gd r0 9), (gd r0 10), v8, (gd r0 12), (gd r0 13)] := scallEq _ _ _ _ (by kernel_rfl)
theorem spec_l05Top_pop_eq (x0 x1 x2 x3 x4 x5 x6 x7 x8 x9 x10 x11 x12 : PV) : spec_l05Top_pop x0 x1 x2 x3 x4 x5 x6 x7 x8 x9 x10 x11 x12 =
 bd (spec_l05Top_frame x0 x1 x2 x3 x4 x5 x6 x7 x8 x9 x10 x11 x12) fun r0 =>
 bd (PV.at_ 4 true (gd r0 11) (gd r0 0)) fun v1 =>
 bd (PV.at_ 4 true (gd r0 11) (gd r0 0)) fun v2 =>
 bd (PV.at_ 4 true (gd r0 11) (gd r0 0)) fun v3 =>
 bd (PV.cell v3 3) fun v4 =>
 bd (PV.len v4) fun v5 =>
 bd (PV.bin .sub v5 (.int .i64 1)) fun v6 =>
 bd (PV.at_ 4 true (gd r0 11) (gd r0 0)) fun v7 =>
 bd (PV.cell v7 3) fun v8 =>
 bd (PV.inb v8 v6) fun v9 =>
 bd (PV.at_ 4 true (gd r0 11) (gd r0 0)) fun v10 =>
 bd (PV.cell v10 3) fun v11 =>
 bd (PV.at_ 3 true v11 v6) fun v12 =>
 bd (PV.whole 3 v12) fun v13 =>
 bd (PV.cell v13 0) fun v14 =>
 bd (PV.cell v13 1) fun v15 =>
 bd (PV.cell v13 2) fun v16 =>
 bd (PV.at_ 4 true (gd r0 11) (gd r0 0)) fun v17 =>
 bd (PV.at_ 4 true (gd r0 11) (gd r0 0)) fun v18 =>
 bd (PV.at_ 4 true (gd r0 11) (gd r0 0)) fun v19 =>
 bd (PV.cell v19 3) fun v20 =>
 bd (PV.len v20) fun v21 =>
 bd (PV.bin .sub v21 (.int .i64 1)) fun v22 =>
 bd (PV.at_ 4 true (gd r0 11) (gd r0 0)) fun v23 =>
 bd (PV.cell v23 3) fun v24 =>
 bd (PV.cut 3 true v24 (.int .i64 0) v22) fun v25 =>
 bd (PV.at_ 4 true (gd r0 11) (gd r0 0)) fun v26 =>
 bd (PV.cell v26 3) fun v27 =>
 bd (PV.cut 3 true v27 (.int .i64 0) v22) fun v28 =>
 bd (PV.at_ 4 true (gd r0 11) (gd r0 0)) fun v29 =>
 bd (PV.cell v29 3) fun v30 =>
 bd (PV.setCell 4 (gd r0 11) (gd r0 0) 3 .hole) fun v31 =>
 bd (PV.setCell 4 v31 (gd r0 0) 3 v28) fun v32 =>
 some [(.agg [v14, v15, v16]), (gd r0 1), (gd r0 2), (gd r0 3), (gd r0 4), (gd r0 5), (gd r0 6), (gd r0 7), (gd r0 8), (gd r0 9), (gd r0 10), v32, (gd r0 12), (gd r0 13)] := scallEq _ _ _ _ (by kernel_rfl)
theorem spec_l05Top_call_eq (x0 x1 x2 x3 x4 x5 x6 x7 x8 x9 x10 x11 x12 x13 x14 : PV) : spec_l05Top_call x0 x1 x2 x3 x4 x5 x6 x7 x8 x9 x10 x11 x12 x13 x14 =
 bd (PV.at_ 3 true x3 x0) fun v0 =>
 bd (PV.whole 3 v0) fun v1 =>
 bd (PV.cell v1 0) fun v2 =>
 bd (PV.cell v1 1) fun v3 =>
 bd (PV.cell v1 2) fun v4 =>
 bd (PV.len x12) fun v5 =>
 bd (PV.bin .eql v5 (.int .i64 24)) fun v6 =>
 PV.ite v6
 (some [x2, x3, x4, x5, x6, x7, x8, x9, x10, (.int .i64 6), x12, x13, x14])
 (bd (PV.zeros 32 (.agg [(.int .i64 0), (.int .i64 0), (.str (bs []))]) v3) fun v7 =>
 bd (PV.bin .leq v3 v3) fun v8 =>
 PV.ite v8
 (bd (PV.zeros 32 (.agg [(.int .i64 0), (.int .i64 0), (.str (bs []))]) v3) fun v9 =>
 bd (PV.bin .sub v2 (.int .i64 1)) fun v10 =>
 spec_l05Top_call_c5 x0 x1 v10 x2 x3 x4 x5 x6 x7 x8 x9 x10 x11 x12 x13 x14 v9)
 (none)) := scallEq _ _ _ _ (by kernel_rfl)
theorem spec_l05Top_call_c5_eq (x0 x1 x2 x3 x4 x5 x6 x7 x8 x9 x10 x11 x12 x13 x14 x15 x16 : PV) : spec_l05Top_call_c5 x0 x1 x2 x3 x4 x5 x6 x7 x8 x9 x10 x11 x12 x13 x14 x15 x16 =
 bd (PV.bin .geq x2 (.int .i64 0)) fun v0 =>
 PV.ite v0
 (bd (spec_l05Top_pop x3 x4 x5 x6 x7 x8 x9 x10 x11 x12 x13 x14 x15) fun r1 =>
 bd (PV.inb x16 x2) fun v2 =>
 bd (PV.setAt 3 true x16 x2 (gd r1 0)) fun v3 =>
 bd (PV.bin .sub x2 (.int .i64 1)) fun v4 =>
 spec_l05Top_call_c5 x0 x1 v4 (gd r1 1) (gd r1 2) (gd r1 3) (gd r1 4) (gd r1 5) (gd r1 6) (gd r1 7) (gd r1 8) (gd r1 9) (gd r1 10) (gd r1 11) (gd r1 12) (gd r1 13) v3)
 (PV.ite x1
 (bd (spec_l05Top_pop x3 x4 x5 x6 x7 x8 x9 x10 x11 x12 x13 x14 x15) fun r5 =>
 spec_l05Top_call_c10 x0 (gd r5 1) (gd r5 2) (gd r5 3) (gd r5 4) (gd r5 5) (gd r5 6) (gd r5 7) (gd r5 8) (gd r5 9) (gd r5 10) (gd r5 11) (gd r5 12) (gd r5 13) x16)
 (spec_l05Top_call_c10 x0 x3 x4 x5 x6 x7 x8 x9 x10 x11 x12 x13 x14 x15 x16)) := goOnEq _ _ _ _ _ _ _ _ (by kernel_rfl)
theorem spec_l05Top_call_c10_eq (x0 x1 x2 x3 x4 x5 x6 x7 x8 x9 x10 x11 x12 x13 x14 : PV) : spec_l05Top_call_c10 x0 x1 x2 x3 x4 x5 x6 x7 x8 x9 x10 x11 x12 x13 x14 =
 bd (PV.one x0) fun v0 =>
 bd (PV.cat 4 64 true x11 (.lst [(.agg [v0, (.int .i64 0), x14, (.lst [])])])) fun v1 =>
 some [x1, x2, x3, x4, x5, x6, x7, x8, x9, x10, v1, x12, x13] := goOnEq _ _ _ _ _ _ _ _ (by kernel_rfl)
theorem spec_l01Asm_stmt_eq (x0 x1 x2 x3 x4 x5 x6 x7 x8 : PV) : spec_l01Asm_stmt x0 x1 x2 x3 x4 x5 x6 x7 x8 =
 bd (spec_l01Cur_pick (.int .i64 9) x5 x6 x7) fun r0 =>
 bd (PV.bin .eql (gd r0 0) (.int .i64 0)) fun v1 =>
 PV.ite v1
 (bd (spec_l01Asm_value (.int .i64 2) x1 x2 x3 x4 (gd r0 1) (gd r0 2) (gd r0 3) x8) fun r2 =>
 bd (spec_l01Cur_pick (gd r2 2) (gd r2 4) (gd r2 5) (gd r2 6)) fun r3 =>
 bd (spec_l01Asm_put (.int .i64 7) (gd r3 0) (gd r2 0) (gd r2 1) (gd r2 2) (gd r2 3) (gd r3 1) (gd r3 2) (gd r3 3) (gd r2 7)) fun r4 =>
 some [(gd r4 0), (gd r4 1), (gd r4 2), (gd r4 3), (gd r4 4), (gd r4 5), (gd r4 6), (gd r4 7)])
 (bd (PV.bin .eql (gd r0 0) (.int .i64 1)) fun v5 =>
 PV.ite v5
 (bd (spec_l01Asm_value (.int .i64 2) x1 x2 x3 x4 (gd r0 1) (gd r0 2) (gd r0 3) x8) fun r6 =>
 bd (spec_l01Cur_pick (gd r6 2) (gd r6 4) (gd r6 5) (gd r6 6)) fun r7 =>
 bd (spec_l01Asm_put (.int .i64 7) (gd r7 0) (gd r6 0) (gd r6 1) (gd r6 2) (gd r6 3) (gd r7 1) (gd r7 2) (gd r7 3) (gd r6 7)) fun r8 =>
 some [(gd r8 0), (gd r8 1), (gd r8 2), (gd r8 3), (gd r8 4), (gd r8 5), (gd r8 6), (gd r8 7)])
 (bd (PV.bin .eql (gd r0 0) (.int .i64 2)) fun v9 =>
 PV.ite v9
 (bd (spec_l01Asm_value (.int .i64 2) x1 x2 x3 x4 (gd r0 1) (gd r0 2) (gd r0 3) x8) fun r10 =>
 bd (spec_l01Cur_pick (gd r10 2) (gd r10 4) (gd r10 5) (gd r10 6)) fun r11 =>
 bd (spec_l01Asm_put (.int .i64 7) (gd r11 0) (gd r10 0) (gd r10 1) (gd r10 2) (gd r10 3) (gd r11 1) (gd r11 2) (gd r11 3) (gd r10 7)) fun r12 =>
 some [(gd r12 0), (gd r12 1), (gd r12 2), (gd r12 3), (gd r12 4), (gd r12 5), (gd r12 6), (gd r12 7)])
 (bd (PV.bin .eql (gd r0 0) (.int .i64 3)) fun v13 =>
 PV.ite v13
 (bd (spec_l01Asm_value (.int .i64 1) x1 x2 x3 x4 (gd r0 1) (gd r0 2) (gd r0 3) x8) fun r14 =>
 bd (spec_l01Asm_put (.int .i64 26) (.int .i64 0) (gd r14 0) (gd r14 1) (gd r14 2) (gd r14 3) (gd r14 4) (gd r14 5) (gd r14 6) (gd r14 7)) fun r15 =>
 some [(gd r15 0), (gd r15 1), (gd r15 2), (gd r15 3), (gd r15 4), (gd r15 5), (gd r15 6), (gd r15 7)])
 (bd (PV.bin .eql (gd r0 0) (.int .i64 4)) fun v16 =>
 PV.ite v16
 (bd (spec_l01Asm_value (.int .i64 1) x1 x2 x3 x4 (gd r0 1) (gd r0 2) (gd r0 3) x8) fun r17 =>
 bd (spec_l01Asm_put (.int .i64 26) (.int .i64 0) (gd r17 0) (gd r17 1) (gd r17 2) (gd r17 3) (gd r17 4) (gd r17 5) (gd r17 6) (gd r17 7)) fun r18 =>
 some [(gd r18 0), (gd r18 1), (gd r18 2), (gd r18 3), (gd r18 4), (gd r18 5), (gd r18 6), (gd r18 7)])
 (bd (PV.bin .eql (gd r0 0) (.int .i64 5)) fun v19 =>
 PV.ite v19
 (bd (spec_l01Cur_pick x3 (gd r0 1) (gd r0 2) (gd r0 3)) fun r20 =>
 bd (spec_l01Asm_put (.int .i64 6) (gd r20 0) x1 x2 x3 x4 (gd r20 1) (gd r20 2) (gd r20 3) x8) fun r21 =>
 bd (spec_l01Asm_value (.int .i64 1) (gd r21 0) (gd r21 1) (gd r21 2) (gd r21 3) (gd r21 4) (gd r21 5) (gd r21 6) (gd r21 7)) fun r22 =>
 bd (spec_l01Cur_pick (.int .i64 2) (gd r22 4) (gd r22 5) (gd r22 6)) fun r23 =>
 bd (spec_l01Asm_put (.int .i64 22) (gd r23 0) (gd r22 0) (gd r22 1) (gd r22 2) (gd r22 3) (gd r23 1) (gd r23 2) (gd r23 3) (gd r22 7)) fun r24 =>
 some [(gd r24 0), (gd r24 1), (gd r24 2), (gd r24 3), (gd r24 4), (gd r24 5), (gd r24 6), (gd r24 7)])
 (bd (PV.bin .eql (gd r0 0) (.int .i64 6)) fun v25 =>
 PV.ite v25
 (bd (PV.bin .gtr x0 (.int .i64 0)) fun v26 =>
 PV.ite v26
 (bd (spec_l01Asm_test x1 x2 x3 x4 (gd r0 1) (gd r0 2) (gd r0 3) x8) fun r27 =>
 bd (PV.len (gd r27 7)) fun v28 =>
 bd (spec_l01Asm_put (.int .i64 19) (.int .i64 0) (gd r27 0) (gd r27 1) (gd r27 2) (gd r27 3) (gd r27 4) (gd r27 5) (gd r27 6) (gd r27 7)) fun r29 =>
 bd (PV.bin .sub x0 (.int .i64 1)) fun v30 =>
 bd (spec_l01Asm_list v30 (.int .i64 2) (gd r29 0) (gd r29 1) (gd r29 2) (gd r29 3) (gd r29 4) (gd r29 5) (gd r29 6) (gd r29 7)) fun r31 =>
 bd (PV.len (gd r31 7)) fun v32 =>
 bd (PV.inb (gd r31 7) v28) fun v33 =>
 bd (PV.one v32) fun v34 =>
 bd (PV.setCell 2 (gd r31 7) v28 1 v34) fun v35 =>
 some [(gd r31 0), (gd r31 1), (gd r31 2), (gd r31 3), (gd r31 4), (gd r31 5), (gd r31 6), v35])
 (some [x1, x2, x3, x4, (gd r0 1), (gd r0 2), (gd r0 3), x8]))
 (bd (PV.bin .gtr x0 (.int .i64 0)) fun v36 =>
 PV.ite v36
 (bd (spec_l01Cur_pick x3 (gd r0 1) (gd r0 2) (gd r0 3)) fun r37 =>
 bd (spec_l01Cur_pick (.int .i64 3) (gd r37 1) (gd r37 2) (gd r37 3)) fun r38 =>
 bd (PV.bin .gtr (gd r38 0) (.int .i64 0)) fun v39 =>
 PV.ite v39
 (bd (spec_l01Asm_put (.int .i64 1) (.int .i64 0) x1 x2 x3 x4 (gd r38 1) (gd r38 2) (gd r38 3) x8) fun r40 =>
 bd (spec_l01Asm_put (.int .i64 7) (gd r37 0) (gd r40 0) (gd r40 1) (gd r40 2) (gd r40 3) (gd r40 4) (gd r40 5) (gd r40 6) (gd r40 7)) fun r41 =>
 spec_l01Asm_stmt_c7 x0 (gd r37 0) (gd r41 0) (gd r41 1) (gd r41 2) (gd r41 3) (gd r41 4) (gd r41 5) (gd r41 6) (gd r41 7))
 (spec_l01Asm_stmt_c7 x0 (gd r37 0) x1 x2 x3 x4 (gd r38 1) (gd r38 2) (gd r38 3) x8))
 (some [x1, x2, x3, x4, (gd r0 1), (gd r0 2), (gd r0 3), x8])))))))) := scallEq _ _ _ _ (by kernel_rfl)
theorem spec_l01Asm_stmt_c7_eq (x0 x1 x2 x3 x4 x5 x6 x7 x8 x9 : PV) : spec_l01Asm_stmt_c7 x0 x1 x2 x3 x4 x5 x6 x7 x8 x9 =
 bd (PV.len x9) fun v0 =>
 bd (spec_l01Asm_put (.int .i64 6) x1 x2 x3 x4 x5 x6 x7 x8 x9) fun r1 =>
 bd (spec_l01Cur_pick (.int .i64 7) (gd r1 4) (gd r1 5) (gd r1 6)) fun r2 =>
 bd (spec_l01Asm_put (.int .i64 1) (gd r2 0) (gd r1 0) (gd r1 1) (gd r1 2) (gd r1 3) (gd r2 1) (gd r2 2) (gd r2 3) (gd r1 7)) fun r3 =>
 bd (spec_l01Asm_put (.int .i64 14) (.int .i64 0) (gd r3 0) (gd r3 1) (gd r3 2) (gd r3 3) (gd r3 4) (gd r3 5) (gd r3 6) (gd r3 7)) fun r4 =>
 bd (PV.len (gd r4 7)) fun v5 =>
 bd (spec_l01Asm_put (.int .i64 19) (.int .i64 0) (gd r4 0) (gd r4 1) (gd r4 2) (gd r4 3) (gd r4 4) (gd r4 5) (gd r4 6) (gd r4 7)) fun r6 =>
 bd (PV.bin .sub x0 (.int .i64 1)) fun v7 =>
 bd (spec_l01Asm_list v7 (.int .i64 2) (gd r6 0) (gd r6 1) (gd r6 2) (gd r6 3) (gd r6 4) (gd r6 5) (gd r6 6) (gd r6 7)) fun r8 =>
 bd (spec_l01Asm_put (.int .i64 6) x1 (gd r8 0) (gd r8 1) (gd r8 2) (gd r8 3) (gd r8 4) (gd r8 5) (gd r8 6) (gd r8 7)) fun r9 =>
 bd (spec_l01Asm_put (.int .i64 1) (.int .i64 1) (gd r9 0) (gd r9 1) (gd r9 2) (gd r9 3) (gd r9 4) (gd r9 5) (gd r9 6) (gd r9 7)) fun r10 =>
 bd (spec_l01Asm_put (.int .i64 11) (.int .i64 0) (gd r10 0) (gd r10 1) (gd r10 2) (gd r10 3) (gd r10 4) (gd r10 5) (gd r10 6) (gd r10 7)) fun r11 =>
 bd (spec_l01Asm_put (.int .i64 7) x1 (gd r11 0) (gd r11 1) (gd r11 2) (gd r11 3) (gd r11 4) (gd r11 5) (gd r11 6) (gd r11 7)) fun r12 =>
 bd (spec_l01Asm_put (.int .i64 17) v0 (gd r12 0) (gd r12 1) (gd r12 2) (gd r12 3) (gd r12 4) (gd r12 5) (gd r12 6) (gd r12 7)) fun r13 =>
 bd (PV.len (gd r13 7)) fun v14 =>
 bd (PV.inb (gd r13 7) v5) fun v15 =>
 bd (PV.one v14) fun v16 =>
 bd (PV.setCell 2 (gd r13 7) v5 1 v16) fun v17 =>
 some [(gd r13 0), (gd r13 1), (gd r13 2), (gd r13 3), (gd r13 4), (gd r13 5), (gd r13 6), v17] := goOnEq _ _ _ _ _ _ _ _ (by kernel_rfl)
theorem spec_l01Asm_record_eq (x0 x1 x2 x3 x4 x5 x6 x7 x8 : PV) : spec_l01Asm_record x0 x1 x2 x3 x4 x5 x6 x7 x8 =
 bd (spec_l01Cur_pick (.int .i64 3) x5 x6 x7) fun r0 =>
 bd (PV.bin .add (.int .i64 1) (gd r0 0)) fun v1 =>
 bd (spec_l01Asm_put (.int .i64 20) v1 x1 x2 x3 x4 (gd r0 1) (gd r0 2) (gd r0 3) x8) fun r2 =>
 bd (PV.bin .add v1 (.int .i64 1)) fun v3 =>
 bd (spec_l01Cur_pick v3 (gd r2 4) (gd r2 5) (gd r2 6)) fun r4 =>
 spec_l01Asm_record_c3 x0 v1 (gd r4 0) (gd r2 0) (gd r2 1) (gd r2 2) (gd r2 3) (gd r4 1) (gd r4 2) (gd r4 3) (gd r2 7) := scallEq _ _ _ _ (by kernel_rfl)
theorem spec_l01Asm_record_c3_eq (x0 x1 x2 x3 x4 x5 x6 x7 x8 x9 x10 : PV) : spec_l01Asm_record_c3 x0 x1 x2 x3 x4 x5 x6 x7 x8 x9 x10 =
 bd (PV.bin .gtr x2 (.int .i64 0)) fun v0 =>
 PV.ite v0
 (bd (spec_l01Asm_put (.int .i64 8) (.int .i64 0) x3 x4 x5 x6 x7 x8 x9 x10) fun r1 =>
 bd (PV.bin .sub x0 (.int .i64 2)) fun v2 =>
 bd (spec_l01Asm_value v2 (gd r1 0) (gd r1 1) (gd r1 2) (gd r1 3) (gd r1 4) (gd r1 5) (gd r1 6) (gd r1 7)) fun r3 =>
 bd (spec_l01Cur_pick x1 (gd r3 4) (gd r3 5) (gd r3 6)) fun r4 =>
 bd (spec_l01Asm_put (.int .i64 22) (gd r4 0) (gd r3 0) (gd r3 1) (gd r3 2) (gd r3 3) (gd r4 1) (gd r4 2) (gd r4 3) (gd r3 7)) fun r5 =>
 bd (PV.bin .sub x2 (.int .i64 1)) fun v6 =>
 spec_l01Asm_record_c3 x0 x1 v6 (gd r5 0) (gd r5 1) (gd r5 2) (gd r5 3) (gd r5 4) (gd r5 5) (gd r5 6) (gd r5 7))
 (bd (spec_l01Cur_once (.int .i64 3) x7 x8 x9) fun r7 =>
 PV.ite (gd r7 0)
 (bd (spec_l01Cur_pick x1 (gd r7 1) (gd r7 2) (gd r7 3)) fun r8 =>
 bd (spec_l01Asm_put (.int .i64 21) (gd r8 0) x3 x4 x5 x6 (gd r8 1) (gd r8 2) (gd r8 3) x10) fun r9 =>
 some [(gd r9 0), (gd r9 1), (gd r9 2), (gd r9 3), (gd r9 4), (gd r9 5), (gd r9 6), (gd r9 7)])
 (some [x3, x4, x5, x6, (gd r7 1), (gd r7 2), (gd r7 3), x10])) := goOnEq _ _ _ _ _ _ _ _ (by kernel_rfl)
theorem spec_l01Asm_number_eq (x0 x1 x2 x3 x4 x5 x6 x7 x8 : PV) : spec_l01Asm_number x0 x1 x2 x3 x4 x5 x6 x7 x8 =
 bd (PV.bin .add x0 (.int .i64 1)) fun v0 =>
 some [v0, x1, x2, x3, x4, x5, x6, x7, x8] := scallEq _ _ _ _ (by kernel_rfl)
theorem spec_l01Asm_test_eq (x0 x1 x2 x3 x4 x5 x6 x7 : PV) : spec_l01Asm_test x0 x1 x2 x3 x4 x5 x6 x7 =
 bd (spec_l01Asm_value (.int .i64 1) x0 x1 x2 x3 x4 x5 x6 x7) fun r0 =>
 bd (spec_l01Asm_value (.int .i64 0) (gd r0 0) (gd r0 1) (gd r0 2) (gd r0 3) (gd r0 4) (gd r0 5) (gd r0 6) (gd r0 7)) fun r1 =>
 bd (spec_l01Cur_pick (.int .i64 2) (gd r1 4) (gd r1 5) (gd r1 6)) fun r2 =>
 bd (PV.inb (.lst [(.int .i64 14), (.int .i64 15)]) (gd r2 0)) fun v3 =>
 bd (PV.at_ 1 false (.lst [(.int .i64 14), (.int .i64 15)]) (gd r2 0)) fun v4 =>
 bd (spec_l01Asm_put v4 (.int .i64 0) (gd r1 0) (gd r1 1) (gd r1 2) (gd r1 3) (gd r2 1) (gd r2 2) (gd r2 3) (gd r1 7)) fun r5 =>
 bd (spec_l01Cur_once (.int .i64 4) (gd r5 4) (gd r5 5) (gd r5 6)) fun r6 =>
 PV.ite (gd r6 0)
 (bd (spec_l01Asm_put (.int .i64 16) (.int .i64 0) (gd r5 0) (gd r5 1) (gd r5 2) (gd r5 3) (gd r6 1) (gd r6 2) (gd r6 3) (gd r5 7)) fun r7 =>
 some [(gd r7 0), (gd r7 1), (gd r7 2), (gd r7 3), (gd r7 4), (gd r7 5), (gd r7 6), (gd r7 7)])
 (some [(gd r5 0), (gd r5 1), (gd r5 2), (gd r5 3), (gd r6 1), (gd r6 2), (gd r6 3), (gd r5 7)]) := scallEq _ _ _ _ (by kernel_rfl)
end Go.Proofs.YtjgleeamiclokaaGreat

namespace Go.Proofs.YtjgleeamiclokaaGreat
open Go
attribute [local irreducible] bd PV.ite PV.guardFlat PV.guardOwn PV.whole PV.one PV.cell PV.sub PV.at_ PV.len PV.slen PV.chr PV.beq PV.peq PV.ceq PV.bin PV.neg PV.not PV.conv PV.cut PV.scut PV.cat PV.setAt PV.setCell PV.ncopy PV.copyIn PV.zeros PV.toStr PV.toBytes PV.deref PV.isPtr PV.comp PV.inb PV.off PV.imin PV.imax PV.sel PV.apply
def Bts (l : List Int) : Prop := (∀ x ∈ l, 0 ≤ x ∧ x ≤ 255) ∧ l.length ≤ 1048576
def PickP (l : List Int) (n a : Int) (r : R) : Prop := ∃ v a' s' : Int, r = [.int .i64 v, bytesOf l, .int .i64 a', .int .i64 s'] ∧ 0 ≤ v ∧ (v < n ∨ v = 0) ∧ a ≤ a' ∧ a' ≤ a + 1 ∧ 0 ≤ s' ∧ s' < 65521
theorem pick9 {l : List Int} {n x a s b : Int} (hn : 2 ≤ n) (hx : 0 ≤ x) (h0 : 0 ≤ a) (h1 : a ≤ 4611686018427387904) (hs : 0 ≤ s ∧ s < 65521) (hb : b = a) :
    Ok (PickP l n b) (spec_l01Cur_pick_c9 (.int .i64 n) (.int .i64 x) (bytesOf l) (.int .i64 a) (.int .i64 s)) := by
  rw [spec_l01Cur_pick_c9_eq]
  subst hb
  repeat' (first | refine ok_lss ?_ | refine ok_leq ?_ | refine ok_gtr ?_ | refine ok_geq ?_ | refine ok_eql ?_ | refine ok_neq ?_ | (refine ok_ite (fun _ => ?_) (fun _ => ?_)) | (refine ok_ite_not (fun _ => ?_) (fun _ => ?_)) | refine ok_ite_b (fun _ => ?_) (fun _ => ?_) | refine ok_add (by omega) ?_ | refine ok_sub (by omega) ?_ | refine ok_rem (by omega) (by omega) ?_ | refine ok_quo (by omega) (by omega) (by omega) ?_ | refine ok_mul (by omega) ?_ | refine ok_neg (by omega) ?_ | refine ok_bytes_len ?_ | refine ok_len ?_ | refine ok_slen ?_ | refine ok_not ?_ | refine ok_i64 (by omega) ?_ | refine ok_one rfl ?_ | refine ok_cell rfl ?_ | refine ok_comp rfl ?_ | refine ok_whole rfl ?_)
  exact ok_some ⟨_, _, _, rfl, Int.emod_nonneg _ (by omega), .inl (Int.emod_lt_of_pos _ (by omega)), by omega, by omega, hs⟩
theorem pick_spec {l : List Int} (hl : Bts l) {n a s : Int} (hn : n ≤ 1099511627776) (h0 : 0 ≤ a) (h1 : a ≤ 4611686018427387904) (hs : 0 ≤ s ∧ s < 65521) :
    Ok (PickP l n a) (spec_l01Cur_pick (.int .i64 n) (bytesOf l) (.int .i64 a) (.int .i64 s)) := by
  rw [spec_l01Cur_pick_eq]
  obtain ⟨hb, hlen⟩ := hl
  refine ok_lss ?_
  refine ok_ite (fun _ => ok_some ⟨0, a, s, rfl, by omega, .inr rfl, by omega, by omega, hs⟩) (fun h => ?_)
  refine ok_bytes_len ?_
  refine ok_lss ?_
  refine ok_ite (fun h2 => ?_) (fun h2 => ?_)
  · refine ok_bytes_at h0 h2 (fun x hx _ => ?_)
    have := hb x hx
    refine ok_i64 (by omega) ?_
    exact pick9 (by omega) (by omega) h0 h1 hs rfl
  · repeat' (first | refine ok_lss ?_ | refine ok_leq ?_ | refine ok_gtr ?_ | refine ok_geq ?_ | refine ok_eql ?_ | refine ok_neq ?_ | (refine ok_ite (fun _ => ?_) (fun _ => ?_)) | (refine ok_ite_not (fun _ => ?_) (fun _ => ?_)) | refine ok_ite_b (fun _ => ?_) (fun _ => ?_) | refine ok_add (by omega) ?_ | refine ok_sub (by omega) ?_ | refine ok_rem (by omega) (by omega) ?_ | refine ok_quo (by omega) (by omega) (by omega) ?_ | refine ok_mul (by omega) ?_ | refine ok_neg (by omega) ?_ | refine ok_bytes_len ?_ | refine ok_len ?_ | refine ok_slen ?_ | refine ok_not ?_ | refine ok_i64 (by omega) ?_ | refine ok_one rfl ?_ | refine ok_cell rfl ?_ | refine ok_comp rfl ?_ | refine ok_whole rfl ?_)
    · refine ok_bytes_at (Int.emod_nonneg _ (by omega)) (Int.emod_lt_of_pos _ (by omega)) (fun x hx _ => ?_)
      have := hb x hx
      repeat' (first | refine ok_lss ?_ | refine ok_leq ?_ | refine ok_gtr ?_ | refine ok_geq ?_ | refine ok_eql ?_ | refine ok_neq ?_ | (refine ok_ite (fun _ => ?_) (fun _ => ?_)) | (refine ok_ite_not (fun _ => ?_) (fun _ => ?_)) | refine ok_ite_b (fun _ => ?_) (fun _ => ?_) | refine ok_add (by omega) ?_ | refine ok_sub (by omega) ?_ | refine ok_rem (by omega) (by omega) ?_ | refine ok_quo (by omega) (by omega) (by omega) ?_ | refine ok_mul (by omega) ?_ | refine ok_neg (by omega) ?_ | refine ok_bytes_len ?_ | refine ok_len ?_ | refine ok_slen ?_ | refine ok_not ?_ | refine ok_i64 (by omega) ?_ | refine ok_one rfl ?_ | refine ok_cell rfl ?_ | refine ok_comp rfl ?_ | refine ok_whole rfl ?_)
      exact pick9 (by omega) (by omega) h0 h1 (by omega) rfl
    · exact pick9 (by omega) (by omega) h0 h1 (by omega) rfl
section
variable {P : R → Prop} {k : R → Option R} {l : List Int} {a s : Int}
theorem ok_pick (hl : Bts l) {n : Int} (hn : n ≤ 1099511627776) (h0 : 0 ≤ a ∧ a ≤ 4611686018427387904 ∧ 0 ≤ s ∧ s < 65521)
    (h : ∀ v a' s' : Int, 0 ≤ v ∧ (v < n ∨ v = 0) ∧ a ≤ a' ∧ a' ≤ a + 1 ∧ 0 ≤ s' ∧ s' < 65521 → Ok P (k [.int .i64 v, bytesOf l, .int .i64 a', .int .i64 s'])) :
    Ok P (bd (spec_l01Cur_pick (.int .i64 n) (bytesOf l) (.int .i64 a) (.int .i64 s)) k) :=
  ok_call (pick_spec hl hn h0.1 h0.2.1 h0.2.2) (fun r ⟨v, a', s', hr, h1⟩ => by rw [hr]; exact h v a' s' h1)
theorem ok_once (hl : Bts l) {n : Int} (hn : 1 ≤ n ∧ n ≤ 1099511627776) (h0 : 0 ≤ a ∧ a ≤ 4611686018427387904 ∧ 0 ≤ s ∧ s < 65521)
    (h : ∀ (v : Bool) (a' s' : Int), a ≤ a' ∧ a' ≤ a + 1 ∧ 0 ≤ s' ∧ s' < 65521 → Ok P (k [.bool v, bytesOf l, .int .i64 a', .int .i64 s'])) :
    Ok P (bd (spec_l01Cur_once (.int .i64 n) (bytesOf l) (.int .i64 a) (.int .i64 s)) k) := by
  refine ok_call (Q := fun r => ∃ (v : Bool) (a' s' : Int), r = [.bool v, bytesOf l, .int .i64 a', .int .i64 s'] ∧ a ≤ a' ∧ a' ≤ a + 1 ∧ 0 ≤ s' ∧ s' < 65521) ?_ (fun r ⟨v, a', s', hr, h1⟩ => by rw [hr]; exact h v a' s' h1)
  rw [spec_l01Cur_once_eq]
  refine ok_pick hl (by omega) h0 (fun v a' s' h1 => ?_)
  repeat' (first | refine ok_lss ?_ | refine ok_leq ?_ | refine ok_gtr ?_ | refine ok_geq ?_ | refine ok_eql ?_ | refine ok_neq ?_ | (refine ok_ite (fun _ => ?_) (fun _ => ?_)) | (refine ok_ite_not (fun _ => ?_) (fun _ => ?_)) | refine ok_ite_b (fun _ => ?_) (fun _ => ?_) | refine ok_add (by omega) ?_ | refine ok_sub (by omega) ?_ | refine ok_rem (by omega) (by omega) ?_ | refine ok_quo (by omega) (by omega) (by omega) ?_ | refine ok_mul (by omega) ?_ | refine ok_neg (by omega) ?_ | refine ok_bytes_len ?_ | refine ok_len ?_ | refine ok_slen ?_ | refine ok_not ?_ | refine ok_i64 (by omega) ?_ | refine ok_one rfl ?_ | refine ok_cell rfl ?_ | refine ok_comp rfl ?_ | refine ok_whole rfl ?_)
  exact ok_some ⟨_, _, _, rfl, h1.2.2⟩
theorem ok_size (hl : Bts l) {n : Int} (hn : 1 ≤ n ∧ n ≤ 1000) (h0 : 0 ≤ a ∧ a ≤ 4611686018427387904 ∧ 0 ≤ s ∧ s < 65521)
    (h : ∀ v a' s' : Int, 0 ≤ v ∧ v ≤ n ∧ a ≤ a' ∧ a' ≤ a + 1 ∧ 0 ≤ s' ∧ s' < 65521 → Ok P (k [.int .i64 v, bytesOf l, .int .i64 a', .int .i64 s'])) :
    Ok P (bd (spec_l01Cur_size (.int .i64 n) (bytesOf l) (.int .i64 a) (.int .i64 s)) k) := by
  refine ok_call (Q := fun r => ∃ (v a' s' : Int), r = [.int .i64 v, bytesOf l, .int .i64 a', .int .i64 s'] ∧ 0 ≤ v ∧ v ≤ n ∧ a ≤ a' ∧ a' ≤ a + 1 ∧ 0 ≤ s' ∧ s' < 65521) ?_ (fun r ⟨v, a', s', hr, h1⟩ => by rw [hr]; exact h v a' s' h1)
  rw [spec_l01Cur_size_eq]
  have := hl.2
  repeat' (first | refine ok_lss ?_ | refine ok_leq ?_ | refine ok_gtr ?_ | refine ok_geq ?_ | refine ok_eql ?_ | refine ok_neq ?_ | (refine ok_ite (fun _ => ?_) (fun _ => ?_)) | (refine ok_ite_not (fun _ => ?_) (fun _ => ?_)) | refine ok_ite_b (fun _ => ?_) (fun _ => ?_) | refine ok_add (by omega) ?_ | refine ok_sub (by omega) ?_ | refine ok_rem (by omega) (by omega) ?_ | refine ok_quo (by omega) (by omega) (by omega) ?_ | refine ok_mul (by omega) ?_ | refine ok_neg (by omega) ?_ | refine ok_bytes_len ?_ | refine ok_len ?_ | refine ok_slen ?_ | refine ok_not ?_ | refine ok_i64 (by omega) ?_ | refine ok_one rfl ?_ | refine ok_cell rfl ?_ | refine ok_comp rfl ?_ | refine ok_whole rfl ?_)
  · refine ok_pick hl (by omega) h0 (fun v a' s' h1 => ?_)
    exact ok_some ⟨_, _, _, rfl, by omega, by omega, h1.2.2⟩
  · refine ok_pick hl (by omega) h0 (fun v a' s' h1 => ?_)
    exact ok_some ⟨_, _, _, rfl, by omega, by omega, h1.2.2⟩
theorem ok_nums {k : PV → Option R} {xs : List Int} {i : Int} (h0 : 0 ≤ i) (h1 : i < xs.length) (h : ∀ x, x ∈ xs → Ok P (k (.int .i64 x))) : Ok P (bd (PV.at_ 1 false (.lst (xs.map (PV.int .i64))) (.int .i64 i)) k) := by
  refine ok_at h0 (by rw [List.length_map]; exact h1) (fun x hx => ?_) (fun x hx _ => ?_)
  · obtain ⟨y, _, rfl⟩ := List.mem_map.1 hx; rfl
  · obtain ⟨y, hy, rfl⟩ := List.mem_map.1 hx; exact h y hy
theorem ok_number (hl : Bts l) (h0 : 0 ≤ a ∧ a ≤ 4611686018427387900 ∧ 0 ≤ s ∧ s < 65521)
    (h : ∀ v a' s' : Int, -9223372036854775808 ≤ v ∧ v ≤ 9223372036854775807 ∧ a ≤ a' ∧ a' ≤ a + 2 ∧ 0 ≤ s' ∧ s' < 65521 → Ok P (k [.int .i64 v, bytesOf l, .int .i64 a', .int .i64 s'])) :
    Ok P (bd (spec_l01Cur_number (bytesOf l) (.int .i64 a) (.int .i64 s)) k) := by
  refine ok_call (Q := fun r => ∃ (v a' s' : Int), r = [.int .i64 v, bytesOf l, .int .i64 a', .int .i64 s'] ∧ -9223372036854775808 ≤ v ∧ v ≤ 9223372036854775807 ∧ a ≤ a' ∧ a' ≤ a + 2 ∧ 0 ≤ s' ∧ s' < 65521) ?_ (fun r ⟨v, a', s', hr, h1⟩ => by rw [hr]; exact h v a' s' h1)
  rw [spec_l01Cur_number_eq]
  refine ok_pick hl (by omega) (by omega) (fun v a1 s1 h1 => ?_)
  repeat' (first | refine ok_lss ?_ | refine ok_leq ?_ | refine ok_gtr ?_ | refine ok_geq ?_ | refine ok_eql ?_ | refine ok_neq ?_ | (refine ok_ite (fun _ => ?_) (fun _ => ?_)) | (refine ok_ite_not (fun _ => ?_) (fun _ => ?_)) | refine ok_ite_b (fun _ => ?_) (fun _ => ?_) | refine ok_add (by omega) ?_ | refine ok_sub (by omega) ?_ | refine ok_rem (by omega) (by omega) ?_ | refine ok_quo (by omega) (by omega) (by omega) ?_ | refine ok_mul (by omega) ?_ | refine ok_neg (by omega) ?_ | refine ok_bytes_len ?_ | refine ok_len ?_ | refine ok_slen ?_ | refine ok_not ?_ | refine ok_i64 (by omega) ?_ | refine ok_one rfl ?_ | refine ok_cell rfl ?_ | refine ok_comp rfl ?_ | refine ok_whole rfl ?_)
  · refine ok_pick hl (by omega) (by omega) (fun v2 a2 s2 h2 => ?_)
    repeat' (first | refine ok_lss ?_ | refine ok_leq ?_ | refine ok_gtr ?_ | refine ok_geq ?_ | refine ok_eql ?_ | refine ok_neq ?_ | (refine ok_ite (fun _ => ?_) (fun _ => ?_)) | (refine ok_ite_not (fun _ => ?_) (fun _ => ?_)) | refine ok_ite_b (fun _ => ?_) (fun _ => ?_) | refine ok_add (by omega) ?_ | refine ok_sub (by omega) ?_ | refine ok_rem (by omega) (by omega) ?_ | refine ok_quo (by omega) (by omega) (by omega) ?_ | refine ok_mul (by omega) ?_ | refine ok_neg (by omega) ?_ | refine ok_bytes_len ?_ | refine ok_len ?_ | refine ok_slen ?_ | refine ok_not ?_ | refine ok_i64 (by omega) ?_ | refine ok_one rfl ?_ | refine ok_cell rfl ?_ | refine ok_comp rfl ?_ | refine ok_whole rfl ?_)
    exact ok_some ⟨_, _, _, rfl, by omega, by omega, by omega, by omega, by omega, by omega⟩
  · refine ok_pick hl (by omega) (by omega) (fun v2 a2 s2 h2 => ?_)
    refine ok_inb (by omega) (by simp; omega) ?_
    refine ok_nums (xs := [1000000000, -1000000000, 1000000001, -1000000001, 9223372036854775807, -9223372036854775808, 4611686018427387904, 31623]) (by omega) (by simp; omega) (fun x hx => ?_)
    have hx : -9223372036854775808 ≤ x ∧ x ≤ 9223372036854775807 := by
      simp only [List.mem_cons, List.not_mem_nil, or_false] at hx
      omega
    exact ok_some ⟨_, _, _, rfl, by omega, by omega, by omega, by omega, by omega, by omega⟩
  · refine ok_pick hl (by omega) (by omega) (fun v2 a2 s2 h2 => ?_)
    repeat' (first | refine ok_lss ?_ | refine ok_leq ?_ | refine ok_gtr ?_ | refine ok_geq ?_ | refine ok_eql ?_ | refine ok_neq ?_ | (refine ok_ite (fun _ => ?_) (fun _ => ?_)) | (refine ok_ite_not (fun _ => ?_) (fun _ => ?_)) | refine ok_ite_b (fun _ => ?_) (fun _ => ?_) | refine ok_add (by omega) ?_ | refine ok_sub (by omega) ?_ | refine ok_rem (by omega) (by omega) ?_ | refine ok_quo (by omega) (by omega) (by omega) ?_ | refine ok_mul (by omega) ?_ | refine ok_neg (by omega) ?_ | refine ok_bytes_len ?_ | refine ok_len ?_ | refine ok_slen ?_ | refine ok_not ?_ | refine ok_i64 (by omega) ?_ | refine ok_one rfl ?_ | refine ok_cell rfl ?_ | refine ok_comp rfl ?_ | refine ok_whole rfl ?_)
    exact ok_some ⟨_, _, _, rfl, by omega, by omega, by omega, by omega, by omega, by omega⟩
end
structure InsT where
  o : Int
  a : Int
  deriving DecidableEq
structure FnT where
  p : Int
  lc : Int
  code : List InsT
  deriving DecidableEq
structure MdT where
  texts : List ByteArray
  funcs : List FnT
def InsT.pv (x : InsT) : PV := .agg [.int .i64 x.o, .int .i64 x.a]
def FnT.pv (f : FnT) : PV := .agg [.int .i64 f.p, .int .i64 f.lc, .lst (f.code.map InsT.pv)]
def MdT.pv (m : MdT) : PV := .agg [.lst (m.texts.map PV.str), .lst (m.funcs.map FnT.pv)]
def bet (n lo hi : Int) : Bool := decide (lo ≤ n) && decide (n ≤ hi)
def chB (c : UInt8) : Bool := !(decide ((c.toNat : Int) < 32)) && (!(decide ((126 : Int) < c.toNat)) && !(decide ((c.toNat : Int) = 34)))
def txtOkB (s : ByteArray) : Bool := decide ((s.size : Int) ≤ 60) && s.data.toList.all chB
def insOkB (nt nf lc nc o a : Int) : Bool :=
  if o = 1 then bet a (-1000000000) 1000000000 else if o = 2 then bet a 0 1 else if o = 3 then bet a 0 (nt - 1) else if o = 5 then bet a 0 (nf - 1) else if o = 24 then bet a 0 (nf - 1)
  else if o = 6 then bet a 0 (lc - 1) else if o = 7 then bet a 0 (lc - 1) else if o = 17 then bet a 0 (nc - 1) else if o = 18 then bet a 0 (nc - 1) else if o = 19 then bet a 0 (nc - 1)
  else if o = 20 then bet a 0 6 else if o = 21 then bet a 0 5 else if o = 22 then bet a 0 5 else if o = 23 then bet a 0 6 else bet o 1 26 && decide (a = 0)
def fnOkB (nt nf : Int) (f : FnT) : Bool := bet f.p 0 6 && (bet f.lc f.p 12 && (bet f.code.length 1 120 && f.code.all fun x => insOkB nt nf f.lc f.code.length x.o x.a))
def MdT.okB (m : MdT) : Bool := bet m.funcs.length 1 12 && (decide ((m.texts.length : Int) ≤ 20) && (m.texts.all txtOkB && m.funcs.all (fnOkB m.texts.length m.funcs.length)))
def MdT.sized (m : MdT) : Prop := m.texts.length ≤ 1000000 ∧ m.funcs.length ≤ 1000000 ∧ (∀ t ∈ m.texts, t.size ≤ 1000000) ∧ ∀ f ∈ m.funcs, f.code.length ≤ 1000000000
section
variable {P : R → Prop} {k : PV → Option R} {α : Type} {f : α → PV} {xs : List α}
theorem ok_at_map {s : Nat} {g : Bool} {kk : IntKind} {i : Nat} (hi : i < xs.length) (hel : ∀ a, (f a).isEl s g = true) (h : Ok P (k (f xs[i]))) : Ok P (bd (PV.at_ s g (.lst (xs.map f)) (.int kk (i : Int))) k) := by
  refine ok_at (by omega) (by rw [List.length_map]; omega) (fun x hx => ?_) (fun x _ hx => ?_)
  · obtain ⟨a, _, rfl⟩ := List.mem_map.1 hx; exact hel a
  · rw [Int.toNat_natCast, List.getElem?_map, List.getElem?_eq_getElem hi] at hx
    cases hx
    exact h
theorem ok_len_map (h : Ok P (k (.int .i64 xs.length))) : Ok P (bd (PV.len (.lst (xs.map f))) k) := by
  refine ok_len ?_
  rw [List.length_map]
  exact h
theorem chr_eq {s : ByteArray} {i : Nat} (hi : i < s.data.toList.length) : s[i]? = some s.data.toList[i] := by
  have h : i < s.size := by
    have e : s.size = s.data.toList.length := by rw [Array.length_toList]; rfl
    rw [e]; exact hi
  rw [getElem?_pos s i h, Array.getElem_toList]
  rfl
theorem ok_chr {s : ByteArray} {kk : IntKind} {i : Nat} (hi : i < s.data.toList.length) (h : Ok P (k (.int .u8 (s.data.toList[i].toNat : Int)))) : Ok P (bd (PV.chr (.str s) (.int kk (i : Int))) k) := by
  refine ok_bd _ ?_ h
  simp only [PV.chr]
  rw [if_pos (by omega), Int.toNat_natCast, chr_eq hi]
theorem ok_range {k : R → Option R} {n lo hi : Int} (h : Ok P (k [.bool (bet n lo hi)])) : Ok P (bd (impl_inRange (.int .i64 n) (.int .i64 lo) (.int .i64 hi)) k) := by
  refine ok_call (Q := fun r => r = [.bool (bet n lo hi)]) ?_ (fun r hr => by rw [hr]; exact h)
  rw [impl_inRange_eq]
  refine ok_leq (ok_ite (fun h1 => ok_leq (ok_some ?_)) (fun h1 => ok_some ?_))
  · simp [bet, h1]
  · simp [bet, h1]
theorem ok_bet {k : R → Option R} {n lo hi : Int} (h : Ok P (k [.bool (bet n lo hi)])) : Ok P (bd (spec_l01Between (.int .i64 n) (.int .i64 lo) (.int .i64 hi)) k) := by
  refine ok_call (Q := fun r => r = [.bool (bet n lo hi)]) ?_ (fun r hr => by rw [hr]; exact h)
  rw [spec_l01Between_eq]
  refine ok_geq (ok_ite (fun h1 => ok_leq (ok_some ?_)) (fun h1 => ok_some ?_))
  · simp [bet, h1]
  · simp [bet, h1]
theorem ok_place {k : R → Option R} {n m : Int} (hm : -1000000000 ≤ m ∧ m ≤ 1000000000) (h : Ok P (k [.bool (bet n 0 (m - 1))])) : Ok P (bd (impl_isPlace (.int .i64 n) (.int .i64 m)) k) := by
  refine ok_call (Q := fun r => r = [.bool (bet n 0 (m - 1))]) ?_ (fun r hr => by rw [hr]; exact h)
  rw [impl_isPlace_eq]
  exact ok_sub (by omega) (ok_range (ok_some rfl))
theorem ok_isNum {k : R → Option R} {n : Int} (h : Ok P (k [.bool (bet n (-1000000000) 1000000000)])) : Ok P (bd (impl_isNum (.int .i64 n)) k) := by
  refine ok_call (Q := fun r => r = [.bool (bet n (-1000000000) 1000000000)]) ?_ (fun r hr => by rw [hr]; exact h)
  rw [impl_isNum_eq]
  exact ok_range (ok_some rfl)
end
theorem drop_all {α : Type} {xs : List α} {i : Nat} (hi : i < xs.length) (p : α → Bool) : (xs.drop i).all p = (p xs[i] && (xs.drop (i + 1)).all p) := by
  rw [List.drop_eq_getElem_cons hi, List.all_cons]
theorem chB_1 {c : UInt8} (h : (c.toNat : Int) < 32) : chB c = false := by unfold chB; rw [decide_eq_true h]; rfl
theorem chB_2 {c : UInt8} (h : (126 : Int) < c.toNat) : chB c = false := by unfold chB; rw [decide_eq_true h]; simp
theorem chB_3 {c : UInt8} (h : (c.toNat : Int) = 34) : chB c = false := by unfold chB; rw [decide_eq_true h]; simp
theorem spec_text_loop {s : ByteArray} (hs : s.size ≤ 1000000) : ∀ (j i : Nat), s.data.toList.length - i = j → i ≤ s.data.toList.length →
    Ok (fun r => r = [.bool ((s.data.toList.drop i).all chB)]) (spec_l01Text_c4 (.str s) (.int .i64 i)) := by
  have hsz : s.size = s.data.toList.length := by rw [Array.length_toList]; rfl
  intro j
  induction j with
  | zero =>
    intro i h1 h2
    have : i = s.data.toList.length := by omega
    rw [spec_l01Text_c4_eq]
    refine ok_slen (ok_lss (ok_ite (fun h => by omega) (fun _ => ok_some ?_)))
    rw [this, List.drop_length]; rfl
  | succ j ih =>
    intro i h1 h2
    have hi : i < s.data.toList.length := by omega
    rw [spec_l01Text_c4_eq, drop_all hi]
    refine ok_slen (ok_lss (ok_ite (fun _ => ?_) (fun h => by omega)))
    refine ok_chr hi (ok_lss (ok_ite (fun h => ok_some (by rw [chB_1 h]; rfl)) (fun h3 => ?_)))
    refine ok_chr hi (ok_gtr (ok_ite (fun h => ok_some (by rw [chB_2 h]; rfl)) (fun h4 => ?_)))
    refine ok_chr hi (ok_eql (ok_ite (fun h => ok_some (by rw [chB_3 h]; rfl)) (fun h5 => ?_)))
    refine ok_add (by omega) ((ih (i + 1) (by omega) (by omega)).mono ?_)
    rintro r rfl
    have : chB s.data.toList[i] = true := by unfold chB; rw [decide_eq_false h3, decide_eq_false h4, decide_eq_false h5]; rfl
    rw [this, Bool.true_and]
theorem ok_text {P : R → Prop} {k : R → Option R} {s : ByteArray} (hs : s.size ≤ 1000000) (h : Ok P (k [.bool (txtOkB s)])) : Ok P (bd (spec_l01Text (.str s)) k) := by
  refine ok_call (Q := fun r => r = [.bool (txtOkB s)]) ?_ (fun r hr => by rw [hr]; exact h)
  rw [spec_l01Text_eq]
  refine ok_slen (ok_gtr (ok_ite (fun h => ok_some ?_) (fun h => ?_)))
  · have : ¬ ((s.size : Int) ≤ 60) := by omega
    simp [txtOkB, this]
  · refine (spec_text_loop hs _ 0 rfl (by omega)).mono ?_
    rintro r rfl
    have : (s.size : Int) ≤ 60 := by omega
    rw [List.drop_zero]
    simp [txtOkB, this]
theorem impl_text_loop {s : ByteArray} (hs : s.size ≤ 1000000) : ∀ (j i : Nat), s.data.toList.length - i = j → i ≤ s.data.toList.length →
    Ok (fun r => r = [.bool (decide ((s.size : Int) ≤ 60) && (s.data.toList.drop i).all chB)]) (impl_textOk_c2 (.str s) (.int .i64 s.size) (.int .i64 i)) := by
  have hsz : s.size = s.data.toList.length := by rw [Array.length_toList]; rfl
  intro j
  induction j with
  | zero =>
    intro i h1 h2
    have : i = s.data.toList.length := by omega
    rw [impl_textOk_c2_eq]
    refine ok_lss (ok_ite (fun h => by omega) (fun _ => ok_slen (ok_leq (ok_some ?_))))
    rw [this, List.drop_length]
    simp
  | succ j ih =>
    intro i h1 h2
    have hi : i < s.data.toList.length := by omega
    rw [impl_textOk_c2_eq, drop_all hi]
    refine ok_lss (ok_ite (fun _ => ?_) (fun h => by omega))
    refine ok_chr hi (ok_lss (ok_ite (fun h => ok_some (by rw [chB_1 h]; simp)) (fun h3 => ?_)))
    refine ok_chr hi (ok_gtr (ok_ite (fun h => ok_some (by rw [chB_2 h]; simp)) (fun h4 => ?_)))
    refine ok_chr hi (ok_eql (ok_ite (fun h => ok_some (by rw [chB_3 h]; simp)) (fun h5 => ?_)))
    refine ok_add (by omega) ((ih (i + 1) (by omega) (by omega)).mono ?_)
    rintro r rfl
    have : chB s.data.toList[i] = true := by unfold chB; rw [decide_eq_false h3, decide_eq_false h4, decide_eq_false h5]; rfl
    rw [this, Bool.true_and]
theorem impl_text {s : ByteArray} (hs : s.size ≤ 1000000) : Ok (fun r => r = [.bool (txtOkB s)]) (impl_textOk (.str s)) := by
  rw [impl_textOk_eq]
  refine ok_slen ((impl_text_loop hs _ 0 rfl (by omega)).mono ?_)
  rintro r rfl
  rw [List.drop_zero]
  rfl
end Go.Proofs.YtjgleeamiclokaaGreat
