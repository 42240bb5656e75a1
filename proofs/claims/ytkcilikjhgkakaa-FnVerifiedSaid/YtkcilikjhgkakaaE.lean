/-
  Texts of the proof, part 5: a value-level evaluator and its soundness, what the functions compute, laws about it.
  Conditions: none.
-/
import Derived.Test.YtkcilikjhgkakaaD
import Derived.Calls
import Derived.KernelRfl
import Derived.Orders
import Derived.IntWalk
import Derived.Test.YtkcilikjhgkakaaProg
import Derived.Laws.IdiomCopy
import Derived.Laws.Cells
import Derived.Below
import Derived.Laws.StructEq
import Derived.Laws.BytesString
import Derived.Laws.NewFold
import Derived.Laws.Tables
import Derived.Great.FillDense
set_option linter.all false
namespace Go.Proofs.Ytkcilikjhgkakaa
open Go
theorem impl_UsesOf_c24_eq (x0 x1 x2 x3 : PV) : impl_UsesOf_c24 x0 x1 x2 x3 =
  bd (PV.bin .eql x2 (.int .i64 24)) fun v507 =>
  PV.ite v507
    (bd (PV.len x1) fun v508 =>
    bd (impl_isPlace x3 v508) fun r509 =>
    PV.ite (hd r509)
      (impl_UsesOf_c25 x0 x1 x2 x3)
      (some [(.tup [(.int .i64 0), (.int .i64 0)])]))
    (some [(.tup [(.int .i64 0), (.int .i64 0)])]) := goOnEq _ _ _ _ _ _ _ _ (by kernel_rfl)
theorem impl_UsesOf_c25_eq (x0 x1 x2 x3 : PV) : impl_UsesOf_c25 x0 x1 x2 x3 =
  bd (PV.at_ 3 true x1 x3) fun v510 =>
  bd (PV.cell v510 0) fun v511 =>
  some [(.tup [v511, (.int .i64 1)])] := goOnEq _ _ _ _ _ _ _ _ (by kernel_rfl)
theorem impl_inRange_eq (x0 x1 x2 : PV) : impl_inRange x0 x1 x2 =
  bd (PV.bin .leq x1 x0) fun v512 =>
  PV.ite v512
    (bd (PV.bin .leq x0 x2) fun v513 =>
    some [v513])
    (some [(.bool false)]) := pcallEq _ _ _ (by kernel_rfl)
theorem slices_ContainsFunc_string_string_eq (x0 x1 : PV) : slices_ContainsFunc_string_string x0 x1 =
  bd (slices_IndexFunc_string_string x0 x1) fun r514 =>
  bd (PV.bin .geq (hd r514) (.int .i64 0)) fun v515 =>
  some [v515] := pcallEq _ _ _ (by kernel_rfl)
theorem impl_ModuleOk_1_eq (x0 : PV) : impl_ModuleOk_1 x0 =
  bd (impl_textOk x0) fun r516 =>
  bd (PV.not (hd r516)) fun v517 =>
  some [v517] := pcallEq _ _ _ (by kernel_rfl)
theorem slices_ContainsFunc_impl_Ins_impl_Ins_eq (x0 x1 : PV) : slices_ContainsFunc_impl_Ins_impl_Ins x0 x1 =
  bd (slices_IndexFunc_impl_Ins_impl_Ins x0 x1) fun r518 =>
  bd (PV.bin .geq (hd r518) (.int .i64 0)) fun v519 =>
  some [v519] := pcallEq _ _ _ (by kernel_rfl)
theorem impl_ModuleOk_2_eq (x0 x1 x2 : PV) : impl_ModuleOk_2 x0 x1 x2 =
  bd (PV.whole 2 x0) fun v520 =>
  bd (PV.cell v520 0) fun v521 =>
  bd (PV.cell v520 1) fun v522 =>
  bd (PV.deref x1 0) fun v523 =>
  bd (PV.deref x1 1) fun v524 =>
  bd (PV.deref x2 0) fun v525 =>
  bd (PV.deref x2 1) fun v526 =>
  bd (PV.deref x2 2) fun v527 =>
  bd (impl_insOk (.agg [v523, v524]) (.agg [v525, v526, v527]) (.agg [v521, v522])) fun r528 =>
  bd (PV.not (hd r528)) fun v529 =>
  some [v529] := pcallEq _ _ _ (by kernel_rfl)
theorem spec_l01Between_eq (x0 x1 x2 : PV) : spec_l01Between x0 x1 x2 =
  bd (PV.bin .geq x0 x1) fun v530 =>
  PV.ite v530
    (bd (PV.bin .leq x0 x2) fun v531 =>
    some [v531])
    (some [(.bool false)]) := pcallEq _ _ _ (by kernel_rfl)
theorem spec_l01Text_eq (x0 : PV) : spec_l01Text x0 =
  bd (PV.slen x0) fun v532 =>
  bd (PV.bin .gtr v532 (.int .i64 60)) fun v533 =>
  PV.ite v533
    (some [(.bool false)])
    (spec_l01Text_c4 x0 (.int .i64 0)) := pcallEq _ _ _ (by kernel_rfl)
theorem spec_l01Text_c4_eq (x0 x1 : PV) : spec_l01Text_c4 x0 x1 =
  bd (PV.slen x0) fun v534 =>
  bd (PV.bin .lss x1 v534) fun v535 =>
  PV.ite v535
    (bd (PV.chr x0 x1) fun v536 =>
    bd (PV.bin .lss v536 (.int .u8 32)) fun v537 =>
    PV.ite v537
      (some [(.bool false)])
      (bd (PV.chr x0 x1) fun v538 =>
      bd (PV.bin .gtr v538 (.int .u8 126)) fun v539 =>
      PV.ite v539
        (some [(.bool false)])
        (bd (PV.chr x0 x1) fun v540 =>
        bd (PV.bin .eql v540 (.int .u8 34)) fun v541 =>
        PV.ite v541
          (some [(.bool false)])
          (bd (PV.bin .add x1 (.int .i64 1)) fun v542 =>
          spec_l01Text_c4 x0 v542))))
    (some [(.bool true)]) := goOnEq _ _ _ _ _ _ _ _ (by kernel_rfl)
theorem spec_InsOk_eq (x0 x1 x2 : PV) : spec_InsOk x0 x1 x2 =
  bd (PV.whole 2 x0) fun v543 =>
  bd (PV.cell v543 0) fun v544 =>
  bd (PV.cell v543 1) fun v545 =>
  bd (PV.whole 2 x2) fun v546 =>
  bd (PV.cell v546 0) fun v547 =>
  bd (PV.cell v546 1) fun v548 =>
  bd (PV.len v545) fun v549 =>
  bd (PV.bin .sub v549 (.int .i64 1)) fun v550 =>
  bd (spec_l01Between x1 (.int .i64 0) v550) fun r551 =>
  bd (PV.not (hd r551)) fun v552 =>
  PV.ite v552
    (some [(.bool false)])
    (bd (PV.bin .eql v547 (.int .i64 1)) fun v553 =>
    PV.ite v553
      (bd (spec_l01Between v548 (.int .i64 (-1000000000)) (.int .i64 1000000000)) fun r554 =>
      some [(hd r554)])
      (bd (PV.bin .eql v547 (.int .i64 2)) fun v555 =>
      PV.ite v555
        (bd (spec_l01Between v548 (.int .i64 0) (.int .i64 1)) fun r556 =>
        some [(hd r556)])
        (bd (PV.bin .eql v547 (.int .i64 3)) fun v557 =>
        PV.ite v557
          (bd (PV.len v544) fun v558 =>
          bd (PV.bin .sub v558 (.int .i64 1)) fun v559 =>
          bd (spec_l01Between v548 (.int .i64 0) v559) fun r560 =>
          some [(hd r560)])
          (bd (PV.bin .eql v547 (.int .i64 5)) fun v561 =>
          PV.ite v561
            (bd (PV.len v545) fun v562 =>
            bd (PV.bin .sub v562 (.int .i64 1)) fun v563 =>
            bd (spec_l01Between v548 (.int .i64 0) v563) fun r564 =>
            some [(hd r564)])
            (bd (PV.bin .eql v547 (.int .i64 24)) fun v565 =>
            PV.ite v565
              (bd (PV.len v545) fun v566 =>
              bd (PV.bin .sub v566 (.int .i64 1)) fun v567 =>
              bd (spec_l01Between v548 (.int .i64 0) v567) fun r568 =>
              some [(hd r568)])
              (bd (PV.bin .eql v547 (.int .i64 6)) fun v569 =>
              PV.ite v569
                (bd (PV.at_ 3 true v545 x1) fun v570 =>
                bd (PV.cell v570 1) fun v571 =>
                bd (PV.bin .sub v571 (.int .i64 1)) fun v572 =>
                bd (spec_l01Between v548 (.int .i64 0) v572) fun r573 =>
                some [(hd r573)])
                (bd (PV.bin .eql v547 (.int .i64 7)) fun v574 =>
                PV.ite v574
                  (bd (PV.at_ 3 true v545 x1) fun v575 =>
                  bd (PV.cell v575 1) fun v576 =>
                  bd (PV.bin .sub v576 (.int .i64 1)) fun v577 =>
                  bd (spec_l01Between v548 (.int .i64 0) v577) fun r578 =>
                  some [(hd r578)])
                  (bd (PV.bin .eql v547 (.int .i64 17)) fun v579 =>
                  PV.ite v579
                    (bd (PV.at_ 3 true v545 x1) fun v580 =>
                    bd (PV.cell v580 2) fun v581 =>
                    bd (PV.len v581) fun v582 =>
                    bd (PV.bin .sub v582 (.int .i64 1)) fun v583 =>
                    bd (spec_l01Between v548 (.int .i64 0) v583) fun r584 =>
                    some [(hd r584)])
                    (bd (PV.bin .eql v547 (.int .i64 18)) fun v585 =>
                    PV.ite v585
                      (bd (PV.at_ 3 true v545 x1) fun v586 =>
                      bd (PV.cell v586 2) fun v587 =>
                      bd (PV.len v587) fun v588 =>
                      bd (PV.bin .sub v588 (.int .i64 1)) fun v589 =>
                      bd (spec_l01Between v548 (.int .i64 0) v589) fun r590 =>
                      some [(hd r590)])
                      (bd (PV.bin .eql v547 (.int .i64 19)) fun v591 =>
                      PV.ite v591
                        (bd (PV.at_ 3 true v545 x1) fun v592 =>
                        bd (PV.cell v592 2) fun v593 =>
                        bd (PV.len v593) fun v594 =>
                        bd (PV.bin .sub v594 (.int .i64 1)) fun v595 =>
                        bd (spec_l01Between v548 (.int .i64 0) v595) fun r596 =>
                        some [(hd r596)])
                        (bd (PV.bin .eql v547 (.int .i64 20)) fun v597 =>
                        PV.ite v597
                          (bd (spec_l01Between v548 (.int .i64 0) (.int .i64 6)) fun r598 =>
                          some [(hd r598)])
                          (bd (PV.bin .eql v547 (.int .i64 21)) fun v599 =>
                          PV.ite v599
                            (bd (spec_l01Between v548 (.int .i64 0) (.int .i64 5)) fun r600 =>
                            some [(hd r600)])
                            (bd (PV.bin .eql v547 (.int .i64 22)) fun v601 =>
                            PV.ite v601
                              (bd (spec_l01Between v548 (.int .i64 0) (.int .i64 5)) fun r602 =>
                              some [(hd r602)])
                              (bd (PV.bin .eql v547 (.int .i64 23)) fun v603 =>
                              PV.ite v603
                                (bd (spec_l01Between v548 (.int .i64 0) (.int .i64 6)) fun r604 =>
                                some [(hd r604)])
                                (bd (spec_l01Between v547 (.int .i64 1) (.int .i64 26)) fun r605 =>
                                PV.ite (hd r605)
                                  (bd (PV.bin .eql v548 (.int .i64 0)) fun v606 =>
                                  some [v606])
                                  (some [(.bool false)])))))))))))))))) := pcallEq _ _ _ (by kernel_rfl)
theorem slices_Equal_byte_byte_eq (x0 x1 : PV) : slices_Equal_byte_byte x0 x1 =
  bd (PV.len x0) fun v607 =>
  bd (PV.len x1) fun v608 =>
  bd (PV.bin .neq v607 v608) fun v609 =>
  PV.ite v609
    (some [(.bool false)])
    (bd (PV.len x0) fun v610 =>
    slices_Equal_byte_byte_c4 x0 x1 v610 (.int .i64 0)) := pcallEq _ _ _ (by kernel_rfl)
theorem slices_Equal_byte_byte_c4_eq (x0 x1 x2 x3 : PV) : slices_Equal_byte_byte_c4 x0 x1 x2 x3 =
  bd (PV.bin .lss x3 x2) fun v611 =>
  PV.ite v611
    (bd (PV.at_ 1 false x0 x3) fun v612 =>
    bd (PV.at_ 1 false x1 x3) fun v613 =>
    bd (PV.bin .neq v612 v613) fun v614 =>
    PV.ite v614
      (some [(.bool false)])
      (bd (PV.bin .add x3 (.int .i64 1)) fun v615 =>
      slices_Equal_byte_byte_c4 x0 x1 x2 v615))
    (some [(.bool true)]) := goOnEq _ _ _ _ _ _ _ _ (by kernel_rfl)
theorem laws_sameTexts_eq (x0 x1 : PV) : laws_sameTexts x0 x1 =
  bd (PV.len x0) fun v616 =>
  bd (PV.len x1) fun v617 =>
  bd (PV.bin .neq v616 v617) fun v618 =>
  PV.ite v618
    (some [(.bool false)])
    (laws_sameTexts_c4 x0 x1 (.int .i64 0)) := pcallEq _ _ _ (by kernel_rfl)
theorem laws_sameTexts_c4_eq (x0 x1 x2 : PV) : laws_sameTexts_c4 x0 x1 x2 =
  bd (PV.len x0) fun v619 =>
  bd (PV.bin .lss x2 v619) fun v620 =>
  PV.ite v620
    (bd (PV.at_ 1 false x0 x2) fun v621 =>
    bd (PV.at_ 1 false x1 x2) fun v622 =>
    bd (PV.bin .neq v621 v622) fun v623 =>
    PV.ite v623
      (some [(.bool false)])
      (bd (PV.bin .add x2 (.int .i64 1)) fun v624 =>
      laws_sameTexts_c4 x0 x1 v624))
    (some [(.bool true)]) := goOnEq _ _ _ _ _ _ _ _ (by kernel_rfl)
theorem spec_l01Same_eq (x0 x1 : PV) : spec_l01Same x0 x1 =
  bd (PV.len x0) fun v625 =>
  bd (PV.len x1) fun v626 =>
  bd (PV.bin .neq v625 v626) fun v627 =>
  PV.ite v627
    (some [(.bool false)])
    (spec_l01Same_c4 x0 x1 (.int .i64 0)) := pcallEq _ _ _ (by kernel_rfl)
theorem spec_l01Same_c4_eq (x0 x1 x2 : PV) : spec_l01Same_c4 x0 x1 x2 =
  bd (PV.len x0) fun v628 =>
  bd (PV.bin .lss x2 v628) fun v629 =>
  PV.ite v629
    (bd (PV.at_ 1 false x0 x2) fun v630 =>
    bd (PV.at_ 1 false x1 x2) fun v631 =>
    bd (PV.bin .neq v630 v631) fun v632 =>
    PV.ite v632
      (some [(.bool false)])
      (bd (PV.bin .add x2 (.int .i64 1)) fun v633 =>
      spec_l01Same_c4 x0 x1 v633))
    (some [(.bool true)]) := goOnEq _ _ _ _ _ _ _ _ (by kernel_rfl)
theorem spec_l03Depths_eq (x0 x1 : PV) : spec_l03Depths x0 x1 =
  bd (PV.whole 2 x0) fun v634 =>
  bd (PV.cell v634 0) fun v635 =>
  bd (PV.cell v634 1) fun v636 =>
  bd (PV.at_ 3 true v636 x1) fun v637 =>
  bd (PV.cell v637 2) fun v638 =>
  spec_l03Depths_c4 v638 (.int .i64 0) v635 v636 (.lst []) := pcallEq _ _ _ (by kernel_rfl)
theorem spec_l03Depths_c4_eq (x0 x1 x2 x3 x4 : PV) : spec_l03Depths_c4 x0 x1 x2 x3 x4 =
  bd (PV.len x0) fun v639 =>
  bd (PV.bin .lss x1 v639) fun v640 =>
  PV.ite v640
    (bd (PV.cat 1 8 false x4 (.lst [(.int .i64 (-1))])) fun v641 =>
    bd (PV.bin .add x1 (.int .i64 1)) fun v642 =>
    spec_l03Depths_c4 x0 v642 x2 x3 v641)
    (bd (PV.inb x4 (.int .i64 0)) fun v643 =>
    bd (PV.setAt 1 false x4 (.int .i64 0) (.int .i64 0)) fun v644 =>
    spec_l03Depths_c9 x0 (.bool true) x2 x3 v644) := goOnEq _ _ _ _ _ _ _ _ (by kernel_rfl)
theorem spec_l03Depths_c9_eq (x0 x1 x2 x3 x4 : PV) : spec_l03Depths_c9 x0 x1 x2 x3 x4 =
  PV.ite x1
    (spec_l03Depths_c12 x0 (.bool false) (.int .i64 0) x2 x3 x4)
    (some [x4]) := goOnEq _ _ _ _ _ _ _ _ (by kernel_rfl)
theorem spec_l03Depths_c12_eq (x0 x1 x2 x3 x4 x5 : PV) : spec_l03Depths_c12 x0 x1 x2 x3 x4 x5 =
  bd (PV.len x0) fun v645 =>
  bd (PV.bin .lss x2 v645) fun v646 =>
  PV.ite v646
    (bd (PV.at_ 2 true x0 x2) fun v647 =>
    bd (spec_UsesOf (.agg [x3, x4]) v647) fun r648 =>
    bd (PV.comp (hd r648) 0) fun v649 =>
    bd (PV.comp (hd r648) 1) fun v650 =>
    bd (PV.inb x5 x2) fun v651 =>
    bd (PV.at_ 1 false x5 x2) fun v652 =>
    bd (PV.bin .sub v652 v649) fun v653 =>
    bd (PV.bin .add v653 v650) fun v654 =>
    bd (PV.inb x5 x2) fun v655 =>
    bd (PV.at_ 1 false x5 x2) fun v656 =>
    bd (PV.bin .lss v656 v649) fun v657 =>
    PV.ite v657
      (bd (PV.bin .add x2 (.int .i64 1)) fun v658 =>
      spec_l03Depths_c12 x0 x1 v658 x3 x4 x5)
      (bd (PV.bin .gtr v654 (.int .i64 16)) fun v659 =>
      PV.ite v659
        (bd (PV.bin .add x2 (.int .i64 1)) fun v660 =>
        spec_l03Depths_c12 x0 x1 v660 x3 x4 x5)
        (bd (PV.at_ 2 true x0 x2) fun v661 =>
        bd (spec_l03Next v661 x2) fun r662 =>
        spec_l03Depths_c19 x0 x1 x2 v654 (hd r662) (.int .i64 0) x3 x4 x5)))
    (spec_l03Depths_c9 x0 x1 x3 x4 x5) := goOnEq _ _ _ _ _ _ _ _ (by kernel_rfl)
theorem spec_l03Depths_c19_eq (x0 x1 x2 x3 x4 x5 x6 x7 x8 : PV) : spec_l03Depths_c19 x0 x1 x2 x3 x4 x5 x6 x7 x8 =
  bd (PV.len x4) fun v663 =>
  bd (PV.bin .lss x5 v663) fun v664 =>
  PV.ite v664
    (bd (PV.at_ 1 false x4 x5) fun v665 =>
    bd (PV.len x0) fun v666 =>
    bd (PV.bin .lss v665 v666) fun v667 =>
    PV.ite v667
      (bd (PV.at_ 1 false x4 x5) fun v668 =>
      bd (PV.inb x8 v668) fun v669 =>
      bd (PV.at_ 1 false x8 v668) fun v670 =>
      bd (PV.bin .lss v670 (.int .i64 0)) fun v671 =>
      PV.ite v671
        (spec_l03Depths_c22 x0 x2 x3 x4 x5 x6 x7 x8)
        (bd (PV.bin .add x5 (.int .i64 1)) fun v672 =>
        spec_l03Depths_c19 x0 x1 x2 x3 x4 v672 x6 x7 x8))
      (bd (PV.bin .add x5 (.int .i64 1)) fun v673 =>
      spec_l03Depths_c19 x0 x1 x2 x3 x4 v673 x6 x7 x8))
    (bd (PV.bin .add x2 (.int .i64 1)) fun v674 =>
    spec_l03Depths_c12 x0 x1 v674 x6 x7 x8) := goOnEq _ _ _ _ _ _ _ _ (by kernel_rfl)
theorem spec_l03Depths_c22_eq (x0 x1 x2 x3 x4 x5 x6 x7 : PV) : spec_l03Depths_c22 x0 x1 x2 x3 x4 x5 x6 x7 =
  bd (PV.at_ 1 false x3 x4) fun v675 =>
  bd (PV.inb x7 v675) fun v676 =>
  bd (PV.setAt 1 false x7 v675 x2) fun v677 =>
  bd (PV.bin .add x4 (.int .i64 1)) fun v678 =>
  spec_l03Depths_c19 x0 (.bool true) x1 x2 x3 v678 x5 x6 v677 := goOnEq _ _ _ _ _ _ _ _ (by kernel_rfl)
theorem spec_UsesOf_eq (x0 x1 : PV) : spec_UsesOf x0 x1 =
  bd (PV.whole 2 x0) fun v679 =>
  bd (PV.cell v679 0) fun v680 =>
  bd (PV.cell v679 1) fun v681 =>
  bd (PV.whole 2 x1) fun v682 =>
  bd (PV.cell v682 0) fun v683 =>
  bd (PV.cell v682 1) fun v684 =>
  bd (PV.bin .eql v683 (.int .i64 1)) fun v685 =>
  PV.ite v685
    (some [(.tup [(.int .i64 0), (.int .i64 1)])])
    (bd (PV.bin .eql v683 (.int .i64 2)) fun v686 =>
    PV.ite v686
      (some [(.tup [(.int .i64 0), (.int .i64 1)])])
      (bd (PV.bin .eql v683 (.int .i64 3)) fun v687 =>
      PV.ite v687
        (some [(.tup [(.int .i64 0), (.int .i64 1)])])
        (bd (PV.bin .eql v683 (.int .i64 4)) fun v688 =>
        PV.ite v688
          (some [(.tup [(.int .i64 0), (.int .i64 1)])])
          (bd (PV.bin .eql v683 (.int .i64 5)) fun v689 =>
          PV.ite v689
            (some [(.tup [(.int .i64 0), (.int .i64 1)])])
            (bd (PV.bin .eql v683 (.int .i64 6)) fun v690 =>
            PV.ite v690
              (some [(.tup [(.int .i64 0), (.int .i64 1)])])
              (bd (PV.bin .eql v683 (.int .i64 20)) fun v691 =>
              PV.ite v691
                (some [(.tup [(.int .i64 0), (.int .i64 1)])])
                (bd (PV.bin .eql v683 (.int .i64 7)) fun v692 =>
                PV.ite v692
                  (some [(.tup [(.int .i64 1), (.int .i64 0)])])
                  (bd (PV.bin .eql v683 (.int .i64 9)) fun v693 =>
                  PV.ite v693
                    (some [(.tup [(.int .i64 1), (.int .i64 0)])])
                    (bd (PV.bin .eql v683 (.int .i64 18)) fun v694 =>
                    PV.ite v694
                      (some [(.tup [(.int .i64 1), (.int .i64 0)])])
                      (bd (PV.bin .eql v683 (.int .i64 19)) fun v695 =>
                      PV.ite v695
                        (some [(.tup [(.int .i64 1), (.int .i64 0)])])
                        (bd (PV.bin .eql v683 (.int .i64 25)) fun v696 =>
                        PV.ite v696
                          (some [(.tup [(.int .i64 1), (.int .i64 0)])])
                          (bd (PV.bin .eql v683 (.int .i64 26)) fun v697 =>
                          PV.ite v697
                            (some [(.tup [(.int .i64 1), (.int .i64 0)])])
                            (bd (PV.bin .eql v683 (.int .i64 8)) fun v698 =>
                            PV.ite v698
                              (some [(.tup [(.int .i64 1), (.int .i64 2)])])
                              (bd (PV.bin .eql v683 (.int .i64 10)) fun v699 =>
                              PV.ite v699
                                (some [(.tup [(.int .i64 2), (.int .i64 2)])])
                                (bd (PV.bin .eql v683 (.int .i64 11)) fun v700 =>
                                PV.ite v700
                                  (some [(.tup [(.int .i64 2), (.int .i64 1)])])
                                  (bd (PV.bin .eql v683 (.int .i64 12)) fun v701 =>
                                  PV.ite v701
                                    (some [(.tup [(.int .i64 2), (.int .i64 1)])])
                                    (bd (PV.bin .eql v683 (.int .i64 13)) fun v702 =>
                                    PV.ite v702
                                      (some [(.tup [(.int .i64 2), (.int .i64 1)])])
                                      (bd (PV.bin .eql v683 (.int .i64 14)) fun v703 =>
                                      PV.ite v703
                                        (some [(.tup [(.int .i64 2), (.int .i64 1)])])
                                        (bd (PV.bin .eql v683 (.int .i64 15)) fun v704 =>
                                        PV.ite v704
                                          (some [(.tup [(.int .i64 2), (.int .i64 1)])])
                                          (bd (PV.bin .eql v683 (.int .i64 16)) fun v705 =>
                                          PV.ite v705
                                            (some [(.tup [(.int .i64 1), (.int .i64 1)])])
                                            (bd (PV.bin .eql v683 (.int .i64 21)) fun v706 =>
                                            PV.ite v706
                                              (some [(.tup [(.int .i64 1), (.int .i64 1)])])
                                              (bd (PV.bin .eql v683 (.int .i64 22)) fun v707 =>
                                              PV.ite v707
                                                (some [(.tup [(.int .i64 2), (.int .i64 0)])])
                                                (bd (PV.bin .eql v683 (.int .i64 23)) fun v708 =>
                                                PV.ite v708
                                                  (bd (spec_l01Between v684 (.int .i64 0) (.int .i64 6)) fun r709 =>
                                                  PV.ite (hd r709)
                                                    (bd (PV.bin .add v684 (.int .i64 1)) fun v710 =>
                                                    some [(.tup [v710, (.int .i64 1)])])
                                                    (some [(.tup [(.int .i64 0), (.int .i64 0)])]))
                                                  (bd (PV.bin .eql v683 (.int .i64 24)) fun v711 =>
                                                  PV.ite v711
                                                    (bd (PV.len v681) fun v712 =>
                                                    bd (PV.bin .sub v712 (.int .i64 1)) fun v713 =>
                                                    bd (spec_l01Between v684 (.int .i64 0) v713) fun r714 =>
                                                    PV.ite (hd r714)
                                                      (bd (PV.at_ 3 true v681 v684) fun v715 =>
                                                      bd (PV.cell v715 0) fun v716 =>
                                                      some [(.tup [v716, (.int .i64 1)])])
                                                      (some [(.tup [(.int .i64 0), (.int .i64 0)])]))
                                                    (some [(.tup [(.int .i64 0), (.int .i64 0)])]))))))))))))))))))))))))) := pcallEq _ _ _ (by kernel_rfl)
theorem spec_l03Next_eq (x0 x1 : PV) : spec_l03Next x0 x1 =
  bd (PV.whole 2 x0) fun v717 =>
  bd (PV.cell v717 0) fun v718 =>
  bd (PV.cell v717 1) fun v719 =>
  bd (PV.bin .neq v718 (.int .i64 17)) fun v720 =>
  PV.ite v720
    (bd (PV.bin .neq v718 (.int .i64 25)) fun v721 =>
    PV.ite v721
      (spec_l03Next_c3 x1 v718 v719 (.lst []))
      (spec_l03Next_c4 v718 v719 (.lst [])))
    (spec_l03Next_c4 v718 v719 (.lst [])) := pcallEq _ _ _ (by kernel_rfl)
theorem spec_l03Next_c3_eq (x0 x1 x2 x3 : PV) : spec_l03Next_c3 x0 x1 x2 x3 =
  bd (PV.bin .add x0 (.int .i64 1)) fun v722 =>
  bd (PV.cat 1 8 false (.lst []) (.lst [v722])) fun v723 =>
  bd (PV.cat 1 8 false x3 v723) fun v724 =>
  spec_l03Next_c4 x1 x2 v724 := goOnEq _ _ _ _ _ _ _ _ (by kernel_rfl)
theorem spec_l03Next_c4_eq (x0 x1 x2 : PV) : spec_l03Next_c4 x0 x1 x2 =
  bd (PV.bin .eql x0 (.int .i64 17)) fun v725 =>
  PV.ite v725
    (spec_l03Next_c5 x0 x1 x2)
    (bd (PV.bin .eql x0 (.int .i64 18)) fun v726 =>
    PV.ite v726
      (spec_l03Next_c5 x0 x1 x2)
      (bd (PV.bin .eql x0 (.int .i64 19)) fun v727 =>
      PV.ite v727
        (spec_l03Next_c5 x0 x1 x2)
        (some [x2]))) := goOnEq _ _ _ _ _ _ _ _ (by kernel_rfl)
theorem spec_l03Next_c5_eq (x0 x1 x2 : PV) : spec_l03Next_c5 x0 x1 x2 =
  bd (PV.cat 1 8 false (.lst []) (.lst [x1])) fun v728 =>
  bd (PV.cat 1 8 false x2 v728) fun v729 =>
  some [v729] := goOnEq _ _ _ _ _ _ _ _ (by kernel_rfl)
theorem impl_depths_eq (x0 x1 : PV) : impl_depths x0 x1 =
  bd (PV.whole 2 x0) fun v730 =>
  bd (PV.cell v730 0) fun v731 =>
  bd (PV.cell v730 1) fun v732 =>
  bd (PV.at_ 3 true v732 x1) fun v733 =>
  bd (PV.cell v733 2) fun v734 =>
  bd (PV.len v734) fun v735 =>
  bd (slices_Repeat_int_int (.lst [(.int .i64 (-1))]) v735) fun r736 =>
  PV.guardOwn (.own 1 8 false []) (gd r736 0) (
  bd (PV.inb (gd r736 0) (.int .i64 0)) fun v737 =>
  bd (PV.setAt 1 false (gd r736 0) (.int .i64 0) (.int .i64 0)) fun v738 =>
  impl_depths_c5 v734 (.bool true) v731 v732 v738) := pcallEq _ _ _ (by kernel_rfl)
theorem impl_depths_c5_eq (x0 x1 x2 x3 x4 : PV) : impl_depths_c5 x0 x1 x2 x3 x4 =
  PV.ite x1
    (bd (PV.len x0) fun v739 =>
    impl_depths_c8 x0 (.bool false) x0 v739 (.int .i64 0) x2 x3 x4)
    (some [x4]) := goOnEq _ _ _ _ _ _ _ _ (by kernel_rfl)
theorem impl_depths_c8_eq (x0 x1 x2 x3 x4 x5 x6 x7 : PV) : impl_depths_c8 x0 x1 x2 x3 x4 x5 x6 x7 =
  bd (PV.bin .lss x4 x3) fun v740 =>
  PV.ite v740
    (bd (PV.at_ 2 true x2 x4) fun v741 =>
    bd (PV.whole 2 v741) fun v742 =>
    bd (PV.cell v742 0) fun v743 =>
    bd (PV.cell v742 1) fun v744 =>
    bd (PV.inb x7 x4) fun v745 =>
    bd (PV.at_ 1 false x7 x4) fun v746 =>
    bd (PV.bin .lss v746 (.int .i64 0)) fun v747 =>
    PV.ite v747
      (bd (PV.bin .add x4 (.int .i64 1)) fun v748 =>
      impl_depths_c8 x0 x1 x2 x3 v748 x5 x6 x7)
      (bd (PV.inb x7 x4) fun v749 =>
      bd (PV.at_ 1 false x7 x4) fun v750 =>
      bd (impl_leaves (.agg [x5, x6]) (.agg [v743, v744]) v750) fun r751 =>
      bd (PV.comp (hd r751) 0) fun v752 =>
      bd (PV.comp (hd r751) 1) fun v753 =>
      bd (impl_follows (.agg [v743, v744]) x4) fun r754 =>
      bd (PV.len (hd r754)) fun v755 =>
      impl_depths_c13 x0 x1 v752 v753 x2 x3 x4 (hd r754) v755 (.int .i64 0) x5 x6 x7))
    (impl_depths_c5 x0 x1 x5 x6 x7) := goOnEq _ _ _ _ _ _ _ _ (by kernel_rfl)
theorem impl_depths_c13_eq (x0 x1 x2 x3 x4 x5 x6 x7 x8 x9 x10 x11 x12 : PV) : impl_depths_c13 x0 x1 x2 x3 x4 x5 x6 x7 x8 x9 x10 x11 x12 =
  bd (PV.bin .lss x9 x8) fun v756 =>
  PV.ite v756
    (bd (PV.at_ 1 false x7 x9) fun v757 =>
    PV.ite x3
      (bd (PV.len x0) fun v758 =>
      bd (PV.bin .lss v757 v758) fun v759 =>
      PV.ite v759
        (bd (PV.inb x12 v757) fun v760 =>
        bd (PV.at_ 1 false x12 v757) fun v761 =>
        bd (PV.bin .lss v761 (.int .i64 0)) fun v762 =>
        PV.ite v762
          (impl_depths_c16 x0 x2 x3 v757 x4 x5 x6 x7 x8 x9 x10 x11 x12)
          (bd (PV.bin .add x9 (.int .i64 1)) fun v763 =>
          impl_depths_c13 x0 x1 x2 x3 x4 x5 x6 x7 x8 v763 x10 x11 x12))
        (bd (PV.bin .add x9 (.int .i64 1)) fun v764 =>
        impl_depths_c13 x0 x1 x2 x3 x4 x5 x6 x7 x8 v764 x10 x11 x12))
      (bd (PV.bin .add x9 (.int .i64 1)) fun v765 =>
      impl_depths_c13 x0 x1 x2 x3 x4 x5 x6 x7 x8 v765 x10 x11 x12))
    (bd (PV.bin .add x6 (.int .i64 1)) fun v766 =>
    impl_depths_c8 x0 x1 x4 x5 v766 x10 x11 x12) := goOnEq _ _ _ _ _ _ _ _ (by kernel_rfl)
theorem impl_depths_c16_eq (x0 x1 x2 x3 x4 x5 x6 x7 x8 x9 x10 x11 x12 : PV) : impl_depths_c16 x0 x1 x2 x3 x4 x5 x6 x7 x8 x9 x10 x11 x12 =
  bd (PV.inb x12 x3) fun v767 =>
  bd (PV.setAt 1 false x12 x3 x1) fun v768 =>
  bd (PV.bin .add x9 (.int .i64 1)) fun v769 =>
  impl_depths_c13 x0 (.bool true) x1 x2 x4 x5 x6 x7 x8 v769 x10 x11 v768 := goOnEq _ _ _ _ _ _ _ _ (by kernel_rfl)
theorem impl_leaves_eq (x0 x1 x2 : PV) : impl_leaves x0 x1 x2 =
  bd (PV.whole 2 x0) fun v770 =>
  bd (PV.cell v770 0) fun v771 =>
  bd (PV.cell v770 1) fun v772 =>
  bd (PV.whole 2 x1) fun v773 =>
  bd (PV.cell v773 0) fun v774 =>
  bd (PV.cell v773 1) fun v775 =>
  bd (impl_UsesOf (.agg [v771, v772]) (.agg [v774, v775])) fun r776 =>
  bd (PV.comp (hd r776) 0) fun v777 =>
  bd (PV.comp (hd r776) 1) fun v778 =>
  bd (PV.bin .sub x2 v777) fun v779 =>
  bd (PV.bin .add v779 v778) fun v780 =>
  bd (PV.bin .leq v777 x2) fun v781 =>
  PV.ite v781
    (bd (PV.bin .leq v780 (.int .i64 16)) fun v782 =>
    some [(.tup [v780, v782])])
    (some [(.tup [v780, (.bool false)])]) := pcallEq _ _ _ (by kernel_rfl)
theorem impl_follows_eq (x0 x1 : PV) : impl_follows x0 x1 =
  bd (PV.whole 2 x0) fun v783 =>
  bd (PV.cell v783 0) fun v784 =>
  bd (PV.cell v783 1) fun v785 =>
  bd (PV.bin .eql v784 (.int .i64 25)) fun v786 =>
  PV.ite v786
    (some [(.lst [])])
    (bd (PV.bin .eql v784 (.int .i64 17)) fun v787 =>
    PV.ite v787
      (bd (PV.cat 1 8 false (.lst []) (.lst [v785])) fun v788 =>
      some [v788])
      (bd (PV.bin .eql v784 (.int .i64 18)) fun v789 =>
      PV.ite v789
        (bd (PV.bin .add x1 (.int .i64 1)) fun v790 =>
        bd (PV.cat 1 8 false (.lst []) (.lst [v790, v785])) fun v791 =>
        some [v791])
        (bd (PV.bin .eql v784 (.int .i64 19)) fun v792 =>
        PV.ite v792
          (bd (PV.bin .add x1 (.int .i64 1)) fun v793 =>
          bd (PV.cat 1 8 false (.lst []) (.lst [v793, v785])) fun v794 =>
          some [v794])
          (bd (PV.bin .add x1 (.int .i64 1)) fun v795 =>
          bd (PV.cat 1 8 false (.lst []) (.lst [v795])) fun v796 =>
          some [v796])))) := pcallEq _ _ _ (by kernel_rfl)
theorem slices_Contains_int_int_eq (x0 x1 : PV) : slices_Contains_int_int x0 x1 =
  bd (slices_Index_int_int x0 x1) fun r797 =>
  bd (PV.bin .geq (hd r797) (.int .i64 0)) fun v798 =>
  some [v798] := pcallEq _ _ _ (by kernel_rfl)
theorem slices_ContainsFunc_int_int_eq (x0 x1 : PV) : slices_ContainsFunc_int_int x0 x1 =
  bd (slices_IndexFunc_int_int x0 x1) fun r799 =>
  bd (PV.bin .geq (hd r799) (.int .i64 0)) fun v800 =>
  some [v800] := pcallEq _ _ _ (by kernel_rfl)
theorem impl_Verify_1_eq (x0 x1 x2 : PV) : impl_Verify_1 x0 x1 x2 =
  bd (PV.deref x1 0) fun v801 =>
  bd (PV.at_ 1 false v801 x0) fun v802 =>
  bd (PV.deref x2 0) fun v803 =>
  bd (PV.bin .neq v802 v803) fun v804 =>
  some [v804] := pcallEq _ _ _ (by kernel_rfl)
theorem impl_isPlace_eq (x0 x1 : PV) : impl_isPlace x0 x1 =
  bd (PV.bin .sub x1 (.int .i64 1)) fun v805 =>
  bd (impl_inRange x0 (.int .i64 0) v805) fun r806 =>
  some [(hd r806)] := pcallEq _ _ _ (by kernel_rfl)
theorem slices_IndexFunc_string_string_eq (x0 x1 : PV) : slices_IndexFunc_string_string x0 x1 =
  bd (PV.len x0) fun v807 =>
  slices_IndexFunc_string_string_c2 x0 x1 v807 (.int .i64 0) := pcallEq _ _ _ (by kernel_rfl)
theorem slices_IndexFunc_string_string_c2_eq (x0 x1 x2 x3 : PV) : slices_IndexFunc_string_string_c2 x0 x1 x2 x3 =
  bd (PV.bin .lss x3 x2) fun v808 =>
  PV.ite v808
    (bd (PV.at_ 1 false x0 x3) fun v809 =>
    bd (PV.apply pcallO x1 [v809]) fun r810 =>
    PV.ite (hd r810)
      (some [x3])
      (bd (PV.bin .add x3 (.int .i64 1)) fun v811 =>
      slices_IndexFunc_string_string_c2 x0 x1 x2 v811))
    (some [(.int .i64 (-1))]) := goOnEq _ _ _ _ _ _ _ _ (by kernel_rfl)
theorem impl_textOk_eq (x0 : PV) : impl_textOk x0 =
  bd (PV.slen x0) fun v812 =>
  impl_textOk_c2 x0 v812 (.int .i64 0) := pcallEq _ _ _ (by kernel_rfl)
theorem impl_textOk_c2_eq (x0 x1 x2 : PV) : impl_textOk_c2 x0 x1 x2 =
  bd (PV.bin .lss x2 x1) fun v813 =>
  PV.ite v813
    (bd (PV.chr x0 x2) fun v814 =>
    bd (PV.bin .lss v814 (.int .u8 32)) fun v815 =>
    PV.ite v815
      (some [(.bool false)])
      (bd (PV.chr x0 x2) fun v816 =>
      bd (PV.bin .gtr v816 (.int .u8 126)) fun v817 =>
      PV.ite v817
        (some [(.bool false)])
        (bd (PV.chr x0 x2) fun v818 =>
        bd (PV.bin .eql v818 (.int .u8 34)) fun v819 =>
        PV.ite v819
          (some [(.bool false)])
          (bd (PV.bin .add x2 (.int .i64 1)) fun v820 =>
          impl_textOk_c2 x0 x1 v820))))
    (bd (PV.slen x0) fun v821 =>
    bd (PV.bin .leq v821 (.int .i64 60)) fun v822 =>
    some [v822]) := goOnEq _ _ _ _ _ _ _ _ (by kernel_rfl)
theorem slices_IndexFunc_impl_Ins_impl_Ins_eq (x0 x1 : PV) : slices_IndexFunc_impl_Ins_impl_Ins x0 x1 =
  bd (PV.len x0) fun v823 =>
  slices_IndexFunc_impl_Ins_impl_Ins_c2 x0 x1 v823 (.int .i64 0) := pcallEq _ _ _ (by kernel_rfl)
theorem slices_IndexFunc_impl_Ins_impl_Ins_c2_eq (x0 x1 x2 x3 : PV) : slices_IndexFunc_impl_Ins_impl_Ins_c2 x0 x1 x2 x3 =
  bd (PV.bin .lss x3 x2) fun v824 =>
  PV.ite v824
    (bd (PV.at_ 2 true x0 x3) fun v825 =>
    bd (PV.apply pcallO x1 [v825]) fun r826 =>
    PV.ite (hd r826)
      (some [x3])
      (bd (PV.bin .add x3 (.int .i64 1)) fun v827 =>
      slices_IndexFunc_impl_Ins_impl_Ins_c2 x0 x1 x2 v827))
    (some [(.int .i64 (-1))]) := goOnEq _ _ _ _ _ _ _ _ (by kernel_rfl)
theorem impl_insOk_eq (x0 x1 x2 : PV) : impl_insOk x0 x1 x2 =
  bd (PV.whole 2 x0) fun v828 =>
  bd (PV.cell v828 0) fun v829 =>
  bd (PV.cell v828 1) fun v830 =>
  bd (PV.whole 3 x1) fun v831 =>
  bd (PV.cell v831 0) fun v832 =>
  bd (PV.cell v831 1) fun v833 =>
  bd (PV.cell v831 2) fun v834 =>
  bd (PV.whole 2 x2) fun v835 =>
  bd (PV.cell v835 0) fun v836 =>
  bd (PV.cell v835 1) fun v837 =>
  bd (PV.bin .eql v836 (.int .i64 1)) fun v838 =>
  PV.ite v838
    (bd (impl_isNum v837) fun r839 =>
    some [(hd r839)])
    (bd (PV.bin .eql v836 (.int .i64 2)) fun v840 =>
    PV.ite v840
      (bd (impl_inRange v837 (.int .i64 0) (.int .i64 1)) fun r841 =>
      some [(hd r841)])
      (bd (PV.bin .eql v836 (.int .i64 3)) fun v842 =>
      PV.ite v842
        (bd (PV.len v829) fun v843 =>
        bd (impl_isPlace v837 v843) fun r844 =>
        some [(hd r844)])
        (bd (PV.bin .eql v836 (.int .i64 5)) fun v845 =>
        PV.ite v845
          (bd (PV.len v830) fun v846 =>
          bd (impl_isPlace v837 v846) fun r847 =>
          some [(hd r847)])
          (bd (PV.bin .eql v836 (.int .i64 24)) fun v848 =>
          PV.ite v848
            (bd (PV.len v830) fun v849 =>
            bd (impl_isPlace v837 v849) fun r850 =>
            some [(hd r850)])
            (bd (PV.bin .eql v836 (.int .i64 6)) fun v851 =>
            PV.ite v851
              (bd (impl_isPlace v837 v833) fun r852 =>
              some [(hd r852)])
              (bd (PV.bin .eql v836 (.int .i64 7)) fun v853 =>
              PV.ite v853
                (bd (impl_isPlace v837 v833) fun r854 =>
                some [(hd r854)])
                (bd (PV.bin .eql v836 (.int .i64 17)) fun v855 =>
                PV.ite v855
                  (bd (PV.len v834) fun v856 =>
                  bd (impl_isPlace v837 v856) fun r857 =>
                  some [(hd r857)])
                  (bd (PV.bin .eql v836 (.int .i64 18)) fun v858 =>
                  PV.ite v858
                    (bd (PV.len v834) fun v859 =>
                    bd (impl_isPlace v837 v859) fun r860 =>
                    some [(hd r860)])
                    (bd (PV.bin .eql v836 (.int .i64 19)) fun v861 =>
                    PV.ite v861
                      (bd (PV.len v834) fun v862 =>
                      bd (impl_isPlace v837 v862) fun r863 =>
                      some [(hd r863)])
                      (bd (PV.bin .eql v836 (.int .i64 20)) fun v864 =>
                      PV.ite v864
                        (bd (impl_inRange v837 (.int .i64 0) (.int .i64 6)) fun r865 =>
                        some [(hd r865)])
                        (bd (PV.bin .eql v836 (.int .i64 21)) fun v866 =>
                        PV.ite v866
                          (bd (impl_isPlace v837 (.int .i64 6)) fun r867 =>
                          some [(hd r867)])
                          (bd (PV.bin .eql v836 (.int .i64 22)) fun v868 =>
                          PV.ite v868
                            (bd (impl_isPlace v837 (.int .i64 6)) fun r869 =>
                            some [(hd r869)])
                            (bd (PV.bin .eql v836 (.int .i64 23)) fun v870 =>
                            PV.ite v870
                              (bd (impl_inRange v837 (.int .i64 0) (.int .i64 6)) fun r871 =>
                              some [(hd r871)])
                              (bd (impl_inRange v836 (.int .i64 1) (.int .i64 26)) fun r872 =>
                              PV.ite (hd r872)
                                (bd (PV.bin .eql v837 (.int .i64 0)) fun v873 =>
                                some [v873])
                                (some [(.bool false)]))))))))))))))) := pcallEq _ _ _ (by kernel_rfl)
theorem slices_Index_int_int_eq (x0 x1 : PV) : slices_Index_int_int x0 x1 =
  bd (PV.len x0) fun v874 =>
  slices_Index_int_int_c2 x0 x1 v874 (.int .i64 0) := pcallEq _ _ _ (by kernel_rfl)
theorem slices_Index_int_int_c2_eq (x0 x1 x2 x3 : PV) : slices_Index_int_int_c2 x0 x1 x2 x3 =
  bd (PV.bin .lss x3 x2) fun v875 =>
  PV.ite v875
    (bd (PV.at_ 1 false x0 x3) fun v876 =>
    bd (PV.bin .eql x1 v876) fun v877 =>
    PV.ite v877
      (some [x3])
      (bd (PV.bin .add x3 (.int .i64 1)) fun v878 =>
      slices_Index_int_int_c2 x0 x1 x2 v878))
    (some [(.int .i64 (-1))]) := goOnEq _ _ _ _ _ _ _ _ (by kernel_rfl)
theorem slices_IndexFunc_int_int_eq (x0 x1 : PV) : slices_IndexFunc_int_int x0 x1 =
  bd (PV.len x0) fun v879 =>
  slices_IndexFunc_int_int_c2 x0 x1 v879 (.int .i64 0) := pcallEq _ _ _ (by kernel_rfl)
theorem slices_IndexFunc_int_int_c2_eq (x0 x1 x2 x3 : PV) : slices_IndexFunc_int_int_c2 x0 x1 x2 x3 =
  bd (PV.bin .lss x3 x2) fun v880 =>
  PV.ite v880
    (bd (PV.at_ 1 false x0 x3) fun v881 =>
    bd (PV.apply pcallO x1 [v881]) fun r882 =>
    PV.ite (hd r882)
      (some [x3])
      (bd (PV.bin .add x3 (.int .i64 1)) fun v883 =>
      slices_IndexFunc_int_int_c2 x0 x1 x2 v883))
    (some [(.int .i64 (-1))]) := goOnEq _ _ _ _ _ _ _ _ (by kernel_rfl)
theorem impl_isNum_eq (x0 : PV) : impl_isNum x0 =
  bd (impl_inRange x0 (.int .i64 (-1000000000)) (.int .i64 1000000000)) fun r884 =>
  some [(hd r884)] := pcallEq _ _ _ (by kernel_rfl)
end Go.Proofs.Ytkcilikjhgkakaa

namespace Go.Proofs.Ytkcilikjhgkakaa
open Go
theorem impl_Save_eq (x0 : PV) : impl_Save x0 =
  bd (PV.whole 2 x0) fun v885 =>
  bd (PV.cell v885 0) fun v886 =>
  bd (PV.cell v885 1) fun v887 =>
  bd (impl_ModuleOk (.agg [v886, v887])) fun r888 =>
  bd (PV.not (hd r888)) fun v889 =>
  PV.ite v889
    (some [(.lst [])])
    (bd (impl_save (.agg [v886, v887])) fun r890 =>
    PV.guardOwn (.own 1 1 false []) (gd r890 0) (
    bd (PV.len (gd r890 0)) fun v891 =>
    bd (PV.bin .gtr v891 (.int .i64 20000)) fun v892 =>
    PV.ite v892
      (some [(.lst [])])
      (some [(gd r890 0)]))) := scallEq _ _ _ _ (by kernel_rfl)
theorem spec_Save_eq (x0 : PV) : spec_Save x0 =
  bd (PV.whole 2 x0) fun v893 =>
  bd (PV.cell v893 0) fun v894 =>
  bd (PV.cell v893 1) fun v895 =>
  bd (spec_ModuleOk (.agg [v894, v895])) fun r896 =>
  bd (PV.not (hd r896)) fun v897 =>
  PV.ite v897
    (some [(.lst [])])
    (bd (PV.len v894) fun v898 =>
    bd (spec_l01Number v898 (.lst [])) fun r899 =>
    spec_Save_c6 (.int .i64 0) v894 v895 (gd r899 0)) := scallEq _ _ _ _ (by kernel_rfl)
theorem spec_Save_c6_eq (x0 x1 x2 x3 : PV) : spec_Save_c6 x0 x1 x2 x3 =
  bd (PV.len x1) fun v900 =>
  bd (PV.bin .lss x0 v900) fun v901 =>
  PV.ite v901
    (bd (PV.at_ 1 false x1 x0) fun v902 =>
    bd (PV.slen v902) fun v903 =>
    bd (spec_l01Number v903 x3) fun r904 =>
    bd (PV.at_ 1 false x1 x0) fun v905 =>
    bd (PV.cat 1 1 false (gd r904 0) v905) fun v906 =>
    bd (PV.bin .add x0 (.int .i64 1)) fun v907 =>
    spec_Save_c6 v907 x1 x2 v906)
    (bd (PV.len x2) fun v908 =>
    bd (spec_l01Number v908 x3) fun r909 =>
    spec_Save_c12 (.int .i64 0) x1 x2 (gd r909 0)) := goOnEq _ _ _ _ _ _ _ _ (by kernel_rfl)
theorem spec_Save_c12_eq (x0 x1 x2 x3 : PV) : spec_Save_c12 x0 x1 x2 x3 =
  bd (PV.len x2) fun v910 =>
  bd (PV.bin .lss x0 v910) fun v911 =>
  PV.ite v911
    (bd (PV.at_ 3 true x2 x0) fun v912 =>
    bd (PV.whole 3 v912) fun v913 =>
    bd (PV.cell v913 0) fun v914 =>
    bd (PV.cell v913 1) fun v915 =>
    bd (PV.cell v913 2) fun v916 =>
    bd (spec_l01Number v914 x3) fun r917 =>
    bd (spec_l01Number v915 (gd r917 0)) fun r918 =>
    bd (PV.len v916) fun v919 =>
    bd (spec_l01Number v919 (gd r918 0)) fun r920 =>
    spec_Save_c19 x0 (.int .i64 0) x1 x2 v914 v915 v916 (gd r920 0))
    (bd (PV.len x3) fun v921 =>
    bd (PV.bin .gtr v921 (.int .i64 20000)) fun v922 =>
    PV.ite v922
      (some [(.lst [])])
      (some [x3])) := goOnEq _ _ _ _ _ _ _ _ (by kernel_rfl)
theorem spec_Save_c19_eq (x0 x1 x2 x3 x4 x5 x6 x7 : PV) : spec_Save_c19 x0 x1 x2 x3 x4 x5 x6 x7 =
  bd (PV.len x6) fun v923 =>
  bd (PV.bin .lss x1 v923) fun v924 =>
  PV.ite v924
    (bd (PV.at_ 2 true x6 x1) fun v925 =>
    bd (PV.cell v925 0) fun v926 =>
    bd (spec_l01Number v926 x7) fun r927 =>
    bd (PV.at_ 2 true x6 x1) fun v928 =>
    bd (PV.cell v928 1) fun v929 =>
    bd (spec_l01Number v929 (gd r927 0)) fun r930 =>
    bd (PV.bin .add x1 (.int .i64 1)) fun v931 =>
    spec_Save_c19 x0 v931 x2 x3 x4 x5 x6 (gd r930 0))
    (bd (PV.bin .add x0 (.int .i64 1)) fun v932 =>
    spec_Save_c12 v932 x2 x3 x7) := goOnEq _ _ _ _ _ _ _ _ (by kernel_rfl)
theorem spec_l01Open_eq (x0 : PV) : spec_l01Open x0 =
  bd (PV.len x0) fun v933 =>
  bd (PV.bin .rem v933 (.int .i64 1000)) fun v934 =>
  bd (PV.bin .add (.int .i64 11) v934) fun v935 =>
  bd (PV.one x0) fun v936 =>
  bd (PV.one v935) fun v937 =>
  some [v936, (.int .i64 0), v937] := scallEq _ _ _ _ (by kernel_rfl)
theorem spec_l01DrawAny_eq (x0 x1 x2 x3 : PV) : spec_l01DrawAny x0 x1 x2 x3 =
  bd (spec_l01DrawModule x1 x2 x3) fun r938 =>
  bd (PV.whole 2 (gd r938 0)) fun v939 =>
  bd (PV.cell v939 0) fun v940 =>
  bd (PV.cell v939 1) fun v941 =>
  bd (spec_l01Cur_once x0 (gd r938 1) (gd r938 2) (gd r938 3)) fun r942 =>
  PV.ite (gd r942 0)
    (bd (spec_l01Spoil v940 v941 (gd r942 1) (gd r942 2) (gd r942 3)) fun r943 =>
    bd (PV.whole 2 (gd r943 0)) fun v944 =>
    bd (PV.cell v944 0) fun v945 =>
    bd (PV.cell v944 1) fun v946 =>
    some [(.agg [v945, v946]), (gd r943 1), (gd r943 2), (gd r943 3)])
    (some [(.agg [v940, v941]), (gd r942 1), (gd r942 2), (gd r942 3)]) := scallEq _ _ _ _ (by kernel_rfl)
theorem impl_byteReader_count_eq (x0 x1 x2 : PV) : impl_byteReader_count x0 x1 x2 =
  bd (impl_byteReader_num x1 x2) fun r947 =>
  bd (impl_inRange (gd r947 0) (.int .i64 0) x0) fun r948 =>
  bd (PV.not (hd r948)) fun v949 =>
  PV.ite v949
    (some [(.int .i64 0), (gd r947 1), (.bool true)])
    (some [(gd r947 0), (gd r947 1), (gd r947 2)]) := scallEq _ _ _ _ (by kernel_rfl)
theorem impl_byteReader_take_eq (x0 x1 x2 : PV) : impl_byteReader_take x0 x1 x2 =
  bd (PV.len x1) fun v950 =>
  bd (impl_inRange x0 (.int .i64 0) v950) fun r951 =>
  bd (PV.not (hd r951)) fun v952 =>
  PV.ite v952
    (some [(.lst []), x1, (.bool true)])
    (bd (PV.cut 1 false x1 (.int .i64 0) x0) fun v953 =>
    bd (PV.len x1) fun v954 =>
    bd (PV.cut 1 false x1 x0 v954) fun v955 =>
    bd (PV.one v955) fun v956 =>
    some [v953, v956, x2]) := scallEq _ _ _ _ (by kernel_rfl)
theorem impl_byteReader_num_eq (x0 x1 : PV) : impl_byteReader_num x0 x1 =
  impl_byteReader_num_c3 (.int .i64 0) (.int .i64 0) x0 x1 := scallEq _ _ _ _ (by kernel_rfl)
theorem impl_byteReader_num_c3_eq (x0 x1 x2 x3 : PV) : impl_byteReader_num_c3 x0 x1 x2 x3 =
  bd (PV.bin .lss x1 (.int .i64 42)) fun v957 =>
  PV.ite v957
    (bd (impl_byteReader_take (.int .i64 1) x2 x3) fun r958 =>
    bd (PV.len (gd r958 0)) fun v959 =>
    bd (PV.bin .eql v959 (.int .i64 0)) fun v960 =>
    PV.ite v960
      (some [(.int .i64 0), (gd r958 1), (gd r958 2)])
      (bd (PV.at_ 1 false (gd r958 0) (.int .i64 0)) fun v961 =>
      bd (PV.bin .and v961 (.int .u8 127)) fun v962 =>
      bd (PV.conv .i64 v962) fun v963 =>
      bd (PV.bin .shl v963 x1) fun v964 =>
      bd (PV.bin .or x0 v964) fun v965 =>
      bd (PV.at_ 1 false (gd r958 0) (.int .i64 0)) fun v966 =>
      bd (PV.bin .lss v966 (.int .u8 128)) fun v967 =>
      PV.ite v967
        (bd (PV.bin .rem v965 (.int .i64 2)) fun v968 =>
        bd (PV.bin .eql v968 (.int .i64 1)) fun v969 =>
        PV.ite v969
          (bd (PV.bin .quo v965 (.int .i64 2)) fun v970 =>
          bd (PV.neg v970) fun v971 =>
          bd (PV.bin .sub v971 (.int .i64 1)) fun v972 =>
          some [v972, (gd r958 1), (gd r958 2)])
          (bd (PV.bin .quo v965 (.int .i64 2)) fun v973 =>
          some [v973, (gd r958 1), (gd r958 2)]))
        (bd (PV.bin .add x1 (.int .i64 7)) fun v974 =>
        impl_byteReader_num_c3 v965 v974 (gd r958 1) (gd r958 2))))
    (some [(.int .i64 0), x2, (.bool true)]) := goOnEq _ _ _ _ _ _ _ _ (by kernel_rfl)
theorem spec_l01Cur_pick_eq (x0 x1 x2 x3 : PV) : spec_l01Cur_pick x0 x1 x2 x3 =
  bd (PV.bin .lss x0 (.int .i64 2)) fun v975 =>
  PV.ite v975
    (some [(.int .i64 0), x1, x2, x3])
    (bd (PV.len x1) fun v976 =>
    bd (PV.bin .lss x2 v976) fun v977 =>
    PV.ite v977
      (bd (PV.at_ 1 false x1 x2) fun v978 =>
      bd (PV.conv .i64 v978) fun v979 =>
      spec_l01Cur_pick_c9 x0 v979 x1 x2 x3)
      (bd (PV.bin .mul x3 (.int .i64 1103)) fun v980 =>
      bd (PV.bin .add v980 (.int .i64 12345)) fun v981 =>
      bd (PV.bin .rem v981 (.int .i64 65521)) fun v982 =>
      bd (PV.one v982) fun v983 =>
      bd (PV.len x1) fun v984 =>
      bd (PV.bin .gtr v984 (.int .i64 0)) fun v985 =>
      PV.ite v985
        (bd (PV.bin .quo v983 (.int .i64 7)) fun v986 =>
        bd (PV.len x1) fun v987 =>
        bd (PV.bin .rem x2 v987) fun v988 =>
        bd (PV.at_ 1 false x1 v988) fun v989 =>
        bd (PV.conv .i64 v989) fun v990 =>
        bd (PV.bin .add v986 v990) fun v991 =>
        spec_l01Cur_pick_c9 x0 v991 x1 x2 v983)
        (spec_l01Cur_pick_c9 x0 (.int .i64 0) x1 x2 v983))) := scallEq _ _ _ _ (by kernel_rfl)
theorem spec_l01Cur_pick_c9_eq (x0 x1 x2 x3 x4 : PV) : spec_l01Cur_pick_c9 x0 x1 x2 x3 x4 =
  bd (PV.bin .add x3 (.int .i64 1)) fun v992 =>
  bd (PV.one v992) fun v993 =>
  bd (PV.bin .rem x1 x0) fun v994 =>
  some [v994, x2, v993, x4] := goOnEq _ _ _ _ _ _ _ _ (by kernel_rfl)
theorem spec_l01Take_count_eq (x0 x1 x2 x3 : PV) : spec_l01Take_count x0 x1 x2 x3 =
  bd (spec_l01Take_number x1 x2 x3) fun r995 =>
  bd (spec_l01Between (gd r995 0) (.int .i64 0) x0) fun r996 =>
  bd (PV.not (hd r996)) fun v997 =>
  PV.ite v997
    (some [(.int .i64 0), (gd r995 1), (gd r995 2), (.bool true)])
    (some [(gd r995 0), (gd r995 1), (gd r995 2), (gd r995 3)]) := scallEq _ _ _ _ (by kernel_rfl)
theorem spec_l01Take_number_eq (x0 x1 x2 : PV) : spec_l01Take_number x0 x1 x2 =
  spec_l01Take_number_c4 (.int .i64 0) (.int .i64 1) (.int .i64 0) x0 x1 x2 := scallEq _ _ _ _ (by kernel_rfl)
theorem spec_l01Take_number_c4_eq (x0 x1 x2 x3 x4 x5 : PV) : spec_l01Take_number_c4 x0 x1 x2 x3 x4 x5 =
  bd (PV.bin .lss x2 (.int .i64 5)) fun v998 =>
  PV.ite v998
    (bd (PV.len x3) fun v999 =>
    bd (PV.bin .geq x4 v999) fun v1000 =>
    PV.ite v1000
      (some [(.int .i64 0), x3, x4, (.bool true)])
      (bd (PV.at_ 1 false x3 x4) fun v1001 =>
      bd (PV.conv .i64 v1001) fun v1002 =>
      bd (PV.bin .add x4 (.int .i64 1)) fun v1003 =>
      bd (PV.one v1003) fun v1004 =>
      bd (PV.bin .rem v1002 (.int .i64 128)) fun v1005 =>
      bd (PV.bin .mul v1005 x1) fun v1006 =>
      bd (PV.bin .add x0 v1006) fun v1007 =>
      bd (PV.bin .mul x1 (.int .i64 128)) fun v1008 =>
      bd (PV.bin .lss v1002 (.int .i64 128)) fun v1009 =>
      PV.ite v1009
        (bd (PV.bin .rem v1007 (.int .i64 2)) fun v1010 =>
        bd (PV.bin .eql v1010 (.int .i64 1)) fun v1011 =>
        PV.ite v1011
          (bd (PV.bin .add v1007 (.int .i64 1)) fun v1012 =>
          bd (PV.neg v1012) fun v1013 =>
          bd (PV.bin .quo v1013 (.int .i64 2)) fun v1014 =>
          some [v1014, x3, v1004, x5])
          (bd (PV.bin .quo v1007 (.int .i64 2)) fun v1015 =>
          some [v1015, x3, v1004, x5]))
        (bd (PV.bin .add x2 (.int .i64 1)) fun v1016 =>
        spec_l01Take_number_c4 v1007 v1008 v1016 x3 v1004 x5)))
    (some [(.int .i64 0), x3, x4, (.bool true)]) := goOnEq _ _ _ _ _ _ _ _ (by kernel_rfl)
theorem spec_l03DrawAny_eq (x0 x1 x2 : PV) : spec_l03DrawAny x0 x1 x2 =
  bd (spec_l01Cur_once (.int .i64 3) x0 x1 x2) fun r1017 =>
  PV.ite (gd r1017 0)
    (bd (spec_l03DrawOdd (gd r1017 1) (gd r1017 2) (gd r1017 3)) fun r1018 =>
    bd (PV.whole 2 (gd r1018 0)) fun v1019 =>
    bd (PV.cell v1019 0) fun v1020 =>
    bd (PV.cell v1019 1) fun v1021 =>
    some [(.agg [v1020, v1021]), (gd r1018 1), (gd r1018 2), (gd r1018 3)])
    (bd (spec_l01DrawAny (.int .i64 6) (gd r1017 1) (gd r1017 2) (gd r1017 3)) fun r1022 =>
    bd (PV.whole 2 (gd r1022 0)) fun v1023 =>
    bd (PV.cell v1023 0) fun v1024 =>
    bd (PV.cell v1023 1) fun v1025 =>
    some [(.agg [v1024, v1025]), (gd r1022 1), (gd r1022 2), (gd r1022 3)]) := scallEq _ _ _ _ (by kernel_rfl)
theorem slices_Repeat_int_int_eq (x0 x1 : PV) : slices_Repeat_int_int x0 x1 =
  bd (PV.bin .lss x1 (.int .i64 0)) fun v1026 =>
  PV.ite v1026
    (none)
    (slices_Repeat_int_int_c3 x0 x1) := scallEq _ _ _ _ (by kernel_rfl)
theorem slices_Repeat_int_int_c3_eq (x0 x1 : PV) : slices_Repeat_int_int_c3 x0 x1 =
  bd (PV.len x0) fun v1027 =>
  bd (PV.conv .u64 v1027) fun v1028 =>
  bd (PV.conv .u64 x1) fun v1029 =>
  bd (math_bits_Mul v1028 v1029) fun r1030 =>
  bd (PV.comp (hd r1030) 0) fun v1031 =>
  bd (PV.comp (hd r1030) 1) fun v1032 =>
  bd (PV.bin .gtr v1031 (.int .u64 0)) fun v1033 =>
  PV.ite v1033
    (none)
    (bd (PV.bin .gtr v1032 (.int .u64 9223372036854775807)) fun v1034 =>
    PV.ite v1034
      (none)
      (slices_Repeat_int_int_c6 x0 v1032)) := goOnEq _ _ _ _ _ _ _ _ (by kernel_rfl)
theorem slices_Repeat_int_int_c6_eq (x0 x1 : PV) : slices_Repeat_int_int_c6 x0 x1 =
  bd (PV.conv .i64 x1) fun v1035 =>
  bd (PV.zeros 8 (.int .i64 0) v1035) fun v1036 =>
  bd (PV.bin .leq v1035 v1035) fun v1037 =>
  PV.ite v1037
    (bd (PV.zeros 8 (.int .i64 0) v1035) fun v1038 =>
    bd (PV.len v1038) fun v1039 =>
    bd (PV.ncopy v1038 (.int .i64 0) v1039 x0) fun v1040 =>
    bd (PV.copyIn 1 false v1038 (.int .i64 0) v1039 x0) fun v1041 =>
    slices_Repeat_int_int_c8 v1040 v1041)
    (none) := goOnEq _ _ _ _ _ _ _ _ (by kernel_rfl)
theorem slices_Repeat_int_int_c8_eq (x0 x1 : PV) : slices_Repeat_int_int_c8 x0 x1 =
  bd (PV.len x1) fun v1042 =>
  bd (PV.bin .lss x0 v1042) fun v1043 =>
  PV.ite v1043
    (bd (PV.len x1) fun v1044 =>
    bd (PV.cut 1 false x1 x0 v1044) fun v1045 =>
    bd (PV.cut 1 false x1 (.int .i64 0) x0) fun v1046 =>
    bd (PV.cut 1 false x1 (.int .i64 0) x0) fun v1047 =>
    bd (PV.ncopy x1 x0 v1044 v1047) fun v1048 =>
    bd (PV.copyIn 1 false x1 x0 v1044 v1047) fun v1049 =>
    bd (PV.bin .add x0 v1048) fun v1050 =>
    slices_Repeat_int_int_c8 v1050 v1049)
    (some [x1]) := goOnEq _ _ _ _ _ _ _ _ (by kernel_rfl)
theorem math_bits_Mul_eq (x0 x1 : PV) : math_bits_Mul x0 x1 =
  bd (math_bits_Mul64 x0 x1) fun r1051 =>
  bd (PV.comp (hd r1051) 0) fun v1052 =>
  bd (PV.comp (hd r1051) 1) fun v1053 =>
  some [(.tup [v1052, v1053])] := pcallEq _ _ _ (by kernel_rfl)
theorem math_bits_Mul64_eq (x0 x1 : PV) : math_bits_Mul64 x0 x1 =
  bd (PV.bin .and x0 (.int .u64 4294967295)) fun v1054 =>
  bd (PV.bin .shr x0 (.int .u64 32)) fun v1055 =>
  bd (PV.bin .and x1 (.int .u64 4294967295)) fun v1056 =>
  bd (PV.bin .shr x1 (.int .u64 32)) fun v1057 =>
  bd (PV.bin .mul v1054 v1056) fun v1058 =>
  bd (PV.bin .mul v1055 v1056) fun v1059 =>
  bd (PV.bin .shr v1058 (.int .u64 32)) fun v1060 =>
  bd (PV.bin .add v1059 v1060) fun v1061 =>
  bd (PV.bin .and v1061 (.int .u64 4294967295)) fun v1062 =>
  bd (PV.bin .shr v1061 (.int .u64 32)) fun v1063 =>
  bd (PV.bin .mul v1054 v1057) fun v1064 =>
  bd (PV.bin .add v1062 v1064) fun v1065 =>
  bd (PV.bin .mul v1055 v1057) fun v1066 =>
  bd (PV.bin .add v1066 v1063) fun v1067 =>
  bd (PV.bin .shr v1065 (.int .u64 32)) fun v1068 =>
  bd (PV.bin .add v1067 v1068) fun v1069 =>
  bd (PV.bin .mul x0 x1) fun v1070 =>
  some [(.tup [v1069, v1070])] := pcallEq _ _ _ (by kernel_rfl)
theorem impl_save_eq (x0 : PV) : impl_save x0 =
  bd (PV.whole 2 x0) fun v1071 =>
  bd (PV.cell v1071 0) fun v1072 =>
  bd (PV.cell v1071 1) fun v1073 =>
  bd (PV.len v1072) fun v1074 =>
  bd (impl_putNum v1074 (.lst [])) fun r1075 =>
  bd (PV.len v1072) fun v1076 =>
  impl_save_c3 v1072 v1076 (.int .i64 0) v1072 v1073 (gd r1075 0) := scallEq _ _ _ _ (by kernel_rfl)
theorem impl_save_c3_eq (x0 x1 x2 x3 x4 x5 : PV) : impl_save_c3 x0 x1 x2 x3 x4 x5 =
  bd (PV.bin .lss x2 x1) fun v1077 =>
  PV.ite v1077
    (bd (PV.at_ 1 false x0 x2) fun v1078 =>
    bd (PV.slen v1078) fun v1079 =>
    bd (impl_putNum v1079 x5) fun r1080 =>
    bd (PV.cat 1 1 false (gd r1080 0) v1078) fun v1081 =>
    bd (PV.bin .add x2 (.int .i64 1)) fun v1082 =>
    impl_save_c3 x0 x1 v1082 x3 x4 v1081)
    (bd (PV.len x4) fun v1083 =>
    bd (impl_putNum v1083 x5) fun r1084 =>
    bd (PV.len x4) fun v1085 =>
    impl_save_c9 x4 v1085 (.int .i64 0) (gd r1084 0)) := goOnEq _ _ _ _ _ _ _ _ (by kernel_rfl)
theorem impl_save_c9_eq (x0 x1 x2 x3 : PV) : impl_save_c9 x0 x1 x2 x3 =
  bd (PV.bin .lss x2 x1) fun v1086 =>
  PV.ite v1086
    (bd (PV.at_ 3 true x0 x2) fun v1087 =>
    bd (PV.whole 3 v1087) fun v1088 =>
    bd (PV.cell v1088 0) fun v1089 =>
    bd (PV.cell v1088 1) fun v1090 =>
    bd (PV.cell v1088 2) fun v1091 =>
    bd (impl_putNum v1089 x3) fun r1092 =>
    bd (impl_putNum v1090 (gd r1092 0)) fun r1093 =>
    bd (PV.len v1091) fun v1094 =>
    bd (impl_putNum v1094 (gd r1093 0)) fun r1095 =>
    bd (PV.len v1091) fun v1096 =>
    impl_save_c13 x0 x1 x2 v1091 v1096 (.int .i64 0) (gd r1095 0))
    (some [x3]) := goOnEq _ _ _ _ _ _ _ _ (by kernel_rfl)
theorem impl_save_c13_eq (x0 x1 x2 x3 x4 x5 x6 : PV) : impl_save_c13 x0 x1 x2 x3 x4 x5 x6 =
  bd (PV.bin .lss x5 x4) fun v1097 =>
  PV.ite v1097
    (bd (PV.at_ 2 true x3 x5) fun v1098 =>
    bd (PV.whole 2 v1098) fun v1099 =>
    bd (PV.cell v1099 0) fun v1100 =>
    bd (PV.cell v1099 1) fun v1101 =>
    bd (impl_putNum v1100 x6) fun r1102 =>
    bd (impl_putNum v1101 (gd r1102 0)) fun r1103 =>
    bd (PV.bin .add x5 (.int .i64 1)) fun v1104 =>
    impl_save_c13 x0 x1 x2 x3 x4 v1104 (gd r1103 0))
    (bd (PV.bin .add x2 (.int .i64 1)) fun v1105 =>
    impl_save_c9 x0 x1 v1105 x6) := goOnEq _ _ _ _ _ _ _ _ (by kernel_rfl)
theorem spec_l01Number_eq (x0 x1 : PV) : spec_l01Number x0 x1 =
  bd (PV.bin .mul (.int .i64 2) x0) fun v1106 =>
  bd (PV.bin .lss x0 (.int .i64 0)) fun v1107 =>
  PV.ite v1107
    (bd (PV.bin .mul (.int .i64 (-2)) x0) fun v1108 =>
    bd (PV.bin .sub v1108 (.int .i64 1)) fun v1109 =>
    spec_l01Number_c4 v1109 x1)
    (spec_l01Number_c4 v1106 x1) := scallEq _ _ _ _ (by kernel_rfl)
theorem spec_l01Number_c4_eq (x0 x1 : PV) : spec_l01Number_c4 x0 x1 =
  bd (PV.bin .gtr x0 (.int .i64 127)) fun v1110 =>
  PV.ite v1110
    (bd (PV.bin .rem x0 (.int .i64 128)) fun v1111 =>
    bd (PV.bin .add (.int .i64 128) v1111) fun v1112 =>
    bd (PV.conv .u8 v1112) fun v1113 =>
    bd (PV.cat 1 1 false (.lst []) (.lst [v1113])) fun v1114 =>
    bd (PV.cat 1 1 false x1 v1114) fun v1115 =>
    bd (PV.bin .quo x0 (.int .i64 128)) fun v1116 =>
    spec_l01Number_c4 v1116 v1115)
    (bd (PV.conv .u8 x0) fun v1117 =>
    bd (PV.cat 1 1 false (.lst []) (.lst [v1117])) fun v1118 =>
    bd (PV.cat 1 1 false x1 v1118) fun v1119 =>
    some [v1119]) := goOnEq _ _ _ _ _ _ _ _ (by kernel_rfl)
theorem spec_l01DrawModule_eq (x0 x1 x2 : PV) : spec_l01DrawModule x0 x1 x2 =
  bd (spec_l01Cur_pick (.int .i64 3) x0 x1 x2) fun r1120 =>
  spec_l01DrawModule_c3 (gd r1120 0) (gd r1120 1) (gd r1120 2) (gd r1120 3) (.lst []) (.lst []) (.lst []) (.lst []) := scallEq _ _ _ _ (by kernel_rfl)
theorem spec_l01DrawModule_c3_eq (x0 x1 x2 x3 x4 x5 x6 x7 : PV) : spec_l01DrawModule_c3 x0 x1 x2 x3 x4 x5 x6 x7 =
  bd (PV.bin .gtr x0 (.int .i64 0)) fun v1121 =>
  PV.ite v1121
    (bd (spec_l01Cur_pick (.int .i64 5) x1 x2 x3) fun r1122 =>
    bd (PV.inb (.lst [(.str (bs [])), (.str (bs [97])), (.str (bs [98, 99])), (.str (bs [104, 101, 108, 108, 111, 32, 119, 111, 114, 108, 100])), (.str (bs [120, 32, 121]))]) (gd r1122 0)) fun v1123 =>
    bd (PV.at_ 1 false (.lst [(.str (bs [])), (.str (bs [97])), (.str (bs [98, 99])), (.str (bs [104, 101, 108, 108, 111, 32, 119, 111, 114, 108, 100])), (.str (bs [120, 32, 121]))]) (gd r1122 0)) fun v1124 =>
    bd (PV.cat 1 16 false (.lst []) (.lst [v1124])) fun v1125 =>
    bd (PV.cat 1 16 false x6 v1125) fun v1126 =>
    bd (PV.bin .sub x0 (.int .i64 1)) fun v1127 =>
    spec_l01DrawModule_c3 v1127 (gd r1122 1) (gd r1122 2) (gd r1122 3) x4 x5 v1126 x7)
    (bd (spec_l01Cur_pick (.int .i64 4) x1 x2 x3) fun r1128 =>
    spec_l01DrawModule_c8 (gd r1128 0) (gd r1128 1) (gd r1128 2) (gd r1128 3) x4 x5 x6 x7 (.lst [])) := goOnEq _ _ _ _ _ _ _ _ (by kernel_rfl)
theorem spec_l01DrawModule_c8_eq (x0 x1 x2 x3 x4 x5 x6 x7 x8 : PV) : spec_l01DrawModule_c8 x0 x1 x2 x3 x4 x5 x6 x7 x8 =
  bd (PV.bin .gtr x0 (.int .i64 0)) fun v1129 =>
  PV.ite v1129
    (bd (spec_l01Cur_pick (.int .i64 3) x1 x2 x3) fun r1130 =>
    bd (PV.one (gd r1130 0)) fun v1131 =>
    bd (PV.bin .add (.int .i64 1) v1131) fun v1132 =>
    bd (spec_l01Cur_pick (.int .i64 2) (gd r1130 1) (gd r1130 2) (gd r1130 3)) fun r1133 =>
    bd (PV.bin .add v1132 (gd r1133 0)) fun v1134 =>
    bd (PV.one v1134) fun v1135 =>
    bd (PV.len x6) fun v1136 =>
    bd (PV.cat 3 40 true (.lst []) x8) fun v1137 =>
    bd (PV.one v1136) fun v1138 =>
    bd (PV.one v1135) fun v1139 =>
    bd (spec_l01Cur_once (.int .i64 3) (gd r1133 1) (gd r1133 2) (gd r1133 3)) fun r1140 =>
    PV.ite (gd r1140 0)
      (bd (spec_l01Asm_list (.int .i64 1) (.int .i64 2) v1137 v1138 v1139 (.bool false) (gd r1140 1) (gd r1140 2) (gd r1140 3) (.lst [])) fun r1141 =>
      spec_l01DrawModule_c15 x0 (gd r1141 4) (gd r1141 5) (gd r1141 6) v1131 v1135 (gd r1141 0) (gd r1141 1) (gd r1141 2) (gd r1141 3) x4 x5 x6 x7 x8 (.lst []) (gd r1141 7))
      (spec_l01DrawModule_c15 x0 (gd r1140 1) (gd r1140 2) (gd r1140 3) v1131 v1135 v1137 v1138 v1139 (.bool false) x4 x5 x6 x7 x8 (.lst []) (.lst [])))
    (bd (spec_l01Cur_pick (.int .i64 3) x1 x2 x3) fun r1142 =>
    bd (spec_l01Cur_pick (.int .i64 2) (gd r1142 1) (gd r1142 2) (gd r1142 3)) fun r1143 =>
    bd (PV.bin .add (.int .i64 3) (gd r1143 0)) fun v1144 =>
    bd (PV.one (gd r1142 0)) fun v1145 =>
    bd (PV.one v1144) fun v1146 =>
    bd (PV.len x6) fun v1147 =>
    bd (PV.one v1147) fun v1148 =>
    bd (PV.one v1146) fun v1149 =>
    bd (spec_l01Cur_size (.int .i64 5) (gd r1143 1) (gd r1143 2) (gd r1143 3)) fun r1150 =>
    bd (PV.bin .add (.int .i64 1) (gd r1150 0)) fun v1151 =>
    bd (spec_l01Asm_list (.int .i64 2) v1151 x8 v1148 v1149 (.bool true) (gd r1150 1) (gd r1150 2) (gd r1150 3) (.lst [])) fun r1152 =>
    bd (spec_l01Asm_value (.int .i64 1) (gd r1152 0) (gd r1152 1) (gd r1152 2) (gd r1152 3) (gd r1152 4) (gd r1152 5) (gd r1152 6) (gd r1152 7)) fun r1153 =>
    bd (spec_l01Asm_put (.int .i64 25) (.int .i64 0) (gd r1153 0) (gd r1153 1) (gd r1153 2) (gd r1153 3) (gd r1153 4) (gd r1153 5) (gd r1153 6) (gd r1153 7)) fun r1154 =>
    bd (PV.cat 3 40 true (.lst [(.agg [v1145, v1146, (gd r1154 7)])]) x8) fun v1155 =>
    some [(.agg [x6, v1155]), (gd r1154 4), (gd r1154 5), (gd r1154 6)]) := goOnEq _ _ _ _ _ _ _ _ (by kernel_rfl)
theorem spec_l01DrawModule_c15_eq (x0 x1 x2 x3 x4 x5 x6 x7 x8 x9 x10 x11 x12 x13 x14 x15 x16 : PV) : spec_l01DrawModule_c15 x0 x1 x2 x3 x4 x5 x6 x7 x8 x9 x10 x11 x12 x13 x14 x15 x16 =
  bd (spec_l01Asm_value (.int .i64 2) x6 x7 x8 x9 x1 x2 x3 x16) fun r1156 =>
  bd (spec_l01Asm_put (.int .i64 25) (.int .i64 0) (gd r1156 0) (gd r1156 1) (gd r1156 2) (gd r1156 3) (gd r1156 4) (gd r1156 5) (gd r1156 6) (gd r1156 7)) fun r1157 =>
  bd (PV.cat 3 40 true x14 (.lst [(.agg [x4, x5, (gd r1157 7)])])) fun v1158 =>
  bd (PV.bin .sub x0 (.int .i64 1)) fun v1159 =>
  spec_l01DrawModule_c8 v1159 (gd r1157 4) (gd r1157 5) (gd r1157 6) x10 x11 x12 x13 v1158 := goOnEq _ _ _ _ _ _ _ _ (by kernel_rfl)
theorem spec_l01Cur_once_eq (x0 x1 x2 x3 : PV) : spec_l01Cur_once x0 x1 x2 x3 =
  bd (spec_l01Cur_pick x0 x1 x2 x3) fun r1160 =>
  bd (PV.bin .sub x0 (.int .i64 1)) fun v1161 =>
  bd (PV.bin .eql (gd r1160 0) v1161) fun v1162 =>
  some [v1162, (gd r1160 1), (gd r1160 2), (gd r1160 3)] := scallEq _ _ _ _ (by kernel_rfl)
theorem spec_l01Spoil_eq (x0 x1 x2 x3 x4 : PV) : spec_l01Spoil x0 x1 x2 x3 x4 =
  bd (spec_l01CopyModule (.agg [x0, x1])) fun r1163 =>
  PV.guardOwn (.own 1 16 false []) (gd r1163 0) (
  PV.guardOwn (.own 3 40 true [.leaf, .leaf, (.own 2 16 true [])]) (gd r1163 1) (
  bd (PV.len (gd r1163 1)) fun v1164 =>
  bd (spec_l01Cur_pick v1164 x2 x3 x4) fun r1165 =>
  bd (PV.inb (gd r1163 1) (gd r1165 0)) fun v1166 =>
  bd (PV.at_ 3 true (gd r1163 1) (gd r1165 0)) fun v1167 =>
  bd (PV.at_ 3 true (gd r1163 1) (gd r1165 0)) fun v1168 =>
  bd (PV.cell v1168 2) fun v1169 =>
  bd (PV.len v1169) fun v1170 =>
  bd (spec_l01Cur_pick v1170 (gd r1165 1) (gd r1165 2) (gd r1165 3)) fun r1171 =>
  bd (spec_l01Cur_pick (.int .i64 8) (gd r1171 1) (gd r1171 2) (gd r1171 3)) fun r1172 =>
  bd (PV.bin .eql (gd r1172 0) (.int .i64 0)) fun v1173 =>
  PV.ite v1173
    (bd (PV.inb (gd r1163 1) (gd r1165 0)) fun v1174 =>
    bd (PV.at_ 3 true (gd r1163 1) (gd r1165 0)) fun v1175 =>
    bd (spec_l01Cur_pick (.int .i64 29) (gd r1172 1) (gd r1172 2) (gd r1172 3)) fun r1176 =>
    bd (PV.bin .sub (gd r1176 0) (.int .i64 1)) fun v1177 =>
    bd (PV.at_ 3 true (gd r1163 1) (gd r1165 0)) fun v1178 =>
    bd (PV.cell v1178 2) fun v1179 =>
    bd (PV.inb v1179 (gd r1171 0)) fun v1180 =>
    bd (PV.at_ 3 true (gd r1163 1) (gd r1165 0)) fun v1181 =>
    bd (PV.cell v1181 2) fun v1182 =>
    bd (PV.one v1177) fun v1183 =>
    bd (PV.at_ 3 true (gd r1163 1) (gd r1165 0)) fun v1184 =>
    bd (PV.cell v1184 2) fun v1185 =>
    bd (PV.setCell 2 v1185 (gd r1171 0) 0 v1183) fun v1186 =>
    bd (PV.at_ 3 true (gd r1163 1) (gd r1165 0)) fun v1187 =>
    bd (PV.cell v1187 2) fun v1188 =>
    bd (PV.setCell 3 (gd r1163 1) (gd r1165 0) 2 v1186) fun v1189 =>
    some [(.agg [(gd r1163 0), v1189]), (gd r1176 1), (gd r1176 2), (gd r1176 3)])
    (bd (PV.bin .eql (gd r1172 0) (.int .i64 1)) fun v1190 =>
    PV.ite v1190
      (bd (PV.inb (gd r1163 1) (gd r1165 0)) fun v1191 =>
      bd (PV.at_ 3 true (gd r1163 1) (gd r1165 0)) fun v1192 =>
      bd (spec_l01Cur_number (gd r1172 1) (gd r1172 2) (gd r1172 3)) fun r1193 =>
      bd (PV.at_ 3 true (gd r1163 1) (gd r1165 0)) fun v1194 =>
      bd (PV.cell v1194 2) fun v1195 =>
      bd (PV.inb v1195 (gd r1171 0)) fun v1196 =>
      bd (PV.at_ 3 true (gd r1163 1) (gd r1165 0)) fun v1197 =>
      bd (PV.cell v1197 2) fun v1198 =>
      bd (PV.one (gd r1193 0)) fun v1199 =>
      bd (PV.at_ 3 true (gd r1163 1) (gd r1165 0)) fun v1200 =>
      bd (PV.cell v1200 2) fun v1201 =>
      bd (PV.setCell 2 v1201 (gd r1171 0) 1 v1199) fun v1202 =>
      bd (PV.at_ 3 true (gd r1163 1) (gd r1165 0)) fun v1203 =>
      bd (PV.cell v1203 2) fun v1204 =>
      bd (PV.setCell 3 (gd r1163 1) (gd r1165 0) 2 v1202) fun v1205 =>
      some [(.agg [(gd r1163 0), v1205]), (gd r1193 1), (gd r1193 2), (gd r1193 3)])
      (bd (PV.bin .eql (gd r1172 0) (.int .i64 2)) fun v1206 =>
      PV.ite v1206
        (bd (spec_l01Cur_pick (.int .i64 9) (gd r1172 1) (gd r1172 2) (gd r1172 3)) fun r1207 =>
        bd (PV.bin .sub (gd r1207 0) (.int .i64 1)) fun v1208 =>
        bd (PV.inb (gd r1163 1) (gd r1165 0)) fun v1209 =>
        bd (PV.one v1208) fun v1210 =>
        bd (PV.setCell 3 (gd r1163 1) (gd r1165 0) 0 v1210) fun v1211 =>
        some [(.agg [(gd r1163 0), v1211]), (gd r1207 1), (gd r1207 2), (gd r1207 3)])
        (bd (PV.bin .eql (gd r1172 0) (.int .i64 3)) fun v1212 =>
        PV.ite v1212
          (bd (spec_l01Cur_pick (.int .i64 4) (gd r1172 1) (gd r1172 2) (gd r1172 3)) fun r1213 =>
          bd (PV.inb (.lst [(.int .i64 (-1)), (.int .i64 0), (.int .i64 12), (.int .i64 13)]) (gd r1213 0)) fun v1214 =>
          bd (PV.at_ 1 false (.lst [(.int .i64 (-1)), (.int .i64 0), (.int .i64 12), (.int .i64 13)]) (gd r1213 0)) fun v1215 =>
          bd (PV.inb (gd r1163 1) (gd r1165 0)) fun v1216 =>
          bd (PV.one v1215) fun v1217 =>
          bd (PV.setCell 3 (gd r1163 1) (gd r1165 0) 1 v1217) fun v1218 =>
          some [(.agg [(gd r1163 0), v1218]), (gd r1213 1), (gd r1213 2), (gd r1213 3)])
          (bd (PV.bin .eql (gd r1172 0) (.int .i64 4)) fun v1219 =>
          PV.ite v1219
            (bd (spec_l01Cur_pick (.int .i64 4) (gd r1172 1) (gd r1172 2) (gd r1172 3)) fun r1220 =>
            bd (PV.inb (.lst [(.str (bs [113, 34])), (.str (bs [10])), (.str (bs [48, 49, 50, 51, 52, 53, 54, 55, 56, 57, 48, 49, 50, 51, 52, 53, 54, 55, 56, 57, 48, 49, 50, 51, 52, 53, 54, 55, 56, 57, 48, 49, 50, 51, 52, 53, 54, 55, 56, 57, 48, 49, 50, 51, 52, 53, 54, 55, 56, 57, 48, 49, 50, 51, 52, 53, 54, 55, 56, 57, 48])), (.str (bs [195, 169]))]) (gd r1220 0)) fun v1221 =>
            bd (PV.at_ 1 false (.lst [(.str (bs [113, 34])), (.str (bs [10])), (.str (bs [48, 49, 50, 51, 52, 53, 54, 55, 56, 57, 48, 49, 50, 51, 52, 53, 54, 55, 56, 57, 48, 49, 50, 51, 52, 53, 54, 55, 56, 57, 48, 49, 50, 51, 52, 53, 54, 55, 56, 57, 48, 49, 50, 51, 52, 53, 54, 55, 56, 57, 48, 49, 50, 51, 52, 53, 54, 55, 56, 57, 48])), (.str (bs [195, 169]))]) (gd r1220 0)) fun v1222 =>
            bd (PV.cat 1 16 false (.lst []) (.lst [v1222])) fun v1223 =>
            bd (PV.cat 1 16 false (gd r1163 0) v1223) fun v1224 =>
            some [(.agg [v1224, (gd r1163 1)]), (gd r1220 1), (gd r1220 2), (gd r1220 3)])
            (bd (PV.bin .eql (gd r1172 0) (.int .i64 5)) fun v1225 =>
            PV.ite v1225
              (bd (PV.inb (gd r1163 1) (gd r1165 0)) fun v1226 =>
              bd (PV.at_ 3 true (gd r1163 1) (gd r1165 0)) fun v1227 =>
              bd (PV.at_ 3 true (gd r1163 1) (gd r1165 0)) fun v1228 =>
              bd (PV.cell v1228 2) fun v1229 =>
              bd (PV.cut 2 true v1229 (.int .i64 0) (gd r1171 0)) fun v1230 =>
              bd (PV.inb (gd r1163 1) (gd r1165 0)) fun v1231 =>
              bd (PV.at_ 3 true (gd r1163 1) (gd r1165 0)) fun v1232 =>
              bd (PV.bin .add (gd r1171 0) (.int .i64 1)) fun v1233 =>
              bd (PV.at_ 3 true (gd r1163 1) (gd r1165 0)) fun v1234 =>
              bd (PV.cell v1234 2) fun v1235 =>
              bd (PV.len v1235) fun v1236 =>
              bd (PV.cut 2 true v1235 v1233 v1236) fun v1237 =>
              bd (PV.at_ 3 true (gd r1163 1) (gd r1165 0)) fun v1238 =>
              bd (PV.cell v1238 2) fun v1239 =>
              bd (PV.at_ 3 true (gd r1163 1) (gd r1165 0)) fun v1240 =>
              bd (PV.cell v1240 2) fun v1241 =>
              bd (PV.cut 2 true v1241 v1233 v1236) fun v1242 =>
              bd (PV.cut 2 true v1239 (.int .i64 0) (gd r1171 0)) fun v1243 =>
              bd (PV.at_ 3 true (gd r1163 1) (gd r1165 0)) fun v1244 =>
              bd (PV.cell v1244 2) fun v1245 =>
              bd (PV.setCell 3 (gd r1163 1) (gd r1165 0) 2 .hole) fun v1246 =>
              bd (PV.cat 2 16 true v1243 v1242) fun v1247 =>
              bd (PV.inb v1246 (gd r1165 0)) fun v1248 =>
              bd (PV.setCell 3 v1246 (gd r1165 0) 2 v1247) fun v1249 =>
              some [(.agg [(gd r1163 0), v1249]), (gd r1172 1), (gd r1172 2), (gd r1172 3)])
              (bd (PV.bin .eql (gd r1172 0) (.int .i64 6)) fun v1250 =>
              PV.ite v1250
                (spec_l01Spoil_c21 (gd r1172 1) (gd r1172 2) (gd r1172 3) (.lst []) (.lst []) (gd r1163 0) (gd r1163 1))
                (bd (PV.inb (gd r1163 1) (gd r1165 0)) fun v1251 =>
                bd (PV.at_ 3 true (gd r1163 1) (gd r1165 0)) fun v1252 =>
                bd (PV.at_ 3 true (gd r1163 1) (gd r1165 0)) fun v1253 =>
                bd (PV.cell v1253 2) fun v1254 =>
                bd (PV.inb v1254 (gd r1171 0)) fun v1255 =>
                bd (PV.at_ 3 true (gd r1163 1) (gd r1165 0)) fun v1256 =>
                bd (PV.cell v1256 2) fun v1257 =>
                bd (PV.at_ 2 true v1257 (gd r1171 0)) fun v1258 =>
                bd (PV.whole 2 v1258) fun v1259 =>
                bd (PV.cell v1259 0) fun v1260 =>
                bd (PV.cell v1259 1) fun v1261 =>
                spec_l01Spoil_c6 (gd r1165 0) (gd r1172 1) (gd r1172 2) (gd r1172 3) v1260 v1261 (.lst []) (.lst []) (gd r1163 0) (gd r1163 1)))))))))) := scallEq _ _ _ _ (by kernel_rfl)
theorem spec_l01Spoil_c21_eq (x0 x1 x2 x3 x4 x5 x6 : PV) : spec_l01Spoil_c21 x0 x1 x2 x3 x4 x5 x6 =
  bd (PV.len x6) fun v1262 =>
  bd (spec_l01Cur_pick (.int .i64 2) x0 x1 x2) fun r1263 =>
  bd (PV.bin .add (.int .i64 12) (gd r1263 0)) fun v1264 =>
  bd (PV.bin .lss v1262 v1264) fun v1265 =>
  PV.ite v1265
    (bd (PV.cat 3 40 true x6 (.lst [(.agg [(.int .i64 0), (.int .i64 0), (.lst [(.agg [(.int .i64 4), (.int .i64 0)]), (.agg [(.int .i64 25), (.int .i64 0)])])])])) fun v1266 =>
    spec_l01Spoil_c21 (gd r1263 1) (gd r1263 2) (gd r1263 3) x3 x4 x5 v1266)
    (some [(.agg [x5, x6]), (gd r1263 1), (gd r1263 2), (gd r1263 3)]) := goOnEq _ _ _ _ _ _ _ _ (by kernel_rfl)
theorem spec_l01Spoil_c6_eq (x0 x1 x2 x3 x4 x5 x6 x7 x8 x9 : PV) : spec_l01Spoil_c6 x0 x1 x2 x3 x4 x5 x6 x7 x8 x9 =
  bd (PV.inb x9 x0) fun v1267 =>
  bd (PV.at_ 3 true x9 x0) fun v1268 =>
  bd (PV.at_ 3 true x9 x0) fun v1269 =>
  bd (PV.cell v1269 2) fun v1270 =>
  bd (PV.len v1270) fun v1271 =>
  bd (spec_l01Cur_pick (.int .i64 2) x1 x2 x3) fun r1272 =>
  bd (PV.bin .add (.int .i64 120) (gd r1272 0)) fun v1273 =>
  bd (PV.bin .lss v1271 v1273) fun v1274 =>
  PV.ite v1274
    (bd (PV.inb x9 x0) fun v1275 =>
    bd (PV.at_ 3 true x9 x0) fun v1276 =>
    bd (PV.at_ 3 true x9 x0) fun v1277 =>
    bd (PV.cell v1277 2) fun v1278 =>
    bd (PV.at_ 3 true x9 x0) fun v1279 =>
    bd (PV.cell v1279 2) fun v1280 =>
    bd (PV.setCell 3 x9 x0 2 .hole) fun v1281 =>
    bd (PV.cat 2 16 true v1278 (.lst [(.agg [x4, x5])])) fun v1282 =>
    bd (PV.inb v1281 x0) fun v1283 =>
    bd (PV.setCell 3 v1281 x0 2 v1282) fun v1284 =>
    spec_l01Spoil_c6 x0 (gd r1272 1) (gd r1272 2) (gd r1272 3) x4 x5 x6 x7 x8 v1284)
    (some [(.agg [x8, x9]), (gd r1272 1), (gd r1272 2), (gd r1272 3)]) := goOnEq _ _ _ _ _ _ _ _ (by kernel_rfl)
theorem spec_l03DrawOdd_eq (x0 x1 x2 : PV) : spec_l03DrawOdd x0 x1 x2 =
  bd (spec_l01Cur_pick (.int .i64 2) x0 x1 x2) fun r1285 =>
  bd (PV.bin .add (.int .i64 1) (gd r1285 0)) fun v1286 =>
  spec_l03DrawOdd_c3 v1286 (gd r1285 1) (gd r1285 2) (gd r1285 3) (.lst []) (.lst []) (.lst [(.str (bs [97]))]) (.lst []) := scallEq _ _ _ _ (by kernel_rfl)
theorem spec_l03DrawOdd_c3_eq (x0 x1 x2 x3 x4 x5 x6 x7 : PV) : spec_l03DrawOdd_c3 x0 x1 x2 x3 x4 x5 x6 x7 =
  bd (PV.bin .gtr x0 (.int .i64 0)) fun v1287 =>
  PV.ite v1287
    (bd (spec_l01Cur_pick (.int .i64 2) x1 x2 x3) fun r1288 =>
    bd (PV.one (gd r1288 0)) fun v1289 =>
    bd (spec_l01Cur_pick (.int .i64 9) (gd r1288 1) (gd r1288 2) (gd r1288 3)) fun r1290 =>
    bd (PV.bin .add (.int .i64 2) (gd r1290 0)) fun v1291 =>
    spec_l03DrawOdd_c7 x0 v1291 (gd r1290 1) (gd r1290 2) (gd r1290 3) v1289 (.int .i64 2) x4 x5 x6 x7 (.lst []))
    (some [(.agg [x6, x7]), x1, x2, x3]) := goOnEq _ _ _ _ _ _ _ _ (by kernel_rfl)
theorem spec_l03DrawOdd_c7_eq (x0 x1 x2 x3 x4 x5 x6 x7 x8 x9 x10 x11 : PV) : spec_l03DrawOdd_c7 x0 x1 x2 x3 x4 x5 x6 x7 x8 x9 x10 x11 =
  bd (PV.bin .gtr x1 (.int .i64 0)) fun v1292 =>
  PV.ite v1292
    (bd (spec_l01Cur_pick (.int .i64 26) x2 x3 x4) fun r1293 =>
    bd (PV.bin .add (.int .i64 1) (gd r1293 0)) fun v1294 =>
    bd (PV.one v1294) fun v1295 =>
    bd (PV.cat 2 16 true x11 (.lst [(.agg [v1295, (.int .i64 0)])])) fun v1296 =>
    bd (PV.bin .sub x1 (.int .i64 1)) fun v1297 =>
    spec_l03DrawOdd_c7 x0 v1297 (gd r1293 1) (gd r1293 2) (gd r1293 3) x5 x6 x7 x8 x9 x10 v1296)
    (bd (spec_l01Cur_pick (.int .i64 4) x2 x3 x4) fun r1298 =>
    bd (PV.bin .gtr (gd r1298 0) (.int .i64 0)) fun v1299 =>
    PV.ite v1299
      (bd (PV.cat 2 16 true x11 (.lst [(.agg [(.int .i64 25), (.int .i64 0)])])) fun v1300 =>
      spec_l03DrawOdd_c12 x0 (gd r1298 1) (gd r1298 2) (gd r1298 3) x5 x6 x7 x8 x9 x10 v1300)
      (spec_l03DrawOdd_c12 x0 (gd r1298 1) (gd r1298 2) (gd r1298 3) x5 x6 x7 x8 x9 x10 x11)) := goOnEq _ _ _ _ _ _ _ _ (by kernel_rfl)
theorem spec_l03DrawOdd_c12_eq (x0 x1 x2 x3 x4 x5 x6 x7 x8 x9 x10 : PV) : spec_l03DrawOdd_c12 x0 x1 x2 x3 x4 x5 x6 x7 x8 x9 x10 =
  spec_l03DrawOdd_c13 x0 (.int .i64 0) x1 x2 x3 x4 x5 x6 x7 x8 x9 x10 := goOnEq _ _ _ _ _ _ _ _ (by kernel_rfl)
theorem spec_l03DrawOdd_c13_eq (x0 x1 x2 x3 x4 x5 x6 x7 x8 x9 x10 x11 : PV) : spec_l03DrawOdd_c13 x0 x1 x2 x3 x4 x5 x6 x7 x8 x9 x10 x11 =
  bd (PV.len x11) fun v1301 =>
  bd (PV.bin .lss x1 v1301) fun v1302 =>
  PV.ite v1302
    (bd (PV.inb x11 x1) fun v1303 =>
    bd (PV.at_ 2 true x11 x1) fun v1304 =>
    bd (PV.cell v1304 0) fun v1305 =>
    bd (PV.bin .eql v1305 (.int .i64 17)) fun v1306 =>
    PV.ite v1306
      (spec_l03DrawOdd_c17 x0 x1 x2 x3 x4 x5 x6 x7 x8 x9 x10 x11)
      (bd (PV.bin .eql v1305 (.int .i64 18)) fun v1307 =>
      PV.ite v1307
        (spec_l03DrawOdd_c17 x0 x1 x2 x3 x4 x5 x6 x7 x8 x9 x10 x11)
        (bd (PV.bin .eql v1305 (.int .i64 19)) fun v1308 =>
        PV.ite v1308
          (spec_l03DrawOdd_c17 x0 x1 x2 x3 x4 x5 x6 x7 x8 x9 x10 x11)
          (spec_l03DrawOdd_c18 x0 x1 v1305 x2 x3 x4 x5 x6 x7 x8 x9 x10 x11))))
    (bd (PV.cat 3 40 true x10 (.lst [(.agg [x5, x6, x11])])) fun v1309 =>
    bd (PV.bin .sub x0 (.int .i64 1)) fun v1310 =>
    spec_l03DrawOdd_c3 v1310 x2 x3 x4 x7 x8 x9 v1309) := goOnEq _ _ _ _ _ _ _ _ (by kernel_rfl)
theorem spec_l03DrawOdd_c17_eq (x0 x1 x2 x3 x4 x5 x6 x7 x8 x9 x10 x11 : PV) : spec_l03DrawOdd_c17 x0 x1 x2 x3 x4 x5 x6 x7 x8 x9 x10 x11 =
  bd (PV.len x11) fun v1311 =>
  bd (spec_l01Cur_pick v1311 x2 x3 x4) fun r1312 =>
  bd (PV.inb x11 x1) fun v1313 =>
  bd (PV.one (gd r1312 0)) fun v1314 =>
  bd (PV.setCell 2 x11 x1 1 v1314) fun v1315 =>
  bd (PV.bin .add x1 (.int .i64 1)) fun v1316 =>
  spec_l03DrawOdd_c13 x0 v1316 (gd r1312 1) (gd r1312 2) (gd r1312 3) x5 x6 x7 x8 x9 x10 v1315 := goOnEq _ _ _ _ _ _ _ _ (by kernel_rfl)
theorem spec_l03DrawOdd_c18_eq (x0 x1 x2 x3 x4 x5 x6 x7 x8 x9 x10 x11 x12 : PV) : spec_l03DrawOdd_c18 x0 x1 x2 x3 x4 x5 x6 x7 x8 x9 x10 x11 x12 =
  bd (spec_l01Cur_once (.int .i64 8) x3 x4 x5) fun r1317 =>
  PV.ite (gd r1317 0)
    (bd (PV.bin .eql x2 (.int .i64 6)) fun v1318 =>
    PV.ite v1318
      (spec_l03DrawOdd_c19 x0 x1 (gd r1317 1) (gd r1317 2) (gd r1317 3) x6 x7 x8 x9 x10 x11 x12)
      (bd (PV.bin .eql x2 (.int .i64 7)) fun v1319 =>
      PV.ite v1319
        (spec_l03DrawOdd_c19 x0 x1 (gd r1317 1) (gd r1317 2) (gd r1317 3) x6 x7 x8 x9 x10 x11 x12)
        (bd (PV.bin .eql x2 (.int .i64 20)) fun v1320 =>
        PV.ite v1320
          (spec_l03DrawOdd_c19 x0 x1 (gd r1317 1) (gd r1317 2) (gd r1317 3) x6 x7 x8 x9 x10 x11 x12)
          (bd (PV.bin .eql x2 (.int .i64 23)) fun v1321 =>
          PV.ite v1321
            (spec_l03DrawOdd_c19 x0 x1 (gd r1317 1) (gd r1317 2) (gd r1317 3) x6 x7 x8 x9 x10 x11 x12)
            (bd (PV.bin .add x1 (.int .i64 1)) fun v1322 =>
            spec_l03DrawOdd_c13 x0 v1322 (gd r1317 1) (gd r1317 2) (gd r1317 3) x6 x7 x8 x9 x10 x11 x12)))))
    (bd (PV.bin .add x1 (.int .i64 1)) fun v1323 =>
    spec_l03DrawOdd_c13 x0 v1323 (gd r1317 1) (gd r1317 2) (gd r1317 3) x6 x7 x8 x9 x10 x11 x12) := goOnEq _ _ _ _ _ _ _ _ (by kernel_rfl)
theorem spec_l03DrawOdd_c19_eq (x0 x1 x2 x3 x4 x5 x6 x7 x8 x9 x10 x11 : PV) : spec_l03DrawOdd_c19 x0 x1 x2 x3 x4 x5 x6 x7 x8 x9 x10 x11 =
  bd (PV.inb x11 x1) fun v1324 =>
  bd (PV.setCell 2 x11 x1 1 (.int .i64 1)) fun v1325 =>
  bd (PV.bin .add x1 (.int .i64 1)) fun v1326 =>
  spec_l03DrawOdd_c13 x0 v1326 x2 x3 x4 x5 x6 x7 x8 x9 x10 v1325 := goOnEq _ _ _ _ _ _ _ _ (by kernel_rfl)
theorem impl_putNum_eq (x0 x1 : PV) : impl_putNum x0 x1 =
  bd (PV.bin .mul (.int .i64 2) x0) fun v1327 =>
  bd (PV.bin .lss x0 (.int .i64 0)) fun v1328 =>
  PV.ite v1328
    (bd (PV.bin .mul (.int .i64 (-2)) x0) fun v1329 =>
    bd (PV.bin .sub v1329 (.int .i64 1)) fun v1330 =>
    impl_putNum_c4 v1330 x1)
    (impl_putNum_c4 v1327 x1) := scallEq _ _ _ _ (by kernel_rfl)
end Go.Proofs.Ytkcilikjhgkakaa

namespace Go.Proofs.Ytkcilikjhgkakaa
open Go
theorem impl_putNum_c4_eq (x0 x1 : PV) : impl_putNum_c4 x0 x1 =
  bd (PV.bin .geq x0 (.int .i64 128)) fun v1331 =>
  PV.ite v1331
    (bd (PV.bin .rem x0 (.int .i64 128)) fun v1332 =>
    bd (PV.bin .add v1332 (.int .i64 128)) fun v1333 =>
    bd (PV.conv .u8 v1333) fun v1334 =>
    bd (PV.cat 1 1 false (.lst []) (.lst [v1334])) fun v1335 =>
    bd (PV.cat 1 1 false x1 v1335) fun v1336 =>
    bd (PV.bin .quo x0 (.int .i64 128)) fun v1337 =>
    impl_putNum_c4 v1337 v1336)
    (bd (PV.conv .u8 x0) fun v1338 =>
    bd (PV.cat 1 1 false (.lst []) (.lst [v1338])) fun v1339 =>
    bd (PV.cat 1 1 false x1 v1339) fun v1340 =>
    some [v1340]) := goOnEq _ _ _ _ _ _ _ _ (by kernel_rfl)
theorem spec_l01Asm_list_eq (x0 x1 x2 x3 x4 x5 x6 x7 x8 x9 : PV) : spec_l01Asm_list x0 x1 x2 x3 x4 x5 x6 x7 x8 x9 =
  bd (spec_l01Cur_pick x1 x6 x7 x8) fun r1341 =>
  bd (PV.bin .add (.int .i64 1) (gd r1341 0)) fun v1342 =>
  spec_l01Asm_list_c1 x0 v1342 x2 x3 x4 x5 (gd r1341 1) (gd r1341 2) (gd r1341 3) x9 := scallEq _ _ _ _ (by kernel_rfl)
theorem spec_l01Asm_list_c1_eq (x0 x1 x2 x3 x4 x5 x6 x7 x8 x9 : PV) : spec_l01Asm_list_c1 x0 x1 x2 x3 x4 x5 x6 x7 x8 x9 =
  bd (PV.bin .gtr x1 (.int .i64 0)) fun v1343 =>
  PV.ite v1343
    (bd (PV.len x9) fun v1344 =>
    bd (PV.bin .lss v1344 (.int .i64 70)) fun v1345 =>
    PV.ite v1345
      (bd (spec_l01Asm_stmt x0 x2 x3 x4 x5 x6 x7 x8 x9) fun r1346 =>
      bd (PV.bin .sub x1 (.int .i64 1)) fun v1347 =>
      spec_l01Asm_list_c1 x0 v1347 (gd r1346 0) (gd r1346 1) (gd r1346 2) (gd r1346 3) (gd r1346 4) (gd r1346 5) (gd r1346 6) (gd r1346 7))
      (some [x2, x3, x4, x5, x6, x7, x8, x9]))
    (some [x2, x3, x4, x5, x6, x7, x8, x9]) := goOnEq _ _ _ _ _ _ _ _ (by kernel_rfl)
theorem spec_l01Cur_size_eq (x0 x1 x2 x3 : PV) : spec_l01Cur_size x0 x1 x2 x3 =
  bd (PV.len x1) fun v1348 =>
  bd (PV.bin .quo v1348 (.int .i64 12)) fun v1349 =>
  bd (PV.bin .add (.int .i64 1) v1349) fun v1350 =>
  bd (PV.bin .gtr v1350 x0) fun v1351 =>
  PV.ite v1351
    (bd (PV.bin .add x0 (.int .i64 1)) fun v1352 =>
    bd (spec_l01Cur_pick v1352 x1 x2 x3) fun r1353 =>
    some [(gd r1353 0), (gd r1353 1), (gd r1353 2), (gd r1353 3)])
    (bd (PV.bin .add v1350 (.int .i64 1)) fun v1354 =>
    bd (spec_l01Cur_pick v1354 x1 x2 x3) fun r1355 =>
    some [(gd r1355 0), (gd r1355 1), (gd r1355 2), (gd r1355 3)]) := scallEq _ _ _ _ (by kernel_rfl)
theorem spec_l01Asm_value_eq (x0 x1 x2 x3 x4 x5 x6 x7 x8 : PV) : spec_l01Asm_value x0 x1 x2 x3 x4 x5 x6 x7 x8 =
  bd (PV.bin .leq x0 (.int .i64 0)) fun v1356 =>
  PV.ite v1356
    (spec_l01Asm_value_c2 x1 x2 x3 x4 x5 x6 x7 x8)
    (bd (PV.len x8) fun v1357 =>
    bd (PV.bin .gtr v1357 (.int .i64 90)) fun v1358 =>
    PV.ite v1358
      (spec_l01Asm_value_c2 x1 x2 x3 x4 x5 x6 x7 x8)
      (bd (spec_l01Cur_pick (.int .i64 16) x5 x6 x7) fun r1359 =>
      bd (PV.bin .eql (gd r1359 0) (.int .i64 0)) fun v1360 =>
      PV.ite v1360
        (bd (spec_l01Cur_pick (.int .i64 8) (gd r1359 1) (gd r1359 2) (gd r1359 3)) fun r1361 =>
        bd (PV.inb (.lst [(.int .i64 0), (.int .i64 1), (.int .i64 2), (.int .i64 10), (.int .i64 31623), (.int .i64 1000000000), (.int .i64 (-1)), (.int .i64 7)]) (gd r1361 0)) fun v1362 =>
        bd (PV.at_ 1 false (.lst [(.int .i64 0), (.int .i64 1), (.int .i64 2), (.int .i64 10), (.int .i64 31623), (.int .i64 1000000000), (.int .i64 (-1)), (.int .i64 7)]) (gd r1361 0)) fun v1363 =>
        bd (spec_l01Asm_put (.int .i64 1) v1363 x1 x2 x3 x4 (gd r1361 1) (gd r1361 2) (gd r1361 3) x8) fun r1364 =>
        some [(gd r1364 0), (gd r1364 1), (gd r1364 2), (gd r1364 3), (gd r1364 4), (gd r1364 5), (gd r1364 6), (gd r1364 7)])
        (bd (PV.bin .eql (gd r1359 0) (.int .i64 1)) fun v1365 =>
        PV.ite v1365
          (bd (spec_l01Cur_pick (.int .i64 2) (gd r1359 1) (gd r1359 2) (gd r1359 3)) fun r1366 =>
          bd (spec_l01Asm_put (.int .i64 2) (gd r1366 0) x1 x2 x3 x4 (gd r1366 1) (gd r1366 2) (gd r1366 3) x8) fun r1367 =>
          some [(gd r1367 0), (gd r1367 1), (gd r1367 2), (gd r1367 3), (gd r1367 4), (gd r1367 5), (gd r1367 6), (gd r1367 7)])
          (bd (PV.bin .eql (gd r1359 0) (.int .i64 2)) fun v1368 =>
          PV.ite v1368
            (bd (PV.bin .sub x0 (.int .i64 1)) fun v1369 =>
            bd (spec_l01Asm_value v1369 x1 x2 x3 x4 (gd r1359 1) (gd r1359 2) (gd r1359 3) x8) fun r1370 =>
            bd (PV.bin .sub x0 (.int .i64 1)) fun v1371 =>
            bd (spec_l01Asm_value v1371 (gd r1370 0) (gd r1370 1) (gd r1370 2) (gd r1370 3) (gd r1370 4) (gd r1370 5) (gd r1370 6) (gd r1370 7)) fun r1372 =>
            bd (spec_l01Cur_pick (.int .i64 6) (gd r1372 4) (gd r1372 5) (gd r1372 6)) fun r1373 =>
            bd (PV.inb (.lst [(.int .i64 11), (.int .i64 11), (.int .i64 12), (.int .i64 13), (.int .i64 14), (.int .i64 15)]) (gd r1373 0)) fun v1374 =>
            bd (PV.at_ 1 false (.lst [(.int .i64 11), (.int .i64 11), (.int .i64 12), (.int .i64 13), (.int .i64 14), (.int .i64 15)]) (gd r1373 0)) fun v1375 =>
            bd (spec_l01Asm_put v1375 (.int .i64 0) (gd r1372 0) (gd r1372 1) (gd r1372 2) (gd r1372 3) (gd r1373 1) (gd r1373 2) (gd r1373 3) (gd r1372 7)) fun r1376 =>
            some [(gd r1376 0), (gd r1376 1), (gd r1376 2), (gd r1376 3), (gd r1376 4), (gd r1376 5), (gd r1376 6), (gd r1376 7)])
            (bd (PV.bin .eql (gd r1359 0) (.int .i64 3)) fun v1377 =>
            PV.ite v1377
              (bd (PV.bin .sub x0 (.int .i64 1)) fun v1378 =>
              bd (spec_l01Asm_value v1378 x1 x2 x3 x4 (gd r1359 1) (gd r1359 2) (gd r1359 3) x8) fun r1379 =>
              bd (PV.bin .sub x0 (.int .i64 1)) fun v1380 =>
              bd (spec_l01Asm_value v1380 (gd r1379 0) (gd r1379 1) (gd r1379 2) (gd r1379 3) (gd r1379 4) (gd r1379 5) (gd r1379 6) (gd r1379 7)) fun r1381 =>
              bd (spec_l01Cur_pick (.int .i64 6) (gd r1381 4) (gd r1381 5) (gd r1381 6)) fun r1382 =>
              bd (PV.inb (.lst [(.int .i64 11), (.int .i64 11), (.int .i64 12), (.int .i64 13), (.int .i64 14), (.int .i64 15)]) (gd r1382 0)) fun v1383 =>
              bd (PV.at_ 1 false (.lst [(.int .i64 11), (.int .i64 11), (.int .i64 12), (.int .i64 13), (.int .i64 14), (.int .i64 15)]) (gd r1382 0)) fun v1384 =>
              bd (spec_l01Asm_put v1384 (.int .i64 0) (gd r1381 0) (gd r1381 1) (gd r1381 2) (gd r1381 3) (gd r1382 1) (gd r1382 2) (gd r1382 3) (gd r1381 7)) fun r1385 =>
              some [(gd r1385 0), (gd r1385 1), (gd r1385 2), (gd r1385 3), (gd r1385 4), (gd r1385 5), (gd r1385 6), (gd r1385 7)])
              (bd (PV.bin .eql (gd r1359 0) (.int .i64 4)) fun v1386 =>
              PV.ite v1386
                (bd (PV.bin .sub x0 (.int .i64 1)) fun v1387 =>
                bd (spec_l01Asm_value v1387 x1 x2 x3 x4 (gd r1359 1) (gd r1359 2) (gd r1359 3) x8) fun r1388 =>
                bd (PV.bin .sub x0 (.int .i64 1)) fun v1389 =>
                bd (spec_l01Asm_value v1389 (gd r1388 0) (gd r1388 1) (gd r1388 2) (gd r1388 3) (gd r1388 4) (gd r1388 5) (gd r1388 6) (gd r1388 7)) fun r1390 =>
                bd (spec_l01Cur_pick (.int .i64 6) (gd r1390 4) (gd r1390 5) (gd r1390 6)) fun r1391 =>
                bd (PV.inb (.lst [(.int .i64 11), (.int .i64 11), (.int .i64 12), (.int .i64 13), (.int .i64 14), (.int .i64 15)]) (gd r1391 0)) fun v1392 =>
                bd (PV.at_ 1 false (.lst [(.int .i64 11), (.int .i64 11), (.int .i64 12), (.int .i64 13), (.int .i64 14), (.int .i64 15)]) (gd r1391 0)) fun v1393 =>
                bd (spec_l01Asm_put v1393 (.int .i64 0) (gd r1390 0) (gd r1390 1) (gd r1390 2) (gd r1390 3) (gd r1391 1) (gd r1391 2) (gd r1391 3) (gd r1390 7)) fun r1394 =>
                some [(gd r1394 0), (gd r1394 1), (gd r1394 2), (gd r1394 3), (gd r1394 4), (gd r1394 5), (gd r1394 6), (gd r1394 7)])
                (bd (PV.bin .eql (gd r1359 0) (.int .i64 5)) fun v1395 =>
                PV.ite v1395
                  (bd (PV.bin .sub x0 (.int .i64 1)) fun v1396 =>
                  bd (spec_l01Asm_value v1396 x1 x2 x3 x4 (gd r1359 1) (gd r1359 2) (gd r1359 3) x8) fun r1397 =>
                  bd (PV.bin .sub x0 (.int .i64 1)) fun v1398 =>
                  bd (spec_l01Asm_value v1398 (gd r1397 0) (gd r1397 1) (gd r1397 2) (gd r1397 3) (gd r1397 4) (gd r1397 5) (gd r1397 6) (gd r1397 7)) fun r1399 =>
                  bd (spec_l01Cur_pick (.int .i64 6) (gd r1399 4) (gd r1399 5) (gd r1399 6)) fun r1400 =>
                  bd (PV.inb (.lst [(.int .i64 11), (.int .i64 11), (.int .i64 12), (.int .i64 13), (.int .i64 14), (.int .i64 15)]) (gd r1400 0)) fun v1401 =>
                  bd (PV.at_ 1 false (.lst [(.int .i64 11), (.int .i64 11), (.int .i64 12), (.int .i64 13), (.int .i64 14), (.int .i64 15)]) (gd r1400 0)) fun v1402 =>
                  bd (spec_l01Asm_put v1402 (.int .i64 0) (gd r1399 0) (gd r1399 1) (gd r1399 2) (gd r1399 3) (gd r1400 1) (gd r1400 2) (gd r1400 3) (gd r1399 7)) fun r1403 =>
                  some [(gd r1403 0), (gd r1403 1), (gd r1403 2), (gd r1403 3), (gd r1403 4), (gd r1403 5), (gd r1403 6), (gd r1403 7)])
                  (bd (PV.bin .eql (gd r1359 0) (.int .i64 6)) fun v1404 =>
                  PV.ite v1404
                    (bd (PV.bin .sub x0 (.int .i64 1)) fun v1405 =>
                    bd (spec_l01Asm_value v1405 x1 x2 x3 x4 (gd r1359 1) (gd r1359 2) (gd r1359 3) x8) fun r1406 =>
                    bd (PV.bin .sub x0 (.int .i64 1)) fun v1407 =>
                    bd (spec_l01Asm_value v1407 (gd r1406 0) (gd r1406 1) (gd r1406 2) (gd r1406 3) (gd r1406 4) (gd r1406 5) (gd r1406 6) (gd r1406 7)) fun r1408 =>
                    bd (spec_l01Cur_pick (.int .i64 6) (gd r1408 4) (gd r1408 5) (gd r1408 6)) fun r1409 =>
                    bd (PV.inb (.lst [(.int .i64 11), (.int .i64 11), (.int .i64 12), (.int .i64 13), (.int .i64 14), (.int .i64 15)]) (gd r1409 0)) fun v1410 =>
                    bd (PV.at_ 1 false (.lst [(.int .i64 11), (.int .i64 11), (.int .i64 12), (.int .i64 13), (.int .i64 14), (.int .i64 15)]) (gd r1409 0)) fun v1411 =>
                    bd (spec_l01Asm_put v1411 (.int .i64 0) (gd r1408 0) (gd r1408 1) (gd r1408 2) (gd r1408 3) (gd r1409 1) (gd r1409 2) (gd r1409 3) (gd r1408 7)) fun r1412 =>
                    some [(gd r1412 0), (gd r1412 1), (gd r1412 2), (gd r1412 3), (gd r1412 4), (gd r1412 5), (gd r1412 6), (gd r1412 7)])
                    (bd (PV.bin .eql (gd r1359 0) (.int .i64 7)) fun v1413 =>
                    PV.ite v1413
                      (bd (PV.bin .sub x0 (.int .i64 1)) fun v1414 =>
                      bd (spec_l01Asm_value v1414 x1 x2 x3 x4 (gd r1359 1) (gd r1359 2) (gd r1359 3) x8) fun r1415 =>
                      bd (spec_l01Asm_put (.int .i64 16) (.int .i64 0) (gd r1415 0) (gd r1415 1) (gd r1415 2) (gd r1415 3) (gd r1415 4) (gd r1415 5) (gd r1415 6) (gd r1415 7)) fun r1416 =>
                      some [(gd r1416 0), (gd r1416 1), (gd r1416 2), (gd r1416 3), (gd r1416 4), (gd r1416 5), (gd r1416 6), (gd r1416 7)])
                      (bd (PV.bin .eql (gd r1359 0) (.int .i64 8)) fun v1417 =>
                      PV.ite v1417
                        (bd (spec_l01Asm_record x0 x1 x2 x3 x4 (gd r1359 1) (gd r1359 2) (gd r1359 3) x8) fun r1418 =>
                        some [(gd r1418 0), (gd r1418 1), (gd r1418 2), (gd r1418 3), (gd r1418 4), (gd r1418 5), (gd r1418 6), (gd r1418 7)])
                        (bd (PV.bin .eql (gd r1359 0) (.int .i64 9)) fun v1419 =>
                        PV.ite v1419
                          (bd (spec_l01Asm_record x0 x1 x2 x3 x4 (gd r1359 1) (gd r1359 2) (gd r1359 3) x8) fun r1420 =>
                          some [(gd r1420 0), (gd r1420 1), (gd r1420 2), (gd r1420 3), (gd r1420 4), (gd r1420 5), (gd r1420 6), (gd r1420 7)])
                          (bd (PV.bin .eql (gd r1359 0) (.int .i64 10)) fun v1421 =>
                          PV.ite v1421
                            (bd (PV.bin .sub x0 (.int .i64 1)) fun v1422 =>
                            bd (spec_l01Asm_value v1422 x1 x2 x3 x4 (gd r1359 1) (gd r1359 2) (gd r1359 3) x8) fun r1423 =>
                            bd (spec_l01Cur_pick (.int .i64 2) (gd r1423 4) (gd r1423 5) (gd r1423 6)) fun r1424 =>
                            bd (spec_l01Asm_put (.int .i64 21) (gd r1424 0) (gd r1423 0) (gd r1423 1) (gd r1423 2) (gd r1423 3) (gd r1424 1) (gd r1424 2) (gd r1424 3) (gd r1423 7)) fun r1425 =>
                            some [(gd r1425 0), (gd r1425 1), (gd r1425 2), (gd r1425 3), (gd r1425 4), (gd r1425 5), (gd r1425 6), (gd r1425 7)])
                            (bd (PV.bin .eql (gd r1359 0) (.int .i64 11)) fun v1426 =>
                            PV.ite v1426
                              (bd (PV.len x1) fun v1427 =>
                              bd (PV.bin .gtr v1427 (.int .i64 0)) fun v1428 =>
                              PV.ite v1428
                                (bd (PV.len x1) fun v1429 =>
                                bd (spec_l01Cur_pick v1429 (gd r1359 1) (gd r1359 2) (gd r1359 3)) fun r1430 =>
                                spec_l01Asm_value_c38 x0 (gd r1430 0) (.int .i64 0) x1 x2 x3 x4 (gd r1430 1) (gd r1430 2) (gd r1430 3) x8)
                                (bd (PV.bin .sub x0 (.int .i64 1)) fun v1431 =>
                                bd (spec_l01Asm_value v1431 x1 x2 x3 x4 (gd r1359 1) (gd r1359 2) (gd r1359 3) x8) fun r1432 =>
                                some [(gd r1432 0), (gd r1432 1), (gd r1432 2), (gd r1432 3), (gd r1432 4), (gd r1432 5), (gd r1432 6), (gd r1432 7)]))
                              (bd (PV.bin .eql (gd r1359 0) (.int .i64 12)) fun v1433 =>
                              PV.ite v1433
                                (bd (PV.len x1) fun v1434 =>
                                bd (PV.bin .gtr v1434 (.int .i64 0)) fun v1435 =>
                                PV.ite v1435
                                  (bd (PV.len x1) fun v1436 =>
                                  bd (spec_l01Cur_pick v1436 (gd r1359 1) (gd r1359 2) (gd r1359 3)) fun r1437 =>
                                  spec_l01Asm_value_c38 x0 (gd r1437 0) (.int .i64 0) x1 x2 x3 x4 (gd r1437 1) (gd r1437 2) (gd r1437 3) x8)
                                  (bd (PV.bin .sub x0 (.int .i64 1)) fun v1438 =>
                                  bd (spec_l01Asm_value v1438 x1 x2 x3 x4 (gd r1359 1) (gd r1359 2) (gd r1359 3) x8) fun r1439 =>
                                  some [(gd r1439 0), (gd r1439 1), (gd r1439 2), (gd r1439 3), (gd r1439 4), (gd r1439 5), (gd r1439 6), (gd r1439 7)]))
                                (bd (PV.bin .eql (gd r1359 0) (.int .i64 13)) fun v1440 =>
                                PV.ite v1440
                                  (bd (PV.len x1) fun v1441 =>
                                  bd (PV.bin .gtr v1441 (.int .i64 0)) fun v1442 =>
                                  PV.ite v1442
                                    (bd (PV.len x1) fun v1443 =>
                                    bd (spec_l01Cur_pick v1443 (gd r1359 1) (gd r1359 2) (gd r1359 3)) fun r1444 =>
                                    bd (spec_l01Asm_number (gd r1444 0) x1 x2 x3 x4 (gd r1444 1) (gd r1444 2) (gd r1444 3) x8) fun r1445 =>
                                    bd (spec_l01Asm_put (.int .i64 5) (gd r1445 0) (gd r1445 1) (gd r1445 2) (gd r1445 3) (gd r1445 4) (gd r1445 5) (gd r1445 6) (gd r1445 7) (gd r1445 8)) fun r1446 =>
                                    bd (spec_l01Cur_once (.int .i64 6) (gd r1446 4) (gd r1446 5) (gd r1446 6)) fun r1447 =>
                                    PV.ite (gd r1447 0)
                                      (bd (PV.len (gd r1446 7)) fun v1448 =>
                                      bd (PV.bin .sub v1448 (.int .i64 1)) fun v1449 =>
                                      bd (PV.cut 2 true (gd r1446 7) (.int .i64 0) v1449) fun v1450 =>
                                      bd (PV.cut 2 true (gd r1446 7) (.int .i64 0) v1449) fun v1451 =>
                                      bd (spec_l01Cur_pick (gd r1446 2) (gd r1447 1) (gd r1447 2) (gd r1447 3)) fun r1452 =>
                                      bd (spec_l01Asm_put (.int .i64 6) (gd r1452 0) (gd r1446 0) (gd r1446 1) (gd r1446 2) (gd r1446 3) (gd r1452 1) (gd r1452 2) (gd r1452 3) v1451) fun r1453 =>
                                      spec_l01Asm_value_c50 x0 (gd r1444 0) (gd r1453 0) (gd r1453 1) (gd r1453 2) (gd r1453 3) (gd r1453 4) (gd r1453 5) (gd r1453 6) (gd r1453 7))
                                      (spec_l01Asm_value_c50 x0 (gd r1444 0) (gd r1446 0) (gd r1446 1) (gd r1446 2) (gd r1446 3) (gd r1447 1) (gd r1447 2) (gd r1447 3) (gd r1446 7)))
                                    (bd (PV.bin .sub x0 (.int .i64 1)) fun v1454 =>
                                    bd (spec_l01Asm_value v1454 x1 x2 x3 x4 (gd r1359 1) (gd r1359 2) (gd r1359 3) x8) fun r1455 =>
                                    some [(gd r1455 0), (gd r1455 1), (gd r1455 2), (gd r1455 3), (gd r1455 4), (gd r1455 5), (gd r1455 6), (gd r1455 7)]))
                                  (bd (PV.bin .eql (gd r1359 0) (.int .i64 14)) fun v1456 =>
                                  PV.ite v1456
                                    (bd (PV.bin .sub x0 (.int .i64 1)) fun v1457 =>
                                    bd (spec_l01Asm_value v1457 x1 x2 x3 x4 (gd r1359 1) (gd r1359 2) (gd r1359 3) x8) fun r1458 =>
                                    bd (spec_l01Asm_put (.int .i64 8) (.int .i64 0) (gd r1458 0) (gd r1458 1) (gd r1458 2) (gd r1458 3) (gd r1458 4) (gd r1458 5) (gd r1458 6) (gd r1458 7)) fun r1459 =>
                                    bd (spec_l01Cur_pick (.int .i64 3) (gd r1459 4) (gd r1459 5) (gd r1459 6)) fun r1460 =>
                                    bd (PV.inb (.lst [(.int .i64 11), (.int .i64 15), (.int .i64 13)]) (gd r1460 0)) fun v1461 =>
                                    bd (PV.at_ 1 false (.lst [(.int .i64 11), (.int .i64 15), (.int .i64 13)]) (gd r1460 0)) fun v1462 =>
                                    bd (spec_l01Asm_put v1462 (.int .i64 0) (gd r1459 0) (gd r1459 1) (gd r1459 2) (gd r1459 3) (gd r1460 1) (gd r1460 2) (gd r1460 3) (gd r1459 7)) fun r1463 =>
                                    some [(gd r1463 0), (gd r1463 1), (gd r1463 2), (gd r1463 3), (gd r1463 4), (gd r1463 5), (gd r1463 6), (gd r1463 7)])
                                    (bd (spec_l01Cur_pick x3 (gd r1359 1) (gd r1359 2) (gd r1359 3)) fun r1464 =>
                                    bd (spec_l01Asm_put (.int .i64 6) (gd r1464 0) x1 x2 x3 x4 (gd r1464 1) (gd r1464 2) (gd r1464 3) x8) fun r1465 =>
                                    some [(gd r1465 0), (gd r1465 1), (gd r1465 2), (gd r1465 3), (gd r1465 4), (gd r1465 5), (gd r1465 6), (gd r1465 7)]))))))))))))))))) := scallEq _ _ _ _ (by kernel_rfl)
theorem spec_l01Asm_value_c2_eq (x0 x1 x2 x3 x4 x5 x6 x7 : PV) : spec_l01Asm_value_c2 x0 x1 x2 x3 x4 x5 x6 x7 =
  bd (spec_l01Cur_pick (.int .i64 5) x4 x5 x6) fun r1466 =>
  bd (PV.bin .eql (gd r1466 0) (.int .i64 0)) fun v1467 =>
  PV.ite v1467
    (bd (spec_l01Cur_pick (.int .i64 9) (gd r1466 1) (gd r1466 2) (gd r1466 3)) fun r1468 =>
    bd (PV.bin .sub (gd r1468 0) (.int .i64 2)) fun v1469 =>
    bd (spec_l01Asm_put (.int .i64 1) v1469 x0 x1 x2 x3 (gd r1468 1) (gd r1468 2) (gd r1468 3) x7) fun r1470 =>
    some [(gd r1470 0), (gd r1470 1), (gd r1470 2), (gd r1470 3), (gd r1470 4), (gd r1470 5), (gd r1470 6), (gd r1470 7)])
    (bd (PV.bin .eql (gd r1466 0) (.int .i64 1)) fun v1471 =>
    PV.ite v1471
      (bd (PV.bin .gtr x1 (.int .i64 0)) fun v1472 =>
      PV.ite v1472
        (bd (spec_l01Cur_pick x1 (gd r1466 1) (gd r1466 2) (gd r1466 3)) fun r1473 =>
        bd (spec_l01Asm_put (.int .i64 3) (gd r1473 0) x0 x1 x2 x3 (gd r1473 1) (gd r1473 2) (gd r1473 3) x7) fun r1474 =>
        some [(gd r1474 0), (gd r1474 1), (gd r1474 2), (gd r1474 3), (gd r1474 4), (gd r1474 5), (gd r1474 6), (gd r1474 7)])
        (bd (spec_l01Asm_put (.int .i64 4) (.int .i64 0) x0 x1 x2 x3 (gd r1466 1) (gd r1466 2) (gd r1466 3) x7) fun r1475 =>
        some [(gd r1475 0), (gd r1475 1), (gd r1475 2), (gd r1475 3), (gd r1475 4), (gd r1475 5), (gd r1475 6), (gd r1475 7)]))
      (bd (spec_l01Cur_pick x2 (gd r1466 1) (gd r1466 2) (gd r1466 3)) fun r1476 =>
      bd (spec_l01Asm_put (.int .i64 6) (gd r1476 0) x0 x1 x2 x3 (gd r1476 1) (gd r1476 2) (gd r1476 3) x7) fun r1477 =>
      some [(gd r1477 0), (gd r1477 1), (gd r1477 2), (gd r1477 3), (gd r1477 4), (gd r1477 5), (gd r1477 6), (gd r1477 7)])) := goOnEq _ _ _ _ _ _ _ _ (by kernel_rfl)
theorem spec_l01Asm_value_c38_eq (x0 x1 x2 x3 x4 x5 x6 x7 x8 x9 x10 : PV) : spec_l01Asm_value_c38 x0 x1 x2 x3 x4 x5 x6 x7 x8 x9 x10 =
  bd (PV.at_ 3 true x3 x1) fun v1478 =>
  bd (PV.cell v1478 0) fun v1479 =>
  bd (PV.bin .lss x2 v1479) fun v1480 =>
  PV.ite v1480
    (bd (PV.bin .sub x0 (.int .i64 1)) fun v1481 =>
    bd (spec_l01Asm_value v1481 x3 x4 x5 x6 x7 x8 x9 x10) fun r1482 =>
    bd (PV.bin .add x2 (.int .i64 1)) fun v1483 =>
    spec_l01Asm_value_c38 x0 x1 v1483 (gd r1482 0) (gd r1482 1) (gd r1482 2) (gd r1482 3) (gd r1482 4) (gd r1482 5) (gd r1482 6) (gd r1482 7))
    (bd (spec_l01Asm_number x1 x3 x4 x5 x6 x7 x8 x9 x10) fun r1484 =>
    bd (spec_l01Asm_put (.int .i64 24) (gd r1484 0) (gd r1484 1) (gd r1484 2) (gd r1484 3) (gd r1484 4) (gd r1484 5) (gd r1484 6) (gd r1484 7) (gd r1484 8)) fun r1485 =>
    some [(gd r1485 0), (gd r1485 1), (gd r1485 2), (gd r1485 3), (gd r1485 4), (gd r1485 5), (gd r1485 6), (gd r1485 7)]) := goOnEq _ _ _ _ _ _ _ _ (by kernel_rfl)
theorem spec_l01Asm_value_c50_eq (x0 x1 x2 x3 x4 x5 x6 x7 x8 x9 : PV) : spec_l01Asm_value_c50 x0 x1 x2 x3 x4 x5 x6 x7 x8 x9 =
  spec_l01Asm_value_c51 x0 x1 (.int .i64 0) x2 x3 x4 x5 x6 x7 x8 x9 := goOnEq _ _ _ _ _ _ _ _ (by kernel_rfl)
theorem spec_l01Asm_value_c51_eq (x0 x1 x2 x3 x4 x5 x6 x7 x8 x9 x10 : PV) : spec_l01Asm_value_c51 x0 x1 x2 x3 x4 x5 x6 x7 x8 x9 x10 =
  bd (PV.at_ 3 true x3 x1) fun v1486 =>
  bd (PV.cell v1486 0) fun v1487 =>
  bd (PV.bin .lss x2 v1487) fun v1488 =>
  PV.ite v1488
    (bd (PV.bin .sub x0 (.int .i64 1)) fun v1489 =>
    bd (spec_l01Asm_value v1489 x3 x4 x5 x6 x7 x8 x9 x10) fun r1490 =>
    bd (PV.bin .add x2 (.int .i64 1)) fun v1491 =>
    spec_l01Asm_value_c51 x0 x1 v1491 (gd r1490 0) (gd r1490 1) (gd r1490 2) (gd r1490 3) (gd r1490 4) (gd r1490 5) (gd r1490 6) (gd r1490 7))
    (bd (PV.at_ 3 true x3 x1) fun v1492 =>
    bd (PV.cell v1492 0) fun v1493 =>
    bd (spec_l01Asm_put (.int .i64 23) v1493 x3 x4 x5 x6 x7 x8 x9 x10) fun r1494 =>
    some [(gd r1494 0), (gd r1494 1), (gd r1494 2), (gd r1494 3), (gd r1494 4), (gd r1494 5), (gd r1494 6), (gd r1494 7)]) := goOnEq _ _ _ _ _ _ _ _ (by kernel_rfl)
theorem spec_l01Asm_put_eq (x0 x1 x2 x3 x4 x5 x6 x7 x8 x9 : PV) : spec_l01Asm_put x0 x1 x2 x3 x4 x5 x6 x7 x8 x9 =
  bd (PV.one x0) fun v1495 =>
  bd (PV.one x1) fun v1496 =>
  bd (PV.cat 2 16 true x9 (.lst [(.agg [v1495, v1496])])) fun v1497 =>
  some [x2, x3, x4, x5, x6, x7, x8, v1497] := scallEq _ _ _ _ (by kernel_rfl)
theorem spec_l01CopyModule_eq (x0 : PV) : spec_l01CopyModule x0 =
  bd (PV.whole 2 x0) fun v1498 =>
  bd (PV.cell v1498 0) fun v1499 =>
  bd (PV.cell v1498 1) fun v1500 =>
  bd (PV.cat 1 16 false (.lst []) v1499) fun v1501 =>
  spec_l01CopyModule_c3 (.int .i64 0) v1499 v1500 (.lst []) (.lst []) v1501 (.lst []) := scallEq _ _ _ _ (by kernel_rfl)
theorem spec_l01CopyModule_c3_eq (x0 x1 x2 x3 x4 x5 x6 : PV) : spec_l01CopyModule_c3 x0 x1 x2 x3 x4 x5 x6 =
  bd (PV.len x2) fun v1502 =>
  bd (PV.bin .lss x0 v1502) fun v1503 =>
  PV.ite v1503
    (bd (PV.at_ 3 true x2 x0) fun v1504 =>
    bd (PV.whole 3 v1504) fun v1505 =>
    bd (PV.cell v1505 0) fun v1506 =>
    bd (PV.cell v1505 1) fun v1507 =>
    bd (PV.cell v1505 2) fun v1508 =>
    bd (PV.cat 2 16 true (.lst []) v1508) fun v1509 =>
    bd (PV.one v1506) fun v1510 =>
    bd (PV.one v1507) fun v1511 =>
    bd (PV.cat 3 40 true x6 (.lst [(.agg [v1510, v1511, v1509])])) fun v1512 =>
    bd (PV.bin .add x0 (.int .i64 1)) fun v1513 =>
    spec_l01CopyModule_c3 v1513 x1 x2 x3 x4 x5 v1512)
    (some [x5, x6]) := goOnEq _ _ _ _ _ _ _ _ (by kernel_rfl)
theorem spec_l01Cur_number_eq (x0 x1 x2 : PV) : spec_l01Cur_number x0 x1 x2 =
  bd (spec_l01Cur_pick (.int .i64 9) x0 x1 x2) fun r1514 =>
  bd (PV.bin .eql (gd r1514 0) (.int .i64 0)) fun v1515 =>
  PV.ite v1515
    (bd (spec_l01Cur_pick (.int .i64 256) (gd r1514 1) (gd r1514 2) (gd r1514 3)) fun r1516 =>
    bd (PV.bin .sub (gd r1516 0) (.int .i64 128)) fun v1517 =>
    some [v1517, (gd r1516 1), (gd r1516 2), (gd r1516 3)])
    (bd (PV.bin .eql (gd r1514 0) (.int .i64 1)) fun v1518 =>
    PV.ite v1518
      (bd (spec_l01Cur_pick (.int .i64 8) (gd r1514 1) (gd r1514 2) (gd r1514 3)) fun r1519 =>
      bd (PV.inb (.lst [(.int .i64 1000000000), (.int .i64 (-1000000000)), (.int .i64 1000000001), (.int .i64 (-1000000001)), (.int .i64 9223372036854775807), (.int .i64 (-9223372036854775808)), (.int .i64 4611686018427387904), (.int .i64 31623)]) (gd r1519 0)) fun v1520 =>
      bd (PV.at_ 1 false (.lst [(.int .i64 1000000000), (.int .i64 (-1000000000)), (.int .i64 1000000001), (.int .i64 (-1000000001)), (.int .i64 9223372036854775807), (.int .i64 (-9223372036854775808)), (.int .i64 4611686018427387904), (.int .i64 31623)]) (gd r1519 0)) fun v1521 =>
      some [v1521, (gd r1519 1), (gd r1519 2), (gd r1519 3)])
      (bd (spec_l01Cur_pick (.int .i64 12) (gd r1514 1) (gd r1514 2) (gd r1514 3)) fun r1522 =>
      bd (PV.bin .sub (gd r1522 0) (.int .i64 3)) fun v1523 =>
      some [v1523, (gd r1522 1), (gd r1522 2), (gd r1522 3)])) := scallEq _ _ _ _ (by kernel_rfl)
theorem spec_l01Asm_stmt_eq (x0 x1 x2 x3 x4 x5 x6 x7 x8 : PV) : spec_l01Asm_stmt x0 x1 x2 x3 x4 x5 x6 x7 x8 =
  bd (spec_l01Cur_pick (.int .i64 9) x5 x6 x7) fun r1524 =>
  bd (PV.bin .eql (gd r1524 0) (.int .i64 0)) fun v1525 =>
  PV.ite v1525
    (bd (spec_l01Asm_value (.int .i64 2) x1 x2 x3 x4 (gd r1524 1) (gd r1524 2) (gd r1524 3) x8) fun r1526 =>
    bd (spec_l01Cur_pick (gd r1526 2) (gd r1526 4) (gd r1526 5) (gd r1526 6)) fun r1527 =>
    bd (spec_l01Asm_put (.int .i64 7) (gd r1527 0) (gd r1526 0) (gd r1526 1) (gd r1526 2) (gd r1526 3) (gd r1527 1) (gd r1527 2) (gd r1527 3) (gd r1526 7)) fun r1528 =>
    some [(gd r1528 0), (gd r1528 1), (gd r1528 2), (gd r1528 3), (gd r1528 4), (gd r1528 5), (gd r1528 6), (gd r1528 7)])
    (bd (PV.bin .eql (gd r1524 0) (.int .i64 1)) fun v1529 =>
    PV.ite v1529
      (bd (spec_l01Asm_value (.int .i64 2) x1 x2 x3 x4 (gd r1524 1) (gd r1524 2) (gd r1524 3) x8) fun r1530 =>
      bd (spec_l01Cur_pick (gd r1530 2) (gd r1530 4) (gd r1530 5) (gd r1530 6)) fun r1531 =>
      bd (spec_l01Asm_put (.int .i64 7) (gd r1531 0) (gd r1530 0) (gd r1530 1) (gd r1530 2) (gd r1530 3) (gd r1531 1) (gd r1531 2) (gd r1531 3) (gd r1530 7)) fun r1532 =>
      some [(gd r1532 0), (gd r1532 1), (gd r1532 2), (gd r1532 3), (gd r1532 4), (gd r1532 5), (gd r1532 6), (gd r1532 7)])
      (bd (PV.bin .eql (gd r1524 0) (.int .i64 2)) fun v1533 =>
      PV.ite v1533
        (bd (spec_l01Asm_value (.int .i64 2) x1 x2 x3 x4 (gd r1524 1) (gd r1524 2) (gd r1524 3) x8) fun r1534 =>
        bd (spec_l01Cur_pick (gd r1534 2) (gd r1534 4) (gd r1534 5) (gd r1534 6)) fun r1535 =>
        bd (spec_l01Asm_put (.int .i64 7) (gd r1535 0) (gd r1534 0) (gd r1534 1) (gd r1534 2) (gd r1534 3) (gd r1535 1) (gd r1535 2) (gd r1535 3) (gd r1534 7)) fun r1536 =>
        some [(gd r1536 0), (gd r1536 1), (gd r1536 2), (gd r1536 3), (gd r1536 4), (gd r1536 5), (gd r1536 6), (gd r1536 7)])
        (bd (PV.bin .eql (gd r1524 0) (.int .i64 3)) fun v1537 =>
        PV.ite v1537
          (bd (spec_l01Asm_value (.int .i64 1) x1 x2 x3 x4 (gd r1524 1) (gd r1524 2) (gd r1524 3) x8) fun r1538 =>
          bd (spec_l01Asm_put (.int .i64 26) (.int .i64 0) (gd r1538 0) (gd r1538 1) (gd r1538 2) (gd r1538 3) (gd r1538 4) (gd r1538 5) (gd r1538 6) (gd r1538 7)) fun r1539 =>
          some [(gd r1539 0), (gd r1539 1), (gd r1539 2), (gd r1539 3), (gd r1539 4), (gd r1539 5), (gd r1539 6), (gd r1539 7)])
          (bd (PV.bin .eql (gd r1524 0) (.int .i64 4)) fun v1540 =>
          PV.ite v1540
            (bd (spec_l01Asm_value (.int .i64 1) x1 x2 x3 x4 (gd r1524 1) (gd r1524 2) (gd r1524 3) x8) fun r1541 =>
            bd (spec_l01Asm_put (.int .i64 26) (.int .i64 0) (gd r1541 0) (gd r1541 1) (gd r1541 2) (gd r1541 3) (gd r1541 4) (gd r1541 5) (gd r1541 6) (gd r1541 7)) fun r1542 =>
            some [(gd r1542 0), (gd r1542 1), (gd r1542 2), (gd r1542 3), (gd r1542 4), (gd r1542 5), (gd r1542 6), (gd r1542 7)])
            (bd (PV.bin .eql (gd r1524 0) (.int .i64 5)) fun v1543 =>
            PV.ite v1543
              (bd (spec_l01Cur_pick x3 (gd r1524 1) (gd r1524 2) (gd r1524 3)) fun r1544 =>
              bd (spec_l01Asm_put (.int .i64 6) (gd r1544 0) x1 x2 x3 x4 (gd r1544 1) (gd r1544 2) (gd r1544 3) x8) fun r1545 =>
              bd (spec_l01Asm_value (.int .i64 1) (gd r1545 0) (gd r1545 1) (gd r1545 2) (gd r1545 3) (gd r1545 4) (gd r1545 5) (gd r1545 6) (gd r1545 7)) fun r1546 =>
              bd (spec_l01Cur_pick (.int .i64 2) (gd r1546 4) (gd r1546 5) (gd r1546 6)) fun r1547 =>
              bd (spec_l01Asm_put (.int .i64 22) (gd r1547 0) (gd r1546 0) (gd r1546 1) (gd r1546 2) (gd r1546 3) (gd r1547 1) (gd r1547 2) (gd r1547 3) (gd r1546 7)) fun r1548 =>
              some [(gd r1548 0), (gd r1548 1), (gd r1548 2), (gd r1548 3), (gd r1548 4), (gd r1548 5), (gd r1548 6), (gd r1548 7)])
              (bd (PV.bin .eql (gd r1524 0) (.int .i64 6)) fun v1549 =>
              PV.ite v1549
                (bd (PV.bin .gtr x0 (.int .i64 0)) fun v1550 =>
                PV.ite v1550
                  (bd (spec_l01Asm_test x1 x2 x3 x4 (gd r1524 1) (gd r1524 2) (gd r1524 3) x8) fun r1551 =>
                  bd (PV.len (gd r1551 7)) fun v1552 =>
                  bd (spec_l01Asm_put (.int .i64 19) (.int .i64 0) (gd r1551 0) (gd r1551 1) (gd r1551 2) (gd r1551 3) (gd r1551 4) (gd r1551 5) (gd r1551 6) (gd r1551 7)) fun r1553 =>
                  bd (PV.bin .sub x0 (.int .i64 1)) fun v1554 =>
                  bd (spec_l01Asm_list v1554 (.int .i64 2) (gd r1553 0) (gd r1553 1) (gd r1553 2) (gd r1553 3) (gd r1553 4) (gd r1553 5) (gd r1553 6) (gd r1553 7)) fun r1555 =>
                  bd (PV.len (gd r1555 7)) fun v1556 =>
                  bd (PV.inb (gd r1555 7) v1552) fun v1557 =>
                  bd (PV.one v1556) fun v1558 =>
                  bd (PV.setCell 2 (gd r1555 7) v1552 1 v1558) fun v1559 =>
                  some [(gd r1555 0), (gd r1555 1), (gd r1555 2), (gd r1555 3), (gd r1555 4), (gd r1555 5), (gd r1555 6), v1559])
                  (some [x1, x2, x3, x4, (gd r1524 1), (gd r1524 2), (gd r1524 3), x8]))
                (bd (PV.bin .gtr x0 (.int .i64 0)) fun v1560 =>
                PV.ite v1560
                  (bd (spec_l01Cur_pick x3 (gd r1524 1) (gd r1524 2) (gd r1524 3)) fun r1561 =>
                  bd (spec_l01Cur_pick (.int .i64 3) (gd r1561 1) (gd r1561 2) (gd r1561 3)) fun r1562 =>
                  bd (PV.bin .gtr (gd r1562 0) (.int .i64 0)) fun v1563 =>
                  PV.ite v1563
                    (bd (spec_l01Asm_put (.int .i64 1) (.int .i64 0) x1 x2 x3 x4 (gd r1562 1) (gd r1562 2) (gd r1562 3) x8) fun r1564 =>
                    bd (spec_l01Asm_put (.int .i64 7) (gd r1561 0) (gd r1564 0) (gd r1564 1) (gd r1564 2) (gd r1564 3) (gd r1564 4) (gd r1564 5) (gd r1564 6) (gd r1564 7)) fun r1565 =>
                    spec_l01Asm_stmt_c7 x0 (gd r1561 0) (gd r1565 0) (gd r1565 1) (gd r1565 2) (gd r1565 3) (gd r1565 4) (gd r1565 5) (gd r1565 6) (gd r1565 7))
                    (spec_l01Asm_stmt_c7 x0 (gd r1561 0) x1 x2 x3 x4 (gd r1562 1) (gd r1562 2) (gd r1562 3) x8))
                  (some [x1, x2, x3, x4, (gd r1524 1), (gd r1524 2), (gd r1524 3), x8])))))))) := scallEq _ _ _ _ (by kernel_rfl)
theorem spec_l01Asm_stmt_c7_eq (x0 x1 x2 x3 x4 x5 x6 x7 x8 x9 : PV) : spec_l01Asm_stmt_c7 x0 x1 x2 x3 x4 x5 x6 x7 x8 x9 =
  bd (PV.len x9) fun v1566 =>
  bd (spec_l01Asm_put (.int .i64 6) x1 x2 x3 x4 x5 x6 x7 x8 x9) fun r1567 =>
  bd (spec_l01Cur_pick (.int .i64 7) (gd r1567 4) (gd r1567 5) (gd r1567 6)) fun r1568 =>
  bd (spec_l01Asm_put (.int .i64 1) (gd r1568 0) (gd r1567 0) (gd r1567 1) (gd r1567 2) (gd r1567 3) (gd r1568 1) (gd r1568 2) (gd r1568 3) (gd r1567 7)) fun r1569 =>
  bd (spec_l01Asm_put (.int .i64 14) (.int .i64 0) (gd r1569 0) (gd r1569 1) (gd r1569 2) (gd r1569 3) (gd r1569 4) (gd r1569 5) (gd r1569 6) (gd r1569 7)) fun r1570 =>
  bd (PV.len (gd r1570 7)) fun v1571 =>
  bd (spec_l01Asm_put (.int .i64 19) (.int .i64 0) (gd r1570 0) (gd r1570 1) (gd r1570 2) (gd r1570 3) (gd r1570 4) (gd r1570 5) (gd r1570 6) (gd r1570 7)) fun r1572 =>
  bd (PV.bin .sub x0 (.int .i64 1)) fun v1573 =>
  bd (spec_l01Asm_list v1573 (.int .i64 2) (gd r1572 0) (gd r1572 1) (gd r1572 2) (gd r1572 3) (gd r1572 4) (gd r1572 5) (gd r1572 6) (gd r1572 7)) fun r1574 =>
  bd (spec_l01Asm_put (.int .i64 6) x1 (gd r1574 0) (gd r1574 1) (gd r1574 2) (gd r1574 3) (gd r1574 4) (gd r1574 5) (gd r1574 6) (gd r1574 7)) fun r1575 =>
  bd (spec_l01Asm_put (.int .i64 1) (.int .i64 1) (gd r1575 0) (gd r1575 1) (gd r1575 2) (gd r1575 3) (gd r1575 4) (gd r1575 5) (gd r1575 6) (gd r1575 7)) fun r1576 =>
  bd (spec_l01Asm_put (.int .i64 11) (.int .i64 0) (gd r1576 0) (gd r1576 1) (gd r1576 2) (gd r1576 3) (gd r1576 4) (gd r1576 5) (gd r1576 6) (gd r1576 7)) fun r1577 =>
  bd (spec_l01Asm_put (.int .i64 7) x1 (gd r1577 0) (gd r1577 1) (gd r1577 2) (gd r1577 3) (gd r1577 4) (gd r1577 5) (gd r1577 6) (gd r1577 7)) fun r1578 =>
  bd (spec_l01Asm_put (.int .i64 17) v1566 (gd r1578 0) (gd r1578 1) (gd r1578 2) (gd r1578 3) (gd r1578 4) (gd r1578 5) (gd r1578 6) (gd r1578 7)) fun r1579 =>
  bd (PV.len (gd r1579 7)) fun v1580 =>
  bd (PV.inb (gd r1579 7) v1571) fun v1581 =>
  bd (PV.one v1580) fun v1582 =>
  bd (PV.setCell 2 (gd r1579 7) v1571 1 v1582) fun v1583 =>
  some [(gd r1579 0), (gd r1579 1), (gd r1579 2), (gd r1579 3), (gd r1579 4), (gd r1579 5), (gd r1579 6), v1583] := goOnEq _ _ _ _ _ _ _ _ (by kernel_rfl)
theorem spec_l01Asm_record_eq (x0 x1 x2 x3 x4 x5 x6 x7 x8 : PV) : spec_l01Asm_record x0 x1 x2 x3 x4 x5 x6 x7 x8 =
  bd (spec_l01Cur_pick (.int .i64 3) x5 x6 x7) fun r1584 =>
  bd (PV.bin .add (.int .i64 1) (gd r1584 0)) fun v1585 =>
  bd (spec_l01Asm_put (.int .i64 20) v1585 x1 x2 x3 x4 (gd r1584 1) (gd r1584 2) (gd r1584 3) x8) fun r1586 =>
  bd (PV.bin .add v1585 (.int .i64 1)) fun v1587 =>
  bd (spec_l01Cur_pick v1587 (gd r1586 4) (gd r1586 5) (gd r1586 6)) fun r1588 =>
  spec_l01Asm_record_c3 x0 v1585 (gd r1588 0) (gd r1586 0) (gd r1586 1) (gd r1586 2) (gd r1586 3) (gd r1588 1) (gd r1588 2) (gd r1588 3) (gd r1586 7) := scallEq _ _ _ _ (by kernel_rfl)
theorem spec_l01Asm_record_c3_eq (x0 x1 x2 x3 x4 x5 x6 x7 x8 x9 x10 : PV) : spec_l01Asm_record_c3 x0 x1 x2 x3 x4 x5 x6 x7 x8 x9 x10 =
  bd (PV.bin .gtr x2 (.int .i64 0)) fun v1589 =>
  PV.ite v1589
    (bd (spec_l01Asm_put (.int .i64 8) (.int .i64 0) x3 x4 x5 x6 x7 x8 x9 x10) fun r1590 =>
    bd (PV.bin .sub x0 (.int .i64 2)) fun v1591 =>
    bd (spec_l01Asm_value v1591 (gd r1590 0) (gd r1590 1) (gd r1590 2) (gd r1590 3) (gd r1590 4) (gd r1590 5) (gd r1590 6) (gd r1590 7)) fun r1592 =>
    bd (spec_l01Cur_pick x1 (gd r1592 4) (gd r1592 5) (gd r1592 6)) fun r1593 =>
    bd (spec_l01Asm_put (.int .i64 22) (gd r1593 0) (gd r1592 0) (gd r1592 1) (gd r1592 2) (gd r1592 3) (gd r1593 1) (gd r1593 2) (gd r1593 3) (gd r1592 7)) fun r1594 =>
    bd (PV.bin .sub x2 (.int .i64 1)) fun v1595 =>
    spec_l01Asm_record_c3 x0 x1 v1595 (gd r1594 0) (gd r1594 1) (gd r1594 2) (gd r1594 3) (gd r1594 4) (gd r1594 5) (gd r1594 6) (gd r1594 7))
    (bd (spec_l01Cur_once (.int .i64 3) x7 x8 x9) fun r1596 =>
    PV.ite (gd r1596 0)
      (bd (spec_l01Cur_pick x1 (gd r1596 1) (gd r1596 2) (gd r1596 3)) fun r1597 =>
      bd (spec_l01Asm_put (.int .i64 21) (gd r1597 0) x3 x4 x5 x6 (gd r1597 1) (gd r1597 2) (gd r1597 3) x10) fun r1598 =>
      some [(gd r1598 0), (gd r1598 1), (gd r1598 2), (gd r1598 3), (gd r1598 4), (gd r1598 5), (gd r1598 6), (gd r1598 7)])
      (some [x3, x4, x5, x6, (gd r1596 1), (gd r1596 2), (gd r1596 3), x10])) := goOnEq _ _ _ _ _ _ _ _ (by kernel_rfl)
theorem spec_l01Asm_number_eq (x0 x1 x2 x3 x4 x5 x6 x7 x8 : PV) : spec_l01Asm_number x0 x1 x2 x3 x4 x5 x6 x7 x8 =
  bd (PV.bin .add x0 (.int .i64 1)) fun v1599 =>
  some [v1599, x1, x2, x3, x4, x5, x6, x7, x8] := scallEq _ _ _ _ (by kernel_rfl)
theorem spec_l01Asm_test_eq (x0 x1 x2 x3 x4 x5 x6 x7 : PV) : spec_l01Asm_test x0 x1 x2 x3 x4 x5 x6 x7 =
  bd (spec_l01Asm_value (.int .i64 1) x0 x1 x2 x3 x4 x5 x6 x7) fun r1600 =>
  bd (spec_l01Asm_value (.int .i64 0) (gd r1600 0) (gd r1600 1) (gd r1600 2) (gd r1600 3) (gd r1600 4) (gd r1600 5) (gd r1600 6) (gd r1600 7)) fun r1601 =>
  bd (spec_l01Cur_pick (.int .i64 2) (gd r1601 4) (gd r1601 5) (gd r1601 6)) fun r1602 =>
  bd (PV.inb (.lst [(.int .i64 14), (.int .i64 15)]) (gd r1602 0)) fun v1603 =>
  bd (PV.at_ 1 false (.lst [(.int .i64 14), (.int .i64 15)]) (gd r1602 0)) fun v1604 =>
  bd (spec_l01Asm_put v1604 (.int .i64 0) (gd r1601 0) (gd r1601 1) (gd r1601 2) (gd r1601 3) (gd r1602 1) (gd r1602 2) (gd r1602 3) (gd r1601 7)) fun r1605 =>
  bd (spec_l01Cur_once (.int .i64 4) (gd r1605 4) (gd r1605 5) (gd r1605 6)) fun r1606 =>
  PV.ite (gd r1606 0)
    (bd (spec_l01Asm_put (.int .i64 16) (.int .i64 0) (gd r1605 0) (gd r1605 1) (gd r1605 2) (gd r1605 3) (gd r1606 1) (gd r1606 2) (gd r1606 3) (gd r1605 7)) fun r1607 =>
    some [(gd r1607 0), (gd r1607 1), (gd r1607 2), (gd r1607 3), (gd r1607 4), (gd r1607 5), (gd r1607 6), (gd r1607 7)])
    (some [(gd r1605 0), (gd r1605 1), (gd r1605 2), (gd r1605 3), (gd r1606 1), (gd r1606 2), (gd r1606 3), (gd r1605 7)]) := scallEq _ _ _ _ (by kernel_rfl)
end Go.Proofs.Ytkcilikjhgkakaa



namespace Go.Proofs.Ytkcilikjhgkakaa
open Go
attribute [local irreducible] bd PV.ite PV.guardFlat PV.guardOwn PV.whole PV.one PV.cell PV.sub PV.at_ PV.len PV.slen PV.chr PV.beq PV.peq PV.ceq PV.bin PV.neg PV.not PV.conv PV.cut PV.scut PV.cat PV.setAt PV.setCell PV.ncopy PV.copyIn PV.zeros PV.toStr PV.toBytes PV.deref PV.isPtr PV.comp PV.inb PV.off PV.imin PV.imax PV.sel PV.apply

/-- Bytes, not too many. -/
def Bts (l : List Int) : Prop := (∀ x ∈ l, 0 ≤ x ∧ x ≤ 255) ∧ l.length ≤ 1048576

/-- The cursor hands out a number from 0 to under n. -/
def PickP (l : List Int) (n a : Int) (r : R) : Prop := ∃ v a' s' : Int, r = [.int .i64 v, bytesOf l, .int .i64 a', .int .i64 s'] ∧ 0 ≤ v ∧ (v < n ∨ v = 0) ∧ a ≤ a' ∧ a' ≤ a + 1 ∧ 0 ≤ s' ∧ s' < 65521

theorem pick9 {l : List Int} {n x a s b : Int} (hn : 2 ≤ n) (hx : 0 ≤ x) (h0 : 0 ≤ a) (h1 : a ≤ 4611686018427387904) (hs : 0 ≤ s ∧ s < 65521) (hb : b = a) :
    Ok (PickP l n b) (spec_l01Cur_pick_c9 (.int .i64 n) (.int .i64 x) (bytesOf l) (.int .i64 a) (.int .i64 s)) := by
  rw [spec_l01Cur_pick_c9_eq]
  subst hb
  repeat' (first | refine ok_lss ?_ | refine ok_leq ?_ | refine ok_gtr ?_ | refine ok_geq ?_ | refine ok_eql ?_ | refine ok_neq ?_ | (refine ok_ite (fun _ => ?_) (fun _ => ?_)) | (refine ok_ite_not (fun _ => ?_) (fun _ => ?_)) | refine ok_ite_b (fun _ => ?_) (fun _ => ?_) | refine ok_add (by omega) ?_ | refine ok_sub (by omega) ?_ | refine ok_rem (by omega) (by omega) ?_ | refine ok_quo (by omega) (by omega) (by omega) ?_ | refine ok_mul (by omega) ?_ | refine ok_neg (by omega) ?_ | refine ok_bytes_len ?_ | refine ok_len ?_ | refine ok_slen ?_ | refine ok_not ?_ | refine ok_i64 (by omega) ?_ | refine ok_one rfl ?_ | refine ok_cell rfl ?_ | refine ok_comp rfl ?_ | refine ok_whole rfl ?_)
  exact ok_some ⟨_, _, _, rfl, Int.emod_nonneg _ (by omega), .inl (Int.emod_lt_of_pos _ (by omega)), by omega, by omega, hs⟩

theorem pick_spec {l : List Int} (hl : Bts l) {n a s : Int} (hn : n ≤ 1099511627776) (h0 : 0 ≤ a) (h1 : a ≤ 4611686018427387904) (hs : 0 ≤ s ∧ s < 65521) :
    Ok (PickP l n a) (spec_l01Cur_pick (.int .i64 n) (bytesOf l) (.int .i64 a) (.int .i64 s)) := by
  rw [spec_l01Cur_pick_eq]
  obtain ⟨hb, hlen⟩ := hl
  refine ok_lss ?_
  refine ok_ite (fun _ => ok_some ⟨0, a, s, rfl, by omega, .inr rfl, by omega, by omega, hs⟩) (fun h => ?_)
  refine ok_bytes_len ?_
  refine ok_lss ?_
  refine ok_ite (fun h2 => ?_) (fun h2 => ?_)
  · refine ok_bytes_at h0 h2 (fun x hx _ => ?_)
    have := hb x hx
    refine ok_i64 (by omega) ?_
    exact pick9 (by omega) (by omega) h0 h1 hs rfl
  · repeat' (first | refine ok_lss ?_ | refine ok_leq ?_ | refine ok_gtr ?_ | refine ok_geq ?_ | refine ok_eql ?_ | refine ok_neq ?_ | (refine ok_ite (fun _ => ?_) (fun _ => ?_)) | (refine ok_ite_not (fun _ => ?_) (fun _ => ?_)) | refine ok_ite_b (fun _ => ?_) (fun _ => ?_) | refine ok_add (by omega) ?_ | refine ok_sub (by omega) ?_ | refine ok_rem (by omega) (by omega) ?_ | refine ok_quo (by omega) (by omega) (by omega) ?_ | refine ok_mul (by omega) ?_ | refine ok_neg (by omega) ?_ | refine ok_bytes_len ?_ | refine ok_len ?_ | refine ok_slen ?_ | refine ok_not ?_ | refine ok_i64 (by omega) ?_ | refine ok_one rfl ?_ | refine ok_cell rfl ?_ | refine ok_comp rfl ?_ | refine ok_whole rfl ?_)
    · refine ok_bytes_at (Int.emod_nonneg _ (by omega)) (Int.emod_lt_of_pos _ (by omega)) (fun x hx _ => ?_)
      have := hb x hx
      repeat' (first | refine ok_lss ?_ | refine ok_leq ?_ | refine ok_gtr ?_ | refine ok_geq ?_ | refine ok_eql ?_ | refine ok_neq ?_ | (refine ok_ite (fun _ => ?_) (fun _ => ?_)) | (refine ok_ite_not (fun _ => ?_) (fun _ => ?_)) | refine ok_ite_b (fun _ => ?_) (fun _ => ?_) | refine ok_add (by omega) ?_ | refine ok_sub (by omega) ?_ | refine ok_rem (by omega) (by omega) ?_ | refine ok_quo (by omega) (by omega) (by omega) ?_ | refine ok_mul (by omega) ?_ | refine ok_neg (by omega) ?_ | refine ok_bytes_len ?_ | refine ok_len ?_ | refine ok_slen ?_ | refine ok_not ?_ | refine ok_i64 (by omega) ?_ | refine ok_one rfl ?_ | refine ok_cell rfl ?_ | refine ok_comp rfl ?_ | refine ok_whole rfl ?_)
      exact pick9 (by omega) (by omega) h0 h1 (by omega) rfl
    · exact pick9 (by omega) (by omega) h0 h1 (by omega) rfl

section
variable {P : R → Prop} {k : R → Option R} {l : List Int} {a s : Int}

theorem ok_pick (hl : Bts l) {n : Int} (hn : n ≤ 1099511627776) (h0 : 0 ≤ a ∧ a ≤ 4611686018427387904 ∧ 0 ≤ s ∧ s < 65521)
    (h : ∀ v a' s' : Int, 0 ≤ v ∧ (v < n ∨ v = 0) ∧ a ≤ a' ∧ a' ≤ a + 1 ∧ 0 ≤ s' ∧ s' < 65521 → Ok P (k [.int .i64 v, bytesOf l, .int .i64 a', .int .i64 s'])) :
    Ok P (bd (spec_l01Cur_pick (.int .i64 n) (bytesOf l) (.int .i64 a) (.int .i64 s)) k) :=
  ok_call (pick_spec hl hn h0.1 h0.2.1 h0.2.2) (fun r ⟨v, a', s', hr, h1⟩ => by rw [hr]; exact h v a' s' h1)

theorem ok_once (hl : Bts l) {n : Int} (hn : 1 ≤ n ∧ n ≤ 1099511627776) (h0 : 0 ≤ a ∧ a ≤ 4611686018427387904 ∧ 0 ≤ s ∧ s < 65521)
    (h : ∀ (v : Bool) (a' s' : Int), a ≤ a' ∧ a' ≤ a + 1 ∧ 0 ≤ s' ∧ s' < 65521 → Ok P (k [.bool v, bytesOf l, .int .i64 a', .int .i64 s'])) :
    Ok P (bd (spec_l01Cur_once (.int .i64 n) (bytesOf l) (.int .i64 a) (.int .i64 s)) k) := by
  refine ok_call (Q := fun r => ∃ (v : Bool) (a' s' : Int), r = [.bool v, bytesOf l, .int .i64 a', .int .i64 s'] ∧ a ≤ a' ∧ a' ≤ a + 1 ∧ 0 ≤ s' ∧ s' < 65521) ?_ (fun r ⟨v, a', s', hr, h1⟩ => by rw [hr]; exact h v a' s' h1)
  rw [spec_l01Cur_once_eq]
  refine ok_pick hl (by omega) h0 (fun v a' s' h1 => ?_)
  repeat' (first | refine ok_lss ?_ | refine ok_leq ?_ | refine ok_gtr ?_ | refine ok_geq ?_ | refine ok_eql ?_ | refine ok_neq ?_ | (refine ok_ite (fun _ => ?_) (fun _ => ?_)) | (refine ok_ite_not (fun _ => ?_) (fun _ => ?_)) | refine ok_ite_b (fun _ => ?_) (fun _ => ?_) | refine ok_add (by omega) ?_ | refine ok_sub (by omega) ?_ | refine ok_rem (by omega) (by omega) ?_ | refine ok_quo (by omega) (by omega) (by omega) ?_ | refine ok_mul (by omega) ?_ | refine ok_neg (by omega) ?_ | refine ok_bytes_len ?_ | refine ok_len ?_ | refine ok_slen ?_ | refine ok_not ?_ | refine ok_i64 (by omega) ?_ | refine ok_one rfl ?_ | refine ok_cell rfl ?_ | refine ok_comp rfl ?_ | refine ok_whole rfl ?_)
  exact ok_some ⟨_, _, _, rfl, h1.2.2⟩

theorem ok_size (hl : Bts l) {n : Int} (hn : 1 ≤ n ∧ n ≤ 1000) (h0 : 0 ≤ a ∧ a ≤ 4611686018427387904 ∧ 0 ≤ s ∧ s < 65521)
    (h : ∀ v a' s' : Int, 0 ≤ v ∧ v ≤ n ∧ a ≤ a' ∧ a' ≤ a + 1 ∧ 0 ≤ s' ∧ s' < 65521 → Ok P (k [.int .i64 v, bytesOf l, .int .i64 a', .int .i64 s'])) :
    Ok P (bd (spec_l01Cur_size (.int .i64 n) (bytesOf l) (.int .i64 a) (.int .i64 s)) k) := by
  refine ok_call (Q := fun r => ∃ (v a' s' : Int), r = [.int .i64 v, bytesOf l, .int .i64 a', .int .i64 s'] ∧ 0 ≤ v ∧ v ≤ n ∧ a ≤ a' ∧ a' ≤ a + 1 ∧ 0 ≤ s' ∧ s' < 65521) ?_ (fun r ⟨v, a', s', hr, h1⟩ => by rw [hr]; exact h v a' s' h1)
  rw [spec_l01Cur_size_eq]
  have := hl.2
  repeat' (first | refine ok_lss ?_ | refine ok_leq ?_ | refine ok_gtr ?_ | refine ok_geq ?_ | refine ok_eql ?_ | refine ok_neq ?_ | (refine ok_ite (fun _ => ?_) (fun _ => ?_)) | (refine ok_ite_not (fun _ => ?_) (fun _ => ?_)) | refine ok_ite_b (fun _ => ?_) (fun _ => ?_) | refine ok_add (by omega) ?_ | refine ok_sub (by omega) ?_ | refine ok_rem (by omega) (by omega) ?_ | refine ok_quo (by omega) (by omega) (by omega) ?_ | refine ok_mul (by omega) ?_ | refine ok_neg (by omega) ?_ | refine ok_bytes_len ?_ | refine ok_len ?_ | refine ok_slen ?_ | refine ok_not ?_ | refine ok_i64 (by omega) ?_ | refine ok_one rfl ?_ | refine ok_cell rfl ?_ | refine ok_comp rfl ?_ | refine ok_whole rfl ?_)
  · refine ok_pick hl (by omega) h0 (fun v a' s' h1 => ?_)
    exact ok_some ⟨_, _, _, rfl, by omega, by omega, h1.2.2⟩
  · refine ok_pick hl (by omega) h0 (fun v a' s' h1 => ?_)
    exact ok_some ⟨_, _, _, rfl, by omega, by omega, h1.2.2⟩

/-- A literal row of numbers. -/
theorem ok_nums {k : PV → Option R} {xs : List Int} {i : Int} (h0 : 0 ≤ i) (h1 : i < xs.length) (h : ∀ x, x ∈ xs → Ok P (k (.int .i64 x))) : Ok P (bd (PV.at_ 1 false (.lst (xs.map (PV.int .i64))) (.int .i64 i)) k) := by
  refine ok_at h0 (by rw [List.length_map]; exact h1) (fun x hx => ?_) (fun x hx _ => ?_)
  · obtain ⟨y, _, rfl⟩ := List.mem_map.1 hx; rfl
  · obtain ⟨y, hy, rfl⟩ := List.mem_map.1 hx; exact h y hy

theorem ok_number (hl : Bts l) (h0 : 0 ≤ a ∧ a ≤ 4611686018427387900 ∧ 0 ≤ s ∧ s < 65521)
    (h : ∀ v a' s' : Int, -9223372036854775808 ≤ v ∧ v ≤ 9223372036854775807 ∧ a ≤ a' ∧ a' ≤ a + 2 ∧ 0 ≤ s' ∧ s' < 65521 → Ok P (k [.int .i64 v, bytesOf l, .int .i64 a', .int .i64 s'])) :
    Ok P (bd (spec_l01Cur_number (bytesOf l) (.int .i64 a) (.int .i64 s)) k) := by
  refine ok_call (Q := fun r => ∃ (v a' s' : Int), r = [.int .i64 v, bytesOf l, .int .i64 a', .int .i64 s'] ∧ -9223372036854775808 ≤ v ∧ v ≤ 9223372036854775807 ∧ a ≤ a' ∧ a' ≤ a + 2 ∧ 0 ≤ s' ∧ s' < 65521) ?_ (fun r ⟨v, a', s', hr, h1⟩ => by rw [hr]; exact h v a' s' h1)
  rw [spec_l01Cur_number_eq]
  refine ok_pick hl (by omega) (by omega) (fun v a1 s1 h1 => ?_)
  repeat' (first | refine ok_lss ?_ | refine ok_leq ?_ | refine ok_gtr ?_ | refine ok_geq ?_ | refine ok_eql ?_ | refine ok_neq ?_ | (refine ok_ite (fun _ => ?_) (fun _ => ?_)) | (refine ok_ite_not (fun _ => ?_) (fun _ => ?_)) | refine ok_ite_b (fun _ => ?_) (fun _ => ?_) | refine ok_add (by omega) ?_ | refine ok_sub (by omega) ?_ | refine ok_rem (by omega) (by omega) ?_ | refine ok_quo (by omega) (by omega) (by omega) ?_ | refine ok_mul (by omega) ?_ | refine ok_neg (by omega) ?_ | refine ok_bytes_len ?_ | refine ok_len ?_ | refine ok_slen ?_ | refine ok_not ?_ | refine ok_i64 (by omega) ?_ | refine ok_one rfl ?_ | refine ok_cell rfl ?_ | refine ok_comp rfl ?_ | refine ok_whole rfl ?_)
  · refine ok_pick hl (by omega) (by omega) (fun v2 a2 s2 h2 => ?_)
    repeat' (first | refine ok_lss ?_ | refine ok_leq ?_ | refine ok_gtr ?_ | refine ok_geq ?_ | refine ok_eql ?_ | refine ok_neq ?_ | (refine ok_ite (fun _ => ?_) (fun _ => ?_)) | (refine ok_ite_not (fun _ => ?_) (fun _ => ?_)) | refine ok_ite_b (fun _ => ?_) (fun _ => ?_) | refine ok_add (by omega) ?_ | refine ok_sub (by omega) ?_ | refine ok_rem (by omega) (by omega) ?_ | refine ok_quo (by omega) (by omega) (by omega) ?_ | refine ok_mul (by omega) ?_ | refine ok_neg (by omega) ?_ | refine ok_bytes_len ?_ | refine ok_len ?_ | refine ok_slen ?_ | refine ok_not ?_ | refine ok_i64 (by omega) ?_ | refine ok_one rfl ?_ | refine ok_cell rfl ?_ | refine ok_comp rfl ?_ | refine ok_whole rfl ?_)
    exact ok_some ⟨_, _, _, rfl, by omega, by omega, by omega, by omega, by omega, by omega⟩
  · refine ok_pick hl (by omega) (by omega) (fun v2 a2 s2 h2 => ?_)
    refine ok_inb (by omega) (by simp; omega) ?_
    refine ok_nums (xs := [1000000000, -1000000000, 1000000001, -1000000001, 9223372036854775807, -9223372036854775808, 4611686018427387904, 31623]) (by omega) (by simp; omega) (fun x hx => ?_)
    have hx : -9223372036854775808 ≤ x ∧ x ≤ 9223372036854775807 := by
      simp only [List.mem_cons, List.not_mem_nil, or_false] at hx
      omega
    exact ok_some ⟨_, _, _, rfl, by omega, by omega, by omega, by omega, by omega, by omega⟩
  · refine ok_pick hl (by omega) (by omega) (fun v2 a2 s2 h2 => ?_)
    repeat' (first | refine ok_lss ?_ | refine ok_leq ?_ | refine ok_gtr ?_ | refine ok_geq ?_ | refine ok_eql ?_ | refine ok_neq ?_ | (refine ok_ite (fun _ => ?_) (fun _ => ?_)) | (refine ok_ite_not (fun _ => ?_) (fun _ => ?_)) | refine ok_ite_b (fun _ => ?_) (fun _ => ?_) | refine ok_add (by omega) ?_ | refine ok_sub (by omega) ?_ | refine ok_rem (by omega) (by omega) ?_ | refine ok_quo (by omega) (by omega) (by omega) ?_ | refine ok_mul (by omega) ?_ | refine ok_neg (by omega) ?_ | refine ok_bytes_len ?_ | refine ok_len ?_ | refine ok_slen ?_ | refine ok_not ?_ | refine ok_i64 (by omega) ?_ | refine ok_one rfl ?_ | refine ok_cell rfl ?_ | refine ok_comp rfl ?_ | refine ok_whole rfl ?_)
    exact ok_some ⟨_, _, _, rfl, by omega, by omega, by omega, by omega, by omega, by omega⟩

end

end Go.Proofs.Ytkcilikjhgkakaa

namespace Go.Proofs.Ytkcilikjhgkakaa
open Go
attribute [local irreducible] bd PV.ite PV.guardFlat PV.guardOwn PV.whole PV.one PV.cell PV.sub PV.at_ PV.len PV.slen PV.chr PV.beq PV.peq PV.ceq PV.bin PV.neg PV.not PV.conv PV.cut PV.scut PV.cat PV.setAt PV.setCell PV.ncopy PV.copyIn PV.zeros PV.toStr PV.toBytes PV.deref PV.isPtr PV.comp PV.inb PV.off PV.imin PV.imax PV.sel PV.apply

structure InsT where
  o : Int
  a : Int
  deriving DecidableEq

structure FnT where
  p : Int
  lc : Int
  code : List InsT
  deriving DecidableEq

structure MdT where
  texts : List ByteArray
  funcs : List FnT

def InsT.pv (x : InsT) : PV := .agg [.int .i64 x.o, .int .i64 x.a]
def FnT.pv (f : FnT) : PV := .agg [.int .i64 f.p, .int .i64 f.lc, .lst (f.code.map InsT.pv)]
def MdT.pv (m : MdT) : PV := .agg [.lst (m.texts.map PV.str), .lst (m.funcs.map FnT.pv)]

def bet (n lo hi : Int) : Bool := decide (lo ≤ n) && decide (n ≤ hi)

def chB (c : UInt8) : Bool := !(decide ((c.toNat : Int) < 32)) && (!(decide ((126 : Int) < c.toNat)) && !(decide ((c.toNat : Int) = 34)))
def txtOkB (s : ByteArray) : Bool := decide ((s.size : Int) ≤ 60) && s.data.toList.all chB

def insOkB (nt nf lc nc o a : Int) : Bool :=
  if o = 1 then bet a (-1000000000) 1000000000 else if o = 2 then bet a 0 1 else if o = 3 then bet a 0 (nt - 1) else if o = 5 then bet a 0 (nf - 1) else if o = 24 then bet a 0 (nf - 1)
  else if o = 6 then bet a 0 (lc - 1) else if o = 7 then bet a 0 (lc - 1) else if o = 17 then bet a 0 (nc - 1) else if o = 18 then bet a 0 (nc - 1) else if o = 19 then bet a 0 (nc - 1)
  else if o = 20 then bet a 0 6 else if o = 21 then bet a 0 5 else if o = 22 then bet a 0 5 else if o = 23 then bet a 0 6 else bet o 1 26 && decide (a = 0)

def fnOkB (nt nf : Int) (f : FnT) : Bool := bet f.p 0 6 && (bet f.lc f.p 12 && (bet f.code.length 1 120 && f.code.all fun x => insOkB nt nf f.lc f.code.length x.o x.a))
def MdT.okB (m : MdT) : Bool := bet m.funcs.length 1 12 && (decide ((m.texts.length : Int) ≤ 20) && (m.texts.all txtOkB && m.funcs.all (fnOkB m.texts.length m.funcs.length)))

/-- Not too great to go through. -/
def MdT.sized (m : MdT) : Prop := m.texts.length ≤ 1000000 ∧ m.funcs.length ≤ 1000000 ∧ (∀ t ∈ m.texts, t.size ≤ 1000000) ∧ ∀ f ∈ m.funcs, f.code.length ≤ 1000000000

section
variable {P : R → Prop} {k : PV → Option R} {α : Type} {f : α → PV} {xs : List α}

theorem ok_at_map {s : Nat} {g : Bool} {kk : IntKind} {i : Nat} (hi : i < xs.length) (hel : ∀ a, (f a).isEl s g = true) (h : Ok P (k (f xs[i]))) : Ok P (bd (PV.at_ s g (.lst (xs.map f)) (.int kk (i : Int))) k) := by
  refine ok_at (by omega) (by rw [List.length_map]; omega) (fun x hx => ?_) (fun x _ hx => ?_)
  · obtain ⟨a, _, rfl⟩ := List.mem_map.1 hx; exact hel a
  · rw [Int.toNat_natCast, List.getElem?_map, List.getElem?_eq_getElem hi] at hx
    cases hx
    exact h

theorem ok_len_map (h : Ok P (k (.int .i64 xs.length))) : Ok P (bd (PV.len (.lst (xs.map f))) k) := by
  refine ok_len ?_
  rw [List.length_map]
  exact h

theorem chr_eq {s : ByteArray} {i : Nat} (hi : i < s.data.toList.length) : s[i]? = some s.data.toList[i] := by
  have h : i < s.size := by
    have e : s.size = s.data.toList.length := by rw [Array.length_toList]; rfl
    rw [e]; exact hi
  rw [getElem?_pos s i h, Array.getElem_toList]
  rfl

theorem ok_chr {s : ByteArray} {kk : IntKind} {i : Nat} (hi : i < s.data.toList.length) (h : Ok P (k (.int .u8 (s.data.toList[i].toNat : Int)))) : Ok P (bd (PV.chr (.str s) (.int kk (i : Int))) k) := by
  refine ok_bd _ ?_ h
  simp only [PV.chr]
  rw [if_pos (by omega), Int.toNat_natCast, chr_eq hi]

theorem ok_range {k : R → Option R} {n lo hi : Int} (h : Ok P (k [.bool (bet n lo hi)])) : Ok P (bd (impl_inRange (.int .i64 n) (.int .i64 lo) (.int .i64 hi)) k) := by
  refine ok_call (Q := fun r => r = [.bool (bet n lo hi)]) ?_ (fun r hr => by rw [hr]; exact h)
  rw [impl_inRange_eq]
  refine ok_leq (ok_ite (fun h1 => ok_leq (ok_some ?_)) (fun h1 => ok_some ?_))
  · simp [bet, h1]
  · simp [bet, h1]

theorem ok_bet {k : R → Option R} {n lo hi : Int} (h : Ok P (k [.bool (bet n lo hi)])) : Ok P (bd (spec_l01Between (.int .i64 n) (.int .i64 lo) (.int .i64 hi)) k) := by
  refine ok_call (Q := fun r => r = [.bool (bet n lo hi)]) ?_ (fun r hr => by rw [hr]; exact h)
  rw [spec_l01Between_eq]
  refine ok_geq (ok_ite (fun h1 => ok_leq (ok_some ?_)) (fun h1 => ok_some ?_))
  · simp [bet, h1]
  · simp [bet, h1]

theorem ok_place {k : R → Option R} {n m : Int} (hm : -1000000000 ≤ m ∧ m ≤ 1000000000) (h : Ok P (k [.bool (bet n 0 (m - 1))])) : Ok P (bd (impl_isPlace (.int .i64 n) (.int .i64 m)) k) := by
  refine ok_call (Q := fun r => r = [.bool (bet n 0 (m - 1))]) ?_ (fun r hr => by rw [hr]; exact h)
  rw [impl_isPlace_eq]
  exact ok_sub (by omega) (ok_range (ok_some rfl))

theorem ok_isNum {k : R → Option R} {n : Int} (h : Ok P (k [.bool (bet n (-1000000000) 1000000000)])) : Ok P (bd (impl_isNum (.int .i64 n)) k) := by
  refine ok_call (Q := fun r => r = [.bool (bet n (-1000000000) 1000000000)]) ?_ (fun r hr => by rw [hr]; exact h)
  rw [impl_isNum_eq]
  exact ok_range (ok_some rfl)

end

theorem drop_all {α : Type} {xs : List α} {i : Nat} (hi : i < xs.length) (p : α → Bool) : (xs.drop i).all p = (p xs[i] && (xs.drop (i + 1)).all p) := by
  rw [List.drop_eq_getElem_cons hi, List.all_cons]

/-! Texts. -/

theorem chB_1 {c : UInt8} (h : (c.toNat : Int) < 32) : chB c = false := by unfold chB; rw [decide_eq_true h]; rfl
theorem chB_2 {c : UInt8} (h : (126 : Int) < c.toNat) : chB c = false := by unfold chB; rw [decide_eq_true h]; simp
theorem chB_3 {c : UInt8} (h : (c.toNat : Int) = 34) : chB c = false := by unfold chB; rw [decide_eq_true h]; simp


theorem spec_text_loop {s : ByteArray} (hs : s.size ≤ 1000000) : ∀ (j i : Nat), s.data.toList.length - i = j → i ≤ s.data.toList.length →
    Ok (fun r => r = [.bool ((s.data.toList.drop i).all chB)]) (spec_l01Text_c4 (.str s) (.int .i64 i)) := by
  have hsz : s.size = s.data.toList.length := by rw [Array.length_toList]; rfl
  intro j
  induction j with
  | zero =>
    intro i h1 h2
    have : i = s.data.toList.length := by omega
    rw [spec_l01Text_c4_eq]
    refine ok_slen (ok_lss (ok_ite (fun h => by omega) (fun _ => ok_some ?_)))
    rw [this, List.drop_length]; rfl
  | succ j ih =>
    intro i h1 h2
    have hi : i < s.data.toList.length := by omega
    rw [spec_l01Text_c4_eq, drop_all hi]
    refine ok_slen (ok_lss (ok_ite (fun _ => ?_) (fun h => by omega)))
    refine ok_chr hi (ok_lss (ok_ite (fun h => ok_some (by rw [chB_1 h]; rfl)) (fun h3 => ?_)))
    refine ok_chr hi (ok_gtr (ok_ite (fun h => ok_some (by rw [chB_2 h]; rfl)) (fun h4 => ?_)))
    refine ok_chr hi (ok_eql (ok_ite (fun h => ok_some (by rw [chB_3 h]; rfl)) (fun h5 => ?_)))
    refine ok_add (by omega) ((ih (i + 1) (by omega) (by omega)).mono ?_)
    rintro r rfl
    have : chB s.data.toList[i] = true := by unfold chB; rw [decide_eq_false h3, decide_eq_false h4, decide_eq_false h5]; rfl
    rw [this, Bool.true_and]

theorem ok_text {P : R → Prop} {k : R → Option R} {s : ByteArray} (hs : s.size ≤ 1000000) (h : Ok P (k [.bool (txtOkB s)])) : Ok P (bd (spec_l01Text (.str s)) k) := by
  refine ok_call (Q := fun r => r = [.bool (txtOkB s)]) ?_ (fun r hr => by rw [hr]; exact h)
  rw [spec_l01Text_eq]
  refine ok_slen (ok_gtr (ok_ite (fun h => ok_some ?_) (fun h => ?_)))
  · have : ¬ ((s.size : Int) ≤ 60) := by omega
    simp [txtOkB, this]
  · refine (spec_text_loop hs _ 0 rfl (by omega)).mono ?_
    rintro r rfl
    have : (s.size : Int) ≤ 60 := by omega
    rw [List.drop_zero]
    simp [txtOkB, this]

theorem impl_text_loop {s : ByteArray} (hs : s.size ≤ 1000000) : ∀ (j i : Nat), s.data.toList.length - i = j → i ≤ s.data.toList.length →
    Ok (fun r => r = [.bool (decide ((s.size : Int) ≤ 60) && (s.data.toList.drop i).all chB)]) (impl_textOk_c2 (.str s) (.int .i64 s.size) (.int .i64 i)) := by
  have hsz : s.size = s.data.toList.length := by rw [Array.length_toList]; rfl
  intro j
  induction j with
  | zero =>
    intro i h1 h2
    have : i = s.data.toList.length := by omega
    rw [impl_textOk_c2_eq]
    refine ok_lss (ok_ite (fun h => by omega) (fun _ => ok_slen (ok_leq (ok_some ?_))))
    rw [this, List.drop_length]
    simp
  | succ j ih =>
    intro i h1 h2
    have hi : i < s.data.toList.length := by omega
    rw [impl_textOk_c2_eq, drop_all hi]
    refine ok_lss (ok_ite (fun _ => ?_) (fun h => by omega))
    refine ok_chr hi (ok_lss (ok_ite (fun h => ok_some (by rw [chB_1 h]; simp)) (fun h3 => ?_)))
    refine ok_chr hi (ok_gtr (ok_ite (fun h => ok_some (by rw [chB_2 h]; simp)) (fun h4 => ?_)))
    refine ok_chr hi (ok_eql (ok_ite (fun h => ok_some (by rw [chB_3 h]; simp)) (fun h5 => ?_)))
    refine ok_add (by omega) ((ih (i + 1) (by omega) (by omega)).mono ?_)
    rintro r rfl
    have : chB s.data.toList[i] = true := by unfold chB; rw [decide_eq_false h3, decide_eq_false h4, decide_eq_false h5]; rfl
    rw [this, Bool.true_and]

theorem impl_text {s : ByteArray} (hs : s.size ≤ 1000000) : Ok (fun r => r = [.bool (txtOkB s)]) (impl_textOk (.str s)) := by
  rw [impl_textOk_eq]
  refine ok_slen ((impl_text_loop hs _ 0 rfl (by omega)).mono ?_)
  rintro r rfl
  rw [List.drop_zero]
  rfl

end Go.Proofs.Ytkcilikjhgkakaa

namespace Go.Proofs.Ytkcilikjhgkakaa
open Go
attribute [local irreducible] bd PV.ite PV.guardFlat PV.guardOwn PV.whole PV.one PV.cell PV.sub PV.at_ PV.len PV.slen PV.chr PV.beq PV.peq PV.ceq PV.bin PV.neg PV.not PV.conv PV.cut PV.scut PV.cat PV.setAt PV.setCell PV.ncopy PV.copyIn PV.zeros PV.toStr PV.toBytes PV.deref PV.isPtr PV.comp PV.inb PV.off PV.imin PV.imax PV.sel PV.apply

theorem spec_ins {ts : List ByteArray} {fs : List FnT} {i : Nat} {x : InsT} (ht : ts.length ≤ 1000000) (hf : fs.length ≤ 1000000) (hi : i < fs.length) (hlc : 0 ≤ fs[i].lc ∧ fs[i].lc ≤ 12) (hc : fs[i].code.length ≤ 1000) :
    Ok (fun r => r = [.bool (insOkB ts.length fs.length fs[i].lc fs[i].code.length x.o x.a)]) (spec_InsOk (.agg [.lst (ts.map PV.str), .lst (fs.map FnT.pv)]) (.int .i64 i) x.pv) := by
  rw [spec_InsOk_eq]
  refine ok_whole rfl (ok_cell rfl (ok_cell rfl (ok_whole rfl (ok_cell rfl (ok_cell rfl ?_)))))
  refine ok_len_map (ok_sub (by omega) (ok_bet (ok_not ?_)))
  have hb : bet (i : Int) 0 ((fs.length : Int) - 1) = true := by
    simp only [bet, Bool.and_eq_true, decide_eq_true_eq]
    omega
  rw [hb]
  refine ok_ite_f ?_
  refine ok_eql (ok_ite (fun h => ok_bet (ok_some (by simp [hd, insOkB, h]))) (fun h1 => ?_))
  refine ok_eql (ok_ite (fun h => ok_bet (ok_some (by simp [hd, insOkB, h]))) (fun h2 => ?_))
  refine ok_eql (ok_ite (fun h => ok_len_map (ok_sub (by omega) (ok_bet (ok_some (by simp [hd, insOkB, h]))))) (fun h3 => ?_))
  refine ok_eql (ok_ite (fun h => ok_len_map (ok_sub (by omega) (ok_bet (ok_some (by simp [hd, insOkB, h]))))) (fun h5 => ?_))
  refine ok_eql (ok_ite (fun h => ok_len_map (ok_sub (by omega) (ok_bet (ok_some (by simp [hd, insOkB, h]))))) (fun h24 => ?_))
  refine ok_eql (ok_ite (fun h => ok_at_map hi (fun _ => rfl) (ok_cell rfl (ok_sub (by omega) (ok_bet (ok_some (by simp [hd, insOkB, h])))))) (fun h6 => ?_))
  refine ok_eql (ok_ite (fun h => ok_at_map hi (fun _ => rfl) (ok_cell rfl (ok_sub (by omega) (ok_bet (ok_some (by simp [hd, insOkB, h])))))) (fun h7 => ?_))
  refine ok_eql (ok_ite (fun h => ok_at_map hi (fun _ => rfl) (ok_cell rfl (ok_len_map (ok_sub (by omega) (ok_bet (ok_some (by simp [hd, insOkB, h]))))))) (fun h17 => ?_))
  refine ok_eql (ok_ite (fun h => ok_at_map hi (fun _ => rfl) (ok_cell rfl (ok_len_map (ok_sub (by omega) (ok_bet (ok_some (by simp [hd, insOkB, h]))))))) (fun h18 => ?_))
  refine ok_eql (ok_ite (fun h => ok_at_map hi (fun _ => rfl) (ok_cell rfl (ok_len_map (ok_sub (by omega) (ok_bet (ok_some (by simp [hd, insOkB, h]))))))) (fun h19 => ?_))
  refine ok_eql (ok_ite (fun h => ok_bet (ok_some (by simp [hd, insOkB, h]))) (fun h20 => ?_))
  refine ok_eql (ok_ite (fun h => ok_bet (ok_some (by simp [hd, insOkB, h]))) (fun h21 => ?_))
  refine ok_eql (ok_ite (fun h => ok_bet (ok_some (by simp [hd, insOkB, h]))) (fun h22 => ?_))
  refine ok_eql (ok_ite (fun h => ok_bet (ok_some (by simp [hd, insOkB, h]))) (fun h23 => ?_))
  refine ok_bet (ok_ite_b (fun hb => ok_eql (ok_some (by simp [hd, insOkB, hb, h1, h2, h3, h5, h24, h6, h7, h17, h18, h19, h20, h21, h22, h23]))) (fun hb => ok_some (by simp [hd, insOkB, hb, h1, h2, h3, h5, h24, h6, h7, h17, h18, h19, h20, h21, h22, h23])))

theorem impl_ins {ts : List ByteArray} {fs : List FnT} {f : FnT} {x : InsT} (ht : ts.length ≤ 1000000) (hf : fs.length ≤ 1000000) (hlc : 0 ≤ f.lc ∧ f.lc ≤ 12) (hc : f.code.length ≤ 1000) :
    Ok (fun r => r = [.bool (insOkB ts.length fs.length f.lc f.code.length x.o x.a)]) (impl_insOk (.agg [.lst (ts.map PV.str), .lst (fs.map FnT.pv)]) f.pv x.pv) := by
  rw [impl_insOk_eq]
  refine ok_whole rfl (ok_cell rfl (ok_cell rfl (ok_whole rfl (ok_cell rfl (ok_cell rfl (ok_cell rfl (ok_whole rfl (ok_cell rfl (ok_cell rfl ?_)))))))))
  refine ok_eql (ok_ite (fun h => ok_isNum (ok_some (by simp [hd, insOkB, h]))) (fun h1 => ?_))
  refine ok_eql (ok_ite (fun h => ok_range (ok_some (by simp [hd, insOkB, h]))) (fun h2 => ?_))
  refine ok_eql (ok_ite (fun h => ok_len_map (ok_place (by omega) (ok_some (by simp [hd, insOkB, h])))) (fun h3 => ?_))
  refine ok_eql (ok_ite (fun h => ok_len_map (ok_place (by omega) (ok_some (by simp [hd, insOkB, h])))) (fun h5 => ?_))
  refine ok_eql (ok_ite (fun h => ok_len_map (ok_place (by omega) (ok_some (by simp [hd, insOkB, h])))) (fun h24 => ?_))
  refine ok_eql (ok_ite (fun h => ok_place (by omega) (ok_some (by simp [hd, insOkB, h]))) (fun h6 => ?_))
  refine ok_eql (ok_ite (fun h => ok_place (by omega) (ok_some (by simp [hd, insOkB, h]))) (fun h7 => ?_))
  refine ok_eql (ok_ite (fun h => ok_len_map (ok_place (by omega) (ok_some (by simp [hd, insOkB, h])))) (fun h17 => ?_))
  refine ok_eql (ok_ite (fun h => ok_len_map (ok_place (by omega) (ok_some (by simp [hd, insOkB, h])))) (fun h18 => ?_))
  refine ok_eql (ok_ite (fun h => ok_len_map (ok_place (by omega) (ok_some (by simp [hd, insOkB, h])))) (fun h19 => ?_))
  refine ok_eql (ok_ite (fun h => ok_range (ok_some (by simp [hd, insOkB, h]))) (fun h20 => ?_))
  refine ok_eql (ok_ite (fun h => ok_place (by omega) (ok_some (by simp [hd, insOkB, h]))) (fun h21 => ?_))
  refine ok_eql (ok_ite (fun h => ok_place (by omega) (ok_some (by simp [hd, insOkB, h]))) (fun h22 => ?_))
  refine ok_eql (ok_ite (fun h => ok_range (ok_some (by simp [hd, insOkB, h]))) (fun h23 => ?_))
  refine ok_range (ok_ite_b (fun hb => ok_eql (ok_some (by simp [hd, insOkB, hb, h1, h2, h3, h5, h24, h6, h7, h17, h18, h19, h20, h21, h22, h23]))) (fun hb => ok_some (by simp [hd, insOkB, hb, h1, h2, h3, h5, h24, h6, h7, h17, h18, h19, h20, h21, h22, h23])))

/-! The reference. -/

section
variable {ts : List ByteArray} {fs : List FnT} (ht : ts.length ≤ 1000000) (hf : fs.length ≤ 1000000)
include ht hf

theorem spec_ok_code {i : Nat} (hi : i < fs.length) (hlc : 0 ≤ fs[i].lc ∧ fs[i].lc ≤ 12) (hc : fs[i].code.length ≤ 1000) {b : Bool} (hb : Ok (fun r => r = [.bool b]) (spec_ModuleOk_c9 (.int .i64 ((i : Int) + 1)) (.lst (ts.map PV.str)) (.lst (fs.map FnT.pv)))) :
    ∀ (j n : Nat), fs[i].code.length - n = j → n ≤ fs[i].code.length →
    Ok (fun r => r = [.bool ((fs[i].code.drop n).all (fun x => insOkB ts.length fs.length fs[i].lc fs[i].code.length x.o x.a) && b)])
      (spec_ModuleOk_c15 (.int .i64 i) (.int .i64 n) (.lst (ts.map PV.str)) (.lst (fs.map FnT.pv)) (.int .i64 fs[i].p) (.int .i64 fs[i].lc) (.lst (fs[i].code.map InsT.pv))) := by
  intro j
  induction j with
  | zero =>
    intro n h1 h2
    have : n = fs[i].code.length := by omega
    rw [spec_ModuleOk_c15_eq]
    refine ok_len_map (ok_lss (ok_ite (fun h => by omega) (fun _ => ok_add (by omega) ?_)))
    rw [this, List.drop_length]
    exact hb
  | succ j ih =>
    intro n h1 h2
    have hn : n < fs[i].code.length := by omega
    rw [spec_ModuleOk_c15_eq, drop_all hn]
    refine ok_len_map (ok_lss (ok_ite (fun _ => ?_) (fun h => by omega)))
    refine ok_at_map hn (fun _ => rfl) (ok_call (spec_ins ht hf hi hlc hc) (fun r hr => ?_))
    subst hr
    refine ok_not (ok_ite_b (fun h => ok_some ?_) (fun h => ?_))
    · have : insOkB ts.length fs.length fs[i].lc fs[i].code.length fs[i].code[n].o fs[i].code[n].a = false := by simpa using h
      rw [this]; rfl
    · have : insOkB ts.length fs.length fs[i].lc fs[i].code.length fs[i].code[n].o fs[i].code[n].a = true := by simpa using h
      rw [this, Bool.true_and]
      exact ok_add (by omega) (ih (n + 1) (by omega) (by omega))

theorem spec_ok_funs : ∀ (j i : Nat), fs.length - i = j → i ≤ fs.length →
    Ok (fun r => r = [.bool ((fs.drop i).all (fnOkB ts.length fs.length))]) (spec_ModuleOk_c9 (.int .i64 i) (.lst (ts.map PV.str)) (.lst (fs.map FnT.pv))) := by
  intro j
  induction j with
  | zero =>
    intro i h1 h2
    have : i = fs.length := by omega
    rw [spec_ModuleOk_c9_eq]
    refine ok_len_map (ok_lss (ok_ite (fun h => by omega) (fun _ => ok_some ?_)))
    rw [this, List.drop_length]; rfl
  | succ j ih =>
    intro i h1 h2
    have hi : i < fs.length := by omega
    rw [spec_ModuleOk_c9_eq, drop_all hi]
    refine ok_len_map (ok_lss (ok_ite (fun _ => ?_) (fun h => by omega)))
    refine ok_at_map hi (fun _ => rfl) (ok_whole rfl (ok_cell rfl (ok_cell rfl (ok_cell rfl ?_))))
    refine ok_bet (ok_not (ok_ite_b (fun h => ok_some ?_) (fun h1' => ?_)))
    · have : bet fs[i].p 0 6 = false := by simpa using h
      simp [fnOkB, this]
    refine ok_bet (ok_not (ok_ite_b (fun h => ok_some ?_) (fun h2' => ?_)))
    · have : bet fs[i].lc fs[i].p 12 = false := by simpa using h
      simp [fnOkB, this]
    refine ok_len_map (ok_bet (ok_not (ok_ite_b (fun h => ok_some ?_) (fun h3' => ?_))))
    · have : bet (fs[i].code.length : Int) 1 120 = false := by simpa using h
      simp [fnOkB, this]
    have g1 : bet fs[i].p 0 6 = true := by simpa using h1'
    have g2 : bet fs[i].lc fs[i].p 12 = true := by simpa using h2'
    have g3 : bet (fs[i].code.length : Int) 1 120 = true := by simpa using h3'
    have q1 := g1
    have q2 := g2
    have q3 := g3
    simp only [bet, Bool.and_eq_true, decide_eq_true_eq] at q1 q2 q3
    refine (spec_ok_code ht hf hi (by omega) (by omega) (ih (i + 1) (by omega) (by omega)) _ 0 rfl (by omega)).mono ?_
    rintro r rfl
    rw [List.drop_zero]
    simp only [fnOkB, g1, g2, g3, Bool.true_and]

theorem spec_ok_texts (hs : ∀ t ∈ ts, t.size ≤ 1000000) : ∀ (j i : Nat), ts.length - i = j → i ≤ ts.length →
    Ok (fun r => r = [.bool ((ts.drop i).all txtOkB && fs.all (fnOkB ts.length fs.length))]) (spec_ModuleOk_c4 (.int .i64 i) (.lst (ts.map PV.str)) (.lst (fs.map FnT.pv))) := by
  intro j
  induction j with
  | zero =>
    intro i h1 h2
    have : i = ts.length := by omega
    rw [spec_ModuleOk_c4_eq]
    refine ok_len_map (ok_lss (ok_ite (fun h => by omega) (fun _ => ?_)))
    rw [this, List.drop_length]
    exact spec_ok_funs ht hf _ 0 rfl (by omega)
  | succ j ih =>
    intro i h1 h2
    have hi : i < ts.length := by omega
    rw [spec_ModuleOk_c4_eq, drop_all hi]
    refine ok_len_map (ok_lss (ok_ite (fun _ => ?_) (fun h => by omega)))
    refine ok_at_map hi (fun _ => rfl) (ok_text (hs _ (List.getElem_mem _)) (ok_not (ok_ite_b (fun h => ok_some ?_) (fun h => ?_))))
    · have : txtOkB ts[i] = false := by simpa using h
      rw [this]; rfl
    · have : txtOkB ts[i] = true := by simpa using h
      rw [this, Bool.true_and]
      exact ok_add (by omega) (ih (i + 1) (by omega) (by omega))

end

theorem spec_moduleOk {m : MdT} (h : m.sized) : Ok (fun r => r = [.bool m.okB]) (spec_ModuleOk m.pv) := by
  obtain ⟨ht, hf, hs, _⟩ := h
  rw [spec_ModuleOk_eq]
  refine ok_whole rfl (ok_cell rfl (ok_cell rfl (ok_len_map (ok_bet (ok_not (ok_ite_b (fun h => ok_some ?_) (fun h1 => ?_)))))))
  · have : bet (m.funcs.length : Int) 1 12 = false := by simpa using h
    simp [MdT.okB, this]
  refine ok_len_map (ok_gtr (ok_ite (fun h => ok_some ?_) (fun h2 => ?_)))
  · have : ¬ ((m.texts.length : Int) ≤ 20) := by omega
    simp only [MdT.okB, decide_eq_false this, Bool.false_and, Bool.and_false]
  have g1 : bet (m.funcs.length : Int) 1 12 = true := by simpa using h1
  have g2 : (m.texts.length : Int) ≤ 20 := by omega
  refine (spec_ok_texts ht hf hs _ 0 rfl (by omega)).mono ?_
  rintro r rfl
  rw [List.drop_zero]
  simp only [MdT.okB, g1, decide_eq_true g2, Bool.true_and]

/-! The program. -/

section
variable {P : R → Prop} {k : PV → Option R} {kr : R → Option R}

/-- A search that finds nothing, or something. -/
theorem index_ins {f : Nat} {caps : List PV} {xs : List InsT} (hx : xs.length ≤ 1000000000) (p : InsT → Bool) (hp : ∀ x ∈ xs, Ok (fun r => r = [.bool (p x)]) (pcallO f ([x.pv] ++ caps))) : ∀ (j i : Nat), xs.length - i = j → i ≤ xs.length →
    Ok (fun r => ∃ n : Int, r = [.int .i64 n] ∧ (0 ≤ n ↔ (xs.drop i).any p = true)) (slices_IndexFunc_impl_Ins_impl_Ins_c2 (.lst (xs.map InsT.pv)) (.fn f caps) (.int .i64 xs.length) (.int .i64 i)) := by
  intro j
  induction j with
  | zero =>
    intro i h1 h2
    have : i = xs.length := by omega
    rw [slices_IndexFunc_impl_Ins_impl_Ins_c2_eq]
    refine ok_lss (ok_ite (fun h => by omega) (fun _ => ok_some ⟨-1, rfl, ?_⟩))
    rw [this, List.drop_length]
    simp
  | succ j ih =>
    intro i h1 h2
    have hi : i < xs.length := by omega
    rw [slices_IndexFunc_impl_Ins_impl_Ins_c2_eq]
    refine ok_lss (ok_ite (fun _ => ?_) (fun h => by omega))
    refine ok_at_map hi (fun _ => rfl) (ok_apply rfl (hp _ (List.getElem_mem _)) (fun r hr => ?_))
    subst hr
    rw [List.drop_eq_getElem_cons hi, List.any_cons]
    refine ok_ite_b (fun h => ok_some ⟨i, rfl, ?_⟩) (fun h => ?_)
    · rw [h]; simp
    · refine ok_add (by omega) ((ih (i + 1) (by omega) (by omega)).mono ?_)
      rintro r ⟨n, hr, hn⟩
      exact ⟨n, hr, by rw [h, Bool.false_or]; exact hn⟩

theorem ok_anyIns {f : Nat} {caps : List PV} {xs : List InsT} (hx : xs.length ≤ 1000000000) (p : InsT → Bool) (hp : ∀ x ∈ xs, Ok (fun r => r = [.bool (p x)]) (pcallO f ([x.pv] ++ caps))) (h : Ok P (kr [.bool (xs.any p)])) :
    Ok P (bd (slices_ContainsFunc_impl_Ins_impl_Ins (.lst (xs.map InsT.pv)) (.fn f caps)) kr) := by
  refine ok_call (Q := fun r => r = [.bool (xs.any p)]) ?_ (fun r hr => by rw [hr]; exact h)
  rw [slices_ContainsFunc_impl_Ins_impl_Ins_eq]
  refine ok_call (Q := fun r => ∃ n : Int, r = [.int .i64 n] ∧ (0 ≤ n ↔ xs.any p = true)) ?_ ?_
  · rw [slices_IndexFunc_impl_Ins_impl_Ins_eq]
    refine ok_len_map ?_
    exact index_ins hx p hp _ 0 rfl (by omega)
  · rintro r ⟨n, rfl, hn⟩
    refine ok_geq (ok_some ?_)
    have : decide (0 ≤ n) = xs.any p := by
      by_cases h : 0 ≤ n
      · rw [decide_eq_true h, hn.1 h]
      · rw [decide_eq_false h]
        cases h2 : xs.any p with
        | false => rfl
        | true => exact absurd (hn.2 h2) h
    rw [this]

theorem index_txt {f : Nat} {caps : List PV} {xs : List ByteArray} (hx : xs.length ≤ 1000000000) (p : ByteArray → Bool) (hp : ∀ x ∈ xs, Ok (fun r => r = [.bool (p x)]) (pcallO f ([.str x] ++ caps))) : ∀ (j i : Nat), xs.length - i = j → i ≤ xs.length →
    Ok (fun r => ∃ n : Int, r = [.int .i64 n] ∧ (0 ≤ n ↔ (xs.drop i).any p = true)) (slices_IndexFunc_string_string_c2 (.lst (xs.map PV.str)) (.fn f caps) (.int .i64 xs.length) (.int .i64 i)) := by
  intro j
  induction j with
  | zero =>
    intro i h1 h2
    have : i = xs.length := by omega
    rw [slices_IndexFunc_string_string_c2_eq]
    refine ok_lss (ok_ite (fun h => by omega) (fun _ => ok_some ⟨-1, rfl, ?_⟩))
    rw [this, List.drop_length]
    simp
  | succ j ih =>
    intro i h1 h2
    have hi : i < xs.length := by omega
    rw [slices_IndexFunc_string_string_c2_eq]
    refine ok_lss (ok_ite (fun _ => ?_) (fun h => by omega))
    refine ok_at_map hi (fun _ => rfl) (ok_apply rfl (hp _ (List.getElem_mem _)) (fun r hr => ?_))
    subst hr
    rw [List.drop_eq_getElem_cons hi, List.any_cons]
    refine ok_ite_b (fun h => ok_some ⟨i, rfl, ?_⟩) (fun h => ?_)
    · rw [h]; simp
    · refine ok_add (by omega) ((ih (i + 1) (by omega) (by omega)).mono ?_)
      rintro r ⟨n, hr, hn⟩
      exact ⟨n, hr, by rw [h, Bool.false_or]; exact hn⟩

theorem ok_anyTxt {f : Nat} {caps : List PV} {xs : List ByteArray} (hx : xs.length ≤ 1000000000) (p : ByteArray → Bool) (hp : ∀ x ∈ xs, Ok (fun r => r = [.bool (p x)]) (pcallO f ([.str x] ++ caps))) (h : Ok P (kr [.bool (xs.any p)])) :
    Ok P (bd (slices_ContainsFunc_string_string (.lst (xs.map PV.str)) (.fn f caps)) kr) := by
  refine ok_call (Q := fun r => r = [.bool (xs.any p)]) ?_ (fun r hr => by rw [hr]; exact h)
  rw [slices_ContainsFunc_string_string_eq]
  refine ok_call (Q := fun r => ∃ n : Int, r = [.int .i64 n] ∧ (0 ≤ n ↔ xs.any p = true)) ?_ ?_
  · rw [slices_IndexFunc_string_string_eq]
    refine ok_len_map ?_
    exact index_txt hx p hp _ 0 rfl (by omega)
  · rintro r ⟨n, rfl, hn⟩
    refine ok_geq (ok_some ?_)
    have : decide (0 ≤ n) = xs.any p := by
      by_cases h : 0 ≤ n
      · rw [decide_eq_true h, hn.1 h]
      · rw [decide_eq_false h]
        cases h2 : xs.any p with
        | false => rfl
        | true => exact absurd (hn.2 h2) h
    rw [this]

end

theorem any_not {α : Type} (p : α → Bool) : ∀ (xs : List α), xs.any (fun x => !p x) = !xs.all p
  | [] => rfl
  | x :: r => by rw [List.any_cons, List.all_cons, any_not p r, Bool.not_and]

section
variable {ts : List ByteArray} {fs : List FnT} (ht : ts.length ≤ 1000000) (hf : fs.length ≤ 1000000)
include ht hf

theorem impl_ok_funs : ∀ (j i : Nat), fs.length - i = j → i ≤ fs.length →
    Ok (fun r => r = [.bool ((fs.drop i).all (fnOkB ts.length fs.length))]) (impl_ModuleOk_c4 (.lst (fs.map FnT.pv)) (.int .i64 fs.length) (.int .i64 i) (.lst (ts.map PV.str)) (.lst (fs.map FnT.pv))) := by
  intro j
  induction j with
  | zero =>
    intro i h1 h2
    have : i = fs.length := by omega
    rw [impl_ModuleOk_c4_eq]
    refine ok_lss (ok_ite (fun h => by omega) (fun _ => ok_some ?_))
    rw [this, List.drop_length]; rfl
  | succ j ih =>
    intro i h1 h2
    have hi : i < fs.length := by omega
    rw [impl_ModuleOk_c4_eq, drop_all hi]
    refine ok_lss (ok_ite (fun _ => ?_) (fun h => by omega))
    refine ok_at_map hi (fun _ => rfl) (ok_whole rfl (ok_cell rfl (ok_cell rfl (ok_cell rfl ?_))))
    refine ok_range (ok_not (ok_ite_b (fun h => ok_some ?_) (fun h1' => ?_)))
    · have : bet fs[i].p 0 6 = false := by simpa using h
      simp [fnOkB, this]
    refine ok_range (ok_not (ok_ite_b (fun h => ok_some ?_) (fun h2' => ?_)))
    · have : bet fs[i].lc fs[i].p 12 = false := by simpa using h
      simp [fnOkB, this]
    refine ok_len_map (ok_range (ok_not (ok_ite_b (fun h => ok_some ?_) (fun h3' => ?_))))
    · have : bet (fs[i].code.length : Int) 1 120 = false := by simpa using h
      simp [fnOkB, this]
    have g1 : bet fs[i].p 0 6 = true := by simpa using h1'
    have g2 : bet fs[i].lc fs[i].p 12 = true := by simpa using h2'
    have g3 : bet (fs[i].code.length : Int) 1 120 = true := by simpa using h3'
    have q1 := g1
    have q2 := g2
    have q3 := g3
    simp only [bet, Bool.and_eq_true, decide_eq_true_eq] at q1 q2 q3
    refine ok_anyIns (by omega) (fun x => !insOkB ts.length fs.length fs[i].lc fs[i].code.length x.o x.a) (fun x _ => ?_) ?_
    · show Ok _ (impl_ModuleOk_2 _ _ _)
      rw [impl_ModuleOk_2_eq]
      refine ok_whole rfl (ok_cell rfl (ok_cell rfl (ok_deref rfl (ok_deref rfl (ok_deref rfl (ok_deref rfl (ok_deref rfl ?_)))))))
      refine ok_call (impl_ins (f := fs[i]) (x := x) ht hf (by omega) (by omega)) (fun r hr => ?_)
      subst hr
      exact ok_not (ok_some rfl)
    · rw [any_not (fun x : InsT => insOkB ts.length fs.length fs[i].lc fs[i].code.length x.o x.a)]
      refine ok_flat rfl (ok_ite_b (fun h => ok_some ?_) (fun h => ?_))
      · have : fs[i].code.all (fun x => insOkB ts.length fs.length fs[i].lc fs[i].code.length x.o x.a) = false := by simpa using h
        simp only [fnOkB, this, Bool.and_false, Bool.false_and]
      · have g4 : fs[i].code.all (fun x => insOkB ts.length fs.length fs[i].lc fs[i].code.length x.o x.a) = true := by
          rw [Bool.not_eq_false'] at h
          exact h
        refine ok_add (by omega) ((ih (i + 1) (by omega) (by omega)).mono ?_)
        rintro r rfl
        simp only [fnOkB, g1, g2, g3, g4, Bool.true_and]

end

theorem impl_moduleOk {m : MdT} (h : m.sized) : Ok (fun r => r = [.bool m.okB]) (impl_ModuleOk m.pv) := by
  obtain ⟨ht, hf, hs, _⟩ := h
  rw [impl_ModuleOk_eq]
  refine ok_whole rfl (ok_cell rfl (ok_cell rfl (ok_len_map (ok_range (ok_not (ok_ite_b (fun h => ok_some ?_) (fun h1 => ?_)))))))
  · have : bet (m.funcs.length : Int) 1 12 = false := by simpa using h
    simp [MdT.okB, this]
  refine ok_len_map (ok_gtr (ok_ite (fun h => ok_some ?_) (fun h2 => ?_)))
  · have : ¬ ((m.texts.length : Int) ≤ 20) := by omega
    simp only [MdT.okB, decide_eq_false this, Bool.false_and, Bool.and_false]
  have g1 : bet (m.funcs.length : Int) 1 12 = true := by simpa using h1
  have g2 : (m.texts.length : Int) ≤ 20 := by omega
  refine ok_anyTxt (by omega) (fun s => !txtOkB s) (fun x hx => ?_) ?_
  · show Ok _ (impl_ModuleOk_1 _)
    rw [impl_ModuleOk_1_eq]
    refine ok_call (impl_text (hs x hx)) (fun r hr => ?_)
    subst hr
    exact ok_not (ok_some rfl)
  · rw [any_not txtOkB]
    refine ok_ite_b (fun h => ok_some ?_) (fun h => ?_)
    · have : m.texts.all txtOkB = false := by rw [Bool.not_eq_true'] at h; exact h
      simp only [MdT.okB, this, Bool.and_false, Bool.false_and]
    · have g3 : m.texts.all txtOkB = true := by rw [Bool.not_eq_false'] at h; exact h
      refine ok_len_map ((impl_ok_funs ht hf _ 0 rfl (by omega)).mono ?_)
      rintro r rfl
      rw [List.drop_zero]
      simp only [MdT.okB, g1, decide_eq_true g2, g3, Bool.true_and]

end Go.Proofs.Ytkcilikjhgkakaa

namespace Go.Proofs.Ytkcilikjhgkakaa
open Go
attribute [local irreducible] bd PV.ite PV.guardFlat PV.guardOwn PV.whole PV.one PV.cell PV.sub PV.at_ PV.len PV.slen PV.chr PV.beq PV.peq PV.ceq PV.bin PV.neg PV.not PV.conv PV.cut PV.scut PV.cat PV.setAt PV.setCell PV.ncopy PV.copyIn PV.zeros PV.toStr PV.toBytes PV.deref PV.isPtr PV.comp PV.inb PV.off PV.imin PV.imax PV.sel PV.apply

/-- A loop that counts up to n: from its end to its beginning. -/
theorem ok_down {n : Nat} {F : Nat → Option R} {P : Nat → R → Prop} (he : Ok (P n) (F n)) (hs : ∀ i, i < n → Ok (P (i + 1)) (F (i + 1)) → Ok (P i) (F i)) : ∀ i, i ≤ n → Ok (P i) (F i) := by
  have key : ∀ j i, n - i = j → i ≤ n → Ok (P i) (F i) := by
    intro j
    induction j with
    | zero => intro i h1 h2; have : i = n := by omega
              subst this; exact he
    | succ j ih => intro i h1 h2; exact hs i (by omega) (ih (i + 1) (by omega) (by omega))
  exact fun i hi => key _ i rfl hi

/-- A loop that counts up to n, with a state. -/
theorem ok_for {σ : Type} {n : Nat} {F : Nat → σ → Option R} {P : R → Prop} (I : Nat → σ → Prop) (he : ∀ s, I n s → Ok P (F n s)) (hs : ∀ i s, i < n → I i s → (∀ s', I (i + 1) s' → Ok P (F (i + 1) s')) → Ok P (F i s)) : ∀ i s, i ≤ n → I i s → Ok P (F i s) := by
  have key : ∀ j i s, n - i = j → i ≤ n → I i s → Ok P (F i s) := by
    intro j
    induction j with
    | zero => intro i s h1 h2 hI; have : i = n := by omega
              subst this; exact he s hI
    | succ j ih => intro i s h1 h2 hI; exact hs i s (by omega) hI (fun s' hI' => ih (i + 1) s' (by omega) (by omega) hI')
  exact fun i s hi hI => key _ i s rfl hi hI

/-- The first of those from i on that tells something. -/
theorem find_end {α : Type} (n : Nat) (p : Nat → Option α) : (List.range' n (n - n)).findSome? p = none := by rw [Nat.sub_self]; rfl
theorem find_step {α : Type} {i n : Nat} (hi : i < n) (p : Nat → Option α) : (List.range' i (n - i)).findSome? p = (p i).or ((List.range' (i + 1) (n - (i + 1))).findSome? p) := by
  have : n - i = (n - (i + 1)) + 1 := by omega
  rw [this, List.range'_succ, List.findSome?_cons]
  cases p i <;> rfl

theorem range_step {α : Type} (i : Nat) (f : α → Nat → α) (s : α) : (List.range (i + 1)).foldl f s = f ((List.range i).foldl f s) i := by
  rw [List.range_succ, List.foldl_append]; rfl

/-! Rows of numbers. -/

def ints (l : List Int) : PV := .lst (l.map (PV.int .i64))

section
variable {P : R → Prop} {k : PV → Option R} {l : List Int}

theorem ok_ints_len (h : Ok P (k (.int .i64 l.length))) : Ok P (bd (PV.len (ints l)) k) := ok_len_map h
theorem ok_ints_at {i : Nat} {kk : IntKind} (hi : i < l.length) (h : Ok P (k (.int .i64 l[i]))) : Ok P (bd (PV.at_ 1 false (ints l) (.int kk (i : Int))) k) := ok_at_map hi (fun _ => rfl) h
theorem ok_ints_inb {i : Int} {kk : IntKind} (h0 : 0 ≤ i) (hi : i < l.length) (h : Ok P (k (ints l))) : Ok P (bd (PV.inb (ints l) (.int kk i)) k) := ok_inb h0 (by rw [List.length_map]; exact hi) h
theorem ok_ints_set {i : Nat} {x : Int} {kk : IntKind} (hi : i < l.length) (h : Ok P (k (ints (l.set i x)))) : Ok P (bd (PV.setAt 1 false (ints l) (.int kk (i : Int)) (.int .i64 x)) k) := by
  refine ok_setAt (by omega) (by rw [List.length_map]; omega) rfl ?_
  rw [Int.toNat_natCast, ← List.map_set]
  exact h
theorem ok_ints_cat {ys : List Int} {e : Nat} (hb : (l.length + ys.length) * e ≤ 140737488355328) (h : Ok P (k (ints (l ++ ys)))) : Ok P (bd (PV.cat 1 e false (ints l) (.lst (ys.map (PV.int .i64)))) k) := by
  refine ok_cat (by simpa using hb) (fun x hx => ?_) ?_
  · obtain ⟨a, _, rfl⟩ := List.mem_map.1 hx; rfl
  · rw [← List.map_append]; exact h
theorem ok_ints_atI {i : Int} {kk : IntKind} (h0 : 0 ≤ i) (h1 : i < l.length) (h : ∀ x, l[i.toNat]? = some x → Ok P (k (.int .i64 x))) : Ok P (bd (PV.at_ 1 false (ints l) (.int kk i)) k) := by
  refine ok_at h0 (by rw [List.length_map]; exact h1) (fun x hx => ?_) (fun x _ hx => ?_)
  · obtain ⟨a, _, rfl⟩ := List.mem_map.1 hx; rfl
  · rw [List.getElem?_map] at hx
    cases hl : l[i.toNat]? with
    | none => rw [hl] at hx; cases hx
    | some y => rw [hl] at hx; cases hx; exact h y hl
end

end Go.Proofs.Ytkcilikjhgkakaa

namespace Go.Proofs.Ytkcilikjhgkakaa
open Go
attribute [local irreducible] bd PV.ite PV.guardFlat PV.guardOwn PV.whole PV.one PV.cell PV.sub PV.at_ PV.len PV.slen PV.chr PV.beq PV.peq PV.ceq PV.bin PV.neg PV.not PV.conv PV.cut PV.scut PV.cat PV.setAt PV.setCell PV.ncopy PV.copyIn PV.zeros PV.toStr PV.toBytes PV.deref PV.isPtr PV.comp PV.inb PV.off PV.imin PV.imax PV.sel PV.apply

def parOf (fs : List FnT) (i : Int) : Int := (fs[i.toNat]?.map FnT.p).getD 0

/-- What an instruction takes and lays. -/
def uses (fs : List FnT) (x : InsT) : Int × Int :=
  if (1 ≤ x.o ∧ x.o ≤ 6) ∨ x.o = 20 then (0, 1)
  else if x.o = 7 ∨ x.o = 9 ∨ x.o = 18 ∨ x.o = 19 ∨ x.o = 25 ∨ x.o = 26 then (1, 0)
  else if x.o = 8 then (1, 2)
  else if x.o = 10 then (2, 2)
  else if 11 ≤ x.o ∧ x.o ≤ 15 then (2, 1)
  else if x.o = 16 ∨ x.o = 21 then (1, 1)
  else if x.o = 22 then (2, 0)
  else if x.o = 23 ∧ 0 ≤ x.a ∧ x.a ≤ 6 then (x.a + 1, 1)
  else if x.o = 24 ∧ 0 ≤ x.a ∧ x.a < fs.length then (parOf fs x.a, 1)
  else (0, 0)

def usesR (fs : List FnT) (x : InsT) : R := [.tup [.int .i64 (uses fs x).1, .int .i64 (uses fs x).2]]

theorem usesR_eq {fs : List FnT} {x : InsT} {a b : Int} (h : uses fs x = (a, b)) : [PV.tup [.int .i64 a, .int .i64 b]] = usesR fs x := by
  unfold usesR; rw [h]

theorem bet_iff {n lo hi : Int} : bet n lo hi = true ↔ lo ≤ n ∧ n ≤ hi := by simp [bet]
theorem bet_not {n lo hi : Int} : bet n lo hi = false ↔ ¬ (lo ≤ n ∧ n ≤ hi) := by rw [← bet_iff]; simp

theorem ok_ite_bet {P : R → Prop} {n lo hi : Int} {x y : Option R} (h1 : lo ≤ n ∧ n ≤ hi → Ok P x) (h2 : ¬ (lo ≤ n ∧ n ≤ hi) → Ok P y) : Ok P (PV.ite (hd [.bool (bet n lo hi)]) x y) :=
  ok_ite_b (fun h => h1 (bet_iff.1 h)) (fun h => h2 (bet_not.1 h))

section
variable {fs : List FnT} {x : InsT} {T : PV} (hf : fs.length ≤ 1000000)
include hf

theorem par_at {P : R → Prop} {k : PV → Option R} {i : Int} (h0 : 0 ≤ i) (h1 : i < fs.length) (h : ∀ lc code, Ok P (k (.agg [.int .i64 (parOf fs i), lc, code]))) : Ok P (bd (PV.at_ 3 true (.lst (fs.map FnT.pv)) (.int .i64 i)) k) := by
  obtain ⟨n, rfl⟩ := Int.eq_ofNat_of_zero_le h0
  have hn : n < fs.length := by omega
  refine ok_at_map hn (fun _ => rfl) ?_
  have : parOf fs (n : Int) = fs[n].p := by simp [parOf, List.getElem?_eq_getElem hn]
  rw [← show PV.agg [.int .i64 (parOf fs (n : Int)), .int .i64 fs[n].lc, .lst (fs[n].code.map InsT.pv)] = fs[n].pv by rw [this]; rfl]
  exact h _ _

set_option maxRecDepth 100000 in
set_option maxHeartbeats 4000000 in
theorem spec_uses : Ok (fun r => r = usesR fs x) (spec_UsesOf (.agg [T, .lst (fs.map FnT.pv)]) x.pv) := by
  rw [spec_UsesOf_eq]
  refine ok_whole rfl (ok_cell rfl (ok_cell rfl (ok_whole rfl (ok_cell rfl (ok_cell rfl ?_)))))
  repeat' (first
    | refine ok_eql (ok_ite (fun _ => ?_) (fun _ => ?_))
    | refine ok_bet (ok_ite_bet (fun _ => ?_) (fun _ => ?_))
    | refine ok_len_map (ok_sub (by omega) ?_)
    | refine ok_add (by omega) ?_
    | refine par_at hf (by omega) (by omega) (fun _ _ => ?_)
    | refine ok_cell rfl ?_
    | exact ok_some (usesR_eq (by
        unfold uses
        repeat (first | rfl | rw [if_pos (by omega)] | rw [if_neg (by omega)]))))

set_option maxRecDepth 100000 in
set_option maxHeartbeats 4000000 in
theorem impl_uses : Ok (fun r => r = usesR fs x) (impl_UsesOf (.agg [T, .lst (fs.map FnT.pv)]) x.pv) := by
  have c24 : ¬ (x.o = 23 ∧ 0 ≤ x.a ∧ x.a ≤ 6) → ¬ ((1 ≤ x.o ∧ x.o ≤ 16) ∨ (18 ≤ x.o ∧ x.o ≤ 22)) → ¬ (x.o = 25 ∨ x.o = 26) → Ok (fun r => r = usesR fs x) (impl_UsesOf_c24 T (.lst (fs.map FnT.pv)) (.int .i64 x.o) (.int .i64 x.a)) := by
    intro h1 h2 h3
    rw [impl_UsesOf_c24_eq]
    refine ok_eql (ok_ite (fun _ => ?_) (fun _ => ?_))
    · refine ok_len_map (ok_place (by omega) (ok_ite_bet (fun _ => ?_) (fun _ => ?_)))
      · rw [impl_UsesOf_c25_eq]
        refine par_at hf (by omega) (by omega) (fun _ _ => ok_cell rfl ?_)
        exact ok_some (usesR_eq (by
          unfold uses
          repeat (first | rfl | rw [if_pos (by omega)] | rw [if_neg (by omega)])))
      · exact ok_some (usesR_eq (by
          unfold uses
          repeat (first | rfl | rw [if_pos (by omega)] | rw [if_neg (by omega)])))
    · exact ok_some (usesR_eq (by
        unfold uses
        repeat (first | rfl | rw [if_pos (by omega)] | rw [if_neg (by omega)])))
  rw [impl_UsesOf_eq]
  refine ok_whole rfl (ok_cell rfl (ok_cell rfl (ok_whole rfl (ok_cell rfl (ok_cell rfl ?_)))))
  repeat' (first
    | exact c24 (by omega) (by omega) (by omega)
    | refine ok_eql (ok_ite (fun _ => ?_) (fun _ => ?_))
    | refine ok_range (ok_ite_bet (fun _ => ?_) (fun _ => ?_))
    | refine ok_add (by omega) ?_
    | exact ok_some (usesR_eq (by
        unfold uses
        repeat (first | rfl | rw [if_pos (by omega)] | rw [if_neg (by omega)]))))

end

/-! What may follow. -/

def nexts (x : InsT) (pc : Int) : List Int := (if x.o ≠ 17 ∧ x.o ≠ 25 then [pc + 1] else []) ++ (if x.o = 17 ∨ x.o = 18 ∨ x.o = 19 then [x.a] else [])

theorem nextsR {x : InsT} {pc : Int} {l : List Int} (h : l = nexts x pc) : [ints l] = [ints (nexts x pc)] := by rw [h]

theorem cat_one {P : R → Prop} {k : PV → Option R} {a : Int} (h : Ok P (k (ints [a]))) : Ok P (bd (PV.cat 1 8 false (.lst []) (.lst [.int .i64 a])) k) :=
  ok_ints_cat (l := []) (ys := [a]) (by simp) h
theorem cat_two {P : R → Prop} {k : PV → Option R} {a b : Int} (h : Ok P (k (ints [a, b]))) : Ok P (bd (PV.cat 1 8 false (.lst []) (.lst [.int .i64 a, .int .i64 b])) k) :=
  ok_ints_cat (l := []) (ys := [a, b]) (by simp) h
theorem cat_11 {P : R → Prop} {k : PV → Option R} {a b : Int} (h : Ok P (k (ints [a, b]))) : Ok P (bd (PV.cat 1 8 false (ints [a]) (ints [b])) k) :=
  ok_ints_cat (l := [a]) (ys := [b]) (by simp) h
theorem cat_01 {P : R → Prop} {k : PV → Option R} {b : Int} (h : Ok P (k (ints [b]))) : Ok P (bd (PV.cat 1 8 false (.lst []) (ints [b])) k) :=
  ok_ints_cat (l := []) (ys := [b]) (by simp) h

theorem spec_next {x : InsT} {pc : Int} (hp : 0 ≤ pc ∧ pc ≤ 1000000000) : Ok (fun r => r = [ints (nexts x pc)]) (spec_l03Next x.pv (.int .i64 pc)) := by
  rw [spec_l03Next_eq]
  refine ok_whole rfl (ok_cell rfl (ok_cell rfl ?_))
  repeat' (first
    | (rw [spec_l03Next_c3_eq]; refine ok_add (by omega) ?_)
    | rw [spec_l03Next_c4_eq]
    | rw [spec_l03Next_c5_eq]
    | refine cat_one ?_
    | refine cat_11 ?_
    | refine cat_01 ?_
    | refine ok_eql (ok_ite (fun _ => ?_) (fun _ => ?_))
    | refine ok_neq (ok_ite_not (fun _ => ?_) (fun _ => ?_))
    | (exfalso; omega)
    | exact ok_some (congrArg (fun l => [ints l]) (by unfold nexts; repeat (first | rfl | rw [if_pos (by omega)] | rw [if_neg (by omega)])))
    | exact ok_some (congrArg (fun l => [ints l]) (a₁ := []) (by unfold nexts; repeat (first | rfl | rw [if_pos (by omega)] | rw [if_neg (by omega)]))))

theorem impl_next {x : InsT} {pc : Int} (hp : 0 ≤ pc ∧ pc ≤ 1000000000) : Ok (fun r => r = [ints (nexts x pc)]) (impl_follows x.pv (.int .i64 pc)) := by
  rw [impl_follows_eq]
  refine ok_whole rfl (ok_cell rfl (ok_cell rfl ?_))
  repeat' (first
    | refine cat_one ?_
    | refine cat_two ?_
    | refine ok_add (by omega) ?_
    | refine ok_eql (ok_ite (fun _ => ?_) (fun _ => ?_))
    | exact ok_some (congrArg (fun l => [ints l]) (by unfold nexts; repeat (first | rfl | rw [if_pos (by omega)] | rw [if_neg (by omega)])))
    | exact ok_some (congrArg (fun l => [ints l]) (a₁ := []) (by unfold nexts; repeat (first | rfl | rw [if_pos (by omega)] | rw [if_neg (by omega)]))))

end Go.Proofs.Ytkcilikjhgkakaa

namespace Go.Proofs.Ytkcilikjhgkakaa
open Go
attribute [local irreducible] bd PV.ite PV.guardFlat PV.guardOwn PV.whole PV.one PV.cell PV.sub PV.at_ PV.len PV.slen PV.chr PV.beq PV.peq PV.ceq PV.bin PV.neg PV.not PV.conv PV.cut PV.scut PV.cat PV.setAt PV.setCell PV.ncopy PV.copyIn PV.zeros PV.toStr PV.toBytes PV.deref PV.isPtr PV.comp PV.inb PV.off PV.imin PV.imax PV.sel PV.apply

def lefts (fs : List FnT) (x : InsT) (h : Int) : Int := h - (uses fs x).1 + (uses fs x).2
def can (fs : List FnT) (x : InsT) (h : Int) : Bool := decide ((uses fs x).1 ≤ h) && decide (lefts fs x h ≤ 16)

/-- Heights so far, and whether one was found. -/
abbrev Hs := List Int × Bool

def putH (l : Int) (s : Hs) (t : Int) : Hs := if t < s.1.length ∧ s.1[t.toNat]?.getD 0 < 0 then (s.1.set t.toNat l, true) else s
def oneH (fs : List FnT) (code : List InsT) (s : Hs) (pc : Nat) : Hs :=
  match code[pc]? with
  | some x => if can fs x (s.1[pc]?.getD 0) then (nexts x pc).foldl (putH (lefts fs x (s.1[pc]?.getD 0))) s else s
  | none => s
def passD (fs : List FnT) (code : List InsT) (s : List Int) : Hs := (List.range' 0 code.length).foldl (oneH fs code) (s, false)
def fixD (fs : List FnT) (code : List InsT) : Nat → List Int → List Int
  | 0, s => s
  | n + 1, s => if (passD fs code s).2 then fixD fs code n (passD fs code s).1 else (passD fs code s).1
def startD (n : Nat) : List Int := (List.replicate n (-1)).set 0 0
def depths (fs : List FnT) (code : List InsT) : List Int := fixD fs code (code.length + 1) (startD code.length)

/-- Code of a module that is ok. -/
structure Fit (fs : List FnT) (code : List InsT) : Prop where
  n1 : 1 ≤ code.length
  n2 : code.length ≤ 120
  nf : fs.length ≤ 12
  u : ∀ x ∈ code, 0 ≤ (uses fs x).1 ∧ (uses fs x).1 ≤ 7 ∧ 0 ≤ (uses fs x).2 ∧ (uses fs x).2 ≤ 2
  j : ∀ x ∈ code, (x.o = 17 ∨ x.o = 18 ∨ x.o = 19) → 0 ≤ x.a ∧ x.a < code.length

/-- Heights as they may be. -/
def Hgt (n : Nat) (s : List Int) : Prop := s.length = n ∧ ∀ v ∈ s, -1 ≤ v ∧ v ≤ 16

theorem Hgt.at {n : Nat} {s : List Int} (h : Hgt n s) (i : Nat) : -1 ≤ s[i]?.getD 0 ∧ s[i]?.getD 0 ≤ 16 := by
  cases hx : s[i]? with
  | none => simp
  | some v => exact h.2 v (List.mem_of_getElem? hx)

theorem Hgt.put {n : Nat} {s : Hs} (h : Hgt n s.1) {l : Int} (hl : -1 ≤ l ∧ l ≤ 16) (t : Int) : Hgt n (putH l s t).1 := by
  unfold putH
  split
  · refine ⟨by simp only [List.length_set]; exact h.1, fun v hv => ?_⟩
    rcases List.mem_or_eq_of_mem_set hv with h1 | h1
    · exact h.2 v h1
    · omega
  · exact h

theorem Hgt.puts {n : Nat} {l : Int} (hl : -1 ≤ l ∧ l ≤ 16) : ∀ (ts : List Int) (s : Hs), Hgt n s.1 → Hgt n (ts.foldl (putH l) s).1
  | [], _, h => h
  | t :: r, s, h => Hgt.puts hl r _ (h.put hl t)

theorem can_left {fs : List FnT} {x : InsT} {h : Int} (hu : 0 ≤ (uses fs x).1 ∧ (uses fs x).1 ≤ 7 ∧ 0 ≤ (uses fs x).2 ∧ (uses fs x).2 ≤ 2) (hc : can fs x h = true) : 0 ≤ lefts fs x h ∧ lefts fs x h ≤ 16 := by
  simp only [can, Bool.and_eq_true, decide_eq_true_eq] at hc
  unfold lefts at *
  omega

theorem Hgt.one {fs : List FnT} {code : List InsT} (F : Fit fs code) {n : Nat} {s : Hs} (h : Hgt n s.1) (pc : Nat) : Hgt n (oneH fs code s pc).1 := by
  unfold oneH
  split
  · rename_i x hx
    split
    · rename_i hc
      have := can_left (F.u x (List.mem_of_getElem? hx)) hc
      exact Hgt.puts (by omega) _ _ h
    · exact h
  · exact h

theorem Hgt.ones {fs : List FnT} {code : List InsT} (F : Fit fs code) {n : Nat} : ∀ (l : List Nat) (s : Hs), Hgt n s.1 → Hgt n (l.foldl (oneH fs code) s).1
  | [], _, h => h
  | t :: r, s, h => Hgt.ones F r _ (h.one F t)

theorem Hgt.pass {fs : List FnT} {code : List InsT} (F : Fit fs code) {n : Nat} {s : List Int} (h : Hgt n s) : Hgt n (passD fs code s).1 := Hgt.ones F _ _ h

theorem Hgt.start {n : Nat} : Hgt n (startD n) := by
  refine ⟨by simp [startD], fun v hv => ?_⟩
  rcases List.mem_or_eq_of_mem_set hv with h1 | h1
  · have := List.eq_of_mem_replicate h1; omega
  · omega

/-! How many are not yet known. -/

def nn (s : List Int) : Nat := s.countP (· < 0)
def Dec (s s' : Hs) : Prop := s' = s ∨ (s'.2 = true ∧ nn s'.1 < nn s.1)

theorem Dec.trans {a b c : Hs} (h : Dec a b) (k : Dec b c) : Dec a c := by
  rcases h with rfl | h
  · exact k
  · rcases k with rfl | k
    · exact .inr h
    · exact .inr ⟨k.1, by omega⟩

theorem nn_set : ∀ (s : List Int) (i : Nat) (l : Int), 0 ≤ l → s[i]?.getD 0 < 0 → nn (s.set i l) < nn s
  | [], i, l, _, h => by simp at h
  | x :: r, 0, l, hl, h => by
    simp only [List.getElem?_cons_zero, Option.getD_some] at h
    simp only [nn, List.set_cons_zero, List.countP_cons]
    rw [if_neg (by simp; omega), if_pos (by simpa using h)]
    omega
  | x :: r, i + 1, l, hl, h => by
    simp only [List.getElem?_cons_succ] at h
    have := nn_set r i l hl h
    simp only [nn, List.set_cons_succ, List.countP_cons] at *
    omega

theorem Dec.put {l : Int} (hl : 0 ≤ l) (s : Hs) (t : Int) : Dec s (putH l s t) := by
  unfold putH
  split
  · rename_i h
    exact .inr ⟨rfl, nn_set _ _ _ hl h.2⟩
  · exact .inl rfl

theorem Dec.puts {l : Int} (hl : 0 ≤ l) : ∀ (ts : List Int) (s : Hs), Dec s (ts.foldl (putH l) s)
  | [], _ => .inl rfl
  | t :: r, s => (Dec.put hl s t).trans (Dec.puts hl r _)

theorem Dec.one {fs : List FnT} {code : List InsT} (F : Fit fs code) (s : Hs) (pc : Nat) : Dec s (oneH fs code s pc) := by
  unfold oneH
  split
  · rename_i x hx
    split
    · rename_i hc
      exact Dec.puts (can_left (F.u x (List.mem_of_getElem? hx)) hc).1 _ _
    · exact .inl rfl
  · exact .inl rfl

theorem Dec.ones {fs : List FnT} {code : List InsT} (F : Fit fs code) : ∀ (l : List Nat) (s : Hs), Dec s (l.foldl (oneH fs code) s)
  | [], _ => .inl rfl
  | t :: r, s => (Dec.one F s t).trans (Dec.ones F r _)

theorem Dec.pass {fs : List FnT} {code : List InsT} (F : Fit fs code) (s : List Int) : Dec (s, false) (passD fs code s) := Dec.ones F _ _

/-- What is known stays. -/
theorem put_zero {l : Int} {s : Hs} {t : Int} (h : s.1[0]? = some 0) : (putH l s t).1[0]? = some 0 := by
  unfold putH
  split
  · rename_i hc
    rw [List.getElem?_set]
    split
    · rename_i h0
      rw [h0] at hc
      rw [h] at hc
      simp at hc
    · exact h
  · exact h

theorem puts_zero {l : Int} : ∀ (ts : List Int) (s : Hs), s.1[0]? = some 0 → (ts.foldl (putH l) s).1[0]? = some 0
  | [], _, h => h
  | t :: r, s, h => puts_zero r _ (put_zero h)

theorem one_zero {fs : List FnT} {code : List InsT} {s : Hs} (pc : Nat) (h : s.1[0]? = some 0) : (oneH fs code s pc).1[0]? = some 0 := by
  unfold oneH
  split
  · split
    · exact puts_zero _ _ h
    · exact h
  · exact h

theorem ones_zero {fs : List FnT} {code : List InsT} : ∀ (l : List Nat) (s : Hs), s.1[0]? = some 0 → (l.foldl (oneH fs code) s).1[0]? = some 0
  | [], _, h => h
  | t :: r, s, h => ones_zero r _ (one_zero t h)

theorem fix_zero {fs : List FnT} {code : List InsT} : ∀ (n : Nat) (s : List Int), s[0]? = some 0 → (fixD fs code n s)[0]? = some 0
  | 0, _, h => h
  | n + 1, s, h => by
    unfold fixD
    split
    · exact fix_zero n _ (ones_zero _ _ h)
    · exact ones_zero _ _ h

theorem fix_hgt {fs : List FnT} {code : List InsT} (F : Fit fs code) {m : Nat} : ∀ (n : Nat) (s : List Int), Hgt m s → Hgt m (fixD fs code n s)
  | 0, _, h => h
  | n + 1, s, h => by
    unfold fixD
    split
    · exact fix_hgt F n _ (h.pass F)
    · exact h.pass F

theorem depths_hgt {fs : List FnT} {code : List InsT} (F : Fit fs code) : Hgt code.length (depths fs code) := fix_hgt F _ _ Hgt.start
theorem depths_zero {fs : List FnT} {code : List InsT} (F : Fit fs code) : (depths fs code)[0]? = some 0 := by
  refine fix_zero _ _ ?_
  have := F.n1
  rw [startD, List.getElem?_set_self (by rw [List.length_replicate]; omega)]

/-! Both sides. -/

theorem getD_is {s : List Int} {i : Nat} (h : i < s.length) : s[i] = s[i]?.getD 0 := by rw [List.getElem?_eq_getElem h]; rfl

theorem nexts_ok {fs : List FnT} {code : List InsT} (F : Fit fs code) {x : InsT} (hx : x ∈ code) {pc : Nat} (hp : pc < code.length) : ∀ t ∈ nexts x pc, 0 ≤ t ∧ t ≤ code.length := by
  intro t ht
  unfold nexts at ht
  rcases List.mem_append.1 ht with h | h
  · split at h
    · simp only [List.mem_singleton] at h; omega
    · cases h
  · split at h
    · rename_i hj
      simp only [List.mem_singleton] at h
      have := F.j x hx hj
      omega
    · cases h

theorem put_yes {l : Int} {s : Hs} {t : Int} (h1 : t < s.1.length) (h2 : s.1[t.toNat]?.getD 0 < 0) : putH l s t = (s.1.set t.toNat l, true) := if_pos ⟨h1, h2⟩
theorem put_no {l : Int} {s : Hs} {t : Int} (h : ¬ (t < s.1.length ∧ s.1[t.toNat]?.getD 0 < 0)) : putH l s t = s := if_neg h

section
variable {fs : List FnT} {code : List InsT} {T : PV} (F : Fit fs code)
include F

theorem spec_puts {P : R → Prop} {pc : Nat} (hpc : pc < code.length) {left : Int} {ts : List Int} (hts : ∀ t ∈ ts, 0 ≤ t ∧ t ≤ code.length) (hn : ts.length ≤ 10) {s : Hs} (hs : s.1.length = code.length)
    (h : Ok P (spec_l03Depths_c12 (.lst (code.map InsT.pv)) (.bool (ts.foldl (putH left) s).2) (.int .i64 ((pc : Int) + 1)) T (.lst (fs.map FnT.pv)) (ints (ts.foldl (putH left) s).1))) :
    Ok P (spec_l03Depths_c19 (.lst (code.map InsT.pv)) (.bool s.2) (.int .i64 pc) (.int .i64 left) (ints ts) (.int .i64 0) T (.lst (fs.map FnT.pv)) (ints s.1)) := by
  have hn2 := F.n2
  refine ok_for (n := ts.length) (F := fun i (q : Hs) => spec_l03Depths_c19 (.lst (code.map InsT.pv)) (.bool q.2) (.int .i64 pc) (.int .i64 left) (ints ts) (.int .i64 i) T (.lst (fs.map FnT.pv)) (ints q.1))
    (fun i q => q.1.length = code.length ∧ (ts.drop i).foldl (putH left) q = ts.foldl (putH left) s) ?_ ?_ 0 s (by omega) ⟨hs, by rw [List.drop_zero]⟩
  · rintro q ⟨hq, he⟩
    rw [List.drop_length] at he
    have he : q = ts.foldl (putH left) s := he
    subst he
    rw [spec_l03Depths_c19_eq]
    exact ok_ints_len (ok_lss (ok_ite (fun h => by omega) (fun _ => ok_add (by omega) h)))
  · rintro i q hi ⟨hq, he⟩ ih
    have ht := hts ts[i] (List.getElem_mem _)
    rw [List.drop_eq_getElem_cons hi, List.foldl_cons] at he
    have ih := fun s' => ih s'
    rw [spec_l03Depths_c19_eq]
    refine ok_ints_len (ok_lss (ok_ite (fun _ => ?_) (fun h => by omega)))
    refine ok_ints_at hi (ok_len_map (ok_lss (ok_ite (fun h1 => ?_) (fun h1 => ?_))))
    · refine ok_ints_at hi (ok_ints_inb (by omega) (by omega) (ok_ints_atI (by omega) (by omega) (fun v hv => ?_)))
      refine ok_lss (ok_ite (fun h2 => ?_) (fun h2 => ?_))
      · rw [spec_l03Depths_c22_eq]
        refine ok_ints_at hi (ok_ints_inb (by omega) (by omega) ?_)
        obtain ⟨t, et⟩ := Int.eq_ofNat_of_zero_le ht.1
        rw [et]
        refine ok_ints_set (by omega) (ok_add (by omega) ?_)
        refine ih (q.1.set t left, true) ⟨by simpa using hq, ?_⟩
        rw [put_yes (by omega) (by rw [hv]; exact h2), et] at he
        exact he
      · refine ok_add (by omega) (ih q ⟨hq, ?_⟩)
        rw [put_no (by rw [hv]; simp only [Option.getD_some]; omega)] at he
        exact he
    · refine ok_add (by omega) (ih q ⟨hq, ?_⟩)
      rw [put_no (by omega)] at he
      exact he

theorem spec_passD {P : R → Prop} {s : List Int} (hs : Hgt code.length s)
    (h : Ok P (spec_l03Depths_c9 (.lst (code.map InsT.pv)) (.bool (passD fs code s).2) T (.lst (fs.map FnT.pv)) (ints (passD fs code s).1))) :
    Ok P (spec_l03Depths_c12 (.lst (code.map InsT.pv)) (.bool false) (.int .i64 0) T (.lst (fs.map FnT.pv)) (ints s)) := by
  have hn2 := F.n2
  have hnf := F.nf
  refine ok_for (n := code.length) (F := fun i (q : Hs) => spec_l03Depths_c12 (.lst (code.map InsT.pv)) (.bool q.2) (.int .i64 i) T (.lst (fs.map FnT.pv)) (ints q.1))
    (fun i q => Hgt code.length q.1 ∧ (List.range' i (code.length - i)).foldl (oneH fs code) q = passD fs code s) ?_ ?_ 0 (s, false) (by omega) ⟨hs, rfl⟩
  · rintro q ⟨hq, he⟩
    rw [Nat.sub_self] at he
    have he : q = passD fs code s := he
    subst he
    rw [spec_l03Depths_c12_eq]
    exact ok_len_map (ok_lss (ok_ite (fun h => by omega) (fun _ => h)))
  · rintro i q hi ⟨hq, he⟩ ih
    have e1 : code.length - i = (code.length - (i + 1)) + 1 := by omega
    rw [e1, List.range'_succ, List.foldl_cons] at he
    have hx : code[i]? = some code[i] := List.getElem?_eq_getElem hi
    have hu := F.u code[i] (List.getElem_mem _)
    have hil : i < q.1.length := by rw [hq.1]; exact hi
    have hv := hq.at i
    have e2 : q.1[i] = q.1[i]?.getD 0 := getD_is hil
    have hone := hq.one F i
    have hgo := ih (oneH fs code q i) ⟨hone, he⟩
    have eo : oneH fs code q i = if can fs code[i] (q.1[i]?.getD 0) then (nexts code[i] i).foldl (putH (lefts fs code[i] (q.1[i]?.getD 0))) q else q := by
      conv => lhs; unfold oneH
      rw [hx]
    generalize hw : q.1[i]?.getD 0 = w at *
    rw [spec_l03Depths_c12_eq]
    refine ok_len_map (ok_lss (ok_ite (fun _ => ?_) (fun h => by omega)))
    refine ok_at_map hi (fun _ => rfl) (ok_call (spec_uses (T := T) (by omega)) (fun r hr => ?_))
    subst hr
    refine ok_comp rfl (ok_comp rfl ?_)
    refine ok_ints_inb (by omega) (by omega) (ok_ints_at hil (ok_sub (by omega) (ok_add (by omega) (ok_ints_inb (by omega) (by omega) (ok_ints_at hil ?_)))))
    rw [e2]
    refine ok_lss (ok_ite (fun h1 => ?_) (fun h1 => ?_))
    · have hc : can fs code[i] w = false := by simp only [can]; rw [decide_eq_false (by omega)]; rfl
      rw [hc, if_neg (by simp)] at eo
      rw [eo] at hgo
      exact ok_add (by omega) hgo
    refine ok_gtr (ok_ite (fun h2 => ?_) (fun h2 => ?_))
    · have hc : can fs code[i] w = false := by simp only [can]; rw [decide_eq_false (p := lefts fs code[i] w ≤ 16) (by unfold lefts; omega), Bool.and_false]
      rw [hc, if_neg (by simp)] at eo
      rw [eo] at hgo
      exact ok_add (by omega) hgo
    · have hc : can fs code[i] w = true := by simp only [can]; rw [decide_eq_true (by omega), decide_eq_true (p := lefts fs code[i] w ≤ 16) (by unfold lefts; omega)]; rfl
      rw [hc, if_pos rfl] at eo
      rw [eo] at hgo
      refine ok_at_map hi (fun _ => rfl) (ok_call (spec_next (by omega)) (fun r hr => ?_))
      subst hr
      exact spec_puts F hi (nexts_ok F (List.getElem_mem _) hi) (by unfold nexts; repeat' split <;> simp) hq.1 hgo

theorem spec_fixD : ∀ (j : Nat) (s : List Int), nn s ≤ j → Hgt code.length s → Ok (fun r => r = [ints (fixD fs code (j + 1) s)]) (spec_l03Depths_c9 (.lst (code.map InsT.pv)) (.bool true) T (.lst (fs.map FnT.pv)) (ints s)) := by
  intro j
  induction j with
  | zero =>
    intro s hs hg
    rw [spec_l03Depths_c9_eq]
    refine ok_ite_t (spec_passD F hg ?_)
    rcases Dec.pass F s with h | ⟨h, h2⟩
    · unfold fixD
      rw [h, spec_l03Depths_c9_eq]
      exact ok_ite_f (ok_some rfl)
    · have h3 : nn (passD fs code s).1 < nn s := h2
      omega
  | succ j ih =>
    intro s hs hg
    rw [spec_l03Depths_c9_eq]
    refine ok_ite_t (spec_passD F hg ?_)
    rcases Dec.pass F s with h | ⟨h, h2⟩
    · unfold fixD
      rw [h, spec_l03Depths_c9_eq]
      exact ok_ite_f (ok_some rfl)
    · rw [fixD, h, if_pos rfl]
      exact ih _ (by have h3 : nn (passD fs code s).1 < nn s := h2; omega) (hg.pass F)

end

end Go.Proofs.Ytkcilikjhgkakaa

namespace Go.Proofs.Ytkcilikjhgkakaa
open Go Go.IntWalk
attribute [local irreducible] bd PV.ite PV.guardFlat PV.guardOwn PV.whole PV.one PV.cell PV.sub PV.at_ PV.len PV.slen PV.chr PV.beq PV.peq PV.ceq PV.bin PV.neg PV.not PV.conv PV.cut PV.scut PV.cat PV.setAt PV.setCell PV.ncopy PV.copyIn PV.zeros PV.toStr PV.toBytes PV.deref PV.isPtr PV.comp PV.inb PV.off PV.imin PV.imax PV.sel PV.apply

section
variable {fs : List FnT} {code : List InsT} {T : PV} (F : Fit fs code)
include F

theorem startD_eq : (List.replicate code.length (-1 : Int)).set 0 0 = startD code.length := rfl

theorem spec_depths {f : Nat} (hf : f < fs.length) (hc : fs[f].code = code) : Ok (fun r => r = [ints (depths fs code)]) (spec_l03Depths (.agg [T, .lst (fs.map FnT.pv)]) (.int .i64 f)) := by
  have hn2 := F.n2
  have hn1 := F.n1
  rw [spec_l03Depths_eq]
  refine ok_whole rfl (ok_cell rfl (ok_cell rfl (ok_at_map hf (fun _ => rfl) (ok_cell (y := .lst (code.map InsT.pv)) (by rw [← hc]; rfl) ?_))))
  have key := ok_down (n := code.length) (P := fun _ r => r = [ints (depths fs code)])
    (F := fun i => spec_l03Depths_c4 (.lst (code.map InsT.pv)) (.int .i64 i) T (.lst (fs.map FnT.pv)) (ints (List.replicate i (-1)))) ?_ ?_ 0 (by omega)
  · exact key
  · rw [spec_l03Depths_c4_eq]
    refine ok_len_map (ok_lss (ok_ite (fun h => by omega) (fun _ => ?_)))
    refine ok_ints_inb (by omega) (by rw [List.length_replicate]; omega) (ok_ints_set (i := 0) (by rw [List.length_replicate]; omega) ?_)
    exact spec_fixD F code.length _ (by have := (Hgt.start (n := code.length)).1; unfold nn; exact Nat.le_trans List.countP_le_length (by omega)) Hgt.start
  · intro i hi ih
    rw [spec_l03Depths_c4_eq]
    refine ok_len_map (ok_lss (ok_ite (fun h => ?_) (fun h => by omega)))
    refine ok_ints_cat (ys := [-1]) (by rw [List.length_replicate]; simp only [List.length_cons, List.length_nil]; omega) (ok_add (by omega) ?_)
    rw [← List.replicate_succ']
    exact ih

end

/-! Rows of one number. -/

section
variable {P : R → Prop} {k : PV → Option R}

theorem bound_nat {m n : Nat} {kk : IntKind} (h : n ≤ m) : PV.bound m (.int kk (n : Int)) = some n := by
  simp only [PV.bound]
  rw [if_pos (by omega), Int.toNat_natCast]

theorem ok_ncopy {xs ys : List PV} {lo hi : Nat} {k1 k2 : IntKind} (h1 : lo ≤ hi) (h2 : hi ≤ xs.length) (h3 : xs.length ≤ 1000000000) (h : Ok P (k (.int .i64 (min (hi - lo) ys.length : Nat)))) :
    Ok P (bd (PV.ncopy (.lst xs) (.int k1 (lo : Int)) (.int k2 (hi : Int)) (.lst ys)) k) :=
  ok_bd _ (by
    simp only [PV.ncopy]
    rw [bound_nat (by omega), bound_nat (by omega)]
    simp only [PV.elems]
    rw [if_pos ⟨h1, h2⟩]) h

theorem ok_copyIn {s : Nat} {g : Bool} {xs ys : List PV} {lo hi : Nat} {k1 k2 : IntKind} (h1 : lo ≤ hi) (h2 : hi ≤ xs.length) (h3 : xs.length ≤ 1000000000) (he : ∀ y ∈ ys, y.isEl s g = true)
    (h : Ok P (k (.lst (xs.take lo ++ ys.take (hi - lo) ++ xs.drop (lo + min (hi - lo) ys.length))))) :
    Ok P (bd (PV.copyIn s g (.lst xs) (.int k1 (lo : Int)) (.int k2 (hi : Int)) (.lst ys)) k) :=
  ok_bd _ (by
    simp only [PV.copyIn]
    rw [bound_nat (by omega), bound_nat (by omega)]
    simp only [PV.elems]
    rw [if_pos ⟨h1, h2, List.all_eq_true.2 he⟩]) h

theorem ok_zeros {e n : Nat} {z : PV} {kk : IntKind} (h1 : n * e ≤ 140737488355328) (h2 : n ≤ 1000000000) (h : Ok P (k (.lst (List.replicate n z)))) : Ok P (bd (PV.zeros e z (.int kk (n : Int))) k) :=
  ok_bd _ (by
    simp only [PV.zeros]
    rw [if_pos ⟨by omega, by rw [Int.toNat_natCast]; exact h1, by omega⟩, Int.toNat_natCast]) h

theorem ints_el {l : List Int} : ∀ x ∈ l.map (PV.int .i64), x.isEl 1 false = true := by
  intro x hx
  obtain ⟨a, _, rfl⟩ := List.mem_map.1 hx
  rfl

end

theorem repeat_loop {n : Nat} (hn : n ≤ 1000) : ∀ (j a : Nat), n - a ≤ j → 1 ≤ a → a ≤ n →
    Ok (fun r => r = [ints (List.replicate n (-1))]) (slices_Repeat_int_int_c8 (.int .i64 a) (ints (List.replicate a (-1) ++ List.replicate (n - a) 0))) := by
  intro j
  induction j with
  | zero =>
    intro a h1 h2 h3
    have : a = n := by omega
    subst this
    rw [slices_Repeat_int_int_c8_eq]
    refine ok_ints_len (ok_lss (ok_ite (fun h => ?_) (fun _ => ok_some ?_)))
    · simp at h
    · simp
  | succ j ih =>
    intro a h1 h2 h3
    rw [slices_Repeat_int_int_c8_eq]
    have hl : (List.replicate a (-1 : Int) ++ List.replicate (n - a) 0).length = n := by simp; omega
    have hlm : ((List.replicate a (-1 : Int) ++ List.replicate (n - a) 0).map (PV.int .i64)).length = n := by rw [List.length_map, hl]
    have ht : (List.replicate a (-1 : Int) ++ List.replicate (n - a) 0).take a = List.replicate a (-1) := by
      rw [List.take_left' (by simp)]
    refine ok_ints_len (ok_lss (ok_ite (fun h => ?_) (fun h => ok_some ?_)))
    · rw [hl] at h
      refine ok_ints_len ?_
      rw [hl]
      refine ok_cut (by omega) (by omega) (by omega) ints_el ?_
      refine ok_cut (by omega) (by omega) (by omega) ints_el ?_
      refine ok_cut (by omega) (by omega) (by omega) ints_el ?_
      simp only [Int.toNat_natCast, Int.toNat_zero, List.drop_zero, ← List.map_take]
      rw [ht]
      refine ok_ncopy (by omega) (by omega) (by omega) (ok_copyIn (by omega) (by omega) (by omega) ints_el ?_)
      rw [← List.map_take, ht, ← List.map_take, ← List.map_drop, ← List.map_append, ← List.map_append, List.length_map, List.length_replicate]
      have e : List.replicate a (-1 : Int) ++ (List.replicate a (-1)).take (n - a) ++ (List.replicate a (-1) ++ List.replicate (n - a) 0).drop (a + min (n - a) a) = List.replicate (a + min (n - a) a) (-1) ++ List.replicate (n - (a + min (n - a) a)) 0 := by
        rw [List.take_replicate, List.replicate_append_replicate, List.drop_append, List.length_replicate, List.drop_eq_nil_of_le (by simp), List.nil_append, List.drop_replicate]
        congr 2
        omega
      rw [e]
      exact ok_add (by omega) (ih (a + min (n - a) a) (by omega) (by omega) (by omega))
    · have : a = n := by rw [hl] at h; omega
      subst this
      simp

theorem ok_mask {P : R → Prop} {k : PV → Option R} {a : Int} (h1 : 0 ≤ a ∧ a ≤ 1000000) (h : Ok P (k (.int .u64 a))) : Ok P (bd (PV.bin .and (.int .u64 a) (.int .u64 4294967295)) k) :=
  ok_bd _ (by
    obtain ⟨n, rfl⟩ := Int.eq_ofNat_of_zero_le h1.1
    rw [bin_int (by simp) (by simp)]
    simp only [PV.intBin]
    have hb : IntKind.u64.bits = 64 := rfl
    have e : (BitVec.ofInt 64 (n : Int) &&& BitVec.ofInt 64 4294967295).toNat = n := by
      rw [BitVec.toNat_and, BitVec.ofInt_natCast, BitVec.toNat_ofNat]
      have : (BitVec.ofInt 64 4294967295).toNat = 2 ^ 32 - 1 := by decide
      rw [this, Nat.and_two_pow_sub_one_eq_mod, Nat.mod_eq_of_lt (by omega), Nat.mod_eq_of_lt (by omega)]
    rw [hb, e, u64_in _ (by omega)]) h
theorem ok_shr32 {P : R → Prop} {k : PV → Option R} {a : Int} (h1 : 0 ≤ a ∧ a ≤ 1000000) (h : Ok P (k (.int .u64 0))) : Ok P (bd (PV.bin .shr (.int .u64 a) (.int .u64 32)) k) :=
  ok_bd _ (by
    simp only [PV.bin]
    rw [if_neg (by omega)]
    have : a.fdiv (2 ^ min (Int.toNat 32) IntKind.u64.bits) = 0 := by
      have e : (2 : Int) ^ min (Int.toNat 32) IntKind.u64.bits = 4294967296 := by decide
      rw [e, Int.fdiv_eq_ediv_of_nonneg _ (by omega)]
      omega
    rw [this]) h
theorem ok_mul64 {P : R → Prop} {k : PV → Option R} {a b : Int} (h1 : 0 ≤ a * b ∧ a * b ≤ 1000000) (h : Ok P (k (.int .u64 (a * b)))) : Ok P (bd (PV.bin .mul (.int .u64 a) (.int .u64 b)) k) :=
  ok_bd _ (by rw [bin_int (by simp) (by simp)]; simp only [PV.intBin]; rw [u64_in _ (by omega)]) h
theorem ok_add64 {P : R → Prop} {k : PV → Option R} {a b : Int} (h1 : 0 ≤ a + b ∧ a + b ≤ 1000000) (h : Ok P (k (.int .u64 (a + b)))) : Ok P (bd (PV.bin .add (.int .u64 a) (.int .u64 b)) k) :=
  ok_bd _ (by rw [bin_int (by simp) (by simp)]; simp only [PV.intBin]; rw [u64_in _ (by omega)]) h
theorem ok_u64 {P : R → Prop} {k : PV → Option R} {a : Int} {kk : IntKind} (h1 : 0 ≤ a ∧ a ≤ 1000000) (h : Ok P (k (.int .u64 a))) : Ok P (bd (PV.conv .u64 (.int kk a)) k) := ok_bd _ (by simp only [PV.conv]; rw [u64_in _ (by omega)]) h

theorem repeat_ok {n : Nat} (h1 : 1 ≤ n) (hn : n ≤ 1000) : Ok (fun r => r = [ints (List.replicate n (-1))]) (slices_Repeat_int_int (.lst [.int .i64 (-1)]) (.int .i64 n)) := by
  rw [slices_Repeat_int_int_eq]
  refine ok_lss (ok_ite (fun h => by omega) (fun _ => ?_))
  rw [slices_Repeat_int_int_c3_eq]
  refine ok_len (ok_u64 (by simp) (ok_u64 (by omega) ?_))
  refine ok_call (Q := fun r => r = [.tup [.int .u64 0, .int .u64 n]]) ?_ (fun r hr => ?_)
  · rw [math_bits_Mul_eq, math_bits_Mul64_eq]
    simp only [List.length_cons, List.length_nil]
    refine ok_call (Q := fun r => r = [.tup [.int .u64 0, .int .u64 n]]) ?_ (fun r hr => ?_)
    · refine ok_mask (by omega) (ok_shr32 (by omega) (ok_mask (by omega) (ok_shr32 (by omega) ?_)))
      refine ok_mul64 (by omega) (ok_mul64 (by omega) (ok_shr32 (by omega) (ok_add64 (by omega) ?_)))
      refine ok_mask (by omega) (ok_shr32 (by omega) (ok_mul64 (by omega) (ok_add64 (by omega) ?_)))
      refine ok_mul64 (by omega) (ok_add64 (by omega) (ok_shr32 (by omega) (ok_add64 (by omega) (ok_mul64 (by omega) (ok_some ?_)))))
      simp
    · subst hr
      exact ok_comp rfl (ok_comp rfl (ok_some rfl))
  subst hr
  refine ok_comp rfl (ok_comp rfl (ok_gtr (ok_ite (fun h => by omega) (fun _ => ok_gtr (ok_ite (fun h => by omega) (fun _ => ?_))))))
  rw [slices_Repeat_int_int_c6_eq]
  refine ok_i64 (by omega) (ok_zeros (by omega) (by omega) (ok_leq (ok_ite (fun _ => ?_) (fun h => by omega))))
  refine ok_zeros (by omega) (by omega) (ok_len ?_)
  rw [List.length_replicate]
  refine ok_ncopy (lo := 0) (by omega) (by simp) (by simp; omega) (ok_copyIn (lo := 0) (by omega) (by simp) (by simp; omega) (ints_el (l := [-1])) ?_)
  have := repeat_loop hn n 1 (by omega) (by omega) h1
  have e : (min (n - 0) [PV.int .i64 (-1)].length : Nat) = 1 := by simp; omega
  rw [e]
  have e2 : (List.replicate n (PV.int .i64 0)).take 0 ++ [PV.int .i64 (-1)].take (n - 0) ++ (List.replicate n (PV.int .i64 0)).drop (0 + 1) = (List.replicate 1 (-1 : Int) ++ List.replicate (n - 1) 0).map (PV.int .i64) := by
    rw [List.take_zero, List.nil_append, List.take_of_length_le (by simp; omega), List.drop_replicate]
    simp
  rw [e2]
  exact this

end Go.Proofs.Ytkcilikjhgkakaa

namespace Go.Proofs.Ytkcilikjhgkakaa
open Go
attribute [local irreducible] bd PV.ite PV.guardFlat PV.guardOwn PV.whole PV.one PV.cell PV.sub PV.at_ PV.len PV.slen PV.chr PV.beq PV.peq PV.ceq PV.bin PV.neg PV.not PV.conv PV.cut PV.scut PV.cat PV.setAt PV.setCell PV.ncopy PV.copyIn PV.zeros PV.toStr PV.toBytes PV.deref PV.isPtr PV.comp PV.inb PV.off PV.imin PV.imax PV.sel PV.apply

section
variable {fs : List FnT} {code : List InsT} {T : PV} (F : Fit fs code)
include F

theorem impl_left {x : InsT} (hx : x ∈ code) {h : Int} (hh : -1 ≤ h ∧ h ≤ 16) : Ok (fun r => r = [.tup [.int .i64 (lefts fs x h), .bool (can fs x h)]]) (impl_leaves (.agg [T, .lst (fs.map FnT.pv)]) x.pv (.int .i64 h)) := by
  have hu := F.u x hx
  have hnf := F.nf
  rw [impl_leaves_eq]
  refine ok_whole rfl (ok_cell rfl (ok_cell rfl (ok_whole rfl (ok_cell rfl (ok_cell rfl ?_)))))
  refine ok_call (impl_uses (x := x) (T := T) (by omega)) (fun r hr => ?_)
  subst hr
  refine ok_comp rfl (ok_comp rfl (ok_sub (by omega) (ok_add (by omega) (ok_leq (ok_ite (fun h1 => ?_) (fun h1 => ok_some ?_))))))
  · refine ok_leq (ok_some ?_)
    unfold can lefts
    rw [decide_eq_true h1]; rfl
  · unfold can lefts
    rw [decide_eq_false h1]; rfl

theorem impl_puts {P : R → Prop} {pc : Nat} (hpc : pc < code.length) {left : Int} {b : Bool} {ts : List Int} (hts : ∀ t ∈ ts, 0 ≤ t ∧ t ≤ code.length) (hn : ts.length ≤ 10) {s : Hs} (hs : s.1.length = code.length)
    (h : Ok P (impl_depths_c8 (.lst (code.map InsT.pv)) (.bool (if b then ts.foldl (putH left) s else s).2) (.lst (code.map InsT.pv)) (.int .i64 code.length) (.int .i64 ((pc : Int) + 1)) T (.lst (fs.map FnT.pv)) (ints (if b then ts.foldl (putH left) s else s).1))) :
    Ok P (impl_depths_c13 (.lst (code.map InsT.pv)) (.bool s.2) (.int .i64 left) (.bool b) (.lst (code.map InsT.pv)) (.int .i64 code.length) (.int .i64 pc) (ints ts) (.int .i64 ts.length) (.int .i64 0) T (.lst (fs.map FnT.pv)) (ints s.1)) := by
  have hn2 := F.n2
  refine ok_for (n := ts.length) (F := fun i (q : Hs) => impl_depths_c13 (.lst (code.map InsT.pv)) (.bool q.2) (.int .i64 left) (.bool b) (.lst (code.map InsT.pv)) (.int .i64 code.length) (.int .i64 pc) (ints ts) (.int .i64 ts.length) (.int .i64 i) T (.lst (fs.map FnT.pv)) (ints q.1))
    (fun i q => q.1.length = code.length ∧ (if b then (ts.drop i).foldl (putH left) q else q) = (if b then ts.foldl (putH left) s else s)) ?_ ?_ 0 s (by omega) ⟨hs, by rw [List.drop_zero]⟩
  · rintro q ⟨hq, he⟩
    rw [List.drop_length] at he
    have he : q = (if b then ts.foldl (putH left) s else s) := by rw [← he]; split <;> rfl
    subst he
    rw [impl_depths_c13_eq]
    exact ok_lss (ok_ite (fun h => by omega) (fun _ => ok_add (by omega) h))
  · rintro i q hi ⟨hq, he⟩ ih
    have ht := hts ts[i] (List.getElem_mem _)
    rw [List.drop_eq_getElem_cons hi, List.foldl_cons] at he
    rw [impl_depths_c13_eq]
    refine ok_lss (ok_ite (fun _ => ?_) (fun h => by omega))
    refine ok_ints_at hi (ok_ite_b (fun hb => ?_) (fun hb => ?_))
    · subst hb
      simp only [if_true] at he ih
      refine ok_len_map (ok_lss (ok_ite (fun h1 => ?_) (fun h1 => ?_)))
      · refine ok_ints_inb (by omega) (by omega) (ok_ints_atI (by omega) (by omega) (fun v hv => ?_))
        refine ok_lss (ok_ite (fun h2 => ?_) (fun h2 => ?_))
        · rw [impl_depths_c16_eq]
          refine ok_ints_inb (by omega) (by omega) ?_
          obtain ⟨t, et⟩ := Int.eq_ofNat_of_zero_le ht.1
          rw [et]
          refine ok_ints_set (by omega) (ok_add (by omega) ?_)
          refine ih (q.1.set t left, true) ⟨by simpa using hq, ?_⟩
          rw [put_yes (by omega) (by rw [hv]; exact h2), et] at he
          exact he
        · refine ok_add (by omega) (ih q ⟨hq, ?_⟩)
          rw [put_no (by rw [hv]; simp only [Option.getD_some]; omega)] at he
          exact he
      · refine ok_add (by omega) (ih q ⟨hq, ?_⟩)
        rw [put_no (by omega)] at he
        exact he
    · subst hb
      exact ok_add (by omega) (ih q ⟨hq, he⟩)

theorem can_neg {x : InsT} (hx : x ∈ code) {h : Int} (hh : h < 0) : can fs x h = false := by
  have hu := F.u x hx
  simp only [can]
  rw [decide_eq_false (by omega)]; rfl

theorem impl_passD {P : R → Prop} {s : List Int} (hs : Hgt code.length s)
    (h : Ok P (impl_depths_c5 (.lst (code.map InsT.pv)) (.bool (passD fs code s).2) T (.lst (fs.map FnT.pv)) (ints (passD fs code s).1))) :
    Ok P (impl_depths_c8 (.lst (code.map InsT.pv)) (.bool false) (.lst (code.map InsT.pv)) (.int .i64 code.length) (.int .i64 0) T (.lst (fs.map FnT.pv)) (ints s)) := by
  have hn2 := F.n2
  have hnf := F.nf
  refine ok_for (n := code.length) (F := fun i (q : Hs) => impl_depths_c8 (.lst (code.map InsT.pv)) (.bool q.2) (.lst (code.map InsT.pv)) (.int .i64 code.length) (.int .i64 i) T (.lst (fs.map FnT.pv)) (ints q.1))
    (fun i q => Hgt code.length q.1 ∧ (List.range' i (code.length - i)).foldl (oneH fs code) q = passD fs code s) ?_ ?_ 0 (s, false) (by omega) ⟨hs, rfl⟩
  · rintro q ⟨hq, he⟩
    rw [Nat.sub_self] at he
    have he : q = passD fs code s := he
    subst he
    rw [impl_depths_c8_eq]
    exact ok_lss (ok_ite (fun h => by omega) (fun _ => h))
  · rintro i q hi ⟨hq, he⟩ ih
    have e1 : code.length - i = (code.length - (i + 1)) + 1 := by omega
    rw [e1, List.range'_succ, List.foldl_cons] at he
    have hx : code[i]? = some code[i] := List.getElem?_eq_getElem hi
    have hm : code[i] ∈ code := List.getElem_mem _
    have hil : i < q.1.length := by rw [hq.1]; exact hi
    have hv := hq.at i
    have e2 : q.1[i] = q.1[i]?.getD 0 := getD_is hil
    have hone := hq.one F i
    have hgo := ih (oneH fs code q i) ⟨hone, he⟩
    have eo : oneH fs code q i = if can fs code[i] (q.1[i]?.getD 0) then (nexts code[i] i).foldl (putH (lefts fs code[i] (q.1[i]?.getD 0))) q else q := by
      conv => lhs; unfold oneH
      rw [hx]
    generalize hw : q.1[i]?.getD 0 = w at *
    rw [impl_depths_c8_eq]
    refine ok_lss (ok_ite (fun _ => ?_) (fun h => by omega))
    refine ok_at_map hi (fun _ => rfl) (ok_whole rfl (ok_cell rfl (ok_cell rfl ?_)))
    refine ok_ints_inb (by omega) (by omega) (ok_ints_at hil ?_)
    rw [e2]
    refine ok_lss (ok_ite (fun h1 => ?_) (fun h1 => ?_))
    · rw [can_neg F hm h1, if_neg (by simp)] at eo
      rw [eo] at hgo
      exact ok_add (by omega) hgo
    refine ok_ints_inb (by omega) (by omega) (ok_ints_at hil ?_)
    rw [e2]
    refine ok_call (impl_left (T := T) F hm hv) (fun r hr => ?_)
    subst hr
    refine ok_comp rfl (ok_comp rfl (ok_call (impl_next (x := code[i]) (by omega)) (fun r hr => ?_)))
    subst hr
    refine ok_ints_len ?_
    refine impl_puts F hi (nexts_ok F hm hi) (by unfold nexts; repeat' split <;> simp) hq.1 ?_
    rw [← eo]
    exact hgo

theorem impl_fixD : ∀ (j : Nat) (s : List Int), nn s ≤ j → Hgt code.length s → Ok (fun r => r = [ints (fixD fs code (j + 1) s)]) (impl_depths_c5 (.lst (code.map InsT.pv)) (.bool true) T (.lst (fs.map FnT.pv)) (ints s)) := by
  intro j
  induction j with
  | zero =>
    intro s hs hg
    rw [impl_depths_c5_eq]
    refine ok_ite_t (ok_len_map (impl_passD F hg ?_))
    rcases Dec.pass F s with h | ⟨h, h2⟩
    · unfold fixD
      rw [h, impl_depths_c5_eq]
      exact ok_ite_f (ok_some rfl)
    · have h3 : nn (passD fs code s).1 < nn s := h2
      omega
  | succ j ih =>
    intro s hs hg
    rw [impl_depths_c5_eq]
    refine ok_ite_t (ok_len_map (impl_passD F hg ?_))
    rcases Dec.pass F s with h | ⟨h, h2⟩
    · unfold fixD
      rw [h, impl_depths_c5_eq]
      exact ok_ite_f (ok_some rfl)
    · rw [fixD, h, if_pos rfl]
      exact ih _ (by have h3 : nn (passD fs code s).1 < nn s := h2; omega) (hg.pass F)

theorem flat_ints (l : List Int) : PV.flatO (.own 1 8 false []) (ints l) = true := by
  clear F
  show PV.flatEs false [] (l.map (PV.int .i64)) = true
  induction l with
  | nil => simp [PV.flatEs]
  | cons x r ih => simp [PV.flatEs, PV.flatE, PV.flat, ih]

theorem impl_depths_ok {f : Nat} (hf : f < fs.length) (hc : fs[f].code = code) : Ok (fun r => r = [ints (depths fs code)]) (impl_depths (.agg [T, .lst (fs.map FnT.pv)]) (.int .i64 f)) := by
  have hn2 := F.n2
  have hn1 := F.n1
  rw [impl_depths_eq]
  refine ok_whole rfl (ok_cell rfl (ok_cell rfl (ok_at_map hf (fun _ => rfl) (ok_cell (y := .lst (code.map InsT.pv)) (by rw [← hc]; rfl) (ok_len_map ?_)))))
  refine ok_call (repeat_ok hn1 (by omega)) (fun r hr => ?_)
  subst hr
  refine ok_own (flat_ints F _) (ok_ints_inb (by omega) (by rw [List.length_replicate]; omega) (ok_ints_set (i := 0) (by rw [List.length_replicate]; omega) ?_))
  exact impl_fixD F code.length _ (by have := (Hgt.start (n := code.length)).1; unfold nn; exact Nat.le_trans List.countP_le_length (by omega)) Hgt.start

end

/-! A module that is ok. -/

theorem MdT.okB_fit {m : MdT} (h : m.okB = true) : 1 ≤ m.funcs.length ∧ m.funcs.length ≤ 12 ∧ ∀ f ∈ m.funcs, Fit m.funcs f.code ∧ 0 ≤ f.p ∧ f.p ≤ 6 ∧ f.p ≤ f.lc ∧ f.lc ≤ 12 := by
  simp only [MdT.okB, Bool.and_eq_true, bet_iff, decide_eq_true_eq, List.all_eq_true, fnOkB] at h
  obtain ⟨⟨h1, h2⟩, _, _, h3⟩ := h
  have hp : ∀ i : Int, 0 ≤ parOf m.funcs i ∧ parOf m.funcs i ≤ 6 := by
    intro i
    unfold parOf
    cases hx : m.funcs[i.toNat]? with
    | none => simp
    | some f => exact (h3 f (List.mem_of_getElem? hx)).1
  refine ⟨by omega, by omega, fun f hf => ?_⟩
  obtain ⟨p1, p2, p3, p4⟩ := h3 f hf
  refine ⟨⟨by omega, by omega, by omega, fun x hx => ?_, fun x hx hj => ?_⟩, p1.1, p1.2, p2.1, p2.2⟩
  · have := hp x.a
    unfold uses
    repeat' split
    all_goals (simp only; omega)
  · have := p4 x hx
    unfold insOkB at this
    rcases hj with hj | hj | hj <;> simp [hj, bet] at this <;> omega

end Go.Proofs.Ytkcilikjhgkakaa

namespace Go.Proofs.Ytkcilikjhgkakaa
open Go
attribute [local irreducible] bd PV.ite PV.guardFlat PV.guardOwn PV.whole PV.one PV.cell PV.sub PV.at_ PV.len PV.slen PV.chr PV.beq PV.peq PV.ceq PV.bin PV.neg PV.not PV.conv PV.cut PV.scut PV.cat PV.setAt PV.setCell PV.ncopy PV.copyIn PV.zeros PV.toStr PV.toBytes PV.deref PV.isPtr PV.comp PV.inb PV.off PV.imin PV.imax PV.sel PV.apply

/-- What is wrong at an instruction, if anything. -/
def chkV (fs : List FnT) (code : List InsT) (d : List Int) (pc : Nat) : Option Int :=
  match code[pc]? with
  | none => none
  | some x =>
    if d[pc]?.getD 0 < 0 then none
    else if can fs x (d[pc]?.getD 0) = false then some 2
    else if (nexts x pc).any (fun t => decide ((code.length : Int) ≤ t)) = true then some 3
    else if (nexts x pc).any (fun t => !decide (d[t.toNat]?.getD 0 = lefts fs x (d[pc]?.getD 0))) = true then some 4
    else none

def badAt (fs : List FnT) (code : List InsT) (f pc : Nat) : Option (Int × Nat × Nat) := (chkV fs code (depths fs code) pc).map fun c => (c, f, pc)
def badFn (fs : List FnT) (f : Nat) : Option (Int × Nat × Nat) := match fs[f]? with
  | some x => (List.range' 0 x.code.length).findSome? (badAt fs x.code f)
  | none => none
def bad (fs : List FnT) : Option (Int × Nat × Nat) := (List.range' 0 fs.length).findSome? (badFn fs)
def encB : Option (Int × Nat × Nat) → PV
  | some (c, f, pc) => .agg [.int .i64 c, .int .i64 f, .int .i64 pc]
  | none => .agg [.int .i64 0, .int .i64 0, .int .i64 0]
def MdT.verify (m : MdT) : PV := if m.okB then encB (bad m.funcs) else .agg [.int .i64 1, .int .i64 0, .int .i64 0]

theorem ok_scan {n : Nat} {F : Nat → Option R} {P : R → Prop} (I : Nat → Prop) (he : I n → Ok P (F n)) (hs : ∀ i, i < n → I i → (I (i + 1) → Ok P (F (i + 1))) → Ok P (F i)) (h0 : I 0) : Ok P (F 0) :=
  ok_for (σ := Unit) (F := fun i _ => F i) (fun i _ => I i) (fun _ h => he h) (fun i _ hi hI ih => hs i hi hI (fun h => ih () h)) 0 () (by omega) h0

theorem any_drop {α : Type} {xs : List α} {i : Nat} (hi : i < xs.length) (p : α → Bool) : (xs.drop i).any p = (p xs[i] || (xs.drop (i + 1)).any p) := by
  rw [List.drop_eq_getElem_cons hi, List.any_cons]

section
variable {fs : List FnT} {code : List InsT} {T x3 x4 x5 : PV} (F : Fit fs code) {f : Nat} (hf : f < fs.length)
include F hf

theorem spec_joins {P : R → Prop} {pc : Nat} (hpc : pc < code.length) {d : List Int} (hd : d.length = code.length) {left : Int} {ts : List Int} (hts : ∀ t ∈ ts, 0 ≤ t ∧ t < code.length) (hn : ts.length ≤ 10)
    (h4 : ts.any (fun t => !decide (d[t.toNat]?.getD 0 = left)) = true → P [.agg [.int .i64 4, .int .i64 f, .int .i64 pc]])
    (hgo : ts.any (fun t => !decide (d[t.toNat]?.getD 0 = left)) = false → Ok P (spec_Verify_c9 (.int .i64 f) (.lst (code.map InsT.pv)) (ints d) (.int .i64 ((pc : Int) + 1)) T (.lst (fs.map FnT.pv)) x3 x4 x5)) :
    Ok P (spec_Verify_c23 (.int .i64 f) (.lst (code.map InsT.pv)) (ints d) (.int .i64 pc) (.int .i64 left) (ints ts) (.int .i64 0) T (.lst (fs.map FnT.pv)) x3 x4 x5) := by
  have hn2 := F.n2
  refine ok_scan (n := ts.length) (F := fun i => spec_Verify_c23 (.int .i64 f) (.lst (code.map InsT.pv)) (ints d) (.int .i64 pc) (.int .i64 left) (ints ts) (.int .i64 i) T (.lst (fs.map FnT.pv)) x3 x4 x5)
    (fun i => (ts.drop i).any (fun t => !decide (d[t.toNat]?.getD 0 = left)) = ts.any (fun t => !decide (d[t.toNat]?.getD 0 = left))) ?_ ?_ (by rw [List.drop_zero])
  · intro hI
    rw [List.drop_length] at hI
    rw [spec_Verify_c23_eq]
    exact ok_ints_len (ok_lss (ok_ite (fun h => by omega) (fun _ => ok_add (by omega) (hgo hI.symm))))
  · intro i hi hI ih
    rw [any_drop hi] at hI
    have ht := hts ts[i] (List.getElem_mem _)
    rw [spec_Verify_c23_eq]
    refine ok_ints_len (ok_lss (ok_ite (fun _ => ?_) (fun h => by omega)))
    refine ok_ints_at hi (ok_ints_atI (by omega) (by omega) (fun v hv => ?_))
    have hv' : d[ts[i].toNat]?.getD 0 = v := by rw [hv]; rfl
    rw [hv'] at hI
    refine ok_neq (ok_ite_not (fun h => ?_) (fun h => ?_))
    · rw [decide_eq_false h] at hI
      exact ok_one rfl (ok_one rfl (ok_some (h4 hI.symm)))
    · rw [decide_eq_true h] at hI
      exact ok_add (by omega) (ih hI)

theorem spec_ends {P : R → Prop} {pc : Nat} (hpc : pc < code.length) {d : List Int} (hd : d.length = code.length) {left : Int} {ts : List Int} (hts : ∀ t ∈ ts, 0 ≤ t ∧ t ≤ code.length) (hn : ts.length ≤ 10)
    (h3 : ts.any (fun t => decide ((code.length : Int) ≤ t)) = true → P [.agg [.int .i64 3, .int .i64 f, .int .i64 pc]])
    (hgo : ts.any (fun t => decide ((code.length : Int) ≤ t)) = false → Ok P (spec_Verify_c23 (.int .i64 f) (.lst (code.map InsT.pv)) (ints d) (.int .i64 pc) (.int .i64 left) (ints ts) (.int .i64 0) T (.lst (fs.map FnT.pv)) x3 x4 x5)) :
    Ok P (spec_Verify_c18 (.int .i64 f) (.lst (code.map InsT.pv)) (ints d) (.int .i64 pc) (.int .i64 left) (ints ts) (.int .i64 0) T (.lst (fs.map FnT.pv)) x3 x4 x5) := by
  have hn2 := F.n2
  refine ok_scan (n := ts.length) (F := fun i => spec_Verify_c18 (.int .i64 f) (.lst (code.map InsT.pv)) (ints d) (.int .i64 pc) (.int .i64 left) (ints ts) (.int .i64 i) T (.lst (fs.map FnT.pv)) x3 x4 x5)
    (fun i => (ts.drop i).any (fun t => decide ((code.length : Int) ≤ t)) = ts.any (fun t => decide ((code.length : Int) ≤ t))) ?_ ?_ (by rw [List.drop_zero])
  · intro hI
    rw [List.drop_length] at hI
    rw [spec_Verify_c18_eq]
    exact ok_ints_len (ok_lss (ok_ite (fun h => by omega) (fun _ => hgo hI.symm)))
  · intro i hi hI ih
    rw [any_drop hi] at hI
    rw [spec_Verify_c18_eq]
    refine ok_ints_len (ok_lss (ok_ite (fun _ => ?_) (fun h => by omega)))
    refine ok_ints_at hi (ok_len_map (ok_geq (ok_ite (fun h => ?_) (fun h => ?_))))
    · rw [decide_eq_true h] at hI
      exact ok_one rfl (ok_one rfl (ok_some (h3 hI.symm)))
    · rw [decide_eq_false h] at hI
      exact ok_add (by omega) (ih hI)

theorem not_any {ts : List Int} {n : Int} (h : ts.any (fun t => decide (n ≤ t)) = false) : ∀ t ∈ ts, t < n := by
  clear F hf
  intro t ht
  rw [List.any_eq_false] at h
  have := h t ht
  simp at this
  omega

theorem spec_vcode {rest : Option (Int × Nat × Nat)} (hnext : Ok (fun r => r = [encB rest]) (spec_Verify_c4 (.int .i64 ((f : Int) + 1)) T (.lst (fs.map FnT.pv)) x3 x4 x5)) : ∀ pc, pc ≤ code.length →
    Ok (fun r => r = [encB (((List.range' pc (code.length - pc)).findSome? (badAt fs code f)).or rest)]) (spec_Verify_c9 (.int .i64 f) (.lst (code.map InsT.pv)) (ints (depths fs code)) (.int .i64 pc) T (.lst (fs.map FnT.pv)) x3 x4 x5) := by
  have hn2 := F.n2
  have hnf := F.nf
  have hg := depths_hgt F
  generalize hd : depths fs code = d at hg
  refine ok_down ?_ ?_
  · rw [spec_Verify_c9_eq, find_end]
    exact ok_len_map (ok_lss (ok_ite (fun h => by omega) (fun _ => ok_add (by omega) hnext)))
  · intro pc hpc ih
    have hx : code[pc]? = some code[pc] := List.getElem?_eq_getElem hpc
    have hm : code[pc] ∈ code := List.getElem_mem _
    have hu := F.u code[pc] hm
    have hil : pc < d.length := by rw [hg.1]; exact hpc
    have hv := hg.at pc
    have e2 : d[pc] = d[pc]?.getD 0 := getD_is hil
    rw [find_step hpc]
    have eb : badAt fs code f pc = (chkV fs code d pc).map fun c => (c, f, pc) := by unfold badAt; rw [hd]
    rw [eb]
    have ec : chkV fs code d pc = if d[pc]?.getD 0 < 0 then none
      else if can fs code[pc] (d[pc]?.getD 0) = false then some 2
      else if (nexts code[pc] pc).any (fun t => decide ((code.length : Int) ≤ t)) = true then some 3
      else if (nexts code[pc] pc).any (fun t => !decide (d[t.toNat]?.getD 0 = lefts fs code[pc] (d[pc]?.getD 0))) = true then some 4
      else none := by
      conv => lhs; unfold chkV
      rw [hx]
    generalize hw : d[pc]?.getD 0 = w at *
    generalize chkV fs code d pc = ch at *
    rw [spec_Verify_c9_eq]
    refine ok_len_map (ok_lss (ok_ite (fun _ => ?_) (fun h => by omega)))
    refine ok_ints_at hil ?_
    rw [e2]
    refine ok_lss (ok_ite (fun h1 => ?_) (fun h1 => ?_))
    · rw [if_pos h1] at ec
      subst ec
      exact ok_add (by omega) ih
    rw [if_neg h1] at ec
    refine ok_at_map hpc (fun _ => rfl) (ok_call (spec_uses (T := T) (by omega)) (fun r hr => ?_))
    subst hr
    refine ok_comp rfl (ok_comp rfl (ok_ints_at hil ?_))
    rw [e2]
    refine ok_sub (by omega) (ok_add (by omega) (ok_ints_at hil ?_))
    rw [e2]
    refine ok_lss (ok_ite (fun h2 => ?_) (fun h2 => ?_))
    · have hc : can fs code[pc] w = false := by simp only [can]; rw [decide_eq_false (by omega)]; rfl
      rw [if_pos hc] at ec
      subst ec
      exact ok_one rfl (ok_one rfl (ok_some rfl))
    refine ok_gtr (ok_ite (fun h3 => ?_) (fun h3 => ?_))
    · have hc : can fs code[pc] w = false := by simp only [can]; rw [decide_eq_false (p := lefts fs code[pc] w ≤ 16) (by unfold lefts; omega), Bool.and_false]
      rw [if_pos hc] at ec
      subst ec
      exact ok_one rfl (ok_one rfl (ok_some rfl))
    have hc : can fs code[pc] w = true := by simp only [can]; rw [decide_eq_true (by omega), decide_eq_true (p := lefts fs code[pc] w ≤ 16) (by unfold lefts; omega)]; rfl
    rw [hc, if_neg (by simp)] at ec
    refine ok_at_map hpc (fun _ => rfl) (ok_call (spec_next (by omega)) (fun r hr => ?_))
    subst hr
    have hnx := nexts_ok F hm hpc
    have hl10 : (nexts code[pc] pc).length ≤ 10 := by unfold nexts; repeat' split <;> simp
    refine spec_ends F hf hpc hg.1 (left := lefts fs code[pc] w) hnx hl10 (fun h => ?_) (fun h => ?_)
    · rw [if_pos h] at ec
      subst ec
      rfl
    rw [if_neg (by rw [h]; simp)] at ec
    refine spec_joins F hf hpc hg.1 (left := lefts fs code[pc] w) (fun t ht => ⟨(hnx t ht).1, not_any F hf h t ht⟩) hl10 (fun h => ?_) (fun h => ?_)
    · rw [if_pos h] at ec
      subst ec
      rfl
    · rw [if_neg (by rw [h]; simp)] at ec
      subst ec
      exact ih

end

theorem badFn_eq {fs : List FnT} {f : Nat} (hf : f < fs.length) : badFn fs f = (List.range' 0 fs[f].code.length).findSome? (badAt fs fs[f].code f) := by
  unfold badFn
  rw [List.getElem?_eq_getElem hf]

theorem spec_verify {m : MdT} (h : m.sized) : Ok (fun r => r = [m.verify]) (spec_Verify m.pv) := by
  rw [spec_Verify_eq]
  refine ok_whole rfl (ok_cell rfl (ok_cell rfl (ok_call (spec_moduleOk h) (fun r hr => ?_))))
  subst hr
  unfold MdT.verify
  refine ok_not (ok_ite_b (fun hb => ok_some ?_) (fun hb => ?_))
  · have : m.okB = false := by simpa using hb
    rw [this]; rfl
  have hb : m.okB = true := by simpa using hb
  rw [hb, if_pos rfl]
  obtain ⟨h1, h2, h3⟩ := MdT.okB_fit hb
  have key := ok_down (n := m.funcs.length) (P := fun f r => r = [encB ((List.range' f (m.funcs.length - f)).findSome? (badFn m.funcs))])
    (F := fun f => spec_Verify_c4 (.int .i64 f) (.lst (m.texts.map PV.str)) (.lst (m.funcs.map FnT.pv)) (.int .i64 0) (.int .i64 0) (.int .i64 0)) ?_ ?_ 0 (by omega)
  · exact key
  · rw [spec_Verify_c4_eq, find_end]
    exact ok_len_map (ok_lss (ok_ite (fun h => by omega) (fun _ => ok_some rfl)))
  · intro f hf ih
    have F := (h3 m.funcs[f] (List.getElem_mem _)).1
    rw [spec_Verify_c4_eq, find_step hf, badFn_eq hf]
    refine ok_len_map (ok_lss (ok_ite (fun _ => ?_) (fun h => by omega)))
    refine ok_at_map hf (fun _ => rfl) (ok_cell rfl (ok_call (spec_depths F hf rfl) (fun r hr => ?_)))
    subst hr
    exact spec_vcode F hf ih 0 (by omega)

/-! The program. -/

section
variable {P : R → Prop} {k : R → Option R}

theorem index_int {xs : List Int} (hx : xs.length ≤ 1000000000) (y : Int) : Ok (fun r => ∃ n : Int, r = [.int .i64 n] ∧ (0 ≤ n ↔ xs.any (fun x => decide (y = x)) = true)) (slices_Index_int_int (ints xs) (.int .i64 y)) := by
  rw [slices_Index_int_int_eq]
  refine ok_ints_len ?_
  refine ok_scan (n := xs.length) (F := fun i => slices_Index_int_int_c2 (ints xs) (.int .i64 y) (.int .i64 xs.length) (.int .i64 i)) (fun i => (xs.drop i).any (fun x => decide (y = x)) = xs.any (fun x => decide (y = x))) ?_ ?_ (by rw [List.drop_zero])
  · intro hI
    rw [List.drop_length] at hI
    rw [slices_Index_int_int_c2_eq]
    refine ok_lss (ok_ite (fun h => by omega) (fun _ => ok_some ⟨-1, rfl, ?_⟩))
    rw [← hI]; simp
  · intro i hi hI ih
    rw [any_drop hi] at hI
    rw [slices_Index_int_int_c2_eq]
    refine ok_lss (ok_ite (fun _ => ?_) (fun h => by omega))
    refine ok_ints_at hi (ok_eql (ok_ite (fun h => ok_some ⟨i, rfl, ?_⟩) (fun h => ?_)))
    · rw [← hI, decide_eq_true h]; simp
    · rw [decide_eq_false h] at hI
      exact ok_add (by omega) (ih hI)

theorem ok_hasInt {xs : List Int} (hx : xs.length ≤ 1000000000) {y : Int} (h : Ok P (k [.bool (xs.any (fun x => decide (y = x)))])) : Ok P (bd (slices_Contains_int_int (ints xs) (.int .i64 y)) k) := by
  refine ok_call (Q := fun r => r = [.bool (xs.any (fun x => decide (y = x)))]) ?_ (fun r hr => by rw [hr]; exact h)
  rw [slices_Contains_int_int_eq]
  refine ok_call (index_int hx y) ?_
  rintro r ⟨n, rfl, hn⟩
  refine ok_geq (ok_some ?_)
  by_cases h0 : 0 ≤ n
  · rw [decide_eq_true h0, hn.1 h0]
  · rw [decide_eq_false h0]
    cases h2 : xs.any (fun x => decide (y = x)) with
    | false => rfl
    | true => exact absurd (hn.2 h2) h0

theorem ok_anyInt {f : Nat} {caps : List PV} {xs : List Int} (hx : xs.length ≤ 1000000000) (p : Int → Bool) (hp : ∀ x ∈ xs, Ok (fun r => r = [.bool (p x)]) (pcallO f ([.int .i64 x] ++ caps))) (h : Ok P (k [.bool (xs.any p)])) :
    Ok P (bd (slices_ContainsFunc_int_int (ints xs) (.fn f caps)) k) := by
  refine ok_call (Q := fun r => r = [.bool (xs.any p)]) ?_ (fun r hr => by rw [hr]; exact h)
  rw [slices_ContainsFunc_int_int_eq]
  refine ok_call (Q := fun r => ∃ n : Int, r = [.int .i64 n] ∧ (0 ≤ n ↔ xs.any p = true)) ?_ ?_
  · rw [slices_IndexFunc_int_int_eq]
    refine ok_ints_len ?_
    refine ok_scan (n := xs.length) (F := fun i => slices_IndexFunc_int_int_c2 (ints xs) (.fn f caps) (.int .i64 xs.length) (.int .i64 i)) (fun i => (xs.drop i).any p = xs.any p) ?_ ?_ (by rw [List.drop_zero])
    · intro hI
      rw [List.drop_length] at hI
      rw [slices_IndexFunc_int_int_c2_eq]
      refine ok_lss (ok_ite (fun h => by omega) (fun _ => ok_some ⟨-1, rfl, ?_⟩))
      rw [← hI]; simp
    · intro i hi hI ih
      rw [any_drop hi] at hI
      rw [slices_IndexFunc_int_int_c2_eq]
      refine ok_lss (ok_ite (fun _ => ?_) (fun h => by omega))
      refine ok_ints_at hi (ok_apply rfl (hp _ (List.getElem_mem _)) (fun r hr => ?_))
      subst hr
      refine ok_ite_b (fun h => ok_some ⟨i, rfl, ?_⟩) (fun h => ?_)
      · rw [← hI, h]; simp
      · rw [h, Bool.false_or] at hI
        exact ok_add (by omega) (ih hI)
  · rintro r ⟨n, rfl, hn⟩
    refine ok_geq (ok_some ?_)
    by_cases h0 : 0 ≤ n
    · rw [decide_eq_true h0, hn.1 h0]
    · rw [decide_eq_false h0]
      cases h2 : xs.any p with
      | false => rfl
      | true => exact absurd (hn.2 h2) h0

end

theorem any_len {ts : List Int} {n : Int} (h : ∀ t ∈ ts, t ≤ n) : ts.any (fun x => decide (n = x)) = ts.any (fun t => decide (n ≤ t)) := by
  induction ts with
  | nil => rfl
  | cons t r ih =>
    rw [List.any_cons, List.any_cons, ih (fun x hx => h x (List.mem_cons_of_mem _ hx))]
    have := h t List.mem_cons_self
    congr 1
    by_cases h1 : n = t
    · rw [decide_eq_true h1, decide_eq_true (by omega)]
    · rw [decide_eq_false h1, decide_eq_false (by omega)]

section
variable {fs : List FnT} {code : List InsT} {T x3 x4 x5 : PV} (F : Fit fs code) {f : Nat} (hf : f < fs.length)
include F hf

theorem impl_vcode {rest : Option (Int × Nat × Nat)} (hnext : Ok (fun r => r = [encB rest]) (impl_Verify_c4 (.int .i64 fs.length) (.int .i64 ((f : Int) + 1)) T (.lst (fs.map FnT.pv)) x3 x4 x5)) : ∀ pc, pc ≤ code.length →
    Ok (fun r => r = [encB (((List.range' pc (code.length - pc)).findSome? (badAt fs code f)).or rest)])
      (impl_Verify_c8 (.int .i64 f) (.int .i64 fs.length) (.int .i64 f) (.lst (code.map InsT.pv)) (.int .i64 code.length) (.int .i64 pc) T (.lst (fs.map FnT.pv)) x3 x4 x5 (ints (depths fs code))) := by
  have hn2 := F.n2
  have hnf := F.nf
  have hg := depths_hgt F
  generalize hd : depths fs code = d at hg
  refine ok_down ?_ ?_
  · rw [impl_Verify_c8_eq, find_end]
    exact ok_lss (ok_ite (fun h => by omega) (fun _ => ok_add (by omega) hnext))
  · intro pc hpc ih
    have hx : code[pc]? = some code[pc] := List.getElem?_eq_getElem hpc
    have hm : code[pc] ∈ code := List.getElem_mem _
    have hu := F.u code[pc] hm
    have hil : pc < d.length := by rw [hg.1]; exact hpc
    have hv := hg.at pc
    have e2 : d[pc] = d[pc]?.getD 0 := getD_is hil
    rw [find_step hpc]
    have eb : badAt fs code f pc = (chkV fs code d pc).map fun c => (c, f, pc) := by unfold badAt; rw [hd]
    rw [eb]
    have ec : chkV fs code d pc = if d[pc]?.getD 0 < 0 then none
      else if can fs code[pc] (d[pc]?.getD 0) = false then some 2
      else if (nexts code[pc] pc).any (fun t => decide ((code.length : Int) ≤ t)) = true then some 3
      else if (nexts code[pc] pc).any (fun t => !decide (d[t.toNat]?.getD 0 = lefts fs code[pc] (d[pc]?.getD 0))) = true then some 4
      else none := by
      conv => lhs; unfold chkV
      rw [hx]
    generalize hw : d[pc]?.getD 0 = w at *
    generalize chkV fs code d pc = ch at *
    rw [impl_Verify_c8_eq]
    refine ok_lss (ok_ite (fun _ => ?_) (fun h => by omega))
    refine ok_at_map hpc (fun _ => rfl) (ok_whole rfl (ok_cell rfl (ok_cell rfl (ok_ints_at hil ?_))))
    rw [e2]
    refine ok_lss (ok_ite (fun h1 => ?_) (fun h1 => ?_))
    · rw [if_pos h1] at ec
      subst ec
      exact ok_add (by omega) ih
    rw [if_neg h1] at ec
    refine ok_ints_at hil ?_
    rw [e2]
    refine ok_call (impl_left (T := T) F hm hv) (fun r hr => ?_)
    subst hr
    refine ok_comp rfl (ok_comp rfl (ok_one rfl (ok_not (ok_ite_b (fun hc => ?_) (fun hc => ?_)))))
    · have hc : can fs code[pc] w = false := by simpa using hc
      rw [if_pos hc] at ec
      subst ec
      exact ok_one rfl (ok_one rfl (ok_some rfl))
    have hc : can fs code[pc] w = true := by simpa using hc
    rw [hc, if_neg (by simp)] at ec
    refine ok_call (impl_next (x := code[pc]) (by omega)) (fun r hr => ?_)
    subst hr
    have hnx := nexts_ok F hm hpc
    have hl10 : (nexts code[pc] pc).length ≤ 10 := by unfold nexts; repeat' split <;> simp
    refine ok_ints_len (ok_hasInt (by omega) ?_)
    rw [hg.1, any_len (fun t ht => (hnx t ht).2)]
    refine ok_ite_b (fun h => ?_) (fun h => ?_)
    · rw [if_pos h] at ec
      subst ec
      exact ok_one rfl (ok_one rfl (ok_some rfl))
    rw [if_neg (by rw [h]; simp)] at ec
    refine ok_anyInt (by omega) (fun t => !decide (d[t.toNat]?.getD 0 = lefts fs code[pc] w)) (fun t ht => ?_) ?_
    · have := hnx t ht
      have := not_any F hf h t ht
      show Ok _ (impl_Verify_1 _ _ _)
      rw [impl_Verify_1_eq]
      refine ok_deref rfl (ok_ints_atI (by omega) (by rw [hg.1]; omega) (fun v hv => ok_deref rfl (ok_neq (ok_some ?_))))
      rw [hv]; rfl
    · refine ok_flat rfl (ok_ite_b (fun h => ?_) (fun h => ?_))
      · rw [if_pos h] at ec
        subst ec
        exact ok_one rfl (ok_one rfl (ok_some rfl))
      · rw [if_neg (by rw [h]; simp)] at ec
        subst ec
        exact ok_add (by omega) ih

end

theorem impl_verify {m : MdT} (h : m.sized) : Ok (fun r => r = [m.verify]) (impl_Verify m.pv) := by
  rw [impl_Verify_eq]
  refine ok_whole rfl (ok_cell rfl (ok_cell rfl (ok_call (impl_moduleOk h) (fun r hr => ?_))))
  subst hr
  unfold MdT.verify
  refine ok_not (ok_ite_b (fun hb => ok_some ?_) (fun hb => ?_))
  · have : m.okB = false := by simpa using hb
    rw [this]; rfl
  have hb : m.okB = true := by simpa using hb
  rw [hb, if_pos rfl]
  obtain ⟨h1, h2, h3⟩ := MdT.okB_fit hb
  refine ok_len_map ?_
  have key := ok_down (n := m.funcs.length) (P := fun f r => r = [encB ((List.range' f (m.funcs.length - f)).findSome? (badFn m.funcs))])
    (F := fun f => impl_Verify_c4 (.int .i64 m.funcs.length) (.int .i64 f) (.lst (m.texts.map PV.str)) (.lst (m.funcs.map FnT.pv)) (.int .i64 0) (.int .i64 0) (.int .i64 0)) ?_ ?_ 0 (by omega)
  · exact key
  · rw [impl_Verify_c4_eq, find_end]
    exact ok_lss (ok_ite (fun h => by omega) (fun _ => ok_some rfl))
  · intro f hf ih
    have F := (h3 m.funcs[f] (List.getElem_mem _)).1
    rw [impl_Verify_c4_eq, find_step hf, badFn_eq hf]
    refine ok_lss (ok_ite (fun _ => ?_) (fun h => by omega))
    refine ok_call (impl_depths_ok F hf rfl) (fun r hr => ?_)
    subst hr
    refine ok_one rfl (ok_at_map hf (fun _ => rfl) (ok_cell rfl (ok_len_map ?_)))
    exact impl_vcode F hf ih 0 (by omega)

end Go.Proofs.Ytkcilikjhgkakaa
