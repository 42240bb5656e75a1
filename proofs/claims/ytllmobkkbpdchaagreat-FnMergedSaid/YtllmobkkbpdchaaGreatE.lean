/-
  Texts of the proof, part 5: a value-level evaluator and its soundness, what the functions compute, laws about it.
  Conditions: none.
-/
import Derived.Test.YtllmobkkbpdchaaGreatD
import Derived.Lib.Strings
set_option linter.all false
namespace Go.Proofs.YtllmobkkbpdchaaGreat
noncomputable section
open Go
variable (a b c d e f g h i j k l m n o p q : PV)
theorem mD : gS a b c d e f g h=bd (PV.bin .gtr a (.I 0)) λi=>PV.ite i (bd (aD (.I 5) b c d) λj=>bd (PV.inb (.lst [(.str (bs [])),(.str (bs [97])),(.str (bs [98,99])),(.str (bs [104,101,108,108,111,32,119,111,114,108,100])),(.str (bs [120,32,121]))]) (gd j 0)) λk=>bd (PV.at_ 1 false (.lst [(.str (bs [])),(.str (bs [97])),(.str (bs [98,99])),(.str (bs [104,101,108,108,111,32,119,111,114,108,100])),(.str (bs [120,32,121]))]) (gd j 0)) λl=>
 bd (PV.cat 1 16 false (.lst []) (.lst [l])) λm=>bd (PV.cat 1 16 false g m) λn=>bd (PV.bin .sub a (.I 1)) λo=>gS o (gd j 1) (gd j 2) (gd j 3) e f n h) (bd (aD (.I 4) b c d) λp=>eY (gd p 0) (gd p 1) (gd p 2) (gd p 3) e f g h (.lst [])):=bB _ _ _ _ _ _ _ _ (by kernel_rfl)
theorem mE : eY a b c d e f g h i=bd (PV.bin .gtr a (.I 0)) λj=>PV.ite j (bd (aD (.I 3) b c d) λk=>bd (PV.one (gd k 0)) λl=>bd (PV.bin .add (.I 1) l) λm=>bd (aD (.I 2) (gd k 1) (gd k 2) (gd k 3)) λn=>bd (PV.bin .add m (gd n 0)) λo=>bd (PV.one o) λp=>bd (PV.len g) λq=>
 bd (PV.cat 3 40 true (.lst []) i) λr=>bd (PV.one q) λs=>bd (PV.one p) λt=>bd (bY (.I 3) (gd n 1) (gd n 2) (gd n 3)) λu=>PV.ite (gd u 0) (bd (fE (.I 1) (.I 2) r s t (.bool false) (gd u 1) (gd u 2) (gd u 3) (.lst [])) λv=>gC a (gd v 4) (gd v 5) (gd v 6) l p (gd v 0) (gd v 1) (gd v 2) (gd v 3) e f g h i (.lst []) (gd v 7))
 (gC a (gd u 1) (gd u 2) (gd u 3) l p r s t (.bool false) e f g h i (.lst []) (.lst []))) (bd (aD (.I 3) b c d) λw=>bd (aD (.I 2) (gd w 1) (gd w 2) (gd w 3)) λx=>bd (PV.bin .add (.I 3) (gd x 0)) λy=>bd (PV.one (gd w 0)) λz=>bd (PV.one y) λA=>bd (PV.len g) λB=>bd (PV.one B) λC=>bd (PV.one A) λD=>
 bd (oY (.I 5) (gd x 1) (gd x 2) (gd x 3)) λE=>bd (PV.bin .add (.I 1) (gd E 0)) λF=>bd (fE (.I 2) F i C D (.bool true) (gd E 1) (gd E 2) (gd E 3) (.lst [])) λG=>bd (aM (.I 1) (gd G 0) (gd G 1) (gd G 2) (gd G 3) (gd G 4) (gd G 5) (gd G 6) (gd G 7)) λH=>bd (aH (.I 25) (.I 0) (gd H 0) (gd H 1) (gd H 2) (gd H 3) (gd H 4) (gd H 5) (gd H 6) (gd H 7)) λI=>
 bd (PV.cat 3 40 true (.lst [(.agg [z,A,(gd I 7)])]) i) λJ=>some [(.agg [g,J]),(gd I 4),(gd I 5),(gd I 6)]):=bB _ _ _ _ _ _ _ _ (by kernel_rfl)
theorem sM : gC a b c d e f g h i j k l m n o p q=bd (aM (.I 2) g h i j b c d q) λr=>bd (aH (.I 25) (.I 0) (gd r 0) (gd r 1) (gd r 2) (gd r 3) (gd r 4) (gd r 5) (gd r 6) (gd r 7)) λs=>bd (PV.cat 3 40 true o (.lst [(.agg [e,f,(gd s 7)])])) λt=>bd (PV.bin .sub a (.I 1)) λu=>eY u (gd s 4) (gd s 5) (gd s 6) k l m n t:=bB _ _ _ _ _ _ _ _ (by kernel_rfl)
theorem aCE : tU a b c d e=bd (nB (.agg [a,b])) λf=>PV.guardOwn (.own 1 16 false []) (gd f 0) (PV.guardOwn (.own 3 40 true [.leaf,.leaf,(.own 2 16 true [])]) (gd f 1) (bd (PV.len (gd f 1)) λg=>bd (aD g c d e) λh=>bd (PV.inb (gd f 1) (gd h 0)) λi=>bd (PV.at_ 3 true (gd f 1) (gd h 0)) λj=>bd (PV.at_ 3 true (gd f 1) (gd h 0)) λk=>
 bd (PV.cell k 2) λl=>bd (PV.len l) λm=>bd (aD m (gd h 1) (gd h 2) (gd h 3)) λn=>bd (aD (.I 8) (gd n 1) (gd n 2) (gd n 3)) λo=>bd (PV.bin .eql (gd o 0) (.I 0)) λp=>PV.ite p (bd (PV.inb (gd f 1) (gd h 0)) λq=>bd (PV.at_ 3 true (gd f 1) (gd h 0)) λr=>bd (aD (.I 29) (gd o 1) (gd o 2) (gd o 3)) λs=>bd (PV.bin .sub (gd s 0) (.I 1)) λt=>
 bd (PV.at_ 3 true (gd f 1) (gd h 0)) λu=>bd (PV.cell u 2) λv=>bd (PV.inb v (gd n 0)) λw=>bd (PV.at_ 3 true (gd f 1) (gd h 0)) λx=>bd (PV.cell x 2) λy=>bd (PV.one t) λz=>bd (PV.at_ 3 true (gd f 1) (gd h 0)) λA=>bd (PV.cell A 2) λB=>bd (PV.setCell 2 B (gd n 0) 0 z) λC=>bd (PV.at_ 3 true (gd f 1) (gd h 0)) λD=>bd (PV.cell D 2) λE=>bd (PV.setCell 3 (gd f 1) (gd h 0) 2 C) λF=>
 some [(.agg [(gd f 0),F]),(gd s 1),(gd s 2),(gd s 3)]) (bd (PV.bin .eql (gd o 0) (.I 1)) λG=>PV.ite G (bd (PV.inb (gd f 1) (gd h 0)) λH=>bd (PV.at_ 3 true (gd f 1) (gd h 0)) λI=>bd (eC (gd o 1) (gd o 2) (gd o 3)) λJ=>bd (PV.at_ 3 true (gd f 1) (gd h 0)) λK=>bd (PV.cell K 2) λL=>bd (PV.inb L (gd n 0)) λM=>bd (PV.at_ 3 true (gd f 1) (gd h 0)) λN=>
 bd (PV.cell N 2) λO=>bd (PV.one (gd J 0)) λP=>bd (PV.at_ 3 true (gd f 1) (gd h 0)) λQ=>bd (PV.cell Q 2) λR=>bd (PV.setCell 2 R (gd n 0) 1 P) λS=>bd (PV.at_ 3 true (gd f 1) (gd h 0)) λT=>bd (PV.cell T 2) λU=>bd (PV.setCell 3 (gd f 1) (gd h 0) 2 S) λV=>some [(.agg [(gd f 0),V]),(gd J 1),(gd J 2),(gd J 3)]) (bd (PV.bin .eql (gd o 0) (.I 2)) λW=>PV.ite W
 (bd (aD (.I 9) (gd o 1) (gd o 2) (gd o 3)) λX=>bd (PV.bin .sub (gd X 0) (.I 1)) λY=>bd (PV.inb (gd f 1) (gd h 0)) λZ=>bd (PV.one Y) λaa=>bd (PV.setCell 3 (gd f 1) (gd h 0) 0 aa) λab=>some [(.agg [(gd f 0),ab]),(gd X 1),(gd X 2),(gd X 3)]) (bd (PV.bin .eql (gd o 0) (.I 3)) λac=>PV.ite ac (bd (aD (.I 4) (gd o 1) (gd o 2) (gd o 3)) λad=>
 bd (PV.inb (.lst [(.I (-1)),(.I 0),(.I 12),(.I 13)]) (gd ad 0)) λae=>bd (PV.at_ 1 false (.lst [(.I (-1)),(.I 0),(.I 12),(.I 13)]) (gd ad 0)) λaf=>bd (PV.inb (gd f 1) (gd h 0)) λag=>bd (PV.one af) λah=>bd (PV.setCell 3 (gd f 1) (gd h 0) 1 ah) λai=>some [(.agg [(gd f 0),ai]),(gd ad 1),(gd ad 2),(gd ad 3)]) (bd (PV.bin .eql (gd o 0) (.I 4)) λaj=>
 PV.ite aj (bd (aD (.I 4) (gd o 1) (gd o 2) (gd o 3)) λak=>bd (PV.inb (.lst [(.str (bs [113,34])),(.str (bs [10])),(.str (bs [48,49,50,51,52,53,54,55,56,57,48,49,50,51,52,53,54,55,56,57,48,49,50,51,52,53,54,55,56,57,48,49,50,51,52,53,54,55,56,57,48,49,50,51,52,53,54,55,56,57,48,49,50,51,52,53,54,55,56,57,48])),(.str (bs [195,169]))]) (gd ak 0)) λal=>
 bd (PV.at_ 1 false (.lst [(.str (bs [113,34])),(.str (bs [10])),(.str (bs [48,49,50,51,52,53,54,55,56,57,48,49,50,51,52,53,54,55,56,57,48,49,50,51,52,53,54,55,56,57,48,49,50,51,52,53,54,55,56,57,48,49,50,51,52,53,54,55,56,57,48,49,50,51,52,53,54,55,56,57,48])),(.str (bs [195,169]))]) (gd ak 0)) λam=>bd (PV.cat 1 16 false (.lst []) (.lst [am])) λan=>
 bd (PV.cat 1 16 false (gd f 0) an) λao=>some [(.agg [ao,(gd f 1)]),(gd ak 1),(gd ak 2),(gd ak 3)]) (bd (PV.bin .eql (gd o 0) (.I 5)) λap=>PV.ite ap (bd (PV.inb (gd f 1) (gd h 0)) λaq=>bd (PV.at_ 3 true (gd f 1) (gd h 0)) λar=>bd (PV.at_ 3 true (gd f 1) (gd h 0)) λau=>bd (PV.cell au 2) λav=>bd (PV.cut 2 true av (.I 0) (gd n 0)) λaw=>bd (PV.inb (gd f 1) (gd h 0)) λax=>
 bd (PV.at_ 3 true (gd f 1) (gd h 0)) λay=>bd (PV.bin .add (gd n 0) (.I 1)) λaz=>bd (PV.at_ 3 true (gd f 1) (gd h 0)) λba=>bd (PV.cell ba 2) λbb=>bd (PV.len bb) λbc=>bd (PV.cut 2 true bb az bc) λbe=>bd (PV.at_ 3 true (gd f 1) (gd h 0)) λbf=>bd (PV.cell bf 2) λbg=>bd (PV.at_ 3 true (gd f 1) (gd h 0)) λbh=>bd (PV.cell bh 2) λbi=>bd (PV.cut 2 true bi az bc) λbj=>
 bd (PV.cut 2 true bg (.I 0) (gd n 0)) λbk=>bd (PV.at_ 3 true (gd f 1) (gd h 0)) λbl=>bd (PV.cell bl 2) λbm=>bd (PV.setCell 3 (gd f 1) (gd h 0) 2 .hole) λbn=>bd (PV.cat 2 16 true bk bj) λbo=>bd (PV.inb bn (gd h 0)) λbp=>bd (PV.setCell 3 bn (gd h 0) 2 bo) λbq=>some [(.agg [(gd f 0),bq]),(gd o 1),(gd o 2),(gd o 3)]) (bd (PV.bin .eql (gd o 0) (.I 6)) λbr=>
 PV.ite br (kD (gd o 1) (gd o 2) (gd o 3) (.lst []) (.lst []) (gd f 0) (gd f 1)) (bd (PV.inb (gd f 1) (gd h 0)) λbt=>bd (PV.at_ 3 true (gd f 1) (gd h 0)) λbu=>bd (PV.at_ 3 true (gd f 1) (gd h 0)) λbv=>bd (PV.cell bv 2) λbw=>bd (PV.inb bw (gd n 0)) λbx=>bd (PV.at_ 3 true (gd f 1) (gd h 0)) λbz=>bd (PV.cell bz 2) λca=>bd (PV.at_ 2 true ca (gd n 0)) λcb=>
 bd (PV.whole 2 cb) λcc=>bd (PV.cell cc 0) λcd=>bd (PV.cell cc 1) λce=>lD (gd h 0) (gd o 1) (gd o 2) (gd o 3) cd ce (.lst []) (.lst []) (gd f 0) (gd f 1)))))))))):=bT _ _ _ _ (by kernel_rfl)
theorem pV : kD a b c d e f g=bd (PV.len g) λh=>bd (aD (.I 2) a b c) λi=>bd (PV.bin .add (.I 12) (gd i 0)) λj=>bd (PV.bin .lss h j) λk=>PV.ite k (bd (PV.cat 3 40 true g (.lst [(.agg [(.I 0),(.I 0),(.lst [(.agg [(.I 4),(.I 0)]),(.agg [(.I 25),(.I 0)])])])])) λl=>kD (gd i 1) (gd i 2) (gd i 3) d e f l)
 (some [(.agg [f,g]),(gd i 1),(gd i 2),(gd i 3)]):=bB _ _ _ _ _ _ _ _ (by kernel_rfl)
theorem qL : lD a b c d e f g h i j=bd (PV.inb j a) λk=>bd (PV.at_ 3 true j a) λl=>bd (PV.at_ 3 true j a) λm=>bd (PV.cell m 2) λn=>bd (PV.len n) λo=>bd (aD (.I 2) b c d) λp=>bd (PV.bin .add (.I 120) (gd p 0)) λq=>bd (PV.bin .lss o q) λr=>PV.ite r (bd (PV.inb j a) λs=>bd (PV.at_ 3 true j a) λt=>
 bd (PV.at_ 3 true j a) λu=>bd (PV.cell u 2) λv=>bd (PV.at_ 3 true j a) λw=>bd (PV.cell w 2) λx=>bd (PV.setCell 3 j a 2 .hole) λy=>bd (PV.cat 2 16 true v (.lst [(.agg [e,f])])) λz=>bd (PV.inb y a) λA=>bd (PV.setCell 3 y a 2 z) λB=>lD a (gd p 1) (gd p 2) (gd p 3) e f g h i B) (some [(.agg [i,j]),(gd p 1),(gd p 2),(gd p 3)]):=bB _ _ _ _ _ _ _ _ (by kernel_rfl)
theorem yO : iC a b c=bd (aD (.I 9) a b c) λd=>bd (PV.bin .eql (gd d 0) (.I 0)) λe=>PV.ite e (some [(.agg [(.I 0),(.I 0),(.str (bs []))]),(gd d 1),(gd d 2),(gd d 3)]) (bd (PV.bin .eql (gd d 0) (.I 1)) λf=>PV.ite f (bd (eC (gd d 1) (gd d 2) (gd d 3)) λg=>bd (eW (gd g 0)) λh=>
 bd (PV.whole 3 (hd h)) λi=>bd (PV.cell i 0) λj=>bd (PV.cell i 1) λk=>bd (PV.cell i 2) λl=>some [(.agg [j,k,l]),(gd g 1),(gd g 2),(gd g 3)]) (bd (PV.bin .eql (gd d 0) (.I 2)) λm=>PV.ite m (bd (eC (gd d 1) (gd d 2) (gd d 3)) λn=>bd (eW (gd n 0)) λo=>bd (PV.whole 3 (hd o)) λp=>bd (PV.cell p 0) λq=>bd (PV.cell p 1) λr=>
 bd (PV.cell p 2) λs=>some [(.agg [q,r,s]),(gd n 1),(gd n 2),(gd n 3)]) (bd (PV.bin .eql (gd d 0) (.I 3)) λt=>PV.ite t (bd (eC (gd d 1) (gd d 2) (gd d 3)) λu=>bd (eW (gd u 0)) λv=>bd (PV.whole 3 (hd v)) λw=>bd (PV.cell w 0) λx=>bd (PV.cell w 1) λy=>bd (PV.cell w 2) λz=>some [(.agg [x,y,z]),(gd u 1),(gd u 2),(gd u 3)])
 (bd (PV.bin .eql (gd d 0) (.I 4)) λA=>PV.ite A (bd (aD (.I 2) (gd d 1) (gd d 2) (gd d 3)) λB=>bd (PV.one (gd B 0)) λC=>some [(.agg [(.I 2),C,(.str (bs []))]),(gd B 1),(gd B 2),(gd B 3)]) (bd (PV.bin .eql (gd d 0) (.I 5)) λD=>PV.ite D (bd (aD (.I 4) (gd d 1) (gd d 2) (gd d 3)) λE=>bd (PV.inb (.lst [(.str (bs [])),(.str (bs [97])),(.str (bs [98,99])),(.str (bs [48,49,50,51,52,53,54,55,56,57,48,49,50,51,52,53,54,55,56,57,48,49,50,51,52,53,54,55,56,57,48,49,50,51,52,53,54,55,56,57]))]) (gd E 0)) λF=>
 bd (PV.at_ 1 false (.lst [(.str (bs [])),(.str (bs [97])),(.str (bs [98,99])),(.str (bs [48,49,50,51,52,53,54,55,56,57,48,49,50,51,52,53,54,55,56,57,48,49,50,51,52,53,54,55,56,57,48,49,50,51,52,53,54,55,56,57]))]) (gd E 0)) λG=>bd (PV.one G) λH=>some [(.agg [(.I 3),(.I 0),H]),(gd E 1),(gd E 2),(gd E 3)]) (bd (PV.bin .eql (gd d 0) (.I 6)) λI=>
 PV.ite I (bd (aD (.I 4) (gd d 1) (gd d 2) (gd d 3)) λJ=>bd (PV.one (gd J 0)) λK=>some [(.agg [(.I 4),K,(.str (bs []))]),(gd J 1),(gd J 2),(gd J 3)]) (bd (PV.bin .eql (gd d 0) (.I 7)) λL=>PV.ite L (bd (aD (.I 4) (gd d 1) (gd d 2) (gd d 3)) λM=>bd (PV.one (gd M 0)) λN=>some [(.agg [(.I 5),N,(.str (bs []))]),(gd M 1),(gd M 2),(gd M 3)])
 (bd (aD (.I 8) (gd d 1) (gd d 2) (gd d 3)) λO=>bd (PV.bin .sub (gd O 0) (.I 1)) λP=>bd (aD (.I 4) (gd O 1) (gd O 2) (gd O 3)) λQ=>bd (PV.bin .sub (gd Q 0) (.I 1)) λR=>bd (aD (.I 3) (gd Q 1) (gd Q 2) (gd Q 3)) λS=>bd (PV.inb (.lst [(.str (bs [])),(.str (bs [97])),(.str (bs [34]))]) (gd S 0)) λT=>
 bd (PV.at_ 1 false (.lst [(.str (bs [])),(.str (bs [97])),(.str (bs [34]))]) (gd S 0)) λU=>bd (PV.one P) λV=>bd (PV.one R) λW=>bd (PV.one U) λX=>some [(.agg [V,W,X]),(gd S 1),(gd S 2),(gd S 3)])))))))):=bT _ _ _ _ (by kernel_rfl)
theorem aFJ : aAN a b=bd (PV.whole 2 a) λc=>bd (PV.cell c 0) λd=>bd (PV.cell c 1) λe=>bd (lB (.agg [d,e])) λf=>bd (PV.not (hd f)) λg=>PV.ite g (some [(.I 0),(.I 0),(.I 0),(.I 0),(.I 0),(.str (bs [])),(.I 0),(.bool false),(.lst []),(.lst []),(.lst [])]) (bd (PV.len b) λh=>bd (PV.at_ 3 true e (.I 0)) λi=>
 bd (PV.cell i 0) λj=>bd (PV.bin .neq h j) λk=>PV.ite k (some [(.I 0),(.I 0),(.I 0),(.I 0),(.I 0),(.str (bs [])),(.I 0),(.bool false),(.lst []),(.lst []),(.lst [])]) (mB b (.I 0) d e (.I 0) (.I 0) (.I 0) (.I 0) (.I 0) (.str (bs [])) (.I 0) (.lst []) (.lst []) (.lst []))):=bT _ _ _ _ (by kernel_rfl)
theorem uO : mB a b c d e f g h i j k l m n=bd (PV.len a) λo=>bd (PV.bin .lss b o) λp=>PV.ite p (bd (PV.at_ 3 true a b) λq=>bd (aAO (.agg [c,d]) q (.I 0)) λr=>bd (PV.not (hd r)) λs=>PV.ite s (some [(.I 0),(.I 0),(.I 0),(.I 0),(.I 0),(.str (bs [])),(.I 0),(.bool false),(.lst []),(.lst []),(.lst [])])
 (bd (PV.bin .add b (.I 1)) λt=>mB a t c d e f g h i j k l m n)) (bd (PV.at_ 3 true d (.I 0)) λu=>bd (PV.cell u 1) λv=>bd (PV.zeros 32 (.agg [(.I 0),(.I 0),(.str (bs []))]) v) λw=>bd (PV.bin .leq v v) λx=>PV.ite x (bd (PV.zeros 32 (.agg [(.I 0),(.I 0),(.str (bs []))]) v) λy=>kS a (.I 0) e f g h i j k (.I 0) (.I 0) l m n y (.lst []))
 (none)):=bB _ _ _ _ _ _ _ _ (by kernel_rfl)
theorem tE : kS a b c d e f g h i j k l m n o p=bd (PV.len a) λq=>bd (PV.bin .lss b q) λr=>PV.ite r (bd (PV.at_ 3 true a b) λs=>bd (PV.inb o b) λt=>bd (PV.setAt 3 true o b s) λu=>bd (PV.bin .add b (.I 1)) λv=>kS a v c d e f g h i j k l m n u p) (some [(.I 0),(.I 0),(.I 0),(.I 0),(.I 0),(.str (bs [])),(.I 0),(.bool true),(.lst [(.agg [j,k,o,p])]),(.lst []),(.lst [])]):=bB _ _ _ _ _ _ _ _ (by kernel_rfl)
theorem aFK : aAO a b c=bd (PV.whole 2 a) λd=>bd (PV.cell d 0) λe=>bd (PV.cell d 1) λf=>bd (PV.whole 3 b) λg=>bd (PV.cell g 0) λh=>bd (PV.cell g 1) λi=>bd (PV.cell g 2) λj=>bd (PV.bin .neq h (.I 3)) λk=>PV.ite k (bd (PV.bin .neq j (.str (bs []))) λl=>PV.ite l (some [.bool false]) (bd (PV.bin .eql h (.I 0)) λm=>PV.ite m
 (bd (PV.bin .eql i (.I 0)) λn=>some [n]) (bd (PV.bin .eql h (.I 1)) λo=>PV.ite o (bd (gF i) λp=>some [(hd p)]) (bd (PV.bin .eql h (.I 2)) λq=>PV.ite q (bd (aL i (.I 0) (.I 1)) λr=>some [(hd r)]) (bd (PV.bin .eql h (.I 3)) λs=>PV.ite s (bd (PV.bin .eql i (.I 0)) λt=>PV.ite t (bd (nX j) λu=>
 some [(hd u)]) (some [.bool false])) (bd (PV.bin .eql h (.I 4)) λv=>PV.ite v (bd (PV.bin .geq i (.I 0)) λw=>PV.ite w (bd (PV.bin .lss i c) λx=>some [x]) (some [.bool false])) (bd (PV.bin .eql h (.I 5)) λy=>PV.ite y (bd (PV.len f) λz=>bd (PV.bin .sub z (.I 1)) λA=>bd (aL i (.I 0) A) λB=>some [(hd B)]) (some [.bool false]))))))))
 (bd (PV.bin .eql h (.I 0)) λC=>PV.ite C (bd (PV.bin .eql i (.I 0)) λD=>some [D]) (bd (PV.bin .eql h (.I 1)) λE=>PV.ite E (bd (gF i) λF=>some [(hd F)]) (bd (PV.bin .eql h (.I 2)) λG=>PV.ite G (bd (aL i (.I 0) (.I 1)) λH=>some [(hd H)]) (bd (PV.bin .eql h (.I 3)) λI=>PV.ite I (bd (PV.bin .eql i (.I 0)) λJ=>
 PV.ite J (bd (nX j) λK=>some [(hd K)]) (some [.bool false])) (bd (PV.bin .eql h (.I 4)) λL=>PV.ite L (bd (PV.bin .geq i (.I 0)) λM=>PV.ite M (bd (PV.bin .lss i c) λN=>some [N]) (some [.bool false])) (bd (PV.bin .eql h (.I 5)) λO=>PV.ite O (bd (PV.len f) λP=>bd (PV.bin .sub P (.I 1)) λQ=>bd (aL i (.I 0) Q) λR=>
 some [(hd R)]) (some [.bool false]))))))):=aX _ _ _ (by kernel_rfl)
variable (a b c d e f g h i j : PV)
theorem aEQ : gF a=bd (aL a (.I (-1000000000)) (.I 1000000000)) λb=>some [(hd b)]:=aX _ _ _ (by kernel_rfl)
theorem aA7 : qE a b c=bd (PV.whole 2 a) λd=>bd (PV.cell d 0) λe=>bd (PV.cell d 1) λf=>bd (PV.whole 10 c) λg=>bd (PV.cell g 0) λh=>bd (PV.cell g 1) λi=>bd (PV.cell g 2) λj=>bd (PV.cell g 3) λk=>bd (PV.cell g 4) λl=>bd (PV.cell g 5) λm=>bd (PV.cell g 6) λn=>bd (PV.cell g 7) λo=>bd (PV.cell g 8) λp=>bd (PV.cell g 9) λq=>
 bd (yH (.agg [e,f]) (.agg [h,i,j,k,l,m,n,o,p,q])) λr=>bd (PV.comp (hd r) 0) λs=>bd (PV.comp (hd r) 1) λt=>bd (PV.whole 4 s) λu=>bd (PV.cell u 0) λv=>bd (PV.cell u 1) λw=>bd (PV.cell u 2) λx=>bd (PV.cell u 3) λy=>bd (PV.not t) λz=>PV.ite z (bd (PV.cat 4 32 true (.lst []) b) λA=>some [A]) (bd (yI b v w) λB=>bd (PV.cell (hd B) 2) λC=>
 bd (PV.bin .eql C (.I 0)) λD=>PV.ite D (bd (PV.len b) λE=>bd (PV.bin .eql E (.I 150)) λF=>PV.ite F (bd (PV.cat 4 32 true (.lst []) b) λG=>some [G]) (bd (fJ (.agg [e,f]) b (.agg [v,w,x,y])) λH=>PV.guardOwn (.own 4 32 true []) (gd H 0) (some [(gd H 0)]))) (bd (fJ (.agg [e,f]) b (.agg [v,w,x,y])) λI=>PV.guardOwn (.own 4 32 true []) (gd I 0) (
 some [(gd I 0)]))):=bT _ _ _ _ (by kernel_rfl)
theorem aER : yH a b=bd (PV.whole 2 a) λc=>bd (PV.cell c 0) λd=>bd (PV.cell c 1) λe=>bd (PV.whole 10 b) λf=>bd (PV.cell f 0) λg=>bd (PV.cell f 1) λh=>bd (PV.cell f 2) λi=>bd (PV.cell f 3) λj=>bd (PV.cell f 4) λk=>bd (PV.cell f 5) λl=>bd (PV.cell f 6) λm=>bd (PV.cell f 7) λn=>bd (PV.cell f 8) λo=>bd (PV.cell f 9) λp=>
 bd (PV.bin .neq k (.I 0)) λq=>PV.ite q (some [(.tup [(.agg [(.I 0),(.I 0),(.I 0),(.I 0)]),(.bool false)])]) (bd (PV.len g) λr=>bd (PV.bin .sub r (.I 1)) λs=>bd (PV.at_ 4 true g s) λt=>bd (PV.whole 4 t) λu=>bd (PV.cell u 0) λv=>bd (PV.cell u 1) λw=>bd (PV.cell u 2) λx=>bd (PV.cell u 3) λy=>bd (PV.at_ 3 true e v) λz=>
 bd (PV.cell z 2) λA=>bd (PV.at_ 2 true A w) λB=>bd (PV.whole 2 B) λC=>bd (PV.cell C 0) λD=>bd (PV.cell C 1) λE=>bd (PV.one v) λF=>bd (PV.one w) λG=>bd (PV.len y) λH=>bd (mZ D) λI=>bd (PV.not (hd I)) λJ=>PV.ite J (some [(.tup [(.agg [(.I 0),(.I 0),(.I 0),(.I 0)]),(.bool false)])]) (bd (PV.bin .eql D (.I 23)) λK=>
 PV.ite K (bd (PV.bin .sub H (.I 1)) λL=>bd (PV.bin .sub L E) λM=>bd (PV.at_ 3 true y M) λN=>bd (PV.whole 3 N) λO=>bd (PV.cell O 0) λP=>bd (PV.cell O 1) λQ=>bd (PV.cell O 2) λR=>bd (PV.bin .eql P (.I 5)) λS=>PV.ite S (bd (PV.one Q) λT=>some [(.tup [(.agg [F,G,(.I 1),T]),(.bool true)])]) (some [(.tup [(.agg [F,G,(.I 2),(.I 0)]),(.bool true)])]))
 (bd (PV.bin .sub H (.I 1)) λU=>bd (PV.at_ 3 true y U) λV=>bd (PV.cell V 0) λW=>bd (PV.bin .eql W (.I 1)) λX=>PV.ite X (bd (PV.bin .sub H (.I 2)) λY=>bd (PV.at_ 3 true y Y) λZ=>bd (PV.cell Z 0) λaa=>bd (PV.bin .eql aa (.I 1)) λab=>PV.ite ab (some [(.tup [(.agg [F,G,(.I 1),(.I 0)]),(.bool true)])]) (some [(.tup [(.agg [F,G,(.I 2),(.I 0)]),(.bool true)])]))
 (some [(.tup [(.agg [F,G,(.I 2),(.I 0)]),(.bool true)])])))):=aX _ _ _ (by kernel_rfl)
theorem aES : yI a b c=kT a b c (.I 0) (.I 0) (.I 0) (.I 0) (.I 0):=aX _ _ _ (by kernel_rfl)
theorem tF : kT a b c d e f g h=bd (PV.len a) λi=>bd (PV.bin .lss d i) λj=>PV.ite j (bd (PV.at_ 4 true a d) λk=>bd (PV.cell k 0) λl=>bd (PV.bin .eql l b) λm=>PV.ite m (bd (PV.at_ 4 true a d) λn=>bd (PV.cell n 1) λo=>bd (PV.bin .eql o c) λp=>PV.ite p (bd (PV.at_ 4 true a d) λq=>bd (PV.whole 4 q) λr=>bd (PV.cell r 0) λs=>
 bd (PV.cell r 1) λt=>bd (PV.cell r 2) λu=>bd (PV.cell r 3) λv=>some [(.agg [s,t,u,v])]) (bd (PV.bin .add d (.I 1)) λw=>kT a b c w e f g h)) (bd (PV.bin .add d (.I 1)) λx=>kT a b c x e f g h)) (some [(.agg [(.I 0),(.I 0),(.I 0),(.I 0)])]):=bB _ _ _ _ _ _ _ _ (by kernel_rfl)
theorem aDB : vN a b=bd (PV.whole 2 a) λc=>bd (PV.cell c 0) λd=>bd (PV.cell c 1) λe=>bd (PV.whole 10 b) λf=>bd (PV.cell f 0) λg=>bd (PV.cell f 1) λh=>bd (PV.cell f 2) λi=>bd (PV.cell f 3) λj=>bd (PV.cell f 4) λk=>bd (PV.cell f 5) λl=>bd (PV.cell f 6) λm=>bd (PV.cell f 7) λn=>bd (PV.cell f 8) λo=>bd (PV.cell f 9) λp=>
 bd (PV.bin .neq k (.I 0)) λq=>PV.ite q (bd (jM (.agg [g,h,i,j,k,l,m,n,o,p])) λr=>PV.guardFlat (gd r 0) (PV.guardFlat (gd r 1) (PV.guardFlat (gd r 2) (PV.guardFlat (gd r 3) (PV.guardFlat (gd r 4) (PV.guardFlat (gd r 5) (PV.guardFlat (gd r 6) (PV.guardOwn (.own 4 64 true [.leaf,.leaf,(.own 3 32 true []),(.own 3 32 true [])]) (gd r 7) (PV.guardOwn (.own 1 24 true [(.own 3 32 true [])]) (gd r 8) (
 PV.guardOwn (.own 1 16 false []) (gd r 9) (some [(gd r 0),(gd r 1),(gd r 2),(gd r 3),(gd r 4),(gd r 5),(gd r 6),(gd r 7),(gd r 8),(gd r 9)]))))))))))) (bd (PV.bin .eql p (.I 50000)) λs=>PV.ite s (bd (jM (.agg [g,h,i,j,k,l,m,n,o,p])) λt=>PV.guardFlat (gd t 0) (PV.guardFlat (gd t 1) (PV.guardFlat (gd t 2) (PV.guardFlat (gd t 3) (PV.guardFlat (gd t 4) (
 PV.guardFlat (gd t 5) (PV.guardFlat (gd t 6) (PV.guardOwn (.own 4 64 true [.leaf,.leaf,(.own 3 32 true []),(.own 3 32 true [])]) (gd t 7) (PV.guardOwn (.own 1 24 true [(.own 3 32 true [])]) (gd t 8) (PV.guardOwn (.own 1 16 false []) (gd t 9) (some [(gd t 0),(gd t 1),(gd t 2),(gd t 3),(gd t 4),(gd t 5),(gd t 6),(gd t 7),(gd t 8),(gd t 9)]))))))))))) (bd (jM (.agg [g,h,i,j,k,l,m,n,o,p])) λu=>
 PV.guardFlat (gd u 0) (PV.guardFlat (gd u 1) (PV.guardFlat (gd u 2) (PV.guardFlat (gd u 3) (PV.guardFlat (gd u 4) (PV.guardFlat (gd u 5) (PV.guardFlat (gd u 6) (PV.guardOwn (.own 4 64 true [.leaf,.leaf,(.own 3 32 true []),(.own 3 32 true [])]) (gd u 7) (PV.guardOwn (.own 1 24 true [(.own 3 32 true [])]) (gd u 8) (PV.guardOwn (.own 1 16 false []) (gd u 9) (bd (dR d e (gd u 0) (gd u 1) (gd u 2) (gd u 3) (gd u 4) (gd u 5) (gd u 6) (.I 0) (gd u 7) (gd u 8) (gd u 9)) λv=>
 bd (PV.at_ 4 true (gd v 11) (gd v 0)) λw=>bd (PV.cell w 0) λx=>bd (PV.at_ 3 true e x) λy=>bd (PV.cell y 2) λz=>bd (PV.at_ 4 true (gd v 11) (gd v 0)) λA=>bd (PV.cell A 1) λB=>bd (PV.at_ 2 true z B) λC=>bd (PV.whole 2 C) λD=>bd (PV.cell D 0) λE=>bd (PV.cell D 1) λF=>bd (PV.at_ 4 true (gd v 11) (gd v 0)) λG=>bd (PV.cell G 1) λH=>bd (PV.bin .add H (.I 1)) λI=>
 bd (PV.one I) λJ=>bd (PV.setCell 4 (gd v 11) (gd v 0) 1 J) λK=>bd (rT E F (gd v 1) (gd v 2) (gd v 3) (gd v 4) (gd v 5) (gd v 6) (gd v 7) (gd v 8) (gd v 9) (gd v 10) K (gd v 12) (gd v 13)) λL=>bd (PV.bin .neq (gd L 9) (.I 0)) λM=>PV.ite M (bd (jM (.agg [g,h,i,j,k,l,m,n,o,p])) λN=>PV.guardFlat (gd N 0) (PV.guardFlat (gd N 1) (PV.guardFlat (gd N 2) (
 PV.guardFlat (gd N 3) (PV.guardFlat (gd N 4) (PV.guardFlat (gd N 5) (PV.guardFlat (gd N 6) (PV.guardOwn (.own 4 64 true [.leaf,.leaf,(.own 3 32 true []),(.own 3 32 true [])]) (gd N 7) (PV.guardOwn (.own 1 24 true [(.own 3 32 true [])]) (gd N 8) (PV.guardOwn (.own 1 16 false []) (gd N 9) (bd (PV.one (gd L 9)) λO=>bd (PV.bin .add (gd N 6) (.I 1)) λP=>bd (PV.one P) λQ=>
 some [(gd N 0),(.I 2),O,(gd N 3),(gd N 4),(gd N 5),Q,(gd N 7),(gd N 8),(gd N 9)]))))))))))) (bd (PV.bin .add (gd L 8) (.I 1)) λR=>bd (PV.one R) λS=>some [(gd L 2),(gd L 3),(gd L 4),(gd L 5),(gd L 6),(gd L 7),S,(gd L 10),(gd L 11),(gd L 12)]))))))))))))):=bT _ _ _ _ (by kernel_rfl)
theorem aAb : fE a b c d e f g h i j=bd (aD b g h i) λk=>bd (PV.bin .add (.I 1) (gd k 0)) λl=>eT a l c d e f (gd k 1) (gd k 2) (gd k 3) j:=bT _ _ _ _ (by kernel_rfl)
theorem vR : eT a b c d e f g h i j=bd (PV.bin .gtr b (.I 0)) λk=>PV.ite k (bd (PV.len j) λl=>bd (PV.bin .lss l (.I 70)) λm=>PV.ite m (bd (jA a c d e f g h i j) λn=>bd (PV.bin .sub b (.I 1)) λo=>eT a o (gd n 0) (gd n 1) (gd n 2) (gd n 3) (gd n 4) (gd n 5) (gd n 6) (gd n 7)) (some [c,d,e,f,g,h,i,j]))
 (some [c,d,e,f,g,h,i,j]):=bB _ _ _ _ _ _ _ _ (by kernel_rfl)
theorem aAc : oY a b c d=bd (PV.len b) λe=>bd (PV.bin .quo e (.I 12)) λf=>bd (PV.bin .add (.I 1) f) λg=>bd (PV.bin .gtr g a) λh=>PV.ite h (bd (PV.bin .add a (.I 1)) λi=>bd (aD i b c d) λj=>some [(gd j 0),(gd j 1),(gd j 2),(gd j 3)]) (bd (PV.bin .add g (.I 1)) λk=>bd (aD k b c d) λl=>
 some [(gd l 0),(gd l 1),(gd l 2),(gd l 3)]):=bT _ _ _ _ (by kernel_rfl)
theorem pW : aM a b c d e f g h i=bd (PV.bin .leq a (.I 0)) λj=>PV.ite j (fK b c d e f g h i) (bd (PV.len i) λk=>bd (PV.bin .gtr k (.I 90)) λl=>PV.ite l (fK b c d e f g h i) (bd (aD (.I 16) f g h) λm=>bd (PV.bin .eql (gd m 0) (.I 0)) λn=>PV.ite n (bd (aD (.I 8) (gd m 1) (gd m 2) (gd m 3)) λo=>
 bd (PV.inb (.lst [(.I 0),(.I 1),(.I 2),(.I 10),(.I 31623),(.I 1000000000),(.I (-1)),(.I 7)]) (gd o 0)) λp=>bd (PV.at_ 1 false (.lst [(.I 0),(.I 1),(.I 2),(.I 10),(.I 31623),(.I 1000000000),(.I (-1)),(.I 7)]) (gd o 0)) λq=>bd (aH (.I 1) q b c d e (gd o 1) (gd o 2) (gd o 3) i) λr=>
 some [(gd r 0),(gd r 1),(gd r 2),(gd r 3),(gd r 4),(gd r 5),(gd r 6),(gd r 7)]) (bd (PV.bin .eql (gd m 0) (.I 1)) λs=>PV.ite s (bd (aD (.I 2) (gd m 1) (gd m 2) (gd m 3)) λt=>bd (aH (.I 2) (gd t 0) b c d e (gd t 1) (gd t 2) (gd t 3) i) λu=>some [(gd u 0),(gd u 1),(gd u 2),(gd u 3),(gd u 4),(gd u 5),(gd u 6),(gd u 7)]) (bd (PV.bin .eql (gd m 0) (.I 2)) λv=>
 PV.ite v (bd (PV.bin .sub a (.I 1)) λw=>bd (aM w b c d e (gd m 1) (gd m 2) (gd m 3) i) λx=>bd (PV.bin .sub a (.I 1)) λy=>bd (aM y (gd x 0) (gd x 1) (gd x 2) (gd x 3) (gd x 4) (gd x 5) (gd x 6) (gd x 7)) λz=>bd (aD (.I 6) (gd z 4) (gd z 5) (gd z 6)) λA=>bd (PV.inb (.lst [(.I 11),(.I 11),(.I 12),(.I 13),(.I 14),(.I 15)]) (gd A 0)) λB=>
 bd (PV.at_ 1 false (.lst [(.I 11),(.I 11),(.I 12),(.I 13),(.I 14),(.I 15)]) (gd A 0)) λC=>bd (aH C (.I 0) (gd z 0) (gd z 1) (gd z 2) (gd z 3) (gd A 1) (gd A 2) (gd A 3) (gd z 7)) λD=>some [(gd D 0),(gd D 1),(gd D 2),(gd D 3),(gd D 4),(gd D 5),(gd D 6),(gd D 7)]) (bd (PV.bin .eql (gd m 0) (.I 3)) λE=>PV.ite E
 (bd (PV.bin .sub a (.I 1)) λF=>bd (aM F b c d e (gd m 1) (gd m 2) (gd m 3) i) λG=>bd (PV.bin .sub a (.I 1)) λH=>bd (aM H (gd G 0) (gd G 1) (gd G 2) (gd G 3) (gd G 4) (gd G 5) (gd G 6) (gd G 7)) λI=>bd (aD (.I 6) (gd I 4) (gd I 5) (gd I 6)) λJ=>bd (PV.inb (.lst [(.I 11),(.I 11),(.I 12),(.I 13),(.I 14),(.I 15)]) (gd J 0)) λK=>
 bd (PV.at_ 1 false (.lst [(.I 11),(.I 11),(.I 12),(.I 13),(.I 14),(.I 15)]) (gd J 0)) λL=>bd (aH L (.I 0) (gd I 0) (gd I 1) (gd I 2) (gd I 3) (gd J 1) (gd J 2) (gd J 3) (gd I 7)) λM=>some [(gd M 0),(gd M 1),(gd M 2),(gd M 3),(gd M 4),(gd M 5),(gd M 6),(gd M 7)]) (bd (PV.bin .eql (gd m 0) (.I 4)) λN=>PV.ite N
 (bd (PV.bin .sub a (.I 1)) λO=>bd (aM O b c d e (gd m 1) (gd m 2) (gd m 3) i) λP=>bd (PV.bin .sub a (.I 1)) λQ=>bd (aM Q (gd P 0) (gd P 1) (gd P 2) (gd P 3) (gd P 4) (gd P 5) (gd P 6) (gd P 7)) λR=>bd (aD (.I 6) (gd R 4) (gd R 5) (gd R 6)) λS=>bd (PV.inb (.lst [(.I 11),(.I 11),(.I 12),(.I 13),(.I 14),(.I 15)]) (gd S 0)) λT=>
 bd (PV.at_ 1 false (.lst [(.I 11),(.I 11),(.I 12),(.I 13),(.I 14),(.I 15)]) (gd S 0)) λU=>bd (aH U (.I 0) (gd R 0) (gd R 1) (gd R 2) (gd R 3) (gd S 1) (gd S 2) (gd S 3) (gd R 7)) λV=>some [(gd V 0),(gd V 1),(gd V 2),(gd V 3),(gd V 4),(gd V 5),(gd V 6),(gd V 7)]) (bd (PV.bin .eql (gd m 0) (.I 5)) λW=>PV.ite W
 (bd (PV.bin .sub a (.I 1)) λX=>bd (aM X b c d e (gd m 1) (gd m 2) (gd m 3) i) λY=>bd (PV.bin .sub a (.I 1)) λZ=>bd (aM Z (gd Y 0) (gd Y 1) (gd Y 2) (gd Y 3) (gd Y 4) (gd Y 5) (gd Y 6) (gd Y 7)) λaa=>bd (aD (.I 6) (gd aa 4) (gd aa 5) (gd aa 6)) λab=>bd (PV.inb (.lst [(.I 11),(.I 11),(.I 12),(.I 13),(.I 14),(.I 15)]) (gd ab 0)) λac=>
 bd (PV.at_ 1 false (.lst [(.I 11),(.I 11),(.I 12),(.I 13),(.I 14),(.I 15)]) (gd ab 0)) λad=>bd (aH ad (.I 0) (gd aa 0) (gd aa 1) (gd aa 2) (gd aa 3) (gd ab 1) (gd ab 2) (gd ab 3) (gd aa 7)) λae=>some [(gd ae 0),(gd ae 1),(gd ae 2),(gd ae 3),(gd ae 4),(gd ae 5),(gd ae 6),(gd ae 7)]) (bd (PV.bin .eql (gd m 0) (.I 6)) λaf=>
 PV.ite af (bd (PV.bin .sub a (.I 1)) λag=>bd (aM ag b c d e (gd m 1) (gd m 2) (gd m 3) i) λah=>bd (PV.bin .sub a (.I 1)) λai=>bd (aM ai (gd ah 0) (gd ah 1) (gd ah 2) (gd ah 3) (gd ah 4) (gd ah 5) (gd ah 6) (gd ah 7)) λaj=>bd (aD (.I 6) (gd aj 4) (gd aj 5) (gd aj 6)) λak=>bd (PV.inb (.lst [(.I 11),(.I 11),(.I 12),(.I 13),(.I 14),(.I 15)]) (gd ak 0)) λal=>
 bd (PV.at_ 1 false (.lst [(.I 11),(.I 11),(.I 12),(.I 13),(.I 14),(.I 15)]) (gd ak 0)) λam=>bd (aH am (.I 0) (gd aj 0) (gd aj 1) (gd aj 2) (gd aj 3) (gd ak 1) (gd ak 2) (gd ak 3) (gd aj 7)) λan=>some [(gd an 0),(gd an 1),(gd an 2),(gd an 3),(gd an 4),(gd an 5),(gd an 6),(gd an 7)]) (bd (PV.bin .eql (gd m 0) (.I 7)) λao=>
 PV.ite ao (bd (PV.bin .sub a (.I 1)) λap=>bd (aM ap b c d e (gd m 1) (gd m 2) (gd m 3) i) λaq=>bd (aH (.I 16) (.I 0) (gd aq 0) (gd aq 1) (gd aq 2) (gd aq 3) (gd aq 4) (gd aq 5) (gd aq 6) (gd aq 7)) λar=>some [(gd ar 0),(gd ar 1),(gd ar 2),(gd ar 3),(gd ar 4),(gd ar 5),(gd ar 6),(gd ar 7)]) (bd (PV.bin .eql (gd m 0) (.I 8)) λau=>
 PV.ite au (bd (gO a b c d e (gd m 1) (gd m 2) (gd m 3) i) λav=>some [(gd av 0),(gd av 1),(gd av 2),(gd av 3),(gd av 4),(gd av 5),(gd av 6),(gd av 7)]) (bd (PV.bin .eql (gd m 0) (.I 9)) λaw=>PV.ite aw (bd (gO a b c d e (gd m 1) (gd m 2) (gd m 3) i) λax=>some [(gd ax 0),(gd ax 1),(gd ax 2),(gd ax 3),(gd ax 4),(gd ax 5),(gd ax 6),(gd ax 7)])
 (bd (PV.bin .eql (gd m 0) (.I 10)) λay=>PV.ite ay (bd (PV.bin .sub a (.I 1)) λaz=>bd (aM az b c d e (gd m 1) (gd m 2) (gd m 3) i) λba=>bd (aD (.I 2) (gd ba 4) (gd ba 5) (gd ba 6)) λbb=>bd (aH (.I 21) (gd bb 0) (gd ba 0) (gd ba 1) (gd ba 2) (gd ba 3) (gd bb 1) (gd bb 2) (gd bb 3) (gd ba 7)) λbc=>some [(gd bc 0),(gd bc 1),(gd bc 2),(gd bc 3),(gd bc 4),(gd bc 5),(gd bc 6),(gd bc 7)])
 (bd (PV.bin .eql (gd m 0) (.I 11)) λbe=>PV.ite be (bd (PV.len b) λbf=>bd (PV.bin .gtr bf (.I 0)) λbg=>PV.ite bg (bd (PV.len b) λbh=>bd (aD bh (gd m 1) (gd m 2) (gd m 3)) λbi=>cK a (gd bi 0) (.I 0) b c d e (gd bi 1) (gd bi 2) (gd bi 3) i) (bd (PV.bin .sub a (.I 1)) λbj=>bd (aM bj b c d e (gd m 1) (gd m 2) (gd m 3) i) λbk=>
 some [(gd bk 0),(gd bk 1),(gd bk 2),(gd bk 3),(gd bk 4),(gd bk 5),(gd bk 6),(gd bk 7)])) (bd (PV.bin .eql (gd m 0) (.I 12)) λbl=>PV.ite bl (bd (PV.len b) λbm=>bd (PV.bin .gtr bm (.I 0)) λbn=>PV.ite bn (bd (PV.len b) λbo=>bd (aD bo (gd m 1) (gd m 2) (gd m 3)) λbp=>cK a (gd bp 0) (.I 0) b c d e (gd bp 1) (gd bp 2) (gd bp 3) i)
 (bd (PV.bin .sub a (.I 1)) λbq=>bd (aM bq b c d e (gd m 1) (gd m 2) (gd m 3) i) λbr=>some [(gd br 0),(gd br 1),(gd br 2),(gd br 3),(gd br 4),(gd br 5),(gd br 6),(gd br 7)])) (bd (PV.bin .eql (gd m 0) (.I 13)) λbs=>PV.ite bs (bd (PV.len b) λbt=>bd (PV.bin .gtr bt (.I 0)) λbu=>PV.ite bu (bd (PV.len b) λbv=>bd (aD bv (gd m 1) (gd m 2) (gd m 3)) λbw=>
 bd (jN (gd bw 0) b c d e (gd bw 1) (gd bw 2) (gd bw 3) i) λbx=>bd (aH (.I 5) (gd bx 0) (gd bx 1) (gd bx 2) (gd bx 3) (gd bx 4) (gd bx 5) (gd bx 6) (gd bx 7) (gd bx 8)) λbz=>bd (bY (.I 6) (gd bz 4) (gd bz 5) (gd bz 6)) λca=>PV.ite (gd ca 0) (bd (PV.len (gd bz 7)) λcb=>bd (PV.bin .sub cb (.I 1)) λcc=>bd (PV.cut 2 true (gd bz 7) (.I 0) cc) λcd=>
 bd (PV.cut 2 true (gd bz 7) (.I 0) cc) λce=>bd (aD (gd bz 2) (gd ca 1) (gd ca 2) (gd ca 3)) λcf=>bd (aH (.I 6) (gd cf 0) (gd bz 0) (gd bz 1) (gd bz 2) (gd bz 3) (gd cf 1) (gd cf 2) (gd cf 3) ce) λcg=>eZ a (gd bw 0) (gd cg 0) (gd cg 1) (gd cg 2) (gd cg 3) (gd cg 4) (gd cg 5) (gd cg 6) (gd cg 7)) (eZ a (gd bw 0) (gd bz 0) (gd bz 1) (gd bz 2) (gd bz 3) (gd ca 1) (gd ca 2) (gd ca 3) (gd bz 7)))
 (bd (PV.bin .sub a (.I 1)) λch=>bd (aM ch b c d e (gd m 1) (gd m 2) (gd m 3) i) λci=>some [(gd ci 0),(gd ci 1),(gd ci 2),(gd ci 3),(gd ci 4),(gd ci 5),(gd ci 6),(gd ci 7)])) (bd (PV.bin .eql (gd m 0) (.I 14)) λcj=>PV.ite cj (bd (PV.bin .sub a (.I 1)) λck=>bd (aM ck b c d e (gd m 1) (gd m 2) (gd m 3) i) λcl=>bd (aH (.I 8) (.I 0) (gd cl 0) (gd cl 1) (gd cl 2) (gd cl 3) (gd cl 4) (gd cl 5) (gd cl 6) (gd cl 7)) λcm=>
 bd (aD (.I 3) (gd cm 4) (gd cm 5) (gd cm 6)) λcn=>bd (PV.inb (.lst [(.I 11),(.I 15),(.I 13)]) (gd cn 0)) λco=>bd (PV.at_ 1 false (.lst [(.I 11),(.I 15),(.I 13)]) (gd cn 0)) λcp=>bd (aH cp (.I 0) (gd cm 0) (gd cm 1) (gd cm 2) (gd cm 3) (gd cn 1) (gd cn 2) (gd cn 3) (gd cm 7)) λcq=>some [(gd cq 0),(gd cq 1),(gd cq 2),(gd cq 3),(gd cq 4),(gd cq 5),(gd cq 6),(gd cq 7)])
 (bd (aD d (gd m 1) (gd m 2) (gd m 3)) λcr=>bd (aH (.I 6) (gd cr 0) b c d e (gd cr 1) (gd cr 2) (gd cr 3) i) λcs=>some [(gd cs 0),(gd cs 1),(gd cs 2),(gd cs 3),(gd cs 4),(gd cs 5),(gd cs 6),(gd cs 7)]))))))))))))))))):=bT _ _ _ _ (by kernel_rfl)
variable (a b c d e f g h i j k l m n o p q r s t u v : PV)
theorem uP : fK a b c d e f g h=bd (aD (.I 5) e f g) λi=>bd (PV.bin .eql (gd i 0) (.I 0)) λj=>PV.ite j (bd (aD (.I 9) (gd i 1) (gd i 2) (gd i 3)) λk=>bd (PV.bin .sub (gd k 0) (.I 2)) λl=>bd (aH (.I 1) l a b c d (gd k 1) (gd k 2) (gd k 3) h) λm=>some [(gd m 0),(gd m 1),(gd m 2),(gd m 3),(gd m 4),(gd m 5),(gd m 6),(gd m 7)])
 (bd (PV.bin .eql (gd i 0) (.I 1)) λn=>PV.ite n (bd (PV.bin .gtr b (.I 0)) λo=>PV.ite o (bd (aD b (gd i 1) (gd i 2) (gd i 3)) λp=>bd (aH (.I 3) (gd p 0) a b c d (gd p 1) (gd p 2) (gd p 3) h) λq=>some [(gd q 0),(gd q 1),(gd q 2),(gd q 3),(gd q 4),(gd q 5),(gd q 6),(gd q 7)]) (bd (aH (.I 4) (.I 0) a b c d (gd i 1) (gd i 2) (gd i 3) h) λr=>
 some [(gd r 0),(gd r 1),(gd r 2),(gd r 3),(gd r 4),(gd r 5),(gd r 6),(gd r 7)])) (bd (aD c (gd i 1) (gd i 2) (gd i 3)) λs=>bd (aH (.I 6) (gd s 0) a b c d (gd s 1) (gd s 2) (gd s 3) h) λt=>some [(gd t 0),(gd t 1),(gd t 2),(gd t 3),(gd t 4),(gd t 5),(gd t 6),(gd t 7)])):=bB _ _ _ _ _ _ _ _ (by kernel_rfl)
theorem tX : cK a b c d e f g h i j k=bd (PV.at_ 3 true d b) λl=>bd (PV.cell l 0) λm=>bd (PV.bin .lss c m) λn=>PV.ite n (bd (PV.bin .sub a (.I 1)) λo=>bd (aM o d e f g h i j k) λp=>bd (PV.bin .add c (.I 1)) λq=>cK a b q (gd p 0) (gd p 1) (gd p 2) (gd p 3) (gd p 4) (gd p 5) (gd p 6) (gd p 7))
 (bd (jN b d e f g h i j k) λr=>bd (aH (.I 24) (gd r 0) (gd r 1) (gd r 2) (gd r 3) (gd r 4) (gd r 5) (gd r 6) (gd r 7) (gd r 8)) λs=>some [(gd s 0),(gd s 1),(gd s 2),(gd s 3),(gd s 4),(gd s 5),(gd s 6),(gd s 7)]):=bB _ _ _ _ _ _ _ _ (by kernel_rfl)
theorem tY : eZ a b c d e f g h i j=dU a b (.I 0) c d e f g h i j:=bB _ _ _ _ _ _ _ _ (by kernel_rfl)
theorem tZ : dU a b c d e f g h i j k=bd (PV.at_ 3 true d b) λl=>bd (PV.cell l 0) λm=>bd (PV.bin .lss c m) λn=>PV.ite n (bd (PV.bin .sub a (.I 1)) λo=>bd (aM o d e f g h i j k) λp=>bd (PV.bin .add c (.I 1)) λq=>dU a b q (gd p 0) (gd p 1) (gd p 2) (gd p 3) (gd p 4) (gd p 5) (gd p 6) (gd p 7))
 (bd (PV.at_ 3 true d b) λr=>bd (PV.cell r 0) λs=>bd (aH (.I 23) s d e f g h i j k) λt=>some [(gd t 0),(gd t 1),(gd t 2),(gd t 3),(gd t 4),(gd t 5),(gd t 6),(gd t 7)]):=bB _ _ _ _ _ _ _ _ (by kernel_rfl)
theorem aA8 : aH a b c d e f g h i j=bd (PV.one a) λk=>bd (PV.one b) λl=>bd (PV.cat 2 16 true j (.lst [(.agg [k,l])])) λm=>some [c,d,e,f,g,h,i,m]:=bT _ _ _ _ (by kernel_rfl)
theorem wS : nB a=bd (PV.whole 2 a) λb=>bd (PV.cell b 0) λc=>bd (PV.cell b 1) λd=>bd (PV.cat 1 16 false (.lst []) c) λe=>gT (.I 0) c d (.lst []) (.lst []) e (.lst []):=bT _ _ _ _ (by kernel_rfl)
theorem mG : gT a b c d e f g=bd (PV.len c) λh=>bd (PV.bin .lss a h) λi=>PV.ite i (bd (PV.at_ 3 true c a) λj=>bd (PV.whole 3 j) λk=>bd (PV.cell k 0) λl=>bd (PV.cell k 1) λm=>bd (PV.cell k 2) λn=>bd (PV.cat 2 16 true (.lst []) n) λo=>bd (PV.one l) λp=>bd (PV.one m) λq=>bd (PV.cat 3 40 true g (.lst [(.agg [p,q,o])])) λr=>
 bd (PV.bin .add a (.I 1)) λs=>gT s b c d e f r) (some [f,g]):=bB _ _ _ _ _ _ _ _ (by kernel_rfl)
theorem wU : eC a b c=bd (aD (.I 9) a b c) λd=>bd (PV.bin .eql (gd d 0) (.I 0)) λe=>PV.ite e (bd (aD (.I 256) (gd d 1) (gd d 2) (gd d 3)) λf=>bd (PV.bin .sub (gd f 0) (.I 128)) λg=>some [g,(gd f 1),(gd f 2),(gd f 3)]) (bd (PV.bin .eql (gd d 0) (.I 1)) λh=>PV.ite h (bd (aD (.I 8) (gd d 1) (gd d 2) (gd d 3)) λi=>
 bd (PV.inb (.lst [(.I 1000000000),(.I (-1000000000)),(.I 1000000001),(.I (-1000000001)),(.I 9223372036854775807),(.I (-9223372036854775808)),(.I 4611686018427387904),(.I 31623)]) (gd i 0)) λj=>bd (PV.at_ 1 false (.lst [(.I 1000000000),(.I (-1000000000)),(.I 1000000001),(.I (-1000000001)),(.I 9223372036854775807),(.I (-9223372036854775808)),(.I 4611686018427387904),(.I 31623)]) (gd i 0)) λk=>
 some [k,(gd i 1),(gd i 2),(gd i 3)]) (bd (aD (.I 12) (gd d 1) (gd d 2) (gd d 3)) λl=>bd (PV.bin .sub (gd l 0) (.I 3)) λm=>some [m,(gd l 1),(gd l 2),(gd l 3)])):=bT _ _ _ _ (by kernel_rfl)
theorem aDC : jM a=bd (PV.whole 10 a) λb=>bd (PV.cell b 0) λc=>bd (PV.cell b 1) λd=>bd (PV.cell b 2) λe=>bd (PV.cell b 3) λf=>bd (PV.cell b 4) λg=>bd (PV.cell b 5) λh=>bd (PV.cell b 6) λi=>bd (PV.cell b 7) λj=>bd (PV.cell b 8) λk=>bd (PV.cell b 9) λl=>mU (.I 0) c d e f g h i j k l (.I 0) (.I 0) (.I 0) (.I 0) (.I 0) (.str (bs [])) (.I 0) (.lst []) (.lst []) (.lst []) (.lst []):=bT _ _ _ _ (by kernel_rfl)
theorem sC : mU a b c d e f g h i j k l m n o p q r s t u v=bd (PV.len b) λw=>bd (PV.bin .lss a w) λx=>PV.ite x (bd (PV.at_ 4 true b a) λy=>bd (oB y) λz=>PV.guardFlat (gd z 0) (PV.guardFlat (gd z 1) (PV.guardOwn (.own 3 32 true []) (gd z 2) (PV.guardOwn (.own 3 32 true []) (gd z 3) (bd (PV.cat 4 64 true v (.lst [(.agg [(gd z 0),(gd z 1),(gd z 2),(gd z 3)])])) λA=>
 bd (PV.bin .add a (.I 1)) λB=>mU B b c d e f g h i j k l m n o p q r s t u A))))) (bd (oZ c) λC=>PV.guardOwn (.own 1 24 true [(.own 3 32 true [])]) (gd C 0) (bd (PV.cat 1 16 false (.lst []) e) λD=>some [d,f,g,h,i,j,k,v,(gd C 0),D])):=bB _ _ _ _ _ _ _ _ (by kernel_rfl)
theorem yP : dR a b c d e f g h i j k l m=bd (PV.len k) λn=>bd (PV.bin .sub n (.I 1)) λo=>bd (PV.inb k o) λp=>some [o,a,b,c,d,e,f,g,h,i,j,k,l,m]:=bT _ _ _ _ (by kernel_rfl)
theorem aBM : rT a b c d e f g h i j k l m n o=bd (dR c d e f g h i j k l m n o) λp=>bd (PV.bin .eql a (.I 1)) λq=>PV.ite q (bd (eW b) λr=>bd (gH (hd r) (gd p 1) (gd p 2) (gd p 3) (gd p 4) (gd p 5) (gd p 6) (gd p 7) (gd p 8) (gd p 9) (gd p 10) (gd p 11) (gd p 12) (gd p 13)) λs=>some [(gd s 0),(gd s 1),(gd s 2),(gd s 3),(gd s 4),(gd s 5),(gd s 6),(gd s 7),(gd s 8),(gd s 9),(gd s 10),(gd s 11),(gd s 12)])
 (bd (PV.bin .eql a (.I 2)) λt=>PV.ite t (bd (PV.bin .eql b (.I 1)) λu=>bd (fH u) λv=>bd (gH (hd v) (gd p 1) (gd p 2) (gd p 3) (gd p 4) (gd p 5) (gd p 6) (gd p 7) (gd p 8) (gd p 9) (gd p 10) (gd p 11) (gd p 12) (gd p 13)) λw=>some [(gd w 0),(gd w 1),(gd w 2),(gd w 3),(gd w 4),(gd w 5),(gd w 6),(gd w 7),(gd w 8),(gd w 9),(gd w 10),(gd w 11),(gd w 12)])
 (bd (PV.bin .eql a (.I 3)) λx=>PV.ite x (bd (PV.at_ 1 false (gd p 1) b) λy=>bd (PV.one y) λz=>bd (bE (.I 3) (.I 0) z (gd p 1) (gd p 2) (gd p 3) (gd p 4) (gd p 5) (gd p 6) (gd p 7) (gd p 8) (gd p 9) (gd p 10) (gd p 11) (gd p 12) (gd p 13)) λA=>some [(gd A 0),(gd A 1),(gd A 2),(gd A 3),(gd A 4),(gd A 5),(gd A 6),(gd A 7),(gd A 8),(gd A 9),(gd A 10),(gd A 11),(gd A 12)])
 (bd (PV.bin .eql a (.I 4)) λB=>PV.ite B (bd (bE (.I 0) (.I 0) (.str (bs [])) (gd p 1) (gd p 2) (gd p 3) (gd p 4) (gd p 5) (gd p 6) (gd p 7) (gd p 8) (gd p 9) (gd p 10) (gd p 11) (gd p 12) (gd p 13)) λC=>some [(gd C 0),(gd C 1),(gd C 2),(gd C 3),(gd C 4),(gd C 5),(gd C 6),(gd C 7),(gd C 8),(gd C 9),(gd C 10),(gd C 11),(gd C 12)]) (bd (PV.bin .eql a (.I 5)) λD=>
 PV.ite D (bd (PV.one b) λE=>bd (bE (.I 5) E (.str (bs [])) (gd p 1) (gd p 2) (gd p 3) (gd p 4) (gd p 5) (gd p 6) (gd p 7) (gd p 8) (gd p 9) (gd p 10) (gd p 11) (gd p 12) (gd p 13)) λF=>some [(gd F 0),(gd F 1),(gd F 2),(gd F 3),(gd F 4),(gd F 5),(gd F 6),(gd F 7),(gd F 8),(gd F 9),(gd F 10),(gd F 11),(gd F 12)]) (bd (PV.bin .eql a (.I 6)) λG=>
 PV.ite G (bd (PV.at_ 4 true (gd p 11) (gd p 0)) λH=>bd (PV.at_ 4 true (gd p 11) (gd p 0)) λI=>bd (PV.cell I 2) λJ=>bd (PV.inb J b) λK=>bd (PV.at_ 4 true (gd p 11) (gd p 0)) λL=>bd (PV.cell L 2) λM=>bd (PV.at_ 3 true M b) λN=>bd (gH N (gd p 1) (gd p 2) (gd p 3) (gd p 4) (gd p 5) (gd p 6) (gd p 7) (gd p 8) (gd p 9) (gd p 10) (gd p 11) (gd p 12) (gd p 13)) λO=>
 some [(gd O 0),(gd O 1),(gd O 2),(gd O 3),(gd O 4),(gd O 5),(gd O 6),(gd O 7),(gd O 8),(gd O 9),(gd O 10),(gd O 11),(gd O 12)]) (bd (PV.bin .eql a (.I 7)) λP=>PV.ite P (bd (aW (gd p 1) (gd p 2) (gd p 3) (gd p 4) (gd p 5) (gd p 6) (gd p 7) (gd p 8) (gd p 9) (gd p 10) (gd p 11) (gd p 12) (gd p 13)) λQ=>bd (PV.whole 3 (gd Q 0)) λR=>bd (PV.cell R 0) λS=>
 bd (PV.cell R 1) λT=>bd (PV.cell R 2) λU=>bd (PV.at_ 4 true (gd Q 11) (gd p 0)) λV=>bd (PV.at_ 4 true (gd Q 11) (gd p 0)) λW=>bd (PV.cell W 2) λX=>bd (PV.inb X b) λY=>bd (PV.at_ 4 true (gd Q 11) (gd p 0)) λZ=>bd (PV.cell Z 2) λaa=>bd (PV.at_ 4 true (gd Q 11) (gd p 0)) λab=>bd (PV.cell ab 2) λac=>bd (PV.setAt 3 true ac b (.agg [S,T,U])) λad=>bd (PV.at_ 4 true (gd Q 11) (gd p 0)) λae=>
 bd (PV.cell ae 2) λaf=>bd (PV.setCell 4 (gd Q 11) (gd p 0) 2 ad) λag=>some [(gd Q 1),(gd Q 2),(gd Q 3),(gd Q 4),(gd Q 5),(gd Q 6),(gd Q 7),(gd Q 8),(gd Q 9),(gd Q 10),ag,(gd Q 12),(gd Q 13)]) (bd (PV.bin .eql a (.I 8)) λah=>PV.ite ah (bd (aW (gd p 1) (gd p 2) (gd p 3) (gd p 4) (gd p 5) (gd p 6) (gd p 7) (gd p 8) (gd p 9) (gd p 10) (gd p 11) (gd p 12) (gd p 13)) λai=>
 bd (PV.whole 3 (gd ai 0)) λaj=>bd (PV.cell aj 0) λak=>bd (PV.cell aj 1) λal=>bd (PV.cell aj 2) λam=>bd (bE ak al am (gd ai 1) (gd ai 2) (gd ai 3) (gd ai 4) (gd ai 5) (gd ai 6) (gd ai 7) (gd ai 8) (gd ai 9) (gd ai 10) (gd ai 11) (gd ai 12) (gd ai 13)) λan=>bd (bE ak al am (gd an 0) (gd an 1) (gd an 2) (gd an 3) (gd an 4) (gd an 5) (gd an 6) (gd an 7) (gd an 8) (gd an 9) (gd an 10) (gd an 11) (gd an 12)) λao=>
 some [(gd ao 0),(gd ao 1),(gd ao 2),(gd ao 3),(gd ao 4),(gd ao 5),(gd ao 6),(gd ao 7),(gd ao 8),(gd ao 9),(gd ao 10),(gd ao 11),(gd ao 12)]) (bd (PV.bin .eql a (.I 9)) λap=>PV.ite ap (bd (aW (gd p 1) (gd p 2) (gd p 3) (gd p 4) (gd p 5) (gd p 6) (gd p 7) (gd p 8) (gd p 9) (gd p 10) (gd p 11) (gd p 12) (gd p 13)) λaq=>some [(gd aq 1),(gd aq 2),(gd aq 3),(gd aq 4),(gd aq 5),(gd aq 6),(gd aq 7),(gd aq 8),(gd aq 9),(gd aq 10),(gd aq 11),(gd aq 12),(gd aq 13)])
 (bd (PV.bin .eql a (.I 10)) λar=>PV.ite ar (bd (aW (gd p 1) (gd p 2) (gd p 3) (gd p 4) (gd p 5) (gd p 6) (gd p 7) (gd p 8) (gd p 9) (gd p 10) (gd p 11) (gd p 12) (gd p 13)) λau=>bd (PV.whole 3 (gd au 0)) λav=>bd (PV.cell av 0) λaw=>bd (PV.cell av 1) λax=>bd (PV.cell av 2) λay=>bd (aW (gd au 1) (gd au 2) (gd au 3) (gd au 4) (gd au 5) (gd au 6) (gd au 7) (gd au 8) (gd au 9) (gd au 10) (gd au 11) (gd au 12) (gd au 13)) λaz=>
 bd (PV.whole 3 (gd az 0)) λba=>bd (PV.cell ba 0) λbb=>bd (PV.cell ba 1) λbc=>bd (PV.cell ba 2) λbe=>bd (bE aw ax ay (gd az 1) (gd az 2) (gd az 3) (gd az 4) (gd az 5) (gd az 6) (gd az 7) (gd az 8) (gd az 9) (gd az 10) (gd az 11) (gd az 12) (gd az 13)) λbf=>bd (bE bb bc be (gd bf 0) (gd bf 1) (gd bf 2) (gd bf 3) (gd bf 4) (gd bf 5) (gd bf 6) (gd bf 7) (gd bf 8) (gd bf 9) (gd bf 10) (gd bf 11) (gd bf 12)) λbg=>
 some [(gd bg 0),(gd bg 1),(gd bg 2),(gd bg 3),(gd bg 4),(gd bg 5),(gd bg 6),(gd bg 7),(gd bg 8),(gd bg 9),(gd bg 10),(gd bg 11),(gd bg 12)]) (bd (PV.bin .eql a (.I 11)) λbh=>PV.ite bh (bd (aW (gd p 1) (gd p 2) (gd p 3) (gd p 4) (gd p 5) (gd p 6) (gd p 7) (gd p 8) (gd p 9) (gd p 10) (gd p 11) (gd p 12) (gd p 13)) λbi=>bd (PV.whole 3 (gd bi 0)) λbj=>bd (PV.cell bj 0) λbk=>
 bd (PV.cell bj 1) λbl=>bd (PV.cell bj 2) λbm=>bd (aW (gd bi 1) (gd bi 2) (gd bi 3) (gd bi 4) (gd bi 5) (gd bi 6) (gd bi 7) (gd bi 8) (gd bi 9) (gd bi 10) (gd bi 11) (gd bi 12) (gd bi 13)) λbn=>bd (PV.whole 3 (gd bn 0)) λbo=>bd (PV.cell bo 0) λbp=>bd (PV.cell bo 1) λbq=>bd (PV.cell bo 2) λbr=>bd (nC a (.agg [bp,bq,br]) (.agg [bk,bl,bm])) λbt=>
 bd (PV.comp (hd bt) 0) λbu=>bd (PV.comp (hd bt) 1) λbv=>bd (PV.whole 3 bu) λbw=>bd (PV.cell bw 0) λbx=>bd (PV.cell bw 1) λbz=>bd (PV.cell bw 2) λca=>bd (PV.one bv) λcb=>bd (bE bx bz ca (gd bn 1) (gd bn 2) (gd bn 3) (gd bn 4) (gd bn 5) (gd bn 6) (gd bn 7) (gd bn 8) (gd bn 9) cb (gd bn 11) (gd bn 12) (gd bn 13)) λcc=>some [(gd cc 0),(gd cc 1),(gd cc 2),(gd cc 3),(gd cc 4),(gd cc 5),(gd cc 6),(gd cc 7),(gd cc 8),(gd cc 9),(gd cc 10),(gd cc 11),(gd cc 12)])
 (bd (PV.bin .eql a (.I 12)) λcd=>PV.ite cd (bd (aW (gd p 1) (gd p 2) (gd p 3) (gd p 4) (gd p 5) (gd p 6) (gd p 7) (gd p 8) (gd p 9) (gd p 10) (gd p 11) (gd p 12) (gd p 13)) λce=>bd (PV.whole 3 (gd ce 0)) λcf=>bd (PV.cell cf 0) λcg=>bd (PV.cell cf 1) λch=>bd (PV.cell cf 2) λci=>bd (aW (gd ce 1) (gd ce 2) (gd ce 3) (gd ce 4) (gd ce 5) (gd ce 6) (gd ce 7) (gd ce 8) (gd ce 9) (gd ce 10) (gd ce 11) (gd ce 12) (gd ce 13)) λcj=>
 bd (PV.whole 3 (gd cj 0)) λck=>bd (PV.cell ck 0) λcl=>bd (PV.cell ck 1) λcm=>bd (PV.cell ck 2) λcn=>bd (nC a (.agg [cl,cm,cn]) (.agg [cg,ch,ci])) λco=>bd (PV.comp (hd co) 0) λcp=>bd (PV.comp (hd co) 1) λcq=>bd (PV.whole 3 cp) λcr=>bd (PV.cell cr 0) λcs=>bd (PV.cell cr 1) λct=>bd (PV.cell cr 2) λcu=>bd (PV.one cq) λcv=>bd (bE cs ct cu (gd cj 1) (gd cj 2) (gd cj 3) (gd cj 4) (gd cj 5) (gd cj 6) (gd cj 7) (gd cj 8) (gd cj 9) cv (gd cj 11) (gd cj 12) (gd cj 13)) λcw=>
 some [(gd cw 0),(gd cw 1),(gd cw 2),(gd cw 3),(gd cw 4),(gd cw 5),(gd cw 6),(gd cw 7),(gd cw 8),(gd cw 9),(gd cw 10),(gd cw 11),(gd cw 12)]) (bd (PV.bin .eql a (.I 13)) λcx=>PV.ite cx (bd (aW (gd p 1) (gd p 2) (gd p 3) (gd p 4) (gd p 5) (gd p 6) (gd p 7) (gd p 8) (gd p 9) (gd p 10) (gd p 11) (gd p 12) (gd p 13)) λcy=>bd (PV.whole 3 (gd cy 0)) λcz=>bd (PV.cell cz 0) λda=>
 bd (PV.cell cz 1) λdb=>bd (PV.cell cz 2) λdc=>bd (aW (gd cy 1) (gd cy 2) (gd cy 3) (gd cy 4) (gd cy 5) (gd cy 6) (gd cy 7) (gd cy 8) (gd cy 9) (gd cy 10) (gd cy 11) (gd cy 12) (gd cy 13)) λdd=>bd (PV.whole 3 (gd dd 0)) λde=>bd (PV.cell de 0) λdf=>bd (PV.cell de 1) λdg=>bd (PV.cell de 2) λdh=>bd (nC a (.agg [df,dg,dh]) (.agg [da,db,dc])) λdi=>
 bd (PV.comp (hd di) 0) λdj=>bd (PV.comp (hd di) 1) λdk=>bd (PV.whole 3 dj) λdl=>bd (PV.cell dl 0) λdm=>bd (PV.cell dl 1) λdn=>bd (PV.cell dl 2) λdp=>bd (PV.one dk) λdq=>bd (bE dm dn dp (gd dd 1) (gd dd 2) (gd dd 3) (gd dd 4) (gd dd 5) (gd dd 6) (gd dd 7) (gd dd 8) (gd dd 9) dq (gd dd 11) (gd dd 12) (gd dd 13)) λdr=>some [(gd dr 0),(gd dr 1),(gd dr 2),(gd dr 3),(gd dr 4),(gd dr 5),(gd dr 6),(gd dr 7),(gd dr 8),(gd dr 9),(gd dr 10),(gd dr 11),(gd dr 12)])
 (bd (PV.bin .eql a (.I 14)) λds=>PV.ite ds (bd (aW (gd p 1) (gd p 2) (gd p 3) (gd p 4) (gd p 5) (gd p 6) (gd p 7) (gd p 8) (gd p 9) (gd p 10) (gd p 11) (gd p 12) (gd p 13)) λdt=>bd (PV.whole 3 (gd dt 0)) λdu=>bd (PV.cell du 0) λdv=>bd (PV.cell du 1) λdw=>bd (PV.cell du 2) λdx=>bd (aW (gd dt 1) (gd dt 2) (gd dt 3) (gd dt 4) (gd dt 5) (gd dt 6) (gd dt 7) (gd dt 8) (gd dt 9) (gd dt 10) (gd dt 11) (gd dt 12) (gd dt 13)) λdy=>
 bd (PV.whole 3 (gd dy 0)) λdz=>bd (PV.cell dz 0) λea=>bd (PV.cell dz 1) λeb=>bd (PV.cell dz 2) λec=>bd (nC a (.agg [ea,eb,ec]) (.agg [dv,dw,dx])) λed=>bd (PV.comp (hd ed) 0) λee=>bd (PV.comp (hd ed) 1) λef=>bd (PV.whole 3 ee) λeg=>bd (PV.cell eg 0) λeh=>bd (PV.cell eg 1) λei=>bd (PV.cell eg 2) λej=>bd (PV.one ef) λek=>bd (bE eh ei ej (gd dy 1) (gd dy 2) (gd dy 3) (gd dy 4) (gd dy 5) (gd dy 6) (gd dy 7) (gd dy 8) (gd dy 9) ek (gd dy 11) (gd dy 12) (gd dy 13)) λel=>
 some [(gd el 0),(gd el 1),(gd el 2),(gd el 3),(gd el 4),(gd el 5),(gd el 6),(gd el 7),(gd el 8),(gd el 9),(gd el 10),(gd el 11),(gd el 12)]) (bd (PV.bin .eql a (.I 15)) λem=>PV.ite em (bd (aW (gd p 1) (gd p 2) (gd p 3) (gd p 4) (gd p 5) (gd p 6) (gd p 7) (gd p 8) (gd p 9) (gd p 10) (gd p 11) (gd p 12) (gd p 13)) λen=>bd (PV.whole 3 (gd en 0)) λeo=>bd (PV.cell eo 0) λep=>
 bd (PV.cell eo 1) λeq=>bd (PV.cell eo 2) λer=>bd (aW (gd en 1) (gd en 2) (gd en 3) (gd en 4) (gd en 5) (gd en 6) (gd en 7) (gd en 8) (gd en 9) (gd en 10) (gd en 11) (gd en 12) (gd en 13)) λes=>bd (PV.whole 3 (gd es 0)) λet=>bd (PV.cell et 0) λeu=>bd (PV.cell et 1) λev=>bd (PV.cell et 2) λew=>bd (nC a (.agg [eu,ev,ew]) (.agg [ep,eq,er])) λex=>
 bd (PV.comp (hd ex) 0) λey=>bd (PV.comp (hd ex) 1) λez=>bd (PV.whole 3 ey) λfa=>bd (PV.cell fa 0) λfb=>bd (PV.cell fa 1) λfc=>bd (PV.cell fa 2) λfd=>bd (PV.one ez) λfe=>bd (bE fb fc fd (gd es 1) (gd es 2) (gd es 3) (gd es 4) (gd es 5) (gd es 6) (gd es 7) (gd es 8) (gd es 9) fe (gd es 11) (gd es 12) (gd es 13)) λff=>some [(gd ff 0),(gd ff 1),(gd ff 2),(gd ff 3),(gd ff 4),(gd ff 5),(gd ff 6),(gd ff 7),(gd ff 8),(gd ff 9),(gd ff 10),(gd ff 11),(gd ff 12)])
 (bd (PV.bin .eql a (.I 16)) λfg=>PV.ite fg (bd (aW (gd p 1) (gd p 2) (gd p 3) (gd p 4) (gd p 5) (gd p 6) (gd p 7) (gd p 8) (gd p 9) (gd p 10) (gd p 11) (gd p 12) (gd p 13)) λfh=>bd (aAP (gd fh 0)) λfi=>bd (PV.comp (hd fi) 0) λfj=>bd (PV.comp (hd fi) 1) λfk=>bd (PV.whole 3 fj) λfl=>bd (PV.cell fl 0) λfm=>bd (PV.cell fl 1) λfo=>bd (PV.cell fl 2) λfp=>
 bd (PV.one fk) λfq=>bd (bE fm fo fp (gd fh 1) (gd fh 2) (gd fh 3) (gd fh 4) (gd fh 5) (gd fh 6) (gd fh 7) (gd fh 8) (gd fh 9) fq (gd fh 11) (gd fh 12) (gd fh 13)) λfr=>some [(gd fr 0),(gd fr 1),(gd fr 2),(gd fr 3),(gd fr 4),(gd fr 5),(gd fr 6),(gd fr 7),(gd fr 8),(gd fr 9),(gd fr 10),(gd fr 11),(gd fr 12)]) (bd (PV.bin .eql a (.I 17)) λfs=>PV.ite fs
 (bd (PV.one b) λft=>bd (PV.setCell 4 (gd p 11) (gd p 0) 1 ft) λfu=>some [(gd p 1),(gd p 2),(gd p 3),(gd p 4),(gd p 5),(gd p 6),(gd p 7),(gd p 8),(gd p 9),(gd p 10),fu,(gd p 12),(gd p 13)]) (bd (PV.bin .eql a (.I 18)) λfv=>PV.ite fv (bd (aW (gd p 1) (gd p 2) (gd p 3) (gd p 4) (gd p 5) (gd p 6) (gd p 7) (gd p 8) (gd p 9) (gd p 10) (gd p 11) (gd p 12) (gd p 13)) λfw=>
 bd (PV.whole 3 (gd fw 0)) λfx=>bd (PV.cell fx 0) λfy=>bd (PV.cell fx 1) λfz=>bd (PV.cell fx 2) λga=>bd (PV.bin .neq fy (.I 2)) λgb=>PV.ite gb (some [(gd fw 1),(gd fw 2),(gd fw 3),(gd fw 4),(gd fw 5),(gd fw 6),(gd fw 7),(gd fw 8),(gd fw 9),(.I 1),(gd fw 11),(gd fw 12),(gd fw 13)]) (bd (PV.bin .eql fz (.I 1)) λgc=>bd (PV.bin .eql a (.I 18)) λge=>
 bd (PV.beq .eql gc ge) λgf=>PV.ite gf (bd (PV.one b) λgg=>bd (PV.setCell 4 (gd fw 11) (gd p 0) 1 gg) λgh=>some [(gd fw 1),(gd fw 2),(gd fw 3),(gd fw 4),(gd fw 5),(gd fw 6),(gd fw 7),(gd fw 8),(gd fw 9),(gd fw 10),gh,(gd fw 12),(gd fw 13)]) (some [(gd fw 1),(gd fw 2),(gd fw 3),(gd fw 4),(gd fw 5),(gd fw 6),(gd fw 7),(gd fw 8),(gd fw 9),(gd fw 10),(gd fw 11),(gd fw 12),(gd fw 13)])))
 (bd (PV.bin .eql a (.I 19)) λgi=>PV.ite gi (bd (aW (gd p 1) (gd p 2) (gd p 3) (gd p 4) (gd p 5) (gd p 6) (gd p 7) (gd p 8) (gd p 9) (gd p 10) (gd p 11) (gd p 12) (gd p 13)) λgj=>bd (PV.whole 3 (gd gj 0)) λgk=>bd (PV.cell gk 0) λgl=>bd (PV.cell gk 1) λgm=>bd (PV.cell gk 2) λgn=>bd (PV.bin .neq gl (.I 2)) λgo=>PV.ite go (some [(gd gj 1),(gd gj 2),(gd gj 3),(gd gj 4),(gd gj 5),(gd gj 6),(gd gj 7),(gd gj 8),(gd gj 9),(.I 1),(gd gj 11),(gd gj 12),(gd gj 13)])
 (bd (PV.bin .eql gm (.I 1)) λgp=>bd (PV.bin .eql a (.I 18)) λgq=>bd (PV.beq .eql gp gq) λgr=>PV.ite gr (bd (PV.one b) λgs=>bd (PV.setCell 4 (gd gj 11) (gd p 0) 1 gs) λgt=>some [(gd gj 1),(gd gj 2),(gd gj 3),(gd gj 4),(gd gj 5),(gd gj 6),(gd gj 7),(gd gj 8),(gd gj 9),(gd gj 10),gt,(gd gj 12),(gd gj 13)]) (some [(gd gj 1),(gd gj 2),(gd gj 3),(gd gj 4),(gd gj 5),(gd gj 6),(gd gj 7),(gd gj 8),(gd gj 9),(gd gj 10),(gd gj 11),(gd gj 12),(gd gj 13)])))
 (bd (PV.bin .eql a (.I 20)) λgu=>PV.ite gu (bd (PV.bin .eql (gd p 3) (.I 120)) λgv=>PV.ite gv (some [(gd p 1),(gd p 2),(gd p 3),(gd p 4),(gd p 5),(gd p 6),(gd p 7),(gd p 8),(gd p 9),(.I 7),(gd p 11),(gd p 12),(gd p 13)]) (bd (PV.len (gd p 12)) λgw=>bd (PV.one gw) λgx=>bd (bE (.I 4) gx (.str (bs [])) (gd p 1) (gd p 2) (gd p 3) (gd p 4) (gd p 5) (gd p 6) (gd p 7) (gd p 8) (gd p 9) (gd p 10) (gd p 11) (gd p 12) (gd p 13)) λgy=>
 bd (PV.zeros 32 (.agg [(.I 0),(.I 0),(.str (bs []))]) b) λgz=>bd (PV.bin .leq b b) λha=>PV.ite ha (bd (PV.zeros 32 (.agg [(.I 0),(.I 0),(.str (bs []))]) b) λhb=>bd (PV.cat 1 24 true (gd gy 11) (.lst [(.agg [hb])])) λhc=>bd (PV.bin .add (gd gy 2) (.I 1)) λhe=>bd (PV.one he) λhf=>some [(gd gy 0),(gd gy 1),hf,(gd gy 3),(gd gy 4),(gd gy 5),(gd gy 6),(gd gy 7),(gd gy 8),(gd gy 9),(gd gy 10),hc,(gd gy 12)])
 (none))) (bd (PV.bin .eql a (.I 21)) λhg=>PV.ite hg (bd (aW (gd p 1) (gd p 2) (gd p 3) (gd p 4) (gd p 5) (gd p 6) (gd p 7) (gd p 8) (gd p 9) (gd p 10) (gd p 11) (gd p 12) (gd p 13)) λhh=>bd (PV.whole 3 (gd hh 0)) λhi=>bd (PV.cell hi 0) λhj=>bd (PV.cell hi 1) λhk=>bd (PV.cell hi 2) λhl=>bd (PV.bin .neq hj (.I 4)) λhm=>PV.ite hm (some [(gd hh 1),(gd hh 2),(gd hh 3),(gd hh 4),(gd hh 5),(gd hh 6),(gd hh 7),(gd hh 8),(gd hh 9),(.I 1),(gd hh 11),(gd hh 12),(gd hh 13)])
 (bd (PV.inb (gd hh 12) hk) λhn=>bd (PV.at_ 1 true (gd hh 12) hk) λho=>bd (PV.at_ 1 true (gd hh 12) hk) λhp=>bd (PV.cell hp 0) λhq=>bd (PV.len hq) λhr=>bd (PV.bin .geq b hr) λhs=>PV.ite hs (some [(gd hh 1),(gd hh 2),(gd hh 3),(gd hh 4),(gd hh 5),(gd hh 6),(gd hh 7),(gd hh 8),(gd hh 9),(.I 4),(gd hh 11),(gd hh 12),(gd hh 13)]) (bd (PV.inb (gd hh 12) hk) λht=>
 bd (PV.at_ 1 true (gd hh 12) hk) λhu=>bd (PV.at_ 1 true (gd hh 12) hk) λhv=>bd (PV.cell hv 0) λhw=>bd (PV.inb hw b) λhx=>bd (PV.at_ 1 true (gd hh 12) hk) λhy=>bd (PV.cell hy 0) λhz=>bd (PV.at_ 3 true hz b) λia=>bd (gH ia (gd hh 1) (gd hh 2) (gd hh 3) (gd hh 4) (gd hh 5) (gd hh 6) (gd hh 7) (gd hh 8) (gd hh 9) (gd hh 10) (gd hh 11) (gd hh 12) (gd hh 13)) λib=>
 some [(gd ib 0),(gd ib 1),(gd ib 2),(gd ib 3),(gd ib 4),(gd ib 5),(gd ib 6),(gd ib 7),(gd ib 8),(gd ib 9),(gd ib 10),(gd ib 11),(gd ib 12)]))) (bd (PV.bin .eql a (.I 22)) λic=>PV.ite ic (bd (aW (gd p 1) (gd p 2) (gd p 3) (gd p 4) (gd p 5) (gd p 6) (gd p 7) (gd p 8) (gd p 9) (gd p 10) (gd p 11) (gd p 12) (gd p 13)) λid=>bd (PV.whole 3 (gd id 0)) λie=>bd (PV.cell ie 0) λig=>
 bd (PV.cell ie 1) λih=>bd (PV.cell ie 2) λii=>bd (aW (gd id 1) (gd id 2) (gd id 3) (gd id 4) (gd id 5) (gd id 6) (gd id 7) (gd id 8) (gd id 9) (gd id 10) (gd id 11) (gd id 12) (gd id 13)) λij=>bd (PV.whole 3 (gd ij 0)) λik=>bd (PV.cell ik 0) λil=>bd (PV.cell ik 1) λim=>bd (PV.cell ik 2) λio=>bd (PV.bin .neq il (.I 4)) λip=>PV.ite ip (some [(gd ij 1),(gd ij 2),(gd ij 3),(gd ij 4),(gd ij 5),(gd ij 6),(gd ij 7),(gd ij 8),(gd ij 9),(.I 1),(gd ij 11),(gd ij 12),(gd ij 13)])
 (bd (PV.inb (gd ij 12) im) λiq=>bd (PV.at_ 1 true (gd ij 12) im) λir=>bd (PV.at_ 1 true (gd ij 12) im) λit=>bd (PV.cell it 0) λiu=>bd (PV.len iu) λiv=>bd (PV.bin .geq b iv) λiw=>PV.ite iw (some [(gd ij 1),(gd ij 2),(gd ij 3),(gd ij 4),(gd ij 5),(gd ij 6),(gd ij 7),(gd ij 8),(gd ij 9),(.I 4),(gd ij 11),(gd ij 12),(gd ij 13)]) (bd (PV.inb (gd ij 12) im) λix=>
 bd (PV.at_ 1 true (gd ij 12) im) λiy=>bd (PV.at_ 1 true (gd ij 12) im) λiz=>bd (PV.cell iz 0) λja=>bd (PV.inb ja b) λjb=>bd (PV.at_ 1 true (gd ij 12) im) λjc=>bd (PV.cell jc 0) λjd=>bd (PV.at_ 1 true (gd ij 12) im) λje=>bd (PV.cell je 0) λjf=>bd (PV.setAt 3 true jf b (.agg [ig,ih,ii])) λjg=>bd (PV.at_ 1 true (gd ij 12) im) λjh=>bd (PV.cell jh 0) λji=>
 bd (PV.setCell 1 (gd ij 12) im 0 jg) λjj=>some [(gd ij 1),(gd ij 2),(gd ij 3),(gd ij 4),(gd ij 5),(gd ij 6),(gd ij 7),(gd ij 8),(gd ij 9),(gd ij 10),(gd ij 11),jj,(gd ij 13)]))) (bd (PV.bin .eql a (.I 23)) λjk=>PV.ite jk (bd (PV.at_ 4 true (gd p 11) (gd p 0)) λjl=>bd (PV.at_ 4 true (gd p 11) (gd p 0)) λjm=>bd (PV.at_ 4 true (gd p 11) (gd p 0)) λjn=>bd (PV.cell jn 3) λjo=>
 bd (PV.len jo) λjp=>bd (PV.bin .sub jp (.I 1)) λjq=>bd (PV.bin .sub jq b) λjr=>bd (PV.at_ 4 true (gd p 11) (gd p 0)) λjs=>bd (PV.cell js 3) λjt=>bd (PV.inb jt jr) λju=>bd (PV.at_ 4 true (gd p 11) (gd p 0)) λjv=>bd (PV.cell jv 3) λjw=>bd (PV.at_ 3 true jw jr) λjx=>bd (PV.whole 3 jx) λjy=>bd (PV.cell jy 0) λjz=>bd (PV.cell jy 1) λka=>
 bd (PV.cell jy 2) λkb=>bd (PV.bin .neq jz (.I 5)) λkc=>PV.ite kc (some [(gd p 1),(gd p 2),(gd p 3),(gd p 4),(gd p 5),(gd p 6),(gd p 7),(gd p 8),(gd p 9),(.I 1),(gd p 11),(gd p 12),(gd p 13)]) (bd (PV.at_ 3 true (gd p 2) ka) λkd=>bd (PV.cell kd 0) λke=>bd (PV.bin .neq ke b) λkf=>PV.ite kf (some [(gd p 1),(gd p 2),(gd p 3),(gd p 4),(gd p 5),(gd p 6),(gd p 7),(gd p 8),(gd p 9),(.I 5),(gd p 11),(gd p 12),(gd p 13)])
 (bd (lE ka (.bool true) (gd p 1) (gd p 2) (gd p 3) (gd p 4) (gd p 5) (gd p 6) (gd p 7) (gd p 8) (gd p 9) (gd p 10) (gd p 11) (gd p 12) (gd p 13)) λkg=>some [(gd kg 0),(gd kg 1),(gd kg 2),(gd kg 3),(gd kg 4),(gd kg 5),(gd kg 6),(gd kg 7),(gd kg 8),(gd kg 9),(gd kg 10),(gd kg 11),(gd kg 12)]))) (bd (PV.bin .eql a (.I 24)) λkh=>PV.ite kh (bd (lE b (.bool false) (gd p 1) (gd p 2) (gd p 3) (gd p 4) (gd p 5) (gd p 6) (gd p 7) (gd p 8) (gd p 9) (gd p 10) (gd p 11) (gd p 12) (gd p 13)) λki=>
 some [(gd ki 0),(gd ki 1),(gd ki 2),(gd ki 3),(gd ki 4),(gd ki 5),(gd ki 6),(gd ki 7),(gd ki 8),(gd ki 9),(gd ki 10),(gd ki 11),(gd ki 12)]) (bd (PV.bin .eql a (.I 25)) λkj=>PV.ite kj (bd (aW (gd p 1) (gd p 2) (gd p 3) (gd p 4) (gd p 5) (gd p 6) (gd p 7) (gd p 8) (gd p 9) (gd p 10) (gd p 11) (gd p 12) (gd p 13)) λkk=>bd (PV.whole 3 (gd kk 0)) λkl=>bd (PV.cell kl 0) λkm=>
 bd (PV.cell kl 1) λkn=>bd (PV.cell kl 2) λko=>bd (PV.len (gd kk 11)) λkp=>bd (PV.bin .sub kp (.I 1)) λkq=>bd (PV.cut 4 true (gd kk 11) (.I 0) kq) λkr=>bd (PV.cut 4 true (gd kk 11) (.I 0) kq) λks=>bd (PV.len ks) λkt=>bd (PV.bin .eql kt (.I 0)) λku=>PV.ite ku (some [(gd kk 1),(gd kk 2),(gd kk 3),(.I 1),(gd kk 5),km,kn,ko,(gd kk 9),(gd kk 10),ks,(gd kk 12),(gd kk 13)])
 (bd (bE km kn ko (gd kk 1) (gd kk 2) (gd kk 3) (gd kk 4) (gd kk 5) (gd kk 6) (gd kk 7) (gd kk 8) (gd kk 9) (gd kk 10) ks (gd kk 12) (gd kk 13)) λkv=>some [(gd kv 0),(gd kv 1),(gd kv 2),(gd kv 3),(gd kv 4),(gd kv 5),(gd kv 6),(gd kv 7),(gd kv 8),(gd kv 9),(gd kv 10),(gd kv 11),(gd kv 12)])) (bd (PV.bin .eql a (.I 26)) λkw=>PV.ite kw (bd (aW (gd p 1) (gd p 2) (gd p 3) (gd p 4) (gd p 5) (gd p 6) (gd p 7) (gd p 8) (gd p 9) (gd p 10) (gd p 11) (gd p 12) (gd p 13)) λkx=>
 bd (PV.whole 3 (gd kx 0)) λky=>bd (PV.cell ky 0) λkz=>bd (PV.cell ky 1) λla=>bd (PV.cell ky 2) λlb=>bd (PV.len (gd kx 13)) λlc=>bd (PV.bin .eql lc (.I 200)) λld=>PV.ite ld (some [(gd kx 1),(gd kx 2),(gd kx 3),(gd kx 4),(gd kx 5),(gd kx 6),(gd kx 7),(gd kx 8),(gd kx 9),(.I 8),(gd kx 11),(gd kx 12),(gd kx 13)]) (bd (rU (.agg [kz,la,lb]) (gd kx 12)) λle=>
 PV.guardFlat (hd le) (bd (PV.cat 1 16 false (.lst []) (.lst [(hd le)])) λlf=>bd (PV.cat 1 16 false (gd kx 13) lf) λlg=>some [(gd kx 1),(gd kx 2),(gd kx 3),(gd kx 4),(gd kx 5),(gd kx 6),(gd kx 7),(gd kx 8),(gd kx 9),(gd kx 10),(gd kx 11),(gd kx 12),lg]))) (some [(gd p 1),(gd p 2),(gd p 3),(gd p 4),(gd p 5),(gd p 6),(gd p 7),(gd p 8),(gd p 9),(gd p 10),(gd p 11),(gd p 12),(gd p 13)])))))))))))))))))))))))))):=bT _ _ _ _ (by kernel_rfl)
variable (a b c : PV)
theorem aFL : nC a b c=bd (PV.whole 3 b) λd=>bd (PV.cell d 0) λe=>bd (PV.cell d 1) λf=>bd (PV.cell d 2) λg=>bd (PV.whole 3 c) λh=>bd (PV.cell h 0) λi=>bd (PV.cell h 1) λj=>bd (PV.cell h 2) λk=>bd (PV.bin .eql a (.I 11)) λl=>PV.ite l (bd (aAQ (.agg [e,f,g]) (.agg [i,j,k])) λm=>bd (PV.comp (hd m) 0) λn=>bd (PV.comp (hd m) 1) λo=>
 bd (PV.whole 3 n) λp=>bd (PV.cell p 0) λq=>bd (PV.cell p 1) λr=>bd (PV.cell p 2) λs=>some [(.tup [(.agg [q,r,s]),o])]) (bd (PV.bin .eql a (.I 12)) λt=>PV.ite t (bd (aAR (.agg [e,f,g]) (.agg [i,j,k])) λu=>bd (PV.comp (hd u) 0) λv=>bd (PV.comp (hd u) 1) λw=>bd (PV.whole 3 v) λx=>bd (PV.cell x 0) λy=>bd (PV.cell x 1) λz=>bd (PV.cell x 2) λA=>
 some [(.tup [(.agg [y,z,A]),w])]) (bd (PV.bin .eql a (.I 13)) λB=>PV.ite B (bd (aAS (.agg [e,f,g]) (.agg [i,j,k])) λC=>bd (PV.comp (hd C) 0) λD=>bd (PV.comp (hd C) 1) λE=>bd (PV.whole 3 D) λF=>bd (PV.cell F 0) λG=>bd (PV.cell F 1) λH=>bd (PV.cell F 2) λI=>some [(.tup [(.agg [G,H,I]),E])]) (bd (PV.bin .eql a (.I 14)) λJ=>PV.ite J
 (bd (yJ (.agg [e,f,g]) (.agg [i,j,k])) λK=>bd (PV.comp (hd K) 0) λL=>bd (PV.comp (hd K) 1) λM=>bd (PV.whole 3 L) λN=>bd (PV.cell N 0) λO=>bd (PV.cell N 1) λP=>bd (PV.cell N 2) λQ=>some [(.tup [(.agg [O,P,Q]),M])]) (bd (yM (.agg [e,f,g]) (.agg [i,j,k])) λR=>bd (PV.whole 3 (hd R)) λS=>bd (PV.cell S 0) λT=>bd (PV.cell S 1) λU=>
 bd (PV.cell S 2) λV=>some [(.tup [(.agg [T,U,V]),(.I 0)])])))):=aX _ _ _ (by kernel_rfl)
variable (a b c d e f g h i : PV)
theorem aFM : aAP a=bd (PV.whole 3 a) λb=>bd (PV.cell b 0) λc=>bd (PV.cell b 1) λd=>bd (PV.cell b 2) λe=>bd (PV.bin .neq c (.I 2)) λf=>PV.ite f (some [(.tup [(.agg [(.I 0),(.I 0),(.str (bs []))]),(.I 1)])]) (bd (PV.bin .neq d (.I 1)) λg=>bd (fH g) λh=>bd (PV.whole 3 (hd h)) λi=>bd (PV.cell i 0) λj=>
 bd (PV.cell i 1) λk=>bd (PV.cell i 2) λl=>some [(.tup [(.agg [j,k,l]),(.I 0)])]):=aX _ _ _ (by kernel_rfl)
theorem aBN : rU a b=bd (PV.whole 3 a) λc=>bd (PV.cell c 0) λd=>bd (PV.cell c 1) λe=>bd (PV.cell c 2) λf=>bd (PV.bin .eql d (.I 0)) λg=>PV.ite g (some [(.str (bs [110,105,108]))]) (bd (PV.bin .eql d (.I 1)) λh=>PV.ite h (bd (dW e) λi=>some [(hd i)]) (bd (PV.bin .eql d (.I 2)) λj=>PV.ite j (bd (PV.bin .eql e (.I 1)) λk=>
 PV.ite k (some [(.str (bs [116,114,117,101]))]) (some [(.str (bs [102,97,108,115,101]))])) (bd (PV.bin .eql d (.I 3)) λl=>PV.ite l (some [f]) (bd (PV.bin .eql d (.I 5)) λm=>PV.ite m (bd (dW e) λn=>bd (PV.bin .add (.str (bs [102,117,110])) (hd n)) λo=>some [o]) (bd (PV.bin .eql d (.I 4)) λp=>PV.ite p (bd (PV.len b) λq=>bd (PV.bin .sub q (.I 1)) λr=>
 bd (aL e (.I 0) r) λs=>PV.ite (hd s) (bd (PV.at_ 1 true b e) λt=>bd (PV.cell t 0) λu=>bd (PV.len u) λv=>bd (dW v) λw=>bd (PV.bin .add (.str (bs [123])) (hd w)) λx=>bd (PV.bin .add x (.str (bs [125]))) λy=>some [y]) (some [(.str (bs []))])) (some [(.str (bs []))])))))):=aX _ _ _ (by kernel_rfl)
theorem aFN : aAQ a b=bd (PV.whole 3 a) λc=>bd (PV.cell c 0) λd=>bd (PV.cell c 1) λe=>bd (PV.cell c 2) λf=>bd (PV.whole 3 b) λg=>bd (PV.cell g 0) λh=>bd (PV.cell g 1) λi=>bd (PV.cell g 2) λj=>bd (PV.bin .eql d (.I 3)) λk=>PV.ite k (bd (PV.bin .eql h (.I 3)) λl=>PV.ite l (aAt d e f h i j (.I 0) (.I 0) (.str (bs [])))
 (bd (hE (.I 11) (.agg [d,e,f]) (.agg [h,i,j])) λm=>bd (PV.comp (hd m) 0) λn=>bd (PV.comp (hd m) 1) λo=>bd (PV.whole 3 n) λp=>bd (PV.cell p 0) λq=>bd (PV.cell p 1) λr=>bd (PV.cell p 2) λs=>some [(.tup [(.agg [q,r,s]),o])])) (bd (hE (.I 11) (.agg [d,e,f]) (.agg [h,i,j])) λt=>bd (PV.comp (hd t) 0) λu=>bd (PV.comp (hd t) 1) λv=>
 bd (PV.whole 3 u) λw=>bd (PV.cell w 0) λx=>bd (PV.cell w 1) λy=>bd (PV.cell w 2) λz=>some [(.tup [(.agg [x,y,z]),v])]):=aX _ _ _ (by kernel_rfl)
theorem aCF : aAt a b c d e f g h i=bd (PV.slen c) λj=>bd (PV.slen f) λk=>bd (PV.bin .sub (.I 60) k) λl=>bd (PV.bin .gtr j l) λm=>PV.ite m (some [(.tup [(.agg [(.I 0),(.I 0),(.str (bs []))]),(.I 3)])]) (bd (PV.bin .add c f) λn=>bd (PV.one n) λo=>some [(.tup [(.agg [(.I 3),(.I 0),o]),(.I 0)])]):=bB _ _ _ _ _ _ _ _ (by kernel_rfl)
theorem aFO : aAR a b=bd (PV.whole 3 a) λc=>bd (PV.cell c 0) λd=>bd (PV.cell c 1) λe=>bd (PV.cell c 2) λf=>bd (PV.whole 3 b) λg=>bd (PV.cell g 0) λh=>bd (PV.cell g 1) λi=>bd (PV.cell g 2) λj=>bd (hE (.I 12) (.agg [d,e,f]) (.agg [h,i,j])) λk=>bd (PV.comp (hd k) 0) λl=>bd (PV.comp (hd k) 1) λm=>bd (PV.whole 3 l) λn=>
 bd (PV.cell n 0) λo=>bd (PV.cell n 1) λp=>bd (PV.cell n 2) λq=>some [(.tup [(.agg [o,p,q]),m])]:=aX _ _ _ (by kernel_rfl)
theorem aFP : aAS a b=bd (PV.whole 3 a) λc=>bd (PV.cell c 0) λd=>bd (PV.cell c 1) λe=>bd (PV.cell c 2) λf=>bd (PV.whole 3 b) λg=>bd (PV.cell g 0) λh=>bd (PV.cell g 1) λi=>bd (PV.cell g 2) λj=>bd (hE (.I 13) (.agg [d,e,f]) (.agg [h,i,j])) λk=>bd (PV.comp (hd k) 0) λl=>bd (PV.comp (hd k) 1) λm=>bd (PV.whole 3 l) λn=>
 bd (PV.cell n 0) λo=>bd (PV.cell n 1) λp=>bd (PV.cell n 2) λq=>some [(.tup [(.agg [o,p,q]),m])]:=aX _ _ _ (by kernel_rfl)
theorem aET : yJ a b=bd (PV.whole 3 a) λc=>bd (PV.cell c 0) λd=>bd (PV.cell c 1) λe=>bd (PV.cell c 2) λf=>bd (PV.whole 3 b) λg=>bd (PV.cell g 0) λh=>bd (PV.cell g 1) λi=>bd (PV.cell g 2) λj=>bd (PV.bin .eql d (.I 3)) λk=>PV.ite k (bd (PV.bin .eql h (.I 3)) λl=>PV.ite l (yK d e f h i j (.I 0) (.I 0) (.str (bs [])))
 (oA d e f h i j (.I 0) (.I 0) (.str (bs [])))) (oA d e f h i j (.I 0) (.I 0) (.str (bs []))):=aX _ _ _ (by kernel_rfl)
theorem aBO : yK a b c d e f g h i=bd (PV.bin .lss c f) λj=>bd (fH j) λk=>bd (PV.whole 3 (hd k)) λl=>bd (PV.cell l 0) λm=>bd (PV.cell l 1) λn=>bd (PV.cell l 2) λo=>some [(.tup [(.agg [m,n,o]),(.I 0)])]:=bB _ _ _ _ _ _ _ _ (by kernel_rfl)
theorem aBP : oA a b c d e f g h i=bd (PV.bin .eql a (.I 1)) λj=>PV.ite j (bd (PV.bin .eql d (.I 1)) λk=>PV.ite k (yL a b c d e f g h i) (some [(.tup [(.agg [(.I 0),(.I 0),(.str (bs []))]),(.I 1)])])) (some [(.tup [(.agg [(.I 0),(.I 0),(.str (bs []))]),(.I 1)])]):=bB _ _ _ _ _ _ _ _ (by kernel_rfl)
theorem aBQ : yL a b c d e f g h i=bd (PV.bin .lss b e) λj=>bd (fH j) λk=>bd (PV.whole 3 (hd k)) λl=>bd (PV.cell l 0) λm=>bd (PV.cell l 1) λn=>bd (PV.cell l 2) λo=>some [(.tup [(.agg [m,n,o]),(.I 0)])]:=bB _ _ _ _ _ _ _ _ (by kernel_rfl)
theorem aEU : yM a b=bd (PV.whole 3 a) λc=>bd (PV.cell c 0) λd=>bd (PV.cell c 1) λe=>bd (PV.cell c 2) λf=>bd (PV.whole 3 b) λg=>bd (PV.cell g 0) λh=>bd (PV.cell g 1) λi=>bd (PV.cell g 2) λj=>bd (PV.bin .eql d h) λk=>PV.ite k (bd (PV.bin .eql e i) λl=>PV.ite l (bd (PV.bin .eql f j) λm=>bd (fH m) λn=>bd (PV.whole 3 (hd n)) λo=>
 bd (PV.cell o 0) λp=>bd (PV.cell o 1) λq=>bd (PV.cell o 2) λr=>some [(.agg [p,q,r])]) (bd (fH (.bool false)) λs=>bd (PV.whole 3 (hd s)) λt=>bd (PV.cell t 0) λu=>bd (PV.cell t 1) λv=>bd (PV.cell t 2) λw=>some [(.agg [u,v,w])])) (bd (fH (.bool false)) λx=>bd (PV.whole 3 (hd x)) λy=>bd (PV.cell y 0) λz=>bd (PV.cell y 1) λA=>
 bd (PV.cell y 2) λB=>some [(.agg [z,A,B])]):=aX _ _ _ (by kernel_rfl)
variable (a b c d e f g h i j k l m n o p q : PV)
theorem oD : dW a=bd (PV.bin .lss a (.I 0)) λb=>PV.ite b (bd (PV.bin .lss a (.I (-9))) λc=>PV.ite c (bd (PV.bin .quo a (.I 10)) λd=>bd (PV.neg d) λe=>bd (dW e) λf=>bd (PV.bin .add (.str (bs [45])) (hd f)) λg=>bd (PV.bin .rem a (.I 10)) λh=>bd (PV.neg h) λi=>bd (dW i) λj=>bd (PV.bin .add g (hd j)) λk=>
 some [k]) (bd (PV.neg a) λl=>bd (dW l) λm=>bd (PV.bin .add (.str (bs [45])) (hd m)) λn=>some [n])) (bd (PV.bin .lss a (.I 10)) λo=>PV.ite o (bd (PV.bin .add (.I 48) a) λp=>bd (PV.conv .u8 p) λq=>bd (PV.cat 1 1 false (.lst []) (.lst [q])) λr=>bd (PV.toStr r) λs=>some [s]) (bd (PV.bin .quo a (.I 10)) λt=>bd (dW t) λu=>
 bd (PV.bin .rem a (.I 10)) λv=>bd (PV.bin .add (.I 48) v) λw=>bd (PV.conv .u8 w) λx=>bd (PV.cat 1 1 false (.lst []) (.lst [x])) λy=>bd (PV.toStr y) λz=>bd (PV.bin .add (hd u) z) λA=>some [A])):=aX _ _ _ (by kernel_rfl)
theorem aA9 : hE a b c=bd (PV.whole 3 b) λd=>bd (PV.cell d 0) λe=>bd (PV.cell d 1) λf=>bd (PV.cell d 2) λg=>bd (PV.whole 3 c) λh=>bd (PV.cell h 0) λi=>bd (PV.cell h 1) λj=>bd (PV.cell h 2) λk=>bd (PV.bin .neq e (.I 1)) λl=>PV.ite l (some [(.tup [(.agg [(.I 0),(.I 0),(.str (bs []))]),(.I 1)])])
 (bd (PV.bin .neq i (.I 1)) λm=>PV.ite m (some [(.tup [(.agg [(.I 0),(.I 0),(.str (bs []))]),(.I 1)])]) (bd (tV a f j) λn=>bd (PV.comp (hd n) 0) λo=>bd (PV.comp (hd n) 1) λp=>bd (PV.bin .neq p (.I 0)) λq=>PV.ite q (some [(.tup [(.agg [(.I 0),(.I 0),(.str (bs []))]),p])]) (bd (eW o) λr=>bd (PV.whole 3 (hd r)) λs=>
 bd (PV.cell s 0) λt=>bd (PV.cell s 1) λu=>bd (PV.cell s 2) λv=>some [(.tup [(.agg [t,u,v]),(.I 0)])]))):=aX _ _ _ (by kernel_rfl)
theorem aCG : tV a b c=bd (gF b) λd=>bd (PV.not (hd d)) λe=>PV.ite e (some [(.tup [(.I 0),(.I 2)])]) (bd (gF c) λf=>bd (PV.not (hd f)) λg=>PV.ite g (some [(.tup [(.I 0),(.I 2)])]) (bd (PV.bin .add b c) λh=>bd (PV.bin .eql a (.I 12)) λi=>PV.ite i (bd (PV.bin .sub b c) λj=>bd (gF j) λk=>
 bd (PV.not (hd k)) λl=>PV.ite l (some [(.tup [(.I 0),(.I 2)])]) (some [(.tup [j,(.I 0)])])) (bd (PV.bin .eql a (.I 13)) λm=>PV.ite m (bd (PV.bin .mul b c) λn=>bd (gF n) λo=>bd (PV.not (hd o)) λp=>PV.ite p (some [(.tup [(.I 0),(.I 2)])]) (some [(.tup [n,(.I 0)])])) (bd (gF h) λq=>bd (PV.not (hd q)) λr=>
 PV.ite r (some [(.tup [(.I 0),(.I 2)])]) (some [(.tup [h,(.I 0)])]))))):=aX _ _ _ (by kernel_rfl)
theorem qM : jA a b c d e f g h i=bd (aD (.I 9) f g h) λj=>bd (PV.bin .eql (gd j 0) (.I 0)) λk=>PV.ite k (bd (aM (.I 2) b c d e (gd j 1) (gd j 2) (gd j 3) i) λl=>bd (aD (gd l 2) (gd l 4) (gd l 5) (gd l 6)) λm=>bd (aH (.I 7) (gd m 0) (gd l 0) (gd l 1) (gd l 2) (gd l 3) (gd m 1) (gd m 2) (gd m 3) (gd l 7)) λn=>
 some [(gd n 0),(gd n 1),(gd n 2),(gd n 3),(gd n 4),(gd n 5),(gd n 6),(gd n 7)]) (bd (PV.bin .eql (gd j 0) (.I 1)) λo=>PV.ite o (bd (aM (.I 2) b c d e (gd j 1) (gd j 2) (gd j 3) i) λp=>bd (aD (gd p 2) (gd p 4) (gd p 5) (gd p 6)) λq=>bd (aH (.I 7) (gd q 0) (gd p 0) (gd p 1) (gd p 2) (gd p 3) (gd q 1) (gd q 2) (gd q 3) (gd p 7)) λr=>
 some [(gd r 0),(gd r 1),(gd r 2),(gd r 3),(gd r 4),(gd r 5),(gd r 6),(gd r 7)]) (bd (PV.bin .eql (gd j 0) (.I 2)) λs=>PV.ite s (bd (aM (.I 2) b c d e (gd j 1) (gd j 2) (gd j 3) i) λt=>bd (aD (gd t 2) (gd t 4) (gd t 5) (gd t 6)) λu=>bd (aH (.I 7) (gd u 0) (gd t 0) (gd t 1) (gd t 2) (gd t 3) (gd u 1) (gd u 2) (gd u 3) (gd t 7)) λv=>
 some [(gd v 0),(gd v 1),(gd v 2),(gd v 3),(gd v 4),(gd v 5),(gd v 6),(gd v 7)]) (bd (PV.bin .eql (gd j 0) (.I 3)) λw=>PV.ite w (bd (aM (.I 1) b c d e (gd j 1) (gd j 2) (gd j 3) i) λx=>bd (aH (.I 26) (.I 0) (gd x 0) (gd x 1) (gd x 2) (gd x 3) (gd x 4) (gd x 5) (gd x 6) (gd x 7)) λy=>some [(gd y 0),(gd y 1),(gd y 2),(gd y 3),(gd y 4),(gd y 5),(gd y 6),(gd y 7)])
 (bd (PV.bin .eql (gd j 0) (.I 4)) λz=>PV.ite z (bd (aM (.I 1) b c d e (gd j 1) (gd j 2) (gd j 3) i) λA=>bd (aH (.I 26) (.I 0) (gd A 0) (gd A 1) (gd A 2) (gd A 3) (gd A 4) (gd A 5) (gd A 6) (gd A 7)) λB=>some [(gd B 0),(gd B 1),(gd B 2),(gd B 3),(gd B 4),(gd B 5),(gd B 6),(gd B 7)]) (bd (PV.bin .eql (gd j 0) (.I 5)) λC=>
 PV.ite C (bd (aD d (gd j 1) (gd j 2) (gd j 3)) λD=>bd (aH (.I 6) (gd D 0) b c d e (gd D 1) (gd D 2) (gd D 3) i) λE=>bd (aM (.I 1) (gd E 0) (gd E 1) (gd E 2) (gd E 3) (gd E 4) (gd E 5) (gd E 6) (gd E 7)) λF=>bd (aD (.I 2) (gd F 4) (gd F 5) (gd F 6)) λG=>bd (aH (.I 22) (gd G 0) (gd F 0) (gd F 1) (gd F 2) (gd F 3) (gd G 1) (gd G 2) (gd G 3) (gd F 7)) λH=>
 some [(gd H 0),(gd H 1),(gd H 2),(gd H 3),(gd H 4),(gd H 5),(gd H 6),(gd H 7)]) (bd (PV.bin .eql (gd j 0) (.I 6)) λI=>PV.ite I (bd (PV.bin .gtr a (.I 0)) λJ=>PV.ite J (bd (lF b c d e (gd j 1) (gd j 2) (gd j 3) i) λK=>bd (PV.len (gd K 7)) λL=>bd (aH (.I 19) (.I 0) (gd K 0) (gd K 1) (gd K 2) (gd K 3) (gd K 4) (gd K 5) (gd K 6) (gd K 7)) λM=>
 bd (PV.bin .sub a (.I 1)) λN=>bd (fE N (.I 2) (gd M 0) (gd M 1) (gd M 2) (gd M 3) (gd M 4) (gd M 5) (gd M 6) (gd M 7)) λO=>bd (PV.len (gd O 7)) λP=>bd (PV.inb (gd O 7) L) λQ=>bd (PV.one P) λR=>bd (PV.setCell 2 (gd O 7) L 1 R) λS=>some [(gd O 0),(gd O 1),(gd O 2),(gd O 3),(gd O 4),(gd O 5),(gd O 6),S]) (some [b,c,d,e,(gd j 1),(gd j 2),(gd j 3),i]))
 (bd (PV.bin .gtr a (.I 0)) λT=>PV.ite T (bd (aD d (gd j 1) (gd j 2) (gd j 3)) λU=>bd (aD (.I 3) (gd U 1) (gd U 2) (gd U 3)) λV=>bd (PV.bin .gtr (gd V 0) (.I 0)) λW=>PV.ite W (bd (aH (.I 1) (.I 0) b c d e (gd V 1) (gd V 2) (gd V 3) i) λX=>bd (aH (.I 7) (gd U 0) (gd X 0) (gd X 1) (gd X 2) (gd X 3) (gd X 4) (gd X 5) (gd X 6) (gd X 7)) λY=>
 fX a (gd U 0) (gd Y 0) (gd Y 1) (gd Y 2) (gd Y 3) (gd Y 4) (gd Y 5) (gd Y 6) (gd Y 7)) (fX a (gd U 0) b c d e (gd V 1) (gd V 2) (gd V 3) i)) (some [b,c,d,e,(gd j 1),(gd j 2),(gd j 3),i])))))))):=bT _ _ _ _ (by kernel_rfl)
theorem vS : fX a b c d e f g h i j=bd (PV.len j) λk=>bd (aH (.I 6) b c d e f g h i j) λl=>bd (aD (.I 7) (gd l 4) (gd l 5) (gd l 6)) λm=>bd (aH (.I 1) (gd m 0) (gd l 0) (gd l 1) (gd l 2) (gd l 3) (gd m 1) (gd m 2) (gd m 3) (gd l 7)) λn=>bd (aH (.I 14) (.I 0) (gd n 0) (gd n 1) (gd n 2) (gd n 3) (gd n 4) (gd n 5) (gd n 6) (gd n 7)) λo=>
 bd (PV.len (gd o 7)) λp=>bd (aH (.I 19) (.I 0) (gd o 0) (gd o 1) (gd o 2) (gd o 3) (gd o 4) (gd o 5) (gd o 6) (gd o 7)) λq=>bd (PV.bin .sub a (.I 1)) λr=>bd (fE r (.I 2) (gd q 0) (gd q 1) (gd q 2) (gd q 3) (gd q 4) (gd q 5) (gd q 6) (gd q 7)) λs=>bd (aH (.I 6) b (gd s 0) (gd s 1) (gd s 2) (gd s 3) (gd s 4) (gd s 5) (gd s 6) (gd s 7)) λt=>
 bd (aH (.I 1) (.I 1) (gd t 0) (gd t 1) (gd t 2) (gd t 3) (gd t 4) (gd t 5) (gd t 6) (gd t 7)) λu=>bd (aH (.I 11) (.I 0) (gd u 0) (gd u 1) (gd u 2) (gd u 3) (gd u 4) (gd u 5) (gd u 6) (gd u 7)) λv=>bd (aH (.I 7) b (gd v 0) (gd v 1) (gd v 2) (gd v 3) (gd v 4) (gd v 5) (gd v 6) (gd v 7)) λw=>bd (aH (.I 17) k (gd w 0) (gd w 1) (gd w 2) (gd w 3) (gd w 4) (gd w 5) (gd w 6) (gd w 7)) λx=>
 bd (PV.len (gd x 7)) λy=>bd (PV.inb (gd x 7) p) λz=>bd (PV.one y) λA=>bd (PV.setCell 2 (gd x 7) p 1 A) λB=>some [(gd x 0),(gd x 1),(gd x 2),(gd x 3),(gd x 4),(gd x 5),(gd x 6),B]:=bB _ _ _ _ _ _ _ _ (by kernel_rfl)
theorem wV : gO a b c d e f g h i=bd (aD (.I 3) f g h) λj=>bd (PV.bin .add (.I 1) (gd j 0)) λk=>bd (aH (.I 20) k b c d e (gd j 1) (gd j 2) (gd j 3) i) λl=>bd (PV.bin .add k (.I 1)) λm=>bd (aD m (gd l 4) (gd l 5) (gd l 6)) λn=>dV a k (gd n 0) (gd l 0) (gd l 1) (gd l 2) (gd l 3) (gd n 1) (gd n 2) (gd n 3) (gd l 7):=bT _ _ _ _ (by kernel_rfl)
theorem uA : dV a b c d e f g h i j k=bd (PV.bin .gtr c (.I 0)) λl=>PV.ite l (bd (aH (.I 8) (.I 0) d e f g h i j k) λm=>bd (PV.bin .sub a (.I 2)) λn=>bd (aM n (gd m 0) (gd m 1) (gd m 2) (gd m 3) (gd m 4) (gd m 5) (gd m 6) (gd m 7)) λo=>bd (aD b (gd o 4) (gd o 5) (gd o 6)) λp=>
 bd (aH (.I 22) (gd p 0) (gd o 0) (gd o 1) (gd o 2) (gd o 3) (gd p 1) (gd p 2) (gd p 3) (gd o 7)) λq=>bd (PV.bin .sub c (.I 1)) λr=>dV a b r (gd q 0) (gd q 1) (gd q 2) (gd q 3) (gd q 4) (gd q 5) (gd q 6) (gd q 7)) (bd (bY (.I 3) h i j) λs=>PV.ite (gd s 0) (bd (aD b (gd s 1) (gd s 2) (gd s 3)) λt=>bd (aH (.I 21) (gd t 0) d e f g (gd t 1) (gd t 2) (gd t 3) k) λu=>
 some [(gd u 0),(gd u 1),(gd u 2),(gd u 3),(gd u 4),(gd u 5),(gd u 6),(gd u 7)]) (some [d,e,f,g,(gd s 1),(gd s 2),(gd s 3),k])):=bB _ _ _ _ _ _ _ _ (by kernel_rfl)
theorem wW : jN a b c d e f g h i=bd (PV.bin .add a (.I 1)) λj=>some [j,b,c,d,e,f,g,h,i]:=bT _ _ _ _ (by kernel_rfl)
theorem yQ : oB a=bd (PV.whole 4 a) λb=>bd (PV.cell b 0) λc=>bd (PV.cell b 1) λd=>bd (PV.cell b 2) λe=>bd (PV.cell b 3) λf=>bd (PV.cat 3 32 true (.lst []) e) λg=>bd (PV.cat 3 32 true (.lst []) f) λh=>some [c,d,g,h]:=bT _ _ _ _ (by kernel_rfl)
theorem aAd : oZ a=iR a (.I 0) (.lst []):=bT _ _ _ _ (by kernel_rfl)
theorem oE : iR a b c=bd (PV.len a) λd=>bd (PV.bin .lss b d) λe=>PV.ite e (bd (PV.at_ 1 true a b) λf=>bd (PV.cell f 0) λg=>bd (PV.cat 3 32 true (.lst []) g) λh=>bd (PV.cat 1 24 true c (.lst [(.agg [h])])) λi=>bd (PV.bin .add b (.I 1)) λj=>iR a j i) (some [c]):=bB _ _ _ _ _ _ _ _ (by kernel_rfl)
theorem aAe : gH a b c d e f g h i j k l m n=bd (PV.whole 3 a) λo=>bd (PV.cell o 0) λp=>bd (PV.cell o 1) λq=>bd (PV.cell o 2) λr=>bd (dR b c d e f g h i j k l m n) λs=>bd (PV.at_ 4 true (gd s 11) (gd s 0)) λt=>bd (PV.at_ 4 true (gd s 11) (gd s 0)) λu=>bd (PV.cell u 3) λv=>bd (PV.at_ 4 true (gd s 11) (gd s 0)) λw=>
 bd (PV.cell w 3) λx=>bd (PV.setCell 4 (gd s 11) (gd s 0) 3 .hole) λy=>bd (PV.cat 3 32 true v (.lst [(.agg [p,q,r])])) λz=>bd (PV.setCell 4 y (gd s 0) 3 z) λA=>some [(gd s 1),(gd s 2),(gd s 3),(gd s 4),(gd s 5),(gd s 6),(gd s 7),(gd s 8),(gd s 9),(gd s 10),A,(gd s 12),(gd s 13)]:=bT _ _ _ _ (by kernel_rfl)
theorem vT : bE a b c d e f g h i j k l m n o p=bd (dR d e f g h i j k l m n o p) λq=>bd (PV.at_ 4 true (gd q 11) (gd q 0)) λr=>bd (PV.at_ 4 true (gd q 11) (gd q 0)) λs=>bd (PV.cell s 3) λt=>bd (PV.at_ 4 true (gd q 11) (gd q 0)) λu=>bd (PV.cell u 3) λv=>bd (PV.setCell 4 (gd q 11) (gd q 0) 3 .hole) λw=>bd (PV.cat 3 32 true t (.lst [(.agg [a,b,c])])) λx=>
 bd (PV.setCell 4 w (gd q 0) 3 x) λy=>some [(gd q 1),(gd q 2),(gd q 3),(gd q 4),(gd q 5),(gd q 6),(gd q 7),(gd q 8),(gd q 9),(gd q 10),y,(gd q 12),(gd q 13)]:=bT _ _ _ _ (by kernel_rfl)
theorem aBa : aW a b c d e f g h i j k l m=bd (dR a b c d e f g h i j k l m) λn=>bd (PV.at_ 4 true (gd n 11) (gd n 0)) λo=>bd (PV.at_ 4 true (gd n 11) (gd n 0)) λp=>bd (PV.at_ 4 true (gd n 11) (gd n 0)) λq=>bd (PV.cell q 3) λr=>bd (PV.len r) λs=>bd (PV.bin .sub s (.I 1)) λt=>bd (PV.at_ 4 true (gd n 11) (gd n 0)) λu=>
 bd (PV.cell u 3) λv=>bd (PV.inb v t) λw=>bd (PV.at_ 4 true (gd n 11) (gd n 0)) λx=>bd (PV.cell x 3) λy=>bd (PV.at_ 3 true y t) λz=>bd (PV.whole 3 z) λA=>bd (PV.cell A 0) λB=>bd (PV.cell A 1) λC=>bd (PV.cell A 2) λD=>bd (PV.at_ 4 true (gd n 11) (gd n 0)) λE=>bd (PV.at_ 4 true (gd n 11) (gd n 0)) λF=>bd (PV.at_ 4 true (gd n 11) (gd n 0)) λG=>
 bd (PV.cell G 3) λH=>bd (PV.len H) λI=>bd (PV.bin .sub I (.I 1)) λJ=>bd (PV.at_ 4 true (gd n 11) (gd n 0)) λK=>bd (PV.cell K 3) λL=>bd (PV.cut 3 true L (.I 0) J) λM=>bd (PV.at_ 4 true (gd n 11) (gd n 0)) λN=>bd (PV.cell N 3) λO=>bd (PV.cut 3 true O (.I 0) J) λP=>bd (PV.at_ 4 true (gd n 11) (gd n 0)) λQ=>bd (PV.cell Q 3) λR=>
 bd (PV.setCell 4 (gd n 11) (gd n 0) 3 .hole) λS=>bd (PV.setCell 4 S (gd n 0) 3 P) λT=>some [(.agg [B,C,D]),(gd n 1),(gd n 2),(gd n 3),(gd n 4),(gd n 5),(gd n 6),(gd n 7),(gd n 8),(gd n 9),(gd n 10),T,(gd n 12),(gd n 13)]:=bT _ _ _ _ (by kernel_rfl)
theorem aAf : lE a b c d e f g h i j k l m n o=bd (PV.at_ 3 true d a) λp=>bd (PV.whole 3 p) λq=>bd (PV.cell q 0) λr=>bd (PV.cell q 1) λs=>bd (PV.cell q 2) λt=>bd (PV.len m) λu=>bd (PV.bin .eql u (.I 24)) λv=>PV.ite v (some [c,d,e,f,g,h,i,j,k,(.I 6),m,n,o]) (bd (PV.zeros 32 (.agg [(.I 0),(.I 0),(.str (bs []))]) s) λw=>
 bd (PV.bin .leq s s) λx=>PV.ite x (bd (PV.zeros 32 (.agg [(.I 0),(.I 0),(.str (bs []))]) s) λy=>bd (PV.bin .sub r (.I 1)) λz=>iS a b z c d e f g h i j k l m n o y) (none)):=bT _ _ _ _ (by kernel_rfl)
theorem oF : iS a b c d e f g h i j k l m n o p q=bd (PV.bin .geq c (.I 0)) λr=>PV.ite r (bd (aW d e f g h i j k l m n o p) λs=>bd (PV.inb q c) λt=>bd (PV.setAt 3 true q c (gd s 0)) λu=>bd (PV.bin .sub c (.I 1)) λv=>iS a b v (gd s 1) (gd s 2) (gd s 3) (gd s 4) (gd s 5) (gd s 6) (gd s 7) (gd s 8) (gd s 9) (gd s 10) (gd s 11) (gd s 12) (gd s 13) u)
 (PV.ite b (bd (aW d e f g h i j k l m n o p) λw=>iD a (gd w 1) (gd w 2) (gd w 3) (gd w 4) (gd w 5) (gd w 6) (gd w 7) (gd w 8) (gd w 9) (gd w 10) (gd w 11) (gd w 12) (gd w 13) q) (iD a d e f g h i j k l m n o p q)):=bB _ _ _ _ _ _ _ _ (by kernel_rfl)
theorem uQ : iD a b c d e f g h i j k l m n o=bd (PV.one a) λp=>bd (PV.cat 4 64 true l (.lst [(.agg [p,(.I 0),o,(.lst [])])])) λq=>some [b,c,d,e,f,g,h,i,j,k,q,m,n]:=bB _ _ _ _ _ _ _ _ (by kernel_rfl)
theorem aAg : lF a b c d e f g h=bd (aM (.I 1) a b c d e f g h) λi=>bd (aM (.I 0) (gd i 0) (gd i 1) (gd i 2) (gd i 3) (gd i 4) (gd i 5) (gd i 6) (gd i 7)) λj=>bd (aD (.I 2) (gd j 4) (gd j 5) (gd j 6)) λk=>bd (PV.inb (.lst [(.I 14),(.I 15)]) (gd k 0)) λl=>bd (PV.at_ 1 false (.lst [(.I 14),(.I 15)]) (gd k 0)) λm=>
 bd (aH m (.I 0) (gd j 0) (gd j 1) (gd j 2) (gd j 3) (gd k 1) (gd k 2) (gd k 3) (gd j 7)) λn=>bd (bY (.I 4) (gd n 4) (gd n 5) (gd n 6)) λo=>PV.ite (gd o 0) (bd (aH (.I 16) (.I 0) (gd n 0) (gd n 1) (gd n 2) (gd n 3) (gd o 1) (gd o 2) (gd o 3) (gd n 7)) λp=>some [(gd p 0),(gd p 1),(gd p 2),(gd p 3),(gd p 4),(gd p 5),(gd p 6),(gd p 7)])
 (some [(gd n 0),(gd n 1),(gd n 2),(gd n 3),(gd o 1),(gd o 2),(gd o 3),(gd n 7)]):=bT _ _ _ _ (by kernel_rfl)
end
end Go.Proofs.YtllmobkkbpdchaaGreat

namespace Go.Proofs.YtllmobkkbpdchaaGreat
noncomputable section
open Go
attribute [local irreducible] bd PV.ite PV.guardFlat PV.guardOwn PV.whole PV.one PV.cell PV.sub PV.at_ PV.len PV.slen PV.chr PV.beq PV.peq PV.ceq PV.bin PV.neg PV.not PV.conv PV.cut PV.scut PV.cat PV.setAt PV.setCell PV.ncopy PV.copyIn PV.zeros PV.toStr PV.toBytes PV.deref PV.isPtr PV.comp PV.inb PV.off PV.imin PV.imax PV.sel PV.apply PV.isLst PV.isInt PV.ix PV.nilT
def Bts (l : List Int) : Prop:=(∀ x∈l,0≤x∧x≤255)∧l.length≤1048576
def aNd (l : List Int) (n a : Int) (r : R) : Prop:=∃ v a' s' : Int,r = [.I v,aZ l,.I a',.I s']∧0≤v∧(v<n∨v=0)∧a≤a'∧a'≤a+1∧0≤s'∧s'<65521
theorem aLM {l : List Int} {n x a s b : Int} (hn : 2≤n) (hx : 0≤x) (h0 : 0≤a) (h1 : a≤4611686018427387904) (hs : 0≤s∧s<65521) (hb : b=a) :
 Ok (aNd l n b) (fW (.I n) (.I x) (aZ l) (.I a) (.I s)):=by
 rw [vQ]
 subst hb
 repeat' (first | refine aJ ?_ | refine dX ?_ | refine cD ?_ | refine dY ?_ | refine aG ?_ | refine bM ?_ | (refine aC (λ_=>?_) (λ_=>?_)) | (refine aN (λ_=>?_) (λ_=>?_)) | refine aS (λ_=>?_) (λ_=>?_) | refine aP (by omega) ?_ | refine bF (by omega) ?_ | refine iH (by omega) (by omega) ?_ | refine iU (by omega) (by omega) (by omega) ?_ | refine iT (by omega) ?_ | refine gV (by omega) ?_ | refine bN ?_ | refine cX ?_ | refine dQ ?_ | refine bG ?_ | refine gW (by omega) ?_ | refine aT rfl ?_ | refine aA rfl ?_ | refine aU rfl ?_ | refine aE rfl ?_)
 exact aB ⟨_,_,_,rfl,Int.emod_nonneg _ (by omega),.inl (Int.emod_lt_of_pos _ (by omega)),by omega,by omega,hs⟩
theorem aKL {l : List Int} (hl : Bts l) {n a s : Int} (hn : n≤1099511627776) (h0 : 0≤a) (h1 : a≤4611686018427387904) (hs : 0≤s∧s<65521) :
 Ok (aNd l n a) (aD (.I n) (aZ l) (.I a) (.I s)):=by
 rw [zZ]
 obtain ⟨hb,hlen⟩:=hl
 refine aJ ?_
 refine aC (λ_=>aB ⟨0,a,s,rfl,by omega,.inr rfl,by omega,by omega,hs⟩) (λh=>?_)
 refine bN ?_
 refine aJ ?_
 refine aC (λh2=>?_) (λh2=>?_)
 ·refine aCN h0 h2 (λx hx _=>?_)
  have:=hb x hx
  refine gW (by omega) ?_
  exact aLM (by omega) (by omega) h0 h1 hs rfl
 ·repeat' (first | refine aJ ?_ | refine dX ?_ | refine cD ?_ | refine dY ?_ | refine aG ?_ | refine bM ?_ | (refine aC (λ_=>?_) (λ_=>?_)) | (refine aN (λ_=>?_) (λ_=>?_)) | refine aS (λ_=>?_) (λ_=>?_) | refine aP (by omega) ?_ | refine bF (by omega) ?_ | refine iH (by omega) (by omega) ?_ | refine iU (by omega) (by omega) (by omega) ?_ | refine iT (by omega) ?_ | refine gV (by omega) ?_ | refine bN ?_ | refine cX ?_ | refine dQ ?_ | refine bG ?_ | refine gW (by omega) ?_ | refine aT rfl ?_ | refine aA rfl ?_ | refine aU rfl ?_ | refine aE rfl ?_)
  ·refine aCN (Int.emod_nonneg _ (by omega)) (Int.emod_lt_of_pos _ (by omega)) (λx hx _=>?_)
   have:=hb x hx
   repeat' (first | refine aJ ?_ | refine dX ?_ | refine cD ?_ | refine dY ?_ | refine aG ?_ | refine bM ?_ | (refine aC (λ_=>?_) (λ_=>?_)) | (refine aN (λ_=>?_) (λ_=>?_)) | refine aS (λ_=>?_) (λ_=>?_) | refine aP (by omega) ?_ | refine bF (by omega) ?_ | refine iH (by omega) (by omega) ?_ | refine iU (by omega) (by omega) (by omega) ?_ | refine iT (by omega) ?_ | refine gV (by omega) ?_ | refine bN ?_ | refine cX ?_ | refine dQ ?_ | refine bG ?_ | refine gW (by omega) ?_ | refine aT rfl ?_ | refine aA rfl ?_ | refine aU rfl ?_ | refine aE rfl ?_)
   exact aLM (by omega) (by omega) h0 h1 (by omega) rfl
  ·exact aLM (by omega) (by omega) h0 h1 (by omega) rfl
section
variable {P : R → Prop} {k : R → OR} {l : List Int} {a s : Int}
theorem bC (hl : Bts l) {n : Int} (hn : n≤1099511627776) (h0 : 0≤a∧a≤4611686018427387904∧0≤s∧s<65521)
 (h : ∀ v a' s' : Int,0≤v∧(v<n∨v=0)∧a≤a'∧a'≤a+1∧0≤s'∧s'<65521→Ok P (k [.I v,aZ l,.I a',.I s'])) :
 Ok P (bd (aD (.I n) (aZ l) (.I a) (.I s)) k):=
 aI (aKL hl hn h0.1 h0.2.1 h0.2.2) (λr ⟨v,a',s',hr,h1⟩=>by rw [hr];exact h v a' s' h1)
theorem iF (hl : Bts l) {n : Int} (hn : 1≤n∧n≤1099511627776) (h0 : 0≤a∧a≤4611686018427387904∧0≤s∧s<65521)
 (h : ∀ (v : Bool) (a' s' : Int),a≤a'∧a'≤a+1∧0≤s'∧s'<65521→Ok P (k [.bool v,aZ l,.I a',.I s'])) :
 Ok P (bd (bY (.I n) (aZ l) (.I a) (.I s)) k):=by
 refine aI (Q:=λr=>∃ (v : Bool) (a' s' : Int),r = [.bool v,aZ l,.I a',.I s']∧a≤a'∧a'≤a+1∧0≤s'∧s'<65521) ?_ (λr ⟨v,a',s',hr,h1⟩=>by rw [hr];exact h v a' s' h1)
 rw [zX]
 refine bC hl (by omega) h0 (λv a' s' h1=>?_)
 repeat' (first | refine aJ ?_ | refine dX ?_ | refine cD ?_ | refine dY ?_ | refine aG ?_ | refine bM ?_ | (refine aC (λ_=>?_) (λ_=>?_)) | (refine aN (λ_=>?_) (λ_=>?_)) | refine aS (λ_=>?_) (λ_=>?_) | refine aP (by omega) ?_ | refine bF (by omega) ?_ | refine iH (by omega) (by omega) ?_ | refine iU (by omega) (by omega) (by omega) ?_ | refine iT (by omega) ?_ | refine gV (by omega) ?_ | refine bN ?_ | refine cX ?_ | refine dQ ?_ | refine bG ?_ | refine gW (by omega) ?_ | refine aT rfl ?_ | refine aA rfl ?_ | refine aU rfl ?_ | refine aE rfl ?_)
 exact aB ⟨_,_,_,rfl,h1.2.2⟩
theorem aMD (hl : Bts l) {n : Int} (hn : 1≤n∧n≤1000) (h0 : 0≤a∧a≤4611686018427387904∧0≤s∧s<65521)
 (h : ∀ v a' s' : Int,0≤v∧v≤n∧a≤a'∧a'≤a+1∧0≤s'∧s'<65521→Ok P (k [.I v,aZ l,.I a',.I s'])) :
 Ok P (bd (oY (.I n) (aZ l) (.I a) (.I s)) k):=by
 refine aI (Q:=λr=>∃ (v a' s' : Int),r = [.I v,aZ l,.I a',.I s']∧0≤v∧v≤n∧a≤a'∧a'≤a+1∧0≤s'∧s'<65521) ?_ (λr ⟨v,a',s',hr,h1⟩=>by rw [hr];exact h v a' s' h1)
 rw [aAc]
 have:=hl.2
 repeat' (first | refine aJ ?_ | refine dX ?_ | refine cD ?_ | refine dY ?_ | refine aG ?_ | refine bM ?_ | (refine aC (λ_=>?_) (λ_=>?_)) | (refine aN (λ_=>?_) (λ_=>?_)) | refine aS (λ_=>?_) (λ_=>?_) | refine aP (by omega) ?_ | refine bF (by omega) ?_ | refine iH (by omega) (by omega) ?_ | refine iU (by omega) (by omega) (by omega) ?_ | refine iT (by omega) ?_ | refine gV (by omega) ?_ | refine bN ?_ | refine cX ?_ | refine dQ ?_ | refine bG ?_ | refine gW (by omega) ?_ | refine aT rfl ?_ | refine aA rfl ?_ | refine aU rfl ?_ | refine aE rfl ?_)
 ·refine bC hl (by omega) h0 (λv a' s' h1=>?_)
  exact aB ⟨_,_,_,rfl,by omega,by omega,h1.2.2⟩
 ·refine bC hl (by omega) h0 (λv a' s' h1=>?_)
  exact aB ⟨_,_,_,rfl,by omega,by omega,h1.2.2⟩
theorem aME {k : PV→OR} {xs : List Int} {i : Int} (h0 : 0≤i) (h1 : i<xs.length) (h : ∀ x,x∈xs→Ok P (k (.I x))) : Ok P (bd (PV.at_ 1 false (.lst (xs.map PV.I)) (.I i)) k):=by
 refine rG h0 (by rw [List.length_map];exact h1) (λx hx=>?_) (λx hx _=>?_)
 ·obtain ⟨y,_,rfl⟩:=List.mem_map.1 hx;rfl
 ·obtain ⟨y,hy,rfl⟩:=List.mem_map.1 hx;exact h y hy
theorem aGc (hl : Bts l) (h0 : 0≤a∧a≤4611686018427387900∧0≤s∧s<65521)
 (h : ∀ v a' s' : Int,-9223372036854775808≤v∧v≤9223372036854775807∧a≤a'∧a'≤a+2∧0≤s'∧s'<65521→Ok P (k [.I v,aZ l,.I a',.I s'])) :
 Ok P (bd (eC (aZ l) (.I a) (.I s)) k):=by
 refine aI (Q:=λr=>∃ (v a' s' : Int),r = [.I v,aZ l,.I a',.I s']∧-9223372036854775808≤v∧v≤9223372036854775807∧a≤a'∧a'≤a+2∧0≤s'∧s'<65521) ?_ (λr ⟨v,a',s',hr,h1⟩=>by rw [hr];exact h v a' s' h1)
 rw [wU]
 refine bC hl (by omega) (by omega) (λv a1 s1 h1=>?_)
 repeat' (first | refine aJ ?_ | refine dX ?_ | refine cD ?_ | refine dY ?_ | refine aG ?_ | refine bM ?_ | (refine aC (λ_=>?_) (λ_=>?_)) | (refine aN (λ_=>?_) (λ_=>?_)) | refine aS (λ_=>?_) (λ_=>?_) | refine aP (by omega) ?_ | refine bF (by omega) ?_ | refine iH (by omega) (by omega) ?_ | refine iU (by omega) (by omega) (by omega) ?_ | refine iT (by omega) ?_ | refine gV (by omega) ?_ | refine bN ?_ | refine cX ?_ | refine dQ ?_ | refine bG ?_ | refine gW (by omega) ?_ | refine aT rfl ?_ | refine aA rfl ?_ | refine aU rfl ?_ | refine aE rfl ?_)
 ·refine bC hl (by omega) (by omega) (λv2 a2 s2 h2=>?_)
  repeat' (first | refine aJ ?_ | refine dX ?_ | refine cD ?_ | refine dY ?_ | refine aG ?_ | refine bM ?_ | (refine aC (λ_=>?_) (λ_=>?_)) | (refine aN (λ_=>?_) (λ_=>?_)) | refine aS (λ_=>?_) (λ_=>?_) | refine aP (by omega) ?_ | refine bF (by omega) ?_ | refine iH (by omega) (by omega) ?_ | refine iU (by omega) (by omega) (by omega) ?_ | refine iT (by omega) ?_ | refine gV (by omega) ?_ | refine bN ?_ | refine cX ?_ | refine dQ ?_ | refine bG ?_ | refine gW (by omega) ?_ | refine aT rfl ?_ | refine aA rfl ?_ | refine aU rfl ?_ | refine aE rfl ?_)
  exact aB ⟨_,_,_,rfl,by omega,by omega,by omega,by omega,by omega,by omega⟩
 ·refine bC hl (by omega) (by omega) (λv2 a2 s2 h2=>?_)
  refine cT (by omega) (by simp;omega) ?_
  refine aME (xs:=[1000000000,-1000000000,1000000001,-1000000001,9223372036854775807,-9223372036854775808,4611686018427387904,31623]) (by omega) (by simp;omega) (λx hx=>?_)
  have hx : -9223372036854775808≤x∧x≤9223372036854775807:=by
   simp only [List.mem_cons,List.not_mem_nil,or_false] at hx
   omega
  exact aB ⟨_,_,_,rfl,by omega,by omega,by omega,by omega,by omega,by omega⟩
 ·refine bC hl (by omega) (by omega) (λv2 a2 s2 h2=>?_)
  repeat' (first | refine aJ ?_ | refine dX ?_ | refine cD ?_ | refine dY ?_ | refine aG ?_ | refine bM ?_ | (refine aC (λ_=>?_) (λ_=>?_)) | (refine aN (λ_=>?_) (λ_=>?_)) | refine aS (λ_=>?_) (λ_=>?_) | refine aP (by omega) ?_ | refine bF (by omega) ?_ | refine iH (by omega) (by omega) ?_ | refine iU (by omega) (by omega) (by omega) ?_ | refine iT (by omega) ?_ | refine gV (by omega) ?_ | refine bN ?_ | refine cX ?_ | refine dQ ?_ | refine bG ?_ | refine gW (by omega) ?_ | refine aT rfl ?_ | refine aA rfl ?_ | refine aU rfl ?_ | refine aE rfl ?_)
  exact aB ⟨_,_,_,rfl,by omega,by omega,by omega,by omega,by omega,by omega⟩
end
structure bP where
 o : Int
 a : Int
 deriving DecidableEq
structure cZ where
 p : Int
 lc : Int
 code : List bP
 deriving DecidableEq
structure dT where
 texts : List ByteArray
 funcs : List cZ
def bP.pv (x : bP) : PV:=.agg [.I x.o,.I x.a]
def cZ.pv (f : cZ) : PV:=.agg [.I f.p,.I f.lc,.lst (f.code.map bP.pv)]
def dT.pv (m : dT) : PV:=.agg [.lst (m.texts.map PV.str),.lst (m.funcs.map cZ.pv)]
def jU (n lo hi : Int) : Bool:=decide (lo≤n)&&decide (n≤hi)
def chB (c : UInt8) : Bool:=!(decide ((c.toNat : Int)<32))&&(!(decide ((126 : Int)<c.toNat))&&!(decide ((c.toNat : Int)=34)))
def iL (s : ByteArray) : Bool:=decide ((s.size : Int)≤60)&&s.data.toList.all chB
def bW (nt nf lc nc o a : Int) : Bool:=
 if o=1 then jU a (-1000000000) 1000000000 else if o=2 then jU a 0 1 else if o=3 then jU a 0 (nt - 1) else if o=5 then jU a 0 (nf - 1) else if o=24 then jU a 0 (nf - 1)
 else if o=6 then jU a 0 (lc - 1) else if o=7 then jU a 0 (lc - 1) else if o=17 then jU a 0 (nc - 1) else if o=18 then jU a 0 (nc - 1) else if o=19 then jU a 0 (nc - 1)
 else if o=20 then jU a 0 6 else if o=21 then jU a 0 5 else if o=22 then jU a 0 5 else if o=23 then jU a 0 6 else jU o 1 26&&decide (a=0)
def sD (nt nf : Int) (f : cZ) : Bool:=jU f.p 0 6&&(jU f.lc f.p 12&&(jU f.code.length 1 120&&f.code.all λx=>bW nt nf f.lc f.code.length x.o x.a))
def dT.okB (m : dT) : Bool:=jU m.funcs.length 1 12&&(decide ((m.texts.length : Int)≤20)&&(m.texts.all iL&&m.funcs.all (sD m.texts.length m.funcs.length)))
def dT.sized (m : dT) : Prop:=m.texts.length≤2097152∧m.funcs.length≤2097152∧(∀ t∈m.texts,t.size≤2097152)∧∀ f∈m.funcs,f.code.length≤1000000000
section
variable {P : R → Prop} {k : PV → OR} {α : Type} {f : α → PV} {xs : List α}
theorem aQ {s : Nat} {g : Bool} {kk : IntKind} {i : Nat} (hi : i<xs.length) (hel : ∀ a,(f a).isEl s g=true) (h : Ok P (k (f xs[i]))) : Ok P (bd (PV.at_ s g (.lst (xs.map f)) (.int kk (i : Int))) k):=by
 refine rG (by omega) (by rw [List.length_map];omega) (λx hx=>?_) (λx _ hx=>?_)
 ·obtain ⟨a,_,rfl⟩:=List.mem_map.1 hx;exact hel a
 ·rw [Int.toNat_natCast,List.getElem?_map,List.getElem?_eq_getElem hi] at hx
  cases hx
  exact h
theorem aF (h : Ok P (k (.I xs.length))) : Ok P (bd (PV.len (.lst (xs.map f))) k):=by
 refine cX ?_
 rw [List.length_map]
 exact h
theorem aNr {s : ByteArray} {i : Nat} (hi : i<s.data.toList.length) : s[i]? = some s.data.toList[i]:=by
 have h : i<s.size:=by
  have e : s.size=s.data.toList.length:=by rw [Array.length_toList];rfl
  rw [e];exact hi
 rw [getElem?_pos s i h,Array.getElem_toList]
 rfl
theorem aCH {s : ByteArray} {kk : IntKind} {i : Nat} (hi : i<s.data.toList.length) (h : Ok P (k (.int .u8 (s.data.toList[i].toNat : Int)))) : Ok P (bd (PV.chr (.str s) (.int kk (i : Int))) k):=by
 refine cU _ ?_ h
 simp only [PV.chr]
 rw [if_pos (by omega),Int.toNat_natCast,aNr hi]
theorem jC {k : R→OR} {n lo hi : Int} (h : Ok P (k [.bool (jU n lo hi)])) : Ok P (bd (cE (.I n) (.I lo) (.I hi)) k):=by
 refine aI (Q:=λr=>r = [.bool (jU n lo hi)]) ?_ (λr hr=>by rw [hr];exact h)
 rw [aDu]
 refine dX (aC (λh1=>dX (aB ?_)) (λh1=>aB ?_))
 ·simp [jU,h1]
 ·simp [jU,h1]
theorem eK {k : R→OR} {n lo hi : Int} (h : Ok P (k [.bool (jU n lo hi)])) : Ok P (bd (aL (.I n) (.I lo) (.I hi)) k):=by
 refine aI (Q:=λr=>r = [.bool (jU n lo hi)]) ?_ (λr hr=>by rw [hr];exact h)
 rw [aA1]
 refine dY (aC (λh1=>dX (aB ?_)) (λh1=>aB ?_))
 ·simp [jU,h1]
 ·simp [jU,h1]
theorem iG {k : R→OR} {n m : Int} (hm : -1000000000≤m∧m≤1000000000) (h : Ok P (k [.bool (jU n 0 (m - 1))])) : Ok P (bd (cN (.I n) (.I m)) k):=by
 refine aI (Q:=λr=>r = [.bool (jU n 0 (m - 1))]) ?_ (λr hr=>by rw [hr];exact h)
 rw [aDs]
 exact bF (by omega) (jC (aB rfl))
theorem aLN {k : R→OR} {n : Int} (h : Ok P (k [.bool (jU n (-1000000000) 1000000000)])) : Ok P (bd (aAK (.I n)) k):=by
 refine aI (Q:=λr=>r = [.bool (jU n (-1000000000) 1000000000)]) ?_ (λr hr=>by rw [hr];exact h)
 rw [aFF]
 exact jC (aB rfl)
end
theorem uR {α : Type} {xs : List α} {i : Nat} (hi : i<xs.length) (p : α→Bool) : (xs.drop i).all p=(p xs[i]&&(xs.drop (i+1)).all p):=by
 rw [List.drop_eq_getElem_cons hi,List.all_cons]
theorem aNe {c : UInt8} (h : (c.toNat : Int)<32) : chB c=false:=by unfold chB;rw [decide_eq_true h];rfl
theorem aNf {c : UInt8} (h : (126 : Int)<c.toNat) : chB c=false:=by unfold chB;rw [decide_eq_true h];simp
theorem aNg {c : UInt8} (h : (c.toNat : Int)=34) : chB c=false:=by unfold chB;rw [decide_eq_true h];simp
theorem aEV {s : ByteArray} (hs : s.size≤2097152) : ∀ (j i : Nat),s.data.toList.length - i=j→i≤s.data.toList.length→
 Ok (λr=>r = [.bool ((s.data.toList.drop i).all chB)]) (mT (.str s) (.I i)):=by
 have hsz : s.size=s.data.toList.length:=by rw [Array.length_toList];rfl
 intro j
 induction j with
 | zero=>
   intro i h1 h2
   have : i=s.data.toList.length:=by omega
   rw [rZ]
   refine dQ (aJ (aC (λh=>by omega) (λ_=>aB ?_)))
   rw [this,List.drop_length];rfl
 | succ j ih=>
   intro i h1 h2
   have hi : i<s.data.toList.length:=by omega
   rw [rZ,uR hi]
   refine dQ (aJ (aC (λ_=>?_) (λh=>by omega)))
   refine aCH hi (aJ (aC (λh=>aB (by rw [aNe h];rfl)) (λh3=>?_)))
   refine aCH hi (cD (aC (λh=>aB (by rw [aNf h];rfl)) (λh4=>?_)))
   refine aCH hi (aG (aC (λh=>aB (by rw [aNg h];rfl)) (λh5=>?_)))
   refine aP (by omega) ((ih (i+1) (by omega) (by omega)).mono ?_)
   rintro r rfl
   have : chB s.data.toList[i]=true:=by unfold chB;rw [decide_eq_false h3,decide_eq_false h4,decide_eq_false h5];rfl
   rw [this,Bool.true_and]
theorem aJ1 {P : R→Prop} {k : R→OR} {s : ByteArray} (hs : s.size≤2097152) (h : Ok P (k [.bool (iL s)])) : Ok P (bd (nX (.str s)) k):=by
 refine aI (Q:=λr=>r = [.bool (iL s)]) ?_ (λr hr=>by rw [hr];exact h)
 rw [aDy]
 refine dQ (cD (aC (λh=>aB ?_) (λh=>?_)))
 ·have : ¬ ((s.size : Int)≤60):=by omega
  simp [iL,this]
 ·refine (aEV hs _ 0 rfl (by omega)).mono ?_
  rintro r rfl
  have : (s.size : Int)≤60:=by omega
  rw [List.drop_zero]
  simp [iL,this]
theorem aEW {s : ByteArray} (hs : s.size≤2097152) : ∀ (j i : Nat),s.data.toList.length - i=j→i≤s.data.toList.length→
 Ok (λr=>r = [.bool (decide ((s.size : Int)≤60)&&(s.data.toList.drop i).all chB)]) (nU (.str s) (.I s.size) (.I i)):=by
 have hsz : s.size=s.data.toList.length:=by rw [Array.length_toList];rfl
 intro j
 induction j with
 | zero=>
   intro i h1 h2
   have : i=s.data.toList.length:=by omega
   rw [sZ]
   refine aJ (aC (λh=>by omega) (λ_=>dQ (dX (aB ?_))))
   rw [this,List.drop_length]
   simp
 | succ j ih=>
   intro i h1 h2
   have hi : i<s.data.toList.length:=by omega
   rw [sZ,uR hi]
   refine aJ (aC (λ_=>?_) (λh=>by omega))
   refine aCH hi (aJ (aC (λh=>aB (by rw [aNe h];simp)) (λh3=>?_)))
   refine aCH hi (cD (aC (λh=>aB (by rw [aNf h];simp)) (λh4=>?_)))
   refine aCH hi (aG (aC (λh=>aB (by rw [aNg h];simp)) (λh5=>?_)))
   refine aP (by omega) ((ih (i+1) (by omega) (by omega)).mono ?_)
   rintro r rfl
   have : chB s.data.toList[i]=true:=by unfold chB;rw [decide_eq_false h3,decide_eq_false h4,decide_eq_false h5];rfl
   rw [this,Bool.true_and]
theorem aKN {s : ByteArray} (hs : s.size≤2097152) : Ok (λr=>r = [.bool (iL s)]) (yF (.str s)):=by
 rw [aEM]
 refine dQ ((aEW hs _ 0 rfl (by omega)).mono ?_)
 rintro r rfl
 rw [List.drop_zero]
 rfl
theorem aLO {ts : List ByteArray} {fs : List cZ} {i : Nat} {x : bP} (ht : ts.length≤2097152) (hf : fs.length≤2097152) (hi : i<fs.length) (hlc : 0≤fs[i].lc∧fs[i].lc≤12) (hc : fs[i].code.length≤1000) :
 Ok (λr=>r = [.bool (bW ts.length fs.length fs[i].lc fs[i].code.length x.o x.a)]) (aAM (.agg [.lst (ts.map PV.str),.lst (fs.map cZ.pv)]) (.I i) x.pv):=by
 rw [aFI]
 refine aE rfl (aA rfl (aA rfl (aE rfl (aA rfl (aA rfl ?_)))))
 refine aF (bF (by omega) (eK (bG ?_)))
 have hb : jU (i : Int) 0 ((fs.length : Int) - 1)=true:=by
  simp only [jU,Bool.and_eq_true,decide_eq_true_eq]
  omega
 rw [hb]
 refine cB ?_
 refine aG (aC (λh=>eK (aB (by simp [hd,bW,h]))) (λh1=>?_))
 refine aG (aC (λh=>eK (aB (by simp [hd,bW,h]))) (λh2=>?_))
 refine aG (aC (λh=>aF (bF (by omega) (eK (aB (by simp [hd,bW,h]))))) (λh3=>?_))
 refine aG (aC (λh=>aF (bF (by omega) (eK (aB (by simp [hd,bW,h]))))) (λh5=>?_))
 refine aG (aC (λh=>aF (bF (by omega) (eK (aB (by simp [hd,bW,h]))))) (λh24=>?_))
 refine aG (aC (λh=>aQ hi (λ_=>rfl) (aA rfl (bF (by omega) (eK (aB (by simp [hd,bW,h])))))) (λh6=>?_))
 refine aG (aC (λh=>aQ hi (λ_=>rfl) (aA rfl (bF (by omega) (eK (aB (by simp [hd,bW,h])))))) (λh7=>?_))
 refine aG (aC (λh=>aQ hi (λ_=>rfl) (aA rfl (aF (bF (by omega) (eK (aB (by simp [hd,bW,h]))))))) (λh17=>?_))
 refine aG (aC (λh=>aQ hi (λ_=>rfl) (aA rfl (aF (bF (by omega) (eK (aB (by simp [hd,bW,h]))))))) (λh18=>?_))
 refine aG (aC (λh=>aQ hi (λ_=>rfl) (aA rfl (aF (bF (by omega) (eK (aB (by simp [hd,bW,h]))))))) (λh19=>?_))
 refine aG (aC (λh=>eK (aB (by simp [hd,bW,h]))) (λh20=>?_))
 refine aG (aC (λh=>eK (aB (by simp [hd,bW,h]))) (λh21=>?_))
 refine aG (aC (λh=>eK (aB (by simp [hd,bW,h]))) (λh22=>?_))
 refine aG (aC (λh=>eK (aB (by simp [hd,bW,h]))) (λh23=>?_))
 refine eK (aS (λhb=>aG (aB (by simp [hd,bW,hb,h1,h2,h3,h5,h24,h6,h7,h17,h18,h19,h20,h21,h22,h23]))) (λhb=>aB (by simp [hd,bW,hb,h1,h2,h3,h5,h24,h6,h7,h17,h18,h19,h20,h21,h22,h23])))
theorem aLP {ts : List ByteArray} {fs : List cZ} {f : cZ} {x : bP} (ht : ts.length≤2097152) (hf : fs.length≤2097152) (hlc : 0≤f.lc∧f.lc≤12) (hc : f.code.length≤1000) :
 Ok (λr=>r = [.bool (bW ts.length fs.length f.lc f.code.length x.o x.a)]) (aAJ (.agg [.lst (ts.map PV.str),.lst (fs.map cZ.pv)]) f.pv x.pv):=by
 rw [aFE]
 refine aE rfl (aA rfl (aA rfl (aE rfl (aA rfl (aA rfl (aA rfl (aE rfl (aA rfl (aA rfl ?_)))))))))
 refine aG (aC (λh=>aLN (aB (by simp [hd,bW,h]))) (λh1=>?_))
 refine aG (aC (λh=>jC (aB (by simp [hd,bW,h]))) (λh2=>?_))
 refine aG (aC (λh=>aF (iG (by omega) (aB (by simp [hd,bW,h])))) (λh3=>?_))
 refine aG (aC (λh=>aF (iG (by omega) (aB (by simp [hd,bW,h])))) (λh5=>?_))
 refine aG (aC (λh=>aF (iG (by omega) (aB (by simp [hd,bW,h])))) (λh24=>?_))
 refine aG (aC (λh=>iG (by omega) (aB (by simp [hd,bW,h]))) (λh6=>?_))
 refine aG (aC (λh=>iG (by omega) (aB (by simp [hd,bW,h]))) (λh7=>?_))
 refine aG (aC (λh=>aF (iG (by omega) (aB (by simp [hd,bW,h])))) (λh17=>?_))
 refine aG (aC (λh=>aF (iG (by omega) (aB (by simp [hd,bW,h])))) (λh18=>?_))
 refine aG (aC (λh=>aF (iG (by omega) (aB (by simp [hd,bW,h])))) (λh19=>?_))
 refine aG (aC (λh=>jC (aB (by simp [hd,bW,h]))) (λh20=>?_))
 refine aG (aC (λh=>iG (by omega) (aB (by simp [hd,bW,h]))) (λh21=>?_))
 refine aG (aC (λh=>iG (by omega) (aB (by simp [hd,bW,h]))) (λh22=>?_))
 refine aG (aC (λh=>jC (aB (by simp [hd,bW,h]))) (λh23=>?_))
 refine jC (aS (λhb=>aG (aB (by simp [hd,bW,hb,h1,h2,h3,h5,h24,h6,h7,h17,h18,h19,h20,h21,h22,h23]))) (λhb=>aB (by simp [hd,bW,hb,h1,h2,h3,h5,h24,h6,h7,h17,h18,h19,h20,h21,h22,h23])))
section
variable {ts : List ByteArray} {fs : List cZ} (ht : ts.length ≤ 2097152) (hf : fs.length ≤ 2097152)
include ht hf
theorem aG3 {i : Nat} (hi : i<fs.length) (hlc : 0≤fs[i].lc∧fs[i].lc≤12) (hc : fs[i].code.length≤1000) {b : Bool} (hb : Ok (λr=>r = [.bool b]) (iZ (.I ((i : Int)+1)) (.lst (ts.map PV.str)) (.lst (fs.map cZ.pv)))) :
 ∀ (j n : Nat),fs[i].code.length - n=j→n≤fs[i].code.length→
 Ok (λr=>r = [.bool ((fs[i].code.drop n).all (λx=>bW ts.length fs.length fs[i].lc fs[i].code.length x.o x.a)&&b)])
  (kA (.I i) (.I n) (.lst (ts.map PV.str)) (.lst (fs.map cZ.pv)) (.I fs[i].p) (.I fs[i].lc) (.lst (fs[i].code.map bP.pv))):=by
 intro j
 induction j with
 | zero=>
   intro n h1 h2
   have : n=fs[i].code.length:=by omega
   rw [pS]
   refine aF (aJ (aC (λh=>by omega) (λ_=>aP (by omega) ?_)))
   rw [this,List.drop_length]
   exact hb
 | succ j ih=>
   intro n h1 h2
   have hn : n<fs[i].code.length:=by omega
   rw [pS,uR hn]
   refine aF (aJ (aC (λ_=>?_) (λh=>by omega)))
   refine aQ hn (λ_=>rfl) (aI (aLO ht hf hi hlc hc) (λr hr=>?_))
   subst hr
   refine bG (aS (λh=>aB ?_) (λh=>?_))
   ·have : bW ts.length fs.length fs[i].lc fs[i].code.length fs[i].code[n].o fs[i].code[n].a=false:=by simpa using h
    rw [this];rfl
   ·have : bW ts.length fs.length fs[i].lc fs[i].code.length fs[i].code[n].o fs[i].code[n].a=true:=by simpa using h
    rw [this,Bool.true_and]
    exact aP (by omega) (ih (n+1) (by omega) (by omega))
theorem aG4 : ∀ (j i : Nat),fs.length - i=j→i≤fs.length→
 Ok (λr=>r = [.bool ((fs.drop i).all (sD ts.length fs.length))]) (iZ (.I i) (.lst (ts.map PV.str)) (.lst (fs.map cZ.pv))):=by
 intro j
 induction j with
 | zero=>
   intro i h1 h2
   have : i=fs.length:=by omega
   rw [qK]
   refine aF (aJ (aC (λh=>by omega) (λ_=>aB ?_)))
   rw [this,List.drop_length];rfl
 | succ j ih=>
   intro i h1 h2
   have hi : i<fs.length:=by omega
   rw [qK,uR hi]
   refine aF (aJ (aC (λ_=>?_) (λh=>by omega)))
   refine aQ hi (λ_=>rfl) (aE rfl (aA rfl (aA rfl (aA rfl ?_))))
   refine eK (bG (aS (λh=>aB ?_) (λh1'=>?_)))
   ·have : jU fs[i].p 0 6=false:=by simpa using h
    simp [sD,this]
   refine eK (bG (aS (λh=>aB ?_) (λh2'=>?_)))
   ·have : jU fs[i].lc fs[i].p 12=false:=by simpa using h
    simp [sD,this]
   refine aF (eK (bG (aS (λh=>aB ?_) (λh3'=>?_))))
   ·have : jU (fs[i].code.length : Int) 1 120=false:=by simpa using h
    simp [sD,this]
   have g1 : jU fs[i].p 0 6=true:=by simpa using h1'
   have g2 : jU fs[i].lc fs[i].p 12=true:=by simpa using h2'
   have g3 : jU (fs[i].code.length : Int) 1 120=true:=by simpa using h3'
   have q1:=g1
   have q2:=g2
   have q3:=g3
   simp only [jU,Bool.and_eq_true,decide_eq_true_eq] at q1 q2 q3
   refine (aG3 ht hf hi (by omega) (by omega) (ih (i+1) (by omega) (by omega)) _ 0 rfl (by omega)).mono ?_
   rintro r rfl
   rw [List.drop_zero]
   simp only [sD,g1,g2,g3,Bool.true_and]
theorem aFQ (hs : ∀ t∈ts,t.size≤2097152) : ∀ (j i : Nat),ts.length - i=j→i≤ts.length→
 Ok (λr=>r = [.bool ((ts.drop i).all iL&&fs.all (sD ts.length fs.length))]) (lC (.I i) (.lst (ts.map PV.str)) (.lst (fs.map cZ.pv))):=by
 intro j
 induction j with
 | zero=>
   intro i h1 h2
   have : i=ts.length:=by omega
   rw [qJ]
   refine aF (aJ (aC (λh=>by omega) (λ_=>?_)))
   rw [this,List.drop_length]
   exact aG4 ht hf _ 0 rfl (by omega)
 | succ j ih=>
   intro i h1 h2
   have hi : i<ts.length:=by omega
   rw [qJ,uR hi]
   refine aF (aJ (aC (λ_=>?_) (λh=>by omega)))
   refine aQ hi (λ_=>rfl) (aJ1 (hs _ (List.getElem_mem _)) (bG (aS (λh=>aB ?_) (λh=>?_))))
   ·have : iL ts[i]=false:=by simpa using h
    rw [this];rfl
   ·have : iL ts[i]=true:=by simpa using h
    rw [this,Bool.true_and]
    exact aP (by omega) (ih (i+1) (by omega) (by omega))
end
theorem aFR {m : dT} (h : m.sized) : Ok (λr=>r = [.bool m.okB]) (tT m.pv):=by
 obtain ⟨ht,hf,hs,_⟩:=h
 rw [aCC]
 refine aE rfl (aA rfl (aA rfl (aF (eK (bG (aS (λh=>aB ?_) (λh1=>?_)))))))
 ·have : jU (m.funcs.length : Int) 1 12=false:=by simpa using h
  simp [dT.okB,this]
 refine aF (cD (aC (λh=>aB ?_) (λh2=>?_)))
 ·have : ¬ ((m.texts.length : Int)≤20):=by omega
  simp only [dT.okB,decide_eq_false this,Bool.false_and,Bool.and_false]
 have g1 : jU (m.funcs.length : Int) 1 12=true:=by simpa using h1
 have g2 : (m.texts.length : Int)≤20:=by omega
 refine (aFQ ht hf hs _ 0 rfl (by omega)).mono ?_
 rintro r rfl
 rw [List.drop_zero]
 simp only [dT.okB,g1,decide_eq_true g2,Bool.true_and]
section
variable {P : R → Prop} {k : PV → OR} {kr : R → OR}
theorem aKO {f : Nat} {caps : R} {xs : List bP} (hx : xs.length≤1000000000) (p : bP→Bool) (hp : ∀ x∈xs,Ok (λr=>r = [.bool (p x)]) (aY f ([x.pv]++caps))) : ∀ (j i : Nat),xs.length - i=j→i≤xs.length→
 Ok (λr=>∃ n : Int,r = [.I n]∧(0≤n↔(xs.drop i).any p=true)) (cH (.lst (xs.map bP.pv)) (.fn f caps) (.I xs.length) (.I i)):=by
 intro j
 induction j with
 | zero=>
   intro i h1 h2
   have : i=xs.length:=by omega
   rw [fA]
   refine aJ (aC (λh=>by omega) (λ_=>aB ⟨-1,rfl,?_⟩))
   rw [this,List.drop_length]
   simp
 | succ j ih=>
   intro i h1 h2
   have hi : i<xs.length:=by omega
   rw [fA]
   refine aJ (aC (λ_=>?_) (λh=>by omega))
   refine aQ hi (λ_=>rfl) (xC rfl (hp _ (List.getElem_mem _)) (λr hr=>?_))
   subst hr
   rw [List.drop_eq_getElem_cons hi,List.any_cons]
   refine aS (λh=>aB ⟨i,rfl,?_⟩) (λh=>?_)
   ·rw [h];simp
   ·refine aP (by omega) ((ih (i+1) (by omega) (by omega)).mono ?_)
    rintro r ⟨n,hr,hn⟩
    exact ⟨n,hr,by rw [h,Bool.false_or];exact hn⟩
theorem aKP {f : Nat} {caps : R} {xs : List bP} (hx : xs.length≤1000000000) (p : bP→Bool) (hp : ∀ x∈xs,Ok (λr=>r = [.bool (p x)]) (aY f ([x.pv]++caps))) (h : Ok P (kr [.bool (xs.any p)])) :
 Ok P (bd (dM (.lst (xs.map bP.pv)) (.fn f caps)) kr):=by
 refine aI (Q:=λr=>r = [.bool (xs.any p)]) ?_ (λr hr=>by rw [hr];exact h)
 rw [jX]
 refine aI (Q:=λr=>∃ n : Int,r = [.I n]∧(0≤n↔xs.any p=true)) ?_ ?_
 ·rw [lG]
  refine aF ?_
  exact aKO hx p hp _ 0 rfl (by omega)
 ·rintro r ⟨n,rfl,hn⟩
  refine dY (aB ?_)
  have : decide (0≤n)=xs.any p:=by
   by_cases h : 0≤n
   ·rw [decide_eq_true h,hn.1 h]
   ·rw [decide_eq_false h]
    cases h2 : xs.any p with
    | false=>rfl
    | true=>exact absurd (hn.2 h2) h
  rw [this]
theorem aKQ {f : Nat} {caps : R} {xs : List ByteArray} (hx : xs.length≤1000000000) (p : ByteArray→Bool) (hp : ∀ x∈xs,Ok (λr=>r = [.bool (p x)]) (aY f ([.str x]++caps))) : ∀ (j i : Nat),xs.length - i=j→i≤xs.length→
 Ok (λr=>∃ n : Int,r = [.I n]∧(0≤n↔(xs.drop i).any p=true)) (cY (.lst (xs.map PV.str)) (.fn f caps) (.I xs.length) (.I i)):=by
 intro j
 induction j with
 | zero=>
   intro i h1 h2
   have : i=xs.length:=by omega
   rw [fY]
   refine aJ (aC (λh=>by omega) (λ_=>aB ⟨-1,rfl,?_⟩))
   rw [this,List.drop_length]
   simp
 | succ j ih=>
   intro i h1 h2
   have hi : i<xs.length:=by omega
   rw [fY]
   refine aJ (aC (λ_=>?_) (λh=>by omega))
   refine aQ hi (λ_=>rfl) (xC rfl (hp _ (List.getElem_mem _)) (λr hr=>?_))
   subst hr
   rw [List.drop_eq_getElem_cons hi,List.any_cons]
   refine aS (λh=>aB ⟨i,rfl,?_⟩) (λh=>?_)
   ·rw [h];simp
   ·refine aP (by omega) ((ih (i+1) (by omega) (by omega)).mono ?_)
    rintro r ⟨n,hr,hn⟩
    exact ⟨n,hr,by rw [h,Bool.false_or];exact hn⟩
theorem aKR {f : Nat} {caps : R} {xs : List ByteArray} (hx : xs.length≤1000000000) (p : ByteArray→Bool) (hp : ∀ x∈xs,Ok (λr=>r = [.bool (p x)]) (aY f ([.str x]++caps))) (h : Ok P (kr [.bool (xs.any p)])) :
 Ok P (bd (eI (.lst (xs.map PV.str)) (.fn f caps)) kr):=by
 refine aI (Q:=λr=>r = [.bool (xs.any p)]) ?_ (λr hr=>by rw [hr];exact h)
 rw [lR]
 refine aI (Q:=λr=>∃ n : Int,r = [.I n]∧(0≤n↔xs.any p=true)) ?_ ?_
 ·rw [nL]
  refine aF ?_
  exact aKQ hx p hp _ 0 rfl (by omega)
 ·rintro r ⟨n,rfl,hn⟩
  refine dY (aB ?_)
  have : decide (0≤n)=xs.any p:=by
   by_cases h : 0≤n
   ·rw [decide_eq_true h,hn.1 h]
   ·rw [decide_eq_false h]
    cases h2 : xs.any p with
    | false=>rfl
    | true=>exact absurd (hn.2 h2) h
  rw [this]
end
theorem aG5 {α : Type} (p : α→Bool) : ∀ (xs : List α),xs.any (λx=>!p x) = !xs.all p
 | []=>rfl
 | x::r=>by rw [List.any_cons,List.all_cons,aG5 p r,Bool.not_and]
section
variable {ts : List ByteArray} {fs : List cZ} (ht : ts.length ≤ 2097152) (hf : fs.length ≤ 2097152)
include ht hf
theorem aG6 : ∀ (j i : Nat),fs.length - i=j→i≤fs.length→
 Ok (λr=>r = [.bool ((fs.drop i).all (sD ts.length fs.length))]) (lA (.lst (fs.map cZ.pv)) (.I fs.length) (.I i) (.lst (ts.map PV.str)) (.lst (fs.map cZ.pv))):=by
 intro j
 induction j with
 | zero=>
   intro i h1 h2
   have : i=fs.length:=by omega
   rw [qI]
   refine aJ (aC (λh=>by omega) (λ_=>aB ?_))
   rw [this,List.drop_length];rfl
 | succ j ih=>
   intro i h1 h2
   have hi : i<fs.length:=by omega
   rw [qI,uR hi]
   refine aJ (aC (λ_=>?_) (λh=>by omega))
   refine aQ hi (λ_=>rfl) (aE rfl (aA rfl (aA rfl (aA rfl ?_))))
   refine jC (bG (aS (λh=>aB ?_) (λh1'=>?_)))
   ·have : jU fs[i].p 0 6=false:=by simpa using h
    simp [sD,this]
   refine jC (bG (aS (λh=>aB ?_) (λh2'=>?_)))
   ·have : jU fs[i].lc fs[i].p 12=false:=by simpa using h
    simp [sD,this]
   refine aF (jC (bG (aS (λh=>aB ?_) (λh3'=>?_))))
   ·have : jU (fs[i].code.length : Int) 1 120=false:=by simpa using h
    simp [sD,this]
   have g1 : jU fs[i].p 0 6=true:=by simpa using h1'
   have g2 : jU fs[i].lc fs[i].p 12=true:=by simpa using h2'
   have g3 : jU (fs[i].code.length : Int) 1 120=true:=by simpa using h3'
   have q1:=g1
   have q2:=g2
   have q3:=g3
   simp only [jU,Bool.and_eq_true,decide_eq_true_eq] at q1 q2 q3
   refine aKP (by omega) (λx=>!bW ts.length fs.length fs[i].lc fs[i].code.length x.o x.a) (λx _=>?_) ?_
   ·show Ok _ (wI _ _ _)
    rw [aAW]
    refine aE rfl (aA rfl (aA rfl (rH rfl (rH rfl (rH rfl (rH rfl (rH rfl ?_)))))))
    refine aI (aLP (f:=fs[i]) (x:=x) ht hf (by omega) (by omega)) (λr hr=>?_)
    subst hr
    exact bG (aB rfl)
   ·rw [aG5 (λx : bP=>bW ts.length fs.length fs[i].lc fs[i].code.length x.o x.a)]
    refine dG rfl (aS (λh=>aB ?_) (λh=>?_))
    ·have : fs[i].code.all (λx=>bW ts.length fs.length fs[i].lc fs[i].code.length x.o x.a)=false:=by simpa using h
     simp only [sD,this,Bool.and_false,Bool.false_and]
    ·have g4 : fs[i].code.all (λx=>bW ts.length fs.length fs[i].lc fs[i].code.length x.o x.a)=true:=by
      rw [Bool.not_eq_false'] at h
      exact h
     refine aP (by omega) ((ih (i+1) (by omega) (by omega)).mono ?_)
     rintro r rfl
     simp only [sD,g1,g2,g3,g4,Bool.true_and]
end
theorem aFS {m : dT} (h : m.sized) : Ok (λr=>r = [.bool m.okB]) (tQ m.pv):=by
 obtain ⟨ht,hf,hs,_⟩:=h
 rw [aCy]
 refine aE rfl (aA rfl (aA rfl (aF (jC (bG (aS (λh=>aB ?_) (λh1=>?_)))))))
 ·have : jU (m.funcs.length : Int) 1 12=false:=by simpa using h
  simp [dT.okB,this]
 refine aF (cD (aC (λh=>aB ?_) (λh2=>?_)))
 ·have : ¬ ((m.texts.length : Int)≤20):=by omega
  simp only [dT.okB,decide_eq_false this,Bool.false_and,Bool.and_false]
 have g1 : jU (m.funcs.length : Int) 1 12=true:=by simpa using h1
 have g2 : (m.texts.length : Int)≤20:=by omega
 refine aKR (by omega) (λs=>!iL s) (λx hx=>?_) ?_
 ·show Ok _ (wH _)
  rw [aAV]
  refine aI (aKN (hs x hx)) (λr hr=>?_)
  subst hr
  exact bG (aB rfl)
 ·rw [aG5 iL]
  refine aS (λh=>aB ?_) (λh=>?_)
  ·have : m.texts.all iL=false:=by rw [Bool.not_eq_true'] at h;exact h
   simp only [dT.okB,this,Bool.and_false,Bool.false_and]
  ·have g3 : m.texts.all iL=true:=by rw [Bool.not_eq_false'] at h;exact h
   refine aF ((aG6 ht hf _ 0 rfl (by omega)).mono ?_)
   rintro r rfl
   rw [List.drop_zero]
   simp only [dT.okB,g1,decide_eq_true g2,g3,Bool.true_and]
theorem lH {n : Nat} {F : Nat→OR} {P : Nat→R→Prop} (he : Ok (P n) (F n)) (hs : ∀ i,i<n→Ok (P (i+1)) (F (i+1))→Ok (P i) (F i)) : ∀ i,i≤n→Ok (P i) (F i):=by
 have key : ∀ j i,n - i=j→i≤n→Ok (P i) (F i):=by
  intro j
  induction j with
  | zero=>intro i h1 h2;have : i=n:=by omega
          subst this;exact he
  | succ j ih=>intro i h1 h2;exact hs i (by omega) (ih (i+1) (by omega) (by omega))
 exact λi hi=>key _ i rfl hi
theorem sE {σ : Type} {n : Nat} {F : Nat→σ→OR} {P : R→Prop} (I : Nat→σ→Prop) (he : ∀ s,I n s→Ok P (F n s)) (hs : ∀ i s,i<n→I i s→(∀ s',I (i+1) s'→Ok P (F (i+1) s'))→Ok P (F i s)) : ∀ i s,i≤n→I i s→Ok P (F i s):=by
 have key : ∀ j i s,n - i=j→i≤n→I i s→Ok P (F i s):=by
  intro j
  induction j with
  | zero=>intro i s h1 h2 hI;have : i=n:=by omega
          subst this;exact he s hI
  | succ j ih=>intro i s h1 h2 hI;exact hs i s (by omega) hI (λs' hI'=>ih (i+1) s' (by omega) (by omega) hI')
 exact λi s hi hI=>key _ i s rfl hi hI
theorem aBR {α : Type} (n : Nat) (p : Nat→Option α) : (List.range' n (n - n)).findSome? p=none:=by rw [Nat.sub_self];rfl
theorem zN {α : Type} {i n : Nat} (hi : i<n) (p : Nat→Option α) : (List.range' i (n - i)).findSome? p=(p i).or ((List.range' (i+1) (n - (i+1))).findSome? p):=by
 have : n - i=(n - (i+1))+1:=by omega
 rw [this,List.range'_succ,List.findSome?_cons]
 cases p i<;>rfl
def dO (l : List Int) : PV:=.lst (l.map PV.I)
section
variable {P : R → Prop} {k : PV → OR} {l : List Int}
theorem dS (h : Ok P (k (.I l.length))) : Ok P (bd (PV.len (dO l)) k):=aF h
theorem cW {i : Nat} {kk : IntKind} (hi : i<l.length) (h : Ok P (k (.I l[i]))) : Ok P (bd (PV.at_ 1 false (dO l) (.int kk (i : Int))) k):=aQ hi (λ_=>rfl) h
theorem gG {i : Int} {kk : IntKind} (h0 : 0≤i) (hi : i<l.length) (h : Ok P (k (dO l))) : Ok P (bd (PV.inb (dO l) (.int kk i)) k):=cT h0 (by rw [List.length_map];exact hi) h
theorem tG {i : Nat} {x : Int} {kk : IntKind} (hi : i<l.length) (h : Ok P (k (dO (l.set i x)))) : Ok P (bd (PV.setAt 1 false (dO l) (.int kk (i : Int)) (.I x)) k):=by
 refine aDS (by omega) (by rw [List.length_map];omega) rfl ?_
 rw [Int.toNat_natCast,← List.map_set]
 exact h
theorem pX {ys : List Int} {e : Nat} (hb : (l.length+ys.length)*e≤140737488355328) (h : Ok P (k (dO (l++ys)))) : Ok P (bd (PV.cat 1 e false (dO l) (.lst (ys.map PV.I))) k):=by
 refine jI (by simpa using hb) (λx hx=>?_) ?_
 ·obtain ⟨a,_,rfl⟩:=List.mem_map.1 hx;rfl
 ·rw [← List.map_append];exact h
theorem tH {i : Int} {kk : IntKind} (h0 : 0≤i) (h1 : i<l.length) (h : ∀ x,l[i.toNat]? = some x→Ok P (k (.I x))) : Ok P (bd (PV.at_ 1 false (dO l) (.int kk i)) k):=by
 refine rG h0 (by rw [List.length_map];exact h1) (λx hx=>?_) (λx _ hx=>?_)
 ·obtain ⟨a,_,rfl⟩:=List.mem_map.1 hx;rfl
 ·rw [List.getElem?_map] at hx
  cases hl : l[i.toNat]? with
  | none=>rw [hl] at hx;cases hx
  | some y=>rw [hl] at hx;cases hx;exact h y hl
end
def iN (fs : List cZ) (i : Int) : Int:=(fs[i.toNat]?.map cZ.p).getD 0
def bL (fs : List cZ) (x : bP) : Int × Int:=
 if (1≤x.o∧x.o≤6)∨x.o=20 then (0,1)
 else if x.o=7∨x.o=9∨x.o=18∨x.o=19∨x.o=25∨x.o=26 then (1,0)
 else if x.o=8 then (1,2)
 else if x.o=10 then (2,2)
 else if 11≤x.o∧x.o≤15 then (2,1)
 else if x.o=16∨x.o=21 then (1,1)
 else if x.o=22 then (2,0)
 else if x.o=23∧0≤x.a∧x.a≤6 then (x.a+1,1)
 else if x.o=24∧0≤x.a∧x.a<fs.length then (iN fs x.a,1)
 else (0,0)
def aH6 (fs : List cZ) (x : bP) : R:=[.tup [.I (bL fs x).1,.I (bL fs x).2]]
theorem yR {fs : List cZ} {x : bP} {a b : Int} (h : bL fs x=(a,b)) : [PV.tup [.I a,.I b]]=aH6 fs x:=by
 unfold aH6;rw [h]
theorem bH {n lo hi : Int} : jU n lo hi=true↔lo≤n∧n≤hi:=by simp [jU]
theorem qY {n lo hi : Int} : jU n lo hi=false↔¬ (lo≤n∧n≤hi):=by rw [← bH];simp
theorem aBb {P : R→Prop} {n lo hi : Int} {x y : OR} (h1 : lo≤n∧n≤hi→Ok P x) (h2 : ¬ (lo≤n∧n≤hi)→Ok P y) : Ok P (PV.ite (hd [.bool (jU n lo hi)]) x y):=
 aS (λh=>h1 (bH.1 h)) (λh=>h2 (qY.1 h))
section
variable {fs : List cZ} {x : bP} {T : PV} (hf : fs.length ≤ 2097152)
include hf
theorem aJj {P : R→Prop} {k : PV→OR} {i : Int} (h0 : 0≤i) (h1 : i<fs.length) (h : ∀ lc code,Ok P (k (.agg [.I (iN fs i),lc,code]))) : Ok P (bd (PV.at_ 3 true (.lst (fs.map cZ.pv)) (.I i)) k):=by
 obtain ⟨n,rfl⟩:=Int.eq_ofNat_of_zero_le h0
 have hn : n<fs.length:=by omega
 refine aQ hn (λ_=>rfl) ?_
 have : iN fs (n : Int)=fs[n].p:=by simp [iN,List.getElem?_eq_getElem hn]
 rw [← show PV.agg [.I (iN fs (n : Int)),.I fs[n].lc,.lst (fs[n].code.map bP.pv)]=fs[n].pv by rw [this];rfl]
 exact h _ _
set_option maxRecDepth 100000 in
set_option maxHeartbeats 4000000 in
theorem aGd : Ok (λr=>r=aH6 fs x) (sV (.agg [T,.lst (fs.map cZ.pv)]) x.pv):=by
 rw [aEO]
 refine aE rfl (aA rfl (aA rfl (aE rfl (aA rfl (aA rfl ?_)))))
 repeat' (first
  | refine aG (aC (λ_=>?_) (λ_=>?_))
  | refine eK (aBb (λ_=>?_) (λ_=>?_))
  | refine aF (bF (by omega) ?_)
  | refine aP (by omega) ?_
  | refine aJj hf (by omega) (by omega) (λ_ _=>?_)
  | refine aA rfl ?_
  | exact aB (yR (by
   unfold bL
   repeat (first | rfl | rw [if_pos (by omega)] | rw [if_neg (by omega)]))))
set_option maxRecDepth 100000 in
set_option maxHeartbeats 4000000 in
theorem aKS : Ok (λr=>r=aH6 fs x) (yE (.agg [T,.lst (fs.map cZ.pv)]) x.pv):=by
 have c24 : ¬ (x.o=23∧0≤x.a∧x.a≤6)→¬ ((1≤x.o∧x.o≤16)∨(18≤x.o∧x.o≤22))→¬ (x.o=25∨x.o=26)→Ok (λr=>r=aH6 fs x) (mO T (.lst (fs.map cZ.pv)) (.I x.o) (.I x.a)):=by
  intro h1 h2 h3
  rw [aAX]
  refine aG (aC (λ_=>?_) (λ_=>?_))
  ·refine aF (iG (by omega) (aBb (λ_=>?_) (λ_=>?_)))
   ·rw [aAY]
    refine aJj hf (by omega) (by omega) (λ_ _=>aA rfl ?_)
    exact aB (yR (by
     unfold bL
     repeat (first | rfl | rw [if_pos (by omega)] | rw [if_neg (by omega)])))
   ·exact aB (yR (by
    unfold bL
    repeat (first | rfl | rw [if_pos (by omega)] | rw [if_neg (by omega)])))
  ·exact aB (yR (by
   unfold bL
   repeat (first | rfl | rw [if_pos (by omega)] | rw [if_neg (by omega)])))
 rw [aEL]
 refine aE rfl (aA rfl (aA rfl (aE rfl (aA rfl (aA rfl ?_)))))
 repeat' (first
  | exact c24 (by omega) (by omega) (by omega)
  | refine aG (aC (λ_=>?_) (λ_=>?_))
  | refine jC (aBb (λ_=>?_) (λ_=>?_))
  | refine aP (by omega) ?_
  | exact aB (yR (by
   unfold bL
   repeat (first | rfl | rw [if_pos (by omega)] | rw [if_neg (by omega)]))))
end
def fP (x : bP) (pc : Int) : List Int:=(if x.o≠17∧x.o≠25 then [pc+1] else [])++(if x.o=17∨x.o=18∨x.o=19 then [x.a] else [])
theorem aJ2 {P : R→Prop} {k : PV→OR} {a : Int} (h : Ok P (k (dO [a]))) : Ok P (bd (PV.cat 1 8 false (.lst []) (.lst [.I a])) k):=
 pX (l:=[]) (ys:=[a]) (by simp) h
theorem aJ3 {P : R→Prop} {k : PV→OR} {a b : Int} (h : Ok P (k (dO [a,b]))) : Ok P (bd (PV.cat 1 8 false (.lst []) (.lst [.I a,.I b])) k):=
 pX (l:=[]) (ys:=[a,b]) (by simp) h
theorem aNs {P : R→Prop} {k : PV→OR} {a b : Int} (h : Ok P (k (dO [a,b]))) : Ok P (bd (PV.cat 1 8 false (dO [a]) (dO [b])) k):=
 pX (l:=[a]) (ys:=[b]) (by simp) h
theorem aNt {P : R→Prop} {k : PV→OR} {b : Int} (h : Ok P (k (dO [b]))) : Ok P (bd (PV.cat 1 8 false (.lst []) (dO [b])) k):=
 pX (l:=[]) (ys:=[b]) (by simp) h
theorem aGe {x : bP} {pc : Int} (hp : 0≤pc∧pc≤1000000000) : Ok (λr=>r = [dO (fP x pc)]) (qT x.pv (.I pc)):=by
 rw [aDx]
 refine aE rfl (aA rfl (aA rfl ?_))
 repeat' (first
  | (rw [aA2];refine aP (by omega) ?_)
  | rw [aA3]
  | rw [aA4]
  | refine aJ2 ?_
  | refine aNs ?_
  | refine aNt ?_
  | refine aG (aC (λ_=>?_) (λ_=>?_))
  | refine bM (aN (λ_=>?_) (λ_=>?_))
  | (exfalso;omega)
  | exact aB (congrArg (λl=>[dO l]) (by unfold fP;repeat (first | rfl | rw [if_pos (by omega)] | rw [if_neg (by omega)])))
  | exact aB (congrArg (λl=>[dO l]) (a₁:=[]) (by unfold fP;repeat (first | rfl | rw [if_pos (by omega)] | rw [if_neg (by omega)]))))
theorem aGf {x : bP} {pc : Int} (hp : 0≤pc∧pc≤1000000000) : Ok (λr=>r = [dO (fP x pc)]) (qR x.pv (.I pc)):=by
 rw [aDr]
 refine aE rfl (aA rfl (aA rfl ?_))
 repeat' (first
  | refine aJ2 ?_
  | refine aJ3 ?_
  | refine aP (by omega) ?_
  | refine aG (aC (λ_=>?_) (λ_=>?_))
  | exact aB (congrArg (λl=>[dO l]) (by unfold fP;repeat (first | rfl | rw [if_pos (by omega)] | rw [if_neg (by omega)])))
  | exact aB (congrArg (λl=>[dO l]) (a₁:=[]) (by unfold fP;repeat (first | rfl | rw [if_pos (by omega)] | rw [if_neg (by omega)]))))
end
noncomputable section
open Go Go.IntWalk
attribute [local irreducible] bd PV.ite PV.guardFlat PV.guardOwn PV.whole PV.one PV.cell PV.sub PV.at_ PV.len PV.slen PV.chr PV.beq PV.peq PV.ceq PV.bin PV.neg PV.not PV.conv PV.cut PV.scut PV.cat PV.setAt PV.setCell PV.ncopy PV.copyIn PV.zeros PV.toStr PV.toBytes PV.deref PV.isPtr PV.comp PV.inb PV.off PV.imin PV.imax PV.sel PV.apply PV.isLst PV.isInt PV.ix PV.nilT
structure eL where
 k : Int
 n : Int
 s : ByteArray
def eL.pv (v : eL) : PV:=.agg [.I v.k,.I v.n,.str v.s]
def fB : eL:=⟨0,0,bs []⟩
def wX (n : Int) : eL:=⟨1,n,bs []⟩
def qN (b : Bool) : eL:=⟨2,if b then 1 else 0,bs []⟩
def aBS (s : ByteArray) : eL:=⟨3,0,s⟩
def aMF (n : Int) : eL:=⟨4,n,bs []⟩
def aJk (n : Int) : eL:=⟨5,n,bs []⟩
def dA (n : Int) : Bool:=jU n (-1000000000) 1000000000
def sF (a b : ByteArray) : Bool:=a.toList==b.toList
theorem aJl (a : ByteArray) : sF a a=true:=by simp [sF]
def I64 (n : Int) : Prop:=-9223372036854775808≤n∧n≤9223372036854775807
section
variable {P : R → Prop} {k : PV → OR} {kr : R → OR} {a b : ByteArray}
theorem aMG (h : Ok P (k (.bool (!sF a b)))) : Ok P (bd (PV.bin .neq (.str a) (.str b)) k):=cU _ (by simp only [PV.bin,PV.strBin];rfl) h
theorem aMH (h : Ok P (k (.bool (sF a b)))) : Ok P (bd (PV.bin .eql (.str a) (.str b)) k):=cU _ (by simp only [PV.bin,PV.strBin];rfl) h
theorem aMI (h : Ok P (k (.bool (PV.bytesLt a.toList b.toList)))) : Ok P (bd (PV.bin .lss (.str a) (.str b)) k):=cU _ (by simp only [PV.bin,PV.strBin]) h
theorem tI (hb : a.size+b.size≤4611686018427387904) (h : Ok P (k (.str (a++b)))) : Ok P (bd (PV.bin .add (.str a) (.str b)) k):=cU _ (by simp only [PV.bin,PV.strBin];rw [if_pos (by omega)]) h
theorem aBT {n : Int} (h : Ok P (kr [.bool (dA n)])) : Ok P (bd (gF (.I n)) kr):=by
 refine aI (Q:=λr=>r = [.bool (dA n)]) ?_ (λr hr=>by rw [hr];exact h)
 rw [aEQ]
 exact eK (aB rfl)
theorem uS {n : Int} (h : Ok P (kr [(wX n).pv])) : Ok P (bd (eW (.I n)) kr):=by
 refine aI (Q:=λr=>r = [(wX n).pv]) ?_ (λr hr=>by rw [hr];exact h)
 rw [aEP]
 exact aT rfl (aB rfl)
theorem nJ {c : Bool} (h : Ok P (kr [(qN c).pv])) : Ok P (bd (fH (.bool c)) kr):=by
 refine aI (Q:=λr=>r = [(qN c).pv]) ?_ (λr hr=>by rw [hr];exact h)
 rw [aDA]
 exact aS (λh=>aB (by rw [h];rfl)) (λh=>aB (by rw [h];rfl))
end
def bV (nf recs : Int) (v : eL) : Bool:=
 if v.k≠3∧sF v.s (bs [])=false then false
 else if v.k=0 then decide (v.n=0)
 else if v.k=1 then dA v.n
 else if v.k=2 then jU v.n 0 1
 else if v.k=3 then decide (v.n=0)&&iL v.s
 else if v.k=4 then decide (0≤v.n)&&decide (v.n<recs)
 else if v.k=5 then jU v.n 0 (nf - 1)
 else false
theorem aJm {fs : List cZ} {T : PV} {v : eL} {recs : Int} (hf : fs.length≤2097152) (hs : v.s.size≤2097152) : Ok (λr=>r = [.bool (bV fs.length recs v)]) (aAO (.agg [T,.lst (fs.map cZ.pv)]) v.pv (.I recs)):=by
 rw [aFK]
 refine aE rfl (aA rfl (aA rfl (aE rfl (aA rfl (aA rfl (aA rfl ?_))))))
 refine bM (aN (λh3=>?_) (λh3=>?_))
 ·refine aMG (aS (λh=>aB ?_) (λh=>?_))
  ·have h : sF v.s (bs [])=false:=by simpa using h
   unfold bV
   rw [if_pos ⟨h3,h⟩]
  have h : sF v.s (bs [])=true:=by simpa using h
  repeat' (first
   | refine aG (aC (λheq=>?_) (λheq=>?_))
   | refine dY (aC (λhge=>?_) (λhge=>?_))
   | exact aBT (aB (by unfold bV;rw [if_neg (by rw [h];simp)];repeat (first | rfl | rw [if_pos (by assumption)] | rw [if_neg (by assumption)])))
   | exact eK (aB (by unfold bV;rw [if_neg (by rw [h];simp)];repeat (first | rfl | rw [if_pos (by assumption)] | rw [if_neg (by assumption)])))
   | exact aF (bF (by omega) (eK (aB (by unfold bV;rw [if_neg (by rw [h];simp)];repeat (first | rfl | rw [if_pos (by assumption)] | rw [if_neg (by assumption)])))))
   | (exfalso;omega)
   | exact aG (aB (by unfold bV;rw [if_neg (by rw [h];simp)];repeat (first | rfl | rw [if_pos (by assumption)] | rw [if_neg (by assumption)])))
   | exact aJ (aB (by unfold bV;rw [if_neg (by rw [h];simp)];repeat (first | rfl | rw [decide_eq_true hge,Bool.true_and] | rw [if_pos (by assumption)] | rw [if_neg (by assumption)])))
   | exact aB (by unfold bV;rw [if_neg (by rw [h];simp)];repeat (first | rfl | rw [decide_eq_false hge,Bool.false_and] | rw [if_pos (by assumption)] | rw [if_neg (by assumption)])))
 ·have hk : ¬ (v.k≠3∧sF v.s (bs [])=false):=λh=>h.1 h3
  repeat' (first
   | refine aG (aC (λheq=>?_) (λheq=>?_))
   | (exfalso;omega)
   | exact aJ1 hs (aB (by unfold bV;rw [if_neg hk];repeat (first | rfl | rw [if_pos (by assumption)] | rw [if_neg (by omega)] | rw [decide_eq_true heq,Bool.true_and])))
   | exact aB (by unfold bV;rw [if_neg hk];repeat (first | rfl | rw [if_pos (by assumption)] | rw [if_neg (by omega)] | rw [decide_eq_false heq,Bool.false_and])))
def aDD (o a b : Int) : Int:=if o=12 then a - b else if o=13 then a*b else a+b
def aEX (o : Int) (a b : eL) : eL × Int:=
 if a.k≠1 then (fB,1) else if b.k≠1 then (fB,1) else if dA a.n=false then (fB,2) else if dA b.n=false then (fB,2)
 else if dA (aDD o a.n b.n)=false then (fB,2) else (wX (aDD o a.n b.n),0)
def aH7 (a b : eL) : eL:=qN (decide (a.k=b.k)&&(decide (a.n=b.n)&&sF a.s b.s))
def wY (o : Int) (a b : eL) : eL × Int:=
 if o=11 then (if a.k=3∧b.k=3 then (if (60 : Int)<a.s.size+b.s.size then (fB,3) else (aBS (a.s++b.s),0)) else aEX 11 a b)
 else if o=12 then aEX 12 a b
 else if o=13 then aEX 13 a b
 else if o=14 then (if a.k=3∧b.k=3 then (qN (PV.bytesLt a.s.toList b.s.toList),0) else if a.k=1∧b.k=1 then (qN (decide (a.n<b.n)),0) else (fB,1))
 else (aH7 a b,0)
def opR (p : eL × Int) : R:=[.tup [p.1.pv,.I p.2]]
theorem aNu {a b : Int} (ha : dA a=true) (hb : dA b=true) : -1000000000000000000≤a*b∧a*b≤1000000000000000000:=by
 have ha:=bH.1 ha
 have hb:=bH.1 hb
 have h : (a*b).natAbs≤1000000000*1000000000:=by
  rw [Int.natAbs_mul]
  exact Nat.mul_le_mul (by omega) (by omega)
 omega
theorem aJn {o a b : Int} (ho : o=11∨o=12∨o=13) : Ok (λr=>r=(if dA a=false then [.tup [.I 0,.I 2]] else if dA b=false then [.tup [.I 0,.I 2]]
 else if dA (aDD o a b)=false then [.tup [.I 0,.I 2]] else [.tup [.I (aDD o a b),.I 0]])) (tV (.I o) (.I a) (.I b)):=by
 rw [aCG]
 refine aBT (bG (aS (λh=>aB ?_) (λh1=>?_)))
 ·rw [if_pos (by simpa using h)]
 have h1 : dA a=true:=by simpa using h1
 rw [if_neg (by rw [h1];simp)]
 refine aBT (bG (aS (λh=>aB ?_) (λh2=>?_)))
 ·rw [if_pos (by simpa using h)]
 have h2 : dA b=true:=by simpa using h2
 rw [if_neg (by rw [h2];simp)]
 have ga:=bH.1 h1
 have gb:=bH.1 h2
 have gm:=aNu h1 h2
 have fin : ∀ n : Int,n=aDD o a b→Ok (λr=>r=(if dA (aDD o a b)=false then [.tup [.I 0,.I 2]] else [.tup [.I (aDD o a b),.I 0]]))
  (bd (gF (.I n)) λr=>bd (PV.not (hd r)) λv=>PV.ite v (some [.tup [.I 0,.I 2]]) (some [.tup [.I n,.I 0]])):=by
  intro n hn
  subst hn
  refine aBT (bG (aS (λh=>aB ?_) (λh=>aB ?_)))
  ·rw [if_pos (by simpa using h)]
  ·rw [if_neg (by simpa using h)]
 refine aP (by omega) (aG (aC (λh=>bF (by omega) ?_) (λh12=>aG (aC (λh=>iT (by omega) ?_) (λh13=>?_)))))
 ·exact fin _ (by unfold aDD;rw [if_pos h])
 ·exact fin _ (by unfold aDD;rw [if_neg h12,if_pos h])
 ·exact fin _ (by unfold aDD;rw [if_neg h12,if_neg h13])
theorem vU {o : Int} {a b : eL} (ho : o=11∨o=12∨o=13) : Ok (λr=>r=opR (aEX o a b)) (hE (.I o) a.pv b.pv):=by
 rw [aA9]
 refine aE rfl (aA rfl (aA rfl (aA rfl (aE rfl (aA rfl (aA rfl (aA rfl ?_)))))))
 refine bM (aN (λh=>aB ?_) (λh1=>bM (aN (λh=>aB ?_) (λh2=>?_))))
 ·unfold aEX;rw [if_pos h];rfl
 ·unfold aEX;rw [if_neg (by simpa using h1),if_pos h];rfl
 refine aI (aJn ho) (λr hr=>?_)
 have e : aEX o a b=if dA a.n=false then (fB,2) else if dA b.n=false then (fB,2) else if dA (aDD o a.n b.n)=false then (fB,2) else (wX (aDD o a.n b.n),0):=by
  unfold aEX;rw [if_neg (by simpa using h1),if_neg (by simpa using h2)]
 rw [e]
 have trap : ∀ {x : R},x = [.tup [.I 0,.I 2]]→r=x→Ok (λr=>r=opR (fB,2)) (bd (PV.comp (hd r) 0) λv2185=>bd (PV.comp (hd r) 1) λv2186=>bd (PV.bin .neq v2186 (.I 0)) λv2187=>PV.ite v2187 (some [(.tup [(.agg [(.I 0),(.I 0),(.str (bs []))]),v2186])]) (bd (eW v2185) λr2188=>bd (PV.whole 3 (hd r2188)) λv2189=>bd (PV.cell v2189 0) λv2190=>bd (PV.cell v2189 1) λv2191=>bd (PV.cell v2189 2) λv2192=>some [(.tup [(.agg [v2190,v2191,v2192]),(.I 0)])])):=by
  intro x hx hr
  subst hx;subst hr
  exact aU rfl (aU rfl (bM (aN (λ_=>aB rfl) (λh=>by omega))))
 split at hr
 ·rename_i h;rw [if_pos h];exact trap rfl hr
 rename_i h3
 rw [if_neg h3]
 split at hr
 ·rename_i h;rw [if_pos h];exact trap rfl hr
 rename_i h4
 rw [if_neg h4]
 split at hr
 ·rename_i h;rw [if_pos h];exact trap rfl hr
 rename_i h5
 rw [if_neg h5]
 subst hr
 refine aU rfl (aU rfl (bM (aN (λh=>absurd rfl h) (λ_=>?_))))
 exact uS (aE rfl (aA rfl (aA rfl (aA rfl (aB rfl)))))
theorem oG {P : R→Prop} {k : R→OR} {o : OR} {p : eL × Int} (h : Ok (λr=>r=opR p) o) (hk : Ok P (k [.tup [.agg [.I p.1.k,.I p.1.n,.str p.1.s],.I p.2]])) : Ok P (bd o k):=
 aI h (λr hr=>by subst hr;exact hk)
set_option maxRecDepth 100000 in
theorem aBU {o : Int} {a b : eL} (ho : 11≤o∧o≤15) (hs : a.s.size≤2097152∧b.s.size≤2097152) : Ok (λr=>r=opR (wY o a b)) (nC (.I o) a.pv b.pv):=by
 have less3 : ¬ (a.k=3∧b.k=3)→Ok (λr=>r=opR (if a.k=1∧b.k=1 then (qN (decide (a.n<b.n)),0) else (fB,1))) (oA (.I a.k) (.I a.n) (.str a.s) (.I b.k) (.I b.n) (.str b.s) (.I 0) (.I 0) (.str (bs []))):=by
  intro _
  rw [aBP]
  refine aG (aC (λh1=>aG (aC (λh2=>?_) (λh2=>aB ?_))) (λh1=>aB ?_))
  ·rw [aBQ,if_pos ⟨h1,h2⟩]
   exact aJ (nJ (aE rfl (aA rfl (aA rfl (aA rfl (aB rfl))))))
  ·rw [if_neg (λh=>h2 h.2)];rfl
  ·rw [if_neg (λh=>h1 h.1)];rfl
 have less : Ok (λr=>r=opR (wY 14 a b)) (yJ a.pv b.pv):=by
  rw [aET]
  refine aE rfl (aA rfl (aA rfl (aA rfl (aE rfl (aA rfl (aA rfl (aA rfl ?_)))))))
  have e : wY 14 a b=(if a.k=3∧b.k=3 then (qN (PV.bytesLt a.s.toList b.s.toList),0) else if a.k=1∧b.k=1 then (qN (decide (a.n<b.n)),0) else (fB,1)):=rfl
  rw [e]
  refine aG (aC (λh1=>aG (aC (λh2=>?_) (λh2=>?_))) (λh1=>?_))
  ·rw [aBO,if_pos ⟨h1,h2⟩]
   exact aMI (nJ (aE rfl (aA rfl (aA rfl (aA rfl (aB rfl))))))
  ·rw [if_neg (λh=>h2 h.2)];exact less3 (λh=>h2 h.2)
  ·rw [if_neg (λh=>h1 h.1)];exact less3 (λh=>h1 h.1)
 have add : Ok (λr=>r=opR (wY 11 a b)) (aAQ a.pv b.pv):=by
  rw [aFN]
  refine aE rfl (aA rfl (aA rfl (aA rfl (aE rfl (aA rfl (aA rfl (aA rfl ?_)))))))
  have e : wY 11 a b=(if a.k=3∧b.k=3 then (if (60 : Int)<a.s.size+b.s.size then (fB,3) else (aBS (a.s++b.s),0)) else aEX 11 a b):=rfl
  rw [e]
  have hn:=vU (o:=11) (a:=a) (b:=b) (by omega)
  refine aG (aC (λh1=>aG (aC (λh2=>?_) (λh2=>?_))) (λh1=>?_))
  ·rw [aCF,if_pos ⟨h1,h2⟩]
   refine dQ (dQ (bF (by omega) (cD (aC (λh=>aB ?_) (λh=>?_)))))
   ·rw [if_pos (by omega)];rfl
   ·rw [if_neg (by omega)]
    exact tI (by omega) (aT rfl (aB rfl))
  ·rw [if_neg (λh=>h2 h.2)]
   exact oG hn (aU rfl (aU rfl (aE rfl (aA rfl (aA rfl (aA rfl (aB rfl)))))))
  ·rw [if_neg (λh=>h1 h.1)]
   exact oG hn (aU rfl (aU rfl (aE rfl (aA rfl (aA rfl (aA rfl (aB rfl)))))))
 rw [aFL]
 refine aE rfl (aA rfl (aA rfl (aA rfl (aE rfl (aA rfl (aA rfl (aA rfl ?_)))))))
 refine aG (aC (λh=>?_) (λh11=>aG (aC (λh=>?_) (λh12=>aG (aC (λh=>?_) (λh13=>aG (aC (λh=>?_) (λh14=>?_))))))))
 ·subst h
  exact oG add (aU rfl (aU rfl (aE rfl (aA rfl (aA rfl (aA rfl (aB rfl)))))))
 ·subst h
  have : Ok (λr=>r=opR (wY 12 a b)) (aAR a.pv b.pv):=by
   rw [aFO]
   refine aE rfl (aA rfl (aA rfl (aA rfl (aE rfl (aA rfl (aA rfl (aA rfl ?_)))))))
   exact oG (vU (o:=12) (by omega)) (aU rfl (aU rfl (aE rfl (aA rfl (aA rfl (aA rfl (aB rfl)))))))
  exact oG this (aU rfl (aU rfl (aE rfl (aA rfl (aA rfl (aA rfl (aB rfl)))))))
 ·subst h
  have : Ok (λr=>r=opR (wY 13 a b)) (aAS a.pv b.pv):=by
   rw [aFP]
   refine aE rfl (aA rfl (aA rfl (aA rfl (aE rfl (aA rfl (aA rfl (aA rfl ?_)))))))
   exact oG (vU (o:=13) (by omega)) (aU rfl (aU rfl (aE rfl (aA rfl (aA rfl (aA rfl (aB rfl)))))))
  exact oG this (aU rfl (aU rfl (aE rfl (aA rfl (aA rfl (aA rfl (aB rfl)))))))
 ·subst h
  exact oG less (aU rfl (aU rfl (aE rfl (aA rfl (aA rfl (aA rfl (aB rfl)))))))
 ·have h15 : o=15:=by omega
  subst h15
  have same : Ok (λr=>r = [(aH7 a b).pv]) (yM a.pv b.pv):=by
   rw [aEU]
   refine aE rfl (aA rfl (aA rfl (aA rfl (aE rfl (aA rfl (aA rfl (aA rfl ?_)))))))
   refine aG (aC (λh1=>aG (aC (λh2=>aMH ?_) (λh2=>?_))) (λh1=>?_))
   ·refine nJ (aE rfl (aA rfl (aA rfl (aA rfl (aB ?_)))))
    unfold aH7;rw [decide_eq_true h1,decide_eq_true h2];rfl
   ·refine nJ (aE rfl (aA rfl (aA rfl (aA rfl (aB ?_)))))
    unfold aH7;rw [decide_eq_true h1,decide_eq_false h2];rfl
   ·refine nJ (aE rfl (aA rfl (aA rfl (aA rfl (aB ?_)))))
    unfold aH7;rw [decide_eq_false h1];rfl
  refine aI same (λr hr=>?_)
  subst hr
  exact aE rfl (aA rfl (aA rfl (aA rfl (aB rfl))))
def aDE (v : eL) : eL × Int:=if v.k≠2 then (fB,1) else (qN (!decide (v.n=1)),0)
theorem aLQ {v : eL} : Ok (λr=>r=opR (aDE v)) (aAP v.pv):=by
 rw [aFM]
 refine aE rfl (aA rfl (aA rfl (aA rfl ?_)))
 refine bM (aN (λh=>aB ?_) (λh=>?_))
 ·unfold aDE;rw [if_pos h];rfl
 ·refine bM (nJ (aE rfl (aA rfl (aA rfl (aA rfl (aB ?_))))))
  unfold aDE;rw [if_neg (by simpa using h)];rfl
def dig (n : Int) : ByteArray:=⟨#[UInt8.ofNat (48+n).toNat]⟩
def aBV : Nat→Int→ByteArray
 | 0,n=>dig n
 | j+1,n=>if n<10 then dig n else aBV j (n / 10)++dig (n % 10)
def qZ (n : Int) : ByteArray:=
 if n<0 then (if n < -9 then bs [45]++aBV 18 (-(n.tdiv 10))++aBV 18 (-(n.tmod 10)) else bs [45]++aBV 18 (-n)) else aBV 18 n
theorem aBW (n : Int) : (dig n).size=1:=rfl
theorem lI : ∀ (j : Nat) (n : Int),(aBV j n).size≤j+1
 | 0,n=>by simp [aBV,aBW]
 | j+1,n=>by
   unfold aBV
   split
   ·rw [aBW];omega
   ·rw [ByteArray.size_append,aBW]
    have:=lI j (n / 10)
    omega
theorem zO : ∀ (j : Nat) (n : Int),0≤n→n<10 ^ (j+1)→n≤9223372036854775807→j≤100→Ok (λr=>r = [.str (aBV j n)]) (dW (.I n)):=by
 have one : ∀ {P : R→Prop} {k : PV→OR} {n : Int},0≤n→n<10→Ok P (k (.str (dig n)))→Ok P (bd (PV.bin .add (.I 48) (.I n)) λv=>bd (PV.conv .u8 v) λv=>bd (PV.cat 1 1 false (.lst []) (.lst [v])) λv=>bd (PV.toStr v) k):=by
  intro P k n h1 h2 h
  refine aP (by omega) (aNK (by omega) ?_)
  refine hJ (by simp) (λx hx=>by simp only [List.mem_singleton] at hx;subst hx;rfl) ?_
  exact aLs (l:=[48+n]) h
 intro j
 induction j with
 | zero=>
   intro n h1 h2 _ _
   rw [oD]
   refine aJ (aC (λh=>by omega) (λ_=>aJ (aC (λh=>?_) (λh=>by omega))))
   exact one h1 h (aB rfl)
 | succ j ih=>
   intro n h1 h2 hj hjj
   rw [oD]
   have hp2 : (10 : Int) ^ (j+1+1)=10 ^ (j+1)*10:=Int.pow_succ _ _
   refine aJ (aC (λh=>by omega) (λ_=>aJ (aC (λh=>?_) (λh=>?_))))
   ·refine one h1 h (aB ?_)
    unfold aBV;rw [if_pos h]
   ·refine iU h1 (by omega) hj ?_
    refine aI (ih (n / 10) (by omega) (by omega) (by omega) (by omega)) (λr hr=>?_)
    subst hr
    refine iH h1 (by omega) (one (by omega) (by omega) ?_)
    have:=lI j (n / 10)
    refine tI (by rw [aBW];omega) (aB ?_)
    show _ = [PV.str (aBV (j+1) n)]
    rw [show aBV (j+1) n=aBV j (n / 10)++dig (n % 10) by conv=>lhs;unfold aBV
                                                         rw [if_neg h]]
theorem aMJ {P : R→Prop} {k : PV→OR} {a b : Int} (hb : b≠0) (hr : I64 (a.tdiv b)) (h : Ok P (k (.I (a.tdiv b)))) : Ok P (bd (PV.bin .quo (.I a) (.I b)) k):=
 cU _ (by rw [gR (by simp) (by simp)];simp only [PV.intBin];rw [if_neg hb,i64_in _ hr]) h
theorem aMK {P : R→Prop} {k : PV→OR} {a b : Int} (hb : b≠0) (h : Ok P (k (.I (a.tmod b)))) : Ok P (bd (PV.bin .rem (.I a) (.I b)) k):=
 cU _ (by rw [gR (by simp) (by simp)];simp only [PV.intBin];rw [if_neg hb]) h
theorem aLR {n : Int} (h : n<0) : n.tdiv 10 = -((-n) / 10)∧n.tmod 10 = -((-n) % 10):=by
 have e : n = -(-n):=by omega
 constructor
 ·rw [e,Int.neg_tdiv,Int.tdiv_eq_ediv_of_nonneg (by omega)]
  simp
 ·rw [e,Int.neg_tmod,Int.tmod_eq_emod_of_nonneg (by omega)]
  simp
theorem aBX (n : Int) : (qZ n).size≤40:=by
 have h45 : (bs [45]).size=1:=rfl
 unfold qZ
 split
 ·split
  ·rw [ByteArray.size_append,ByteArray.size_append,h45]
   have h1:=lI 18 (-(n.tdiv 10))
   have h2:=lI 18 (-(n.tmod 10))
   omega
  ·rw [ByteArray.size_append,h45]
   have h1:=lI 18 (-n)
   omega
 ·have h1:=lI 18 n
  omega
theorem yS {n : Int} (hn : -9223372036854775807≤n∧n≤9223372036854775807) : Ok (λr=>r = [.str (qZ n)]) (dW (.I n)):=by
 have big : ∀ {x : Int},x≤9223372036854775807→x<10 ^ (18+1):=λh=>by
  have : (10 : Int) ^ (18+1)=10000000000000000000:=by decide
  omega
 have h45 : (bs [45]).size=1:=rfl
 by_cases h : n<0
 ·obtain ⟨e1,e2⟩:=aLR h
  rw [oD]
  refine aJ (aC (λ_=>?_) (λh'=>absurd h h'))
  refine aJ (aC (λh9=>?_) (λh9=>?_))
  ·refine aMJ (by omega) (by unfold I64;omega) (gV (by omega) ?_)
   have z1 : 0 - n.tdiv 10 = -(n.tdiv 10):=by omega
   have z2 : 0 - n.tmod 10 = -(n.tmod 10):=by omega
   rw [z1]
   have s1:=lI 18 (-(n.tdiv 10))
   have s2:=lI 18 (-(n.tmod 10))
   refine aI (zO 18 (-(n.tdiv 10)) (by omega) (big (by omega)) (by omega) (by omega)) (λr hr=>?_)
   subst hr
   refine tI (by omega) (aMK (by omega) (gV (by omega) ?_))
   rw [z2]
   refine aI (zO 18 (-(n.tmod 10)) (by omega) (big (by omega)) (by omega) (by omega)) (λr hr=>?_)
   subst hr
   refine tI (by rw [ByteArray.size_append];omega) (aB ?_)
   unfold qZ
   rw [if_pos h,if_pos h9]
  ·refine gV (by omega) ?_
   have z1 : 0 - n = -n:=by omega
   rw [z1]
   have s1:=lI 18 (-n)
   refine aI (zO 18 (-n) (by omega) (big (by omega)) (by omega) (by omega)) (λr hr=>?_)
   subst hr
   refine tI (by omega) (aB ?_)
   unfold qZ
   rw [if_pos h,if_neg h9]
 ·refine (zO 18 n (by omega) (big hn.2) hn.2 (by omega)).mono ?_
  rintro r rfl
  unfold qZ
  rw [if_neg h]
end
noncomputable section
open Go
attribute [local irreducible] bd PV.ite PV.guardFlat PV.guardOwn PV.whole PV.one PV.cell PV.sub PV.at_ PV.len PV.slen PV.chr PV.beq PV.peq PV.ceq PV.bin PV.neg PV.not PV.conv PV.cut PV.scut PV.cat PV.setAt PV.setCell PV.ncopy PV.copyIn PV.zeros PV.toStr PV.toBytes PV.deref PV.isPtr PV.comp PV.inb PV.off PV.imin PV.imax PV.sel PV.apply PV.isLst PV.isInt PV.ix PV.nilT
def gU (fs : List cZ) (x : bP) (h : Int) : Int:=h - (bL fs x).1+(bL fs x).2
def can (fs : List cZ) (x : bP) (h : Int) : Bool:=decide ((bL fs x).1≤h)&&decide (gU fs x h≤16)
abbrev Hs:=List Int × Bool
def rA (l : Int) (s : Hs) (t : Int) : Hs:=if t<s.1.length∧s.1[t.toNat]?.getD 0<0 then (s.1.set t.toNat l,true) else s
def wZ (fs : List cZ) (code : List bP) (s : Hs) (pc : Nat) : Hs:=
 match code[pc]? with
 | some x=>if can fs x (s.1[pc]?.getD 0) then (fP x pc).foldl (rA (gU fs x (s.1[pc]?.getD 0))) s else s
 | none=>s
def pY (fs : List cZ) (code : List bP) (s : List Int) : Hs:=(List.range' 0 code.length).foldl (wZ fs code) (s,false)
def aBZ (fs : List cZ) (code : List bP) : Nat→List Int→List Int
 | 0,s=>s
 | n+1,s=>if (pY fs code s).2 then aBZ fs code n (pY fs code s).1 else (pY fs code s).1
def aG7 (n : Nat) : List Int:=(List.replicate n (-1)).set 0 0
def pC (fs : List cZ) (code : List bP) : List Int:=aBZ fs code (code.length+1) (aG7 code.length)
structure Fit (fs : List cZ) (code : List bP) : Prop where
 n1 : 1≤code.length
 n2 : code.length≤120
 nf : fs.length≤12
 u : ∀ x∈code,0≤(bL fs x).1∧(bL fs x).1≤7∧0≤(bL fs x).2∧(bL fs x).2≤2
 j : ∀ x∈code,(x.o=17∨x.o=18∨x.o=19)→0≤x.a∧x.a<code.length
def xA (n : Nat) (s : List Int) : Prop:=s.length=n∧∀ v∈s,-1≤v∧v≤16
theorem xA.at {n : Nat} {s : List Int} (h : xA n s) (i : Nat) : -1≤s[i]?.getD 0∧s[i]?.getD 0≤16:=by
 cases hx : s[i]? with
 | none=>simp
 | some v=>exact h.2 v (List.mem_of_getElem? hx)
theorem xA.put {n : Nat} {s : Hs} (h : xA n s.1) {l : Int} (hl : -1≤l∧l≤16) (t : Int) : xA n (rA l s t).1:=by
 unfold rA
 split
 ·refine ⟨by simp only [List.length_set];exact h.1,λv hv=>?_⟩
  rcases List.mem_or_eq_of_mem_set hv with h1 | h1
  ·exact h.2 v h1
  ·omega
 ·exact h
theorem xA.puts {n : Nat} {l : Int} (hl : -1≤l∧l≤16) : ∀ (ts : List Int) (s : Hs),xA n s.1→xA n (ts.foldl (rA l) s).1
 | [],_,h=>h
 | t::r,s,h=>xA.puts hl r _ (h.put hl t)
theorem aH8 {fs : List cZ} {x : bP} {h : Int} (hu : 0≤(bL fs x).1∧(bL fs x).1≤7∧0≤(bL fs x).2∧(bL fs x).2≤2) (hc : can fs x h=true) : 0≤gU fs x h∧gU fs x h≤16:=by
 simp only [can,Bool.and_eq_true,decide_eq_true_eq] at hc
 unfold gU at *
 omega
theorem xA.one {fs : List cZ} {code : List bP} (F : Fit fs code) {n : Nat} {s : Hs} (h : xA n s.1) (pc : Nat) : xA n (wZ fs code s pc).1:=by
 unfold wZ
 split
 ·rename_i x hx
  split
  ·rename_i hc
   have:=aH8 (F.u x (List.mem_of_getElem? hx)) hc
   exact xA.puts (by omega) _ _ h
  ·exact h
 ·exact h
theorem xA.ones {fs : List cZ} {code : List bP} (F : Fit fs code) {n : Nat} : ∀ (l : List Nat) (s : Hs),xA n s.1→xA n (l.foldl (wZ fs code) s).1
 | [],_,h=>h
 | t::r,s,h=>xA.ones F r _ (h.one F t)
theorem xA.pass {fs : List cZ} {code : List bP} (F : Fit fs code) {n : Nat} {s : List Int} (h : xA n s) : xA n (pY fs code s).1:=xA.ones F _ _ h
theorem xA.start {n : Nat} : xA n (aG7 n):=by
 refine ⟨by simp [aG7],λv hv=>?_⟩
 rcases List.mem_or_eq_of_mem_set hv with h1 | h1
 ·have:=List.eq_of_mem_replicate h1;omega
 ·omega
def nn (s : List Int) : Nat:=s.countP (· < 0)
def Dec (s s' : Hs) : Prop:=s'=s∨(s'.2=true∧nn s'.1<nn s.1)
theorem Dec.trans {a b c : Hs} (h : Dec a b) (k : Dec b c) : Dec a c:=by
 rcases h with rfl | h
 ·exact k
 ·rcases k with rfl | k
  ·exact .inr h
  ·exact .inr ⟨k.1,by omega⟩
theorem aLS : ∀ (s : List Int) (i : Nat) (l : Int),0≤l→s[i]?.getD 0<0→nn (s.set i l)<nn s
 | [],i,l,_,h=>by simp at h
 | x::r,0,l,hl,h=>by
   simp only [List.getElem?_cons_zero,Option.getD_some] at h
   simp only [nn,List.set_cons_zero,List.countP_cons]
   rw [if_neg (by simp;omega),if_pos (by simpa using h)]
   omega
 | x::r,i+1,l,hl,h=>by
   simp only [List.getElem?_cons_succ] at h
   have:=aLS r i l hl h
   simp only [nn,List.set_cons_succ,List.countP_cons] at *
   omega
theorem Dec.put {l : Int} (hl : 0≤l) (s : Hs) (t : Int) : Dec s (rA l s t):=by
 unfold rA
 split
 ·rename_i h
  exact .inr ⟨rfl,aLS _ _ _ hl h.2⟩
 ·exact .inl rfl
theorem Dec.puts {l : Int} (hl : 0≤l) : ∀ (ts : List Int) (s : Hs),Dec s (ts.foldl (rA l) s)
 | [],_=>.inl rfl
 | t::r,s=>(Dec.put hl s t).trans (Dec.puts hl r _)
theorem Dec.one {fs : List cZ} {code : List bP} (F : Fit fs code) (s : Hs) (pc : Nat) : Dec s (wZ fs code s pc):=by
 unfold wZ
 split
 ·rename_i x hx
  split
  ·rename_i hc
   exact Dec.puts (aH8 (F.u x (List.mem_of_getElem? hx)) hc).1 _ _
  ·exact .inl rfl
 ·exact .inl rfl
theorem Dec.ones {fs : List cZ} {code : List bP} (F : Fit fs code) : ∀ (l : List Nat) (s : Hs),Dec s (l.foldl (wZ fs code) s)
 | [],_=>.inl rfl
 | t::r,s=>(Dec.one F s t).trans (Dec.ones F r _)
theorem Dec.pass {fs : List cZ} {code : List bP} (F : Fit fs code) (s : List Int) : Dec (s,false) (pY fs code s):=Dec.ones F _ _
theorem aLT {l : Int} {s : Hs} {t : Int} (h : s.1[0]? = some 0) : (rA l s t).1[0]? = some 0:=by
 unfold rA
 split
 ·rename_i hc
  rw [List.getElem?_set]
  split
  ·rename_i h0
   rw [h0] at hc
   rw [h] at hc
   simp at hc
  ·exact h
 ·exact h
theorem aGg {l : Int} : ∀ (ts : List Int) (s : Hs),s.1[0]? = some 0→(ts.foldl (rA l) s).1[0]? = some 0
 | [],_,h=>h
 | t::r,s,h=>aGg r _ (aLT h)
theorem aLU {fs : List cZ} {code : List bP} {s : Hs} (pc : Nat) (h : s.1[0]? = some 0) : (wZ fs code s pc).1[0]? = some 0:=by
 unfold wZ
 split
 ·split
  ·exact aGg _ _ h
  ·exact h
 ·exact h
theorem aCI {fs : List cZ} {code : List bP} : ∀ (l : List Nat) (s : Hs),s.1[0]? = some 0→(l.foldl (wZ fs code) s).1[0]? = some 0
 | [],_,h=>h
 | t::r,s,h=>aCI r _ (aLU t h)
theorem aH9 {fs : List cZ} {code : List bP} : ∀ (n : Nat) (s : List Int),s[0]? = some 0→(aBZ fs code n s)[0]? = some 0
 | 0,_,h=>h
 | n+1,s,h=>by
   unfold aBZ
   split
   ·exact aH9 n _ (aCI _ _ h)
   ·exact aCI _ _ h
theorem aJ4 {fs : List cZ} {code : List bP} (F : Fit fs code) {m : Nat} : ∀ (n : Nat) (s : List Int),xA m s→xA m (aBZ fs code n s)
 | 0,_,h=>h
 | n+1,s,h=>by
   unfold aBZ
   split
   ·exact aJ4 F n _ (h.pass F)
   ·exact h.pass F
theorem aBc {fs : List cZ} {code : List bP} (F : Fit fs code) : xA code.length (pC fs code):=aJ4 F _ _ xA.start
theorem aIa {fs : List cZ} {code : List bP} (F : Fit fs code) : (pC fs code)[0]? = some 0:=by
 refine aH9 _ _ ?_
 have:=F.n1
 rw [aG7,List.getElem?_set_self (by rw [List.length_replicate];omega)]
theorem aDM {s : List Int} {i : Nat} (h : i<s.length) : s[i]=s[i]?.getD 0:=by rw [List.getElem?_eq_getElem h];rfl
theorem yT {fs : List cZ} {code : List bP} (F : Fit fs code) {x : bP} (hx : x∈code) {pc : Nat} (hp : pc<code.length) : ∀ t∈fP x pc,0≤t∧t≤code.length:=by
 intro t ht
 unfold fP at ht
 rcases List.mem_append.1 ht with h | h
 ·split at h
  ·simp only [List.mem_singleton] at h;omega
  ·cases h
 ·split at h
  ·rename_i hj
   simp only [List.mem_singleton] at h
   have:=F.j x hx hj
   omega
  ·cases h
theorem aJ5 {l : Int} {s : Hs} {t : Int} (h1 : t<s.1.length) (h2 : s.1[t.toNat]?.getD 0<0) : rA l s t=(s.1.set t.toNat l,true):=if_pos ⟨h1,h2⟩
theorem aG8 {l : Int} {s : Hs} {t : Int} (h : ¬ (t<s.1.length∧s.1[t.toNat]?.getD 0<0)) : rA l s t=s:=if_neg h
section
variable {fs : List cZ} {code : List bP} {T : PV} (F : Fit fs code)
include F
theorem aKT {P : R→Prop} {pc : Nat} (hpc : pc<code.length) {left : Int} {ts : List Int} (hts : ∀ t∈ts,0≤t∧t≤code.length) (hn : ts.length≤10) {s : Hs} (hs : s.1.length=code.length)
 (h : Ok P (dI (.lst (code.map bP.pv)) (.bool (ts.foldl (rA left) s).2) (.I ((pc : Int)+1)) T (.lst (fs.map cZ.pv)) (dO (ts.foldl (rA left) s).1))) :
 Ok P (eB (.lst (code.map bP.pv)) (.bool s.2) (.I pc) (.I left) (dO ts) (.I 0) T (.lst (fs.map cZ.pv)) (dO s.1)):=by
 have hn2:=F.n2
 refine sE (n:=ts.length) (F:=λi (q : Hs)=>eB (.lst (code.map bP.pv)) (.bool q.2) (.I pc) (.I left) (dO ts) (.I i) T (.lst (fs.map cZ.pv)) (dO q.1))
  (λi q=>q.1.length=code.length∧(ts.drop i).foldl (rA left) q=ts.foldl (rA left) s) ?_ ?_ 0 s (by omega) ⟨hs,by rw [List.drop_zero]⟩
 ·rintro q ⟨hq,he⟩
  rw [List.drop_length] at he
  have he : q=ts.foldl (rA left) s:=he
  subst he
  rw [oN]
  exact dS (aJ (aC (λh=>by omega) (λ_=>aP (by omega) h)))
 ·rintro i q hi ⟨hq,he⟩ ih
  have ht:=hts ts[i] (List.getElem_mem _)
  rw [List.drop_eq_getElem_cons hi,List.foldl_cons] at he
  have ih:=λs'=>ih s'
  rw [oN]
  refine dS (aJ (aC (λ_=>?_) (λh=>by omega)))
  refine cW hi (aF (aJ (aC (λh1=>?_) (λh1=>?_))))
  ·refine cW hi (gG (by omega) (by omega) (tH (by omega) (by omega) (λv hv=>?_)))
   refine aJ (aC (λh2=>?_) (λh2=>?_))
   ·rw [wQ]
    refine cW hi (gG (by omega) (by omega) ?_)
    obtain ⟨t,et⟩:=Int.eq_ofNat_of_zero_le ht.1
    rw [et]
    refine tG (by omega) (aP (by omega) ?_)
    refine ih (q.1.set t left,true) ⟨by simpa using hq,?_⟩
    rw [aJ5 (by omega) (by rw [hv];exact h2),et] at he
    exact he
   ·refine aP (by omega) (ih q ⟨hq,?_⟩)
    rw [aG8 (by rw [hv];simp only [Option.getD_some];omega)] at he
    exact he
  ·refine aP (by omega) (ih q ⟨hq,?_⟩)
   rw [aG8 (by omega)] at he
   exact he
theorem aEY {P : R→Prop} {s : List Int} (hs : xA code.length s)
 (h : Ok P (iB (.lst (code.map bP.pv)) (.bool (pY fs code s).2) T (.lst (fs.map cZ.pv)) (dO (pY fs code s).1))) :
 Ok P (dI (.lst (code.map bP.pv)) (.bool false) (.I 0) T (.lst (fs.map cZ.pv)) (dO s)):=by
 have hn2:=F.n2
 have hnf:=F.nf
 refine sE (n:=code.length) (F:=λi (q : Hs)=>dI (.lst (code.map bP.pv)) (.bool q.2) (.I i) T (.lst (fs.map cZ.pv)) (dO q.1))
  (λi q=>xA code.length q.1∧(List.range' i (code.length - i)).foldl (wZ fs code) q=pY fs code s) ?_ ?_ 0 (s,false) (by omega) ⟨hs,rfl⟩
 ·rintro q ⟨hq,he⟩
  rw [Nat.sub_self] at he
  have he : q=pY fs code s:=he
  subst he
  rw [oM]
  exact aF (aJ (aC (λh=>by omega) (λ_=>h)))
 ·rintro i q hi ⟨hq,he⟩ ih
  have e1 : code.length - i=(code.length - (i+1))+1:=by omega
  rw [e1,List.range'_succ,List.foldl_cons] at he
  have hx : code[i]? = some code[i]:=List.getElem?_eq_getElem hi
  have hu:=F.u code[i] (List.getElem_mem _)
  have hil : i<q.1.length:=by rw [hq.1];exact hi
  have hv:=hq.at i
  have e2 : q.1[i]=q.1[i]?.getD 0:=aDM hil
  have hone:=hq.one F i
  have hgo:=ih (wZ fs code q i) ⟨hone,he⟩
  have eo : wZ fs code q i=if can fs code[i] (q.1[i]?.getD 0) then (fP code[i] i).foldl (rA (gU fs code[i] (q.1[i]?.getD 0))) q else q:=by
   conv=>lhs;unfold wZ
   rw [hx]
  generalize hw : q.1[i]?.getD 0=w at *
  rw [oM]
  refine aF (aJ (aC (λ_=>?_) (λh=>by omega)))
  refine aQ hi (λ_=>rfl) (aI (aGd (T:=T) (by omega)) (λr hr=>?_))
  subst hr
  refine aU rfl (aU rfl ?_)
  refine gG (by omega) (by omega) (cW hil (bF (by omega) (aP (by omega) (gG (by omega) (by omega) (cW hil ?_)))))
  rw [e2]
  refine aJ (aC (λh1=>?_) (λh1=>?_))
  ·have hc : can fs code[i] w=false:=by simp only [can];rw [decide_eq_false (by omega)];rfl
   rw [hc,if_neg (by simp)] at eo
   rw [eo] at hgo
   exact aP (by omega) hgo
  refine cD (aC (λh2=>?_) (λh2=>?_))
  ·have hc : can fs code[i] w=false:=by simp only [can];rw [decide_eq_false (p:=gU fs code[i] w≤16) (by unfold gU;omega),Bool.and_false]
   rw [hc,if_neg (by simp)] at eo
   rw [eo] at hgo
   exact aP (by omega) hgo
  ·have hc : can fs code[i] w=true:=by simp only [can];rw [decide_eq_true (by omega),decide_eq_true (p:=gU fs code[i] w≤16) (by unfold gU;omega)];rfl
   rw [hc,if_pos rfl] at eo
   rw [eo] at hgo
   refine aQ hi (λ_=>rfl) (aI (aGe (by omega)) (λr hr=>?_))
   subst hr
   exact aKT F hi (yT F (List.getElem_mem _) hi) (by unfold fP;repeat' split<;>simp) hq.1 hgo
theorem aKU : ∀ (j : Nat) (s : List Int),nn s≤j→xA code.length s→Ok (λr=>r = [dO (aBZ fs code (j+1) s)]) (iB (.lst (code.map bP.pv)) (.bool true) T (.lst (fs.map cZ.pv)) (dO s)):=by
 intro j
 induction j with
 | zero=>
   intro s hs hg
   rw [iE]
   refine cC (aEY F hg ?_)
   rcases Dec.pass F s with h | ⟨h,h2⟩
   ·unfold aBZ
    rw [h,iE]
    exact cB (aB rfl)
   ·have h3 : nn (pY fs code s).1<nn s:=h2
    omega
 | succ j ih=>
   intro s hs hg
   rw [iE]
   refine cC (aEY F hg ?_)
   rcases Dec.pass F s with h | ⟨h,h2⟩
   ·unfold aBZ
    rw [h,iE]
    exact cB (aB rfl)
   ·rw [aBZ,h,if_pos rfl]
    exact ih _ (by have h3 : nn (pY fs code s).1<nn s:=h2;omega) (hg.pass F)
end
end
noncomputable section
open Go Go.IntWalk
attribute [local irreducible] bd PV.ite PV.guardFlat PV.guardOwn PV.whole PV.one PV.cell PV.sub PV.at_ PV.len PV.slen PV.chr PV.beq PV.peq PV.ceq PV.bin PV.neg PV.not PV.conv PV.cut PV.scut PV.cat PV.setAt PV.setCell PV.ncopy PV.copyIn PV.zeros PV.toStr PV.toBytes PV.deref PV.isPtr PV.comp PV.inb PV.off PV.imin PV.imax PV.sel PV.apply PV.isLst PV.isInt PV.ix PV.nilT
section
variable {fs : List cZ} {code : List bP} {T : PV} (F : Fit fs code)
include F
theorem aIb {f : Nat} (hf : f<fs.length) (hc : fs[f].code=code) : Ok (λr=>r = [dO (pC fs code)]) (rR (.agg [T,.lst (fs.map cZ.pv)]) (.I f)):=by
 have hn2:=F.n2
 have hn1:=F.n1
 rw [aBK]
 refine aE rfl (aA rfl (aA rfl (aQ hf (λ_=>rfl) (aA (y:=.lst (code.map bP.pv)) (by rw [← hc];rfl) ?_))))
 have key:=lH (n:=code.length) (P:=λ_ r=>r = [dO (pC fs code)])
  (F:=λi=>kB (.lst (code.map bP.pv)) (.I i) T (.lst (fs.map cZ.pv)) (dO (List.replicate i (-1)))) ?_ ?_ 0 (by omega)
 ·exact key
 ·rw [pT]
  refine aF (aJ (aC (λh=>by omega) (λ_=>?_)))
  refine gG (by omega) (by rw [List.length_replicate];omega) (tG (i:=0) (by rw [List.length_replicate];omega) ?_)
  exact aKU F code.length _ (by have:=(xA.start (n:=code.length)).1;unfold nn;exact Nat.le_trans List.countP_le_length (by omega)) xA.start
 ·intro i hi ih
  rw [pT]
  refine aF (aJ (aC (λh=>?_) (λh=>by omega)))
  refine pX (ys:=[-1]) (by rw [List.length_replicate];simp only [List.length_cons,List.length_nil];omega) (aP (by omega) ?_)
  rw [← List.replicate_succ']
  exact ih
end
section
variable {P : R → Prop} {k : PV → OR}
theorem zP {m n : Nat} {kk : IntKind} (h : n≤m) : PV.bound m (.int kk (n : Int))=some n:=by
 simp only [PV.bound]
 rw [if_pos (by omega),Int.toNat_natCast]
theorem aIc {xs ys : R} {lo hi : Nat} {k1 k2 : IntKind} (h1 : lo≤hi) (h2 : hi≤xs.length) (h3 : xs.length≤1000000000) (h : Ok P (k (.I (min (hi - lo) ys.length : Nat)))) :
 Ok P (bd (PV.ncopy (.lst xs) (.int k1 (lo : Int)) (.int k2 (hi : Int)) (.lst ys)) k):=
 cU _ (by
  simp only [PV.ncopy]
  rw [zP (by omega),zP (by omega)]
  simp only [PV.elems]
  rw [if_pos ⟨h1,h2⟩]) h
theorem aGh {s : Nat} {g : Bool} {xs ys : R} {lo hi : Nat} {k1 k2 : IntKind} (h1 : lo≤hi) (h2 : hi≤xs.length) (h3 : xs.length≤1000000000) (he : ∀ y∈ys,y.isEl s g=true)
 (h : Ok P (k (.lst (xs.take lo++ys.take (hi - lo)++xs.drop (lo+min (hi - lo) ys.length))))) :
 Ok P (bd (PV.copyIn s g (.lst xs) (.int k1 (lo : Int)) (.int k2 (hi : Int)) (.lst ys)) k):=
 cU _ (by
  simp only [PV.copyIn]
  rw [zP (by omega),zP (by omega)]
  simp only [PV.elems]
  rw [if_pos ⟨h1,h2,List.all_eq_true.2 he⟩]) h
theorem aId {e n : Nat} {z : PV} {kk : IntKind} (h1 : n*e≤140737488355328) (h2 : n≤1000000000) (h : Ok P (k (.lst (List.replicate n z)))) : Ok P (bd (PV.zeros e z (.int kk (n : Int))) k):=
 cU _ (by
  simp only [PV.zeros]
  rw [if_pos ⟨by omega,by rw [Int.toNat_natCast];exact h1,by omega⟩,Int.toNat_natCast]) h
theorem aB0 {l : List Int} : ∀ x∈l.map PV.I,x.isEl 1 false=true:=by
 intro x hx
 obtain ⟨a,_,rfl⟩:=List.mem_map.1 hx
 rfl
end
theorem aIe {n : Nat} (hn : n≤1000) : ∀ (j a : Nat),n - a≤j→1≤a→a≤n→
 Ok (λr=>r = [dO (List.replicate n (-1))]) (fG (.I a) (dO (List.replicate a (-1)++List.replicate (n - a) 0))):=by
 intro j
 induction j with
 | zero=>
   intro a h1 h2 h3
   have : a=n:=by omega
   subst this
   rw [kF]
   refine dS (aJ (aC (λh=>?_) (λ_=>aB ?_)))
   ·simp at h
   ·simp
 | succ j ih=>
   intro a h1 h2 h3
   rw [kF]
   have hl : (List.replicate a (-1 : Int)++List.replicate (n - a) 0).length=n:=by simp;omega
   have hlm : ((List.replicate a (-1 : Int)++List.replicate (n - a) 0).map PV.I).length=n:=by rw [List.length_map,hl]
   have ht : (List.replicate a (-1 : Int)++List.replicate (n - a) 0).take a=List.replicate a (-1):=by
    rw [List.take_left' (by simp)]
   refine dS (aJ (aC (λh=>?_) (λh=>aB ?_)))
   ·rw [hl] at h
    refine dS ?_
    rw [hl]
    refine aAw (by omega) (by omega) (by omega) aB0 ?_
    refine aAw (by omega) (by omega) (by omega) aB0 ?_
    refine aAw (by omega) (by omega) (by omega) aB0 ?_
    simp only [Int.toNat_natCast,Int.toNat_zero,List.drop_zero,← List.map_take]
    rw [ht]
    refine aIc (by omega) (by omega) (by omega) (aGh (by omega) (by omega) (by omega) aB0 ?_)
    rw [← List.map_take,ht,← List.map_take,← List.map_drop,← List.map_append,← List.map_append,List.length_map,List.length_replicate]
    have e : List.replicate a (-1 : Int)++(List.replicate a (-1)).take (n - a)++(List.replicate a (-1)++List.replicate (n - a) 0).drop (a+min (n - a) a)=List.replicate (a+min (n - a) a) (-1)++List.replicate (n - (a+min (n - a) a)) 0:=by
     rw [List.take_replicate,List.replicate_append_replicate,List.drop_append,List.length_replicate,List.drop_eq_nil_of_le (by simp),List.nil_append,List.drop_replicate]
     congr 2
     omega
    rw [e]
    exact aP (by omega) (ih (a+min (n - a) a) (by omega) (by omega) (by omega))
   ·have : a=n:=by rw [hl] at h;omega
    subst this
    simp
theorem aG9 {P : R→Prop} {k : PV→OR} {a : Int} (h1 : 0≤a∧a≤2097152) (h : Ok P (k (.int .u64 a))) : Ok P (bd (PV.bin .and (.int .u64 a) (.int .u64 4294967295)) k):=
 cU _ (by
  obtain ⟨n,rfl⟩:=Int.eq_ofNat_of_zero_le h1.1
  rw [gR (by simp) (by simp)]
  simp only [PV.intBin]
  have hb : IntKind.u64.bits=64:=rfl
  have e : (BitVec.ofInt 64 (n : Int)&&& BitVec.ofInt 64 4294967295).toNat=n:=by
   rw [BitVec.toNat_and,BitVec.ofInt_natCast,BitVec.toNat_ofNat]
   have : (BitVec.ofInt 64 4294967295).toNat=2 ^ 32 - 1:=by decide
   rw [this,Nat.and_two_pow_sub_one_eq_mod,Nat.mod_eq_of_lt (by omega),Nat.mod_eq_of_lt (by omega)]
  rw [hb,e,u64_in _ (by omega)]) h
theorem yU {P : R→Prop} {k : PV→OR} {a : Int} (h1 : 0≤a∧a≤2097152) (h : Ok P (k (.int .u64 0))) : Ok P (bd (PV.bin .shr (.int .u64 a) (.int .u64 32)) k):=
 cU _ (by
  simp only [PV.bin]
  rw [if_neg (by omega)]
  have : a.fdiv (2 ^ min (Int.toNat 32) IntKind.u64.bits)=0:=by
   have e : (2 : Int) ^ min (Int.toNat 32) IntKind.u64.bits=4294967296:=by decide
   rw [e,Int.fdiv_eq_ediv_of_nonneg _ (by omega)]
   omega
  rw [this]) h
theorem yV {P : R→Prop} {k : PV→OR} {a b : Int} (h1 : 0≤a*b∧a*b≤2097152) (h : Ok P (k (.int .u64 (a*b)))) : Ok P (bd (PV.bin .mul (.int .u64 a) (.int .u64 b)) k):=
 cU _ (by rw [gR (by simp) (by simp)];simp only [PV.intBin];rw [u64_in _ (by omega)]) h
theorem aB1 {P : R→Prop} {k : PV→OR} {a b : Int} (h1 : 0≤a+b∧a+b≤2097152) (h : Ok P (k (.int .u64 (a+b)))) : Ok P (bd (PV.bin .add (.int .u64 a) (.int .u64 b)) k):=
 cU _ (by rw [gR (by simp) (by simp)];simp only [PV.intBin];rw [u64_in _ (by omega)]) h
theorem aLV {P : R→Prop} {k : PV→OR} {a : Int} {kk : IntKind} (h1 : 0≤a∧a≤2097152) (h : Ok P (k (.int .u64 a))) : Ok P (bd (PV.conv .u64 (.int kk a)) k):=cU _ (by simp only [PV.conv];rw [u64_in _ (by omega)]) h
theorem aKV {n : Nat} (h1 : 1≤n) (hn : n≤1000) : Ok (λr=>r = [dO (List.replicate n (-1))]) (jW (.lst [.I (-1)]) (.I n)):=by
 rw [tW]
 refine aJ (aC (λh=>by omega) (λ_=>?_))
 rw [qW]
 refine cX (aLV (by simp) (aLV (by omega) ?_))
 refine aI (Q:=λr=>r = [.tup [.int .u64 0,.int .u64 n]]) ?_ (λr hr=>?_)
 ·rw [aCD,aA5]
  simp only [List.length_cons,List.length_nil]
  refine aI (Q:=λr=>r = [.tup [.int .u64 0,.int .u64 n]]) ?_ (λr hr=>?_)
  ·refine aG9 (by omega) (yU (by omega) (aG9 (by omega) (yU (by omega) ?_)))
   refine yV (by omega) (yV (by omega) (yU (by omega) (aB1 (by omega) ?_)))
   refine aG9 (by omega) (yU (by omega) (yV (by omega) (aB1 (by omega) ?_)))
   refine yV (by omega) (aB1 (by omega) (yU (by omega) (aB1 (by omega) (yV (by omega) (aB ?_)))))
   simp
  ·subst hr
   exact aU rfl (aU rfl (aB rfl))
 subst hr
 refine aU rfl (aU rfl (cD (aC (λh=>by omega) (λ_=>cD (aC (λh=>by omega) (λ_=>?_))))))
 rw [qX]
 refine gW (by omega) (aId (by omega) (by omega) (dX (aC (λ_=>?_) (λh=>by omega))))
 refine aId (by omega) (by omega) (cX ?_)
 rw [List.length_replicate]
 refine aIc (lo:=0) (by omega) (by simp) (by simp;omega) (aGh (lo:=0) (by omega) (by simp) (by simp;omega) (aB0 (l:=[-1])) ?_)
 have:=aIe hn n 1 (by omega) (by omega) h1
 have e : (min (n - 0) [PV.I (-1)].length : Nat)=1:=by simp;omega
 rw [e]
 have e2 : (List.replicate n (PV.I 0)).take 0++[PV.I (-1)].take (n - 0)++(List.replicate n (PV.I 0)).drop (0+1)=(List.replicate 1 (-1 : Int)++List.replicate (n - 1) 0).map PV.I:=by
  rw [List.take_zero,List.nil_append,List.take_of_length_le (by simp;omega),List.drop_replicate]
  simp
 rw [e2]
 exact this
end
noncomputable section
open Go
attribute [local irreducible] bd PV.ite PV.guardFlat PV.guardOwn PV.whole PV.one PV.cell PV.sub PV.at_ PV.len PV.slen PV.chr PV.beq PV.peq PV.ceq PV.bin PV.neg PV.not PV.conv PV.cut PV.scut PV.cat PV.setAt PV.setCell PV.ncopy PV.copyIn PV.zeros PV.toStr PV.toBytes PV.deref PV.isPtr PV.comp PV.inb PV.off PV.imin PV.imax PV.sel PV.apply PV.isLst PV.isInt PV.ix PV.nilT
section
variable {fs : List cZ} {code : List bP} {T : PV} (F : Fit fs code)
include F
theorem aGi {x : bP} (hx : x∈code) {h : Int} (hh : -1≤h∧h≤16) : Ok (λr=>r = [.tup [.I (gU fs x h),.bool (can fs x h)]]) (sU (.agg [T,.lst (fs.map cZ.pv)]) x.pv (.I h)):=by
 have hu:=F.u x hx
 have hnf:=F.nf
 rw [aEK]
 refine aE rfl (aA rfl (aA rfl (aE rfl (aA rfl (aA rfl ?_)))))
 refine aI (aKS (x:=x) (T:=T) (by omega)) (λr hr=>?_)
 subst hr
 refine aU rfl (aU rfl (bF (by omega) (aP (by omega) (dX (aC (λh1=>?_) (λh1=>aB ?_))))))
 ·refine dX (aB ?_)
  unfold can gU
  rw [decide_eq_true h1];rfl
 ·unfold can gU
  rw [decide_eq_false h1];rfl
theorem aKW {P : R→Prop} {pc : Nat} (hpc : pc<code.length) {left : Int} {b : Bool} {ts : List Int} (hts : ∀ t∈ts,0≤t∧t≤code.length) (hn : ts.length≤10) {s : Hs} (hs : s.1.length=code.length)
 (h : Ok P (gL (.lst (code.map bP.pv)) (.bool (if b then ts.foldl (rA left) s else s).2) (.lst (code.map bP.pv)) (.I code.length) (.I ((pc : Int)+1)) T (.lst (fs.map cZ.pv)) (dO (if b then ts.foldl (rA left) s else s).1))) :
 Ok P (eV (.lst (code.map bP.pv)) (.bool s.2) (.I left) (.bool b) (.lst (code.map bP.pv)) (.I code.length) (.I pc) (dO ts) (.I ts.length) (.I 0) T (.lst (fs.map cZ.pv)) (dO s.1)):=by
 have hn2:=F.n2
 refine sE (n:=ts.length) (F:=λi (q : Hs)=>eV (.lst (code.map bP.pv)) (.bool q.2) (.I left) (.bool b) (.lst (code.map bP.pv)) (.I code.length) (.I pc) (dO ts) (.I ts.length) (.I i) T (.lst (fs.map cZ.pv)) (dO q.1))
  (λi q=>q.1.length=code.length∧(if b then (ts.drop i).foldl (rA left) q else q)=(if b then ts.foldl (rA left) s else s)) ?_ ?_ 0 s (by omega) ⟨hs,by rw [List.drop_zero]⟩
 ·rintro q ⟨hq,he⟩
  rw [List.drop_length] at he
  have he : q=(if b then ts.foldl (rA left) s else s):=by rw [← he];split<;>rfl
  subst he
  rw [rV]
  exact aJ (aC (λh=>by omega) (λ_=>aP (by omega) h))
 ·rintro i q hi ⟨hq,he⟩ ih
  have ht:=hts ts[i] (List.getElem_mem _)
  rw [List.drop_eq_getElem_cons hi,List.foldl_cons] at he
  rw [rV]
  refine aJ (aC (λ_=>?_) (λh=>by omega))
  refine cW hi (aS (λhb=>?_) (λhb=>?_))
  ·subst hb
   simp only [if_true] at he ih
   refine aF (aJ (aC (λh1=>?_) (λh1=>?_)))
   ·refine gG (by omega) (by omega) (tH (by omega) (by omega) (λv hv=>?_))
    refine aJ (aC (λh2=>?_) (λh2=>?_))
    ·rw [aAT]
     refine gG (by omega) (by omega) ?_
     obtain ⟨t,et⟩:=Int.eq_ofNat_of_zero_le ht.1
     rw [et]
     refine tG (by omega) (aP (by omega) ?_)
     refine ih (q.1.set t left,true) ⟨by simpa using hq,?_⟩
     rw [aJ5 (by omega) (by rw [hv];exact h2),et] at he
     exact he
    ·refine aP (by omega) (ih q ⟨hq,?_⟩)
     rw [aG8 (by rw [hv];simp only [Option.getD_some];omega)] at he
     exact he
   ·refine aP (by omega) (ih q ⟨hq,?_⟩)
    rw [aG8 (by omega)] at he
    exact he
  ·subst hb
   exact aP (by omega) (ih q ⟨hq,he⟩)
theorem aML {x : bP} (hx : x∈code) {h : Int} (hh : h<0) : can fs x h=false:=by
 have hu:=F.u x hx
 simp only [can]
 rw [decide_eq_false (by omega)];rfl
theorem aEZ {P : R→Prop} {s : List Int} (hs : xA code.length s)
 (h : Ok P (kO (.lst (code.map bP.pv)) (.bool (pY fs code s).2) T (.lst (fs.map cZ.pv)) (dO (pY fs code s).1))) :
 Ok P (gL (.lst (code.map bP.pv)) (.bool false) (.lst (code.map bP.pv)) (.I code.length) (.I 0) T (.lst (fs.map cZ.pv)) (dO s)):=by
 have hn2:=F.n2
 have hnf:=F.nf
 refine sE (n:=code.length) (F:=λi (q : Hs)=>gL (.lst (code.map bP.pv)) (.bool q.2) (.lst (code.map bP.pv)) (.I code.length) (.I i) T (.lst (fs.map cZ.pv)) (dO q.1))
  (λi q=>xA code.length q.1∧(List.range' i (code.length - i)).foldl (wZ fs code) q=pY fs code s) ?_ ?_ 0 (s,false) (by omega) ⟨hs,rfl⟩
 ·rintro q ⟨hq,he⟩
  rw [Nat.sub_self] at he
  have he : q=pY fs code s:=he
  subst he
  rw [sY]
  exact aJ (aC (λh=>by omega) (λ_=>h))
 ·rintro i q hi ⟨hq,he⟩ ih
  have e1 : code.length - i=(code.length - (i+1))+1:=by omega
  rw [e1,List.range'_succ,List.foldl_cons] at he
  have hx : code[i]? = some code[i]:=List.getElem?_eq_getElem hi
  have hm : code[i]∈code:=List.getElem_mem _
  have hil : i<q.1.length:=by rw [hq.1];exact hi
  have hv:=hq.at i
  have e2 : q.1[i]=q.1[i]?.getD 0:=aDM hil
  have hone:=hq.one F i
  have hgo:=ih (wZ fs code q i) ⟨hone,he⟩
  have eo : wZ fs code q i=if can fs code[i] (q.1[i]?.getD 0) then (fP code[i] i).foldl (rA (gU fs code[i] (q.1[i]?.getD 0))) q else q:=by
   conv=>lhs;unfold wZ
   rw [hx]
  generalize hw : q.1[i]?.getD 0=w at *
  rw [sY]
  refine aJ (aC (λ_=>?_) (λh=>by omega))
  refine aQ hi (λ_=>rfl) (aE rfl (aA rfl (aA rfl ?_)))
  refine gG (by omega) (by omega) (cW hil ?_)
  rw [e2]
  refine aJ (aC (λh1=>?_) (λh1=>?_))
  ·rw [aML F hm h1,if_neg (by simp)] at eo
   rw [eo] at hgo
   exact aP (by omega) hgo
  refine gG (by omega) (by omega) (cW hil ?_)
  rw [e2]
  refine aI (aGi (T:=T) F hm hv) (λr hr=>?_)
  subst hr
  refine aU rfl (aU rfl (aI (aGf (x:=code[i]) (by omega)) (λr hr=>?_)))
  subst hr
  refine dS ?_
  refine aKW F hi (yT F hm hi) (by unfold fP;repeat' split<;>simp) hq.1 ?_
  rw [← eo]
  exact hgo
theorem aKX : ∀ (j : Nat) (s : List Int),nn s≤j→xA code.length s→Ok (λr=>r = [dO (aBZ fs code (j+1) s)]) (kO (.lst (code.map bP.pv)) (.bool true) T (.lst (fs.map cZ.pv)) (dO s)):=by
 intro j
 induction j with
 | zero=>
   intro s hs hg
   rw [kE]
   refine cC (aF (aEZ F hg ?_))
   rcases Dec.pass F s with h | ⟨h,h2⟩
   ·unfold aBZ
    rw [h,kE]
    exact cB (aB rfl)
   ·have h3 : nn (pY fs code s).1<nn s:=h2
    omega
 | succ j ih=>
   intro s hs hg
   rw [kE]
   refine cC (aF (aEZ F hg ?_))
   rcases Dec.pass F s with h | ⟨h,h2⟩
   ·unfold aBZ
    rw [h,kE]
    exact cB (aB rfl)
   ·rw [aBZ,h,if_pos rfl]
    exact ih _ (by have h3 : nn (pY fs code s).1<nn s:=h2;omega) (hg.pass F)
theorem aKY (l : List Int) : PV.flatO (.own 1 8 false []) (dO l)=true:=by
 clear F
 show PV.flatEs false [] (l.map PV.I)=true
 induction l with
 | nil=>simp [PV.flatEs]
 | cons x r ih=>simp [PV.flatEs,PV.flatE,PV.flat,ih]
theorem aE0 {f : Nat} (hf : f<fs.length) (hc : fs[f].code=code) : Ok (λr=>r = [dO (pC fs code)]) (yD (.agg [T,.lst (fs.map cZ.pv)]) (.I f)):=by
 have hn2:=F.n2
 have hn1:=F.n1
 rw [aEJ]
 refine aE rfl (aA rfl (aA rfl (aQ hf (λ_=>rfl) (aA (y:=.lst (code.map bP.pv)) (by rw [← hc];rfl) (aF ?_)))))
 refine aI (aKV hn1 (by omega)) (λr hr=>?_)
 subst hr
 refine gI (aKY F _) (gG (by omega) (by rw [List.length_replicate];omega) (tG (i:=0) (by rw [List.length_replicate];omega) ?_))
 exact aKX F code.length _ (by have:=(xA.start (n:=code.length)).1;unfold nn;exact Nat.le_trans List.countP_le_length (by omega)) xA.start
end
theorem dT.okB_fit {m : dT} (h : m.okB=true) : 1≤m.funcs.length∧m.funcs.length≤12∧∀ f∈m.funcs,Fit m.funcs f.code∧0≤f.p∧f.p≤6∧f.p≤f.lc∧f.lc≤12:=by
 simp only [dT.okB,Bool.and_eq_true,bH,decide_eq_true_eq,List.all_eq_true,sD] at h
 obtain ⟨⟨h1,h2⟩,_,_,h3⟩:=h
 have hp : ∀ i : Int,0≤iN m.funcs i∧iN m.funcs i≤6:=by
  intro i
  unfold iN
  cases hx : m.funcs[i.toNat]? with
  | none=>simp
  | some f=>exact (h3 f (List.mem_of_getElem? hx)).1
 refine ⟨by omega,by omega,λf hf=>?_⟩
 obtain ⟨p1,p2,p3,p4⟩:=h3 f hf
 refine ⟨⟨by omega,by omega,by omega,λx hx=>?_,λx hx hj=>?_⟩,p1.1,p1.2,p2.1,p2.2⟩
 ·have:=hp x.a
  unfold bL
  repeat' split
  all_goals (simp only;omega)
 ·have:=p4 x hx
  unfold bW at this
  rcases hj with hj | hj | hj<;>simp [hj,jU] at this<;>omega
end
noncomputable section
open Go Go.IntWalk
attribute [local irreducible] bd PV.ite PV.guardFlat PV.guardOwn PV.whole PV.one PV.cell PV.sub PV.at_ PV.len PV.slen PV.chr PV.beq PV.peq PV.ceq PV.bin PV.neg PV.not PV.conv PV.cut PV.scut PV.cat PV.setAt PV.setCell PV.ncopy PV.copyIn PV.zeros PV.toStr PV.toBytes PV.deref PV.isPtr PV.comp PV.inb PV.off PV.imin PV.imax PV.sel PV.apply PV.isLst PV.isInt PV.ix PV.nilT
structure eU where
 f : Int
 pc : Int
 loc : List eL
 stk : List eL
def bD (l : List eL) : PV:=.lst (l.map eL.pv)
def eU.pv (f : eU) : PV:=.agg [.I f.f,.I f.pc,bD f.loc,bD f.stk]
def jE (r : List eL) : PV:=.agg [bD r]
theorem pM {l : List eL} : ∀ x∈l.map eL.pv,x.isEl 3 true=true:=by
 intro x hx
 obtain ⟨a,_,rfl⟩:=List.mem_map.1 hx
 rfl
section
variable {P : R → Prop} {k : PV → OR}
theorem bR {A cs : R} {s : Nat} {i : Int} (hi : i=A.length) (hs : cs.length=s) (h : Ok P (k (.agg cs))) : Ok P (bd (PV.at_ s true (.lst (A++[.agg cs])) (.I i)) k):=
 cU _ (by
  subst hi
  simp only [PV.at_]
  rw [if_pos (by omega),Int.toNat_natCast,List.getElem?_append_right (Nat.le_refl _),Nat.sub_self]
  simp only [List.getElem?_cons_zero]
  rw [if_pos (by simp [PV.isEl,hs])]) h
theorem fM {A cs : R} {s off : Nat} {i : Int} {v : PV} (hi : i=A.length) (hs : cs.length=s) (ho : off<s) (hv : v.isEl 1 false=true) (h : Ok P (k (.lst (A++[.agg (cs.set off v)])))) :
 Ok P (bd (PV.setCell s (.lst (A++[.agg cs])) (.I i) off v) k):=by
 subst hi
 refine fQ (by omega) (cs:=cs) (by rw [Int.toNat_natCast,List.getElem?_append_right (Nat.le_refl _),Nat.sub_self];rfl) hs ho hv ?_
 rw [Int.toNat_natCast,List.set_append_right _ _ (Nat.le_refl _),Nat.sub_self]
 exact h
theorem vV {l : List eL} {i : Int} (h0 : 0≤i) (h1 : i<l.length) (h : ∀ v,l[i.toNat]? = some v→Ok P (k v.pv)) : Ok P (bd (PV.at_ 3 true (bD l) (.I i)) k):=by
 refine rG h0 (by rw [List.length_map];exact h1) pM (λx _ hx=>?_)
 rw [List.getElem?_map] at hx
 cases hl : l[i.toNat]? with
 | none=>rw [hl] at hx;cases hx
 | some v=>rw [hl] at hx;cases hx;exact h v hl
theorem nK {l : List eL} (h : Ok P (k (.I l.length))) : Ok P (bd (PV.len (bD l)) k):=aF h
theorem jF {l : List eL} {i : Int} (h0 : 0≤i) (h1 : i<l.length) (h : Ok P (k (bD l))) : Ok P (bd (PV.inb (bD l) (.I i)) k):=cT h0 (by rw [List.length_map];exact h1) h
theorem aDb {l : List eL} {m n : Int} (h0 : 0≤m) (h1 : m≤n) (h2 : n≤l.length) (h : Ok P (k (bD ((l.take n.toNat).drop m.toNat)))) : Ok P (bd (PV.cut 3 true (bD l) (.I m) (.I n)) k):=by
 refine aAw h0 h1 (by rw [List.length_map];exact h2) pM ?_
 rw [← List.map_take,← List.map_drop]
 exact h
theorem aDc {l m : List eL} (hb : l.length+m.length≤1000000000) (h : Ok P (k (bD (l++m)))) : Ok P (bd (PV.cat 3 32 true (bD l) (.lst (m.map eL.pv))) k):=by
 refine jI (by simp only [List.length_map];omega) pM ?_
 rw [← List.map_append]
 exact h
theorem tJ {l : List eL} {i : Int} {v : eL} (h0 : 0≤i) (h1 : i<l.length) (h : Ok P (k (bD (l.set i.toNat v)))) : Ok P (bd (PV.setAt 3 true (bD l) (.I i) v.pv) k):=by
 refine aDS h0 (by rw [List.length_map];exact h1) rfl ?_
 rw [← List.map_set]
 exact h
theorem zQ {n : Int} (h0 : 0≤n) (h1 : n≤1000000000) (h : Ok P (k (bD (List.replicate n.toNat fB)))) : Ok P (bd (PV.zeros 32 (.agg [.I 0,.I 0,.str (bs [])]) (.I n)) k):=by
 obtain ⟨m,rfl⟩:=Int.eq_ofNat_of_zero_le h0
 refine cU _ ?_ h
 simp only [PV.zeros]
 rw [if_pos ⟨by omega,by omega,by omega⟩,Int.toNat_natCast,bD,List.map_replicate]
 rfl
end
section
variable {P : R → Prop} {k : R → OR} {a0 a1 a2 a3 a4 a5 a6 a7 a8 a9 H O : PV} {A : R}
theorem yW {x : PV} (hA : A.length≤2097152) (h : Ok P (k [.I A.length,a0,a1,a2,a3,a4,a5,a6,a7,a8,a9,.lst (A++[x]),H,O])) :
 Ok P (bd (dR a0 a1 a2 a3 a4 a5 a6 a7 a8 a9 (.lst (A++[x])) H O) k):=by
 refine aI (Q:=λr=>r = [.I A.length,a0,a1,a2,a3,a4,a5,a6,a7,a8,a9,.lst (A++[x]),H,O]) ?_ (λr hr=>by rw [hr];exact h)
 rw [yP]
 have e : ((A++[x]).length : Int) - 1=A.length:=by simp
 refine cX (bF (by simp;omega) ?_)
 rw [e]
 exact cT (by omega) (by simp;omega) (aB rfl)
theorem fT {f pc : Int} {loc s : List eL} {v : eL} (hA : A.length≤2097152) (hs : s.length≤2097152)
 (h : Ok P (k [v.pv,a0,a1,a2,a3,a4,a5,a6,a7,a8,a9,.lst (A++[eU.pv ⟨f,pc,loc,s⟩]),H,O])) :
 Ok P (bd (aW a0 a1 a2 a3 a4 a5 a6 a7 a8 a9 (.lst (A++[eU.pv ⟨f,pc,loc,s++[v]⟩])) H O) k):=by
 refine aI (Q:=λr=>r = [v.pv,a0,a1,a2,a3,a4,a5,a6,a7,a8,a9,.lst (A++[eU.pv ⟨f,pc,loc,s⟩]),H,O]) ?_ (λr hr=>by rw [hr];exact h)
 rw [aBa]
 have e : ((s++[v]).length : Int) - 1=s.length:=by simp
 have hl : (s++[v]).length=s.length+1:=by simp
 have at3 : ∀ {P : R→Prop} {k : PV→OR},Ok P (k (bD (s++[v])))→Ok P (bd (PV.at_ 4 true (.lst (A++[eU.pv ⟨f,pc,loc,s++[v]⟩])) (.I A.length)) λx=>bd (PV.cell x 3) k):=
  λh=>bR rfl rfl (aA rfl h)
 have at_ : ∀ {P : R→Prop} {k : PV→OR},(∀ x,Ok P (k x))→Ok P (bd (PV.at_ 4 true (.lst (A++[eU.pv ⟨f,pc,loc,s++[v]⟩])) (.I A.length)) k):=
  λh=>bR rfl rfl (h _)
 have el : (s++[v])[(s.length : Int).toNat]? = some v:=by rw [Int.toNat_natCast,List.getElem?_append_right (Nat.le_refl _),Nat.sub_self];rfl
 refine yW hA (at_ (λ_=>at_ (λ_=>at3 (nK (bF (by omega) ?_)))))
 rw [e]
 refine at3 (jF (by omega) (by omega) (at3 (vV (by omega) (by omega) (λw hw=>?_))))
 rw [el] at hw
 cases hw
 refine aE rfl (aA rfl (aA rfl (aA rfl (at_ (λ_=>at_ (λ_=>at3 (nK (bF (by omega) ?_))))))))
 rw [e]
 refine at3 (aDb (by omega) (by omega) (by omega) (at3 (aDb (by omega) (by omega) (by omega) (at3 ?_))))
 refine fM rfl rfl (by omega) rfl (fM rfl rfl (by omega) rfl (aB ?_))
 simp only [Int.toNat_natCast,Int.toNat_zero,List.drop_zero,List.take_left']
 rfl
theorem aDN {f pc : Int} {loc s : List eL} {v : eL} (hA : A.length≤2097152) (hs : s.length≤2097152)
 (h : Ok P (k [a0,a1,a2,a3,a4,a5,a6,a7,a8,a9,.lst (A++[eU.pv ⟨f,pc,loc,s++[v]⟩]),H,O])) :
 Ok P (bd (gH v.pv a0 a1 a2 a3 a4 a5 a6 a7 a8 a9 (.lst (A++[eU.pv ⟨f,pc,loc,s⟩])) H O) k):=by
 refine aI (Q:=λr=>r = [a0,a1,a2,a3,a4,a5,a6,a7,a8,a9,.lst (A++[eU.pv ⟨f,pc,loc,s++[v]⟩]),H,O]) ?_ (λr hr=>by rw [hr];exact h)
 rw [aAe]
 refine aE rfl (aA rfl (aA rfl (aA rfl (yW hA ?_))))
 refine bR rfl rfl (bR rfl rfl (aA rfl (bR rfl rfl (aA rfl ?_))))
 refine fM rfl rfl (by omega) rfl (aDc (m:=[v]) (by simp;omega) (fM rfl rfl (by omega) rfl (aB rfl)))
theorem gP {f pc : Int} {loc s : List eL} {vk vn : Int} {vs : ByteArray} (hA : A.length≤2097152) (hs : s.length≤2097152)
 (h : Ok P (k [a0,a1,a2,a3,a4,a5,a6,a7,a8,a9,.lst (A++[eU.pv ⟨f,pc,loc,s++[⟨vk,vn,vs⟩]⟩]),H,O])) :
 Ok P (bd (bE (.I vk) (.I vn) (.str vs) a0 a1 a2 a3 a4 a5 a6 a7 a8 a9 (.lst (A++[eU.pv ⟨f,pc,loc,s⟩])) H O) k):=by
 refine aI (Q:=λr=>r = [a0,a1,a2,a3,a4,a5,a6,a7,a8,a9,.lst (A++[eU.pv ⟨f,pc,loc,s++[⟨vk,vn,vs⟩]⟩]),H,O]) ?_ (λr hr=>by rw [hr];exact h)
 rw [vT]
 refine yW hA ?_
 refine bR rfl rfl (bR rfl rfl (aA rfl (bR rfl rfl (aA rfl ?_))))
 refine fM rfl rfl (by omega) rfl (aDc (m:=[⟨vk,vn,vs⟩]) (by simp;omega) (fM rfl rfl (by omega) rfl (aB rfl)))
end
inductive aJo where
 | trap (c : Int)
 | next (fr : eU) (hp : List (List eL)) (made : Int) (out : List ByteArray)
 | call (fr : eU) (g : eU)
 | ret (v : eL)
def mH (v : eL) (hp : List (List eL)) : ByteArray:=
 if v.k=0 then bs [110,105,108] else if v.k=1 then qZ v.n else if v.k=2 then (if v.n=1 then bs [116,114,117,101] else bs [102,97,108,115,101]) else if v.k=3 then v.s
 else if v.k=5 then bs [102,117,110]++qZ v.n
 else if v.k=4 then bs [123]++qZ ((hp[v.n.toNat]?.getD []).length)++bs [125] else bs []
def aCJ (fs : List cZ) (i : Int) : Int:=(fs[i.toNat]?.map cZ.lc).getD 0
def xB (fs : List cZ) (g : Int) (args : List eL) : eU:=⟨g,0,args++List.replicate ((aCJ fs g).toNat - args.length) fB,[]⟩
def oJ (m : dT) (fr : eU) (took : List eL) (depth : Nat) (hp : List (List eL)) (made : Int) (out : List ByteArray) (x : bP) : aJo:=
 let a:=took.headD fB
 let b:=took.tail.headD fB
 let go : List eL→aJo:=λl=>.next ⟨fr.f,fr.pc,fr.loc,fr.stk++l⟩ hp made out
 let rec_ : List eL:=hp[a.n.toNat]?.getD []
 if x.o=1 then go [wX x.a]
 else if x.o=2 then go [qN (decide (x.a=1))]
 else if x.o=3 then go [aBS (m.texts[x.a.toNat]?.getD (bs []))]
 else if x.o=4 then go [fB]
 else if x.o=5 then go [aJk x.a]
 else if x.o=6 then go [fr.loc[x.a.toNat]?.getD fB]
 else if x.o=7 then .next ⟨fr.f,fr.pc,fr.loc.set x.a.toNat a,fr.stk⟩ hp made out
 else if x.o=8 then go [a,a]
 else if x.o=9 then go []
 else if x.o=10 then go [b,a]
 else if x.o≤15 then (if (wY x.o a b).2≠0 then .trap (wY x.o a b).2 else go [(wY x.o a b).1])
 else if x.o=16 then (if (aDE a).2≠0 then .trap (aDE a).2 else go [(aDE a).1])
 else if x.o=17 then .next ⟨fr.f,x.a,fr.loc,fr.stk⟩ hp made out
 else if x.o≤19 then (if a.k≠2 then .trap 1 else if (decide (a.n=1)==decide (x.o=18))=true then .next ⟨fr.f,x.a,fr.loc,fr.stk⟩ hp made out else go [])
 else if x.o=20 then (if made=120 then .trap 7 else .next ⟨fr.f,fr.pc,fr.loc,fr.stk++[aMF hp.length]⟩ (hp++[List.replicate x.a.toNat fB]) (made+1) out)
 else if x.o=21 then (if a.k≠4 then .trap 1 else if rec_.length≤x.a then .trap 4 else go [rec_[x.a.toNat]?.getD fB])
 else if x.o=22 then (if a.k≠4 then .trap 1 else if rec_.length≤x.a then .trap 4 else .next fr (hp.set a.n.toNat (rec_.set x.a.toNat b)) made out)
 else if x.o=23 then (if a.k≠5 then .trap 1 else if iN m.funcs a.n≠x.a then .trap 5 else if depth=24 then .trap 6 else .call fr (xB m.funcs a.n took.tail))
 else if x.o=24 then (if depth=24 then .trap 6 else .call fr (xB m.funcs x.a took))
 else if x.o=25 then .ret a
 else if out.length=200 then .trap 8 else .next fr hp made (out++[mH a hp])
theorem aHa {v : eL} {hp : List (List eL)} {nf : Int} (hnf : nf≤1000) (hh : hp.length≤1000) (hr : ∀ r∈hp,r.length≤1000) (hv : bV nf hp.length v=true) :
 Ok (λr=>r = [.str (mH v hp)]) (rU v.pv (.lst (hp.map jE))):=by
 have hn : -1000000000≤v.n∧v.n≤1000000000∧(v.k=4→0≤v.n∧v.n<hp.length)∧0≤v.k∧v.k≤5:=by
  unfold bV at hv
  repeat' split at hv
  all_goals first
   | (cases hv;done)
   | (simp only [dA,bH,Bool.and_eq_true,decide_eq_true_eq] at hv;omega)
 rw [aBN]
 refine aE rfl (aA rfl (aA rfl (aA rfl ?_)))
 refine aG (aC (λh=>aB ?_) (λh0=>aG (aC (λh=>?_) (λh1=>aG (aC (λh=>?_) (λh2=>aG (aC (λh=>aB ?_) (λh3=>aG (aC (λh=>?_) (λh5=>?_))))))))))
 ·unfold mH;rw [if_pos h]
 ·refine aI (yS (by omega)) (λr hr=>?_)
  subst hr
  refine aB ?_
  unfold mH;rw [if_neg h0,if_pos h];rfl
 ·refine aG (aC (λh'=>aB ?_) (λh'=>aB ?_))
  ·unfold mH;rw [if_neg h0,if_neg h1,if_pos h,if_pos h']
  ·unfold mH;rw [if_neg h0,if_neg h1,if_pos h,if_neg h']
 ·unfold mH;rw [if_neg h0,if_neg h1,if_neg h2,if_pos h]
 ·refine aI (yS (by omega)) (λr hr=>?_)
  subst hr
  have:=aBX v.n
  refine tI (by have e : (bs [102,117,110]).size=3:=rfl
                omega) (aB ?_)
  unfold mH;rw [if_neg h0,if_neg h1,if_neg h2,if_neg h3,if_pos h]
 ·refine aG (aC (λh4=>?_) (λh4=>by omega))
  refine aF (bF (by omega) (eK ?_))
  rw [show jU v.n 0 (hp.length - 1)=true from bH.2 (by omega)]
  refine cC ?_
  obtain ⟨i,hi⟩:=Int.eq_ofNat_of_zero_le (hn.2.2.1 h4).1
  have hil : i<hp.length:=by omega
  rw [hi]
  have hrl:=hr _ (List.getElem_mem hil)
  refine aQ hil (λ_=>rfl) (aA rfl (nK ?_))
  refine aI (yS (by omega)) (λr hr=>?_)
  subst hr
  have:=aBX ((hp[i].length : Nat) : Int)
  have e1 : (bs [123]).size=1:=rfl
  have e2 : (bs [125]).size=1:=rfl
  refine tI (by omega) (tI (by rw [ByteArray.size_append];omega) (aB ?_))
  unfold mH;rw [if_neg h0,if_neg h1,if_neg h2,if_neg h3,if_neg h5,if_pos h4,hi,Int.toNat_natCast,List.getElem?_eq_getElem hil]
  rfl
section
variable {a2 a3 a4 a5 a6 a7 a8 H O T : PV} {A : R} {fs : List cZ}
theorem aIf {P : R→Prop} {g : Int} {loc : List eL} (hA : A.length≤1000) (h : P [T,.lst (fs.map cZ.pv),a2,a3,a4,a5,a6,a7,a8,.I 0,.lst (A++[eU.pv ⟨g,0,loc,[]⟩]),H,O]) :
 Ok P (iD (.I g) T (.lst (fs.map cZ.pv)) a2 a3 a4 a5 a6 a7 a8 (.I 0) (.lst A) H O (bD loc)):=by
 rw [uQ]
 refine aT rfl (jI (by simp;omega) (λx hx=>by simp only [List.mem_singleton] at hx;subst hx;rfl) (aB h))
theorem aMM {P : R→Prop} {g f pc : Int} {under : Bool} {loc s s1 : List eL} (hA : A.length≤100) (hs : s.length≤100) (hu : (under=true∧∃ w,s=s1++[w])∨(under=false∧s=s1)) :
 ∀ (j : Nat) (args post pre : List eL),args.length=j→pre.length=j→j+post.length≤50→
 P [T,.lst (fs.map cZ.pv),a2,a3,a4,a5,a6,a7,a8,.I 0,.lst (A++[eU.pv ⟨f,pc,loc,s1⟩]++[eU.pv ⟨g,0,args++post,[]⟩]),H,O]→
 Ok P (iS (.I g) (.bool under) (.I ((j : Int) - 1)) T (.lst (fs.map cZ.pv)) a2 a3 a4 a5 a6 a7 a8 (.I 0) (.lst (A++[eU.pv ⟨f,pc,loc,s++args⟩])) H O (bD (pre++post))):=by
 intro j
 induction j with
 | zero=>
   intro args post pre h1 h2 h3 h
   rw [List.eq_nil_of_length_eq_zero h1,List.nil_append] at h
   rw [List.eq_nil_of_length_eq_zero h1,List.eq_nil_of_length_eq_zero h2,List.append_nil,List.nil_append,oF]
   refine dY (aC (λh=>by omega) (λ_=>?_))
   rcases hu with ⟨rfl,w,rfl⟩ | ⟨rfl,rfl⟩
   ·refine cC (fT (by omega) (by simp at hs;omega) ?_)
    exact aIf (by simp;omega) h
   ·exact cB (aIf (by simp;omega) h)
 | succ j ih=>
   intro args post pre h1 h2 h3 h
   obtain ⟨args',v,rfl⟩ : ∃ l v,args=l++[v]:=⟨args.dropLast,args.getLast (λe=>by rw [e] at h1;simp at h1),(List.dropLast_concat_getLast _).symm⟩
   obtain ⟨pre',u,rfl⟩ : ∃ l v,pre=l++[v]:=⟨pre.dropLast,pre.getLast (λe=>by rw [e] at h2;simp at h2),(List.dropLast_concat_getLast _).symm⟩
   simp only [List.length_append,List.length_cons,List.length_nil,Nat.zero_add,Nat.add_right_cancel_iff] at h1 h2
   have ej : ((j+1 : Nat) : Int) - 1=j:=by omega
   rw [ej,oF,← List.append_assoc]
   refine dY (aC (λ_=>?_) (λh=>by omega))
   refine fT (by omega) (by simp;omega) ?_
   have hlen : (pre'++[u]++post).length=j+1+post.length:=by simp;omega
   refine jF (by omega) (by omega) (tJ (by omega) (by omega) (bF (by omega) ?_))
   have e : (pre'++[u]++post).set (j : Int).toNat v=pre'++(v::post):=by
    rw [Int.toNat_natCast,← h2,List.append_assoc,List.set_append_right _ _ (Nat.le_refl _),Nat.sub_self]
    rfl
   rw [e]
   refine ih args' (v::post) pre' h1 h2 (by simp;omega) ?_
   rw [show args'++v::post=args'++[v]++post by simp]
   exact h
theorem aIg {P : R→Prop} {k : R→OR} {g f pc : Int} {under : Bool} {loc s s1 args : List eL} (hF : fs.length≤1000) (hpar : ∀ f∈fs,0≤f.p∧f.p≤6∧f.p≤f.lc∧f.lc≤12) (hA : A.length≤23) (hs : s.length≤100)
 (hu : (under=true∧∃ w,s=s1++[w])∨(under=false∧s=s1)) (hg : 0≤g∧g<fs.length) (ha : args.length=iN fs g)
 (h1 : A.length=23→Ok P (k [T,.lst (fs.map cZ.pv),a2,a3,a4,a5,a6,a7,a8,.I 6,.lst (A++[eU.pv ⟨f,pc,loc,s++args⟩]),H,O]))
 (h2 : A.length≠23→Ok P (k [T,.lst (fs.map cZ.pv),a2,a3,a4,a5,a6,a7,a8,.I 0,.lst (A++[eU.pv ⟨f,pc,loc,s1⟩]++[eU.pv (xB fs g args)]),H,O])) :
 Ok P (bd (lE (.I g) (.bool under) T (.lst (fs.map cZ.pv)) a2 a3 a4 a5 a6 a7 a8 (.I 0) (.lst (A++[eU.pv ⟨f,pc,loc,s++args⟩])) H O) k):=by
 obtain ⟨n,rfl⟩:=Int.eq_ofNat_of_zero_le hg.1
 have hn : n<fs.length:=by omega
 have hp:=hpar _ (List.getElem_mem hn)
 have ep : iN fs (n : Int)=fs[n].p:=by simp [iN,List.getElem?_eq_getElem hn]
 have el : aCJ fs (n : Int)=fs[n].lc:=by simp [aCJ,List.getElem?_eq_getElem hn]
 rw [ep] at ha
 have hl : ((A++[eU.pv ⟨f,pc,loc,s++args⟩]).length : Int)=A.length+1:=by simp
 refine aI (Q:=λr=>(A.length=23∧r = [T,.lst (fs.map cZ.pv),a2,a3,a4,a5,a6,a7,a8,.I 6,.lst (A++[eU.pv ⟨f,pc,loc,s++args⟩]),H,O])∨
  (A.length≠23∧r = [T,.lst (fs.map cZ.pv),a2,a3,a4,a5,a6,a7,a8,.I 0,.lst (A++[eU.pv ⟨f,pc,loc,s1⟩]++[eU.pv (xB fs n args)]),H,O])) ?_ ?_
 ·rw [aAf]
  refine aQ hn (λ_=>rfl) (aE rfl (aA rfl (aA rfl (aA rfl (cX ?_)))))
  refine aG (aC (λh=>aB (.inl ⟨by omega,rfl⟩)) (λh=>?_))
  refine zQ (by omega) (by omega) (dX (aC (λ_=>?_) (λh=>by omega)))
  refine zQ (by omega) (by omega) (bF (by omega) ?_)
  have e1 : fs[n].p - 1=((args.length : Int)) - 1:=by omega
  have e2 : List.replicate fs[n].lc.toNat fB=List.replicate args.length fB++List.replicate (fs[n].lc.toNat - args.length) fB:=by
   rw [List.replicate_append_replicate];congr 1;omega
  rw [e1,e2]
  refine aMM (by omega) hs hu args.length args _ _ rfl (by simp) (by simp;omega) (.inr ⟨by omega,?_⟩)
  simp only [xB,el]
 ·rintro r (⟨h,rfl⟩ | ⟨h,rfl⟩)
  ·exact h1 h
  ·exact h2 h
end
def aE1 (v : eL) : List eU→List eU
 | []=>[]
 | [f]=>[⟨f.f,f.pc,f.loc,f.stk++[v]⟩]
 | f::g::r=>f::aE1 v (g::r)
theorem aBd (v : eL) : ∀ (l : List eU) (f : eU),aE1 v (l++[f])=l++[⟨f.f,f.pc,f.loc,f.stk++[v]⟩]
 | [],_=>rfl
 | [a],f=>rfl
 | a::b::l,f=>by
   show a::aE1 v (b::l++[f])=_
   rw [aBd v (b::l) f]
   rfl
def DoR (a0 a1 made a3 a4 a5 a6 a7 a8 H O : PV) (fs0 : List eU) : aJo→R→Prop
 | .trap c,r=>c≠0∧gd r 9 = .I c
 | .next fr hp made' out,r=>r = [a0,a1,.I made',a3,a4,a5,a6,a7,a8,.I 0,.lst (fs0.map eU.pv++[fr.pv]),.lst (hp.map jE),.lst (out.map PV.str)]
 | .call fr g,r=>r = [a0,a1,made,a3,a4,a5,a6,a7,a8,.I 0,.lst (fs0.map eU.pv++[fr.pv]++[g.pv]),H,O]
 | .ret v,r=>r=if fs0 = [] then [a0,a1,made,.I 1,a4,.I v.k,.I v.n,.str v.s,a8,.I 0,.lst [],H,O]
  else [a0,a1,made,a3,a4,a5,a6,a7,a8,.I 0,.lst ((aE1 v fs0).map eU.pv),H,O]
structure aNh (m : dT) (fs0 : List eU) (fr : eU) (took : List eL) (hp : List (List eL)) (made : Int) (out : List ByteArray) : Prop where
 nf : m.funcs.length≤12
 nt : m.texts.length≤20
 par : ∀ f∈m.funcs,0≤f.p∧f.p≤6∧f.p≤f.lc∧f.lc≤12
 n0 : fs0.length≤23
 stks : ∀ f∈fs0,f.stk.length≤16
 nl : fr.loc.length≤12
 ns : fr.stk.length+took.length≤16
 recs : ∀ r∈hp,r.length≤6
 nh : hp.length≤120
 nm : 0≤made∧made≤120
 no : out.length≤200
 bD : ∀ v∈took,bV m.funcs.length hp.length v=true
theorem bX {nf recs : Int} {v : eL} (h : bV nf recs v=true) : v.s.size≤60:=by
 by_cases h3 : v.k=3
 ·unfold bV at h
  rw [if_neg (λe=>e.1 h3),if_neg (by omega),if_neg (by omega),if_neg (by omega),if_pos h3] at h
  simp only [Bool.and_eq_true,iL,decide_eq_true_eq] at h
  omega
 ·unfold bV at h
  split at h
  ·cases h
  ·rename_i hn
   have he : sF v.s (bs [])=true:=by
    cases hs : sF v.s (bs []) with
    | true=>rfl
    | false=>exact absurd ⟨h3,hs⟩ hn
   have e0 : (bs []).toList = []:=by rw [Lib.toList_data];rfl
   unfold sF at he
   rw [e0] at he
   have hl : v.s.toList = []:=by simpa using he
   have hsz : v.s.size=v.s.toList.length:=by
    rw [Lib.toList_data,Array.length_toList]
    rfl
   rw [hsz,hl]
   simp
theorem aGj {nf recs : Int} {v : eL} (h : bV nf recs v=true) (hk : v.k=4) : 0≤v.n∧v.n<recs:=by
 unfold bV at h
 by_cases hc : v.k≠3∧sF v.s (bs [])=false
 ·rw [if_pos hc] at h;cases h
 ·rw [if_neg hc,if_neg (by omega),if_neg (by omega),if_neg (by omega),if_neg (by omega),if_pos hk] at h
  simp only [Bool.and_eq_true,decide_eq_true_eq] at h
  exact h
theorem aGk {nf recs : Int} {v : eL} (h : bV nf recs v=true) (hk : v.k=5) : 0≤v.n∧v.n<nf:=by
 unfold bV at h
 by_cases hc : v.k≠3∧sF v.s (bs [])=false
 ·rw [if_pos hc] at h;cases h
 ·rw [if_neg hc,if_neg (by omega),if_neg (by omega),if_neg (by omega),if_neg (by omega),if_neg (by omega),if_pos hk] at h
  have:=bH.1 h
  omega
theorem uT {nt nf lc nc : Int} {x : bP} (h : bW nt nf lc nc x.o x.a=true) : (1≤x.o∧x.o≤26)∧(x.o=3→0≤x.a∧x.a<nt)∧((x.o=6∨x.o=7)→0≤x.a∧x.a<lc)∧(x.o=20→0≤x.a∧x.a≤6)∧
 ((x.o=21∨x.o=22)→0≤x.a∧x.a≤5)∧(x.o=23→0≤x.a∧x.a≤6)∧((x.o=5∨x.o=24)→0≤x.a∧x.a<nf)∧((x.o=17∨x.o=18∨x.o=19)→0≤x.a∧x.a<nc)∧(x.o=1→dA x.a=true):=by
 unfold bW at h
 by_cases h1 : x.o=1
 ·rw [if_pos h1] at h
  have h:=bH.1 h
  exact ⟨by omega,λ_=>by omega,λ_=>by omega,λ_=>by omega,λ_=>by omega,λ_=>by omega,λ_=>by omega,λ_=>by omega,λ_=>by first | (unfold dA;exact bH.2 (by omega)) | (exfalso;omega)⟩
 rw [if_neg h1] at h
 by_cases h2 : x.o=2
 ·rw [if_pos h2] at h
  have h:=bH.1 h
  exact ⟨by omega,λ_=>by omega,λ_=>by omega,λ_=>by omega,λ_=>by omega,λ_=>by omega,λ_=>by omega,λ_=>by omega,λ_=>by first | (unfold dA;exact bH.2 (by omega)) | (exfalso;omega)⟩
 rw [if_neg h2] at h
 by_cases h3 : x.o=3
 ·rw [if_pos h3] at h
  have h:=bH.1 h
  exact ⟨by omega,λ_=>by omega,λ_=>by omega,λ_=>by omega,λ_=>by omega,λ_=>by omega,λ_=>by omega,λ_=>by omega,λ_=>by first | (unfold dA;exact bH.2 (by omega)) | (exfalso;omega)⟩
 rw [if_neg h3] at h
 by_cases h5 : x.o=5
 ·rw [if_pos h5] at h
  have h:=bH.1 h
  exact ⟨by omega,λ_=>by omega,λ_=>by omega,λ_=>by omega,λ_=>by omega,λ_=>by omega,λ_=>by omega,λ_=>by omega,λ_=>by first | (unfold dA;exact bH.2 (by omega)) | (exfalso;omega)⟩
 rw [if_neg h5] at h
 by_cases h24 : x.o=24
 ·rw [if_pos h24] at h
  have h:=bH.1 h
  exact ⟨by omega,λ_=>by omega,λ_=>by omega,λ_=>by omega,λ_=>by omega,λ_=>by omega,λ_=>by omega,λ_=>by omega,λ_=>by first | (unfold dA;exact bH.2 (by omega)) | (exfalso;omega)⟩
 rw [if_neg h24] at h
 by_cases h6 : x.o=6
 ·rw [if_pos h6] at h
  have h:=bH.1 h
  exact ⟨by omega,λ_=>by omega,λ_=>by omega,λ_=>by omega,λ_=>by omega,λ_=>by omega,λ_=>by omega,λ_=>by omega,λ_=>by first | (unfold dA;exact bH.2 (by omega)) | (exfalso;omega)⟩
 rw [if_neg h6] at h
 by_cases h7 : x.o=7
 ·rw [if_pos h7] at h
  have h:=bH.1 h
  exact ⟨by omega,λ_=>by omega,λ_=>by omega,λ_=>by omega,λ_=>by omega,λ_=>by omega,λ_=>by omega,λ_=>by omega,λ_=>by first | (unfold dA;exact bH.2 (by omega)) | (exfalso;omega)⟩
 rw [if_neg h7] at h
 by_cases h17 : x.o=17
 ·rw [if_pos h17] at h
  have h:=bH.1 h
  exact ⟨by omega,λ_=>by omega,λ_=>by omega,λ_=>by omega,λ_=>by omega,λ_=>by omega,λ_=>by omega,λ_=>by omega,λ_=>by first | (unfold dA;exact bH.2 (by omega)) | (exfalso;omega)⟩
 rw [if_neg h17] at h
 by_cases h18 : x.o=18
 ·rw [if_pos h18] at h
  have h:=bH.1 h
  exact ⟨by omega,λ_=>by omega,λ_=>by omega,λ_=>by omega,λ_=>by omega,λ_=>by omega,λ_=>by omega,λ_=>by omega,λ_=>by first | (unfold dA;exact bH.2 (by omega)) | (exfalso;omega)⟩
 rw [if_neg h18] at h
 by_cases h19 : x.o=19
 ·rw [if_pos h19] at h
  have h:=bH.1 h
  exact ⟨by omega,λ_=>by omega,λ_=>by omega,λ_=>by omega,λ_=>by omega,λ_=>by omega,λ_=>by omega,λ_=>by omega,λ_=>by first | (unfold dA;exact bH.2 (by omega)) | (exfalso;omega)⟩
 rw [if_neg h19] at h
 by_cases h20 : x.o=20
 ·rw [if_pos h20] at h
  have h:=bH.1 h
  exact ⟨by omega,λ_=>by omega,λ_=>by omega,λ_=>by omega,λ_=>by omega,λ_=>by omega,λ_=>by omega,λ_=>by omega,λ_=>by first | (unfold dA;exact bH.2 (by omega)) | (exfalso;omega)⟩
 rw [if_neg h20] at h
 by_cases h21 : x.o=21
 ·rw [if_pos h21] at h
  have h:=bH.1 h
  exact ⟨by omega,λ_=>by omega,λ_=>by omega,λ_=>by omega,λ_=>by omega,λ_=>by omega,λ_=>by omega,λ_=>by omega,λ_=>by first | (unfold dA;exact bH.2 (by omega)) | (exfalso;omega)⟩
 rw [if_neg h21] at h
 by_cases h22 : x.o=22
 ·rw [if_pos h22] at h
  have h:=bH.1 h
  exact ⟨by omega,λ_=>by omega,λ_=>by omega,λ_=>by omega,λ_=>by omega,λ_=>by omega,λ_=>by omega,λ_=>by omega,λ_=>by first | (unfold dA;exact bH.2 (by omega)) | (exfalso;omega)⟩
 rw [if_neg h22] at h
 by_cases h23 : x.o=23
 ·rw [if_pos h23] at h
  have h:=bH.1 h
  exact ⟨by omega,λ_=>by omega,λ_=>by omega,λ_=>by omega,λ_=>by omega,λ_=>by omega,λ_=>by omega,λ_=>by omega,λ_=>by first | (unfold dA;exact bH.2 (by omega)) | (exfalso;omega)⟩
 rw [if_neg h23] at h
 simp only [Bool.and_eq_true,decide_eq_true_eq,bH] at h
 exact ⟨by omega,λ_=>by omega,λ_=>by omega,λ_=>by omega,λ_=>by omega,λ_=>by omega,λ_=>by omega,λ_=>by omega,λ_=>by first | (unfold dA;exact bH.2 (by omega)) | (exfalso;omega)⟩
variable {a0 a1 a2 a3 a4 a5 a6 a7 a8 : PV}
section
variable {P : R → Prop} {k : PV → OR} {hp : List (List eL)}
theorem hH {i : Int} (h0 : 0≤i) (h1 : i<hp.length) (h : Ok P (k (jE (hp[i.toNat]?.getD [])))) : Ok P (bd (PV.at_ 1 true (.lst (hp.map jE)) (.I i)) k):=by
 obtain ⟨n,rfl⟩:=Int.eq_ofNat_of_zero_le h0
 have hn : n<hp.length:=by omega
 rw [Int.toNat_natCast,List.getElem?_eq_getElem hn] at h
 exact aQ hn (λ_=>rfl) h
theorem vW {i : Int} (h0 : 0≤i) (h1 : i<hp.length) (h : Ok P (k (.lst (hp.map jE)))) : Ok P (bd (PV.inb (.lst (hp.map jE)) (.I i)) k):=cT h0 (by rw [List.length_map];exact h1) h
theorem aJp {i : Int} {r : List eL} (h0 : 0≤i) (h1 : i<hp.length) (h : Ok P (k (.lst ((hp.set i.toNat r).map jE)))) : Ok P (bd (PV.setCell 1 (.lst (hp.map jE)) (.I i) 0 (bD r)) k):=by
 obtain ⟨n,rfl⟩:=Int.eq_ofNat_of_zero_le h0
 have hn : n<hp.length:=by omega
 refine fQ (cs:=[bD hp[n]]) (by omega) (by rw [Int.toNat_natCast,List.getElem?_map,List.getElem?_eq_getElem hn];rfl) rfl (by omega) rfl ?_
 rw [List.map_set] at h
 exact h
theorem aJ6 {hp : List (List eL)} (h : ∀ r∈hp,r.length≤6) (i : Nat) : (hp[i]?.getD []).length≤6:=by
 cases hx : hp[i]? with
 | none=>simp
 | some r=>exact h r (List.mem_of_getElem? hx)
end
theorem aBe {α : Type} {l : List α} (h : l.length=2) : ∃ a b,l = [a,b]:=by
 match l,h with
 | [a,b],_=>exact ⟨a,b,rfl⟩
theorem aKZ {l : List eU} : ∀ x∈l.map eU.pv,x.isEl 4 true=true:=by
 intro x hx
 obtain ⟨a,_,rfl⟩:=List.mem_map.1 hx
 rfl
set_option maxRecDepth 100000 in
set_option maxHeartbeats 4000000 in
theorem aMN {m : dT} {fs0 : List eU} {fr : eU} {took : List eL} {hp : List (List eL)} {made : Int} {out : List ByteArray} {x : bP} {nc : Int}
 (S : aNh m fs0 fr took hp made out) (hx : bW m.texts.length m.funcs.length fr.loc.length nc x.o x.a=true) (hu : (took.length : Int)=(bL m.funcs x).1) :
 Ok (DoR (.lst (m.texts.map PV.str)) (.lst (m.funcs.map cZ.pv)) (.I made) a3 a4 a5 a6 a7 a8 (.lst (hp.map jE)) (.lst (out.map PV.str)) fs0 (oJ m fr took (fs0.length+1) hp made out x))
  (rT (.I x.o) (.I x.a) (.lst (m.texts.map PV.str)) (.lst (m.funcs.map cZ.pv)) (.I made) a3 a4 a5 a6 a7 a8 (.I 0)
   (.lst (fs0.map eU.pv++[eU.pv ⟨fr.f,fr.pc,fr.loc,fr.stk++took⟩])) (.lst (hp.map jE)) (.lst (out.map PV.str))):=by
 obtain ⟨q26,q3,q67,q20,q2122,q23,q524,qj,q1⟩:=uT hx
 obtain ⟨nf,nt,par,n0,stks,nl,ns,recs,nh,nm,no,vals0⟩:=S
 have nA : (fs0.map eU.pv).length≤23:=by rw [List.length_map];exact n0
 obtain ⟨ff,fpc,floc,fstk⟩:=fr
 simp only at *
 rw [aBM]
 refine yW (by omega) ?_
 refine aG (aC (λho=>?_) (λn1=>?_))
 ·have e0 : bL m.funcs x=(0,1):=by unfold bL;repeat (first | rfl | rw [if_pos (by omega)] | rw [if_neg (by omega)])
  rw [e0] at hu
  obtain rfl:=List.eq_nil_of_length_eq_zero (show took.length=0 by omega)
  simp only [List.length_nil,Nat.add_zero,List.append_nil] at ns ⊢
  have e : oJ m ⟨ff,fpc,floc,fstk⟩ [] (fs0.length+1) hp made out x = .next ⟨ff,fpc,floc,fstk++[wX x.a]⟩ hp made out:=by simp only [oJ];repeat (first | rfl | rw [if_pos (by omega)] | rw [if_neg (by omega)])
  exact uS (aDN (by omega) (by omega) (aB (by rw [e];rfl)))
 refine aG (aC (λho=>?_) (λn2=>?_))
 ·have e0 : bL m.funcs x=(0,1):=by unfold bL;repeat (first | rfl | rw [if_pos (by omega)] | rw [if_neg (by omega)])
  rw [e0] at hu
  obtain rfl:=List.eq_nil_of_length_eq_zero (show took.length=0 by omega)
  simp only [List.length_nil,Nat.add_zero,List.append_nil] at ns ⊢
  have e : oJ m ⟨ff,fpc,floc,fstk⟩ [] (fs0.length+1) hp made out x = .next ⟨ff,fpc,floc,fstk++[qN (decide (x.a=1))]⟩ hp made out:=by simp only [oJ];repeat (first | rfl | rw [if_pos (by omega)] | rw [if_neg (by omega)])
  exact aG (nJ (aDN (by omega) (by omega) (aB (by rw [e];rfl))))
 refine aG (aC (λho=>?_) (λn3=>?_))
 ·have e0 : bL m.funcs x=(0,1):=by unfold bL;repeat (first | rfl | rw [if_pos (by omega)] | rw [if_neg (by omega)])
  rw [e0] at hu
  obtain rfl:=List.eq_nil_of_length_eq_zero (show took.length=0 by omega)
  simp only [List.length_nil,Nat.add_zero,List.append_nil] at ns ⊢
  have e : oJ m ⟨ff,fpc,floc,fstk⟩ [] (fs0.length+1) hp made out x = .next ⟨ff,fpc,floc,fstk++[aBS (m.texts[x.a.toNat]?.getD (bs []))]⟩ hp made out:=by simp only [oJ];repeat (first | rfl | rw [if_pos (by omega)] | rw [if_neg (by omega)])
  obtain ⟨i,hi⟩:=Int.eq_ofNat_of_zero_le (q3 ho).1
  have hil : i<m.texts.length:=by have:=q3 ho;omega
  rw [hi] at e ⊢
  rw [Int.toNat_natCast,List.getElem?_eq_getElem hil] at e
  exact aQ hil (λ_=>rfl) (aT rfl (gP (by omega) (by omega) (aB (by rw [e];rfl))))
 refine aG (aC (λho=>?_) (λn4=>?_))
 ·have e0 : bL m.funcs x=(0,1):=by unfold bL;repeat (first | rfl | rw [if_pos (by omega)] | rw [if_neg (by omega)])
  rw [e0] at hu
  obtain rfl:=List.eq_nil_of_length_eq_zero (show took.length=0 by omega)
  simp only [List.length_nil,Nat.add_zero,List.append_nil] at ns ⊢
  have e : oJ m ⟨ff,fpc,floc,fstk⟩ [] (fs0.length+1) hp made out x = .next ⟨ff,fpc,floc,fstk++[fB]⟩ hp made out:=by simp only [oJ];repeat (first | rfl | rw [if_pos (by omega)] | rw [if_neg (by omega)])
  exact gP (by omega) (by omega) (aB (by rw [e];rfl))
 refine aG (aC (λho=>?_) (λn5=>?_))
 ·have e0 : bL m.funcs x=(0,1):=by unfold bL;repeat (first | rfl | rw [if_pos (by omega)] | rw [if_neg (by omega)])
  rw [e0] at hu
  obtain rfl:=List.eq_nil_of_length_eq_zero (show took.length=0 by omega)
  simp only [List.length_nil,Nat.add_zero,List.append_nil] at ns ⊢
  have e : oJ m ⟨ff,fpc,floc,fstk⟩ [] (fs0.length+1) hp made out x = .next ⟨ff,fpc,floc,fstk++[aJk x.a]⟩ hp made out:=by simp only [oJ];repeat (first | rfl | rw [if_pos (by omega)] | rw [if_neg (by omega)])
  exact aT rfl (gP (by omega) (by omega) (aB (by rw [e];rfl)))
 refine aG (aC (λho=>?_) (λn6=>?_))
 ·have e0 : bL m.funcs x=(0,1):=by unfold bL;repeat (first | rfl | rw [if_pos (by omega)] | rw [if_neg (by omega)])
  rw [e0] at hu
  obtain rfl:=List.eq_nil_of_length_eq_zero (show took.length=0 by omega)
  simp only [List.length_nil,Nat.add_zero,List.append_nil] at ns ⊢
  have e : oJ m ⟨ff,fpc,floc,fstk⟩ [] (fs0.length+1) hp made out x = .next ⟨ff,fpc,floc,fstk++[floc[x.a.toNat]?.getD fB]⟩ hp made out:=by simp only [oJ];repeat (first | rfl | rw [if_pos (by omega)] | rw [if_neg (by omega)])
  have hq:=q67 (.inl ho)
  refine bR rfl rfl (bR rfl rfl (aA (y:=bD floc) rfl (jF (by omega) (by omega) (bR rfl rfl (aA (y:=bD floc) rfl (vV (by omega) (by omega) (λv hv=>?_)))))))
  rw [hv] at e
  exact aDN (by omega) (by omega) (aB (by rw [e];rfl))
 refine aG (aC (λho=>?_) (λn7=>?_))
 ·have e0 : bL m.funcs x=(1,0):=by unfold bL;repeat (first | rfl | rw [if_pos (by omega)] | rw [if_neg (by omega)])
  rw [e0] at hu
  obtain ⟨a,rfl⟩:=List.length_eq_one_iff.1 (show took.length=1 by omega)
  have va:=vals0 a (by simp)
  have sa:=bX va
  have ns : fstk.length+1≤16:=ns
  have e : oJ m ⟨ff,fpc,floc,fstk⟩ [a] (fs0.length+1) hp made out x = .next ⟨ff,fpc,floc.set x.a.toNat a,fstk⟩ hp made out:=by simp only [oJ];repeat (first | rfl | rw [if_pos (by omega)] | rw [if_neg (by omega)])
  have hq:=q67 (.inr ho)
  refine fT (by omega) (by first | omega | (simp;omega)) (aE rfl (aA rfl (aA rfl (aA rfl (?_)))))
  refine bR rfl rfl (bR rfl rfl (aA (y:=bD floc) rfl (jF (by omega) (by omega) (bR rfl rfl (aA (y:=bD floc) rfl (bR rfl rfl (aA (y:=bD floc) rfl ?_)))))))
  refine tJ (v:=a) (by omega) (by omega) (bR rfl rfl (aA (y:=bD floc) rfl (fM rfl rfl (by omega) rfl (aB (by rw [e];rfl)))))
 refine aG (aC (λho=>?_) (λn8=>?_))
 ·have e0 : bL m.funcs x=(1,2):=by unfold bL;repeat (first | rfl | rw [if_pos (by omega)] | rw [if_neg (by omega)])
  rw [e0] at hu
  obtain ⟨a,rfl⟩:=List.length_eq_one_iff.1 (show took.length=1 by omega)
  have va:=vals0 a (by simp)
  have sa:=bX va
  have ns : fstk.length+1≤16:=ns
  have e : oJ m ⟨ff,fpc,floc,fstk⟩ [a] (fs0.length+1) hp made out x = .next ⟨ff,fpc,floc,fstk++[a,a]⟩ hp made out:=by simp only [oJ];repeat (first | rfl | rw [if_pos (by omega)] | rw [if_neg (by omega)])
  refine fT (by omega) (by first | omega | (simp;omega)) (aE rfl (aA rfl (aA rfl (aA rfl (?_)))))
  refine gP (by omega) (by omega) (gP (by omega) (by simp;omega) (aB ?_))
  rw [e]
  show _=_
  simp only [List.append_assoc]
  rfl
 refine aG (aC (λho=>?_) (λn9=>?_))
 ·have e0 : bL m.funcs x=(1,0):=by unfold bL;repeat (first | rfl | rw [if_pos (by omega)] | rw [if_neg (by omega)])
  rw [e0] at hu
  obtain ⟨a,rfl⟩:=List.length_eq_one_iff.1 (show took.length=1 by omega)
  have va:=vals0 a (by simp)
  have sa:=bX va
  have ns : fstk.length+1≤16:=ns
  have e : oJ m ⟨ff,fpc,floc,fstk⟩ [a] (fs0.length+1) hp made out x = .next ⟨ff,fpc,floc,fstk++[]⟩ hp made out:=by simp only [oJ];repeat (first | rfl | rw [if_pos (by omega)] | rw [if_neg (by omega)])
  refine fT (by omega) (by first | omega | (simp;omega)) (aB ?_)
  rw [e,List.append_nil]
  rfl
 refine aG (aC (λho=>?_) (λn10=>?_))
 ·have e0 : bL m.funcs x=(2,2):=by unfold bL;repeat (first | rfl | rw [if_pos (by omega)] | rw [if_neg (by omega)])
  rw [e0] at hu
  obtain ⟨a,b,rfl⟩:=aBe (show took.length=2 by omega)
  have va:=vals0 a (by simp)
  have vb:=vals0 b (by simp)
  have sa:=bX va
  have sb:=bX vb
  rw [show fstk++[a,b]=fstk++[a]++[b] by simp]
  have ns : fstk.length+2≤16:=ns
  have e : oJ m ⟨ff,fpc,floc,fstk⟩ [a,b] (fs0.length+1) hp made out x = .next ⟨ff,fpc,floc,fstk++[b,a]⟩ hp made out:=by simp only [oJ];repeat (first | rfl | rw [if_pos (by omega)] | rw [if_neg (by omega)])
  refine fT (by omega) (by first | omega | (simp;omega)) (aE rfl (aA rfl (aA rfl (aA rfl (?_)))))
  refine fT (by omega) (by first | omega | (simp;omega)) (aE rfl (aA rfl (aA rfl (aA rfl (?_)))))
  refine gP (by omega) (by omega) (gP (by omega) (by simp;omega) (aB ?_))
  rw [e]
  show _=_
  simp only [List.append_assoc]
  rfl
 refine aG (aC (λho=>?_) (λn11=>?_))
 ·have e0 : bL m.funcs x=(2,1):=by unfold bL;repeat (first | rfl | rw [if_pos (by omega)] | rw [if_neg (by omega)])
  rw [e0] at hu
  obtain ⟨a,b,rfl⟩:=aBe (show took.length=2 by omega)
  have va:=vals0 a (by simp)
  have vb:=vals0 b (by simp)
  have sa:=bX va
  have sb:=bX vb
  rw [show fstk++[a,b]=fstk++[a]++[b] by simp]
  have ns : fstk.length+2≤16:=ns
  have e : oJ m ⟨ff,fpc,floc,fstk⟩ [a,b] (fs0.length+1) hp made out x=if (wY x.o a b).2≠0 then .trap (wY x.o a b).2 else .next ⟨ff,fpc,floc,fstk++[(wY x.o a b).1]⟩ hp made out:=by simp only [oJ];repeat (first | rfl | rw [if_pos (by omega)] | rw [if_neg (by omega)])
  refine fT (by omega) (by first | omega | (simp;omega)) (aE rfl (aA rfl (aA rfl (aA rfl (?_)))))
  refine fT (by omega) (by first | omega | (simp;omega)) (aE rfl (aA rfl (aA rfl (aA rfl (?_)))))
  refine oG (aBU (o:=x.o) (a:=a) (b:=b) (by omega) ⟨by omega,by omega⟩) (aU rfl (aU rfl (aE rfl (aA rfl (aA rfl (aA rfl (aT rfl (gP (by omega) (by omega) (aB ?_)))))))))
  by_cases ht : (wY x.o a b).2≠0
  ·rw [e,if_pos ht];exact ⟨ht,rfl⟩
  ·rw [e,if_neg ht]
   have ht : (wY x.o a b).2=0:=by simpa using ht
   rw [ht];rfl
 refine aG (aC (λho=>?_) (λn12=>?_))
 ·have e0 : bL m.funcs x=(2,1):=by unfold bL;repeat (first | rfl | rw [if_pos (by omega)] | rw [if_neg (by omega)])
  rw [e0] at hu
  obtain ⟨a,b,rfl⟩:=aBe (show took.length=2 by omega)
  have va:=vals0 a (by simp)
  have vb:=vals0 b (by simp)
  have sa:=bX va
  have sb:=bX vb
  rw [show fstk++[a,b]=fstk++[a]++[b] by simp]
  have ns : fstk.length+2≤16:=ns
  have e : oJ m ⟨ff,fpc,floc,fstk⟩ [a,b] (fs0.length+1) hp made out x=if (wY x.o a b).2≠0 then .trap (wY x.o a b).2 else .next ⟨ff,fpc,floc,fstk++[(wY x.o a b).1]⟩ hp made out:=by simp only [oJ];repeat (first | rfl | rw [if_pos (by omega)] | rw [if_neg (by omega)])
  refine fT (by omega) (by first | omega | (simp;omega)) (aE rfl (aA rfl (aA rfl (aA rfl (?_)))))
  refine fT (by omega) (by first | omega | (simp;omega)) (aE rfl (aA rfl (aA rfl (aA rfl (?_)))))
  refine oG (aBU (o:=x.o) (a:=a) (b:=b) (by omega) ⟨by omega,by omega⟩) (aU rfl (aU rfl (aE rfl (aA rfl (aA rfl (aA rfl (aT rfl (gP (by omega) (by omega) (aB ?_)))))))))
  by_cases ht : (wY x.o a b).2≠0
  ·rw [e,if_pos ht];exact ⟨ht,rfl⟩
  ·rw [e,if_neg ht]
   have ht : (wY x.o a b).2=0:=by simpa using ht
   rw [ht];rfl
 refine aG (aC (λho=>?_) (λn13=>?_))
 ·have e0 : bL m.funcs x=(2,1):=by unfold bL;repeat (first | rfl | rw [if_pos (by omega)] | rw [if_neg (by omega)])
  rw [e0] at hu
  obtain ⟨a,b,rfl⟩:=aBe (show took.length=2 by omega)
  have va:=vals0 a (by simp)
  have vb:=vals0 b (by simp)
  have sa:=bX va
  have sb:=bX vb
  rw [show fstk++[a,b]=fstk++[a]++[b] by simp]
  have ns : fstk.length+2≤16:=ns
  have e : oJ m ⟨ff,fpc,floc,fstk⟩ [a,b] (fs0.length+1) hp made out x=if (wY x.o a b).2≠0 then .trap (wY x.o a b).2 else .next ⟨ff,fpc,floc,fstk++[(wY x.o a b).1]⟩ hp made out:=by simp only [oJ];repeat (first | rfl | rw [if_pos (by omega)] | rw [if_neg (by omega)])
  refine fT (by omega) (by first | omega | (simp;omega)) (aE rfl (aA rfl (aA rfl (aA rfl (?_)))))
  refine fT (by omega) (by first | omega | (simp;omega)) (aE rfl (aA rfl (aA rfl (aA rfl (?_)))))
  refine oG (aBU (o:=x.o) (a:=a) (b:=b) (by omega) ⟨by omega,by omega⟩) (aU rfl (aU rfl (aE rfl (aA rfl (aA rfl (aA rfl (aT rfl (gP (by omega) (by omega) (aB ?_)))))))))
  by_cases ht : (wY x.o a b).2≠0
  ·rw [e,if_pos ht];exact ⟨ht,rfl⟩
  ·rw [e,if_neg ht]
   have ht : (wY x.o a b).2=0:=by simpa using ht
   rw [ht];rfl
 refine aG (aC (λho=>?_) (λn14=>?_))
 ·have e0 : bL m.funcs x=(2,1):=by unfold bL;repeat (first | rfl | rw [if_pos (by omega)] | rw [if_neg (by omega)])
  rw [e0] at hu
  obtain ⟨a,b,rfl⟩:=aBe (show took.length=2 by omega)
  have va:=vals0 a (by simp)
  have vb:=vals0 b (by simp)
  have sa:=bX va
  have sb:=bX vb
  rw [show fstk++[a,b]=fstk++[a]++[b] by simp]
  have ns : fstk.length+2≤16:=ns
  have e : oJ m ⟨ff,fpc,floc,fstk⟩ [a,b] (fs0.length+1) hp made out x=if (wY x.o a b).2≠0 then .trap (wY x.o a b).2 else .next ⟨ff,fpc,floc,fstk++[(wY x.o a b).1]⟩ hp made out:=by simp only [oJ];repeat (first | rfl | rw [if_pos (by omega)] | rw [if_neg (by omega)])
  refine fT (by omega) (by first | omega | (simp;omega)) (aE rfl (aA rfl (aA rfl (aA rfl (?_)))))
  refine fT (by omega) (by first | omega | (simp;omega)) (aE rfl (aA rfl (aA rfl (aA rfl (?_)))))
  refine oG (aBU (o:=x.o) (a:=a) (b:=b) (by omega) ⟨by omega,by omega⟩) (aU rfl (aU rfl (aE rfl (aA rfl (aA rfl (aA rfl (aT rfl (gP (by omega) (by omega) (aB ?_)))))))))
  by_cases ht : (wY x.o a b).2≠0
  ·rw [e,if_pos ht];exact ⟨ht,rfl⟩
  ·rw [e,if_neg ht]
   have ht : (wY x.o a b).2=0:=by simpa using ht
   rw [ht];rfl
 refine aG (aC (λho=>?_) (λn15=>?_))
 ·have e0 : bL m.funcs x=(2,1):=by unfold bL;repeat (first | rfl | rw [if_pos (by omega)] | rw [if_neg (by omega)])
  rw [e0] at hu
  obtain ⟨a,b,rfl⟩:=aBe (show took.length=2 by omega)
  have va:=vals0 a (by simp)
  have vb:=vals0 b (by simp)
  have sa:=bX va
  have sb:=bX vb
  rw [show fstk++[a,b]=fstk++[a]++[b] by simp]
  have ns : fstk.length+2≤16:=ns
  have e : oJ m ⟨ff,fpc,floc,fstk⟩ [a,b] (fs0.length+1) hp made out x=if (wY x.o a b).2≠0 then .trap (wY x.o a b).2 else .next ⟨ff,fpc,floc,fstk++[(wY x.o a b).1]⟩ hp made out:=by simp only [oJ];repeat (first | rfl | rw [if_pos (by omega)] | rw [if_neg (by omega)])
  refine fT (by omega) (by first | omega | (simp;omega)) (aE rfl (aA rfl (aA rfl (aA rfl (?_)))))
  refine fT (by omega) (by first | omega | (simp;omega)) (aE rfl (aA rfl (aA rfl (aA rfl (?_)))))
  refine oG (aBU (o:=x.o) (a:=a) (b:=b) (by omega) ⟨by omega,by omega⟩) (aU rfl (aU rfl (aE rfl (aA rfl (aA rfl (aA rfl (aT rfl (gP (by omega) (by omega) (aB ?_)))))))))
  by_cases ht : (wY x.o a b).2≠0
  ·rw [e,if_pos ht];exact ⟨ht,rfl⟩
  ·rw [e,if_neg ht]
   have ht : (wY x.o a b).2=0:=by simpa using ht
   rw [ht];rfl
 refine aG (aC (λho=>?_) (λn16=>?_))
 ·have e0 : bL m.funcs x=(1,1):=by unfold bL;repeat (first | rfl | rw [if_pos (by omega)] | rw [if_neg (by omega)])
  rw [e0] at hu
  obtain ⟨a,rfl⟩:=List.length_eq_one_iff.1 (show took.length=1 by omega)
  have va:=vals0 a (by simp)
  have sa:=bX va
  have ns : fstk.length+1≤16:=ns
  have e : oJ m ⟨ff,fpc,floc,fstk⟩ [a] (fs0.length+1) hp made out x=if (aDE a).2≠0 then .trap (aDE a).2 else .next ⟨ff,fpc,floc,fstk++[(aDE a).1]⟩ hp made out:=by simp only [oJ];repeat (first | rfl | rw [if_pos (by omega)] | rw [if_neg (by omega)])
  refine fT (by omega) (by first | omega | (simp;omega)) (?_)
  refine oG (aLQ (v:=a)) (aU rfl (aU rfl (aE rfl (aA rfl (aA rfl (aA rfl (aT rfl (gP (by omega) (by omega) (aB ?_)))))))))
  by_cases ht : (aDE a).2≠0
  ·rw [e,if_pos ht];exact ⟨ht,rfl⟩
  ·rw [e,if_neg ht]
   have ht : (aDE a).2=0:=by simpa using ht
   rw [ht];rfl
 refine aG (aC (λho=>?_) (λn17=>?_))
 ·have e0 : bL m.funcs x=(0,0):=by unfold bL;repeat (first | rfl | rw [if_pos (by omega)] | rw [if_neg (by omega)])
  rw [e0] at hu
  obtain rfl:=List.eq_nil_of_length_eq_zero (show took.length=0 by omega)
  simp only [List.length_nil,Nat.add_zero,List.append_nil] at ns ⊢
  have e : oJ m ⟨ff,fpc,floc,fstk⟩ [] (fs0.length+1) hp made out x = .next ⟨ff,x.a,floc,fstk⟩ hp made out:=by simp only [oJ];repeat (first | rfl | rw [if_pos (by omega)] | rw [if_neg (by omega)])
  exact aT rfl (fM rfl rfl (by omega) rfl (aB (by rw [e];rfl)))
 refine aG (aC (λho=>?_) (λn18=>?_))
 ·have e0 : bL m.funcs x=(1,0):=by unfold bL;repeat (first | rfl | rw [if_pos (by omega)] | rw [if_neg (by omega)])
  rw [e0] at hu
  obtain ⟨a,rfl⟩:=List.length_eq_one_iff.1 (show took.length=1 by omega)
  have va:=vals0 a (by simp)
  have sa:=bX va
  have ns : fstk.length+1≤16:=ns
  have e : oJ m ⟨ff,fpc,floc,fstk⟩ [a] (fs0.length+1) hp made out x=if a.k≠2 then .trap 1 else if (decide (a.n=1)==decide (x.o=18))=true then .next ⟨ff,x.a,floc,fstk⟩ hp made out else .next ⟨ff,fpc,floc,fstk++[]⟩ hp made out:=by simp only [oJ];repeat (first | rfl | rw [if_pos (by omega)] | rw [if_neg (by omega)])
  refine fT (by omega) (by first | omega | (simp;omega)) (aE rfl (aA rfl (aA rfl (aA rfl (?_)))))
  refine bM (aN (λh=>aB (by rw [e,if_pos h];exact ⟨by omega,rfl⟩)) (λh=>?_))
  rw [if_neg (by simpa using h)] at e
  refine aG (aG (aDR (aS (λhb=>?_) (λhb=>?_))))
  ·rw [if_pos hb] at e
   exact aT rfl (fM rfl rfl (by omega) rfl (aB (by rw [e];rfl)))
  ·rw [if_neg (by rw [hb];simp)] at e
   exact aB (by rw [e,List.append_nil];rfl)
 refine aG (aC (λho=>?_) (λn19=>?_))
 ·have e0 : bL m.funcs x=(1,0):=by unfold bL;repeat (first | rfl | rw [if_pos (by omega)] | rw [if_neg (by omega)])
  rw [e0] at hu
  obtain ⟨a,rfl⟩:=List.length_eq_one_iff.1 (show took.length=1 by omega)
  have va:=vals0 a (by simp)
  have sa:=bX va
  have ns : fstk.length+1≤16:=ns
  have e : oJ m ⟨ff,fpc,floc,fstk⟩ [a] (fs0.length+1) hp made out x=if a.k≠2 then .trap 1 else if (decide (a.n=1)==decide (x.o=18))=true then .next ⟨ff,x.a,floc,fstk⟩ hp made out else .next ⟨ff,fpc,floc,fstk++[]⟩ hp made out:=by simp only [oJ];repeat (first | rfl | rw [if_pos (by omega)] | rw [if_neg (by omega)])
  refine fT (by omega) (by first | omega | (simp;omega)) (aE rfl (aA rfl (aA rfl (aA rfl (?_)))))
  refine bM (aN (λh=>aB (by rw [e,if_pos h];exact ⟨by omega,rfl⟩)) (λh=>?_))
  rw [if_neg (by simpa using h)] at e
  refine aG (aG (aDR (aS (λhb=>?_) (λhb=>?_))))
  ·rw [if_pos hb] at e
   exact aT rfl (fM rfl rfl (by omega) rfl (aB (by rw [e];rfl)))
  ·rw [if_neg (by rw [hb];simp)] at e
   exact aB (by rw [e,List.append_nil];rfl)
 refine aG (aC (λho=>?_) (λn20=>?_))
 ·have e0 : bL m.funcs x=(0,1):=by unfold bL;repeat (first | rfl | rw [if_pos (by omega)] | rw [if_neg (by omega)])
  rw [e0] at hu
  obtain rfl:=List.eq_nil_of_length_eq_zero (show took.length=0 by omega)
  simp only [List.length_nil,Nat.add_zero,List.append_nil] at ns ⊢
  have e : oJ m ⟨ff,fpc,floc,fstk⟩ [] (fs0.length+1) hp made out x=if made=120 then .trap 7 else .next ⟨ff,fpc,floc,fstk++[aMF hp.length]⟩ (hp++[List.replicate x.a.toNat fB]) (made+1) out:=by simp only [oJ];repeat (first | rfl | rw [if_pos (by omega)] | rw [if_neg (by omega)])
  have hq:=q20 ho
  refine aG (aC (λh=>aB (by rw [e,if_pos h];exact ⟨by omega,rfl⟩)) (λh=>?_))
  rw [if_neg h] at e
  refine aF (aT rfl (gP (by omega) (by omega) (?_)))
  refine zQ (by omega) (by omega) (dX (aC (λ_=>?_) (λh=>by omega)))
  refine zQ (by omega) (by omega) (jI (by simp;omega) (λx hx=>by simp only [List.mem_singleton] at hx;subst hx;rfl) (aP (by omega) (aT rfl (aB ?_))))
  rw [e]
  show _=_
  rw [List.map_append]
  rfl
 refine aG (aC (λho=>?_) (λn21=>?_))
 ·have e0 : bL m.funcs x=(1,1):=by unfold bL;repeat (first | rfl | rw [if_pos (by omega)] | rw [if_neg (by omega)])
  rw [e0] at hu
  obtain ⟨a,rfl⟩:=List.length_eq_one_iff.1 (show took.length=1 by omega)
  have va:=vals0 a (by simp)
  have sa:=bX va
  have ns : fstk.length+1≤16:=ns
  have e : oJ m ⟨ff,fpc,floc,fstk⟩ [a] (fs0.length+1) hp made out x=if a.k≠4 then .trap 1 else if (hp[a.n.toNat]?.getD []).length≤x.a then .trap 4 else .next ⟨ff,fpc,floc,fstk++[(hp[a.n.toNat]?.getD [])[x.a.toNat]?.getD fB]⟩ hp made out:=by simp only [oJ];repeat (first | rfl | rw [if_pos (by omega)] | rw [if_neg (by omega)])
  refine fT (by omega) (by first | omega | (simp;omega)) (aE rfl (aA rfl (aA rfl (aA rfl (?_)))))
  have hq:=q2122 (.inl ho)
  refine bM (aN (λh=>aB (by rw [e,if_pos h];exact ⟨by omega,rfl⟩)) (λh=>?_))
  rw [if_neg (by simpa using h)] at e
  have hr:=aGj va h
  have hlen:=aJ6 recs a.n.toNat
  refine vW (by omega) (by omega) (hH (by omega) (by omega) (hH (by omega) (by omega) (aA rfl (nK ?_))))
  refine dY (aC (λh=>aB (by rw [e,if_pos h];exact ⟨by omega,rfl⟩)) (λh=>?_))
  rw [if_neg h] at e
  refine vW (by omega) (by omega) (hH (by omega) (by omega) (hH (by omega) (by omega) (aA rfl (jF (by omega) (by omega) (hH (by omega) (by omega) (aA rfl ?_))))))
  refine vV (by omega) (by omega) (λv hv=>?_)
  rw [hv] at e
  exact aDN (by omega) (by omega) (aB (by rw [e];rfl))
 refine aG (aC (λho=>?_) (λn22=>?_))
 ·have e0 : bL m.funcs x=(2,0):=by unfold bL;repeat (first | rfl | rw [if_pos (by omega)] | rw [if_neg (by omega)])
  rw [e0] at hu
  obtain ⟨a,b,rfl⟩:=aBe (show took.length=2 by omega)
  have va:=vals0 a (by simp)
  have vb:=vals0 b (by simp)
  have sa:=bX va
  have sb:=bX vb
  rw [show fstk++[a,b]=fstk++[a]++[b] by simp]
  have ns : fstk.length+2≤16:=ns
  have e : oJ m ⟨ff,fpc,floc,fstk⟩ [a,b] (fs0.length+1) hp made out x=if a.k≠4 then .trap 1 else if (hp[a.n.toNat]?.getD []).length≤x.a then .trap 4 else .next ⟨ff,fpc,floc,fstk⟩ (hp.set a.n.toNat ((hp[a.n.toNat]?.getD []).set x.a.toNat b)) made out:=by simp only [oJ];repeat (first | rfl | rw [if_pos (by omega)] | rw [if_neg (by omega)])
  refine fT (by omega) (by first | omega | (simp;omega)) (aE rfl (aA rfl (aA rfl (aA rfl (?_)))))
  refine fT (by omega) (by first | omega | (simp;omega)) (aE rfl (aA rfl (aA rfl (aA rfl (?_)))))
  have hq:=q2122 (.inr ho)
  refine bM (aN (λh=>aB (by rw [e,if_pos h];exact ⟨by omega,rfl⟩)) (λh=>?_))
  rw [if_neg (by simpa using h)] at e
  have hr:=aGj va h
  have hlen:=aJ6 recs a.n.toNat
  refine vW (by omega) (by omega) (hH (by omega) (by omega) (hH (by omega) (by omega) (aA rfl (nK ?_))))
  refine dY (aC (λh=>aB (by rw [e,if_pos h];exact ⟨by omega,rfl⟩)) (λh=>?_))
  rw [if_neg h] at e
  refine vW (by omega) (by omega) (hH (by omega) (by omega) (hH (by omega) (by omega) (aA rfl (jF (by omega) (by omega) (hH (by omega) (by omega) (aA rfl ?_))))))
  refine hH (by omega) (by omega) (aA rfl (tJ (v:=b) (by omega) (by omega) (hH (by omega) (by omega) (aA rfl (aJp (by omega) (by omega) (aB (by rw [e];rfl)))))))
 refine aG (aC (λho=>?_) (λn23=>?_))
 ·have hq:=q23 ho
  have e0 : bL m.funcs x=(x.a+1,1):=by unfold bL;repeat (first | rfl | rw [if_pos (by omega)] | rw [if_neg (by omega)])
  rw [e0] at hu
  obtain ⟨a,args,rfl⟩ : ∃ a l,took=a::l:=by
   cases took with
   | nil=>simp at hu;omega
   | cons a l=>exact ⟨a,l,rfl⟩
  have va:=vals0 a (by simp)
  have sa:=bX va
  have ns : fstk.length+(args.length+1)≤16:=ns
  have hu : ((args.length+1 : Nat) : Int)=x.a+1:=hu
  have e : oJ m ⟨ff,fpc,floc,fstk⟩ (a::args) (fs0.length+1) hp made out x=if a.k≠5 then .trap 1 else if iN m.funcs a.n≠x.a then .trap 5 else if fs0.length+1=24 then .trap 6 else .call ⟨ff,fpc,floc,fstk⟩ (xB m.funcs a.n args):=by simp only [oJ];repeat (first | rfl | rw [if_pos (by omega)] | rw [if_neg (by omega)])
  have hlen : (fstk++a::args).length=fstk.length+args.length+1:=by simp;omega
  refine bR rfl rfl (bR rfl rfl (bR rfl rfl (aA (y:=bD (fstk++a::args)) rfl (nK (bF (by omega) (bF (by omega) ?_))))))
  have ei : ((fstk++a::args).length : Int) - 1 - x.a=fstk.length:=by omega
  rw [ei]
  refine bR rfl rfl (aA (y:=bD (fstk++a::args)) rfl (jF (by omega) (by omega) (bR rfl rfl (aA (y:=bD (fstk++a::args)) rfl (vV (by omega) (by omega) (λv hv=>?_))))))
  rw [Int.toNat_natCast,List.getElem?_append_right (Nat.le_refl _),Nat.sub_self] at hv
  cases hv
  refine aE rfl (aA rfl (aA rfl (aA rfl (?_))))
  refine bM (aN (λh=>aB (by rw [e,if_pos h];exact ⟨by omega,rfl⟩)) (λh=>?_))
  rw [if_neg (by simpa using h)] at e
  have hr:=aGk va h
  refine aJj (by omega) (by omega) (by omega) (λ_ _=>aA rfl ?_)
  refine bM (aN (λh=>aB (by rw [e,if_pos h];exact ⟨by omega,rfl⟩)) (λh=>?_))
  rw [if_neg (by simpa using h)] at e
  rw [show fstk++a::args=fstk++[a]++args by simp]
  refine aIg (under:=true) (s1:=fstk) (by omega) par nA (by simp;omega) (.inl ⟨rfl,a,rfl⟩) hr (by omega) (λhd=>aB ?_) (λhd=>aB ?_)
  ·rw [e,if_pos (by rw [List.length_map] at hd;omega)];exact ⟨by omega,rfl⟩
  ·rw [e,if_neg (by rw [List.length_map] at hd;omega)];rfl
 refine aG (aC (λho=>?_) (λn24=>?_))
 ·have hq:=q524 (.inr ho)
  have e0 : bL m.funcs x=(iN m.funcs x.a,1):=by unfold bL;repeat (first | rfl | rw [if_pos (by omega)] | rw [if_neg (by omega)])
  rw [e0] at hu
  have e : oJ m ⟨ff,fpc,floc,fstk⟩ took (fs0.length+1) hp made out x=if fs0.length+1=24 then .trap 6 else .call ⟨ff,fpc,floc,fstk⟩ (xB m.funcs x.a took):=by simp only [oJ];repeat (first | rfl | rw [if_pos (by omega)] | rw [if_neg (by omega)])
  refine aIg (under:=false) (s1:=fstk) (by omega) par nA (by omega) (.inr ⟨rfl,rfl⟩) hq (by omega) (λhd=>aB ?_) (λhd=>aB ?_)
  ·rw [e,if_pos (by rw [List.length_map] at hd;omega)];exact ⟨by omega,rfl⟩
  ·rw [e,if_neg (by rw [List.length_map] at hd;omega)];rfl
 refine aG (aC (λho=>?_) (λn25=>?_))
 ·have e0 : bL m.funcs x=(1,0):=by unfold bL;repeat (first | rfl | rw [if_pos (by omega)] | rw [if_neg (by omega)])
  rw [e0] at hu
  obtain ⟨a,rfl⟩:=List.length_eq_one_iff.1 (show took.length=1 by omega)
  have va:=vals0 a (by simp)
  have sa:=bX va
  have ns : fstk.length+1≤16:=ns
  have e : oJ m ⟨ff,fpc,floc,fstk⟩ [a] (fs0.length+1) hp made out x = .ret a:=by simp only [oJ];repeat (first | rfl | rw [if_pos (by omega)] | rw [if_neg (by omega)])
  refine fT (by omega) (by first | omega | (simp;omega)) (aE rfl (aA rfl (aA rfl (aA rfl (?_)))))
  have e1 : ((fs0.map eU.pv++[eU.pv ⟨ff,fpc,floc,fstk⟩]).length : Int) - 1=fs0.length:=by simp
  have hel : ∀ y∈fs0.map eU.pv++[eU.pv ⟨ff,fpc,floc,fstk⟩],y.isEl 4 true=true:=λy hy=>(List.mem_append.1 hy).elim (aKZ y) (λh=>by simp only [List.mem_singleton] at h;subst h;rfl)
  refine cX (bF (by simp;omega) ?_)
  rw [e1]
  have e2 : ((fs0.map eU.pv++[eU.pv ⟨ff,fpc,floc,fstk⟩]).take (fs0.length : Int).toNat).drop (0 : Int).toNat=fs0.map eU.pv:=by
   rw [Int.toNat_natCast,Int.toNat_zero,List.drop_zero,List.take_left' (by simp)]
  refine aAw (by omega) (by omega) (by simp;omega) hel ?_
  refine aAw (by omega) (by omega) (by simp;omega) hel ?_
  rw [e2]
  refine aF (aG (aC (λh=>aB ?_) (λh=>?_)))
  ·rw [e]
   have : fs0 = []:=List.eq_nil_of_length_eq_zero (by omega)
   subst this
   rfl
  ·obtain ⟨l,g,rfl⟩ : ∃ l g,fs0=l++[g]:=⟨fs0.dropLast,fs0.getLast (λe=>by rw [e] at h;simp at h),(List.dropLast_concat_getLast _).symm⟩
   have hg:=stks g (by simp)
   obtain ⟨gf,gpc,gloc,gstk⟩:=g
   simp only at hg
   rw [List.map_append]
   refine gP (by rw [List.length_map];simp at n0;omega) (by omega) (aB ?_)
   rw [e]
   show _=_
   rw [if_neg (by simp),aBd,List.map_append]
   rfl
 refine aG (aC (λho=>?_) (λn26=>?_))
 ·have e0 : bL m.funcs x=(1,0):=by unfold bL;repeat (first | rfl | rw [if_pos (by omega)] | rw [if_neg (by omega)])
  rw [e0] at hu
  obtain ⟨a,rfl⟩:=List.length_eq_one_iff.1 (show took.length=1 by omega)
  have va:=vals0 a (by simp)
  have sa:=bX va
  have ns : fstk.length+1≤16:=ns
  have e : oJ m ⟨ff,fpc,floc,fstk⟩ [a] (fs0.length+1) hp made out x=if out.length=200 then .trap 8 else .next ⟨ff,fpc,floc,fstk⟩ hp made (out++[mH a hp]):=by simp only [oJ];repeat (first | rfl | rw [if_pos (by omega)] | rw [if_neg (by omega)])
  refine fT (by omega) (by first | omega | (simp;omega)) (aE rfl (aA rfl (aA rfl (aA rfl (?_)))))
  refine aF (aG (aC (λh=>aB (by rw [e,if_pos (by omega)];exact ⟨by omega,rfl⟩)) (λh=>?_)))
  rw [if_neg (by omega)] at e
  refine aI (aHa (v:=a) (hp:=hp) (nf:=m.funcs.length) (by omega) (by omega) (λr hr=>by have:=recs r hr;omega) va) (λr hr=>?_)
  subst hr
  refine dG rfl (hJ (by simp) (λx hx=>by simp only [List.mem_singleton] at hx;subst hx;rfl) (jI (by simp;omega) (λx hx=>by simp only [List.mem_singleton] at hx;subst hx;rfl) (aB ?_)))
  rw [e]
  show _=_
  rw [List.map_append]
  rfl
 omega
end
end Go.Proofs.YtllmobkkbpdchaaGreat
