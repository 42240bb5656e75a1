/-
  Texts of the proof, part 5: a value-level evaluator and its soundness, what the functions compute, laws about it.
  Conditions: none.
-/
import Derived.Test.YtllmobkkbpdchaaGreatD
set_option linter.all false
namespace Go.Proofs.YtllmobkkbpdchaaGreat
noncomputable section
open Go
variable (a b c d e f g h i j k l m n o p q r s t u v w x y z A B C D E F G H I J K : PV)
theorem aGN : aAT a b=bd (PV.whole 2 a) λc=>bd (PV.cell c 0) λd=>bd (PV.cell c 1) λe=>bd (PV.whole 2 b) λf=>bd (PV.cell f 0) λg=>bd (PV.cell f 1) λh=>bd (cH g (.int .i64 1) (.int .i64 6)) λi=>PV.ite (hd i) (some [(.tup [(.int .i64 0),(.int .i64 1)])]) (bd (PV.bin .eql g (.int .i64 20)) λj=>PV.ite j (some [(.tup [(.int .i64 0),(.int .i64 1)])])
 (bd (PV.bin .eql g (.int .i64 7)) λk=>PV.ite k (some [(.tup [(.int .i64 1),(.int .i64 0)])]) (bd (PV.bin .eql g (.int .i64 9)) λl=>PV.ite l (some [(.tup [(.int .i64 1),(.int .i64 0)])]) (bd (PV.bin .eql g (.int .i64 18)) λm=>PV.ite m (some [(.tup [(.int .i64 1),(.int .i64 0)])]) (bd (PV.bin .eql g (.int .i64 19)) λn=>PV.ite n (some [(.tup [(.int .i64 1),(.int .i64 0)])]) (bd (PV.bin .eql g (.int .i64 25)) λo=>
 PV.ite o (some [(.tup [(.int .i64 1),(.int .i64 0)])]) (bd (PV.bin .eql g (.int .i64 26)) λp=>PV.ite p (some [(.tup [(.int .i64 1),(.int .i64 0)])]) (bd (PV.bin .eql g (.int .i64 8)) λq=>PV.ite q (some [(.tup [(.int .i64 1),(.int .i64 2)])]) (bd (PV.bin .eql g (.int .i64 10)) λr=>PV.ite r (some [(.tup [(.int .i64 2),(.int .i64 2)])]) (bd (cH g (.int .i64 11) (.int .i64 15)) λs=>
 PV.ite (hd s) (some [(.tup [(.int .i64 2),(.int .i64 1)])]) (bd (PV.bin .eql g (.int .i64 16)) λt=>PV.ite t (some [(.tup [(.int .i64 1),(.int .i64 1)])]) (bd (PV.bin .eql g (.int .i64 21)) λu=>PV.ite u (some [(.tup [(.int .i64 1),(.int .i64 1)])]) (bd (PV.bin .eql g (.int .i64 22)) λv=>PV.ite v (some [(.tup [(.int .i64 2),(.int .i64 0)])]) (bd (PV.bin .eql g (.int .i64 23)) λw=>
 PV.ite w (bd (cH h (.int .i64 0) (.int .i64 6)) λx=>PV.ite (hd x) (bd (PV.bin .add h (.int .i64 1)) λy=>some [(.tup [y,(.int .i64 1)])]) (oZ d e g h)) (oZ d e g h))))))))))))))):=aY _ _ _ (by kernel_rfl)
theorem aCL : oZ a b c d=bd (PV.bin .eql c (.int .i64 24)) λe=>PV.ite e (bd (PV.len b) λf=>bd (cZ d f) λg=>PV.ite (hd g) (aAa a b c d) (some [(.tup [(.int .i64 0),(.int .i64 0)])])) (some [(.tup [(.int .i64 0),(.int .i64 0)])]):=aW _ _ _ _ _ _ _ _ (by kernel_rfl)
theorem aCM : aAa a b c d=bd (PV.at_ 3 true b d) λe=>bd (PV.cell e 0) λf=>some [(.tup [f,(.int .i64 1)])]:=aW _ _ _ _ _ _ _ _ (by kernel_rfl)
theorem pQ : fM a b=bd (PV.len a) λc=>fN a b c (.int .i64 0):=aY _ _ _ (by kernel_rfl)
theorem fW : fN a b c d=bd (PV.bin .lss d c) λe=>PV.ite e (bd (PV.at_ 1 false a d) λf=>bd (PV.bin .eql b f) λg=>PV.ite g (some [d]) (bd (PV.bin .add d (.int .i64 1)) λh=>fN a b c h)) (some [(.int .i64 (-1))]):=aW _ _ _ _ _ _ _ _ (by kernel_rfl)
theorem tJ : oL a b=bd (PV.len a) λc=>fO a b c (.int .i64 0):=aY _ _ _ (by kernel_rfl)
theorem lH : fO a b c d=bd (PV.bin .lss d c) λe=>PV.ite e (bd (PV.at_ 1 false a d) λf=>bd (PV.apply aZ b [f]) λg=>PV.ite (hd g) (some [d]) (bd (PV.bin .add d (.int .i64 1)) λh=>fO a b c h)) (some [(.int .i64 (-1))]):=aW _ _ _ _ _ _ _ _ (by kernel_rfl)
theorem hJ : jA a b=bd (PV.len a) λc=>bP a b c (.int .i64 0):=aY _ _ _ (by kernel_rfl)
theorem cT : bP a b c d=bd (PV.bin .lss d c) λe=>PV.ite e (bd (PV.at_ 1 true a d) λf=>bd (PV.apply aZ b [f]) λg=>PV.ite (hd g) (some [d]) (bd (PV.bin .add d (.int .i64 1)) λh=>bP a b c h)) (some [(.int .i64 (-1))]):=aW _ _ _ _ _ _ _ _ (by kernel_rfl)
theorem nV : jB a b=bd (PV.len a) λc=>dE a b c (.int .i64 0):=aY _ _ _ (by kernel_rfl)
theorem gI : dE a b c d=bd (PV.bin .lss d c) λe=>PV.ite e (bd (PV.at_ 2 true a d) λf=>bd (PV.apply aZ b [f]) λg=>PV.ite (hd g) (some [d]) (bd (PV.bin .add d (.int .i64 1)) λh=>dE a b c h)) (some [(.int .i64 (-1))]):=aW _ _ _ _ _ _ _ _ (by kernel_rfl)
theorem aHE : aCw a b c=bd (PV.whole 2 a) λd=>bd (PV.cell d 0) λe=>bd (PV.cell d 1) λf=>bd (PV.whole 3 b) λg=>bd (PV.cell g 0) λh=>bd (PV.cell g 1) λi=>bd (PV.cell g 2) λj=>bd (PV.whole 2 c) λk=>bd (PV.cell k 0) λl=>bd (PV.cell k 1) λm=>bd (PV.bin .eql l (.int .i64 1)) λn=>PV.ite n (bd (uK m) λo=>some [(hd o)]) (bd (PV.bin .eql l (.int .i64 2)) λp=>
 PV.ite p (bd (cH m (.int .i64 0) (.int .i64 1)) λq=>some [(hd q)]) (bd (PV.bin .eql l (.int .i64 3)) λr=>PV.ite r (bd (PV.len e) λs=>bd (cZ m s) λt=>some [(hd t)]) (bd (PV.bin .eql l (.int .i64 5)) λu=>PV.ite u (bd (PV.len f) λv=>bd (cZ m v) λw=>some [(hd w)]) (bd (PV.bin .eql l (.int .i64 24)) λx=>PV.ite x (bd (PV.len f) λy=>
 bd (cZ m y) λz=>some [(hd z)]) (bd (PV.bin .eql l (.int .i64 6)) λA=>PV.ite A (bd (cZ m i) λB=>some [(hd B)]) (bd (PV.bin .eql l (.int .i64 7)) λC=>PV.ite C (bd (cZ m i) λD=>some [(hd D)]) (bd (PV.bin .eql l (.int .i64 17)) λE=>PV.ite E (bd (PV.len j) λF=>bd (cZ m F) λG=>some [(hd G)]) (bd (PV.bin .eql l (.int .i64 18)) λH=>
 PV.ite H (bd (PV.len j) λI=>bd (cZ m I) λJ=>some [(hd J)]) (bd (PV.bin .eql l (.int .i64 19)) λK=>PV.ite K (bd (PV.len j) λL=>bd (cZ m L) λM=>some [(hd M)]) (bd (PV.bin .eql l (.int .i64 20)) λN=>PV.ite N (bd (cH m (.int .i64 0) (.int .i64 6)) λO=>some [(hd O)]) (bd (PV.bin .eql l (.int .i64 21)) λP=>PV.ite P (bd (cZ m (.int .i64 6)) λQ=>
 some [(hd Q)]) (bd (PV.bin .eql l (.int .i64 22)) λR=>PV.ite R (bd (cZ m (.int .i64 6)) λS=>some [(hd S)]) (bd (PV.bin .eql l (.int .i64 23)) λT=>PV.ite T (bd (cH m (.int .i64 0) (.int .i64 6)) λU=>some [(hd U)]) (bd (cH l (.int .i64 1) (.int .i64 26)) λV=>PV.ite (hd V) (bd (PV.bin .eql m (.int .i64 0)) λW=>some [W]) (some [.bool false]))))))))))))))):=aY _ _ _ (by kernel_rfl)
theorem aCd : uK a=bd (cH a (.int .i64 (-1000000000)) (.int .i64 1000000000)) λb=>some [(hd b)]:=aY _ _ _ (by kernel_rfl)
theorem aHF : yW a b=bd (PV.whole 2 a) λc=>bd (PV.cell c 0) λd=>bd (PV.cell c 1) λe=>bd (PV.whole 10 b) λf=>bd (PV.cell f 0) λg=>bd (PV.cell f 1) λh=>bd (PV.cell f 2) λi=>bd (PV.cell f 3) λj=>bd (PV.cell f 4) λk=>bd (PV.cell f 5) λl=>bd (PV.cell f 6) λm=>bd (PV.cell f 7) λn=>bd (PV.cell f 8) λo=>bd (PV.cell f 9) λp=>
 bd (pM (.agg [d,e]) (.agg [g,h,i,j,k,l,m,n,o,p])) λq=>bd (PV.not (hd q)) λr=>PV.ite r (some [(.int .i64 0),(.int .i64 0),(.int .i64 0),(.int .i64 0),(.int .i64 0),(.str (bs [])),(.int .i64 0),(.lst []),(.lst []),(.lst [])]) (bd (uM (.agg [g,h,i,j,k,l,m,n,o,p])) λs=>PV.guardFlat (gd s 0) (PV.guardFlat (gd s 1) (PV.guardFlat (gd s 2) (PV.guardFlat (gd s 3) (
 PV.guardFlat (gd s 4) (PV.guardFlat (gd s 5) (PV.guardFlat (gd s 6) (PV.guardOwn (.own 4 64 true [.leaf,.leaf,(.own 3 32 true []),(.own 3 32 true [])]) (gd s 7) (PV.guardOwn (.own 1 24 true [(.own 3 32 true [])]) (gd s 8) (PV.guardOwn (.own 1 16 false []) (gd s 9) (some [(gd s 0),(gd s 1),(gd s 2),(gd s 3),(gd s 4),(gd s 5),(gd s 6),(gd s 7),(gd s 8),(gd s 9)]))))))))))):=bN _ _ _ _ (by kernel_rfl)
theorem aHG : aCx a b=bd (PV.whole 2 a) λc=>bd (PV.cell c 0) λd=>bd (PV.cell c 1) λe=>bd (PV.whole 10 b) λf=>bd (PV.cell f 0) λg=>bd (PV.cell f 1) λh=>bd (PV.cell f 2) λi=>bd (PV.cell f 3) λj=>bd (PV.cell f 4) λk=>bd (PV.cell f 5) λl=>bd (PV.cell f 6) λm=>bd (PV.cell f 7) λn=>bd (PV.cell f 8) λo=>bd (PV.cell f 9) λp=>
 bd (rG (.agg [d,e]) (.agg [g,h,i,j,k,l,m,n,o,p])) λq=>bd (PV.not (hd q)) λr=>PV.ite r (some [(.int .i64 0),(.int .i64 0),(.int .i64 0),(.int .i64 0),(.int .i64 0),(.str (bs [])),(.int .i64 0),(.lst []),(.lst []),(.lst [])]) (bd (wW (.agg [g,h,i,j,k,l,m,n,o,p])) λs=>PV.guardFlat (gd s 0) (PV.guardFlat (gd s 1) (PV.guardFlat (gd s 2) (PV.guardFlat (gd s 3) (
 PV.guardFlat (gd s 4) (PV.guardFlat (gd s 5) (PV.guardFlat (gd s 6) (PV.guardOwn (.own 4 64 true [.leaf,.leaf,(.own 3 32 true []),(.own 3 32 true [])]) (gd s 7) (PV.guardOwn (.own 1 24 true [(.own 3 32 true [])]) (gd s 8) (PV.guardOwn (.own 1 16 false []) (gd s 9) (some [(gd s 0),(gd s 1),(gd s 2),(gd s 3),(gd s 4),(gd s 5),(gd s 6),(gd s 7),(gd s 8),(gd s 9)]))))))))))):=bN _ _ _ _ (by kernel_rfl)
theorem aBN : rH a=bd (PV.whole 10 a) λb=>bd (PV.cell b 0) λc=>bd (PV.cell b 1) λd=>bd (PV.cell b 2) λe=>bd (PV.cell b 3) λf=>bd (PV.cell b 4) λg=>bd (PV.cell b 5) λh=>bd (PV.cell b 6) λi=>bd (PV.cell b 7) λj=>bd (PV.cell b 8) λk=>bd (PV.cell b 9) λl=>bd (PV.len c) λm=>kO c m (.int .i64 0) c d e f g h i j k l (.lst []):=aY _ _ _ (by kernel_rfl)
theorem qF : kO a b c d e f g h i j k l m n=bd (PV.bin .lss c b) λo=>PV.ite o (bd (PV.at_ 4 true a c) λp=>bd (PV.whole 4 p) λq=>bd (PV.cell q 0) λr=>bd (PV.cell q 1) λs=>bd (PV.cell q 2) λt=>bd (PV.cell q 3) λu=>bd (jC t n) λv=>bd (jC u (gd v 0)) λw=>bd (PV.bin .add c (.int .i64 1)) λx=>
 kO a b x d e f g h i j k l m (gd w 0)) (bd (mE (.lst [(.agg [j,k,l])]) n) λy=>jY (.int .i64 0) d e f g h i j k l m (gd y 0)):=aW _ _ _ _ _ _ _ _ (by kernel_rfl)
theorem pR : jY a b c d e f g h i j k l=bd (PV.len l) λm=>bd (PV.bin .lss a m) λn=>PV.ite n (bd (PV.inb l a) λo=>bd (PV.at_ 1 false l a) λp=>bd (PV.at_ 1 true c p) λq=>bd (PV.cell q 0) λr=>bd (jC r l) λs=>bd (PV.bin .add a (.int .i64 1)) λt=>jY t b c d e f g h i j k (gd s 0)) (some [l]):=aW _ _ _ _ _ _ _ _ (by kernel_rfl)
theorem aFt : yX a=bd (PV.len a) λb=>bd (PV.bin .rem b (.int .i64 1000)) λc=>bd (PV.bin .add (.int .i64 11) c) λd=>bd (PV.one a) λe=>bd (PV.one d) λf=>some [e,(.int .i64 0),f]:=bN _ _ _ _ (by kernel_rfl)
theorem aBO : rI a b c=bd (cX (.int .i64 25) a b c) λd=>PV.ite (gd d 0) (bd (sR (.int .i64 2) (gd d 1) (gd d 2) (gd d 3)) λe=>bd (PV.whole 2 (gd e 0)) λf=>bd (PV.cell f 0) λg=>bd (PV.cell f 1) λh=>some [(.agg [g,h]),(gd e 1),(gd e 2),(gd e 3)]) (bd (rJ (gd d 1) (gd d 2) (gd d 3)) λi=>bd (PV.whole 2 (gd i 0)) λj=>
 bd (PV.cell j 0) λk=>bd (PV.cell j 1) λl=>some [(.agg [k,l]),(gd i 1),(gd i 2),(gd i 3)]):=bN _ _ _ _ (by kernel_rfl)
theorem aDw : uL a b c d e f=bd (rK a b d e f) λg=>bd (aF (.int .i64 150) (gd g 1) (gd g 2) (gd g 3)) λh=>bd (aGC (.agg [a,b]) (gd g 0) (gd h 0)) λi=>PV.guardFlat (gd i 0) (PV.guardFlat (gd i 1) (PV.guardFlat (gd i 2) (PV.guardFlat (gd i 3) (PV.guardFlat (gd i 4) (PV.guardFlat (gd i 5) (PV.guardFlat (gd i 6) (PV.guardOwn (.own 4 64 true [.leaf,.leaf,(.own 3 32 true []),(.own 3 32 true [])]) (gd i 7) (
 PV.guardOwn (.own 1 24 true [(.own 3 32 true [])]) (gd i 8) (PV.guardOwn (.own 1 16 false []) (gd i 9) (bd (cX c (gd h 1) (gd h 2) (gd h 3)) λj=>bd (PV.not (gd j 0)) λk=>PV.ite k (some [(.agg [(gd i 7),(gd i 8),(gd i 0),(gd i 9),(gd i 1),(gd i 2),(gd i 3),(gd i 4),(gd i 5),(gd i 6)]),(gd j 1),(gd j 2),(gd j 3)]) (bd (aF (.int .i64 9) (gd j 1) (gd j 2) (gd j 3)) λl=>
 bd (PV.bin .eql (gd l 0) (.int .i64 0)) λm=>PV.ite m (bd (eF (gd l 1) (gd l 2) (gd l 3)) λn=>bd (PV.one (gd n 0)) λo=>some [(.agg [(gd i 7),(gd i 8),o,(gd i 9),(gd i 1),(gd i 2),(gd i 3),(gd i 4),(gd i 5),(gd i 6)]),(gd n 1),(gd n 2),(gd n 3)]) (bd (PV.bin .eql (gd l 0) (.int .i64 1)) λp=>PV.ite p (bd (aF (.int .i64 5) (gd l 1) (gd l 2) (gd l 3)) λq=>
 bd (PV.bin .sub (gd q 0) (.int .i64 1)) λr=>bd (PV.one r) λs=>some [(.agg [(gd i 7),(gd i 8),(gd i 0),(gd i 9),s,(gd i 2),(gd i 3),(gd i 4),(gd i 5),(gd i 6)]),(gd q 1),(gd q 2),(gd q 3)]) (bd (PV.bin .eql (gd l 0) (.int .i64 2)) λt=>PV.ite t (bd (aF (.int .i64 10) (gd l 1) (gd l 2) (gd l 3)) λu=>bd (PV.bin .sub (gd u 0) (.int .i64 1)) λv=>bd (PV.one v) λw=>
 some [(.agg [(gd i 7),(gd i 8),(gd i 0),(gd i 9),(gd i 1),w,(gd i 3),(gd i 4),(gd i 5),(gd i 6)]),(gd u 1),(gd u 2),(gd u 3)]) (bd (PV.bin .eql (gd l 0) (.int .i64 3)) λx=>PV.ite x (bd (PV.len (gd i 7)) λy=>bd (PV.bin .gtr y (.int .i64 0)) λz=>PV.ite z (bd (PV.inb (gd i 7) (.int .i64 0)) λA=>bd (PV.at_ 4 true (gd i 7) (.int .i64 0)) λB=>bd (PV.cell B 0) λC=>
 bd (PV.cell B 1) λD=>bd (aF (.int .i64 20) (gd l 1) (gd l 2) (gd l 3)) λE=>bd (PV.bin .sub (gd E 0) (.int .i64 1)) λF=>bd (PV.one F) λG=>bd (PV.inb (gd i 7) (.int .i64 0)) λH=>bd (PV.at_ 4 true (gd i 7) (.int .i64 0)) λI=>bd (PV.cell I 2) λJ=>bd (PV.at_ 4 true (gd i 7) (.int .i64 0)) λK=>bd (PV.cell K 2) λL=>bd (PV.setCell 4 (gd i 7) (.int .i64 0) 2 .hole) λM=>
 bd (PV.at_ 4 true M (.int .i64 0)) λN=>bd (PV.cell N 3) λO=>bd (PV.at_ 4 true M (.int .i64 0)) λP=>bd (PV.cell P 3) λQ=>bd (PV.setCell 4 M (.int .i64 0) 3 .hole) λR=>bd (PV.setAt 4 true R (.int .i64 0) (.agg [C,G,J,O])) λS=>some [(.agg [S,(gd i 8),(gd i 0),(gd i 9),(gd i 1),(gd i 2),(gd i 3),(gd i 4),(gd i 5),(gd i 6)]),(gd E 1),(gd E 2),(gd E 3)]) (some [(.agg [(gd i 7),(gd i 8),(gd i 0),(gd i 9),(gd i 1),(gd i 2),(gd i 3),(gd i 4),(gd i 5),(gd i 6)]),(gd l 1),(gd l 2),(gd l 3)]))
 (bd (PV.bin .eql (gd l 0) (.int .i64 4)) λT=>PV.ite T (bd (PV.len (gd i 7)) λU=>bd (PV.bin .gtr U (.int .i64 0)) λV=>PV.ite V (bd (PV.inb (gd i 7) (.int .i64 0)) λW=>bd (PV.at_ 4 true (gd i 7) (.int .i64 0)) λX=>bd (eT (gd l 1) (gd l 2) (gd l 3)) λY=>bd (PV.cat 3 32 true (.lst []) (.lst [(gd Y 0)])) λZ=>bd (PV.at_ 4 true (gd i 7) (.int .i64 0)) λaa=>
 bd (PV.cell aa 3) λab=>bd (PV.at_ 4 true (gd i 7) (.int .i64 0)) λac=>bd (PV.cell ac 3) λad=>bd (PV.setCell 4 (gd i 7) (.int .i64 0) 3 .hole) λae=>bd (PV.cat 3 32 true ab Z) λaf=>bd (PV.inb ae (.int .i64 0)) λag=>bd (PV.setCell 4 ae (.int .i64 0) 3 af) λah=>some [(.agg [ah,(gd i 8),(gd i 0),(gd i 9),(gd i 1),(gd i 2),(gd i 3),(gd i 4),(gd i 5),(gd i 6)]),(gd Y 1),(gd Y 2),(gd Y 3)])
 (some [(.agg [(gd i 7),(gd i 8),(gd i 0),(gd i 9),(gd i 1),(gd i 2),(gd i 3),(gd i 4),(gd i 5),(gd i 6)]),(gd l 1),(gd l 2),(gd l 3)])) (bd (PV.bin .eql (gd l 0) (.int .i64 5)) λai=>PV.ite ai (bd (eT (gd l 1) (gd l 2) (gd l 3)) λaj=>bd (PV.cat 3 32 true (.lst []) (.lst [(gd aj 0)])) λak=>bd (PV.cat 1 24 true (gd i 8) (.lst [(.agg [ak])])) λal=>some [(.agg [(gd i 7),al,(gd i 0),(gd i 9),(gd i 1),(gd i 2),(gd i 3),(gd i 4),(gd i 5),(gd i 6)]),(gd aj 1),(gd aj 2),(gd aj 3)])
 (bd (PV.bin .eql (gd l 0) (.int .i64 6)) λam=>PV.ite am (bd (aF (.int .i64 3) (gd l 1) (gd l 2) (gd l 3)) λan=>bd (PV.inb (.lst [(.int .i64 (-1)),(.int .i64 50000),(.int .i64 50001)]) (gd an 0)) λao=>bd (PV.at_ 1 false (.lst [(.int .i64 (-1)),(.int .i64 50000),(.int .i64 50001)]) (gd an 0)) λap=>bd (PV.one ap) λaq=>some [(.agg [(gd i 7),(gd i 8),(gd i 0),(gd i 9),(gd i 1),(gd i 2),(gd i 3),(gd i 4),(gd i 5),aq]),(gd an 1),(gd an 2),(gd an 3)])
 (bd (PV.bin .eql (gd l 0) (.int .i64 7)) λar=>PV.ite ar (bd (aF (.int .i64 2) (gd l 1) (gd l 2) (gd l 3)) λau=>bd (PV.inb (.lst [(.str (bs [120])),(.str (bs [10]))]) (gd au 0)) λav=>bd (PV.at_ 1 false (.lst [(.str (bs [120])),(.str (bs [10]))]) (gd au 0)) λaw=>bd (PV.cat 1 16 false (.lst []) (.lst [aw])) λax=>bd (PV.cat 1 16 false (gd i 9) ax) λay=>some [(.agg [(gd i 7),(gd i 8),(gd i 0),ay,(gd i 1),(gd i 2),(gd i 3),(gd i 4),(gd i 5),(gd i 6)]),(gd au 1),(gd au 2),(gd au 3)])
 (bd (PV.len (gd i 7)) λaz=>bd (PV.bin .gtr az (.int .i64 0)) λba=>PV.ite ba (bd (PV.inb (gd i 7) (.int .i64 0)) λbb=>bd (PV.at_ 4 true (gd i 7) (.int .i64 0)) λbc=>bd (PV.at_ 4 true (gd i 7) (.int .i64 0)) λbe=>bd (PV.cell be 2) λbf=>bd (PV.len bf) λbg=>bd (PV.bin .gtr bg (.int .i64 0)) λbh=>PV.ite bh (vU (gd l 1) (gd l 2) (gd l 3) (.int .i64 0) (.int .i64 0) (.int .i64 0) (.int .i64 0) (.int .i64 0) (.str (bs [])) (.int .i64 0) (gd i 0) (gd i 1) (gd i 2) (gd i 3) (gd i 4) (gd i 5) (gd i 6) (.lst []) (.lst []) (.lst []) (gd i 7) (gd i 8) (gd i 9))
 (some [(.agg [(gd i 7),(gd i 8),(gd i 0),(gd i 9),(gd i 1),(gd i 2),(gd i 3),(gd i 4),(gd i 5),(gd i 6)]),(gd l 1),(gd l 2),(gd l 3)])) (some [(.agg [(gd i 7),(gd i 8),(gd i 0),(gd i 9),(gd i 1),(gd i 2),(gd i 3),(gd i 4),(gd i 5),(gd i 6)]),(gd l 1),(gd l 2),(gd l 3)])))))))))))))))))))):=bN _ _ _ _ (by kernel_rfl)
variable (a b c d e f g h i j k l m n o p q r s t u v w x y z A B C D E F G H I J K L M : PV)
theorem aA0 : vU a b c d e f g h i j k l m n o p q r s t u v w=bd (PV.inb u (.int .i64 0)) λx=>bd (PV.at_ 4 true u (.int .i64 0)) λy=>bd (eT a b c) λz=>bd (PV.at_ 4 true u (.int .i64 0)) λA=>bd (PV.cell A 2) λB=>bd (PV.inb B (.int .i64 0)) λC=>bd (PV.at_ 4 true u (.int .i64 0)) λD=>bd (PV.cell D 2) λE=>bd (PV.at_ 4 true u (.int .i64 0)) λF=>
 bd (PV.cell F 2) λG=>bd (PV.setAt 3 true G (.int .i64 0) (gd z 0)) λH=>bd (PV.at_ 4 true u (.int .i64 0)) λI=>bd (PV.cell I 2) λJ=>bd (PV.setCell 4 u (.int .i64 0) 2 H) λK=>some [(.agg [K,v,k,w,l,m,n,o,p,q]),(gd z 1),(gd z 2),(gd z 3)]:=aW _ _ _ _ _ _ _ _ (by kernel_rfl)
theorem aCN : sP a b c d e f g h i j k l m=bd (PV.len b) λn=>bd (PV.bin .eql n (.int .i64 0)) λo=>PV.ite o (some [(.agg [a,b,c,d,e,f,g,h,i,j]),k,l,m]) (bd (aF n k l m) λp=>bd (jZ (.agg [a,b,c,d,e,f,g,h,i,j])) λq=>PV.guardFlat (gd q 0) (PV.guardFlat (gd q 1) (PV.guardFlat (gd q 2) (PV.guardFlat (gd q 3) (
 PV.guardFlat (gd q 4) (PV.guardFlat (gd q 5) (PV.guardFlat (gd q 6) (PV.guardOwn (.own 4 64 true [.leaf,.leaf,(.own 3 32 true []),(.own 3 32 true [])]) (gd q 7) (PV.guardOwn (.own 1 24 true [(.own 3 32 true [])]) (gd q 8) (PV.guardOwn (.own 1 16 false []) (gd q 9) (gL n (gd p 0) (.int .i64 0) (gd p 1) (gd p 2) (gd p 3) a b c d e f g h i j (.int .i64 0) (.int .i64 0) (.int .i64 0) (.int .i64 0) (.int .i64 0) (.str (bs [])) (.int .i64 0) (gd q 0) (gd q 1) (gd q 2) (gd q 3) (gd q 4) (gd q 5) (gd q 6) (.lst []) (.lst []) (.lst []) (.lst []) (gd q 7) (gd q 8) (gd q 9) (.lst []) (.lst [])))))))))))):=bN _ _ _ _ (by kernel_rfl)
theorem qW : gL a b c d e f g h i j k l m n o p q r s t u v w x y z A B C D E F G H I J K L M=bd (PV.bin .lss c a) λN=>PV.ite N (bd (PV.bin .add c b) λO=>bd (PV.bin .rem O a) λP=>bd (PV.cat 1 8 false (.lst []) (.lst [P])) λQ=>bd (PV.cat 1 8 false L Q) λR=>bd (PV.bin .add c (.int .i64 1)) λS=>gL a b S d e f g h i j k l m n o p q r s t u v w x y z A B C D E F G H I J K R M)
 (eQ a b (.int .i64 0) d e f g h i j k l m n o p q r s t u v w x y z A B C D E F G H I J K L M):=aW _ _ _ _ _ _ _ _ (by kernel_rfl)
theorem qG : eQ a b c d e f g h i j k l m n o p q r s t u v w x y z A B C D E F G H I J K L M=bd (PV.bin .lss c a) λN=>PV.ite N (bd (PV.bin .add c b) λO=>bd (PV.bin .rem O a) λP=>bd (PV.at_ 1 true h c) λQ=>bd (PV.cell Q 0) λR=>bd (cV R E L M) λS=>bd (PV.inb J P) λT=>bd (PV.setAt 1 true J P (.agg [(gd S 3)])) λU=>
 bd (PV.bin .add c (.int .i64 1)) λV=>eQ a b V d e f g h i j k l m n o p q r s t u v w x y z A B C D (gd S 0) F G H I U K (gd S 1) (gd S 2)) (iH (.int .i64 0) d e f g h i j k l m n o p q r s t u v w x y z A B C D E F G H I J K L M):=aW _ _ _ _ _ _ _ _ (by kernel_rfl)
theorem qH : iH a b c d e f g h i j k l m n o p q r s t u v w x y z A B C D E F G H I J K=bd (PV.len e) λL=>bd (PV.bin .lss a L) λM=>PV.ite M (bd (PV.at_ 4 true e a) λN=>bd (PV.cell N 2) λO=>bd (cV O C J K) λP=>bd (PV.inb G a) λQ=>bd (PV.setCell 4 G a 2 (gd P 3)) λR=>bd (PV.at_ 4 true e a) λS=>bd (PV.cell S 3) λT=>
 bd (cV T (gd P 0) (gd P 1) (gd P 2)) λU=>bd (PV.inb R a) λV=>bd (PV.setCell 4 R a 3 (gd U 3)) λW=>bd (PV.bin .add a (.int .i64 1)) λX=>iH X b c d e f g h i j k l m n o p q r s t u v w x y z A B (gd U 0) D E F W H I (gd U 1) (gd U 2)) (bd (jD k l m C J K) λY=>bd (PV.whole 3 (gd Y 0)) λZ=>bd (PV.cell Z 0) λaa=>bd (PV.cell Z 1) λab=>
 bd (PV.cell Z 2) λac=>some [(.agg [G,H,v,I,w,x,aa,ab,ac,B]),b,c,d]):=aW _ _ _ _ _ _ _ _ (by kernel_rfl)
theorem aHH : uM a=bd (PV.whole 10 a) λb=>bd (PV.cell b 0) λc=>bd (PV.cell b 1) λd=>bd (PV.cell b 2) λe=>bd (PV.cell b 3) λf=>bd (PV.cell b 4) λg=>bd (PV.cell b 5) λh=>bd (PV.cell b 6) λi=>bd (PV.cell b 7) λj=>bd (PV.cell b 8) λk=>bd (PV.cell b 9) λl=>bd (rH (.agg [c,d,e,f,g,h,i,j,k,l])) λm=>bd (sQ (.agg [c,d,e,f,g,h,i,j,k,l]) (hd m)) λn=>
 PV.guardFlat (gd n 0) (PV.guardFlat (gd n 1) (PV.guardFlat (gd n 2) (PV.guardFlat (gd n 3) (PV.guardFlat (gd n 4) (PV.guardFlat (gd n 5) (PV.guardFlat (gd n 6) (PV.guardOwn (.own 4 64 true [.leaf,.leaf,(.own 3 32 true []),(.own 3 32 true [])]) (gd n 7) (PV.guardOwn (.own 1 24 true [(.own 3 32 true [])]) (gd n 8) (PV.guardOwn (.own 1 16 false []) (gd n 9) (some [(gd n 0),(gd n 1),(gd n 2),(gd n 3),(gd n 4),(gd n 5),(.int .i64 0),(gd n 7),(gd n 8),(gd n 9)])))))))))):=bN _ _ _ _ (by kernel_rfl)
theorem wG : qC a b c d e f g h i j k l m n o p q r s t u v w=bd (PV.len a) λx=>fU a x (.int .i64 0) k l m n o p q r s t u v w a b c d e f g h i j:=bN _ _ _ _ (by kernel_rfl)
theorem kE : fU a b c d e f g h i j k l m n o p q r s t u v w x y z=bd (PV.bin .lss c b) λA=>PV.ite A (bd (PV.at_ 4 true a c) λB=>bd (PV.whole 4 B) λC=>bd (PV.cell C 0) λD=>bd (PV.cell C 1) λE=>bd (PV.cell C 2) λF=>bd (PV.cell C 3) λG=>bd (PV.cat 1 24 false (.lst []) (.lst [F,G])) λH=>bd (fA H) λI=>
 PV.guardOwn (.own 3 32 true []) (gd I 0) (bd (PV.len (gd I 0)) λJ=>fV a b c J (.int .i64 0) d e f g h i j k l m n o p q r s t u v w x y z (gd I 0))) (bd (PV.len r) λK=>dP r K (.int .i64 0) d e f g h i j k l m n o p q r s t u v w x y z):=aW _ _ _ _ _ _ _ _ (by kernel_rfl)
theorem kF : fV a b c d e f g h i j k l m n o p q r s t u v w x y z A B C=bd (PV.bin .lss e d) λD=>PV.ite D (bd (PV.inb C e) λE=>bd (PV.at_ 3 true C e) λF=>bd (PV.whole 3 F) λG=>bd (PV.cell G 0) λH=>bd (PV.cell G 1) λI=>bd (PV.cell G 2) λJ=>bd (pP H I J f g h i j k l m n o p q r) λK=>bd (PV.bin .add e (.int .i64 1)) λL=>
 fV a b c d L (gd K 0) (gd K 1) (gd K 2) (gd K 3) (gd K 4) (gd K 5) (gd K 6) (gd K 7) (gd K 8) (gd K 9) (gd K 10) (gd K 11) (gd K 12) s t u v w x y z A B C) (bd (PV.bin .add c (.int .i64 1)) λM=>fU a b M f g h i j k l m n o p q r s t u v w x y z A B):=aW _ _ _ _ _ _ _ _ (by kernel_rfl)
theorem jJ : dP a b c d e f g h i j k l m n o p q r s t u v w x y z=bd (PV.bin .lss c b) λA=>PV.ite A (bd (PV.at_ 1 true a c) λB=>bd (PV.whole 1 B) λC=>bd (PV.cell C 0) λD=>bd (PV.len D) λE=>fI a b c D E (.int .i64 0) d e f g h i j k l m n o p q r s t u v w x y z) (bd (pP w x y d e f g h i j k l m n o p) λF=>
 some [(gd F 0),(gd F 1),(gd F 2),(gd F 3),(gd F 4),(gd F 5),(gd F 6),(gd F 7),(gd F 8),(gd F 9),(gd F 10),(gd F 11),(gd F 12)]):=aW _ _ _ _ _ _ _ _ (by kernel_rfl)
theorem jK : fI a b c d e f g h i j k l m n o p q r s t u v w x y z A B C=bd (PV.bin .lss f e) λD=>PV.ite D (bd (PV.at_ 3 true d f) λE=>bd (PV.whole 3 E) λF=>bd (PV.cell F 0) λG=>bd (PV.cell F 1) λH=>bd (PV.cell F 2) λI=>bd (pP G H I g h i j k l m n o p q r s) λJ=>bd (PV.bin .add f (.int .i64 1)) λK=>fI a b c d e K (gd J 0) (gd J 1) (gd J 2) (gd J 3) (gd J 4) (gd J 5) (gd J 6) (gd J 7) (gd J 8) (gd J 9) (gd J 10) (gd J 11) (gd J 12) t u v w x y z A B C)
 (bd (PV.bin .add c (.int .i64 1)) λL=>dP a b L g h i j k l m n o p q r s t u v w x y z A B C):=aW _ _ _ _ _ _ _ _ (by kernel_rfl)
theorem xB : mD a b=bd (PV.bin .lss b (.int .i64 0)) λc=>PV.ite c (none) (oM a b):=bN _ _ _ _ (by kernel_rfl)
theorem tK : oM a b=bd (PV.len a) λc=>bd (PV.conv .u64 c) λd=>bd (PV.conv .u64 b) λe=>bd (aCb d e) λf=>bd (PV.comp (hd f) 0) λg=>bd (PV.comp (hd f) 1) λh=>bd (PV.bin .gtr g (.int .u64 0)) λi=>PV.ite i (none) (bd (PV.bin .gtr h (.int .u64 9223372036854775807)) λj=>PV.ite j (none) (oN a h)):=aW _ _ _ _ _ _ _ _ (by kernel_rfl)
theorem tL : oN a b=bd (PV.conv .i64 b) λc=>bd (PV.zeros 8 (.int .i64 0) c) λd=>bd (PV.bin .leq c c) λe=>PV.ite e (bd (PV.zeros 8 (.int .i64 0) c) λf=>bd (PV.len f) λg=>bd (PV.ncopy f (.int .i64 0) g a) λh=>bd (PV.copyIn 1 false f (.int .i64 0) g a) λi=>gP h i) (none):=aW _ _ _ _ _ _ _ _ (by kernel_rfl)
theorem mQ : gP a b=bd (PV.len b) λc=>bd (PV.bin .lss a c) λd=>PV.ite d (bd (PV.len b) λe=>bd (PV.cut 1 false b a e) λf=>bd (PV.cut 1 false b (.int .i64 0) a) λg=>bd (PV.cut 1 false b (.int .i64 0) a) λh=>bd (PV.ncopy b a e h) λi=>bd (PV.copyIn 1 false b a e h) λj=>bd (PV.bin .add a i) λk=>gP k j)
 (some [b]):=aW _ _ _ _ _ _ _ _ (by kernel_rfl)
theorem aEm : aCb a b=bd (aAb a b) λc=>bd (PV.comp (hd c) 0) λd=>bd (PV.comp (hd c) 1) λe=>some [(.tup [d,e])]:=aY _ _ _ (by kernel_rfl)
theorem aCO : aAb a b=bd (PV.bin .and a (.int .u64 4294967295)) λc=>bd (PV.bin .shr a (.int .u64 32)) λd=>bd (PV.bin .and b (.int .u64 4294967295)) λe=>bd (PV.bin .shr b (.int .u64 32)) λf=>bd (PV.bin .mul c e) λg=>bd (PV.bin .mul d e) λh=>bd (PV.bin .shr g (.int .u64 32)) λi=>bd (PV.bin .add h i) λj=>bd (PV.bin .and j (.int .u64 4294967295)) λk=>
 bd (PV.bin .shr j (.int .u64 32)) λl=>bd (PV.bin .mul c f) λm=>bd (PV.bin .add k m) λn=>bd (PV.bin .mul d f) λo=>bd (PV.bin .add o l) λp=>bd (PV.bin .shr n (.int .u64 32)) λq=>bd (PV.bin .add p q) λr=>bd (PV.bin .mul a b) λs=>some [(.tup [r,s])]:=aY _ _ _ (by kernel_rfl)
theorem aEn : wW a=bd (PV.whole 10 a) λb=>bd (PV.cell b 0) λc=>bd (PV.cell b 1) λd=>bd (PV.cell b 2) λe=>bd (PV.cell b 3) λf=>bd (PV.cell b 4) λg=>bd (PV.cell b 5) λh=>bd (PV.cell b 6) λi=>bd (PV.cell b 7) λj=>bd (PV.cell b 8) λk=>bd (PV.cell b 9) λl=>bd (PV.one d) λm=>nP (.int .i64 0) c d e f g h i j k l (.int .i64 0) (.int .i64 0) (.int .i64 0) (.int .i64 0) (.int .i64 0) (.str (bs [])) (.int .i64 0) m (.lst []) (.lst []) (.lst []) (.lst []) (.lst []):=bN _ _ _ _ (by kernel_rfl)
theorem sY : nP a b c d e f g h i j k l m n o p q r s t u v w x=bd (PV.len c) λy=>bd (PV.bin .lss a y) λz=>PV.ite z (bd (PV.cat 1 8 false w (.lst [(.int .i64 (-1))])) λA=>bd (PV.bin .add a (.int .i64 1)) λB=>nP B b c d e f g h i j k l m n o p q r s t u v A x) (bd (PV.cat 1 16 false (.lst []) e) λC=>bd (PV.one d) λD=>bd (PV.one f) λE=>
 bd (PV.one g) λF=>gM (.int .i64 0) b c d e f g h i j k l m n o p q r s D E F (.int .i64 0) (.int .i64 0) (.str (bs [])) (.int .i64 0) t u v w x (.lst []) (.lst []) C):=aW _ _ _ _ _ _ _ _ (by kernel_rfl)
theorem sZ : gM a b c d e f g h i j k l m n o p q r s t u v w x y z A B C D E F G H=bd (PV.len b) λI=>bd (PV.bin .lss a I) λJ=>PV.ite J (bd (PV.at_ 4 true b a) λK=>bd (PV.whole 4 K) λL=>bd (PV.cell L 0) λM=>bd (PV.cell L 1) λN=>bd (PV.cell L 2) λO=>bd (PV.cell L 3) λP=>bd (cV O s D E) λQ=>bd (cV P (gd Q 0) (gd Q 1) (gd Q 2)) λR=>
 bd (PV.one M) λS=>bd (PV.one N) λT=>bd (PV.cat 4 64 true F (.lst [(.agg [S,T,(gd Q 3),(gd R 3)])])) λU=>bd (PV.bin .add a (.int .i64 1)) λV=>gM V b c d e f g h i j k l m n o p q r (gd R 0) t u v w x y z A B C (gd R 1) (gd R 2) U G H) (bd (jD h i j s D E) λW=>bd (PV.whole 3 (gd W 0)) λX=>bd (PV.cell X 0) λY=>bd (PV.cell X 1) λZ=>
 bd (PV.cell X 2) λaa=>mN (.int .i64 0) b c d e f g h i j k l m n o p q r (gd W 1) t u v Y Z aa z A B C (gd W 2) (gd W 3) F G H):=aW _ _ _ _ _ _ _ _ (by kernel_rfl)
theorem sD : mN a b c d e f g h i j k l m n o p q r s t u v w x y z A B C D E F G H=bd (PV.len E) λI=>bd (PV.bin .lss a I) λJ=>PV.ite J (bd (PV.inb E a) λK=>bd (PV.at_ 1 false E a) λL=>bd (PV.at_ 1 true c L) λM=>bd (PV.cell M 0) λN=>bd (cV N s D E) λO=>bd (PV.cat 1 24 true G (.lst [(.agg [(gd O 3)])])) λP=>bd (PV.bin .add a (.int .i64 1)) λQ=>
 mN Q b c d e f g h i j k l m n o p q r (gd O 0) t u v w x y z A B C (gd O 1) (gd O 2) F P H) (some [t,u,v,w,x,y,z,F,G,H]):=aW _ _ _ _ _ _ _ _ (by kernel_rfl)
theorem aCP : sQ a b=bd (PV.whole 10 a) λc=>bd (PV.cell c 0) λd=>bd (PV.cell c 1) λe=>bd (PV.cell c 2) λf=>bd (PV.cell c 3) λg=>bd (PV.cell c 4) λh=>bd (PV.cell c 5) λi=>bd (PV.cell c 6) λj=>bd (PV.cell c 7) λk=>bd (PV.cell c 8) λl=>bd (PV.cell c 9) λm=>bd (PV.one b) λn=>bd (wX (.agg [d,e,f,g,h,i,j,k,l,m])) λo=>
 PV.guardFlat (gd o 0) (PV.guardFlat (gd o 1) (PV.guardFlat (gd o 2) (PV.guardFlat (gd o 3) (PV.guardFlat (gd o 4) (PV.guardFlat (gd o 5) (PV.guardFlat (gd o 6) (PV.guardOwn (.own 4 64 true [.leaf,.leaf,(.own 3 32 true []),(.own 3 32 true [])]) (gd o 7) (PV.guardOwn (.own 1 24 true [(.own 3 32 true [])]) (gd o 8) (PV.guardOwn (.own 1 16 false []) (gd o 9) (bd (PV.len n) λp=>lP n p (.int .i64 0) d e f g h i j k l m (.int .i64 0) (.int .i64 0) (.int .i64 0) (.int .i64 0) (.int .i64 0) (.str (bs [])) (.int .i64 0) n (gd o 0) (gd o 1) (gd o 2) (gd o 3) (gd o 4) (gd o 5) (gd o 6) (.lst []) (.lst []) (.lst []) (gd o 7) (.lst []) (gd o 9))))))))))):=bN _ _ _ _ (by kernel_rfl)
theorem qX : lP a b c d e f g h i j k l m n o p q r s t u v w x y z A B C D E F G H=bd (PV.bin .lss c b) λI=>PV.ite I (bd (PV.at_ 1 false a c) λJ=>bd (PV.at_ 1 true e J) λK=>bd (PV.cell K 0) λL=>bd (cE L) λM=>PV.guardOwn (.own 3 32 true []) (gd M 0) (bd (PV.cat 1 24 true G (.lst [(.agg [(gd M 0)])])) λN=>
 bd (PV.bin .add c (.int .i64 1)) λO=>lP a b O d e f g h i j k l m n o p q r s t u v w x y z A B C D E F N H)) (bd (PV.len F) λP=>iI P (.int .i64 0) d e f g h i j k l m n o p q r s t u v w x y z A B C D E F G H):=aW _ _ _ _ _ _ _ _ (by kernel_rfl)
theorem qI : iI a b c d e f g h i j k l m n o p q r s t u v w x y z A B C D E F G=bd (PV.bin .lss b a) λH=>PV.ite H (bd (PV.inb E b) λI=>bd (PV.at_ 4 true E b) λJ=>bd (PV.cell J 0) λK=>bd (PV.cell J 1) λL=>bd (PV.at_ 4 true E b) λM=>bd (PV.cell M 2) λN=>bd (PV.at_ 4 true E b) λO=>bd (PV.cell O 2) λP=>bd (PV.setCell 4 E b 2 .hole) λQ=>
 bd (gZ t N) λR=>bd (PV.at_ 4 true Q b) λS=>bd (PV.cell S 2) λT=>bd (PV.setCell 4 Q b 2 (gd R 1)) λU=>bd (PV.at_ 4 true U b) λV=>bd (PV.cell V 3) λW=>bd (PV.at_ 4 true U b) λX=>bd (PV.cell X 3) λY=>bd (PV.setCell 4 U b 3 .hole) λZ=>bd (gZ (gd R 0) W) λaa=>bd (PV.at_ 4 true Z b) λab=>bd (PV.cell ab 3) λac=>bd (PV.setCell 4 Z b 3 (gd aa 1)) λad=>
 bd (PV.bin .add b (.int .i64 1)) λae=>iI a ae c d e f g h i j k l m n o p q r s (gd aa 0) u v w x y z A B C D ad F G) (bd (PV.len F) λaf=>iJ af (.int .i64 0) c d e f g h i j k l m n o p q r s t u v w x y z A B C D E F G):=aW _ _ _ _ _ _ _ _ (by kernel_rfl)
theorem qJ : iJ a b c d e f g h i j k l m n o p q r s t u v w x y z A B C D E F G=bd (PV.bin .lss b a) λH=>PV.ite H (bd (PV.inb F b) λI=>bd (PV.at_ 1 true F b) λJ=>bd (PV.at_ 1 true F b) λK=>bd (PV.cell K 0) λL=>bd (PV.at_ 1 true F b) λM=>bd (PV.cell M 0) λN=>bd (PV.setCell 1 F b 0 .hole) λO=>bd (gZ t L) λP=>
 bd (PV.at_ 1 true O b) λQ=>bd (PV.cell Q 0) λR=>bd (PV.setCell 1 O b 0 (gd P 1)) λS=>bd (PV.bin .add b (.int .i64 1)) λT=>iJ a T c d e f g h i j k l m n o p q r s (gd P 0) u v w x y z A B C D E S G) (bd (gZ t (.lst [(.agg [i,j,k])])) λU=>bd (PV.inb (gd U 1) (.int .i64 0)) λV=>bd (PV.at_ 3 true (gd U 1) (.int .i64 0)) λW=>bd (PV.whole 3 W) λX=>
 bd (PV.cell X 0) λY=>bd (PV.cell X 1) λZ=>bd (PV.cell X 2) λaa=>some [u,v,w,Y,Z,aa,A,E,F,G]):=aW _ _ _ _ _ _ _ _ (by kernel_rfl)
variable (a b c d e f g h i j k l m n o p q r s t u v w x : PV)
theorem aAg : jC a b=bd (PV.len a) λc=>eW a c (.int .i64 0) b:=bN _ _ _ _ (by kernel_rfl)
theorem oP : eW a b c d=bd (PV.bin .lss c b) λe=>PV.ite e (bd (PV.at_ 3 true a c) λf=>bd (PV.whole 3 f) λg=>bd (PV.cell g 0) λh=>bd (PV.cell g 1) λi=>bd (PV.cell g 2) λj=>bd (PV.bin .eql h (.int .i64 4)) λk=>PV.ite k (bd (fL d i) λl=>PV.guardFlat (hd l) (bd (PV.not (hd l)) λm=>PV.ite m (qS a b c h i j d)
 (bd (PV.bin .add c (.int .i64 1)) λn=>eW a b n d))) (bd (PV.bin .add c (.int .i64 1)) λo=>eW a b o d)) (some [d]):=aW _ _ _ _ _ _ _ _ (by kernel_rfl)
theorem xC : qS a b c d e f g=bd (PV.cat 1 8 false (.lst []) (.lst [e])) λh=>bd (PV.cat 1 8 false g h) λi=>bd (PV.bin .add c (.int .i64 1)) λj=>eW a b j i:=aW _ _ _ _ _ _ _ _ (by kernel_rfl)
theorem xD : mE a b=bd (PV.len a) λc=>eA c (.int .i64 0) b a:=bN _ _ _ _ (by kernel_rfl)
theorem nE : eA a b c d=bd (PV.bin .lss b a) λe=>PV.ite e (bd (PV.inb d b) λf=>bd (PV.at_ 3 true d b) λg=>bd (PV.whole 3 g) λh=>bd (PV.cell h 0) λi=>bd (PV.cell h 1) λj=>bd (PV.cell h 2) λk=>bd (PV.bin .eql i (.int .i64 4)) λl=>PV.ite l (bd (fL c j) λm=>PV.guardFlat (hd m) (bd (PV.not (hd m)) λn=>
 PV.ite n (pO a b i j k c d) (bd (PV.bin .add b (.int .i64 1)) λo=>eA a o c d))) (bd (PV.bin .add b (.int .i64 1)) λp=>eA a p c d)) (some [c]):=aW _ _ _ _ _ _ _ _ (by kernel_rfl)
theorem uW : pO a b c d e f g=bd (PV.cat 1 8 false (.lst []) (.lst [d])) λh=>bd (PV.cat 1 8 false f h) λi=>bd (PV.bin .add b (.int .i64 1)) λj=>eA a j i g:=aW _ _ _ _ _ _ _ _ (by kernel_rfl)
theorem zA : cV a b c d=dQ a (.int .i64 0) b c d (.lst []):=bN _ _ _ _ (by kernel_rfl)
theorem oA : dQ a b c d e f=bd (PV.len a) λg=>bd (PV.bin .lss b g) λh=>PV.ite h (bd (PV.at_ 3 true a b) λi=>bd (mG i c d e) λj=>bd (PV.cat 3 32 true (.lst []) (.lst [(gd j 0)])) λk=>bd (PV.cat 3 32 true f k) λl=>bd (PV.bin .add b (.int .i64 1)) λm=>dQ a m (gd j 1) (gd j 2) (gd j 3) l)
 (some [c,d,e,f]):=aW _ _ _ _ _ _ _ _ (by kernel_rfl)
theorem qY : jD a b c d e f=bd (PV.bin .neq a (.int .i64 4)) λg=>PV.ite g (some [(.agg [a,b,c]),d,e,f]) (bd (PV.inb e b) λh=>bd (PV.at_ 1 false e b) λi=>bd (PV.bin .lss i (.int .i64 0)) λj=>PV.ite j (bd (PV.len f) λk=>bd (PV.inb e b) λl=>bd (PV.setAt 1 false e b k) λm=>bd (PV.cat 1 8 false (.lst []) (.lst [b])) λn=>bd (PV.cat 1 8 false f n) λo=>
 dG d a b c (.int .i64 0) (.int .i64 0) (.str (bs [])) m o) (dG d a b c (.int .i64 0) (.int .i64 0) (.str (bs [])) e f)):=bN _ _ _ _ (by kernel_rfl)
theorem xE : dG a b c d e f g h i=bd (PV.inb h c) λj=>bd (PV.at_ 1 false h c) λk=>bd (PV.one k) λl=>some [(.agg [b,l,d]),a,h,i]:=aW _ _ _ _ _ _ _ _ (by kernel_rfl)
theorem aFu : jZ a=bd (PV.whole 10 a) λb=>bd (PV.cell b 0) λc=>bd (PV.cell b 1) λd=>bd (PV.cell b 2) λe=>bd (PV.cell b 3) λf=>bd (PV.cell b 4) λg=>bd (PV.cell b 5) λh=>bd (PV.cell b 6) λi=>bd (PV.cell b 7) λj=>bd (PV.cell b 8) λk=>bd (PV.cell b 9) λl=>pA (.int .i64 0) c d e f g h i j k l (.int .i64 0) (.int .i64 0) (.int .i64 0) (.int .i64 0) (.int .i64 0) (.str (bs [])) (.int .i64 0) (.lst []) (.lst []) (.lst []) (.lst []):=bN _ _ _ _ (by kernel_rfl)
theorem uX : pA a b c d e f g h i j k l m n o p q r s t u v=bd (PV.len b) λw=>bd (PV.bin .lss a w) λx=>PV.ite x (bd (PV.at_ 4 true b a) λy=>bd (qD y) λz=>PV.guardFlat (gd z 0) (PV.guardFlat (gd z 1) (PV.guardOwn (.own 3 32 true []) (gd z 2) (PV.guardOwn (.own 3 32 true []) (gd z 3) (bd (PV.cat 4 64 true v (.lst [(.agg [(gd z 0),(gd z 1),(gd z 2),(gd z 3)])])) λA=>
 bd (PV.bin .add a (.int .i64 1)) λB=>pA B b c d e f g h i j k l m n o p q r s t u A))))) (bd (rL c) λC=>PV.guardOwn (.own 1 24 true [(.own 3 32 true [])]) (gd C 0) (bd (PV.cat 1 16 false (.lst []) e) λD=>some [d,f,g,h,i,j,k,v,(gd C 0),D])):=aW _ _ _ _ _ _ _ _ (by kernel_rfl)
theorem aBP : cX a b c d=bd (aF a b c d) λe=>bd (PV.bin .sub a (.int .i64 1)) λf=>bd (PV.bin .eql (gd e 0) f) λg=>some [g,(gd e 1),(gd e 2),(gd e 3)]:=bN _ _ _ _ (by kernel_rfl)
theorem aCQ : sR a b c d=bd (lQ b c d) λe=>bd (PV.whole 2 (gd e 0)) λf=>bd (PV.cell f 0) λg=>bd (PV.cell f 1) λh=>bd (cX a (gd e 1) (gd e 2) (gd e 3)) λi=>PV.ite (gd i 0) (bd (wY g h (gd i 1) (gd i 2) (gd i 3)) λj=>bd (PV.whole 2 (gd j 0)) λk=>bd (PV.cell k 0) λl=>bd (PV.cell k 1) λm=>
 some [(.agg [l,m]),(gd j 1),(gd j 2),(gd j 3)]) (some [(.agg [g,h]),(gd i 1),(gd i 2),(gd i 3)]):=bN _ _ _ _ (by kernel_rfl)
theorem aBQ : rJ a b c=bd (lQ a b c) λd=>bd (PV.whole 2 (gd d 0)) λe=>bd (PV.cell e 0) λf=>bd (PV.cell e 1) λg=>bd (qA (.agg [f,g])) λh=>bd (PV.not (hd h)) λi=>PV.ite i (some [(.agg [(.lst []),(.lst [(.agg [(.int .i64 0),(.int .i64 1),(.lst [(.agg [(.int .i64 6),(.int .i64 0)]),(.agg [(.int .i64 26),(.int .i64 0)]),(.agg [(.int .i64 4),(.int .i64 0)]),(.agg [(.int .i64 25),(.int .i64 0)])])])])]),(gd d 1),(gd d 2),(gd d 3)])
 (some [(.agg [f,g]),(gd d 1),(gd d 2),(gd d 3)]):=bN _ _ _ _ (by kernel_rfl)
theorem aBR : rK a b c d e=kP (.int .i64 0) c d e a b (.lst []):=bN _ _ _ _ (by kernel_rfl)
theorem qK : kP a b c d e f g=bd (PV.at_ 3 true f (.int .i64 0)) λh=>bd (PV.cell h 0) λi=>bd (PV.bin .lss a i) λj=>PV.ite j (bd (PV.bin .lss a (.int .i64 20)) λk=>PV.ite k (bd (aF (.int .i64 9) b c d) λl=>bd (gC (gd l 0)) λm=>bd (aF (.int .i64 5) (gd l 1) (gd l 2) (gd l 3)) λn=>bd (PV.bin .sub (gd n 0) (.int .i64 2)) λo=>
 bd (gC o) λp=>bd (aF (.int .i64 40) (gd n 1) (gd n 2) (gd n 3)) λq=>bd (gC (gd q 0)) λr=>bd (gQ (.bool true)) λs=>bd (PV.len f) λt=>bd (aF t (gd q 1) (gd q 2) (gd q 3)) λu=>bd (PV.one (gd u 0)) λv=>bd (PV.cat 3 32 true (.lst []) (.lst [(hd m),(hd p),(hd r),(hd s),(.agg [(.int .i64 3),(.int .i64 0),(.str (bs [113]))]),(.agg [(.int .i64 0),(.int .i64 0),(.str (bs []))]),(.agg [(.int .i64 5),v,(.str (bs []))])])) λw=>
 bd (aF (.int .i64 7) (gd u 1) (gd u 2) (gd u 3)) λx=>bd (PV.inb w (gd x 0)) λy=>bd (PV.at_ 3 true w (gd x 0)) λz=>bd (PV.cat 3 32 true (.lst []) (.lst [z])) λA=>bd (PV.cat 3 32 true g A) λB=>bd (PV.bin .add a (.int .i64 1)) λC=>kP C (gd x 1) (gd x 2) (gd x 3) e f B) (bd (cX (.int .i64 30) b c d) λD=>PV.ite (gd D 0) (bd (eT (gd D 1) (gd D 2) (gd D 3)) λE=>
 bd (PV.cat 3 32 true (.lst []) (.lst [(gd E 0)])) λF=>bd (PV.cat 3 32 true g F) λG=>some [G,(gd E 1),(gd E 2),(gd E 3)]) (some [g,(gd D 1),(gd D 2),(gd D 3)]))) (bd (cX (.int .i64 30) b c d) λH=>PV.ite (gd H 0) (bd (eT (gd H 1) (gd H 2) (gd H 3)) λI=>bd (PV.cat 3 32 true (.lst []) (.lst [(gd I 0)])) λJ=>bd (PV.cat 3 32 true g J) λK=>some [K,(gd I 1),(gd I 2),(gd I 3)])
 (some [g,(gd H 1),(gd H 2),(gd H 3)])):=aW _ _ _ _ _ _ _ _ (by kernel_rfl)
theorem aGO : gC a=bd (PV.one a) λb=>some [(.agg [(.int .i64 1),b,(.str (bs []))])]:=aY _ _ _ (by kernel_rfl)
theorem aFv : gQ a=PV.ite a (some [(.agg [(.int .i64 2),(.int .i64 1),(.str (bs []))])]) (some [(.agg [(.int .i64 2),(.int .i64 0),(.str (bs []))])]):=aY _ _ _ (by kernel_rfl)
theorem aBS : aF a b c d=bd (PV.bin .lss a (.int .i64 2)) λe=>PV.ite e (some [(.int .i64 0),b,c,d]) (bd (PV.len b) λf=>bd (PV.bin .lss c f) λg=>PV.ite g (bd (PV.at_ 1 false b c) λh=>bd (PV.conv .i64 h) λi=>iK a i b c d) (bd (PV.bin .mul d (.int .i64 1103)) λj=>bd (PV.bin .add j (.int .i64 12345)) λk=>bd (PV.bin .rem k (.int .i64 65521)) λl=>
 bd (PV.one l) λm=>bd (PV.len b) λn=>bd (PV.bin .gtr n (.int .i64 0)) λo=>PV.ite o (bd (PV.bin .quo m (.int .i64 7)) λp=>bd (PV.len b) λq=>bd (PV.bin .rem c q) λr=>bd (PV.at_ 1 false b r) λs=>bd (PV.conv .i64 s) λt=>bd (PV.bin .add p t) λu=>iK a u b c m) (iK a (.int .i64 0) b c m))):=bN _ _ _ _ (by kernel_rfl)
theorem zB : iK a b c d e=bd (PV.bin .add d (.int .i64 1)) λf=>bd (PV.one f) λg=>bd (PV.bin .rem b a) λh=>some [h,c,g,e]:=aW _ _ _ _ _ _ _ _ (by kernel_rfl)
theorem aKm : aGC a b c=bd (PV.whole 2 a) λd=>bd (PV.cell d 0) λe=>bd (PV.cell d 1) λf=>bd (aCy (.agg [e,f]) b) λg=>PV.guardFlat (gd g 0) (PV.guardFlat (gd g 1) (PV.guardFlat (gd g 2) (PV.guardFlat (gd g 3) (PV.guardFlat (gd g 4) (PV.guardFlat (gd g 5) (PV.guardFlat (gd g 6) (PV.guardFlat (gd g 7) (PV.guardOwn (.own 4 64 true [.leaf,.leaf,(.own 3 32 true []),(.own 3 32 true [])]) (gd g 8) (
 PV.guardOwn (.own 1 24 true [(.own 3 32 true [])]) (gd g 9) (PV.guardOwn (.own 1 16 false []) (gd g 10) (bd (PV.not (gd g 7)) λh=>PV.ite h (some [(.int .i64 0),(.int .i64 0),(.int .i64 0),(.int .i64 0),(.int .i64 0),(.str (bs [])),(.int .i64 0),(.lst []),(.lst []),(.lst [])]) (bd (aM c (.int .i64 0) (.int .i64 50000)) λi=>bd (PV.not (hd i)) λj=>PV.ite j (some [(.int .i64 0),(.int .i64 0),(.int .i64 0),(.int .i64 0),(.int .i64 0),(.str (bs [])),(.int .i64 0),(.lst []),(.lst []),(.lst [])])
 (vV c (.int .i64 0) e f (.int .i64 0) (.int .i64 0) (.int .i64 0) (.int .i64 0) (.int .i64 0) (.str (bs [])) (.int .i64 0) (gd g 0) (gd g 1) (gd g 2) (gd g 3) (gd g 4) (gd g 5) (gd g 6) (.lst []) (.lst []) (.lst []) (gd g 8) (gd g 9) (gd g 10)))))))))))))):=bN _ _ _ _ (by kernel_rfl)
theorem aA1 : vV a b c d e f g h i j k l m n o p q r s t u v w x=bd (PV.bin .lss b a) λy=>PV.ite y (bd (PV.bin .eql m (.int .i64 0)) λz=>PV.ite z (bd (yZ (.agg [c,d]) (.agg [v,w,l,x,m,n,o,p,q,r])) λA=>PV.guardFlat (gd A 0) (PV.guardFlat (gd A 1) (PV.guardFlat (gd A 2) (PV.guardFlat (gd A 3) (PV.guardFlat (gd A 4) (PV.guardFlat (gd A 5) (
 PV.guardFlat (gd A 6) (PV.guardOwn (.own 4 64 true [.leaf,.leaf,(.own 3 32 true []),(.own 3 32 true [])]) (gd A 7) (PV.guardOwn (.own 1 24 true [(.own 3 32 true [])]) (gd A 8) (PV.guardOwn (.own 1 16 false []) (gd A 9) (bd (PV.bin .add b (.int .i64 1)) λB=>vV a B c d e f g h i j k (gd A 0) (gd A 1) (gd A 2) (gd A 3) (gd A 4) (gd A 5) (gd A 6) s t u (gd A 7) (gd A 8) (gd A 9))))))))))))
 (some [l,m,n,o,p,q,r,v,w,x])) (some [l,m,n,o,p,q,r,v,w,x]):=aW _ _ _ _ _ _ _ _ (by kernel_rfl)
theorem aAh : eF a b c=bd (aF (.int .i64 9) a b c) λd=>bd (PV.bin .eql (gd d 0) (.int .i64 0)) λe=>PV.ite e (bd (aF (.int .i64 256) (gd d 1) (gd d 2) (gd d 3)) λf=>bd (PV.bin .sub (gd f 0) (.int .i64 128)) λg=>some [g,(gd f 1),(gd f 2),(gd f 3)]) (bd (PV.bin .eql (gd d 0) (.int .i64 1)) λh=>PV.ite h (bd (aF (.int .i64 8) (gd d 1) (gd d 2) (gd d 3)) λi=>
 bd (PV.inb (.lst [(.int .i64 1000000000),(.int .i64 (-1000000000)),(.int .i64 1000000001),(.int .i64 (-1000000001)),(.int .i64 9223372036854775807),(.int .i64 (-9223372036854775808)),(.int .i64 4611686018427387904),(.int .i64 31623)]) (gd i 0)) λj=>bd (PV.at_ 1 false (.lst [(.int .i64 1000000000),(.int .i64 (-1000000000)),(.int .i64 1000000001),(.int .i64 (-1000000001)),(.int .i64 9223372036854775807),(.int .i64 (-9223372036854775808)),(.int .i64 4611686018427387904),(.int .i64 31623)]) (gd i 0)) λk=>
 some [k,(gd i 1),(gd i 2),(gd i 3)]) (bd (aF (.int .i64 12) (gd d 1) (gd d 2) (gd d 3)) λl=>bd (PV.bin .sub (gd l 0) (.int .i64 3)) λm=>some [m,(gd l 1),(gd l 2),(gd l 3)])):=bN _ _ _ _ (by kernel_rfl)
theorem aA2 : eT a b c=bd (aF (.int .i64 9) a b c) λd=>bd (PV.bin .eql (gd d 0) (.int .i64 0)) λe=>PV.ite e (some [(.agg [(.int .i64 0),(.int .i64 0),(.str (bs []))]),(gd d 1),(gd d 2),(gd d 3)]) (bd (PV.bin .eql (gd d 0) (.int .i64 1)) λf=>PV.ite f (bd (eF (gd d 1) (gd d 2) (gd d 3)) λg=>bd (gC (gd g 0)) λh=>
 bd (PV.whole 3 (hd h)) λi=>bd (PV.cell i 0) λj=>bd (PV.cell i 1) λk=>bd (PV.cell i 2) λl=>some [(.agg [j,k,l]),(gd g 1),(gd g 2),(gd g 3)]) (bd (PV.bin .eql (gd d 0) (.int .i64 2)) λm=>PV.ite m (bd (eF (gd d 1) (gd d 2) (gd d 3)) λn=>bd (gC (gd n 0)) λo=>bd (PV.whole 3 (hd o)) λp=>bd (PV.cell p 0) λq=>bd (PV.cell p 1) λr=>
 bd (PV.cell p 2) λs=>some [(.agg [q,r,s]),(gd n 1),(gd n 2),(gd n 3)]) (bd (PV.bin .eql (gd d 0) (.int .i64 3)) λt=>PV.ite t (bd (eF (gd d 1) (gd d 2) (gd d 3)) λu=>bd (gC (gd u 0)) λv=>bd (PV.whole 3 (hd v)) λw=>bd (PV.cell w 0) λx=>bd (PV.cell w 1) λy=>bd (PV.cell w 2) λz=>some [(.agg [x,y,z]),(gd u 1),(gd u 2),(gd u 3)])
 (bd (PV.bin .eql (gd d 0) (.int .i64 4)) λA=>PV.ite A (bd (aF (.int .i64 2) (gd d 1) (gd d 2) (gd d 3)) λB=>bd (PV.one (gd B 0)) λC=>some [(.agg [(.int .i64 2),C,(.str (bs []))]),(gd B 1),(gd B 2),(gd B 3)]) (bd (PV.bin .eql (gd d 0) (.int .i64 5)) λD=>PV.ite D (bd (aF (.int .i64 4) (gd d 1) (gd d 2) (gd d 3)) λE=>bd (PV.inb (.lst [(.str (bs [])),(.str (bs [97])),(.str (bs [98,99])),(.str (bs [48,49,50,51,52,53,54,55,56,57,48,49,50,51,52,53,54,55,56,57,48,49,50,51,52,53,54,55,56,57,48,49,50,51,52,53,54,55,56,57]))]) (gd E 0)) λF=>
 bd (PV.at_ 1 false (.lst [(.str (bs [])),(.str (bs [97])),(.str (bs [98,99])),(.str (bs [48,49,50,51,52,53,54,55,56,57,48,49,50,51,52,53,54,55,56,57,48,49,50,51,52,53,54,55,56,57,48,49,50,51,52,53,54,55,56,57]))]) (gd E 0)) λG=>bd (PV.one G) λH=>some [(.agg [(.int .i64 3),(.int .i64 0),H]),(gd E 1),(gd E 2),(gd E 3)]) (bd (PV.bin .eql (gd d 0) (.int .i64 6)) λI=>
 PV.ite I (bd (aF (.int .i64 4) (gd d 1) (gd d 2) (gd d 3)) λJ=>bd (PV.one (gd J 0)) λK=>some [(.agg [(.int .i64 4),K,(.str (bs []))]),(gd J 1),(gd J 2),(gd J 3)]) (bd (PV.bin .eql (gd d 0) (.int .i64 7)) λL=>PV.ite L (bd (aF (.int .i64 4) (gd d 1) (gd d 2) (gd d 3)) λM=>bd (PV.one (gd M 0)) λN=>some [(.agg [(.int .i64 5),N,(.str (bs []))]),(gd M 1),(gd M 2),(gd M 3)])
 (bd (aF (.int .i64 8) (gd d 1) (gd d 2) (gd d 3)) λO=>bd (PV.bin .sub (gd O 0) (.int .i64 1)) λP=>bd (aF (.int .i64 4) (gd O 1) (gd O 2) (gd O 3)) λQ=>bd (PV.bin .sub (gd Q 0) (.int .i64 1)) λR=>bd (aF (.int .i64 3) (gd Q 1) (gd Q 2) (gd Q 3)) λS=>bd (PV.inb (.lst [(.str (bs [])),(.str (bs [97])),(.str (bs [34]))]) (gd S 0)) λT=>
 bd (PV.at_ 1 false (.lst [(.str (bs [])),(.str (bs [97])),(.str (bs [34]))]) (gd S 0)) λU=>bd (PV.one P) λV=>bd (PV.one R) λW=>bd (PV.one U) λX=>some [(.agg [V,W,X]),(gd S 1),(gd S 2),(gd S 3)])))))))):=bN _ _ _ _ (by kernel_rfl)
theorem nF : fA a=bd (PV.len a) λb=>bW a (.int .i64 0) a b (.int .i64 0):=bN _ _ _ _ (by kernel_rfl)
theorem dT : bW a b c d e=bd (PV.bin .lss e d) λf=>PV.ite f (bd (PV.at_ 1 false c e) λg=>bd (PV.len g) λh=>bd (PV.bin .add b h) λi=>bd (PV.bin .lss i (.int .i64 0)) λj=>PV.ite j (none) (bd (PV.bin .add e (.int .i64 1)) λk=>bW a i c d k)) (bd (fP b) λl=>
 bd (PV.len a) λm=>bU a m (.int .i64 0) (gd l 0)):=aW _ _ _ _ _ _ _ _ (by kernel_rfl)
theorem dR : bU a b c d=bd (PV.bin .lss c b) λe=>PV.ite e (bd (PV.at_ 1 false a c) λf=>bd (PV.cat 3 32 true d f) λg=>bd (PV.bin .add c (.int .i64 1)) λh=>bU a b h g) (some [d]):=aW _ _ _ _ _ _ _ _ (by kernel_rfl)
theorem aA3 : pP a b c d e f g h i j k l m n o p=PV.ite d (bd (PV.len f) λq=>bd (PV.len h) λr=>bd (yY (.agg [a,b,c]) q r) λs=>bd (PV.one (hd s)) λt=>some [t,e,f,g,h,i,j,k,l,m,n,o,p]) (some [(.bool false),e,f,g,h,i,j,k,l,m,n,o,p]):=bN _ _ _ _ (by kernel_rfl)
theorem aFw : yY a b c=bd (PV.whole 3 a) λd=>bd (PV.cell d 0) λe=>bd (PV.cell d 1) λf=>bd (PV.cell d 2) λg=>bd (PV.bin .eql e (.int .i64 0)) λh=>PV.ite h (bd (PV.ceq [1,1,2] .eql (.agg [e,f,g]) (.agg [(.int .i64 0),(.int .i64 0),(.str (bs []))])) λi=>some [i]) (bd (PV.bin .eql e (.int .i64 1)) λj=>PV.ite j (bd (uK f) λk=>
 PV.ite (hd k) (bd (PV.bin .eql g (.str (bs []))) λl=>some [l]) (some [.bool false])) (bd (PV.bin .eql e (.int .i64 2)) λm=>PV.ite m (bd (cH f (.int .i64 0) (.int .i64 1)) λn=>PV.ite (hd n) (bd (PV.bin .eql g (.str (bs []))) λo=>some [o]) (some [.bool false])) (bd (PV.bin .eql e (.int .i64 3)) λp=>PV.ite p (bd (PV.bin .eql f (.int .i64 0)) λq=>PV.ite q (bd (pN g) λr=>
 some [(hd r)]) (some [.bool false])) (bd (PV.bin .eql e (.int .i64 4)) λs=>PV.ite s (bd (cZ f c) λt=>PV.ite (hd t) (bd (PV.bin .eql g (.str (bs []))) λu=>some [u]) (some [.bool false])) (bd (PV.bin .eql e (.int .i64 5)) λv=>PV.ite v (bd (cZ f b) λw=>PV.ite (hd w) (bd (PV.bin .eql g (.str (bs []))) λx=>some [x]) (some [.bool false])) (some [.bool false])))))):=aY _ _ _ (by kernel_rfl)
theorem aEo : wX a=bd (PV.whole 10 a) λb=>bd (PV.cell b 0) λc=>bd (PV.cell b 1) λd=>bd (PV.cell b 2) λe=>bd (PV.cell b 3) λf=>bd (PV.cell b 4) λg=>bd (PV.cell b 5) λh=>bd (PV.cell b 6) λi=>bd (PV.cell b 7) λj=>bd (PV.cell b 8) λk=>bd (PV.cell b 9) λl=>bd (sS c) λm=>PV.guardOwn (.own 4 64 true [.leaf,.leaf,(.own 3 32 true []),(.own 3 32 true [])]) (gd m 0) (
 bd (wZ d) λn=>PV.guardOwn (.own 1 24 true [(.own 3 32 true [])]) (gd n 0) (bd (jE f) λo=>PV.guardOwn (.own 1 16 false []) (gd o 0) (some [e,g,h,i,j,k,l,(gd m 0),(gd n 0),(gd o 0)]))):=bN _ _ _ _ (by kernel_rfl)
theorem nW : cE a=bd (PV.isLst a) λb=>PV.nilT b (some [(.lst [])]) (bd (PV.cat 3 32 true (.lst []) a) λc=>some [c]):=bN _ _ _ _ (by kernel_rfl)
theorem aA4 : gZ a b=bd (PV.len b) λc=>gR c (.int .i64 0) a b:=bN _ _ _ _ (by kernel_rfl)
theorem pS : gR a b c d=bd (PV.bin .lss b a) λe=>PV.ite e (bd (PV.inb d b) λf=>bd (PV.at_ 3 true d b) λg=>bd (PV.whole 3 g) λh=>bd (PV.cell h 0) λi=>bd (PV.cell h 1) λj=>bd (PV.cell h 2) λk=>bd (PV.bin .eql i (.int .i64 4)) λl=>PV.ite l (bd (fM c j) λm=>bd (PV.inb d b) λn=>bd (PV.one (hd m)) λo=>
 bd (PV.setCell 3 d b 1 o) λp=>bd (PV.bin .add b (.int .i64 1)) λq=>gR a q c p) (bd (PV.bin .add b (.int .i64 1)) λr=>gR a r c d)) (some [c,d]):=aW _ _ _ _ _ _ _ _ (by kernel_rfl)
theorem xF : mG a b c d=bd (PV.whole 3 a) λe=>bd (PV.cell e 0) λf=>bd (PV.cell e 1) λg=>bd (PV.cell e 2) λh=>bd (PV.bin .neq f (.int .i64 4)) λi=>PV.ite i (some [(.agg [f,g,h]),b,c,d]) (bd (PV.inb c g) λj=>bd (PV.at_ 1 false c g) λk=>bd (PV.bin .lss k (.int .i64 0)) λl=>PV.ite l (bd (PV.len d) λm=>bd (PV.inb c g) λn=>
 bd (PV.setAt 1 false c g m) λo=>bd (PV.cat 1 8 false (.lst []) (.lst [g])) λp=>bd (PV.cat 1 8 false d p) λq=>dG b f g h (.int .i64 0) (.int .i64 0) (.str (bs [])) o q) (dG b f g h (.int .i64 0) (.int .i64 0) (.str (bs [])) c d)):=bN _ _ _ _ (by kernel_rfl)
theorem aA5 : qD a=bd (PV.whole 4 a) λb=>bd (PV.cell b 0) λc=>bd (PV.cell b 1) λd=>bd (PV.cell b 2) λe=>bd (PV.cell b 3) λf=>bd (PV.cat 3 32 true (.lst []) e) λg=>bd (PV.cat 3 32 true (.lst []) f) λh=>some [c,d,g,h]:=bN _ _ _ _ (by kernel_rfl)
theorem aBT : rL a=kQ a (.int .i64 0) (.lst []):=bN _ _ _ _ (by kernel_rfl)
theorem qL : kQ a b c=bd (PV.len a) λd=>bd (PV.bin .lss b d) λe=>PV.ite e (bd (PV.at_ 1 true a b) λf=>bd (PV.cell f 0) λg=>bd (PV.cat 3 32 true (.lst []) g) λh=>bd (PV.cat 1 24 true c (.lst [(.agg [h])])) λi=>bd (PV.bin .add b (.int .i64 1)) λj=>kQ a j i) (some [c]):=aW _ _ _ _ _ _ _ _ (by kernel_rfl)
theorem aAi : lQ a b c=bd (aF (.int .i64 3) a b c) λd=>jH (gd d 0) (gd d 1) (gd d 2) (gd d 3) (.lst []) (.lst []) (.lst []) (.lst []):=bN _ _ _ _ (by kernel_rfl)
variable (a b c d e f g h i j k l m n o q r : PV)
theorem oQ : jH a b c d e f g h=bd (PV.bin .gtr a (.int .i64 0)) λi=>PV.ite i (bd (aF (.int .i64 5) b c d) λj=>bd (PV.inb (.lst [(.str (bs [])),(.str (bs [97])),(.str (bs [98,99])),(.str (bs [104,101,108,108,111,32,119,111,114,108,100])),(.str (bs [120,32,121]))]) (gd j 0)) λk=>bd (PV.at_ 1 false (.lst [(.str (bs [])),(.str (bs [97])),(.str (bs [98,99])),(.str (bs [104,101,108,108,111,32,119,111,114,108,100])),(.str (bs [120,32,121]))]) (gd j 0)) λl=>
 bd (PV.cat 1 16 false (.lst []) (.lst [l])) λm=>bd (PV.cat 1 16 false g m) λn=>bd (PV.bin .sub a (.int .i64 1)) λo=>jH o (gd j 1) (gd j 2) (gd j 3) e f n h) (bd (aF (.int .i64 4) b c d) λq=>gE (gd q 0) (gd q 1) (gd q 2) (gd q 3) e f g h (.lst [])):=aW _ _ _ _ _ _ _ _ (by kernel_rfl)
theorem oR : gE a b c d e f g h i=bd (PV.bin .gtr a (.int .i64 0)) λj=>PV.ite j (bd (aF (.int .i64 3) b c d) λk=>bd (PV.one (gd k 0)) λl=>bd (PV.bin .add (.int .i64 1) l) λm=>bd (aF (.int .i64 2) (gd k 1) (gd k 2) (gd k 3)) λn=>bd (PV.bin .add m (gd n 0)) λo=>bd (PV.one o) λq=>bd (PV.len g) λr=>
 bd (PV.cat 3 40 true (.lst []) i) λs=>bd (PV.one r) λt=>bd (PV.one q) λu=>bd (cX (.int .i64 3) (gd n 1) (gd n 2) (gd n 3)) λv=>PV.ite (gd v 0) (bd (gN (.int .i64 1) (.int .i64 2) s t u (.bool false) (gd v 1) (gd v 2) (gd v 3) (.lst [])) λw=>iQ a (gd w 4) (gd w 5) (gd w 6) l q (gd w 0) (gd w 1) (gd w 2) (gd w 3) e f g h i (.lst []) (gd w 7))
 (iQ a (gd v 1) (gd v 2) (gd v 3) l q s t u (.bool false) e f g h i (.lst []) (.lst []))) (bd (aF (.int .i64 3) b c d) λx=>bd (aF (.int .i64 2) (gd x 1) (gd x 2) (gd x 3)) λy=>bd (PV.bin .add (.int .i64 3) (gd y 0)) λz=>bd (PV.one (gd x 0)) λA=>bd (PV.one z) λB=>bd (PV.len g) λC=>bd (PV.one C) λD=>bd (PV.one B) λE=>
 bd (rM (.int .i64 5) (gd y 1) (gd y 2) (gd y 3)) λF=>bd (PV.bin .add (.int .i64 1) (gd F 0)) λG=>bd (gN (.int .i64 2) G i D E (.bool true) (gd F 1) (gd F 2) (gd F 3) (.lst [])) λH=>bd (aP (.int .i64 1) (gd H 0) (gd H 1) (gd H 2) (gd H 3) (gd H 4) (gd H 5) (gd H 6) (gd H 7)) λI=>bd (aJ (.int .i64 25) (.int .i64 0) (gd I 0) (gd I 1) (gd I 2) (gd I 3) (gd I 4) (gd I 5) (gd I 6) (gd I 7)) λJ=>
 bd (PV.cat 3 40 true (.lst [(.agg [A,B,(gd J 7)])]) i) λK=>some [(.agg [g,K]),(gd J 4),(gd J 5),(gd J 6)]):=aW _ _ _ _ _ _ _ _ (by kernel_rfl)
theorem vH : iQ a b c d e f g h i j k l m n o q r=bd (aP (.int .i64 2) g h i j b c d r) λs=>bd (aJ (.int .i64 25) (.int .i64 0) (gd s 0) (gd s 1) (gd s 2) (gd s 3) (gd s 4) (gd s 5) (gd s 6) (gd s 7)) λt=>bd (PV.cat 3 40 true o (.lst [(.agg [e,f,(gd t 7)])])) λu=>bd (PV.bin .sub a (.int .i64 1)) λv=>gE v (gd t 4) (gd t 5) (gd t 6) k l m n u:=aW _ _ _ _ _ _ _ _ (by kernel_rfl)
theorem aEp : wY a b c d e=bd (pF (.agg [a,b])) λf=>PV.guardOwn (.own 1 16 false []) (gd f 0) (PV.guardOwn (.own 3 40 true [.leaf,.leaf,(.own 2 16 true [])]) (gd f 1) (bd (PV.len (gd f 1)) λg=>bd (aF g c d e) λh=>bd (PV.inb (gd f 1) (gd h 0)) λi=>bd (PV.at_ 3 true (gd f 1) (gd h 0)) λj=>bd (PV.at_ 3 true (gd f 1) (gd h 0)) λk=>
 bd (PV.cell k 2) λl=>bd (PV.len l) λm=>bd (aF m (gd h 1) (gd h 2) (gd h 3)) λn=>bd (aF (.int .i64 8) (gd n 1) (gd n 2) (gd n 3)) λo=>bd (PV.bin .eql (gd o 0) (.int .i64 0)) λq=>PV.ite q (bd (PV.inb (gd f 1) (gd h 0)) λr=>bd (PV.at_ 3 true (gd f 1) (gd h 0)) λs=>bd (aF (.int .i64 29) (gd o 1) (gd o 2) (gd o 3)) λt=>bd (PV.bin .sub (gd t 0) (.int .i64 1)) λu=>
 bd (PV.at_ 3 true (gd f 1) (gd h 0)) λv=>bd (PV.cell v 2) λw=>bd (PV.inb w (gd n 0)) λx=>bd (PV.at_ 3 true (gd f 1) (gd h 0)) λy=>bd (PV.cell y 2) λz=>bd (PV.one u) λA=>bd (PV.at_ 3 true (gd f 1) (gd h 0)) λB=>bd (PV.cell B 2) λC=>bd (PV.setCell 2 C (gd n 0) 0 A) λD=>bd (PV.at_ 3 true (gd f 1) (gd h 0)) λE=>bd (PV.cell E 2) λF=>bd (PV.setCell 3 (gd f 1) (gd h 0) 2 D) λG=>
 some [(.agg [(gd f 0),G]),(gd t 1),(gd t 2),(gd t 3)]) (bd (PV.bin .eql (gd o 0) (.int .i64 1)) λH=>PV.ite H (bd (PV.inb (gd f 1) (gd h 0)) λI=>bd (PV.at_ 3 true (gd f 1) (gd h 0)) λJ=>bd (eF (gd o 1) (gd o 2) (gd o 3)) λK=>bd (PV.at_ 3 true (gd f 1) (gd h 0)) λL=>bd (PV.cell L 2) λM=>bd (PV.inb M (gd n 0)) λN=>bd (PV.at_ 3 true (gd f 1) (gd h 0)) λO=>
 bd (PV.cell O 2) λP=>bd (PV.one (gd K 0)) λQ=>bd (PV.at_ 3 true (gd f 1) (gd h 0)) λR=>bd (PV.cell R 2) λS=>bd (PV.setCell 2 S (gd n 0) 1 Q) λT=>bd (PV.at_ 3 true (gd f 1) (gd h 0)) λU=>bd (PV.cell U 2) λV=>bd (PV.setCell 3 (gd f 1) (gd h 0) 2 T) λW=>some [(.agg [(gd f 0),W]),(gd K 1),(gd K 2),(gd K 3)]) (bd (PV.bin .eql (gd o 0) (.int .i64 2)) λX=>PV.ite X
 (bd (aF (.int .i64 9) (gd o 1) (gd o 2) (gd o 3)) λY=>bd (PV.bin .sub (gd Y 0) (.int .i64 1)) λZ=>bd (PV.inb (gd f 1) (gd h 0)) λaa=>bd (PV.one Z) λab=>bd (PV.setCell 3 (gd f 1) (gd h 0) 0 ab) λac=>some [(.agg [(gd f 0),ac]),(gd Y 1),(gd Y 2),(gd Y 3)]) (bd (PV.bin .eql (gd o 0) (.int .i64 3)) λad=>PV.ite ad (bd (aF (.int .i64 4) (gd o 1) (gd o 2) (gd o 3)) λae=>
 bd (PV.inb (.lst [(.int .i64 (-1)),(.int .i64 0),(.int .i64 12),(.int .i64 13)]) (gd ae 0)) λaf=>bd (PV.at_ 1 false (.lst [(.int .i64 (-1)),(.int .i64 0),(.int .i64 12),(.int .i64 13)]) (gd ae 0)) λag=>bd (PV.inb (gd f 1) (gd h 0)) λah=>bd (PV.one ag) λai=>bd (PV.setCell 3 (gd f 1) (gd h 0) 1 ai) λaj=>some [(.agg [(gd f 0),aj]),(gd ae 1),(gd ae 2),(gd ae 3)]) (bd (PV.bin .eql (gd o 0) (.int .i64 4)) λak=>
 PV.ite ak (bd (aF (.int .i64 4) (gd o 1) (gd o 2) (gd o 3)) λal=>bd (PV.inb (.lst [(.str (bs [113,34])),(.str (bs [10])),(.str (bs [48,49,50,51,52,53,54,55,56,57,48,49,50,51,52,53,54,55,56,57,48,49,50,51,52,53,54,55,56,57,48,49,50,51,52,53,54,55,56,57,48,49,50,51,52,53,54,55,56,57,48,49,50,51,52,53,54,55,56,57,48])),(.str (bs [195,169]))]) (gd al 0)) λam=>
 bd (PV.at_ 1 false (.lst [(.str (bs [113,34])),(.str (bs [10])),(.str (bs [48,49,50,51,52,53,54,55,56,57,48,49,50,51,52,53,54,55,56,57,48,49,50,51,52,53,54,55,56,57,48,49,50,51,52,53,54,55,56,57,48,49,50,51,52,53,54,55,56,57,48,49,50,51,52,53,54,55,56,57,48])),(.str (bs [195,169]))]) (gd al 0)) λan=>bd (PV.cat 1 16 false (.lst []) (.lst [an])) λao=>
 bd (PV.cat 1 16 false (gd f 0) ao) λap=>some [(.agg [ap,(gd f 1)]),(gd al 1),(gd al 2),(gd al 3)]) (bd (PV.bin .eql (gd o 0) (.int .i64 5)) λaq=>PV.ite aq (bd (PV.inb (gd f 1) (gd h 0)) λar=>bd (PV.at_ 3 true (gd f 1) (gd h 0)) λau=>bd (PV.at_ 3 true (gd f 1) (gd h 0)) λav=>bd (PV.cell av 2) λaw=>bd (PV.cut 2 true aw (.int .i64 0) (gd n 0)) λax=>bd (PV.inb (gd f 1) (gd h 0)) λay=>
 bd (PV.at_ 3 true (gd f 1) (gd h 0)) λaz=>bd (PV.bin .add (gd n 0) (.int .i64 1)) λba=>bd (PV.at_ 3 true (gd f 1) (gd h 0)) λbb=>bd (PV.cell bb 2) λbc=>bd (PV.len bc) λbe=>bd (PV.cut 2 true bc ba be) λbf=>bd (PV.at_ 3 true (gd f 1) (gd h 0)) λbg=>bd (PV.cell bg 2) λbh=>bd (PV.at_ 3 true (gd f 1) (gd h 0)) λbi=>bd (PV.cell bi 2) λbj=>bd (PV.cut 2 true bj ba be) λbk=>
 bd (PV.cut 2 true bh (.int .i64 0) (gd n 0)) λbl=>bd (PV.at_ 3 true (gd f 1) (gd h 0)) λbm=>bd (PV.cell bm 2) λbn=>bd (PV.setCell 3 (gd f 1) (gd h 0) 2 .hole) λbo=>bd (PV.cat 2 16 true bl bk) λbp=>bd (PV.inb bo (gd h 0)) λbq=>bd (PV.setCell 3 bo (gd h 0) 2 bp) λbr=>some [(.agg [(gd f 0),br]),(gd o 1),(gd o 2),(gd o 3)]) (bd (PV.bin .eql (gd o 0) (.int .i64 6)) λbt=>
 PV.ite bt (mO (gd o 1) (gd o 2) (gd o 3) (.lst []) (.lst []) (gd f 0) (gd f 1)) (bd (PV.inb (gd f 1) (gd h 0)) λbu=>bd (PV.at_ 3 true (gd f 1) (gd h 0)) λbv=>bd (PV.at_ 3 true (gd f 1) (gd h 0)) λbw=>bd (PV.cell bw 2) λbx=>bd (PV.inb bx (gd n 0)) λbz=>bd (PV.at_ 3 true (gd f 1) (gd h 0)) λca=>bd (PV.cell ca 2) λcb=>bd (PV.at_ 2 true cb (gd n 0)) λcc=>
 bd (PV.whole 2 cc) λcd=>bd (PV.cell cd 0) λce=>bd (PV.cell cd 1) λcf=>nQ (gd h 0) (gd o 1) (gd o 2) (gd o 3) ce cf (.lst []) (.lst []) (gd f 0) (gd f 1)))))))))):=bN _ _ _ _ (by kernel_rfl)
theorem sE : mO a b c d e f g=bd (PV.len g) λh=>bd (aF (.int .i64 2) a b c) λi=>bd (PV.bin .add (.int .i64 12) (gd i 0)) λj=>bd (PV.bin .lss h j) λk=>PV.ite k (bd (PV.cat 3 40 true g (.lst [(.agg [(.int .i64 0),(.int .i64 0),(.lst [(.agg [(.int .i64 4),(.int .i64 0)]),(.agg [(.int .i64 25),(.int .i64 0)])])])])) λl=>mO (gd i 1) (gd i 2) (gd i 3) d e f l)
 (some [(.agg [f,g]),(gd i 1),(gd i 2),(gd i 3)]):=aW _ _ _ _ _ _ _ _ (by kernel_rfl)
theorem tA : nQ a b c d e f g h i j=bd (PV.inb j a) λk=>bd (PV.at_ 3 true j a) λl=>bd (PV.at_ 3 true j a) λm=>bd (PV.cell m 2) λn=>bd (PV.len n) λo=>bd (aF (.int .i64 2) b c d) λq=>bd (PV.bin .add (.int .i64 120) (gd q 0)) λr=>bd (PV.bin .lss o r) λs=>PV.ite s (bd (PV.inb j a) λt=>bd (PV.at_ 3 true j a) λu=>
 bd (PV.at_ 3 true j a) λv=>bd (PV.cell v 2) λw=>bd (PV.at_ 3 true j a) λx=>bd (PV.cell x 2) λy=>bd (PV.setCell 3 j a 2 .hole) λz=>bd (PV.cat 2 16 true w (.lst [(.agg [e,f])])) λA=>bd (PV.inb z a) λB=>bd (PV.setCell 3 z a 2 A) λC=>nQ a (gd q 1) (gd q 2) (gd q 3) e f g h i C) (some [(.agg [i,j]),(gd q 1),(gd q 2),(gd q 3)]):=aW _ _ _ _ _ _ _ _ (by kernel_rfl)
theorem aHI : aCy a b=bd (PV.whole 2 a) λc=>bd (PV.cell c 0) λd=>bd (PV.cell c 1) λe=>bd (qA (.agg [d,e])) λf=>bd (PV.not (hd f)) λg=>PV.ite g (some [(.int .i64 0),(.int .i64 0),(.int .i64 0),(.int .i64 0),(.int .i64 0),(.str (bs [])),(.int .i64 0),(.bool false),(.lst []),(.lst []),(.lst [])]) (bd (PV.len b) λh=>bd (PV.at_ 3 true e (.int .i64 0)) λi=>
 bd (PV.cell i 0) λj=>bd (PV.bin .neq h j) λk=>PV.ite k (some [(.int .i64 0),(.int .i64 0),(.int .i64 0),(.int .i64 0),(.int .i64 0),(.str (bs [])),(.int .i64 0),(.bool false),(.lst []),(.lst []),(.lst [])]) (oO b (.int .i64 0) d e (.int .i64 0) (.int .i64 0) (.int .i64 0) (.int .i64 0) (.int .i64 0) (.str (bs [])) (.int .i64 0) (.lst []) (.lst []) (.lst []))):=bN _ _ _ _ (by kernel_rfl)
theorem xZ : oO a b c d e f g h i j k l m n=bd (PV.len a) λo=>bd (PV.bin .lss b o) λq=>PV.ite q (bd (PV.at_ 3 true a b) λr=>bd (uI (.agg [c,d]) r (.int .i64 0)) λs=>bd (PV.not (hd s)) λt=>PV.ite t (some [(.int .i64 0),(.int .i64 0),(.int .i64 0),(.int .i64 0),(.int .i64 0),(.str (bs [])),(.int .i64 0),(.bool false),(.lst []),(.lst []),(.lst [])])
 (bd (PV.bin .add b (.int .i64 1)) λu=>oO a u c d e f g h i j k l m n)) (bd (PV.at_ 3 true d (.int .i64 0)) λv=>bd (PV.cell v 1) λw=>bd (PV.zeros 32 (.agg [(.int .i64 0),(.int .i64 0),(.str (bs []))]) w) λx=>bd (PV.bin .leq w w) λy=>PV.ite y (bd (PV.zeros 32 (.agg [(.int .i64 0),(.int .i64 0),(.str (bs []))]) w) λz=>nD a (.int .i64 0) e f g h i j k (.int .i64 0) (.int .i64 0) l m n z (.lst []))
 (none)):=aW _ _ _ _ _ _ _ _ (by kernel_rfl)
theorem wH : nD a b c d e f g h i j k l m n o q=bd (PV.len a) λr=>bd (PV.bin .lss b r) λs=>PV.ite s (bd (PV.at_ 3 true a b) λt=>bd (PV.inb o b) λu=>bd (PV.setAt 3 true o b t) λv=>bd (PV.bin .add b (.int .i64 1)) λw=>nD a w c d e f g h i j k l m n v q) (some [(.int .i64 0),(.int .i64 0),(.int .i64 0),(.int .i64 0),(.int .i64 0),(.str (bs [])),(.int .i64 0),(.bool true),(.lst [(.agg [j,k,o,q])]),(.lst []),(.lst [])]):=aW _ _ _ _ _ _ _ _ (by kernel_rfl)
theorem aFx : yZ a b=bd (PV.whole 2 a) λc=>bd (PV.cell c 0) λd=>bd (PV.cell c 1) λe=>bd (PV.whole 10 b) λf=>bd (PV.cell f 0) λg=>bd (PV.cell f 1) λh=>bd (PV.cell f 2) λi=>bd (PV.cell f 3) λj=>bd (PV.cell f 4) λk=>bd (PV.cell f 5) λl=>bd (PV.cell f 6) λm=>bd (PV.cell f 7) λn=>bd (PV.cell f 8) λo=>bd (PV.cell f 9) λq=>
 bd (PV.bin .neq k (.int .i64 0)) λr=>PV.ite r (bd (jZ (.agg [g,h,i,j,k,l,m,n,o,q])) λs=>PV.guardFlat (gd s 0) (PV.guardFlat (gd s 1) (PV.guardFlat (gd s 2) (PV.guardFlat (gd s 3) (PV.guardFlat (gd s 4) (PV.guardFlat (gd s 5) (PV.guardFlat (gd s 6) (PV.guardOwn (.own 4 64 true [.leaf,.leaf,(.own 3 32 true []),(.own 3 32 true [])]) (gd s 7) (PV.guardOwn (.own 1 24 true [(.own 3 32 true [])]) (gd s 8) (
 PV.guardOwn (.own 1 16 false []) (gd s 9) (some [(gd s 0),(gd s 1),(gd s 2),(gd s 3),(gd s 4),(gd s 5),(gd s 6),(gd s 7),(gd s 8),(gd s 9)]))))))))))) (bd (PV.bin .eql q (.int .i64 50000)) λt=>PV.ite t (bd (jZ (.agg [g,h,i,j,k,l,m,n,o,q])) λu=>PV.guardFlat (gd u 0) (PV.guardFlat (gd u 1) (PV.guardFlat (gd u 2) (PV.guardFlat (gd u 3) (PV.guardFlat (gd u 4) (
 PV.guardFlat (gd u 5) (PV.guardFlat (gd u 6) (PV.guardOwn (.own 4 64 true [.leaf,.leaf,(.own 3 32 true []),(.own 3 32 true [])]) (gd u 7) (PV.guardOwn (.own 1 24 true [(.own 3 32 true [])]) (gd u 8) (PV.guardOwn (.own 1 16 false []) (gd u 9) (some [(gd u 0),(gd u 1),(gd u 2),(gd u 3),(gd u 4),(gd u 5),(gd u 6),(gd u 7),(gd u 8),(gd u 9)]))))))))))) (bd (jZ (.agg [g,h,i,j,k,l,m,n,o,q])) λv=>
 PV.guardFlat (gd v 0) (PV.guardFlat (gd v 1) (PV.guardFlat (gd v 2) (PV.guardFlat (gd v 3) (PV.guardFlat (gd v 4) (PV.guardFlat (gd v 5) (PV.guardFlat (gd v 6) (PV.guardOwn (.own 4 64 true [.leaf,.leaf,(.own 3 32 true []),(.own 3 32 true [])]) (gd v 7) (PV.guardOwn (.own 1 24 true [(.own 3 32 true [])]) (gd v 8) (PV.guardOwn (.own 1 16 false []) (gd v 9) (bd (eU d e (gd v 0) (gd v 1) (gd v 2) (gd v 3) (gd v 4) (gd v 5) (gd v 6) (.int .i64 0) (gd v 7) (gd v 8) (gd v 9)) λw=>
 bd (PV.at_ 4 true (gd w 11) (gd w 0)) λx=>bd (PV.cell x 0) λy=>bd (PV.at_ 3 true e y) λz=>bd (PV.cell z 2) λA=>bd (PV.at_ 4 true (gd w 11) (gd w 0)) λB=>bd (PV.cell B 1) λC=>bd (PV.at_ 2 true A C) λD=>bd (PV.whole 2 D) λE=>bd (PV.cell E 0) λF=>bd (PV.cell E 1) λG=>bd (PV.at_ 4 true (gd w 11) (gd w 0)) λH=>bd (PV.cell H 1) λI=>bd (PV.bin .add I (.int .i64 1)) λJ=>
 bd (PV.one J) λK=>bd (PV.setCell 4 (gd w 11) (gd w 0) 1 K) λL=>bd (uN F G (gd w 1) (gd w 2) (gd w 3) (gd w 4) (gd w 5) (gd w 6) (gd w 7) (gd w 8) (gd w 9) (gd w 10) L (gd w 12) (gd w 13)) λM=>bd (PV.bin .neq (gd M 9) (.int .i64 0)) λN=>PV.ite N (bd (jZ (.agg [g,h,i,j,k,l,m,n,o,q])) λO=>PV.guardFlat (gd O 0) (PV.guardFlat (gd O 1) (PV.guardFlat (gd O 2) (
 PV.guardFlat (gd O 3) (PV.guardFlat (gd O 4) (PV.guardFlat (gd O 5) (PV.guardFlat (gd O 6) (PV.guardOwn (.own 4 64 true [.leaf,.leaf,(.own 3 32 true []),(.own 3 32 true [])]) (gd O 7) (PV.guardOwn (.own 1 24 true [(.own 3 32 true [])]) (gd O 8) (PV.guardOwn (.own 1 16 false []) (gd O 9) (bd (PV.one (gd M 9)) λP=>bd (PV.bin .add (gd O 6) (.int .i64 1)) λQ=>bd (PV.one Q) λR=>
 some [(gd O 0),(.int .i64 2),P,(gd O 3),(gd O 4),(gd O 5),R,(gd O 7),(gd O 8),(gd O 9)]))))))))))) (bd (PV.bin .add (gd M 8) (.int .i64 1)) λS=>bd (PV.one S) λT=>some [(gd M 2),(gd M 3),(gd M 4),(gd M 5),(gd M 6),(gd M 7),T,(gd M 10),(gd M 11),(gd M 12)]))))))))))))):=bN _ _ _ _ (by kernel_rfl)
theorem oE : fP a=tX 32 [.nils,.p a] ⟨[],[],0,0,0⟩:=bN _ _ _ _ (by kernel_rfl)
theorem aCR : sS a=bd (PV.len a) λb=>lR a b (.int .i64 0) (.lst []):=bN _ _ _ _ (by kernel_rfl)
theorem qZ : lR a b c d=bd (PV.bin .lss c b) λe=>PV.ite e (bd (PV.at_ 4 true a c) λf=>bd (PV.whole 4 f) λg=>bd (PV.cell g 0) λh=>bd (PV.cell g 1) λi=>bd (PV.cell g 2) λj=>bd (PV.cell g 3) λk=>bd (cE j) λl=>PV.guardOwn (.own 3 32 true []) (gd l 0) (bd (cE k) λm=>
 PV.guardOwn (.own 3 32 true []) (gd m 0) (bd (PV.cat 4 64 true d (.lst [(.agg [h,i,(gd l 0),(gd m 0)])])) λn=>bd (PV.bin .add c (.int .i64 1)) λo=>lR a b o n))) (some [d]):=aW _ _ _ _ _ _ _ _ (by kernel_rfl)
theorem aEq : wZ a=bd (PV.len a) λb=>nR a b (.int .i64 0) (.lst []):=bN _ _ _ _ (by kernel_rfl)
theorem tB : nR a b c d=bd (PV.bin .lss c b) λe=>PV.ite e (bd (PV.at_ 1 true a c) λf=>bd (PV.whole 1 f) λg=>bd (PV.cell g 0) λh=>bd (cE h) λi=>PV.guardOwn (.own 3 32 true []) (gd i 0) (bd (PV.cat 1 24 true d (.lst [(.agg [(gd i 0)])])) λj=>bd (PV.bin .add c (.int .i64 1)) λk=>nR a b k j))
 (some [d]):=aW _ _ _ _ _ _ _ _ (by kernel_rfl)
theorem sF : jE a=bd (PV.isLst a) λb=>PV.nilT b (some [(.lst [])]) (bd (PV.cat 1 16 false (.lst []) a) λc=>some [c]):=bN _ _ _ _ (by kernel_rfl)
theorem aBU : gN a b c d e f g h i j=bd (aF b g h i) λk=>bd (PV.bin .add (.int .i64 1) (gd k 0)) λl=>fZ a l c d e f (gd k 1) (gd k 2) (gd k 3) j:=bN _ _ _ _ (by kernel_rfl)
theorem zC : fZ a b c d e f g h i j=bd (PV.bin .gtr b (.int .i64 0)) λk=>PV.ite k (bd (PV.len j) λl=>bd (PV.bin .lss l (.int .i64 70)) λm=>PV.ite m (bd (lG a c d e f g h i j) λn=>bd (PV.bin .sub b (.int .i64 1)) λo=>fZ a o (gd n 0) (gd n 1) (gd n 2) (gd n 3) (gd n 4) (gd n 5) (gd n 6) (gd n 7)) (some [c,d,e,f,g,h,i,j]))
 (some [c,d,e,f,g,h,i,j]):=aW _ _ _ _ _ _ _ _ (by kernel_rfl)
theorem aBV : rM a b c d=bd (PV.len b) λe=>bd (PV.bin .quo e (.int .i64 12)) λf=>bd (PV.bin .add (.int .i64 1) f) λg=>bd (PV.bin .gtr g a) λh=>PV.ite h (bd (PV.bin .add a (.int .i64 1)) λi=>bd (aF i b c d) λj=>some [(gd j 0),(gd j 1),(gd j 2),(gd j 3)]) (bd (PV.bin .add g (.int .i64 1)) λk=>bd (aF k b c d) λl=>
 some [(gd l 0),(gd l 1),(gd l 2),(gd l 3)]):=bN _ _ _ _ (by kernel_rfl)
theorem sG : aP a b c d e f g h i=bd (PV.bin .leq a (.int .i64 0)) λj=>PV.ite j (gS b c d e f g h i) (bd (PV.len i) λk=>bd (PV.bin .gtr k (.int .i64 90)) λl=>PV.ite l (gS b c d e f g h i) (bd (aF (.int .i64 16) f g h) λm=>bd (PV.bin .eql (gd m 0) (.int .i64 0)) λn=>PV.ite n (bd (aF (.int .i64 8) (gd m 1) (gd m 2) (gd m 3)) λo=>
 bd (PV.inb (.lst [(.int .i64 0),(.int .i64 1),(.int .i64 2),(.int .i64 10),(.int .i64 31623),(.int .i64 1000000000),(.int .i64 (-1)),(.int .i64 7)]) (gd o 0)) λq=>bd (PV.at_ 1 false (.lst [(.int .i64 0),(.int .i64 1),(.int .i64 2),(.int .i64 10),(.int .i64 31623),(.int .i64 1000000000),(.int .i64 (-1)),(.int .i64 7)]) (gd o 0)) λr=>bd (aJ (.int .i64 1) r b c d e (gd o 1) (gd o 2) (gd o 3) i) λs=>
 some [(gd s 0),(gd s 1),(gd s 2),(gd s 3),(gd s 4),(gd s 5),(gd s 6),(gd s 7)]) (bd (PV.bin .eql (gd m 0) (.int .i64 1)) λt=>PV.ite t (bd (aF (.int .i64 2) (gd m 1) (gd m 2) (gd m 3)) λu=>bd (aJ (.int .i64 2) (gd u 0) b c d e (gd u 1) (gd u 2) (gd u 3) i) λv=>some [(gd v 0),(gd v 1),(gd v 2),(gd v 3),(gd v 4),(gd v 5),(gd v 6),(gd v 7)]) (bd (PV.bin .eql (gd m 0) (.int .i64 2)) λw=>
 PV.ite w (bd (PV.bin .sub a (.int .i64 1)) λx=>bd (aP x b c d e (gd m 1) (gd m 2) (gd m 3) i) λy=>bd (PV.bin .sub a (.int .i64 1)) λz=>bd (aP z (gd y 0) (gd y 1) (gd y 2) (gd y 3) (gd y 4) (gd y 5) (gd y 6) (gd y 7)) λA=>bd (aF (.int .i64 6) (gd A 4) (gd A 5) (gd A 6)) λB=>bd (PV.inb (.lst [(.int .i64 11),(.int .i64 11),(.int .i64 12),(.int .i64 13),(.int .i64 14),(.int .i64 15)]) (gd B 0)) λC=>
 bd (PV.at_ 1 false (.lst [(.int .i64 11),(.int .i64 11),(.int .i64 12),(.int .i64 13),(.int .i64 14),(.int .i64 15)]) (gd B 0)) λD=>bd (aJ D (.int .i64 0) (gd A 0) (gd A 1) (gd A 2) (gd A 3) (gd B 1) (gd B 2) (gd B 3) (gd A 7)) λE=>some [(gd E 0),(gd E 1),(gd E 2),(gd E 3),(gd E 4),(gd E 5),(gd E 6),(gd E 7)]) (bd (PV.bin .eql (gd m 0) (.int .i64 3)) λF=>PV.ite F
 (bd (PV.bin .sub a (.int .i64 1)) λG=>bd (aP G b c d e (gd m 1) (gd m 2) (gd m 3) i) λH=>bd (PV.bin .sub a (.int .i64 1)) λI=>bd (aP I (gd H 0) (gd H 1) (gd H 2) (gd H 3) (gd H 4) (gd H 5) (gd H 6) (gd H 7)) λJ=>bd (aF (.int .i64 6) (gd J 4) (gd J 5) (gd J 6)) λK=>bd (PV.inb (.lst [(.int .i64 11),(.int .i64 11),(.int .i64 12),(.int .i64 13),(.int .i64 14),(.int .i64 15)]) (gd K 0)) λL=>
 bd (PV.at_ 1 false (.lst [(.int .i64 11),(.int .i64 11),(.int .i64 12),(.int .i64 13),(.int .i64 14),(.int .i64 15)]) (gd K 0)) λM=>bd (aJ M (.int .i64 0) (gd J 0) (gd J 1) (gd J 2) (gd J 3) (gd K 1) (gd K 2) (gd K 3) (gd J 7)) λN=>some [(gd N 0),(gd N 1),(gd N 2),(gd N 3),(gd N 4),(gd N 5),(gd N 6),(gd N 7)]) (bd (PV.bin .eql (gd m 0) (.int .i64 4)) λO=>PV.ite O
 (bd (PV.bin .sub a (.int .i64 1)) λP=>bd (aP P b c d e (gd m 1) (gd m 2) (gd m 3) i) λQ=>bd (PV.bin .sub a (.int .i64 1)) λR=>bd (aP R (gd Q 0) (gd Q 1) (gd Q 2) (gd Q 3) (gd Q 4) (gd Q 5) (gd Q 6) (gd Q 7)) λS=>bd (aF (.int .i64 6) (gd S 4) (gd S 5) (gd S 6)) λT=>bd (PV.inb (.lst [(.int .i64 11),(.int .i64 11),(.int .i64 12),(.int .i64 13),(.int .i64 14),(.int .i64 15)]) (gd T 0)) λU=>
 bd (PV.at_ 1 false (.lst [(.int .i64 11),(.int .i64 11),(.int .i64 12),(.int .i64 13),(.int .i64 14),(.int .i64 15)]) (gd T 0)) λV=>bd (aJ V (.int .i64 0) (gd S 0) (gd S 1) (gd S 2) (gd S 3) (gd T 1) (gd T 2) (gd T 3) (gd S 7)) λW=>some [(gd W 0),(gd W 1),(gd W 2),(gd W 3),(gd W 4),(gd W 5),(gd W 6),(gd W 7)]) (bd (PV.bin .eql (gd m 0) (.int .i64 5)) λX=>PV.ite X
 (bd (PV.bin .sub a (.int .i64 1)) λY=>bd (aP Y b c d e (gd m 1) (gd m 2) (gd m 3) i) λZ=>bd (PV.bin .sub a (.int .i64 1)) λaa=>bd (aP aa (gd Z 0) (gd Z 1) (gd Z 2) (gd Z 3) (gd Z 4) (gd Z 5) (gd Z 6) (gd Z 7)) λab=>bd (aF (.int .i64 6) (gd ab 4) (gd ab 5) (gd ab 6)) λac=>bd (PV.inb (.lst [(.int .i64 11),(.int .i64 11),(.int .i64 12),(.int .i64 13),(.int .i64 14),(.int .i64 15)]) (gd ac 0)) λad=>
 bd (PV.at_ 1 false (.lst [(.int .i64 11),(.int .i64 11),(.int .i64 12),(.int .i64 13),(.int .i64 14),(.int .i64 15)]) (gd ac 0)) λae=>bd (aJ ae (.int .i64 0) (gd ab 0) (gd ab 1) (gd ab 2) (gd ab 3) (gd ac 1) (gd ac 2) (gd ac 3) (gd ab 7)) λaf=>some [(gd af 0),(gd af 1),(gd af 2),(gd af 3),(gd af 4),(gd af 5),(gd af 6),(gd af 7)]) (bd (PV.bin .eql (gd m 0) (.int .i64 6)) λag=>
 PV.ite ag (bd (PV.bin .sub a (.int .i64 1)) λah=>bd (aP ah b c d e (gd m 1) (gd m 2) (gd m 3) i) λai=>bd (PV.bin .sub a (.int .i64 1)) λaj=>bd (aP aj (gd ai 0) (gd ai 1) (gd ai 2) (gd ai 3) (gd ai 4) (gd ai 5) (gd ai 6) (gd ai 7)) λak=>bd (aF (.int .i64 6) (gd ak 4) (gd ak 5) (gd ak 6)) λal=>bd (PV.inb (.lst [(.int .i64 11),(.int .i64 11),(.int .i64 12),(.int .i64 13),(.int .i64 14),(.int .i64 15)]) (gd al 0)) λam=>
 bd (PV.at_ 1 false (.lst [(.int .i64 11),(.int .i64 11),(.int .i64 12),(.int .i64 13),(.int .i64 14),(.int .i64 15)]) (gd al 0)) λan=>bd (aJ an (.int .i64 0) (gd ak 0) (gd ak 1) (gd ak 2) (gd ak 3) (gd al 1) (gd al 2) (gd al 3) (gd ak 7)) λao=>some [(gd ao 0),(gd ao 1),(gd ao 2),(gd ao 3),(gd ao 4),(gd ao 5),(gd ao 6),(gd ao 7)]) (bd (PV.bin .eql (gd m 0) (.int .i64 7)) λap=>
 PV.ite ap (bd (PV.bin .sub a (.int .i64 1)) λaq=>bd (aP aq b c d e (gd m 1) (gd m 2) (gd m 3) i) λar=>bd (aJ (.int .i64 16) (.int .i64 0) (gd ar 0) (gd ar 1) (gd ar 2) (gd ar 3) (gd ar 4) (gd ar 5) (gd ar 6) (gd ar 7)) λau=>some [(gd au 0),(gd au 1),(gd au 2),(gd au 3),(gd au 4),(gd au 5),(gd au 6),(gd au 7)]) (bd (PV.bin .eql (gd m 0) (.int .i64 8)) λav=>
 PV.ite av (bd (jF a b c d e (gd m 1) (gd m 2) (gd m 3) i) λaw=>some [(gd aw 0),(gd aw 1),(gd aw 2),(gd aw 3),(gd aw 4),(gd aw 5),(gd aw 6),(gd aw 7)]) (bd (PV.bin .eql (gd m 0) (.int .i64 9)) λax=>PV.ite ax (bd (jF a b c d e (gd m 1) (gd m 2) (gd m 3) i) λay=>some [(gd ay 0),(gd ay 1),(gd ay 2),(gd ay 3),(gd ay 4),(gd ay 5),(gd ay 6),(gd ay 7)])
 (bd (PV.bin .eql (gd m 0) (.int .i64 10)) λaz=>PV.ite az (bd (PV.bin .sub a (.int .i64 1)) λba=>bd (aP ba b c d e (gd m 1) (gd m 2) (gd m 3) i) λbb=>bd (aF (.int .i64 2) (gd bb 4) (gd bb 5) (gd bb 6)) λbc=>bd (aJ (.int .i64 21) (gd bc 0) (gd bb 0) (gd bb 1) (gd bb 2) (gd bb 3) (gd bc 1) (gd bc 2) (gd bc 3) (gd bb 7)) λbe=>some [(gd be 0),(gd be 1),(gd be 2),(gd be 3),(gd be 4),(gd be 5),(gd be 6),(gd be 7)])
 (bd (PV.bin .eql (gd m 0) (.int .i64 11)) λbf=>PV.ite bf (bd (PV.len b) λbg=>bd (PV.bin .gtr bg (.int .i64 0)) λbh=>PV.ite bh (bd (PV.len b) λbi=>bd (aF bi (gd m 1) (gd m 2) (gd m 3)) λbj=>dH a (gd bj 0) (.int .i64 0) b c d e (gd bj 1) (gd bj 2) (gd bj 3) i) (bd (PV.bin .sub a (.int .i64 1)) λbk=>bd (aP bk b c d e (gd m 1) (gd m 2) (gd m 3) i) λbl=>
 some [(gd bl 0),(gd bl 1),(gd bl 2),(gd bl 3),(gd bl 4),(gd bl 5),(gd bl 6),(gd bl 7)])) (bd (PV.bin .eql (gd m 0) (.int .i64 12)) λbm=>PV.ite bm (bd (PV.len b) λbn=>bd (PV.bin .gtr bn (.int .i64 0)) λbo=>PV.ite bo (bd (PV.len b) λbp=>bd (aF bp (gd m 1) (gd m 2) (gd m 3)) λbq=>dH a (gd bq 0) (.int .i64 0) b c d e (gd bq 1) (gd bq 2) (gd bq 3) i)
 (bd (PV.bin .sub a (.int .i64 1)) λbr=>bd (aP br b c d e (gd m 1) (gd m 2) (gd m 3) i) λbt=>some [(gd bt 0),(gd bt 1),(gd bt 2),(gd bt 3),(gd bt 4),(gd bt 5),(gd bt 6),(gd bt 7)])) (bd (PV.bin .eql (gd m 0) (.int .i64 13)) λbu=>PV.ite bu (bd (PV.len b) λbv=>bd (PV.bin .gtr bv (.int .i64 0)) λbw=>PV.ite bw (bd (PV.len b) λbx=>bd (aF bx (gd m 1) (gd m 2) (gd m 3)) λbz=>
 bd (lS (gd bz 0) b c d e (gd bz 1) (gd bz 2) (gd bz 3) i) λca=>bd (aJ (.int .i64 5) (gd ca 0) (gd ca 1) (gd ca 2) (gd ca 3) (gd ca 4) (gd ca 5) (gd ca 6) (gd ca 7) (gd ca 8)) λcb=>bd (cX (.int .i64 6) (gd cb 4) (gd cb 5) (gd cb 6)) λcc=>PV.ite (gd cc 0) (bd (PV.len (gd cb 7)) λcd=>bd (PV.bin .sub cd (.int .i64 1)) λce=>bd (PV.cut 2 true (gd cb 7) (.int .i64 0) ce) λcf=>
 bd (PV.cut 2 true (gd cb 7) (.int .i64 0) ce) λcg=>bd (aF (gd cb 2) (gd cc 1) (gd cc 2) (gd cc 3)) λch=>bd (aJ (.int .i64 6) (gd ch 0) (gd cb 0) (gd cb 1) (gd cb 2) (gd cb 3) (gd ch 1) (gd ch 2) (gd ch 3) cg) λci=>gF a (gd bz 0) (gd ci 0) (gd ci 1) (gd ci 2) (gd ci 3) (gd ci 4) (gd ci 5) (gd ci 6) (gd ci 7)) (gF a (gd bz 0) (gd cb 0) (gd cb 1) (gd cb 2) (gd cb 3) (gd cc 1) (gd cc 2) (gd cc 3) (gd cb 7)))
 (bd (PV.bin .sub a (.int .i64 1)) λcj=>bd (aP cj b c d e (gd m 1) (gd m 2) (gd m 3) i) λck=>some [(gd ck 0),(gd ck 1),(gd ck 2),(gd ck 3),(gd ck 4),(gd ck 5),(gd ck 6),(gd ck 7)])) (bd (PV.bin .eql (gd m 0) (.int .i64 14)) λcl=>PV.ite cl (bd (PV.bin .sub a (.int .i64 1)) λcm=>bd (aP cm b c d e (gd m 1) (gd m 2) (gd m 3) i) λcn=>bd (aJ (.int .i64 8) (.int .i64 0) (gd cn 0) (gd cn 1) (gd cn 2) (gd cn 3) (gd cn 4) (gd cn 5) (gd cn 6) (gd cn 7)) λco=>
 bd (aF (.int .i64 3) (gd co 4) (gd co 5) (gd co 6)) λcp=>bd (PV.inb (.lst [(.int .i64 11),(.int .i64 15),(.int .i64 13)]) (gd cp 0)) λcq=>bd (PV.at_ 1 false (.lst [(.int .i64 11),(.int .i64 15),(.int .i64 13)]) (gd cp 0)) λcr=>bd (aJ cr (.int .i64 0) (gd co 0) (gd co 1) (gd co 2) (gd co 3) (gd cp 1) (gd cp 2) (gd cp 3) (gd co 7)) λcs=>some [(gd cs 0),(gd cs 1),(gd cs 2),(gd cs 3),(gd cs 4),(gd cs 5),(gd cs 6),(gd cs 7)])
 (bd (aF d (gd m 1) (gd m 2) (gd m 3)) λct=>bd (aJ (.int .i64 6) (gd ct 0) b c d e (gd ct 1) (gd ct 2) (gd ct 3) i) λcu=>some [(gd cu 0),(gd cu 1),(gd cu 2),(gd cu 3),(gd cu 4),(gd cu 5),(gd cu 6),(gd cu 7)]))))))))))))))))):=bN _ _ _ _ (by kernel_rfl)
variable (a b c d e f g h i j k l m n o : PV)
theorem yA : gS a b c d e f g h=bd (aF (.int .i64 5) e f g) λi=>bd (PV.bin .eql (gd i 0) (.int .i64 0)) λj=>PV.ite j (bd (aF (.int .i64 9) (gd i 1) (gd i 2) (gd i 3)) λk=>bd (PV.bin .sub (gd k 0) (.int .i64 2)) λl=>bd (aJ (.int .i64 1) l a b c d (gd k 1) (gd k 2) (gd k 3) h) λm=>some [(gd m 0),(gd m 1),(gd m 2),(gd m 3),(gd m 4),(gd m 5),(gd m 6),(gd m 7)])
 (bd (PV.bin .eql (gd i 0) (.int .i64 1)) λn=>PV.ite n (bd (PV.bin .gtr b (.int .i64 0)) λo=>PV.ite o (bd (aF b (gd i 1) (gd i 2) (gd i 3)) λp=>bd (aJ (.int .i64 3) (gd p 0) a b c d (gd p 1) (gd p 2) (gd p 3) h) λq=>some [(gd q 0),(gd q 1),(gd q 2),(gd q 3),(gd q 4),(gd q 5),(gd q 6),(gd q 7)]) (bd (aJ (.int .i64 4) (.int .i64 0) a b c d (gd i 1) (gd i 2) (gd i 3) h) λr=>
 some [(gd r 0),(gd r 1),(gd r 2),(gd r 3),(gd r 4),(gd r 5),(gd r 6),(gd r 7)])) (bd (aF c (gd i 1) (gd i 2) (gd i 3)) λs=>bd (aJ (.int .i64 6) (gd s 0) a b c d (gd s 1) (gd s 2) (gd s 3) h) λt=>some [(gd t 0),(gd t 1),(gd t 2),(gd t 3),(gd t 4),(gd t 5),(gd t 6),(gd t 7)])):=aW _ _ _ _ _ _ _ _ (by kernel_rfl)
theorem xG : dH a b c d e f g h i j k=bd (PV.at_ 3 true d b) λl=>bd (PV.cell l 0) λm=>bd (PV.bin .lss c m) λn=>PV.ite n (bd (PV.bin .sub a (.int .i64 1)) λo=>bd (aP o d e f g h i j k) λp=>bd (PV.bin .add c (.int .i64 1)) λq=>dH a b q (gd p 0) (gd p 1) (gd p 2) (gd p 3) (gd p 4) (gd p 5) (gd p 6) (gd p 7))
 (bd (lS b d e f g h i j k) λr=>bd (aJ (.int .i64 24) (gd r 0) (gd r 1) (gd r 2) (gd r 3) (gd r 4) (gd r 5) (gd r 6) (gd r 7) (gd r 8)) λs=>some [(gd s 0),(gd s 1),(gd s 2),(gd s 3),(gd s 4),(gd s 5),(gd s 6),(gd s 7)]):=aW _ _ _ _ _ _ _ _ (by kernel_rfl)
theorem xH : gF a b c d e f g h i j=eX a b (.int .i64 0) c d e f g h i j:=aW _ _ _ _ _ _ _ _ (by kernel_rfl)
theorem xI : eX a b c d e f g h i j k=bd (PV.at_ 3 true d b) λl=>bd (PV.cell l 0) λm=>bd (PV.bin .lss c m) λn=>PV.ite n (bd (PV.bin .sub a (.int .i64 1)) λo=>bd (aP o d e f g h i j k) λp=>bd (PV.bin .add c (.int .i64 1)) λq=>eX a b q (gd p 0) (gd p 1) (gd p 2) (gd p 3) (gd p 4) (gd p 5) (gd p 6) (gd p 7))
 (bd (PV.at_ 3 true d b) λr=>bd (PV.cell r 0) λs=>bd (aJ (.int .i64 23) s d e f g h i j k) λt=>some [(gd t 0),(gd t 1),(gd t 2),(gd t 3),(gd t 4),(gd t 5),(gd t 6),(gd t 7)]):=aW _ _ _ _ _ _ _ _ (by kernel_rfl)
theorem aCS : aJ a b c d e f g h i j=bd (PV.one a) λk=>bd (PV.one b) λl=>bd (PV.cat 2 16 true j (.lst [(.agg [k,l])])) λm=>some [c,d,e,f,g,h,i,m]:=bN _ _ _ _ (by kernel_rfl)
theorem aAj : pF a=bd (PV.whole 2 a) λb=>bd (PV.cell b 0) λc=>bd (PV.cell b 1) λd=>bd (PV.cat 1 16 false (.lst []) c) λe=>jI (.int .i64 0) c d (.lst []) (.lst []) e (.lst []):=bN _ _ _ _ (by kernel_rfl)
theorem oS : jI a b c d e f g=bd (PV.len c) λh=>bd (PV.bin .lss a h) λi=>PV.ite i (bd (PV.at_ 3 true c a) λj=>bd (PV.whole 3 j) λk=>bd (PV.cell k 0) λl=>bd (PV.cell k 1) λm=>bd (PV.cell k 2) λn=>bd (PV.cat 2 16 true (.lst []) n) λo=>bd (PV.one l) λp=>bd (PV.one m) λq=>bd (PV.cat 3 40 true g (.lst [(.agg [p,q,o])])) λr=>
 bd (PV.bin .add a (.int .i64 1)) λs=>jI s b c d e f r) (some [f,g]):=aW _ _ _ _ _ _ _ _ (by kernel_rfl)
theorem aA6 : eU a b c d e f g h i j k l m=bd (PV.len k) λn=>bd (PV.bin .sub n (.int .i64 1)) λo=>bd (PV.inb k o) λp=>some [o,a,b,c,d,e,f,g,h,i,j,k,l,m]:=bN _ _ _ _ (by kernel_rfl)
theorem aDx : uN a b c d e f g h i j k l m n o=bd (eU c d e f g h i j k l m n o) λp=>bd (PV.bin .eql a (.int .i64 1)) λq=>PV.ite q (bd (gC b) λr=>bd (iU (hd r) (gd p 1) (gd p 2) (gd p 3) (gd p 4) (gd p 5) (gd p 6) (gd p 7) (gd p 8) (gd p 9) (gd p 10) (gd p 11) (gd p 12) (gd p 13)) λs=>some [(gd s 0),(gd s 1),(gd s 2),(gd s 3),(gd s 4),(gd s 5),(gd s 6),(gd s 7),(gd s 8),(gd s 9),(gd s 10),(gd s 11),(gd s 12)])
 (bd (PV.bin .eql a (.int .i64 2)) λt=>PV.ite t (bd (PV.bin .eql b (.int .i64 1)) λu=>bd (gQ u) λv=>bd (iU (hd v) (gd p 1) (gd p 2) (gd p 3) (gd p 4) (gd p 5) (gd p 6) (gd p 7) (gd p 8) (gd p 9) (gd p 10) (gd p 11) (gd p 12) (gd p 13)) λw=>some [(gd w 0),(gd w 1),(gd w 2),(gd w 3),(gd w 4),(gd w 5),(gd w 6),(gd w 7),(gd w 8),(gd w 9),(gd w 10),(gd w 11),(gd w 12)])
 (bd (PV.bin .eql a (.int .i64 3)) λx=>PV.ite x (bd (PV.at_ 1 false (gd p 1) b) λy=>bd (PV.one y) λz=>bd (bK (.int .i64 3) (.int .i64 0) z (gd p 1) (gd p 2) (gd p 3) (gd p 4) (gd p 5) (gd p 6) (gd p 7) (gd p 8) (gd p 9) (gd p 10) (gd p 11) (gd p 12) (gd p 13)) λA=>some [(gd A 0),(gd A 1),(gd A 2),(gd A 3),(gd A 4),(gd A 5),(gd A 6),(gd A 7),(gd A 8),(gd A 9),(gd A 10),(gd A 11),(gd A 12)])
 (bd (PV.bin .eql a (.int .i64 4)) λB=>PV.ite B (bd (bK (.int .i64 0) (.int .i64 0) (.str (bs [])) (gd p 1) (gd p 2) (gd p 3) (gd p 4) (gd p 5) (gd p 6) (gd p 7) (gd p 8) (gd p 9) (gd p 10) (gd p 11) (gd p 12) (gd p 13)) λC=>some [(gd C 0),(gd C 1),(gd C 2),(gd C 3),(gd C 4),(gd C 5),(gd C 6),(gd C 7),(gd C 8),(gd C 9),(gd C 10),(gd C 11),(gd C 12)]) (bd (PV.bin .eql a (.int .i64 5)) λD=>
 PV.ite D (bd (PV.one b) λE=>bd (bK (.int .i64 5) E (.str (bs [])) (gd p 1) (gd p 2) (gd p 3) (gd p 4) (gd p 5) (gd p 6) (gd p 7) (gd p 8) (gd p 9) (gd p 10) (gd p 11) (gd p 12) (gd p 13)) λF=>some [(gd F 0),(gd F 1),(gd F 2),(gd F 3),(gd F 4),(gd F 5),(gd F 6),(gd F 7),(gd F 8),(gd F 9),(gd F 10),(gd F 11),(gd F 12)]) (bd (PV.bin .eql a (.int .i64 6)) λG=>
 PV.ite G (bd (PV.at_ 4 true (gd p 11) (gd p 0)) λH=>bd (PV.at_ 4 true (gd p 11) (gd p 0)) λI=>bd (PV.cell I 2) λJ=>bd (PV.inb J b) λK=>bd (PV.at_ 4 true (gd p 11) (gd p 0)) λL=>bd (PV.cell L 2) λM=>bd (PV.at_ 3 true M b) λN=>bd (iU N (gd p 1) (gd p 2) (gd p 3) (gd p 4) (gd p 5) (gd p 6) (gd p 7) (gd p 8) (gd p 9) (gd p 10) (gd p 11) (gd p 12) (gd p 13)) λO=>
 some [(gd O 0),(gd O 1),(gd O 2),(gd O 3),(gd O 4),(gd O 5),(gd O 6),(gd O 7),(gd O 8),(gd O 9),(gd O 10),(gd O 11),(gd O 12)]) (bd (PV.bin .eql a (.int .i64 7)) λP=>PV.ite P (bd (bD (gd p 1) (gd p 2) (gd p 3) (gd p 4) (gd p 5) (gd p 6) (gd p 7) (gd p 8) (gd p 9) (gd p 10) (gd p 11) (gd p 12) (gd p 13)) λQ=>bd (PV.whole 3 (gd Q 0)) λR=>bd (PV.cell R 0) λS=>
 bd (PV.cell R 1) λT=>bd (PV.cell R 2) λU=>bd (PV.at_ 4 true (gd Q 11) (gd p 0)) λV=>bd (PV.at_ 4 true (gd Q 11) (gd p 0)) λW=>bd (PV.cell W 2) λX=>bd (PV.inb X b) λY=>bd (PV.at_ 4 true (gd Q 11) (gd p 0)) λZ=>bd (PV.cell Z 2) λaa=>bd (PV.at_ 4 true (gd Q 11) (gd p 0)) λab=>bd (PV.cell ab 2) λac=>bd (PV.setAt 3 true ac b (.agg [S,T,U])) λad=>bd (PV.at_ 4 true (gd Q 11) (gd p 0)) λae=>
 bd (PV.cell ae 2) λaf=>bd (PV.setCell 4 (gd Q 11) (gd p 0) 2 ad) λag=>some [(gd Q 1),(gd Q 2),(gd Q 3),(gd Q 4),(gd Q 5),(gd Q 6),(gd Q 7),(gd Q 8),(gd Q 9),(gd Q 10),ag,(gd Q 12),(gd Q 13)]) (bd (PV.bin .eql a (.int .i64 8)) λah=>PV.ite ah (bd (bD (gd p 1) (gd p 2) (gd p 3) (gd p 4) (gd p 5) (gd p 6) (gd p 7) (gd p 8) (gd p 9) (gd p 10) (gd p 11) (gd p 12) (gd p 13)) λai=>
 bd (PV.whole 3 (gd ai 0)) λaj=>bd (PV.cell aj 0) λak=>bd (PV.cell aj 1) λal=>bd (PV.cell aj 2) λam=>bd (bK ak al am (gd ai 1) (gd ai 2) (gd ai 3) (gd ai 4) (gd ai 5) (gd ai 6) (gd ai 7) (gd ai 8) (gd ai 9) (gd ai 10) (gd ai 11) (gd ai 12) (gd ai 13)) λan=>bd (bK ak al am (gd an 0) (gd an 1) (gd an 2) (gd an 3) (gd an 4) (gd an 5) (gd an 6) (gd an 7) (gd an 8) (gd an 9) (gd an 10) (gd an 11) (gd an 12)) λao=>
 some [(gd ao 0),(gd ao 1),(gd ao 2),(gd ao 3),(gd ao 4),(gd ao 5),(gd ao 6),(gd ao 7),(gd ao 8),(gd ao 9),(gd ao 10),(gd ao 11),(gd ao 12)]) (bd (PV.bin .eql a (.int .i64 9)) λap=>PV.ite ap (bd (bD (gd p 1) (gd p 2) (gd p 3) (gd p 4) (gd p 5) (gd p 6) (gd p 7) (gd p 8) (gd p 9) (gd p 10) (gd p 11) (gd p 12) (gd p 13)) λaq=>some [(gd aq 1),(gd aq 2),(gd aq 3),(gd aq 4),(gd aq 5),(gd aq 6),(gd aq 7),(gd aq 8),(gd aq 9),(gd aq 10),(gd aq 11),(gd aq 12),(gd aq 13)])
 (bd (PV.bin .eql a (.int .i64 10)) λar=>PV.ite ar (bd (bD (gd p 1) (gd p 2) (gd p 3) (gd p 4) (gd p 5) (gd p 6) (gd p 7) (gd p 8) (gd p 9) (gd p 10) (gd p 11) (gd p 12) (gd p 13)) λau=>bd (PV.whole 3 (gd au 0)) λav=>bd (PV.cell av 0) λaw=>bd (PV.cell av 1) λax=>bd (PV.cell av 2) λay=>bd (bD (gd au 1) (gd au 2) (gd au 3) (gd au 4) (gd au 5) (gd au 6) (gd au 7) (gd au 8) (gd au 9) (gd au 10) (gd au 11) (gd au 12) (gd au 13)) λaz=>
 bd (PV.whole 3 (gd az 0)) λba=>bd (PV.cell ba 0) λbb=>bd (PV.cell ba 1) λbc=>bd (PV.cell ba 2) λbe=>bd (bK aw ax ay (gd az 1) (gd az 2) (gd az 3) (gd az 4) (gd az 5) (gd az 6) (gd az 7) (gd az 8) (gd az 9) (gd az 10) (gd az 11) (gd az 12) (gd az 13)) λbf=>bd (bK bb bc be (gd bf 0) (gd bf 1) (gd bf 2) (gd bf 3) (gd bf 4) (gd bf 5) (gd bf 6) (gd bf 7) (gd bf 8) (gd bf 9) (gd bf 10) (gd bf 11) (gd bf 12)) λbg=>
 some [(gd bg 0),(gd bg 1),(gd bg 2),(gd bg 3),(gd bg 4),(gd bg 5),(gd bg 6),(gd bg 7),(gd bg 8),(gd bg 9),(gd bg 10),(gd bg 11),(gd bg 12)]) (bd (PV.bin .eql a (.int .i64 11)) λbh=>PV.ite bh (bd (bD (gd p 1) (gd p 2) (gd p 3) (gd p 4) (gd p 5) (gd p 6) (gd p 7) (gd p 8) (gd p 9) (gd p 10) (gd p 11) (gd p 12) (gd p 13)) λbi=>bd (PV.whole 3 (gd bi 0)) λbj=>bd (PV.cell bj 0) λbk=>
 bd (PV.cell bj 1) λbl=>bd (PV.cell bj 2) λbm=>bd (bD (gd bi 1) (gd bi 2) (gd bi 3) (gd bi 4) (gd bi 5) (gd bi 6) (gd bi 7) (gd bi 8) (gd bi 9) (gd bi 10) (gd bi 11) (gd bi 12) (gd bi 13)) λbn=>bd (PV.whole 3 (gd bn 0)) λbo=>bd (PV.cell bo 0) λbp=>bd (PV.cell bo 1) λbq=>bd (PV.cell bo 2) λbr=>bd (pG a (.agg [bp,bq,br]) (.agg [bk,bl,bm])) λbt=>
 bd (PV.comp (hd bt) 0) λbu=>bd (PV.comp (hd bt) 1) λbv=>bd (PV.whole 3 bu) λbw=>bd (PV.cell bw 0) λbx=>bd (PV.cell bw 1) λbz=>bd (PV.cell bw 2) λca=>bd (PV.one bv) λcb=>bd (bK bx bz ca (gd bn 1) (gd bn 2) (gd bn 3) (gd bn 4) (gd bn 5) (gd bn 6) (gd bn 7) (gd bn 8) (gd bn 9) cb (gd bn 11) (gd bn 12) (gd bn 13)) λcc=>some [(gd cc 0),(gd cc 1),(gd cc 2),(gd cc 3),(gd cc 4),(gd cc 5),(gd cc 6),(gd cc 7),(gd cc 8),(gd cc 9),(gd cc 10),(gd cc 11),(gd cc 12)])
 (bd (PV.bin .eql a (.int .i64 12)) λcd=>PV.ite cd (bd (bD (gd p 1) (gd p 2) (gd p 3) (gd p 4) (gd p 5) (gd p 6) (gd p 7) (gd p 8) (gd p 9) (gd p 10) (gd p 11) (gd p 12) (gd p 13)) λce=>bd (PV.whole 3 (gd ce 0)) λcf=>bd (PV.cell cf 0) λcg=>bd (PV.cell cf 1) λch=>bd (PV.cell cf 2) λci=>bd (bD (gd ce 1) (gd ce 2) (gd ce 3) (gd ce 4) (gd ce 5) (gd ce 6) (gd ce 7) (gd ce 8) (gd ce 9) (gd ce 10) (gd ce 11) (gd ce 12) (gd ce 13)) λcj=>
 bd (PV.whole 3 (gd cj 0)) λck=>bd (PV.cell ck 0) λcl=>bd (PV.cell ck 1) λcm=>bd (PV.cell ck 2) λcn=>bd (pG a (.agg [cl,cm,cn]) (.agg [cg,ch,ci])) λco=>bd (PV.comp (hd co) 0) λcp=>bd (PV.comp (hd co) 1) λcq=>bd (PV.whole 3 cp) λcr=>bd (PV.cell cr 0) λcs=>bd (PV.cell cr 1) λct=>bd (PV.cell cr 2) λcu=>bd (PV.one cq) λcv=>bd (bK cs ct cu (gd cj 1) (gd cj 2) (gd cj 3) (gd cj 4) (gd cj 5) (gd cj 6) (gd cj 7) (gd cj 8) (gd cj 9) cv (gd cj 11) (gd cj 12) (gd cj 13)) λcw=>
 some [(gd cw 0),(gd cw 1),(gd cw 2),(gd cw 3),(gd cw 4),(gd cw 5),(gd cw 6),(gd cw 7),(gd cw 8),(gd cw 9),(gd cw 10),(gd cw 11),(gd cw 12)]) (bd (PV.bin .eql a (.int .i64 13)) λcx=>PV.ite cx (bd (bD (gd p 1) (gd p 2) (gd p 3) (gd p 4) (gd p 5) (gd p 6) (gd p 7) (gd p 8) (gd p 9) (gd p 10) (gd p 11) (gd p 12) (gd p 13)) λcy=>bd (PV.whole 3 (gd cy 0)) λcz=>bd (PV.cell cz 0) λda=>
 bd (PV.cell cz 1) λdb=>bd (PV.cell cz 2) λdc=>bd (bD (gd cy 1) (gd cy 2) (gd cy 3) (gd cy 4) (gd cy 5) (gd cy 6) (gd cy 7) (gd cy 8) (gd cy 9) (gd cy 10) (gd cy 11) (gd cy 12) (gd cy 13)) λdd=>bd (PV.whole 3 (gd dd 0)) λde=>bd (PV.cell de 0) λdf=>bd (PV.cell de 1) λdg=>bd (PV.cell de 2) λdh=>bd (pG a (.agg [df,dg,dh]) (.agg [da,db,dc])) λdi=>
 bd (PV.comp (hd di) 0) λdj=>bd (PV.comp (hd di) 1) λdk=>bd (PV.whole 3 dj) λdl=>bd (PV.cell dl 0) λdm=>bd (PV.cell dl 1) λdn=>bd (PV.cell dl 2) λdp=>bd (PV.one dk) λdq=>bd (bK dm dn dp (gd dd 1) (gd dd 2) (gd dd 3) (gd dd 4) (gd dd 5) (gd dd 6) (gd dd 7) (gd dd 8) (gd dd 9) dq (gd dd 11) (gd dd 12) (gd dd 13)) λdr=>some [(gd dr 0),(gd dr 1),(gd dr 2),(gd dr 3),(gd dr 4),(gd dr 5),(gd dr 6),(gd dr 7),(gd dr 8),(gd dr 9),(gd dr 10),(gd dr 11),(gd dr 12)])
 (bd (PV.bin .eql a (.int .i64 14)) λds=>PV.ite ds (bd (bD (gd p 1) (gd p 2) (gd p 3) (gd p 4) (gd p 5) (gd p 6) (gd p 7) (gd p 8) (gd p 9) (gd p 10) (gd p 11) (gd p 12) (gd p 13)) λdt=>bd (PV.whole 3 (gd dt 0)) λdu=>bd (PV.cell du 0) λdv=>bd (PV.cell du 1) λdw=>bd (PV.cell du 2) λdx=>bd (bD (gd dt 1) (gd dt 2) (gd dt 3) (gd dt 4) (gd dt 5) (gd dt 6) (gd dt 7) (gd dt 8) (gd dt 9) (gd dt 10) (gd dt 11) (gd dt 12) (gd dt 13)) λdy=>
 bd (PV.whole 3 (gd dy 0)) λdz=>bd (PV.cell dz 0) λea=>bd (PV.cell dz 1) λeb=>bd (PV.cell dz 2) λec=>bd (pG a (.agg [ea,eb,ec]) (.agg [dv,dw,dx])) λed=>bd (PV.comp (hd ed) 0) λee=>bd (PV.comp (hd ed) 1) λef=>bd (PV.whole 3 ee) λeg=>bd (PV.cell eg 0) λeh=>bd (PV.cell eg 1) λei=>bd (PV.cell eg 2) λej=>bd (PV.one ef) λek=>bd (bK eh ei ej (gd dy 1) (gd dy 2) (gd dy 3) (gd dy 4) (gd dy 5) (gd dy 6) (gd dy 7) (gd dy 8) (gd dy 9) ek (gd dy 11) (gd dy 12) (gd dy 13)) λel=>
 some [(gd el 0),(gd el 1),(gd el 2),(gd el 3),(gd el 4),(gd el 5),(gd el 6),(gd el 7),(gd el 8),(gd el 9),(gd el 10),(gd el 11),(gd el 12)]) (bd (PV.bin .eql a (.int .i64 15)) λem=>PV.ite em (bd (bD (gd p 1) (gd p 2) (gd p 3) (gd p 4) (gd p 5) (gd p 6) (gd p 7) (gd p 8) (gd p 9) (gd p 10) (gd p 11) (gd p 12) (gd p 13)) λen=>bd (PV.whole 3 (gd en 0)) λeo=>bd (PV.cell eo 0) λep=>
 bd (PV.cell eo 1) λeq=>bd (PV.cell eo 2) λer=>bd (bD (gd en 1) (gd en 2) (gd en 3) (gd en 4) (gd en 5) (gd en 6) (gd en 7) (gd en 8) (gd en 9) (gd en 10) (gd en 11) (gd en 12) (gd en 13)) λes=>bd (PV.whole 3 (gd es 0)) λet=>bd (PV.cell et 0) λeu=>bd (PV.cell et 1) λev=>bd (PV.cell et 2) λew=>bd (pG a (.agg [eu,ev,ew]) (.agg [ep,eq,er])) λex=>
 bd (PV.comp (hd ex) 0) λey=>bd (PV.comp (hd ex) 1) λez=>bd (PV.whole 3 ey) λfa=>bd (PV.cell fa 0) λfb=>bd (PV.cell fa 1) λfc=>bd (PV.cell fa 2) λfd=>bd (PV.one ez) λfe=>bd (bK fb fc fd (gd es 1) (gd es 2) (gd es 3) (gd es 4) (gd es 5) (gd es 6) (gd es 7) (gd es 8) (gd es 9) fe (gd es 11) (gd es 12) (gd es 13)) λff=>some [(gd ff 0),(gd ff 1),(gd ff 2),(gd ff 3),(gd ff 4),(gd ff 5),(gd ff 6),(gd ff 7),(gd ff 8),(gd ff 9),(gd ff 10),(gd ff 11),(gd ff 12)])
 (bd (PV.bin .eql a (.int .i64 16)) λfg=>PV.ite fg (bd (bD (gd p 1) (gd p 2) (gd p 3) (gd p 4) (gd p 5) (gd p 6) (gd p 7) (gd p 8) (gd p 9) (gd p 10) (gd p 11) (gd p 12) (gd p 13)) λfh=>bd (aCz (gd fh 0)) λfi=>bd (PV.comp (hd fi) 0) λfj=>bd (PV.comp (hd fi) 1) λfk=>bd (PV.whole 3 fj) λfl=>bd (PV.cell fl 0) λfm=>bd (PV.cell fl 1) λfo=>bd (PV.cell fl 2) λfp=>
 bd (PV.one fk) λfq=>bd (bK fm fo fp (gd fh 1) (gd fh 2) (gd fh 3) (gd fh 4) (gd fh 5) (gd fh 6) (gd fh 7) (gd fh 8) (gd fh 9) fq (gd fh 11) (gd fh 12) (gd fh 13)) λfr=>some [(gd fr 0),(gd fr 1),(gd fr 2),(gd fr 3),(gd fr 4),(gd fr 5),(gd fr 6),(gd fr 7),(gd fr 8),(gd fr 9),(gd fr 10),(gd fr 11),(gd fr 12)]) (bd (PV.bin .eql a (.int .i64 17)) λfs=>PV.ite fs
 (bd (PV.one b) λft=>bd (PV.setCell 4 (gd p 11) (gd p 0) 1 ft) λfu=>some [(gd p 1),(gd p 2),(gd p 3),(gd p 4),(gd p 5),(gd p 6),(gd p 7),(gd p 8),(gd p 9),(gd p 10),fu,(gd p 12),(gd p 13)]) (bd (PV.bin .eql a (.int .i64 18)) λfv=>PV.ite fv (bd (bD (gd p 1) (gd p 2) (gd p 3) (gd p 4) (gd p 5) (gd p 6) (gd p 7) (gd p 8) (gd p 9) (gd p 10) (gd p 11) (gd p 12) (gd p 13)) λfw=>
 bd (PV.whole 3 (gd fw 0)) λfx=>bd (PV.cell fx 0) λfy=>bd (PV.cell fx 1) λfz=>bd (PV.cell fx 2) λga=>bd (PV.bin .neq fy (.int .i64 2)) λgb=>PV.ite gb (some [(gd fw 1),(gd fw 2),(gd fw 3),(gd fw 4),(gd fw 5),(gd fw 6),(gd fw 7),(gd fw 8),(gd fw 9),(.int .i64 1),(gd fw 11),(gd fw 12),(gd fw 13)]) (bd (PV.bin .eql fz (.int .i64 1)) λgc=>bd (PV.bin .eql a (.int .i64 18)) λge=>
 bd (PV.beq .eql gc ge) λgf=>PV.ite gf (bd (PV.one b) λgg=>bd (PV.setCell 4 (gd fw 11) (gd p 0) 1 gg) λgh=>some [(gd fw 1),(gd fw 2),(gd fw 3),(gd fw 4),(gd fw 5),(gd fw 6),(gd fw 7),(gd fw 8),(gd fw 9),(gd fw 10),gh,(gd fw 12),(gd fw 13)]) (some [(gd fw 1),(gd fw 2),(gd fw 3),(gd fw 4),(gd fw 5),(gd fw 6),(gd fw 7),(gd fw 8),(gd fw 9),(gd fw 10),(gd fw 11),(gd fw 12),(gd fw 13)])))
 (bd (PV.bin .eql a (.int .i64 19)) λgi=>PV.ite gi (bd (bD (gd p 1) (gd p 2) (gd p 3) (gd p 4) (gd p 5) (gd p 6) (gd p 7) (gd p 8) (gd p 9) (gd p 10) (gd p 11) (gd p 12) (gd p 13)) λgj=>bd (PV.whole 3 (gd gj 0)) λgk=>bd (PV.cell gk 0) λgl=>bd (PV.cell gk 1) λgm=>bd (PV.cell gk 2) λgn=>bd (PV.bin .neq gl (.int .i64 2)) λgo=>PV.ite go (some [(gd gj 1),(gd gj 2),(gd gj 3),(gd gj 4),(gd gj 5),(gd gj 6),(gd gj 7),(gd gj 8),(gd gj 9),(.int .i64 1),(gd gj 11),(gd gj 12),(gd gj 13)])
 (bd (PV.bin .eql gm (.int .i64 1)) λgp=>bd (PV.bin .eql a (.int .i64 18)) λgq=>bd (PV.beq .eql gp gq) λgr=>PV.ite gr (bd (PV.one b) λgs=>bd (PV.setCell 4 (gd gj 11) (gd p 0) 1 gs) λgt=>some [(gd gj 1),(gd gj 2),(gd gj 3),(gd gj 4),(gd gj 5),(gd gj 6),(gd gj 7),(gd gj 8),(gd gj 9),(gd gj 10),gt,(gd gj 12),(gd gj 13)]) (some [(gd gj 1),(gd gj 2),(gd gj 3),(gd gj 4),(gd gj 5),(gd gj 6),(gd gj 7),(gd gj 8),(gd gj 9),(gd gj 10),(gd gj 11),(gd gj 12),(gd gj 13)])))
 (bd (PV.bin .eql a (.int .i64 20)) λgu=>PV.ite gu (bd (PV.bin .eql (gd p 3) (.int .i64 120)) λgv=>PV.ite gv (some [(gd p 1),(gd p 2),(gd p 3),(gd p 4),(gd p 5),(gd p 6),(gd p 7),(gd p 8),(gd p 9),(.int .i64 7),(gd p 11),(gd p 12),(gd p 13)]) (bd (PV.len (gd p 12)) λgw=>bd (PV.one gw) λgx=>bd (bK (.int .i64 4) gx (.str (bs [])) (gd p 1) (gd p 2) (gd p 3) (gd p 4) (gd p 5) (gd p 6) (gd p 7) (gd p 8) (gd p 9) (gd p 10) (gd p 11) (gd p 12) (gd p 13)) λgy=>
 bd (PV.zeros 32 (.agg [(.int .i64 0),(.int .i64 0),(.str (bs []))]) b) λgz=>bd (PV.bin .leq b b) λha=>PV.ite ha (bd (PV.zeros 32 (.agg [(.int .i64 0),(.int .i64 0),(.str (bs []))]) b) λhb=>bd (PV.cat 1 24 true (gd gy 11) (.lst [(.agg [hb])])) λhc=>bd (PV.bin .add (gd gy 2) (.int .i64 1)) λhe=>bd (PV.one he) λhf=>some [(gd gy 0),(gd gy 1),hf,(gd gy 3),(gd gy 4),(gd gy 5),(gd gy 6),(gd gy 7),(gd gy 8),(gd gy 9),(gd gy 10),hc,(gd gy 12)])
 (none))) (bd (PV.bin .eql a (.int .i64 21)) λhg=>PV.ite hg (bd (bD (gd p 1) (gd p 2) (gd p 3) (gd p 4) (gd p 5) (gd p 6) (gd p 7) (gd p 8) (gd p 9) (gd p 10) (gd p 11) (gd p 12) (gd p 13)) λhh=>bd (PV.whole 3 (gd hh 0)) λhi=>bd (PV.cell hi 0) λhj=>bd (PV.cell hi 1) λhk=>bd (PV.cell hi 2) λhl=>bd (PV.bin .neq hj (.int .i64 4)) λhm=>PV.ite hm (some [(gd hh 1),(gd hh 2),(gd hh 3),(gd hh 4),(gd hh 5),(gd hh 6),(gd hh 7),(gd hh 8),(gd hh 9),(.int .i64 1),(gd hh 11),(gd hh 12),(gd hh 13)])
 (bd (PV.inb (gd hh 12) hk) λhn=>bd (PV.at_ 1 true (gd hh 12) hk) λho=>bd (PV.at_ 1 true (gd hh 12) hk) λhp=>bd (PV.cell hp 0) λhq=>bd (PV.len hq) λhr=>bd (PV.bin .geq b hr) λhs=>PV.ite hs (some [(gd hh 1),(gd hh 2),(gd hh 3),(gd hh 4),(gd hh 5),(gd hh 6),(gd hh 7),(gd hh 8),(gd hh 9),(.int .i64 4),(gd hh 11),(gd hh 12),(gd hh 13)]) (bd (PV.inb (gd hh 12) hk) λht=>
 bd (PV.at_ 1 true (gd hh 12) hk) λhu=>bd (PV.at_ 1 true (gd hh 12) hk) λhv=>bd (PV.cell hv 0) λhw=>bd (PV.inb hw b) λhx=>bd (PV.at_ 1 true (gd hh 12) hk) λhy=>bd (PV.cell hy 0) λhz=>bd (PV.at_ 3 true hz b) λia=>bd (iU ia (gd hh 1) (gd hh 2) (gd hh 3) (gd hh 4) (gd hh 5) (gd hh 6) (gd hh 7) (gd hh 8) (gd hh 9) (gd hh 10) (gd hh 11) (gd hh 12) (gd hh 13)) λib=>
 some [(gd ib 0),(gd ib 1),(gd ib 2),(gd ib 3),(gd ib 4),(gd ib 5),(gd ib 6),(gd ib 7),(gd ib 8),(gd ib 9),(gd ib 10),(gd ib 11),(gd ib 12)]))) (bd (PV.bin .eql a (.int .i64 22)) λic=>PV.ite ic (bd (bD (gd p 1) (gd p 2) (gd p 3) (gd p 4) (gd p 5) (gd p 6) (gd p 7) (gd p 8) (gd p 9) (gd p 10) (gd p 11) (gd p 12) (gd p 13)) λid=>bd (PV.whole 3 (gd id 0)) λie=>bd (PV.cell ie 0) λig=>
 bd (PV.cell ie 1) λih=>bd (PV.cell ie 2) λii=>bd (bD (gd id 1) (gd id 2) (gd id 3) (gd id 4) (gd id 5) (gd id 6) (gd id 7) (gd id 8) (gd id 9) (gd id 10) (gd id 11) (gd id 12) (gd id 13)) λij=>bd (PV.whole 3 (gd ij 0)) λik=>bd (PV.cell ik 0) λil=>bd (PV.cell ik 1) λim=>bd (PV.cell ik 2) λio=>bd (PV.bin .neq il (.int .i64 4)) λip=>PV.ite ip (some [(gd ij 1),(gd ij 2),(gd ij 3),(gd ij 4),(gd ij 5),(gd ij 6),(gd ij 7),(gd ij 8),(gd ij 9),(.int .i64 1),(gd ij 11),(gd ij 12),(gd ij 13)])
 (bd (PV.inb (gd ij 12) im) λiq=>bd (PV.at_ 1 true (gd ij 12) im) λir=>bd (PV.at_ 1 true (gd ij 12) im) λit=>bd (PV.cell it 0) λiu=>bd (PV.len iu) λiv=>bd (PV.bin .geq b iv) λiw=>PV.ite iw (some [(gd ij 1),(gd ij 2),(gd ij 3),(gd ij 4),(gd ij 5),(gd ij 6),(gd ij 7),(gd ij 8),(gd ij 9),(.int .i64 4),(gd ij 11),(gd ij 12),(gd ij 13)]) (bd (PV.inb (gd ij 12) im) λix=>
 bd (PV.at_ 1 true (gd ij 12) im) λiy=>bd (PV.at_ 1 true (gd ij 12) im) λiz=>bd (PV.cell iz 0) λja=>bd (PV.inb ja b) λjb=>bd (PV.at_ 1 true (gd ij 12) im) λjc=>bd (PV.cell jc 0) λjd=>bd (PV.at_ 1 true (gd ij 12) im) λje=>bd (PV.cell je 0) λjf=>bd (PV.setAt 3 true jf b (.agg [ig,ih,ii])) λjg=>bd (PV.at_ 1 true (gd ij 12) im) λjh=>bd (PV.cell jh 0) λji=>
 bd (PV.setCell 1 (gd ij 12) im 0 jg) λjj=>some [(gd ij 1),(gd ij 2),(gd ij 3),(gd ij 4),(gd ij 5),(gd ij 6),(gd ij 7),(gd ij 8),(gd ij 9),(gd ij 10),(gd ij 11),jj,(gd ij 13)]))) (bd (PV.bin .eql a (.int .i64 23)) λjk=>PV.ite jk (bd (PV.at_ 4 true (gd p 11) (gd p 0)) λjl=>bd (PV.at_ 4 true (gd p 11) (gd p 0)) λjm=>bd (PV.at_ 4 true (gd p 11) (gd p 0)) λjn=>bd (PV.cell jn 3) λjo=>
 bd (PV.len jo) λjp=>bd (PV.bin .sub jp (.int .i64 1)) λjq=>bd (PV.bin .sub jq b) λjr=>bd (PV.at_ 4 true (gd p 11) (gd p 0)) λjs=>bd (PV.cell js 3) λjt=>bd (PV.inb jt jr) λju=>bd (PV.at_ 4 true (gd p 11) (gd p 0)) λjv=>bd (PV.cell jv 3) λjw=>bd (PV.at_ 3 true jw jr) λjx=>bd (PV.whole 3 jx) λjy=>bd (PV.cell jy 0) λjz=>bd (PV.cell jy 1) λka=>
 bd (PV.cell jy 2) λkb=>bd (PV.bin .neq jz (.int .i64 5)) λkc=>PV.ite kc (some [(gd p 1),(gd p 2),(gd p 3),(gd p 4),(gd p 5),(gd p 6),(gd p 7),(gd p 8),(gd p 9),(.int .i64 1),(gd p 11),(gd p 12),(gd p 13)]) (bd (PV.at_ 3 true (gd p 2) ka) λkd=>bd (PV.cell kd 0) λke=>bd (PV.bin .neq ke b) λkf=>PV.ite kf (some [(gd p 1),(gd p 2),(gd p 3),(gd p 4),(gd p 5),(gd p 6),(gd p 7),(gd p 8),(gd p 9),(.int .i64 5),(gd p 11),(gd p 12),(gd p 13)])
 (bd (nS ka (.bool true) (gd p 1) (gd p 2) (gd p 3) (gd p 4) (gd p 5) (gd p 6) (gd p 7) (gd p 8) (gd p 9) (gd p 10) (gd p 11) (gd p 12) (gd p 13)) λkg=>some [(gd kg 0),(gd kg 1),(gd kg 2),(gd kg 3),(gd kg 4),(gd kg 5),(gd kg 6),(gd kg 7),(gd kg 8),(gd kg 9),(gd kg 10),(gd kg 11),(gd kg 12)]))) (bd (PV.bin .eql a (.int .i64 24)) λkh=>PV.ite kh (bd (nS b (.bool false) (gd p 1) (gd p 2) (gd p 3) (gd p 4) (gd p 5) (gd p 6) (gd p 7) (gd p 8) (gd p 9) (gd p 10) (gd p 11) (gd p 12) (gd p 13)) λki=>
 some [(gd ki 0),(gd ki 1),(gd ki 2),(gd ki 3),(gd ki 4),(gd ki 5),(gd ki 6),(gd ki 7),(gd ki 8),(gd ki 9),(gd ki 10),(gd ki 11),(gd ki 12)]) (bd (PV.bin .eql a (.int .i64 25)) λkj=>PV.ite kj (bd (bD (gd p 1) (gd p 2) (gd p 3) (gd p 4) (gd p 5) (gd p 6) (gd p 7) (gd p 8) (gd p 9) (gd p 10) (gd p 11) (gd p 12) (gd p 13)) λkk=>bd (PV.whole 3 (gd kk 0)) λkl=>bd (PV.cell kl 0) λkm=>
 bd (PV.cell kl 1) λkn=>bd (PV.cell kl 2) λko=>bd (PV.len (gd kk 11)) λkp=>bd (PV.bin .sub kp (.int .i64 1)) λkq=>bd (PV.cut 4 true (gd kk 11) (.int .i64 0) kq) λkr=>bd (PV.cut 4 true (gd kk 11) (.int .i64 0) kq) λks=>bd (PV.len ks) λkt=>bd (PV.bin .eql kt (.int .i64 0)) λku=>PV.ite ku (some [(gd kk 1),(gd kk 2),(gd kk 3),(.int .i64 1),(gd kk 5),km,kn,ko,(gd kk 9),(gd kk 10),ks,(gd kk 12),(gd kk 13)])
 (bd (bK km kn ko (gd kk 1) (gd kk 2) (gd kk 3) (gd kk 4) (gd kk 5) (gd kk 6) (gd kk 7) (gd kk 8) (gd kk 9) (gd kk 10) ks (gd kk 12) (gd kk 13)) λkv=>some [(gd kv 0),(gd kv 1),(gd kv 2),(gd kv 3),(gd kv 4),(gd kv 5),(gd kv 6),(gd kv 7),(gd kv 8),(gd kv 9),(gd kv 10),(gd kv 11),(gd kv 12)])) (bd (PV.bin .eql a (.int .i64 26)) λkw=>PV.ite kw (bd (bD (gd p 1) (gd p 2) (gd p 3) (gd p 4) (gd p 5) (gd p 6) (gd p 7) (gd p 8) (gd p 9) (gd p 10) (gd p 11) (gd p 12) (gd p 13)) λkx=>
 bd (PV.whole 3 (gd kx 0)) λky=>bd (PV.cell ky 0) λkz=>bd (PV.cell ky 1) λla=>bd (PV.cell ky 2) λlb=>bd (PV.len (gd kx 13)) λlc=>bd (PV.bin .eql lc (.int .i64 200)) λld=>PV.ite ld (some [(gd kx 1),(gd kx 2),(gd kx 3),(gd kx 4),(gd kx 5),(gd kx 6),(gd kx 7),(gd kx 8),(gd kx 9),(.int .i64 8),(gd kx 11),(gd kx 12),(gd kx 13)]) (bd (uO (.agg [kz,la,lb]) (gd kx 12)) λle=>
 PV.guardFlat (hd le) (bd (PV.cat 1 16 false (.lst []) (.lst [(hd le)])) λlf=>bd (PV.cat 1 16 false (gd kx 13) lf) λlg=>some [(gd kx 1),(gd kx 2),(gd kx 3),(gd kx 4),(gd kx 5),(gd kx 6),(gd kx 7),(gd kx 8),(gd kx 9),(gd kx 10),(gd kx 11),(gd kx 12),lg]))) (some [(gd p 1),(gd p 2),(gd p 3),(gd p 4),(gd p 5),(gd p 6),(gd p 7),(gd p 8),(gd p 9),(gd p 10),(gd p 11),(gd p 12),(gd p 13)])))))))))))))))))))))))))):=bN _ _ _ _ (by kernel_rfl)
variable (a b c : PV)
theorem aHJ : pG a b c=bd (PV.whole 3 b) λd=>bd (PV.cell d 0) λe=>bd (PV.cell d 1) λf=>bd (PV.cell d 2) λg=>bd (PV.whole 3 c) λh=>bd (PV.cell h 0) λi=>bd (PV.cell h 1) λj=>bd (PV.cell h 2) λk=>bd (PV.bin .eql a (.int .i64 11)) λl=>PV.ite l (bd (aCA (.agg [e,f,g]) (.agg [i,j,k])) λm=>bd (PV.comp (hd m) 0) λn=>bd (PV.comp (hd m) 1) λo=>
 bd (PV.whole 3 n) λp=>bd (PV.cell p 0) λq=>bd (PV.cell p 1) λr=>bd (PV.cell p 2) λs=>some [(.tup [(.agg [q,r,s]),o])]) (bd (PV.bin .eql a (.int .i64 12)) λt=>PV.ite t (bd (aCB (.agg [e,f,g]) (.agg [i,j,k])) λu=>bd (PV.comp (hd u) 0) λv=>bd (PV.comp (hd u) 1) λw=>bd (PV.whole 3 v) λx=>bd (PV.cell x 0) λy=>bd (PV.cell x 1) λz=>bd (PV.cell x 2) λA=>
 some [(.tup [(.agg [y,z,A]),w])]) (bd (PV.bin .eql a (.int .i64 13)) λB=>PV.ite B (bd (aCC (.agg [e,f,g]) (.agg [i,j,k])) λC=>bd (PV.comp (hd C) 0) λD=>bd (PV.comp (hd C) 1) λE=>bd (PV.whole 3 D) λF=>bd (PV.cell F 0) λG=>bd (PV.cell F 1) λH=>bd (PV.cell F 2) λI=>some [(.tup [(.agg [G,H,I]),E])]) (bd (PV.bin .eql a (.int .i64 14)) λJ=>PV.ite J
 (bd (aAU (.agg [e,f,g]) (.agg [i,j,k])) λK=>bd (PV.comp (hd K) 0) λL=>bd (PV.comp (hd K) 1) λM=>bd (PV.whole 3 L) λN=>bd (PV.cell N 0) λO=>bd (PV.cell N 1) λP=>bd (PV.cell N 2) λQ=>some [(.tup [(.agg [O,P,Q]),M])]) (bd (aAX (.agg [e,f,g]) (.agg [i,j,k])) λR=>bd (PV.whole 3 (hd R)) λS=>bd (PV.cell S 0) λT=>bd (PV.cell S 1) λU=>
 bd (PV.cell S 2) λV=>some [(.tup [(.agg [T,U,V]),(.int .i64 0)])])))):=aY _ _ _ (by kernel_rfl)
theorem aHK : aCz a=bd (PV.whole 3 a) λb=>bd (PV.cell b 0) λc=>bd (PV.cell b 1) λd=>bd (PV.cell b 2) λe=>bd (PV.bin .neq c (.int .i64 2)) λf=>PV.ite f (some [(.tup [(.agg [(.int .i64 0),(.int .i64 0),(.str (bs []))]),(.int .i64 1)])]) (bd (PV.bin .neq d (.int .i64 1)) λg=>bd (gQ g) λh=>bd (PV.whole 3 (hd h)) λi=>bd (PV.cell i 0) λj=>
 bd (PV.cell i 1) λk=>bd (PV.cell i 2) λl=>some [(.tup [(.agg [j,k,l]),(.int .i64 0)])]):=aY _ _ _ (by kernel_rfl)
theorem aDy : uO a b=bd (PV.whole 3 a) λc=>bd (PV.cell c 0) λd=>bd (PV.cell c 1) λe=>bd (PV.cell c 2) λf=>bd (PV.bin .eql d (.int .i64 0)) λg=>PV.ite g (some [(.str (bs [110,105,108]))]) (bd (PV.bin .eql d (.int .i64 1)) λh=>PV.ite h (bd (fB e) λi=>some [(hd i)]) (bd (PV.bin .eql d (.int .i64 2)) λj=>PV.ite j (bd (PV.bin .eql e (.int .i64 1)) λk=>
 PV.ite k (some [(.str (bs [116,114,117,101]))]) (some [(.str (bs [102,97,108,115,101]))])) (bd (PV.bin .eql d (.int .i64 3)) λl=>PV.ite l (some [f]) (bd (PV.bin .eql d (.int .i64 5)) λm=>PV.ite m (bd (fB e) λn=>bd (PV.bin .add (.str (bs [102,117,110])) (hd n)) λo=>some [o]) (bd (PV.bin .eql d (.int .i64 4)) λp=>PV.ite p (bd (PV.len b) λq=>bd (PV.bin .sub q (.int .i64 1)) λr=>
 bd (aM e (.int .i64 0) r) λs=>PV.ite (hd s) (bd (PV.at_ 1 true b e) λt=>bd (PV.cell t 0) λu=>bd (PV.len u) λv=>bd (fB v) λw=>bd (PV.bin .add (.str (bs [123])) (hd w)) λx=>bd (PV.bin .add x (.str (bs [125]))) λy=>some [y]) (some [(.str (bs []))])) (some [(.str (bs []))])))))):=aY _ _ _ (by kernel_rfl)
variable (a b c d e f g h i j k l m n o p q : PV)
theorem aHL : aCA a b=bd (PV.whole 3 a) λc=>bd (PV.cell c 0) λd=>bd (PV.cell c 1) λe=>bd (PV.cell c 2) λf=>bd (PV.whole 3 b) λg=>bd (PV.cell g 0) λh=>bd (PV.cell g 1) λi=>bd (PV.cell g 2) λj=>bd (PV.bin .eql d (.int .i64 3)) λk=>PV.ite k (bd (PV.bin .eql h (.int .i64 3)) λl=>PV.ite l (aCc d e f h i j (.int .i64 0) (.int .i64 0) (.str (bs [])))
 (bd (jQ (.int .i64 11) (.agg [d,e,f]) (.agg [h,i,j])) λm=>bd (PV.comp (hd m) 0) λn=>bd (PV.comp (hd m) 1) λo=>bd (PV.whole 3 n) λp=>bd (PV.cell p 0) λq=>bd (PV.cell p 1) λr=>bd (PV.cell p 2) λs=>some [(.tup [(.agg [q,r,s]),o])])) (bd (jQ (.int .i64 11) (.agg [d,e,f]) (.agg [h,i,j])) λt=>bd (PV.comp (hd t) 0) λu=>bd (PV.comp (hd t) 1) λv=>
 bd (PV.whole 3 u) λw=>bd (PV.cell w 0) λx=>bd (PV.cell w 1) λy=>bd (PV.cell w 2) λz=>some [(.tup [(.agg [x,y,z]),v])]):=aY _ _ _ (by kernel_rfl)
theorem aEr : aCc a b c d e f g h i=bd (PV.slen c) λj=>bd (PV.slen f) λk=>bd (PV.bin .sub (.int .i64 60) k) λl=>bd (PV.bin .gtr j l) λm=>PV.ite m (some [(.tup [(.agg [(.int .i64 0),(.int .i64 0),(.str (bs []))]),(.int .i64 3)])]) (bd (PV.bin .add c f) λn=>bd (PV.one n) λo=>some [(.tup [(.agg [(.int .i64 3),(.int .i64 0),o]),(.int .i64 0)])]):=aW _ _ _ _ _ _ _ _ (by kernel_rfl)
theorem aHM : aCB a b=bd (PV.whole 3 a) λc=>bd (PV.cell c 0) λd=>bd (PV.cell c 1) λe=>bd (PV.cell c 2) λf=>bd (PV.whole 3 b) λg=>bd (PV.cell g 0) λh=>bd (PV.cell g 1) λi=>bd (PV.cell g 2) λj=>bd (jQ (.int .i64 12) (.agg [d,e,f]) (.agg [h,i,j])) λk=>bd (PV.comp (hd k) 0) λl=>bd (PV.comp (hd k) 1) λm=>bd (PV.whole 3 l) λn=>
 bd (PV.cell n 0) λo=>bd (PV.cell n 1) λp=>bd (PV.cell n 2) λq=>some [(.tup [(.agg [o,p,q]),m])]:=aY _ _ _ (by kernel_rfl)
theorem aHN : aCC a b=bd (PV.whole 3 a) λc=>bd (PV.cell c 0) λd=>bd (PV.cell c 1) λe=>bd (PV.cell c 2) λf=>bd (PV.whole 3 b) λg=>bd (PV.cell g 0) λh=>bd (PV.cell g 1) λi=>bd (PV.cell g 2) λj=>bd (jQ (.int .i64 13) (.agg [d,e,f]) (.agg [h,i,j])) λk=>bd (PV.comp (hd k) 0) λl=>bd (PV.comp (hd k) 1) λm=>bd (PV.whole 3 l) λn=>
 bd (PV.cell n 0) λo=>bd (PV.cell n 1) λp=>bd (PV.cell n 2) λq=>some [(.tup [(.agg [o,p,q]),m])]:=aY _ _ _ (by kernel_rfl)
theorem aGP : aAU a b=bd (PV.whole 3 a) λc=>bd (PV.cell c 0) λd=>bd (PV.cell c 1) λe=>bd (PV.cell c 2) λf=>bd (PV.whole 3 b) λg=>bd (PV.cell g 0) λh=>bd (PV.cell g 1) λi=>bd (PV.cell g 2) λj=>bd (PV.bin .eql d (.int .i64 3)) λk=>PV.ite k (bd (PV.bin .eql h (.int .i64 3)) λl=>PV.ite l (aAV d e f h i j (.int .i64 0) (.int .i64 0) (.str (bs [])))
 (qE d e f h i j (.int .i64 0) (.int .i64 0) (.str (bs [])))) (qE d e f h i j (.int .i64 0) (.int .i64 0) (.str (bs []))):=aY _ _ _ (by kernel_rfl)
theorem aDz : aAV a b c d e f g h i=bd (PV.bin .lss c f) λj=>bd (gQ j) λk=>bd (PV.whole 3 (hd k)) λl=>bd (PV.cell l 0) λm=>bd (PV.cell l 1) λn=>bd (PV.cell l 2) λo=>some [(.tup [(.agg [m,n,o]),(.int .i64 0)])]:=aW _ _ _ _ _ _ _ _ (by kernel_rfl)
theorem aDA : qE a b c d e f g h i=bd (PV.bin .eql a (.int .i64 1)) λj=>PV.ite j (bd (PV.bin .eql d (.int .i64 1)) λk=>PV.ite k (aAW a b c d e f g h i) (some [(.tup [(.agg [(.int .i64 0),(.int .i64 0),(.str (bs []))]),(.int .i64 1)])])) (some [(.tup [(.agg [(.int .i64 0),(.int .i64 0),(.str (bs []))]),(.int .i64 1)])]):=aW _ _ _ _ _ _ _ _ (by kernel_rfl)
theorem aDB : aAW a b c d e f g h i=bd (PV.bin .lss b e) λj=>bd (gQ j) λk=>bd (PV.whole 3 (hd k)) λl=>bd (PV.cell l 0) λm=>bd (PV.cell l 1) λn=>bd (PV.cell l 2) λo=>some [(.tup [(.agg [m,n,o]),(.int .i64 0)])]:=aW _ _ _ _ _ _ _ _ (by kernel_rfl)
theorem aGQ : aAX a b=bd (PV.whole 3 a) λc=>bd (PV.cell c 0) λd=>bd (PV.cell c 1) λe=>bd (PV.cell c 2) λf=>bd (PV.whole 3 b) λg=>bd (PV.cell g 0) λh=>bd (PV.cell g 1) λi=>bd (PV.cell g 2) λj=>bd (PV.bin .eql d h) λk=>PV.ite k (bd (PV.bin .eql e i) λl=>PV.ite l (bd (PV.bin .eql f j) λm=>bd (gQ m) λn=>bd (PV.whole 3 (hd n)) λo=>
 bd (PV.cell o 0) λp=>bd (PV.cell o 1) λq=>bd (PV.cell o 2) λr=>some [(.agg [p,q,r])]) (bd (gQ (.bool false)) λs=>bd (PV.whole 3 (hd s)) λt=>bd (PV.cell t 0) λu=>bd (PV.cell t 1) λv=>bd (PV.cell t 2) λw=>some [(.agg [u,v,w])])) (bd (gQ (.bool false)) λx=>bd (PV.whole 3 (hd x)) λy=>bd (PV.cell y 0) λz=>bd (PV.cell y 1) λA=>
 bd (PV.cell y 2) λB=>some [(.agg [z,A,B])]):=aY _ _ _ (by kernel_rfl)
theorem qM : fB a=bd (PV.bin .lss a (.int .i64 0)) λb=>PV.ite b (bd (PV.bin .lss a (.int .i64 (-9))) λc=>PV.ite c (bd (PV.bin .quo a (.int .i64 10)) λd=>bd (PV.neg d) λe=>bd (fB e) λf=>bd (PV.bin .add (.str (bs [45])) (hd f)) λg=>bd (PV.bin .rem a (.int .i64 10)) λh=>bd (PV.neg h) λi=>bd (fB i) λj=>bd (PV.bin .add g (hd j)) λk=>
 some [k]) (bd (PV.neg a) λl=>bd (fB l) λm=>bd (PV.bin .add (.str (bs [45])) (hd m)) λn=>some [n])) (bd (PV.bin .lss a (.int .i64 10)) λo=>PV.ite o (bd (PV.bin .add (.int .i64 48) a) λp=>bd (PV.conv .u8 p) λq=>bd (PV.cat 1 1 false (.lst []) (.lst [q])) λr=>bd (PV.toStr r) λs=>some [s]) (bd (PV.bin .quo a (.int .i64 10)) λt=>bd (fB t) λu=>
 bd (PV.bin .rem a (.int .i64 10)) λv=>bd (PV.bin .add (.int .i64 48) v) λw=>bd (PV.conv .u8 w) λx=>bd (PV.cat 1 1 false (.lst []) (.lst [x])) λy=>bd (PV.toStr y) λz=>bd (PV.bin .add (hd u) z) λA=>some [A])):=aY _ _ _ (by kernel_rfl)
theorem aCT : jQ a b c=bd (PV.whole 3 b) λd=>bd (PV.cell d 0) λe=>bd (PV.cell d 1) λf=>bd (PV.cell d 2) λg=>bd (PV.whole 3 c) λh=>bd (PV.cell h 0) λi=>bd (PV.cell h 1) λj=>bd (PV.cell h 2) λk=>bd (PV.bin .neq e (.int .i64 1)) λl=>PV.ite l (some [(.tup [(.agg [(.int .i64 0),(.int .i64 0),(.str (bs []))]),(.int .i64 1)])])
 (bd (PV.bin .neq i (.int .i64 1)) λm=>PV.ite m (some [(.tup [(.agg [(.int .i64 0),(.int .i64 0),(.str (bs []))]),(.int .i64 1)])]) (bd (xA a f j) λn=>bd (PV.comp (hd n) 0) λo=>bd (PV.comp (hd n) 1) λp=>bd (PV.bin .neq p (.int .i64 0)) λq=>PV.ite q (some [(.tup [(.agg [(.int .i64 0),(.int .i64 0),(.str (bs []))]),p])]) (bd (gC o) λr=>bd (PV.whole 3 (hd r)) λs=>
 bd (PV.cell s 0) λt=>bd (PV.cell s 1) λu=>bd (PV.cell s 2) λv=>some [(.tup [(.agg [t,u,v]),(.int .i64 0)])]))):=aY _ _ _ (by kernel_rfl)
theorem aEs : xA a b c=bd (iS b) λd=>bd (PV.not (hd d)) λe=>PV.ite e (some [(.tup [(.int .i64 0),(.int .i64 2)])]) (bd (iS c) λf=>bd (PV.not (hd f)) λg=>PV.ite g (some [(.tup [(.int .i64 0),(.int .i64 2)])]) (bd (PV.bin .add b c) λh=>bd (PV.bin .eql a (.int .i64 12)) λi=>PV.ite i (bd (PV.bin .sub b c) λj=>bd (iS j) λk=>
 bd (PV.not (hd k)) λl=>PV.ite l (some [(.tup [(.int .i64 0),(.int .i64 2)])]) (some [(.tup [j,(.int .i64 0)])])) (bd (PV.bin .eql a (.int .i64 13)) λm=>PV.ite m (bd (PV.bin .mul b c) λn=>bd (iS n) λo=>bd (PV.not (hd o)) λp=>PV.ite p (some [(.tup [(.int .i64 0),(.int .i64 2)])]) (some [(.tup [n,(.int .i64 0)])])) (bd (iS h) λq=>bd (PV.not (hd q)) λr=>
 PV.ite r (some [(.tup [(.int .i64 0),(.int .i64 2)])]) (some [(.tup [h,(.int .i64 0)])]))))):=aY _ _ _ (by kernel_rfl)
theorem tC : lG a b c d e f g h i=bd (aF (.int .i64 9) f g h) λj=>bd (PV.bin .eql (gd j 0) (.int .i64 0)) λk=>PV.ite k (bd (aP (.int .i64 2) b c d e (gd j 1) (gd j 2) (gd j 3) i) λl=>bd (aF (gd l 2) (gd l 4) (gd l 5) (gd l 6)) λm=>bd (aJ (.int .i64 7) (gd m 0) (gd l 0) (gd l 1) (gd l 2) (gd l 3) (gd m 1) (gd m 2) (gd m 3) (gd l 7)) λn=>
 some [(gd n 0),(gd n 1),(gd n 2),(gd n 3),(gd n 4),(gd n 5),(gd n 6),(gd n 7)]) (bd (PV.bin .eql (gd j 0) (.int .i64 1)) λo=>PV.ite o (bd (aP (.int .i64 2) b c d e (gd j 1) (gd j 2) (gd j 3) i) λp=>bd (aF (gd p 2) (gd p 4) (gd p 5) (gd p 6)) λq=>bd (aJ (.int .i64 7) (gd q 0) (gd p 0) (gd p 1) (gd p 2) (gd p 3) (gd q 1) (gd q 2) (gd q 3) (gd p 7)) λr=>
 some [(gd r 0),(gd r 1),(gd r 2),(gd r 3),(gd r 4),(gd r 5),(gd r 6),(gd r 7)]) (bd (PV.bin .eql (gd j 0) (.int .i64 2)) λs=>PV.ite s (bd (aP (.int .i64 2) b c d e (gd j 1) (gd j 2) (gd j 3) i) λt=>bd (aF (gd t 2) (gd t 4) (gd t 5) (gd t 6)) λu=>bd (aJ (.int .i64 7) (gd u 0) (gd t 0) (gd t 1) (gd t 2) (gd t 3) (gd u 1) (gd u 2) (gd u 3) (gd t 7)) λv=>
 some [(gd v 0),(gd v 1),(gd v 2),(gd v 3),(gd v 4),(gd v 5),(gd v 6),(gd v 7)]) (bd (PV.bin .eql (gd j 0) (.int .i64 3)) λw=>PV.ite w (bd (aP (.int .i64 1) b c d e (gd j 1) (gd j 2) (gd j 3) i) λx=>bd (aJ (.int .i64 26) (.int .i64 0) (gd x 0) (gd x 1) (gd x 2) (gd x 3) (gd x 4) (gd x 5) (gd x 6) (gd x 7)) λy=>some [(gd y 0),(gd y 1),(gd y 2),(gd y 3),(gd y 4),(gd y 5),(gd y 6),(gd y 7)])
 (bd (PV.bin .eql (gd j 0) (.int .i64 4)) λz=>PV.ite z (bd (aP (.int .i64 1) b c d e (gd j 1) (gd j 2) (gd j 3) i) λA=>bd (aJ (.int .i64 26) (.int .i64 0) (gd A 0) (gd A 1) (gd A 2) (gd A 3) (gd A 4) (gd A 5) (gd A 6) (gd A 7)) λB=>some [(gd B 0),(gd B 1),(gd B 2),(gd B 3),(gd B 4),(gd B 5),(gd B 6),(gd B 7)]) (bd (PV.bin .eql (gd j 0) (.int .i64 5)) λC=>
 PV.ite C (bd (aF d (gd j 1) (gd j 2) (gd j 3)) λD=>bd (aJ (.int .i64 6) (gd D 0) b c d e (gd D 1) (gd D 2) (gd D 3) i) λE=>bd (aP (.int .i64 1) (gd E 0) (gd E 1) (gd E 2) (gd E 3) (gd E 4) (gd E 5) (gd E 6) (gd E 7)) λF=>bd (aF (.int .i64 2) (gd F 4) (gd F 5) (gd F 6)) λG=>bd (aJ (.int .i64 22) (gd G 0) (gd F 0) (gd F 1) (gd F 2) (gd F 3) (gd G 1) (gd G 2) (gd G 3) (gd F 7)) λH=>
 some [(gd H 0),(gd H 1),(gd H 2),(gd H 3),(gd H 4),(gd H 5),(gd H 6),(gd H 7)]) (bd (PV.bin .eql (gd j 0) (.int .i64 6)) λI=>PV.ite I (bd (PV.bin .gtr a (.int .i64 0)) λJ=>PV.ite J (bd (nT b c d e (gd j 1) (gd j 2) (gd j 3) i) λK=>bd (PV.len (gd K 7)) λL=>bd (aJ (.int .i64 19) (.int .i64 0) (gd K 0) (gd K 1) (gd K 2) (gd K 3) (gd K 4) (gd K 5) (gd K 6) (gd K 7)) λM=>
 bd (PV.bin .sub a (.int .i64 1)) λN=>bd (gN N (.int .i64 2) (gd M 0) (gd M 1) (gd M 2) (gd M 3) (gd M 4) (gd M 5) (gd M 6) (gd M 7)) λO=>bd (PV.len (gd O 7)) λP=>bd (PV.inb (gd O 7) L) λQ=>bd (PV.one P) λR=>bd (PV.setCell 2 (gd O 7) L 1 R) λS=>some [(gd O 0),(gd O 1),(gd O 2),(gd O 3),(gd O 4),(gd O 5),(gd O 6),S]) (some [b,c,d,e,(gd j 1),(gd j 2),(gd j 3),i]))
 (bd (PV.bin .gtr a (.int .i64 0)) λT=>PV.ite T (bd (aF d (gd j 1) (gd j 2) (gd j 3)) λU=>bd (aF (.int .i64 3) (gd U 1) (gd U 2) (gd U 3)) λV=>bd (PV.bin .gtr (gd V 0) (.int .i64 0)) λW=>PV.ite W (bd (aJ (.int .i64 1) (.int .i64 0) b c d e (gd V 1) (gd V 2) (gd V 3) i) λX=>bd (aJ (.int .i64 7) (gd U 0) (gd X 0) (gd X 1) (gd X 2) (gd X 3) (gd X 4) (gd X 5) (gd X 6) (gd X 7)) λY=>
 iL a (gd U 0) (gd Y 0) (gd Y 1) (gd Y 2) (gd Y 3) (gd Y 4) (gd Y 5) (gd Y 6) (gd Y 7)) (iL a (gd U 0) b c d e (gd V 1) (gd V 2) (gd V 3) i)) (some [b,c,d,e,(gd j 1),(gd j 2),(gd j 3),i])))))))):=bN _ _ _ _ (by kernel_rfl)
theorem zD : iL a b c d e f g h i j=bd (PV.len j) λk=>bd (aJ (.int .i64 6) b c d e f g h i j) λl=>bd (aF (.int .i64 7) (gd l 4) (gd l 5) (gd l 6)) λm=>bd (aJ (.int .i64 1) (gd m 0) (gd l 0) (gd l 1) (gd l 2) (gd l 3) (gd m 1) (gd m 2) (gd m 3) (gd l 7)) λn=>bd (aJ (.int .i64 14) (.int .i64 0) (gd n 0) (gd n 1) (gd n 2) (gd n 3) (gd n 4) (gd n 5) (gd n 6) (gd n 7)) λo=>
 bd (PV.len (gd o 7)) λp=>bd (aJ (.int .i64 19) (.int .i64 0) (gd o 0) (gd o 1) (gd o 2) (gd o 3) (gd o 4) (gd o 5) (gd o 6) (gd o 7)) λq=>bd (PV.bin .sub a (.int .i64 1)) λr=>bd (gN r (.int .i64 2) (gd q 0) (gd q 1) (gd q 2) (gd q 3) (gd q 4) (gd q 5) (gd q 6) (gd q 7)) λs=>bd (aJ (.int .i64 6) b (gd s 0) (gd s 1) (gd s 2) (gd s 3) (gd s 4) (gd s 5) (gd s 6) (gd s 7)) λt=>
 bd (aJ (.int .i64 1) (.int .i64 1) (gd t 0) (gd t 1) (gd t 2) (gd t 3) (gd t 4) (gd t 5) (gd t 6) (gd t 7)) λu=>bd (aJ (.int .i64 11) (.int .i64 0) (gd u 0) (gd u 1) (gd u 2) (gd u 3) (gd u 4) (gd u 5) (gd u 6) (gd u 7)) λv=>bd (aJ (.int .i64 7) b (gd v 0) (gd v 1) (gd v 2) (gd v 3) (gd v 4) (gd v 5) (gd v 6) (gd v 7)) λw=>bd (aJ (.int .i64 17) k (gd w 0) (gd w 1) (gd w 2) (gd w 3) (gd w 4) (gd w 5) (gd w 6) (gd w 7)) λx=>
 bd (PV.len (gd x 7)) λy=>bd (PV.inb (gd x 7) p) λz=>bd (PV.one y) λA=>bd (PV.setCell 2 (gd x 7) p 1 A) λB=>some [(gd x 0),(gd x 1),(gd x 2),(gd x 3),(gd x 4),(gd x 5),(gd x 6),B]:=aW _ _ _ _ _ _ _ _ (by kernel_rfl)
theorem aAk : jF a b c d e f g h i=bd (aF (.int .i64 3) f g h) λj=>bd (PV.bin .add (.int .i64 1) (gd j 0)) λk=>bd (aJ (.int .i64 20) k b c d e (gd j 1) (gd j 2) (gd j 3) i) λl=>bd (PV.bin .add k (.int .i64 1)) λm=>bd (aF m (gd l 4) (gd l 5) (gd l 6)) λn=>eY a k (gd n 0) (gd l 0) (gd l 1) (gd l 2) (gd l 3) (gd n 1) (gd n 2) (gd n 3) (gd l 7):=bN _ _ _ _ (by kernel_rfl)
theorem xJ : eY a b c d e f g h i j k=bd (PV.bin .gtr c (.int .i64 0)) λl=>PV.ite l (bd (aJ (.int .i64 8) (.int .i64 0) d e f g h i j k) λm=>bd (PV.bin .sub a (.int .i64 2)) λn=>bd (aP n (gd m 0) (gd m 1) (gd m 2) (gd m 3) (gd m 4) (gd m 5) (gd m 6) (gd m 7)) λo=>bd (aF b (gd o 4) (gd o 5) (gd o 6)) λp=>
 bd (aJ (.int .i64 22) (gd p 0) (gd o 0) (gd o 1) (gd o 2) (gd o 3) (gd p 1) (gd p 2) (gd p 3) (gd o 7)) λq=>bd (PV.bin .sub c (.int .i64 1)) λr=>eY a b r (gd q 0) (gd q 1) (gd q 2) (gd q 3) (gd q 4) (gd q 5) (gd q 6) (gd q 7)) (bd (cX (.int .i64 3) h i j) λs=>PV.ite (gd s 0) (bd (aF b (gd s 1) (gd s 2) (gd s 3)) λt=>bd (aJ (.int .i64 21) (gd t 0) d e f g (gd t 1) (gd t 2) (gd t 3) k) λu=>
 some [(gd u 0),(gd u 1),(gd u 2),(gd u 3),(gd u 4),(gd u 5),(gd u 6),(gd u 7)]) (some [d,e,f,g,(gd s 1),(gd s 2),(gd s 3),k])):=aW _ _ _ _ _ _ _ _ (by kernel_rfl)
theorem aAl : lS a b c d e f g h i=bd (PV.bin .add a (.int .i64 1)) λj=>some [j,b,c,d,e,f,g,h,i]:=bN _ _ _ _ (by kernel_rfl)
theorem aBW : iU a b c d e f g h i j k l m n=bd (PV.whole 3 a) λo=>bd (PV.cell o 0) λp=>bd (PV.cell o 1) λq=>bd (PV.cell o 2) λr=>bd (eU b c d e f g h i j k l m n) λs=>bd (PV.at_ 4 true (gd s 11) (gd s 0)) λt=>bd (PV.at_ 4 true (gd s 11) (gd s 0)) λu=>bd (PV.cell u 3) λv=>bd (PV.at_ 4 true (gd s 11) (gd s 0)) λw=>
 bd (PV.cell w 3) λx=>bd (PV.setCell 4 (gd s 11) (gd s 0) 3 .hole) λy=>bd (PV.cat 3 32 true v (.lst [(.agg [p,q,r])])) λz=>bd (PV.setCell 4 y (gd s 0) 3 z) λA=>some [(gd s 1),(gd s 2),(gd s 3),(gd s 4),(gd s 5),(gd s 6),(gd s 7),(gd s 8),(gd s 9),(gd s 10),A,(gd s 12),(gd s 13)]:=bN _ _ _ _ (by kernel_rfl)
theorem zE : bK a b c d e f g h i j k l m n o p=bd (eU d e f g h i j k l m n o p) λq=>bd (PV.at_ 4 true (gd q 11) (gd q 0)) λr=>bd (PV.at_ 4 true (gd q 11) (gd q 0)) λs=>bd (PV.cell s 3) λt=>bd (PV.at_ 4 true (gd q 11) (gd q 0)) λu=>bd (PV.cell u 3) λv=>bd (PV.setCell 4 (gd q 11) (gd q 0) 3 .hole) λw=>bd (PV.cat 3 32 true t (.lst [(.agg [a,b,c])])) λx=>
 bd (PV.setCell 4 w (gd q 0) 3 x) λy=>some [(gd q 1),(gd q 2),(gd q 3),(gd q 4),(gd q 5),(gd q 6),(gd q 7),(gd q 8),(gd q 9),(gd q 10),y,(gd q 12),(gd q 13)]:=bN _ _ _ _ (by kernel_rfl)
theorem aCU : bD a b c d e f g h i j k l m=bd (eU a b c d e f g h i j k l m) λn=>bd (PV.at_ 4 true (gd n 11) (gd n 0)) λo=>bd (PV.at_ 4 true (gd n 11) (gd n 0)) λp=>bd (PV.at_ 4 true (gd n 11) (gd n 0)) λq=>bd (PV.cell q 3) λr=>bd (PV.len r) λs=>bd (PV.bin .sub s (.int .i64 1)) λt=>bd (PV.at_ 4 true (gd n 11) (gd n 0)) λu=>
 bd (PV.cell u 3) λv=>bd (PV.inb v t) λw=>bd (PV.at_ 4 true (gd n 11) (gd n 0)) λx=>bd (PV.cell x 3) λy=>bd (PV.at_ 3 true y t) λz=>bd (PV.whole 3 z) λA=>bd (PV.cell A 0) λB=>bd (PV.cell A 1) λC=>bd (PV.cell A 2) λD=>bd (PV.at_ 4 true (gd n 11) (gd n 0)) λE=>bd (PV.at_ 4 true (gd n 11) (gd n 0)) λF=>bd (PV.at_ 4 true (gd n 11) (gd n 0)) λG=>
 bd (PV.cell G 3) λH=>bd (PV.len H) λI=>bd (PV.bin .sub I (.int .i64 1)) λJ=>bd (PV.at_ 4 true (gd n 11) (gd n 0)) λK=>bd (PV.cell K 3) λL=>bd (PV.cut 3 true L (.int .i64 0) J) λM=>bd (PV.at_ 4 true (gd n 11) (gd n 0)) λN=>bd (PV.cell N 3) λO=>bd (PV.cut 3 true O (.int .i64 0) J) λP=>bd (PV.at_ 4 true (gd n 11) (gd n 0)) λQ=>bd (PV.cell Q 3) λR=>
 bd (PV.setCell 4 (gd n 11) (gd n 0) 3 .hole) λS=>bd (PV.setCell 4 S (gd n 0) 3 P) λT=>some [(.agg [B,C,D]),(gd n 1),(gd n 2),(gd n 3),(gd n 4),(gd n 5),(gd n 6),(gd n 7),(gd n 8),(gd n 9),(gd n 10),T,(gd n 12),(gd n 13)]:=bN _ _ _ _ (by kernel_rfl)
theorem aBX : nS a b c d e f g h i j k l m n o=bd (PV.at_ 3 true d a) λp=>bd (PV.whole 3 p) λq=>bd (PV.cell q 0) λr=>bd (PV.cell q 1) λs=>bd (PV.cell q 2) λt=>bd (PV.len m) λu=>bd (PV.bin .eql u (.int .i64 24)) λv=>PV.ite v (some [c,d,e,f,g,h,i,j,k,(.int .i64 6),m,n,o]) (bd (PV.zeros 32 (.agg [(.int .i64 0),(.int .i64 0),(.str (bs []))]) s) λw=>
 bd (PV.bin .leq s s) λx=>PV.ite x (bd (PV.zeros 32 (.agg [(.int .i64 0),(.int .i64 0),(.str (bs []))]) s) λy=>bd (PV.bin .sub r (.int .i64 1)) λz=>kR a b z c d e f g h i j k l m n o y) (none)):=bN _ _ _ _ (by kernel_rfl)
theorem qN : kR a b c d e f g h i j k l m n o p q=bd (PV.bin .geq c (.int .i64 0)) λr=>PV.ite r (bd (bD d e f g h i j k l m n o p) λs=>bd (PV.inb q c) λt=>bd (PV.setAt 3 true q c (gd s 0)) λu=>bd (PV.bin .sub c (.int .i64 1)) λv=>kR a b v (gd s 1) (gd s 2) (gd s 3) (gd s 4) (gd s 5) (gd s 6) (gd s 7) (gd s 8) (gd s 9) (gd s 10) (gd s 11) (gd s 12) (gd s 13) u)
 (PV.ite b (bd (bD d e f g h i j k l m n o p) λw=>kA a (gd w 1) (gd w 2) (gd w 3) (gd w 4) (gd w 5) (gd w 6) (gd w 7) (gd w 8) (gd w 9) (gd w 10) (gd w 11) (gd w 12) (gd w 13) q) (kA a d e f g h i j k l m n o p q)):=aW _ _ _ _ _ _ _ _ (by kernel_rfl)
theorem yB : kA a b c d e f g h i j k l m n o=bd (PV.one a) λp=>bd (PV.cat 4 64 true l (.lst [(.agg [p,(.int .i64 0),o,(.lst [])])])) λq=>some [b,c,d,e,f,g,h,i,j,k,q,m,n]:=aW _ _ _ _ _ _ _ _ (by kernel_rfl)
theorem aBY : nT a b c d e f g h=bd (aP (.int .i64 1) a b c d e f g h) λi=>bd (aP (.int .i64 0) (gd i 0) (gd i 1) (gd i 2) (gd i 3) (gd i 4) (gd i 5) (gd i 6) (gd i 7)) λj=>bd (aF (.int .i64 2) (gd j 4) (gd j 5) (gd j 6)) λk=>bd (PV.inb (.lst [(.int .i64 14),(.int .i64 15)]) (gd k 0)) λl=>bd (PV.at_ 1 false (.lst [(.int .i64 14),(.int .i64 15)]) (gd k 0)) λm=>
 bd (aJ m (.int .i64 0) (gd j 0) (gd j 1) (gd j 2) (gd j 3) (gd k 1) (gd k 2) (gd k 3) (gd j 7)) λn=>bd (cX (.int .i64 4) (gd n 4) (gd n 5) (gd n 6)) λo=>PV.ite (gd o 0) (bd (aJ (.int .i64 16) (.int .i64 0) (gd n 0) (gd n 1) (gd n 2) (gd n 3) (gd o 1) (gd o 2) (gd o 3) (gd n 7)) λp=>some [(gd p 0),(gd p 1),(gd p 2),(gd p 3),(gd p 4),(gd p 5),(gd p 6),(gd p 7)])
 (some [(gd n 0),(gd n 1),(gd n 2),(gd n 3),(gd o 1),(gd o 2),(gd o 3),(gd n 7)]):=bN _ _ _ _ (by kernel_rfl)
end
end Go.Proofs.YtllmobkkbpdchaaGreat

namespace Go.Proofs.YtllmobkkbpdchaaGreat
noncomputable section
open Go
attribute [local irreducible] bd PV.ite PV.guardFlat PV.guardOwn PV.whole PV.one PV.cell PV.sub PV.at_ PV.len PV.slen PV.chr PV.beq PV.peq PV.ceq PV.bin PV.neg PV.not PV.conv PV.cut PV.scut PV.cat PV.setAt PV.setCell PV.ncopy PV.copyIn PV.zeros PV.toStr PV.toBytes PV.deref PV.isPtr PV.comp PV.inb PV.off PV.imin PV.imax PV.sel PV.apply PV.isLst PV.isInt PV.ix PV.nilT
def Bts (l : List Int) : Prop:=(∀ x∈l,0≤x∧x≤255)∧l.length≤1048576
def aPP (l : List Int) (n a : Int) (r : R) : Prop:=∃ v a' s' : Int,r = [.int .i64 v,bH l,.int .i64 a',.int .i64 s']∧0≤v∧(v<n∨v=0)∧a≤a'∧a'≤a+1∧0≤s'∧s'<65521
theorem aOb {l : List Int} {n x a s b : Int} (hn : 2≤n) (hx : 0≤x) (h0 : 0≤a) (h1 : a≤4611686018427387904) (hs : 0≤s∧s<65521) (hb : b=a) :
 Ok (aPP l n b) (iK (.int .i64 n) (.int .i64 x) (bH l) (.int .i64 a) (.int .i64 s)):=by
 rw [zB]
 subst hb
 repeat' (first | refine aH ?_ | refine eO ?_ | refine cK ?_ | refine eZ ?_ | refine aG ?_ | refine bQ ?_ | (refine aC (λ_=>?_) (λ_=>?_)) | (refine aO (λ_=>?_) (λ_=>?_)) | refine aQ (λ_=>?_) (λ_=>?_) | refine aL (by omega) ?_ | refine bE (by omega) ?_ | refine iW (by omega) (by omega) ?_ | refine kY (by omega) (by omega) (by omega) ?_ | refine kX (by omega) ?_ | refine jN (by omega) ?_ | refine cC ?_ | refine dI ?_ | refine eR ?_ | refine bC ?_ | refine kG (by omega) ?_ | refine aV rfl ?_ | refine aA rfl ?_ | refine bF rfl ?_ | refine aD rfl ?_)
 exact aB ⟨_,_,_,rfl,Int.emod_nonneg _ (by omega),.inl (Int.emod_lt_of_pos _ (by omega)),by omega,by omega,hs⟩
theorem aNh {l : List Int} (hl : Bts l) {n a s : Int} (hn : n≤1099511627776) (h0 : 0≤a) (h1 : a≤4611686018427387904) (hs : 0≤s∧s<65521) :
 Ok (aPP l n a) (aF (.int .i64 n) (bH l) (.int .i64 a) (.int .i64 s)):=by
 rw [aBS]
 obtain ⟨hb,hlen⟩:=hl
 refine aH ?_
 refine aC (λ_=>aB ⟨0,a,s,rfl,by omega,.inr rfl,by omega,by omega,hs⟩) (λh=>?_)
 refine cC ?_
 refine aH ?_
 refine aC (λh2=>?_) (λh2=>?_)
 ·refine aEM h0 h2 (λx hx _=>?_)
  have:=hb x hx
  refine kG (by omega) ?_
  exact aOb (by omega) (by omega) h0 h1 hs rfl
 ·repeat' (first | refine aH ?_ | refine eO ?_ | refine cK ?_ | refine eZ ?_ | refine aG ?_ | refine bQ ?_ | (refine aC (λ_=>?_) (λ_=>?_)) | (refine aO (λ_=>?_) (λ_=>?_)) | refine aQ (λ_=>?_) (λ_=>?_) | refine aL (by omega) ?_ | refine bE (by omega) ?_ | refine iW (by omega) (by omega) ?_ | refine kY (by omega) (by omega) (by omega) ?_ | refine kX (by omega) ?_ | refine jN (by omega) ?_ | refine cC ?_ | refine dI ?_ | refine eR ?_ | refine bC ?_ | refine kG (by omega) ?_ | refine aV rfl ?_ | refine aA rfl ?_ | refine bF rfl ?_ | refine aD rfl ?_)
  ·refine aEM (Int.emod_nonneg _ (by omega)) (Int.emod_lt_of_pos _ (by omega)) (λx hx _=>?_)
   have:=hb x hx
   repeat' (first | refine aH ?_ | refine eO ?_ | refine cK ?_ | refine eZ ?_ | refine aG ?_ | refine bQ ?_ | (refine aC (λ_=>?_) (λ_=>?_)) | (refine aO (λ_=>?_) (λ_=>?_)) | refine aQ (λ_=>?_) (λ_=>?_) | refine aL (by omega) ?_ | refine bE (by omega) ?_ | refine iW (by omega) (by omega) ?_ | refine kY (by omega) (by omega) (by omega) ?_ | refine kX (by omega) ?_ | refine jN (by omega) ?_ | refine cC ?_ | refine dI ?_ | refine eR ?_ | refine bC ?_ | refine kG (by omega) ?_ | refine aV rfl ?_ | refine aA rfl ?_ | refine bF rfl ?_ | refine aD rfl ?_)
   exact aOb (by omega) (by omega) h0 h1 (by omega) rfl
  ·exact aOb (by omega) (by omega) h0 h1 (by omega) rfl
section
variable {P : R → Prop} {k : R → Option R} {l : List Int} {a s : Int}
theorem bJ (hl : Bts l) {n : Int} (hn : n≤1099511627776) (h0 : 0≤a∧a≤4611686018427387904∧0≤s∧s<65521)
 (h : ∀ v a' s' : Int,0≤v∧(v<n∨v=0)∧a≤a'∧a'≤a+1∧0≤s'∧s'<65521→Ok P (k [.int .i64 v,bH l,.int .i64 a',.int .i64 s'])) :
 Ok P (bd (aF (.int .i64 n) (bH l) (.int .i64 a) (.int .i64 s)) k):=
 aI (aNh hl hn h0.1 h0.2.1 h0.2.2) (λr ⟨v,a',s',hr,h1⟩=>by rw [hr];exact h v a' s' h1)
theorem kU (hl : Bts l) {n : Int} (hn : 1≤n∧n≤1099511627776) (h0 : 0≤a∧a≤4611686018427387904∧0≤s∧s<65521)
 (h : ∀ (v : Bool) (a' s' : Int),a≤a'∧a'≤a+1∧0≤s'∧s'<65521→Ok P (k [.bool v,bH l,.int .i64 a',.int .i64 s'])) :
 Ok P (bd (cX (.int .i64 n) (bH l) (.int .i64 a) (.int .i64 s)) k):=by
 refine aI (Q:=λr=>∃ (v : Bool) (a' s' : Int),r = [.bool v,bH l,.int .i64 a',.int .i64 s']∧a≤a'∧a'≤a+1∧0≤s'∧s'<65521) ?_ (λr ⟨v,a',s',hr,h1⟩=>by rw [hr];exact h v a' s' h1)
 rw [aBP]
 refine bJ hl (by omega) h0 (λv a' s' h1=>?_)
 repeat' (first | refine aH ?_ | refine eO ?_ | refine cK ?_ | refine eZ ?_ | refine aG ?_ | refine bQ ?_ | (refine aC (λ_=>?_) (λ_=>?_)) | (refine aO (λ_=>?_) (λ_=>?_)) | refine aQ (λ_=>?_) (λ_=>?_) | refine aL (by omega) ?_ | refine bE (by omega) ?_ | refine iW (by omega) (by omega) ?_ | refine kY (by omega) (by omega) (by omega) ?_ | refine kX (by omega) ?_ | refine jN (by omega) ?_ | refine cC ?_ | refine dI ?_ | refine eR ?_ | refine bC ?_ | refine kG (by omega) ?_ | refine aV rfl ?_ | refine aA rfl ?_ | refine bF rfl ?_ | refine aD rfl ?_)
 exact aB ⟨_,_,_,rfl,h1.2.2⟩
theorem aPb (hl : Bts l) {n : Int} (hn : 1≤n∧n≤1000) (h0 : 0≤a∧a≤4611686018427387904∧0≤s∧s<65521)
 (h : ∀ v a' s' : Int,0≤v∧v≤n∧a≤a'∧a'≤a+1∧0≤s'∧s'<65521→Ok P (k [.int .i64 v,bH l,.int .i64 a',.int .i64 s'])) :
 Ok P (bd (rM (.int .i64 n) (bH l) (.int .i64 a) (.int .i64 s)) k):=by
 refine aI (Q:=λr=>∃ (v a' s' : Int),r = [.int .i64 v,bH l,.int .i64 a',.int .i64 s']∧0≤v∧v≤n∧a≤a'∧a'≤a+1∧0≤s'∧s'<65521) ?_ (λr ⟨v,a',s',hr,h1⟩=>by rw [hr];exact h v a' s' h1)
 rw [aBV]
 have:=hl.2
 repeat' (first | refine aH ?_ | refine eO ?_ | refine cK ?_ | refine eZ ?_ | refine aG ?_ | refine bQ ?_ | (refine aC (λ_=>?_) (λ_=>?_)) | (refine aO (λ_=>?_) (λ_=>?_)) | refine aQ (λ_=>?_) (λ_=>?_) | refine aL (by omega) ?_ | refine bE (by omega) ?_ | refine iW (by omega) (by omega) ?_ | refine kY (by omega) (by omega) (by omega) ?_ | refine kX (by omega) ?_ | refine jN (by omega) ?_ | refine cC ?_ | refine dI ?_ | refine eR ?_ | refine bC ?_ | refine kG (by omega) ?_ | refine aV rfl ?_ | refine aA rfl ?_ | refine bF rfl ?_ | refine aD rfl ?_)
 ·refine bJ hl (by omega) h0 (λv a' s' h1=>?_)
  exact aB ⟨_,_,_,rfl,by omega,by omega,h1.2.2⟩
 ·refine bJ hl (by omega) h0 (λv a' s' h1=>?_)
  exact aB ⟨_,_,_,rfl,by omega,by omega,h1.2.2⟩
theorem aPc {k : PV→Option R} {xs : List Int} {i : Int} (h0 : 0≤i) (h1 : i<xs.length) (h : ∀ x,x∈xs→Ok P (k (.int .i64 x))) : Ok P (bd (PV.at_ 1 false (.lst (xs.map (PV.int .i64))) (.int .i64 i)) k):=by
 refine tU h0 (by rw [List.length_map];exact h1) (λx hx=>?_) (λx hx _=>?_)
 ·obtain ⟨y,_,rfl⟩:=List.mem_map.1 hx;rfl
 ·obtain ⟨y,hy,rfl⟩:=List.mem_map.1 hx;exact h y hy
theorem aEt (hl : Bts l) (h0 : 0≤a∧a≤4611686018427387900∧0≤s∧s<65521)
 (h : ∀ v a' s' : Int,-9223372036854775808≤v∧v≤9223372036854775807∧a≤a'∧a'≤a+2∧0≤s'∧s'<65521→Ok P (k [.int .i64 v,bH l,.int .i64 a',.int .i64 s'])) :
 Ok P (bd (eF (bH l) (.int .i64 a) (.int .i64 s)) k):=by
 refine aI (Q:=λr=>∃ (v a' s' : Int),r = [.int .i64 v,bH l,.int .i64 a',.int .i64 s']∧-9223372036854775808≤v∧v≤9223372036854775807∧a≤a'∧a'≤a+2∧0≤s'∧s'<65521) ?_ (λr ⟨v,a',s',hr,h1⟩=>by rw [hr];exact h v a' s' h1)
 rw [aAh]
 refine bJ hl (by omega) (by omega) (λv a1 s1 h1=>?_)
 repeat' (first | refine aH ?_ | refine eO ?_ | refine cK ?_ | refine eZ ?_ | refine aG ?_ | refine bQ ?_ | (refine aC (λ_=>?_) (λ_=>?_)) | (refine aO (λ_=>?_) (λ_=>?_)) | refine aQ (λ_=>?_) (λ_=>?_) | refine aL (by omega) ?_ | refine bE (by omega) ?_ | refine iW (by omega) (by omega) ?_ | refine kY (by omega) (by omega) (by omega) ?_ | refine kX (by omega) ?_ | refine jN (by omega) ?_ | refine cC ?_ | refine dI ?_ | refine eR ?_ | refine bC ?_ | refine kG (by omega) ?_ | refine aV rfl ?_ | refine aA rfl ?_ | refine bF rfl ?_ | refine aD rfl ?_)
 ·refine bJ hl (by omega) (by omega) (λv2 a2 s2 h2=>?_)
  repeat' (first | refine aH ?_ | refine eO ?_ | refine cK ?_ | refine eZ ?_ | refine aG ?_ | refine bQ ?_ | (refine aC (λ_=>?_) (λ_=>?_)) | (refine aO (λ_=>?_) (λ_=>?_)) | refine aQ (λ_=>?_) (λ_=>?_) | refine aL (by omega) ?_ | refine bE (by omega) ?_ | refine iW (by omega) (by omega) ?_ | refine kY (by omega) (by omega) (by omega) ?_ | refine kX (by omega) ?_ | refine jN (by omega) ?_ | refine cC ?_ | refine dI ?_ | refine eR ?_ | refine bC ?_ | refine kG (by omega) ?_ | refine aV rfl ?_ | refine aA rfl ?_ | refine bF rfl ?_ | refine aD rfl ?_)
  exact aB ⟨_,_,_,rfl,by omega,by omega,by omega,by omega,by omega,by omega⟩
 ·refine bJ hl (by omega) (by omega) (λv2 a2 s2 h2=>?_)
  refine dC (by omega) (by simp;omega) ?_
  refine aPc (xs:=[1000000000,-1000000000,1000000001,-1000000001,9223372036854775807,-9223372036854775808,4611686018427387904,31623]) (by omega) (by simp;omega) (λx hx=>?_)
  have hx : -9223372036854775808≤x∧x≤9223372036854775807:=by
   simp only [List.mem_cons,List.not_mem_nil,or_false] at hx
   omega
  exact aB ⟨_,_,_,rfl,by omega,by omega,by omega,by omega,by omega,by omega⟩
 ·refine bJ hl (by omega) (by omega) (λv2 a2 s2 h2=>?_)
  repeat' (first | refine aH ?_ | refine eO ?_ | refine cK ?_ | refine eZ ?_ | refine aG ?_ | refine bQ ?_ | (refine aC (λ_=>?_) (λ_=>?_)) | (refine aO (λ_=>?_) (λ_=>?_)) | refine aQ (λ_=>?_) (λ_=>?_) | refine aL (by omega) ?_ | refine bE (by omega) ?_ | refine iW (by omega) (by omega) ?_ | refine kY (by omega) (by omega) (by omega) ?_ | refine kX (by omega) ?_ | refine jN (by omega) ?_ | refine cC ?_ | refine dI ?_ | refine eR ?_ | refine bC ?_ | refine kG (by omega) ?_ | refine aV rfl ?_ | refine aA rfl ?_ | refine bF rfl ?_ | refine aD rfl ?_)
  exact aB ⟨_,_,_,rfl,by omega,by omega,by omega,by omega,by omega,by omega⟩
end
structure cG where
 o : Int
 a : Int
 deriving DecidableEq
structure cY where
 p : Int
 lc : Int
 code : List cG
 deriving DecidableEq
structure eM where
 texts : List ByteArray
 funcs : List cY
def cG.pv (x : cG) : PV:=.agg [.int .i64 x.o,.int .i64 x.a]
def cY.pv (f : cY) : PV:=.agg [.int .i64 f.p,.int .i64 f.lc,.lst (f.code.map cG.pv)]
def eM.pv (m : eM) : PV:=.agg [.lst (m.texts.map PV.str),.lst (m.funcs.map cY.pv)]
def lM (n lo hi : Int) : Bool:=decide (lo≤n)&&decide (n≤hi)
def chB (c : UInt8) : Bool:=!(decide ((c.toNat : Int)<32))&&(!(decide ((126 : Int)<c.toNat))&&!(decide ((c.toNat : Int)=34)))
def dA (s : ByteArray) : Bool:=decide ((s.size : Int)≤60)&&s.data.toList.all chB
def cN (nt nf lc nc o a : Int) : Bool:=
 if o=1 then lM a (-1000000000) 1000000000 else if o=2 then lM a 0 1 else if o=3 then lM a 0 (nt - 1) else if o=5 then lM a 0 (nf - 1) else if o=24 then lM a 0 (nf - 1)
 else if o=6 then lM a 0 (lc - 1) else if o=7 then lM a 0 (lc - 1) else if o=17 then lM a 0 (nc - 1) else if o=18 then lM a 0 (nc - 1) else if o=19 then lM a 0 (nc - 1)
 else if o=20 then lM a 0 6 else if o=21 then lM a 0 5 else if o=22 then lM a 0 5 else if o=23 then lM a 0 6 else lM o 1 26&&decide (a=0)
def uY (nt nf : Int) (f : cY) : Bool:=lM f.p 0 6&&(lM f.lc f.p 12&&(lM f.code.length 1 120&&f.code.all λx=>cN nt nf f.lc f.code.length x.o x.a))
def eM.okB (m : eM) : Bool:=lM m.funcs.length 1 12&&(decide ((m.texts.length : Int)≤20)&&(m.texts.all dA&&m.funcs.all (uY m.texts.length m.funcs.length)))
def eM.sized (m : eM) : Prop:=m.texts.length≤2097152∧m.funcs.length≤2097152∧(∀ t∈m.texts,t.size≤2097152)∧∀ f∈m.funcs,f.code.length≤1000000000
section
variable {P : R → Prop} {k : PV → Option R} {α : Type} {f : α → PV} {xs : List α}
theorem aK {s : Nat} {g : Bool} {kk : IntKind} {i : Nat} (hi : i<xs.length) (hel : ∀ a,(f a).isEl s g=true) (h : Ok P (k (f xs[i]))) : Ok P (bd (PV.at_ s g (.lst (xs.map f)) (.int kk (i : Int))) k):=by
 refine tU (by omega) (by rw [List.length_map];omega) (λx hx=>?_) (λx _ hx=>?_)
 ·obtain ⟨a,_,rfl⟩:=List.mem_map.1 hx;exact hel a
 ·rw [Int.toNat_natCast,List.getElem?_map,List.getElem?_eq_getElem hi] at hx
  cases hx
  exact h
theorem aE (h : Ok P (k (.int .i64 xs.length))) : Ok P (bd (PV.len (.lst (xs.map f))) k):=by
 refine dI ?_
 rw [List.length_map]
 exact h
theorem aP8 {s : ByteArray} {i : Nat} (hi : i<s.data.toList.length) : s[i]? = some s.data.toList[i]:=by
 have h : i<s.size:=by
  have e : s.size=s.data.toList.length:=by rw [Array.length_toList];rfl
  rw [e];exact hi
 rw [getElem?_pos s i h,Array.getElem_toList]
 rfl
theorem aEu {s : ByteArray} {kk : IntKind} {i : Nat} (hi : i<s.data.toList.length) (h : Ok P (k (.int .u8 (s.data.toList[i].toNat : Int)))) : Ok P (bd (PV.chr (.str s) (.int kk (i : Int))) k):=by
 refine dM _ ?_ h
 simp only [PV.chr]
 rw [if_pos (by omega),Int.toNat_natCast,aP8 hi]
theorem fC {k : R→Option R} {n lo hi : Int} (h : Ok P (k [.bool (lM n lo hi)])) : Ok P (bd (cH (.int .i64 n) (.int .i64 lo) (.int .i64 hi)) k):=by
 refine aI (Q:=λr=>r = [.bool (lM n lo hi)]) ?_ (λr hr=>by rw [hr];exact h)
 rw [aFo]
 refine eO (aC (λh1=>eO (aB ?_)) (λh1=>aB ?_))
 ·simp [lM,h1]
 ·simp [lM,h1]
theorem dS {k : R→Option R} {n lo hi : Int} (h : Ok P (k [.bool (lM n lo hi)])) : Ok P (bd (aM (.int .i64 n) (.int .i64 lo) (.int .i64 hi)) k):=by
 refine aI (Q:=λr=>r = [.bool (lM n lo hi)]) ?_ (λr hr=>by rw [hr];exact h)
 rw [aCE]
 refine eZ (aC (λh1=>eO (aB ?_)) (λh1=>aB ?_))
 ·simp [lM,h1]
 ·simp [lM,h1]
theorem gT {k : R→Option R} {n m : Int} (hm : -1000000000≤m∧m≤1000000000) (h : Ok P (k [.bool (lM n 0 (m - 1))])) : Ok P (bd (cZ (.int .i64 n) (.int .i64 m)) k):=by
 refine aI (Q:=λr=>r = [.bool (lM n 0 (m - 1))]) ?_ (λr hr=>by rw [hr];exact h)
 rw [aFs]
 exact bE (by omega) (fC (aB rfl))
theorem aOc {k : R→Option R} {n : Int} (h : Ok P (k [.bool (lM n (-1000000000) 1000000000)])) : Ok P (bd (uK (.int .i64 n)) k):=by
 refine aI (Q:=λr=>r = [.bool (lM n (-1000000000) 1000000000)]) ?_ (λr hr=>by rw [hr];exact h)
 rw [aCd]
 exact fC (aB rfl)
end
theorem yC {α : Type} {xs : List α} {i : Nat} (hi : i<xs.length) (p : α→Bool) : (xs.drop i).all p=(p xs[i]&&(xs.drop (i+1)).all p):=by
 rw [List.drop_eq_getElem_cons hi,List.all_cons]
theorem aPQ {c : UInt8} (h : (c.toNat : Int)<32) : chB c=false:=by unfold chB;rw [decide_eq_true h];rfl
theorem aPR {c : UInt8} (h : (126 : Int)<c.toNat) : chB c=false:=by unfold chB;rw [decide_eq_true h];simp
theorem aPS {c : UInt8} (h : (c.toNat : Int)=34) : chB c=false:=by unfold chB;rw [decide_eq_true h];simp
theorem aGR {s : ByteArray} (hs : s.size≤2097152) : ∀ (j i : Nat),s.data.toList.length - i=j→i≤s.data.toList.length→
 Ok (λr=>r = [.bool ((s.data.toList.drop i).all chB)]) (oV (.str s) (.int .i64 i)):=by
 have hsz : s.size=s.data.toList.length:=by rw [Array.length_toList];rfl
 intro j
 induction j with
 | zero=>
   intro i h1 h2
   have : i=s.data.toList.length:=by omega
   rw [uS]
   refine eR (aH (aC (λh=>by omega) (λ_=>aB ?_)))
   rw [this,List.drop_length];rfl
 | succ j ih=>
   intro i h1 h2
   have hi : i<s.data.toList.length:=by omega
   rw [uS,yC hi]
   refine eR (aH (aC (λ_=>?_) (λh=>by omega)))
   refine aEu hi (aH (aC (λh=>aB (by rw [aPQ h];rfl)) (λh3=>?_)))
   refine aEu hi (cK (aC (λh=>aB (by rw [aPR h];rfl)) (λh4=>?_)))
   refine aEu hi (aG (aC (λh=>aB (by rw [aPS h];rfl)) (λh5=>?_)))
   refine aL (by omega) ((ih (i+1) (by omega) (by omega)).mono ?_)
   rintro r rfl
   have : chB s.data.toList[i]=true:=by unfold chB;rw [decide_eq_false h3,decide_eq_false h4,decide_eq_false h5];rfl
   rw [this,Bool.true_and]
theorem aFH {P : R→Prop} {k : R→Option R} {s : ByteArray} (hs : s.size≤2097152) (h : Ok P (k [.bool (dA s)])) : Ok P (bd (nM (.str s)) k):=by
 refine aI (Q:=λr=>r = [.bool (dA s)]) ?_ (λr hr=>by rw [hr];exact h)
 rw [aFn]
 refine eR (cK (aC (λh=>aB ?_) (λh=>?_)))
 ·have : ¬ ((s.size : Int)≤60):=by omega
  simp [dA,this]
 ·refine (aGR hs _ 0 rfl (by omega)).mono ?_
  rintro r rfl
  have : (s.size : Int)≤60:=by omega
  rw [List.drop_zero]
  simp [dA,this]
theorem aGS {s : ByteArray} (hs : s.size≤2097152) : ∀ (j i : Nat),s.data.toList.length - i=j→i≤s.data.toList.length→
 Ok (λr=>r = [.bool (decide ((s.size : Int)≤60)&&(s.data.toList.drop i).all chB)]) (qB (.str s) (.int .i64 s.size) (.int .i64 i)):=by
 have hsz : s.size=s.data.toList.length:=by rw [Array.length_toList];rfl
 intro j
 induction j with
 | zero=>
   intro i h1 h2
   have : i=s.data.toList.length:=by omega
   rw [wF]
   refine aH (aC (λh=>by omega) (λ_=>eR (eO (aB ?_))))
   rw [this,List.drop_length]
   simp
 | succ j ih=>
   intro i h1 h2
   have hi : i<s.data.toList.length:=by omega
   rw [wF,yC hi]
   refine aH (aC (λ_=>?_) (λh=>by omega))
   refine aEu hi (aH (aC (λh=>aB (by rw [aPQ h];simp)) (λh3=>?_)))
   refine aEu hi (cK (aC (λh=>aB (by rw [aPR h];simp)) (λh4=>?_)))
   refine aEu hi (aG (aC (λh=>aB (by rw [aPS h];simp)) (λh5=>?_)))
   refine aL (by omega) ((ih (i+1) (by omega) (by omega)).mono ?_)
   rintro r rfl
   have : chB s.data.toList[i]=true:=by unfold chB;rw [decide_eq_false h3,decide_eq_false h4,decide_eq_false h5];rfl
   rw [this,Bool.true_and]
theorem aBA {s : ByteArray} (hs : s.size≤2097152) : Ok (λr=>r = [.bool (dA s)]) (pN (.str s)):=by
 rw [aGM]
 refine eR ((aGS hs _ 0 rfl (by omega)).mono ?_)
 rintro r rfl
 rw [List.drop_zero]
 rfl
theorem aOd {ts : List ByteArray} {fs : List cY} {i : Nat} {x : cG} (ht : ts.length≤2097152) (hf : fs.length≤2097152) (hi : i<fs.length) (hlc : 0≤fs[i].lc∧fs[i].lc≤12) (hc : fs[i].code.length≤1000) :
 Ok (λr=>r = [.bool (cN ts.length fs.length fs[i].lc fs[i].code.length x.o x.a)]) (aCv (.agg [.lst (ts.map PV.str),.lst (fs.map cY.pv)]) (.int .i64 i) x.pv):=by
 rw [aHD]
 refine aD rfl (aA rfl (aA rfl (aD rfl (aA rfl (aA rfl ?_)))))
 refine aE (bE (by omega) (dS (bC ?_)))
 have hb : lM (i : Int) 0 ((fs.length : Int) - 1)=true:=by
  simp only [lM,Bool.and_eq_true,decide_eq_true_eq]
  omega
 rw [hb]
 refine aT ?_
 refine aG (aC (λh=>dS (aB (by simp [hd,cN,h]))) (λh1=>?_))
 refine aG (aC (λh=>dS (aB (by simp [hd,cN,h]))) (λh2=>?_))
 refine aG (aC (λh=>aE (bE (by omega) (dS (aB (by simp [hd,cN,h]))))) (λh3=>?_))
 refine aG (aC (λh=>aE (bE (by omega) (dS (aB (by simp [hd,cN,h]))))) (λh5=>?_))
 refine aG (aC (λh=>aE (bE (by omega) (dS (aB (by simp [hd,cN,h]))))) (λh24=>?_))
 refine aG (aC (λh=>aK hi (λ_=>rfl) (aA rfl (bE (by omega) (dS (aB (by simp [hd,cN,h])))))) (λh6=>?_))
 refine aG (aC (λh=>aK hi (λ_=>rfl) (aA rfl (bE (by omega) (dS (aB (by simp [hd,cN,h])))))) (λh7=>?_))
 refine aG (aC (λh=>aK hi (λ_=>rfl) (aA rfl (aE (bE (by omega) (dS (aB (by simp [hd,cN,h]))))))) (λh17=>?_))
 refine aG (aC (λh=>aK hi (λ_=>rfl) (aA rfl (aE (bE (by omega) (dS (aB (by simp [hd,cN,h]))))))) (λh18=>?_))
 refine aG (aC (λh=>aK hi (λ_=>rfl) (aA rfl (aE (bE (by omega) (dS (aB (by simp [hd,cN,h]))))))) (λh19=>?_))
 refine aG (aC (λh=>dS (aB (by simp [hd,cN,h]))) (λh20=>?_))
 refine aG (aC (λh=>dS (aB (by simp [hd,cN,h]))) (λh21=>?_))
 refine aG (aC (λh=>dS (aB (by simp [hd,cN,h]))) (λh22=>?_))
 refine aG (aC (λh=>dS (aB (by simp [hd,cN,h]))) (λh23=>?_))
 refine dS (aQ (λhb=>aG (aB (by simp [hd,cN,hb,h1,h2,h3,h5,h24,h6,h7,h17,h18,h19,h20,h21,h22,h23]))) (λhb=>aB (by simp [hd,cN,hb,h1,h2,h3,h5,h24,h6,h7,h17,h18,h19,h20,h21,h22,h23])))
theorem aOe {ts : List ByteArray} {fs : List cY} {f : cY} {x : cG} (ht : ts.length≤2097152) (hf : fs.length≤2097152) (hlc : 0≤f.lc∧f.lc≤12) (hc : f.code.length≤1000) :
 Ok (λr=>r = [.bool (cN ts.length fs.length f.lc f.code.length x.o x.a)]) (aCw (.agg [.lst (ts.map PV.str),.lst (fs.map cY.pv)]) f.pv x.pv):=by
 rw [aHE]
 refine aD rfl (aA rfl (aA rfl (aD rfl (aA rfl (aA rfl (aA rfl (aD rfl (aA rfl (aA rfl ?_)))))))))
 refine aG (aC (λh=>aOc (aB (by simp [hd,cN,h]))) (λh1=>?_))
 refine aG (aC (λh=>fC (aB (by simp [hd,cN,h]))) (λh2=>?_))
 refine aG (aC (λh=>aE (gT (by omega) (aB (by simp [hd,cN,h])))) (λh3=>?_))
 refine aG (aC (λh=>aE (gT (by omega) (aB (by simp [hd,cN,h])))) (λh5=>?_))
 refine aG (aC (λh=>aE (gT (by omega) (aB (by simp [hd,cN,h])))) (λh24=>?_))
 refine aG (aC (λh=>gT (by omega) (aB (by simp [hd,cN,h]))) (λh6=>?_))
 refine aG (aC (λh=>gT (by omega) (aB (by simp [hd,cN,h]))) (λh7=>?_))
 refine aG (aC (λh=>aE (gT (by omega) (aB (by simp [hd,cN,h])))) (λh17=>?_))
 refine aG (aC (λh=>aE (gT (by omega) (aB (by simp [hd,cN,h])))) (λh18=>?_))
 refine aG (aC (λh=>aE (gT (by omega) (aB (by simp [hd,cN,h])))) (λh19=>?_))
 refine aG (aC (λh=>fC (aB (by simp [hd,cN,h]))) (λh20=>?_))
 refine aG (aC (λh=>gT (by omega) (aB (by simp [hd,cN,h]))) (λh21=>?_))
 refine aG (aC (λh=>gT (by omega) (aB (by simp [hd,cN,h]))) (λh22=>?_))
 refine aG (aC (λh=>fC (aB (by simp [hd,cN,h]))) (λh23=>?_))
 refine fC (aQ (λhb=>aG (aB (by simp [hd,cN,hb,h1,h2,h3,h5,h24,h6,h7,h17,h18,h19,h20,h21,h22,h23]))) (λhb=>aB (by simp [hd,cN,hb,h1,h2,h3,h5,h24,h6,h7,h17,h18,h19,h20,h21,h22,h23])))
section
variable {ts : List ByteArray} {fs : List cY} (ht : ts.length ≤ 2097152) (hf : fs.length ≤ 2097152)
include ht hf
theorem aI9 {i : Nat} (hi : i<fs.length) (hlc : 0≤fs[i].lc∧fs[i].lc≤12) (hc : fs[i].code.length≤1000) {b : Bool} (hb : Ok (λr=>r = [.bool b]) (lD (.int .i64 ((i : Int)+1)) (.lst (ts.map PV.str)) (.lst (fs.map cY.pv)))) :
 ∀ (j n : Nat),fs[i].code.length - n=j→n≤fs[i].code.length→
 Ok (λr=>r = [.bool ((fs[i].code.drop n).all (λx=>cN ts.length fs.length fs[i].lc fs[i].code.length x.o x.a)&&b)])
  (mK (.int .i64 i) (.int .i64 n) (.lst (ts.map PV.str)) (.lst (fs.map cY.pv)) (.int .i64 fs[i].p) (.int .i64 fs[i].lc) (.lst (fs[i].code.map cG.pv))):=by
 intro j
 induction j with
 | zero=>
   intro n h1 h2
   have : n=fs[i].code.length:=by omega
   rw [sB]
   refine aE (aH (aC (λh=>by omega) (λ_=>aL (by omega) ?_)))
   rw [this,List.drop_length]
   exact hb
 | succ j ih=>
   intro n h1 h2
   have hn : n<fs[i].code.length:=by omega
   rw [sB,yC hn]
   refine aE (aH (aC (λ_=>?_) (λh=>by omega)))
   refine aK hn (λ_=>rfl) (aI (aOd ht hf hi hlc hc) (λr hr=>?_))
   subst hr
   refine bC (aQ (λh=>aB ?_) (λh=>?_))
   ·have : cN ts.length fs.length fs[i].lc fs[i].code.length fs[i].code[n].o fs[i].code[n].a=false:=by simpa using h
    rw [this];rfl
   ·have : cN ts.length fs.length fs[i].lc fs[i].code.length fs[i].code[n].o fs[i].code[n].a=true:=by simpa using h
    rw [this,Bool.true_and]
    exact aL (by omega) (ih (n+1) (by omega) (by omega))
theorem aJa : ∀ (j i : Nat),fs.length - i=j→i≤fs.length→
 Ok (λr=>r = [.bool ((fs.drop i).all (uY ts.length fs.length))]) (lD (.int .i64 i) (.lst (ts.map PV.str)) (.lst (fs.map cY.pv))):=by
 intro j
 induction j with
 | zero=>
   intro i h1 h2
   have : i=fs.length:=by omega
   rw [sW]
   refine aE (aH (aC (λh=>by omega) (λ_=>aB ?_)))
   rw [this,List.drop_length];rfl
 | succ j ih=>
   intro i h1 h2
   have hi : i<fs.length:=by omega
   rw [sW,yC hi]
   refine aE (aH (aC (λ_=>?_) (λh=>by omega)))
   refine aK hi (λ_=>rfl) (aD rfl (aA rfl (aA rfl (aA rfl ?_))))
   refine dS (bC (aQ (λh=>aB ?_) (λh1'=>?_)))
   ·have : lM fs[i].p 0 6=false:=by simpa using h
    simp [uY,this]
   refine dS (bC (aQ (λh=>aB ?_) (λh2'=>?_)))
   ·have : lM fs[i].lc fs[i].p 12=false:=by simpa using h
    simp [uY,this]
   refine aE (dS (bC (aQ (λh=>aB ?_) (λh3'=>?_))))
   ·have : lM (fs[i].code.length : Int) 1 120=false:=by simpa using h
    simp [uY,this]
   have g1 : lM fs[i].p 0 6=true:=by simpa using h1'
   have g2 : lM fs[i].lc fs[i].p 12=true:=by simpa using h2'
   have g3 : lM (fs[i].code.length : Int) 1 120=true:=by simpa using h3'
   have q1:=g1
   have q2:=g2
   have q3:=g3
   simp only [lM,Bool.and_eq_true,decide_eq_true_eq] at q1 q2 q3
   refine (aI9 ht hf hi (by omega) (by omega) (ih (i+1) (by omega) (by omega)) _ 0 rfl (by omega)).mono ?_
   rintro r rfl
   rw [List.drop_zero]
   simp only [uY,g1,g2,g3,Bool.true_and]
theorem aHO (hs : ∀ t∈ts,t.size≤2097152) : ∀ (j i : Nat),ts.length - i=j→i≤ts.length→
 Ok (λr=>r = [.bool ((ts.drop i).all dA&&fs.all (uY ts.length fs.length))]) (nN (.int .i64 i) (.lst (ts.map PV.str)) (.lst (fs.map cY.pv))):=by
 intro j
 induction j with
 | zero=>
   intro i h1 h2
   have : i=ts.length:=by omega
   rw [sV]
   refine aE (aH (aC (λh=>by omega) (λ_=>?_)))
   rw [this,List.drop_length]
   exact aJa ht hf _ 0 rfl (by omega)
 | succ j ih=>
   intro i h1 h2
   have hi : i<ts.length:=by omega
   rw [sV,yC hi]
   refine aE (aH (aC (λ_=>?_) (λh=>by omega)))
   refine aK hi (λ_=>rfl) (aFH (hs _ (List.getElem_mem _)) (bC (aQ (λh=>aB ?_) (λh=>?_))))
   ·have : dA ts[i]=false:=by simpa using h
    rw [this];rfl
   ·have : dA ts[i]=true:=by simpa using h
    rw [this,Bool.true_and]
    exact aL (by omega) (ih (i+1) (by omega) (by omega))
end
theorem aHP {m : eM} (h : m.sized) : Ok (λr=>r = [.bool m.okB]) (wS m.pv):=by
 obtain ⟨ht,hf,hs,_⟩:=h
 rw [aEj]
 refine aD rfl (aA rfl (aA rfl (aE (dS (bC (aQ (λh=>aB ?_) (λh1=>?_)))))))
 ·have : lM (m.funcs.length : Int) 1 12=false:=by simpa using h
  simp [eM.okB,this]
 refine aE (cK (aC (λh=>aB ?_) (λh2=>?_)))
 ·have : ¬ ((m.texts.length : Int)≤20):=by omega
  simp only [eM.okB,decide_eq_false this,Bool.false_and,Bool.and_false]
 have g1 : lM (m.funcs.length : Int) 1 12=true:=by simpa using h1
 have g2 : (m.texts.length : Int)≤20:=by omega
 refine (aHO ht hf hs _ 0 rfl (by omega)).mono ?_
 rintro r rfl
 rw [List.drop_zero]
 simp only [eM.okB,g1,decide_eq_true g2,Bool.true_and]
section
variable {P : R → Prop} {k : PV → Option R} {kr : R → Option R}
theorem aNi {f : Nat} {caps : List PV} {xs : List cG} (hx : xs.length≤1000000000) (p : cG→Bool) (hp : ∀ x∈xs,Ok (λr=>r = [.bool (p x)]) (aZ f ([x.pv]++caps))) : ∀ (j i : Nat),xs.length - i=j→i≤xs.length→
 Ok (λr=>∃ n : Int,r = [.int .i64 n]∧(0≤n↔(xs.drop i).any p=true)) (dE (.lst (xs.map cG.pv)) (.fn f caps) (.int .i64 xs.length) (.int .i64 i)):=by
 intro j
 induction j with
 | zero=>
   intro i h1 h2
   have : i=xs.length:=by omega
   rw [gI]
   refine aH (aC (λh=>by omega) (λ_=>aB ⟨-1,rfl,?_⟩))
   rw [this,List.drop_length]
   simp
 | succ j ih=>
   intro i h1 h2
   have hi : i<xs.length:=by omega
   rw [gI]
   refine aH (aC (λ_=>?_) (λh=>by omega))
   refine aK hi (λ_=>rfl) (tV rfl (hp _ (List.getElem_mem _)) (λr hr=>?_))
   subst hr
   rw [List.drop_eq_getElem_cons hi,List.any_cons]
   refine aQ (λh=>aB ⟨i,rfl,?_⟩) (λh=>?_)
   ·rw [h];simp
   ·refine aL (by omega) ((ih (i+1) (by omega) (by omega)).mono ?_)
    rintro r ⟨n,hr,hn⟩
    exact ⟨n,hr,by rw [h,Bool.false_or];exact hn⟩
theorem aNj {f : Nat} {caps : List PV} {xs : List cG} (hx : xs.length≤1000000000) (p : cG→Bool) (hp : ∀ x∈xs,Ok (λr=>r = [.bool (p x)]) (aZ f ([x.pv]++caps))) (h : Ok P (kr [.bool (xs.any p)])) :
 Ok P (bd (eL (.lst (xs.map cG.pv)) (.fn f caps)) kr):=by
 refine aI (Q:=λr=>r = [.bool (xs.any p)]) ?_ (λr hr=>by rw [hr];exact h)
 rw [mH]
 refine aI (Q:=λr=>∃ n : Int,r = [.int .i64 n]∧(0≤n↔xs.any p=true)) ?_ ?_
 ·rw [nV]
  refine aE ?_
  exact aNi hx p hp _ 0 rfl (by omega)
 ·rintro r ⟨n,rfl,hn⟩
  refine eZ (aB ?_)
  have : decide (0≤n)=xs.any p:=by
   by_cases h : 0≤n
   ·rw [decide_eq_true h,hn.1 h]
   ·rw [decide_eq_false h]
    cases h2 : xs.any p with
    | false=>rfl
    | true=>exact absurd (hn.2 h2) h
  rw [this]
theorem aNk {f : Nat} {caps : List PV} {xs : List ByteArray} (hx : xs.length≤1000000000) (p : ByteArray→Bool) (hp : ∀ x∈xs,Ok (λr=>r = [.bool (p x)]) (aZ f ([.str x]++caps))) : ∀ (j i : Nat),xs.length - i=j→i≤xs.length→
 Ok (λr=>∃ n : Int,r = [.int .i64 n]∧(0≤n↔(xs.drop i).any p=true)) (dV (.lst (xs.map PV.str)) (.fn f caps) (.int .i64 xs.length) (.int .i64 i)):=by
 intro j
 induction j with
 | zero=>
   intro i h1 h2
   have : i=xs.length:=by omega
   rw [iM]
   refine aH (aC (λh=>by omega) (λ_=>aB ⟨-1,rfl,?_⟩))
   rw [this,List.drop_length]
   simp
 | succ j ih=>
   intro i h1 h2
   have hi : i<xs.length:=by omega
   rw [iM]
   refine aH (aC (λ_=>?_) (λh=>by omega))
   refine aK hi (λ_=>rfl) (tV rfl (hp _ (List.getElem_mem _)) (λr hr=>?_))
   subst hr
   rw [List.drop_eq_getElem_cons hi,List.any_cons]
   refine aQ (λh=>aB ⟨i,rfl,?_⟩) (λh=>?_)
   ·rw [h];simp
   ·refine aL (by omega) ((ih (i+1) (by omega) (by omega)).mono ?_)
    rintro r ⟨n,hr,hn⟩
    exact ⟨n,hr,by rw [h,Bool.false_or];exact hn⟩
theorem aEv {f : Nat} {caps : List PV} {xs : List ByteArray} (hx : xs.length≤1000000000) (p : ByteArray→Bool) (hp : ∀ x∈xs,Ok (λr=>r = [.bool (p x)]) (aZ f ([.str x]++caps))) (h : Ok P (kr [.bool (xs.any p)])) :
 Ok P (bd (dU (.lst (xs.map PV.str)) (.fn f caps)) kr):=by
 refine aI (Q:=λr=>r = [.bool (xs.any p)]) ?_ (λr hr=>by rw [hr];exact h)
 rw [oD]
 refine aI (Q:=λr=>∃ n : Int,r = [.int .i64 n]∧(0≤n↔xs.any p=true)) ?_ ?_
 ·rw [pU]
  refine aE ?_
  exact aNk hx p hp _ 0 rfl (by omega)
 ·rintro r ⟨n,rfl,hn⟩
  refine eZ (aB ?_)
  have : decide (0≤n)=xs.any p:=by
   by_cases h : 0≤n
   ·rw [decide_eq_true h,hn.1 h]
   ·rw [decide_eq_false h]
    cases h2 : xs.any p with
    | false=>rfl
    | true=>exact absurd (hn.2 h2) h
  rw [this]
end
theorem aJb {α : Type} (p : α→Bool) : ∀ (xs : List α),xs.any (λx=>!p x) = !xs.all p
 | []=>rfl
 | x::r=>by rw [List.any_cons,List.all_cons,aJb p r,Bool.not_and]
section
variable {ts : List ByteArray} {fs : List cY} (ht : ts.length ≤ 2097152) (hf : fs.length ≤ 2097152)
include ht hf
theorem aJc : ∀ (j i : Nat),fs.length - i=j→i≤fs.length→
 Ok (λr=>r = [.bool ((fs.drop i).all (uY ts.length fs.length))]) (nO (.lst (fs.map cY.pv)) (.int .i64 fs.length) (.int .i64 i) (.lst (ts.map PV.str)) (.lst (fs.map cY.pv))):=by
 intro j
 induction j with
 | zero=>
   intro i h1 h2
   have : i=fs.length:=by omega
   rw [sX]
   refine aH (aC (λh=>by omega) (λ_=>aB ?_))
   rw [this,List.drop_length];rfl
 | succ j ih=>
   intro i h1 h2
   have hi : i<fs.length:=by omega
   rw [sX,yC hi]
   refine aH (aC (λ_=>?_) (λh=>by omega))
   refine aK hi (λ_=>rfl) (aD rfl (aA rfl (aA rfl (aA rfl ?_))))
   refine fC (bC (aQ (λh=>aB ?_) (λh1'=>?_)))
   ·have : lM fs[i].p 0 6=false:=by simpa using h
    simp [uY,this]
   refine fC (bC (aQ (λh=>aB ?_) (λh2'=>?_)))
   ·have : lM fs[i].lc fs[i].p 12=false:=by simpa using h
    simp [uY,this]
   refine aE (fC (bC (aQ (λh=>aB ?_) (λh3'=>?_))))
   ·have : lM (fs[i].code.length : Int) 1 120=false:=by simpa using h
    simp [uY,this]
   have g1 : lM fs[i].p 0 6=true:=by simpa using h1'
   have g2 : lM fs[i].lc fs[i].p 12=true:=by simpa using h2'
   have g3 : lM (fs[i].code.length : Int) 1 120=true:=by simpa using h3'
   have q1:=g1
   have q2:=g2
   have q3:=g3
   simp only [lM,Bool.and_eq_true,decide_eq_true_eq] at q1 q2 q3
   refine aNj (by omega) (λx=>!cN ts.length fs.length fs[i].lc fs[i].code.length x.o x.a) (λx _=>?_) ?_
   ·show Ok _ (zZ _ _ _)
    rw [aCK]
    refine aD rfl (aA rfl (aA rfl (tW rfl (tW rfl (tW rfl (tW rfl (tW rfl ?_)))))))
    refine aI (aOe (f:=fs[i]) (x:=x) ht hf (by omega) (by omega)) (λr hr=>?_)
    subst hr
    exact bC (aB rfl)
   ·rw [aJb (λx : cG=>cN ts.length fs.length fs[i].lc fs[i].code.length x.o x.a)]
    refine eK rfl (aQ (λh=>aB ?_) (λh=>?_))
    ·have : fs[i].code.all (λx=>cN ts.length fs.length fs[i].lc fs[i].code.length x.o x.a)=false:=by simpa using h
     simp only [uY,this,Bool.and_false,Bool.false_and]
    ·have g4 : fs[i].code.all (λx=>cN ts.length fs.length fs[i].lc fs[i].code.length x.o x.a)=true:=by
      rw [Bool.not_eq_false'] at h
      exact h
     refine aL (by omega) ((ih (i+1) (by omega) (by omega)).mono ?_)
     rintro r rfl
     simp only [uY,g1,g2,g3,g4,Bool.true_and]
end
theorem aHQ {m : eM} (h : m.sized) : Ok (λr=>r = [.bool m.okB]) (wU m.pv):=by
 obtain ⟨ht,hf,hs,_⟩:=h
 rw [aEk]
 refine aD rfl (aA rfl (aA rfl (aE (fC (bC (aQ (λh=>aB ?_) (λh1=>?_)))))))
 ·have : lM (m.funcs.length : Int) 1 12=false:=by simpa using h
  simp [eM.okB,this]
 refine aE (cK (aC (λh=>aB ?_) (λh2=>?_)))
 ·have : ¬ ((m.texts.length : Int)≤20):=by omega
  simp only [eM.okB,decide_eq_false this,Bool.false_and,Bool.and_false]
 have g1 : lM (m.funcs.length : Int) 1 12=true:=by simpa using h1
 have g2 : (m.texts.length : Int)≤20:=by omega
 refine aEv (by omega) (λs=>!dA s) (λx hx=>?_) ?_
 ·show Ok _ (zY _)
  rw [aCJ]
  refine aI (aBA (hs x hx)) (λr hr=>?_)
  subst hr
  exact bC (aB rfl)
 ·rw [aJb dA]
  refine aQ (λh=>aB ?_) (λh=>?_)
  ·have : m.texts.all dA=false:=by rw [Bool.not_eq_true'] at h;exact h
   simp only [eM.okB,this,Bool.and_false,Bool.false_and]
  ·have g3 : m.texts.all dA=true:=by rw [Bool.not_eq_false'] at h;exact h
   refine aE ((aJc ht hf _ 0 rfl (by omega)).mono ?_)
   rintro r rfl
   rw [List.drop_zero]
   simp only [eM.okB,g1,decide_eq_true g2,g3,Bool.true_and]
theorem cJ {n : Nat} {F : Nat→Option R} {P : Nat→R→Prop} (he : Ok (P n) (F n)) (hs : ∀ i,i<n→Ok (P (i+1)) (F (i+1))→Ok (P i) (F i)) : ∀ i,i≤n→Ok (P i) (F i):=by
 have key : ∀ j i,n - i=j→i≤n→Ok (P i) (F i):=by
  intro j
  induction j with
  | zero=>intro i h1 h2;have : i=n:=by omega
          subst this;exact he
  | succ j ih=>intro i h1 h2;exact hs i (by omega) (ih (i+1) (by omega) (by omega))
 exact λi hi=>key _ i rfl hi
theorem uZ {σ : Type} {n : Nat} {F : Nat→σ→Option R} {P : R→Prop} (I : Nat→σ→Prop) (he : ∀ s,I n s→Ok P (F n s)) (hs : ∀ i s,i<n→I i s→(∀ s',I (i+1) s'→Ok P (F (i+1) s'))→Ok P (F i s)) : ∀ i s,i≤n→I i s→Ok P (F i s):=by
 have key : ∀ j i s,n - i=j→i≤n→I i s→Ok P (F i s):=by
  intro j
  induction j with
  | zero=>intro i s h1 h2 hI;have : i=n:=by omega
          subst this;exact he s hI
  | succ j ih=>intro i s h1 h2 hI;exact hs i s (by omega) hI (λs' hI'=>ih (i+1) s' (by omega) (by omega) hI')
 exact λi s hi hI=>key _ i s rfl hi hI
theorem aDC {α : Type} (n : Nat) (p : Nat→Option α) : (List.range' n (n - n)).findSome? p=none:=by rw [Nat.sub_self];rfl
theorem aBB {α : Type} {i n : Nat} (hi : i<n) (p : Nat→Option α) : (List.range' i (n - i)).findSome? p=(p i).or ((List.range' (i+1) (n - (i+1))).findSome? p):=by
 have : n - i=(n - (i+1))+1:=by omega
 rw [this,List.range'_succ,List.findSome?_cons]
 cases p i<;>rfl
def bI (l : List Int) : PV:=.lst (l.map (PV.int .i64))
section
variable {P : R → Prop} {k : PV → Option R} {l : List Int}
theorem cU (h : Ok P (k (.int .i64 l.length))) : Ok P (bd (PV.len (bI l)) k):=aE h
theorem cW {i : Nat} {kk : IntKind} (hi : i<l.length) (h : Ok P (k (.int .i64 l[i]))) : Ok P (bd (PV.at_ 1 false (bI l) (.int kk (i : Int))) k):=aK hi (λ_=>rfl) h
theorem eG {i : Int} {kk : IntKind} (h0 : 0≤i) (hi : i<l.length) (h : Ok P (k (bI l))) : Ok P (bd (PV.inb (bI l) (.int kk i)) k):=dC h0 (by rw [List.length_map];exact hi) h
theorem sH {i : Nat} {x : Int} {kk : IntKind} (hi : i<l.length) (h : Ok P (k (bI (l.set i x)))) : Ok P (bd (PV.setAt 1 false (bI l) (.int kk (i : Int)) (.int .i64 x)) k):=by
 refine aC1 (by omega) (by rw [List.length_map];omega) rfl ?_
 rw [Int.toNat_natCast,← List.map_set]
 exact h
theorem eV {ys : List Int} {e : Nat} (hb : (l.length+ys.length)*e≤140737488355328) (h : Ok P (k (bI (l++ys)))) : Ok P (bd (PV.cat 1 e false (bI l) (.lst (ys.map (PV.int .i64)))) k):=by
 refine fF (by simpa using hb) (λx hx=>?_) ?_
 ·obtain ⟨a,_,rfl⟩:=List.mem_map.1 hx;rfl
 ·rw [← List.map_append];exact h
theorem nG {i : Int} {kk : IntKind} (h0 : 0≤i) (h1 : i<l.length) (h : ∀ x,l[i.toNat]? = some x→Ok P (k (.int .i64 x))) : Ok P (bd (PV.at_ 1 false (bI l) (.int kk i)) k):=by
 refine tU h0 (by rw [List.length_map];exact h1) (λx hx=>?_) (λx _ hx=>?_)
 ·obtain ⟨a,_,rfl⟩:=List.mem_map.1 hx;rfl
 ·rw [List.getElem?_map] at hx
  cases hl : l[i.toNat]? with
  | none=>rw [hl] at hx;cases hx
  | some y=>rw [hl] at hx;cases hx;exact h y hl
end
def lI (fs : List cY) (i : Int) : Int:=(fs[i.toNat]?.map cY.p).getD 0
def bX (fs : List cY) (x : cG) : Int × Int:=
 if (1≤x.o∧x.o≤6)∨x.o=20 then (0,1)
 else if x.o=7∨x.o=9∨x.o=18∨x.o=19∨x.o=25∨x.o=26 then (1,0)
 else if x.o=8 then (1,2)
 else if x.o=10 then (2,2)
 else if 11≤x.o∧x.o≤15 then (2,1)
 else if x.o=16∨x.o=21 then (1,1)
 else if x.o=22 then (2,0)
 else if x.o=23∧0≤x.a∧x.a≤6 then (x.a+1,1)
 else if x.o=24∧0≤x.a∧x.a<fs.length then (lI fs x.a,1)
 else (0,0)
def aKn (fs : List cY) (x : cG) : R:=[.tup [.int .i64 (bX fs x).1,.int .i64 (bX fs x).2]]
theorem aA7 {fs : List cY} {x : cG} {a b : Int} (h : bX fs x=(a,b)) : [PV.tup [.int .i64 a,.int .i64 b]]=aKn fs x:=by
 unfold aKn;rw [h]
theorem bG {n lo hi : Int} : lM n lo hi=true↔lo≤n∧n≤hi:=by simp [lM]
theorem aPd {n lo hi : Int} : lM n lo hi=false↔¬ (lo≤n∧n≤hi):=by rw [← bG];simp
theorem vA {P : R→Prop} {n lo hi : Int} {x y : Option R} (h1 : lo≤n∧n≤hi→Ok P x) (h2 : ¬ (lo≤n∧n≤hi)→Ok P y) : Ok P (PV.ite (hd [.bool (lM n lo hi)]) x y):=
 aQ (λh=>h1 (bG.1 h)) (λh=>h2 (aPd.1 h))
section
variable {fs : List cY} {x : cG} {T : PV} (hf : fs.length ≤ 2097152)
include hf
theorem aLG {P : R→Prop} {k : PV→Option R} {i : Int} (h0 : 0≤i) (h1 : i<fs.length) (h : ∀ lc code,Ok P (k (.agg [.int .i64 (lI fs i),lc,code]))) : Ok P (bd (PV.at_ 3 true (.lst (fs.map cY.pv)) (.int .i64 i)) k):=by
 obtain ⟨n,rfl⟩:=Int.eq_ofNat_of_zero_le h0
 have hn : n<fs.length:=by omega
 refine aK hn (λ_=>rfl) ?_
 have : lI fs (n : Int)=fs[n].p:=by simp [lI,List.getElem?_eq_getElem hn]
 rw [← show PV.agg [.int .i64 (lI fs (n : Int)),.int .i64 fs[n].lc,.lst (fs[n].code.map cG.pv)]=fs[n].pv by rw [this];rfl]
 exact h _ _
set_option maxRecDepth 100000 in
set_option maxHeartbeats 4000000 in
theorem aIg : Ok (λr=>r=aKn fs x) (vS (.agg [T,.lst (fs.map cY.pv)]) x.pv):=by
 rw [aGJ]
 refine aD rfl (aA rfl (aA rfl (aD rfl (aA rfl (aA rfl ?_)))))
 repeat' (first
  | refine aG (aC (λ_=>?_) (λ_=>?_))
  | refine dS (vA (λ_=>?_) (λ_=>?_))
  | refine aE (bE (by omega) ?_)
  | refine aL (by omega) ?_
  | refine aLG hf (by omega) (by omega) (λ_ _=>?_)
  | refine aA rfl ?_
  | exact aB (aA7 (by
   unfold bX
   repeat (first | rfl | rw [if_pos (by omega)] | rw [if_neg (by omega)]))))
set_option maxRecDepth 100000 in
set_option maxHeartbeats 4000000 in
theorem aNl : Ok (λr=>r=aKn fs x) (aAT (.agg [T,.lst (fs.map cY.pv)]) x.pv):=by
 have c24 : ¬ (x.o=23∧0≤x.a∧x.a≤6)→¬ ((1≤x.o∧x.o≤16)∨(18≤x.o∧x.o≤22))→¬ (x.o=25∨x.o=26)→Ok (λr=>r=aKn fs x) (oZ T (.lst (fs.map cY.pv)) (.int .i64 x.o) (.int .i64 x.a)):=by
  intro h1 h2 h3
  rw [aCL]
  refine aG (aC (λ_=>?_) (λ_=>?_))
  ·refine aE (gT (by omega) (vA (λ_=>?_) (λ_=>?_)))
   ·rw [aCM]
    refine aLG hf (by omega) (by omega) (λ_ _=>aA rfl ?_)
    exact aB (aA7 (by
     unfold bX
     repeat (first | rfl | rw [if_pos (by omega)] | rw [if_neg (by omega)])))
   ·exact aB (aA7 (by
    unfold bX
    repeat (first | rfl | rw [if_pos (by omega)] | rw [if_neg (by omega)])))
  ·exact aB (aA7 (by
   unfold bX
   repeat (first | rfl | rw [if_pos (by omega)] | rw [if_neg (by omega)])))
 rw [aGN]
 refine aD rfl (aA rfl (aA rfl (aD rfl (aA rfl (aA rfl ?_)))))
 repeat' (first
  | exact c24 (by omega) (by omega) (by omega)
  | refine aG (aC (λ_=>?_) (λ_=>?_))
  | refine fC (vA (λ_=>?_) (λ_=>?_))
  | refine aL (by omega) ?_
  | exact aB (aA7 (by
   unfold bX
   repeat (first | rfl | rw [if_pos (by omega)] | rw [if_neg (by omega)]))))
end
def hU (x : cG) (pc : Int) : List Int:=(if x.o≠17∧x.o≠25 then [pc+1] else [])++(if x.o=17∨x.o=18∨x.o=19 then [x.a] else [])
theorem aMq {P : R→Prop} {k : PV→Option R} {a : Int} (h : Ok P (k (bI [a]))) : Ok P (bd (PV.cat 1 8 false (.lst []) (.lst [.int .i64 a])) k):=
 eV (l:=[]) (ys:=[a]) (by simp) h
theorem aPe {P : R→Prop} {k : PV→Option R} {a b : Int} (h : Ok P (k (bI [a,b]))) : Ok P (bd (PV.cat 1 8 false (.lst []) (.lst [.int .i64 a,.int .i64 b])) k):=
 eV (l:=[]) (ys:=[a,b]) (by simp) h
theorem aP9 {P : R→Prop} {k : PV→Option R} {a b : Int} (h : Ok P (k (bI [a,b]))) : Ok P (bd (PV.cat 1 8 false (bI [a]) (bI [b])) k):=
 eV (l:=[a]) (ys:=[b]) (by simp) h
theorem aQa {P : R→Prop} {k : PV→Option R} {b : Int} (h : Ok P (k (bI [b]))) : Ok P (bd (PV.cat 1 8 false (.lst []) (bI [b])) k):=
 eV (l:=[]) (ys:=[b]) (by simp) h
theorem aIh {x : cG} {pc : Int} (hp : 0≤pc∧pc≤1000000000) : Ok (λr=>r = [bI (hU x pc)]) (tH x.pv (.int .i64 pc)):=by
 rw [aFq]
 refine aD rfl (aA rfl (aA rfl ?_))
 repeat' (first
  | (rw [aCG];refine aL (by omega) ?_)
  | rw [aCH]
  | rw [aCI]
  | refine aMq ?_
  | refine aP9 ?_
  | refine aQa ?_
  | refine aG (aC (λ_=>?_) (λ_=>?_))
  | refine bQ (aO (λ_=>?_) (λ_=>?_))
  | (exfalso;omega)
  | exact aB (congrArg (λl=>[bI l]) (by unfold hU;repeat (first | rfl | rw [if_pos (by omega)] | rw [if_neg (by omega)])))
  | exact aB (congrArg (λl=>[bI l]) (a₁:=[]) (by unfold hU;repeat (first | rfl | rw [if_pos (by omega)] | rw [if_neg (by omega)]))))
theorem aIi {x : cG} {pc : Int} (hp : 0≤pc∧pc≤1000000000) : Ok (λr=>r = [bI (hU x pc)]) (tI x.pv (.int .i64 pc)):=by
 rw [aFr]
 refine aD rfl (aA rfl (aA rfl ?_))
 repeat' (first
  | refine aMq ?_
  | refine aPe ?_
  | refine aL (by omega) ?_
  | refine aG (aC (λ_=>?_) (λ_=>?_))
  | exact aB (congrArg (λl=>[bI l]) (by unfold hU;repeat (first | rfl | rw [if_pos (by omega)] | rw [if_neg (by omega)])))
  | exact aB (congrArg (λl=>[bI l]) (a₁:=[]) (by unfold hU;repeat (first | rfl | rw [if_pos (by omega)] | rw [if_neg (by omega)]))))
end
noncomputable section
open Go Go.IntWalk
attribute [local irreducible] bd PV.ite PV.guardFlat PV.guardOwn PV.whole PV.one PV.cell PV.sub PV.at_ PV.len PV.slen PV.chr PV.beq PV.peq PV.ceq PV.bin PV.neg PV.not PV.conv PV.cut PV.scut PV.cat PV.setAt PV.setCell PV.ncopy PV.copyIn PV.zeros PV.toStr PV.toBytes PV.deref PV.isPtr PV.comp PV.inb PV.off PV.imin PV.imax PV.sel PV.apply PV.isLst PV.isInt PV.ix PV.nilT
structure bY where
 k : Int
 n : Int
 s : ByteArray
def bY.pv (v : bY) : PV:=.agg [.int .i64 v.k,.int .i64 v.n,.str v.s]
def dL : bY:=⟨0,0,bs []⟩
def aAm (n : Int) : bY:=⟨1,n,bs []⟩
def tD (b : Bool) : bY:=⟨2,if b then 1 else 0,bs []⟩
def aDD (s : ByteArray) : bY:=⟨3,0,s⟩
def aPf (n : Int) : bY:=⟨4,n,bs []⟩
def aLH (n : Int) : bY:=⟨5,n,bs []⟩
def dF (n : Int) : Bool:=lM n (-1000000000) 1000000000
def jL (a b : ByteArray) : Bool:=a.toList==b.toList
theorem aGT (a : ByteArray) : jL a a=true:=by simp [jL]
def I64 (n : Int) : Prop:=-9223372036854775808≤n∧n≤9223372036854775807
section
variable {P : R → Prop} {k : PV → Option R} {kr : R → Option R} {a b : ByteArray}
theorem aPg (h : Ok P (k (.bool (!jL a b)))) : Ok P (bd (PV.bin .neq (.str a) (.str b)) k):=dM _ (by simp only [PV.bin,PV.strBin];rfl) h
theorem tM (h : Ok P (k (.bool (jL a b)))) : Ok P (bd (PV.bin .eql (.str a) (.str b)) k):=dM _ (by simp only [PV.bin,PV.strBin];rfl) h
theorem aPh (h : Ok P (k (.bool (PV.bytesLt a.toList b.toList)))) : Ok P (bd (PV.bin .lss (.str a) (.str b)) k):=dM _ (by simp only [PV.bin,PV.strBin]) h
theorem wI (hb : a.size+b.size≤4611686018427387904) (h : Ok P (k (.str (a++b)))) : Ok P (bd (PV.bin .add (.str a) (.str b)) k):=dM _ (by simp only [PV.bin,PV.strBin];rw [if_pos (by omega)]) h
theorem aDE {n : Int} (h : Ok P (kr [.bool (dF n)])) : Ok P (bd (iS (.int .i64 n)) kr):=by
 refine aI (Q:=λr=>r = [.bool (dF n)]) ?_ (λr hr=>by rw [hr];exact h)
 rw [aGK]
 exact dS (aB rfl)
theorem yD {n : Int} (h : Ok P (kr [(aAm n).pv])) : Ok P (bd (gC (.int .i64 n)) kr):=by
 refine aI (Q:=λr=>r = [(aAm n).pv]) ?_ (λr hr=>by rw [hr];exact h)
 rw [aGO]
 exact aV rfl (aB rfl)
theorem pT {c : Bool} (h : Ok P (kr [(tD c).pv])) : Ok P (bd (gQ (.bool c)) kr):=by
 refine aI (Q:=λr=>r = [(tD c).pv]) ?_ (λr hr=>by rw [hr];exact h)
 rw [aFv]
 exact aQ (λh=>aB (by rw [h];rfl)) (λh=>aB (by rw [h];rfl))
end
def cA (nf recs : Int) (v : bY) : Bool:=
 if v.k≠3∧jL v.s (bs [])=false then false
 else if v.k=0 then decide (v.n=0)
 else if v.k=1 then dF v.n
 else if v.k=2 then lM v.n 0 1
 else if v.k=3 then decide (v.n=0)&&dA v.s
 else if v.k=4 then decide (0≤v.n)&&decide (v.n<recs)
 else if v.k=5 then lM v.n 0 (nf - 1)
 else false
theorem vB {fs : List cY} {T : PV} {v : bY} {recs : Int} (hf : fs.length≤2097152) (hs : v.s.size≤2097152) : Ok (λr=>r = [.bool (cA fs.length recs v)]) (uI (.agg [T,.lst (fs.map cY.pv)]) v.pv (.int .i64 recs)):=by
 rw [aHC]
 refine aD rfl (aA rfl (aA rfl (aD rfl (aA rfl (aA rfl (aA rfl ?_))))))
 refine bQ (aO (λh3=>?_) (λh3=>?_))
 ·refine aPg (aQ (λh=>aB ?_) (λh=>?_))
  ·have h : jL v.s (bs [])=false:=by simpa using h
   unfold cA
   rw [if_pos ⟨h3,h⟩]
  have h : jL v.s (bs [])=true:=by simpa using h
  repeat' (first
   | refine aG (aC (λheq=>?_) (λheq=>?_))
   | refine eZ (aC (λhge=>?_) (λhge=>?_))
   | exact aDE (aB (by unfold cA;rw [if_neg (by rw [h];simp)];repeat (first | rfl | rw [if_pos (by assumption)] | rw [if_neg (by assumption)])))
   | exact dS (aB (by unfold cA;rw [if_neg (by rw [h];simp)];repeat (first | rfl | rw [if_pos (by assumption)] | rw [if_neg (by assumption)])))
   | exact aE (bE (by omega) (dS (aB (by unfold cA;rw [if_neg (by rw [h];simp)];repeat (first | rfl | rw [if_pos (by assumption)] | rw [if_neg (by assumption)])))))
   | (exfalso;omega)
   | exact aG (aB (by unfold cA;rw [if_neg (by rw [h];simp)];repeat (first | rfl | rw [if_pos (by assumption)] | rw [if_neg (by assumption)])))
   | exact aH (aB (by unfold cA;rw [if_neg (by rw [h];simp)];repeat (first | rfl | rw [decide_eq_true hge,Bool.true_and] | rw [if_pos (by assumption)] | rw [if_neg (by assumption)])))
   | exact aB (by unfold cA;rw [if_neg (by rw [h];simp)];repeat (first | rfl | rw [decide_eq_false hge,Bool.false_and] | rw [if_pos (by assumption)] | rw [if_neg (by assumption)])))
 ·have hk : ¬ (v.k≠3∧jL v.s (bs [])=false):=λh=>h.1 h3
  repeat' (first
   | refine aG (aC (λheq=>?_) (λheq=>?_))
   | (exfalso;omega)
   | exact aFH hs (aB (by unfold cA;rw [if_neg hk];repeat (first | rfl | rw [if_pos (by assumption)] | rw [if_neg (by omega)] | rw [decide_eq_true heq,Bool.true_and])))
   | exact aB (by unfold cA;rw [if_neg hk];repeat (first | rfl | rw [if_pos (by assumption)] | rw [if_neg (by omega)] | rw [decide_eq_false heq,Bool.false_and])))
def aFy (o a b : Int) : Int:=if o=12 then a - b else if o=13 then a*b else a+b
def aDF (o : Int) (a b : bY) : bY × Int:=
 if a.k≠1 then (dL,1) else if b.k≠1 then (dL,1) else if dF a.n=false then (dL,2) else if dF b.n=false then (dL,2)
 else if dF (aFy o a.n b.n)=false then (dL,2) else (aAm (aFy o a.n b.n),0)
def aKo (a b : bY) : bY:=tD (decide (a.k=b.k)&&(decide (a.n=b.n)&&jL a.s b.s))
def yI (o : Int) (a b : bY) : bY × Int:=
 if o=11 then (if a.k=3∧b.k=3 then (if (60 : Int)<a.s.size+b.s.size then (dL,3) else (aDD (a.s++b.s),0)) else aDF 11 a b)
 else if o=12 then aDF 12 a b
 else if o=13 then aDF 13 a b
 else if o=14 then (if a.k=3∧b.k=3 then (tD (PV.bytesLt a.s.toList b.s.toList),0) else if a.k=1∧b.k=1 then (tD (decide (a.n<b.n)),0) else (dL,1))
 else (aKo a b,0)
def opR (p : bY × Int) : R:=[.tup [p.1.pv,.int .i64 p.2]]
theorem aQb {a b : Int} (ha : dF a=true) (hb : dF b=true) : -1000000000000000000≤a*b∧a*b≤1000000000000000000:=by
 have ha:=bG.1 ha
 have hb:=bG.1 hb
 have h : (a*b).natAbs≤1000000000*1000000000:=by
  rw [Int.natAbs_mul]
  exact Nat.mul_le_mul (by omega) (by omega)
 omega
theorem aLI {o a b : Int} (ho : o=11∨o=12∨o=13) : Ok (λr=>r=(if dF a=false then [.tup [.int .i64 0,.int .i64 2]] else if dF b=false then [.tup [.int .i64 0,.int .i64 2]]
 else if dF (aFy o a b)=false then [.tup [.int .i64 0,.int .i64 2]] else [.tup [.int .i64 (aFy o a b),.int .i64 0]])) (xA (.int .i64 o) (.int .i64 a) (.int .i64 b)):=by
 rw [aEs]
 refine aDE (bC (aQ (λh=>aB ?_) (λh1=>?_)))
 ·rw [if_pos (by simpa using h)]
 have h1 : dF a=true:=by simpa using h1
 rw [if_neg (by rw [h1];simp)]
 refine aDE (bC (aQ (λh=>aB ?_) (λh2=>?_)))
 ·rw [if_pos (by simpa using h)]
 have h2 : dF b=true:=by simpa using h2
 rw [if_neg (by rw [h2];simp)]
 have ga:=bG.1 h1
 have gb:=bG.1 h2
 have gm:=aQb h1 h2
 have fin : ∀ n : Int,n=aFy o a b→Ok (λr=>r=(if dF (aFy o a b)=false then [.tup [.int .i64 0,.int .i64 2]] else [.tup [.int .i64 (aFy o a b),.int .i64 0]]))
  (bd (iS (.int .i64 n)) λr=>bd (PV.not (hd r)) λv=>PV.ite v (some [.tup [.int .i64 0,.int .i64 2]]) (some [.tup [.int .i64 n,.int .i64 0]])):=by
  intro n hn
  subst hn
  refine aDE (bC (aQ (λh=>aB ?_) (λh=>aB ?_)))
  ·rw [if_pos (by simpa using h)]
  ·rw [if_neg (by simpa using h)]
 refine aL (by omega) (aG (aC (λh=>bE (by omega) ?_) (λh12=>aG (aC (λh=>kX (by omega) ?_) (λh13=>?_)))))
 ·exact fin _ (by unfold aFy;rw [if_pos h])
 ·exact fin _ (by unfold aFy;rw [if_neg h12,if_pos h])
 ·exact fin _ (by unfold aFy;rw [if_neg h12,if_neg h13])
theorem zF {o : Int} {a b : bY} (ho : o=11∨o=12∨o=13) : Ok (λr=>r=opR (aDF o a b)) (jQ (.int .i64 o) a.pv b.pv):=by
 rw [aCT]
 refine aD rfl (aA rfl (aA rfl (aA rfl (aD rfl (aA rfl (aA rfl (aA rfl ?_)))))))
 refine bQ (aO (λh=>aB ?_) (λh1=>bQ (aO (λh=>aB ?_) (λh2=>?_))))
 ·unfold aDF;rw [if_pos h];rfl
 ·unfold aDF;rw [if_neg (by simpa using h1),if_pos h];rfl
 refine aI (aLI ho) (λr hr=>?_)
 have e : aDF o a b=if dF a.n=false then (dL,2) else if dF b.n=false then (dL,2) else if dF (aFy o a.n b.n)=false then (dL,2) else (aAm (aFy o a.n b.n),0):=by
  unfold aDF;rw [if_neg (by simpa using h1),if_neg (by simpa using h2)]
 rw [e]
 have trap : ∀ {x : R},x = [.tup [.int .i64 0,.int .i64 2]]→r=x→Ok (λr=>r=opR (dL,2)) (bd (PV.comp (hd r) 0) λv2185=>bd (PV.comp (hd r) 1) λv2186=>bd (PV.bin .neq v2186 (.int .i64 0)) λv2187=>PV.ite v2187 (some [(.tup [(.agg [(.int .i64 0),(.int .i64 0),(.str (bs []))]),v2186])]) (bd (gC v2185) λr2188=>bd (PV.whole 3 (hd r2188)) λv2189=>bd (PV.cell v2189 0) λv2190=>bd (PV.cell v2189 1) λv2191=>bd (PV.cell v2189 2) λv2192=>some [(.tup [(.agg [v2190,v2191,v2192]),(.int .i64 0)])])):=by
  intro x hx hr
  subst hx;subst hr
  exact bF rfl (bF rfl (bQ (aO (λ_=>aB rfl) (λh=>by omega))))
 split at hr
 ·rename_i h;rw [if_pos h];exact trap rfl hr
 rename_i h3
 rw [if_neg h3]
 split at hr
 ·rename_i h;rw [if_pos h];exact trap rfl hr
 rename_i h4
 rw [if_neg h4]
 split at hr
 ·rename_i h;rw [if_pos h];exact trap rfl hr
 rename_i h5
 rw [if_neg h5]
 subst hr
 refine bF rfl (bF rfl (bQ (aO (λh=>absurd rfl h) (λ_=>?_))))
 exact yD (aD rfl (aA rfl (aA rfl (aA rfl (aB rfl)))))
theorem qO {P : R→Prop} {k : R→Option R} {o : Option R} {p : bY × Int} (h : Ok (λr=>r=opR p) o) (hk : Ok P (k [.tup [.agg [.int .i64 p.1.k,.int .i64 p.1.n,.str p.1.s],.int .i64 p.2]])) : Ok P (bd o k):=
 aI h (λr hr=>by subst hr;exact hk)
set_option maxRecDepth 100000 in
theorem aDG {o : Int} {a b : bY} (ho : 11≤o∧o≤15) (hs : a.s.size≤2097152∧b.s.size≤2097152) : Ok (λr=>r=opR (yI o a b)) (pG (.int .i64 o) a.pv b.pv):=by
 have less3 : ¬ (a.k=3∧b.k=3)→Ok (λr=>r=opR (if a.k=1∧b.k=1 then (tD (decide (a.n<b.n)),0) else (dL,1))) (qE (.int .i64 a.k) (.int .i64 a.n) (.str a.s) (.int .i64 b.k) (.int .i64 b.n) (.str b.s) (.int .i64 0) (.int .i64 0) (.str (bs []))):=by
  intro _
  rw [aDA]
  refine aG (aC (λh1=>aG (aC (λh2=>?_) (λh2=>aB ?_))) (λh1=>aB ?_))
  ·rw [aDB,if_pos ⟨h1,h2⟩]
   exact aH (pT (aD rfl (aA rfl (aA rfl (aA rfl (aB rfl))))))
  ·rw [if_neg (λh=>h2 h.2)];rfl
  ·rw [if_neg (λh=>h1 h.1)];rfl
 have less : Ok (λr=>r=opR (yI 14 a b)) (aAU a.pv b.pv):=by
  rw [aGP]
  refine aD rfl (aA rfl (aA rfl (aA rfl (aD rfl (aA rfl (aA rfl (aA rfl ?_)))))))
  have e : yI 14 a b=(if a.k=3∧b.k=3 then (tD (PV.bytesLt a.s.toList b.s.toList),0) else if a.k=1∧b.k=1 then (tD (decide (a.n<b.n)),0) else (dL,1)):=rfl
  rw [e]
  refine aG (aC (λh1=>aG (aC (λh2=>?_) (λh2=>?_))) (λh1=>?_))
  ·rw [aDz,if_pos ⟨h1,h2⟩]
   exact aPh (pT (aD rfl (aA rfl (aA rfl (aA rfl (aB rfl))))))
  ·rw [if_neg (λh=>h2 h.2)];exact less3 (λh=>h2 h.2)
  ·rw [if_neg (λh=>h1 h.1)];exact less3 (λh=>h1 h.1)
 have add : Ok (λr=>r=opR (yI 11 a b)) (aCA a.pv b.pv):=by
  rw [aHL]
  refine aD rfl (aA rfl (aA rfl (aA rfl (aD rfl (aA rfl (aA rfl (aA rfl ?_)))))))
  have e : yI 11 a b=(if a.k=3∧b.k=3 then (if (60 : Int)<a.s.size+b.s.size then (dL,3) else (aDD (a.s++b.s),0)) else aDF 11 a b):=rfl
  rw [e]
  have hn:=zF (o:=11) (a:=a) (b:=b) (by omega)
  refine aG (aC (λh1=>aG (aC (λh2=>?_) (λh2=>?_))) (λh1=>?_))
  ·rw [aEr,if_pos ⟨h1,h2⟩]
   refine eR (eR (bE (by omega) (cK (aC (λh=>aB ?_) (λh=>?_)))))
   ·rw [if_pos (by omega)];rfl
   ·rw [if_neg (by omega)]
    exact wI (by omega) (aV rfl (aB rfl))
  ·rw [if_neg (λh=>h2 h.2)]
   exact qO hn (bF rfl (bF rfl (aD rfl (aA rfl (aA rfl (aA rfl (aB rfl)))))))
  ·rw [if_neg (λh=>h1 h.1)]
   exact qO hn (bF rfl (bF rfl (aD rfl (aA rfl (aA rfl (aA rfl (aB rfl)))))))
 rw [aHJ]
 refine aD rfl (aA rfl (aA rfl (aA rfl (aD rfl (aA rfl (aA rfl (aA rfl ?_)))))))
 refine aG (aC (λh=>?_) (λh11=>aG (aC (λh=>?_) (λh12=>aG (aC (λh=>?_) (λh13=>aG (aC (λh=>?_) (λh14=>?_))))))))
 ·subst h
  exact qO add (bF rfl (bF rfl (aD rfl (aA rfl (aA rfl (aA rfl (aB rfl)))))))
 ·subst h
  have : Ok (λr=>r=opR (yI 12 a b)) (aCB a.pv b.pv):=by
   rw [aHM]
   refine aD rfl (aA rfl (aA rfl (aA rfl (aD rfl (aA rfl (aA rfl (aA rfl ?_)))))))
   exact qO (zF (o:=12) (by omega)) (bF rfl (bF rfl (aD rfl (aA rfl (aA rfl (aA rfl (aB rfl)))))))
  exact qO this (bF rfl (bF rfl (aD rfl (aA rfl (aA rfl (aA rfl (aB rfl)))))))
 ·subst h
  have : Ok (λr=>r=opR (yI 13 a b)) (aCC a.pv b.pv):=by
   rw [aHN]
   refine aD rfl (aA rfl (aA rfl (aA rfl (aD rfl (aA rfl (aA rfl (aA rfl ?_)))))))
   exact qO (zF (o:=13) (by omega)) (bF rfl (bF rfl (aD rfl (aA rfl (aA rfl (aA rfl (aB rfl)))))))
  exact qO this (bF rfl (bF rfl (aD rfl (aA rfl (aA rfl (aA rfl (aB rfl)))))))
 ·subst h
  exact qO less (bF rfl (bF rfl (aD rfl (aA rfl (aA rfl (aA rfl (aB rfl)))))))
 ·have h15 : o=15:=by omega
  subst h15
  have same : Ok (λr=>r = [(aKo a b).pv]) (aAX a.pv b.pv):=by
   rw [aGQ]
   refine aD rfl (aA rfl (aA rfl (aA rfl (aD rfl (aA rfl (aA rfl (aA rfl ?_)))))))
   refine aG (aC (λh1=>aG (aC (λh2=>tM ?_) (λh2=>?_))) (λh1=>?_))
   ·refine pT (aD rfl (aA rfl (aA rfl (aA rfl (aB ?_)))))
    unfold aKo;rw [decide_eq_true h1,decide_eq_true h2];rfl
   ·refine pT (aD rfl (aA rfl (aA rfl (aA rfl (aB ?_)))))
    unfold aKo;rw [decide_eq_true h1,decide_eq_false h2];rfl
   ·refine pT (aD rfl (aA rfl (aA rfl (aA rfl (aB ?_)))))
    unfold aKo;rw [decide_eq_false h1];rfl
  refine aI same (λr hr=>?_)
  subst hr
  exact aD rfl (aA rfl (aA rfl (aA rfl (aB rfl))))
def aCV (v : bY) : bY × Int:=if v.k≠2 then (dL,1) else (tD (!decide (v.n=1)),0)
theorem aOf {v : bY} : Ok (λr=>r=opR (aCV v)) (aCz v.pv):=by
 rw [aHK]
 refine aD rfl (aA rfl (aA rfl (aA rfl ?_)))
 refine bQ (aO (λh=>aB ?_) (λh=>?_))
 ·unfold aCV;rw [if_pos h];rfl
 ·refine bQ (pT (aD rfl (aA rfl (aA rfl (aA rfl (aB ?_))))))
  unfold aCV;rw [if_neg (by simpa using h)];rfl
def dig (n : Int) : ByteArray:=⟨#[UInt8.ofNat (48+n).toNat]⟩
def aA8 : Nat→Int→ByteArray
 | 0,n=>dig n
 | j+1,n=>if n<10 then dig n else aA8 j (n / 10)++dig (n % 10)
def nX (n : Int) : ByteArray:=
 if n<0 then (if n < -9 then bs [45]++aA8 18 (-(n.tdiv 10))++aA8 18 (-(n.tmod 10)) else bs [45]++aA8 18 (-n)) else aA8 18 n
theorem aDH (n : Int) : (dig n).size=1:=rfl
theorem hX : ∀ (j : Nat) (n : Int),(aA8 j n).size≤j+1
 | 0,n=>by simp [aA8,aDH]
 | j+1,n=>by
   unfold aA8
   split
   ·rw [aDH];omega
   ·rw [ByteArray.size_append,aDH]
    have:=hX j (n / 10)
    omega
theorem aBC : ∀ (j : Nat) (n : Int),0≤n→n<10 ^ (j+1)→n≤9223372036854775807→j≤100→Ok (λr=>r = [.str (aA8 j n)]) (fB (.int .i64 n)):=by
 have one : ∀ {P : R→Prop} {k : PV→Option R} {n : Int},0≤n→n<10→Ok P (k (.str (dig n)))→Ok P (bd (PV.bin .add (.int .i64 48) (.int .i64 n)) λv=>bd (PV.conv .u8 v) λv=>bd (PV.cat 1 1 false (.lst []) (.lst [v])) λv=>bd (PV.toStr v) k):=by
  intro P k n h1 h2 h
  refine aL (by omega) (aQo (by omega) ?_)
  refine iO (by simp) (λx hx=>by simp only [List.mem_singleton] at hx;subst hx;rfl) ?_
  exact aNV (l:=[48+n]) h
 intro j
 induction j with
 | zero=>
   intro n h1 h2 _ _
   rw [qM]
   refine aH (aC (λh=>by omega) (λ_=>aH (aC (λh=>?_) (λh=>by omega))))
   exact one h1 h (aB rfl)
 | succ j ih=>
   intro n h1 h2 hj hjj
   rw [qM]
   have hp2 : (10 : Int) ^ (j+1+1)=10 ^ (j+1)*10:=Int.pow_succ _ _
   refine aH (aC (λh=>by omega) (λ_=>aH (aC (λh=>?_) (λh=>?_))))
   ·refine one h1 h (aB ?_)
    unfold aA8;rw [if_pos h]
   ·refine kY h1 (by omega) hj ?_
    refine aI (ih (n / 10) (by omega) (by omega) (by omega) (by omega)) (λr hr=>?_)
    subst hr
    refine iW h1 (by omega) (one (by omega) (by omega) ?_)
    have:=hX j (n / 10)
    refine wI (by rw [aDH];omega) (aB ?_)
    show _ = [PV.str (aA8 (j+1) n)]
    rw [show aA8 (j+1) n=aA8 j (n / 10)++dig (n % 10) by conv=>lhs;unfold aA8
                                                         rw [if_neg h]]
theorem aPi {P : R→Prop} {k : PV→Option R} {a b : Int} (hb : b≠0) (hr : I64 (a.tdiv b)) (h : Ok P (k (.int .i64 (a.tdiv b)))) : Ok P (bd (PV.bin .quo (.int .i64 a) (.int .i64 b)) k):=
 dM _ (by rw [kN (by simp) (by simp)];simp only [PV.intBin];rw [if_neg hb,i64_in _ hr]) h
theorem aPj {P : R→Prop} {k : PV→Option R} {a b : Int} (hb : b≠0) (h : Ok P (k (.int .i64 (a.tmod b)))) : Ok P (bd (PV.bin .rem (.int .i64 a) (.int .i64 b)) k):=
 dM _ (by rw [kN (by simp) (by simp)];simp only [PV.intBin];rw [if_neg hb]) h
theorem aOg {n : Int} (h : n<0) : n.tdiv 10 = -((-n) / 10)∧n.tmod 10 = -((-n) % 10):=by
 have e : n = -(-n):=by omega
 constructor
 ·rw [e,Int.neg_tdiv,Int.tdiv_eq_ediv_of_nonneg (by omega)]
  simp
 ·rw [e,Int.neg_tmod,Int.tmod_eq_emod_of_nonneg (by omega)]
  simp
theorem aDI (n : Int) : (nX n).size≤40:=by
 have h45 : (bs [45]).size=1:=rfl
 unfold nX
 split
 ·split
  ·rw [ByteArray.size_append,ByteArray.size_append,h45]
   have h1:=hX 18 (-(n.tdiv 10))
   have h2:=hX 18 (-(n.tmod 10))
   omega
  ·rw [ByteArray.size_append,h45]
   have h1:=hX 18 (-n)
   omega
 ·have h1:=hX 18 n
  omega
theorem aA9 {n : Int} (hn : -9223372036854775807≤n∧n≤9223372036854775807) : Ok (λr=>r = [.str (nX n)]) (fB (.int .i64 n)):=by
 have big : ∀ {x : Int},x≤9223372036854775807→x<10 ^ (18+1):=λh=>by
  have : (10 : Int) ^ (18+1)=10000000000000000000:=by decide
  omega
 have h45 : (bs [45]).size=1:=rfl
 by_cases h : n<0
 ·obtain ⟨e1,e2⟩:=aOg h
  rw [qM]
  refine aH (aC (λ_=>?_) (λh'=>absurd h h'))
  refine aH (aC (λh9=>?_) (λh9=>?_))
  ·refine aPi (by omega) (by unfold I64;omega) (jN (by omega) ?_)
   have z1 : 0 - n.tdiv 10 = -(n.tdiv 10):=by omega
   have z2 : 0 - n.tmod 10 = -(n.tmod 10):=by omega
   rw [z1]
   have s1:=hX 18 (-(n.tdiv 10))
   have s2:=hX 18 (-(n.tmod 10))
   refine aI (aBC 18 (-(n.tdiv 10)) (by omega) (big (by omega)) (by omega) (by omega)) (λr hr=>?_)
   subst hr
   refine wI (by omega) (aPj (by omega) (jN (by omega) ?_))
   rw [z2]
   refine aI (aBC 18 (-(n.tmod 10)) (by omega) (big (by omega)) (by omega) (by omega)) (λr hr=>?_)
   subst hr
   refine wI (by rw [ByteArray.size_append];omega) (aB ?_)
   unfold nX
   rw [if_pos h,if_pos h9]
  ·refine jN (by omega) ?_
   have z1 : 0 - n = -n:=by omega
   rw [z1]
   have s1:=hX 18 (-n)
   refine aI (aBC 18 (-n) (by omega) (big (by omega)) (by omega) (by omega)) (λr hr=>?_)
   subst hr
   refine wI (by omega) (aB ?_)
   unfold nX
   rw [if_pos h,if_neg h9]
 ·refine (aBC 18 n (by omega) (big hn.2) hn.2 (by omega)).mono ?_
  rintro r rfl
  unfold nX
  rw [if_neg h]
end
noncomputable section
open Go
attribute [local irreducible] bd PV.ite PV.guardFlat PV.guardOwn PV.whole PV.one PV.cell PV.sub PV.at_ PV.len PV.slen PV.chr PV.beq PV.peq PV.ceq PV.bin PV.neg PV.not PV.conv PV.cut PV.scut PV.cat PV.setAt PV.setCell PV.ncopy PV.copyIn PV.zeros PV.toStr PV.toBytes PV.deref PV.isPtr PV.comp PV.inb PV.off PV.imin PV.imax PV.sel PV.apply PV.isLst PV.isInt PV.ix PV.nilT
def jM (fs : List cY) (x : cG) (h : Int) : Int:=h - (bX fs x).1+(bX fs x).2
def can (fs : List cY) (x : cG) (h : Int) : Bool:=decide ((bX fs x).1≤h)&&decide (jM fs x h≤16)
abbrev Hs:=List Int × Bool
def tN (l : Int) (s : Hs) (t : Int) : Hs:=if t<s.1.length∧s.1[t.toNat]?.getD 0<0 then (s.1.set t.toNat l,true) else s
def aAn (fs : List cY) (code : List cG) (s : Hs) (pc : Nat) : Hs:=
 match code[pc]? with
 | some x=>if can fs x (s.1[pc]?.getD 0) then (hU x pc).foldl (tN (jM fs x (s.1[pc]?.getD 0))) s else s
 | none=>s
def sI (fs : List cY) (code : List cG) (s : List Int) : Hs:=(List.range' 0 code.length).foldl (aAn fs code) (s,false)
def aDJ (fs : List cY) (code : List cG) : Nat→List Int→List Int
 | 0,s=>s
 | n+1,s=>if (sI fs code s).2 then aDJ fs code n (sI fs code s).1 else (sI fs code s).1
def aJd (n : Nat) : List Int:=(List.replicate n (-1)).set 0 0
def kK (fs : List cY) (code : List cG) : List Int:=aDJ fs code (code.length+1) (aJd code.length)
structure Fit (fs : List cY) (code : List cG) : Prop where
 n1 : 1≤code.length
 n2 : code.length≤120
 nf : fs.length≤12
 u : ∀ x∈code,0≤(bX fs x).1∧(bX fs x).1≤7∧0≤(bX fs x).2∧(bX fs x).2≤2
 j : ∀ x∈code,(x.o=17∨x.o=18∨x.o=19)→0≤x.a∧x.a<code.length
def Hgt (n : Nat) (s : List Int) : Prop:=s.length=n∧∀ v∈s,-1≤v∧v≤16
theorem Hgt.at {n : Nat} {s : List Int} (h : Hgt n s) (i : Nat) : -1≤s[i]?.getD 0∧s[i]?.getD 0≤16:=by
 cases hx : s[i]? with
 | none=>simp
 | some v=>exact h.2 v (List.mem_of_getElem? hx)
theorem Hgt.put {n : Nat} {s : Hs} (h : Hgt n s.1) {l : Int} (hl : -1≤l∧l≤16) (t : Int) : Hgt n (tN l s t).1:=by
 unfold tN
 split
 ·refine ⟨by simp only [List.length_set];exact h.1,λv hv=>?_⟩
  rcases List.mem_or_eq_of_mem_set hv with h1 | h1
  ·exact h.2 v h1
  ·omega
 ·exact h
theorem Hgt.puts {n : Nat} {l : Int} (hl : -1≤l∧l≤16) : ∀ (ts : List Int) (s : Hs),Hgt n s.1→Hgt n (ts.foldl (tN l) s).1
 | [],_,h=>h
 | t::r,s,h=>Hgt.puts hl r _ (h.put hl t)
theorem aKp {fs : List cY} {x : cG} {h : Int} (hu : 0≤(bX fs x).1∧(bX fs x).1≤7∧0≤(bX fs x).2∧(bX fs x).2≤2) (hc : can fs x h=true) : 0≤jM fs x h∧jM fs x h≤16:=by
 simp only [can,Bool.and_eq_true,decide_eq_true_eq] at hc
 unfold jM at *
 omega
theorem Hgt.one {fs : List cY} {code : List cG} (F : Fit fs code) {n : Nat} {s : Hs} (h : Hgt n s.1) (pc : Nat) : Hgt n (aAn fs code s pc).1:=by
 unfold aAn
 split
 ·rename_i x hx
  split
  ·rename_i hc
   have:=aKp (F.u x (List.mem_of_getElem? hx)) hc
   exact Hgt.puts (by omega) _ _ h
  ·exact h
 ·exact h
theorem Hgt.ones {fs : List cY} {code : List cG} (F : Fit fs code) {n : Nat} : ∀ (l : List Nat) (s : Hs),Hgt n s.1→Hgt n (l.foldl (aAn fs code) s).1
 | [],_,h=>h
 | t::r,s,h=>Hgt.ones F r _ (h.one F t)
theorem Hgt.pass {fs : List cY} {code : List cG} (F : Fit fs code) {n : Nat} {s : List Int} (h : Hgt n s) : Hgt n (sI fs code s).1:=Hgt.ones F _ _ h
theorem Hgt.start {n : Nat} : Hgt n (aJd n):=by
 refine ⟨by simp [aJd],λv hv=>?_⟩
 rcases List.mem_or_eq_of_mem_set hv with h1 | h1
 ·have:=List.eq_of_mem_replicate h1;omega
 ·omega
def nn (s : List Int) : Nat:=s.countP (· < 0)
def Dec (s s' : Hs) : Prop:=s'=s∨(s'.2=true∧nn s'.1<nn s.1)
theorem Dec.trans {a b c : Hs} (h : Dec a b) (k : Dec b c) : Dec a c:=by
 rcases h with rfl | h
 ·exact k
 ·rcases k with rfl | k
  ·exact .inr h
  ·exact .inr ⟨k.1,by omega⟩
theorem aOh : ∀ (s : List Int) (i : Nat) (l : Int),0≤l→s[i]?.getD 0<0→nn (s.set i l)<nn s
 | [],i,l,_,h=>by simp at h
 | x::r,0,l,hl,h=>by
   simp only [List.getElem?_cons_zero,Option.getD_some] at h
   simp only [nn,List.set_cons_zero,List.countP_cons]
   rw [if_neg (by simp;omega),if_pos (by simpa using h)]
   omega
 | x::r,i+1,l,hl,h=>by
   simp only [List.getElem?_cons_succ] at h
   have:=aOh r i l hl h
   simp only [nn,List.set_cons_succ,List.countP_cons] at *
   omega
theorem Dec.put {l : Int} (hl : 0≤l) (s : Hs) (t : Int) : Dec s (tN l s t):=by
 unfold tN
 split
 ·rename_i h
  exact .inr ⟨rfl,aOh _ _ _ hl h.2⟩
 ·exact .inl rfl
theorem Dec.puts {l : Int} (hl : 0≤l) : ∀ (ts : List Int) (s : Hs),Dec s (ts.foldl (tN l) s)
 | [],_=>.inl rfl
 | t::r,s=>(Dec.put hl s t).trans (Dec.puts hl r _)
theorem Dec.one {fs : List cY} {code : List cG} (F : Fit fs code) (s : Hs) (pc : Nat) : Dec s (aAn fs code s pc):=by
 unfold aAn
 split
 ·rename_i x hx
  split
  ·rename_i hc
   exact Dec.puts (aKp (F.u x (List.mem_of_getElem? hx)) hc).1 _ _
  ·exact .inl rfl
 ·exact .inl rfl
theorem Dec.ones {fs : List cY} {code : List cG} (F : Fit fs code) : ∀ (l : List Nat) (s : Hs),Dec s (l.foldl (aAn fs code) s)
 | [],_=>.inl rfl
 | t::r,s=>(Dec.one F s t).trans (Dec.ones F r _)
theorem Dec.pass {fs : List cY} {code : List cG} (F : Fit fs code) (s : List Int) : Dec (s,false) (sI fs code s):=Dec.ones F _ _
theorem aOi {l : Int} {s : Hs} {t : Int} (h : s.1[0]? = some 0) : (tN l s t).1[0]? = some 0:=by
 unfold tN
 split
 ·rename_i hc
  rw [List.getElem?_set]
  split
  ·rename_i h0
   rw [h0] at hc
   rw [h] at hc
   simp at hc
  ·exact h
 ·exact h
theorem aIj {l : Int} : ∀ (ts : List Int) (s : Hs),s.1[0]? = some 0→(ts.foldl (tN l) s).1[0]? = some 0
 | [],_,h=>h
 | t::r,s,h=>aIj r _ (aOi h)
theorem aOj {fs : List cY} {code : List cG} {s : Hs} (pc : Nat) (h : s.1[0]? = some 0) : (aAn fs code s pc).1[0]? = some 0:=by
 unfold aAn
 split
 ·split
  ·exact aIj _ _ h
  ·exact h
 ·exact h
theorem aEw {fs : List cY} {code : List cG} : ∀ (l : List Nat) (s : Hs),s.1[0]? = some 0→(l.foldl (aAn fs code) s).1[0]? = some 0
 | [],_,h=>h
 | t::r,s,h=>aEw r _ (aOj t h)
theorem aKq {fs : List cY} {code : List cG} : ∀ (n : Nat) (s : List Int),s[0]? = some 0→(aDJ fs code n s)[0]? = some 0
 | 0,_,h=>h
 | n+1,s,h=>by
   unfold aDJ
   split
   ·exact aKq n _ (aEw _ _ h)
   ·exact aEw _ _ h
theorem aMr {fs : List cY} {code : List cG} (F : Fit fs code) {m : Nat} : ∀ (n : Nat) (s : List Int),Hgt m s→Hgt m (aDJ fs code n s)
 | 0,_,h=>h
 | n+1,s,h=>by
   unfold aDJ
   split
   ·exact aMr F n _ (h.pass F)
   ·exact h.pass F
theorem zG {fs : List cY} {code : List cG} (F : Fit fs code) : Hgt code.length (kK fs code):=aMr F _ _ Hgt.start
theorem aKr {fs : List cY} {code : List cG} (F : Fit fs code) : (kK fs code)[0]? = some 0:=by
 refine aKq _ _ ?_
 have:=F.n1
 rw [aJd,List.getElem?_set_self (by rw [List.length_replicate];omega)]
theorem aFJ {s : List Int} {i : Nat} (h : i<s.length) : s[i]=s[i]?.getD 0:=by rw [List.getElem?_eq_getElem h];rfl
theorem aBa {fs : List cY} {code : List cG} (F : Fit fs code) {x : cG} (hx : x∈code) {pc : Nat} (hp : pc<code.length) : ∀ t∈hU x pc,0≤t∧t≤code.length:=by
 intro t ht
 unfold hU at ht
 rcases List.mem_append.1 ht with h | h
 ·split at h
  ·simp only [List.mem_singleton] at h;omega
  ·cases h
 ·split at h
  ·rename_i hj
   simp only [List.mem_singleton] at h
   have:=F.j x hx hj
   omega
  ·cases h
theorem aMs {l : Int} {s : Hs} {t : Int} (h1 : t<s.1.length) (h2 : s.1[t.toNat]?.getD 0<0) : tN l s t=(s.1.set t.toNat l,true):=if_pos ⟨h1,h2⟩
theorem aJe {l : Int} {s : Hs} {t : Int} (h : ¬ (t<s.1.length∧s.1[t.toNat]?.getD 0<0)) : tN l s t=s:=if_neg h
section
variable {fs : List cY} {code : List cG} {T : PV} (F : Fit fs code)
include F
theorem aNm {P : R→Prop} {pc : Nat} (hpc : pc<code.length) {left : Int} {ts : List Int} (hts : ∀ t∈ts,0≤t∧t≤code.length) (hn : ts.length≤10) {s : Hs} (hs : s.1.length=code.length)
 (h : Ok P (eE (.lst (code.map cG.pv)) (.bool (ts.foldl (tN left) s).2) (.int .i64 ((pc : Int)+1)) T (.lst (fs.map cY.pv)) (bI (ts.foldl (tN left) s).1))) :
 Ok P (fH (.lst (code.map cG.pv)) (.bool s.2) (.int .i64 pc) (.int .i64 left) (bI ts) (.int .i64 0) T (.lst (fs.map cY.pv)) (bI s.1)):=by
 have hn2:=F.n2
 refine uZ (n:=ts.length) (F:=λi (q : Hs)=>fH (.lst (code.map cG.pv)) (.bool q.2) (.int .i64 pc) (.int .i64 left) (bI ts) (.int .i64 i) T (.lst (fs.map cY.pv)) (bI q.1))
  (λi q=>q.1.length=code.length∧(ts.drop i).foldl (tN left) q=ts.foldl (tN left) s) ?_ ?_ 0 s (by omega) ⟨hs,by rw [List.drop_zero]⟩
 ·rintro q ⟨hq,he⟩
  rw [List.drop_length] at he
  have he : q=ts.foldl (tN left) s:=he
  subst he
  rw [qV]
  exact cU (aH (aC (λh=>by omega) (λ_=>aL (by omega) h)))
 ·rintro i q hi ⟨hq,he⟩ ih
  have ht:=hts ts[i] (List.getElem_mem _)
  rw [List.drop_eq_getElem_cons hi,List.foldl_cons] at he
  have ih:=λs'=>ih s'
  rw [qV]
  refine cU (aH (aC (λ_=>?_) (λh=>by omega)))
  refine cW hi (aE (aH (aC (λh1=>?_) (λh1=>?_))))
  ·refine cW hi (eG (by omega) (by omega) (nG (by omega) (by omega) (λv hv=>?_)))
   refine aH (aC (λh2=>?_) (λh2=>?_))
   ·rw [aAf]
    refine cW hi (eG (by omega) (by omega) ?_)
    obtain ⟨t,et⟩:=Int.eq_ofNat_of_zero_le ht.1
    rw [et]
    refine sH (by omega) (aL (by omega) ?_)
    refine ih (q.1.set t left,true) ⟨by simpa using hq,?_⟩
    rw [aMs (by omega) (by rw [hv];exact h2),et] at he
    exact he
   ·refine aL (by omega) (ih q ⟨hq,?_⟩)
    rw [aJe (by rw [hv];simp only [Option.getD_some];omega)] at he
    exact he
  ·refine aL (by omega) (ih q ⟨hq,?_⟩)
   rw [aJe (by omega)] at he
   exact he
theorem aGU {P : R→Prop} {s : List Int} (hs : Hgt code.length s)
 (h : Ok P (jX (.lst (code.map cG.pv)) (.bool (sI fs code s).2) T (.lst (fs.map cY.pv)) (bI (sI fs code s).1))) :
 Ok P (eE (.lst (code.map cG.pv)) (.bool false) (.int .i64 0) T (.lst (fs.map cY.pv)) (bI s)):=by
 have hn2:=F.n2
 have hnf:=F.nf
 refine uZ (n:=code.length) (F:=λi (q : Hs)=>eE (.lst (code.map cG.pv)) (.bool q.2) (.int .i64 i) T (.lst (fs.map cY.pv)) (bI q.1))
  (λi q=>Hgt code.length q.1∧(List.range' i (code.length - i)).foldl (aAn fs code) q=sI fs code s) ?_ ?_ 0 (s,false) (by omega) ⟨hs,rfl⟩
 ·rintro q ⟨hq,he⟩
  rw [Nat.sub_self] at he
  have he : q=sI fs code s:=he
  subst he
  rw [qU]
  exact aE (aH (aC (λh=>by omega) (λ_=>h)))
 ·rintro i q hi ⟨hq,he⟩ ih
  have e1 : code.length - i=(code.length - (i+1))+1:=by omega
  rw [e1,List.range'_succ,List.foldl_cons] at he
  have hx : code[i]? = some code[i]:=List.getElem?_eq_getElem hi
  have hu:=F.u code[i] (List.getElem_mem _)
  have hil : i<q.1.length:=by rw [hq.1];exact hi
  have hv:=hq.at i
  have e2 : q.1[i]=q.1[i]?.getD 0:=aFJ hil
  have hone:=hq.one F i
  have hgo:=ih (aAn fs code q i) ⟨hone,he⟩
  have eo : aAn fs code q i=if can fs code[i] (q.1[i]?.getD 0) then (hU code[i] i).foldl (tN (jM fs code[i] (q.1[i]?.getD 0))) q else q:=by
   conv=>lhs;unfold aAn
   rw [hx]
  generalize hw : q.1[i]?.getD 0=w at *
  rw [qU]
  refine aE (aH (aC (λ_=>?_) (λh=>by omega)))
  refine aK hi (λ_=>rfl) (aI (aIg (T:=T) (by omega)) (λr hr=>?_))
  subst hr
  refine bF rfl (bF rfl ?_)
  refine eG (by omega) (by omega) (cW hil (bE (by omega) (aL (by omega) (eG (by omega) (by omega) (cW hil ?_)))))
  rw [e2]
  refine aH (aC (λh1=>?_) (λh1=>?_))
  ·have hc : can fs code[i] w=false:=by simp only [can];rw [decide_eq_false (by omega)];rfl
   rw [hc,if_neg (by simp)] at eo
   rw [eo] at hgo
   exact aL (by omega) hgo
  refine cK (aC (λh2=>?_) (λh2=>?_))
  ·have hc : can fs code[i] w=false:=by simp only [can];rw [decide_eq_false (p:=jM fs code[i] w≤16) (by unfold jM;omega),Bool.and_false]
   rw [hc,if_neg (by simp)] at eo
   rw [eo] at hgo
   exact aL (by omega) hgo
  ·have hc : can fs code[i] w=true:=by simp only [can];rw [decide_eq_true (by omega),decide_eq_true (p:=jM fs code[i] w≤16) (by unfold jM;omega)];rfl
   rw [hc,if_pos rfl] at eo
   rw [eo] at hgo
   refine aK hi (λ_=>rfl) (aI (aIh (by omega)) (λr hr=>?_))
   subst hr
   exact aNm F hi (aBa F (List.getElem_mem _) hi) (by unfold hU;repeat' split<;>simp) hq.1 hgo
theorem aNn : ∀ (j : Nat) (s : List Int),nn s≤j→Hgt code.length s→Ok (λr=>r = [bI (aDJ fs code (j+1) s)]) (jX (.lst (code.map cG.pv)) (.bool true) T (.lst (fs.map cY.pv)) (bI s)):=by
 intro j
 induction j with
 | zero=>
   intro s hs hg
   rw [kD]
   refine bB (aGU F hg ?_)
   rcases Dec.pass F s with h | ⟨h,h2⟩
   ·unfold aDJ
    rw [h,kD]
    exact aT (aB rfl)
   ·have h3 : nn (sI fs code s).1<nn s:=h2
    omega
 | succ j ih=>
   intro s hs hg
   rw [kD]
   refine bB (aGU F hg ?_)
   rcases Dec.pass F s with h | ⟨h,h2⟩
   ·unfold aDJ
    rw [h,kD]
    exact aT (aB rfl)
   ·rw [aDJ,h,if_pos rfl]
    exact ih _ (by have h3 : nn (sI fs code s).1<nn s:=h2;omega) (hg.pass F)
end
end
noncomputable section
open Go Go.IntWalk
attribute [local irreducible] bd PV.ite PV.guardFlat PV.guardOwn PV.whole PV.one PV.cell PV.sub PV.at_ PV.len PV.slen PV.chr PV.beq PV.peq PV.ceq PV.bin PV.neg PV.not PV.conv PV.cut PV.scut PV.cat PV.setAt PV.setCell PV.ncopy PV.copyIn PV.zeros PV.toStr PV.toBytes PV.deref PV.isPtr PV.comp PV.inb PV.off PV.imin PV.imax PV.sel PV.apply PV.isLst PV.isInt PV.ix PV.nilT
section
variable {fs : List cY} {code : List cG} {T : PV} (F : Fit fs code)
include F
theorem aBb {f : Nat} (hf : f<fs.length) (hc : fs[f].code=code) : Ok (λr=>r = [bI (kK fs code)]) (lE (.agg [T,.lst (fs.map cY.pv)]) (.int .i64 f)):=by
 have hn2:=F.n2
 have hn1:=F.n1
 rw [aDv]
 refine aD rfl (aA rfl (aA rfl (aK hf (λ_=>rfl) (aA (y:=.lst (code.map cG.pv)) (by rw [← hc];rfl) ?_))))
 have key:=cJ (n:=code.length) (P:=λ_ r=>r = [bI (kK fs code)])
  (F:=λi=>mL (.lst (code.map cG.pv)) (.int .i64 i) T (.lst (fs.map cY.pv)) (bI (List.replicate i (-1)))) ?_ ?_ 0 (by omega)
 ·exact key
 ·rw [sC]
  refine aE (aH (aC (λh=>by omega) (λ_=>?_)))
  refine eG (by omega) (by rw [List.length_replicate];omega) (sH (i:=0) (by rw [List.length_replicate];omega) ?_)
  exact aNn F code.length _ (by have:=(Hgt.start (n:=code.length)).1;unfold nn;exact Nat.le_trans List.countP_le_length (by omega)) Hgt.start
 ·intro i hi ih
  rw [sC]
  refine aE (aH (aC (λh=>?_) (λh=>by omega)))
  refine eV (ys:=[-1]) (by rw [List.length_replicate];simp only [List.length_cons,List.length_nil];omega) (aL (by omega) ?_)
  rw [← List.replicate_succ']
  exact ih
end
section
variable {P : R → Prop} {k : PV → Option R}
theorem aBD {m n : Nat} {kk : IntKind} (h : n≤m) : PV.bound m (.int kk (n : Int))=some n:=by
 simp only [PV.bound]
 rw [if_pos (by omega),Int.toNat_natCast]
theorem aKs {xs ys : List PV} {lo hi : Nat} {k1 k2 : IntKind} (h1 : lo≤hi) (h2 : hi≤xs.length) (h3 : xs.length≤1000000000) (h : Ok P (k (.int .i64 (min (hi - lo) ys.length : Nat)))) :
 Ok P (bd (PV.ncopy (.lst xs) (.int k1 (lo : Int)) (.int k2 (hi : Int)) (.lst ys)) k):=
 dM _ (by
  simp only [PV.ncopy]
  rw [aBD (by omega),aBD (by omega)]
  simp only [PV.elems]
  rw [if_pos ⟨h1,h2⟩]) h
theorem aIk {s : Nat} {g : Bool} {xs ys : List PV} {lo hi : Nat} {k1 k2 : IntKind} (h1 : lo≤hi) (h2 : hi≤xs.length) (h3 : xs.length≤1000000000) (he : ∀ y∈ys,y.isEl s g=true)
 (h : Ok P (k (.lst (xs.take lo++ys.take (hi - lo)++xs.drop (lo+min (hi - lo) ys.length))))) :
 Ok P (bd (PV.copyIn s g (.lst xs) (.int k1 (lo : Int)) (.int k2 (hi : Int)) (.lst ys)) k):=
 dM _ (by
  simp only [PV.copyIn]
  rw [aBD (by omega),aBD (by omega)]
  simp only [PV.elems]
  rw [if_pos ⟨h1,h2,List.all_eq_true.2 he⟩]) h
theorem aKt {e n : Nat} {z : PV} {kk : IntKind} (h1 : n*e≤140737488355328) (h2 : n≤1000000000) (h : Ok P (k (.lst (List.replicate n z)))) : Ok P (bd (PV.zeros e z (.int kk (n : Int))) k):=
 dM _ (by
  simp only [PV.zeros]
  rw [if_pos ⟨by omega,by rw [Int.toNat_natCast];exact h1,by omega⟩,Int.toNat_natCast]) h
theorem aDK {l : List Int} : ∀ x∈l.map (PV.int .i64),x.isEl 1 false=true:=by
 intro x hx
 obtain ⟨a,_,rfl⟩:=List.mem_map.1 hx
 rfl
end
theorem aKu {n : Nat} (hn : n≤1000) : ∀ (j a : Nat),n - a≤j→1≤a→a≤n→
 Ok (λr=>r = [bI (List.replicate n (-1))]) (gP (.int .i64 a) (bI (List.replicate a (-1)++List.replicate (n - a) 0))):=by
 intro j
 induction j with
 | zero=>
   intro a h1 h2 h3
   have : a=n:=by omega
   subst this
   rw [mQ]
   refine cU (aH (aC (λh=>?_) (λ_=>aB ?_)))
   ·simp at h
   ·simp
 | succ j ih=>
   intro a h1 h2 h3
   rw [mQ]
   have hl : (List.replicate a (-1 : Int)++List.replicate (n - a) 0).length=n:=by simp;omega
   have hlm : ((List.replicate a (-1 : Int)++List.replicate (n - a) 0).map (PV.int .i64)).length=n:=by rw [List.length_map,hl]
   have ht : (List.replicate a (-1 : Int)++List.replicate (n - a) 0).take a=List.replicate a (-1):=by
    rw [List.take_left' (by simp)]
   refine cU (aH (aC (λh=>?_) (λh=>aB ?_)))
   ·rw [hl] at h
    refine cU ?_
    rw [hl]
    refine aCh (by omega) (by omega) (by omega) aDK ?_
    refine aCh (by omega) (by omega) (by omega) aDK ?_
    refine aCh (by omega) (by omega) (by omega) aDK ?_
    simp only [Int.toNat_natCast,Int.toNat_zero,List.drop_zero,← List.map_take]
    rw [ht]
    refine aKs (by omega) (by omega) (by omega) (aIk (by omega) (by omega) (by omega) aDK ?_)
    rw [← List.map_take,ht,← List.map_take,← List.map_drop,← List.map_append,← List.map_append,List.length_map,List.length_replicate]
    have e : List.replicate a (-1 : Int)++(List.replicate a (-1)).take (n - a)++(List.replicate a (-1)++List.replicate (n - a) 0).drop (a+min (n - a) a)=List.replicate (a+min (n - a) a) (-1)++List.replicate (n - (a+min (n - a) a)) 0:=by
     rw [List.take_replicate,List.replicate_append_replicate,List.drop_append,List.length_replicate,List.drop_eq_nil_of_le (by simp),List.nil_append,List.drop_replicate]
     congr 2
     omega
    rw [e]
    exact aL (by omega) (ih (a+min (n - a) a) (by omega) (by omega) (by omega))
   ·have : a=n:=by rw [hl] at h;omega
    subst this
    simp
theorem aJf {P : R→Prop} {k : PV→Option R} {a : Int} (h1 : 0≤a∧a≤2097152) (h : Ok P (k (.int .u64 a))) : Ok P (bd (PV.bin .and (.int .u64 a) (.int .u64 4294967295)) k):=
 dM _ (by
  obtain ⟨n,rfl⟩:=Int.eq_ofNat_of_zero_le h1.1
  rw [kN (by simp) (by simp)]
  simp only [PV.intBin]
  have hb : IntKind.u64.bits=64:=rfl
  have e : (BitVec.ofInt 64 (n : Int)&&& BitVec.ofInt 64 4294967295).toNat=n:=by
   rw [BitVec.toNat_and,BitVec.ofInt_natCast,BitVec.toNat_ofNat]
   have : (BitVec.ofInt 64 4294967295).toNat=2 ^ 32 - 1:=by decide
   rw [this,Nat.and_two_pow_sub_one_eq_mod,Nat.mod_eq_of_lt (by omega),Nat.mod_eq_of_lt (by omega)]
  rw [hb,e,u64_in _ (by omega)]) h
theorem aBc {P : R→Prop} {k : PV→Option R} {a : Int} (h1 : 0≤a∧a≤2097152) (h : Ok P (k (.int .u64 0))) : Ok P (bd (PV.bin .shr (.int .u64 a) (.int .u64 32)) k):=
 dM _ (by
  simp only [PV.bin]
  rw [if_neg (by omega)]
  have : a.fdiv (2 ^ min (Int.toNat 32) IntKind.u64.bits)=0:=by
   have e : (2 : Int) ^ min (Int.toNat 32) IntKind.u64.bits=4294967296:=by decide
   rw [e,Int.fdiv_eq_ediv_of_nonneg _ (by omega)]
   omega
  rw [this]) h
theorem aBd {P : R→Prop} {k : PV→Option R} {a b : Int} (h1 : 0≤a*b∧a*b≤2097152) (h : Ok P (k (.int .u64 (a*b)))) : Ok P (bd (PV.bin .mul (.int .u64 a) (.int .u64 b)) k):=
 dM _ (by rw [kN (by simp) (by simp)];simp only [PV.intBin];rw [u64_in _ (by omega)]) h
theorem aDL {P : R→Prop} {k : PV→Option R} {a b : Int} (h1 : 0≤a+b∧a+b≤2097152) (h : Ok P (k (.int .u64 (a+b)))) : Ok P (bd (PV.bin .add (.int .u64 a) (.int .u64 b)) k):=
 dM _ (by rw [kN (by simp) (by simp)];simp only [PV.intBin];rw [u64_in _ (by omega)]) h
theorem aOk {P : R→Prop} {k : PV→Option R} {a : Int} {kk : IntKind} (h1 : 0≤a∧a≤2097152) (h : Ok P (k (.int .u64 a))) : Ok P (bd (PV.conv .u64 (.int kk a)) k):=dM _ (by simp only [PV.conv];rw [u64_in _ (by omega)]) h
theorem aNo {n : Nat} (h1 : 1≤n) (hn : n≤1000) : Ok (λr=>r = [bI (List.replicate n (-1))]) (mD (.lst [.int .i64 (-1)]) (.int .i64 n)):=by
 rw [xB]
 refine aH (aC (λh=>by omega) (λ_=>?_))
 rw [tK]
 refine dI (aOk (by simp) (aOk (by omega) ?_))
 refine aI (Q:=λr=>r = [.tup [.int .u64 0,.int .u64 n]]) ?_ (λr hr=>?_)
 ·rw [aEm,aCO]
  simp only [List.length_cons,List.length_nil]
  refine aI (Q:=λr=>r = [.tup [.int .u64 0,.int .u64 n]]) ?_ (λr hr=>?_)
  ·refine aJf (by omega) (aBc (by omega) (aJf (by omega) (aBc (by omega) ?_)))
   refine aBd (by omega) (aBd (by omega) (aBc (by omega) (aDL (by omega) ?_)))
   refine aJf (by omega) (aBc (by omega) (aBd (by omega) (aDL (by omega) ?_)))
   refine aBd (by omega) (aDL (by omega) (aBc (by omega) (aDL (by omega) (aBd (by omega) (aB ?_)))))
   simp
  ·subst hr
   exact bF rfl (bF rfl (aB rfl))
 subst hr
 refine bF rfl (bF rfl (cK (aC (λh=>by omega) (λ_=>cK (aC (λh=>by omega) (λ_=>?_))))))
 rw [tL]
 refine kG (by omega) (aKt (by omega) (by omega) (eO (aC (λ_=>?_) (λh=>by omega))))
 refine aKt (by omega) (by omega) (dI ?_)
 rw [List.length_replicate]
 refine aKs (lo:=0) (by omega) (by simp) (by simp;omega) (aIk (lo:=0) (by omega) (by simp) (by simp;omega) (aDK (l:=[-1])) ?_)
 have:=aKu hn n 1 (by omega) (by omega) h1
 have e : (min (n - 0) [PV.int .i64 (-1)].length : Nat)=1:=by simp;omega
 rw [e]
 have e2 : (List.replicate n (PV.int .i64 0)).take 0++[PV.int .i64 (-1)].take (n - 0)++(List.replicate n (PV.int .i64 0)).drop (0+1)=(List.replicate 1 (-1 : Int)++List.replicate (n - 1) 0).map (PV.int .i64):=by
  rw [List.take_zero,List.nil_append,List.take_of_length_le (by simp;omega),List.drop_replicate]
  simp
 rw [e2]
 exact this
end
noncomputable section
open Go
attribute [local irreducible] bd PV.ite PV.guardFlat PV.guardOwn PV.whole PV.one PV.cell PV.sub PV.at_ PV.len PV.slen PV.chr PV.beq PV.peq PV.ceq PV.bin PV.neg PV.not PV.conv PV.cut PV.scut PV.cat PV.setAt PV.setCell PV.ncopy PV.copyIn PV.zeros PV.toStr PV.toBytes PV.deref PV.isPtr PV.comp PV.inb PV.off PV.imin PV.imax PV.sel PV.apply PV.isLst PV.isInt PV.ix PV.nilT
section
variable {fs : List cY} {code : List cG} {T : PV} (F : Fit fs code)
include F
theorem aIl {x : cG} (hx : x∈code) {h : Int} (hh : -1≤h∧h≤16) : Ok (λr=>r = [.tup [.int .i64 (jM fs x h),.bool (can fs x h)]]) (vT (.agg [T,.lst (fs.map cY.pv)]) x.pv (.int .i64 h)):=by
 have hu:=F.u x hx
 have hnf:=F.nf
 rw [aGL]
 refine aD rfl (aA rfl (aA rfl (aD rfl (aA rfl (aA rfl ?_)))))
 refine aI (aNl (x:=x) (T:=T) (by omega)) (λr hr=>?_)
 subst hr
 refine bF rfl (bF rfl (bE (by omega) (aL (by omega) (eO (aC (λh1=>?_) (λh1=>aB ?_))))))
 ·refine eO (aB ?_)
  unfold can jM
  rw [decide_eq_true h1];rfl
 ·unfold can jM
  rw [decide_eq_false h1];rfl
theorem aNp {P : R→Prop} {pc : Nat} (hpc : pc<code.length) {left : Int} {b : Bool} {ts : List Int} (hts : ∀ t∈ts,0≤t∧t≤code.length) (hn : ts.length≤10) {s : Hs} (hs : s.1.length=code.length)
 (h : Ok P (iY (.lst (code.map cG.pv)) (.bool (if b then ts.foldl (tN left) s else s).2) (.lst (code.map cG.pv)) (.int .i64 code.length) (.int .i64 ((pc : Int)+1)) T (.lst (fs.map cY.pv)) (bI (if b then ts.foldl (tN left) s else s).1))) :
 Ok P (gB (.lst (code.map cG.pv)) (.bool s.2) (.int .i64 left) (.bool b) (.lst (code.map cG.pv)) (.int .i64 code.length) (.int .i64 pc) (bI ts) (.int .i64 ts.length) (.int .i64 0) T (.lst (fs.map cY.pv)) (bI s.1)):=by
 have hn2:=F.n2
 refine uZ (n:=ts.length) (F:=λi (q : Hs)=>gB (.lst (code.map cG.pv)) (.bool q.2) (.int .i64 left) (.bool b) (.lst (code.map cG.pv)) (.int .i64 code.length) (.int .i64 pc) (bI ts) (.int .i64 ts.length) (.int .i64 i) T (.lst (fs.map cY.pv)) (bI q.1))
  (λi q=>q.1.length=code.length∧(if b then (ts.drop i).foldl (tN left) q else q)=(if b then ts.foldl (tN left) s else s)) ?_ ?_ 0 s (by omega) ⟨hs,by rw [List.drop_zero]⟩
 ·rintro q ⟨hq,he⟩
  rw [List.drop_length] at he
  have he : q=(if b then ts.foldl (tN left) s else s):=by rw [← he];split<;>rfl
  subst he
  rw [uU]
  exact aH (aC (λh=>by omega) (λ_=>aL (by omega) h))
 ·rintro i q hi ⟨hq,he⟩ ih
  have ht:=hts ts[i] (List.getElem_mem _)
  rw [List.drop_eq_getElem_cons hi,List.foldl_cons] at he
  rw [uU]
  refine aH (aC (λ_=>?_) (λh=>by omega))
  refine cW hi (aQ (λhb=>?_) (λhb=>?_))
  ·subst hb
   simp only [if_true] at he ih
   refine aE (aH (aC (λh1=>?_) (λh1=>?_)))
   ·refine eG (by omega) (by omega) (nG (by omega) (by omega) (λv hv=>?_))
    refine aH (aC (λh2=>?_) (λh2=>?_))
    ·rw [aCF]
     refine eG (by omega) (by omega) ?_
     obtain ⟨t,et⟩:=Int.eq_ofNat_of_zero_le ht.1
     rw [et]
     refine sH (by omega) (aL (by omega) ?_)
     refine ih (q.1.set t left,true) ⟨by simpa using hq,?_⟩
     rw [aMs (by omega) (by rw [hv];exact h2),et] at he
     exact he
    ·refine aL (by omega) (ih q ⟨hq,?_⟩)
     rw [aJe (by rw [hv];simp only [Option.getD_some];omega)] at he
     exact he
   ·refine aL (by omega) (ih q ⟨hq,?_⟩)
    rw [aJe (by omega)] at he
    exact he
  ·subst hb
   exact aL (by omega) (ih q ⟨hq,he⟩)
theorem aPk {x : cG} (hx : x∈code) {h : Int} (hh : h<0) : can fs x h=false:=by
 have hu:=F.u x hx
 simp only [can]
 rw [decide_eq_false (by omega)];rfl
theorem aGV {P : R→Prop} {s : List Int} (hs : Hgt code.length s)
 (h : Ok P (nC (.lst (code.map cG.pv)) (.bool (sI fs code s).2) T (.lst (fs.map cY.pv)) (bI (sI fs code s).1))) :
 Ok P (iY (.lst (code.map cG.pv)) (.bool false) (.lst (code.map cG.pv)) (.int .i64 code.length) (.int .i64 0) T (.lst (fs.map cY.pv)) (bI s)):=by
 have hn2:=F.n2
 have hnf:=F.nf
 refine uZ (n:=code.length) (F:=λi (q : Hs)=>iY (.lst (code.map cG.pv)) (.bool q.2) (.lst (code.map cG.pv)) (.int .i64 code.length) (.int .i64 i) T (.lst (fs.map cY.pv)) (bI q.1))
  (λi q=>Hgt code.length q.1∧(List.range' i (code.length - i)).foldl (aAn fs code) q=sI fs code s) ?_ ?_ 0 (s,false) (by omega) ⟨hs,rfl⟩
 ·rintro q ⟨hq,he⟩
  rw [Nat.sub_self] at he
  have he : q=sI fs code s:=he
  subst he
  rw [wE]
  exact aH (aC (λh=>by omega) (λ_=>h))
 ·rintro i q hi ⟨hq,he⟩ ih
  have e1 : code.length - i=(code.length - (i+1))+1:=by omega
  rw [e1,List.range'_succ,List.foldl_cons] at he
  have hx : code[i]? = some code[i]:=List.getElem?_eq_getElem hi
  have hm : code[i]∈code:=List.getElem_mem _
  have hil : i<q.1.length:=by rw [hq.1];exact hi
  have hv:=hq.at i
  have e2 : q.1[i]=q.1[i]?.getD 0:=aFJ hil
  have hone:=hq.one F i
  have hgo:=ih (aAn fs code q i) ⟨hone,he⟩
  have eo : aAn fs code q i=if can fs code[i] (q.1[i]?.getD 0) then (hU code[i] i).foldl (tN (jM fs code[i] (q.1[i]?.getD 0))) q else q:=by
   conv=>lhs;unfold aAn
   rw [hx]
  generalize hw : q.1[i]?.getD 0=w at *
  rw [wE]
  refine aH (aC (λ_=>?_) (λh=>by omega))
  refine aK hi (λ_=>rfl) (aD rfl (aA rfl (aA rfl ?_)))
  refine eG (by omega) (by omega) (cW hil ?_)
  rw [e2]
  refine aH (aC (λh1=>?_) (λh1=>?_))
  ·rw [aPk F hm h1,if_neg (by simp)] at eo
   rw [eo] at hgo
   exact aL (by omega) hgo
  refine eG (by omega) (by omega) (cW hil ?_)
  rw [e2]
  refine aI (aIl (T:=T) F hm hv) (λr hr=>?_)
  subst hr
  refine bF rfl (bF rfl (aI (aIi (x:=code[i]) (by omega)) (λr hr=>?_)))
  subst hr
  refine cU ?_
  refine aNp F hi (aBa F hm hi) (by unfold hU;repeat' split<;>simp) hq.1 ?_
  rw [← eo]
  exact hgo
theorem aNq : ∀ (j : Nat) (s : List Int),nn s≤j→Hgt code.length s→Ok (λr=>r = [bI (aDJ fs code (j+1) s)]) (nC (.lst (code.map cG.pv)) (.bool true) T (.lst (fs.map cY.pv)) (bI s)):=by
 intro j
 induction j with
 | zero=>
   intro s hs hg
   rw [mP]
   refine bB (aE (aGV F hg ?_))
   rcases Dec.pass F s with h | ⟨h,h2⟩
   ·unfold aDJ
    rw [h,mP]
    exact aT (aB rfl)
   ·have h3 : nn (sI fs code s).1<nn s:=h2
    omega
 | succ j ih=>
   intro s hs hg
   rw [mP]
   refine bB (aE (aGV F hg ?_))
   rcases Dec.pass F s with h | ⟨h,h2⟩
   ·unfold aDJ
    rw [h,mP]
    exact aT (aB rfl)
   ·rw [aDJ,h,if_pos rfl]
    exact ih _ (by have h3 : nn (sI fs code s).1<nn s:=h2;omega) (hg.pass F)
theorem aNr (l : List Int) : PV.flatO (.own 1 8 false []) (bI l)=true:=by
 clear F
 show PV.flatEs false [] (l.map (PV.int .i64))=true
 induction l with
 | nil=>simp [PV.flatEs]
 | cons x r ih=>simp [PV.flatEs,PV.flatE,PV.flat,ih]
theorem aBe {f : Nat} (hf : f<fs.length) (hc : fs[f].code=code) : Ok (λr=>r = [bI (kK fs code)]) (vQ (.agg [T,.lst (fs.map cY.pv)]) (.int .i64 f)):=by
 have hn2:=F.n2
 have hn1:=F.n1
 rw [aGI]
 refine aD rfl (aA rfl (aA rfl (aK hf (λ_=>rfl) (aA (y:=.lst (code.map cG.pv)) (by rw [← hc];rfl) (aE ?_)))))
 refine aI (aNo hn1 (by omega)) (λr hr=>?_)
 subst hr
 refine kH (aNr F _) (eG (by omega) (by rw [List.length_replicate];omega) (sH (i:=0) (by rw [List.length_replicate];omega) ?_))
 exact aNq F code.length _ (by have:=(Hgt.start (n:=code.length)).1;unfold nn;exact Nat.le_trans List.countP_le_length (by omega)) Hgt.start
end
theorem eM.okB_fit {m : eM} (h : m.okB=true) : 1≤m.funcs.length∧m.funcs.length≤12∧∀ f∈m.funcs,Fit m.funcs f.code∧0≤f.p∧f.p≤6∧f.p≤f.lc∧f.lc≤12:=by
 simp only [eM.okB,Bool.and_eq_true,bG,decide_eq_true_eq,List.all_eq_true,uY] at h
 obtain ⟨⟨h1,h2⟩,_,_,h3⟩:=h
 have hp : ∀ i : Int,0≤lI m.funcs i∧lI m.funcs i≤6:=by
  intro i
  unfold lI
  cases hx : m.funcs[i.toNat]? with
  | none=>simp
  | some f=>exact (h3 f (List.mem_of_getElem? hx)).1
 refine ⟨by omega,by omega,λf hf=>?_⟩
 obtain ⟨p1,p2,p3,p4⟩:=h3 f hf
 refine ⟨⟨by omega,by omega,by omega,λx hx=>?_,λx hx hj=>?_⟩,p1.1,p1.2,p2.1,p2.2⟩
 ·have:=hp x.a
  unfold bX
  repeat' split
  all_goals (simp only;omega)
 ·have:=p4 x hx
  unfold cN at this
  rcases hj with hj | hj | hj<;>simp [hj,lM] at this<;>omega
end
noncomputable section
open Go Go.IntWalk
attribute [local irreducible] bd PV.ite PV.guardFlat PV.guardOwn PV.whole PV.one PV.cell PV.sub PV.at_ PV.len PV.slen PV.chr PV.beq PV.peq PV.ceq PV.bin PV.neg PV.not PV.conv PV.cut PV.scut PV.cat PV.setAt PV.setCell PV.ncopy PV.copyIn PV.zeros PV.toStr PV.toBytes PV.deref PV.isPtr PV.comp PV.inb PV.off PV.imin PV.imax PV.sel PV.apply PV.isLst PV.isInt PV.ix PV.nilT
structure bV where
 f : Int
 pc : Int
 loc : List bY
 stk : List bY
def aS (l : List bY) : PV:=.lst (l.map bY.pv)
def bV.pv (f : bV) : PV:=.agg [.int .i64 f.f,.int .i64 f.pc,aS f.loc,aS f.stk]
def aR (r : List bY) : PV:=.agg [aS r]
theorem rX {l : List bY} : ∀ x∈l.map bY.pv,x.isEl 3 true=true:=by
 intro x hx
 obtain ⟨a,_,rfl⟩:=List.mem_map.1 hx
 rfl
section
variable {P : R → Prop} {k : PV → Option R}
theorem cO {A cs : List PV} {s : Nat} {i : Int} (hi : i=A.length) (hs : cs.length=s) (h : Ok P (k (.agg cs))) : Ok P (bd (PV.at_ s true (.lst (A++[.agg cs])) (.int .i64 i)) k):=
 dM _ (by
  subst hi
  simp only [PV.at_]
  rw [if_pos (by omega),Int.toNat_natCast,List.getElem?_append_right (Nat.le_refl _),Nat.sub_self]
  simp only [List.getElem?_cons_zero]
  rw [if_pos (by simp [PV.isEl,hs])]) h
theorem gU {A cs : List PV} {s off : Nat} {i : Int} {v : PV} (hi : i=A.length) (hs : cs.length=s) (ho : off<s) (hv : v.isEl 1 false=true) (h : Ok P (k (.lst (A++[.agg (cs.set off v)])))) :
 Ok P (bd (PV.setCell s (.lst (A++[.agg cs])) (.int .i64 i) off v) k):=by
 subst hi
 refine fR (by omega) (cs:=cs) (by rw [Int.toNat_natCast,List.getElem?_append_right (Nat.le_refl _),Nat.sub_self];rfl) hs ho hv ?_
 rw [Int.toNat_natCast,List.set_append_right _ _ (Nat.le_refl _),Nat.sub_self]
 exact h
theorem zH {l : List bY} {i : Int} (h0 : 0≤i) (h1 : i<l.length) (h : ∀ v,l[i.toNat]? = some v→Ok P (k v.pv)) : Ok P (bd (PV.at_ 3 true (aS l) (.int .i64 i)) k):=by
 refine tU h0 (by rw [List.length_map];exact h1) rX (λx _ hx=>?_)
 rw [List.getElem?_map] at hx
 cases hl : l[i.toNat]? with
 | none=>rw [hl] at hx;cases hx
 | some v=>rw [hl] at hx;cases hx;exact h v hl
theorem aX {l : List bY} (h : Ok P (k (.int .i64 l.length))) : Ok P (bd (PV.len (aS l)) k):=aE h
theorem iT {l : List bY} {i : Int} (h0 : 0≤i) (h1 : i<l.length) (h : Ok P (k (aS l))) : Ok P (bd (PV.inb (aS l) (.int .i64 i)) k):=dC h0 (by rw [List.length_map];exact h1) h
theorem aFa {l : List bY} {m n : Int} (h0 : 0≤m) (h1 : m≤n) (h2 : n≤l.length) (h : Ok P (k (aS ((l.take n.toNat).drop m.toNat)))) : Ok P (bd (PV.cut 3 true (aS l) (.int .i64 m) (.int .i64 n)) k):=by
 refine aCh h0 h1 (by rw [List.length_map];exact h2) rX ?_
 rw [← List.map_take,← List.map_drop]
 exact h
theorem sJ {l m : List bY} (hb : l.length+m.length≤1000000000) (h : Ok P (k (aS (l++m)))) : Ok P (bd (PV.cat 3 32 true (aS l) (.lst (m.map bY.pv))) k):=by
 refine fF (by simp only [List.length_map];omega) rX ?_
 rw [← List.map_append]
 exact h
theorem wJ {l : List bY} {i : Int} {v : bY} (h0 : 0≤i) (h1 : i<l.length) (h : Ok P (k (aS (l.set i.toNat v)))) : Ok P (bd (PV.setAt 3 true (aS l) (.int .i64 i) v.pv) k):=by
 refine aC1 h0 (by rw [List.length_map];exact h1) rfl ?_
 rw [← List.map_set]
 exact h
theorem aBE {n : Int} (h0 : 0≤n) (h1 : n≤1000000000) (h : Ok P (k (aS (List.replicate n.toNat dL)))) : Ok P (bd (PV.zeros 32 (.agg [.int .i64 0,.int .i64 0,.str (bs [])]) (.int .i64 n)) k):=by
 obtain ⟨m,rfl⟩:=Int.eq_ofNat_of_zero_le h0
 refine dM _ ?_ h
 simp only [PV.zeros]
 rw [if_pos ⟨by omega,by omega,by omega⟩,Int.toNat_natCast,aS,List.map_replicate]
 rfl
end
section
variable {P : R → Prop} {k : R → Option R} {a0 a1 a2 a3 a4 a5 a6 a7 a8 a9 H O : PV} {A : List PV}
theorem aBf {x : PV} (hA : A.length≤2097152) (h : Ok P (k [.int .i64 A.length,a0,a1,a2,a3,a4,a5,a6,a7,a8,a9,.lst (A++[x]),H,O])) :
 Ok P (bd (eU a0 a1 a2 a3 a4 a5 a6 a7 a8 a9 (.lst (A++[x])) H O) k):=by
 refine aI (Q:=λr=>r = [.int .i64 A.length,a0,a1,a2,a3,a4,a5,a6,a7,a8,a9,.lst (A++[x]),H,O]) ?_ (λr hr=>by rw [hr];exact h)
 rw [aA6]
 have e : ((A++[x]).length : Int) - 1=A.length:=by simp
 refine dI (bE (by simp;omega) ?_)
 rw [e]
 exact dC (by omega) (by simp;omega) (aB rfl)
theorem iD {f pc : Int} {loc s : List bY} {v : bY} (hA : A.length≤2097152) (hs : s.length≤2097152)
 (h : Ok P (k [v.pv,a0,a1,a2,a3,a4,a5,a6,a7,a8,a9,.lst (A++[bV.pv ⟨f,pc,loc,s⟩]),H,O])) :
 Ok P (bd (bD a0 a1 a2 a3 a4 a5 a6 a7 a8 a9 (.lst (A++[bV.pv ⟨f,pc,loc,s++[v]⟩])) H O) k):=by
 refine aI (Q:=λr=>r = [v.pv,a0,a1,a2,a3,a4,a5,a6,a7,a8,a9,.lst (A++[bV.pv ⟨f,pc,loc,s⟩]),H,O]) ?_ (λr hr=>by rw [hr];exact h)
 rw [aCU]
 have e : ((s++[v]).length : Int) - 1=s.length:=by simp
 have hl : (s++[v]).length=s.length+1:=by simp
 have at3 : ∀ {P : R→Prop} {k : PV→Option R},Ok P (k (aS (s++[v])))→Ok P (bd (PV.at_ 4 true (.lst (A++[bV.pv ⟨f,pc,loc,s++[v]⟩])) (.int .i64 A.length)) λx=>bd (PV.cell x 3) k):=
  λh=>cO rfl rfl (aA rfl h)
 have at_ : ∀ {P : R→Prop} {k : PV→Option R},(∀ x,Ok P (k x))→Ok P (bd (PV.at_ 4 true (.lst (A++[bV.pv ⟨f,pc,loc,s++[v]⟩])) (.int .i64 A.length)) k):=
  λh=>cO rfl rfl (h _)
 have el : (s++[v])[(s.length : Int).toNat]? = some v:=by rw [Int.toNat_natCast,List.getElem?_append_right (Nat.le_refl _),Nat.sub_self];rfl
 refine aBf hA (at_ (λ_=>at_ (λ_=>at3 (aX (bE (by omega) ?_)))))
 rw [e]
 refine at3 (iT (by omega) (by omega) (at3 (zH (by omega) (by omega) (λw hw=>?_))))
 rw [el] at hw
 cases hw
 refine aD rfl (aA rfl (aA rfl (aA rfl (at_ (λ_=>at_ (λ_=>at3 (aX (bE (by omega) ?_))))))))
 rw [e]
 refine at3 (aFa (by omega) (by omega) (by omega) (at3 (aFa (by omega) (by omega) (by omega) (at3 ?_))))
 refine gU rfl rfl (by omega) rfl (gU rfl rfl (by omega) rfl (aB ?_))
 simp only [Int.toNat_natCast,Int.toNat_zero,List.drop_zero,List.take_left']
 rfl
theorem aFK {f pc : Int} {loc s : List bY} {v : bY} (hA : A.length≤2097152) (hs : s.length≤2097152)
 (h : Ok P (k [a0,a1,a2,a3,a4,a5,a6,a7,a8,a9,.lst (A++[bV.pv ⟨f,pc,loc,s++[v]⟩]),H,O])) :
 Ok P (bd (iU v.pv a0 a1 a2 a3 a4 a5 a6 a7 a8 a9 (.lst (A++[bV.pv ⟨f,pc,loc,s⟩])) H O) k):=by
 refine aI (Q:=λr=>r = [a0,a1,a2,a3,a4,a5,a6,a7,a8,a9,.lst (A++[bV.pv ⟨f,pc,loc,s++[v]⟩]),H,O]) ?_ (λr hr=>by rw [hr];exact h)
 rw [aBW]
 refine aD rfl (aA rfl (aA rfl (aA rfl (aBf hA ?_))))
 refine cO rfl rfl (cO rfl rfl (aA rfl (cO rfl rfl (aA rfl ?_))))
 refine gU rfl rfl (by omega) rfl (sJ (m:=[v]) (by simp;omega) (gU rfl rfl (by omega) rfl (aB rfl)))
theorem jG {f pc : Int} {loc s : List bY} {vk vn : Int} {vs : ByteArray} (hA : A.length≤2097152) (hs : s.length≤2097152)
 (h : Ok P (k [a0,a1,a2,a3,a4,a5,a6,a7,a8,a9,.lst (A++[bV.pv ⟨f,pc,loc,s++[⟨vk,vn,vs⟩]⟩]),H,O])) :
 Ok P (bd (bK (.int .i64 vk) (.int .i64 vn) (.str vs) a0 a1 a2 a3 a4 a5 a6 a7 a8 a9 (.lst (A++[bV.pv ⟨f,pc,loc,s⟩])) H O) k):=by
 refine aI (Q:=λr=>r = [a0,a1,a2,a3,a4,a5,a6,a7,a8,a9,.lst (A++[bV.pv ⟨f,pc,loc,s++[⟨vk,vn,vs⟩]⟩]),H,O]) ?_ (λr hr=>by rw [hr];exact h)
 rw [zE]
 refine aBf hA ?_
 refine cO rfl rfl (cO rfl rfl (aA rfl (cO rfl rfl (aA rfl ?_))))
 refine gU rfl rfl (by omega) rfl (sJ (m:=[⟨vk,vn,vs⟩]) (by simp;omega) (gU rfl rfl (by omega) rfl (aB rfl)))
end
end
end Go.Proofs.YtllmobkkbpdchaaGreat
