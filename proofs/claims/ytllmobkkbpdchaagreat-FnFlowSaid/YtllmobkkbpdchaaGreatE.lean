/-
  Texts of the proof, part 5: a value-level evaluator and its soundness, what the functions compute, laws about it.
  Conditions: none.
-/
import Derived.Test.YtllmobkkbpdchaaGreatD
import Derived.Lib.Strings
set_option linter.all false
namespace Go.Proofs.YtllmobkkbpdchaaGreat
noncomputable section
open Go
variable (a b c d e f g h i j k l m n o q r : PV)
theorem aAf : jR a b=bd (PV.whole 2 a) λc=>bd (PV.cell c 0) λd=>bd (PV.cell c 1) λe=>bd (PV.at_ 3 true e b) λf=>bd (PV.cell f 2) λg=>bd (iK (.agg [d,e]) b) λh=>bd (PV.len g) λi=>bd (PV.zeros 1 (.bool false) i) λj=>bd (PV.bin .leq i i) λk=>PV.ite k (bd (PV.zeros 1 (.bool false) i) λl=>bP g (hd h) (.int .i64 0) l)
 (none):=bR _ _ _ _ (by kernel_rfl)
theorem nD : bP a b c d=bd (PV.len a) λe=>bd (PV.bin .lss c e) λf=>PV.ite f (bd (PV.at_ 2 true a c) λg=>bd (PV.cell g 0) λh=>bd (PV.at_ 1 false b c) λi=>bd (PV.bin .geq i (.int .i64 0)) λj=>PV.ite j (bd (PV.bin .eql h (.int .i64 17)) λk=>PV.ite k (bd (PV.at_ 2 true a c) λl=>bd (PV.cell l 1) λm=>bd (PV.bin .leq m c) λn=>
 PV.ite n (gC a b c d) (bd (PV.bin .add c (.int .i64 1)) λo=>bP a b o d)) (bd (PV.bin .eql h (.int .i64 18)) λq=>PV.ite q (bd (PV.at_ 2 true a c) λr=>bd (PV.cell r 1) λs=>bd (PV.bin .leq s c) λt=>PV.ite t (gC a b c d) (bd (PV.bin .add c (.int .i64 1)) λu=>bP a b u d)) (bd (PV.bin .eql h (.int .i64 19)) λv=>PV.ite v
 (bd (PV.at_ 2 true a c) λw=>bd (PV.cell w 1) λx=>bd (PV.bin .leq x c) λy=>PV.ite y (gC a b c d) (bd (PV.bin .add c (.int .i64 1)) λz=>bP a b z d)) (bd (PV.bin .add c (.int .i64 1)) λA=>bP a b A d)))) (bd (PV.bin .add c (.int .i64 1)) λB=>bP a b B d)) (bd (nN d) λC=>PV.guardOwn (.own 1 8 false []) (gd C 0) (
 some [(gd C 0)])):=bD _ _ _ _ _ _ _ _ (by kernel_rfl)
theorem vG : gC a b c d=bd (PV.at_ 2 true a c) λe=>bd (PV.cell e 1) λf=>bd (PV.inb d f) λg=>bd (PV.setAt 1 false d f (.bool true)) λh=>bd (PV.bin .add c (.int .i64 1)) λi=>bP a b i h:=bD _ _ _ _ _ _ _ _ (by kernel_rfl)
theorem qI : gU a b=bd (PV.bin .lss b (.int .i64 0)) λc=>PV.ite c (none) (jS a b):=bR _ _ _ _ (by kernel_rfl)
theorem nP : jS a b=bd (PV.len a) λc=>bd (PV.conv .u64 c) λd=>bd (PV.conv .u64 b) λe=>bd (vX d e) λf=>bd (PV.comp (hd f) 0) λg=>bd (PV.comp (hd f) 1) λh=>bd (PV.bin .gtr g (.int .u64 0)) λi=>PV.ite i (none) (bd (PV.bin .gtr h (.int .u64 9223372036854775807)) λj=>PV.ite j (none) (jT a h)):=bD _ _ _ _ _ _ _ _ (by kernel_rfl)
theorem nQ : jT a b=bd (PV.conv .i64 b) λc=>bd (PV.zeros 8 (.int .i64 0) c) λd=>bd (PV.bin .leq c c) λe=>PV.ite e (bd (PV.zeros 8 (.int .i64 0) c) λf=>bd (PV.len f) λg=>bd (PV.ncopy f (.int .i64 0) g a) λh=>bd (PV.copyIn 1 false f (.int .i64 0) g a) λi=>eC h i) (none):=bD _ _ _ _ _ _ _ _ (by kernel_rfl)
theorem hX : eC a b=bd (PV.len b) λc=>bd (PV.bin .lss a c) λd=>PV.ite d (bd (PV.len b) λe=>bd (PV.cut 1 false b a e) λf=>bd (PV.cut 1 false b (.int .i64 0) a) λg=>bd (PV.cut 1 false b (.int .i64 0) a) λh=>bd (PV.ncopy b a e h) λi=>bd (PV.copyIn 1 false b a e h) λj=>bd (PV.bin .add a i) λk=>eC k j)
 (some [b]):=bD _ _ _ _ _ _ _ _ (by kernel_rfl)
theorem aAg : vX a b=bd (sQ a b) λc=>bd (PV.comp (hd c) 0) λd=>bd (PV.comp (hd c) 1) λe=>some [(.tup [d,e])]:=bE _ _ _ (by kernel_rfl)
theorem xH : sQ a b=bd (PV.bin .and a (.int .u64 4294967295)) λc=>bd (PV.bin .shr a (.int .u64 32)) λd=>bd (PV.bin .and b (.int .u64 4294967295)) λe=>bd (PV.bin .shr b (.int .u64 32)) λf=>bd (PV.bin .mul c e) λg=>bd (PV.bin .mul d e) λh=>bd (PV.bin .shr g (.int .u64 32)) λi=>bd (PV.bin .add h i) λj=>bd (PV.bin .and j (.int .u64 4294967295)) λk=>
 bd (PV.bin .shr j (.int .u64 32)) λl=>bd (PV.bin .mul c f) λm=>bd (PV.bin .add k m) λn=>bd (PV.bin .mul d f) λo=>bd (PV.bin .add o l) λq=>bd (PV.bin .shr n (.int .u64 32)) λr=>bd (PV.bin .add q r) λs=>bd (PV.bin .mul a b) λt=>some [(.tup [s,t])]:=bE _ _ _ (by kernel_rfl)
theorem aA4 : rW a b=bd (PV.whole 2 a) λc=>bd (PV.cell c 0) λd=>bd (PV.cell c 1) λe=>bd (iF (.agg [d,e]) b) λf=>bd (PV.at_ 3 true e b) λg=>bd (PV.cell g 2) λh=>bd (PV.len h) λi=>cQ (hd f) h i (.int .i64 0) (.lst [.int .i64 0]):=bR _ _ _ _ (by kernel_rfl)
theorem oO : cQ a b c d e=bd (PV.bin .lss d c) λf=>PV.ite f (bd (PV.at_ 2 true b d) λg=>bd (PV.whole 2 g) λh=>bd (PV.cell h 0) λi=>bd (PV.cell h 1) λj=>bd (PV.at_ 1 false a d) λk=>bd (PV.bin .lss k (.int .i64 0)) λl=>PV.ite l (bd (PV.bin .add d (.int .i64 1)) λm=>cQ a b c m e) (bd (mJ (.agg [i,j])) λn=>
 bd (PV.not (hd n)) λo=>PV.ite o (bd (PV.bin .add d (.int .i64 1)) λq=>cQ a b c q e) (bd (PV.cat 1 8 false (.lst []) (.lst [j])) λr=>bd (PV.cat 1 8 false e r) λs=>bd (PV.bin .neq i (.int .i64 17)) λt=>PV.ite t (bd (PV.bin .add d (.int .i64 1)) λu=>bd (PV.cat 1 8 false (.lst []) (.lst [u])) λv=>bd (PV.cat 1 8 false s v) λw=>bd (PV.bin .add d (.int .i64 1)) λx=>
 cQ a b c x w) (bd (PV.bin .add d (.int .i64 1)) λy=>cQ a b c y s)))) (bd (iM e) λz=>PV.guardOwn (.own 1 8 false []) (gd z 0) (some [(gd z 0)])):=bD _ _ _ _ _ _ _ _ (by kernel_rfl)
theorem aCZ : rX a b=bd (PV.whole 2 a) λc=>bd (PV.cell c 0) λd=>bd (PV.cell c 1) λe=>bd (iF (.agg [d,e]) b) λf=>bd (PV.at_ 3 true e b) λg=>bd (PV.cell g 2) λh=>bd (PV.len h) λi=>dJ (hd f) h i (.int .i64 0) (.lst []):=bR _ _ _ _ (by kernel_rfl)
theorem rC : dJ a b c d e=bd (PV.bin .lss d c) λf=>PV.ite f (bd (PV.at_ 2 true b d) λg=>bd (PV.whole 2 g) λh=>bd (PV.cell h 0) λi=>bd (PV.cell h 1) λj=>bd (PV.at_ 1 false a d) λk=>bd (PV.bin .geq k (.int .i64 0)) λl=>PV.ite l (bd (mJ (.agg [i,j])) λm=>PV.ite (hd m) (bd (PV.bin .geq d j) λn=>PV.ite n (vY a b c d i j e)
 (bd (PV.bin .add d (.int .i64 1)) λo=>dJ a b c o e)) (bd (PV.bin .add d (.int .i64 1)) λq=>dJ a b c q e)) (bd (PV.bin .add d (.int .i64 1)) λr=>dJ a b c r e)) (bd (iM e) λs=>PV.guardOwn (.own 1 8 false []) (gd s 0) (some [(gd s 0)])):=bD _ _ _ _ _ _ _ _ (by kernel_rfl)
theorem aAh : vY a b c d e f g=bd (PV.cat 1 8 false (.lst []) (.lst [f])) λh=>bd (PV.cat 1 8 false g h) λi=>bd (PV.bin .add d (.int .i64 1)) λj=>dJ a b c j i:=bD _ _ _ _ _ _ _ _ (by kernel_rfl)
theorem aA5 : rY a b=bd (PV.whole 2 a) λc=>bd (PV.cell c 0) λd=>bd (PV.cell c 1) λe=>bd (rX (.agg [d,e]) b) λf=>PV.guardOwn (.own 1 8 false []) (gd f 0) (bd (PV.cat 1 8 false (gd f 0) (.lst [.int .i64 0])) λg=>bd (iM g) λh=>PV.guardOwn (.own 1 8 false []) (gd h 0) (some [(gd h 0)])):=bR _ _ _ _ (by kernel_rfl)
theorem xI : mU a b=bd (PV.whole 2 a) λc=>bd (PV.cell c 0) λd=>bd (PV.cell c 1) λe=>bd (jR (.agg [d,e]) b) λf=>PV.guardOwn (.own 1 8 false []) (gd f 0) (bd (PV.len (gd f 0)) λg=>bd (PV.bin .gtr g (.int .i64 0)) λh=>PV.ite h (bd (PV.inb (gd f 0) (.int .i64 0)) λi=>bd (PV.at_ 1 false (gd f 0) (.int .i64 0)) λj=>bd (PV.bin .eql j (.int .i64 0)) λk=>
 PV.ite k (some [(gd f 0)]) (bd (PV.cat 1 8 false (.lst [.int .i64 0]) (gd f 0)) λl=>some [l])) (bd (PV.cat 1 8 false (.lst [.int .i64 0]) (gd f 0)) λm=>some [m])):=bR _ _ _ _ (by kernel_rfl)
theorem vH : lP a b c=bd (dE (.int .i64 25) a b c) λd=>PV.ite (gd d 0) (bd (mV (.int .i64 2) (gd d 1) (gd d 2) (gd d 3)) λe=>bd (PV.whole 2 (gd e 0)) λf=>bd (PV.cell f 0) λg=>bd (PV.cell f 1) λh=>some [(.agg [g,h]),(gd e 1),(gd e 2),(gd e 3)]) (bd (lQ (gd d 1) (gd d 2) (gd d 3)) λi=>bd (PV.whole 2 (gd i 0)) λj=>
 bd (PV.cell j 0) λk=>bd (PV.cell j 1) λl=>some [(.agg [k,l]),(gd i 1),(gd i 2),(gd i 3)]):=bR _ _ _ _ (by kernel_rfl)
theorem vI : aC a b c d=bd (PV.bin .lss a (.int .i64 2)) λe=>PV.ite e (some [(.int .i64 0),b,c,d]) (bd (PV.len b) λf=>bd (PV.bin .lss c f) λg=>PV.ite g (bd (PV.at_ 1 false b c) λh=>bd (PV.conv .i64 h) λi=>eO a i b c d) (bd (PV.bin .mul d (.int .i64 1103)) λj=>bd (PV.bin .add j (.int .i64 12345)) λk=>bd (PV.bin .rem k (.int .i64 65521)) λl=>
 bd (PV.one l) λm=>bd (PV.len b) λn=>bd (PV.bin .gtr n (.int .i64 0)) λo=>PV.ite o (bd (PV.bin .quo m (.int .i64 7)) λq=>bd (PV.len b) λr=>bd (PV.bin .rem c r) λs=>bd (PV.at_ 1 false b s) λt=>bd (PV.conv .i64 t) λu=>bd (PV.bin .add q u) λv=>eO a v b c m) (eO a (.int .i64 0) b c m))):=bR _ _ _ _ (by kernel_rfl)
theorem rZ : eO a b c d e=bd (PV.bin .add d (.int .i64 1)) λf=>bd (PV.one f) λg=>bd (PV.bin .rem b a) λh=>some [h,c,g,e]:=bD _ _ _ _ _ _ _ _ (by kernel_rfl)
theorem aA6 : nN a=gQ a (.int .i64 0) (.lst []):=bR _ _ _ _ (by kernel_rfl)
theorem oP : gQ a b c=bd (PV.len a) λd=>bd (PV.bin .lss b d) λe=>PV.ite e (bd (PV.at_ 1 false a b) λf=>PV.ite f (bd (PV.cat 1 8 false (.lst []) (.lst [b])) λg=>bd (PV.cat 1 8 false c g) λh=>bd (PV.bin .add b (.int .i64 1)) λi=>gQ a i h) (bd (PV.bin .add b (.int .i64 1)) λj=>gQ a j c)) (some [c]):=bD _ _ _ _ _ _ _ _ (by kernel_rfl)
theorem yQ : iM a=pA [.p a] ⟨[],[],0,0,0⟩:=bR _ _ _ _ (by kernel_rfl)
theorem vJ : dE a b c d=bd (aC a b c d) λe=>bd (PV.bin .sub a (.int .i64 1)) λf=>bd (PV.bin .eql (gd e 0) f) λg=>some [g,(gd e 1),(gd e 2),(gd e 3)]:=bR _ _ _ _ (by kernel_rfl)
theorem xJ : mV a b c d=bd (gK b c d) λe=>bd (PV.whole 2 (gd e 0)) λf=>bd (PV.cell f 0) λg=>bd (PV.cell f 1) λh=>bd (dE a (gd e 1) (gd e 2) (gd e 3)) λi=>PV.ite (gd i 0) (bd (qH g h (gd i 1) (gd i 2) (gd i 3)) λj=>bd (PV.whole 2 (gd j 0)) λk=>bd (PV.cell k 0) λl=>bd (PV.cell k 1) λm=>
 some [(.agg [l,m]),(gd j 1),(gd j 2),(gd j 3)]) (some [(.agg [g,h]),(gd i 1),(gd i 2),(gd i 3)]):=bR _ _ _ _ (by kernel_rfl)
theorem vK : lQ a b c=bd (gK a b c) λd=>bd (PV.whole 2 (gd d 0)) λe=>bd (PV.cell e 0) λf=>bd (PV.cell e 1) λg=>bd (nI (.agg [f,g])) λh=>bd (PV.not (hd h)) λi=>PV.ite i (some [(.agg [(.lst []),(.lst [(.agg [(.int .i64 0),(.int .i64 1),(.lst [(.agg [(.int .i64 6),(.int .i64 0)]),(.agg [(.int .i64 26),(.int .i64 0)]),(.agg [(.int .i64 4),(.int .i64 0)]),(.agg [(.int .i64 25),(.int .i64 0)])])])])]),(gd d 1),(gd d 2),(gd d 3)])
 (some [(.agg [f,g]),(gd d 1),(gd d 2),(gd d 3)]):=bR _ _ _ _ (by kernel_rfl)
theorem sV : gK a b c=bd (aC (.int .i64 3) a b c) λd=>fC (gd d 0) (gd d 1) (gd d 2) (gd d 3) (.lst []) (.lst []) (.lst []) (.lst []):=bR _ _ _ _ (by kernel_rfl)
theorem jU : fC a b c d e f g h=bd (PV.bin .gtr a (.int .i64 0)) λi=>PV.ite i (bd (aC (.int .i64 5) b c d) λj=>bd (PV.inb (.lst [(.str (bs [])),(.str (bs [97])),(.str (bs [98,99])),(.str (bs [104,101,108,108,111,32,119,111,114,108,100])),(.str (bs [120,32,121]))]) (gd j 0)) λk=>bd (PV.at_ 1 false (.lst [(.str (bs [])),(.str (bs [97])),(.str (bs [98,99])),(.str (bs [104,101,108,108,111,32,119,111,114,108,100])),(.str (bs [120,32,121]))]) (gd j 0)) λl=>
 bd (PV.cat 1 16 false (.lst []) (.lst [l])) λm=>bd (PV.cat 1 16 false g m) λn=>bd (PV.bin .sub a (.int .i64 1)) λo=>fC o (gd j 1) (gd j 2) (gd j 3) e f n h) (bd (aC (.int .i64 4) b c d) λq=>dT (gd q 0) (gd q 1) (gd q 2) (gd q 3) e f g h (.lst [])):=bD _ _ _ _ _ _ _ _ (by kernel_rfl)
theorem jV : dT a b c d e f g h i=bd (PV.bin .gtr a (.int .i64 0)) λj=>PV.ite j (bd (aC (.int .i64 3) b c d) λk=>bd (PV.one (gd k 0)) λl=>bd (PV.bin .add (.int .i64 1) l) λm=>bd (aC (.int .i64 2) (gd k 1) (gd k 2) (gd k 3)) λn=>bd (PV.bin .add m (gd n 0)) λo=>bd (PV.one o) λq=>bd (PV.len g) λr=>
 bd (PV.cat 3 40 true (.lst []) i) λs=>bd (PV.one r) λt=>bd (PV.one q) λu=>bd (dE (.int .i64 3) (gd n 1) (gd n 2) (gd n 3)) λv=>PV.ite (gd v 0) (bd (dZ (.int .i64 1) (.int .i64 2) s t u (.bool false) (gd v 1) (gd v 2) (gd v 3) (.lst [])) λw=>eT a (gd w 4) (gd w 5) (gd w 6) l q (gd w 0) (gd w 1) (gd w 2) (gd w 3) e f g h i (.lst []) (gd w 7))
 (eT a (gd v 1) (gd v 2) (gd v 3) l q s t u (.bool false) e f g h i (.lst []) (.lst []))) (bd (aC (.int .i64 3) b c d) λx=>bd (aC (.int .i64 2) (gd x 1) (gd x 2) (gd x 3)) λy=>bd (PV.bin .add (.int .i64 3) (gd y 0)) λz=>bd (PV.one (gd x 0)) λA=>bd (PV.one z) λB=>bd (PV.len g) λC=>bd (PV.one C) λD=>bd (PV.one B) λE=>
 bd (lR (.int .i64 5) (gd y 1) (gd y 2) (gd y 3)) λF=>bd (PV.bin .add (.int .i64 1) (gd F 0)) λG=>bd (dZ (.int .i64 2) G i D E (.bool true) (gd F 1) (gd F 2) (gd F 3) (.lst [])) λH=>bd (aJ (.int .i64 1) (gd H 0) (gd H 1) (gd H 2) (gd H 3) (gd H 4) (gd H 5) (gd H 6) (gd H 7)) λI=>bd (aE (.int .i64 25) (.int .i64 0) (gd I 0) (gd I 1) (gd I 2) (gd I 3) (gd I 4) (gd I 5) (gd I 6) (gd I 7)) λJ=>
 bd (PV.cat 3 40 true (.lst [(.agg [A,B,(gd J 7)])]) i) λK=>some [(.agg [g,K]),(gd J 4),(gd J 5),(gd J 6)]):=bD _ _ _ _ _ _ _ _ (by kernel_rfl)
theorem oY : eT a b c d e f g h i j k l m n o q r=bd (aJ (.int .i64 2) g h i j b c d r) λs=>bd (aE (.int .i64 25) (.int .i64 0) (gd s 0) (gd s 1) (gd s 2) (gd s 3) (gd s 4) (gd s 5) (gd s 6) (gd s 7)) λt=>bd (PV.cat 3 40 true o (.lst [(.agg [e,f,(gd t 7)])])) λu=>bd (PV.bin .sub a (.int .i64 1)) λv=>dT v (gd t 4) (gd t 5) (gd t 6) k l m n u:=bD _ _ _ _ _ _ _ _ (by kernel_rfl)
theorem aAi : qH a b c d e=bd (kK (.agg [a,b])) λf=>PV.guardOwn (.own 1 16 false []) (gd f 0) (PV.guardOwn (.own 3 40 true [.leaf,.leaf,(.own 2 16 true [])]) (gd f 1) (bd (PV.len (gd f 1)) λg=>bd (aC g c d e) λh=>bd (PV.inb (gd f 1) (gd h 0)) λi=>bd (PV.at_ 3 true (gd f 1) (gd h 0)) λj=>bd (PV.at_ 3 true (gd f 1) (gd h 0)) λk=>
 bd (PV.cell k 2) λl=>bd (PV.len l) λm=>bd (aC m (gd h 1) (gd h 2) (gd h 3)) λn=>bd (aC (.int .i64 8) (gd n 1) (gd n 2) (gd n 3)) λo=>bd (PV.bin .eql (gd o 0) (.int .i64 0)) λq=>PV.ite q (bd (PV.inb (gd f 1) (gd h 0)) λr=>bd (PV.at_ 3 true (gd f 1) (gd h 0)) λs=>bd (aC (.int .i64 29) (gd o 1) (gd o 2) (gd o 3)) λt=>bd (PV.bin .sub (gd t 0) (.int .i64 1)) λu=>
 bd (PV.at_ 3 true (gd f 1) (gd h 0)) λv=>bd (PV.cell v 2) λw=>bd (PV.inb w (gd n 0)) λx=>bd (PV.at_ 3 true (gd f 1) (gd h 0)) λy=>bd (PV.cell y 2) λz=>bd (PV.one u) λA=>bd (PV.at_ 3 true (gd f 1) (gd h 0)) λB=>bd (PV.cell B 2) λC=>bd (PV.setCell 2 C (gd n 0) 0 A) λD=>bd (PV.at_ 3 true (gd f 1) (gd h 0)) λE=>bd (PV.cell E 2) λF=>bd (PV.setCell 3 (gd f 1) (gd h 0) 2 D) λG=>
 some [(.agg [(gd f 0),G]),(gd t 1),(gd t 2),(gd t 3)]) (bd (PV.bin .eql (gd o 0) (.int .i64 1)) λH=>PV.ite H (bd (PV.inb (gd f 1) (gd h 0)) λI=>bd (PV.at_ 3 true (gd f 1) (gd h 0)) λJ=>bd (kL (gd o 1) (gd o 2) (gd o 3)) λK=>bd (PV.at_ 3 true (gd f 1) (gd h 0)) λL=>bd (PV.cell L 2) λM=>bd (PV.inb M (gd n 0)) λN=>bd (PV.at_ 3 true (gd f 1) (gd h 0)) λO=>
 bd (PV.cell O 2) λP=>bd (PV.one (gd K 0)) λQ=>bd (PV.at_ 3 true (gd f 1) (gd h 0)) λR=>bd (PV.cell R 2) λS=>bd (PV.setCell 2 S (gd n 0) 1 Q) λT=>bd (PV.at_ 3 true (gd f 1) (gd h 0)) λU=>bd (PV.cell U 2) λV=>bd (PV.setCell 3 (gd f 1) (gd h 0) 2 T) λW=>some [(.agg [(gd f 0),W]),(gd K 1),(gd K 2),(gd K 3)]) (bd (PV.bin .eql (gd o 0) (.int .i64 2)) λX=>PV.ite X
 (bd (aC (.int .i64 9) (gd o 1) (gd o 2) (gd o 3)) λY=>bd (PV.bin .sub (gd Y 0) (.int .i64 1)) λZ=>bd (PV.inb (gd f 1) (gd h 0)) λaa=>bd (PV.one Z) λab=>bd (PV.setCell 3 (gd f 1) (gd h 0) 0 ab) λac=>some [(.agg [(gd f 0),ac]),(gd Y 1),(gd Y 2),(gd Y 3)]) (bd (PV.bin .eql (gd o 0) (.int .i64 3)) λad=>PV.ite ad (bd (aC (.int .i64 4) (gd o 1) (gd o 2) (gd o 3)) λae=>
 bd (PV.inb (.lst [(.int .i64 (-1)),(.int .i64 0),(.int .i64 12),(.int .i64 13)]) (gd ae 0)) λaf=>bd (PV.at_ 1 false (.lst [(.int .i64 (-1)),(.int .i64 0),(.int .i64 12),(.int .i64 13)]) (gd ae 0)) λag=>bd (PV.inb (gd f 1) (gd h 0)) λah=>bd (PV.one ag) λai=>bd (PV.setCell 3 (gd f 1) (gd h 0) 1 ai) λaj=>some [(.agg [(gd f 0),aj]),(gd ae 1),(gd ae 2),(gd ae 3)]) (bd (PV.bin .eql (gd o 0) (.int .i64 4)) λak=>
 PV.ite ak (bd (aC (.int .i64 4) (gd o 1) (gd o 2) (gd o 3)) λal=>bd (PV.inb (.lst [(.str (bs [113,34])),(.str (bs [10])),(.str (bs [48,49,50,51,52,53,54,55,56,57,48,49,50,51,52,53,54,55,56,57,48,49,50,51,52,53,54,55,56,57,48,49,50,51,52,53,54,55,56,57,48,49,50,51,52,53,54,55,56,57,48,49,50,51,52,53,54,55,56,57,48])),(.str (bs [195,169]))]) (gd al 0)) λam=>
 bd (PV.at_ 1 false (.lst [(.str (bs [113,34])),(.str (bs [10])),(.str (bs [48,49,50,51,52,53,54,55,56,57,48,49,50,51,52,53,54,55,56,57,48,49,50,51,52,53,54,55,56,57,48,49,50,51,52,53,54,55,56,57,48,49,50,51,52,53,54,55,56,57,48,49,50,51,52,53,54,55,56,57,48])),(.str (bs [195,169]))]) (gd al 0)) λan=>bd (PV.cat 1 16 false (.lst []) (.lst [an])) λao=>
 bd (PV.cat 1 16 false (gd f 0) ao) λap=>some [(.agg [ap,(gd f 1)]),(gd al 1),(gd al 2),(gd al 3)]) (bd (PV.bin .eql (gd o 0) (.int .i64 5)) λaq=>PV.ite aq (bd (PV.inb (gd f 1) (gd h 0)) λar=>bd (PV.at_ 3 true (gd f 1) (gd h 0)) λau=>bd (PV.at_ 3 true (gd f 1) (gd h 0)) λav=>bd (PV.cell av 2) λaw=>bd (PV.cut 2 true aw (.int .i64 0) (gd n 0)) λax=>bd (PV.inb (gd f 1) (gd h 0)) λay=>
 bd (PV.at_ 3 true (gd f 1) (gd h 0)) λaz=>bd (PV.bin .add (gd n 0) (.int .i64 1)) λba=>bd (PV.at_ 3 true (gd f 1) (gd h 0)) λbb=>bd (PV.cell bb 2) λbc=>bd (PV.len bc) λbe=>bd (PV.cut 2 true bc ba be) λbf=>bd (PV.at_ 3 true (gd f 1) (gd h 0)) λbg=>bd (PV.cell bg 2) λbh=>bd (PV.at_ 3 true (gd f 1) (gd h 0)) λbi=>bd (PV.cell bi 2) λbj=>bd (PV.cut 2 true bj ba be) λbk=>
 bd (PV.cut 2 true bh (.int .i64 0) (gd n 0)) λbl=>bd (PV.at_ 3 true (gd f 1) (gd h 0)) λbm=>bd (PV.cell bm 2) λbn=>bd (PV.setCell 3 (gd f 1) (gd h 0) 2 .hole) λbo=>bd (PV.cat 2 16 true bl bk) λbp=>bd (PV.inb bo (gd h 0)) λbq=>bd (PV.setCell 3 bo (gd h 0) 2 bp) λbr=>some [(.agg [(gd f 0),br]),(gd o 1),(gd o 2),(gd o 3)]) (bd (PV.bin .eql (gd o 0) (.int .i64 6)) λbt=>
 PV.ite bt (hJ (gd o 1) (gd o 2) (gd o 3) (.lst []) (.lst []) (gd f 0) (gd f 1)) (bd (PV.inb (gd f 1) (gd h 0)) λbu=>bd (PV.at_ 3 true (gd f 1) (gd h 0)) λbv=>bd (PV.at_ 3 true (gd f 1) (gd h 0)) λbw=>bd (PV.cell bw 2) λbx=>bd (PV.inb bx (gd n 0)) λbz=>bd (PV.at_ 3 true (gd f 1) (gd h 0)) λca=>bd (PV.cell ca 2) λcb=>bd (PV.at_ 2 true cb (gd n 0)) λcc=>
 bd (PV.whole 2 cc) λcd=>bd (PV.cell cd 0) λce=>bd (PV.cell cd 1) λcf=>iY (gd h 0) (gd o 1) (gd o 2) (gd o 3) ce cf (.lst []) (.lst []) (gd f 0) (gd f 1)))))))))):=bR _ _ _ _ (by kernel_rfl)
variable (a b c d e f g h i j : PV)
theorem mN : hJ a b c d e f g=bd (PV.len g) λh=>bd (aC (.int .i64 2) a b c) λi=>bd (PV.bin .add (.int .i64 12) (gd i 0)) λj=>bd (PV.bin .lss h j) λk=>PV.ite k (bd (PV.cat 3 40 true g (.lst [(.agg [(.int .i64 0),(.int .i64 0),(.lst [(.agg [(.int .i64 4),(.int .i64 0)]),(.agg [(.int .i64 25),(.int .i64 0)])])])])) λl=>hJ (gd i 1) (gd i 2) (gd i 3) d e f l)
 (some [(.agg [f,g]),(gd i 1),(gd i 2),(gd i 3)]):=bD _ _ _ _ _ _ _ _ (by kernel_rfl)
theorem nE : iY a b c d e f g h i j=bd (PV.inb j a) λk=>bd (PV.at_ 3 true j a) λl=>bd (PV.at_ 3 true j a) λm=>bd (PV.cell m 2) λn=>bd (PV.len n) λo=>bd (aC (.int .i64 2) b c d) λp=>bd (PV.bin .add (.int .i64 120) (gd p 0)) λq=>bd (PV.bin .lss o q) λr=>PV.ite r (bd (PV.inb j a) λs=>bd (PV.at_ 3 true j a) λt=>
 bd (PV.at_ 3 true j a) λu=>bd (PV.cell u 2) λv=>bd (PV.at_ 3 true j a) λw=>bd (PV.cell w 2) λx=>bd (PV.setCell 3 j a 2 .hole) λy=>bd (PV.cat 2 16 true v (.lst [(.agg [e,f])])) λz=>bd (PV.inb y a) λA=>bd (PV.setCell 3 y a 2 z) λB=>iY a (gd p 1) (gd p 2) (gd p 3) e f g h i B) (some [(.agg [i,j]),(gd p 1),(gd p 2),(gd p 3)]):=bD _ _ _ _ _ _ _ _ (by kernel_rfl)
theorem vL : dZ a b c d e f g h i j=bd (aC b g h i) λk=>bd (PV.bin .add (.int .i64 1) (gd k 0)) λl=>dN a l c d e f (gd k 1) (gd k 2) (gd k 3) j:=bR _ _ _ _ (by kernel_rfl)
theorem sA : dN a b c d e f g h i j=bd (PV.bin .gtr b (.int .i64 0)) λk=>PV.ite k (bd (PV.len j) λl=>bd (PV.bin .lss l (.int .i64 70)) λm=>PV.ite m (bd (gD a c d e f g h i j) λn=>bd (PV.bin .sub b (.int .i64 1)) λo=>dN a o (gd n 0) (gd n 1) (gd n 2) (gd n 3) (gd n 4) (gd n 5) (gd n 6) (gd n 7)) (some [c,d,e,f,g,h,i,j]))
 (some [c,d,e,f,g,h,i,j]):=bD _ _ _ _ _ _ _ _ (by kernel_rfl)
theorem vM : lR a b c d=bd (PV.len b) λe=>bd (PV.bin .quo e (.int .i64 12)) λf=>bd (PV.bin .add (.int .i64 1) f) λg=>bd (PV.bin .gtr g a) λh=>PV.ite h (bd (PV.bin .add a (.int .i64 1)) λi=>bd (aC i b c d) λj=>some [(gd j 0),(gd j 1),(gd j 2),(gd j 3)]) (bd (PV.bin .add g (.int .i64 1)) λk=>bd (aC k b c d) λl=>
 some [(gd l 0),(gd l 1),(gd l 2),(gd l 3)]):=bR _ _ _ _ (by kernel_rfl)
theorem mO : aJ a b c d e f g h i=bd (PV.bin .leq a (.int .i64 0)) λj=>PV.ite j (eF b c d e f g h i) (bd (PV.len i) λk=>bd (PV.bin .gtr k (.int .i64 90)) λl=>PV.ite l (eF b c d e f g h i) (bd (aC (.int .i64 16) f g h) λm=>bd (PV.bin .eql (gd m 0) (.int .i64 0)) λn=>PV.ite n (bd (aC (.int .i64 8) (gd m 1) (gd m 2) (gd m 3)) λo=>
 bd (PV.inb (.lst [(.int .i64 0),(.int .i64 1),(.int .i64 2),(.int .i64 10),(.int .i64 31623),(.int .i64 1000000000),(.int .i64 (-1)),(.int .i64 7)]) (gd o 0)) λp=>bd (PV.at_ 1 false (.lst [(.int .i64 0),(.int .i64 1),(.int .i64 2),(.int .i64 10),(.int .i64 31623),(.int .i64 1000000000),(.int .i64 (-1)),(.int .i64 7)]) (gd o 0)) λq=>bd (aE (.int .i64 1) q b c d e (gd o 1) (gd o 2) (gd o 3) i) λr=>
 some [(gd r 0),(gd r 1),(gd r 2),(gd r 3),(gd r 4),(gd r 5),(gd r 6),(gd r 7)]) (bd (PV.bin .eql (gd m 0) (.int .i64 1)) λs=>PV.ite s (bd (aC (.int .i64 2) (gd m 1) (gd m 2) (gd m 3)) λt=>bd (aE (.int .i64 2) (gd t 0) b c d e (gd t 1) (gd t 2) (gd t 3) i) λu=>some [(gd u 0),(gd u 1),(gd u 2),(gd u 3),(gd u 4),(gd u 5),(gd u 6),(gd u 7)]) (bd (PV.bin .eql (gd m 0) (.int .i64 2)) λv=>
 PV.ite v (bd (PV.bin .sub a (.int .i64 1)) λw=>bd (aJ w b c d e (gd m 1) (gd m 2) (gd m 3) i) λx=>bd (PV.bin .sub a (.int .i64 1)) λy=>bd (aJ y (gd x 0) (gd x 1) (gd x 2) (gd x 3) (gd x 4) (gd x 5) (gd x 6) (gd x 7)) λz=>bd (aC (.int .i64 6) (gd z 4) (gd z 5) (gd z 6)) λA=>bd (PV.inb (.lst [(.int .i64 11),(.int .i64 11),(.int .i64 12),(.int .i64 13),(.int .i64 14),(.int .i64 15)]) (gd A 0)) λB=>
 bd (PV.at_ 1 false (.lst [(.int .i64 11),(.int .i64 11),(.int .i64 12),(.int .i64 13),(.int .i64 14),(.int .i64 15)]) (gd A 0)) λC=>bd (aE C (.int .i64 0) (gd z 0) (gd z 1) (gd z 2) (gd z 3) (gd A 1) (gd A 2) (gd A 3) (gd z 7)) λD=>some [(gd D 0),(gd D 1),(gd D 2),(gd D 3),(gd D 4),(gd D 5),(gd D 6),(gd D 7)]) (bd (PV.bin .eql (gd m 0) (.int .i64 3)) λE=>PV.ite E
 (bd (PV.bin .sub a (.int .i64 1)) λF=>bd (aJ F b c d e (gd m 1) (gd m 2) (gd m 3) i) λG=>bd (PV.bin .sub a (.int .i64 1)) λH=>bd (aJ H (gd G 0) (gd G 1) (gd G 2) (gd G 3) (gd G 4) (gd G 5) (gd G 6) (gd G 7)) λI=>bd (aC (.int .i64 6) (gd I 4) (gd I 5) (gd I 6)) λJ=>bd (PV.inb (.lst [(.int .i64 11),(.int .i64 11),(.int .i64 12),(.int .i64 13),(.int .i64 14),(.int .i64 15)]) (gd J 0)) λK=>
 bd (PV.at_ 1 false (.lst [(.int .i64 11),(.int .i64 11),(.int .i64 12),(.int .i64 13),(.int .i64 14),(.int .i64 15)]) (gd J 0)) λL=>bd (aE L (.int .i64 0) (gd I 0) (gd I 1) (gd I 2) (gd I 3) (gd J 1) (gd J 2) (gd J 3) (gd I 7)) λM=>some [(gd M 0),(gd M 1),(gd M 2),(gd M 3),(gd M 4),(gd M 5),(gd M 6),(gd M 7)]) (bd (PV.bin .eql (gd m 0) (.int .i64 4)) λN=>PV.ite N
 (bd (PV.bin .sub a (.int .i64 1)) λO=>bd (aJ O b c d e (gd m 1) (gd m 2) (gd m 3) i) λP=>bd (PV.bin .sub a (.int .i64 1)) λQ=>bd (aJ Q (gd P 0) (gd P 1) (gd P 2) (gd P 3) (gd P 4) (gd P 5) (gd P 6) (gd P 7)) λR=>bd (aC (.int .i64 6) (gd R 4) (gd R 5) (gd R 6)) λS=>bd (PV.inb (.lst [(.int .i64 11),(.int .i64 11),(.int .i64 12),(.int .i64 13),(.int .i64 14),(.int .i64 15)]) (gd S 0)) λT=>
 bd (PV.at_ 1 false (.lst [(.int .i64 11),(.int .i64 11),(.int .i64 12),(.int .i64 13),(.int .i64 14),(.int .i64 15)]) (gd S 0)) λU=>bd (aE U (.int .i64 0) (gd R 0) (gd R 1) (gd R 2) (gd R 3) (gd S 1) (gd S 2) (gd S 3) (gd R 7)) λV=>some [(gd V 0),(gd V 1),(gd V 2),(gd V 3),(gd V 4),(gd V 5),(gd V 6),(gd V 7)]) (bd (PV.bin .eql (gd m 0) (.int .i64 5)) λW=>PV.ite W
 (bd (PV.bin .sub a (.int .i64 1)) λX=>bd (aJ X b c d e (gd m 1) (gd m 2) (gd m 3) i) λY=>bd (PV.bin .sub a (.int .i64 1)) λZ=>bd (aJ Z (gd Y 0) (gd Y 1) (gd Y 2) (gd Y 3) (gd Y 4) (gd Y 5) (gd Y 6) (gd Y 7)) λaa=>bd (aC (.int .i64 6) (gd aa 4) (gd aa 5) (gd aa 6)) λab=>bd (PV.inb (.lst [(.int .i64 11),(.int .i64 11),(.int .i64 12),(.int .i64 13),(.int .i64 14),(.int .i64 15)]) (gd ab 0)) λac=>
 bd (PV.at_ 1 false (.lst [(.int .i64 11),(.int .i64 11),(.int .i64 12),(.int .i64 13),(.int .i64 14),(.int .i64 15)]) (gd ab 0)) λad=>bd (aE ad (.int .i64 0) (gd aa 0) (gd aa 1) (gd aa 2) (gd aa 3) (gd ab 1) (gd ab 2) (gd ab 3) (gd aa 7)) λae=>some [(gd ae 0),(gd ae 1),(gd ae 2),(gd ae 3),(gd ae 4),(gd ae 5),(gd ae 6),(gd ae 7)]) (bd (PV.bin .eql (gd m 0) (.int .i64 6)) λaf=>
 PV.ite af (bd (PV.bin .sub a (.int .i64 1)) λag=>bd (aJ ag b c d e (gd m 1) (gd m 2) (gd m 3) i) λah=>bd (PV.bin .sub a (.int .i64 1)) λai=>bd (aJ ai (gd ah 0) (gd ah 1) (gd ah 2) (gd ah 3) (gd ah 4) (gd ah 5) (gd ah 6) (gd ah 7)) λaj=>bd (aC (.int .i64 6) (gd aj 4) (gd aj 5) (gd aj 6)) λak=>bd (PV.inb (.lst [(.int .i64 11),(.int .i64 11),(.int .i64 12),(.int .i64 13),(.int .i64 14),(.int .i64 15)]) (gd ak 0)) λal=>
 bd (PV.at_ 1 false (.lst [(.int .i64 11),(.int .i64 11),(.int .i64 12),(.int .i64 13),(.int .i64 14),(.int .i64 15)]) (gd ak 0)) λam=>bd (aE am (.int .i64 0) (gd aj 0) (gd aj 1) (gd aj 2) (gd aj 3) (gd ak 1) (gd ak 2) (gd ak 3) (gd aj 7)) λan=>some [(gd an 0),(gd an 1),(gd an 2),(gd an 3),(gd an 4),(gd an 5),(gd an 6),(gd an 7)]) (bd (PV.bin .eql (gd m 0) (.int .i64 7)) λao=>
 PV.ite ao (bd (PV.bin .sub a (.int .i64 1)) λap=>bd (aJ ap b c d e (gd m 1) (gd m 2) (gd m 3) i) λaq=>bd (aE (.int .i64 16) (.int .i64 0) (gd aq 0) (gd aq 1) (gd aq 2) (gd aq 3) (gd aq 4) (gd aq 5) (gd aq 6) (gd aq 7)) λar=>some [(gd ar 0),(gd ar 1),(gd ar 2),(gd ar 3),(gd ar 4),(gd ar 5),(gd ar 6),(gd ar 7)]) (bd (PV.bin .eql (gd m 0) (.int .i64 8)) λau=>
 PV.ite au (bd (fA a b c d e (gd m 1) (gd m 2) (gd m 3) i) λav=>some [(gd av 0),(gd av 1),(gd av 2),(gd av 3),(gd av 4),(gd av 5),(gd av 6),(gd av 7)]) (bd (PV.bin .eql (gd m 0) (.int .i64 9)) λaw=>PV.ite aw (bd (fA a b c d e (gd m 1) (gd m 2) (gd m 3) i) λax=>some [(gd ax 0),(gd ax 1),(gd ax 2),(gd ax 3),(gd ax 4),(gd ax 5),(gd ax 6),(gd ax 7)])
 (bd (PV.bin .eql (gd m 0) (.int .i64 10)) λay=>PV.ite ay (bd (PV.bin .sub a (.int .i64 1)) λaz=>bd (aJ az b c d e (gd m 1) (gd m 2) (gd m 3) i) λba=>bd (aC (.int .i64 2) (gd ba 4) (gd ba 5) (gd ba 6)) λbb=>bd (aE (.int .i64 21) (gd bb 0) (gd ba 0) (gd ba 1) (gd ba 2) (gd ba 3) (gd bb 1) (gd bb 2) (gd bb 3) (gd ba 7)) λbc=>some [(gd bc 0),(gd bc 1),(gd bc 2),(gd bc 3),(gd bc 4),(gd bc 5),(gd bc 6),(gd bc 7)])
 (bd (PV.bin .eql (gd m 0) (.int .i64 11)) λbe=>PV.ite be (bd (PV.len b) λbf=>bd (PV.bin .gtr bf (.int .i64 0)) λbg=>PV.ite bg (bd (PV.len b) λbh=>bd (aC bh (gd m 1) (gd m 2) (gd m 3)) λbi=>bV a (gd bi 0) (.int .i64 0) b c d e (gd bi 1) (gd bi 2) (gd bi 3) i) (bd (PV.bin .sub a (.int .i64 1)) λbj=>bd (aJ bj b c d e (gd m 1) (gd m 2) (gd m 3) i) λbk=>
 some [(gd bk 0),(gd bk 1),(gd bk 2),(gd bk 3),(gd bk 4),(gd bk 5),(gd bk 6),(gd bk 7)])) (bd (PV.bin .eql (gd m 0) (.int .i64 12)) λbl=>PV.ite bl (bd (PV.len b) λbm=>bd (PV.bin .gtr bm (.int .i64 0)) λbn=>PV.ite bn (bd (PV.len b) λbo=>bd (aC bo (gd m 1) (gd m 2) (gd m 3)) λbp=>bV a (gd bp 0) (.int .i64 0) b c d e (gd bp 1) (gd bp 2) (gd bp 3) i)
 (bd (PV.bin .sub a (.int .i64 1)) λbq=>bd (aJ bq b c d e (gd m 1) (gd m 2) (gd m 3) i) λbr=>some [(gd br 0),(gd br 1),(gd br 2),(gd br 3),(gd br 4),(gd br 5),(gd br 6),(gd br 7)])) (bd (PV.bin .eql (gd m 0) (.int .i64 13)) λbs=>PV.ite bs (bd (PV.len b) λbt=>bd (PV.bin .gtr bt (.int .i64 0)) λbu=>PV.ite bu (bd (PV.len b) λbv=>bd (aC bv (gd m 1) (gd m 2) (gd m 3)) λbw=>
 bd (gL (gd bw 0) b c d e (gd bw 1) (gd bw 2) (gd bw 3) i) λbx=>bd (aE (.int .i64 5) (gd bx 0) (gd bx 1) (gd bx 2) (gd bx 3) (gd bx 4) (gd bx 5) (gd bx 6) (gd bx 7) (gd bx 8)) λbz=>bd (dE (.int .i64 6) (gd bz 4) (gd bz 5) (gd bz 6)) λca=>PV.ite (gd ca 0) (bd (PV.len (gd bz 7)) λcb=>bd (PV.bin .sub cb (.int .i64 1)) λcc=>bd (PV.cut 2 true (gd bz 7) (.int .i64 0) cc) λcd=>
 bd (PV.cut 2 true (gd bz 7) (.int .i64 0) cc) λce=>bd (aC (gd bz 2) (gd ca 1) (gd ca 2) (gd ca 3)) λcf=>bd (aE (.int .i64 6) (gd cf 0) (gd bz 0) (gd bz 1) (gd bz 2) (gd bz 3) (gd cf 1) (gd cf 2) (gd cf 3) ce) λcg=>dU a (gd bw 0) (gd cg 0) (gd cg 1) (gd cg 2) (gd cg 3) (gd cg 4) (gd cg 5) (gd cg 6) (gd cg 7)) (dU a (gd bw 0) (gd bz 0) (gd bz 1) (gd bz 2) (gd bz 3) (gd ca 1) (gd ca 2) (gd ca 3) (gd bz 7)))
 (bd (PV.bin .sub a (.int .i64 1)) λch=>bd (aJ ch b c d e (gd m 1) (gd m 2) (gd m 3) i) λci=>some [(gd ci 0),(gd ci 1),(gd ci 2),(gd ci 3),(gd ci 4),(gd ci 5),(gd ci 6),(gd ci 7)])) (bd (PV.bin .eql (gd m 0) (.int .i64 14)) λcj=>PV.ite cj (bd (PV.bin .sub a (.int .i64 1)) λck=>bd (aJ ck b c d e (gd m 1) (gd m 2) (gd m 3) i) λcl=>bd (aE (.int .i64 8) (.int .i64 0) (gd cl 0) (gd cl 1) (gd cl 2) (gd cl 3) (gd cl 4) (gd cl 5) (gd cl 6) (gd cl 7)) λcm=>
 bd (aC (.int .i64 3) (gd cm 4) (gd cm 5) (gd cm 6)) λcn=>bd (PV.inb (.lst [(.int .i64 11),(.int .i64 15),(.int .i64 13)]) (gd cn 0)) λco=>bd (PV.at_ 1 false (.lst [(.int .i64 11),(.int .i64 15),(.int .i64 13)]) (gd cn 0)) λcp=>bd (aE cp (.int .i64 0) (gd cm 0) (gd cm 1) (gd cm 2) (gd cm 3) (gd cn 1) (gd cn 2) (gd cn 3) (gd cm 7)) λcq=>some [(gd cq 0),(gd cq 1),(gd cq 2),(gd cq 3),(gd cq 4),(gd cq 5),(gd cq 6),(gd cq 7)])
 (bd (aC d (gd m 1) (gd m 2) (gd m 3)) λcr=>bd (aE (.int .i64 6) (gd cr 0) b c d e (gd cr 1) (gd cr 2) (gd cr 3) i) λcs=>some [(gd cs 0),(gd cs 1),(gd cs 2),(gd cs 3),(gd cs 4),(gd cs 5),(gd cs 6),(gd cs 7)]))))))))))))))))):=bR _ _ _ _ (by kernel_rfl)
variable (a b c d e f g h i j k : PV)
theorem rD : eF a b c d e f g h=bd (aC (.int .i64 5) e f g) λi=>bd (PV.bin .eql (gd i 0) (.int .i64 0)) λj=>PV.ite j (bd (aC (.int .i64 9) (gd i 1) (gd i 2) (gd i 3)) λk=>bd (PV.bin .sub (gd k 0) (.int .i64 2)) λl=>bd (aE (.int .i64 1) l a b c d (gd k 1) (gd k 2) (gd k 3) h) λm=>some [(gd m 0),(gd m 1),(gd m 2),(gd m 3),(gd m 4),(gd m 5),(gd m 6),(gd m 7)])
 (bd (PV.bin .eql (gd i 0) (.int .i64 1)) λn=>PV.ite n (bd (PV.bin .gtr b (.int .i64 0)) λo=>PV.ite o (bd (aC b (gd i 1) (gd i 2) (gd i 3)) λp=>bd (aE (.int .i64 3) (gd p 0) a b c d (gd p 1) (gd p 2) (gd p 3) h) λq=>some [(gd q 0),(gd q 1),(gd q 2),(gd q 3),(gd q 4),(gd q 5),(gd q 6),(gd q 7)]) (bd (aE (.int .i64 4) (.int .i64 0) a b c d (gd i 1) (gd i 2) (gd i 3) h) λr=>
 some [(gd r 0),(gd r 1),(gd r 2),(gd r 3),(gd r 4),(gd r 5),(gd r 6),(gd r 7)])) (bd (aC c (gd i 1) (gd i 2) (gd i 3)) λs=>bd (aE (.int .i64 6) (gd s 0) a b c d (gd s 1) (gd s 2) (gd s 3) h) λt=>some [(gd t 0),(gd t 1),(gd t 2),(gd t 3),(gd t 4),(gd t 5),(gd t 6),(gd t 7)])):=bD _ _ _ _ _ _ _ _ (by kernel_rfl)
theorem qJ : bV a b c d e f g h i j k=bd (PV.at_ 3 true d b) λl=>bd (PV.cell l 0) λm=>bd (PV.bin .lss c m) λn=>PV.ite n (bd (PV.bin .sub a (.int .i64 1)) λo=>bd (aJ o d e f g h i j k) λp=>bd (PV.bin .add c (.int .i64 1)) λq=>bV a b q (gd p 0) (gd p 1) (gd p 2) (gd p 3) (gd p 4) (gd p 5) (gd p 6) (gd p 7))
 (bd (gL b d e f g h i j k) λr=>bd (aE (.int .i64 24) (gd r 0) (gd r 1) (gd r 2) (gd r 3) (gd r 4) (gd r 5) (gd r 6) (gd r 7) (gd r 8)) λs=>some [(gd s 0),(gd s 1),(gd s 2),(gd s 3),(gd s 4),(gd s 5),(gd s 6),(gd s 7)]):=bD _ _ _ _ _ _ _ _ (by kernel_rfl)
theorem qK : dU a b c d e f g h i j=cX a b (.int .i64 0) c d e f g h i j:=bD _ _ _ _ _ _ _ _ (by kernel_rfl)
theorem qL : cX a b c d e f g h i j k=bd (PV.at_ 3 true d b) λl=>bd (PV.cell l 0) λm=>bd (PV.bin .lss c m) λn=>PV.ite n (bd (PV.bin .sub a (.int .i64 1)) λo=>bd (aJ o d e f g h i j k) λp=>bd (PV.bin .add c (.int .i64 1)) λq=>cX a b q (gd p 0) (gd p 1) (gd p 2) (gd p 3) (gd p 4) (gd p 5) (gd p 6) (gd p 7))
 (bd (PV.at_ 3 true d b) λr=>bd (PV.cell r 0) λs=>bd (aE (.int .i64 23) s d e f g h i j k) λt=>some [(gd t 0),(gd t 1),(gd t 2),(gd t 3),(gd t 4),(gd t 5),(gd t 6),(gd t 7)]):=bD _ _ _ _ _ _ _ _ (by kernel_rfl)
theorem xK : aE a b c d e f g h i j=bd (PV.one a) λk=>bd (PV.one b) λl=>bd (PV.cat 2 16 true j (.lst [(.agg [k,l])])) λm=>some [c,d,e,f,g,h,i,m]:=bR _ _ _ _ (by kernel_rfl)
theorem sW : kK a=bd (PV.whole 2 a) λb=>bd (PV.cell b 0) λc=>bd (PV.cell b 1) λd=>bd (PV.cat 1 16 false (.lst []) c) λe=>fD (.int .i64 0) c d (.lst []) (.lst []) e (.lst []):=bR _ _ _ _ (by kernel_rfl)
theorem jW : fD a b c d e f g=bd (PV.len c) λh=>bd (PV.bin .lss a h) λi=>PV.ite i (bd (PV.at_ 3 true c a) λj=>bd (PV.whole 3 j) λk=>bd (PV.cell k 0) λl=>bd (PV.cell k 1) λm=>bd (PV.cell k 2) λn=>bd (PV.cat 2 16 true (.lst []) n) λo=>bd (PV.one l) λp=>bd (PV.one m) λq=>bd (PV.cat 3 40 true g (.lst [(.agg [p,q,o])])) λr=>
 bd (PV.bin .add a (.int .i64 1)) λs=>fD s b c d e f r) (some [f,g]):=bD _ _ _ _ _ _ _ _ (by kernel_rfl)
theorem sX : kL a b c=bd (aC (.int .i64 9) a b c) λd=>bd (PV.bin .eql (gd d 0) (.int .i64 0)) λe=>PV.ite e (bd (aC (.int .i64 256) (gd d 1) (gd d 2) (gd d 3)) λf=>bd (PV.bin .sub (gd f 0) (.int .i64 128)) λg=>some [g,(gd f 1),(gd f 2),(gd f 3)]) (bd (PV.bin .eql (gd d 0) (.int .i64 1)) λh=>PV.ite h (bd (aC (.int .i64 8) (gd d 1) (gd d 2) (gd d 3)) λi=>
 bd (PV.inb (.lst [(.int .i64 1000000000),(.int .i64 (-1000000000)),(.int .i64 1000000001),(.int .i64 (-1000000001)),(.int .i64 9223372036854775807),(.int .i64 (-9223372036854775808)),(.int .i64 4611686018427387904),(.int .i64 31623)]) (gd i 0)) λj=>bd (PV.at_ 1 false (.lst [(.int .i64 1000000000),(.int .i64 (-1000000000)),(.int .i64 1000000001),(.int .i64 (-1000000001)),(.int .i64 9223372036854775807),(.int .i64 (-9223372036854775808)),(.int .i64 4611686018427387904),(.int .i64 31623)]) (gd i 0)) λk=>
 some [k,(gd i 1),(gd i 2),(gd i 3)]) (bd (aC (.int .i64 12) (gd d 1) (gd d 2) (gd d 3)) λl=>bd (PV.bin .sub (gd l 0) (.int .i64 3)) λm=>some [m,(gd l 1),(gd l 2),(gd l 3)])):=bR _ _ _ _ (by kernel_rfl)
theorem nF : gD a b c d e f g h i=bd (aC (.int .i64 9) f g h) λj=>bd (PV.bin .eql (gd j 0) (.int .i64 0)) λk=>PV.ite k (bd (aJ (.int .i64 2) b c d e (gd j 1) (gd j 2) (gd j 3) i) λl=>bd (aC (gd l 2) (gd l 4) (gd l 5) (gd l 6)) λm=>bd (aE (.int .i64 7) (gd m 0) (gd l 0) (gd l 1) (gd l 2) (gd l 3) (gd m 1) (gd m 2) (gd m 3) (gd l 7)) λn=>
 some [(gd n 0),(gd n 1),(gd n 2),(gd n 3),(gd n 4),(gd n 5),(gd n 6),(gd n 7)]) (bd (PV.bin .eql (gd j 0) (.int .i64 1)) λo=>PV.ite o (bd (aJ (.int .i64 2) b c d e (gd j 1) (gd j 2) (gd j 3) i) λp=>bd (aC (gd p 2) (gd p 4) (gd p 5) (gd p 6)) λq=>bd (aE (.int .i64 7) (gd q 0) (gd p 0) (gd p 1) (gd p 2) (gd p 3) (gd q 1) (gd q 2) (gd q 3) (gd p 7)) λr=>
 some [(gd r 0),(gd r 1),(gd r 2),(gd r 3),(gd r 4),(gd r 5),(gd r 6),(gd r 7)]) (bd (PV.bin .eql (gd j 0) (.int .i64 2)) λs=>PV.ite s (bd (aJ (.int .i64 2) b c d e (gd j 1) (gd j 2) (gd j 3) i) λt=>bd (aC (gd t 2) (gd t 4) (gd t 5) (gd t 6)) λu=>bd (aE (.int .i64 7) (gd u 0) (gd t 0) (gd t 1) (gd t 2) (gd t 3) (gd u 1) (gd u 2) (gd u 3) (gd t 7)) λv=>
 some [(gd v 0),(gd v 1),(gd v 2),(gd v 3),(gd v 4),(gd v 5),(gd v 6),(gd v 7)]) (bd (PV.bin .eql (gd j 0) (.int .i64 3)) λw=>PV.ite w (bd (aJ (.int .i64 1) b c d e (gd j 1) (gd j 2) (gd j 3) i) λx=>bd (aE (.int .i64 26) (.int .i64 0) (gd x 0) (gd x 1) (gd x 2) (gd x 3) (gd x 4) (gd x 5) (gd x 6) (gd x 7)) λy=>some [(gd y 0),(gd y 1),(gd y 2),(gd y 3),(gd y 4),(gd y 5),(gd y 6),(gd y 7)])
 (bd (PV.bin .eql (gd j 0) (.int .i64 4)) λz=>PV.ite z (bd (aJ (.int .i64 1) b c d e (gd j 1) (gd j 2) (gd j 3) i) λA=>bd (aE (.int .i64 26) (.int .i64 0) (gd A 0) (gd A 1) (gd A 2) (gd A 3) (gd A 4) (gd A 5) (gd A 6) (gd A 7)) λB=>some [(gd B 0),(gd B 1),(gd B 2),(gd B 3),(gd B 4),(gd B 5),(gd B 6),(gd B 7)]) (bd (PV.bin .eql (gd j 0) (.int .i64 5)) λC=>
 PV.ite C (bd (aC d (gd j 1) (gd j 2) (gd j 3)) λD=>bd (aE (.int .i64 6) (gd D 0) b c d e (gd D 1) (gd D 2) (gd D 3) i) λE=>bd (aJ (.int .i64 1) (gd E 0) (gd E 1) (gd E 2) (gd E 3) (gd E 4) (gd E 5) (gd E 6) (gd E 7)) λF=>bd (aC (.int .i64 2) (gd F 4) (gd F 5) (gd F 6)) λG=>bd (aE (.int .i64 22) (gd G 0) (gd F 0) (gd F 1) (gd F 2) (gd F 3) (gd G 1) (gd G 2) (gd G 3) (gd F 7)) λH=>
 some [(gd H 0),(gd H 1),(gd H 2),(gd H 3),(gd H 4),(gd H 5),(gd H 6),(gd H 7)]) (bd (PV.bin .eql (gd j 0) (.int .i64 6)) λI=>PV.ite I (bd (PV.bin .gtr a (.int .i64 0)) λJ=>PV.ite J (bd (iZ b c d e (gd j 1) (gd j 2) (gd j 3) i) λK=>bd (PV.len (gd K 7)) λL=>bd (aE (.int .i64 19) (.int .i64 0) (gd K 0) (gd K 1) (gd K 2) (gd K 3) (gd K 4) (gd K 5) (gd K 6) (gd K 7)) λM=>
 bd (PV.bin .sub a (.int .i64 1)) λN=>bd (dZ N (.int .i64 2) (gd M 0) (gd M 1) (gd M 2) (gd M 3) (gd M 4) (gd M 5) (gd M 6) (gd M 7)) λO=>bd (PV.len (gd O 7)) λP=>bd (PV.inb (gd O 7) L) λQ=>bd (PV.one P) λR=>bd (PV.setCell 2 (gd O 7) L 1 R) λS=>some [(gd O 0),(gd O 1),(gd O 2),(gd O 3),(gd O 4),(gd O 5),(gd O 6),S]) (some [b,c,d,e,(gd j 1),(gd j 2),(gd j 3),i]))
 (bd (PV.bin .gtr a (.int .i64 0)) λT=>PV.ite T (bd (aC d (gd j 1) (gd j 2) (gd j 3)) λU=>bd (aC (.int .i64 3) (gd U 1) (gd U 2) (gd U 3)) λV=>bd (PV.bin .gtr (gd V 0) (.int .i64 0)) λW=>PV.ite W (bd (aE (.int .i64 1) (.int .i64 0) b c d e (gd V 1) (gd V 2) (gd V 3) i) λX=>bd (aE (.int .i64 7) (gd U 0) (gd X 0) (gd X 1) (gd X 2) (gd X 3) (gd X 4) (gd X 5) (gd X 6) (gd X 7)) λY=>
 eP a (gd U 0) (gd Y 0) (gd Y 1) (gd Y 2) (gd Y 3) (gd Y 4) (gd Y 5) (gd Y 6) (gd Y 7)) (eP a (gd U 0) b c d e (gd V 1) (gd V 2) (gd V 3) i)) (some [b,c,d,e,(gd j 1),(gd j 2),(gd j 3),i])))))))):=bR _ _ _ _ (by kernel_rfl)
theorem sB : eP a b c d e f g h i j=bd (PV.len j) λk=>bd (aE (.int .i64 6) b c d e f g h i j) λl=>bd (aC (.int .i64 7) (gd l 4) (gd l 5) (gd l 6)) λm=>bd (aE (.int .i64 1) (gd m 0) (gd l 0) (gd l 1) (gd l 2) (gd l 3) (gd m 1) (gd m 2) (gd m 3) (gd l 7)) λn=>bd (aE (.int .i64 14) (.int .i64 0) (gd n 0) (gd n 1) (gd n 2) (gd n 3) (gd n 4) (gd n 5) (gd n 6) (gd n 7)) λo=>
 bd (PV.len (gd o 7)) λp=>bd (aE (.int .i64 19) (.int .i64 0) (gd o 0) (gd o 1) (gd o 2) (gd o 3) (gd o 4) (gd o 5) (gd o 6) (gd o 7)) λq=>bd (PV.bin .sub a (.int .i64 1)) λr=>bd (dZ r (.int .i64 2) (gd q 0) (gd q 1) (gd q 2) (gd q 3) (gd q 4) (gd q 5) (gd q 6) (gd q 7)) λs=>bd (aE (.int .i64 6) b (gd s 0) (gd s 1) (gd s 2) (gd s 3) (gd s 4) (gd s 5) (gd s 6) (gd s 7)) λt=>
 bd (aE (.int .i64 1) (.int .i64 1) (gd t 0) (gd t 1) (gd t 2) (gd t 3) (gd t 4) (gd t 5) (gd t 6) (gd t 7)) λu=>bd (aE (.int .i64 11) (.int .i64 0) (gd u 0) (gd u 1) (gd u 2) (gd u 3) (gd u 4) (gd u 5) (gd u 6) (gd u 7)) λv=>bd (aE (.int .i64 7) b (gd v 0) (gd v 1) (gd v 2) (gd v 3) (gd v 4) (gd v 5) (gd v 6) (gd v 7)) λw=>bd (aE (.int .i64 17) k (gd w 0) (gd w 1) (gd w 2) (gd w 3) (gd w 4) (gd w 5) (gd w 6) (gd w 7)) λx=>
 bd (PV.len (gd x 7)) λy=>bd (PV.inb (gd x 7) p) λz=>bd (PV.one y) λA=>bd (PV.setCell 2 (gd x 7) p 1 A) λB=>some [(gd x 0),(gd x 1),(gd x 2),(gd x 3),(gd x 4),(gd x 5),(gd x 6),B]:=bD _ _ _ _ _ _ _ _ (by kernel_rfl)
theorem sY : fA a b c d e f g h i=bd (aC (.int .i64 3) f g h) λj=>bd (PV.bin .add (.int .i64 1) (gd j 0)) λk=>bd (aE (.int .i64 20) k b c d e (gd j 1) (gd j 2) (gd j 3) i) λl=>bd (PV.bin .add k (.int .i64 1)) λm=>bd (aC m (gd l 4) (gd l 5) (gd l 6)) λn=>cY a k (gd n 0) (gd l 0) (gd l 1) (gd l 2) (gd l 3) (gd n 1) (gd n 2) (gd n 3) (gd l 7):=bR _ _ _ _ (by kernel_rfl)
theorem qM : cY a b c d e f g h i j k=bd (PV.bin .gtr c (.int .i64 0)) λl=>PV.ite l (bd (aE (.int .i64 8) (.int .i64 0) d e f g h i j k) λm=>bd (PV.bin .sub a (.int .i64 2)) λn=>bd (aJ n (gd m 0) (gd m 1) (gd m 2) (gd m 3) (gd m 4) (gd m 5) (gd m 6) (gd m 7)) λo=>bd (aC b (gd o 4) (gd o 5) (gd o 6)) λp=>
 bd (aE (.int .i64 22) (gd p 0) (gd o 0) (gd o 1) (gd o 2) (gd o 3) (gd p 1) (gd p 2) (gd p 3) (gd o 7)) λq=>bd (PV.bin .sub c (.int .i64 1)) λr=>cY a b r (gd q 0) (gd q 1) (gd q 2) (gd q 3) (gd q 4) (gd q 5) (gd q 6) (gd q 7)) (bd (dE (.int .i64 3) h i j) λs=>PV.ite (gd s 0) (bd (aC b (gd s 1) (gd s 2) (gd s 3)) λt=>bd (aE (.int .i64 21) (gd t 0) d e f g (gd t 1) (gd t 2) (gd t 3) k) λu=>
 some [(gd u 0),(gd u 1),(gd u 2),(gd u 3),(gd u 4),(gd u 5),(gd u 6),(gd u 7)]) (some [d,e,f,g,(gd s 1),(gd s 2),(gd s 3),k])):=bD _ _ _ _ _ _ _ _ (by kernel_rfl)
theorem sZ : gL a b c d e f g h i=bd (PV.bin .add a (.int .i64 1)) λj=>some [j,b,c,d,e,f,g,h,i]:=bR _ _ _ _ (by kernel_rfl)
theorem vN : iZ a b c d e f g h=bd (aJ (.int .i64 1) a b c d e f g h) λi=>bd (aJ (.int .i64 0) (gd i 0) (gd i 1) (gd i 2) (gd i 3) (gd i 4) (gd i 5) (gd i 6) (gd i 7)) λj=>bd (aC (.int .i64 2) (gd j 4) (gd j 5) (gd j 6)) λk=>bd (PV.inb (.lst [(.int .i64 14),(.int .i64 15)]) (gd k 0)) λl=>bd (PV.at_ 1 false (.lst [(.int .i64 14),(.int .i64 15)]) (gd k 0)) λm=>
 bd (aE m (.int .i64 0) (gd j 0) (gd j 1) (gd j 2) (gd j 3) (gd k 1) (gd k 2) (gd k 3) (gd j 7)) λn=>bd (dE (.int .i64 4) (gd n 4) (gd n 5) (gd n 6)) λo=>PV.ite (gd o 0) (bd (aE (.int .i64 16) (.int .i64 0) (gd n 0) (gd n 1) (gd n 2) (gd n 3) (gd o 1) (gd o 2) (gd o 3) (gd n 7)) λp=>some [(gd p 0),(gd p 1),(gd p 2),(gd p 3),(gd p 4),(gd p 5),(gd p 6),(gd p 7)])
 (some [(gd n 0),(gd n 1),(gd n 2),(gd n 3),(gd o 1),(gd o 2),(gd o 3),(gd n 7)]):=bR _ _ _ _ (by kernel_rfl)
end
end Go.Proofs.YtllmobkkbpdchaaGreat

namespace Go.Proofs.YtllmobkkbpdchaaGreat
noncomputable section
open Go
attribute [local irreducible] bd PV.ite PV.guardFlat PV.guardOwn PV.whole PV.one PV.cell PV.sub PV.at_ PV.len PV.slen PV.chr PV.beq PV.peq PV.ceq PV.bin PV.neg PV.not PV.conv PV.cut PV.scut PV.cat PV.setAt PV.setCell PV.ncopy PV.copyIn PV.zeros PV.toStr PV.toBytes PV.deref PV.isPtr PV.comp PV.inb PV.off PV.imin PV.imax PV.sel PV.apply PV.isLst PV.isInt PV.ix PV.nilT
def Bts (l : List Int) : Prop:=(∀ x∈l,0≤x∧x≤255)∧l.length≤1048576
def aJs (l : List Int) (n a : Int) (r : R) : Prop:=∃ v a' s' : Int,r = [.int .i64 v,aZ l,.int .i64 a',.int .i64 s']∧0≤v∧(v<n∨v=0)∧a≤a'∧a'≤a+1∧0≤s'∧s'<65521
theorem aId {l : List Int} {n x a s b : Int} (hn : 2≤n) (hx : 0≤x) (h0 : 0≤a) (h1 : a≤4611686018427387904) (hs : 0≤s∧s<65521) (hb : b=a) :
 Ok (aJs l n b) (eO (.int .i64 n) (.int .i64 x) (aZ l) (.int .i64 a) (.int .i64 s)):=by
 rw [rZ]
 subst hb
 repeat' (first | refine aM ?_ | refine cE ?_ | refine cG ?_ | refine dA ?_ | refine aP ?_ | refine dB ?_ | (refine aD (λ_=>?_) (λ_=>?_)) | (refine bA (λ_=>?_) (λ_=>?_)) | refine aS (λ_=>?_) (λ_=>?_) | refine aK (by omega) ?_ | refine bO (by omega) ?_ | refine fV (by omega) (by omega) ?_ | refine gH (by omega) (by omega) (by omega) ?_ | refine gG (by omega) ?_ | refine gI (by omega) ?_ | refine bF ?_ | refine cT ?_ | refine dF ?_ | refine bB ?_ | refine fP (by omega) ?_ | refine bI rfl ?_ | refine aA rfl ?_ | refine bQ rfl ?_ | refine aG rfl ?_)
 exact aB ⟨_,_,_,rfl,Int.emod_nonneg _ (by omega),.inl (Int.emod_lt_of_pos _ (by omega)),by omega,by omega,hs⟩
theorem aHl {l : List Int} (hl : Bts l) {n a s : Int} (hn : n≤1099511627776) (h0 : 0≤a) (h1 : a≤4611686018427387904) (hs : 0≤s∧s<65521) :
 Ok (aJs l n a) (aC (.int .i64 n) (aZ l) (.int .i64 a) (.int .i64 s)):=by
 rw [vI]
 obtain ⟨hb,hlen⟩:=hl
 refine aM ?_
 refine aD (λ_=>aB ⟨0,a,s,rfl,by omega,.inr rfl,by omega,by omega,hs⟩) (λh=>?_)
 refine bF ?_
 refine aM ?_
 refine aD (λh2=>?_) (λh2=>?_)
 ·refine aAr h0 h2 (λx hx _=>?_)
  have:=hb x hx
  refine fP (by omega) ?_
  exact aId (by omega) (by omega) h0 h1 hs rfl
 ·repeat' (first | refine aM ?_ | refine cE ?_ | refine cG ?_ | refine dA ?_ | refine aP ?_ | refine dB ?_ | (refine aD (λ_=>?_) (λ_=>?_)) | (refine bA (λ_=>?_) (λ_=>?_)) | refine aS (λ_=>?_) (λ_=>?_) | refine aK (by omega) ?_ | refine bO (by omega) ?_ | refine fV (by omega) (by omega) ?_ | refine gH (by omega) (by omega) (by omega) ?_ | refine gG (by omega) ?_ | refine gI (by omega) ?_ | refine bF ?_ | refine cT ?_ | refine dF ?_ | refine bB ?_ | refine fP (by omega) ?_ | refine bI rfl ?_ | refine aA rfl ?_ | refine bQ rfl ?_ | refine aG rfl ?_)
  ·refine aAr (Int.emod_nonneg _ (by omega)) (Int.emod_lt_of_pos _ (by omega)) (λx hx _=>?_)
   have:=hb x hx
   repeat' (first | refine aM ?_ | refine cE ?_ | refine cG ?_ | refine dA ?_ | refine aP ?_ | refine dB ?_ | (refine aD (λ_=>?_) (λ_=>?_)) | (refine bA (λ_=>?_) (λ_=>?_)) | refine aS (λ_=>?_) (λ_=>?_) | refine aK (by omega) ?_ | refine bO (by omega) ?_ | refine fV (by omega) (by omega) ?_ | refine gH (by omega) (by omega) (by omega) ?_ | refine gG (by omega) ?_ | refine gI (by omega) ?_ | refine bF ?_ | refine cT ?_ | refine dF ?_ | refine bB ?_ | refine fP (by omega) ?_ | refine bI rfl ?_ | refine aA rfl ?_ | refine bQ rfl ?_ | refine aG rfl ?_)
   exact aId (by omega) (by omega) h0 h1 (by omega) rfl
  ·exact aId (by omega) (by omega) h0 h1 (by omega) rfl
section
variable {P : R → Prop} {k : R → Option R} {l : List Int} {a s : Int}
theorem bJ (hl : Bts l) {n : Int} (hn : n≤1099511627776) (h0 : 0≤a∧a≤4611686018427387904∧0≤s∧s<65521)
 (h : ∀ v a' s' : Int,0≤v∧(v<n∨v=0)∧a≤a'∧a'≤a+1∧0≤s'∧s'<65521→Ok P (k [.int .i64 v,aZ l,.int .i64 a',.int .i64 s'])) :
 Ok P (bd (aC (.int .i64 n) (aZ l) (.int .i64 a) (.int .i64 s)) k):=
 aI (aHl hl hn h0.1 h0.2.1 h0.2.2) (λr ⟨v,a',s',hr,h1⟩=>by rw [hr];exact h v a' s' h1)
theorem iA (hl : Bts l) {n : Int} (hn : 1≤n∧n≤1099511627776) (h0 : 0≤a∧a≤4611686018427387904∧0≤s∧s<65521)
 (h : ∀ (v : Bool) (a' s' : Int),a≤a'∧a'≤a+1∧0≤s'∧s'<65521→Ok P (k [.bool v,aZ l,.int .i64 a',.int .i64 s'])) :
 Ok P (bd (dE (.int .i64 n) (aZ l) (.int .i64 a) (.int .i64 s)) k):=by
 refine aI (Q:=λr=>∃ (v : Bool) (a' s' : Int),r = [.bool v,aZ l,.int .i64 a',.int .i64 s']∧a≤a'∧a'≤a+1∧0≤s'∧s'<65521) ?_ (λr ⟨v,a',s',hr,h1⟩=>by rw [hr];exact h v a' s' h1)
 rw [vJ]
 refine bJ hl (by omega) h0 (λv a' s' h1=>?_)
 repeat' (first | refine aM ?_ | refine cE ?_ | refine cG ?_ | refine dA ?_ | refine aP ?_ | refine dB ?_ | (refine aD (λ_=>?_) (λ_=>?_)) | (refine bA (λ_=>?_) (λ_=>?_)) | refine aS (λ_=>?_) (λ_=>?_) | refine aK (by omega) ?_ | refine bO (by omega) ?_ | refine fV (by omega) (by omega) ?_ | refine gH (by omega) (by omega) (by omega) ?_ | refine gG (by omega) ?_ | refine gI (by omega) ?_ | refine bF ?_ | refine cT ?_ | refine dF ?_ | refine bB ?_ | refine fP (by omega) ?_ | refine bI rfl ?_ | refine aA rfl ?_ | refine bQ rfl ?_ | refine aG rfl ?_)
 exact aB ⟨_,_,_,rfl,h1.2.2⟩
theorem aIV (hl : Bts l) {n : Int} (hn : 1≤n∧n≤1000) (h0 : 0≤a∧a≤4611686018427387904∧0≤s∧s<65521)
 (h : ∀ v a' s' : Int,0≤v∧v≤n∧a≤a'∧a'≤a+1∧0≤s'∧s'<65521→Ok P (k [.int .i64 v,aZ l,.int .i64 a',.int .i64 s'])) :
 Ok P (bd (lR (.int .i64 n) (aZ l) (.int .i64 a) (.int .i64 s)) k):=by
 refine aI (Q:=λr=>∃ (v a' s' : Int),r = [.int .i64 v,aZ l,.int .i64 a',.int .i64 s']∧0≤v∧v≤n∧a≤a'∧a'≤a+1∧0≤s'∧s'<65521) ?_ (λr ⟨v,a',s',hr,h1⟩=>by rw [hr];exact h v a' s' h1)
 rw [vM]
 have:=hl.2
 repeat' (first | refine aM ?_ | refine cE ?_ | refine cG ?_ | refine dA ?_ | refine aP ?_ | refine dB ?_ | (refine aD (λ_=>?_) (λ_=>?_)) | (refine bA (λ_=>?_) (λ_=>?_)) | refine aS (λ_=>?_) (λ_=>?_) | refine aK (by omega) ?_ | refine bO (by omega) ?_ | refine fV (by omega) (by omega) ?_ | refine gH (by omega) (by omega) (by omega) ?_ | refine gG (by omega) ?_ | refine gI (by omega) ?_ | refine bF ?_ | refine cT ?_ | refine dF ?_ | refine bB ?_ | refine fP (by omega) ?_ | refine bI rfl ?_ | refine aA rfl ?_ | refine bQ rfl ?_ | refine aG rfl ?_)
 ·refine bJ hl (by omega) h0 (λv a' s' h1=>?_)
  exact aB ⟨_,_,_,rfl,by omega,by omega,h1.2.2⟩
 ·refine bJ hl (by omega) h0 (λv a' s' h1=>?_)
  exact aB ⟨_,_,_,rfl,by omega,by omega,h1.2.2⟩
theorem aIW {k : PV→Option R} {xs : List Int} {i : Int} (h0 : 0≤i) (h1 : i<xs.length) (h : ∀ x,x∈xs→Ok P (k (.int .i64 x))) : Ok P (bd (PV.at_ 1 false (.lst (xs.map (PV.int .i64))) (.int .i64 i)) k):=by
 refine tD h0 (by rw [List.length_map];exact h1) (λx hx=>?_) (λx hx _=>?_)
 ·obtain ⟨y,_,rfl⟩:=List.mem_map.1 hx;rfl
 ·obtain ⟨y,hy,rfl⟩:=List.mem_map.1 hx;exact h y hy
theorem aHm (hl : Bts l) (h0 : 0≤a∧a≤4611686018427387900∧0≤s∧s<65521)
 (h : ∀ v a' s' : Int,-9223372036854775808≤v∧v≤9223372036854775807∧a≤a'∧a'≤a+2∧0≤s'∧s'<65521→Ok P (k [.int .i64 v,aZ l,.int .i64 a',.int .i64 s'])) :
 Ok P (bd (kL (aZ l) (.int .i64 a) (.int .i64 s)) k):=by
 refine aI (Q:=λr=>∃ (v a' s' : Int),r = [.int .i64 v,aZ l,.int .i64 a',.int .i64 s']∧-9223372036854775808≤v∧v≤9223372036854775807∧a≤a'∧a'≤a+2∧0≤s'∧s'<65521) ?_ (λr ⟨v,a',s',hr,h1⟩=>by rw [hr];exact h v a' s' h1)
 rw [sX]
 refine bJ hl (by omega) (by omega) (λv a1 s1 h1=>?_)
 repeat' (first | refine aM ?_ | refine cE ?_ | refine cG ?_ | refine dA ?_ | refine aP ?_ | refine dB ?_ | (refine aD (λ_=>?_) (λ_=>?_)) | (refine bA (λ_=>?_) (λ_=>?_)) | refine aS (λ_=>?_) (λ_=>?_) | refine aK (by omega) ?_ | refine bO (by omega) ?_ | refine fV (by omega) (by omega) ?_ | refine gH (by omega) (by omega) (by omega) ?_ | refine gG (by omega) ?_ | refine gI (by omega) ?_ | refine bF ?_ | refine cT ?_ | refine dF ?_ | refine bB ?_ | refine fP (by omega) ?_ | refine bI rfl ?_ | refine aA rfl ?_ | refine bQ rfl ?_ | refine aG rfl ?_)
 ·refine bJ hl (by omega) (by omega) (λv2 a2 s2 h2=>?_)
  repeat' (first | refine aM ?_ | refine cE ?_ | refine cG ?_ | refine dA ?_ | refine aP ?_ | refine dB ?_ | (refine aD (λ_=>?_) (λ_=>?_)) | (refine bA (λ_=>?_) (λ_=>?_)) | refine aS (λ_=>?_) (λ_=>?_) | refine aK (by omega) ?_ | refine bO (by omega) ?_ | refine fV (by omega) (by omega) ?_ | refine gH (by omega) (by omega) (by omega) ?_ | refine gG (by omega) ?_ | refine gI (by omega) ?_ | refine bF ?_ | refine cT ?_ | refine dF ?_ | refine bB ?_ | refine fP (by omega) ?_ | refine bI rfl ?_ | refine aA rfl ?_ | refine bQ rfl ?_ | refine aG rfl ?_)
  exact aB ⟨_,_,_,rfl,by omega,by omega,by omega,by omega,by omega,by omega⟩
 ·refine bJ hl (by omega) (by omega) (λv2 a2 s2 h2=>?_)
  refine cB (by omega) (by simp;omega) ?_
  refine aIW (xs:=[1000000000,-1000000000,1000000001,-1000000001,9223372036854775807,-9223372036854775808,4611686018427387904,31623]) (by omega) (by simp;omega) (λx hx=>?_)
  have hx : -9223372036854775808≤x∧x≤9223372036854775807:=by
   simp only [List.mem_cons,List.not_mem_nil,or_false] at hx
   omega
  exact aB ⟨_,_,_,rfl,by omega,by omega,by omega,by omega,by omega,by omega⟩
 ·refine bJ hl (by omega) (by omega) (λv2 a2 s2 h2=>?_)
  repeat' (first | refine aM ?_ | refine cE ?_ | refine cG ?_ | refine dA ?_ | refine aP ?_ | refine dB ?_ | (refine aD (λ_=>?_) (λ_=>?_)) | (refine bA (λ_=>?_) (λ_=>?_)) | refine aS (λ_=>?_) (λ_=>?_) | refine aK (by omega) ?_ | refine bO (by omega) ?_ | refine fV (by omega) (by omega) ?_ | refine gH (by omega) (by omega) (by omega) ?_ | refine gG (by omega) ?_ | refine gI (by omega) ?_ | refine bF ?_ | refine cT ?_ | refine dF ?_ | refine bB ?_ | refine fP (by omega) ?_ | refine bI rfl ?_ | refine aA rfl ?_ | refine bQ rfl ?_ | refine aG rfl ?_)
  exact aB ⟨_,_,_,rfl,by omega,by omega,by omega,by omega,by omega,by omega⟩
end
structure aT where
 o : Int
 a : Int
 deriving DecidableEq
structure eD where
 p : Int
 lc : Int
 code : List aT
 deriving DecidableEq
structure fF where
 texts : List ByteArray
 funcs : List eD
def aT.pv (x : aT) : PV:=.agg [.int .i64 x.o,.int .i64 x.a]
def eD.pv (f : eD) : PV:=.agg [.int .i64 f.p,.int .i64 f.lc,.lst (f.code.map aT.pv)]
def fF.pv (m : fF) : PV:=.agg [.lst (m.texts.map PV.str),.lst (m.funcs.map eD.pv)]
def iS (n lo hi : Int) : Bool:=decide (lo≤n)&&decide (n≤hi)
def chB (c : UInt8) : Bool:=!(decide ((c.toNat : Int)<32))&&(!(decide ((126 : Int)<c.toNat))&&!(decide ((c.toNat : Int)=34)))
def gF (s : ByteArray) : Bool:=decide ((s.size : Int)≤60)&&s.data.toList.all chB
def bM (nt nf lc nc o a : Int) : Bool:=
 if o=1 then iS a (-1000000000) 1000000000 else if o=2 then iS a 0 1 else if o=3 then iS a 0 (nt - 1) else if o=5 then iS a 0 (nf - 1) else if o=24 then iS a 0 (nf - 1)
 else if o=6 then iS a 0 (lc - 1) else if o=7 then iS a 0 (lc - 1) else if o=17 then iS a 0 (nc - 1) else if o=18 then iS a 0 (nc - 1) else if o=19 then iS a 0 (nc - 1)
 else if o=20 then iS a 0 6 else if o=21 then iS a 0 5 else if o=22 then iS a 0 5 else if o=23 then iS a 0 6 else iS o 1 26&&decide (a=0)
def oQ (nt nf : Int) (f : eD) : Bool:=iS f.p 0 6&&(iS f.lc f.p 12&&(iS f.code.length 1 120&&f.code.all λx=>bM nt nf f.lc f.code.length x.o x.a))
def fF.okB (m : fF) : Bool:=iS m.funcs.length 1 12&&(decide ((m.texts.length : Int)≤20)&&(m.texts.all gF&&m.funcs.all (oQ m.texts.length m.funcs.length)))
def fF.sized (m : fF) : Prop:=m.texts.length≤2097152∧m.funcs.length≤2097152∧(∀ t∈m.texts,t.size≤2097152)∧∀ f∈m.funcs,f.code.length≤1000000000
section
variable {P : R → Prop} {k : PV → Option R} {α : Type} {f : α → PV} {xs : List α}
theorem aO {s : Nat} {g : Bool} {kk : IntKind} {i : Nat} (hi : i<xs.length) (hel : ∀ a,(f a).isEl s g=true) (h : Ok P (k (f xs[i]))) : Ok P (bd (PV.at_ s g (.lst (xs.map f)) (.int kk (i : Int))) k):=by
 refine tD (by omega) (by rw [List.length_map];omega) (λx hx=>?_) (λx _ hx=>?_)
 ·obtain ⟨a,_,rfl⟩:=List.mem_map.1 hx;exact hel a
 ·rw [Int.toNat_natCast,List.getElem?_map,List.getElem?_eq_getElem hi] at hx
  cases hx
  exact h
theorem aH (h : Ok P (k (.int .i64 xs.length))) : Ok P (bd (PV.len (.lst (xs.map f))) k):=by
 refine cT ?_
 rw [List.length_map]
 exact h
theorem aJH {s : ByteArray} {i : Nat} (hi : i<s.data.toList.length) : s[i]? = some s.data.toList[i]:=by
 have h : i<s.size:=by
  have e : s.size=s.data.toList.length:=by rw [Array.length_toList];rfl
  rw [e];exact hi
 rw [getElem?_pos s i h,Array.getElem_toList]
 rfl
theorem aAj {s : ByteArray} {kk : IntKind} {i : Nat} (hi : i<s.data.toList.length) (h : Ok P (k (.int .u8 (s.data.toList[i].toNat : Int)))) : Ok P (bd (PV.chr (.str s) (.int kk (i : Int))) k):=by
 refine dO _ ?_ h
 simp only [PV.chr]
 rw [if_pos (by omega),Int.toNat_natCast,aJH hi]
theorem fN {k : R→Option R} {n lo hi : Int} (h : Ok P (k [.bool (iS n lo hi)])) : Ok P (bd (bW (.int .i64 n) (.int .i64 lo) (.int .i64 hi)) k):=by
 refine aI (Q:=λr=>r = [.bool (iS n lo hi)]) ?_ (λr hr=>by rw [hr];exact h)
 rw [aAY]
 refine cE (aD (λh1=>cE (aB ?_)) (λh1=>aB ?_))
 ·simp [iS,h1]
 ·simp [iS,h1]
theorem fG {k : R→Option R} {n lo hi : Int} (h : Ok P (k [.bool (iS n lo hi)])) : Ok P (bd (aQ (.int .i64 n) (.int .i64 lo) (.int .i64 hi)) k):=by
 refine aI (Q:=λr=>r = [.bool (iS n lo hi)]) ?_ (λr hr=>by rw [hr];exact h)
 rw [wY]
 refine dA (aD (λh1=>cE (aB ?_)) (λh1=>aB ?_))
 ·simp [iS,h1]
 ·simp [iS,h1]
theorem iO {k : R→Option R} {n m : Int} (hm : -1000000000≤m∧m≤1000000000) (h : Ok P (k [.bool (iS n 0 (m - 1))])) : Ok P (bd (bZ (.int .i64 n) (.int .i64 m)) k):=by
 refine aI (Q:=λr=>r = [.bool (iS n 0 (m - 1))]) ?_ (λr hr=>by rw [hr];exact h)
 rw [mW]
 exact bO (by omega) (fN (aB rfl))
theorem aIe {k : R→Option R} {n : Int} (h : Ok P (k [.bool (iS n (-1000000000) 1000000000)])) : Ok P (bd (wV (.int .i64 n)) k):=by
 refine aI (Q:=λr=>r = [.bool (iS n (-1000000000) 1000000000)]) ?_ (λr hr=>by rw [hr];exact h)
 rw [aCX]
 exact fN (aB rfl)
end
theorem rE {α : Type} {xs : List α} {i : Nat} (hi : i<xs.length) (p : α→Bool) : (xs.drop i).all p=(p xs[i]&&(xs.drop (i+1)).all p):=by
 rw [List.drop_eq_getElem_cons hi,List.all_cons]
theorem aJt {c : UInt8} (h : (c.toNat : Int)<32) : chB c=false:=by unfold chB;rw [decide_eq_true h];rfl
theorem aJu {c : UInt8} (h : (126 : Int)<c.toNat) : chB c=false:=by unfold chB;rw [decide_eq_true h];simp
theorem aJv {c : UInt8} (h : (c.toNat : Int)=34) : chB c=false:=by unfold chB;rw [decide_eq_true h];simp
theorem aCj {s : ByteArray} (hs : s.size≤2097152) : ∀ (j i : Nat),s.data.toList.length - i=j→i≤s.data.toList.length→
 Ok (λr=>r = [.bool ((s.data.toList.drop i).all chB)]) (kE (.str s) (.int .i64 i)):=by
 have hsz : s.size=s.data.toList.length:=by rw [Array.length_toList];rfl
 intro j
 induction j with
 | zero=>
   intro i h1 h2
   have : i=s.data.toList.length:=by omega
   rw [oN]
   refine dF (aM (aD (λh=>by omega) (λ_=>aB ?_)))
   rw [this,List.drop_length];rfl
 | succ j ih=>
   intro i h1 h2
   have hi : i<s.data.toList.length:=by omega
   rw [oN,rE hi]
   refine dF (aM (aD (λ_=>?_) (λh=>by omega)))
   refine aAj hi (aM (aD (λh=>aB (by rw [aJt h];rfl)) (λh3=>?_)))
   refine aAj hi (cG (aD (λh=>aB (by rw [aJu h];rfl)) (λh4=>?_)))
   refine aAj hi (aP (aD (λh=>aB (by rw [aJv h];rfl)) (λh5=>?_)))
   refine aK (by omega) ((ih (i+1) (by omega) (by omega)).mono ?_)
   rintro r rfl
   have : chB s.data.toList[i]=true:=by unfold chB;rw [decide_eq_false h3,decide_eq_false h4,decide_eq_false h5];rfl
   rw [this,Bool.true_and]
theorem aIX {P : R→Prop} {k : R→Option R} {s : ByteArray} (hs : s.size≤2097152) (h : Ok P (k [.bool (gF s)])) : Ok P (bd (rU (.str s)) k):=by
 refine aI (Q:=λr=>r = [.bool (gF s)]) ?_ (λr hr=>by rw [hr];exact h)
 rw [aA1]
 refine dF (cG (aD (λh=>aB ?_) (λh=>?_)))
 ·have : ¬ ((s.size : Int)≤60):=by omega
  simp [gF,this]
 ·refine (aCj hs _ 0 rfl (by omega)).mono ?_
  rintro r rfl
  have : (s.size : Int)≤60:=by omega
  rw [List.drop_zero]
  simp [gF,this]
theorem aCk {s : ByteArray} (hs : s.size≤2097152) : ∀ (j i : Nat),s.data.toList.length - i=j→i≤s.data.toList.length→
 Ok (λr=>r = [.bool (decide ((s.size : Int)≤60)&&(s.data.toList.drop i).all chB)]) (kX (.str s) (.int .i64 s.size) (.int .i64 i)):=by
 have hsz : s.size=s.data.toList.length:=by rw [Array.length_toList];rfl
 intro j
 induction j with
 | zero=>
   intro i h1 h2
   have : i=s.data.toList.length:=by omega
   rw [pP]
   refine aM (aD (λh=>by omega) (λ_=>dF (cE (aB ?_))))
   rw [this,List.drop_length]
   simp
 | succ j ih=>
   intro i h1 h2
   have hi : i<s.data.toList.length:=by omega
   rw [pP,rE hi]
   refine aM (aD (λ_=>?_) (λh=>by omega))
   refine aAj hi (aM (aD (λh=>aB (by rw [aJt h];simp)) (λh3=>?_)))
   refine aAj hi (cG (aD (λh=>aB (by rw [aJu h];simp)) (λh4=>?_)))
   refine aAj hi (aP (aD (λh=>aB (by rw [aJv h];simp)) (λh5=>?_)))
   refine aK (by omega) ((ih (i+1) (by omega) (by omega)).mono ?_)
   rintro r rfl
   have : chB s.data.toList[i]=true:=by unfold chB;rw [decide_eq_false h3,decide_eq_false h4,decide_eq_false h5];rfl
   rw [this,Bool.true_and]
theorem aHo {s : ByteArray} (hs : s.size≤2097152) : Ok (λr=>r = [.bool (gF s)]) (uD (.str s)):=by
 rw [aCg]
 refine dF ((aCk hs _ 0 rfl (by omega)).mono ?_)
 rintro r rfl
 rw [List.drop_zero]
 rfl
end
noncomputable section
open Go Go.IntWalk
attribute [local irreducible] bd PV.ite PV.guardFlat PV.guardOwn PV.whole PV.one PV.cell PV.sub PV.at_ PV.len PV.slen PV.chr PV.beq PV.peq PV.ceq PV.bin PV.neg PV.not PV.conv PV.cut PV.scut PV.cat PV.setAt PV.setCell PV.ncopy PV.copyIn PV.zeros PV.toStr PV.toBytes PV.deref PV.isPtr PV.comp PV.inb PV.off PV.imin PV.imax PV.sel PV.apply PV.isLst PV.isInt PV.ix PV.nilT
section
variable {P : R → Prop} {k : PV → Option R} {kk : IntKind} {a b : List PV} {x v : PV} {n : Int} {s : Nat} {g : Bool}
end
section
variable {α : Type} {f : α → PV}
def aD8 (m : Int→α→α) (c : α→Nat) : Int→List α→List α
 | _,[]=>[]
 | q,z::r=>m q z::aD8 m c (q+c z) r
def aIY (c : α→Nat) (l : List α) : Nat:=(l.map c).sum
def aKK (left : Int) (B : Prop) (r : R) : Prop:=∃ z,r = [.int .i64 z]∧z≤left∧-1≤z∧(0≤z→B)
end
section
variable {P : R → Prop} {k : PV → Option R}
end
def fF.rows (m : fF) : R:=[.lst (m.texts.map PV.str),.lst (m.funcs.map eD.pv)]
section
variable {P : R → Prop} {k : R → Option R}
end
def fF.wide (m : fF) : Prop:=m.texts.length≤9223372036854775807∧m.funcs.length≤9223372036854775807∧(∀ t∈m.texts,t.size≤9223372036854775807)∧∀ f∈m.funcs,f.code.length≤9223372036854775807
end
noncomputable section
open Go
attribute [local irreducible] bd PV.ite PV.guardFlat PV.guardOwn PV.whole PV.one PV.cell PV.sub PV.at_ PV.len PV.slen PV.chr PV.beq PV.peq PV.ceq PV.bin PV.neg PV.not PV.conv PV.cut PV.scut PV.cat PV.setAt PV.setCell PV.ncopy PV.copyIn PV.zeros PV.toStr PV.toBytes PV.deref PV.isPtr PV.comp PV.inb PV.off PV.imin PV.imax PV.sel PV.apply PV.isLst PV.isInt PV.ix PV.nilT
theorem aIf {ts : List ByteArray} {fs : List eD} {i : Nat} {x : aT} (ht : ts.length≤2097152) (hf : fs.length≤2097152) (hi : i<fs.length) (hlc : 0≤fs[i].lc∧fs[i].lc≤12) (hc : fs[i].code.length≤1000) :
 Ok (λr=>r = [.bool (bM ts.length fs.length fs[i].lc fs[i].code.length x.o x.a)]) (wW (.agg [.lst (ts.map PV.str),.lst (fs.map eD.pv)]) (.int .i64 i) x.pv):=by
 rw [aCY]
 refine aG rfl (aA rfl (aA rfl (aG rfl (aA rfl (aA rfl ?_)))))
 refine aH (bO (by omega) (fG (bB ?_)))
 have hb : iS (i : Int) 0 ((fs.length : Int) - 1)=true:=by
  simp only [iS,Bool.and_eq_true,decide_eq_true_eq]
  omega
 rw [hb]
 refine bU ?_
 refine aP (aD (λh=>fG (aB (by simp [hd,bM,h]))) (λh1=>?_))
 refine aP (aD (λh=>fG (aB (by simp [hd,bM,h]))) (λh2=>?_))
 refine aP (aD (λh=>aH (bO (by omega) (fG (aB (by simp [hd,bM,h]))))) (λh3=>?_))
 refine aP (aD (λh=>aH (bO (by omega) (fG (aB (by simp [hd,bM,h]))))) (λh5=>?_))
 refine aP (aD (λh=>aH (bO (by omega) (fG (aB (by simp [hd,bM,h]))))) (λh24=>?_))
 refine aP (aD (λh=>aO hi (λ_=>rfl) (aA rfl (bO (by omega) (fG (aB (by simp [hd,bM,h])))))) (λh6=>?_))
 refine aP (aD (λh=>aO hi (λ_=>rfl) (aA rfl (bO (by omega) (fG (aB (by simp [hd,bM,h])))))) (λh7=>?_))
 refine aP (aD (λh=>aO hi (λ_=>rfl) (aA rfl (aH (bO (by omega) (fG (aB (by simp [hd,bM,h]))))))) (λh17=>?_))
 refine aP (aD (λh=>aO hi (λ_=>rfl) (aA rfl (aH (bO (by omega) (fG (aB (by simp [hd,bM,h]))))))) (λh18=>?_))
 refine aP (aD (λh=>aO hi (λ_=>rfl) (aA rfl (aH (bO (by omega) (fG (aB (by simp [hd,bM,h]))))))) (λh19=>?_))
 refine aP (aD (λh=>fG (aB (by simp [hd,bM,h]))) (λh20=>?_))
 refine aP (aD (λh=>fG (aB (by simp [hd,bM,h]))) (λh21=>?_))
 refine aP (aD (λh=>fG (aB (by simp [hd,bM,h]))) (λh22=>?_))
 refine aP (aD (λh=>fG (aB (by simp [hd,bM,h]))) (λh23=>?_))
 refine fG (aS (λhb=>aP (aB (by simp [hd,bM,hb,h1,h2,h3,h5,h24,h6,h7,h17,h18,h19,h20,h21,h22,h23]))) (λhb=>aB (by simp [hd,bM,hb,h1,h2,h3,h5,h24,h6,h7,h17,h18,h19,h20,h21,h22,h23])))
theorem aIg {ts : List ByteArray} {fs : List eD} {f : eD} {x : aT} (ht : ts.length≤2097152) (hf : fs.length≤2097152) (hlc : 0≤f.lc∧f.lc≤12) (hc : f.code.length≤1000) :
 Ok (λr=>r = [.bool (bM ts.length fs.length f.lc f.code.length x.o x.a)]) (wU (.agg [.lst (ts.map PV.str),.lst (fs.map eD.pv)]) f.pv x.pv):=by
 rw [aCW]
 refine aG rfl (aA rfl (aA rfl (aG rfl (aA rfl (aA rfl (aA rfl (aG rfl (aA rfl (aA rfl ?_)))))))))
 refine aP (aD (λh=>aIe (aB (by simp [hd,bM,h]))) (λh1=>?_))
 refine aP (aD (λh=>fN (aB (by simp [hd,bM,h]))) (λh2=>?_))
 refine aP (aD (λh=>aH (iO (by omega) (aB (by simp [hd,bM,h])))) (λh3=>?_))
 refine aP (aD (λh=>aH (iO (by omega) (aB (by simp [hd,bM,h])))) (λh5=>?_))
 refine aP (aD (λh=>aH (iO (by omega) (aB (by simp [hd,bM,h])))) (λh24=>?_))
 refine aP (aD (λh=>iO (by omega) (aB (by simp [hd,bM,h]))) (λh6=>?_))
 refine aP (aD (λh=>iO (by omega) (aB (by simp [hd,bM,h]))) (λh7=>?_))
 refine aP (aD (λh=>aH (iO (by omega) (aB (by simp [hd,bM,h])))) (λh17=>?_))
 refine aP (aD (λh=>aH (iO (by omega) (aB (by simp [hd,bM,h])))) (λh18=>?_))
 refine aP (aD (λh=>aH (iO (by omega) (aB (by simp [hd,bM,h])))) (λh19=>?_))
 refine aP (aD (λh=>fN (aB (by simp [hd,bM,h]))) (λh20=>?_))
 refine aP (aD (λh=>iO (by omega) (aB (by simp [hd,bM,h]))) (λh21=>?_))
 refine aP (aD (λh=>iO (by omega) (aB (by simp [hd,bM,h]))) (λh22=>?_))
 refine aP (aD (λh=>fN (aB (by simp [hd,bM,h]))) (λh23=>?_))
 refine fN (aS (λhb=>aP (aB (by simp [hd,bM,hb,h1,h2,h3,h5,h24,h6,h7,h17,h18,h19,h20,h21,h22,h23]))) (λhb=>aB (by simp [hd,bM,hb,h1,h2,h3,h5,h24,h6,h7,h17,h18,h19,h20,h21,h22,h23])))
section
variable {ts : List ByteArray} {fs : List eD} (ht : ts.length ≤ 2097152) (hf : fs.length ≤ 2097152)
include ht hf
theorem aD9 {i : Nat} (hi : i<fs.length) (hlc : 0≤fs[i].lc∧fs[i].lc≤12) (hc : fs[i].code.length≤1000) {b : Bool} (hb : Ok (λr=>r = [.bool b]) (gB (.int .i64 ((i : Int)+1)) (.lst (ts.map PV.str)) (.lst (fs.map eD.pv)))) :
 ∀ (j n : Nat),fs[i].code.length - n=j→n≤fs[i].code.length→
 Ok (λr=>r = [.bool ((fs[i].code.drop n).all (λx=>bM ts.length fs.length fs[i].lc fs[i].code.length x.o x.a)&&b)])
  (gY (.int .i64 i) (.int .i64 n) (.lst (ts.map PV.str)) (.lst (fs.map eD.pv)) (.int .i64 fs[i].p) (.int .i64 fs[i].lc) (.lst (fs[i].code.map aT.pv))):=by
 intro j
 induction j with
 | zero=>
   intro n h1 h2
   have : n=fs[i].code.length:=by omega
   rw [mK]
   refine aH (aM (aD (λh=>by omega) (λ_=>aK (by omega) ?_)))
   rw [this,List.drop_length]
   exact hb
 | succ j ih=>
   intro n h1 h2
   have hn : n<fs[i].code.length:=by omega
   rw [mK,rE hn]
   refine aH (aM (aD (λ_=>?_) (λh=>by omega)))
   refine aO hn (λ_=>rfl) (aI (aIf ht hf hi hlc hc) (λr hr=>?_))
   subst hr
   refine bB (aS (λh=>aB ?_) (λh=>?_))
   ·have : bM ts.length fs.length fs[i].lc fs[i].code.length fs[i].code[n].o fs[i].code[n].a=false:=by simpa using h
    rw [this];rfl
   ·have : bM ts.length fs.length fs[i].lc fs[i].code.length fs[i].code[n].o fs[i].code[n].a=true:=by simpa using h
    rw [this,Bool.true_and]
    exact aK (by omega) (ih (n+1) (by omega) (by omega))
theorem aEa : ∀ (j i : Nat),fs.length - i=j→i≤fs.length→
 Ok (λr=>r = [.bool ((fs.drop i).all (oQ ts.length fs.length))]) (gB (.int .i64 i) (.lst (ts.map PV.str)) (.lst (fs.map eD.pv))):=by
 intro j
 induction j with
 | zero=>
   intro i h1 h2
   have : i=fs.length:=by omega
   rw [nC]
   refine aH (aM (aD (λh=>by omega) (λ_=>aB ?_)))
   rw [this,List.drop_length];rfl
 | succ j ih=>
   intro i h1 h2
   have hi : i<fs.length:=by omega
   rw [nC,rE hi]
   refine aH (aM (aD (λ_=>?_) (λh=>by omega)))
   refine aO hi (λ_=>rfl) (aG rfl (aA rfl (aA rfl (aA rfl ?_))))
   refine fG (bB (aS (λh=>aB ?_) (λh1'=>?_)))
   ·have : iS fs[i].p 0 6=false:=by simpa using h
    simp [oQ,this]
   refine fG (bB (aS (λh=>aB ?_) (λh2'=>?_)))
   ·have : iS fs[i].lc fs[i].p 12=false:=by simpa using h
    simp [oQ,this]
   refine aH (fG (bB (aS (λh=>aB ?_) (λh3'=>?_))))
   ·have : iS (fs[i].code.length : Int) 1 120=false:=by simpa using h
    simp [oQ,this]
   have g1 : iS fs[i].p 0 6=true:=by simpa using h1'
   have g2 : iS fs[i].lc fs[i].p 12=true:=by simpa using h2'
   have g3 : iS (fs[i].code.length : Int) 1 120=true:=by simpa using h3'
   have q1:=g1
   have q2:=g2
   have q3:=g3
   simp only [iS,Bool.and_eq_true,decide_eq_true_eq] at q1 q2 q3
   refine (aD9 ht hf hi (by omega) (by omega) (ih (i+1) (by omega) (by omega)) _ 0 rfl (by omega)).mono ?_
   rintro r rfl
   rw [List.drop_zero]
   simp only [oQ,g1,g2,g3,Bool.true_and]
theorem aC0 (hs : ∀ t∈ts,t.size≤2097152) : ∀ (j i : Nat),ts.length - i=j→i≤ts.length→
 Ok (λr=>r = [.bool ((ts.drop i).all gF&&fs.all (oQ ts.length fs.length))]) (iX (.int .i64 i) (.lst (ts.map PV.str)) (.lst (fs.map eD.pv))):=by
 intro j
 induction j with
 | zero=>
   intro i h1 h2
   have : i=ts.length:=by omega
   rw [nB]
   refine aH (aM (aD (λh=>by omega) (λ_=>?_)))
   rw [this,List.drop_length]
   exact aEa ht hf _ 0 rfl (by omega)
 | succ j ih=>
   intro i h1 h2
   have hi : i<ts.length:=by omega
   rw [nB,rE hi]
   refine aH (aM (aD (λ_=>?_) (λh=>by omega)))
   refine aO hi (λ_=>rfl) (aIX (hs _ (List.getElem_mem _)) (bB (aS (λh=>aB ?_) (λh=>?_))))
   ·have : gF ts[i]=false:=by simpa using h
    rw [this];rfl
   ·have : gF ts[i]=true:=by simpa using h
    rw [this,Bool.true_and]
    exact aK (by omega) (ih (i+1) (by omega) (by omega))
end
theorem aC1 {m : fF} (h : m.sized) : Ok (λr=>r = [.bool m.okB]) (qG m.pv):=by
 obtain ⟨ht,hf,hs,_⟩:=h
 rw [aAe]
 refine aG rfl (aA rfl (aA rfl (aH (fG (bB (aS (λh=>aB ?_) (λh1=>?_)))))))
 ·have : iS (m.funcs.length : Int) 1 12=false:=by simpa using h
  simp [fF.okB,this]
 refine aH (cG (aD (λh=>aB ?_) (λh2=>?_)))
 ·have : ¬ ((m.texts.length : Int)≤20):=by omega
  simp only [fF.okB,decide_eq_false this,Bool.false_and,Bool.and_false]
 have g1 : iS (m.funcs.length : Int) 1 12=true:=by simpa using h1
 have g2 : (m.texts.length : Int)≤20:=by omega
 refine (aC0 ht hf hs _ 0 rfl (by omega)).mono ?_
 rintro r rfl
 rw [List.drop_zero]
 simp only [fF.okB,g1,decide_eq_true g2,Bool.true_and]
section
variable {P : R → Prop} {k : PV → Option R} {kr : R → Option R}
theorem aHp {f : Nat} {caps : List PV} {xs : List aT} (hx : xs.length≤1000000000) (p : aT→Bool) (hp : ∀ x∈xs,Ok (λr=>r = [.bool (p x)]) (bC f ([x.pv]++caps))) : ∀ (j i : Nat),xs.length - i=j→i≤xs.length→
 Ok (λr=>∃ n : Int,r = [.int .i64 n]∧(0≤n↔(xs.drop i).any p=true)) (bT (.lst (xs.map aT.pv)) (.fn f caps) (.int .i64 xs.length) (.int .i64 i)):=by
 intro j
 induction j with
 | zero=>
   intro i h1 h2
   have : i=xs.length:=by omega
   rw [dV]
   refine aM (aD (λh=>by omega) (λ_=>aB ⟨-1,rfl,?_⟩))
   rw [this,List.drop_length]
   simp
 | succ j ih=>
   intro i h1 h2
   have hi : i<xs.length:=by omega
   rw [dV]
   refine aM (aD (λ_=>?_) (λh=>by omega))
   refine aO hi (λ_=>rfl) (aBk rfl (hp _ (List.getElem_mem _)) (λr hr=>?_))
   subst hr
   rw [List.drop_eq_getElem_cons hi,List.any_cons]
   refine aS (λh=>aB ⟨i,rfl,?_⟩) (λh=>?_)
   ·rw [h];simp
   ·refine aK (by omega) ((ih (i+1) (by omega) (by omega)).mono ?_)
    rintro r ⟨n,hr,hn⟩
    exact ⟨n,hr,by rw [h,Bool.false_or];exact hn⟩
theorem aHq {f : Nat} {caps : List PV} {xs : List aT} (hx : xs.length≤1000000000) (p : aT→Bool) (hp : ∀ x∈xs,Ok (λr=>r = [.bool (p x)]) (bC f ([x.pv]++caps))) (h : Ok P (kr [.bool (xs.any p)])) :
 Ok P (bd (cU (.lst (xs.map aT.pv)) (.fn f caps)) kr):=by
 refine aI (Q:=λr=>r = [.bool (xs.any p)]) ?_ (λr hr=>by rw [hr];exact h)
 rw [gV]
 refine aI (Q:=λr=>∃ n : Int,r = [.int .i64 n]∧(0≤n↔xs.any p=true)) ?_ ?_
 ·rw [jA]
  refine aH ?_
  exact aHp hx p hp _ 0 rfl (by omega)
 ·rintro r ⟨n,rfl,hn⟩
  refine dA (aB ?_)
  have : decide (0≤n)=xs.any p:=by
   by_cases h : 0≤n
   ·rw [decide_eq_true h,hn.1 h]
   ·rw [decide_eq_false h]
    cases h2 : xs.any p with
    | false=>rfl
    | true=>exact absurd (hn.2 h2) h
  rw [this]
theorem aHr {f : Nat} {caps : List PV} {xs : List ByteArray} (hx : xs.length≤1000000000) (p : ByteArray→Bool) (hp : ∀ x∈xs,Ok (λr=>r = [.bool (p x)]) (bC f ([.str x]++caps))) : ∀ (j i : Nat),xs.length - i=j→i≤xs.length→
 Ok (λr=>∃ n : Int,r = [.int .i64 n]∧(0≤n↔(xs.drop i).any p=true)) (cA (.lst (xs.map PV.str)) (.fn f caps) (.int .i64 xs.length) (.int .i64 i)):=by
 intro j
 induction j with
 | zero=>
   intro i h1 h2
   have : i=xs.length:=by omega
   rw [eQ]
   refine aM (aD (λh=>by omega) (λ_=>aB ⟨-1,rfl,?_⟩))
   rw [this,List.drop_length]
   simp
 | succ j ih=>
   intro i h1 h2
   have hi : i<xs.length:=by omega
   rw [eQ]
   refine aM (aD (λ_=>?_) (λh=>by omega))
   refine aO hi (λ_=>rfl) (aBk rfl (hp _ (List.getElem_mem _)) (λr hr=>?_))
   subst hr
   rw [List.drop_eq_getElem_cons hi,List.any_cons]
   refine aS (λh=>aB ⟨i,rfl,?_⟩) (λh=>?_)
   ·rw [h];simp
   ·refine aK (by omega) ((ih (i+1) (by omega) (by omega)).mono ?_)
    rintro r ⟨n,hr,hn⟩
    exact ⟨n,hr,by rw [h,Bool.false_or];exact hn⟩
theorem aHs {f : Nat} {caps : List PV} {xs : List ByteArray} (hx : xs.length≤1000000000) (p : ByteArray→Bool) (hp : ∀ x∈xs,Ok (λr=>r = [.bool (p x)]) (bC f ([.str x]++caps))) (h : Ok P (kr [.bool (xs.any p)])) :
 Ok P (bd (dI (.lst (xs.map PV.str)) (.fn f caps)) kr):=by
 refine aI (Q:=λr=>r = [.bool (xs.any p)]) ?_ (λr hr=>by rw [hr];exact h)
 rw [jG]
 refine aI (Q:=λr=>∃ n : Int,r = [.int .i64 n]∧(0≤n↔xs.any p=true)) ?_ ?_
 ·rw [kR]
  refine aH ?_
  exact aHr hx p hp _ 0 rfl (by omega)
 ·rintro r ⟨n,rfl,hn⟩
  refine dA (aB ?_)
  have : decide (0≤n)=xs.any p:=by
   by_cases h : 0≤n
   ·rw [decide_eq_true h,hn.1 h]
   ·rw [decide_eq_false h]
    cases h2 : xs.any p with
    | false=>rfl
    | true=>exact absurd (hn.2 h2) h
  rw [this]
end
theorem aEb {α : Type} (p : α→Bool) : ∀ (xs : List α),xs.any (λx=>!p x) = !xs.all p
 | []=>rfl
 | x::r=>by rw [List.any_cons,List.all_cons,aEb p r,Bool.not_and]
section
variable {ts : List ByteArray} {fs : List eD} (ht : ts.length ≤ 2097152) (hf : fs.length ≤ 2097152)
include ht hf
theorem aEc : ∀ (j i : Nat),fs.length - i=j→i≤fs.length→
 Ok (λr=>r = [.bool ((fs.drop i).all (oQ ts.length fs.length))]) (iW (.lst (fs.map eD.pv)) (.int .i64 fs.length) (.int .i64 i) (.lst (ts.map PV.str)) (.lst (fs.map eD.pv))):=by
 intro j
 induction j with
 | zero=>
   intro i h1 h2
   have : i=fs.length:=by omega
   rw [nA]
   refine aM (aD (λh=>by omega) (λ_=>aB ?_))
   rw [this,List.drop_length];rfl
 | succ j ih=>
   intro i h1 h2
   have hi : i<fs.length:=by omega
   rw [nA,rE hi]
   refine aM (aD (λ_=>?_) (λh=>by omega))
   refine aO hi (λ_=>rfl) (aG rfl (aA rfl (aA rfl (aA rfl ?_))))
   refine fN (bB (aS (λh=>aB ?_) (λh1'=>?_)))
   ·have : iS fs[i].p 0 6=false:=by simpa using h
    simp [oQ,this]
   refine fN (bB (aS (λh=>aB ?_) (λh2'=>?_)))
   ·have : iS fs[i].lc fs[i].p 12=false:=by simpa using h
    simp [oQ,this]
   refine aH (fN (bB (aS (λh=>aB ?_) (λh3'=>?_))))
   ·have : iS (fs[i].code.length : Int) 1 120=false:=by simpa using h
    simp [oQ,this]
   have g1 : iS fs[i].p 0 6=true:=by simpa using h1'
   have g2 : iS fs[i].lc fs[i].p 12=true:=by simpa using h2'
   have g3 : iS (fs[i].code.length : Int) 1 120=true:=by simpa using h3'
   have q1:=g1
   have q2:=g2
   have q3:=g3
   simp only [iS,Bool.and_eq_true,decide_eq_true_eq] at q1 q2 q3
   refine aHq (by omega) (λx=>!bM ts.length fs.length fs[i].lc fs[i].code.length x.o x.a) (λx _=>?_) ?_
   ·show Ok _ (sN _ _ _)
    rw [xA]
    refine aG rfl (aA rfl (aA rfl (nX rfl (nX rfl (nX rfl (nX rfl (nX rfl ?_)))))))
    refine aI (aIg (f:=fs[i]) (x:=x) ht hf (by omega) (by omega)) (λr hr=>?_)
    subst hr
    exact bB (aB rfl)
   ·rw [aEb (λx : aT=>bM ts.length fs.length fs[i].lc fs[i].code.length x.o x.a)]
    refine jY rfl (aS (λh=>aB ?_) (λh=>?_))
    ·have : fs[i].code.all (λx=>bM ts.length fs.length fs[i].lc fs[i].code.length x.o x.a)=false:=by simpa using h
     simp only [oQ,this,Bool.and_false,Bool.false_and]
    ·have g4 : fs[i].code.all (λx=>bM ts.length fs.length fs[i].lc fs[i].code.length x.o x.a)=true:=by
      rw [Bool.not_eq_false'] at h
      exact h
     refine aK (by omega) ((ih (i+1) (by omega) (by omega)).mono ?_)
     rintro r rfl
     simp only [oQ,g1,g2,g3,g4,Bool.true_and]
end
theorem vZ {m : fF} (h : m.sized) : Ok (λr=>r = [.bool m.okB]) (mE m.pv):=by
 obtain ⟨ht,hf,hs,_⟩:=h
 rw [aAc]
 refine aG rfl (aA rfl (aA rfl (aH (fN (bB (aS (λh=>aB ?_) (λh1=>?_)))))))
 ·have : iS (m.funcs.length : Int) 1 12=false:=by simpa using h
  simp [fF.okB,this]
 refine aH (cG (aD (λh=>aB ?_) (λh2=>?_)))
 ·have : ¬ ((m.texts.length : Int)≤20):=by omega
  simp only [fF.okB,decide_eq_false this,Bool.false_and,Bool.and_false]
 have g1 : iS (m.funcs.length : Int) 1 12=true:=by simpa using h1
 have g2 : (m.texts.length : Int)≤20:=by omega
 refine aHs (by omega) (λs=>!gF s) (λx hx=>?_) ?_
 ·show Ok _ (sM _)
  rw [wZ]
  refine aI (aHo (hs x hx)) (λr hr=>?_)
  subst hr
  exact bB (aB rfl)
 ·rw [aEb gF]
  refine aS (λh=>aB ?_) (λh=>?_)
  ·have : m.texts.all gF=false:=by rw [Bool.not_eq_true'] at h;exact h
   simp only [fF.okB,this,Bool.and_false,Bool.false_and]
  ·have g3 : m.texts.all gF=true:=by rw [Bool.not_eq_false'] at h;exact h
   refine aH ((aEc ht hf _ 0 rfl (by omega)).mono ?_)
   rintro r rfl
   rw [List.drop_zero]
   simp only [fF.okB,g1,decide_eq_true g2,g3,Bool.true_and]
theorem mG {n : Nat} {F : Nat→Option R} {P : Nat→R→Prop} (he : Ok (P n) (F n)) (hs : ∀ i,i<n→Ok (P (i+1)) (F (i+1))→Ok (P i) (F i)) : ∀ i,i≤n→Ok (P i) (F i):=by
 have key : ∀ j i,n - i=j→i≤n→Ok (P i) (F i):=by
  intro j
  induction j with
  | zero=>intro i h1 h2;have : i=n:=by omega
          subst this;exact he
  | succ j ih=>intro i h1 h2;exact hs i (by omega) (ih (i+1) (by omega) (by omega))
 exact λi hi=>key _ i rfl hi
theorem qN {σ : Type} {n : Nat} {F : Nat→σ→Option R} {P : R→Prop} (I : Nat→σ→Prop) (he : ∀ s,I n s→Ok P (F n s)) (hs : ∀ i s,i<n→I i s→(∀ s',I (i+1) s'→Ok P (F (i+1) s'))→Ok P (F i s)) : ∀ i s,i≤n→I i s→Ok P (F i s):=by
 have key : ∀ j i s,n - i=j→i≤n→I i s→Ok P (F i s):=by
  intro j
  induction j with
  | zero=>intro i s h1 h2 hI;have : i=n:=by omega
          subst this;exact he s hI
  | succ j ih=>intro i s h1 h2 hI;exact hs i s (by omega) hI (λs' hI'=>ih (i+1) s' (by omega) (by omega) hI')
 exact λi s hi hI=>key _ i s rfl hi hI
theorem yR {α : Type} (n : Nat) (p : Nat→Option α) : (List.range' n (n - n)).findSome? p=none:=by rw [Nat.sub_self];rfl
theorem uV {α : Type} {i n : Nat} (hi : i<n) (p : Nat→Option α) : (List.range' i (n - i)).findSome? p=(p i).or ((List.range' (i+1) (n - (i+1))).findSome? p):=by
 have : n - i=(n - (i+1))+1:=by omega
 rw [this,List.range'_succ,List.findSome?_cons]
 cases p i<;>rfl
def aR (l : List Int) : PV:=.lst (l.map (PV.int .i64))
section
variable {P : R → Prop} {k : PV → Option R} {l : List Int}
theorem aU (h : Ok P (k (.int .i64 l.length))) : Ok P (bd (PV.len (aR l)) k):=aH h
theorem aY {i : Nat} {kk : IntKind} (hi : i<l.length) (h : Ok P (k (.int .i64 l[i]))) : Ok P (bd (PV.at_ 1 false (aR l) (.int kk (i : Int))) k):=aO hi (λ_=>rfl) h
theorem dR {i : Int} {kk : IntKind} (h0 : 0≤i) (hi : i<l.length) (h : Ok P (k (aR l))) : Ok P (bd (PV.inb (aR l) (.int kk i)) k):=cB h0 (by rw [List.length_map];exact hi) h
theorem pU {i : Nat} {x : Int} {kk : IntKind} (hi : i<l.length) (h : Ok P (k (aR (l.set i x)))) : Ok P (bd (PV.setAt 1 false (aR l) (.int kk (i : Int)) (.int .i64 x)) k):=by
 refine aBj (by omega) (by rw [List.length_map];omega) rfl ?_
 rw [Int.toNat_natCast,← List.map_set]
 exact h
theorem cO {ys : List Int} {e : Nat} (hb : (l.length+ys.length)*e≤140737488355328) (h : Ok P (k (aR (l++ys)))) : Ok P (bd (PV.cat 1 e false (aR l) (.lst (ys.map (PV.int .i64)))) k):=by
 refine nW (by simpa using hb) (λx hx=>?_) ?_
 ·obtain ⟨a,_,rfl⟩:=List.mem_map.1 hx;rfl
 ·rw [← List.map_append];exact h
theorem pV {i : Int} {kk : IntKind} (h0 : 0≤i) (h1 : i<l.length) (h : ∀ x,l[i.toNat]? = some x→Ok P (k (.int .i64 x))) : Ok P (bd (PV.at_ 1 false (aR l) (.int kk i)) k):=by
 refine tD h0 (by rw [List.length_map];exact h1) (λx hx=>?_) (λx _ hx=>?_)
 ·obtain ⟨a,_,rfl⟩:=List.mem_map.1 hx;rfl
 ·rw [List.getElem?_map] at hx
  cases hl : l[i.toNat]? with
  | none=>rw [hl] at hx;cases hx
  | some y=>rw [hl] at hx;cases hx;exact h y hl
end
def oR (fs : List eD) (i : Int) : Int:=(fs[i.toNat]?.map eD.p).getD 0
def cV (fs : List eD) (x : aT) : Int × Int:=
 if (1≤x.o∧x.o≤6)∨x.o=20 then (0,1)
 else if x.o=7∨x.o=9∨x.o=18∨x.o=19∨x.o=25∨x.o=26 then (1,0)
 else if x.o=8 then (1,2)
 else if x.o=10 then (2,2)
 else if 11≤x.o∧x.o≤15 then (2,1)
 else if x.o=16∨x.o=21 then (1,1)
 else if x.o=22 then (2,0)
 else if x.o=23∧0≤x.a∧x.a≤6 then (x.a+1,1)
 else if x.o=24∧0≤x.a∧x.a<fs.length then (oR fs x.a,1)
 else (0,0)
def aE8 (fs : List eD) (x : aT) : R:=[.tup [.int .i64 (cV fs x).1,.int .i64 (cV fs x).2]]
theorem uF {fs : List eD} {x : aT} {a b : Int} (h : cV fs x=(a,b)) : [PV.tup [.int .i64 a,.int .i64 b]]=aE8 fs x:=by
 unfold aE8;rw [h]
theorem bG {n lo hi : Int} : iS n lo hi=true↔lo≤n∧n≤hi:=by simp [iS]
theorem aGD {n lo hi : Int} : iS n lo hi=false↔¬ (lo≤n∧n≤hi):=by rw [← bG];simp
theorem xL {P : R→Prop} {n lo hi : Int} {x y : Option R} (h1 : lo≤n∧n≤hi→Ok P x) (h2 : ¬ (lo≤n∧n≤hi)→Ok P y) : Ok P (PV.ite (hd [.bool (iS n lo hi)]) x y):=
 aS (λh=>h1 (bG.1 h)) (λh=>h2 (aGD.1 h))
section
variable {fs : List eD} {x : aT} {T : PV} (hf : fs.length ≤ 2097152)
include hf
theorem aIh {P : R→Prop} {k : PV→Option R} {i : Int} (h0 : 0≤i) (h1 : i<fs.length) (h : ∀ lc code,Ok P (k (.agg [.int .i64 (oR fs i),lc,code]))) : Ok P (bd (PV.at_ 3 true (.lst (fs.map eD.pv)) (.int .i64 i)) k):=by
 obtain ⟨n,rfl⟩:=Int.eq_ofNat_of_zero_le h0
 have hn : n<fs.length:=by omega
 refine aO hn (λ_=>rfl) ?_
 have : oR fs (n : Int)=fs[n].p:=by simp [oR,List.getElem?_eq_getElem hn]
 rw [← show PV.agg [.int .i64 (oR fs (n : Int)),.int .i64 fs[n].lc,.lst (fs[n].code.map aT.pv)]=fs[n].pv by rw [this];rfl]
 exact h _ _
set_option maxRecDepth 100000 in
set_option maxHeartbeats 4000000 in
theorem aDl : Ok (λr=>r=aE8 fs x) (pI (.agg [T,.lst (fs.map eD.pv)]) x.pv):=by
 rw [aCi]
 refine aG rfl (aA rfl (aA rfl (aG rfl (aA rfl (aA rfl ?_)))))
 repeat' (first
  | refine aP (aD (λ_=>?_) (λ_=>?_))
  | refine fG (xL (λ_=>?_) (λ_=>?_))
  | refine aH (bO (by omega) ?_)
  | refine aK (by omega) ?_
  | refine aIh hf (by omega) (by omega) (λ_ _=>?_)
  | refine aA rfl ?_
  | exact aB (uF (by
   unfold cV
   repeat (first | rfl | rw [if_pos (by omega)] | rw [if_neg (by omega)]))))
set_option maxRecDepth 100000 in
set_option maxHeartbeats 4000000 in
theorem aHt : Ok (λr=>r=aE8 fs x) (uE (.agg [T,.lst (fs.map eD.pv)]) x.pv):=by
 have c24 : ¬ (x.o=23∧0≤x.a∧x.a≤6)→¬ ((1≤x.o∧x.o≤16)∨(18≤x.o∧x.o≤22))→¬ (x.o=25∨x.o=26)→Ok (λr=>r=aE8 fs x) (kB T (.lst (fs.map eD.pv)) (.int .i64 x.o) (.int .i64 x.a)):=by
  intro h1 h2 h3
  rw [xB]
  refine aP (aD (λ_=>?_) (λ_=>?_))
  ·refine aH (iO (by omega) (xL (λ_=>?_) (λ_=>?_)))
   ·rw [xC]
    refine aIh hf (by omega) (by omega) (λ_ _=>aA rfl ?_)
    exact aB (uF (by
     unfold cV
     repeat (first | rfl | rw [if_pos (by omega)] | rw [if_neg (by omega)])))
   ·exact aB (uF (by
    unfold cV
    repeat (first | rfl | rw [if_pos (by omega)] | rw [if_neg (by omega)])))
  ·exact aB (uF (by
   unfold cV
   repeat (first | rfl | rw [if_pos (by omega)] | rw [if_neg (by omega)])))
 rw [aCh]
 refine aG rfl (aA rfl (aA rfl (aG rfl (aA rfl (aA rfl ?_)))))
 repeat' (first
  | exact c24 (by omega) (by omega) (by omega)
  | refine aP (aD (λ_=>?_) (λ_=>?_))
  | refine fN (xL (λ_=>?_) (λ_=>?_))
  | refine aK (by omega) ?_
  | exact aB (uF (by
   unfold cV
   repeat (first | rfl | rw [if_pos (by omega)] | rw [if_neg (by omega)]))))
end
def eA (x : aT) (pc : Int) : List Int:=(if x.o≠17∧x.o≠25 then [pc+1] else [])++(if x.o=17∨x.o=18∨x.o=19 then [x.a] else [])
theorem aGE {P : R→Prop} {k : PV→Option R} {a : Int} (h : Ok P (k (aR [a]))) : Ok P (bd (PV.cat 1 8 false (.lst []) (.lst [.int .i64 a])) k):=
 cO (l:=[]) (ys:=[a]) (by simp) h
theorem aIZ {P : R→Prop} {k : PV→Option R} {a b : Int} (h : Ok P (k (aR [a,b]))) : Ok P (bd (PV.cat 1 8 false (.lst []) (.lst [.int .i64 a,.int .i64 b])) k):=
 cO (l:=[]) (ys:=[a,b]) (by simp) h
theorem aJI {P : R→Prop} {k : PV→Option R} {a b : Int} (h : Ok P (k (aR [a,b]))) : Ok P (bd (PV.cat 1 8 false (aR [a]) (aR [b])) k):=
 cO (l:=[a]) (ys:=[b]) (by simp) h
theorem aJJ {P : R→Prop} {k : PV→Option R} {b : Int} (h : Ok P (k (aR [b]))) : Ok P (bd (PV.cat 1 8 false (.lst []) (aR [b])) k):=
 cO (l:=[]) (ys:=[b]) (by simp) h
theorem aDm {x : aT} {pc : Int} (hp : 0≤pc∧pc≤1000000000) : Ok (λr=>r = [aR (eA x pc)]) (nK x.pv (.int .i64 pc)):=by
 rw [aA0]
 refine aG rfl (aA rfl (aA rfl ?_))
 repeat' (first
  | (rw [xD];refine aK (by omega) ?_)
  | rw [xE]
  | rw [xF]
  | refine aGE ?_
  | refine aJI ?_
  | refine aJJ ?_
  | refine aP (aD (λ_=>?_) (λ_=>?_))
  | refine dB (bA (λ_=>?_) (λ_=>?_))
  | (exfalso;omega)
  | exact aB (congrArg (λl=>[aR l]) (by unfold eA;repeat (first | rfl | rw [if_pos (by omega)] | rw [if_neg (by omega)])))
  | exact aB (congrArg (λl=>[aR l]) (a₁:=[]) (by unfold eA;repeat (first | rfl | rw [if_pos (by omega)] | rw [if_neg (by omega)]))))
theorem aDn {x : aT} {pc : Int} (hp : 0≤pc∧pc≤1000000000) : Ok (λr=>r = [aR (eA x pc)]) (nJ x.pv (.int .i64 pc)):=by
 rw [aAZ]
 refine aG rfl (aA rfl (aA rfl ?_))
 repeat' (first
  | refine aGE ?_
  | refine aIZ ?_
  | refine aK (by omega) ?_
  | refine aP (aD (λ_=>?_) (λ_=>?_))
  | exact aB (congrArg (λl=>[aR l]) (by unfold eA;repeat (first | rfl | rw [if_pos (by omega)] | rw [if_neg (by omega)])))
  | exact aB (congrArg (λl=>[aR l]) (a₁:=[]) (by unfold eA;repeat (first | rfl | rw [if_pos (by omega)] | rw [if_neg (by omega)]))))
end
noncomputable section
open Go Go.IntWalk
attribute [local irreducible] bd PV.ite PV.guardFlat PV.guardOwn PV.whole PV.one PV.cell PV.sub PV.at_ PV.len PV.slen PV.chr PV.beq PV.peq PV.ceq PV.bin PV.neg PV.not PV.conv PV.cut PV.scut PV.cat PV.setAt PV.setCell PV.ncopy PV.copyIn PV.zeros PV.toStr PV.toBytes PV.deref PV.isPtr PV.comp PV.inb PV.off PV.imin PV.imax PV.sel PV.apply PV.isLst PV.isInt PV.ix PV.nilT
structure lI where
 k : Int
 n : Int
 s : ByteArray
def lI.pv (v : lI) : PV:=.agg [.int .i64 v.k,.int .i64 v.n,.str v.s]
def mP : lI:=⟨0,0,bs []⟩
def aI0 (n : Int) : lI:=⟨1,n,bs []⟩
def aCl (b : Bool) : lI:=⟨2,if b then 1 else 0,bs []⟩
def aGF (s : ByteArray) : lI:=⟨3,0,s⟩
def aJK (n : Int) : lI:=⟨4,n,bs []⟩
def aJL (n : Int) : lI:=⟨5,n,bs []⟩
def fT (n : Int) : Bool:=iS n (-1000000000) 1000000000
def aDo (a b : ByteArray) : Bool:=a.toList==b.toList
theorem aF3 (a : ByteArray) : aDo a a=true:=by simp [aDo]
def I64 (n : Int) : Prop:=-9223372036854775808≤n∧n≤9223372036854775807
section
variable {P : R → Prop} {k : PV → Option R} {kr : R → Option R} {a b : ByteArray}
end
def eK (nf recs : Int) (v : lI) : Bool:=
 if v.k≠3∧aDo v.s (bs [])=false then false
 else if v.k=0 then decide (v.n=0)
 else if v.k=1 then fT v.n
 else if v.k=2 then iS v.n 0 1
 else if v.k=3 then decide (v.n=0)&&gF v.s
 else if v.k=4 then decide (0≤v.n)&&decide (v.n<recs)
 else if v.k=5 then iS v.n 0 (nf - 1)
 else false
def aKd (o a b : Int) : Int:=if o=12 then a - b else if o=13 then a*b else a+b
def aIi (o : Int) (a b : lI) : lI × Int:=
 if a.k≠1 then (mP,1) else if b.k≠1 then (mP,1) else if fT a.n=false then (mP,2) else if fT b.n=false then (mP,2)
 else if fT (aKd o a.n b.n)=false then (mP,2) else (aI0 (aKd o a.n b.n),0)
def aKe (a b : lI) : lI:=aCl (decide (a.k=b.k)&&(decide (a.n=b.n)&&aDo a.s b.s))
def opT (o : Int) (a b : lI) : lI × Int:=
 if o=11 then (if a.k=3∧b.k=3 then (if (60 : Int)<a.s.size+b.s.size then (mP,3) else (aGF (a.s++b.s),0)) else aIi 11 a b)
 else if o=12 then aIi 12 a b
 else if o=13 then aIi 13 a b
 else if o=14 then (if a.k=3∧b.k=3 then (aCl (PV.bytesLt a.s.toList b.s.toList),0) else if a.k=1∧b.k=1 then (aCl (decide (a.n<b.n)),0) else (mP,1))
 else (aKe a b,0)
def opR (p : lI × Int) : R:=[.tup [p.1.pv,.int .i64 p.2]]
def aI1 (v : lI) : lI × Int:=if v.k≠2 then (mP,1) else (aCl (!decide (v.n=1)),0)
def dig (n : Int) : ByteArray:=⟨#[UInt8.ofNat (48+n).toNat]⟩
def aIj : Nat→Int→ByteArray
 | 0,n=>dig n
 | j+1,n=>if n<10 then dig n else aIj j (n / 10)++dig (n % 10)
def aEd (n : Int) : ByteArray:=
 if n<0 then (if n < -9 then bs [45]++aIj 18 (-(n.tdiv 10))++aIj 18 (-(n.tmod 10)) else bs [45]++aIj 18 (-n)) else aIj 18 n
def mtD : Nat→Int→ByteArray→ByteArray
 | 0,_,s=>bs [109]++s
 | n+1,k,s=>if 0<k then mtD n (k / 10) (⟨([48+k % 10].map λx=>UInt8.ofNat x.toNat).toArray⟩++s) else bs [109]++s
def mtx (k : Int) : ByteArray:=mtD 19 k (bs [])
section
variable {P : R → Prop} {k : R → Option R}
end
def cS (_ : ByteArray) : Nat:=1
def mS (q : Int) (_ : ByteArray) : ByteArray:=mtx q
def cI (_ : aT) : Nat:=2
def mI (q : Int) (_ : aT) : aT:=⟨q,q+1⟩
def cF (f : eD) : Nat:=2+aIY cI f.code
def mF (q : Int) (f : eD) : eD:=⟨q,q+1,aD8 mI cI (q+2) f.code⟩
def cM (m : fF) : Nat:=aIY cS m.texts+aIY cF m.funcs
def mM (q : Int) (m : fF) : fF:=⟨aD8 mS cS q m.texts,aD8 mF cF (q+aIY cS m.texts) m.funcs⟩
def fnW (A B : List PV) (p lc : Int) (xs : List PV) : PV:=.lst (A++.agg [.int .i64 p,.int .i64 lc,.lst xs]::B)
end
noncomputable section
open Go
attribute [local irreducible] bd PV.ite PV.guardFlat PV.guardOwn PV.whole PV.one PV.cell PV.sub PV.at_ PV.len PV.slen PV.chr PV.beq PV.peq PV.ceq PV.bin PV.neg PV.not PV.conv PV.cut PV.scut PV.cat PV.setAt PV.setCell PV.ncopy PV.copyIn PV.zeros PV.toStr PV.toBytes PV.deref PV.isPtr PV.comp PV.inb PV.off PV.imin PV.imax PV.sel PV.apply PV.isLst PV.isInt PV.ix PV.nilT
def fE (fs : List eD) (x : aT) (h : Int) : Int:=h - (cV fs x).1+(cV fs x).2
def yS (fs : List eD) (x : aT) (h : Int) : Bool:=decide ((cV fs x).1≤h)&&decide (fE fs x h≤16)
abbrev Hs:=List Int × Bool
def nR (l : Int) (s : Hs) (t : Int) : Hs:=if t<s.1.length∧s.1[t.toNat]?.getD 0<0 then (s.1.set t.toNat l,true) else s
def tA (fs : List eD) (code : List aT) (s : Hs) (pc : Nat) : Hs:=
 match code[pc]? with
 | some x=>if yS fs x (s.1[pc]?.getD 0) then (eA x pc).foldl (nR (fE fs x (s.1[pc]?.getD 0))) s else s
 | none=>s
def mQ (fs : List eD) (code : List aT) (s : List Int) : Hs:=(List.range' 0 code.length).foldl (tA fs code) (s,false)
def yT (fs : List eD) (code : List aT) : Nat→List Int→List Int
 | 0,s=>s
 | n+1,s=>if (mQ fs code s).2 then yT fs code n (mQ fs code s).1 else (mQ fs code s).1
def aEe (n : Nat) : List Int:=(List.replicate n (-1)).set 0 0
def eL (fs : List eD) (code : List aT) : List Int:=yT fs code (code.length+1) (aEe code.length)
structure Fit (fs : List eD) (code : List aT) : Prop where
 n1 : 1≤code.length
 n2 : code.length≤120
 nf : fs.length≤12
 u : ∀ x∈code,0≤(cV fs x).1∧(cV fs x).1≤7∧0≤(cV fs x).2∧(cV fs x).2≤2
 j : ∀ x∈code,(x.o=17∨x.o=18∨x.o=19)→0≤x.a∧x.a<code.length
def tB (n : Nat) (s : List Int) : Prop:=s.length=n∧∀ v∈s,-1≤v∧v≤16
theorem tB.at {n : Nat} {s : List Int} (h : tB n s) (i : Nat) : -1≤s[i]?.getD 0∧s[i]?.getD 0≤16:=by
 cases hx : s[i]? with
 | none=>simp
 | some v=>exact h.2 v (List.mem_of_getElem? hx)
theorem tB.put {n : Nat} {s : Hs} (h : tB n s.1) {l : Int} (hl : -1≤l∧l≤16) (t : Int) : tB n (nR l s t).1:=by
 unfold nR
 split
 ·refine ⟨by simp only [List.length_set];exact h.1,λv hv=>?_⟩
  rcases List.mem_or_eq_of_mem_set hv with h1 | h1
  ·exact h.2 v h1
  ·omega
 ·exact h
theorem tB.puts {n : Nat} {l : Int} (hl : -1≤l∧l≤16) : ∀ (ts : List Int) (s : Hs),tB n s.1→tB n (ts.foldl (nR l) s).1
 | [],_,h=>h
 | t::r,s,h=>tB.puts hl r _ (h.put hl t)
theorem aE9 {fs : List eD} {x : aT} {h : Int} (hu : 0≤(cV fs x).1∧(cV fs x).1≤7∧0≤(cV fs x).2∧(cV fs x).2≤2) (hc : yS fs x h=true) : 0≤fE fs x h∧fE fs x h≤16:=by
 simp only [yS,Bool.and_eq_true,decide_eq_true_eq] at hc
 unfold fE at *
 omega
theorem tB.one {fs : List eD} {code : List aT} (F : Fit fs code) {n : Nat} {s : Hs} (h : tB n s.1) (pc : Nat) : tB n (tA fs code s pc).1:=by
 unfold tA
 split
 ·rename_i x hx
  split
  ·rename_i hc
   have:=aE9 (F.u x (List.mem_of_getElem? hx)) hc
   exact tB.puts (by omega) _ _ h
  ·exact h
 ·exact h
theorem tB.ones {fs : List eD} {code : List aT} (F : Fit fs code) {n : Nat} : ∀ (l : List Nat) (s : Hs),tB n s.1→tB n (l.foldl (tA fs code) s).1
 | [],_,h=>h
 | t::r,s,h=>tB.ones F r _ (h.one F t)
theorem tB.pass {fs : List eD} {code : List aT} (F : Fit fs code) {n : Nat} {s : List Int} (h : tB n s) : tB n (mQ fs code s).1:=tB.ones F _ _ h
theorem tB.start {n : Nat} : tB n (aEe n):=by
 refine ⟨by simp [aEe],λv hv=>?_⟩
 rcases List.mem_or_eq_of_mem_set hv with h1 | h1
 ·have:=List.eq_of_mem_replicate h1;omega
 ·omega
def nn (s : List Int) : Nat:=s.countP (· < 0)
def Dec (s s' : Hs) : Prop:=s'=s∨(s'.2=true∧nn s'.1<nn s.1)
theorem Dec.trans {a b c : Hs} (h : Dec a b) (k : Dec b c) : Dec a c:=by
 rcases h with rfl | h
 ·exact k
 ·rcases k with rfl | k
  ·exact .inr h
  ·exact .inr ⟨k.1,by omega⟩
theorem aIk : ∀ (s : List Int) (i : Nat) (l : Int),0≤l→s[i]?.getD 0<0→nn (s.set i l)<nn s
 | [],i,l,_,h=>by simp at h
 | x::r,0,l,hl,h=>by
   simp only [List.getElem?_cons_zero,Option.getD_some] at h
   simp only [nn,List.set_cons_zero,List.countP_cons]
   rw [if_neg (by simp;omega),if_pos (by simpa using h)]
   omega
 | x::r,i+1,l,hl,h=>by
   simp only [List.getElem?_cons_succ] at h
   have:=aIk r i l hl h
   simp only [nn,List.set_cons_succ,List.countP_cons] at *
   omega
theorem Dec.put {l : Int} (hl : 0≤l) (s : Hs) (t : Int) : Dec s (nR l s t):=by
 unfold nR
 split
 ·rename_i h
  exact .inr ⟨rfl,aIk _ _ _ hl h.2⟩
 ·exact .inl rfl
theorem Dec.puts {l : Int} (hl : 0≤l) : ∀ (ts : List Int) (s : Hs),Dec s (ts.foldl (nR l) s)
 | [],_=>.inl rfl
 | t::r,s=>(Dec.put hl s t).trans (Dec.puts hl r _)
theorem Dec.one {fs : List eD} {code : List aT} (F : Fit fs code) (s : Hs) (pc : Nat) : Dec s (tA fs code s pc):=by
 unfold tA
 split
 ·rename_i x hx
  split
  ·rename_i hc
   exact Dec.puts (aE9 (F.u x (List.mem_of_getElem? hx)) hc).1 _ _
  ·exact .inl rfl
 ·exact .inl rfl
theorem Dec.ones {fs : List eD} {code : List aT} (F : Fit fs code) : ∀ (l : List Nat) (s : Hs),Dec s (l.foldl (tA fs code) s)
 | [],_=>.inl rfl
 | t::r,s=>(Dec.one F s t).trans (Dec.ones F r _)
theorem Dec.pass {fs : List eD} {code : List aT} (F : Fit fs code) (s : List Int) : Dec (s,false) (mQ fs code s):=Dec.ones F _ _
theorem aIl {l : Int} {s : Hs} {t : Int} (h : s.1[0]? = some 0) : (nR l s t).1[0]? = some 0:=by
 unfold nR
 split
 ·rename_i hc
  rw [List.getElem?_set]
  split
  ·rename_i h0
   rw [h0] at hc
   rw [h] at hc
   simp at hc
  ·exact h
 ·exact h
theorem aDq {l : Int} : ∀ (ts : List Int) (s : Hs),s.1[0]? = some 0→(ts.foldl (nR l) s).1[0]? = some 0
 | [],_,h=>h
 | t::r,s,h=>aDq r _ (aIl h)
theorem aIm {fs : List eD} {code : List aT} {s : Hs} (pc : Nat) (h : s.1[0]? = some 0) : (tA fs code s pc).1[0]? = some 0:=by
 unfold tA
 split
 ·split
  ·exact aDq _ _ h
  ·exact h
 ·exact h
theorem aAk {fs : List eD} {code : List aT} : ∀ (l : List Nat) (s : Hs),s.1[0]? = some 0→(l.foldl (tA fs code) s).1[0]? = some 0
 | [],_,h=>h
 | t::r,s,h=>aAk r _ (aIm t h)
theorem aFa {fs : List eD} {code : List aT} : ∀ (n : Nat) (s : List Int),s[0]? = some 0→(yT fs code n s)[0]? = some 0
 | 0,_,h=>h
 | n+1,s,h=>by
   unfold yT
   split
   ·exact aFa n _ (aAk _ _ h)
   ·exact aAk _ _ h
theorem aGG {fs : List eD} {code : List aT} (F : Fit fs code) {m : Nat} : ∀ (n : Nat) (s : List Int),tB m s→tB m (yT fs code n s)
 | 0,_,h=>h
 | n+1,s,h=>by
   unfold yT
   split
   ·exact aGG F n _ (h.pass F)
   ·exact h.pass F
theorem lT {fs : List eD} {code : List aT} (F : Fit fs code) : tB code.length (eL fs code):=aGG F _ _ tB.start
theorem aFb {fs : List eD} {code : List aT} (F : Fit fs code) : (eL fs code)[0]? = some 0:=by
 refine aFa _ _ ?_
 have:=F.n1
 rw [aEe,List.getElem?_set_self (by rw [List.length_replicate];omega)]
theorem aBg {s : List Int} {i : Nat} (h : i<s.length) : s[i]=s[i]?.getD 0:=by rw [List.getElem?_eq_getElem h];rfl
theorem uG {fs : List eD} {code : List aT} (F : Fit fs code) {x : aT} (hx : x∈code) {pc : Nat} (hp : pc<code.length) : ∀ t∈eA x pc,0≤t∧t≤code.length:=by
 intro t ht
 unfold eA at ht
 rcases List.mem_append.1 ht with h | h
 ·split at h
  ·simp only [List.mem_singleton] at h;omega
  ·cases h
 ·split at h
  ·rename_i hj
   simp only [List.mem_singleton] at h
   have:=F.j x hx hj
   omega
  ·cases h
theorem aGH {l : Int} {s : Hs} {t : Int} (h1 : t<s.1.length) (h2 : s.1[t.toNat]?.getD 0<0) : nR l s t=(s.1.set t.toNat l,true):=if_pos ⟨h1,h2⟩
theorem aEf {l : Int} {s : Hs} {t : Int} (h : ¬ (t<s.1.length∧s.1[t.toNat]?.getD 0<0)) : nR l s t=s:=if_neg h
section
variable {fs : List eD} {code : List aT} {T : PV} (F : Fit fs code)
include F
theorem aHu {P : R→Prop} {pc : Nat} (hpc : pc<code.length) {left : Int} {ts : List Int} (hts : ∀ t∈ts,0≤t∧t≤code.length) (hn : ts.length≤10) {s : Hs} (hs : s.1.length=code.length)
 (h : Ok P (cN (.lst (code.map aT.pv)) (.bool (ts.foldl (nR left) s).2) (.int .i64 ((pc : Int)+1)) T (.lst (fs.map eD.pv)) (aR (ts.foldl (nR left) s).1))) :
 Ok P (dD (.lst (code.map aT.pv)) (.bool s.2) (.int .i64 pc) (.int .i64 left) (aR ts) (.int .i64 0) T (.lst (fs.map eD.pv)) (aR s.1)):=by
 have hn2:=F.n2
 refine qN (n:=ts.length) (F:=λi (q : Hs)=>dD (.lst (code.map aT.pv)) (.bool q.2) (.int .i64 pc) (.int .i64 left) (aR ts) (.int .i64 i) T (.lst (fs.map eD.pv)) (aR q.1))
  (λi q=>q.1.length=code.length∧(ts.drop i).foldl (nR left) q=ts.foldl (nR left) s) ?_ ?_ 0 s (by omega) ⟨hs,by rw [List.drop_zero]⟩
 ·rintro q ⟨hq,he⟩
  rw [List.drop_length] at he
  have he : q=ts.foldl (nR left) s:=he
  subst he
  rw [lG]
  exact aU (aM (aD (λh=>by omega) (λ_=>aK (by omega) h)))
 ·rintro i q hi ⟨hq,he⟩ ih
  have ht:=hts ts[i] (List.getElem_mem _)
  rw [List.drop_eq_getElem_cons hi,List.foldl_cons] at he
  have ih:=λs'=>ih s'
  rw [lG]
  refine aU (aM (aD (λ_=>?_) (λh=>by omega)))
  refine aY hi (aH (aM (aD (λh1=>?_) (λh1=>?_))))
  ·refine aY hi (dR (by omega) (by omega) (pV (by omega) (by omega) (λv hv=>?_)))
   refine aM (aD (λh2=>?_) (λh2=>?_))
   ·rw [sU]
    refine aY hi (dR (by omega) (by omega) ?_)
    obtain ⟨t,et⟩:=Int.eq_ofNat_of_zero_le ht.1
    rw [et]
    refine pU (by omega) (aK (by omega) ?_)
    refine ih (q.1.set t left,true) ⟨by simpa using hq,?_⟩
    rw [aGH (by omega) (by rw [hv];exact h2),et] at he
    exact he
   ·refine aK (by omega) (ih q ⟨hq,?_⟩)
    rw [aEf (by rw [hv];simp only [Option.getD_some];omega)] at he
    exact he
  ·refine aK (by omega) (ih q ⟨hq,?_⟩)
   rw [aEf (by omega)] at he
   exact he
theorem aCm {P : R→Prop} {s : List Int} (hs : tB code.length s)
 (h : Ok P (fL (.lst (code.map aT.pv)) (.bool (mQ fs code s).2) T (.lst (fs.map eD.pv)) (aR (mQ fs code s).1))) :
 Ok P (cN (.lst (code.map aT.pv)) (.bool false) (.int .i64 0) T (.lst (fs.map eD.pv)) (aR s)):=by
 have hn2:=F.n2
 have hnf:=F.nf
 refine qN (n:=code.length) (F:=λi (q : Hs)=>cN (.lst (code.map aT.pv)) (.bool q.2) (.int .i64 i) T (.lst (fs.map eD.pv)) (aR q.1))
  (λi q=>tB code.length q.1∧(List.range' i (code.length - i)).foldl (tA fs code) q=mQ fs code s) ?_ ?_ 0 (s,false) (by omega) ⟨hs,rfl⟩
 ·rintro q ⟨hq,he⟩
  rw [Nat.sub_self] at he
  have he : q=mQ fs code s:=he
  subst he
  rw [lF]
  exact aH (aM (aD (λh=>by omega) (λ_=>h)))
 ·rintro i q hi ⟨hq,he⟩ ih
  have e1 : code.length - i=(code.length - (i+1))+1:=by omega
  rw [e1,List.range'_succ,List.foldl_cons] at he
  have hx : code[i]? = some code[i]:=List.getElem?_eq_getElem hi
  have hu:=F.u code[i] (List.getElem_mem _)
  have hil : i<q.1.length:=by rw [hq.1];exact hi
  have hv:=hq.at i
  have e2 : q.1[i]=q.1[i]?.getD 0:=aBg hil
  have hone:=hq.one F i
  have hgo:=ih (tA fs code q i) ⟨hone,he⟩
  have eo : tA fs code q i=if yS fs code[i] (q.1[i]?.getD 0) then (eA code[i] i).foldl (nR (fE fs code[i] (q.1[i]?.getD 0))) q else q:=by
   conv=>lhs;unfold tA
   rw [hx]
  generalize hw : q.1[i]?.getD 0=w at *
  rw [lF]
  refine aH (aM (aD (λ_=>?_) (λh=>by omega)))
  refine aO hi (λ_=>rfl) (aI (aDl (T:=T) (by omega)) (λr hr=>?_))
  subst hr
  refine bQ rfl (bQ rfl ?_)
  refine dR (by omega) (by omega) (aY hil (bO (by omega) (aK (by omega) (dR (by omega) (by omega) (aY hil ?_)))))
  rw [e2]
  refine aM (aD (λh1=>?_) (λh1=>?_))
  ·have hc : yS fs code[i] w=false:=by simp only [yS];rw [decide_eq_false (by omega)];rfl
   rw [hc,if_neg (by simp)] at eo
   rw [eo] at hgo
   exact aK (by omega) hgo
  refine cG (aD (λh2=>?_) (λh2=>?_))
  ·have hc : yS fs code[i] w=false:=by simp only [yS];rw [decide_eq_false (p:=fE fs code[i] w≤16) (by unfold fE;omega),Bool.and_false]
   rw [hc,if_neg (by simp)] at eo
   rw [eo] at hgo
   exact aK (by omega) hgo
  ·have hc : yS fs code[i] w=true:=by simp only [yS];rw [decide_eq_true (by omega),decide_eq_true (p:=fE fs code[i] w≤16) (by unfold fE;omega)];rfl
   rw [hc,if_pos rfl] at eo
   rw [eo] at hgo
   refine aO hi (λ_=>rfl) (aI (aDm (by omega)) (λr hr=>?_))
   subst hr
   exact aHu F hi (uG F (List.getElem_mem _) hi) (by unfold eA;repeat' split<;>simp) hq.1 hgo
theorem aHv : ∀ (j : Nat) (s : List Int),nn s≤j→tB code.length s→Ok (λr=>r = [aR (yT fs code (j+1) s)]) (fL (.lst (code.map aT.pv)) (.bool true) T (.lst (fs.map eD.pv)) (aR s)):=by
 intro j
 induction j with
 | zero=>
   intro s hs hg
   rw [fM]
   refine eE (aCm F hg ?_)
   rcases Dec.pass F s with h | ⟨h,h2⟩
   ·unfold yT
    rw [h,fM]
    exact bU (aB rfl)
   ·have h3 : nn (mQ fs code s).1<nn s:=h2
    omega
 | succ j ih=>
   intro s hs hg
   rw [fM]
   refine eE (aCm F hg ?_)
   rcases Dec.pass F s with h | ⟨h,h2⟩
   ·unfold yT
    rw [h,fM]
    exact bU (aB rfl)
   ·rw [yT,h,if_pos rfl]
    exact ih _ (by have h3 : nn (mQ fs code s).1<nn s:=h2;omega) (hg.pass F)
end
end
noncomputable section
open Go Go.IntWalk
attribute [local irreducible] bd PV.ite PV.guardFlat PV.guardOwn PV.whole PV.one PV.cell PV.sub PV.at_ PV.len PV.slen PV.chr PV.beq PV.peq PV.ceq PV.bin PV.neg PV.not PV.conv PV.cut PV.scut PV.cat PV.setAt PV.setCell PV.ncopy PV.copyIn PV.zeros PV.toStr PV.toBytes PV.deref PV.isPtr PV.comp PV.inb PV.off PV.imin PV.imax PV.sel PV.apply PV.isLst PV.isInt PV.ix PV.nilT
section
variable {fs : List eD} {code : List aT} {T : PV} (F : Fit fs code)
include F
theorem uH {f : Nat} (hf : f<fs.length) (hc : fs[f].code=code) : Ok (λr=>r = [aR (eL fs code)]) (iK (.agg [T,.lst (fs.map eD.pv)]) (.int .i64 f)):=by
 have hn2:=F.n2
 have hn1:=F.n1
 rw [yP]
 refine aG rfl (aA rfl (aA rfl (aO hf (λ_=>rfl) (aA (y:=.lst (code.map aT.pv)) (by rw [← hc];rfl) ?_))))
 have key:=mG (n:=code.length) (P:=λ_ r=>r = [aR (eL fs code)])
  (F:=λi=>gZ (.lst (code.map aT.pv)) (.int .i64 i) T (.lst (fs.map eD.pv)) (aR (List.replicate i (-1)))) ?_ ?_ 0 (by omega)
 ·exact key
 ·rw [mL]
  refine aH (aM (aD (λh=>by omega) (λ_=>?_)))
  refine dR (by omega) (by rw [List.length_replicate];omega) (pU (i:=0) (by rw [List.length_replicate];omega) ?_)
  exact aHv F code.length _ (by have:=(tB.start (n:=code.length)).1;unfold nn;exact Nat.le_trans List.countP_le_length (by omega)) tB.start
 ·intro i hi ih
  rw [mL]
  refine aH (aM (aD (λh=>?_) (λh=>by omega)))
  refine cO (ys:=[-1]) (by rw [List.length_replicate];simp only [List.length_cons,List.length_nil];omega) (aK (by omega) ?_)
  rw [← List.replicate_succ']
  exact ih
end
section
variable {P : R → Prop} {k : PV → Option R}
theorem uW {m n : Nat} {kk : IntKind} (h : n≤m) : PV.bound m (.int kk (n : Int))=some n:=by
 simp only [PV.bound]
 rw [if_pos (by omega),Int.toNat_natCast]
theorem aFc {xs ys : List PV} {lo hi : Nat} {k1 k2 : IntKind} (h1 : lo≤hi) (h2 : hi≤xs.length) (h3 : xs.length≤1000000000) (h : Ok P (k (.int .i64 (min (hi - lo) ys.length : Nat)))) :
 Ok P (bd (PV.ncopy (.lst xs) (.int k1 (lo : Int)) (.int k2 (hi : Int)) (.lst ys)) k):=
 dO _ (by
  simp only [PV.ncopy]
  rw [uW (by omega),uW (by omega)]
  simp only [PV.elems]
  rw [if_pos ⟨h1,h2⟩]) h
theorem aDr {s : Nat} {g : Bool} {xs ys : List PV} {lo hi : Nat} {k1 k2 : IntKind} (h1 : lo≤hi) (h2 : hi≤xs.length) (h3 : xs.length≤1000000000) (he : ∀ y∈ys,y.isEl s g=true)
 (h : Ok P (k (.lst (xs.take lo++ys.take (hi - lo)++xs.drop (lo+min (hi - lo) ys.length))))) :
 Ok P (bd (PV.copyIn s g (.lst xs) (.int k1 (lo : Int)) (.int k2 (hi : Int)) (.lst ys)) k):=
 dO _ (by
  simp only [PV.copyIn]
  rw [uW (by omega),uW (by omega)]
  simp only [PV.elems]
  rw [if_pos ⟨h1,h2,List.all_eq_true.2 he⟩]) h
theorem rF {e n : Nat} {z : PV} {kk : IntKind} (h1 : n*e≤140737488355328) (h2 : n≤1000000000) (h : Ok P (k (.lst (List.replicate n z)))) : Ok P (bd (PV.zeros e z (.int kk (n : Int))) k):=
 dO _ (by
  simp only [PV.zeros]
  rw [if_pos ⟨by omega,by rw [Int.toNat_natCast];exact h1,by omega⟩,Int.toNat_natCast]) h
theorem yU {l : List Int} : ∀ x∈l.map (PV.int .i64),x.isEl 1 false=true:=by
 intro x hx
 obtain ⟨a,_,rfl⟩:=List.mem_map.1 hx
 rfl
end
theorem aFd {n : Nat} (hn : n≤1000) : ∀ (j a : Nat),n - a≤j→1≤a→a≤n→
 Ok (λr=>r = [aR (List.replicate n (-1))]) (eC (.int .i64 a) (aR (List.replicate a (-1)++List.replicate (n - a) 0))):=by
 intro j
 induction j with
 | zero=>
   intro a h1 h2 h3
   have : a=n:=by omega
   subst this
   rw [hX]
   refine aU (aM (aD (λh=>?_) (λ_=>aB ?_)))
   ·simp at h
   ·simp
 | succ j ih=>
   intro a h1 h2 h3
   rw [hX]
   have hl : (List.replicate a (-1 : Int)++List.replicate (n - a) 0).length=n:=by simp;omega
   have hlm : ((List.replicate a (-1 : Int)++List.replicate (n - a) 0).map (PV.int .i64)).length=n:=by rw [List.length_map,hl]
   have ht : (List.replicate a (-1 : Int)++List.replicate (n - a) 0).take a=List.replicate a (-1):=by
    rw [List.take_left' (by simp)]
   refine aU (aM (aD (λh=>?_) (λh=>aB ?_)))
   ·rw [hl] at h
    refine aU ?_
    rw [hl]
    refine aDF (by omega) (by omega) (by omega) yU ?_
    refine aDF (by omega) (by omega) (by omega) yU ?_
    refine aDF (by omega) (by omega) (by omega) yU ?_
    simp only [Int.toNat_natCast,Int.toNat_zero,List.drop_zero,← List.map_take]
    rw [ht]
    refine aFc (by omega) (by omega) (by omega) (aDr (by omega) (by omega) (by omega) yU ?_)
    rw [← List.map_take,ht,← List.map_take,← List.map_drop,← List.map_append,← List.map_append,List.length_map,List.length_replicate]
    have e : List.replicate a (-1 : Int)++(List.replicate a (-1)).take (n - a)++(List.replicate a (-1)++List.replicate (n - a) 0).drop (a+min (n - a) a)=List.replicate (a+min (n - a) a) (-1)++List.replicate (n - (a+min (n - a) a)) 0:=by
     rw [List.take_replicate,List.replicate_append_replicate,List.drop_append,List.length_replicate,List.drop_eq_nil_of_le (by simp),List.nil_append,List.drop_replicate]
     congr 2
     omega
    rw [e]
    exact aK (by omega) (ih (a+min (n - a) a) (by omega) (by omega) (by omega))
   ·have : a=n:=by rw [hl] at h;omega
    subst this
    simp
theorem aEg {P : R→Prop} {k : PV→Option R} {a : Int} (h1 : 0≤a∧a≤2097152) (h : Ok P (k (.int .u64 a))) : Ok P (bd (PV.bin .and (.int .u64 a) (.int .u64 4294967295)) k):=
 dO _ (by
  obtain ⟨n,rfl⟩:=Int.eq_ofNat_of_zero_le h1.1
  rw [gW (by simp) (by simp)]
  simp only [PV.intBin]
  have hb : IntKind.u64.bits=64:=rfl
  have e : (BitVec.ofInt 64 (n : Int)&&& BitVec.ofInt 64 4294967295).toNat=n:=by
   rw [BitVec.toNat_and,BitVec.ofInt_natCast,BitVec.toNat_ofNat]
   have : (BitVec.ofInt 64 4294967295).toNat=2 ^ 32 - 1:=by decide
   rw [this,Nat.and_two_pow_sub_one_eq_mod,Nat.mod_eq_of_lt (by omega),Nat.mod_eq_of_lt (by omega)]
  rw [hb,e,u64_in _ (by omega)]) h
theorem uI {P : R→Prop} {k : PV→Option R} {a : Int} (h1 : 0≤a∧a≤2097152) (h : Ok P (k (.int .u64 0))) : Ok P (bd (PV.bin .shr (.int .u64 a) (.int .u64 32)) k):=
 dO _ (by
  simp only [PV.bin]
  rw [if_neg (by omega)]
  have : a.fdiv (2 ^ min (Int.toNat 32) IntKind.u64.bits)=0:=by
   have e : (2 : Int) ^ min (Int.toNat 32) IntKind.u64.bits=4294967296:=by decide
   rw [e,Int.fdiv_eq_ediv_of_nonneg _ (by omega)]
   omega
  rw [this]) h
theorem uJ {P : R→Prop} {k : PV→Option R} {a b : Int} (h1 : 0≤a*b∧a*b≤2097152) (h : Ok P (k (.int .u64 (a*b)))) : Ok P (bd (PV.bin .mul (.int .u64 a) (.int .u64 b)) k):=
 dO _ (by rw [gW (by simp) (by simp)];simp only [PV.intBin];rw [u64_in _ (by omega)]) h
theorem yV {P : R→Prop} {k : PV→Option R} {a b : Int} (h1 : 0≤a+b∧a+b≤2097152) (h : Ok P (k (.int .u64 (a+b)))) : Ok P (bd (PV.bin .add (.int .u64 a) (.int .u64 b)) k):=
 dO _ (by rw [gW (by simp) (by simp)];simp only [PV.intBin];rw [u64_in _ (by omega)]) h
theorem aIn {P : R→Prop} {k : PV→Option R} {a : Int} {kk : IntKind} (h1 : 0≤a∧a≤2097152) (h : Ok P (k (.int .u64 a))) : Ok P (bd (PV.conv .u64 (.int kk a)) k):=dO _ (by simp only [PV.conv];rw [u64_in _ (by omega)]) h
theorem aHw {n : Nat} (h1 : 1≤n) (hn : n≤1000) : Ok (λr=>r = [aR (List.replicate n (-1))]) (gU (.lst [.int .i64 (-1)]) (.int .i64 n)):=by
 rw [qI]
 refine aM (aD (λh=>by omega) (λ_=>?_))
 rw [nP]
 refine cT (aIn (by simp) (aIn (by omega) ?_))
 refine aI (Q:=λr=>r = [.tup [.int .u64 0,.int .u64 n]]) ?_ (λr hr=>?_)
 ·rw [aAg,xH]
  simp only [List.length_cons,List.length_nil]
  refine aI (Q:=λr=>r = [.tup [.int .u64 0,.int .u64 n]]) ?_ (λr hr=>?_)
  ·refine aEg (by omega) (uI (by omega) (aEg (by omega) (uI (by omega) ?_)))
   refine uJ (by omega) (uJ (by omega) (uI (by omega) (yV (by omega) ?_)))
   refine aEg (by omega) (uI (by omega) (uJ (by omega) (yV (by omega) ?_)))
   refine uJ (by omega) (yV (by omega) (uI (by omega) (yV (by omega) (uJ (by omega) (aB ?_)))))
   simp
  ·subst hr
   exact bQ rfl (bQ rfl (aB rfl))
 subst hr
 refine bQ rfl (bQ rfl (cG (aD (λh=>by omega) (λ_=>cG (aD (λh=>by omega) (λ_=>?_))))))
 rw [nQ]
 refine fP (by omega) (rF (by omega) (by omega) (cE (aD (λ_=>?_) (λh=>by omega))))
 refine rF (by omega) (by omega) (cT ?_)
 rw [List.length_replicate]
 refine aFc (lo:=0) (by omega) (by simp) (by simp;omega) (aDr (lo:=0) (by omega) (by simp) (by simp;omega) (yU (l:=[-1])) ?_)
 have:=aFd hn n 1 (by omega) (by omega) h1
 have e : (min (n - 0) [PV.int .i64 (-1)].length : Nat)=1:=by simp;omega
 rw [e]
 have e2 : (List.replicate n (PV.int .i64 0)).take 0++[PV.int .i64 (-1)].take (n - 0)++(List.replicate n (PV.int .i64 0)).drop (0+1)=(List.replicate 1 (-1 : Int)++List.replicate (n - 1) 0).map (PV.int .i64):=by
  rw [List.take_zero,List.nil_append,List.take_of_length_le (by simp;omega),List.drop_replicate]
  simp
 rw [e2]
 exact this
end
noncomputable section
open Go
attribute [local irreducible] bd PV.ite PV.guardFlat PV.guardOwn PV.whole PV.one PV.cell PV.sub PV.at_ PV.len PV.slen PV.chr PV.beq PV.peq PV.ceq PV.bin PV.neg PV.not PV.conv PV.cut PV.scut PV.cat PV.setAt PV.setCell PV.ncopy PV.copyIn PV.zeros PV.toStr PV.toBytes PV.deref PV.isPtr PV.comp PV.inb PV.off PV.imin PV.imax PV.sel PV.apply PV.isLst PV.isInt PV.ix PV.nilT
section
variable {fs : List eD} {code : List aT} {T : PV} (F : Fit fs code)
include F
theorem aDs {x : aT} (hx : x∈code) {h : Int} (hh : -1≤h∧h≤16) : Ok (λr=>r = [.tup [.int .i64 (fE fs x h),.bool (yS fs x h)]]) (pH (.agg [T,.lst (fs.map eD.pv)]) x.pv (.int .i64 h)):=by
 have hu:=F.u x hx
 have hnf:=F.nf
 rw [aCd]
 refine aG rfl (aA rfl (aA rfl (aG rfl (aA rfl (aA rfl ?_)))))
 refine aI (aHt (x:=x) (T:=T) (by omega)) (λr hr=>?_)
 subst hr
 refine bQ rfl (bQ rfl (bO (by omega) (aK (by omega) (cE (aD (λh1=>?_) (λh1=>aB ?_))))))
 ·refine cE (aB ?_)
  unfold yS fE
  rw [decide_eq_true h1];rfl
 ·unfold yS fE
  rw [decide_eq_false h1];rfl
theorem aHx {P : R→Prop} {pc : Nat} (hpc : pc<code.length) {left : Int} {b : Bool} {ts : List Int} (hts : ∀ t∈ts,0≤t∧t≤code.length) (hn : ts.length≤10) {s : Hs} (hs : s.1.length=code.length)
 (h : Ok P (eY (.lst (code.map aT.pv)) (.bool (if b then ts.foldl (nR left) s else s).2) (.lst (code.map aT.pv)) (.int .i64 code.length) (.int .i64 ((pc : Int)+1)) T (.lst (fs.map eD.pv)) (aR (if b then ts.foldl (nR left) s else s).1))) :
 Ok P (dQ (.lst (code.map aT.pv)) (.bool s.2) (.int .i64 left) (.bool b) (.lst (code.map aT.pv)) (.int .i64 code.length) (.int .i64 pc) (aR ts) (.int .i64 ts.length) (.int .i64 0) T (.lst (fs.map eD.pv)) (aR s.1)):=by
 have hn2:=F.n2
 refine qN (n:=ts.length) (F:=λi (q : Hs)=>dQ (.lst (code.map aT.pv)) (.bool q.2) (.int .i64 left) (.bool b) (.lst (code.map aT.pv)) (.int .i64 code.length) (.int .i64 pc) (aR ts) (.int .i64 ts.length) (.int .i64 i) T (.lst (fs.map eD.pv)) (aR q.1))
  (λi q=>q.1.length=code.length∧(if b then (ts.drop i).foldl (nR left) q else q)=(if b then ts.foldl (nR left) s else s)) ?_ ?_ 0 s (by omega) ⟨hs,by rw [List.drop_zero]⟩
 ·rintro q ⟨hq,he⟩
  rw [List.drop_length] at he
  have he : q=(if b then ts.foldl (nR left) s else s):=by rw [← he];split<;>rfl
  subst he
  rw [oJ]
  exact aM (aD (λh=>by omega) (λ_=>aK (by omega) h))
 ·rintro i q hi ⟨hq,he⟩ ih
  have ht:=hts ts[i] (List.getElem_mem _)
  rw [List.drop_eq_getElem_cons hi,List.foldl_cons] at he
  rw [oJ]
  refine aM (aD (λ_=>?_) (λh=>by omega))
  refine aY hi (aS (λhb=>?_) (λhb=>?_))
  ·subst hb
   simp only [if_true] at he ih
   refine aH (aM (aD (λh1=>?_) (λh1=>?_)))
   ·refine dR (by omega) (by omega) (pV (by omega) (by omega) (λv hv=>?_))
    refine aM (aD (λh2=>?_) (λh2=>?_))
    ·rw [wX]
     refine dR (by omega) (by omega) ?_
     obtain ⟨t,et⟩:=Int.eq_ofNat_of_zero_le ht.1
     rw [et]
     refine pU (by omega) (aK (by omega) ?_)
     refine ih (q.1.set t left,true) ⟨by simpa using hq,?_⟩
     rw [aGH (by omega) (by rw [hv];exact h2),et] at he
     exact he
    ·refine aK (by omega) (ih q ⟨hq,?_⟩)
     rw [aEf (by rw [hv];simp only [Option.getD_some];omega)] at he
     exact he
   ·refine aK (by omega) (ih q ⟨hq,?_⟩)
    rw [aEf (by omega)] at he
    exact he
  ·subst hb
   exact aK (by omega) (ih q ⟨hq,he⟩)
theorem aI2 {x : aT} (hx : x∈code) {h : Int} (hh : h<0) : yS fs x h=false:=by
 have hu:=F.u x hx
 simp only [yS]
 rw [decide_eq_false (by omega)];rfl
theorem aCn {P : R→Prop} {s : List Int} (hs : tB code.length s)
 (h : Ok P (iG (.lst (code.map aT.pv)) (.bool (mQ fs code s).2) T (.lst (fs.map eD.pv)) (aR (mQ fs code s).1))) :
 Ok P (eY (.lst (code.map aT.pv)) (.bool false) (.lst (code.map aT.pv)) (.int .i64 code.length) (.int .i64 0) T (.lst (fs.map eD.pv)) (aR s)):=by
 have hn2:=F.n2
 have hnf:=F.nf
 refine qN (n:=code.length) (F:=λi (q : Hs)=>eY (.lst (code.map aT.pv)) (.bool q.2) (.lst (code.map aT.pv)) (.int .i64 code.length) (.int .i64 i) T (.lst (fs.map eD.pv)) (aR q.1))
  (λi q=>tB code.length q.1∧(List.range' i (code.length - i)).foldl (tA fs code) q=mQ fs code s) ?_ ?_ 0 (s,false) (by omega) ⟨hs,rfl⟩
 ·rintro q ⟨hq,he⟩
  rw [Nat.sub_self] at he
  have he : q=mQ fs code s:=he
  subst he
  rw [pK]
  exact aM (aD (λh=>by omega) (λ_=>h))
 ·rintro i q hi ⟨hq,he⟩ ih
  have e1 : code.length - i=(code.length - (i+1))+1:=by omega
  rw [e1,List.range'_succ,List.foldl_cons] at he
  have hx : code[i]? = some code[i]:=List.getElem?_eq_getElem hi
  have hm : code[i]∈code:=List.getElem_mem _
  have hil : i<q.1.length:=by rw [hq.1];exact hi
  have hv:=hq.at i
  have e2 : q.1[i]=q.1[i]?.getD 0:=aBg hil
  have hone:=hq.one F i
  have hgo:=ih (tA fs code q i) ⟨hone,he⟩
  have eo : tA fs code q i=if yS fs code[i] (q.1[i]?.getD 0) then (eA code[i] i).foldl (nR (fE fs code[i] (q.1[i]?.getD 0))) q else q:=by
   conv=>lhs;unfold tA
   rw [hx]
  generalize hw : q.1[i]?.getD 0=w at *
  rw [pK]
  refine aM (aD (λ_=>?_) (λh=>by omega))
  refine aO hi (λ_=>rfl) (aG rfl (aA rfl (aA rfl ?_)))
  refine dR (by omega) (by omega) (aY hil ?_)
  rw [e2]
  refine aM (aD (λh1=>?_) (λh1=>?_))
  ·rw [aI2 F hm h1,if_neg (by simp)] at eo
   rw [eo] at hgo
   exact aK (by omega) hgo
  refine dR (by omega) (by omega) (aY hil ?_)
  rw [e2]
  refine aI (aDs (T:=T) F hm hv) (λr hr=>?_)
  subst hr
  refine bQ rfl (bQ rfl (aI (aDn (x:=code[i]) (by omega)) (λr hr=>?_)))
  subst hr
  refine aU ?_
  refine aHx F hi (uG F hm hi) (by unfold eA;repeat' split<;>simp) hq.1 ?_
  rw [← eo]
  exact hgo
theorem aHy : ∀ (j : Nat) (s : List Int),nn s≤j→tB code.length s→Ok (λr=>r = [aR (yT fs code (j+1) s)]) (iG (.lst (code.map aT.pv)) (.bool true) T (.lst (fs.map eD.pv)) (aR s)):=by
 intro j
 induction j with
 | zero=>
   intro s hs hg
   rw [hU]
   refine eE (aH (aCn F hg ?_))
   rcases Dec.pass F s with h | ⟨h,h2⟩
   ·unfold yT
    rw [h,hU]
    exact bU (aB rfl)
   ·have h3 : nn (mQ fs code s).1<nn s:=h2
    omega
 | succ j ih=>
   intro s hs hg
   rw [hU]
   refine eE (aH (aCn F hg ?_))
   rcases Dec.pass F s with h | ⟨h,h2⟩
   ·unfold yT
    rw [h,hU]
    exact bU (aB rfl)
   ·rw [yT,h,if_pos rfl]
    exact ih _ (by have h3 : nn (mQ fs code s).1<nn s:=h2;omega) (hg.pass F)
theorem aHz (l : List Int) : PV.flatO (.own 1 8 false []) (aR l)=true:=by
 clear F
 show PV.flatEs false [] (l.map (PV.int .i64))=true
 induction l with
 | nil=>simp [PV.flatEs]
 | cons x r ih=>simp [PV.flatEs,PV.flatE,PV.flat,ih]
theorem iP {f : Nat} (hf : f<fs.length) (hc : fs[f].code=code) : Ok (λr=>r = [aR (eL fs code)]) (iF (.agg [T,.lst (fs.map eD.pv)]) (.int .i64 f)):=by
 have hn2:=F.n2
 have hn1:=F.n1
 rw [aCa]
 refine aG rfl (aA rfl (aA rfl (aO hf (λ_=>rfl) (aA (y:=.lst (code.map aT.pv)) (by rw [← hc];rfl) (aH ?_)))))
 refine aI (aHw hn1 (by omega)) (λr hr=>?_)
 subst hr
 refine dH (aHz F _) (dR (by omega) (by rw [List.length_replicate];omega) (pU (i:=0) (by rw [List.length_replicate];omega) ?_))
 exact aHy F code.length _ (by have:=(tB.start (n:=code.length)).1;unfold nn;exact Nat.le_trans List.countP_le_length (by omega)) tB.start
end
theorem fF.okB_fit {m : fF} (h : m.okB=true) : 1≤m.funcs.length∧m.funcs.length≤12∧∀ f∈m.funcs,Fit m.funcs f.code∧0≤f.p∧f.p≤6∧f.p≤f.lc∧f.lc≤12:=by
 simp only [fF.okB,Bool.and_eq_true,bG,decide_eq_true_eq,List.all_eq_true,oQ] at h
 obtain ⟨⟨h1,h2⟩,_,_,h3⟩:=h
 have hp : ∀ i : Int,0≤oR m.funcs i∧oR m.funcs i≤6:=by
  intro i
  unfold oR
  cases hx : m.funcs[i.toNat]? with
  | none=>simp
  | some f=>exact (h3 f (List.mem_of_getElem? hx)).1
 refine ⟨by omega,by omega,λf hf=>?_⟩
 obtain ⟨p1,p2,p3,p4⟩:=h3 f hf
 refine ⟨⟨by omega,by omega,by omega,λx hx=>?_,λx hx hj=>?_⟩,p1.1,p1.2,p2.1,p2.2⟩
 ·have:=hp x.a
  unfold cV
  repeat' split
  all_goals (simp only;omega)
 ·have:=p4 x hx
  unfold bM at this
  rcases hj with hj | hj | hj<;>simp [hj,iS] at this<;>omega
end
noncomputable section
open Go Go.IntWalk
attribute [local irreducible] bd PV.ite PV.guardFlat PV.guardOwn PV.whole PV.one PV.cell PV.sub PV.at_ PV.len PV.slen PV.chr PV.beq PV.peq PV.ceq PV.bin PV.neg PV.not PV.conv PV.cut PV.scut PV.cat PV.setAt PV.setCell PV.ncopy PV.copyIn PV.zeros PV.toStr PV.toBytes PV.deref PV.isPtr PV.comp PV.inb PV.off PV.imin PV.imax PV.sel PV.apply PV.isLst PV.isInt PV.ix PV.nilT
structure oZ where
 f : Int
 pc : Int
 loc : List lI
 stk : List lI
def bK (l : List lI) : PV:=.lst (l.map lI.pv)
def oZ.pv (f : oZ) : PV:=.agg [.int .i64 f.f,.int .i64 f.pc,bK f.loc,bK f.stk]
def aIo (r : List lI) : PV:=.agg [bK r]
section
variable {P : R → Prop} {k : PV → Option R}
end
section
variable {P : R → Prop} {k : R → Option R} {a0 a1 a2 a3 a4 a5 a6 a7 a8 a9 H O : PV} {A : List PV}
end
inductive aHA where
 | trap (c : Int)
 | next (fr : oZ) (hp : List (List lI)) (made : Int) (out : List ByteArray)
 | call (fr : oZ) (g : oZ)
 | ret (v : lI)
def aIp (v : lI) (hp : List (List lI)) : ByteArray:=
 if v.k=0 then bs [110,105,108] else if v.k=1 then aEd v.n else if v.k=2 then (if v.n=1 then bs [116,114,117,101] else bs [102,97,108,115,101]) else if v.k=3 then v.s
 else if v.k=5 then bs [102,117,110]++aEd v.n
 else if v.k=4 then bs [123]++aEd ((hp[v.n.toNat]?.getD []).length)++bs [125] else bs []
def aF4 (fs : List eD) (i : Int) : Int:=(fs[i.toNat]?.map eD.lc).getD 0
def aEh (fs : List eD) (g : Int) (args : List lI) : oZ:=⟨g,0,args++List.replicate ((aF4 fs g).toNat - args.length) mP,[]⟩
def doT (m : fF) (fr : oZ) (took : List lI) (depth : Nat) (hp : List (List lI)) (made : Int) (out : List ByteArray) (x : aT) : aHA:=
 let a:=took.headD mP
 let b:=took.tail.headD mP
 let go : List lI→aHA:=λl=>.next ⟨fr.f,fr.pc,fr.loc,fr.stk++l⟩ hp made out
 let rec_ : List lI:=hp[a.n.toNat]?.getD []
 if x.o=1 then go [aI0 x.a]
 else if x.o=2 then go [aCl (decide (x.a=1))]
 else if x.o=3 then go [aGF (m.texts[x.a.toNat]?.getD (bs []))]
 else if x.o=4 then go [mP]
 else if x.o=5 then go [aJL x.a]
 else if x.o=6 then go [fr.loc[x.a.toNat]?.getD mP]
 else if x.o=7 then .next ⟨fr.f,fr.pc,fr.loc.set x.a.toNat a,fr.stk⟩ hp made out
 else if x.o=8 then go [a,a]
 else if x.o=9 then go []
 else if x.o=10 then go [b,a]
 else if x.o≤15 then (if (opT x.o a b).2≠0 then .trap (opT x.o a b).2 else go [(opT x.o a b).1])
 else if x.o=16 then (if (aI1 a).2≠0 then .trap (aI1 a).2 else go [(aI1 a).1])
 else if x.o=17 then .next ⟨fr.f,x.a,fr.loc,fr.stk⟩ hp made out
 else if x.o≤19 then (if a.k≠2 then .trap 1 else if (decide (a.n=1)==decide (x.o=18))=true then .next ⟨fr.f,x.a,fr.loc,fr.stk⟩ hp made out else go [])
 else if x.o=20 then (if made=120 then .trap 7 else .next ⟨fr.f,fr.pc,fr.loc,fr.stk++[aJK hp.length]⟩ (hp++[List.replicate x.a.toNat mP]) (made+1) out)
 else if x.o=21 then (if a.k≠4 then .trap 1 else if rec_.length≤x.a then .trap 4 else go [rec_[x.a.toNat]?.getD mP])
 else if x.o=22 then (if a.k≠4 then .trap 1 else if rec_.length≤x.a then .trap 4 else .next fr (hp.set a.n.toNat (rec_.set x.a.toNat b)) made out)
 else if x.o=23 then (if a.k≠5 then .trap 1 else if oR m.funcs a.n≠x.a then .trap 5 else if depth=24 then .trap 6 else .call fr (aEh m.funcs a.n took.tail))
 else if x.o=24 then (if depth=24 then .trap 6 else .call fr (aEh m.funcs x.a took))
 else if x.o=25 then .ret a
 else if out.length=200 then .trap 8 else .next fr hp made (out++[aIp a hp])
section
variable {a2 a3 a4 a5 a6 a7 a8 H O T : PV} {A : List PV} {fs : List eD}
end
def aDt (v : lI) : List oZ→List oZ
 | []=>[]
 | [f]=>[⟨f.f,f.pc,f.loc,f.stk++[v]⟩]
 | f::g::r=>f::aDt v (g::r)
theorem aCo (v : lI) : ∀ (l : List oZ) (f : oZ),aDt v (l++[f])=l++[⟨f.f,f.pc,f.loc,f.stk++[v]⟩]
 | [],_=>rfl
 | [a],f=>rfl
 | a::b::l,f=>by
   show a::aDt v (b::l++[f])=_
   rw [aCo v (b::l) f]
   rfl
def DoR (a0 a1 made a3 a4 a5 a6 a7 a8 H O : PV) (fs0 : List oZ) : aHA→R→Prop
 | .trap c,r=>c≠0∧gd r 9 = .int .i64 c
 | .next fr hp made' out,r=>r = [a0,a1,.int .i64 made',a3,a4,a5,a6,a7,a8,.int .i64 0,.lst (fs0.map oZ.pv++[fr.pv]),.lst (hp.map aIo),.lst (out.map PV.str)]
 | .call fr g,r=>r = [a0,a1,made,a3,a4,a5,a6,a7,a8,.int .i64 0,.lst (fs0.map oZ.pv++[fr.pv]++[g.pv]),H,O]
 | .ret v,r=>r=if fs0 = [] then [a0,a1,made,.int .i64 1,a4,.int .i64 v.k,.int .i64 v.n,.str v.s,a8,.int .i64 0,.lst [],H,O]
  else [a0,a1,made,a3,a4,a5,a6,a7,a8,.int .i64 0,.lst ((aDt v fs0).map oZ.pv),H,O]
structure aKg (m : fF) (fs0 : List oZ) (fr : oZ) (took : List lI) (hp : List (List lI)) (made : Int) (out : List ByteArray) : Prop where
 nf : m.funcs.length≤12
 nt : m.texts.length≤20
 par : ∀ f∈m.funcs,0≤f.p∧f.p≤6∧f.p≤f.lc∧f.lc≤12
 n0 : fs0.length≤23
 stks : ∀ f∈fs0,f.stk.length≤16
 nl : fr.loc.length≤12
 ns : fr.stk.length+took.length≤16
 recs : ∀ r∈hp,r.length≤6
 nh : hp.length≤120
 nm : 0≤made∧made≤120
 no : out.length≤200
 bK : ∀ v∈took,eK m.funcs.length hp.length v=true
theorem aHB {nf recs : Int} {v : lI} (h : eK nf recs v=true) (hk : v.k=5) : 0≤v.n∧v.n<nf:=by
 unfold eK at h
 by_cases hc : v.k≠3∧aDo v.s (bs [])=false
 ·rw [if_pos hc] at h;cases h
 ·rw [if_neg hc,if_neg (by omega),if_neg (by omega),if_neg (by omega),if_neg (by omega),if_neg (by omega),if_pos hk] at h
  have:=bG.1 h
  omega
theorem aDu {nt nf lc nc : Int} {x : aT} (h : bM nt nf lc nc x.o x.a=true) : (1≤x.o∧x.o≤26)∧(x.o=3→0≤x.a∧x.a<nt)∧((x.o=6∨x.o=7)→0≤x.a∧x.a<lc)∧(x.o=20→0≤x.a∧x.a≤6)∧
 ((x.o=21∨x.o=22)→0≤x.a∧x.a≤5)∧(x.o=23→0≤x.a∧x.a≤6)∧((x.o=5∨x.o=24)→0≤x.a∧x.a<nf)∧((x.o=17∨x.o=18∨x.o=19)→0≤x.a∧x.a<nc)∧(x.o=1→fT x.a=true):=by
 unfold bM at h
 by_cases h1 : x.o=1
 ·rw [if_pos h1] at h
  have h:=bG.1 h
  exact ⟨by omega,λ_=>by omega,λ_=>by omega,λ_=>by omega,λ_=>by omega,λ_=>by omega,λ_=>by omega,λ_=>by omega,λ_=>by first | (unfold fT;exact bG.2 (by omega)) | (exfalso;omega)⟩
 rw [if_neg h1] at h
 by_cases h2 : x.o=2
 ·rw [if_pos h2] at h
  have h:=bG.1 h
  exact ⟨by omega,λ_=>by omega,λ_=>by omega,λ_=>by omega,λ_=>by omega,λ_=>by omega,λ_=>by omega,λ_=>by omega,λ_=>by first | (unfold fT;exact bG.2 (by omega)) | (exfalso;omega)⟩
 rw [if_neg h2] at h
 by_cases h3 : x.o=3
 ·rw [if_pos h3] at h
  have h:=bG.1 h
  exact ⟨by omega,λ_=>by omega,λ_=>by omega,λ_=>by omega,λ_=>by omega,λ_=>by omega,λ_=>by omega,λ_=>by omega,λ_=>by first | (unfold fT;exact bG.2 (by omega)) | (exfalso;omega)⟩
 rw [if_neg h3] at h
 by_cases h5 : x.o=5
 ·rw [if_pos h5] at h
  have h:=bG.1 h
  exact ⟨by omega,λ_=>by omega,λ_=>by omega,λ_=>by omega,λ_=>by omega,λ_=>by omega,λ_=>by omega,λ_=>by omega,λ_=>by first | (unfold fT;exact bG.2 (by omega)) | (exfalso;omega)⟩
 rw [if_neg h5] at h
 by_cases h24 : x.o=24
 ·rw [if_pos h24] at h
  have h:=bG.1 h
  exact ⟨by omega,λ_=>by omega,λ_=>by omega,λ_=>by omega,λ_=>by omega,λ_=>by omega,λ_=>by omega,λ_=>by omega,λ_=>by first | (unfold fT;exact bG.2 (by omega)) | (exfalso;omega)⟩
 rw [if_neg h24] at h
 by_cases h6 : x.o=6
 ·rw [if_pos h6] at h
  have h:=bG.1 h
  exact ⟨by omega,λ_=>by omega,λ_=>by omega,λ_=>by omega,λ_=>by omega,λ_=>by omega,λ_=>by omega,λ_=>by omega,λ_=>by first | (unfold fT;exact bG.2 (by omega)) | (exfalso;omega)⟩
 rw [if_neg h6] at h
 by_cases h7 : x.o=7
 ·rw [if_pos h7] at h
  have h:=bG.1 h
  exact ⟨by omega,λ_=>by omega,λ_=>by omega,λ_=>by omega,λ_=>by omega,λ_=>by omega,λ_=>by omega,λ_=>by omega,λ_=>by first | (unfold fT;exact bG.2 (by omega)) | (exfalso;omega)⟩
 rw [if_neg h7] at h
 by_cases h17 : x.o=17
 ·rw [if_pos h17] at h
  have h:=bG.1 h
  exact ⟨by omega,λ_=>by omega,λ_=>by omega,λ_=>by omega,λ_=>by omega,λ_=>by omega,λ_=>by omega,λ_=>by omega,λ_=>by first | (unfold fT;exact bG.2 (by omega)) | (exfalso;omega)⟩
 rw [if_neg h17] at h
 by_cases h18 : x.o=18
 ·rw [if_pos h18] at h
  have h:=bG.1 h
  exact ⟨by omega,λ_=>by omega,λ_=>by omega,λ_=>by omega,λ_=>by omega,λ_=>by omega,λ_=>by omega,λ_=>by omega,λ_=>by first | (unfold fT;exact bG.2 (by omega)) | (exfalso;omega)⟩
 rw [if_neg h18] at h
 by_cases h19 : x.o=19
 ·rw [if_pos h19] at h
  have h:=bG.1 h
  exact ⟨by omega,λ_=>by omega,λ_=>by omega,λ_=>by omega,λ_=>by omega,λ_=>by omega,λ_=>by omega,λ_=>by omega,λ_=>by first | (unfold fT;exact bG.2 (by omega)) | (exfalso;omega)⟩
 rw [if_neg h19] at h
 by_cases h20 : x.o=20
 ·rw [if_pos h20] at h
  have h:=bG.1 h
  exact ⟨by omega,λ_=>by omega,λ_=>by omega,λ_=>by omega,λ_=>by omega,λ_=>by omega,λ_=>by omega,λ_=>by omega,λ_=>by first | (unfold fT;exact bG.2 (by omega)) | (exfalso;omega)⟩
 rw [if_neg h20] at h
 by_cases h21 : x.o=21
 ·rw [if_pos h21] at h
  have h:=bG.1 h
  exact ⟨by omega,λ_=>by omega,λ_=>by omega,λ_=>by omega,λ_=>by omega,λ_=>by omega,λ_=>by omega,λ_=>by omega,λ_=>by first | (unfold fT;exact bG.2 (by omega)) | (exfalso;omega)⟩
 rw [if_neg h21] at h
 by_cases h22 : x.o=22
 ·rw [if_pos h22] at h
  have h:=bG.1 h
  exact ⟨by omega,λ_=>by omega,λ_=>by omega,λ_=>by omega,λ_=>by omega,λ_=>by omega,λ_=>by omega,λ_=>by omega,λ_=>by first | (unfold fT;exact bG.2 (by omega)) | (exfalso;omega)⟩
 rw [if_neg h22] at h
 by_cases h23 : x.o=23
 ·rw [if_pos h23] at h
  have h:=bG.1 h
  exact ⟨by omega,λ_=>by omega,λ_=>by omega,λ_=>by omega,λ_=>by omega,λ_=>by omega,λ_=>by omega,λ_=>by omega,λ_=>by first | (unfold fT;exact bG.2 (by omega)) | (exfalso;omega)⟩
 rw [if_neg h23] at h
 simp only [Bool.and_eq_true,decide_eq_true_eq,bG] at h
 exact ⟨by omega,λ_=>by omega,λ_=>by omega,λ_=>by omega,λ_=>by omega,λ_=>by omega,λ_=>by omega,λ_=>by omega,λ_=>by first | (unfold fT;exact bG.2 (by omega)) | (exfalso;omega)⟩
section
variable {P : R → Prop} {k : PV → Option R} {hp : List (List lI)}
end
structure VmT where
 fr : List oZ
 hp : List (List lI)
 made : Int
 out : List ByteArray
 st : Int
 tr : Int
 val : lI
 steps : Int
def VmT.pv (v : VmT) : PV:=.agg [.lst (v.fr.map oZ.pv),.lst (v.hp.map aIo),.int .i64 v.made,.lst (v.out.map PV.str),.int .i64 v.st,.int .i64 v.tr,.int .i64 v.val.k,.int .i64 v.val.n,.str v.val.s,.int .i64 v.steps]
def aKG (v : VmT) : R:=[.int .i64 v.made,.int .i64 v.st,.int .i64 v.tr,.int .i64 v.val.k,.int .i64 v.val.n,.str v.val.s,.int .i64 v.steps,.lst (v.fr.map oZ.pv),.lst (v.hp.map aIo),.lst (v.out.map PV.str)]
structure Sz (v : VmT) : Prop where
 f : v.fr.length≤1000
 h : v.hp.length≤1000
 o : v.out.length≤1000
 fl : ∀ f∈v.fr,f.loc.length≤1000∧f.stk.length≤1000
 hl : ∀ r∈v.hp,r.length≤1000
def lU (fs : List eD) (i : Int) : List aT:=(fs[i.toNat]?.map eD.code).getD []
def lC (fs : List eD) (f : oZ) : aT:=(lU fs f.f)[f.pc.toNat]?.getD ⟨0,0⟩
def aI3 (_m : fF) (v : VmT) (fs0 : List oZ) : aHA→VmT
 | .trap c=>⟨v.fr,v.hp,v.made,v.out,2,c,v.val,v.steps+1⟩
 | .next fr hp made out=>⟨fs0++[fr],hp,made,out,v.st,v.tr,v.val,v.steps+1⟩
 | .call fr g=>⟨fs0++[fr,g],v.hp,v.made,v.out,v.st,v.tr,v.val,v.steps+1⟩
 | .ret a=>if fs0 = [] then ⟨[],v.hp,v.made,v.out,1,v.tr,a,v.steps+1⟩ else ⟨aDt a fs0,v.hp,v.made,v.out,v.st,v.tr,v.val,v.steps+1⟩
def aGI (m : fF) (v : VmT) (fs0 : List oZ) (f : oZ) : aHA:=
 let x:=lC m.funcs f
 let b:=f.stk.length - (cV m.funcs x).1.toNat
 doT m ⟨f.f,f.pc+1,f.loc,f.stk.take b⟩ (f.stk.drop b) (fs0.length+1) v.hp v.made v.out x
def aCp (m : fF) (v : VmT) : VmT:=
 if v.st≠0 then v else if v.steps=50000 then v
 else match v.fr.getLast? with
 | none=>v
 | some f=>aI3 m v v.fr.dropLast (aGI m v v.fr.dropLast f)
theorem aHC {m : fF} {v : VmT} {fs0 : List oZ} {f : oZ} (h1 : v.st=0) (h2 : v.steps≠50000) (h3 : v.fr=fs0++[f]) : aCp m v=aI3 m v fs0 (aGI m v fs0 f):=by
 unfold aCp
 rw [if_neg (by omega),if_neg h2,h3]
 simp
structure aKh (m : fF) (v : VmT) (fs0 : List oZ) (f : oZ) : Prop where
 fr : v.fr=fs0++[f]
 fi : 0≤f.f∧f.f<m.funcs.length
 pc : 0≤f.pc∧f.pc<(lU m.funcs f.f).length
 nc : (lU m.funcs f.f).length≤120
 ins : bM m.texts.length m.funcs.length f.loc.length (lU m.funcs f.f).length (lC m.funcs f).o (lC m.funcs f).a=true
 us : 0≤(cV m.funcs (lC m.funcs f)).1∧(cV m.funcs (lC m.funcs f)).1≤f.stk.length
 small : ∀ b,aKg m fs0 ⟨f.f,f.pc+1,f.loc,f.stk.take b⟩ (f.stk.drop b) v.hp v.made v.out
end
noncomputable section
open Go
attribute [local irreducible] bd PV.ite PV.guardFlat PV.guardOwn PV.whole PV.one PV.cell PV.sub PV.at_ PV.len PV.slen PV.chr PV.beq PV.peq PV.ceq PV.bin PV.neg PV.not PV.conv PV.cut PV.scut PV.cat PV.setAt PV.setCell PV.ncopy PV.copyIn PV.zeros PV.toStr PV.toBytes PV.deref PV.isPtr PV.comp PV.inb PV.off PV.imin PV.imax PV.sel PV.apply PV.isLst PV.isInt PV.ix PV.nilT
def xM (fs : List eD) (code : List aT) (d : List Int) (pc : Nat) : Option Int:=
 match code[pc]? with
 | none=>none
 | some x=>
   if d[pc]?.getD 0<0 then none
   else if yS fs x (d[pc]?.getD 0)=false then some 2
   else if (eA x pc).any (λt=>decide ((code.length : Int)≤t))=true then some 3
   else if (eA x pc).any (λt=>!decide (d[t.toNat]?.getD 0=fE fs x (d[pc]?.getD 0)))=true then some 4
   else none
def wA (fs : List eD) (code : List aT) (f pc : Nat) : Option (Int × Nat × Nat):=(xM fs code (eL fs code) pc).map λc=>(c,f,pc)
def aDv (fs : List eD) (f : Nat) : Option (Int × Nat × Nat):=match fs[f]? with
 | some x=>(List.range' 0 x.code.length).findSome? (wA fs x.code f)
 | none=>none
def bad (fs : List eD) : Option (Int × Nat × Nat):=(List.range' 0 fs.length).findSome? (aDv fs)
def aF5 : Option (Int × Nat × Nat)→PV
 | some (c,f,pc)=>.agg [.int .i64 c,.int .i64 f,.int .i64 pc]
 | none=>.agg [.int .i64 0,.int .i64 0,.int .i64 0]
def fF.verify (m : fF) : PV:=if m.okB then aF5 (bad m.funcs) else .agg [.int .i64 1,.int .i64 0,.int .i64 0]
theorem aBh {n : Nat} {F : Nat→Option R} {P : R→Prop} (I : Nat→Prop) (he : I n→Ok P (F n)) (hs : ∀ i,i<n→I i→(I (i+1)→Ok P (F (i+1)))→Ok P (F i)) (h0 : I 0) : Ok P (F 0):=
 qN (σ:=Unit) (F:=λi _=>F i) (λi _=>I i) (λ_ h=>he h) (λi _ hi hI ih=>hs i hi hI (λh=>ih () h)) 0 () (by omega) h0
theorem yW {α : Type} {xs : List α} {i : Nat} (hi : i<xs.length) (p : α→Bool) : (xs.drop i).any p=(p xs[i]||(xs.drop (i+1)).any p):=by
 rw [List.drop_eq_getElem_cons hi,List.any_cons]
section
variable {fs : List eD} {code : List aT} {T x3 x4 x5 : PV} (F : Fit fs code) {f : Nat} (hf : f < fs.length)
include F hf
theorem aF6 {P : R→Prop} {pc : Nat} (hpc : pc<code.length) {d : List Int} (hd : d.length=code.length) {left : Int} {ts : List Int} (hts : ∀ t∈ts,0≤t∧t<code.length) (hn : ts.length≤10)
 (h4 : ts.any (λt=>!decide (d[t.toNat]?.getD 0=left))=true→P [.agg [.int .i64 4,.int .i64 f,.int .i64 pc]])
 (hgo : ts.any (λt=>!decide (d[t.toNat]?.getD 0=left))=false→Ok P (fY (.int .i64 f) (.lst (code.map aT.pv)) (aR d) (.int .i64 ((pc : Int)+1)) T (.lst (fs.map eD.pv)) x3 x4 x5)) :
 Ok P (fH (.int .i64 f) (.lst (code.map aT.pv)) (aR d) (.int .i64 pc) (.int .i64 left) (aR ts) (.int .i64 0) T (.lst (fs.map eD.pv)) x3 x4 x5):=by
 have hn2:=F.n2
 refine aBh (n:=ts.length) (F:=λi=>fH (.int .i64 f) (.lst (code.map aT.pv)) (aR d) (.int .i64 pc) (.int .i64 left) (aR ts) (.int .i64 i) T (.lst (fs.map eD.pv)) x3 x4 x5)
  (λi=>(ts.drop i).any (λt=>!decide (d[t.toNat]?.getD 0=left))=ts.any (λt=>!decide (d[t.toNat]?.getD 0=left))) ?_ ?_ (by rw [List.drop_zero])
 ·intro hI
  rw [List.drop_length] at hI
  rw [oL]
  exact aU (aM (aD (λh=>by omega) (λ_=>aK (by omega) (hgo hI.symm))))
 ·intro i hi hI ih
  rw [yW hi] at hI
  have ht:=hts ts[i] (List.getElem_mem _)
  rw [oL]
  refine aU (aM (aD (λ_=>?_) (λh=>by omega)))
  refine aY hi (pV (by omega) (by omega) (λv hv=>?_))
  have hv' : d[ts[i].toNat]?.getD 0=v:=by rw [hv];rfl
  rw [hv'] at hI
  refine dB (bA (λh=>?_) (λh=>?_))
  ·rw [decide_eq_false h] at hI
   exact bI rfl (bI rfl (aB (h4 hI.symm)))
  ·rw [decide_eq_true h] at hI
   exact aK (by omega) (ih hI)
theorem aHD {P : R→Prop} {pc : Nat} (hpc : pc<code.length) {d : List Int} (hd : d.length=code.length) {left : Int} {ts : List Int} (hts : ∀ t∈ts,0≤t∧t≤code.length) (hn : ts.length≤10)
 (h3 : ts.any (λt=>decide ((code.length : Int)≤t))=true→P [.agg [.int .i64 3,.int .i64 f,.int .i64 pc]])
 (hgo : ts.any (λt=>decide ((code.length : Int)≤t))=false→Ok P (fH (.int .i64 f) (.lst (code.map aT.pv)) (aR d) (.int .i64 pc) (.int .i64 left) (aR ts) (.int .i64 0) T (.lst (fs.map eD.pv)) x3 x4 x5)) :
 Ok P (gP (.int .i64 f) (.lst (code.map aT.pv)) (aR d) (.int .i64 pc) (.int .i64 left) (aR ts) (.int .i64 0) T (.lst (fs.map eD.pv)) x3 x4 x5):=by
 have hn2:=F.n2
 refine aBh (n:=ts.length) (F:=λi=>gP (.int .i64 f) (.lst (code.map aT.pv)) (aR d) (.int .i64 pc) (.int .i64 left) (aR ts) (.int .i64 i) T (.lst (fs.map eD.pv)) x3 x4 x5)
  (λi=>(ts.drop i).any (λt=>decide ((code.length : Int)≤t))=ts.any (λt=>decide ((code.length : Int)≤t))) ?_ ?_ (by rw [List.drop_zero])
 ·intro hI
  rw [List.drop_length] at hI
  rw [oK]
  exact aU (aM (aD (λh=>by omega) (λ_=>hgo hI.symm)))
 ·intro i hi hI ih
  rw [yW hi] at hI
  rw [oK]
  refine aU (aM (aD (λ_=>?_) (λh=>by omega)))
  refine aY hi (aH (dA (aD (λh=>?_) (λh=>?_))))
  ·rw [decide_eq_true h] at hI
   exact bI rfl (bI rfl (aB (h3 hI.symm)))
  ·rw [decide_eq_false h] at hI
   exact aK (by omega) (ih hI)
theorem aGJ {ts : List Int} {n : Int} (h : ts.any (λt=>decide (n≤t))=false) : ∀ t∈ts,t<n:=by
 clear F hf
 intro t ht
 rw [List.any_eq_false] at h
 have:=h t ht
 simp at this
 omega
theorem aF7 {rest : Option (Int × Nat × Nat)} (hnext : Ok (λr=>r = [aF5 rest]) (iJ (.int .i64 ((f : Int)+1)) T (.lst (fs.map eD.pv)) x3 x4 x5)) : ∀ pc,pc≤code.length→
 Ok (λr=>r = [aF5 (((List.range' pc (code.length - pc)).findSome? (wA fs code f)).or rest)]) (fY (.int .i64 f) (.lst (code.map aT.pv)) (aR (eL fs code)) (.int .i64 pc) T (.lst (fs.map eD.pv)) x3 x4 x5):=by
 have hn2:=F.n2
 have hnf:=F.nf
 have hg:=lT F
 generalize hd : eL fs code=d at hg
 refine mG ?_ ?_
 ·rw [pO,yR]
  exact aH (aM (aD (λh=>by omega) (λ_=>aK (by omega) hnext)))
 ·intro pc hpc ih
  have hx : code[pc]? = some code[pc]:=List.getElem?_eq_getElem hpc
  have hm : code[pc]∈code:=List.getElem_mem _
  have hu:=F.u code[pc] hm
  have hil : pc<d.length:=by rw [hg.1];exact hpc
  have hv:=hg.at pc
  have e2 : d[pc]=d[pc]?.getD 0:=aBg hil
  rw [uV hpc]
  have eb : wA fs code f pc=(xM fs code d pc).map λc=>(c,f,pc):=by unfold wA;rw [hd]
  rw [eb]
  have ec : xM fs code d pc=if d[pc]?.getD 0<0 then none
   else if yS fs code[pc] (d[pc]?.getD 0)=false then some 2
   else if (eA code[pc] pc).any (λt=>decide ((code.length : Int)≤t))=true then some 3
   else if (eA code[pc] pc).any (λt=>!decide (d[t.toNat]?.getD 0=fE fs code[pc] (d[pc]?.getD 0)))=true then some 4
   else none:=by
   conv=>lhs;unfold xM
   rw [hx]
  generalize hw : d[pc]?.getD 0=w at *
  generalize xM fs code d pc=ch at *
  rw [pO]
  refine aH (aM (aD (λ_=>?_) (λh=>by omega)))
  refine aY hil ?_
  rw [e2]
  refine aM (aD (λh1=>?_) (λh1=>?_))
  ·rw [if_pos h1] at ec
   subst ec
   exact aK (by omega) ih
  rw [if_neg h1] at ec
  refine aO hpc (λ_=>rfl) (aI (aDl (T:=T) (by omega)) (λr hr=>?_))
  subst hr
  refine bQ rfl (bQ rfl (aY hil ?_))
  rw [e2]
  refine bO (by omega) (aK (by omega) (aY hil ?_))
  rw [e2]
  refine aM (aD (λh2=>?_) (λh2=>?_))
  ·have hc : yS fs code[pc] w=false:=by simp only [yS];rw [decide_eq_false (by omega)];rfl
   rw [if_pos hc] at ec
   subst ec
   exact bI rfl (bI rfl (aB rfl))
  refine cG (aD (λh3=>?_) (λh3=>?_))
  ·have hc : yS fs code[pc] w=false:=by simp only [yS];rw [decide_eq_false (p:=fE fs code[pc] w≤16) (by unfold fE;omega),Bool.and_false]
   rw [if_pos hc] at ec
   subst ec
   exact bI rfl (bI rfl (aB rfl))
  have hc : yS fs code[pc] w=true:=by simp only [yS];rw [decide_eq_true (by omega),decide_eq_true (p:=fE fs code[pc] w≤16) (by unfold fE;omega)];rfl
  rw [hc,if_neg (by simp)] at ec
  refine aO hpc (λ_=>rfl) (aI (aDm (by omega)) (λr hr=>?_))
  subst hr
  have hnx:=uG F hm hpc
  have hl10 : (eA code[pc] pc).length≤10:=by unfold eA;repeat' split<;>simp
  refine aHD F hf hpc hg.1 (left:=fE fs code[pc] w) hnx hl10 (λh=>?_) (λh=>?_)
  ·rw [if_pos h] at ec
   subst ec
   rfl
  rw [if_neg (by rw [h];simp)] at ec
  refine aF6 F hf hpc hg.1 (left:=fE fs code[pc] w) (λt ht=>⟨(hnx t ht).1,aGJ F hf h t ht⟩) hl10 (λh=>?_) (λh=>?_)
  ·rw [if_pos h] at ec
   subst ec
   rfl
  ·rw [if_neg (by rw [h];simp)] at ec
   subst ec
   exact ih
end
theorem aCq {fs : List eD} {f : Nat} (hf : f<fs.length) : aDv fs f=(List.range' 0 fs[f].code.length).findSome? (wA fs fs[f].code f):=by
 unfold aDv
 rw [List.getElem?_eq_getElem hf]
theorem aFe {m : fF} (h : m.sized) : Ok (λr=>r = [m.verify]) (uC m.pv):=by
 rw [aCf]
 refine aG rfl (aA rfl (aA rfl (aI (aC1 h) (λr hr=>?_))))
 subst hr
 unfold fF.verify
 refine bB (aS (λhb=>aB ?_) (λhb=>?_))
 ·have : m.okB=false:=by simpa using hb
  rw [this];rfl
 have hb : m.okB=true:=by simpa using hb
 rw [hb,if_pos rfl]
 obtain ⟨h1,h2,h3⟩:=fF.okB_fit hb
 have key:=mG (n:=m.funcs.length) (P:=λf r=>r = [aF5 ((List.range' f (m.funcs.length - f)).findSome? (aDv m.funcs))])
  (F:=λf=>iJ (.int .i64 f) (.lst (m.texts.map PV.str)) (.lst (m.funcs.map eD.pv)) (.int .i64 0) (.int .i64 0) (.int .i64 0)) ?_ ?_ 0 (by omega)
 ·exact key
 ·rw [pN,yR]
  exact aH (aM (aD (λh=>by omega) (λ_=>aB rfl)))
 ·intro f hf ih
  have F:=(h3 m.funcs[f] (List.getElem_mem _)).1
  rw [pN,uV hf,aCq hf]
  refine aH (aM (aD (λ_=>?_) (λh=>by omega)))
  refine aO hf (λ_=>rfl) (aA rfl (aI (uH F hf rfl) (λr hr=>?_)))
  subst hr
  exact aF7 F hf ih 0 (by omega)
section
variable {P : R → Prop} {k : R → Option R}
theorem aHE {xs : List Int} (hx : xs.length≤1000000000) (y : Int) : Ok (λr=>∃ n : Int,r = [.int .i64 n]∧(0≤n↔xs.any (λx=>decide (y=x))=true)) (iL (aR xs) (.int .i64 y)):=by
 rw [rB]
 refine aU ?_
 refine aBh (n:=xs.length) (F:=λi=>eH (aR xs) (.int .i64 y) (.int .i64 xs.length) (.int .i64 i)) (λi=>(xs.drop i).any (λx=>decide (y=x))=xs.any (λx=>decide (y=x))) ?_ ?_ (by rw [List.drop_zero])
 ·intro hI
  rw [List.drop_length] at hI
  rw [iN]
  refine aM (aD (λh=>by omega) (λ_=>aB ⟨-1,rfl,?_⟩))
  rw [← hI];simp
 ·intro i hi hI ih
  rw [yW hi] at hI
  rw [iN]
  refine aM (aD (λ_=>?_) (λh=>by omega))
  refine aY hi (aP (aD (λh=>aB ⟨i,rfl,?_⟩) (λh=>?_)))
  ·rw [← hI,decide_eq_true h];simp
  ·rw [decide_eq_false h] at hI
   exact aK (by omega) (ih hI)
theorem aHF {xs : List Int} (hx : xs.length≤1000000000) {y : Int} (h : Ok P (k [.bool (xs.any (λx=>decide (y=x)))])) : Ok P (bd (gA (aR xs) (.int .i64 y)) k):=by
 refine aI (Q:=λr=>r = [.bool (xs.any (λx=>decide (y=x)))]) ?_ (λr hr=>by rw [hr];exact h)
 rw [oM]
 refine aI (aHE hx y) ?_
 rintro r ⟨n,rfl,hn⟩
 refine dA (aB ?_)
 by_cases h0 : 0≤n
 ·rw [decide_eq_true h0,hn.1 h0]
 ·rw [decide_eq_false h0]
  cases h2 : xs.any (λx=>decide (y=x)) with
  | false=>rfl
  | true=>exact absurd (hn.2 h2) h0
theorem aHG {f : Nat} {caps : List PV} {xs : List Int} (hx : xs.length≤1000000000) (p : Int→Bool) (hp : ∀ x∈xs,Ok (λr=>r = [.bool (p x)]) (bC f ([.int .i64 x]++caps))) (h : Ok P (k [.bool (xs.any p)])) :
 Ok P (bd (eS (aR xs) (.fn f caps)) k):=by
 refine aI (Q:=λr=>r = [.bool (xs.any p)]) ?_ (λr hr=>by rw [hr];exact h)
 rw [lS]
 refine aI (Q:=λr=>∃ n : Int,r = [.int .i64 n]∧(0≤n↔xs.any p=true)) ?_ ?_
 ·rw [nO]
  refine aU ?_
  refine aBh (n:=xs.length) (F:=λi=>dG (aR xs) (.fn f caps) (.int .i64 xs.length) (.int .i64 i)) (λi=>(xs.drop i).any p=xs.any p) ?_ ?_ (by rw [List.drop_zero])
  ·intro hI
   rw [List.drop_length] at hI
   rw [gE]
   refine aM (aD (λh=>by omega) (λ_=>aB ⟨-1,rfl,?_⟩))
   rw [← hI];simp
  ·intro i hi hI ih
   rw [yW hi] at hI
   rw [gE]
   refine aM (aD (λ_=>?_) (λh=>by omega))
   refine aY hi (aBk rfl (hp _ (List.getElem_mem _)) (λr hr=>?_))
   subst hr
   refine aS (λh=>aB ⟨i,rfl,?_⟩) (λh=>?_)
   ·rw [← hI,h];simp
   ·rw [h,Bool.false_or] at hI
    exact aK (by omega) (ih hI)
 ·rintro r ⟨n,rfl,hn⟩
  refine dA (aB ?_)
  by_cases h0 : 0≤n
  ·rw [decide_eq_true h0,hn.1 h0]
  ·rw [decide_eq_false h0]
   cases h2 : xs.any p with
   | false=>rfl
   | true=>exact absurd (hn.2 h2) h0
end
theorem aI4 {ts : List Int} {n : Int} (h : ∀ t∈ts,t≤n) : ts.any (λx=>decide (n=x))=ts.any (λt=>decide (n≤t)):=by
 induction ts with
 | nil=>rfl
 | cons t r ih=>
   rw [List.any_cons,List.any_cons,ih (λx hx=>h x (List.mem_cons_of_mem _ hx))]
   have:=h t List.mem_cons_self
   congr 1
   by_cases h1 : n=t
   ·rw [decide_eq_true h1,decide_eq_true (by omega)]
   ·rw [decide_eq_false h1,decide_eq_false (by omega)]
section
variable {fs : List eD} {code : List aT} {T x3 x4 x5 : PV} (F : Fit fs code) {f : Nat} (hf : f < fs.length)
include F hf
theorem aF8 {rest : Option (Int × Nat × Nat)} (hnext : Ok (λr=>r = [aF5 rest]) (iH (.int .i64 fs.length) (.int .i64 ((f : Int)+1)) T (.lst (fs.map eD.pv)) x3 x4 x5)) : ∀ pc,pc≤code.length→
 Ok (λr=>r = [aF5 (((List.range' pc (code.length - pc)).findSome? (wA fs code f)).or rest)])
  (iI (.int .i64 f) (.int .i64 fs.length) (.int .i64 f) (.lst (code.map aT.pv)) (.int .i64 code.length) (.int .i64 pc) T (.lst (fs.map eD.pv)) x3 x4 x5 (aR (eL fs code))):=by
 have hn2:=F.n2
 have hnf:=F.nf
 have hg:=lT F
 generalize hd : eL fs code=d at hg
 refine mG ?_ ?_
 ·rw [pM,yR]
  exact aM (aD (λh=>by omega) (λ_=>aK (by omega) hnext))
 ·intro pc hpc ih
  have hx : code[pc]? = some code[pc]:=List.getElem?_eq_getElem hpc
  have hm : code[pc]∈code:=List.getElem_mem _
  have hu:=F.u code[pc] hm
  have hil : pc<d.length:=by rw [hg.1];exact hpc
  have hv:=hg.at pc
  have e2 : d[pc]=d[pc]?.getD 0:=aBg hil
  rw [uV hpc]
  have eb : wA fs code f pc=(xM fs code d pc).map λc=>(c,f,pc):=by unfold wA;rw [hd]
  rw [eb]
  have ec : xM fs code d pc=if d[pc]?.getD 0<0 then none
   else if yS fs code[pc] (d[pc]?.getD 0)=false then some 2
   else if (eA code[pc] pc).any (λt=>decide ((code.length : Int)≤t))=true then some 3
   else if (eA code[pc] pc).any (λt=>!decide (d[t.toNat]?.getD 0=fE fs code[pc] (d[pc]?.getD 0)))=true then some 4
   else none:=by
   conv=>lhs;unfold xM
   rw [hx]
  generalize hw : d[pc]?.getD 0=w at *
  generalize xM fs code d pc=ch at *
  rw [pM]
  refine aM (aD (λ_=>?_) (λh=>by omega))
  refine aO hpc (λ_=>rfl) (aG rfl (aA rfl (aA rfl (aY hil ?_))))
  rw [e2]
  refine aM (aD (λh1=>?_) (λh1=>?_))
  ·rw [if_pos h1] at ec
   subst ec
   exact aK (by omega) ih
  rw [if_neg h1] at ec
  refine aY hil ?_
  rw [e2]
  refine aI (aDs (T:=T) F hm hv) (λr hr=>?_)
  subst hr
  refine bQ rfl (bQ rfl (bI rfl (bB (aS (λhc=>?_) (λhc=>?_)))))
  ·have hc : yS fs code[pc] w=false:=by simpa using hc
   rw [if_pos hc] at ec
   subst ec
   exact bI rfl (bI rfl (aB rfl))
  have hc : yS fs code[pc] w=true:=by simpa using hc
  rw [hc,if_neg (by simp)] at ec
  refine aI (aDn (x:=code[pc]) (by omega)) (λr hr=>?_)
  subst hr
  have hnx:=uG F hm hpc
  have hl10 : (eA code[pc] pc).length≤10:=by unfold eA;repeat' split<;>simp
  refine aU (aHF (by omega) ?_)
  rw [hg.1,aI4 (λt ht=>(hnx t ht).2)]
  refine aS (λh=>?_) (λh=>?_)
  ·rw [if_pos h] at ec
   subst ec
   exact bI rfl (bI rfl (aB rfl))
  rw [if_neg (by rw [h];simp)] at ec
  refine aHG (by omega) (λt=>!decide (d[t.toNat]?.getD 0=fE fs code[pc] w)) (λt ht=>?_) ?_
  ·have:=hnx t ht
   have:=aGJ F hf h t ht
   show Ok _ (vW _ _ _)
   rw [aAd]
   refine nX rfl (pV (by omega) (by rw [hg.1];omega) (λv hv=>nX rfl (dB (aB ?_))))
   rw [hv];rfl
  ·refine jY rfl (aS (λh=>?_) (λh=>?_))
   ·rw [if_pos h] at ec
    subst ec
    exact bI rfl (bI rfl (aB rfl))
   ·rw [if_neg (by rw [h];simp)] at ec
    subst ec
    exact aK (by omega) ih
end
theorem aFf {m : fF} (h : m.sized) : Ok (λr=>r = [m.verify]) (uB m.pv):=by
 rw [aCe]
 refine aG rfl (aA rfl (aA rfl (aI (vZ h) (λr hr=>?_))))
 subst hr
 unfold fF.verify
 refine bB (aS (λhb=>aB ?_) (λhb=>?_))
 ·have : m.okB=false:=by simpa using hb
  rw [this];rfl
 have hb : m.okB=true:=by simpa using hb
 rw [hb,if_pos rfl]
 obtain ⟨h1,h2,h3⟩:=fF.okB_fit hb
 refine aH ?_
 have key:=mG (n:=m.funcs.length) (P:=λf r=>r = [aF5 ((List.range' f (m.funcs.length - f)).findSome? (aDv m.funcs))])
  (F:=λf=>iH (.int .i64 m.funcs.length) (.int .i64 f) (.lst (m.texts.map PV.str)) (.lst (m.funcs.map eD.pv)) (.int .i64 0) (.int .i64 0) (.int .i64 0)) ?_ ?_ 0 (by omega)
 ·exact key
 ·rw [pL,yR]
  exact aM (aD (λh=>by omega) (λ_=>aB rfl))
 ·intro f hf ih
  have F:=(h3 m.funcs[f] (List.getElem_mem _)).1
  rw [pL,uV hf,aCq hf]
  refine aM (aD (λ_=>?_) (λh=>by omega))
  refine aI (iP F hf rfl) (λr hr=>?_)
  subst hr
  refine bI rfl (aO hf (λ_=>rfl) (aA rfl (aH ?_)))
  exact aF8 F hf ih 0 (by omega)
theorem aDw {fs : List eD} {code : List aT} {d : List Int} {pc : Nat} (hpc : pc<code.length) (h : xM fs code d pc=none) (h0 : ¬ d[pc]?.getD 0<0) :
 yS fs code[pc] (d[pc]?.getD 0)=true∧∀ t∈eA code[pc] pc,t<code.length∧d[t.toNat]?.getD 0=fE fs code[pc] (d[pc]?.getD 0):=by
 unfold xM at h
 rw [List.getElem?_eq_getElem hpc] at h
 simp only at h
 rw [if_neg h0] at h
 split at h
 ·cases h
 rename_i h1
 split at h
 ·cases h
 rename_i h2
 split at h
 ·cases h
 rename_i h3
 refine ⟨by simpa using h1,λt ht=>?_⟩
 rw [Bool.not_eq_true,List.any_eq_false] at h2 h3
 have g2:=h2 t ht
 have g3:=h3 t ht
 simp at g2 g3
 exact ⟨by omega,g3⟩
theorem aFg {fs : List eD} (h : bad fs=none) {f : Nat} (hf : f<fs.length) {pc : Nat} (hpc : pc<fs[f].code.length) : xM fs fs[f].code (eL fs fs[f].code) pc=none:=by
 unfold bad at h
 rw [List.findSome?_eq_none_iff] at h
 have h1:=h f (by rw [List.mem_range'_1];omega)
 rw [aCq hf,List.findSome?_eq_none_iff] at h1
 have h2:=h1 pc (by rw [List.mem_range'_1];omega)
 simpa [wA] using h2
end
noncomputable section
open Go Go.IntWalk
attribute [local irreducible] bd PV.ite PV.guardFlat PV.guardOwn PV.whole PV.one PV.cell PV.sub PV.at_ PV.len PV.slen PV.chr PV.beq PV.peq PV.ceq PV.bin PV.neg PV.not PV.conv PV.cut PV.scut PV.cat PV.setAt PV.setCell PV.ncopy PV.copyIn PV.zeros PV.toStr PV.toBytes PV.deref PV.isPtr PV.comp PV.inb PV.off PV.imin PV.imax PV.sel PV.apply PV.isLst PV.isInt PV.ix PV.nilT
structure lD (m : fF) : Prop where
 sz : m.sized
 ok : m.okB=true
 bad : bad m.funcs=none
def dAt (m : fF) (f pc : Int) : Int:=(eL m.funcs (lU m.funcs f))[pc.toNat]?.getD 0
def tC (m : fF) (f pc : Int) : aT:=(lU m.funcs f)[pc.toNat]?.getD ⟨0,0⟩
abbrev wC (m : fF) (n : Int) (v : lI) : Prop:=eK m.funcs.length n v=true
theorem uK : aDo (bs []) (bs [])=true:=aF3 _
theorem lE {nf n : Int} : eK nf n mP=true:=by simp [eK,mP,uK]
theorem aGK {nf n x : Int} (h : fT x=true) : eK nf n (aI0 x)=true:=by simp [eK,aI0,uK,h]
theorem yX {nf n : Int} {b : Bool} : eK nf n (aCl b)=true:=by cases b<;>simp [eK,aCl,uK,iS]
theorem aFh {nf n : Int} {s : ByteArray} (h : gF s=true) : eK nf n (aGF s)=true:=by simp [eK,aGF,h]
theorem aI5 {nf n i : Int} (h : 0≤i∧i<n) : eK nf n (aJK i)=true:=by simp [eK,aJK,uK,h]
theorem aI6 {nf n i : Int} (h : 0≤i∧i<nf) : eK nf n (aJL i)=true:=by
 have : i≤nf - 1:=by omega
 simp [eK,aJL,uK,iS,h,this]
theorem oS {nf n n' : Int} (hn : n≤n') {v : lI} (h : eK nf n v=true) : eK nf n' v=true:=by
 unfold eK at *
 split at h
 ·cases h
 rename_i h0
 rw [if_neg h0]
 split at h
 ·rename_i h1;rw [if_pos h1];exact h
 rename_i h1
 rw [if_neg h1]
 split at h
 ·rename_i h1;rw [if_pos h1];exact h
 rename_i h2
 rw [if_neg h2]
 split at h
 ·rename_i h1;rw [if_pos h1];exact h
 rename_i h3
 rw [if_neg h3]
 split at h
 ·rename_i h1;rw [if_pos h1];exact h
 rename_i h4
 rw [if_neg h4]
 split at h
 ·rename_i h1
  rw [if_pos h1]
  simp only [Bool.and_eq_true,decide_eq_true_eq] at *
  omega
 rename_i h5
 rw [if_neg h5]
 exact h
theorem aI7 {a b : ByteArray} (ha : gF a=true) (hb : gF b=true) (h : ¬ (60 : Int)<a.size+b.size) : gF (a++b)=true:=by
 simp only [gF,Bool.and_eq_true,decide_eq_true_eq,List.all_eq_true] at *
 refine ⟨by rw [ByteArray.size_append];omega,λx hx=>?_⟩
 rw [ByteArray.data_append,Array.toList_append,List.mem_append] at hx
 rcases hx with hx | hx
 ·exact ha.2 x hx
 ·exact hb.2 x hx
theorem aDx {nf n : Int} {v : lI} (h : eK nf n v=true) (hk : v.k=3) : gF v.s=true:=by
 unfold eK at h
 rw [if_neg (λe=>e.1 hk),if_neg (by omega),if_neg (by omega),if_neg (by omega),if_pos hk] at h
 simp only [Bool.and_eq_true] at h
 exact h.2
theorem aEi {nf n o : Int} {a b : lI} : eK nf n (aIi o a b).1=true:=by
 unfold aIi
 repeat' split
 all_goals first
  | exact lE
  | (rename_i h;exact aGK (by simpa using h))
theorem aJM {nf n o : Int} {a b : lI} (ha : eK nf n a=true) (hb : eK nf n b=true) : eK nf n (opT o a b).1=true:=by
 unfold opT
 split
 ·split
  ·rename_i h
   split
   ·exact lE
   ·rename_i h2
    exact aFh (aI7 (aDx ha h.1) (aDx hb h.2) h2)
  ·exact aEi
 split
 ·exact aEi
 split
 ·exact aEi
 split
 ·repeat' split
  all_goals first
   | exact lE
   | exact yX
 ·exact yX
theorem lD.fit {m : fF} (g : lD m) : 1≤m.funcs.length∧m.funcs.length≤12∧∀ f∈m.funcs,Fit m.funcs f.code∧0≤f.p∧f.p≤6∧f.p≤f.lc∧f.lc≤12:=fF.okB_fit g.ok
theorem lD.code {m : fF} (g : lD m) {f : Int} (h : 0≤f∧f<m.funcs.length) : ∃ i : Nat,∃ hi : i<m.funcs.length,f=i∧lU m.funcs f=m.funcs[i].code∧Fit m.funcs m.funcs[i].code∧0≤m.funcs[i].p∧m.funcs[i].p≤6∧m.funcs[i].p≤m.funcs[i].lc∧m.funcs[i].lc≤12∧aF4 m.funcs f=m.funcs[i].lc∧oR m.funcs f=m.funcs[i].p∧
 ∀ x∈m.funcs[i].code,bM m.texts.length m.funcs.length m.funcs[i].lc m.funcs[i].code.length x.o x.a=true:=by
 obtain ⟨i,hi⟩:=Int.eq_ofNat_of_zero_le h.1
 have hl : i<m.funcs.length:=by omega
 have hm : m.funcs[i]∈m.funcs:=List.getElem_mem _
 obtain ⟨F,p1,p2,p3,p4⟩:=g.fit.2.2 _ hm
 refine ⟨i,hl,hi,by simp [lU,hi,List.getElem?_eq_getElem hl],F,p1,p2,p3,p4,by simp [aF4,hi,List.getElem?_eq_getElem hl],by simp [oR,hi,List.getElem?_eq_getElem hl],λx hx=>?_⟩
 have h:=g.ok
 simp only [fF.okB,Bool.and_eq_true,bG,decide_eq_true_eq,List.all_eq_true,oQ] at h
 exact (h.2.2.2 _ hm).2.2.2 x hx
theorem lD.at_ {m : fF} (g : lD m) {f pc : Int} (h : 0≤f∧f<m.funcs.length) (hp : 0≤pc∧pc<(lU m.funcs f).length) (hd : 0≤dAt m f pc) :
 bM m.texts.length m.funcs.length (aF4 m.funcs f) (lU m.funcs f).length (tC m f pc).o (tC m f pc).a=true∧
 (0≤(cV m.funcs (tC m f pc)).1∧(cV m.funcs (tC m f pc)).1≤dAt m f pc∧0≤(cV m.funcs (tC m f pc)).2∧(cV m.funcs (tC m f pc)).2≤2)∧dAt m f pc≤16∧fE m.funcs (tC m f pc) (dAt m f pc)≤16∧
 ∀ t∈eA (tC m f pc) pc,(0≤t∧t<(lU m.funcs f).length)∧dAt m f t=fE m.funcs (tC m f pc) (dAt m f pc):=by
 obtain ⟨i,hi,rfl,hc,F,p1,p2,p3,p4,hlc,hpar,hins⟩:=g.code h
 obtain ⟨j,rfl⟩:=Int.eq_ofNat_of_zero_le hp.1
 have hj : j<m.funcs[i].code.length:=by rw [hc] at hp;omega
 have hx : tC m i j=m.funcs[i].code[j]:=by simp [tC,hc,List.getElem?_eq_getElem hj]
 have hm : m.funcs[i].code[j]∈m.funcs[i].code:=List.getElem_mem _
 have hu:=F.u _ hm
 have hdd : ∀ t : Int,dAt m i t=(eL m.funcs m.funcs[i].code)[t.toNat]?.getD 0:=λt=>by rw [dAt,hc]
 have hb:=(lT F).at j
 have hck:=aDw hj (aFg g.bad hi hj)
 have hnx:=uG F hm hj
 rw [hx,hc,hlc]
 rw [hdd,Int.toNat_natCast] at hd ⊢
 obtain ⟨hcan,hall⟩:=hck (by omega)
 simp only [yS,Bool.and_eq_true,decide_eq_true_eq] at hcan
 refine ⟨hins _ hm,⟨hu.1,hcan.1,hu.2.2⟩,hb.2,hcan.2,λt ht=>?_⟩
 obtain ⟨q1,q2⟩:=hall t ht
 exact ⟨⟨(hnx t ht).1,q1⟩,by rw [hdd];exact q2⟩
structure FrI (m : fF) (n : Int) (f : oZ) : Prop where
 fi : 0≤f.f∧f.f<m.funcs.length
 pc : 0≤f.pc∧f.pc<(lU m.funcs f.f).length
 loc : (f.loc.length : Int)=aF4 m.funcs f.f
 d : 0≤dAt m f.f f.pc
 vl : ∀ v∈f.loc,wC m n v
 vs : ∀ v∈f.stk,wC m n v
structure aI8 (m : fF) (n : Int) (f : oZ) : Prop extends FrI m n f where
 h : (f.stk.length : Int)=dAt m f.f f.pc
structure aHH (m : fF) (n : Int) (f : oZ) : Prop extends FrI m n f where
 low : 1≤f.pc∧0≤dAt m f.f (f.pc - 1)∧((tC m f.f (f.pc - 1)).o=23∨(tC m f.f (f.pc - 1)).o=24)
 h : (f.stk.length : Int)=dAt m f.f f.pc - 1
structure HpI (m : fF) (hp : List (List lI)) (made : Int) (out : List ByteArray) : Prop where
 made : hp.length≤made∧made≤120
 recs : ∀ r∈hp,r.length≤6∧∀ v∈r,wC m hp.length v
 out : out.length≤200
structure VmI (m : fF) (v : VmT) : Prop where
 hp : HpI m v.hp v.made v.out
 steps : 0≤v.steps∧v.steps≤50000
 nfr : v.fr.length≤24
 run : v.st=0→v.fr≠[]
 top : ∀ fs0 f,v.fr=fs0++[f]→aI8 m v.hp.length f∧∀ g∈fs0,aHH m v.hp.length g
theorem FrI.mono {m : fF} {n n' : Int} (hn : n≤n') {f : oZ} (h : FrI m n f) : FrI m n' f:=
 ⟨h.fi,h.pc,h.loc,h.d,λv hv=>oS hn (h.vl v hv),λv hv=>oS hn (h.vs v hv)⟩
theorem aHH.mono {m : fF} {n n' : Int} (hn : n≤n') {f : oZ} (h : aHH m n f) : aHH m n' f:=⟨h.toFrI.mono hn,h.low,h.h⟩
theorem FrI.small {m : fF} (g : lD m) {n : Int} {f : oZ} (h : FrI m n f) : f.loc.length≤12:=by
 obtain ⟨i,hi,he,hc,F,p1,p2,p3,p4,hlc,hpar,hins⟩:=g.code h.fi
 have:=h.loc
 omega
theorem FrI.dle {m : fF} (g : lD m) {n : Int} {f : oZ} (h : FrI m n f) : dAt m f.f f.pc≤16:=(g.at_ h.fi h.pc h.d).2.2.1
theorem VmI.sz {m : fF} (g : lD m) {v : VmT} (h : VmI m v) : Sz v:=by
 have:=h.hp.made
 have:=h.hp.out
 have:=h.nfr
 refine ⟨by omega,by omega,by omega,λf hf=>?_,λr hr=>by have:=(h.hp.recs r hr).1;omega⟩
 rcases List.eq_nil_or_concat v.fr with h0 | ⟨fs0,f0,h0⟩
 ·rw [h0] at hf;cases hf
 ·obtain ⟨t,l⟩:=h.top fs0 f0 (by rw [h0];simp)
  rw [h0] at hf
  simp only [List.concat_eq_append,List.mem_append,List.mem_singleton] at hf
  rcases hf with hf | rfl
  ·have:=(l f hf).toFrI.small g
   have:=(l f hf).toFrI.dle g
   have:=(l f hf).h
   omega
  ·have:=t.toFrI.small g
   have:=t.toFrI.dle g
   have:=t.h
   omega
theorem VmI.goes {m : fF} (g : lD m) {v : VmT} (h : VmI m v) (h0 : v.st=0) : ∃ fs0 f,aKh m v fs0 f:=by
 rcases List.eq_nil_or_concat v.fr with e | ⟨fs0,f,e⟩
 ·exact absurd e (h.run h0)
 rw [List.concat_eq_append] at e
 refine ⟨fs0,f,?_⟩
 obtain ⟨t,l⟩:=h.top fs0 f e
 obtain ⟨i,hi,he,hc,F,p1,p2,p3,p4,hlc,hpar,hins⟩:=g.code t.fi
 obtain ⟨a1,a2,a3,a4,a5⟩:=g.at_ t.fi t.pc t.d
 have hx : lC m.funcs f=tC m f.f f.pc:=rfl
 have hh:=t.h
 have hm:=h.hp.made
 have hn:=h.nfr
 rw [e,List.length_append,List.length_singleton] at hn
 refine ⟨e,t.fi,t.pc,by rw [hc];exact F.n2,by rw [hx,t.loc];exact a1,by rw [hx,hh];exact ⟨a2.1,a2.2.1⟩,λb=>?_⟩
 refine ⟨g.fit.2.1,?_,λf hf=>?_,by omega,λf hf=>?_,by have:=t.toFrI.small g;exact this,?_,λr hr=>(h.hp.recs r hr).1,by omega,by omega,h.hp.out,λv hv=>t.vs v (List.mem_of_mem_drop hv)⟩
 ·have h:=g.ok
  simp only [fF.okB,Bool.and_eq_true,bG,decide_eq_true_eq] at h
  omega
 ·have:=g.fit.2.2 f hf
  exact this.2
 ·have:=(l f hf).toFrI.dle g
  have:=(l f hf).h
  omega
 ·simp only [List.length_take,List.length_drop]
  omega
structure aGL (m : fF) (v : VmT) (f : oZ) (x : aT) (fr : oZ) (hp : List (List lI)) (made : Int) (out : List ByteArray) : Prop where
 ff : fr.f=f.f
 pc : fr.pc∈eA x f.pc
 loc : fr.loc.length=f.loc.length
 len : (fr.stk.length : Int)=fE m.funcs x f.stk.length
 vl : ∀ y∈fr.loc,wC m hp.length y
 vs : ∀ y∈fr.stk,wC m hp.length y
 n : v.hp.length≤hp.length
 hpI : HpI m hp made out
structure aJx (m : fF) (v : VmT) (fs0 : List oZ) (f : oZ) (x : aT) (fr g : oZ) : Prop where
 n : fs0.length+1<24
 o : x.o=23∨x.o=24
 frr : fr=⟨f.f,f.pc+1,f.loc,f.stk.take (f.stk.length - (cV m.funcs x).1.toNat)⟩
 gg : ∃ i args,g=aEh m.funcs i args∧(0≤i∧i<m.funcs.length)∧(args.length : Int)=oR m.funcs i∧∀ y∈args,wC m v.hp.length y
def aKi (m : fF) (v : VmT) (fs0 : List oZ) (f : oZ) (x : aT) : aHA→Prop
 | .trap _=>True
 | .next fr hp made out=>aGL m v f x fr hp made out
 | .call fr g=>aJx m v fs0 f x fr g
 | .ret a=>wC m v.hp.length a
theorem aGM {m : fF} {n : Int} {l : List lI} (h : ∀ y∈l,wC m n y) (i : Nat) : wC m n (l[i]?.getD mP):=by
 cases hx : l[i]? with
 | none=>exact lE
 | some y=>exact h y (List.mem_of_getElem? hx)
theorem aF9 {m : fF} {v : VmT} (h : HpI m v.hp v.made v.out) (i : Nat) : (v.hp[i]?.getD []).length≤6∧∀ y∈v.hp[i]?.getD [],wC m v.hp.length y:=by
 cases hx : v.hp[i]? with
 | none=>simp
 | some y=>exact h.recs y (List.mem_of_getElem? hx)
theorem aIq {m : fF} {n : Int} {l : List lI} (h : ∀ y∈l,wC m n y) {y : lI} (hy : wC m n y) (i : Nat) : ∀ z∈l.set i y,wC m n z:=by
 intro z hz
 rcases List.mem_or_eq_of_mem_set hz with h1 | rfl
 ·exact h z h1
 ·exact hy
theorem aEj {m : fF} {n : Int} {a b : List lI} (h : ∀ y∈a,wC m n y) (h' : ∀ y∈b,wC m n y) : ∀ y∈a++b,wC m n y:=by
 intro y hy
 rcases List.mem_append.1 hy with h1 | h1
 ·exact h y h1
 ·exact h' y h1
theorem aDy {x : aT} {pc : Int} (h : x.o≠17∧x.o≠25) : pc+1∈eA x pc:=by simp [eA,h]
theorem aCr {x : aT} {pc : Int} (h : x.o=17∨x.o=18∨x.o=19) : x.a∈eA x pc:=by unfold eA;rw [if_pos h];simp
section
variable {m : fF} {v : VmT} {fs0 : List oZ} {f : oZ} {x : aT}
theorem aJN (g : lD m) (h : VmI m v) (t : aI8 m v.hp.length f) (hx : lC m.funcs f=x) (hn : fs0.length+1≤24) : aKi m v fs0 f x (aGI m v fs0 f):=by
 obtain ⟨a1,a2,a3,a4,a5⟩:=g.at_ t.fi t.pc t.d
 have hi : tC m f.f f.pc=x:=hx
 rw [hi] at a1 a2 a4 a5
 have hh:=t.h
 rw [← hh] at a2 a3 a4
 rw [← t.loc] at a1
 have ib:=aDu a1
 show aKi m v fs0 f x (doT m ⟨f.f,f.pc+1,f.loc,f.stk.take (f.stk.length - (cV m.funcs (lC m.funcs f)).1.toNat)⟩ (f.stk.drop (f.stk.length - (cV m.funcs (lC m.funcs f)).1.toNat)) (fs0.length+1) v.hp v.made v.out (lC m.funcs f))
 rw [hx]
 generalize hb : f.stk.length - (cV m.funcs x).1.toNat=b
 have hlt : ((f.stk.take b).length : Int)=f.stk.length - (cV m.funcs x).1:=by rw [List.length_take];omega
 have hld : ((f.stk.drop b).length : Int)=(cV m.funcs x).1:=by rw [List.length_drop];omega
 have kt : ∀ y∈f.stk.take b,wC m v.hp.length y:=λy hy=>t.vs y (List.mem_of_mem_take hy)
 have kd : ∀ y∈f.stk.drop b,wC m v.hp.length y:=λy hy=>t.vs y (List.mem_of_mem_drop hy)
 have hlef : fE m.funcs x f.stk.length=f.stk.length - (cV m.funcs x).1+(cV m.funcs x).2:=rfl
 generalize htk : f.stk.take b=T at *
 generalize hdr : f.stk.drop b=D at *
 have ka : wC m v.hp.length (D.headD mP):=by
  cases D with
  | nil=>exact lE
  | cons y r=>exact kd y (by simp)
 have kb : wC m v.hp.length (D.tail.headD mP):=by
  cases D with
  | nil=>exact lE
  | cons y r=>cases r with
    | nil=>exact lE
    | cons z r=>exact kd z (by simp)
 have ktl : ∀ y∈D.tail,wC m v.hp.length y:=λy hy=>kd y (List.mem_of_mem_tail hy)
 have go : ∀ (l : List lI) (pc : Int),pc∈eA x f.pc→(∀ y∈l,wC m v.hp.length y)→(l.length : Int)=(cV m.funcs x).2→aGL m v f x ⟨f.f,pc,f.loc,T++l⟩ v.hp v.made v.out:=λl pc hpc hl hn=>
  ⟨rfl,hpc,rfl,by rw [hlef,List.length_append];omega,t.vl,aEj kt hl,Nat.le_refl _,h.hp⟩
 have go0 : ∀ pc : Int,pc∈eA x f.pc→(cV m.funcs x).2=0→aGL m v f x ⟨f.f,pc,f.loc,T⟩ v.hp v.made v.out:=λpc hpc hn=>by
  have:=go [] pc hpc (by simp) (by simp [hn])
  simpa using this
 have one : ∀ y,wC m v.hp.length y→∀ z∈[y],wC m v.hp.length z:=λy hy z hz=>by rw [List.mem_singleton] at hz;rw [hz];exact hy
 have two : ∀ y y',wC m v.hp.length y→wC m v.hp.length y'→∀ z∈[y,y'],wC m v.hp.length z:=λy y' hy hy' z hz=>by
  simp only [List.mem_cons,List.not_mem_nil,or_false] at hz
  rcases hz with rfl | rfl
  ·exact hy
  ·exact hy'
 obtain ⟨⟨o1,o2⟩,i3,i67,i20,i21,i23,i5,ij,i1⟩:=ib
 have inc : x.o≠17→x.o≠25→f.pc+1∈eA x f.pc:=λh1 h2=>aDy ⟨h1,h2⟩
 unfold doT
 simp only
 by_cases h1 : x.o=1
 ·rw [if_pos h1]
  exact go _ _ (inc (by omega) (by omega)) (one _ (aGK (i1 h1))) (by simp [cV,h1])
 rw [if_neg h1]
 by_cases h2 : x.o=2
 ·rw [if_pos h2]
  exact go _ _ (inc (by omega) (by omega)) (one _ yX) (by simp [cV,h2])
 rw [if_neg h2]
 by_cases h3 : x.o=3
 ·rw [if_pos h3]
  refine go _ _ (inc (by omega) (by omega)) (one _ (aFh ?_)) (by simp [cV,h3])
  have hok:=g.ok
  simp only [fF.okB,Bool.and_eq_true,bG,decide_eq_true_eq,List.all_eq_true] at hok
  have:=i3 h3
  rw [List.getElem?_eq_getElem (by omega)]
  exact hok.2.2.1 _ (List.getElem_mem _)
 rw [if_neg h3]
 by_cases h4 : x.o=4
 ·rw [if_pos h4]
  exact go _ _ (inc (by omega) (by omega)) (one _ lE) (by simp [cV,h4])
 rw [if_neg h4]
 by_cases h5 : x.o=5
 ·rw [if_pos h5]
  exact go _ _ (inc (by omega) (by omega)) (one _ (aI6 (i5 (.inl h5)))) (by simp [cV,h5])
 rw [if_neg h5]
 by_cases h6 : x.o=6
 ·rw [if_pos h6]
  exact go _ _ (inc (by omega) (by omega)) (one _ (aGM t.vl _)) (by simp [cV,h6])
 rw [if_neg h6]
 by_cases h7 : x.o=7
 ·rw [if_pos h7]
  exact ⟨rfl,inc (by omega) (by omega),by simp,by rw [hlef];simp only;rw [hlt];simp [cV,h7],aIq t.vl ka _,kt,Nat.le_refl _,h.hp⟩
 rw [if_neg h7]
 by_cases h8 : x.o=8
 ·rw [if_pos h8]
  exact go _ _ (inc (by omega) (by omega)) (two _ _ ka ka) (by simp [cV,h8])
 rw [if_neg h8]
 by_cases h9 : x.o=9
 ·rw [if_pos h9]
  exact go _ _ (inc (by omega) (by omega)) (by simp) (by simp [cV,h9])
 rw [if_neg h9]
 by_cases h10 : x.o=10
 ·rw [if_pos h10]
  exact go _ _ (inc (by omega) (by omega)) (two _ _ kb ka) (by simp [cV,h10])
 rw [if_neg h10]
 by_cases h15 : x.o≤15
 ·rw [if_pos h15]
  have hu : (cV m.funcs x).2=1:=by
   have : x.o=11∨x.o=12∨x.o=13∨x.o=14∨x.o=15:=by omega
   rcases this with h | h | h | h | h<;>simp [cV,h]
  split
  ·trivial
  ·exact go _ _ (inc (by omega) (by omega)) (one _ (aJM ka kb)) (by rw [hu];rfl)
 rw [if_neg h15]
 by_cases h16 : x.o=16
 ·rw [if_pos h16]
  split
  ·trivial
  ·refine go _ _ (inc (by omega) (by omega)) (one _ ?_) (by simp [cV,h16])
   unfold aI1
   split
   ·exact lE
   ·exact yX
 rw [if_neg h16]
 by_cases h17 : x.o=17
 ·rw [if_pos h17]
  exact go0 _ (aCr (.inl h17)) (by simp [cV,h17])
 rw [if_neg h17]
 by_cases h19 : x.o≤19
 ·rw [if_pos h19]
  have h89 : x.o=18∨x.o=19:=by omega
  have hu : (cV m.funcs x).2=0:=by rcases h89 with h | h<;>simp [cV,h]
  split
  ·trivial
  split
  ·exact go0 _ (aCr (.inr h89)) hu
  ·exact go _ _ (inc (by omega) (by omega)) (by simp) (by rw [hu];rfl)
 rw [if_neg h19]
 by_cases h20 : x.o=20
 ·rw [if_pos h20]
  split
  ·trivial
  rename_i hm
  have hm0:=h.hp.made
  have hl : (v.hp++[List.replicate x.a.toNat mP]).length=v.hp.length+1:=by simp
  refine ⟨rfl,inc (by omega) (by omega),rfl,?_,λy hy=>oS (by rw [hl];omega) (t.vl y hy),aEj (λy hy=>oS (by rw [hl];omega) (kt y hy)) (λy hy=>?_),by rw [hl];omega,⟨by rw [hl];omega,λr hr=>?_,h.hp.out⟩⟩
  ·rw [hlef];simp only [List.length_append,List.length_singleton]
   have hu : (cV m.funcs x).2=1:=by simp [cV,h20]
   omega
  ·rw [List.mem_singleton] at hy
   rw [hy]
   exact aI5 (by rw [hl];omega)
  ·rcases List.mem_append.1 hr with hr | hr
   ·exact ⟨(h.hp.recs r hr).1,λy hy=>oS (by rw [hl];omega) ((h.hp.recs r hr).2 y hy)⟩
   ·rw [List.mem_singleton] at hr
    rw [hr]
    have:=i20 h20
    refine ⟨by rw [List.length_replicate];omega,λy hy=>?_⟩
    rw [List.eq_of_mem_replicate hy]
    exact lE
 rw [if_neg h20]
 by_cases h21 : x.o=21
 ·rw [if_pos h21]
  split
  ·trivial
  split
  ·trivial
  exact go _ _ (inc (by omega) (by omega)) (one _ (aGM (aF9 h.hp _).2 _)) (by simp [cV,h21])
 rw [if_neg h21]
 by_cases h22 : x.o=22
 ·rw [if_pos h22]
  split
  ·trivial
  split
  ·trivial
  have hl : ∀ r,(v.hp.set (D.headD mP).n.toNat r).length=v.hp.length:=λr=>List.length_set
  refine ⟨rfl,inc (by omega) (by omega),rfl,by rw [hlef];simp only;rw [hlt];simp [cV,h22],λy hy=>by rw [wC,hl];exact t.vl y hy,λy hy=>by rw [wC,hl];exact kt y hy,by rw [hl];omega,⟨by rw [hl];exact h.hp.made,λr hr=>?_,h.hp.out⟩⟩
  rw [hl]
  rcases List.mem_or_eq_of_mem_set hr with hr | hr
  ·exact h.hp.recs r hr
  ·rw [hr]
   exact ⟨by rw [List.length_set];exact (aF9 h.hp _).1,aIq (aF9 h.hp _).2 kb _⟩
 rw [if_neg h22]
 by_cases h23 : x.o=23
 ·rw [if_pos h23]
  have hxa:=i23 h23
  have hu : cV m.funcs x=(x.a+1,1):=by
   have : 0≤x.a∧x.a≤6:=hxa
   simp [cV,h23,this]
  rw [hu] at hld hb
  simp only at hld hb
  split
  ·trivial
  rename_i hk
  have hk : (D.headD mP).k=5:=by omega
  split
  ·trivial
  rename_i hp
  have hp : oR m.funcs (D.headD mP).n=x.a:=by omega
  split
  ·trivial
  rename_i hd
  refine ⟨?_,.inl h23,?_,_,_,rfl,aHB ka hk,by rw [List.length_tail,hp];omega,ktl⟩
  ·omega
  ·rw [← htk,← hb,hu]
 rw [if_neg h23]
 by_cases h24 : x.o=24
 ·rw [if_pos h24]
  have hxa:=i5 (.inr h24)
  have hu : cV m.funcs x=(oR m.funcs x.a,1):=by
   have : 0≤x.a∧x.a<m.funcs.length:=hxa
   simp [cV,h24,this]
  rw [hu] at hld hb
  simp only at hld hb
  split
  ·trivial
  rename_i hd
  refine ⟨?_,.inr h24,?_,_,_,rfl,hxa,hld,kd⟩
  ·omega
  ·rw [← htk,← hb,hu]
 rw [if_neg h24]
 by_cases h25 : x.o=25
 ·rw [if_pos h25]
  exact ka
 rw [if_neg h25]
 have h26 : x.o=26:=by omega
 split
 ·trivial
 rename_i ho
 have:=h.hp.out
 exact ⟨rfl,inc (by omega) (by omega),rfl,by rw [hlef];simp only;rw [hlt];simp [cV,h26],t.vl,kt,Nat.le_refl _,⟨h.hp.made,h.hp.recs,by simp;omega⟩⟩
end
theorem aCs {α : Type} {a b : List α} {x y : α} (h : a++[x]=b++[y]) : a=b∧x=y:=by
 have:=List.append_inj' h rfl
 exact ⟨this.1,by simpa using this.2⟩
theorem aHH.top {m : fF} {n : Int} {f : oZ} {a : lI} (h : aHH m n f) (ha : wC m n a) : aI8 m n ⟨f.f,f.pc,f.loc,f.stk++[a]⟩:=
 ⟨⟨h.fi,h.pc,h.loc,h.d,h.vl,aEj h.vs (λy hy=>by rw [List.mem_singleton] at hy;rw [hy];exact ha)⟩,by
   have:=h.h
   simp only [List.length_append,List.length_singleton]
   omega⟩
theorem aIr {m : fF} (g : lD m) {n i : Int} {args : List lI} (hi : 0≤i∧i<m.funcs.length) (hn : (args.length : Int)=oR m.funcs i) (ha : ∀ y∈args,wC m n y) : aI8 m n (aEh m.funcs i args):=by
 obtain ⟨k,hk,he,hc,F,p1,p2,p3,p4,hlc,hpar,hins⟩:=g.code hi
 have h0 : dAt m i 0=0:=by
  rw [dAt,hc,Int.toNat_zero,aFb F];rfl
 refine ⟨⟨hi,?_,?_,?_,?_,λy hy=>by cases hy⟩,?_⟩
 ·show (0 : Int)≤0∧0<((lU m.funcs i).length : Int)
  have:=F.n1
  rw [hc];omega
 ·show ((args++List.replicate ((aF4 m.funcs i).toNat - args.length) mP).length : Int)=aF4 m.funcs i
  rw [List.length_append,List.length_replicate]
  omega
 ·show 0≤dAt m i 0
  omega
 ·refine aEj ha (λy hy=>?_)
  rw [List.eq_of_mem_replicate hy]
  exact lE
 ·show ((0 : Nat) : Int)=dAt m i 0
  omega
theorem VmI.step {m : fF} (g : lD m) {v : VmT} (h : VmI m v) : VmI m (aCp m v):=by
 by_cases h0 : v.st≠0
 ·have : aCp m v=v:=by unfold aCp;rw [if_pos h0]
  rw [this];exact h
 have h0 : v.st=0:=by omega
 by_cases h5 : v.steps=50000
 ·have : aCp m v=v:=by unfold aCp;rw [if_neg (by omega),if_pos h5]
  rw [this];exact h
 obtain ⟨fs0,f,G⟩:=h.goes g h0
 obtain ⟨t,low⟩:=h.top fs0 f G.fr
 have hnf:=h.nfr
 rw [G.fr,List.length_append,List.length_singleton] at hnf
 have hst:=h.steps
 rw [aHC h0 h5 G.fr]
 have A:=aJN (fs0:=fs0) g h t rfl hnf
 obtain ⟨a1,a2,a3,a4,a5⟩:=g.at_ t.fi t.pc t.d
 have hh:=t.h
 have hx : tC m f.f f.pc=lC m.funcs f:=rfl
 rw [hx] at a1 a2 a4 a5
 cases ha : aGI m v fs0 f with
 | trap c=>
   exact ⟨h.hp,by show 0≤v.steps+1∧v.steps+1≤50000;omega,h.nfr,λh=>absurd h (by show (2 : Int)≠0;omega),h.top⟩
 | next fr hp made out=>
   rw [ha] at A
   have A : aGL m v f (lC m.funcs f) fr hp made out:=A
   obtain ⟨b1,b2⟩:=a5 _ A.pc
   refine ⟨A.hpI,by show 0≤v.steps+1∧v.steps+1≤50000;omega,by show (fs0++[fr]).length≤24;rw [List.length_append,List.length_singleton];exact hnf,λ_=>by show fs0++[fr]≠[];simp,λfs1 f1 he=>?_⟩
   obtain ⟨rfl,rfl⟩:=aCs (show fs0++[fr]=fs1++[f1] from he)
   refine ⟨⟨⟨by rw [A.ff];exact t.fi,by rw [A.ff];exact b1,by rw [A.ff,A.loc];exact t.loc,by rw [A.ff,b2];have:=A.len;rw [hh] at this;omega,A.vl,A.vs⟩,by rw [A.len,A.ff,b2,hh]⟩,λf hf=>(low f hf).mono (n':=(hp.length : Int)) (by have:=A.n;omega)⟩
 | call fr gg=>
   rw [ha] at A
   have A : aJx m v fs0 f (lC m.funcs f) fr gg:=A
   obtain ⟨i,args,rfl,hi,hn,hv⟩:=A.gg
   have hnx : f.pc+1∈eA (lC m.funcs f) f.pc:=aDy (by have:=A.o;omega)
   obtain ⟨b1,b2⟩:=a5 _ hnx
   have hu2 : (cV m.funcs (lC m.funcs f)).2=1:=by
    have ib:=aDu a1
    rcases A.o with ho | ho
    ·have:=ib.2.2.2.2.2.1 ho
     simp [cV,ho,this]
    ·have:=ib.2.2.2.2.2.2.1 (.inr ho)
     simp [cV,ho,this]
   have hlef : fE m.funcs (lC m.funcs f) (dAt m f.f f.pc)=dAt m f.f f.pc - (cV m.funcs (lC m.funcs f)).1+(cV m.funcs (lC m.funcs f)).2:=rfl
   refine ⟨h.hp,by show 0≤v.steps+1∧v.steps+1≤50000;omega,by show (fs0++[fr,aEh m.funcs i args]).length≤24;rw [List.length_append];have:=A.n;simp only [List.length_cons,List.length_nil];omega,λ_=>by show fs0++[fr,aEh m.funcs i args]≠[];simp,λfs1 f1 he=>?_⟩
   have he : fs0++[fr,aEh m.funcs i args]=fs1++[f1]:=he
   rw [show fs0++[fr,aEh m.funcs i args]=(fs0++[fr])++[aEh m.funcs i args] by simp] at he
   obtain ⟨rfl,rfl⟩:=aCs he
   refine ⟨aIr g hi hn hv,λy hy=>?_⟩
   rcases List.mem_append.1 hy with hy | hy
   ·exact low y hy
   ·rw [List.mem_singleton] at hy
    rw [hy,A.frr]
    refine ⟨⟨t.fi,b1,t.loc,by show 0≤dAt m f.f (f.pc+1);rw [b2];omega,t.vl,λy hy=>t.vs y (List.mem_of_mem_take hy)⟩,?_,?_⟩
    ·show 1≤f.pc+1∧0≤dAt m f.f (f.pc+1 - 1)∧((tC m f.f (f.pc+1 - 1)).o=23∨(tC m f.f (f.pc+1 - 1)).o=24)
     rw [show f.pc+1 - 1=f.pc by omega]
     exact ⟨by have:=t.pc;omega,t.d,A.o⟩
    ·show ((f.stk.take (f.stk.length - (cV m.funcs (lC m.funcs f)).1.toNat)).length : Int)=dAt m f.f (f.pc+1) - 1
     rw [b2,List.length_take]
     omega
 | ret a=>
   rw [ha] at A
   have A : wC m v.hp.length a:=A
   by_cases hf : fs0 = []
   ·have e : aI3 m v fs0 (.ret a)=⟨[],v.hp,v.made,v.out,1,v.tr,a,v.steps+1⟩:=if_pos hf
    rw [e]
    exact ⟨h.hp,by show 0≤v.steps+1∧v.steps+1≤50000;omega,by simp,λh=>absurd h (by show (1 : Int)≠0;omega),λfs1 f1 he=>by simp at he⟩
   ·have e : aI3 m v fs0 (.ret a)=⟨aDt a fs0,v.hp,v.made,v.out,v.st,v.tr,v.val,v.steps+1⟩:=if_neg hf
    rw [e]
    rcases List.eq_nil_or_concat fs0 with e0 | ⟨fs1,f1,e1⟩
    ·exact absurd e0 hf
    rw [List.concat_eq_append] at e1
    subst e1
    rw [aCo]
    simp only [List.length_append,List.length_singleton] at hnf
    refine ⟨h.hp,by show 0≤v.steps+1∧v.steps+1≤50000;omega,by simp only [List.length_append,List.length_singleton];omega,λ_=>by simp,λfs2 f2 he=>?_⟩
    obtain ⟨rfl,rfl⟩:=aCs he
    exact ⟨(low f1 (by simp)).top A,λy hy=>low y (by simp [hy])⟩
end
noncomputable section
open Go
attribute [local irreducible] bd PV.ite PV.guardFlat PV.guardOwn PV.whole PV.one PV.cell PV.sub PV.at_ PV.len PV.slen PV.chr PV.beq PV.peq PV.ceq PV.bin PV.neg PV.not PV.conv PV.cut PV.scut PV.cat PV.setAt PV.setCell PV.ncopy PV.copyIn PV.zeros PV.toStr PV.toBytes PV.deref PV.isPtr PV.comp PV.inb PV.off PV.imin PV.imax PV.sel PV.apply PV.isLst PV.isInt PV.ix PV.nilT
def aKj (x : PV) : Prop:=∃ o a : Int,x = .agg [.int .i64 o,.int .i64 a]∧(-9223372036854775808≤o∧o≤9223372036854775807)∧(-9223372036854775808≤a∧a≤9223372036854775807)
def Cd (cs : List PV) : Prop:=∀ x∈cs,aKj x
theorem Cd.el {cs : List PV} (h : Cd cs) : ∀ x∈cs,x.isEl 2 true=true:=by
 intro x hx
 obtain ⟨o,a,rfl,_⟩:=h x hx
 rfl
theorem Cd.nil : Cd []:=λx hx=>by cases hx
theorem Cd.append {a b : List PV} (h : Cd a) (k : Cd b) : Cd (a++b):=λx hx=>(List.mem_append.1 hx).elim (h x) (k x)
theorem Cd.one {o a : Int} (h : -9223372036854775808≤o∧o≤9223372036854775807) (k : -9223372036854775808≤a∧a≤9223372036854775807) : Cd [.agg [.int .i64 o,.int .i64 a]]:=by
 intro x hx
 simp only [List.mem_singleton] at hx
 exact ⟨o,a,hx,h,k⟩
section
variable {P : R → Prop} {k : R → Option R}
theorem jI {o x : Int} {F T L M C A S : PV} {cs : List PV} (ho : -9223372036854775808≤o∧o≤9223372036854775807) (hx : -9223372036854775808≤x∧x≤9223372036854775807) (hc : Cd cs) (hl : (cs.length : Int)≤1000000000)
 (h : ∀ cs' : List PV,Cd cs'→(cs'.length : Int)=cs.length+1→Ok P (k [F,T,L,M,C,A,S,.lst cs'])) : Ok P (bd (aE (.int .i64 o) (.int .i64 x) F T L M C A S (.lst cs)) k):=by
 refine aI (Q:=λr=>r = [F,T,L,M,C,A,S,.lst (cs++[.agg [.int .i64 o,.int .i64 x]])]) ?_ (λr hr=>?_)
 ·rw [xK]
  refine bI rfl (bI rfl (nW ?_ (Cd.one ho hx).el (aB rfl)))
  simp only [List.length_cons,List.length_nil]
  omega
 ·rw [hr]
  exact h _ (hc.append (Cd.one ho hx)) (by simp)
theorem oT {x : Int} {F T L M C A S D : PV} (hx : 0≤x∧x≤1000000000) (h : Ok P (k [.int .i64 (x+1),F,T,L,M,C,A,S,D])) : Ok P (bd (gL (.int .i64 x) F T L M C A S D) k):=by
 refine aI (Q:=λr=>r = [.int .i64 (x+1),F,T,L,M,C,A,S,D]) ?_ (λr hr=>by rw [hr];exact h)
 rw [sZ]
 refine aK (by omega) (aB rfl)
end
def aGa : PV→Bool
 | .int .i64 n=>decide (-1000000000≤n)&&decide (n≤1000000000)
 | _=>false
theorem aCt {x : PV} (h : aGa x=true) : ∃ n : Int,x = .int .i64 n∧-1000000000≤n∧n≤1000000000:=by
 unfold aGa at h
 split at h
 ·rename_i n
  simp only [Bool.and_eq_true,decide_eq_true_eq] at h
  exact ⟨n,rfl,h⟩
 ·cases h
theorem kG {P : R→Prop} {k : PV→Option R} {xs : List PV} {i : Int} (hx : xs.all aGa=true) (h0 : 0≤i) (h1 : i<xs.length) (h : ∀ x : Int,-1000000000≤x∧x≤1000000000→Ok P (k (.int .i64 x))) : Ok P (bd (PV.at_ 1 false (.lst xs) (.int .i64 i)) k):=by
 rw [List.all_eq_true] at hx
 refine tD h0 h1 (λx hm=>?_) (λx hm _=>?_)
 ·obtain ⟨n,rfl,_⟩:=aCt (hx x hm);rfl
 ·obtain ⟨n,rfl,hn⟩:=aCt (hx x hm);exact h n hn
theorem cP {P : R→Prop} {k : PV→Option R} {cs : List PV} {m n : Int} (hc : Cd cs) (h0 : 0≤m) (h1 : m≤n) (h2 : n≤cs.length) (h : ∀ cs' : List PV,Cd cs'→(cs'.length : Int)=n - m→Ok P (k (.lst cs'))) :
 Ok P (bd (PV.cut 2 true (.lst cs) (.int .i64 m) (.int .i64 n)) k):=by
 refine aDF h0 h1 h2 hc.el (h _ (λx hx=>hc x (List.mem_of_mem_take (List.mem_of_mem_drop hx))) ?_)
 rw [List.length_drop,List.length_take]
 omega
theorem eM {P : R→Prop} {k : PV→Option R} {cs : List PV} {i n : Int} (hc : Cd cs) (h0 : 0≤i) (h1 : i<cs.length) (hn : -9223372036854775808≤n∧n≤9223372036854775807) (h : ∀ cs' : List PV,Cd cs'→(cs'.length : Int)=cs.length→Ok P (k (.lst cs'))) :
 Ok P (bd (PV.setCell 2 (.lst cs) (.int .i64 i) 1 (.int .i64 n)) k):=by
 have hlt : i.toNat<cs.length:=by omega
 have hx : cs[i.toNat]? = some cs[i.toNat]:=List.getElem?_eq_getElem hlt
 obtain ⟨o,a,he,ho,ha⟩:=hc _ (List.mem_of_getElem? hx)
 rw [he] at hx
 refine fQ h0 hx rfl (by omega) rfl (h _ (λx hm=>?_) (by rw [List.length_set]))
 rcases List.mem_or_eq_of_mem_set hm with h | h
 ·exact hc x h
 ·exact ⟨o,n,h,ho,hn⟩
def gM (x : PV) : Prop:=∃ p lc : Int,∃ cs : List PV,x = .agg [.int .i64 p,.int .i64 lc,.lst cs]∧(0≤p∧p≤2)∧(0≤lc∧lc≤100)∧Cd cs∧1≤(cs.length : Int)∧(cs.length : Int)≤100000000
structure Asm (l : List Int) (fs : List PV) (t lc : Int) : Prop where
 hl : Bts l
 hf : ∀ x∈fs,gM x
 hn : fs.length≤1000
 ht : 0≤t∧t≤1000
 hlc : 1≤lc∧lc≤1000
theorem gM.el {fs : List PV} (h : ∀ x∈fs,gM x) : ∀ x∈fs,x.isEl 3 true=true:=by
 intro x hx
 obtain ⟨p,lc,cs,rfl,_⟩:=h x hx
 rfl
def aKk (l : List Int) (fs : List PV) (t lc : Int) (mn : PV) (A B0 B : Int) (r : R) : Prop:=∃ a s : Int,∃ cs : List PV,r = [.lst fs,.int .i64 t,.int .i64 lc,mn,aZ l,.int .i64 a,.int .i64 s,.lst cs]∧0≤a∧a≤A∧0≤s∧s<65521∧B0≤cs.length∧(cs.length : Int)≤B∧Cd cs
def jD (l : List Int) (fs : List PV) (t lc : Int) (mn : PV) (c : Int) (f : PV→PV→PV→PV→PV→PV→PV→PV→Option R) : Prop:=
 ∀ (a s : Int) (cs : List PV),0≤a∧a+c≤1000000000∧0≤s∧s<65521→(cs.length : Int)+c≤1000000000→Cd cs→
   Ok (aKk l fs t lc mn (a+c) cs.length (cs.length+c)) (f (.lst fs) (.int .i64 t) (.int .i64 lc) mn (aZ l) (.int .i64 a) (.int .i64 s) (.lst cs))
section
variable {P : R → Prop} {k : R → Option R} {l : List Int} {fs : List PV} {t lc : Int} {mn : PV}
theorem fU {c : Int} {f : PV→PV→PV→PV→PV→PV→PV→PV→Option R} (H : jD l fs t lc mn c f) {a s : Int} {cs : List PV} (h0 : 0≤a∧a+c≤1000000000∧0≤s∧s<65521) (hl : (cs.length : Int)+c≤1000000000) (hc : Cd cs)
 (h : ∀ (a' s' : Int) (cs' : List PV),0≤a'∧a'≤a+c∧0≤s'∧s'<65521∧(cs.length : Int)≤cs'.length∧(cs'.length : Int)≤cs.length+c→Cd cs'→
  Ok P (k [.lst fs,.int .i64 t,.int .i64 lc,mn,aZ l,.int .i64 a',.int .i64 s',.lst cs'])) :
 Ok P (bd (f (.lst fs) (.int .i64 t) (.int .i64 lc) mn (aZ l) (.int .i64 a) (.int .i64 s) (.lst cs)) k):=
 aI (H a s cs h0 hl hc) (λr ⟨a',s',cs',hr,h1,h2,h3,h4,h5,h6,h7⟩=>by rw [hr];exact h a' s' cs' ⟨h1,h2,h3,h4,h5,h6⟩ h7)
theorem jD.mono {c c' : Int} {f : PV→PV→PV→PV→PV→PV→PV→PV→Option R} (H : jD l fs t lc mn c f) (hc : 0≤c∧c≤c') : jD l fs t lc mn c' f:=by
 intro a s cs h0 hl hcs
 refine (H a s cs (by omega) (by omega) hcs).mono ?_
 rintro r ⟨a',s',cs',hr,h1,h2,h3,h4,h5,h6,h7⟩
 exact ⟨a',s',cs',hr,h1,by omega,h3,h4,h5,by omega,h7⟩
theorem aFi (H : Asm l fs t lc) : jD l fs t lc mn 3 (λF T L M C A S D=>eF F T L M C A S D):=by
 intro a s cs h0 hl hc
 obtain ⟨hb,hfs,hfl,ht,hlc⟩:=H
 show Ok _ (eF _ _ _ _ _ _ _ _)
 rw [rD]
 repeat' (first | refine jI (by omega) (by omega) (by assumption) (by omega) (λ_ _ _=>?_) | refine bJ hb (by omega) (by omega) (λ_ _ _ _=>?_) | refine iA hb (by omega) (by omega) (λ_ _ _ _=>?_) | refine cB (by omega) (by first | omega | (simp;omega)) ?_ | refine kG rfl (by omega) (by first | omega | (simp;omega)) (λ_ _=>?_) | refine eM (by assumption) (by omega) (by omega) (by omega) (λ_ _ _=>?_) | refine oT (by omega) ?_ | refine cP (by assumption) (by omega) (by omega) (by omega) (λ_ _ _=>?_) | refine aM ?_ | refine cE ?_ | refine cG ?_ | refine dA ?_ | refine aP ?_ | refine dB ?_ | (refine aD (λ_=>?_) (λ_=>?_)) | (refine bA (λ_=>?_) (λ_=>?_)) | refine aS (λ_=>?_) (λ_=>?_) | refine aK (by omega) ?_ | refine bO (by omega) ?_ | refine fV (by omega) (by omega) ?_ | refine gH (by omega) (by omega) (by omega) ?_ | refine gG (by omega) ?_ | refine gI (by omega) ?_ | refine bF ?_ | refine cT ?_ | refine dF ?_ | refine bB ?_ | refine fP (by omega) ?_ | refine bI rfl ?_ | refine aA rfl ?_ | refine bQ rfl ?_ | refine aG rfl ?_ | exact aB ⟨_,_,_,rfl,by omega,by omega,by omega,by omega,by omega,by omega,by assumption⟩)
theorem jB {c : Int} {f : PV→PV→PV→PV→PV→PV→PV→PV→Option R} (H : jD l fs t lc mn c f) {a s A B0 B : Int} {cs : List PV} (h0 : 0≤a∧a+c≤1000000000∧0≤s∧s<65521) (hl : (cs.length : Int)+c≤1000000000) (hc : Cd cs)
 (hA : a+c≤A) (hB0 : B0≤cs.length) (hB : cs.length+c≤B) :
 Ok (aKk l fs t lc mn A B0 B) (f (.lst fs) (.int .i64 t) (.int .i64 lc) mn (aZ l) (.int .i64 a) (.int .i64 s) (.lst cs)):=by
 refine (H a s cs h0 hl hc).mono ?_
 rintro r ⟨a',s',cs',hr,h1,h2,h3,h4,h5,h6,h7⟩
 exact ⟨a',s',cs',hr,h1,by omega,h3,h4,by omega,by omega,h7⟩
def aFj (l : List Int) (fs : List PV) (t lc : Int) (mn : PV) (n c : Int) : Prop:=∀ d : Int,-1000≤d→d≤n→jD l fs t lc mn c (λF T L M C A S D=>aJ (.int .i64 d) F T L M C A S D)
theorem aGN (H : Asm l fs t lc) : aFj l fs t lc mn 0 3:=by
 intro d hd1 hd2 a s cs h0 hl hc
 show Ok _ (aJ _ _ _ _ _ _ _ _ _)
 rw [mO]
 refine cE (aD (λ_=>?_) (λh=>absurd hd2 h))
 exact aFi H a s cs h0 hl hc
section
variable {n c : Int} (V : aFj l fs t lc mn n c) (H : Asm l fs t lc) (hc0 : 0 ≤ c ∧ c ≤ 2097152 ∧ 0 ≤ n ∧ n ≤ 100)
include V H hc0
theorem pW (m : Int) (hm : 1≤m∧m≤3) (K : Int) (hK : 4≤K∧K≤1000000000) (j : Int) (hj : 0≤j∧j≤10) (ih : ∀ d i : Int,-500≤d→d≤n+1→0≤i→i<j→jD l fs t lc mn K (λF T L M C A S D=>cY (.int .i64 d) (.int .i64 m) (.int .i64 i) F T L M C A S D)) :
 ∀ d i : Int,-500≤d→d≤n+1→0≤i→i≤j→jD l fs t lc mn (K+c+4) (λF T L M C A S D=>cY (.int .i64 d) (.int .i64 m) (.int .i64 i) F T L M C A S D):=by
 intro d i hd1 hd2 hi1 hi2 a s cs h0 hl hc
 obtain ⟨hb,hfs,hfl,ht,hlc⟩:=H
 show Ok _ (cY _ _ _ _ _ _ _ _ _ _ _)
 rw [qM]
 refine cG (aD (λ_=>?_) (λ_=>?_))
 ·refine jI (by omega) (by omega) (by assumption) (by omega) (λ_ _ _=>?_)
  refine bO (by omega) ?_
  refine fU (V _ (by omega) (by omega)) (by omega) (by omega) (by assumption) (λ_ _ _ _ _=>?_)
  refine bJ hb (by omega) (by omega) (λ_ _ _ _=>?_)
  refine jI (by omega) (by omega) (by assumption) (by omega) (λ_ _ _=>?_)
  refine bO (by omega) ?_
  exact jB (ih d _ hd1 hd2 (by omega) (by omega)) (by omega) (by omega) (by assumption) (by omega) (by omega) (by omega)
 ·repeat' (first | refine jI (by omega) (by omega) (by assumption) (by omega) (λ_ _ _=>?_) | refine bJ hb (by omega) (by omega) (λ_ _ _ _=>?_) | refine iA hb (by omega) (by omega) (λ_ _ _ _=>?_) | refine cB (by omega) (by first | omega | (simp;omega)) ?_ | refine kG rfl (by omega) (by first | omega | (simp;omega)) (λ_ _=>?_) | refine eM (by assumption) (by omega) (by omega) (by omega) (λ_ _ _=>?_) | refine oT (by omega) ?_ | refine cP (by assumption) (by omega) (by omega) (by omega) (λ_ _ _=>?_) | refine aM ?_ | refine cE ?_ | refine cG ?_ | refine dA ?_ | refine aP ?_ | refine dB ?_ | (refine aD (λ_=>?_) (λ_=>?_)) | (refine bA (λ_=>?_) (λ_=>?_)) | refine aS (λ_=>?_) (λ_=>?_) | refine aK (by omega) ?_ | refine bO (by omega) ?_ | refine fV (by omega) (by omega) ?_ | refine gH (by omega) (by omega) (by omega) ?_ | refine gG (by omega) ?_ | refine gI (by omega) ?_ | refine bF ?_ | refine cT ?_ | refine dF ?_ | refine bB ?_ | refine fP (by omega) ?_ | refine bI rfl ?_ | refine aA rfl ?_ | refine bQ rfl ?_ | refine aG rfl ?_ | exact aB ⟨_,_,_,rfl,by omega,by omega,by omega,by omega,by omega,by omega,by assumption⟩)
theorem aHI : ∀ d : Int,-500≤d→d≤n+1→jD l fs t lc mn (4*c+40) (λF T L M C A S D=>fA (.int .i64 d) F T L M C A S D):=by
 intro d hd1 hd2 a s cs h0 hl hc
 have H':=H
 obtain ⟨hb,hfs,hfl,ht,hlc⟩:=H
 show Ok _ (fA _ _ _ _ _ _ _ _ _)
 rw [sY]
 refine bJ hb (by omega) (by omega) (λv _ _ _=>?_)
 refine aK (by omega) ?_
 refine jI (by omega) (by omega) (by assumption) (by omega) (λ_ _ _=>?_)
 refine aK (by omega) ?_
 refine bJ hb (by omega) (by omega) (λw _ _ _=>?_)
 have L0:=pW V H' hc0 (1+v) (by omega) 4 (by omega) 0 (by omega) (λd i _ _ h1 h2=>by omega)
 have L1:=pW V H' hc0 (1+v) (by omega) (4+c+4) (by omega) 1 (by omega) (λd i g1 g2 h1 h2=>L0 d i g1 g2 h1 (by omega))
 have L2:=pW V H' hc0 (1+v) (by omega) (4+c+4+c+4) (by omega) 2 (by omega) (λd i g1 g2 h1 h2=>L1 d i g1 g2 h1 (by omega))
 have L3:=pW V H' hc0 (1+v) (by omega) (4+c+4+c+4+c+4) (by omega) 3 (by omega) (λd i g1 g2 h1 h2=>L2 d i g1 g2 h1 (by omega))
 exact jB (L3 d w hd1 hd2 (by omega) (by omega)) (by omega) (by omega) (by assumption) (by omega) (by omega) (by omega)
def Par (fs : List PV) (i p : Int) : Prop:=0≤i∧i<fs.length∧(0≤p∧p≤2)∧∃ q r : PV,fs[i.toNat]? = some (.agg [.int .i64 p,q,r])
omit V H hc0 in
theorem aEk (H : Asm l fs t lc) {P : R→Prop} {k : PV→Option R} {i p : Int} (hp : Par fs i p) (h : ∀ q r : PV,Ok P (k (.agg [.int .i64 p,q,r]))) : Ok P (bd (PV.at_ 3 true (.lst fs) (.int .i64 i)) k):=by
 obtain ⟨h0,h1,_,q,r,hq⟩:=hp
 refine tD h0 h1 (gM.el H.hf) (λx _ hx=>?_)
 rw [hq] at hx
 cases hx
 exact h q r
omit V H hc0 in
theorem aIs (H : Asm l fs t lc) {i : Int} (h0 : 0≤i) (h1 : i<fs.length) : ∃ p,Par fs i p:=by
 have hlt : i.toNat<fs.length:=by omega
 have hx : fs[i.toNat]? = some fs[i.toNat]:=List.getElem?_eq_getElem hlt
 obtain ⟨p,lc,cs,he,hp,_⟩:=H.hf _ (List.mem_of_getElem? hx)
 exact ⟨p,h0,h1,hp,.int .i64 lc,.lst cs,by rw [hx,he]⟩
theorem uL (f p : Int) (hp : Par fs f p) (K : Int) (hK : 1≤K∧K≤100000000) (j : Int) (ih : ∀ d i : Int,-500≤d→d≤n+1→0≤i→i≤p→p - i<j→jD l fs t lc mn K (λF T L M C A S D=>bV (.int .i64 d) (.int .i64 f) (.int .i64 i) F T L M C A S D)) :
 ∀ d i : Int,-500≤d→d≤n+1→0≤i→i≤p→p - i≤j→jD l fs t lc mn (K+c) (λF T L M C A S D=>bV (.int .i64 d) (.int .i64 f) (.int .i64 i) F T L M C A S D):=by
 intro d i hd1 hd2 hi1 hi2 hi3 a s cs h0 hl hc
 have H':=H
 obtain ⟨hb,hfs,hfl,ht,hlc⟩:=H
 have hp':=hp.2.2.1
 have hf1:=hp.1
 have hf2:=hp.2.1
 show Ok _ (bV _ _ _ _ _ _ _ _ _ _ _)
 rw [qJ]
 refine aEk H' hp (λq r=>aA rfl (aM (aD (λ_=>?_) (λ_=>?_))))
 ·refine bO (by omega) ?_
  refine fU (V _ (by omega) (by omega)) (by omega) (by omega) (by assumption) (λ_ _ _ _ _=>?_)
  refine aK (by omega) ?_
  exact jB (ih d _ hd1 hd2 (by omega) (by omega) (by omega)) (by omega) (by omega) (by assumption) (by omega) (by omega) (by omega)
 ·repeat' (first | refine jI (by omega) (by omega) (by assumption) (by omega) (λ_ _ _=>?_) | refine bJ hb (by omega) (by omega) (λ_ _ _ _=>?_) | refine iA hb (by omega) (by omega) (λ_ _ _ _=>?_) | refine cB (by omega) (by first | omega | (simp;omega)) ?_ | refine kG rfl (by omega) (by first | omega | (simp;omega)) (λ_ _=>?_) | refine eM (by assumption) (by omega) (by omega) (by omega) (λ_ _ _=>?_) | refine oT (by omega) ?_ | refine cP (by assumption) (by omega) (by omega) (by omega) (λ_ _ _=>?_) | refine aM ?_ | refine cE ?_ | refine cG ?_ | refine dA ?_ | refine aP ?_ | refine dB ?_ | (refine aD (λ_=>?_) (λ_=>?_)) | (refine bA (λ_=>?_) (λ_=>?_)) | refine aS (λ_=>?_) (λ_=>?_) | refine aK (by omega) ?_ | refine bO (by omega) ?_ | refine fV (by omega) (by omega) ?_ | refine gH (by omega) (by omega) (by omega) ?_ | refine gG (by omega) ?_ | refine gI (by omega) ?_ | refine bF ?_ | refine cT ?_ | refine dF ?_ | refine bB ?_ | refine fP (by omega) ?_ | refine bI rfl ?_ | refine aA rfl ?_ | refine bQ rfl ?_ | refine aG rfl ?_ | exact aB ⟨_,_,_,rfl,by omega,by omega,by omega,by omega,by omega,by omega,by assumption⟩)
theorem aHJ (f : Int) (hf : 0≤f∧f<fs.length) : ∀ d : Int,-500≤d→d≤n+1→jD l fs t lc mn (3*c+10) (λF T L M C A S D=>bV (.int .i64 d) (.int .i64 f) (.int .i64 0) F T L M C A S D):=by
 intro d hd1 hd2
 obtain ⟨p,hp⟩:=aIs H hf.1 hf.2
 have hp':=hp.2.2.1
 have L0:=uL V H hc0 f p hp 1 (by omega) 0 (λd i _ _ h1 h2 h3=>by omega)
 have L1:=uL V H hc0 f p hp (1+c) (by omega) 1 (λd i g1 g2 h1 h2 h3=>L0 d i g1 g2 h1 h2 (by omega))
 have L2:=uL V H hc0 f p hp (1+c+c) (by omega) 2 (λd i g1 g2 h1 h2 h3=>L1 d i g1 g2 h1 h2 (by omega))
 exact (L2 d 0 hd1 hd2 (by omega) (by omega) (by omega)).mono (by omega)
theorem aAl (f p : Int) (hp : Par fs f p) (K : Int) (hK : 1≤K∧K≤100000000) (j : Int) (ih : ∀ d i : Int,-500≤d→d≤n+1→0≤i→i≤p→p - i<j→jD l fs t lc mn K (λF T L M C A S D=>cX (.int .i64 d) (.int .i64 f) (.int .i64 i) F T L M C A S D)) :
 ∀ d i : Int,-500≤d→d≤n+1→0≤i→i≤p→p - i≤j→jD l fs t lc mn (K+c) (λF T L M C A S D=>cX (.int .i64 d) (.int .i64 f) (.int .i64 i) F T L M C A S D):=by
 intro d i hd1 hd2 hi1 hi2 hi3 a s cs h0 hl hc
 have H':=H
 obtain ⟨hb,hfs,hfl,ht,hlc⟩:=H
 have hp':=hp.2.2.1
 have hf1:=hp.1
 have hf2:=hp.2.1
 show Ok _ (cX _ _ _ _ _ _ _ _ _ _ _)
 rw [qL]
 refine aEk H' hp (λq r=>aA rfl (aM (aD (λ_=>?_) (λ_=>?_))))
 ·refine bO (by omega) ?_
  refine fU (V _ (by omega) (by omega)) (by omega) (by omega) (by assumption) (λ_ _ _ _ _=>?_)
  refine aK (by omega) ?_
  exact jB (ih d _ hd1 hd2 (by omega) (by omega) (by omega)) (by omega) (by omega) (by assumption) (by omega) (by omega) (by omega)
 ·refine aEk H' hp (λq r=>aA rfl ?_)
  repeat' (first | refine jI (by omega) (by omega) (by assumption) (by omega) (λ_ _ _=>?_) | refine bJ hb (by omega) (by omega) (λ_ _ _ _=>?_) | refine iA hb (by omega) (by omega) (λ_ _ _ _=>?_) | refine cB (by omega) (by first | omega | (simp;omega)) ?_ | refine kG rfl (by omega) (by first | omega | (simp;omega)) (λ_ _=>?_) | refine eM (by assumption) (by omega) (by omega) (by omega) (λ_ _ _=>?_) | refine oT (by omega) ?_ | refine cP (by assumption) (by omega) (by omega) (by omega) (λ_ _ _=>?_) | refine aM ?_ | refine cE ?_ | refine cG ?_ | refine dA ?_ | refine aP ?_ | refine dB ?_ | (refine aD (λ_=>?_) (λ_=>?_)) | (refine bA (λ_=>?_) (λ_=>?_)) | refine aS (λ_=>?_) (λ_=>?_) | refine aK (by omega) ?_ | refine bO (by omega) ?_ | refine fV (by omega) (by omega) ?_ | refine gH (by omega) (by omega) (by omega) ?_ | refine gG (by omega) ?_ | refine gI (by omega) ?_ | refine bF ?_ | refine cT ?_ | refine dF ?_ | refine bB ?_ | refine fP (by omega) ?_ | refine bI rfl ?_ | refine aA rfl ?_ | refine bQ rfl ?_ | refine aG rfl ?_ | exact aB ⟨_,_,_,rfl,by omega,by omega,by omega,by omega,by omega,by omega,by assumption⟩)
theorem aI9 (f : Int) (hf : 0≤f∧f<fs.length) : ∀ d : Int,-500≤d→d≤n+1→jD l fs t lc mn (3*c+10) (λF T L M C A S D=>dU (.int .i64 d) (.int .i64 f) F T L M C A S D):=by
 intro d hd1 hd2 a s cs h0 hl hc
 obtain ⟨p,hp⟩:=aIs H hf.1 hf.2
 have hp':=hp.2.2.1
 have L0:=aAl V H hc0 f p hp 1 (by omega) 0 (λd i _ _ h1 h2 h3=>by omega)
 have L1:=aAl V H hc0 f p hp (1+c) (by omega) 1 (λd i g1 g2 h1 h2 h3=>L0 d i g1 g2 h1 h2 (by omega))
 have L2:=aAl V H hc0 f p hp (1+c+c) (by omega) 2 (λd i g1 g2 h1 h2 h3=>L1 d i g1 g2 h1 h2 (by omega))
 show Ok _ (dU _ _ _ _ _ _ _ _ _ _)
 rw [qK]
 exact jB (L2 d 0 hd1 hd2 (by omega) (by omega) (by omega)) (by omega) (by omega) (by assumption) (by omega) (by omega) (by omega)
set_option maxRecDepth 100000 in
set_option maxHeartbeats 4000000 in
theorem aCu : aFj l fs t lc mn (n+1) (4*c+50):=by
 intro d hd1 hd2 a s cs h0 hl hc
 have RO:=aHI V H hc0
 have IK:=aHJ V H hc0
 have CO:=aI9 V H hc0
 have C2:=aFi (mn:=mn) H
 obtain ⟨hb,hfs,hfl,ht,hlc⟩:=H
 show Ok _ (aJ _ _ _ _ _ _ _ _ _)
 rw [mO]
 repeat' (first | refine fU (V _ (by omega) (by omega)) (by omega) (by omega) (by assumption) (λ_ _ _ _ _=>?_) | refine fU (RO _ (by omega) (by omega)) (by omega) (by omega) (by assumption) (λ_ _ _ _ _=>?_) | exact jB C2 (by omega) (by omega) (by assumption) (by omega) (by omega) (by omega) | exact jB (IK _ (by omega) _ (by omega) (by omega)) (by omega) (by omega) (by assumption) (by omega) (by omega) (by omega) | exact jB (CO _ (by omega) _ (by omega) (by omega)) (by omega) (by omega) (by assumption) (by omega) (by omega) (by omega) | refine jI (by omega) (by omega) (by assumption) (by omega) (λ_ _ _=>?_) | refine bJ hb (by omega) (by omega) (λ_ _ _ _=>?_) | refine iA hb (by omega) (by omega) (λ_ _ _ _=>?_) | refine cB (by omega) (by first | omega | (simp;omega)) ?_ | refine kG rfl (by omega) (by first | omega | (simp;omega)) (λ_ _=>?_) | refine eM (by assumption) (by omega) (by omega) (by omega) (λ_ _ _=>?_) | refine oT (by omega) ?_ | refine cP (by assumption) (by omega) (by omega) (by omega) (λ_ _ _=>?_) | refine aM ?_ | refine cE ?_ | refine cG ?_ | refine dA ?_ | refine aP ?_ | refine dB ?_ | (refine aD (λ_=>?_) (λ_=>?_)) | (refine bA (λ_=>?_) (λ_=>?_)) | refine aS (λ_=>?_) (λ_=>?_) | refine aK (by omega) ?_ | refine bO (by omega) ?_ | refine fV (by omega) (by omega) ?_ | refine gH (by omega) (by omega) (by omega) ?_ | refine gG (by omega) ?_ | refine gI (by omega) ?_ | refine bF ?_ | refine cT ?_ | refine dF ?_ | refine bB ?_ | refine fP (by omega) ?_ | refine bI rfl ?_ | refine aA rfl ?_ | refine bQ rfl ?_ | refine aG rfl ?_ | exact aB ⟨_,_,_,rfl,by omega,by omega,by omega,by omega,by omega,by omega,by assumption⟩)
end
end
section
variable {l : List Int} {fs : List PV} {t lc : Int} {mn : PV}
theorem yY (H : Asm l fs t lc) : aFj l fs t lc mn 1 62:=aCu (aGN H) H (by omega)
theorem aEl (H : Asm l fs t lc) : aFj l fs t lc mn 2 298:=aCu (yY H) H (by omega)
theorem aJa (H : Asm l fs t lc) : jD l fs t lc mn 100 (λF T L M C A S D=>iZ F T L M C A S D):=by
 intro a s cs h0 hl hc
 have V1:=yY (mn:=mn) H
 have V0:=aGN (mn:=mn) H
 obtain ⟨hb,hfs,hfl,ht,hlc⟩:=H
 show Ok _ (iZ _ _ _ _ _ _ _ _)
 rw [vN]
 refine fU (V1 _ (by omega) (by omega)) (by omega) (by omega) (by assumption) (λ_ _ _ _ _=>?_)
 refine fU (V0 _ (by omega) (by omega)) (by omega) (by omega) (by assumption) (λ_ _ _ _ _=>?_)
 repeat' (first | refine jI (by omega) (by omega) (by assumption) (by omega) (λ_ _ _=>?_) | refine bJ hb (by omega) (by omega) (λ_ _ _ _=>?_) | refine iA hb (by omega) (by omega) (λ_ _ _ _=>?_) | refine cB (by omega) (by first | omega | (simp;omega)) ?_ | refine kG rfl (by omega) (by first | omega | (simp;omega)) (λ_ _=>?_) | refine eM (by assumption) (by omega) (by omega) (by omega) (λ_ _ _=>?_) | refine oT (by omega) ?_ | refine cP (by assumption) (by omega) (by omega) (by omega) (λ_ _ _=>?_) | refine aM ?_ | refine cE ?_ | refine cG ?_ | refine dA ?_ | refine aP ?_ | refine dB ?_ | (refine aD (λ_=>?_) (λ_=>?_)) | (refine bA (λ_=>?_) (λ_=>?_)) | refine aS (λ_=>?_) (λ_=>?_) | refine aK (by omega) ?_ | refine bO (by omega) ?_ | refine fV (by omega) (by omega) ?_ | refine gH (by omega) (by omega) (by omega) ?_ | refine gG (by omega) ?_ | refine gI (by omega) ?_ | refine bF ?_ | refine cT ?_ | refine dF ?_ | refine bB ?_ | refine fP (by omega) ?_ | refine bI rfl ?_ | refine aA rfl ?_ | refine bQ rfl ?_ | refine aG rfl ?_ | exact aB ⟨_,_,_,rfl,by omega,by omega,by omega,by omega,by omega,by omega,by assumption⟩)
def aGc (l : List Int) (fs : List PV) (t lc : Int) (mn : PV) (n c : Int) : Prop:=∀ d : Int,-100≤d→d≤n→jD l fs t lc mn c (λF T L M C A S D=>gD (.int .i64 d) F T L M C A S D)
def aEm (l : List Int) (fs : List PV) (t lc : Int) (mn : PV) (n q c : Int) : Prop:=∀ d : Int,-100≤d→d≤n→jD l fs t lc mn c (λF T L M C A S D=>dZ (.int .i64 d) (.int .i64 q) F T L M C A S D)
set_option maxRecDepth 100000 in
set_option maxHeartbeats 4000000 in
theorem aJO (H : Asm l fs t lc) : aGc l fs t lc mn 0 500:=by
 intro d hd1 hd2 a s cs h0 hl hc
 have V1:=yY (mn:=mn) H
 have V2:=aEl (mn:=mn) H
 obtain ⟨hb,hfs,hfl,ht,hlc⟩:=H
 show Ok _ (gD _ _ _ _ _ _ _ _ _)
 rw [nF]
 repeat' (first | (exfalso;omega) | (first | refine fU (V1 _ (by omega) (by omega)) (by omega) (by omega) (by assumption) (λ_ _ _ _ _=>?_) | refine fU (V2 _ (by omega) (by omega)) (by omega) (by omega) (by assumption) (λ_ _ _ _ _=>?_) | refine fU TE (by omega) (by omega) (by assumption) (λ_ _ _ _ _=>?_) | refine fU (L _ (by omega) (by omega)) (by omega) (by omega) (by assumption) (λ_ _ _ _ _=>?_) | exact jB (C7 _ _ (by omega) (by omega) (by omega)) (by omega) (by omega) (by assumption) (by omega) (by omega) (by omega) | refine jI (by omega) (by omega) (by assumption) (by omega) (λ_ _ _=>?_) | refine bJ hb (by omega) (by omega) (λ_ _ _ _=>?_) | refine iA hb (by omega) (by omega) (λ_ _ _ _=>?_) | refine cB (by omega) (by first | omega | (simp;omega)) ?_ | refine kG rfl (by omega) (by first | omega | (simp;omega)) (λ_ _=>?_) | refine eM (by assumption) (by omega) (by omega) (by omega) (λ_ _ _=>?_) | refine oT (by omega) ?_ | refine cP (by assumption) (by omega) (by omega) (by omega) (λ_ _ _=>?_) | refine aM ?_ | refine cE ?_ | refine cG ?_ | refine dA ?_ | refine aP ?_ | refine dB ?_ | (refine aD (λ_=>?_) (λ_=>?_)) | (refine bA (λ_=>?_) (λ_=>?_)) | refine aS (λ_=>?_) (λ_=>?_) | refine aK (by omega) ?_ | refine bO (by omega) ?_ | refine fV (by omega) (by omega) ?_ | refine gH (by omega) (by omega) (by omega) ?_ | refine gG (by omega) ?_ | refine gI (by omega) ?_ | refine bF ?_ | refine cT ?_ | refine dF ?_ | refine bB ?_ | refine fP (by omega) ?_ | refine bI rfl ?_ | refine aA rfl ?_ | refine bQ rfl ?_ | refine aG rfl ?_ | exact aB ⟨_,_,_,rfl,by omega,by omega,by omega,by omega,by omega,by omega,by assumption⟩))
section
variable {n c : Int} (L : aEm l fs t lc mn n 2 c) (H : Asm l fs t lc) (hc0 : 0 ≤ c ∧ c ≤ 100000 ∧ 0 ≤ n ∧ n ≤ 50)
include L H hc0
set_option maxRecDepth 100000 in
set_option maxHeartbeats 4000000 in
theorem aJb : ∀ d x : Int,1≤d→d≤n+1→0≤x∧x≤1000→jD l fs t lc mn (c+100) (λF T L M C A S D=>eP (.int .i64 d) (.int .i64 x) F T L M C A S D):=by
 intro d x hd1 hd2 hx a s cs h0 hl hc
 obtain ⟨hb,hfs,hfl,ht,hlc⟩:=H
 show Ok _ (eP _ _ _ _ _ _ _ _ _ _)
 rw [sB]
 repeat' (first | refine fU (L _ (by omega) (by omega)) (by omega) (by omega) (by assumption) (λ_ _ _ _ _=>?_) | (first | refine jI (by omega) (by omega) (by assumption) (by omega) (λ_ _ _=>?_) | refine bJ hb (by omega) (by omega) (λ_ _ _ _=>?_) | refine iA hb (by omega) (by omega) (λ_ _ _ _=>?_) | refine cB (by omega) (by first | omega | (simp;omega)) ?_ | refine kG rfl (by omega) (by first | omega | (simp;omega)) (λ_ _=>?_) | refine eM (by assumption) (by omega) (by omega) (by omega) (λ_ _ _=>?_) | refine oT (by omega) ?_ | refine cP (by assumption) (by omega) (by omega) (by omega) (λ_ _ _=>?_) | refine aM ?_ | refine cE ?_ | refine cG ?_ | refine dA ?_ | refine aP ?_ | refine dB ?_ | (refine aD (λ_=>?_) (λ_=>?_)) | (refine bA (λ_=>?_) (λ_=>?_)) | refine aS (λ_=>?_) (λ_=>?_) | refine aK (by omega) ?_ | refine bO (by omega) ?_ | refine fV (by omega) (by omega) ?_ | refine gH (by omega) (by omega) (by omega) ?_ | refine gG (by omega) ?_ | refine gI (by omega) ?_ | refine bF ?_ | refine cT ?_ | refine dF ?_ | refine bB ?_ | refine fP (by omega) ?_ | refine bI rfl ?_ | refine aA rfl ?_ | refine bQ rfl ?_ | refine aG rfl ?_ | exact aB ⟨_,_,_,rfl,by omega,by omega,by omega,by omega,by omega,by omega,by assumption⟩))
set_option maxRecDepth 100000 in
set_option maxHeartbeats 4000000 in
theorem aDz : aGc l fs t lc mn (n+1) (c+600):=by
 intro d hd1 hd2 a s cs h0 hl hc
 have V1:=yY (mn:=mn) H
 have V2:=aEl (mn:=mn) H
 have TE:=aJa (mn:=mn) H
 have C7:=aJb L H hc0
 obtain ⟨hb,hfs,hfl,ht,hlc⟩:=H
 show Ok _ (gD _ _ _ _ _ _ _ _ _)
 rw [nF]
 repeat' (first | refine fU (V1 _ (by omega) (by omega)) (by omega) (by omega) (by assumption) (λ_ _ _ _ _=>?_) | refine fU (V2 _ (by omega) (by omega)) (by omega) (by omega) (by assumption) (λ_ _ _ _ _=>?_) | refine fU TE (by omega) (by omega) (by assumption) (λ_ _ _ _ _=>?_) | refine fU (L _ (by omega) (by omega)) (by omega) (by omega) (by assumption) (λ_ _ _ _ _=>?_) | exact jB (C7 _ _ (by omega) (by omega) (by omega)) (by omega) (by omega) (by assumption) (by omega) (by omega) (by omega) | refine jI (by omega) (by omega) (by assumption) (by omega) (λ_ _ _=>?_) | refine bJ hb (by omega) (by omega) (λ_ _ _ _=>?_) | refine iA hb (by omega) (by omega) (λ_ _ _ _=>?_) | refine cB (by omega) (by first | omega | (simp;omega)) ?_ | refine kG rfl (by omega) (by first | omega | (simp;omega)) (λ_ _=>?_) | refine eM (by assumption) (by omega) (by omega) (by omega) (λ_ _ _=>?_) | refine oT (by omega) ?_ | refine cP (by assumption) (by omega) (by omega) (by omega) (λ_ _ _=>?_) | refine aM ?_ | refine cE ?_ | refine cG ?_ | refine dA ?_ | refine aP ?_ | refine dB ?_ | (refine aD (λ_=>?_) (λ_=>?_)) | (refine bA (λ_=>?_) (λ_=>?_)) | refine aS (λ_=>?_) (λ_=>?_) | refine aK (by omega) ?_ | refine bO (by omega) ?_ | refine fV (by omega) (by omega) ?_ | refine gH (by omega) (by omega) (by omega) ?_ | refine gG (by omega) ?_ | refine gI (by omega) ?_ | refine bF ?_ | refine cT ?_ | refine dF ?_ | refine bB ?_ | refine fP (by omega) ?_ | refine bI rfl ?_ | refine aA rfl ?_ | refine bQ rfl ?_ | refine aG rfl ?_ | exact aB ⟨_,_,_,rfl,by omega,by omega,by omega,by omega,by omega,by omega,by assumption⟩)
end
section
variable {n c : Int} (S : aGc l fs t lc mn n c) (H : Asm l fs t lc) (hc0 : 0 ≤ c ∧ c ≤ 100000 ∧ 0 ≤ n ∧ n ≤ 50)
include S H hc0
theorem lV (K : Int) (hK : 0≤K∧K≤10000000) (j : Int) (hj : 0≤j∧j≤100) (ih : ∀ d i : Int,-100≤d→d≤n→0≤i→i<j→jD l fs t lc mn K (λF T L M C A S D=>dN (.int .i64 d) (.int .i64 i) F T L M C A S D)) :
 ∀ d i : Int,-100≤d→d≤n→0≤i→i≤j→jD l fs t lc mn (K+c) (λF T L M C A S D=>dN (.int .i64 d) (.int .i64 i) F T L M C A S D):=by
 intro d i hd1 hd2 hi1 hi2 a s cs h0 hl hc
 obtain ⟨hb,hfs,hfl,ht,hlc⟩:=H
 show Ok _ (dN _ _ _ _ _ _ _ _ _ _)
 rw [sA]
 refine cG (aD (λ_=>?_) (λ_=>?_))
 ·refine cT (aM (aD (λ_=>?_) (λ_=>?_)))
  ·refine fU (S _ hd1 hd2) (by omega) (by omega) (by assumption) (λ_ _ _ _ _=>?_)
   refine bO (by omega) ?_
   exact jB (ih d _ hd1 hd2 (by omega) (by omega)) (by omega) (by omega) (by assumption) (by omega) (by omega) (by omega)
  ·repeat' (first | refine jI (by omega) (by omega) (by assumption) (by omega) (λ_ _ _=>?_) | refine bJ hb (by omega) (by omega) (λ_ _ _ _=>?_) | refine iA hb (by omega) (by omega) (λ_ _ _ _=>?_) | refine cB (by omega) (by first | omega | (simp;omega)) ?_ | refine kG rfl (by omega) (by first | omega | (simp;omega)) (λ_ _=>?_) | refine eM (by assumption) (by omega) (by omega) (by omega) (λ_ _ _=>?_) | refine oT (by omega) ?_ | refine cP (by assumption) (by omega) (by omega) (by omega) (λ_ _ _=>?_) | refine aM ?_ | refine cE ?_ | refine cG ?_ | refine dA ?_ | refine aP ?_ | refine dB ?_ | (refine aD (λ_=>?_) (λ_=>?_)) | (refine bA (λ_=>?_) (λ_=>?_)) | refine aS (λ_=>?_) (λ_=>?_) | refine aK (by omega) ?_ | refine bO (by omega) ?_ | refine fV (by omega) (by omega) ?_ | refine gH (by omega) (by omega) (by omega) ?_ | refine gG (by omega) ?_ | refine gI (by omega) ?_ | refine bF ?_ | refine cT ?_ | refine dF ?_ | refine bB ?_ | refine fP (by omega) ?_ | refine bI rfl ?_ | refine aA rfl ?_ | refine bQ rfl ?_ | refine aG rfl ?_ | exact aB ⟨_,_,_,rfl,by omega,by omega,by omega,by omega,by omega,by omega,by assumption⟩)
 ·repeat' (first | refine jI (by omega) (by omega) (by assumption) (by omega) (λ_ _ _=>?_) | refine bJ hb (by omega) (by omega) (λ_ _ _ _=>?_) | refine iA hb (by omega) (by omega) (λ_ _ _ _=>?_) | refine cB (by omega) (by first | omega | (simp;omega)) ?_ | refine kG rfl (by omega) (by first | omega | (simp;omega)) (λ_ _=>?_) | refine eM (by assumption) (by omega) (by omega) (by omega) (λ_ _ _=>?_) | refine oT (by omega) ?_ | refine cP (by assumption) (by omega) (by omega) (by omega) (λ_ _ _=>?_) | refine aM ?_ | refine cE ?_ | refine cG ?_ | refine dA ?_ | refine aP ?_ | refine dB ?_ | (refine aD (λ_=>?_) (λ_=>?_)) | (refine bA (λ_=>?_) (λ_=>?_)) | refine aS (λ_=>?_) (λ_=>?_) | refine aK (by omega) ?_ | refine bO (by omega) ?_ | refine fV (by omega) (by omega) ?_ | refine gH (by omega) (by omega) (by omega) ?_ | refine gG (by omega) ?_ | refine gI (by omega) ?_ | refine bF ?_ | refine cT ?_ | refine dF ?_ | refine bB ?_ | refine fP (by omega) ?_ | refine bI rfl ?_ | refine aA rfl ?_ | refine bQ rfl ?_ | refine aG rfl ?_ | exact aB ⟨_,_,_,rfl,by omega,by omega,by omega,by omega,by omega,by omega,by assumption⟩)
theorem aEn (q : Int) (hq : 1≤q∧q≤6) : aEm l fs t lc mn n q (7*c+2):=by
 intro d hd1 hd2 a s cs h0 hl hc
 have L0:=lV S H hc0 0 (by omega) 0 (by omega) (λd i _ _ h1 h2=>by omega)
 have L1:=lV S H hc0 (0+c) (by omega) 1 (by omega) (λd i g1 g2 h1 h2=>L0 d i g1 g2 h1 (by omega))
 have L2:=lV S H hc0 (0+c+c) (by omega) 2 (by omega) (λd i g1 g2 h1 h2=>L1 d i g1 g2 h1 (by omega))
 have L3:=lV S H hc0 (0+c+c+c) (by omega) 3 (by omega) (λd i g1 g2 h1 h2=>L2 d i g1 g2 h1 (by omega))
 have L4:=lV S H hc0 (0+c+c+c+c) (by omega) 4 (by omega) (λd i g1 g2 h1 h2=>L3 d i g1 g2 h1 (by omega))
 have L5:=lV S H hc0 (0+c+c+c+c+c) (by omega) 5 (by omega) (λd i g1 g2 h1 h2=>L4 d i g1 g2 h1 (by omega))
 have hb:=H.hl
 show Ok _ (dZ _ _ _ _ _ _ _ _ _ _)
 rw [vL]
 refine bJ hb (by omega) (by omega) (λv _ _ _=>?_)
 refine aK (by omega) ?_
 by_cases hv : 1+v≤5
 ·exact jB ((L5 d (1+v) hd1 hd2 (by omega) hv)) (by omega) (by omega) (by assumption) (by omega) (by omega) (by omega)
 ·have L6:=lV S H hc0 (0+c+c+c+c+c+c) (by omega) 6 (by omega) (λd i g1 g2 h1 h2=>L5 d i g1 g2 h1 (by omega))
  exact jB ((L6 d (1+v) hd1 hd2 (by omega) (by omega))) (by omega) (by omega) (by assumption) (by omega) (by omega) (by omega)
end
theorem aIt (H : Asm l fs t lc) : aEm l fs t lc mn 1 2 30000:=λd h1 h2=>
 (aEn (aDz (aEn (aJO (mn:=mn) H) H (by omega) 2 (by omega)) H (by omega)) H (by omega) 2 (by omega) d h1 (by omega)).mono (by omega)
theorem aJP (H : Asm l fs t lc) (q : Int) (hq : 1≤q∧q≤6) : aEm l fs t lc mn 2 q 500000:=λd h1 h2=>
 (aEn (aDz (aIt (mn:=mn) H) H (by omega)) H (by omega) q hq d h1 (by omega)).mono (by omega)
end
def iB (x : PV) : Prop:=∃ b : ByteArray,x = .str b∧b.size≤1000
theorem iB.el {ts : List PV} (h : ∀ x∈ts,iB x) : ∀ x∈ts,x.isEl 1 false=true:=by
 intro x hx
 obtain ⟨b,rfl,_⟩:=h x hx
 rfl
def aCv (l : List Int) (A : Int) (r : R) : Prop:=∃ a s : Int,∃ ts fs : List PV,r = [.agg [.lst ts,.lst fs],aZ l,.int .i64 a,.int .i64 s]∧0≤a∧a≤A∧0≤s∧s<65521∧(∀ x∈ts,iB x)∧ts.length≤10∧(∀ x∈fs,gM x)∧1≤fs.length∧fs.length≤10
section
variable {l : List Int} (hl : Bts l) {ts : List PV} (hts : ∀ x ∈ ts, iB x) (htn : ts.length ≤ 10)
include hl hts htn
set_option maxRecDepth 100000 in
set_option maxHeartbeats 4000000 in
theorem aGO {a s : Int} {hs : List PV} {x4 x5 x7 : PV} (h0 : 0≤a∧a+2097152≤900000000∧0≤s∧s<65521) (hh : ∀ x∈hs,gM x) (hn : hs.length≤3) :
 Ok (aCv l (a+2097152)) (dT (.int .i64 0) (aZ l) (.int .i64 a) (.int .i64 s) x4 x5 (.lst ts) x7 (.lst hs)):=by
 rw [jV]
 refine cG (aD (λh=>by omega) (λ_=>?_))
 refine bJ hl (by omega) (by omega) (λp a1 s1 h1=>?_)
 refine bJ hl (by omega) (by omega) (λq a2 s2 h2=>?_)
 refine aK (by omega) (bI rfl (bI rfl (cT (bI rfl (bI rfl ?_)))))
 have H : Asm l hs (ts.length : Int) (3+q):=⟨hl,hh,by omega,by omega,by omega⟩
 refine aIV hl (by omega) (by omega) (λw a3 s3 h3=>?_)
 refine aK (by omega) ?_
 refine fU (aJP (mn:=.bool true) H (1+w) (by omega) 2 (by omega) (by omega)) (by omega) (by simp) Cd.nil (λa4 s4 c4 h4 k4=>?_)
 simp only [List.length_nil,Int.natCast_zero] at h4
 refine fU (yY (mn:=.bool true) H 1 (by omega) (by omega)) (by omega) (by omega) k4 (λa5 s5 c5 h5 k5=>?_)
 refine jI (by omega) (by omega) k5 (by omega) (λc6 k6 h6=>?_)
 refine nW (by simp;omega) (gM.el hh) ?_
 refine aB ⟨a5,s5,ts,_,rfl,by omega,by omega,by omega,by omega,hts,htn,?_,by simp,by simp;omega⟩
 intro x hx
 rcases List.mem_append.1 hx with hx | hx
 ·simp only [List.mem_singleton] at hx
  exact ⟨p,3+q,c6,hx,by omega,by omega,k6,by omega,by omega⟩
 ·exact hh x hx
set_option maxRecDepth 100000 in
set_option maxHeartbeats 4000000 in
theorem aCw (x4 x5 x7 : PV) : ∀ (j : Nat) (k a s : Int) (hs : List PV),0≤k→k≤j→(0≤a∧a+2097152+100000*k≤900000000∧0≤s∧s<65521)→(∀ x∈hs,gM x)→(hs.length : Int)+k≤3→
 Ok (aCv l (a+2097152+100000*k)) (dT (.int .i64 k) (aZ l) (.int .i64 a) (.int .i64 s) x4 x5 (.lst ts) x7 (.lst hs)):=by
 intro j
 induction j with
 | zero=>
   intro k a s hs hk1 hk2 h0 hh hn
   have : k=0:=by omega
   subst this
   refine (aGO hl hts htn (by omega) hh (by omega)).mono ?_
   rintro r ⟨a',s',ts',fs',hr,h1,h2,h3⟩
   exact ⟨a',s',ts',fs',hr,h1,by omega,h3⟩
 | succ j ih=>
   intro k a s hs hk1 hk2 h0 hh hn
   by_cases hk : k=0
   ·subst hk
    refine (aGO hl hts htn (by omega) hh (by omega)).mono ?_
    rintro r ⟨a',s',ts',fs',hr,h1,h2,h3⟩
    exact ⟨a',s',ts',fs',hr,h1,by omega,h3⟩
   rw [jV]
   refine cG (aD (λ_=>?_) (λh=>by omega))
   refine bJ hl (by omega) (by omega) (λp a1 s1 h1=>?_)
   refine bI rfl (aK (by omega) ?_)
   refine bJ hl (by omega) (by omega) (λq a2 s2 h2=>?_)
   refine aK (by omega) (bI rfl (cT ?_))
   refine xT (by omega) (gM.el hh) (bI rfl (bI rfl ?_))
   have H : Asm l hs (ts.length : Int) (1+p+q):=⟨hl,hh,by omega,by omega,by omega⟩
   have C15 : ∀ (a s : Int) (cs : List PV),(0≤a∧a+2097152+100000*(k - 1)+1000≤900000000∧0≤s∧s<65521)→Cd cs→(cs.length : Int)≤2097152→
    Ok (aCv l (a+2097152+100000*(k - 1)+1000)) (eT (.int .i64 k) (aZ l) (.int .i64 a) (.int .i64 s) (.int .i64 p) (.int .i64 (1+p+q)) (.lst hs) (.int .i64 ts.length) (.int .i64 (1+p+q)) (.bool false) x4 x5 (.lst ts) x7 (.lst hs) (.lst []) (.lst cs)):=by
    intro a s cs h0 hc hcl
    rw [oY]
    refine fU (aEl (mn:=.bool false) H 2 (by omega) (by omega)) (by omega) (by omega) hc (λa5 s5 c5 h5 k5=>?_)
    refine jI (by omega) (by omega) k5 (by omega) (λc6 k6 h6=>?_)
    have hnew : ∀ x∈[PV.agg [.int .i64 p,.int .i64 (1+p+q),.lst c6]],gM x:=by
     intro x hx
     simp only [List.mem_singleton] at hx
     exact ⟨p,1+p+q,c6,hx,by omega,by omega,k6,by omega,by omega⟩
    refine nW (by simp;omega) (gM.el hnew) (bO (by omega) ?_)
    refine (ih (k - 1) a5 s5 (hs++[.agg [.int .i64 p,.int .i64 (1+p+q),.lst c6]]) (by omega) (by omega) (by omega) (λx hx=>(List.mem_append.1 hx).elim (hh x) (hnew x)) (by simp;omega)).mono ?_
    rintro r ⟨a',s',ts',fs',hr,h1,h2,h3⟩
    exact ⟨a',s',ts',fs',hr,h1,by omega,h3⟩
   refine iA hl (by omega) (by omega) (λb a3 s3 h3=>?_)
   refine aS (λ_=>?_) (λ_=>?_)
   ·refine fU (aIt (mn:=.bool false) H 1 (by omega) (by omega)) (by omega) (by simp) Cd.nil (λa4 s4 c4 h4 k4=>?_)
    simp only [List.length_nil,Int.natCast_zero] at h4
    refine (C15 a4 s4 c4 (by omega) k4 (by omega)).mono ?_
    rintro r ⟨a',s',ts',fs',hr,h1,h2,h3⟩
    exact ⟨a',s',ts',fs',hr,h1,by omega,h3⟩
   ·refine (C15 a3 s3 [] (by omega) Cd.nil (by simp)).mono ?_
    rintro r ⟨a',s',ts',fs',hr,h1,h2,h3⟩
    exact ⟨a',s',ts',fs',hr,h1,by omega,h3⟩
end
theorem aFk : ∀ x∈[PV.str (bs []),PV.str (bs [97]),PV.str (bs [98,99]),PV.str (bs [104,101,108,108,111,32,119,111,114,108,100]),PV.str (bs [120,32,121])],iB x:=by
 intro x hx
 simp only [List.mem_cons,List.not_mem_nil,or_false] at hx
 rcases hx with rfl | rfl | rfl | rfl | rfl<;>exact ⟨_,rfl,Nat.le_of_ble_eq_true rfl⟩
theorem aIu {l : List Int} (hl : Bts l) (x4 x5 : PV) : ∀ (j : Nat) (k a s : Int) (ts : List PV),0≤k→k≤j→(0≤a∧a+2500000+k≤900000000∧0≤s∧s<65521)→(∀ x∈ts,iB x)→(ts.length : Int)+k≤10→
 Ok (aCv l (a+2500000+k)) (fC (.int .i64 k) (aZ l) (.int .i64 a) (.int .i64 s) x4 x5 (.lst ts) (.lst [])):=by
 intro j
 induction j with
 | zero=>
   intro k a s ts hk1 hk2 h0 ht hn
   rw [jU]
   refine cG (aD (λh=>by omega) (λ_=>?_))
   refine bJ hl (by omega) (by omega) (λp a1 s1 h1=>?_)
   refine (aCw hl ht (by omega) x4 x5 (.lst []) 3 p a1 s1 [] (by omega) (by omega) (by omega) (λx hx=>by cases hx) (by simp;omega)).mono ?_
   rintro r ⟨a',s',ts',fs',hr,h1,h2,h3⟩
   exact ⟨a',s',ts',fs',hr,h1,by omega,h3⟩
 | succ j ih=>
   intro k a s ts hk1 hk2 h0 ht hn
   rw [jU]
   refine cG (aD (λ_=>?_) (λ_=>?_))
   ·refine bJ hl (by omega) (by omega) (λp a1 s1 h1=>?_)
    refine cB (by omega) (by simp;omega) ?_
    refine tD (by omega) (by simp;omega) (iB.el aFk) (λx hx _=>?_)
    have hone : ∀ y∈[x],iB y:=λy hy=>by simp only [List.mem_singleton] at hy;rw [hy];exact aFk x hx
    refine xT (by simp) (iB.el hone) ?_
    refine nW (by simp;omega) (iB.el hone) (bO (by omega) ?_)
    refine (ih (k - 1) a1 s1 (ts++[x]) (by omega) (by omega) (by omega) (λy hy=>(List.mem_append.1 hy).elim (ht y) (hone y)) (by simp;omega)).mono ?_
    rintro r ⟨a',s',ts',fs',hr,h1,h2,h3⟩
    exact ⟨a',s',ts',fs',hr,h1,by omega,h3⟩
   ·refine bJ hl (by omega) (by omega) (λp a1 s1 h1=>?_)
    refine (aCw hl ht (by omega) x4 x5 (.lst []) 3 p a1 s1 [] (by omega) (by omega) (by omega) (λx hx=>by cases hx) (by simp;omega)).mono ?_
    rintro r ⟨a',s',ts',fs',hr,h1,h2,h3⟩
    exact ⟨a',s',ts',fs',hr,h1,by omega,h3⟩
theorem wD {l : List Int} (hl : Bts l) {a s : Int} (h0 : 0≤a∧a≤800000000∧0≤s∧s<65521) : Ok (aCv l (a+3000000)) (gK (aZ l) (.int .i64 a) (.int .i64 s)):=by
 rw [sV]
 refine bJ hl (by omega) (by omega) (λp a1 s1 h1=>?_)
 refine (aIu hl (.lst []) (.lst []) 2 p a1 s1 [] (by omega) (by omega) (by omega) (λx hx=>by cases hx) (by simp;omega)).mono ?_
 rintro r ⟨a',s',ts',fs',hr,h1,h2,h3⟩
 exact ⟨a',s',ts',fs',hr,h1,by omega,h3⟩
theorem aHK {ts fs : List PV} (hf : ∀ x∈fs,gM x) (hn : fs.length≤100) (x3 x4 : PV) : ∀ (j i : Nat),fs.length - i=j→i≤fs.length→
 Ok (λr=>r = [.lst ts,.lst fs]) (fD (.int .i64 i) (.lst ts) (.lst fs) x3 x4 (.lst ts) (.lst (fs.take i))):=by
 intro j
 induction j with
 | zero=>
   intro i h1 h2
   rw [jW]
   have : i=fs.length:=by omega
   subst this
   refine cT (aM (aD (λh=>by omega) (λ_=>aB ?_)))
   rw [List.take_length]
 | succ j ih=>
   intro i h1 h2
   rw [jW]
   refine cT (aM (aD (λ_=>?_) (λh=>by omega)))
   refine tD (by omega) (by omega) (gM.el hf) (λx hx hi=>?_)
   obtain ⟨p,lc,cs,rfl,hp,hlc,hc,hc1,hc2⟩:=hf x hx
   refine aG rfl (aA rfl (aA rfl (aA rfl ?_)))
   refine xT (by omega) hc.el (bI rfl (bI rfl ?_))
   have hone : ∀ y∈[PV.agg [.int .i64 p,.int .i64 lc,.lst cs]],gM y:=λy hy=>by
    simp only [List.mem_singleton] at hy
    exact ⟨p,lc,cs,hy,hp,hlc,hc,hc1,hc2⟩
   refine nW (by simp;omega) (gM.el hone) (aK (by omega) ?_)
   have htk : fs.take i++[PV.agg [.int .i64 p,.int .i64 lc,.lst cs]]=fs.take (i+1):=by
    have hi' : fs[i]? = some (.agg [.int .i64 p,.int .i64 lc,.lst cs]):=by simpa using hi
    rw [List.take_add_one,hi'];rfl
   rw [htk]
   exact ih (i+1) (by omega) (by omega)
theorem aJc {ts fs : List PV} (ht : ∀ x∈ts,iB x) (htn : ts.length≤10) (hf : ∀ x∈fs,gM x) (hn : fs.length≤100) :
 Ok (λr=>r = [.lst ts,.lst fs]) (kK (.agg [.lst ts,.lst fs])):=by
 rw [sW]
 refine aG rfl (aA rfl (aA rfl ?_))
 refine xT (by omega) (iB.el ht) ?_
 have:=aHK (ts:=ts) hf hn (.lst []) (.lst []) fs.length 0 (by omega) (by omega)
 exact this
end
end Go.Proofs.YtllmobkkbpdchaaGreat
