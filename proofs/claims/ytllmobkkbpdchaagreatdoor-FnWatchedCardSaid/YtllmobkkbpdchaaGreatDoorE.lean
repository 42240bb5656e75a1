/-
  Texts of the proof, part 5: a value-level evaluator and its soundness, what the functions compute, laws about it.
  Conditions: none.
-/
import Derived.Test.YtllmobkkbpdchaaGreatDoorD
import Derived.Lib.Strings
set_option linter.all false
namespace Go.Proofs.YtllmobkkbpdchaaGreatDoor
noncomputable section
open Go
variable (a b c d e f g h i j k l m n o q r s t u v w x y z A B C D : PV)
theorem aKu : aCV a=bd (aK a) λb=>bd (aD .rem b (.I 1000)) λc=>bd (aD .add (.I 11) c) λd=>bd (aS a) λe=>bd (aS d) λf=>some [e,(.I 0),f]:=sE
theorem aFP : wP a b c=bd (fH (.I 25) a b c) λd=>aV (gd d 0) (bd (yM (.I 2) (gd d 1) (gd d 2) (gd d 3)) λe=>w2 (gd e 0) λf g=>some [(.agg [f,g]),(gd e 1),(gd e 2),(gd e 3)]) (bd (wR (gd d 1) (gd d 2) (gd d 3)) λh=>w2 (gd h 0) λi j=>some [(.agg [i,j]),(gd h 1),(gd h 2),(gd h 3)]):=sE
theorem aFQ : wQ a b c d e=oI (.I 0) c d e a b (.lst []):=sE
theorem vL : oI a b c d e f g=bd (aB 3 true f (.I 0)) λh=>bd (PV.cell h 0) λi=>ib .lss a i (ib .lss a (.I 20) (bd (aG (.I 9) b c d) λj=>bd (jD (gd j 0)) λk=>bd (aG (.I 5) (gd j 1) (gd j 2) (gd j 3)) λl=>bd (aD .sub (gd l 0) (.I 2)) λm=>bd (jD m) λn=>bd (aG (.I 40) (gd l 1) (gd l 2) (gd l 3)) λo=>bd (jD (gd o 0)) λq=>bd (jU (.bool true)) λr=>bd (aK f) λs=>bd (aG s (gd o 1) (gd o 2) (gd o 3)) λt=>bd (aS (gd t 0)) λu=>bd (aN 3 32 true (.lst []) (.lst [(hd k),(hd n),(hd q),(hd r),(.agg [(.I 3),(.I 0),(.str (bs [113]))]),(.agg [(.I 0),(.I 0),(.str (bs []))]),(.agg [(.I 5),u,(.str (bs []))])])) λv=>bd (aG (.I 7) (gd t 1) (gd t 2) (gd t 3)) λw=>bd (aT v (gd w 0)) λx=>bd (aB 3 true v (gd w 0)) λy=>bd (aN 3 32 true (.lst []) (.lst [y])) λz=>bd (aN 3 32 true g z) λA=>bd (aD .add a (.I 1)) λB=>oI B (gd w 1) (gd w 2) (gd w 3) e f A) (bd (fH (.I 30) b c d) λC=>aV (gd C 0) (bd (nM (gd C 1) (gd C 2) (gd C 3)) λD=>bd (aN 3 32 true (.lst []) (.lst [(gd D 0)])) λE=>bd (aN 3 32 true g E) λF=>some [F,(gd D 1),(gd D 2),(gd D 3)]) (some [g,(gd C 1),(gd C 2),(gd C 3)]))) (bd (fH (.I 30) b c d) λG=>aV (gd G 0) (bd (nM (gd G 1) (gd G 2) (gd G 3)) λH=>bd (aN 3 32 true (.lst []) (.lst [(gd H 0)])) λI=>bd (aN 3 32 true g I) λJ=>some [J,(gd H 1),(gd H 2),(gd H 3)]) (some [g,(gd G 1),(gd G 2),(gd G 3)])):=gE
theorem aMe : jD a=bd (aS a) λb=>some [(.agg [(.I 1),b,(.str (bs []))])]:=pE
theorem aKv : jU a=aV a (some [(.agg [(.I 2),(.I 1),(.str (bs []))])]) (some [(.agg [(.I 2),(.I 0),(.str (bs []))])]):=pE
theorem aFR : aG a b c d=ib .lss a (.I 2) (some [(.I 0),b,c,d]) (bd (aK b) λe=>ib .lss c e (bd (aB 1 false b c) λf=>bd (bR .i64 f) λg=>kS a g b c d) (bd (aD .mul d (.I 1103)) λh=>bd (aD .add h (.I 12345)) λi=>bd (aD .rem i (.I 65521)) λj=>bd (aS j) λk=>bd (aK b) λl=>ib .gtr l (.I 0) (bd (aD .quo k (.I 7)) λm=>bd (aK b) λn=>bd (aD .rem c n) λo=>bd (aB 1 false b o) λq=>bd (bR .i64 q) λr=>bd (aD .add m r) λs=>kS a s b c k) (kS a (.I 0) b c k))):=sE
theorem aC4 : kS a b c d e=bd (aD .add d (.I 1)) λf=>bd (aS f) λg=>bd (aD .rem b a) λh=>some [h,c,g,e]:=gE
theorem aBP : qD a b=ib .lss b (.I 0) (none) (sT a b):=sE
theorem zP : sT a b=bd (aK a) λc=>bd (bR .u64 c) λd=>bd (bR .u64 b) λe=>bd (aGd d e) λf=>c2 (hd f) λg h=>ib .gtr g (.int .u64 0) (none) (ib .gtr h (.int .u64 9223372036854775807) (none) (sU a h)):=gE
theorem zQ : sU a b=bd (bR .i64 b) λc=>bd (bD 8 (.I 0) c) λd=>ib .leq c c (bd (bD 8 (.I 0) c) λe=>bd (aK e) λf=>bd (bM e (.I 0) f a) λg=>bd (bC 1 false e (.I 0) f a) λh=>jV g h) (none):=gE
theorem qP : jV a b=bd (aK b) λc=>ib .lss a c (bd (aK b) λd=>bd (bA 1 false b a d) λe=>bd (bA 1 false b (.I 0) a) λf=>bd (bA 1 false b (.I 0) a) λg=>bd (bM b a d g) λh=>bd (bC 1 false b a d g) λi=>bd (aD .add a h) λj=>jV j i) (some [b]):=gE
theorem aJg : aGd a b=bd (aDz a b) λc=>c2 (hd c) λd e=>some [(.tup [d,e])]:=pE
theorem aG2 : aDz a b=bd (aD .and a (.int .u64 4294967295)) λc=>bd (aD .shr a (.int .u64 32)) λd=>bd (aD .and b (.int .u64 4294967295)) λe=>bd (aD .shr b (.int .u64 32)) λf=>bd (aD .mul c e) λg=>bd (aD .mul d e) λh=>bd (aD .shr g (.int .u64 32)) λi=>bd (aD .add h i) λj=>bd (aD .and j (.int .u64 4294967295)) λk=>bd (aD .shr j (.int .u64 32)) λl=>bd (aD .mul c f) λm=>bd (aD .add k m) λn=>bd (aD .mul d f) λo=>bd (aD .add o l) λq=>bd (aD .shr n (.int .u64 32)) λr=>bd (aD .add q r) λs=>bd (aD .mul a b) λt=>some [(.tup [s,t])]:=pE
theorem aQu : aQs a b c d e f g=bd (aGH (.agg [a,b]) c) λh=>g11 h (nb (gd h 7) (some [(.I 0),(.I 0),(.I 0),(.I 0),(.I 0),(.str (bs [])),(.I 0),(.bool false),e,f,g,(.lst []),(.lst []),(.lst [])]) (bd (dP d (.I 0) (.I 50000)) λi=>nb (hd i) (some [(.I 0),(.I 0),(.I 0),(.I 0),(.I 0),(.str (bs [])),(.I 0),(.bool false),e,f,g,(.lst []),(.lst []),(.lst [])]) (aBg d (.I 0) e f a b (.I 0) (.I 0) (.I 0) (.I 0) (.I 0) (.str (bs [])) (.I 0) (gd h 0) (gd h 1) (gd h 2) (gd h 3) (gd h 4) (gd h 5) (gd h 6) g (.lst []) (.lst []) (.lst []) (gd h 8) (gd h 9) (gd h 10)))):=sE
theorem aER : aBg a b c d e f g h i j k l m n o q r s t u v w x y z A B=ib .lss b a (ib .neq o (.I 0) (bd (xK (.agg [z,A,n,B,o,q,r,s,t,u])) λC=>g10 C (some [(gd C 0),(gd C 1),(gd C 2),(gd C 3),(gd C 4),(gd C 5),(gd C 6),(.bool true),c,d,v,(gd C 7),(gd C 8),(gd C 9)])) (bd (aCg n o q r s t u c d z A B v) λD=>bd (aCX e f (gd D 0) (gd D 1) (gd D 2) (gd D 3) (gd D 4) (gd D 5) (gd D 6) (gd D 9) (gd D 10) (gd D 11)) λE=>bd (aD .add b (.I 1)) λF=>aBg a F (gd D 7) (gd D 8) e f g h i j k l m (gd E 0) (gd E 1) (gd E 2) (gd E 3) (gd E 4) (gd E 5) (gd E 6) (gd D 12) w x y (gd E 7) (gd E 8) (gd E 9))) (bd (xK (.agg [z,A,n,B,o,q,r,s,t,u])) λG=>g10 G (some [(gd G 0),(gd G 1),(gd G 2),(gd G 3),(gd G 4),(gd G 5),(gd G 6),(.bool true),c,d,v,(gd G 7),(gd G 8),(gd G 9)])):=gE
theorem aG3 : yL a b c=w2 a λd e=>w10 c λf g h i j k l m n o=>bd (aEF (.agg [d,e]) (.agg [f,g,h,i,j,k,l,m,n,o])) λq=>c2 (hd q) λr s=>w4 r λt u v w=>nb s (bd (aN 4 32 true (.lst []) b) λx=>some [x]) (bd (aEG b t u) λy=>bd (PV.cell (hd y) 2) λz=>ib .eql z (.I 0) (bd (aK b) λA=>ib .eql A (.I 150) (bd (aN 4 32 true (.lst []) b) λB=>some [B]) (bd (xT (.agg [d,e]) b (.agg [t,u,v,w])) λC=>aH oS (gd C 0) (some [(gd C 0)]))) (bd (xT (.agg [d,e]) b (.agg [t,u,v,w])) λD=>aH oS (gd D 0) (some [(gd D 0)]))):=sE
theorem aMf : aEF a b=w2 a λc d=>w10 b λe f g h i j k l m n=>ib .neq i (.I 0) (some [(.tup [(.agg [(.I 0),(.I 0),(.I 0),(.I 0)]),(.bool false)])]) (bd (aK e) λo=>bd (aD .sub o (.I 1)) λq=>bd (aB 4 true e q) λr=>w4 r λs t u v=>bd (aB 3 true d s) λw=>bd (PV.cell w 2) λx=>bd (aB 2 true x t) λy=>w2 y λz A=>bd (aS s) λB=>bd (aS t) λC=>bd (aK v) λD=>bd (aGG z) λE=>nb (hd E) (some [(.tup [(.agg [(.I 0),(.I 0),(.I 0),(.I 0)]),(.bool false)])]) (ib .eql z (.I 23) (bd (aD .sub D (.I 1)) λF=>bd (aD .sub F A) λG=>bd (aB 3 true v G) λH=>w3 H λI J K=>ib .eql I (.I 5) (bd (aS J) λL=>some [(.tup [(.agg [B,C,(.I 1),L]),(.bool true)])]) (some [(.tup [(.agg [B,C,(.I 2),(.I 0)]),(.bool true)])])) (bd (aD .sub D (.I 1)) λM=>bd (aB 3 true v M) λN=>bd (PV.cell N 0) λO=>ib .eql O (.I 1) (bd (aD .sub D (.I 2)) λP=>bd (aB 3 true v P) λQ=>bd (PV.cell Q 0) λR=>ib .eql R (.I 1) (some [(.tup [(.agg [B,C,(.I 1),(.I 0)]),(.bool true)])]) (some [(.tup [(.agg [B,C,(.I 2),(.I 0)]),(.bool true)])])) (some [(.tup [(.agg [B,C,(.I 2),(.I 0)]),(.bool true)])])))):=pE
theorem aMg : aEG a b c=rF a b c (.I 0) (.I 0) (.I 0) (.I 0) (.I 0):=pE
theorem aBq : rF a b c d e f g h=bd (aK a) λi=>ib .lss d i (bd (aB 4 true a d) λj=>bd (PV.cell j 0) λk=>ib .eql k b (bd (aB 4 true a d) λl=>bd (PV.cell l 1) λm=>ib .eql m c (bd (aB 4 true a d) λn=>w4 n λo q r s=>some [(.agg [o,q,r,s])]) (bd (aD .add d (.I 1)) λt=>rF a b c t e f g h)) (bd (aD .add d (.I 1)) λu=>rF a b c u e f g h)) (some [(.agg [(.I 0),(.I 0),(.I 0),(.I 0)])]):=gE
theorem aNe : aGG a=ib .eql a (.I 11) (some [.bool true]) (ib .eql a (.I 12) (some [.bool true]) (ib .eql a (.I 13) (some [.bool true]) (ib .eql a (.I 14) (some [.bool true]) (ib .eql a (.I 23) (some [.bool true]) (some [.bool false]))))):=pE
theorem aKw : zL a b=w2 a λc d=>w10 b λe f g h i j k l m n=>ib .neq i (.I 0) (bd (pL (.agg [e,f,g,h,i,j,k,l,m,n])) λo=>g10 o (some [(gd o 0),(gd o 1),(gd o 2),(gd o 3),(gd o 4),(gd o 5),(gd o 6),(gd o 7),(gd o 8),(gd o 9)])) (ib .eql n (.I 50000) (bd (pL (.agg [e,f,g,h,i,j,k,l,m,n])) λq=>g10 q (some [(gd q 0),(gd q 1),(gd q 2),(gd q 3),(gd q 4),(gd q 5),(gd q 6),(gd q 7),(gd q 8),(gd q 9)])) (bd (pL (.agg [e,f,g,h,i,j,k,l,m,n])) λr=>g10 r (bd (gT c d (gd r 0) (gd r 1) (gd r 2) (gd r 3) (gd r 4) (gd r 5) (gd r 6) (.I 0) (gd r 7) (gd r 8) (gd r 9)) λs=>bd (aB 4 true (gd s 11) (gd s 0)) λt=>bd (PV.cell t 0) λu=>bd (aB 3 true d u) λv=>bd (PV.cell v 2) λw=>bd (aB 4 true (gd s 11) (gd s 0)) λx=>bd (PV.cell x 1) λy=>bd (aB 2 true w y) λz=>w2 z λA B=>bd (aB 4 true (gd s 11) (gd s 0)) λC=>bd (PV.cell C 1) λD=>bd (aD .add D (.I 1)) λE=>bd (aS E) λF=>bd (aC 4 (gd s 11) (gd s 0) 1 F) λG=>bd (aAA A B (gd s 1) (gd s 2) (gd s 3) (gd s 4) (gd s 5) (gd s 6) (gd s 7) (gd s 8) (gd s 9) (gd s 10) G (gd s 12) (gd s 13)) λH=>ib .neq (gd H 9) (.I 0) (bd (pL (.agg [e,f,g,h,i,j,k,l,m,n])) λI=>g10 I (bd (aS (gd H 9)) λJ=>bd (aD .add (gd I 6) (.I 1)) λK=>bd (aS K) λL=>some [(gd I 0),(.I 2),J,(gd I 3),(gd I 4),(gd I 5),L,(gd I 7),(gd I 8),(gd I 9)])) (bd (aD .add (gd H 8) (.I 1)) λM=>bd (aS M) λN=>some [(gd H 2),(gd H 3),(gd H 4),(gd H 5),(gd H 6),(gd H 7),N,(gd H 10),(gd H 11),(gd H 12)])))):=sE
theorem sV : gA a=bd (bL a) λb=>cC b (some [(.lst [])]) (bd (aN 4 32 true (.lst []) a) λc=>some [c]):=sE
theorem sH : eY a b c=qS [.ref 0 [],.p a,.ref 1 []] ⟨[],[(0,some ⟨oS,b⟩),(1,some ⟨oS,c⟩)],0,0,2⟩:=sE
theorem aJh : aBL a b c d e f g h i j k l m=ib .neq g (.I 0) (some [c,d,e,f,g,h,i,j,k,l,m]) (bd (aCW (.agg [a,b]) (.bx [c,d,e,f,g,h,i,j,k,l])) λn=>aE (hd n) (c2 (hd n) λo q=>w4 o λr s t u=>nb q (some [c,d,e,f,g,h,i,j,k,l,m]) (bd (cN m (.agg [r,s,t,u]) (.fn 47 [])) λv=>aE (hd v) (c2 (hd v) λw x=>aV x (bd (aT m w) λy=>bd (aB 4 true m w) λz=>bd (sS (.agg [a,b]) z (.agg [r,s,t,u])) λA=>bd (aT m w) λB=>bd (aX 4 true m w (hd A)) λC=>some [c,d,e,f,g,h,i,j,k,l,C]) (bd (aK m) λD=>ib .lss D (.I 150) (bd (eY w m (.lst [(.agg [r,s,t,u])])) λE=>some [c,d,e,f,g,h,i,j,k,l,(gd E 0)]) (some [c,d,e,f,g,h,i,j,k,l,m])))))):=sE
theorem aNf : aCW a b=w2 a λc d=>bd (bG b) λe=>bd (bG e) λf=>bd (PV.deref f 0) λg=>bd (bG b) λh=>bd (bG h) λi=>bd (PV.deref i 0) λj=>bd (aK j) λk=>bd (aD .sub k (.I 1)) λl=>bd (aB 4 true g l) λm=>w4 m λn o q r=>bd (aB 3 true d n) λs=>bd (PV.cell s 2) λt=>bd (aB 2 true t o) λu=>bd (aK r) λv=>w2 u λw x=>bd (aS n) λy=>bd (aS o) λz=>bd (zI (.agg [w,x])) λA=>aV (hd A) (bd (aD .sub v (.I 2)) λB=>bd (aB 3 true r B) λC=>bd (aD .sub v (.I 1)) λD=>bd (aB 3 true r D) λE=>bd (uM C E (.I 1)) λF=>aV (hd F) (some [(.tup [(.agg [y,z,(.I 1),(.I 0)]),(.bool true)])]) (some [(.tup [(.agg [y,z,(.I 2),(.I 0)]),(.bool true)])])) (ib .eql w (.I 23) (bd (aD .sub v (.I 1)) λG=>bd (aD .sub G x) λH=>bd (aB 3 true r H) λI=>w3 I λJ K L=>ib .eql J (.I 5) (bd (aS K) λM=>some [(.tup [(.agg [y,z,(.I 1),M]),(.bool true)])]) (some [(.tup [(.agg [y,z,(.I 2),(.I 0)]),(.bool true)])])) (some [(.tup [(.agg [(.I 0),(.I 0),(.I 0),(.I 0)]),(.bool false)])])):=pE
theorem aH4 : uM a b c=w3 a λd e f=>w3 b λg h i=>ib .eql d c (bd (aD .eql g c) λj=>some [j]) (some [.bool false]):=pE
theorem aBr : vG a b c d e f g h i j k l m n o q r s t u v w x=bd (aK a) λy=>iX a y (.I 0) k l m n o q r s t u v w x a b c d e f g h i j:=sE
theorem nQ : iX a b c d e f g h i j k l m n o q r s t u v w x y z A=ib .lss c b (bd (aB 4 true a c) λB=>w4 B λC D E F=>bd (aN 1 24 false (.lst []) (.lst [E,F])) λG=>bd (fJ G) λH=>aH o3 (gd H 0) (bd (aK (gd H 0)) λI=>iY a b c I (.I 0) d e f g h i j k l m n o q r s t u v w x y z A (gd H 0))) (bd (aK s) λJ=>fM s J (.I 0) d e f g h i j k l m n o q r s t u v w x y z A):=gE
theorem nR : iY a b c d e f g h i j k l m n o q r s t u v w x y z A B C D=ib .lss e d (bd (aT D e) λE=>bd (aB 3 true D e) λF=>w3 F λG H I=>bd (uN G H I f g h i j k l m n o q r s) λJ=>bd (aD .add e (.I 1)) λK=>iY a b c d K (gd J 0) (gd J 1) (gd J 2) (gd J 3) (gd J 4) (gd J 5) (gd J 6) (gd J 7) (gd J 8) (gd J 9) (gd J 10) (gd J 11) (gd J 12) t u v w x y z A B C D) (bd (aD .add c (.I 1)) λL=>iX a b L f g h i j k l m n o q r s t u v w x y z A B C):=gE
theorem mH : fM a b c d e f g h i j k l m n o q r s t u v w x y z A=ib .lss c b (bd (aB 1 true a c) λB=>w1 B λC=>bd (aK C) λD=>iG a b c C D (.I 0) d e f g h i j k l m n o q r s t u v w x y z A) (bd (uN x y z d e f g h i j k l m n o q) λE=>some [(gd E 0),(gd E 1),(gd E 2),(gd E 3),(gd E 4),(gd E 5),(gd E 6),(gd E 7),(gd E 8),(gd E 9),(gd E 10),(gd E 11),(gd E 12)]):=gE
theorem mJ : iG a b c d e f g h i j k l m n o q r s t u v w x y z A B C D=ib .lss f e (bd (aB 3 true d f) λE=>w3 E λF G H=>bd (uN F G H g h i j k l m n o q r s t) λI=>bd (aD .add f (.I 1)) λJ=>iG a b c d e J (gd I 0) (gd I 1) (gd I 2) (gd I 3) (gd I 4) (gd I 5) (gd I 6) (gd I 7) (gd I 8) (gd I 9) (gd I 10) (gd I 11) (gd I 12) u v w x y z A B C D) (bd (aD .add c (.I 1)) λK=>fM a b K g h i j k l m n o q r s t u v w x y z A B C D):=gE
variable (a b c d e f g h i j k l m n o p q r s t u v : PV)
theorem aFS : fH a b c d=bd (aG a b c d) λe=>bd (aD .sub a (.I 1)) λf=>bd (aD .eql (gd e 0) f) λg=>some [g,(gd e 1),(gd e 2),(gd e 3)]:=sE
theorem aG4 : yM a b c d=bd (pM b c d) λe=>w2 (gd e 0) λf g=>bd (fH a (gd e 1) (gd e 2) (gd e 3)) λh=>aV (gd h 0) (bd (aBN f g (gd h 1) (gd h 2) (gd h 3)) λi=>w2 (gd i 0) λj k=>some [(.agg [j,k]),(gd i 1),(gd i 2),(gd i 3)]) (some [(.agg [f,g]),(gd h 1),(gd h 2),(gd h 3)]):=sE
theorem aFT : wR a b c=bd (pM a b c) λd=>w2 (gd d 0) λe f=>bd (vF (.agg [e,f])) λg=>nb (hd g) (some [(.agg [(.lst []),(.lst [(.agg [(.I 0),(.I 1),(.lst [(.agg [(.I 6),(.I 0)]),(.agg [(.I 26),(.I 0)]),(.agg [(.I 4),(.I 0)]),(.agg [(.I 25),(.I 0)])])])])]),(gd d 1),(gd d 2),(gd d 3)]) (some [(.agg [e,f]),(gd d 1),(gd d 2),(gd d 3)]):=sE
theorem aES : nM a b c=bd (aG (.I 9) a b c) λd=>ib .eql (gd d 0) (.I 0) (some [(.agg [(.I 0),(.I 0),(.str (bs []))]),(gd d 1),(gd d 2),(gd d 3)]) (ib .eql (gd d 0) (.I 1) (bd (iH (gd d 1) (gd d 2) (gd d 3)) λe=>bd (jD (gd e 0)) λf=>w3 (hd f) λg h i=>some [(.agg [g,h,i]),(gd e 1),(gd e 2),(gd e 3)]) (ib .eql (gd d 0) (.I 2) (bd (iH (gd d 1) (gd d 2) (gd d 3)) λj=>bd (jD (gd j 0)) λk=>w3 (hd k) λl m n=>some [(.agg [l,m,n]),(gd j 1),(gd j 2),(gd j 3)]) (ib .eql (gd d 0) (.I 3) (bd (iH (gd d 1) (gd d 2) (gd d 3)) λo=>bd (jD (gd o 0)) λp=>w3 (hd p) λq r s=>some [(.agg [q,r,s]),(gd o 1),(gd o 2),(gd o 3)]) (ib .eql (gd d 0) (.I 4) (bd (aG (.I 2) (gd d 1) (gd d 2) (gd d 3)) λt=>bd (aS (gd t 0)) λu=>some [(.agg [(.I 2),u,(.str (bs []))]),(gd t 1),(gd t 2),(gd t 3)]) (ib .eql (gd d 0) (.I 5) (bd (aG (.I 4) (gd d 1) (gd d 2) (gd d 3)) λv=>bd (aT (.lst [(.str (bs [])),(.str (bs [97])),(.str (bs [98,99])),(.str (bs [48,49,50,51,52,53,54,55,56,57,48,49,50,51,52,53,54,55,56,57,48,49,50,51,52,53,54,55,56,57,48,49,50,51,52,53,54,55,56,57]))]) (gd v 0)) λw=>bd (aB 1 false (.lst [(.str (bs [])),(.str (bs [97])),(.str (bs [98,99])),(.str (bs [48,49,50,51,52,53,54,55,56,57,48,49,50,51,52,53,54,55,56,57,48,49,50,51,52,53,54,55,56,57,48,49,50,51,52,53,54,55,56,57]))]) (gd v 0)) λx=>bd (aS x) λy=>some [(.agg [(.I 3),(.I 0),y]),(gd v 1),(gd v 2),(gd v 3)]) (ib .eql (gd d 0) (.I 6) (bd (aG (.I 4) (gd d 1) (gd d 2) (gd d 3)) λz=>bd (aS (gd z 0)) λA=>some [(.agg [(.I 4),A,(.str (bs []))]),(gd z 1),(gd z 2),(gd z 3)]) (ib .eql (gd d 0) (.I 7) (bd (aG (.I 4) (gd d 1) (gd d 2) (gd d 3)) λB=>bd (aS (gd B 0)) λC=>some [(.agg [(.I 5),C,(.str (bs []))]),(gd B 1),(gd B 2),(gd B 3)]) (bd (aG (.I 8) (gd d 1) (gd d 2) (gd d 3)) λD=>bd (aD .sub (gd D 0) (.I 1)) λE=>bd (aG (.I 4) (gd D 1) (gd D 2) (gd D 3)) λF=>bd (aD .sub (gd F 0) (.I 1)) λG=>bd (aG (.I 3) (gd F 1) (gd F 2) (gd F 3)) λH=>bd (aT (.lst [(.str (bs [])),(.str (bs [97])),(.str (bs [34]))]) (gd H 0)) λI=>bd (aB 1 false (.lst [(.str (bs [])),(.str (bs [97])),(.str (bs [34]))]) (gd H 0)) λJ=>bd (aS E) λK=>bd (aS G) λL=>bd (aS J) λM=>some [(.agg [K,L,M]),(gd H 1),(gd H 2),(gd H 3)])))))))):=sE
theorem aNg : aGH a b=w2 a λc d=>bd (xS (.agg [c,d])) λe=>nb (hd e) (some [(.I 0),(.I 0),(.I 0),(.I 0),(.I 0),(.str (bs [])),(.I 0),(.bool false),(.lst []),(.lst []),(.lst [])]) (bd (aEH (.agg [c,d]) b) λf=>nb (hd f) (some [(.I 0),(.I 0),(.I 0),(.I 0),(.I 0),(.str (bs [])),(.I 0),(.bool false),(.lst []),(.lst []),(.lst [])]) (bd (zN (.agg [c,d]) (.I 0) b) λg=>aE (gd g 0) (aE (gd g 1) (aH o3 (gd g 2) (aH o3 (gd g 3) (some [(.I 0),(.I 0),(.I 0),(.I 0),(.I 0),(.str (bs [])),(.I 0),(.bool true),(.lst [(.agg [(gd g 0),(gd g 1),(gd g 2),(gd g 3)])]),(.lst []),(.lst [])])))))):=sE
theorem aMh : aEH a b=w2 a λc d=>bd (aK b) λe=>bd (aB 3 true d (.I 0)) λf=>bd (PV.cell f 0) λg=>ib .eql e g (bd (jE b (.fn 168 [(.bx [c,d])])) λh=>aE (hd h) (bd (dB (hd h)) λi=>some [i])) (some [.bool false]):=pE
theorem pD : jE a b=bd (jZ a b) λc=>bd (aD .geq (hd c) (.I 0)) λd=>some [d]:=pE
theorem aJi : aGe a b=w3 a λc d e=>bd (bG b) λf=>bd (PV.deref f 1) λg=>bd (aK g) λh=>bd (zM (.agg [c,d,e]) h (.I 0)) λi=>bd (dB (hd i)) λj=>some [j]:=pE
theorem pZ : jZ a b=bd (aK a) λc=>dT a b c (.I 0):=pE
theorem iK : dT a b c d=ib .lss d c (bd (aB 3 true a d) λe=>bd (PV.apply aU b [e]) λf=>aV (hd f) (some [d]) (bd (aD .add d (.I 1)) λg=>dT a b c g)) (some [(.I (-1))]):=gE
theorem aKx : zM a b c=w3 a λd e f=>ib .eql d (.I 0) (bd (cQ [1,1,2] .eql (.agg [d,e,f]) (.agg [(.I 0),(.I 0),(.str (bs []))])) λg=>some [g]) (ib .eql d (.I 1) (bd (rC e) λh=>aV (hd h) (bd (aD .eql f (.str (bs []))) λi=>some [i]) (some [.bool false])) (ib .eql d (.I 2) (bd (dP e (.I 0) (.I 1)) λj=>aV (hd j) (bd (aD .eql f (.str (bs []))) λk=>some [k]) (some [.bool false])) (ib .eql d (.I 3) (ib .eql e (.I 0) (bd (uL f) λl=>some [(hd l)]) (some [.bool false])) (ib .eql d (.I 4) (bd (eB e c) λm=>aV (hd m) (bd (aD .eql f (.str (bs []))) λn=>some [n]) (some [.bool false])) (ib .eql d (.I 5) (bd (eB e b) λo=>aV (hd o) (bd (aD .eql f (.str (bs []))) λp=>some [p]) (some [.bool false])) (some [.bool false])))))):=pE
theorem aJj : xK a=w10 a λb c d e f g h i j k=>bd (yN b) λl=>aH oF (gd l 0) (bd (aBO c) λm=>aH oH (gd m 0) (bd (lY e) λn=>aH oO (gd n 0) (some [d,f,g,h,i,j,k,(gd l 0),(gd m 0),(gd n 0)]))):=sE
theorem aFU : aCg a b c d e f g h i j k l m=bd (wS h i a b c d e f g m j k l) λn=>some [(gd n 0),(gd n 1),(gd n 2),(gd n 3),(gd n 4),(gd n 5),(gd n 6),h,i,(gd n 7),(gd n 8),(gd n 9),(gd n 10)]:=sE
theorem aKy : aCX a b c d e f g h i j k l=bd (aD .add i (.I 1)) λm=>bd (aS m) λn=>bd (aGM a b c d e f g h n j k l) λo=>ib .neq (gd o 0) (.I 0) (bd (aS (gd o 0)) λp=>some [(gd o 1),(.I 2),p,(gd o 4),(gd o 5),(gd o 6),(gd o 7),(gd o 8),(gd o 9),(gd o 10)]) (some [(gd o 1),(gd o 2),(gd o 3),(gd o 4),(gd o 5),(gd o 6),(gd o 7),(gd o 8),(gd o 9),(gd o 10)]):=sE
theorem aMi : xT a b c=w2 a λd e=>w4 c λf g h i=>hH b (.bool false) (.I 0) d e f g h i (.lst []):=sE
theorem aBs : hH a b c d e f g h i j=bd (aK a) λk=>ib .lss c k (bd (aB 4 true a c) λl=>bd (PV.cell l 0) λm=>ib .eql m f (bd (aB 4 true a c) λn=>bd (PV.cell n 1) λo=>ib .eql o g (aAz a c d e f g h i j) (vH a b c d e f g h i j)) (vH a b c d e f g h i j)) (nb b (bd (aN 4 32 true j (.lst [(.agg [f,g,h,i])])) λp=>some [p]) (some [j])):=gE
theorem aH5 : aAz a b c d e f g h i=bd (aB 3 true d e) λj=>bd (PV.cell j 2) λk=>bd (aB 2 true k f) λl=>bd (PV.cell l 0) λm=>bd (aB 4 true a b) λn=>bd (aCY m n (.agg [e,f,g,h])) λo=>bd (aN 4 32 true (.lst []) (.lst [(hd o)])) λp=>bd (aN 4 32 true i p) λq=>bd (aD .add b (.I 1)) λr=>hH a (.bool true) r c d e f g h q:=gE
theorem aH6 : vH a b c d e f g h i j=nb b (bd (aB 4 true a c) λk=>bd (aCZ (.agg [f,g,h,i]) k) λl=>aV (hd l) (aDA a c d e f g h i j) (bd (aB 4 true a c) λm=>bd (aN 4 32 true (.lst []) (.lst [m])) λn=>bd (aN 4 32 true j n) λo=>bd (aD .add c (.I 1)) λp=>hH a b p d e f g h i o)) (bd (aB 4 true a c) λq=>bd (aN 4 32 true (.lst []) (.lst [q])) λr=>bd (aN 4 32 true j r) λs=>bd (aD .add c (.I 1)) λt=>hH a b t d e f g h i s):=gE
theorem aG5 : aDA a b c d e f g h i=bd (aN 4 32 true i (.lst [(.agg [e,f,g,h])])) λj=>bd (aB 4 true a b) λk=>bd (aN 4 32 true (.lst []) (.lst [k])) λl=>bd (aN 4 32 true j l) λm=>bd (aD .add b (.I 1)) λn=>hH a (.bool true) n c d e f g h m:=gE
theorem aKz : aCY a b c=w4 b λd e f g=>w4 c λh i j k=>ib .neq a (.I 23) (bd (aD .or f j) λl=>bd (aS l) λm=>some [(.agg [d,e,m,g])]) (ib .neq f (.I 1) (some [(.agg [d,e,(.I 2),(.I 0)])]) (ib .neq j (.I 1) (some [(.agg [d,e,(.I 2),(.I 0)])]) (ib .neq g k (some [(.agg [d,e,(.I 2),(.I 0)])]) (some [(.agg [d,e,f,g])])))):=pE
theorem aKA : aCZ a b=w4 a λc d e f=>w4 b λg h i j=>ib .lss c g (some [.bool true]) (ib .eql c g (bd (aD .lss d h) λk=>some [k]) (some [.bool false])):=pE
theorem aKB : pL a=w10 a λb c d e f g h i j k=>tJ (.I 0) b c d e f g h i j k (.I 0) (.I 0) (.I 0) (.I 0) (.I 0) (.str (bs [])) (.I 0) (.lst []) (.lst []) (.lst []) (.lst []):=sE
theorem aAL : tJ a b c d e f g h i j k l m n o p q r s t u v=bd (aK b) λw=>ib .lss a w (bd (aB 4 true b a) λx=>bd (vK x) λy=>aE (gd y 0) (aE (gd y 1) (aH o3 (gd y 2) (aH o3 (gd y 3) (bd (aN 4 64 true v (.lst [(.agg [(gd y 0),(gd y 1),(gd y 2),(gd y 3)])])) λz=>bd (aD .add a (.I 1)) λA=>tJ A b c d e f g h i j k l m n o p q r s t u z))))) (bd (wU c) λB=>aH oH (gd B 0) (bd (aN 1 16 false (.lst []) e) λC=>some [d,f,g,h,i,j,k,v,(gd B 0),C])):=gE
theorem aET : gT a b c d e f g h i j k l m=bd (aK k) λn=>bd (aD .sub n (.I 1)) λo=>bd (aT k o) λp=>some [o,a,b,c,d,e,f,g,h,i,j,k,l,m]:=sE
theorem aH7 : aAA a b c d e f g h i j k l m n o=bd (gT c d e f g h i j k l m n o) λp=>ib .eql a (.I 1) (bd (jD b) λq=>bd (lN (hd q) (gd p 1) (gd p 2) (gd p 3) (gd p 4) (gd p 5) (gd p 6) (gd p 7) (gd p 8) (gd p 9) (gd p 10) (gd p 11) (gd p 12) (gd p 13)) λr=>some [(gd r 0),(gd r 1),(gd r 2),(gd r 3),(gd r 4),(gd r 5),(gd r 6),(gd r 7),(gd r 8),(gd r 9),(gd r 10),(gd r 11),(gd r 12)]) (ib .eql a (.I 2) (bd (aD .eql b (.I 1)) λs=>bd (jU s) λt=>bd (lN (hd t) (gd p 1) (gd p 2) (gd p 3) (gd p 4) (gd p 5) (gd p 6) (gd p 7) (gd p 8) (gd p 9) (gd p 10) (gd p 11) (gd p 12) (gd p 13)) λu=>some [(gd u 0),(gd u 1),(gd u 2),(gd u 3),(gd u 4),(gd u 5),(gd u 6),(gd u 7),(gd u 8),(gd u 9),(gd u 10),(gd u 11),(gd u 12)]) (ib .eql a (.I 3) (bd (aB 1 false (gd p 1) b) λv=>bd (aS v) λw=>bd (cO (.I 3) (.I 0) w (gd p 1) (gd p 2) (gd p 3) (gd p 4) (gd p 5) (gd p 6) (gd p 7) (gd p 8) (gd p 9) (gd p 10) (gd p 11) (gd p 12) (gd p 13)) λx=>some [(gd x 0),(gd x 1),(gd x 2),(gd x 3),(gd x 4),(gd x 5),(gd x 6),(gd x 7),(gd x 8),(gd x 9),(gd x 10),(gd x 11),(gd x 12)]) (ib .eql a (.I 4) (bd (cO (.I 0) (.I 0) (.str (bs [])) (gd p 1) (gd p 2) (gd p 3) (gd p 4) (gd p 5) (gd p 6) (gd p 7) (gd p 8) (gd p 9) (gd p 10) (gd p 11) (gd p 12) (gd p 13)) λy=>some [(gd y 0),(gd y 1),(gd y 2),(gd y 3),(gd y 4),(gd y 5),(gd y 6),(gd y 7),(gd y 8),(gd y 9),(gd y 10),(gd y 11),(gd y 12)]) (ib .eql a (.I 5) (bd (aS b) λz=>bd (cO (.I 5) z (.str (bs [])) (gd p 1) (gd p 2) (gd p 3) (gd p 4) (gd p 5) (gd p 6) (gd p 7) (gd p 8) (gd p 9) (gd p 10) (gd p 11) (gd p 12) (gd p 13)) λA=>some [(gd A 0),(gd A 1),(gd A 2),(gd A 3),(gd A 4),(gd A 5),(gd A 6),(gd A 7),(gd A 8),(gd A 9),(gd A 10),(gd A 11),(gd A 12)]) (ib .eql a (.I 6) (bd (aB 4 true (gd p 11) (gd p 0)) λB=>bd (aB 4 true (gd p 11) (gd p 0)) λC=>bd (PV.cell C 2) λD=>bd (aT D b) λE=>bd (aB 4 true (gd p 11) (gd p 0)) λF=>bd (PV.cell F 2) λG=>bd (aB 3 true G b) λH=>bd (lN H (gd p 1) (gd p 2) (gd p 3) (gd p 4) (gd p 5) (gd p 6) (gd p 7) (gd p 8) (gd p 9) (gd p 10) (gd p 11) (gd p 12) (gd p 13)) λI=>some [(gd I 0),(gd I 1),(gd I 2),(gd I 3),(gd I 4),(gd I 5),(gd I 6),(gd I 7),(gd I 8),(gd I 9),(gd I 10),(gd I 11),(gd I 12)]) (ib .eql a (.I 7) (bd (bW (gd p 1) (gd p 2) (gd p 3) (gd p 4) (gd p 5) (gd p 6) (gd p 7) (gd p 8) (gd p 9) (gd p 10) (gd p 11) (gd p 12) (gd p 13)) λJ=>w3 (gd J 0) λK L M=>bd (aB 4 true (gd J 11) (gd p 0)) λN=>bd (aB 4 true (gd J 11) (gd p 0)) λO=>bd (PV.cell O 2) λP=>bd (aT P b) λQ=>bd (aB 4 true (gd J 11) (gd p 0)) λR=>bd (PV.cell R 2) λS=>bd (aB 4 true (gd J 11) (gd p 0)) λT=>bd (PV.cell T 2) λU=>bd (aX 3 true U b (.agg [K,L,M])) λV=>bd (aB 4 true (gd J 11) (gd p 0)) λW=>bd (PV.cell W 2) λX=>bd (aC 4 (gd J 11) (gd p 0) 2 V) λY=>some [(gd J 1),(gd J 2),(gd J 3),(gd J 4),(gd J 5),(gd J 6),(gd J 7),(gd J 8),(gd J 9),(gd J 10),Y,(gd J 12),(gd J 13)]) (ib .eql a (.I 8) (bd (bW (gd p 1) (gd p 2) (gd p 3) (gd p 4) (gd p 5) (gd p 6) (gd p 7) (gd p 8) (gd p 9) (gd p 10) (gd p 11) (gd p 12) (gd p 13)) λZ=>w3 (gd Z 0) λaa ab ac=>bd (cO aa ab ac (gd Z 1) (gd Z 2) (gd Z 3) (gd Z 4) (gd Z 5) (gd Z 6) (gd Z 7) (gd Z 8) (gd Z 9) (gd Z 10) (gd Z 11) (gd Z 12) (gd Z 13)) λad=>bd (cO aa ab ac (gd ad 0) (gd ad 1) (gd ad 2) (gd ad 3) (gd ad 4) (gd ad 5) (gd ad 6) (gd ad 7) (gd ad 8) (gd ad 9) (gd ad 10) (gd ad 11) (gd ad 12)) λae=>some [(gd ae 0),(gd ae 1),(gd ae 2),(gd ae 3),(gd ae 4),(gd ae 5),(gd ae 6),(gd ae 7),(gd ae 8),(gd ae 9),(gd ae 10),(gd ae 11),(gd ae 12)]) (ib .eql a (.I 9) (bd (bW (gd p 1) (gd p 2) (gd p 3) (gd p 4) (gd p 5) (gd p 6) (gd p 7) (gd p 8) (gd p 9) (gd p 10) (gd p 11) (gd p 12) (gd p 13)) λaf=>some [(gd af 1),(gd af 2),(gd af 3),(gd af 4),(gd af 5),(gd af 6),(gd af 7),(gd af 8),(gd af 9),(gd af 10),(gd af 11),(gd af 12),(gd af 13)]) (ib .eql a (.I 10) (bd (bW (gd p 1) (gd p 2) (gd p 3) (gd p 4) (gd p 5) (gd p 6) (gd p 7) (gd p 8) (gd p 9) (gd p 10) (gd p 11) (gd p 12) (gd p 13)) λag=>w3 (gd ag 0) λah ai aj=>bd (bW (gd ag 1) (gd ag 2) (gd ag 3) (gd ag 4) (gd ag 5) (gd ag 6) (gd ag 7) (gd ag 8) (gd ag 9) (gd ag 10) (gd ag 11) (gd ag 12) (gd ag 13)) λak=>w3 (gd ak 0) λal am an=>bd (cO ah ai aj (gd ak 1) (gd ak 2) (gd ak 3) (gd ak 4) (gd ak 5) (gd ak 6) (gd ak 7) (gd ak 8) (gd ak 9) (gd ak 10) (gd ak 11) (gd ak 12) (gd ak 13)) λao=>bd (cO al am an (gd ao 0) (gd ao 1) (gd ao 2) (gd ao 3) (gd ao 4) (gd ao 5) (gd ao 6) (gd ao 7) (gd ao 8) (gd ao 9) (gd ao 10) (gd ao 11) (gd ao 12)) λap=>some [(gd ap 0),(gd ap 1),(gd ap 2),(gd ap 3),(gd ap 4),(gd ap 5),(gd ap 6),(gd ap 7),(gd ap 8),(gd ap 9),(gd ap 10),(gd ap 11),(gd ap 12)]) (ib .eql a (.I 11) (bd (bW (gd p 1) (gd p 2) (gd p 3) (gd p 4) (gd p 5) (gd p 6) (gd p 7) (gd p 8) (gd p 9) (gd p 10) (gd p 11) (gd p 12) (gd p 13)) λaq=>w3 (gd aq 0) λar au av=>bd (bW (gd aq 1) (gd aq 2) (gd aq 3) (gd aq 4) (gd aq 5) (gd aq 6) (gd aq 7) (gd aq 8) (gd aq 9) (gd aq 10) (gd aq 11) (gd aq 12) (gd aq 13)) λaw=>w3 (gd aw 0) λax ay az=>bd (tW a (.agg [ax,ay,az]) (.agg [ar,au,av])) λba=>c2 (hd ba) λbb bc=>w3 bb λbe bf bg=>bd (aS bc) λbh=>bd (cO be bf bg (gd aw 1) (gd aw 2) (gd aw 3) (gd aw 4) (gd aw 5) (gd aw 6) (gd aw 7) (gd aw 8) (gd aw 9) bh (gd aw 11) (gd aw 12) (gd aw 13)) λbi=>some [(gd bi 0),(gd bi 1),(gd bi 2),(gd bi 3),(gd bi 4),(gd bi 5),(gd bi 6),(gd bi 7),(gd bi 8),(gd bi 9),(gd bi 10),(gd bi 11),(gd bi 12)]) (ib .eql a (.I 12) (bd (bW (gd p 1) (gd p 2) (gd p 3) (gd p 4) (gd p 5) (gd p 6) (gd p 7) (gd p 8) (gd p 9) (gd p 10) (gd p 11) (gd p 12) (gd p 13)) λbj=>w3 (gd bj 0) λbk bl bm=>bd (bW (gd bj 1) (gd bj 2) (gd bj 3) (gd bj 4) (gd bj 5) (gd bj 6) (gd bj 7) (gd bj 8) (gd bj 9) (gd bj 10) (gd bj 11) (gd bj 12) (gd bj 13)) λbn=>w3 (gd bn 0) λbo bp bq=>bd (tW a (.agg [bo,bp,bq]) (.agg [bk,bl,bm])) λbr=>c2 (hd br) λbt bu=>w3 bt λbv bw bz=>bd (aS bu) λca=>bd (cO bv bw bz (gd bn 1) (gd bn 2) (gd bn 3) (gd bn 4) (gd bn 5) (gd bn 6) (gd bn 7) (gd bn 8) (gd bn 9) ca (gd bn 11) (gd bn 12) (gd bn 13)) λcb=>some [(gd cb 0),(gd cb 1),(gd cb 2),(gd cb 3),(gd cb 4),(gd cb 5),(gd cb 6),(gd cb 7),(gd cb 8),(gd cb 9),(gd cb 10),(gd cb 11),(gd cb 12)]) (ib .eql a (.I 13) (bd (bW (gd p 1) (gd p 2) (gd p 3) (gd p 4) (gd p 5) (gd p 6) (gd p 7) (gd p 8) (gd p 9) (gd p 10) (gd p 11) (gd p 12) (gd p 13)) λcc=>w3 (gd cc 0) λcd ce cf=>bd (bW (gd cc 1) (gd cc 2) (gd cc 3) (gd cc 4) (gd cc 5) (gd cc 6) (gd cc 7) (gd cc 8) (gd cc 9) (gd cc 10) (gd cc 11) (gd cc 12) (gd cc 13)) λcg=>w3 (gd cg 0) λch ci cj=>bd (tW a (.agg [ch,ci,cj]) (.agg [cd,ce,cf])) λck=>c2 (hd ck) λcl cm=>w3 cl λcn co cp=>bd (aS cm) λcq=>bd (cO cn co cp (gd cg 1) (gd cg 2) (gd cg 3) (gd cg 4) (gd cg 5) (gd cg 6) (gd cg 7) (gd cg 8) (gd cg 9) cq (gd cg 11) (gd cg 12) (gd cg 13)) λcr=>some [(gd cr 0),(gd cr 1),(gd cr 2),(gd cr 3),(gd cr 4),(gd cr 5),(gd cr 6),(gd cr 7),(gd cr 8),(gd cr 9),(gd cr 10),(gd cr 11),(gd cr 12)]) (ib .eql a (.I 14) (bd (bW (gd p 1) (gd p 2) (gd p 3) (gd p 4) (gd p 5) (gd p 6) (gd p 7) (gd p 8) (gd p 9) (gd p 10) (gd p 11) (gd p 12) (gd p 13)) λcs=>w3 (gd cs 0) λct cu cv=>bd (bW (gd cs 1) (gd cs 2) (gd cs 3) (gd cs 4) (gd cs 5) (gd cs 6) (gd cs 7) (gd cs 8) (gd cs 9) (gd cs 10) (gd cs 11) (gd cs 12) (gd cs 13)) λcw=>w3 (gd cw 0) λcx cy cz=>bd (tW a (.agg [cx,cy,cz]) (.agg [ct,cu,cv])) λda=>c2 (hd da) λdb dc=>w3 db λdd de df=>bd (aS dc) λdg=>bd (cO dd de df (gd cw 1) (gd cw 2) (gd cw 3) (gd cw 4) (gd cw 5) (gd cw 6) (gd cw 7) (gd cw 8) (gd cw 9) dg (gd cw 11) (gd cw 12) (gd cw 13)) λdh=>some [(gd dh 0),(gd dh 1),(gd dh 2),(gd dh 3),(gd dh 4),(gd dh 5),(gd dh 6),(gd dh 7),(gd dh 8),(gd dh 9),(gd dh 10),(gd dh 11),(gd dh 12)]) (ib .eql a (.I 15) (bd (bW (gd p 1) (gd p 2) (gd p 3) (gd p 4) (gd p 5) (gd p 6) (gd p 7) (gd p 8) (gd p 9) (gd p 10) (gd p 11) (gd p 12) (gd p 13)) λdi=>w3 (gd di 0) λdj dk dl=>bd (bW (gd di 1) (gd di 2) (gd di 3) (gd di 4) (gd di 5) (gd di 6) (gd di 7) (gd di 8) (gd di 9) (gd di 10) (gd di 11) (gd di 12) (gd di 13)) λdm=>w3 (gd dm 0) λdn dp dq=>bd (tW a (.agg [dn,dp,dq]) (.agg [dj,dk,dl])) λdr=>c2 (hd dr) λds dt=>w3 ds λdu dv dw=>bd (aS dt) λdx=>bd (cO du dv dw (gd dm 1) (gd dm 2) (gd dm 3) (gd dm 4) (gd dm 5) (gd dm 6) (gd dm 7) (gd dm 8) (gd dm 9) dx (gd dm 11) (gd dm 12) (gd dm 13)) λdy=>some [(gd dy 0),(gd dy 1),(gd dy 2),(gd dy 3),(gd dy 4),(gd dy 5),(gd dy 6),(gd dy 7),(gd dy 8),(gd dy 9),(gd dy 10),(gd dy 11),(gd dy 12)]) (ib .eql a (.I 16) (bd (bW (gd p 1) (gd p 2) (gd p 3) (gd p 4) (gd p 5) (gd p 6) (gd p 7) (gd p 8) (gd p 9) (gd p 10) (gd p 11) (gd p 12) (gd p 13)) λdz=>bd (aGI (gd dz 0)) λea=>c2 (hd ea) λeb ec=>w3 eb λed ee ef=>bd (aS ec) λeg=>bd (cO ed ee ef (gd dz 1) (gd dz 2) (gd dz 3) (gd dz 4) (gd dz 5) (gd dz 6) (gd dz 7) (gd dz 8) (gd dz 9) eg (gd dz 11) (gd dz 12) (gd dz 13)) λeh=>some [(gd eh 0),(gd eh 1),(gd eh 2),(gd eh 3),(gd eh 4),(gd eh 5),(gd eh 6),(gd eh 7),(gd eh 8),(gd eh 9),(gd eh 10),(gd eh 11),(gd eh 12)]) (ib .eql a (.I 17) (bd (aS b) λei=>bd (aC 4 (gd p 11) (gd p 0) 1 ei) λej=>some [(gd p 1),(gd p 2),(gd p 3),(gd p 4),(gd p 5),(gd p 6),(gd p 7),(gd p 8),(gd p 9),(gd p 10),ej,(gd p 12),(gd p 13)]) (ib .eql a (.I 18) (bd (bW (gd p 1) (gd p 2) (gd p 3) (gd p 4) (gd p 5) (gd p 6) (gd p 7) (gd p 8) (gd p 9) (gd p 10) (gd p 11) (gd p 12) (gd p 13)) λek=>w3 (gd ek 0) λel em en=>ib .neq el (.I 2) (some [(gd ek 1),(gd ek 2),(gd ek 3),(gd ek 4),(gd ek 5),(gd ek 6),(gd ek 7),(gd ek 8),(gd ek 9),(.I 1),(gd ek 11),(gd ek 12),(gd ek 13)]) (bd (aD .eql em (.I 1)) λeo=>bd (aD .eql a (.I 18)) λep=>bd (dL .eql eo ep) λeq=>aV eq (bd (aS b) λer=>bd (aC 4 (gd ek 11) (gd p 0) 1 er) λes=>some [(gd ek 1),(gd ek 2),(gd ek 3),(gd ek 4),(gd ek 5),(gd ek 6),(gd ek 7),(gd ek 8),(gd ek 9),(gd ek 10),es,(gd ek 12),(gd ek 13)]) (some [(gd ek 1),(gd ek 2),(gd ek 3),(gd ek 4),(gd ek 5),(gd ek 6),(gd ek 7),(gd ek 8),(gd ek 9),(gd ek 10),(gd ek 11),(gd ek 12),(gd ek 13)]))) (ib .eql a (.I 19) (bd (bW (gd p 1) (gd p 2) (gd p 3) (gd p 4) (gd p 5) (gd p 6) (gd p 7) (gd p 8) (gd p 9) (gd p 10) (gd p 11) (gd p 12) (gd p 13)) λet=>w3 (gd et 0) λeu ev ew=>ib .neq eu (.I 2) (some [(gd et 1),(gd et 2),(gd et 3),(gd et 4),(gd et 5),(gd et 6),(gd et 7),(gd et 8),(gd et 9),(.I 1),(gd et 11),(gd et 12),(gd et 13)]) (bd (aD .eql ev (.I 1)) λex=>bd (aD .eql a (.I 18)) λey=>bd (dL .eql ex ey) λez=>aV ez (bd (aS b) λfa=>bd (aC 4 (gd et 11) (gd p 0) 1 fa) λfb=>some [(gd et 1),(gd et 2),(gd et 3),(gd et 4),(gd et 5),(gd et 6),(gd et 7),(gd et 8),(gd et 9),(gd et 10),fb,(gd et 12),(gd et 13)]) (some [(gd et 1),(gd et 2),(gd et 3),(gd et 4),(gd et 5),(gd et 6),(gd et 7),(gd et 8),(gd et 9),(gd et 10),(gd et 11),(gd et 12),(gd et 13)]))) (ib .eql a (.I 20) (ib .eql (gd p 3) (.I 120) (some [(gd p 1),(gd p 2),(gd p 3),(gd p 4),(gd p 5),(gd p 6),(gd p 7),(gd p 8),(gd p 9),(.I 7),(gd p 11),(gd p 12),(gd p 13)]) (bd (aK (gd p 12)) λfc=>bd (aS fc) λfd=>bd (cO (.I 4) fd (.str (bs [])) (gd p 1) (gd p 2) (gd p 3) (gd p 4) (gd p 5) (gd p 6) (gd p 7) (gd p 8) (gd p 9) (gd p 10) (gd p 11) (gd p 12) (gd p 13)) λfe=>bd (bD 32 (.agg [(.I 0),(.I 0),(.str (bs []))]) b) λff=>ib .leq b b (bd (bD 32 (.agg [(.I 0),(.I 0),(.str (bs []))]) b) λfg=>bd (aN 1 24 true (gd fe 11) (.lst [(.agg [fg])])) λfh=>bd (aD .add (gd fe 2) (.I 1)) λfi=>bd (aS fi) λfj=>some [(gd fe 0),(gd fe 1),fj,(gd fe 3),(gd fe 4),(gd fe 5),(gd fe 6),(gd fe 7),(gd fe 8),(gd fe 9),(gd fe 10),fh,(gd fe 12)]) (none))) (ib .eql a (.I 21) (bd (bW (gd p 1) (gd p 2) (gd p 3) (gd p 4) (gd p 5) (gd p 6) (gd p 7) (gd p 8) (gd p 9) (gd p 10) (gd p 11) (gd p 12) (gd p 13)) λfk=>w3 (gd fk 0) λfl fm fo=>ib .neq fl (.I 4) (some [(gd fk 1),(gd fk 2),(gd fk 3),(gd fk 4),(gd fk 5),(gd fk 6),(gd fk 7),(gd fk 8),(gd fk 9),(.I 1),(gd fk 11),(gd fk 12),(gd fk 13)]) (bd (aT (gd fk 12) fm) λfp=>bd (aB 1 true (gd fk 12) fm) λfq=>bd (aB 1 true (gd fk 12) fm) λfr=>bd (PV.cell fr 0) λfs=>bd (aK fs) λft=>ib .geq b ft (some [(gd fk 1),(gd fk 2),(gd fk 3),(gd fk 4),(gd fk 5),(gd fk 6),(gd fk 7),(gd fk 8),(gd fk 9),(.I 4),(gd fk 11),(gd fk 12),(gd fk 13)]) (bd (aT (gd fk 12) fm) λfu=>bd (aB 1 true (gd fk 12) fm) λfv=>bd (aB 1 true (gd fk 12) fm) λfw=>bd (PV.cell fw 0) λfx=>bd (aT fx b) λfy=>bd (aB 1 true (gd fk 12) fm) λfz=>bd (PV.cell fz 0) λga=>bd (aB 3 true ga b) λgb=>bd (lN gb (gd fk 1) (gd fk 2) (gd fk 3) (gd fk 4) (gd fk 5) (gd fk 6) (gd fk 7) (gd fk 8) (gd fk 9) (gd fk 10) (gd fk 11) (gd fk 12) (gd fk 13)) λgc=>some [(gd gc 0),(gd gc 1),(gd gc 2),(gd gc 3),(gd gc 4),(gd gc 5),(gd gc 6),(gd gc 7),(gd gc 8),(gd gc 9),(gd gc 10),(gd gc 11),(gd gc 12)]))) (ib .eql a (.I 22) (bd (bW (gd p 1) (gd p 2) (gd p 3) (gd p 4) (gd p 5) (gd p 6) (gd p 7) (gd p 8) (gd p 9) (gd p 10) (gd p 11) (gd p 12) (gd p 13)) λge=>w3 (gd ge 0) λgf gg gh=>bd (bW (gd ge 1) (gd ge 2) (gd ge 3) (gd ge 4) (gd ge 5) (gd ge 6) (gd ge 7) (gd ge 8) (gd ge 9) (gd ge 10) (gd ge 11) (gd ge 12) (gd ge 13)) λgi=>w3 (gd gi 0) λgj gk gl=>ib .neq gj (.I 4) (some [(gd gi 1),(gd gi 2),(gd gi 3),(gd gi 4),(gd gi 5),(gd gi 6),(gd gi 7),(gd gi 8),(gd gi 9),(.I 1),(gd gi 11),(gd gi 12),(gd gi 13)]) (bd (aT (gd gi 12) gk) λgm=>bd (aB 1 true (gd gi 12) gk) λgn=>bd (aB 1 true (gd gi 12) gk) λgo=>bd (PV.cell go 0) λgp=>bd (aK gp) λgq=>ib .geq b gq (some [(gd gi 1),(gd gi 2),(gd gi 3),(gd gi 4),(gd gi 5),(gd gi 6),(gd gi 7),(gd gi 8),(gd gi 9),(.I 4),(gd gi 11),(gd gi 12),(gd gi 13)]) (bd (aT (gd gi 12) gk) λgr=>bd (aB 1 true (gd gi 12) gk) λgs=>bd (aB 1 true (gd gi 12) gk) λgt=>bd (PV.cell gt 0) λgu=>bd (aT gu b) λgv=>bd (aB 1 true (gd gi 12) gk) λgw=>bd (PV.cell gw 0) λgx=>bd (aB 1 true (gd gi 12) gk) λgy=>bd (PV.cell gy 0) λgz=>bd (aX 3 true gz b (.agg [gf,gg,gh])) λha=>bd (aB 1 true (gd gi 12) gk) λhb=>bd (PV.cell hb 0) λhc=>bd (aC 1 (gd gi 12) gk 0 ha) λhe=>some [(gd gi 1),(gd gi 2),(gd gi 3),(gd gi 4),(gd gi 5),(gd gi 6),(gd gi 7),(gd gi 8),(gd gi 9),(gd gi 10),(gd gi 11),he,(gd gi 13)]))) (ib .eql a (.I 23) (bd (aB 4 true (gd p 11) (gd p 0)) λhf=>bd (aB 4 true (gd p 11) (gd p 0)) λhg=>bd (aB 4 true (gd p 11) (gd p 0)) λhh=>bd (PV.cell hh 3) λhi=>bd (aK hi) λhj=>bd (aD .sub hj (.I 1)) λhk=>bd (aD .sub hk b) λhl=>bd (aB 4 true (gd p 11) (gd p 0)) λhm=>bd (PV.cell hm 3) λhn=>bd (aT hn hl) λho=>bd (aB 4 true (gd p 11) (gd p 0)) λhp=>bd (PV.cell hp 3) λhq=>bd (aB 3 true hq hl) λhr=>w3 hr λhs ht hu=>ib .neq hs (.I 5) (some [(gd p 1),(gd p 2),(gd p 3),(gd p 4),(gd p 5),(gd p 6),(gd p 7),(gd p 8),(gd p 9),(.I 1),(gd p 11),(gd p 12),(gd p 13)]) (bd (aB 3 true (gd p 2) ht) λhv=>bd (PV.cell hv 0) λhw=>ib .neq hw b (some [(gd p 1),(gd p 2),(gd p 3),(gd p 4),(gd p 5),(gd p 6),(gd p 7),(gd p 8),(gd p 9),(.I 5),(gd p 11),(gd p 12),(gd p 13)]) (bd (rV ht (.bool true) (gd p 1) (gd p 2) (gd p 3) (gd p 4) (gd p 5) (gd p 6) (gd p 7) (gd p 8) (gd p 9) (gd p 10) (gd p 11) (gd p 12) (gd p 13)) λhx=>some [(gd hx 0),(gd hx 1),(gd hx 2),(gd hx 3),(gd hx 4),(gd hx 5),(gd hx 6),(gd hx 7),(gd hx 8),(gd hx 9),(gd hx 10),(gd hx 11),(gd hx 12)]))) (ib .eql a (.I 24) (bd (rV b (.bool false) (gd p 1) (gd p 2) (gd p 3) (gd p 4) (gd p 5) (gd p 6) (gd p 7) (gd p 8) (gd p 9) (gd p 10) (gd p 11) (gd p 12) (gd p 13)) λhy=>some [(gd hy 0),(gd hy 1),(gd hy 2),(gd hy 3),(gd hy 4),(gd hy 5),(gd hy 6),(gd hy 7),(gd hy 8),(gd hy 9),(gd hy 10),(gd hy 11),(gd hy 12)]) (ib .eql a (.I 25) (bd (bW (gd p 1) (gd p 2) (gd p 3) (gd p 4) (gd p 5) (gd p 6) (gd p 7) (gd p 8) (gd p 9) (gd p 10) (gd p 11) (gd p 12) (gd p 13)) λhz=>w3 (gd hz 0) λia ic id=>bd (aK (gd hz 11)) λie=>bd (aD .sub ie (.I 1)) λig=>bd (bA 4 true (gd hz 11) (.I 0) ig) λih=>bd (bA 4 true (gd hz 11) (.I 0) ig) λii=>bd (aK ii) λij=>ib .eql ij (.I 0) (some [(gd hz 1),(gd hz 2),(gd hz 3),(.I 1),(gd hz 5),ia,ic,id,(gd hz 9),(gd hz 10),ii,(gd hz 12),(gd hz 13)]) (bd (cO ia ic id (gd hz 1) (gd hz 2) (gd hz 3) (gd hz 4) (gd hz 5) (gd hz 6) (gd hz 7) (gd hz 8) (gd hz 9) (gd hz 10) ii (gd hz 12) (gd hz 13)) λik=>some [(gd ik 0),(gd ik 1),(gd ik 2),(gd ik 3),(gd ik 4),(gd ik 5),(gd ik 6),(gd ik 7),(gd ik 8),(gd ik 9),(gd ik 10),(gd ik 11),(gd ik 12)])) (ib .eql a (.I 26) (bd (bW (gd p 1) (gd p 2) (gd p 3) (gd p 4) (gd p 5) (gd p 6) (gd p 7) (gd p 8) (gd p 9) (gd p 10) (gd p 11) (gd p 12) (gd p 13)) λil=>w3 (gd il 0) λim io ip=>bd (aK (gd il 13)) λiq=>ib .eql iq (.I 200) (some [(gd il 1),(gd il 2),(gd il 3),(gd il 4),(gd il 5),(gd il 6),(gd il 7),(gd il 8),(gd il 9),(.I 8),(gd il 11),(gd il 12),(gd il 13)]) (bd (aAB (.agg [im,io,ip]) (gd il 12)) λir=>aE (hd ir) (bd (aN 1 16 false (.lst []) (.lst [(hd ir)])) λit=>bd (aN 1 16 false (gd il 13) it) λiu=>some [(gd il 1),(gd il 2),(gd il 3),(gd il 4),(gd il 5),(gd il 6),(gd il 7),(gd il 8),(gd il 9),(gd il 10),(gd il 11),(gd il 12),iu]))) (some [(gd p 1),(gd p 2),(gd p 3),(gd p 4),(gd p 5),(gd p 6),(gd p 7),(gd p 8),(gd p 9),(gd p 10),(gd p 11),(gd p 12),(gd p 13)])))))))))))))))))))))))))):=sE
variable (a b c d e f g h i : PV)
theorem aNh : tW a b c=w3 b λd e f=>w3 c λg h i=>ib .eql a (.I 11) (bd (aGJ (.agg [d,e,f]) (.agg [g,h,i])) λj=>c2 (hd j) λk l=>w3 k λm n o=>some [(.tup [(.agg [m,n,o]),l])]) (ib .eql a (.I 12) (bd (aGK (.agg [d,e,f]) (.agg [g,h,i])) λp=>c2 (hd p) λq r=>w3 q λs t u=>some [(.tup [(.agg [s,t,u]),r])]) (ib .eql a (.I 13) (bd (aGL (.agg [d,e,f]) (.agg [g,h,i])) λv=>c2 (hd v) λw x=>w3 w λy z A=>some [(.tup [(.agg [y,z,A]),x])]) (ib .eql a (.I 14) (bd (aEI (.agg [d,e,f]) (.agg [g,h,i])) λB=>c2 (hd B) λC D=>w3 C λE F G=>some [(.tup [(.agg [E,F,G]),D])]) (bd (aEL (.agg [d,e,f]) (.agg [g,h,i])) λH=>w3 (hd H) λI J K=>some [(.tup [(.agg [I,J,K]),(.I 0)])])))):=pE
theorem aNi : aGI a=w3 a λb c d=>ib .neq b (.I 2) (some [(.tup [(.agg [(.I 0),(.I 0),(.str (bs []))]),(.I 1)])]) (bd (aD .neq c (.I 1)) λe=>bd (jU e) λf=>w3 (hd f) λg h i=>some [(.tup [(.agg [g,h,i]),(.I 0)])]):=pE
theorem aH8 : aAB a b=w3 a λc d e=>ib .eql c (.I 0) (some [(.str (bs [110,105,108]))]) (ib .eql c (.I 1) (bd (hJ d) λf=>some [(hd f)]) (ib .eql c (.I 2) (ib .eql d (.I 1) (some [(.str (bs [116,114,117,101]))]) (some [(.str (bs [102,97,108,115,101]))])) (ib .eql c (.I 3) (some [e]) (ib .eql c (.I 5) (bd (hJ d) λg=>bd (aD .add (.str (bs [102,117,110])) (hd g)) λh=>some [h]) (ib .eql c (.I 4) (bd (aK b) λi=>bd (aD .sub i (.I 1)) λj=>bd (aR d (.I 0) j) λk=>aV (hd k) (bd (aB 1 true b d) λl=>bd (PV.cell l 0) λm=>bd (aK m) λn=>bd (hJ n) λo=>bd (aD .add (.str (bs [123])) (hd o)) λp=>bd (aD .add p (.str (bs [125]))) λq=>some [q]) (some [(.str (bs []))])) (some [(.str (bs []))])))))):=pE
theorem aNj : aGJ a b=w3 a λc d e=>w3 b λf g h=>ib .eql c (.I 3) (ib .eql f (.I 3) (aGf c d e f g h (.I 0) (.I 0) (.str (bs []))) (bd (mZ (.I 11) (.agg [c,d,e]) (.agg [f,g,h])) λi=>c2 (hd i) λj k=>w3 j λl m n=>some [(.tup [(.agg [l,m,n]),k])])) (bd (mZ (.I 11) (.agg [c,d,e]) (.agg [f,g,h])) λo=>c2 (hd o) λp q=>w3 p λr s t=>some [(.tup [(.agg [r,s,t]),q])]):=pE
theorem aJk : aGf a b c d e f g h i=bd (bV c) λj=>bd (bV f) λk=>bd (aD .sub (.I 60) k) λl=>ib .gtr j l (some [(.tup [(.agg [(.I 0),(.I 0),(.str (bs []))]),(.I 3)])]) (bd (aD .add c f) λm=>bd (aS m) λn=>some [(.tup [(.agg [(.I 3),(.I 0),n]),(.I 0)])]):=gE
variable (a b c d e f g h i j k l m n o p q : PV)
theorem aNk : aGK a b=w3 a λc d e=>w3 b λf g h=>bd (mZ (.I 12) (.agg [c,d,e]) (.agg [f,g,h])) λi=>c2 (hd i) λj k=>w3 j λl m n=>some [(.tup [(.agg [l,m,n]),k])]:=pE
theorem aNl : aGL a b=w3 a λc d e=>w3 b λf g h=>bd (mZ (.I 13) (.agg [c,d,e]) (.agg [f,g,h])) λi=>c2 (hd i) λj k=>w3 j λl m n=>some [(.tup [(.agg [l,m,n]),k])]:=pE
theorem aMj : aEI a b=w3 a λc d e=>w3 b λf g h=>ib .eql c (.I 3) (ib .eql f (.I 3) (aEJ c d e f g h (.I 0) (.I 0) (.str (bs []))) (vI c d e f g h (.I 0) (.I 0) (.str (bs [])))) (vI c d e f g h (.I 0) (.I 0) (.str (bs []))):=pE
theorem aH9 : aEJ a b c d e f g h i=bd (aD .lss c f) λj=>bd (jU j) λk=>w3 (hd k) λl m n=>some [(.tup [(.agg [l,m,n]),(.I 0)])]:=gE
theorem aIa : vI a b c d e f g h i=ib .eql a (.I 1) (ib .eql d (.I 1) (aEK a b c d e f g h i) (some [(.tup [(.agg [(.I 0),(.I 0),(.str (bs []))]),(.I 1)])])) (some [(.tup [(.agg [(.I 0),(.I 0),(.str (bs []))]),(.I 1)])]):=gE
theorem aIb : aEK a b c d e f g h i=bd (aD .lss b e) λj=>bd (jU j) λk=>w3 (hd k) λl m n=>some [(.tup [(.agg [l,m,n]),(.I 0)])]:=gE
theorem aMk : aEL a b=w3 a λc d e=>w3 b λf g h=>ib .eql c f (ib .eql d g (bd (aD .eql e h) λi=>bd (jU i) λj=>w3 (hd j) λk l m=>some [(.agg [k,l,m])]) (bd (jU (.bool false)) λn=>w3 (hd n) λo p q=>some [(.agg [o,p,q])])) (bd (jU (.bool false)) λr=>w3 (hd r) λs t u=>some [(.agg [s,t,u])]):=pE
theorem vM : hJ a=ib .lss a (.I 0) (ib .lss a (.I (-9)) (bd (aD .quo a (.I 10)) λb=>bd (dM b) λc=>bd (hJ c) λd=>bd (aD .add (.str (bs [45])) (hd d)) λe=>bd (aD .rem a (.I 10)) λf=>bd (dM f) λg=>bd (hJ g) λh=>bd (aD .add e (hd h)) λi=>some [i]) (bd (dM a) λj=>bd (hJ j) λk=>bd (aD .add (.str (bs [45])) (hd k)) λl=>some [l])) (ib .lss a (.I 10) (bd (aD .add (.I 48) a) λm=>bd (bR .u8 m) λn=>bd (aN 1 1 false (.lst []) (.lst [n])) λo=>bd (bK o) λp=>some [p]) (bd (aD .quo a (.I 10)) λq=>bd (hJ q) λr=>bd (aD .rem a (.I 10)) λs=>bd (aD .add (.I 48) s) λt=>bd (bR .u8 t) λu=>bd (aN 1 1 false (.lst []) (.lst [u])) λv=>bd (bK v) λw=>bd (aD .add (hd r) w) λx=>some [x])):=pE
theorem aG6 : mZ a b c=w3 b λd e f=>w3 c λg h i=>ib .neq d (.I 1) (some [(.tup [(.agg [(.I 0),(.I 0),(.str (bs []))]),(.I 1)])]) (ib .neq g (.I 1) (some [(.tup [(.agg [(.I 0),(.I 0),(.str (bs []))]),(.I 1)])]) (bd (aBM a e h) λj=>c2 (hd j) λk l=>ib .neq l (.I 0) (some [(.tup [(.agg [(.I 0),(.I 0),(.str (bs []))]),l])]) (bd (jD k) λm=>w3 (hd m) λn o p=>some [(.tup [(.agg [n,o,p]),(.I 0)])]))):=pE
theorem aJl : aBM a b c=bd (lJ b) λd=>nb (hd d) (some [(.tup [(.I 0),(.I 2)])]) (bd (lJ c) λe=>nb (hd e) (some [(.tup [(.I 0),(.I 2)])]) (bd (aD .add b c) λf=>ib .eql a (.I 12) (bd (aD .sub b c) λg=>bd (lJ g) λh=>nb (hd h) (some [(.tup [(.I 0),(.I 2)])]) (some [(.tup [g,(.I 0)])])) (ib .eql a (.I 13) (bd (aD .mul b c) λi=>bd (lJ i) λj=>nb (hd j) (some [(.tup [(.I 0),(.I 2)])]) (some [(.tup [i,(.I 0)])])) (bd (lJ f) λk=>nb (hd k) (some [(.tup [(.I 0),(.I 2)])]) (some [(.tup [f,(.I 0)])]))))):=pE
theorem rI : fJ a=bd (aK a) λb=>dN a (.I 0) a b (.I 0):=sE
theorem fS : dN a b c d e=ib .lss e d (bd (aB 1 false c e) λf=>bd (aK f) λg=>bd (aD .add b g) λh=>ib .lss h (.I 0) (none) (bd (aD .add e (.I 1)) λi=>dN a h c d i)) (bd (iO b) λj=>bd (aK a) λk=>dI a k (.I 0) (gd j 0)):=gE
theorem fN : dI a b c d=ib .lss c b (bd (aB 1 false a c) λe=>bd (aN 3 32 true d e) λf=>bd (aD .add c (.I 1)) λg=>dI a b g f) (some [d]):=gE
theorem aEU : uN a b c d e f g h i j k l m n o p=aV d (bd (aK f) λq=>bd (aK h) λr=>bd (zM (.agg [a,b,c]) q r) λs=>bd (aS (hd s)) λt=>some [t,e,f,g,h,i,j,k,l,m,n,o,p]) (some [(.bool false),e,f,g,h,i,j,k,l,m,n,o,p]):=sE
theorem aDN : pM a b c=bd (aG (.I 3) a b c) λd=>mE (gd d 0) (gd d 1) (gd d 2) (gd d 3) (.lst []) (.lst []) (.lst []) (.lst []):=sE
theorem sW : mE a b c d e f g h=ib .gtr a (.I 0) (bd (aG (.I 5) b c d) λi=>bd (aT (.lst [(.str (bs [])),(.str (bs [97])),(.str (bs [98,99])),(.str (bs [104,101,108,108,111,32,119,111,114,108,100])),(.str (bs [120,32,121]))]) (gd i 0)) λj=>bd (aB 1 false (.lst [(.str (bs [])),(.str (bs [97])),(.str (bs [98,99])),(.str (bs [104,101,108,108,111,32,119,111,114,108,100])),(.str (bs [120,32,121]))]) (gd i 0)) λk=>bd (aN 1 16 false (.lst []) (.lst [k])) λl=>bd (aN 1 16 false g l) λm=>bd (aD .sub a (.I 1)) λn=>mE n (gd i 1) (gd i 2) (gd i 3) e f m h) (bd (aG (.I 4) b c d) λo=>jI (gd o 0) (gd o 1) (gd o 2) (gd o 3) e f g h (.lst [])):=gE
theorem sX : jI a b c d e f g h i=ib .gtr a (.I 0) (bd (aG (.I 3) b c d) λj=>bd (aS (gd j 0)) λk=>bd (aD .add (.I 1) k) λl=>bd (aG (.I 2) (gd j 1) (gd j 2) (gd j 3)) λm=>bd (aD .add l (gd m 0)) λn=>bd (aS n) λo=>bd (aK g) λp=>bd (aN 3 40 true (.lst []) i) λq=>bd (aS p) λr=>bd (aS o) λs=>bd (fH (.I 3) (gd m 1) (gd m 2) (gd m 3)) λt=>aV (gd t 0) (bd (jQ (.I 1) (.I 2) q r s (.bool false) (gd t 1) (gd t 2) (gd t 3) (.lst [])) λu=>lE a (gd u 4) (gd u 5) (gd u 6) k o (gd u 0) (gd u 1) (gd u 2) (gd u 3) e f g h i (.lst []) (gd u 7)) (lE a (gd t 1) (gd t 2) (gd t 3) k o q r s (.bool false) e f g h i (.lst []) (.lst []))) (bd (aG (.I 3) b c d) λv=>bd (aG (.I 2) (gd v 1) (gd v 2) (gd v 3)) λw=>bd (aD .add (.I 3) (gd w 0)) λx=>bd (aS (gd v 0)) λy=>bd (aS x) λz=>bd (aK g) λA=>bd (aS A) λB=>bd (aS z) λC=>bd (wV (.I 5) (gd w 1) (gd w 2) (gd w 3)) λD=>bd (aD .add (.I 1) (gd D 0)) λE=>bd (jQ (.I 2) E i B C (.bool true) (gd D 1) (gd D 2) (gd D 3) (.lst [])) λF=>bd (bB (.I 1) (gd F 0) (gd F 1) (gd F 2) (gd F 3) (gd F 4) (gd F 5) (gd F 6) (gd F 7)) λG=>bd (aP (.I 25) (.I 0) (gd G 0) (gd G 1) (gd G 2) (gd G 3) (gd G 4) (gd G 5) (gd G 6) (gd G 7)) λH=>bd (aN 3 40 true (.lst [(.agg [y,z,(gd H 7)])]) i) λI=>some [(.agg [g,I]),(gd H 4),(gd H 5),(gd H 6)]):=gE
theorem aAY : lE a b c d e f g h i j k l m n o p q=bd (bB (.I 2) g h i j b c d q) λr=>bd (aP (.I 25) (.I 0) (gd r 0) (gd r 1) (gd r 2) (gd r 3) (gd r 4) (gd r 5) (gd r 6) (gd r 7)) λs=>bd (aN 3 40 true o (.lst [(.agg [e,f,(gd s 7)])])) λt=>bd (aD .sub a (.I 1)) λu=>jI u (gd s 4) (gd s 5) (gd s 6) k l m n t:=gE
theorem aJm : aBN a b c d e=bd (tY (.agg [a,b])) λf=>aH oO (gd f 0) (aH (.own 3 40 true [.leaf,.leaf,(.own 2 16 true [])]) (gd f 1) (bd (aK (gd f 1)) λg=>bd (aG g c d e) λh=>bd (aT (gd f 1) (gd h 0)) λi=>bd (aB 3 true (gd f 1) (gd h 0)) λj=>bd (aB 3 true (gd f 1) (gd h 0)) λk=>bd (PV.cell k 2) λl=>bd (aK l) λm=>bd (aG m (gd h 1) (gd h 2) (gd h 3)) λn=>bd (aG (.I 8) (gd n 1) (gd n 2) (gd n 3)) λo=>ib .eql (gd o 0) (.I 0) (bd (aT (gd f 1) (gd h 0)) λp=>bd (aB 3 true (gd f 1) (gd h 0)) λq=>bd (aG (.I 29) (gd o 1) (gd o 2) (gd o 3)) λr=>bd (aD .sub (gd r 0) (.I 1)) λs=>bd (aB 3 true (gd f 1) (gd h 0)) λt=>bd (PV.cell t 2) λu=>bd (aT u (gd n 0)) λv=>bd (aB 3 true (gd f 1) (gd h 0)) λw=>bd (PV.cell w 2) λx=>bd (aS s) λy=>bd (aB 3 true (gd f 1) (gd h 0)) λz=>bd (PV.cell z 2) λA=>bd (aC 2 A (gd n 0) 0 y) λB=>bd (aB 3 true (gd f 1) (gd h 0)) λC=>bd (PV.cell C 2) λD=>bd (aC 3 (gd f 1) (gd h 0) 2 B) λE=>some [(.agg [(gd f 0),E]),(gd r 1),(gd r 2),(gd r 3)]) (ib .eql (gd o 0) (.I 1) (bd (aT (gd f 1) (gd h 0)) λF=>bd (aB 3 true (gd f 1) (gd h 0)) λG=>bd (iH (gd o 1) (gd o 2) (gd o 3)) λH=>bd (aB 3 true (gd f 1) (gd h 0)) λI=>bd (PV.cell I 2) λJ=>bd (aT J (gd n 0)) λK=>bd (aB 3 true (gd f 1) (gd h 0)) λL=>bd (PV.cell L 2) λM=>bd (aS (gd H 0)) λN=>bd (aB 3 true (gd f 1) (gd h 0)) λO=>bd (PV.cell O 2) λP=>bd (aC 2 P (gd n 0) 1 N) λQ=>bd (aB 3 true (gd f 1) (gd h 0)) λR=>bd (PV.cell R 2) λS=>bd (aC 3 (gd f 1) (gd h 0) 2 Q) λT=>some [(.agg [(gd f 0),T]),(gd H 1),(gd H 2),(gd H 3)]) (ib .eql (gd o 0) (.I 2) (bd (aG (.I 9) (gd o 1) (gd o 2) (gd o 3)) λU=>bd (aD .sub (gd U 0) (.I 1)) λV=>bd (aT (gd f 1) (gd h 0)) λW=>bd (aS V) λX=>bd (aC 3 (gd f 1) (gd h 0) 0 X) λY=>some [(.agg [(gd f 0),Y]),(gd U 1),(gd U 2),(gd U 3)]) (ib .eql (gd o 0) (.I 3) (bd (aG (.I 4) (gd o 1) (gd o 2) (gd o 3)) λZ=>bd (aT (.lst [(.I (-1)),(.I 0),(.I 12),(.I 13)]) (gd Z 0)) λaa=>bd (aB 1 false (.lst [(.I (-1)),(.I 0),(.I 12),(.I 13)]) (gd Z 0)) λab=>bd (aT (gd f 1) (gd h 0)) λac=>bd (aS ab) λad=>bd (aC 3 (gd f 1) (gd h 0) 1 ad) λae=>some [(.agg [(gd f 0),ae]),(gd Z 1),(gd Z 2),(gd Z 3)]) (ib .eql (gd o 0) (.I 4) (bd (aG (.I 4) (gd o 1) (gd o 2) (gd o 3)) λaf=>bd (aT (.lst [(.str (bs [113,34])),(.str (bs [10])),(.str (bs [48,49,50,51,52,53,54,55,56,57,48,49,50,51,52,53,54,55,56,57,48,49,50,51,52,53,54,55,56,57,48,49,50,51,52,53,54,55,56,57,48,49,50,51,52,53,54,55,56,57,48,49,50,51,52,53,54,55,56,57,48])),(.str (bs [195,169]))]) (gd af 0)) λag=>bd (aB 1 false (.lst [(.str (bs [113,34])),(.str (bs [10])),(.str (bs [48,49,50,51,52,53,54,55,56,57,48,49,50,51,52,53,54,55,56,57,48,49,50,51,52,53,54,55,56,57,48,49,50,51,52,53,54,55,56,57,48,49,50,51,52,53,54,55,56,57,48,49,50,51,52,53,54,55,56,57,48])),(.str (bs [195,169]))]) (gd af 0)) λah=>bd (aN 1 16 false (.lst []) (.lst [ah])) λai=>bd (aN 1 16 false (gd f 0) ai) λaj=>some [(.agg [aj,(gd f 1)]),(gd af 1),(gd af 2),(gd af 3)]) (ib .eql (gd o 0) (.I 5) (bd (aT (gd f 1) (gd h 0)) λak=>bd (aB 3 true (gd f 1) (gd h 0)) λal=>bd (aB 3 true (gd f 1) (gd h 0)) λam=>bd (PV.cell am 2) λan=>bd (bA 2 true an (.I 0) (gd n 0)) λao=>bd (aT (gd f 1) (gd h 0)) λap=>bd (aB 3 true (gd f 1) (gd h 0)) λaq=>bd (aD .add (gd n 0) (.I 1)) λar=>bd (aB 3 true (gd f 1) (gd h 0)) λau=>bd (PV.cell au 2) λav=>bd (aK av) λaw=>bd (bA 2 true av ar aw) λax=>bd (aB 3 true (gd f 1) (gd h 0)) λay=>bd (PV.cell ay 2) λaz=>bd (aB 3 true (gd f 1) (gd h 0)) λba=>bd (PV.cell ba 2) λbb=>bd (bA 2 true bb ar aw) λbc=>bd (bA 2 true az (.I 0) (gd n 0)) λbe=>bd (aB 3 true (gd f 1) (gd h 0)) λbf=>bd (PV.cell bf 2) λbg=>bd (aC 3 (gd f 1) (gd h 0) 2 .hole) λbh=>bd (aN 2 16 true be bc) λbi=>bd (aT bh (gd h 0)) λbj=>bd (aC 3 bh (gd h 0) 2 bi) λbk=>some [(.agg [(gd f 0),bk]),(gd o 1),(gd o 2),(gd o 3)]) (ib .eql (gd o 0) (.I 6) (qM (gd o 1) (gd o 2) (gd o 3) (.lst []) (.lst []) (gd f 0) (gd f 1)) (bd (aT (gd f 1) (gd h 0)) λbl=>bd (aB 3 true (gd f 1) (gd h 0)) λbm=>bd (aB 3 true (gd f 1) (gd h 0)) λbn=>bd (PV.cell bn 2) λbo=>bd (aT bo (gd n 0)) λbp=>bd (aB 3 true (gd f 1) (gd h 0)) λbq=>bd (PV.cell bq 2) λbr=>bd (aB 2 true br (gd n 0)) λbt=>w2 bt λbu bv=>rS (gd h 0) (gd o 1) (gd o 2) (gd o 3) bu bv (.lst []) (.lst []) (gd f 0) (gd f 1)))))))))):=sE
theorem yA : qM a b c d e f g=bd (aK g) λh=>bd (aG (.I 2) a b c) λi=>bd (aD .add (.I 12) (gd i 0)) λj=>ib .lss h j (bd (aN 3 40 true g (.lst [(.agg [(.I 0),(.I 0),(.lst [(.agg [(.I 4),(.I 0)]),(.agg [(.I 25),(.I 0)])])])])) λk=>qM (gd i 1) (gd i 2) (gd i 3) d e f k) (some [(.agg [f,g]),(gd i 1),(gd i 2),(gd i 3)]):=gE
theorem yZ : rS a b c d e f g h i j=bd (aT j a) λk=>bd (aB 3 true j a) λl=>bd (aB 3 true j a) λm=>bd (PV.cell m 2) λn=>bd (aK n) λo=>bd (aG (.I 2) b c d) λp=>bd (aD .add (.I 120) (gd p 0)) λq=>ib .lss o q (bd (aT j a) λr=>bd (aB 3 true j a) λs=>bd (aB 3 true j a) λt=>bd (PV.cell t 2) λu=>bd (aB 3 true j a) λv=>bd (PV.cell v 2) λw=>bd (aC 3 j a 2 .hole) λx=>bd (aN 2 16 true u (.lst [(.agg [e,f])])) λy=>bd (aT x a) λz=>bd (aC 3 x a 2 y) λA=>rS a (gd p 1) (gd p 2) (gd p 3) e f g h i A) (some [(.agg [i,j]),(gd p 1),(gd p 2),(gd p 3)]):=gE
theorem aDO : iH a b c=bd (aG (.I 9) a b c) λd=>ib .eql (gd d 0) (.I 0) (bd (aG (.I 256) (gd d 1) (gd d 2) (gd d 3)) λe=>bd (aD .sub (gd e 0) (.I 128)) λf=>some [f,(gd e 1),(gd e 2),(gd e 3)]) (ib .eql (gd d 0) (.I 1) (bd (aG (.I 8) (gd d 1) (gd d 2) (gd d 3)) λg=>bd (aT (.lst [(.I 1000000000),(.I (-1000000000)),(.I 1000000001),(.I (-1000000001)),(.I 9223372036854775807),(.I (-9223372036854775808)),(.I 4611686018427387904),(.I 31623)]) (gd g 0)) λh=>bd (aB 1 false (.lst [(.I 1000000000),(.I (-1000000000)),(.I 1000000001),(.I (-1000000001)),(.I 9223372036854775807),(.I (-9223372036854775808)),(.I 4611686018427387904),(.I 31623)]) (gd g 0)) λi=>some [i,(gd g 1),(gd g 2),(gd g 3)]) (bd (aG (.I 12) (gd d 1) (gd d 2) (gd d 3)) λj=>bd (aD .sub (gd j 0) (.I 3)) λk=>some [k,(gd j 1),(gd j 2),(gd j 3)])):=sE
theorem aKC : zN a b c=w2 a λd e=>bd (aB 3 true e b) λf=>bd (PV.cell f 1) λg=>bd (aK c) λh=>bd (aD .sub g h) λi=>bd (aFx i) λj=>aH o3 (gd j 0) (bd (aN 1 24 false (.lst []) (.lst [c,(gd j 0)])) λk=>bd (fJ k) λl=>aH o3 (gd l 0) (bd (aS b) λm=>some [m,(.I 0),(gd l 0),(.lst [])])):=sE
theorem aG7 : yN a=bd (aK a) λb=>pN a b (.I 0) (.lst []):=sE
theorem vX : pN a b c d=ib .lss c b (bd (aB 4 true a c) λe=>w4 e λf g h i=>bd (eA h) λj=>aH o3 (gd j 0) (bd (eA i) λk=>aH o3 (gd k 0) (bd (aN 4 64 true d (.lst [(.agg [f,g,(gd j 0),(gd k 0)])])) λl=>bd (aD .add c (.I 1)) λm=>pN a b m l))) (some [d]):=gE
theorem aJn : aBO a=bd (aK a) λb=>rT a b (.I 0) (.lst []):=sE
theorem zA : rT a b c d=ib .lss c b (bd (aB 1 true a c) λe=>w1 e λf=>bd (eA f) λg=>aH o3 (gd g 0) (bd (aN 1 24 true d (.lst [(.agg [(gd g 0)])])) λh=>bd (aD .add c (.I 1)) λi=>rT a b i h)) (some [d]):=gE
theorem yB : lY a=bd (bL a) λb=>cC b (some [(.lst [])]) (bd (aN 1 16 false (.lst []) a) λc=>some [c]):=sE
theorem aFV : wS a b c d e f g h i j k l m=ib .neq d (.I 0) (some [c,d,e,f,g,h,i,k,l,m,j]) (bd (aCW (.agg [a,b]) (.bx [k,l,c,m,d,e,f,g,h,i])) λn=>aE (hd n) (c2 (hd n) λo p=>w4 o λq r s t=>nb p (some [c,d,e,f,g,h,i,k,l,m,j]) (bd (cN j (.agg [q,r,s,t]) (.fn 47 [])) λu=>aE (hd u) (c2 (hd u) λv w=>aV w (bd (aT j v) λx=>bd (aB 4 true j v) λy=>bd (sS (.agg [a,b]) y (.agg [q,r,s,t])) λz=>bd (aT j v) λA=>bd (aX 4 true j v (hd z)) λB=>some [c,d,e,f,g,h,i,k,l,m,B]) (bd (aK j) λC=>ib .lss C (.I 150) (bd (eY v j (.lst [(.agg [q,r,s,t])])) λD=>some [c,d,e,f,g,h,i,k,l,m,(gd D 0)]) (some [c,d,e,f,g,h,i,k,l,m,j])))))):=sE
theorem aNm : aGM a b c d e f g h i j k l=bd (aK j) λm=>bd (aD .sub m (.I 1)) λn=>bd (aT j n) λo=>bd (aB 4 true j n) λp=>bd (PV.cell p 0) λq=>bd (aB 3 true b q) λr=>bd (PV.cell r 2) λs=>bd (aB 4 true j n) λt=>bd (PV.cell t 1) λu=>bd (aB 2 true s u) λv=>w2 v λw x=>bd (aBd (.agg [a,b]) (.agg [w,x])) λy=>c2 (hd y) λz A=>bd (aB 4 true j n) λB=>bd (aB 4 true j n) λC=>bd (PV.cell C 3) λD=>bd (aK D) λE=>bd (aD .sub E z) λF=>bd (aB 4 true j n) λG=>bd (aB 4 true j n) λH=>bd (PV.cell H 3) λI=>bd (aK I) λJ=>bd (bA 3 true I F J) λK=>bd (aB 4 true j n) λL=>bd (PV.cell L 3) λM=>bd (bA 3 true M F J) λN=>bd (eA N) λO=>aH o3 (gd O 0) (bd (aB 4 true j n) λP=>bd (PV.cell P 1) λQ=>bd (aD .add Q (.I 1)) λR=>ib .eql w (.I 1) (bd (aC0 x) λS=>bd (aN 3 32 true (.lst []) (.lst [(hd S)])) λT=>bd (aN 3 32 true (.lst []) T) λU=>bd (aB 4 true j n) λV=>bd (aB 4 true j n) λW=>bd (PV.cell W 3) λX=>bd (bA 3 true X (.I 0) F) λY=>bd (aB 4 true j n) λZ=>bd (PV.cell Z 3) λaa=>bd (bA 3 true aa (.I 0) F) λab=>bd (aB 4 true j n) λac=>bd (PV.cell ac 3) λad=>bd (aC 4 j n 3 .hole) λae=>bd (aN 3 32 true ab U) λaf=>bd (aC 4 ae n 3 af) λag=>bd (aS R) λah=>bd (aC 4 ag n 1 ah) λai=>some [(.I 0),c,d,e,f,g,h,i,ai,k,l]) (ib .eql w (.I 2) (bd (aD .eql x (.I 1)) λaj=>bd (rG aj) λak=>bd (aN 3 32 true (.lst []) (.lst [(hd ak)])) λal=>bd (aN 3 32 true (.lst []) al) λam=>bd (aB 4 true j n) λan=>bd (aB 4 true j n) λao=>bd (PV.cell ao 3) λap=>bd (bA 3 true ap (.I 0) F) λaq=>bd (aB 4 true j n) λar=>bd (PV.cell ar 3) λau=>bd (bA 3 true au (.I 0) F) λav=>bd (aB 4 true j n) λaw=>bd (PV.cell aw 3) λax=>bd (aC 4 j n 3 .hole) λay=>bd (aN 3 32 true av am) λaz=>bd (aC 4 ay n 3 az) λba=>bd (aS R) λbb=>bd (aC 4 ba n 1 bb) λbc=>some [(.I 0),c,d,e,f,g,h,i,bc,k,l]) (ib .eql w (.I 3) (bd (aB 1 false a x) λbe=>bd (aS be) λbf=>bd (aB 4 true j n) λbg=>bd (aB 4 true j n) λbh=>bd (PV.cell bh 3) λbi=>bd (bA 3 true bi (.I 0) F) λbj=>bd (aB 4 true j n) λbk=>bd (PV.cell bk 3) λbl=>bd (bA 3 true bl (.I 0) F) λbm=>bd (aB 4 true j n) λbn=>bd (PV.cell bn 3) λbo=>bd (aC 4 j n 3 .hole) λbp=>bd (aN 3 32 true bm (.lst [(.agg [(.I 3),(.I 0),bf])])) λbq=>bd (aC 4 bp n 3 bq) λbr=>bd (aS R) λbt=>bd (aC 4 br n 1 bt) λbu=>some [(.I 0),c,d,e,f,g,h,i,bu,k,l]) (ib .eql w (.I 4) (bd (aB 4 true j n) λbv=>bd (aB 4 true j n) λbw=>bd (PV.cell bw 3) λbz=>bd (bA 3 true bz (.I 0) F) λca=>bd (aB 4 true j n) λcb=>bd (PV.cell cb 3) λcc=>bd (bA 3 true cc (.I 0) F) λcd=>bd (aB 4 true j n) λce=>bd (PV.cell ce 3) λcf=>bd (aC 4 j n 3 .hole) λcg=>bd (aN 3 32 true cd (.lst [(.agg [(.I 0),(.I 0),(.str (bs []))])])) λch=>bd (aC 4 cg n 3 ch) λci=>bd (aS R) λcj=>bd (aC 4 ci n 1 cj) λck=>some [(.I 0),c,d,e,f,g,h,i,ck,k,l]) (ib .eql w (.I 5) (bd (aS x) λcl=>bd (aB 4 true j n) λcm=>bd (aB 4 true j n) λcn=>bd (PV.cell cn 3) λco=>bd (bA 3 true co (.I 0) F) λcp=>bd (aB 4 true j n) λcq=>bd (PV.cell cq 3) λcr=>bd (bA 3 true cr (.I 0) F) λcs=>bd (aB 4 true j n) λct=>bd (PV.cell ct 3) λcu=>bd (aC 4 j n 3 .hole) λcv=>bd (aN 3 32 true cs (.lst [(.agg [(.I 5),cl,(.str (bs []))])])) λcw=>bd (aC 4 cv n 3 cw) λcx=>bd (aS R) λcy=>bd (aC 4 cx n 1 cy) λcz=>some [(.I 0),c,d,e,f,g,h,i,cz,k,l]) (ib .eql w (.I 6) (bd (aB 4 true j n) λda=>bd (aB 4 true j n) λdb=>bd (PV.cell db 2) λdc=>bd (aT dc x) λdd=>bd (aB 4 true j n) λde=>bd (PV.cell de 2) λdf=>bd (aB 3 true df x) λdg=>bd (aN 3 32 true (.lst []) (.lst [dg])) λdh=>bd (aN 3 32 true (.lst []) dh) λdi=>bd (aB 4 true j n) λdj=>bd (aB 4 true j n) λdk=>bd (PV.cell dk 3) λdl=>bd (bA 3 true dl (.I 0) F) λdm=>bd (aB 4 true j n) λdn=>bd (PV.cell dn 3) λdp=>bd (bA 3 true dp (.I 0) F) λdq=>bd (aB 4 true j n) λdr=>bd (PV.cell dr 3) λds=>bd (aC 4 j n 3 .hole) λdt=>bd (aN 3 32 true dq di) λdu=>bd (aC 4 dt n 3 du) λdv=>bd (aS R) λdw=>bd (aC 4 dv n 1 dw) λdx=>some [(.I 0),c,d,e,f,g,h,i,dx,k,l]) (ib .eql w (.I 7) (bd (aB 4 true j n) λdy=>bd (aT (gd O 0) (.I 0)) λdz=>bd (aB 3 true (gd O 0) (.I 0)) λea=>bd (aB 4 true j n) λeb=>bd (PV.cell eb 2) λec=>bd (aT ec x) λed=>bd (aB 4 true j n) λee=>bd (PV.cell ee 2) λef=>bd (aB 4 true j n) λeg=>bd (PV.cell eg 2) λeh=>bd (aX 3 true eh x ea) λei=>bd (aB 4 true j n) λej=>bd (PV.cell ej 2) λek=>bd (aC 4 j n 2 ei) λel=>bd (aB 4 true el n) λem=>bd (aB 4 true el n) λen=>bd (PV.cell en 3) λeo=>bd (bA 3 true eo (.I 0) F) λep=>bd (aB 4 true el n) λeq=>bd (PV.cell eq 3) λer=>bd (bA 3 true er (.I 0) F) λes=>bd (aB 4 true el n) λet=>bd (PV.cell et 3) λeu=>bd (aC 4 el n 3 .hole) λev=>bd (aN 3 32 true es (.lst [])) λew=>bd (aC 4 ev n 3 ew) λex=>bd (aS R) λey=>bd (aC 4 ex n 1 ey) λez=>some [(.I 0),c,d,e,f,g,h,i,ez,k,l]) (ib .eql w (.I 8) (bd (aT (gd O 0) (.I 0)) λfa=>bd (aB 3 true (gd O 0) (.I 0)) λfb=>bd (aT (gd O 0) (.I 0)) λfc=>bd (aB 3 true (gd O 0) (.I 0)) λfd=>bd (aN 3 32 true (.lst []) (.lst [fb,fd])) λfe=>bd (aN 3 32 true (.lst []) fe) λff=>bd (aB 4 true j n) λfg=>bd (aB 4 true j n) λfh=>bd (PV.cell fh 3) λfi=>bd (bA 3 true fi (.I 0) F) λfj=>bd (aB 4 true j n) λfk=>bd (PV.cell fk 3) λfl=>bd (bA 3 true fl (.I 0) F) λfm=>bd (aB 4 true j n) λfo=>bd (PV.cell fo 3) λfp=>bd (aC 4 j n 3 .hole) λfq=>bd (aN 3 32 true fm ff) λfr=>bd (aC 4 fq n 3 fr) λfs=>bd (aS R) λft=>bd (aC 4 fs n 1 ft) λfu=>some [(.I 0),c,d,e,f,g,h,i,fu,k,l]) (ib .eql w (.I 10) (bd (aT (gd O 0) (.I 1)) λfv=>bd (aB 3 true (gd O 0) (.I 1)) λfw=>bd (aT (gd O 0) (.I 0)) λfx=>bd (aB 3 true (gd O 0) (.I 0)) λfy=>bd (aN 3 32 true (.lst []) (.lst [fw,fy])) λfz=>bd (aN 3 32 true (.lst []) fz) λga=>bd (aB 4 true j n) λgb=>bd (aB 4 true j n) λgc=>bd (PV.cell gc 3) λge=>bd (bA 3 true ge (.I 0) F) λgf=>bd (aB 4 true j n) λgg=>bd (PV.cell gg 3) λgh=>bd (bA 3 true gh (.I 0) F) λgi=>bd (aB 4 true j n) λgj=>bd (PV.cell gj 3) λgk=>bd (aC 4 j n 3 .hole) λgl=>bd (aN 3 32 true gi ga) λgm=>bd (aC 4 gl n 3 gm) λgn=>bd (aS R) λgo=>bd (aC 4 gn n 1 go) λgp=>some [(.I 0),c,d,e,f,g,h,i,gp,k,l]) (ib .eql w (.I 11) (bd (nB w) λgq=>bd (aT (gd O 0) (.I 0)) λgr=>bd (aB 3 true (gd O 0) (.I 0)) λgs=>bd (aT (gd O 0) (.I 1)) λgt=>bd (aB 3 true (gd O 0) (.I 1)) λgu=>bd (PV.apply aU (hd gq) [gs,gu]) λgv=>c2 (hd gv) λgw gx=>w3 gw λgy gz ha=>ib .neq gx (.I 0) (some [gx,c,d,e,f,g,h,i,j,k,l]) (bd (aB 4 true j n) λhb=>bd (aB 4 true j n) λhc=>bd (PV.cell hc 3) λhe=>bd (bA 3 true he (.I 0) F) λhf=>bd (aB 4 true j n) λhg=>bd (PV.cell hg 3) λhh=>bd (bA 3 true hh (.I 0) F) λhi=>bd (aB 4 true j n) λhj=>bd (PV.cell hj 3) λhk=>bd (aC 4 j n 3 .hole) λhl=>bd (aN 3 32 true hi (.lst [(.agg [gy,gz,ha])])) λhm=>bd (aC 4 hl n 3 hm) λhn=>bd (aS R) λho=>bd (aC 4 hn n 1 ho) λhp=>some [(.I 0),c,d,e,f,g,h,i,hp,k,l])) (ib .eql w (.I 12) (bd (nB w) λhq=>bd (aT (gd O 0) (.I 0)) λhr=>bd (aB 3 true (gd O 0) (.I 0)) λhs=>bd (aT (gd O 0) (.I 1)) λht=>bd (aB 3 true (gd O 0) (.I 1)) λhu=>bd (PV.apply aU (hd hq) [hs,hu]) λhv=>c2 (hd hv) λhw hx=>w3 hw λhy hz ia=>ib .neq hx (.I 0) (some [hx,c,d,e,f,g,h,i,j,k,l]) (bd (aB 4 true j n) λic=>bd (aB 4 true j n) λid=>bd (PV.cell id 3) λie=>bd (bA 3 true ie (.I 0) F) λig=>bd (aB 4 true j n) λih=>bd (PV.cell ih 3) λii=>bd (bA 3 true ii (.I 0) F) λij=>bd (aB 4 true j n) λik=>bd (PV.cell ik 3) λil=>bd (aC 4 j n 3 .hole) λim=>bd (aN 3 32 true ij (.lst [(.agg [hy,hz,ia])])) λio=>bd (aC 4 im n 3 io) λip=>bd (aS R) λiq=>bd (aC 4 ip n 1 iq) λir=>some [(.I 0),c,d,e,f,g,h,i,ir,k,l])) (ib .eql w (.I 13) (bd (nB w) λit=>bd (aT (gd O 0) (.I 0)) λiu=>bd (aB 3 true (gd O 0) (.I 0)) λiv=>bd (aT (gd O 0) (.I 1)) λiw=>bd (aB 3 true (gd O 0) (.I 1)) λix=>bd (PV.apply aU (hd it) [iv,ix]) λiy=>c2 (hd iy) λiz ja=>w3 iz λjb jc jd=>ib .neq ja (.I 0) (some [ja,c,d,e,f,g,h,i,j,k,l]) (bd (aB 4 true j n) λje=>bd (aB 4 true j n) λjf=>bd (PV.cell jf 3) λjg=>bd (bA 3 true jg (.I 0) F) λjh=>bd (aB 4 true j n) λji=>bd (PV.cell ji 3) λjj=>bd (bA 3 true jj (.I 0) F) λjk=>bd (aB 4 true j n) λjl=>bd (PV.cell jl 3) λjm=>bd (aC 4 j n 3 .hole) λjn=>bd (aN 3 32 true jk (.lst [(.agg [jb,jc,jd])])) λjo=>bd (aC 4 jn n 3 jo) λjp=>bd (aS R) λjq=>bd (aC 4 jp n 1 jq) λjr=>some [(.I 0),c,d,e,f,g,h,i,jr,k,l])) (ib .eql w (.I 14) (bd (nB w) λjs=>bd (aT (gd O 0) (.I 0)) λjt=>bd (aB 3 true (gd O 0) (.I 0)) λju=>bd (aT (gd O 0) (.I 1)) λjv=>bd (aB 3 true (gd O 0) (.I 1)) λjw=>bd (PV.apply aU (hd js) [ju,jw]) λjx=>c2 (hd jx) λjy jz=>w3 jy λka kb kc=>ib .neq jz (.I 0) (some [jz,c,d,e,f,g,h,i,j,k,l]) (bd (aB 4 true j n) λkd=>bd (aB 4 true j n) λke=>bd (PV.cell ke 3) λkf=>bd (bA 3 true kf (.I 0) F) λkg=>bd (aB 4 true j n) λkh=>bd (PV.cell kh 3) λki=>bd (bA 3 true ki (.I 0) F) λkj=>bd (aB 4 true j n) λkk=>bd (PV.cell kk 3) λkl=>bd (aC 4 j n 3 .hole) λkm=>bd (aN 3 32 true kj (.lst [(.agg [ka,kb,kc])])) λkn=>bd (aC 4 km n 3 kn) λko=>bd (aS R) λkp=>bd (aC 4 ko n 1 kp) λkq=>some [(.I 0),c,d,e,f,g,h,i,kq,k,l])) (ib .eql w (.I 15) (bd (aT (gd O 0) (.I 0)) λkr=>bd (aB 3 true (gd O 0) (.I 0)) λks=>bd (aT (gd O 0) (.I 1)) λkt=>bd (aB 3 true (gd O 0) (.I 1)) λku=>bd (aEM ks ku) λkv=>bd (aN 3 32 true (.lst []) (.lst [(hd kv)])) λkw=>bd (aN 3 32 true (.lst []) kw) λkx=>bd (aB 4 true j n) λky=>bd (aB 4 true j n) λkz=>bd (PV.cell kz 3) λla=>bd (bA 3 true la (.I 0) F) λlb=>bd (aB 4 true j n) λlc=>bd (PV.cell lc 3) λld=>bd (bA 3 true ld (.I 0) F) λle=>bd (aB 4 true j n) λlf=>bd (PV.cell lf 3) λlg=>bd (aC 4 j n 3 .hole) λlh=>bd (aN 3 32 true le kx) λli=>bd (aC 4 lh n 3 li) λlj=>bd (aS R) λlk=>bd (aC 4 lj n 1 lk) λll=>some [(.I 0),c,d,e,f,g,h,i,ll,k,l]) (ib .eql w (.I 16) (bd (aT (gd O 0) (.I 0)) λlm=>bd (aB 3 true (gd O 0) (.I 0)) λln=>bd (aGN ln) λlo=>c2 (hd lo) λlp lq=>w3 lp λlr ls lt=>ib .neq lq (.I 0) (some [lq,c,d,e,f,g,h,i,j,k,l]) (bd (aB 4 true j n) λlu=>bd (aB 4 true j n) λlv=>bd (PV.cell lv 3) λlw=>bd (bA 3 true lw (.I 0) F) λlx=>bd (aB 4 true j n) λly=>bd (PV.cell ly 3) λlz=>bd (bA 3 true lz (.I 0) F) λma=>bd (aB 4 true j n) λmb=>bd (PV.cell mb 3) λmc=>bd (aC 4 j n 3 .hole) λmd=>bd (aN 3 32 true ma (.lst [(.agg [lr,ls,lt])])) λme=>bd (aC 4 md n 3 me) λmf=>bd (aS R) λmg=>bd (aC 4 mf n 1 mg) λmh=>some [(.I 0),c,d,e,f,g,h,i,mh,k,l])) (ib .eql w (.I 17) (bd (aB 4 true j n) λmi=>bd (aB 4 true j n) λmj=>bd (PV.cell mj 3) λmk=>bd (bA 3 true mk (.I 0) F) λml=>bd (aB 4 true j n) λmm=>bd (PV.cell mm 3) λmn=>bd (bA 3 true mn (.I 0) F) λmo=>bd (aB 4 true j n) λmp=>bd (PV.cell mp 3) λmq=>bd (aC 4 j n 3 .hole) λmr=>bd (aN 3 32 true mo (.lst [])) λms=>bd (aC 4 mr n 3 ms) λmt=>bd (aS x) λmu=>bd (aC 4 mt n 1 mu) λmv=>some [(.I 0),c,d,e,f,g,h,i,mv,k,l]) (ib .eql w (.I 18) (bd (aT (gd O 0) (.I 0)) λmw=>bd (aB 3 true (gd O 0) (.I 0)) λmx=>bd (PV.cell mx 0) λmy=>ib .neq my (.I 2) (some [(.I 1),c,d,e,f,g,h,i,j,k,l]) (bd (aT (gd O 0) (.I 0)) λmz=>bd (aB 3 true (gd O 0) (.I 0)) λna=>bd (PV.cell na 1) λnc=>bd (aD .eql nc (.I 1)) λnd=>bd (aD .eql w (.I 18)) λne=>bd (dL .eql nd ne) λnf=>aV nf (bd (aB 4 true j n) λng=>bd (aB 4 true j n) λnh=>bd (PV.cell nh 3) λni=>bd (bA 3 true ni (.I 0) F) λnj=>bd (aB 4 true j n) λnk=>bd (PV.cell nk 3) λnl=>bd (bA 3 true nl (.I 0) F) λnm=>bd (aB 4 true j n) λnn=>bd (PV.cell nn 3) λno=>bd (aC 4 j n 3 .hole) λnp=>bd (aN 3 32 true nm (.lst [])) λnq=>bd (aC 4 np n 3 nq) λnr=>bd (aS x) λns=>bd (aC 4 nr n 1 ns) λnt=>some [(.I 0),c,d,e,f,g,h,i,nt,k,l]) (bd (aB 4 true j n) λnu=>bd (aB 4 true j n) λnv=>bd (PV.cell nv 3) λnw=>bd (bA 3 true nw (.I 0) F) λnx=>bd (aB 4 true j n) λny=>bd (PV.cell ny 3) λnz=>bd (bA 3 true nz (.I 0) F) λoa=>bd (aB 4 true j n) λob=>bd (PV.cell ob 3) λoc=>bd (aC 4 j n 3 .hole) λod=>bd (aN 3 32 true oa (.lst [])) λoe=>bd (aC 4 od n 3 oe) λog=>bd (aS R) λoh=>bd (aC 4 og n 1 oh) λoi=>some [(.I 0),c,d,e,f,g,h,i,oi,k,l]))) (ib .eql w (.I 19) (bd (aT (gd O 0) (.I 0)) λoj=>bd (aB 3 true (gd O 0) (.I 0)) λok=>bd (PV.cell ok 0) λol=>ib .neq ol (.I 2) (some [(.I 1),c,d,e,f,g,h,i,j,k,l]) (bd (aT (gd O 0) (.I 0)) λom=>bd (aB 3 true (gd O 0) (.I 0)) λon=>bd (PV.cell on 1) λoo=>bd (aD .eql oo (.I 1)) λop=>bd (aD .eql w (.I 18)) λoq=>bd (dL .eql op oq) λos=>aV os (bd (aB 4 true j n) λot=>bd (aB 4 true j n) λou=>bd (PV.cell ou 3) λov=>bd (bA 3 true ov (.I 0) F) λow=>bd (aB 4 true j n) λox=>bd (PV.cell ox 3) λoy=>bd (bA 3 true oy (.I 0) F) λoz=>bd (aB 4 true j n) λpa=>bd (PV.cell pa 3) λpb=>bd (aC 4 j n 3 .hole) λpc=>bd (aN 3 32 true oz (.lst [])) λpd=>bd (aC 4 pc n 3 pd) λpe=>bd (aS x) λpf=>bd (aC 4 pe n 1 pf) λpg=>some [(.I 0),c,d,e,f,g,h,i,pg,k,l]) (bd (aB 4 true j n) λph=>bd (aB 4 true j n) λpi=>bd (PV.cell pi 3) λpj=>bd (bA 3 true pj (.I 0) F) λpk=>bd (aB 4 true j n) λpl=>bd (PV.cell pl 3) λpm=>bd (bA 3 true pm (.I 0) F) λpn=>bd (aB 4 true j n) λpo=>bd (PV.cell po 3) λpp=>bd (aC 4 j n 3 .hole) λpq=>bd (aN 3 32 true pn (.lst [])) λpr=>bd (aC 4 pq n 3 pr) λps=>bd (aS R) λpt=>bd (aC 4 ps n 1 pt) λpu=>some [(.I 0),c,d,e,f,g,h,i,pu,k,l]))) (ib .eql w (.I 20) (ib .eql c (.I 120) (some [(.I 7),c,d,e,f,g,h,i,j,k,l]) (bd (aK k) λpv=>bd (aS pv) λpw=>bd (aFx x) λpx=>aH o3 (gd px 0) (bd (aN 1 24 true k (.lst [(.agg [(gd px 0)])])) λpy=>bd (aD .add c (.I 1)) λpz=>bd (aS pz) λqa=>bd (aB 4 true j n) λqb=>bd (aB 4 true j n) λqc=>bd (PV.cell qc 3) λqd=>bd (bA 3 true qd (.I 0) F) λqe=>bd (aB 4 true j n) λqf=>bd (PV.cell qf 3) λqg=>bd (bA 3 true qg (.I 0) F) λqh=>bd (aB 4 true j n) λqi=>bd (PV.cell qi 3) λqj=>bd (aC 4 j n 3 .hole) λqk=>bd (aN 3 32 true qh (.lst [(.agg [(.I 4),pw,(.str (bs []))])])) λql=>bd (aC 4 qk n 3 ql) λqm=>bd (aS R) λqn=>bd (aC 4 qm n 1 qn) λqo=>some [(.I 0),qa,d,e,f,g,h,i,qo,py,l]))) (ib .eql w (.I 21) (bd (aT (gd O 0) (.I 0)) λqp=>bd (aB 3 true (gd O 0) (.I 0)) λqq=>bd (xL qq x c d e f g h i j k l) λqr=>ib .neq (gd qr 2) (.I 0) (some [(gd qr 2),(gd qr 3),(gd qr 4),(gd qr 5),(gd qr 6),(gd qr 7),(gd qr 8),(gd qr 9),(gd qr 10),(gd qr 11),(gd qr 12)]) (bd (bO (gd qr 1)) λqs=>bd (aB 1 true (gd qr 11) (gd qr 0)) λqt=>bd (PV.cell qt 0) λqu=>bd (aB 3 true qu qs) λqv=>bd (aN 3 32 true (.lst []) (.lst [qv])) λqw=>bd (aN 3 32 true (.lst []) qw) λqx=>bd (aB 4 true (gd qr 10) n) λqy=>bd (aB 4 true (gd qr 10) n) λqz=>bd (PV.cell qz 3) λra=>bd (bA 3 true ra (.I 0) F) λrb=>bd (aB 4 true (gd qr 10) n) λrc=>bd (PV.cell rc 3) λrd=>bd (bA 3 true rd (.I 0) F) λre=>bd (aB 4 true (gd qr 10) n) λrf=>bd (PV.cell rf 3) λrg=>bd (aC 4 (gd qr 10) n 3 .hole) λrh=>bd (aN 3 32 true re qx) λri=>bd (aC 4 rh n 3 ri) λrj=>bd (aS R) λrk=>bd (aC 4 rj n 1 rk) λrl=>some [(.I 0),(gd qr 3),(gd qr 4),(gd qr 5),(gd qr 6),(gd qr 7),(gd qr 8),(gd qr 9),rl,(gd qr 11),(gd qr 12)])) (ib .eql w (.I 22) (bd (aT (gd O 0) (.I 0)) λrm=>bd (aB 3 true (gd O 0) (.I 0)) λrn=>bd (xL rn x c d e f g h i j k l) λro=>ib .neq (gd ro 2) (.I 0) (some [(gd ro 2),(gd ro 3),(gd ro 4),(gd ro 5),(gd ro 6),(gd ro 7),(gd ro 8),(gd ro 9),(gd ro 10),(gd ro 11),(gd ro 12)]) (bd (aT (gd O 0) (.I 1)) λrp=>bd (aB 3 true (gd O 0) (.I 1)) λrq=>bd (bO (gd ro 1)) λrr=>bd (aB 1 true (gd ro 11) (gd ro 0)) λrs=>bd (PV.cell rs 0) λrt=>bd (aB 1 true (gd ro 11) (gd ro 0)) λru=>bd (PV.cell ru 0) λrv=>bd (aX 3 true rv rr rq) λrw=>bd (aB 1 true (gd ro 11) (gd ro 0)) λrx=>bd (PV.cell rx 0) λry=>bd (aC 1 (gd ro 11) (gd ro 0) 0 rw) λrz=>bd (aB 4 true (gd ro 10) n) λsa=>bd (aB 4 true (gd ro 10) n) λsb=>bd (PV.cell sb 3) λsc=>bd (bA 3 true sc (.I 0) F) λsd=>bd (aB 4 true (gd ro 10) n) λse=>bd (PV.cell se 3) λsf=>bd (bA 3 true sf (.I 0) F) λsg=>bd (aB 4 true (gd ro 10) n) λsh=>bd (PV.cell sh 3) λsi=>bd (aC 4 (gd ro 10) n 3 .hole) λsj=>bd (aN 3 32 true sg (.lst [])) λsk=>bd (aC 4 sj n 3 sk) λsl=>bd (aS R) λsm=>bd (aC 4 sl n 1 sm) λsn=>some [(.I 0),(gd ro 3),(gd ro 4),(gd ro 5),(gd ro 6),(gd ro 7),(gd ro 8),(gd ro 9),sn,rz,(gd ro 12)])) (ib .eql w (.I 23) (ib .eql w (.I 23) (bd (aT (gd O 0) (.I 0)) λso=>bd (aB 3 true (gd O 0) (.I 0)) λsp=>bd (PV.cell sp 0) λsq=>ib .neq sq (.I 5) (some [(.I 1),c,d,e,f,g,h,i,j,k,l]) (bd (aT (gd O 0) (.I 0)) λsr=>bd (aB 3 true (gd O 0) (.I 0)) λss=>bd (PV.cell ss 1) λst=>bd (aB 3 true b st) λsu=>bd (PV.cell su 0) λsv=>ib .neq sv x (some [(.I 5),c,d,e,f,g,h,i,j,k,l]) (bd (aT (gd O 0) (.I 0)) λsw=>bd (aB 3 true (gd O 0) (.I 0)) λsx=>bd (PV.cell sx 1) λsy=>bd (aK (gd O 0)) λsz=>bd (bA 3 true (gd O 0) (.I 1) sz) λta=>bd (bA 3 true (gd O 0) (.I 1) sz) λtb=>pA n F R sy c d e f g h i a b j k l tb))) (pA n F R x c d e f g h i a b j k l (gd O 0))) (ib .eql w (.I 24) (ib .eql w (.I 23) (bd (aT (gd O 0) (.I 0)) λtc=>bd (aB 3 true (gd O 0) (.I 0)) λtd=>bd (PV.cell td 0) λte=>ib .neq te (.I 5) (some [(.I 1),c,d,e,f,g,h,i,j,k,l]) (bd (aT (gd O 0) (.I 0)) λtf=>bd (aB 3 true (gd O 0) (.I 0)) λtg=>bd (PV.cell tg 1) λth=>bd (aB 3 true b th) λti=>bd (PV.cell ti 0) λtj=>ib .neq tj x (some [(.I 5),c,d,e,f,g,h,i,j,k,l]) (bd (aT (gd O 0) (.I 0)) λtk=>bd (aB 3 true (gd O 0) (.I 0)) λtl=>bd (PV.cell tl 1) λtm=>bd (aK (gd O 0)) λtn=>bd (bA 3 true (gd O 0) (.I 1) tn) λtp=>bd (bA 3 true (gd O 0) (.I 1) tn) λtq=>pA n F R tm c d e f g h i a b j k l tq))) (pA n F R x c d e f g h i a b j k l (gd O 0))) (ib .eql w (.I 25) (bd (aT (gd O 0) (.I 0)) λtr=>bd (aB 3 true (gd O 0) (.I 0)) λts=>bd (aAD ts c d e f g h i j k l) λtt=>some [(.I 0),(gd tt 0),(gd tt 1),(gd tt 2),(gd tt 3),(gd tt 4),(gd tt 5),(gd tt 6),(gd tt 7),(gd tt 8),(gd tt 9)]) (ib .eql w (.I 26) (bd (aK l) λtu=>ib .eql tu (.I 200) (some [(.I 8),c,d,e,f,g,h,i,j,k,l]) (bd (aT (gd O 0) (.I 0)) λtv=>bd (aB 3 true (gd O 0) (.I 0)) λtw=>bd (aAC tw k) λtx=>aE (hd tx) (bd (aN 1 16 false (.lst []) (.lst [(hd tx)])) λty=>bd (aN 1 16 false l ty) λtz=>bd (aB 4 true j n) λua=>bd (aB 4 true j n) λub=>bd (PV.cell ub 3) λuc=>bd (bA 3 true uc (.I 0) F) λud=>bd (aB 4 true j n) λue=>bd (PV.cell ue 3) λuf=>bd (bA 3 true uf (.I 0) F) λug=>bd (aB 4 true j n) λuh=>bd (PV.cell uh 3) λui=>bd (aC 4 j n 3 .hole) λuj=>bd (aN 3 32 true ug (.lst [])) λuk=>bd (aC 4 uj n 3 uk) λul=>bd (aS R) λum=>bd (aC 4 ul n 1 um) λun=>some [(.I 0),c,d,e,f,g,h,i,un,k,tz]))) (bd (aB 4 true j n) λuo=>bd (aB 4 true j n) λup=>bd (PV.cell up 3) λuq=>bd (bA 3 true uq (.I 0) F) λur=>bd (aB 4 true j n) λus=>bd (PV.cell us 3) λut=>bd (bA 3 true ut (.I 0) F) λuu=>bd (aB 4 true j n) λuv=>bd (PV.cell uv 3) λuw=>bd (aC 4 j n 3 .hole) λux=>bd (aN 3 32 true uu (.lst [])) λuy=>bd (aC 4 ux n 3 uy) λuz=>bd (aS R) λva=>bd (aC 4 uz n 1 va) λvb=>some [(.I 0),c,d,e,f,g,h,i,vb,k,l])))))))))))))))))))))))))):=sE
variable (a b c d e f g h i j k l m n o p q : PV)
theorem aIc : pA a b c d e f g h i j k l m n o p q=bd (aK n) λr=>ib .eql r (.I 24) (some [(.I 6),e,f,g,h,i,j,k,n,o,p]) (bd (aB 4 true n a) λs=>bd (aB 4 true n a) λt=>bd (PV.cell t 3) λu=>bd (bA 3 true u (.I 0) b) λv=>bd (aB 4 true n a) λw=>bd (PV.cell w 3) λx=>bd (bA 3 true x (.I 0) b) λy=>bd (aB 4 true n a) λz=>bd (PV.cell z 3) λA=>bd (aC 4 n a 3 .hole) λB=>bd (aC 4 B a 3 y) λC=>bd (aS c) λD=>bd (aC 4 C a 1 D) λE=>bd (zN (.agg [l,m]) d q) λF=>aE (gd F 0) (aE (gd F 1) (aH o3 (gd F 2) (aH o3 (gd F 3) (bd (aN 4 64 true E (.lst [(.agg [(gd F 0),(gd F 1),(gd F 2),(gd F 3)])])) λG=>some [(.I 0),e,f,g,h,i,j,k,G,o,p]))))):=gE
variable (a b c d e f g h i j k l m n o q r : PV)
theorem aNn : aC0 a=bd (aS a) λb=>some [(.agg [(.I 1),b,(.str (bs []))])]:=pE
theorem aMl : rG a=aV a (some [(.agg [(.I 2),(.I 1),(.str (bs []))])]) (some [(.agg [(.I 2),(.I 0),(.str (bs []))])]):=pE
theorem aG8 : nB a=bd (aD .sub a (.I 11)) λb=>bd (fK 4 (.agg [(.fn 161 []),(.fn 162 []),(.fn 163 []),(.fn 164 [])]) b) λc=>some [c]:=pE
theorem aMm : aEM a b=w3 a λc d e=>w3 b λf g h=>bd (cQ [1,1,2] .eql (.agg [c,d,e]) (.agg [f,g,h])) λi=>bd (rG i) λj=>w3 (hd j) λk l m=>some [(.agg [k,l,m])]:=pE
theorem aNo : aGN a=w3 a λb c d=>ib .neq b (.I 2) (some [(.tup [(.agg [(.I 0),(.I 0),(.str (bs []))]),(.I 1)])]) (bd (aD .neq c (.I 1)) λe=>bd (rG e) λf=>w3 (hd f) λg h i=>some [(.tup [(.agg [g,h,i]),(.I 0)])]):=pE
theorem aId : aAC a b=w3 a λc d e=>ib .eql c (.I 0) (some [(.str (bs [110,105,108]))]) (ib .eql c (.I 1) (bd (strconv_Itoa d) λf=>some [(hd f)]) (ib .eql c (.I 2) (bd (aD .eql d (.I 1)) λg=>bd (tX g) λh=>some [(hd h)]) (ib .eql c (.I 3) (some [e]) (ib .eql c (.I 5) (bd (strconv_Itoa d) λi=>bd (aD .add (.str (bs [102,117,110])) (hd i)) λj=>some [j]) (ib .eql c (.I 4) (bd (aK b) λk=>bd (eB d k) λl=>aV (hd l) (bd (aB 1 true b d) λm=>bd (PV.cell m 0) λn=>bd (aK n) λo=>bd (strconv_Itoa o) λq=>bd (aD .add (.str (bs [123])) (hd q)) λr=>bd (aD .add r (.str (bs [125]))) λs=>some [s]) (some [(.str (bs []))])) (some [(.str (bs []))])))))):=pE
theorem aNp : aGO a b=w3 a λc d e=>w3 b λf g h=>bd (uM (.agg [c,d,e]) (.agg [f,g,h]) (.I 3)) λi=>aV (hd i) (bd (bV e) λj=>bd (bV h) λk=>bd (aD .add j k) λl=>ib .gtr l (.I 60) (some [(.tup [(.agg [(.I 0),(.I 0),(.str (bs []))]),(.I 3)])]) (bd (aD .add e h) λm=>bd (aS m) λn=>some [(.tup [(.agg [(.I 3),(.I 0),n]),(.I 0)])])) (bd (vJ (.agg [c,d,e]) (.agg [f,g,h]) (.fn 189 [])) λo=>c2 (hd o) λq r=>w3 q λs t u=>some [(.tup [(.agg [s,t,u]),r])]):=pE
theorem aNq : aGP a b=w3 a λc d e=>w3 b λf g h=>bd (vJ (.agg [c,d,e]) (.agg [f,g,h]) (.fn 190 [])) λi=>c2 (hd i) λj k=>w3 j λl m n=>some [(.tup [(.agg [l,m,n]),k])]:=pE
theorem aNr : aGQ a b=w3 a λc d e=>w3 b λf g h=>bd (vJ (.agg [c,d,e]) (.agg [f,g,h]) (.fn 191 [])) λi=>c2 (hd i) λj k=>w3 j λl m n=>some [(.tup [(.agg [l,m,n]),k])]:=pE
theorem aMn : aEN a b=w3 a λc d e=>w3 b λf g h=>bd (uM (.agg [c,d,e]) (.agg [f,g,h]) (.I 1)) λi=>aV (hd i) (bd (aD .lss d g) λj=>bd (rG j) λk=>w3 (hd k) λl m n=>some [(.tup [(.agg [l,m,n]),(.I 0)])]) (bd (uM (.agg [c,d,e]) (.agg [f,g,h]) (.I 3)) λo=>aV (hd o) (bd (yO e h) λq=>bd (rG (hd q)) λr=>w3 (hd r) λs t u=>some [(.tup [(.agg [s,t,u]),(.I 0)])]) (some [(.tup [(.agg [(.I 0),(.I 0),(.str (bs []))]),(.I 1)])])):=pE
theorem aKD : strconv_Itoa a=aD8 [a]:=pE
theorem aDP : tX a=bd (qN a) λb=>some [(hd b)]:=pE
theorem aKE : vJ a b c=w3 a λd e f=>w3 b λg h i=>bd (uM (.agg [d,e,f]) (.agg [g,h,i]) (.I 1)) λj=>nb (hd j) (some [(.tup [(.agg [(.I 0),(.I 0),(.str (bs []))]),(.I 1)])]) (bd (rC e) λk=>nb (hd k) (some [(.tup [(.agg [(.I 0),(.I 0),(.str (bs []))]),(.I 2)])]) (bd (rC h) λl=>nb (hd l) (some [(.tup [(.agg [(.I 0),(.I 0),(.str (bs []))]),(.I 2)])]) (bd (PV.apply aU c [e,h]) λm=>bd (rC (hd m)) λn=>nb (hd n) (some [(.tup [(.agg [(.I 0),(.I 0),(.str (bs []))]),(.I 2)])]) (bd (PV.apply aU c [e,h]) λo=>bd (aC0 (hd o)) λq=>w3 (hd q) λr s t=>some [(.tup [(.agg [r,s,t]),(.I 0)])])))):=pE
theorem aKF : aC1 a b=bd (aD .add a b) λc=>some [c]:=pE
theorem aKG : aC2 a b=bd (aD .sub a b) λc=>some [c]:=pE
theorem aKH : aC3 a b=bd (aD .mul a b) λc=>some [c]:=pE
theorem aG9 : yO a b=bd (rU a) λc=>aV (hd c) (bd (rU b) λd=>nb (hd d) (some [.bool true]) (bd (aD .lss a b) λe=>some [e])) (bd (aD .lss a b) λf=>some [f]):=pE
theorem wY : qN a=aV a (some [(.str (bs [116,114,117,101]))]) (some [(.str (bs [102,97,108,115,101]))]):=pE
theorem aFW : rU a=bd (aD .neq a a) λb=>some [b]:=pE
theorem aEV : vK a=w4 a λb c d e=>bd (aN 3 32 true (.lst []) d) λf=>bd (aN 3 32 true (.lst []) e) λg=>some [b,c,f,g]:=sE
theorem aFX : wU a=oJ a (.I 0) (.lst []):=sE
theorem vN : oJ a b c=bd (aK a) λd=>ib .lss b d (bd (aB 1 true a b) λe=>bd (PV.cell e 0) λf=>bd (aN 3 32 true (.lst []) f) λg=>bd (aN 1 24 true c (.lst [(.agg [g])])) λh=>bd (aD .add b (.I 1)) λi=>oJ a i h) (some [c]):=gE
theorem aFY : lN a b c d e f g h i j k l m n=w3 a λo q r=>bd (gT b c d e f g h i j k l m n) λs=>bd (aB 4 true (gd s 11) (gd s 0)) λt=>bd (aB 4 true (gd s 11) (gd s 0)) λu=>bd (PV.cell u 3) λv=>bd (aB 4 true (gd s 11) (gd s 0)) λw=>bd (PV.cell w 3) λx=>bd (aC 4 (gd s 11) (gd s 0) 3 .hole) λy=>bd (aN 3 32 true v (.lst [(.agg [o,q,r])])) λz=>bd (aC 4 y (gd s 0) 3 z) λA=>some [(gd s 1),(gd s 2),(gd s 3),(gd s 4),(gd s 5),(gd s 6),(gd s 7),(gd s 8),(gd s 9),(gd s 10),A,(gd s 12),(gd s 13)]:=sE
theorem aC5 : cO a b c d e f g h i j k l m n o q=bd (gT d e f g h i j k l m n o q) λr=>bd (aB 4 true (gd r 11) (gd r 0)) λs=>bd (aB 4 true (gd r 11) (gd r 0)) λt=>bd (PV.cell t 3) λu=>bd (aB 4 true (gd r 11) (gd r 0)) λv=>bd (PV.cell v 3) λw=>bd (aC 4 (gd r 11) (gd r 0) 3 .hole) λx=>bd (aN 3 32 true u (.lst [(.agg [a,b,c])])) λy=>bd (aC 4 x (gd r 0) 3 y) λz=>some [(gd r 1),(gd r 2),(gd r 3),(gd r 4),(gd r 5),(gd r 6),(gd r 7),(gd r 8),(gd r 9),(gd r 10),z,(gd r 12),(gd r 13)]:=sE
theorem aHa : bW a b c d e f g h i j k l m=bd (gT a b c d e f g h i j k l m) λn=>bd (aB 4 true (gd n 11) (gd n 0)) λo=>bd (aB 4 true (gd n 11) (gd n 0)) λq=>bd (aB 4 true (gd n 11) (gd n 0)) λr=>bd (PV.cell r 3) λs=>bd (aK s) λt=>bd (aD .sub t (.I 1)) λu=>bd (aB 4 true (gd n 11) (gd n 0)) λv=>bd (PV.cell v 3) λw=>bd (aT w u) λx=>bd (aB 4 true (gd n 11) (gd n 0)) λy=>bd (PV.cell y 3) λz=>bd (aB 3 true z u) λA=>w3 A λB C D=>bd (aB 4 true (gd n 11) (gd n 0)) λE=>bd (aB 4 true (gd n 11) (gd n 0)) λF=>bd (aB 4 true (gd n 11) (gd n 0)) λG=>bd (PV.cell G 3) λH=>bd (aK H) λI=>bd (aD .sub I (.I 1)) λJ=>bd (aB 4 true (gd n 11) (gd n 0)) λK=>bd (PV.cell K 3) λL=>bd (bA 3 true L (.I 0) J) λM=>bd (aB 4 true (gd n 11) (gd n 0)) λN=>bd (PV.cell N 3) λO=>bd (bA 3 true O (.I 0) J) λP=>bd (aB 4 true (gd n 11) (gd n 0)) λQ=>bd (PV.cell Q 3) λR=>bd (aC 4 (gd n 11) (gd n 0) 3 .hole) λS=>bd (aC 4 S (gd n 0) 3 P) λT=>some [(.agg [B,C,D]),(gd n 1),(gd n 2),(gd n 3),(gd n 4),(gd n 5),(gd n 6),(gd n 7),(gd n 8),(gd n 9),(gd n 10),T,(gd n 12),(gd n 13)]:=sE
theorem aFZ : rV a b c d e f g h i j k l m n o=bd (aB 3 true d a) λq=>w3 q λr s t=>bd (aK m) λu=>ib .eql u (.I 24) (some [c,d,e,f,g,h,i,j,k,(.I 6),m,n,o]) (bd (bD 32 (.agg [(.I 0),(.I 0),(.str (bs []))]) s) λv=>ib .leq s s (bd (bD 32 (.agg [(.I 0),(.I 0),(.str (bs []))]) s) λw=>bd (aD .sub r (.I 1)) λx=>oK a b x c d e f g h i j k l m n o w) (none)):=sE
theorem vO : oK a b c d e f g h i j k l m n o q r=ib .geq c (.I 0) (bd (bW d e f g h i j k l m n o q) λs=>bd (aT r c) λt=>bd (aX 3 true r c (gd s 0)) λu=>bd (aD .sub c (.I 1)) λv=>oK a b v (gd s 1) (gd s 2) (gd s 3) (gd s 4) (gd s 5) (gd s 6) (gd s 7) (gd s 8) (gd s 9) (gd s 10) (gd s 11) (gd s 12) (gd s 13) u) (aV b (bd (bW d e f g h i j k l m n o q) λw=>nN a (gd w 1) (gd w 2) (gd w 3) (gd w 4) (gd w 5) (gd w 6) (gd w 7) (gd w 8) (gd w 9) (gd w 10) (gd w 11) (gd w 12) (gd w 13) r) (nN a d e f g h i j k l m n o q r)):=gE
theorem aCk : nN a b c d e f g h i j k l m n o=bd (aS a) λq=>bd (aN 4 64 true l (.lst [(.agg [q,(.I 0),o,(.lst [])])])) λr=>some [b,c,d,e,f,g,h,i,j,k,r,m,n]:=gE
theorem sI : iO a=aAl 32 [.nils,.p a] ⟨[],[],0,0,0⟩:=sE
theorem aF0 : jQ a b c d e f g h i j=bd (aG b g h i) λk=>bd (aD .add (.I 1) (gd k 0)) λl=>jB a l c d e f (gd k 1) (gd k 2) (gd k 3) j:=sE
theorem aC6 : jB a b c d e f g h i j=ib .gtr b (.I 0) (bd (aK j) λk=>ib .lss k (.I 70) (bd (pB a c d e f g h i j) λl=>bd (aD .sub b (.I 1)) λm=>jB a m (gd l 0) (gd l 1) (gd l 2) (gd l 3) (gd l 4) (gd l 5) (gd l 6) (gd l 7)) (some [c,d,e,f,g,h,i,j])) (some [c,d,e,f,g,h,i,j]):=gE
theorem aF1 : wV a b c d=bd (aK b) λe=>bd (aD .quo e (.I 12)) λf=>bd (aD .add (.I 1) f) λg=>ib .gtr g a (bd (aD .add a (.I 1)) λh=>bd (aG h b c d) λi=>some [(gd i 0),(gd i 1),(gd i 2),(gd i 3)]) (bd (aD .add g (.I 1)) λj=>bd (aG j b c d) λk=>some [(gd k 0),(gd k 1),(gd k 2),(gd k 3)]):=sE
theorem yC : bB a b c d e f g h i=ib .leq a (.I 0) (kA b c d e f g h i) (bd (aK i) λj=>ib .gtr j (.I 90) (kA b c d e f g h i) (bd (aG (.I 16) f g h) λk=>ib .eql (gd k 0) (.I 0) (bd (aG (.I 8) (gd k 1) (gd k 2) (gd k 3)) λl=>bd (aT (.lst [(.I 0),(.I 1),(.I 2),(.I 10),(.I 31623),(.I 1000000000),(.I (-1)),(.I 7)]) (gd l 0)) λm=>bd (aB 1 false (.lst [(.I 0),(.I 1),(.I 2),(.I 10),(.I 31623),(.I 1000000000),(.I (-1)),(.I 7)]) (gd l 0)) λn=>bd (aP (.I 1) n b c d e (gd l 1) (gd l 2) (gd l 3) i) λo=>some [(gd o 0),(gd o 1),(gd o 2),(gd o 3),(gd o 4),(gd o 5),(gd o 6),(gd o 7)]) (ib .eql (gd k 0) (.I 1) (bd (aG (.I 2) (gd k 1) (gd k 2) (gd k 3)) λq=>bd (aP (.I 2) (gd q 0) b c d e (gd q 1) (gd q 2) (gd q 3) i) λr=>some [(gd r 0),(gd r 1),(gd r 2),(gd r 3),(gd r 4),(gd r 5),(gd r 6),(gd r 7)]) (ib .eql (gd k 0) (.I 2) (bd (aD .sub a (.I 1)) λs=>bd (bB s b c d e (gd k 1) (gd k 2) (gd k 3) i) λt=>bd (aD .sub a (.I 1)) λu=>bd (bB u (gd t 0) (gd t 1) (gd t 2) (gd t 3) (gd t 4) (gd t 5) (gd t 6) (gd t 7)) λv=>bd (aG (.I 6) (gd v 4) (gd v 5) (gd v 6)) λw=>bd (aT (.lst [(.I 11),(.I 11),(.I 12),(.I 13),(.I 14),(.I 15)]) (gd w 0)) λx=>bd (aB 1 false (.lst [(.I 11),(.I 11),(.I 12),(.I 13),(.I 14),(.I 15)]) (gd w 0)) λy=>bd (aP y (.I 0) (gd v 0) (gd v 1) (gd v 2) (gd v 3) (gd w 1) (gd w 2) (gd w 3) (gd v 7)) λz=>some [(gd z 0),(gd z 1),(gd z 2),(gd z 3),(gd z 4),(gd z 5),(gd z 6),(gd z 7)]) (ib .eql (gd k 0) (.I 3) (bd (aD .sub a (.I 1)) λA=>bd (bB A b c d e (gd k 1) (gd k 2) (gd k 3) i) λB=>bd (aD .sub a (.I 1)) λC=>bd (bB C (gd B 0) (gd B 1) (gd B 2) (gd B 3) (gd B 4) (gd B 5) (gd B 6) (gd B 7)) λD=>bd (aG (.I 6) (gd D 4) (gd D 5) (gd D 6)) λE=>bd (aT (.lst [(.I 11),(.I 11),(.I 12),(.I 13),(.I 14),(.I 15)]) (gd E 0)) λF=>bd (aB 1 false (.lst [(.I 11),(.I 11),(.I 12),(.I 13),(.I 14),(.I 15)]) (gd E 0)) λG=>bd (aP G (.I 0) (gd D 0) (gd D 1) (gd D 2) (gd D 3) (gd E 1) (gd E 2) (gd E 3) (gd D 7)) λH=>some [(gd H 0),(gd H 1),(gd H 2),(gd H 3),(gd H 4),(gd H 5),(gd H 6),(gd H 7)]) (ib .eql (gd k 0) (.I 4) (bd (aD .sub a (.I 1)) λI=>bd (bB I b c d e (gd k 1) (gd k 2) (gd k 3) i) λJ=>bd (aD .sub a (.I 1)) λK=>bd (bB K (gd J 0) (gd J 1) (gd J 2) (gd J 3) (gd J 4) (gd J 5) (gd J 6) (gd J 7)) λL=>bd (aG (.I 6) (gd L 4) (gd L 5) (gd L 6)) λM=>bd (aT (.lst [(.I 11),(.I 11),(.I 12),(.I 13),(.I 14),(.I 15)]) (gd M 0)) λN=>bd (aB 1 false (.lst [(.I 11),(.I 11),(.I 12),(.I 13),(.I 14),(.I 15)]) (gd M 0)) λO=>bd (aP O (.I 0) (gd L 0) (gd L 1) (gd L 2) (gd L 3) (gd M 1) (gd M 2) (gd M 3) (gd L 7)) λP=>some [(gd P 0),(gd P 1),(gd P 2),(gd P 3),(gd P 4),(gd P 5),(gd P 6),(gd P 7)]) (ib .eql (gd k 0) (.I 5) (bd (aD .sub a (.I 1)) λQ=>bd (bB Q b c d e (gd k 1) (gd k 2) (gd k 3) i) λR=>bd (aD .sub a (.I 1)) λS=>bd (bB S (gd R 0) (gd R 1) (gd R 2) (gd R 3) (gd R 4) (gd R 5) (gd R 6) (gd R 7)) λT=>bd (aG (.I 6) (gd T 4) (gd T 5) (gd T 6)) λU=>bd (aT (.lst [(.I 11),(.I 11),(.I 12),(.I 13),(.I 14),(.I 15)]) (gd U 0)) λV=>bd (aB 1 false (.lst [(.I 11),(.I 11),(.I 12),(.I 13),(.I 14),(.I 15)]) (gd U 0)) λW=>bd (aP W (.I 0) (gd T 0) (gd T 1) (gd T 2) (gd T 3) (gd U 1) (gd U 2) (gd U 3) (gd T 7)) λX=>some [(gd X 0),(gd X 1),(gd X 2),(gd X 3),(gd X 4),(gd X 5),(gd X 6),(gd X 7)]) (ib .eql (gd k 0) (.I 6) (bd (aD .sub a (.I 1)) λY=>bd (bB Y b c d e (gd k 1) (gd k 2) (gd k 3) i) λZ=>bd (aD .sub a (.I 1)) λaa=>bd (bB aa (gd Z 0) (gd Z 1) (gd Z 2) (gd Z 3) (gd Z 4) (gd Z 5) (gd Z 6) (gd Z 7)) λab=>bd (aG (.I 6) (gd ab 4) (gd ab 5) (gd ab 6)) λac=>bd (aT (.lst [(.I 11),(.I 11),(.I 12),(.I 13),(.I 14),(.I 15)]) (gd ac 0)) λad=>bd (aB 1 false (.lst [(.I 11),(.I 11),(.I 12),(.I 13),(.I 14),(.I 15)]) (gd ac 0)) λae=>bd (aP ae (.I 0) (gd ab 0) (gd ab 1) (gd ab 2) (gd ab 3) (gd ac 1) (gd ac 2) (gd ac 3) (gd ab 7)) λaf=>some [(gd af 0),(gd af 1),(gd af 2),(gd af 3),(gd af 4),(gd af 5),(gd af 6),(gd af 7)]) (ib .eql (gd k 0) (.I 7) (bd (aD .sub a (.I 1)) λag=>bd (bB ag b c d e (gd k 1) (gd k 2) (gd k 3) i) λah=>bd (aP (.I 16) (.I 0) (gd ah 0) (gd ah 1) (gd ah 2) (gd ah 3) (gd ah 4) (gd ah 5) (gd ah 6) (gd ah 7)) λai=>some [(gd ai 0),(gd ai 1),(gd ai 2),(gd ai 3),(gd ai 4),(gd ai 5),(gd ai 6),(gd ai 7)]) (ib .eql (gd k 0) (.I 8) (bd (lZ a b c d e (gd k 1) (gd k 2) (gd k 3) i) λaj=>some [(gd aj 0),(gd aj 1),(gd aj 2),(gd aj 3),(gd aj 4),(gd aj 5),(gd aj 6),(gd aj 7)]) (ib .eql (gd k 0) (.I 9) (bd (lZ a b c d e (gd k 1) (gd k 2) (gd k 3) i) λak=>some [(gd ak 0),(gd ak 1),(gd ak 2),(gd ak 3),(gd ak 4),(gd ak 5),(gd ak 6),(gd ak 7)]) (ib .eql (gd k 0) (.I 10) (bd (aD .sub a (.I 1)) λal=>bd (bB al b c d e (gd k 1) (gd k 2) (gd k 3) i) λam=>bd (aG (.I 2) (gd am 4) (gd am 5) (gd am 6)) λan=>bd (aP (.I 21) (gd an 0) (gd am 0) (gd am 1) (gd am 2) (gd am 3) (gd an 1) (gd an 2) (gd an 3) (gd am 7)) λao=>some [(gd ao 0),(gd ao 1),(gd ao 2),(gd ao 3),(gd ao 4),(gd ao 5),(gd ao 6),(gd ao 7)]) (ib .eql (gd k 0) (.I 11) (bd (aK b) λap=>ib .gtr ap (.I 0) (bd (aK b) λaq=>bd (aG aq (gd k 1) (gd k 2) (gd k 3)) λar=>fD a (gd ar 0) (.I 0) b c d e (gd ar 1) (gd ar 2) (gd ar 3) i) (bd (aD .sub a (.I 1)) λau=>bd (bB au b c d e (gd k 1) (gd k 2) (gd k 3) i) λav=>some [(gd av 0),(gd av 1),(gd av 2),(gd av 3),(gd av 4),(gd av 5),(gd av 6),(gd av 7)])) (ib .eql (gd k 0) (.I 12) (bd (aK b) λaw=>ib .gtr aw (.I 0) (bd (aK b) λax=>bd (aG ax (gd k 1) (gd k 2) (gd k 3)) λay=>fD a (gd ay 0) (.I 0) b c d e (gd ay 1) (gd ay 2) (gd ay 3) i) (bd (aD .sub a (.I 1)) λaz=>bd (bB az b c d e (gd k 1) (gd k 2) (gd k 3) i) λba=>some [(gd ba 0),(gd ba 1),(gd ba 2),(gd ba 3),(gd ba 4),(gd ba 5),(gd ba 6),(gd ba 7)])) (ib .eql (gd k 0) (.I 13) (bd (aK b) λbb=>ib .gtr bb (.I 0) (bd (aK b) λbc=>bd (aG bc (gd k 1) (gd k 2) (gd k 3)) λbe=>bd (pO (gd be 0) b c d e (gd be 1) (gd be 2) (gd be 3) i) λbf=>bd (aP (.I 5) (gd bf 0) (gd bf 1) (gd bf 2) (gd bf 3) (gd bf 4) (gd bf 5) (gd bf 6) (gd bf 7) (gd bf 8)) λbg=>bd (fH (.I 6) (gd bg 4) (gd bg 5) (gd bg 6)) λbh=>aV (gd bh 0) (bd (aK (gd bg 7)) λbi=>bd (aD .sub bi (.I 1)) λbj=>bd (bA 2 true (gd bg 7) (.I 0) bj) λbk=>bd (bA 2 true (gd bg 7) (.I 0) bj) λbl=>bd (aG (gd bg 2) (gd bh 1) (gd bh 2) (gd bh 3)) λbm=>bd (aP (.I 6) (gd bm 0) (gd bg 0) (gd bg 1) (gd bg 2) (gd bg 3) (gd bm 1) (gd bm 2) (gd bm 3) bl) λbn=>jJ a (gd be 0) (gd bn 0) (gd bn 1) (gd bn 2) (gd bn 3) (gd bn 4) (gd bn 5) (gd bn 6) (gd bn 7)) (jJ a (gd be 0) (gd bg 0) (gd bg 1) (gd bg 2) (gd bg 3) (gd bh 1) (gd bh 2) (gd bh 3) (gd bg 7))) (bd (aD .sub a (.I 1)) λbo=>bd (bB bo b c d e (gd k 1) (gd k 2) (gd k 3) i) λbp=>some [(gd bp 0),(gd bp 1),(gd bp 2),(gd bp 3),(gd bp 4),(gd bp 5),(gd bp 6),(gd bp 7)])) (ib .eql (gd k 0) (.I 14) (bd (aD .sub a (.I 1)) λbq=>bd (bB bq b c d e (gd k 1) (gd k 2) (gd k 3) i) λbr=>bd (aP (.I 8) (.I 0) (gd br 0) (gd br 1) (gd br 2) (gd br 3) (gd br 4) (gd br 5) (gd br 6) (gd br 7)) λbt=>bd (aG (.I 3) (gd bt 4) (gd bt 5) (gd bt 6)) λbu=>bd (aT (.lst [(.I 11),(.I 15),(.I 13)]) (gd bu 0)) λbv=>bd (aB 1 false (.lst [(.I 11),(.I 15),(.I 13)]) (gd bu 0)) λbw=>bd (aP bw (.I 0) (gd bt 0) (gd bt 1) (gd bt 2) (gd bt 3) (gd bu 1) (gd bu 2) (gd bu 3) (gd bt 7)) λbx=>some [(gd bx 0),(gd bx 1),(gd bx 2),(gd bx 3),(gd bx 4),(gd bx 5),(gd bx 6),(gd bx 7)]) (bd (aG d (gd k 1) (gd k 2) (gd k 3)) λbz=>bd (aP (.I 6) (gd bz 0) b c d e (gd bz 1) (gd bz 2) (gd bz 3) i) λca=>some [(gd ca 0),(gd ca 1),(gd ca 2),(gd ca 3),(gd ca 4),(gd ca 5),(gd ca 6),(gd ca 7)]))))))))))))))))):=sE
variable (a b c d e f g h i j k l : PV)
theorem aCl : kA a b c d e f g h=bd (aG (.I 5) e f g) λi=>ib .eql (gd i 0) (.I 0) (bd (aG (.I 9) (gd i 1) (gd i 2) (gd i 3)) λj=>bd (aD .sub (gd j 0) (.I 2)) λk=>bd (aP (.I 1) k a b c d (gd j 1) (gd j 2) (gd j 3) h) λl=>some [(gd l 0),(gd l 1),(gd l 2),(gd l 3),(gd l 4),(gd l 5),(gd l 6),(gd l 7)]) (ib .eql (gd i 0) (.I 1) (ib .gtr b (.I 0) (bd (aG b (gd i 1) (gd i 2) (gd i 3)) λm=>bd (aP (.I 3) (gd m 0) a b c d (gd m 1) (gd m 2) (gd m 3) h) λn=>some [(gd n 0),(gd n 1),(gd n 2),(gd n 3),(gd n 4),(gd n 5),(gd n 6),(gd n 7)]) (bd (aP (.I 4) (.I 0) a b c d (gd i 1) (gd i 2) (gd i 3) h) λo=>some [(gd o 0),(gd o 1),(gd o 2),(gd o 3),(gd o 4),(gd o 5),(gd o 6),(gd o 7)])) (bd (aG c (gd i 1) (gd i 2) (gd i 3)) λp=>bd (aP (.I 6) (gd p 0) a b c d (gd p 1) (gd p 2) (gd p 3) h) λq=>some [(gd q 0),(gd q 1),(gd q 2),(gd q 3),(gd q 4),(gd q 5),(gd q 6),(gd q 7)])):=gE
theorem aBQ : fD a b c d e f g h i j k=bd (aB 3 true d b) λl=>bd (PV.cell l 0) λm=>ib .lss c m (bd (aD .sub a (.I 1)) λn=>bd (bB n d e f g h i j k) λo=>bd (aD .add c (.I 1)) λp=>fD a b p (gd o 0) (gd o 1) (gd o 2) (gd o 3) (gd o 4) (gd o 5) (gd o 6) (gd o 7)) (bd (pO b d e f g h i j k) λq=>bd (aP (.I 24) (gd q 0) (gd q 1) (gd q 2) (gd q 3) (gd q 4) (gd q 5) (gd q 6) (gd q 7) (gd q 8)) λr=>some [(gd r 0),(gd r 1),(gd r 2),(gd r 3),(gd r 4),(gd r 5),(gd r 6),(gd r 7)]):=gE
theorem aBR : jJ a b c d e f g h i j=gW a b (.I 0) c d e f g h i j:=gE
theorem aBS : gW a b c d e f g h i j k=bd (aB 3 true d b) λl=>bd (PV.cell l 0) λm=>ib .lss c m (bd (aD .sub a (.I 1)) λn=>bd (bB n d e f g h i j k) λo=>bd (aD .add c (.I 1)) λp=>gW a b p (gd o 0) (gd o 1) (gd o 2) (gd o 3) (gd o 4) (gd o 5) (gd o 6) (gd o 7)) (bd (aB 3 true d b) λq=>bd (PV.cell q 0) λr=>bd (aP (.I 23) r d e f g h i j k) λs=>some [(gd s 0),(gd s 1),(gd s 2),(gd s 3),(gd s 4),(gd s 5),(gd s 6),(gd s 7)]):=gE
theorem aHb : aP a b c d e f g h i j=bd (aS a) λk=>bd (aS b) λl=>bd (aN 2 16 true j (.lst [(.agg [k,l])])) λm=>some [c,d,e,f,g,h,i,m]:=sE
theorem aDQ : tY a=w2 a λb c=>bd (aN 1 16 false (.lst []) b) λd=>mG (.I 0) b c (.lst []) (.lst []) d (.lst []):=sE
theorem sY : mG a b c d e f g=bd (aK c) λh=>ib .lss a h (bd (aB 3 true c a) λi=>w3 i λj k l=>bd (aN 2 16 true (.lst []) l) λm=>bd (aS j) λn=>bd (aS k) λo=>bd (aN 3 40 true g (.lst [(.agg [n,o,m])])) λp=>bd (aD .add a (.I 1)) λq=>mG q b c d e f p) (some [f,g]):=gE
theorem aO5 : aFx a=bd (bD 32 (.agg [(.I 0),(.I 0),(.str (bs []))]) a) λb=>ib .leq a a (bd (bD 32 (.agg [(.I 0),(.I 0),(.str (bs []))]) a) λc=>some [c]) (none):=sE
theorem rY : eA a=bd (bL a) λb=>cC b (some [(.lst [])]) (bd (aN 3 32 true (.lst []) a) λc=>some [c]):=sE
theorem aJo : xL a b c d e f g h i j k l=w3 a λm n o=>ib .neq m (.I 4) (some [.nil,.nil,(.I 1),c,d,e,f,g,h,i,j,k,l]) (bd (aT k n) λp=>bd (aB 1 true k n) λq=>bd (aB 1 true k n) λr=>bd (PV.cell r 0) λs=>bd (aK s) λt=>ib .geq b t (some [.nil,.nil,(.I 4),c,d,e,f,g,h,i,j,k,l]) (bd (aT k n) λu=>bd (aB 1 true k n) λv=>bd (aB 1 true k n) λw=>bd (PV.cell w 0) λx=>bd (aT x b) λy=>some [n,b,(.I 0),c,d,e,f,g,h,i,j,k,l])):=sE
theorem aIe : aAD a b c d e f g h i j k=w3 a λl m n=>bd (aK i) λo=>bd (aD .sub o (.I 1)) λp=>bd (bA 4 true i (.I 0) p) λq=>bd (bA 4 true i (.I 0) p) λr=>ib .eql p (.I 0) (some [b,(.I 1),d,l,m,n,h,r,j,k]) (bd (aD .sub p (.I 1)) λs=>bd (aT r s) λt=>bd (aB 4 true r s) λu=>bd (aB 4 true r s) λv=>bd (PV.cell v 3) λw=>bd (aB 4 true r s) λx=>bd (PV.cell x 3) λy=>bd (aC 4 r s 3 .hole) λz=>bd (aN 3 32 true w (.lst [(.agg [l,m,n])])) λA=>bd (aC 4 z s 3 A) λB=>some [b,c,d,e,f,g,h,B,j,k]):=sE
theorem zB : pB a b c d e f g h i=bd (aG (.I 9) f g h) λj=>ib .eql (gd j 0) (.I 0) (bd (bB (.I 2) b c d e (gd j 1) (gd j 2) (gd j 3) i) λk=>bd (aG (gd k 2) (gd k 4) (gd k 5) (gd k 6)) λl=>bd (aP (.I 7) (gd l 0) (gd k 0) (gd k 1) (gd k 2) (gd k 3) (gd l 1) (gd l 2) (gd l 3) (gd k 7)) λm=>some [(gd m 0),(gd m 1),(gd m 2),(gd m 3),(gd m 4),(gd m 5),(gd m 6),(gd m 7)]) (ib .eql (gd j 0) (.I 1) (bd (bB (.I 2) b c d e (gd j 1) (gd j 2) (gd j 3) i) λn=>bd (aG (gd n 2) (gd n 4) (gd n 5) (gd n 6)) λo=>bd (aP (.I 7) (gd o 0) (gd n 0) (gd n 1) (gd n 2) (gd n 3) (gd o 1) (gd o 2) (gd o 3) (gd n 7)) λp=>some [(gd p 0),(gd p 1),(gd p 2),(gd p 3),(gd p 4),(gd p 5),(gd p 6),(gd p 7)]) (ib .eql (gd j 0) (.I 2) (bd (bB (.I 2) b c d e (gd j 1) (gd j 2) (gd j 3) i) λq=>bd (aG (gd q 2) (gd q 4) (gd q 5) (gd q 6)) λr=>bd (aP (.I 7) (gd r 0) (gd q 0) (gd q 1) (gd q 2) (gd q 3) (gd r 1) (gd r 2) (gd r 3) (gd q 7)) λs=>some [(gd s 0),(gd s 1),(gd s 2),(gd s 3),(gd s 4),(gd s 5),(gd s 6),(gd s 7)]) (ib .eql (gd j 0) (.I 3) (bd (bB (.I 1) b c d e (gd j 1) (gd j 2) (gd j 3) i) λt=>bd (aP (.I 26) (.I 0) (gd t 0) (gd t 1) (gd t 2) (gd t 3) (gd t 4) (gd t 5) (gd t 6) (gd t 7)) λu=>some [(gd u 0),(gd u 1),(gd u 2),(gd u 3),(gd u 4),(gd u 5),(gd u 6),(gd u 7)]) (ib .eql (gd j 0) (.I 4) (bd (bB (.I 1) b c d e (gd j 1) (gd j 2) (gd j 3) i) λv=>bd (aP (.I 26) (.I 0) (gd v 0) (gd v 1) (gd v 2) (gd v 3) (gd v 4) (gd v 5) (gd v 6) (gd v 7)) λw=>some [(gd w 0),(gd w 1),(gd w 2),(gd w 3),(gd w 4),(gd w 5),(gd w 6),(gd w 7)]) (ib .eql (gd j 0) (.I 5) (bd (aG d (gd j 1) (gd j 2) (gd j 3)) λx=>bd (aP (.I 6) (gd x 0) b c d e (gd x 1) (gd x 2) (gd x 3) i) λy=>bd (bB (.I 1) (gd y 0) (gd y 1) (gd y 2) (gd y 3) (gd y 4) (gd y 5) (gd y 6) (gd y 7)) λz=>bd (aG (.I 2) (gd z 4) (gd z 5) (gd z 6)) λA=>bd (aP (.I 22) (gd A 0) (gd z 0) (gd z 1) (gd z 2) (gd z 3) (gd A 1) (gd A 2) (gd A 3) (gd z 7)) λB=>some [(gd B 0),(gd B 1),(gd B 2),(gd B 3),(gd B 4),(gd B 5),(gd B 6),(gd B 7)]) (ib .eql (gd j 0) (.I 6) (ib .gtr a (.I 0) (bd (rW b c d e (gd j 1) (gd j 2) (gd j 3) i) λC=>bd (aK (gd C 7)) λD=>bd (aP (.I 19) (.I 0) (gd C 0) (gd C 1) (gd C 2) (gd C 3) (gd C 4) (gd C 5) (gd C 6) (gd C 7)) λE=>bd (aD .sub a (.I 1)) λF=>bd (jQ F (.I 2) (gd E 0) (gd E 1) (gd E 2) (gd E 3) (gd E 4) (gd E 5) (gd E 6) (gd E 7)) λG=>bd (aK (gd G 7)) λH=>bd (aT (gd G 7) D) λI=>bd (aS H) λJ=>bd (aC 2 (gd G 7) D 1 J) λK=>some [(gd G 0),(gd G 1),(gd G 2),(gd G 3),(gd G 4),(gd G 5),(gd G 6),K]) (some [b,c,d,e,(gd j 1),(gd j 2),(gd j 3),i])) (ib .gtr a (.I 0) (bd (aG d (gd j 1) (gd j 2) (gd j 3)) λL=>bd (aG (.I 3) (gd L 1) (gd L 2) (gd L 3)) λM=>ib .gtr (gd M 0) (.I 0) (bd (aP (.I 1) (.I 0) b c d e (gd M 1) (gd M 2) (gd M 3) i) λN=>bd (aP (.I 7) (gd L 0) (gd N 0) (gd N 1) (gd N 2) (gd N 3) (gd N 4) (gd N 5) (gd N 6) (gd N 7)) λO=>kT a (gd L 0) (gd O 0) (gd O 1) (gd O 2) (gd O 3) (gd O 4) (gd O 5) (gd O 6) (gd O 7)) (kT a (gd L 0) b c d e (gd M 1) (gd M 2) (gd M 3) i)) (some [b,c,d,e,(gd j 1),(gd j 2),(gd j 3),i])))))))):=sE
theorem aC7 : kT a b c d e f g h i j=bd (aK j) λk=>bd (aP (.I 6) b c d e f g h i j) λl=>bd (aG (.I 7) (gd l 4) (gd l 5) (gd l 6)) λm=>bd (aP (.I 1) (gd m 0) (gd l 0) (gd l 1) (gd l 2) (gd l 3) (gd m 1) (gd m 2) (gd m 3) (gd l 7)) λn=>bd (aP (.I 14) (.I 0) (gd n 0) (gd n 1) (gd n 2) (gd n 3) (gd n 4) (gd n 5) (gd n 6) (gd n 7)) λo=>bd (aK (gd o 7)) λp=>bd (aP (.I 19) (.I 0) (gd o 0) (gd o 1) (gd o 2) (gd o 3) (gd o 4) (gd o 5) (gd o 6) (gd o 7)) λq=>bd (aD .sub a (.I 1)) λr=>bd (jQ r (.I 2) (gd q 0) (gd q 1) (gd q 2) (gd q 3) (gd q 4) (gd q 5) (gd q 6) (gd q 7)) λs=>bd (aP (.I 6) b (gd s 0) (gd s 1) (gd s 2) (gd s 3) (gd s 4) (gd s 5) (gd s 6) (gd s 7)) λt=>bd (aP (.I 1) (.I 1) (gd t 0) (gd t 1) (gd t 2) (gd t 3) (gd t 4) (gd t 5) (gd t 6) (gd t 7)) λu=>bd (aP (.I 11) (.I 0) (gd u 0) (gd u 1) (gd u 2) (gd u 3) (gd u 4) (gd u 5) (gd u 6) (gd u 7)) λv=>bd (aP (.I 7) b (gd v 0) (gd v 1) (gd v 2) (gd v 3) (gd v 4) (gd v 5) (gd v 6) (gd v 7)) λw=>bd (aP (.I 17) k (gd w 0) (gd w 1) (gd w 2) (gd w 3) (gd w 4) (gd w 5) (gd w 6) (gd w 7)) λx=>bd (aK (gd x 7)) λy=>bd (aT (gd x 7) p) λz=>bd (aS y) λA=>bd (aC 2 (gd x 7) p 1 A) λB=>some [(gd x 0),(gd x 1),(gd x 2),(gd x 3),(gd x 4),(gd x 5),(gd x 6),B]:=gE
theorem aDR : lZ a b c d e f g h i=bd (aG (.I 3) f g h) λj=>bd (aD .add (.I 1) (gd j 0)) λk=>bd (aP (.I 20) k b c d e (gd j 1) (gd j 2) (gd j 3) i) λl=>bd (aD .add k (.I 1)) λm=>bd (aG m (gd l 4) (gd l 5) (gd l 6)) λn=>gY a k (gd n 0) (gd l 0) (gd l 1) (gd l 2) (gd l 3) (gd n 1) (gd n 2) (gd n 3) (gd l 7):=sE
theorem aBT : gY a b c d e f g h i j k=ib .gtr c (.I 0) (bd (aP (.I 8) (.I 0) d e f g h i j k) λl=>bd (aD .sub a (.I 2)) λm=>bd (bB m (gd l 0) (gd l 1) (gd l 2) (gd l 3) (gd l 4) (gd l 5) (gd l 6) (gd l 7)) λn=>bd (aG b (gd n 4) (gd n 5) (gd n 6)) λo=>bd (aP (.I 22) (gd o 0) (gd n 0) (gd n 1) (gd n 2) (gd n 3) (gd o 1) (gd o 2) (gd o 3) (gd n 7)) λp=>bd (aD .sub c (.I 1)) λq=>gY a b q (gd p 0) (gd p 1) (gd p 2) (gd p 3) (gd p 4) (gd p 5) (gd p 6) (gd p 7)) (bd (fH (.I 3) h i j) λr=>aV (gd r 0) (bd (aG b (gd r 1) (gd r 2) (gd r 3)) λs=>bd (aP (.I 21) (gd s 0) d e f g (gd s 1) (gd s 2) (gd s 3) k) λt=>some [(gd t 0),(gd t 1),(gd t 2),(gd t 3),(gd t 4),(gd t 5),(gd t 6),(gd t 7)]) (some [d,e,f,g,(gd r 1),(gd r 2),(gd r 3),k])):=gE
theorem aDS : pO a b c d e f g h i=bd (aD .add a (.I 1)) λj=>some [j,b,c,d,e,f,g,h,i]:=sE
theorem aF2 : rW a b c d e f g h=bd (bB (.I 1) a b c d e f g h) λi=>bd (bB (.I 0) (gd i 0) (gd i 1) (gd i 2) (gd i 3) (gd i 4) (gd i 5) (gd i 6) (gd i 7)) λj=>bd (aG (.I 2) (gd j 4) (gd j 5) (gd j 6)) λk=>bd (aT (.lst [(.I 14),(.I 15)]) (gd k 0)) λl=>bd (aB 1 false (.lst [(.I 14),(.I 15)]) (gd k 0)) λm=>bd (aP m (.I 0) (gd j 0) (gd j 1) (gd j 2) (gd j 3) (gd k 1) (gd k 2) (gd k 3) (gd j 7)) λn=>bd (fH (.I 4) (gd n 4) (gd n 5) (gd n 6)) λo=>aV (gd o 0) (bd (aP (.I 16) (.I 0) (gd n 0) (gd n 1) (gd n 2) (gd n 3) (gd o 1) (gd o 2) (gd o 3) (gd n 7)) λp=>some [(gd p 0),(gd p 1),(gd p 2),(gd p 3),(gd p 4),(gd p 5),(gd p 6),(gd p 7)]) (some [(gd n 0),(gd n 1),(gd n 2),(gd n 3),(gd o 1),(gd o 2),(gd o 3),(gd n 7)]):=sE
end
end Go.Proofs.YtllmobkkbpdchaaGreatDoor

namespace Go.Proofs.YtllmobkkbpdchaaGreatDoor
noncomputable section
open Go
attribute [local irreducible] bd aV aE aH bE aS PV.cell PV.sub aB aK bV dG dL dQ cQ aD dM dB bR bA cG aN aX aC bM bC bD bK aW PV.deref bG cA aT dJ cJ cK dO PV.apply bL bO fK cC
variable {n : Int}
def Bts (l : List Int) : Prop:=(∀ x∈l,0≤x∧x≤255)∧l.length≤1048576
def aW7 (l : List Int) (n a : Int) (r : R) : Prop:=∃ v a' s' : Int,r = [.I v,cX l,.I a',.I s']∧0≤v∧(v<n∨v=0)∧a≤a'∧a'≤a+1∧0≤s'∧s'<65521
theorem aU0 {l : List Int} {x a s b : Int} (hn : 2≤n) (hx : 0≤x) (h0 : 0≤a) (h1 : a≤4611686018427387904) (hs : 0≤s∧s<65521) (hb : b=a) :
 Ok (aW7 l n b) (kS (.I n) (.I x) (cX l) (.I a) (.I s)):=by
 rw [aC4]
 subst hb
 repeat' (first | refine fB ?_ | refine jM ?_ | refine lQ ?_ | refine jN ?_ | refine cL ?_ | refine kZ ?_ | (refine gC (λ_=>?_) (λ_=>?_)) | (refine eL (λ_=>?_) (λ_=>?_)) | refine aZ (λ_=>?_) (λ_=>?_) | refine oQ (by omega) ?_ | refine iS (by omega) ?_ | refine nX (by omega) (by omega) ?_ | refine oR (by omega) (by omega) (by omega) ?_ | refine nW (by omega) ?_ | refine mP (by omega) ?_ | refine dW ?_ | refine eS ?_ | refine gK ?_ | refine cD ?_ | refine mQ (by omega) ?_ | refine bJ rfl ?_ | refine aL rfl ?_ | refine lA rfl ?_ | refine gR rfl ?_)
 exact aA ⟨_,_,_,rfl,Int.emod_nonneg _ (by omega),.inl (Int.emod_lt_of_pos _ (by omega)),by omega,by omega,hs⟩
theorem aTJ {l : List Int} (hl : Bts l) {a s : Int} (hn : n≤1099511627776) (h0 : 0≤a) (h1 : a≤4611686018427387904) (hs : 0≤s∧s<65521) :
 Ok (aW7 l n a) (aG (.I n) (cX l) (.I a) (.I s)):=by
 rw [aFR]
 obtain ⟨hb,hlen⟩:=hl
 refine fB ?_
 refine gC (λ_=>aA ⟨0,a,s,rfl,by omega,.inr rfl,by omega,by omega,hs⟩) (λh=>?_)
 refine dW ?_
 refine fB ?_
 refine gC (λh2=>?_) (λh2=>?_)
 ·refine aJI h0 h2 (λx hx _=>?_)
  have:=hb x hx
  refine mQ (by omega) ?_
  exact aU0 (by omega) (by omega) h0 h1 hs rfl
 ·repeat' (first | refine fB ?_ | refine jM ?_ | refine lQ ?_ | refine jN ?_ | refine cL ?_ | refine kZ ?_ | (refine gC (λ_=>?_) (λ_=>?_)) | (refine eL (λ_=>?_) (λ_=>?_)) | refine aZ (λ_=>?_) (λ_=>?_) | refine oQ (by omega) ?_ | refine iS (by omega) ?_ | refine nX (by omega) (by omega) ?_ | refine oR (by omega) (by omega) (by omega) ?_ | refine nW (by omega) ?_ | refine mP (by omega) ?_ | refine dW ?_ | refine eS ?_ | refine gK ?_ | refine cD ?_ | refine mQ (by omega) ?_ | refine bJ rfl ?_ | refine aL rfl ?_ | refine lA rfl ?_ | refine gR rfl ?_)
  ·refine aJI (Int.emod_nonneg _ (by omega)) (Int.emod_lt_of_pos _ (by omega)) (λx hx _=>?_)
   have:=hb x hx
   repeat' (first | refine fB ?_ | refine jM ?_ | refine lQ ?_ | refine jN ?_ | refine cL ?_ | refine kZ ?_ | (refine gC (λ_=>?_) (λ_=>?_)) | (refine eL (λ_=>?_) (λ_=>?_)) | refine aZ (λ_=>?_) (λ_=>?_) | refine oQ (by omega) ?_ | refine iS (by omega) ?_ | refine nX (by omega) (by omega) ?_ | refine oR (by omega) (by omega) (by omega) ?_ | refine nW (by omega) ?_ | refine mP (by omega) ?_ | refine dW ?_ | refine eS ?_ | refine gK ?_ | refine cD ?_ | refine mQ (by omega) ?_ | refine bJ rfl ?_ | refine aL rfl ?_ | refine lA rfl ?_ | refine gR rfl ?_)
   exact aU0 (by omega) (by omega) h0 h1 (by omega) rfl
  ·exact aU0 (by omega) (by omega) h0 h1 (by omega) rfl
section
variable {P : R → Prop} {k : R → OR} {l : List Int} {a s : Int}
theorem dA (hl : Bts l) (hn : n≤1099511627776) (h0 : 0≤a∧a≤4611686018427387904∧0≤s∧s<65521)
 (h : ∀ v a' s' : Int,0≤v∧(v<n∨v=0)∧a≤a'∧a'≤a+1∧0≤s'∧s'<65521→Ok P (k [.I v,cX l,.I a',.I s'])) :
 Ok P (bd (aG (.I n) (cX l) (.I a) (.I s)) k):=
 aI (aTJ hl hn h0.1 h0.2.1 h0.2.2) (λr ⟨v,a',s',hr,h1⟩=>by rw [hr];exact h v a' s' h1)
theorem pQ (hl : Bts l) (hn : 1≤n∧n≤1099511627776) (h0 : 0≤a∧a≤4611686018427387904∧0≤s∧s<65521)
 (h : ∀ (v : Bool) (a' s' : Int),a≤a'∧a'≤a+1∧0≤s'∧s'<65521→Ok P (k [.bool v,cX l,.I a',.I s'])) :
 Ok P (bd (fH (.I n) (cX l) (.I a) (.I s)) k):=by
 refine aI (Q:=λr=>∃ (v : Bool) (a' s' : Int),r = [.bool v,cX l,.I a',.I s']∧a≤a'∧a'≤a+1∧0≤s'∧s'<65521) ?_ (λr ⟨v,a',s',hr,h1⟩=>by rw [hr];exact h v a' s' h1)
 rw [aFS]
 refine dA hl (by omega) h0 (λv a' s' h1=>?_)
 repeat' (first | refine fB ?_ | refine jM ?_ | refine lQ ?_ | refine jN ?_ | refine cL ?_ | refine kZ ?_ | (refine gC (λ_=>?_) (λ_=>?_)) | (refine eL (λ_=>?_) (λ_=>?_)) | refine aZ (λ_=>?_) (λ_=>?_) | refine oQ (by omega) ?_ | refine iS (by omega) ?_ | refine nX (by omega) (by omega) ?_ | refine oR (by omega) (by omega) (by omega) ?_ | refine nW (by omega) ?_ | refine mP (by omega) ?_ | refine dW ?_ | refine eS ?_ | refine gK ?_ | refine cD ?_ | refine mQ (by omega) ?_ | refine bJ rfl ?_ | refine aL rfl ?_ | refine lA rfl ?_ | refine gR rfl ?_)
 exact aA ⟨_,_,_,rfl,h1.2.2⟩
theorem aWn (hl : Bts l) (hn : 1≤n∧n≤1000) (h0 : 0≤a∧a≤4611686018427387904∧0≤s∧s<65521)
 (h : ∀ v a' s' : Int,0≤v∧v≤n∧a≤a'∧a'≤a+1∧0≤s'∧s'<65521→Ok P (k [.I v,cX l,.I a',.I s'])) :
 Ok P (bd (wV (.I n) (cX l) (.I a) (.I s)) k):=by
 refine aI (Q:=λr=>∃ (v a' s' : Int),r = [.I v,cX l,.I a',.I s']∧0≤v∧v≤n∧a≤a'∧a'≤a+1∧0≤s'∧s'<65521) ?_ (λr ⟨v,a',s',hr,h1⟩=>by rw [hr];exact h v a' s' h1)
 rw [aF1]
 have:=hl.2
 repeat' (first | refine fB ?_ | refine jM ?_ | refine lQ ?_ | refine jN ?_ | refine cL ?_ | refine kZ ?_ | (refine gC (λ_=>?_) (λ_=>?_)) | (refine eL (λ_=>?_) (λ_=>?_)) | refine aZ (λ_=>?_) (λ_=>?_) | refine oQ (by omega) ?_ | refine iS (by omega) ?_ | refine nX (by omega) (by omega) ?_ | refine oR (by omega) (by omega) (by omega) ?_ | refine nW (by omega) ?_ | refine mP (by omega) ?_ | refine dW ?_ | refine eS ?_ | refine gK ?_ | refine cD ?_ | refine mQ (by omega) ?_ | refine bJ rfl ?_ | refine aL rfl ?_ | refine lA rfl ?_ | refine gR rfl ?_)
 ·refine dA hl (by omega) h0 (λv a' s' h1=>?_)
  exact aA ⟨_,_,_,rfl,by omega,by omega,h1.2.2⟩
 ·refine dA hl (by omega) h0 (λv a' s' h1=>?_)
  exact aA ⟨_,_,_,rfl,by omega,by omega,h1.2.2⟩
theorem aWo {k : PV→OR} {xs : List Int} {i : Int} (h0 : 0≤i) (h1 : i<xs.length) (h : ∀ x,x∈xs→Ok P (k (.I x))) : Ok P (bd (aB 1 false (.lst (xs.map PV.I)) (.I i)) k):=by
 refine aAk h0 (by rw [List.length_map];exact h1) (λx hx=>?_) (λx hx _=>?_)
 ·obtain ⟨y,_,rfl⟩:=List.mem_map.1 hx;rfl
 ·obtain ⟨y,hy,rfl⟩:=List.mem_map.1 hx;exact h y hy
theorem aN0 (hl : Bts l) (h0 : 0≤a∧a≤4611686018427387900∧0≤s∧s<65521)
 (h : ∀ v a' s' : Int,-9223372036854775808≤v∧v≤9223372036854775807∧a≤a'∧a'≤a+2∧0≤s'∧s'<65521→Ok P (k [.I v,cX l,.I a',.I s'])) :
 Ok P (bd (iH (cX l) (.I a) (.I s)) k):=by
 refine aI (Q:=λr=>∃ (v a' s' : Int),r = [.I v,cX l,.I a',.I s']∧-9223372036854775808≤v∧v≤9223372036854775807∧a≤a'∧a'≤a+2∧0≤s'∧s'<65521) ?_ (λr ⟨v,a',s',hr,h1⟩=>by rw [hr];exact h v a' s' h1)
 rw [aDO]
 refine dA hl (by omega) (by omega) (λv a1 s1 h1=>?_)
 repeat' (first | refine fB ?_ | refine jM ?_ | refine lQ ?_ | refine jN ?_ | refine cL ?_ | refine kZ ?_ | (refine gC (λ_=>?_) (λ_=>?_)) | (refine eL (λ_=>?_) (λ_=>?_)) | refine aZ (λ_=>?_) (λ_=>?_) | refine oQ (by omega) ?_ | refine iS (by omega) ?_ | refine nX (by omega) (by omega) ?_ | refine oR (by omega) (by omega) (by omega) ?_ | refine nW (by omega) ?_ | refine mP (by omega) ?_ | refine dW ?_ | refine eS ?_ | refine gK ?_ | refine cD ?_ | refine mQ (by omega) ?_ | refine bJ rfl ?_ | refine aL rfl ?_ | refine lA rfl ?_ | refine gR rfl ?_)
 ·refine dA hl (by omega) (by omega) (λv2 a2 s2 h2=>?_)
  repeat' (first | refine fB ?_ | refine jM ?_ | refine lQ ?_ | refine jN ?_ | refine cL ?_ | refine kZ ?_ | (refine gC (λ_=>?_) (λ_=>?_)) | (refine eL (λ_=>?_) (λ_=>?_)) | refine aZ (λ_=>?_) (λ_=>?_) | refine oQ (by omega) ?_ | refine iS (by omega) ?_ | refine nX (by omega) (by omega) ?_ | refine oR (by omega) (by omega) (by omega) ?_ | refine nW (by omega) ?_ | refine mP (by omega) ?_ | refine dW ?_ | refine eS ?_ | refine gK ?_ | refine cD ?_ | refine mQ (by omega) ?_ | refine bJ rfl ?_ | refine aL rfl ?_ | refine lA rfl ?_ | refine gR rfl ?_)
  exact aA ⟨_,_,_,rfl,by omega,by omega,by omega,by omega,by omega,by omega⟩
 ·refine dA hl (by omega) (by omega) (λv2 a2 s2 h2=>?_)
  refine eH (by omega) (by simp;omega) ?_
  refine aWo (xs:=[1000000000,-1000000000,1000000001,-1000000001,9223372036854775807,-9223372036854775808,4611686018427387904,31623]) (by omega) (by simp;omega) (λx hx=>?_)
  have hx : -9223372036854775808≤x∧x≤9223372036854775807:=by
   simp only [List.mem_cons,List.not_mem_nil,or_false] at hx
   omega
  exact aA ⟨_,_,_,rfl,by omega,by omega,by omega,by omega,by omega,by omega⟩
 ·refine dA hl (by omega) (by omega) (λv2 a2 s2 h2=>?_)
  repeat' (first | refine fB ?_ | refine jM ?_ | refine lQ ?_ | refine jN ?_ | refine cL ?_ | refine kZ ?_ | (refine gC (λ_=>?_) (λ_=>?_)) | (refine eL (λ_=>?_) (λ_=>?_)) | refine aZ (λ_=>?_) (λ_=>?_) | refine oQ (by omega) ?_ | refine iS (by omega) ?_ | refine nX (by omega) (by omega) ?_ | refine oR (by omega) (by omega) (by omega) ?_ | refine nW (by omega) ?_ | refine mP (by omega) ?_ | refine dW ?_ | refine eS ?_ | refine gK ?_ | refine cD ?_ | refine mQ (by omega) ?_ | refine bJ rfl ?_ | refine aL rfl ?_ | refine lA rfl ?_ | refine gR rfl ?_)
  exact aA ⟨_,_,_,rfl,by omega,by omega,by omega,by omega,by omega,by omega⟩
end
variable {s : ByteArray} {kk : IntKind} {i : Nat} {n lo hi : Int} {c : UInt8}
structure eC where
 o : Int
 a : Int
 deriving DecidableEq
structure eJ where
 p : Int
 lc : Int
 code : List eC
 deriving DecidableEq
structure fO where
 texts : List ByteArray
 funcs : List eJ
def eC.pv (x : eC) : PV:=.agg [.I x.o,.I x.a]
def eJ.pv (f : eJ) : PV:=.agg [.I f.p,.I f.lc,.lst (f.code.map eC.pv)]
def fO.pv (m : fO) : PV:=.agg [.lst (m.texts.map PV.str),.lst (m.funcs.map eJ.pv)]
def mA (n lo hi : Int) : Bool:=decide (lo≤n)&&decide (n≤hi)
def chB (c : UInt8) : Bool:=!(decide ((c.toNat : Int)<32))&&(!(decide ((126 : Int)<c.toNat))&&!(decide ((c.toNat : Int)=34)))
def fA (s : ByteArray) : Bool:=decide ((s.size : Int)≤60)&&s.data.toList.all chB
def eI (nt nf lc nc o a : Int) : Bool:=
 if o=1 then mA a (-1000000000) 1000000000 else if o=2 then mA a 0 1 else if o=3 then mA a 0 (nt - 1) else if o=5 then mA a 0 (nf - 1) else if o=24 then mA a 0 (nf - 1)
 else if o=6 then mA a 0 (lc - 1) else if o=7 then mA a 0 (lc - 1) else if o=17 then mA a 0 (nc - 1) else if o=18 then mA a 0 (nc - 1) else if o=19 then mA a 0 (nc - 1)
 else if o=20 then mA a 0 6 else if o=21 then mA a 0 5 else if o=22 then mA a 0 5 else if o=23 then mA a 0 6 else mA o 1 26&&decide (a=0)
def aAM (nt nf : Int) (f : eJ) : Bool:=mA f.p 0 6&&(mA f.lc f.p 12&&(mA f.code.length 1 120&&f.code.all λx=>eI nt nf f.lc f.code.length x.o x.a))
def fO.okB (m : fO) : Bool:=mA m.funcs.length 1 12&&(decide ((m.texts.length : Int)≤20)&&(m.texts.all fA&&m.funcs.all (aAM m.texts.length m.funcs.length)))
def fO.sized (m : fO) : Prop:=m.texts.length≤2097152∧m.funcs.length≤2097152∧(∀ t∈m.texts,t.size≤2097152)∧∀ f∈m.funcs,f.code.length≤1000000000
section
variable {P : R → Prop} {k : PV → OR} {α : Type} {f : α → PV} {xs : List α}
theorem aQ {s : Nat} {g : Bool} (hi : i<xs.length) (hel : ∀ a,(f a).isEl s g=true) (h : Ok P (k (f xs[i]))) : Ok P (bd (aB s g (.lst (xs.map f)) (.int kk (i : Int))) k):=by
 refine aAk (by omega) (by rw [List.length_map];omega) (λx hx=>?_) (λx _ hx=>?_)
 ·obtain ⟨a,_,rfl⟩:=List.mem_map.1 hx;exact hel a
 ·rw [Int.toNat_natCast,List.getElem?_map,List.getElem?_eq_getElem hi] at hx
  cases hx
  exact h
theorem aF (h : Ok P (k (.I xs.length))) : Ok P (bd (aK (.lst (xs.map f))) k):=by
 refine eS ?_
 rw [List.length_map]
 exact h
theorem aXu (hi : i<s.data.toList.length) : s[i]? = some s.data.toList[i]:=by
 have h : i<s.size:=by
  have e : s.size=s.data.toList.length:=by rw [Array.length_toList];rfl
  rw [e];exact hi
 rw [getElem?_pos s i h,Array.getElem_toList]
 rfl
theorem aJp (hi : i<s.data.toList.length) (h : Ok P (k (.int .u8 (s.data.toList[i].toNat : Int)))) : Ok P (bd (dG (.str s) (.int kk (i : Int))) k):=by
 refine eZ _ ?_ h
 simp only [dG]
 rw [gH,Int.toNat_natCast,aXu hi]
theorem gB {k : R→OR} (h : Ok P (k [.bool (mA n lo hi)])) : Ok P (bd (dP (.I n) (.I lo) (.I hi)) k):=by
 refine aI (Q:=λr=>r = [.bool (mA n lo hi)]) ?_ (λr hr=>by rw [hr];exact h)
 rw [aKo]
 refine aD7 (λh1=>jM (aA ?_)) (λh1=>aA ?_)
 ·simp [mA,h1]
 ·simp [mA,h1]
theorem fP {k : R→OR} (h : Ok P (k [.bool (mA n lo hi)])) : Ok P (bd (aR (.I n) (.I lo) (.I hi)) k):=by
 refine aI (Q:=λr=>r = [.bool (mA n lo hi)]) ?_ (λr hr=>by rw [hr];exact h)
 rw [aGX]
 refine aCA (λh1=>jM (aA ?_)) (λh1=>aA ?_)
 ·simp [mA,h1]
 ·simp [mA,h1]
theorem hU {k : R→OR} {m : Int} (hm : -1000000000≤m∧m≤1000000000) (h : Ok P (k [.bool (mA n 0 (m - 1))])) : Ok P (bd (eB (.I n) (.I m)) k):=by
 refine aI (Q:=λr=>r = [.bool (mA n 0 (m - 1))]) ?_ (λr hr=>by rw [hr];exact h)
 rw [aKm]
 exact dS (gB (aA rfl))
theorem aU1 {k : R→OR} (h : Ok P (k [.bool (mA n (-1000000000) 1000000000)])) : Ok P (bd (rC (.I n)) k):=by
 refine aI (Q:=λr=>r = [.bool (mA n (-1000000000) 1000000000)]) ?_ (λr hr=>by rw [hr];exact h)
 rw [aGg]
 exact gB (aA rfl)
end
theorem aCm {α : Type} {xs : List α} (hi : i<xs.length) (p : α→Bool) : (xs.drop i).all p=(p xs[i]&&(xs.drop (i+1)).all p):=by
 rw [List.drop_eq_getElem_cons hi,List.all_cons]
theorem aW8 (h : (c.toNat : Int)<32) : chB c=false:=by unfold chB;rw [decide_eq_true h];rfl
theorem aW9 (h : (126 : Int)<c.toNat) : chB c=false:=by unfold chB;rw [decide_eq_true h];simp
theorem aXa (h : (c.toNat : Int)=34) : chB c=false:=by unfold chB;rw [decide_eq_true h];simp
theorem aMo (hs : s.size≤2097152) : ∀ (j i : Nat),s.data.toList.length - i=j→i≤s.data.toList.length→
 Ok (λr=>r = [.bool ((s.data.toList.drop i).all chB)]) (tF (.str s) (.I i)):=by
 have hsz : s.size=s.data.toList.length:=by rw [Array.length_toList];rfl
 intro j
 induction j with
 | zero=>
   intro i h1 h2
   have : i=s.data.toList.length:=by omega
   rw [aAI]
   refine gK (aO (λh=>by omega) (λ_=>aA ?_))
   rw [this,List.drop_length];rfl
 | succ j ih=>
   intro i h1 h2
   have hi : i<s.data.toList.length:=by omega
   rw [aAI,aCm hi]
   refine gK (aO (λ_=>?_) (λh=>by omega))
   refine aJp hi (aO (λh=>aA (by rw [aW8 h];rfl)) (λh3=>?_))
   refine aJp hi (iU (λh=>aA (by rw [aW9 h];rfl)) (λh4=>?_))
   refine aJp hi (aJ (λh=>aA (by rw [aXa h];rfl)) (λh5=>?_))
   refine bS ((ih (i+1) (by omega) (by omega)).mono ?_)
   rintro r rfl
   have : chB s.data.toList[i]=true:=by unfold chB;rw [decide_eq_false h3,decide_eq_false h4,decide_eq_false h5];rfl
   rw [this,Bool.true_and]
theorem aKV {P : R→Prop} {k : R→OR} (hs : s.size≤2097152) (h : Ok P (k [.bool (fA s)])) : Ok P (bd (rQ (.str s)) k):=by
 refine aI (Q:=λr=>r = [.bool (fA s)]) ?_ (λr hr=>by rw [hr];exact h)
 rw [aKq]
 refine gK (iU (λh=>aA ?_) (λh=>?_))
 ·have : ¬ ((s.size : Int)≤60):=by omega
  simp [fA,this]
 ·refine (aMo hs _ 0 rfl (by omega)).mono ?_
  rintro r rfl
  have : (s.size : Int)≤60:=by omega
  rw [List.drop_zero]
  simp [fA,this]
theorem aMp (hs : s.size≤2097152) : ∀ (j i : Nat),s.data.toList.length - i=j→i≤s.data.toList.length→
 Ok (λr=>r = [.bool (decide ((s.size : Int)≤60)&&(s.data.toList.drop i).all chB)]) (vE (.str s) (.I s.size) (.I i)):=by
 have hsz : s.size=s.data.toList.length:=by rw [Array.length_toList];rfl
 intro j
 induction j with
 | zero=>
   intro i h1 h2
   have : i=s.data.toList.length:=by omega
   rw [aBl]
   refine aO (λh=>by omega) (λ_=>gK (jM (aA ?_)))
   rw [this,List.drop_length]
   simp
 | succ j ih=>
   intro i h1 h2
   have hi : i<s.data.toList.length:=by omega
   rw [aBl,aCm hi]
   refine aO (λ_=>?_) (λh=>by omega)
   refine aJp hi (aO (λh=>aA (by rw [aW8 h];simp)) (λh3=>?_))
   refine aJp hi (iU (λh=>aA (by rw [aW9 h];simp)) (λh4=>?_))
   refine aJp hi (aJ (λh=>aA (by rw [aXa h];simp)) (λh5=>?_))
   refine bS ((ih (i+1) (by omega) (by omega)).mono ?_)
   rintro r rfl
   have : chB s.data.toList[i]=true:=by unfold chB;rw [decide_eq_false h3,decide_eq_false h4,decide_eq_false h5];rfl
   rw [this,Bool.true_and]
theorem aFy (hs : s.size≤2097152) : Ok (λr=>r = [.bool (fA s)]) (uL (.str s)):=by
 rw [aMa]
 refine gK ((aMp hs _ 0 rfl (by omega)).mono ?_)
 rintro r rfl
 rw [List.drop_zero]
 rfl
variable {i f : Nat} {x : eC} {m : fO} {caps : R} {xs : List eC}
theorem aU2 {ts : List ByteArray} {fs : List eJ} (ht : ts.length≤2097152) (hf : fs.length≤2097152) (hi : i<fs.length) (hlc : 0≤fs[i].lc∧fs[i].lc≤12) (hc : fs[i].code.length≤1000) :
 Ok (λr=>r = [.bool (eI ts.length fs.length fs[i].lc fs[i].code.length x.o x.a)]) (aGF (.agg [.lst (ts.map PV.str),.lst (fs.map eJ.pv)]) (.I i) x.pv):=by
 rw [aNd]
 refine dY (dY ?_)
 refine aF (dS (fP (cD ?_)))
 have hb : mA (i : Int) 0 ((fs.length : Int) - 1)=true:=by
  simp only [mA,Bool.and_eq_true,decide_eq_true_eq]
  omega
 rw [hb]
 refine bP ?_
 refine aJ (λh=>fP (aA (by simp [hd,eI,h]))) (λh1=>?_)
 refine aJ (λh=>fP (aA (by simp [hd,eI,h]))) (λh2=>?_)
 refine aJ (λh=>aF (dS (fP (aA (by simp [hd,eI,h]))))) (λh3=>?_)
 refine aJ (λh=>aF (dS (fP (aA (by simp [hd,eI,h]))))) (λh5=>?_)
 refine aJ (λh=>aF (dS (fP (aA (by simp [hd,eI,h]))))) (λh24=>?_)
 refine aJ (λh=>aQ hi (λ_=>rfl) (aL rfl (dS (fP (aA (by simp [hd,eI,h])))))) (λh6=>?_)
 refine aJ (λh=>aQ hi (λ_=>rfl) (aL rfl (dS (fP (aA (by simp [hd,eI,h])))))) (λh7=>?_)
 refine aJ (λh=>aQ hi (λ_=>rfl) (aL rfl (aF (dS (fP (aA (by simp [hd,eI,h]))))))) (λh17=>?_)
 refine aJ (λh=>aQ hi (λ_=>rfl) (aL rfl (aF (dS (fP (aA (by simp [hd,eI,h]))))))) (λh18=>?_)
 refine aJ (λh=>aQ hi (λ_=>rfl) (aL rfl (aF (dS (fP (aA (by simp [hd,eI,h]))))))) (λh19=>?_)
 refine aJ (λh=>fP (aA (by simp [hd,eI,h]))) (λh20=>?_)
 refine aJ (λh=>fP (aA (by simp [hd,eI,h]))) (λh21=>?_)
 refine aJ (λh=>fP (aA (by simp [hd,eI,h]))) (λh22=>?_)
 refine aJ (λh=>fP (aA (by simp [hd,eI,h]))) (λh23=>?_)
 refine fP (aZ (λhb=>cL (aA (by simp [hd,eI,hb,h1,h2,h3,h5,h24,h6,h7,h17,h18,h19,h20,h21,h22,h23]))) (λhb=>aA (by simp [hd,eI,hb,h1,h2,h3,h5,h24,h6,h7,h17,h18,h19,h20,h21,h22,h23])))
theorem aU3 {ts : List ByteArray} {fs : List eJ} {f : eJ} (ht : ts.length≤2097152) (hf : fs.length≤2097152) (hlc : 0≤f.lc∧f.lc≤12) (hc : f.code.length≤1000) :
 Ok (λr=>r = [.bool (eI ts.length fs.length f.lc f.code.length x.o x.a)]) (aGE (.agg [.lst (ts.map PV.str),.lst (fs.map eJ.pv)]) f.pv x.pv):=by
 rw [aNa]
 refine dY (cB (dY ?_))
 refine aJ (λh=>aU1 (aA (by simp [hd,eI,h]))) (λh1=>?_)
 refine aJ (λh=>gB (aA (by simp [hd,eI,h]))) (λh2=>?_)
 refine aJ (λh=>aF (hU (by omega) (aA (by simp [hd,eI,h])))) (λh3=>?_)
 refine aJ (λh=>aF (hU (by omega) (aA (by simp [hd,eI,h])))) (λh5=>?_)
 refine aJ (λh=>aF (hU (by omega) (aA (by simp [hd,eI,h])))) (λh24=>?_)
 refine aJ (λh=>hU (by omega) (aA (by simp [hd,eI,h]))) (λh6=>?_)
 refine aJ (λh=>hU (by omega) (aA (by simp [hd,eI,h]))) (λh7=>?_)
 refine aJ (λh=>aF (hU (by omega) (aA (by simp [hd,eI,h])))) (λh17=>?_)
 refine aJ (λh=>aF (hU (by omega) (aA (by simp [hd,eI,h])))) (λh18=>?_)
 refine aJ (λh=>aF (hU (by omega) (aA (by simp [hd,eI,h])))) (λh19=>?_)
 refine aJ (λh=>gB (aA (by simp [hd,eI,h]))) (λh20=>?_)
 refine aJ (λh=>hU (by omega) (aA (by simp [hd,eI,h]))) (λh21=>?_)
 refine aJ (λh=>hU (by omega) (aA (by simp [hd,eI,h]))) (λh22=>?_)
 refine aJ (λh=>gB (aA (by simp [hd,eI,h]))) (λh23=>?_)
 refine gB (aZ (λhb=>cL (aA (by simp [hd,eI,hb,h1,h2,h3,h5,h24,h6,h7,h17,h18,h19,h20,h21,h22,h23]))) (λhb=>aA (by simp [hd,eI,hb,h1,h2,h3,h5,h24,h6,h7,h17,h18,h19,h20,h21,h22,h23])))
section
variable {ts : List ByteArray} {fs : List eJ} (ht : ts.length ≤ 2097152) (hf : fs.length ≤ 2097152)
include ht hf
theorem aO6 (hi : i<fs.length) (hlc : 0≤fs[i].lc∧fs[i].lc≤12) (hc : fs[i].code.length≤1000) {b : Bool} (hb : Ok (λr=>r = [.bool b]) (oX (.I ((i : Int)+1)) (.lst (ts.map PV.str)) (.lst (fs.map eJ.pv)))) :
 ∀ (j n : Nat),fs[i].code.length - n=j→n≤fs[i].code.length→
 Ok (λr=>r = [.bool ((fs[i].code.drop n).all (λx=>eI ts.length fs.length fs[i].lc fs[i].code.length x.o x.a)&&b)])
  (qK (.I i) (.I n) (.lst (ts.map PV.str)) (.lst (fs.map eJ.pv)) (.I fs[i].p) (.I fs[i].lc) (.lst (fs[i].code.map eC.pv))):=by
 intro j
 induction j with
 | zero=>
   intro n h1 h2
   have : n=fs[i].code.length:=by omega
   rw [xY]
   refine aF (aO (λh=>by omega) (λ_=>bS ?_))
   rw [this,List.drop_length]
   exact hb
 | succ j ih=>
   intro n h1 h2
   have hn : n<fs[i].code.length:=by omega
   rw [xY,aCm hn]
   refine aF (aO (λ_=>?_) (λh=>by omega))
   refine aQ hn (λ_=>rfl) (aI (aU2 ht hf hi hlc hc) (λr hr=>?_))
   subst hr
   refine cD (aZ (λh=>aA ?_) (λh=>?_))
   ·have : eI ts.length fs.length fs[i].lc fs[i].code.length fs[i].code[n].o fs[i].code[n].a=false:=by simpa using h
    rw [this];rfl
   ·have : eI ts.length fs.length fs[i].lc fs[i].code.length fs[i].code[n].o fs[i].code[n].a=true:=by simpa using h
    rw [this,Bool.true_and]
    exact bS (ih (n+1) (by omega) (by omega))
theorem aO7 : ∀ (j i : Nat),fs.length - i=j→i≤fs.length→
 Ok (λr=>r = [.bool ((fs.drop i).all (aAM ts.length fs.length))]) (oX (.I i) (.lst (ts.map PV.str)) (.lst (fs.map eJ.pv))):=by
 intro j
 induction j with
 | zero=>
   intro i h1 h2
   have : i=fs.length:=by omega
   rw [yY]
   refine aF (aO (λh=>by omega) (λ_=>aA ?_))
   rw [this,List.drop_length];rfl
 | succ j ih=>
   intro i h1 h2
   have hi : i<fs.length:=by omega
   rw [yY,aCm hi]
   refine aF (aO (λ_=>?_) (λh=>by omega))
   refine aQ hi (λ_=>rfl) (cB ?_)
   refine fP (cD (aZ (λh=>aA ?_) (λh1'=>?_)))
   ·have : mA fs[i].p 0 6=false:=by simpa using h
    simp [aAM,this]
   refine fP (cD (aZ (λh=>aA ?_) (λh2'=>?_)))
   ·have : mA fs[i].lc fs[i].p 12=false:=by simpa using h
    simp [aAM,this]
   refine aF (fP (cD (aZ (λh=>aA ?_) (λh3'=>?_))))
   ·have : mA (fs[i].code.length : Int) 1 120=false:=by simpa using h
    simp [aAM,this]
   have g1 : mA fs[i].p 0 6=true:=by simpa using h1'
   have g2 : mA fs[i].lc fs[i].p 12=true:=by simpa using h2'
   have g3 : mA (fs[i].code.length : Int) 1 120=true:=by simpa using h3'
   have q1:=g1
   have q2:=g2
   have q3:=g3
   simp only [mA,Bool.and_eq_true,decide_eq_true_eq] at q1 q2 q3
   refine (aO6 ht hf hi (by omega) (by omega) (ih (i+1) (by omega) (by omega)) _ 0 rfl (by omega)).mono ?_
   rintro r rfl
   rw [List.drop_zero]
   simp only [aAM,g1,g2,g3,Bool.true_and]
theorem aNs (hs : ∀ t∈ts,t.size≤2097152) : ∀ (j i : Nat),ts.length - i=j→i≤ts.length→
 Ok (λr=>r = [.bool ((ts.drop i).all fA&&fs.all (aAM ts.length fs.length))]) (rR (.I i) (.lst (ts.map PV.str)) (.lst (fs.map eJ.pv))):=by
 intro j
 induction j with
 | zero=>
   intro i h1 h2
   have : i=ts.length:=by omega
   rw [yX]
   refine aF (aO (λh=>by omega) (λ_=>?_))
   rw [this,List.drop_length]
   exact aO7 ht hf _ 0 rfl (by omega)
 | succ j ih=>
   intro i h1 h2
   have hi : i<ts.length:=by omega
   rw [yX,aCm hi]
   refine aF (aO (λ_=>?_) (λh=>by omega))
   refine aQ hi (λ_=>rfl) (aKV (hs _ (List.getElem_mem _)) (cD (aZ (λh=>aA ?_) (λh=>?_))))
   ·have : fA ts[i]=false:=by simpa using h
    rw [this];rfl
   ·have : fA ts[i]=true:=by simpa using h
    rw [this,Bool.true_and]
    exact bS (ih (i+1) (by omega) (by omega))
end
theorem aNt (h : m.sized) : Ok (λr=>r = [.bool m.okB]) (aBJ m.pv):=by
 obtain ⟨ht,hf,hs,_⟩:=h
 rw [aJe]
 refine dY (aF (fP (cD (aZ (λh=>aA ?_) (λh1=>?_)))))
 ·have : mA (m.funcs.length : Int) 1 12=false:=by simpa using h
  simp [fO.okB,this]
 refine aF (iU (λh=>aA ?_) (λh2=>?_))
 ·have : ¬ ((m.texts.length : Int)≤20):=by omega
  simp only [fO.okB,decide_eq_false this,Bool.false_and,Bool.and_false]
 have g1 : mA (m.funcs.length : Int) 1 12=true:=by simpa using h1
 have g2 : (m.texts.length : Int)≤20:=by omega
 refine (aNs ht hf hs _ 0 rfl (by omega)).mono ?_
 rintro r rfl
 rw [List.drop_zero]
 simp only [fO.okB,g1,decide_eq_true g2,Bool.true_and]
section
variable {P : R → Prop} {k : PV → OR} {kr : R → OR}
theorem aTK (hx : xs.length≤1000000000) (p : eC→Bool) (hp : ∀ x∈xs,Ok (λr=>r = [.bool (p x)]) (aU f ([x.pv]++caps))) : ∀ (j i : Nat),xs.length - i=j→i≤xs.length→
 Ok (λr=>∃ n : Int,r = [.I n]∧(0≤n↔(xs.drop i).any p=true)) (fC (.lst (xs.map eC.pv)) (.fn f caps) (.I xs.length) (.I i)):=by
 intro j
 induction j with
 | zero=>
   intro i h1 h2
   have : i=xs.length:=by omega
   rw [jK]
   refine aO (λh=>by omega) (λ_=>aA ⟨-1,rfl,?_⟩)
   rw [this,List.drop_length]
   simp
 | succ j ih=>
   intro i h1 h2
   have hi : i<xs.length:=by omega
   rw [jK]
   refine aO (λ_=>?_) (λh=>by omega)
   refine aQ hi (λ_=>rfl) (sL rfl (hp _ (List.getElem_mem _)) (λr hr=>?_))
   subst hr
   rw [List.drop_eq_getElem_cons hi,List.any_cons]
   refine aZ (λh=>aA ⟨i,rfl,?_⟩) (λh=>?_)
   ·rw [h];simp
   ·refine bS ((ih (i+1) (by omega) (by omega)).mono ?_)
    rintro r ⟨n,hr,hn⟩
    exact ⟨n,hr,by rw [h,Bool.false_or];exact hn⟩
theorem aTL (hx : xs.length≤1000000000) (p : eC→Bool) (hp : ∀ x∈xs,Ok (λr=>r = [.bool (p x)]) (aU f ([x.pv]++caps))) (h : Ok P (kr [.bool (xs.any p)])) :
 Ok P (bd (gQ (.lst (xs.map eC.pv)) (.fn f caps)) kr):=by
 refine aI (Q:=λr=>r = [.bool (xs.any p)]) ?_ (λr hr=>by rw [hr];exact h)
 rw [qE]
 refine aI (Q:=λr=>∃ n : Int,r = [.I n]∧(0≤n↔xs.any p=true)) ?_ ?_
 ·rw [rX]
  refine aF ?_
  exact aTK hx p hp _ 0 rfl (by omega)
 ·rintro r ⟨n,rfl,hn⟩
  refine jN (aA ?_)
  have : decide (0≤n)=xs.any p:=by
   by_cases h : 0≤n
   ·rw [decide_eq_true h,hn.1 h]
   ·rw [decide_eq_false h]
    cases h2 : xs.any p with
    | false=>rfl
    | true=>exact absurd (hn.2 h2) h
  rw [this]
theorem aTM {xs : List ByteArray} (hx : xs.length≤1000000000) (p : ByteArray→Bool) (hp : ∀ x∈xs,Ok (λr=>r = [.bool (p x)]) (aU f ([.str x]++caps))) : ∀ (j i : Nat),xs.length - i=j→i≤xs.length→
 Ok (λr=>∃ n : Int,r = [.I n]∧(0≤n↔(xs.drop i).any p=true)) (fU (.lst (xs.map PV.str)) (.fn f caps) (.I xs.length) (.I i)):=by
 intro j
 induction j with
 | zero=>
   intro i h1 h2
   have : i=xs.length:=by omega
   rw [kU]
   refine aO (λh=>by omega) (λ_=>aA ⟨-1,rfl,?_⟩)
   rw [this,List.drop_length]
   simp
 | succ j ih=>
   intro i h1 h2
   have hi : i<xs.length:=by omega
   rw [kU]
   refine aO (λ_=>?_) (λh=>by omega)
   refine aQ hi (λ_=>rfl) (sL rfl (hp _ (List.getElem_mem _)) (λr hr=>?_))
   subst hr
   rw [List.drop_eq_getElem_cons hi,List.any_cons]
   refine aZ (λh=>aA ⟨i,rfl,?_⟩) (λh=>?_)
   ·rw [h];simp
   ·refine bS ((ih (i+1) (by omega) (by omega)).mono ?_)
    rintro r ⟨n,hr,hn⟩
    exact ⟨n,hr,by rw [h,Bool.false_or];exact hn⟩
theorem aJq {xs : List ByteArray} (hx : xs.length≤1000000000) (p : ByteArray→Bool) (hp : ∀ x∈xs,Ok (λr=>r = [.bool (p x)]) (aU f ([.str x]++caps))) (h : Ok P (kr [.bool (xs.any p)])) :
 Ok P (bd (fT (.lst (xs.map PV.str)) (.fn f caps)) kr):=by
 refine aI (Q:=λr=>r = [.bool (xs.any p)]) ?_ (λr hr=>by rw [hr];exact h)
 rw [sG]
 refine aI (Q:=λr=>∃ n : Int,r = [.I n]∧(0≤n↔xs.any p=true)) ?_ ?_
 ·rw [uS]
  refine aF ?_
  exact aTM hx p hp _ 0 rfl (by omega)
 ·rintro r ⟨n,rfl,hn⟩
  refine jN (aA ?_)
  have : decide (0≤n)=xs.any p:=by
   by_cases h : 0≤n
   ·rw [decide_eq_true h,hn.1 h]
   ·rw [decide_eq_false h]
    cases h2 : xs.any p with
    | false=>rfl
    | true=>exact absurd (hn.2 h2) h
  rw [this]
end
theorem aO8 {α : Type} (p : α→Bool) : ∀ (xs : List α),xs.any (λx=>!p x) = !xs.all p
 | []=>rfl
 | x::r=>by rw [List.any_cons,List.all_cons,aO8 p r,Bool.not_and]
section
variable {ts : List ByteArray} {fs : List eJ} (ht : ts.length ≤ 2097152) (hf : fs.length ≤ 2097152)
include ht hf
theorem aO9 : ∀ (j i : Nat),fs.length - i=j→i≤fs.length→
 Ok (λr=>r = [.bool ((fs.drop i).all (aAM ts.length fs.length))]) (rP (.lst (fs.map eJ.pv)) (.I fs.length) (.I i) (.lst (ts.map PV.str)) (.lst (fs.map eJ.pv))):=by
 intro j
 induction j with
 | zero=>
   intro i h1 h2
   have : i=fs.length:=by omega
   rw [yW]
   refine aO (λh=>by omega) (λ_=>aA ?_)
   rw [this,List.drop_length];rfl
 | succ j ih=>
   intro i h1 h2
   have hi : i<fs.length:=by omega
   rw [yW,aCm hi]
   refine aO (λ_=>?_) (λh=>by omega)
   refine aQ hi (λ_=>rfl) (cB ?_)
   refine gB (cD (aZ (λh=>aA ?_) (λh1'=>?_)))
   ·have : mA fs[i].p 0 6=false:=by simpa using h
    simp [aAM,this]
   refine gB (cD (aZ (λh=>aA ?_) (λh2'=>?_)))
   ·have : mA fs[i].lc fs[i].p 12=false:=by simpa using h
    simp [aAM,this]
   refine aF (gB (cD (aZ (λh=>aA ?_) (λh3'=>?_))))
   ·have : mA (fs[i].code.length : Int) 1 120=false:=by simpa using h
    simp [aAM,this]
   have g1 : mA fs[i].p 0 6=true:=by simpa using h1'
   have g2 : mA fs[i].lc fs[i].p 12=true:=by simpa using h2'
   have g3 : mA (fs[i].code.length : Int) 1 120=true:=by simpa using h3'
   have q1:=g1
   have q2:=g2
   have q3:=g3
   simp only [mA,Bool.and_eq_true,decide_eq_true_eq] at q1 q2 q3
   refine aTL (by omega) (λx=>!eI ts.length fs.length fs[i].lc fs[i].code.length x.o x.a) (λx _=>?_) ?_
   ·show Ok _ (aDw _ _ _)
    rw [aGU]
    refine dY (sM rfl (sM rfl (sM rfl (sM rfl (sM rfl ?_)))))
    refine aI (aU3 (f:=fs[i]) (x:=x) ht hf (by omega) (by omega)) (λr hr=>?_)
    subst hr
    exact cD (aA rfl)
   ·rw [aO8 (λx : eC=>eI ts.length fs.length fs[i].lc fs[i].code.length x.o x.a)]
    refine eF rfl (aZ (λh=>aA ?_) (λh=>?_))
    ·have : fs[i].code.all (λx=>eI ts.length fs.length fs[i].lc fs[i].code.length x.o x.a)=false:=by simpa using h
     simp only [aAM,this,Bool.and_false,Bool.false_and]
    ·have g4 : fs[i].code.all (λx=>eI ts.length fs.length fs[i].lc fs[i].code.length x.o x.a)=true:=by
      rw [Bool.not_eq_false'] at h
      exact h
     refine bS ((ih (i+1) (by omega) (by omega)).mono ?_)
     rintro r rfl
     simp only [aAM,g1,g2,g3,g4,Bool.true_and]
end
theorem aNu (h : m.sized) : Ok (λr=>r = [.bool m.okB]) (aBH m.pv):=by
 obtain ⟨ht,hf,hs,_⟩:=h
 rw [aJb]
 refine dY (aF (gB (cD (aZ (λh=>aA ?_) (λh1=>?_)))))
 ·have : mA (m.funcs.length : Int) 1 12=false:=by simpa using h
  simp [fO.okB,this]
 refine aF (iU (λh=>aA ?_) (λh2=>?_))
 ·have : ¬ ((m.texts.length : Int)≤20):=by omega
  simp only [fO.okB,decide_eq_false this,Bool.false_and,Bool.and_false]
 have g1 : mA (m.funcs.length : Int) 1 12=true:=by simpa using h1
 have g2 : (m.texts.length : Int)≤20:=by omega
 refine aJq (by omega) (λs=>!fA s) (λx hx=>?_) ?_
 ·show Ok _ (aDv _)
  rw [aGT]
  refine aI (aFy (hs x hx)) (λr hr=>?_)
  subst hr
  exact cD (aA rfl)
 ·rw [aO8 fA]
  refine aZ (λh=>aA ?_) (λh=>?_)
  ·have : m.texts.all fA=false:=by rw [Bool.not_eq_true'] at h;exact h
   simp only [fO.okB,this,Bool.and_false,Bool.false_and]
  ·have g3 : m.texts.all fA=true:=by rw [Bool.not_eq_false'] at h;exact h
   refine aF ((aO9 ht hf _ 0 rfl (by omega)).mono ?_)
   rintro r rfl
   rw [List.drop_zero]
   simp only [fO.okB,g1,decide_eq_true g2,g3,Bool.true_and]
variable {n i : Nat} {α : Type} {kk : IntKind}
theorem fQ {F : Nat→OR} {P : Nat→R→Prop} (he : Ok (P n) (F n)) (hs : ∀ i,i<n→Ok (P (i+1)) (F (i+1))→Ok (P i) (F i)) : ∀ i,i≤n→Ok (P i) (F i):=by
 have key : ∀ j i,n - i=j→i≤n→Ok (P i) (F i):=by
  intro j
  induction j with
  | zero=>intro i h1 h2;have : i=n:=by omega
          subst this;exact he
  | succ j ih=>intro i h1 h2;exact hs i (by omega) (ih (i+1) (by omega) (by omega))
 exact λi hi=>key _ i rfl hi
theorem aHc {σ : Type} {F : Nat→σ→OR} {P : R→Prop} (I : Nat→σ→Prop) (he : ∀ s,I n s→Ok P (F n s)) (hs : ∀ i s,i<n→I i s→(∀ s',I (i+1) s'→Ok P (F (i+1) s'))→Ok P (F i s)) : ∀ i s,i≤n→I i s→Ok P (F i s):=by
 have key : ∀ j i s,n - i=j→i≤n→I i s→Ok P (F i s):=by
  intro j
  induction j with
  | zero=>intro i s h1 h2 hI;have : i=n:=by omega
          subst this;exact he s hI
  | succ j ih=>intro i s h1 h2 hI;exact hs i s (by omega) hI (λs' hI'=>ih (i+1) s' (by omega) (by omega) hI')
 exact λi s hi hI=>key _ i s rfl hi hI
theorem aIf (n : Nat) (p : Nat→Option α) : (List.range' n (n - n)).findSome? p=none:=by rw [Nat.sub_self];rfl
theorem aFz (hi : i<n) (p : Nat→Option α) : (List.range' i (n - i)).findSome? p=(p i).or ((List.range' (i+1) (n - (i+1))).findSome? p):=by
 have : n - i=(n - (i+1))+1:=by omega
 rw [this,List.range'_succ,List.findSome?_cons]
 cases p i<;>rfl
def fW (l : List Int) : PV:=.lst (l.map PV.I)
section
variable {P : R → Prop} {k : PV → OR} {l : List Int}
theorem gU (h : Ok P (k (.I l.length))) : Ok P (bd (aK (fW l)) k):=aF h
theorem fR (hi : i<l.length) (h : Ok P (k (.I l[i]))) : Ok P (bd (aB 1 false (fW l) (.int kk (i : Int))) k):=aQ hi (λ_=>rfl) h
theorem lK {i : Int} (h0 : 0≤i) (hi : i<l.length) (h : Ok P (k (fW l))) : Ok P (bd (aT (fW l) (.int kk i)) k):=eH h0 (by rw [List.length_map];exact hi) h
theorem aBt {x : Int} (hi : i<l.length) (h : Ok P (k (fW (l.set i x)))) : Ok P (bd (aX 1 false (fW l) (.int kk (i : Int)) (.I x)) k):=by
 refine aD6 (by omega) (by rw [List.length_map];omega) rfl ?_
 rw [Int.toNat_natCast,← List.map_set]
 exact h
theorem yD {ys : List Int} {e : Nat} (hb : (l.length+ys.length)*e≤140737488355328) (h : Ok P (k (fW (l++ys)))) : Ok P (bd (aN 1 e false (fW l) (.lst (ys.map PV.I))) k):=by
 refine iT (by simpa using hb) (λx hx=>?_) ?_
 ·obtain ⟨a,_,rfl⟩:=List.mem_map.1 hx;rfl
 ·rw [← List.map_append];exact h
theorem yE {i : Int} (h0 : 0≤i) (h1 : i<l.length) (h : ∀ x,l[i.toNat]? = some x→Ok P (k (.I x))) : Ok P (bd (aB 1 false (fW l) (.int kk i)) k):=by
 refine aAk h0 (by rw [List.length_map];exact h1) (λx hx=>?_) (λx _ hx=>?_)
 ·obtain ⟨a,_,rfl⟩:=List.mem_map.1 hx;rfl
 ·rw [List.getElem?_map] at hx
  cases hl : l[i.toNat]? with
  | none=>rw [hl] at hx;cases hx
  | some y=>rw [hl] at hx;cases hx;exact h y hl
end
variable {a b n lo hi pc : Int} {P : R → Prop} {k : PV → OR}
def iL (fs : List eJ) (i : Int) : Int:=(fs[i.toNat]?.map eJ.p).getD 0
def bU (fs : List eJ) (x : eC) : Int × Int:=
 if (1≤x.o∧x.o≤6)∨x.o=20 then (0,1)
 else if x.o=7∨x.o=9∨x.o=18∨x.o=19∨x.o=25∨x.o=26 then (1,0)
 else if x.o=8 then (1,2)
 else if x.o=10 then (2,2)
 else if 11≤x.o∧x.o≤15 then (2,1)
 else if x.o=16∨x.o=21 then (1,1)
 else if x.o=22 then (2,0)
 else if x.o=23∧0≤x.a∧x.a≤6 then (x.a+1,1)
 else if x.o=24∧0≤x.a∧x.a<fs.length then (iL fs x.a,1)
 else (0,0)
def aQw (fs : List eJ) (x : eC) : R:=[.tup [.I (bU fs x).1,.I (bU fs x).2]]
theorem aEW {fs : List eJ} {x : eC} (h : bU fs x=(a,b)) : [PV.tup [.I a,.I b]]=aQw fs x:=by
 unfold aQw;rw [h]
theorem bT : mA n lo hi=true↔lo≤n∧n≤hi:=by simp [mA]
theorem aIg : mA n lo hi=false↔¬ (lo≤n∧n≤hi):=by rw [← bT];simp
theorem aAN {x y : OR} (h1 : lo≤n∧n≤hi→Ok P x) (h2 : ¬ (lo≤n∧n≤hi)→Ok P y) : Ok P (aV (hd [.bool (mA n lo hi)]) x y):=
 aZ (λh=>h1 (bT.1 h)) (λh=>h2 (aIg.1 h))
section
variable {fs : List eJ} {x : eC} {T : PV} (hf : fs.length ≤ 2097152)
include hf
theorem aR4 {i : Int} (h0 : 0≤i) (h1 : i<fs.length) (h : ∀ lc code,Ok P (k (.agg [.I (iL fs i),lc,code]))) : Ok P (bd (aB 3 true (.lst (fs.map eJ.pv)) (.I i)) k):=by
 obtain ⟨n,rfl⟩:=Int.eq_ofNat_of_zero_le h0
 have hn : n<fs.length:=by omega
 refine aQ hn (λ_=>rfl) ?_
 have : iL fs (n : Int)=fs[n].p:=by simp [iL,List.getElem?_eq_getElem hn]
 rw [← show PV.agg [.I (iL fs (n : Int)),.I fs[n].lc,.lst (fs[n].code.map eC.pv)]=fs[n].pv by rw [this];rfl]
 exact h _ _
set_option maxRecDepth 100000 in
set_option maxHeartbeats 4000000 in
theorem aN1 : Ok (λr=>r=aQw fs x) (aBe (.agg [T,.lst (fs.map eJ.pv)]) x.pv):=by
 rw [aMd]
 refine dY (dY ?_)
 repeat' (first
  | refine aJ (λ_=>?_) (λ_=>?_)
  | refine fP (aAN (λ_=>?_) (λ_=>?_))
  | refine aF (dS ?_)
  | refine bS ?_
  | refine aR4 hf (by omega) (by omega) (λ_ _=>?_)
  | refine aL rfl ?_
  | exact aA (aEW (by
   unfold bU
   repeat (first | rfl | rw [gH] | rw [eV]))))
set_option maxRecDepth 100000 in
set_option maxHeartbeats 4000000 in
theorem aN2 : Ok (λr=>r=aQw fs x) (aBd (.agg [T,.lst (fs.map eJ.pv)]) x.pv):=by
 have c24 : ¬ (x.o=23∧0≤x.a∧x.a≤6)→¬ ((1≤x.o∧x.o≤16)∨(18≤x.o∧x.o≤22))→¬ (x.o=25∨x.o=26)→Ok (λr=>r=aQw fs x) (tE T (.lst (fs.map eJ.pv)) (.I x.o) (.I x.a)):=by
  intro h1 h2 h3
  rw [aGV]
  refine aJ (λ_=>?_) (λ_=>?_)
  ·refine aF (hU (by omega) (aAN (λ_=>?_) (λ_=>?_)))
   ·rw [aGW]
    refine aR4 hf (by omega) (by omega) (λ_ _=>aL rfl ?_)
    exact aA (aEW (by
     unfold bU
     repeat (first | rfl | rw [gH] | rw [eV])))
   ·exact aA (aEW (by
    unfold bU
    repeat (first | rfl | rw [gH] | rw [eV])))
  ·exact aA (aEW (by
   unfold bU
   repeat (first | rfl | rw [gH] | rw [eV])))
 rw [aL9]
 refine dY (dY ?_)
 repeat' (first
  | exact c24 (by omega) (by omega) (by omega)
  | refine aJ (λ_=>?_) (λ_=>?_)
  | refine gB (aAN (λ_=>?_) (λ_=>?_))
  | refine bS ?_
  | exact aA (aEW (by
   unfold bU
   repeat (first | rfl | rw [gH] | rw [eV]))))
end
def kI (x : eC) (pc : Int) : List Int:=(if x.o≠17∧x.o≠25 then [pc+1] else [])++(if x.o=17∨x.o=18∨x.o=19 then [x.a] else [])
theorem aSO (h : Ok P (k (fW [a]))) : Ok P (bd (aN 1 8 false (.lst []) (.lst [.I a])) k):=
 yD (l:=[]) (ys:=[a]) (by simp) h
theorem aSP (h : Ok P (k (fW [a,b]))) : Ok P (bd (aN 1 8 false (.lst []) (.lst [.I a,.I b])) k):=
 yD (l:=[]) (ys:=[a,b]) (by simp) h
theorem aXv (h : Ok P (k (fW [a,b]))) : Ok P (bd (aN 1 8 false (fW [a]) (fW [b])) k):=
 yD (l:=[a]) (ys:=[b]) (by simp) h
theorem aXw (h : Ok P (k (fW [b]))) : Ok P (bd (aN 1 8 false (.lst []) (fW [b])) k):=
 yD (l:=[]) (ys:=[b]) (by simp) h
theorem aN3 {x : eC} (hp : 0≤pc∧pc≤1000000000) : Ok (λr=>r = [fW (kI x pc)]) (zJ x.pv (.I pc)):=by
 rw [aKr]
 refine dY ?_
 repeat' (first
  | (rw [aGY];refine bS ?_)
  | rw [aGZ]
  | rw [aG0]
  | refine aSO ?_
  | refine aXv ?_
  | refine aXw ?_
  | refine aJ (λ_=>?_) (λ_=>?_)
  | refine dD (λ_=>?_) (λ_=>?_)
  | (exfalso;omega)
  | exact aA (congrArg (λl=>[fW l]) (by unfold kI;repeat (first | rfl | rw [gH] | rw [eV])))
  | exact aA (congrArg (λl=>[fW l]) (a₁:=[]) (by unfold kI;repeat (first | rfl | rw [gH] | rw [eV]))))
theorem aN4 {x : eC} (hp : 0≤pc∧pc≤1000000000) : Ok (λr=>r = [fW (kI x pc)]) (zH x.pv (.I pc)):=by
 rw [aKl]
 refine dY ?_
 repeat' (first
  | refine aSO ?_
  | refine aSP ?_
  | refine bS ?_
  | refine aJ (λ_=>?_) (λ_=>?_)
  | exact aA (congrArg (λl=>[fW l]) (by unfold kI;repeat (first | rfl | rw [gH] | rw [eV])))
  | exact aA (congrArg (λl=>[fW l]) (a₁:=[]) (by unfold kI;repeat (first | rfl | rw [gH] | rw [eV]))))
end
noncomputable section
open Go Go.IntWalk
attribute [local irreducible] bd aV aE aH bE aS PV.cell PV.sub aB aK bV dG dL dQ cQ aD dM dB bR bA cG aN aX aC bM bC bD bK aW PV.deref bG cA aT dJ cJ cK dO PV.apply bL bO fK cC
variable {n o : Int}
structure eR where
 k : Int
 n : Int
 s : ByteArray
def eR.pv (v : eR) : PV:=.agg [.I v.k,.I v.n,.str v.s]
def eQ : eR:=⟨0,0,bs []⟩
def zR (n : Int) : eR:=⟨1,n,bs []⟩
def rJ (b : Bool) : eR:=⟨2,if b then 1 else 0,bs []⟩
def aDD (s : ByteArray) : eR:=⟨3,0,s⟩
def aTN (n : Int) : eR:=⟨4,n,bs []⟩
def aPa (n : Int) : eR:=⟨5,n,bs []⟩
def eM (n : Int) : Bool:=mA n (-1000000000) 1000000000
def kV (a b : ByteArray) : Bool:=a.toList==b.toList
theorem aMq (a : ByteArray) : kV a a=true:=by simp [kV]
def I64 (n : Int) : Prop:=-9223372036854775808≤n∧n≤9223372036854775807
section
variable {P : R → Prop} {k : PV → OR} {kr : R → OR} {a b : ByteArray}
theorem aWp (h : Ok P (k (.bool (!kV a b)))) : Ok P (bd (aD .neq (.str a) (.str b)) k):=eZ _ (by simp only [aD,xO];rfl) h
theorem zS (h : Ok P (k (.bool (kV a b)))) : Ok P (bd (aD .eql (.str a) (.str b)) k):=eZ _ (by simp only [aD,xO];rfl) h
theorem aSQ (h : Ok P (k (.bool (lM a.toList b.toList)))) : Ok P (bd (aD .lss (.str a) (.str b)) k):=eZ _ (by simp only [aD,xO]) h
theorem tL (hb : a.size+b.size≤4611686018427387904) (h : Ok P (k (.str (a++b)))) : Ok P (bd (aD .add (.str a) (.str b)) k):=eZ _ (by simp only [aD,xO];rw [gH]) h
theorem aIh (h : Ok P (kr [.bool (eM n)])) : Ok P (bd (lJ (.I n)) kr):=by
 refine aI (Q:=λr=>r = [.bool (eM n)]) ?_ (λr hr=>by rw [hr];exact h)
 rw [aMc]
 exact fP (aA rfl)
theorem aCn (h : Ok P (kr [(zR n).pv])) : Ok P (bd (jD (.I n)) kr):=by
 refine aI (Q:=λr=>r = [(zR n).pv]) ?_ (λr hr=>by rw [hr];exact h)
 rw [aMe]
 exact bJ rfl (aA rfl)
theorem uO {c : Bool} (h : Ok P (kr [(rJ c).pv])) : Ok P (bd (jU (.bool c)) kr):=by
 refine aI (Q:=λr=>r = [(rJ c).pv]) ?_ (λr hr=>by rw [hr];exact h)
 rw [aKv]
 exact aZ (λh=>aA (by rw [h];rfl)) (λh=>aA (by rw [h];rfl))
end
def cW (nf recs : Int) (v : eR) : Bool:=
 if v.k≠3∧kV v.s (bs [])=false then false
 else if v.k=0 then decide (v.n=0)
 else if v.k=1 then eM v.n
 else if v.k=2 then mA v.n 0 1
 else if v.k=3 then decide (v.n=0)&&fA v.s
 else if v.k=4 then decide (0≤v.n)&&decide (v.n<recs)
 else if v.k=5 then mA v.n 0 (nf - 1)
 else false
theorem aAO {fs : List eJ} {T : PV} {v : eR} {recs : Int} (hf : fs.length≤2097152) (hs : v.s.size≤2097152) : Ok (λr=>r = [.bool (cW fs.length recs v)]) (aAx (.agg [T,.lst (fs.map eJ.pv)]) v.pv (.I recs)):=by
 rw [aNc]
 refine dY (cB ?_)
 refine dD (λh3=>?_) (λh3=>?_)
 ·refine aWp (aZ (λh=>aA ?_) (λh=>?_))
  ·have h : kV v.s (bs [])=false:=by simpa using h
   unfold cW
   rw [if_pos ⟨h3,h⟩]
  have h : kV v.s (bs [])=true:=by simpa using h
  repeat' (first
   | refine aJ (λheq=>?_) (λheq=>?_)
   | refine aCA (λhge=>?_) (λhge=>?_)
   | exact aIh (aA (by unfold cW;rw [if_neg (by rw [h];simp)];repeat (first | rfl | rw [if_pos (by assumption)] | rw [if_neg (by assumption)])))
   | exact fP (aA (by unfold cW;rw [if_neg (by rw [h];simp)];repeat (first | rfl | rw [if_pos (by assumption)] | rw [if_neg (by assumption)])))
   | exact aF (dS (fP (aA (by unfold cW;rw [if_neg (by rw [h];simp)];repeat (first | rfl | rw [if_pos (by assumption)] | rw [if_neg (by assumption)])))))
   | (exfalso;omega)
   | exact cL (aA (by unfold cW;rw [if_neg (by rw [h];simp)];repeat (first | rfl | rw [if_pos (by assumption)] | rw [if_neg (by assumption)])))
   | exact fB (aA (by unfold cW;rw [if_neg (by rw [h];simp)];repeat (first | rfl | rw [decide_eq_true hge,Bool.true_and] | rw [if_pos (by assumption)] | rw [if_neg (by assumption)])))
   | exact aA (by unfold cW;rw [if_neg (by rw [h];simp)];repeat (first | rfl | rw [decide_eq_false hge,Bool.false_and] | rw [if_pos (by assumption)] | rw [if_neg (by assumption)])))
 ·have hk : ¬ (v.k≠3∧kV v.s (bs [])=false):=λh=>h.1 h3
  repeat' (first
   | refine aJ (λheq=>?_) (λheq=>?_)
   | (exfalso;omega)
   | exact aKV hs (aA (by unfold cW;rw [if_neg hk];repeat (first | rfl | rw [if_pos (by assumption)] | rw [eV] | rw [decide_eq_true heq,Bool.true_and])))
   | exact aA (by unfold cW;rw [if_neg hk];repeat (first | rfl | rw [if_pos (by assumption)] | rw [eV] | rw [decide_eq_false heq,Bool.false_and])))
def aC8 (o a b : Int) : Int:=if o=12 then a - b else if o=13 then a*b else a+b
def aDT (o : Int) (a b : eR) : eR × Int:=
 if a.k≠1 then (eQ,1) else if b.k≠1 then (eQ,1) else if eM a.n=false then (eQ,2) else if eM b.n=false then (eQ,2)
 else if eM (aC8 o a.n b.n)=false then (eQ,2) else (zR (aC8 o a.n b.n),0)
def aGh (a b : eR) : eR:=rJ (decide (a.k=b.k)&&(decide (a.n=b.n)&&kV a.s b.s))
def uT (o : Int) (a b : eR) : eR × Int:=
 if o=11 then (if a.k=3∧b.k=3 then (if (60 : Int)<a.s.size+b.s.size then (eQ,3) else (aDD (a.s++b.s),0)) else aDT 11 a b)
 else if o=12 then aDT 12 a b
 else if o=13 then aDT 13 a b
 else if o=14 then (if a.k=3∧b.k=3 then (rJ (lM a.s.toList b.s.toList),0) else if a.k=1∧b.k=1 then (rJ (decide (a.n<b.n)),0) else (eQ,1))
 else (aGh a b,0)
def opR (p : eR × Int) : R:=[.tup [p.1.pv,.I p.2]]
theorem aU4 {a b : Int} (ha : eM a=true) (hb : eM b=true) : -1000000000000000000≤a*b∧a*b≤1000000000000000000:=by
 have ha:=bT.1 ha
 have hb:=bT.1 hb
 have h : (a*b).natAbs≤1000000000*1000000000:=by
  rw [Int.natAbs_mul]
  exact Nat.mul_le_mul (by omega) (by omega)
 omega
theorem aR5 {a b : Int} (ho : o=11∨o=12∨o=13) : Ok (λr=>r=(if eM a=false then [.tup [.I 0,.I 2]] else if eM b=false then [.tup [.I 0,.I 2]]
 else if eM (aC8 o a b)=false then [.tup [.I 0,.I 2]] else [.tup [.I (aC8 o a b),.I 0]])) (aBM (.I o) (.I a) (.I b)):=by
 rw [aJl]
 refine aIh (cD (aZ (λh=>aA ?_) (λh1=>?_)))
 ·rw [if_pos (by simpa using h)]
 have h1 : eM a=true:=by simpa using h1
 rw [if_neg (by rw [h1];simp)]
 refine aIh (cD (aZ (λh=>aA ?_) (λh2=>?_)))
 ·rw [if_pos (by simpa using h)]
 have h2 : eM b=true:=by simpa using h2
 rw [if_neg (by rw [h2];simp)]
 have ga:=bT.1 h1
 have gb:=bT.1 h2
 have gm:=aU4 h1 h2
 have fin : ∀ n : Int,n=aC8 o a b→Ok (λr=>r=(if eM (aC8 o a b)=false then [.tup [.I 0,.I 2]] else [.tup [.I (aC8 o a b),.I 0]]))
  (bd (lJ (.I n)) λr=>bd (dB (hd r)) λv=>aV v (some [.tup [.I 0,.I 2]]) (some [.tup [.I n,.I 0]])):=by
  intro n hn
  subst hn
  refine aIh (cD (aZ (λh=>aA ?_) (λh=>aA ?_)))
  ·rw [if_pos (by simpa using h)]
  ·rw [if_neg (by simpa using h)]
 refine bS (aJ (λh=>dS ?_) (λh12=>aJ (λh=>nW (by omega) ?_) (λh13=>?_)))
 ·exact fin _ (by unfold aC8;rw [if_pos h])
 ·exact fin _ (by unfold aC8;rw [if_neg h12,if_pos h])
 ·exact fin _ (by unfold aC8;rw [if_neg h12,if_neg h13])
theorem aC9 {a b : eR} (ho : o=11∨o=12∨o=13) : Ok (λr=>r=opR (aDT o a b)) (mZ (.I o) a.pv b.pv):=by
 rw [aG6]
 refine cB (cB ?_)
 refine dD (λh=>aA ?_) (λh1=>dD (λh=>aA ?_) (λh2=>?_))
 ·unfold aDT;rw [if_pos h];rfl
 ·unfold aDT;rw [if_neg (by simpa using h1),if_pos h];rfl
 refine aI (aR5 ho) (λr hr=>?_)
 have e : aDT o a b=if eM a.n=false then (eQ,2) else if eM b.n=false then (eQ,2) else if eM (aC8 o a.n b.n)=false then (eQ,2) else (zR (aC8 o a.n b.n),0):=by
  unfold aDT;rw [if_neg (by simpa using h1),if_neg (by simpa using h2)]
 rw [e]
 have trap : ∀ {x : R},x = [.tup [.I 0,.I 2]]→r=x→Ok (λr=>r=opR (eQ,2)) (bd (cA (hd r) 0) λv2185=>bd (cA (hd r) 1) λv2186=>bd (aD .neq v2186 (.I 0)) λv2187=>aV v2187 (some [(.tup [(.agg [(.I 0),(.I 0),(.str (bs []))]),v2186])]) (bd (jD v2185) λr2188=>bd (bE 3 (hd r2188)) λv2189=>bd (PV.cell v2189 0) λv2190=>bd (PV.cell v2189 1) λv2191=>bd (PV.cell v2189 2) λv2192=>some [(.tup [(.agg [v2190,v2191,v2192]),(.I 0)])])):=by
  intro x hx hr
  subst hx;subst hr
  exact gZ (dD (λ_=>aA rfl) (λh=>by omega))
 split at hr
 ·rename_i h;rw [if_pos h];exact trap rfl hr
 rename_i h3
 rw [if_neg h3]
 split at hr
 ·rename_i h;rw [if_pos h];exact trap rfl hr
 rename_i h4
 rw [if_neg h4]
 split at hr
 ·rename_i h;rw [if_pos h];exact trap rfl hr
 rename_i h5
 rw [if_neg h5]
 subst hr
 refine gZ (dD (λh=>absurd rfl h) (λ_=>?_))
 exact aCn (cB (aA rfl))
theorem tZ {P : R→Prop} {k : R→OR} {o : OR} {p : eR × Int} (h : Ok (λr=>r=opR p) o) (hk : Ok P (k [.tup [.agg [.I p.1.k,.I p.1.n,.str p.1.s],.I p.2]])) : Ok P (bd o k):=
 aI h (λr hr=>by subst hr;exact hk)
set_option maxRecDepth 100000 in
theorem aIi {a b : eR} (ho : 11≤o∧o≤15) (hs : a.s.size≤2097152∧b.s.size≤2097152) : Ok (λr=>r=opR (uT o a b)) (tW (.I o) a.pv b.pv):=by
 have less3 : ¬ (a.k=3∧b.k=3)→Ok (λr=>r=opR (if a.k=1∧b.k=1 then (rJ (decide (a.n<b.n)),0) else (eQ,1))) (vI (.I a.k) (.I a.n) (.str a.s) (.I b.k) (.I b.n) (.str b.s) (.I 0) (.I 0) (.str (bs []))):=by
  intro _
  rw [aIa]
  refine aJ (λh1=>aJ (λh2=>?_) (λh2=>aA ?_)) (λh1=>aA ?_)
  ·rw [aIb,if_pos ⟨h1,h2⟩]
   exact fB (uO (cB (aA rfl)))
  ·rw [if_neg (λh=>h2 h.2)];rfl
  ·rw [if_neg (λh=>h1 h.1)];rfl
 have less : Ok (λr=>r=opR (uT 14 a b)) (aEI a.pv b.pv):=by
  rw [aMj]
  refine cB (cB ?_)
  have e : uT 14 a b=(if a.k=3∧b.k=3 then (rJ (lM a.s.toList b.s.toList),0) else if a.k=1∧b.k=1 then (rJ (decide (a.n<b.n)),0) else (eQ,1)):=rfl
  rw [e]
  refine aJ (λh1=>aJ (λh2=>?_) (λh2=>?_)) (λh1=>?_)
  ·rw [aH9,if_pos ⟨h1,h2⟩]
   exact aSQ (uO (cB (aA rfl)))
  ·rw [if_neg (λh=>h2 h.2)];exact less3 (λh=>h2 h.2)
  ·rw [if_neg (λh=>h1 h.1)];exact less3 (λh=>h1 h.1)
 have add : Ok (λr=>r=opR (uT 11 a b)) (aGJ a.pv b.pv):=by
  rw [aNj]
  refine cB (cB ?_)
  have e : uT 11 a b=(if a.k=3∧b.k=3 then (if (60 : Int)<a.s.size+b.s.size then (eQ,3) else (aDD (a.s++b.s),0)) else aDT 11 a b):=rfl
  rw [e]
  have hn:=aC9 (o:=11) (a:=a) (b:=b) (by omega)
  refine aJ (λh1=>aJ (λh2=>?_) (λh2=>?_)) (λh1=>?_)
  ·rw [aJk,if_pos ⟨h1,h2⟩]
   refine gK (gK (dS (iU (λh=>aA ?_) (λh=>?_))))
   ·rw [gH];rfl
   ·rw [eV]
    exact tL (by omega) (bJ rfl (aA rfl))
  ·rw [if_neg (λh=>h2 h.2)]
   exact tZ hn (gZ (cB (aA rfl)))
  ·rw [if_neg (λh=>h1 h.1)]
   exact tZ hn (gZ (cB (aA rfl)))
 rw [aNh]
 refine cB (cB ?_)
 refine aJ (λh=>?_) (λh11=>aJ (λh=>?_) (λh12=>aJ (λh=>?_) (λh13=>aJ (λh=>?_) (λh14=>?_))))
 ·subst h
  exact tZ add (gZ (cB (aA rfl)))
 ·subst h
  have : Ok (λr=>r=opR (uT 12 a b)) (aGK a.pv b.pv):=by
   rw [aNk]
   refine cB (cB ?_)
   exact tZ (aC9 (o:=12) (by omega)) (gZ (cB (aA rfl)))
  exact tZ this (gZ (cB (aA rfl)))
 ·subst h
  have : Ok (λr=>r=opR (uT 13 a b)) (aGL a.pv b.pv):=by
   rw [aNl]
   refine cB (cB ?_)
   exact tZ (aC9 (o:=13) (by omega)) (gZ (cB (aA rfl)))
  exact tZ this (gZ (cB (aA rfl)))
 ·subst h
  exact tZ less (gZ (cB (aA rfl)))
 ·have h15 : o=15:=by omega
  subst h15
  have same : Ok (λr=>r = [(aGh a b).pv]) (aEL a.pv b.pv):=by
   rw [aMk]
   refine cB (cB ?_)
   refine aJ (λh1=>aJ (λh2=>zS ?_) (λh2=>?_)) (λh1=>?_)
   ·refine uO (cB (aA ?_))
    unfold aGh;rw [decide_eq_true h1,decide_eq_true h2];rfl
   ·refine uO (cB (aA ?_))
    unfold aGh;rw [decide_eq_true h1,decide_eq_false h2];rfl
   ·refine uO (cB (aA ?_))
    unfold aGh;rw [decide_eq_false h1];rfl
  refine aI same (λr hr=>?_)
  subst hr
  exact cB (aA rfl)
def aCo (v : eR) : eR × Int:=if v.k≠2 then (eQ,1) else (rJ (!decide (v.n=1)),0)
theorem aU5 {v : eR} : Ok (λr=>r=opR (aCo v)) (aGI v.pv):=by
 rw [aNi]
 refine cB ?_
 refine dD (λh=>aA ?_) (λh=>?_)
 ·unfold aCo;rw [if_pos h];rfl
 ·refine kZ (uO (cB (aA ?_)))
  unfold aCo;rw [if_neg (by simpa using h)];rfl
def dig (n : Int) : ByteArray:=⟨#[UInt8.ofNat (48+n).toNat]⟩
def aDa : Nat→Int→ByteArray
 | 0,n=>dig n
 | j+1,n=>if n<10 then dig n else aDa j (n / 10)++dig (n % 10)
def mK (n : Int) : ByteArray:=
 if n<0 then (if n < -9 then bs [45]++aDa 18 (-(n.tdiv 10))++aDa 18 (-(n.tmod 10)) else bs [45]++aDa 18 (-n)) else aDa 18 n
theorem aIj (n : Int) : (dig n).size=1:=rfl
theorem kJ : ∀ (j : Nat) (n : Int),(aDa j n).size≤j+1
 | 0,n=>by simp [aDa,aIj]
 | j+1,n=>by
   unfold aDa
   split
   ·rw [aIj];omega
   ·rw [ByteArray.size_append,aIj]
    have:=kJ j (n / 10)
    omega
theorem aFA : ∀ (j : Nat) (n : Int),0≤n→n<10 ^ (j+1)→n≤9223372036854775807→j≤100→Ok (λr=>r = [.str (aDa j n)]) (hJ (.I n)):=by
 have one : ∀ {P : R→Prop} {k : PV→OR} {n : Int},0≤n→n<10→Ok P (k (.str (dig n)))→Ok P (bd (aD .add (.I 48) (.I n)) λv=>bd (bR .u8 v) λv=>bd (aN 1 1 false (.lst []) (.lst [v])) λv=>bd (bK v) k):=by
  intro P k n h1 h2 h
  refine bS (aXU (by omega) ?_)
  refine mD (by simp) (λx hx=>by simp only [List.mem_singleton] at hx;subst hx;rfl) ?_
  exact aUI (l:=[48+n]) h
 intro j
 induction j with
 | zero=>
   intro n h1 h2 _ _
   rw [vM]
   refine aO (λh=>by omega) (λ_=>aO (λh=>?_) (λh=>by omega))
   exact one h1 h (aA rfl)
 | succ j ih=>
   intro n h1 h2 hj hjj
   rw [vM]
   have hp2 : (10 : Int) ^ (j+1+1)=10 ^ (j+1)*10:=Int.pow_succ _ _
   refine aO (λh=>by omega) (λ_=>aO (λh=>?_) (λh=>?_))
   ·refine one h1 h (aA ?_)
    unfold aDa;rw [if_pos h]
   ·refine oR h1 (by omega) hj ?_
    refine aI (ih (n / 10) (by omega) (by omega) (by omega) (by omega)) (λr hr=>?_)
    subst hr
    refine nX h1 (by omega) (one (by omega) (by omega) ?_)
    have:=kJ j (n / 10)
    refine tL (by rw [aIj];omega) (aA ?_)
    show _ = [PV.str (aDa (j+1) n)]
    rw [show aDa (j+1) n=aDa j (n / 10)++dig (n % 10) by conv=>lhs;unfold aDa
                                                         rw [if_neg h]]
theorem aWq {P : R→Prop} {k : PV→OR} {a b : Int} (hb : b≠0) (hr : I64 (a.tdiv b)) (h : Ok P (k (.I (a.tdiv b)))) : Ok P (bd (aD .quo (.I a) (.I b)) k):=
 eZ _ (by rw [mC (by simp) (by simp)];simp only [lO];rw [if_neg hb,i64_in _ hr]) h
theorem aWr {P : R→Prop} {k : PV→OR} {a b : Int} (hb : b≠0) (h : Ok P (k (.I (a.tmod b)))) : Ok P (bd (aD .rem (.I a) (.I b)) k):=
 eZ _ (by rw [mC (by simp) (by simp)];simp only [lO];rw [if_neg hb]) h
theorem aQx (h : n<0) : n.tdiv 10 = -((-n) / 10)∧n.tmod 10 = -((-n) % 10):=by
 have e : n = -(-n):=by omega
 constructor
 ·rw [e,Int.neg_tdiv,Int.tdiv_eq_ediv_of_nonneg (by omega)]
  simp
 ·rw [e,Int.neg_tmod,Int.tmod_eq_emod_of_nonneg (by omega)]
  simp
theorem zT (n : Int) : (mK n).size≤40:=by
 have h45 : (bs [45]).size=1:=rfl
 unfold mK
 split
 ·split
  ·rw [ByteArray.size_append,ByteArray.size_append,h45]
   have h1:=kJ 18 (-(n.tdiv 10))
   have h2:=kJ 18 (-(n.tmod 10))
   omega
  ·rw [ByteArray.size_append,h45]
   have h1:=kJ 18 (-n)
   omega
 ·have h1:=kJ 18 n
  omega
theorem aEX (hn : -9223372036854775807≤n∧n≤9223372036854775807) : Ok (λr=>r = [.str (mK n)]) (hJ (.I n)):=by
 have big : ∀ {x : Int},x≤9223372036854775807→x<10 ^ (18+1):=λh=>by
  have : (10 : Int) ^ (18+1)=10000000000000000000:=by decide
  omega
 have h45 : (bs [45]).size=1:=rfl
 by_cases h : n<0
 ·obtain ⟨e1,e2⟩:=aQx h
  rw [vM]
  refine aO (λ_=>?_) (λh'=>absurd h h')
  refine aO (λh9=>?_) (λh9=>?_)
  ·refine aWq (by omega) (by unfold I64;omega) (mP (by omega) ?_)
   have z1 : 0 - n.tdiv 10 = -(n.tdiv 10):=by omega
   have z2 : 0 - n.tmod 10 = -(n.tmod 10):=by omega
   rw [z1]
   have s1:=kJ 18 (-(n.tdiv 10))
   have s2:=kJ 18 (-(n.tmod 10))
   refine aI (aFA 18 (-(n.tdiv 10)) (by omega) (big (by omega)) (by omega) (by omega)) (λr hr=>?_)
   subst hr
   refine tL (by omega) (aWr (by omega) (mP (by omega) ?_))
   rw [z2]
   refine aI (aFA 18 (-(n.tmod 10)) (by omega) (big (by omega)) (by omega) (by omega)) (λr hr=>?_)
   subst hr
   refine tL (by rw [ByteArray.size_append];omega) (aA ?_)
   unfold mK
   rw [if_pos h,if_pos h9]
  ·refine mP (by omega) ?_
   have z1 : 0 - n = -n:=by omega
   rw [z1]
   have s1:=kJ 18 (-n)
   refine aI (aFA 18 (-n) (by omega) (big (by omega)) (by omega) (by omega)) (λr hr=>?_)
   subst hr
   refine tL (by omega) (aA ?_)
   unfold mK
   rw [if_pos h,if_neg h9]
 ·refine (aFA 18 n (by omega) (big hn.2) hn.2 (by omega)).mono ?_
  rintro r rfl
  unfold mK
  rw [if_neg h]
end
noncomputable section
open Go
attribute [local irreducible] bd aV aE aH bE aS PV.cell PV.sub aB aK bV dG dL dQ cQ aD dM dB bR bA cG aN aX aC bM bC bD bK aW PV.deref bG cA aT dJ cJ cK dO PV.apply bL bO fK cC
variable {n pc : Nat} {s : List Int} {l t : Int} {x : eC} {P : R → Prop}
def mN (fs : List eJ) (x : eC) (h : Int) : Int:=h - (bU fs x).1+(bU fs x).2
def can (fs : List eJ) (x : eC) (h : Int) : Bool:=decide ((bU fs x).1≤h)&&decide (mN fs x h≤16)
abbrev Hs:=List Int × Bool
def zU (l : Int) (s : Hs) (t : Int) : Hs:=if t<s.1.length∧s.1[t.toNat]?.getD 0<0 then (s.1.set t.toNat l,true) else s
def aDU (fs : List eJ) (code : List eC) (s : Hs) (pc : Nat) : Hs:=
 match code[pc]? with
 | some x=>if can fs x (s.1[pc]?.getD 0) then (kI x pc).foldl (zU (mN fs x (s.1[pc]?.getD 0))) s else s
 | none=>s
def yF (fs : List eJ) (code : List eC) (s : List Int) : Hs:=(List.range' 0 code.length).foldl (aDU fs code) (s,false)
def aIk (fs : List eJ) (code : List eC) : Nat→List Int→List Int
 | 0,s=>s
 | n+1,s=>if (yF fs code s).2 then aIk fs code n (yF fs code s).1 else (yF fs code s).1
def aPb (n : Nat) : List Int:=(List.replicate n (-1)).set 0 0
def oA (fs : List eJ) (code : List eC) : List Int:=aIk fs code (code.length+1) (aPb code.length)
structure Fit (fs : List eJ) (code : List eC) : Prop where
 n1 : 1≤code.length
 n2 : code.length≤120
 nf : fs.length≤12
 u : ∀ x∈code,0≤(bU fs x).1∧(bU fs x).1≤7∧0≤(bU fs x).2∧(bU fs x).2≤2
 j : ∀ x∈code,(x.o=17∨x.o=18∨x.o=19)→0≤x.a∧x.a<code.length
def Hgt (n : Nat) (s : List Int) : Prop:=s.length=n∧∀ v∈s,-1≤v∧v≤16
theorem Hgt.at (h : Hgt n s) (i : Nat) : -1≤s[i]?.getD 0∧s[i]?.getD 0≤16:=by
 cases hx : s[i]? with
 | none=>simp
 | some v=>exact h.2 v (List.mem_of_getElem? hx)
theorem Hgt.put {s : Hs} (h : Hgt n s.1) (hl : -1≤l∧l≤16) (t : Int) : Hgt n (zU l s t).1:=by
 unfold zU
 split
 ·refine ⟨by simp only [List.length_set];exact h.1,λv hv=>?_⟩
  rcases List.mem_or_eq_of_mem_set hv with h1 | h1
  ·exact h.2 v h1
  ·omega
 ·exact h
theorem Hgt.puts {n : Nat} {l : Int} (hl : -1≤l∧l≤16) : ∀ (ts : List Int) (s : Hs),Hgt n s.1→Hgt n (ts.foldl (zU l) s).1
 | [],_,h=>h
 | t::r,s,h=>Hgt.puts hl r _ (h.put hl t)
theorem aQy {fs : List eJ} {h : Int} (hu : 0≤(bU fs x).1∧(bU fs x).1≤7∧0≤(bU fs x).2∧(bU fs x).2≤2) (hc : can fs x h=true) : 0≤mN fs x h∧mN fs x h≤16:=by
 simp only [can,Bool.and_eq_true,decide_eq_true_eq] at hc
 unfold mN at *
 omega
theorem Hgt.one {fs : List eJ} {code : List eC} (F : Fit fs code) {s : Hs} (h : Hgt n s.1) (pc : Nat) : Hgt n (aDU fs code s pc).1:=by
 unfold aDU
 split
 ·rename_i x hx
  split
  ·rename_i hc
   have:=aQy (F.u x (List.mem_of_getElem? hx)) hc
   exact Hgt.puts (by omega) _ _ h
  ·exact h
 ·exact h
theorem Hgt.ones {fs : List eJ} {code : List eC} (F : Fit fs code) {n : Nat} : ∀ (l : List Nat) (s : Hs),Hgt n s.1→Hgt n (l.foldl (aDU fs code) s).1
 | [],_,h=>h
 | t::r,s,h=>Hgt.ones F r _ (h.one F t)
theorem Hgt.pass {fs : List eJ} {code : List eC} (F : Fit fs code) (h : Hgt n s) : Hgt n (yF fs code s).1:=Hgt.ones F _ _ h
theorem Hgt.start : Hgt n (aPb n):=by
 refine ⟨by simp [aPb],λv hv=>?_⟩
 rcases List.mem_or_eq_of_mem_set hv with h1 | h1
 ·have:=List.eq_of_mem_replicate h1;omega
 ·omega
def nn (s : List Int) : Nat:=s.countP (· < 0)
def Dec (s s' : Hs) : Prop:=s'=s∨(s'.2=true∧nn s'.1<nn s.1)
theorem Dec.trans {a b c : Hs} (h : Dec a b) (k : Dec b c) : Dec a c:=by
 rcases h with rfl | h
 ·exact k
 ·rcases k with rfl | k
  ·exact .inr h
  ·exact .inr ⟨k.1,by omega⟩
theorem aU6 : ∀ (s : List Int) (i : Nat) (l : Int),0≤l→s[i]?.getD 0<0→nn (s.set i l)<nn s
 | [],i,l,_,h=>by simp at h
 | x::r,0,l,hl,h=>by
   simp only [List.getElem?_cons_zero,Option.getD_some] at h
   simp only [nn,List.set_cons_zero,List.countP_cons]
   rw [if_neg (by simp;omega),if_pos (by simpa using h)]
   omega
 | x::r,i+1,l,hl,h=>by
   simp only [List.getElem?_cons_succ] at h
   have:=aU6 r i l hl h
   simp only [nn,List.set_cons_succ,List.countP_cons] at *
   omega
theorem Dec.put (hl : 0≤l) (s : Hs) (t : Int) : Dec s (zU l s t):=by
 unfold zU
 split
 ·rename_i h
  exact .inr ⟨rfl,aU6 _ _ _ hl h.2⟩
 ·exact .inl rfl
theorem Dec.puts {l : Int} (hl : 0≤l) : ∀ (ts : List Int) (s : Hs),Dec s (ts.foldl (zU l) s)
 | [],_=>.inl rfl
 | t::r,s=>(Dec.put hl s t).trans (Dec.puts hl r _)
theorem Dec.one {fs : List eJ} {code : List eC} (F : Fit fs code) (s : Hs) (pc : Nat) : Dec s (aDU fs code s pc):=by
 unfold aDU
 split
 ·rename_i x hx
  split
  ·rename_i hc
   exact Dec.puts (aQy (F.u x (List.mem_of_getElem? hx)) hc).1 _ _
  ·exact .inl rfl
 ·exact .inl rfl
theorem Dec.ones {fs : List eJ} {code : List eC} (F : Fit fs code) : ∀ (l : List Nat) (s : Hs),Dec s (l.foldl (aDU fs code) s)
 | [],_=>.inl rfl
 | t::r,s=>(Dec.one F s t).trans (Dec.ones F r _)
theorem Dec.pass {fs : List eJ} {code : List eC} (F : Fit fs code) (s : List Int) : Dec (s,false) (yF fs code s):=Dec.ones F _ _
theorem aU7 {s : Hs} (h : s.1[0]? = some 0) : (zU l s t).1[0]? = some 0:=by
 unfold zU
 split
 ·rename_i hc
  rw [List.getElem?_set]
  split
  ·rename_i h0
   rw [h0] at hc
   rw [h] at hc
   simp at hc
  ·exact h
 ·exact h
theorem aN5 {l : Int} : ∀ (ts : List Int) (s : Hs),s.1[0]? = some 0→(ts.foldl (zU l) s).1[0]? = some 0
 | [],_,h=>h
 | t::r,s,h=>aN5 r _ (aU7 h)
theorem aU8 {fs : List eJ} {code : List eC} {s : Hs} (pc : Nat) (h : s.1[0]? = some 0) : (aDU fs code s pc).1[0]? = some 0:=by
 unfold aDU
 split
 ·split
  ·exact aN5 _ _ h
  ·exact h
 ·exact h
theorem aJr {fs : List eJ} {code : List eC} : ∀ (l : List Nat) (s : Hs),s.1[0]? = some 0→(l.foldl (aDU fs code) s).1[0]? = some 0
 | [],_,h=>h
 | t::r,s,h=>aJr r _ (aU8 t h)
theorem aQz {fs : List eJ} {code : List eC} : ∀ (n : Nat) (s : List Int),s[0]? = some 0→(aIk fs code n s)[0]? = some 0
 | 0,_,h=>h
 | n+1,s,h=>by
   unfold aIk
   split
   ·exact aQz n _ (aJr _ _ h)
   ·exact aJr _ _ h
theorem aSR {fs : List eJ} {code : List eC} (F : Fit fs code) {m : Nat} : ∀ (n : Nat) (s : List Int),Hgt m s→Hgt m (aIk fs code n s)
 | 0,_,h=>h
 | n+1,s,h=>by
   unfold aIk
   split
   ·exact aSR F n _ (h.pass F)
   ·exact h.pass F
theorem aDb {fs : List eJ} {code : List eC} (F : Fit fs code) : Hgt code.length (oA fs code):=aSR F _ _ Hgt.start
theorem aQA {fs : List eJ} {code : List eC} (F : Fit fs code) : (oA fs code)[0]? = some 0:=by
 refine aQz _ _ ?_
 have:=F.n1
 rw [aPb,List.getElem?_set_self (by rw [List.length_replicate];omega)]
theorem aKX {i : Nat} (h : i<s.length) : s[i]=s[i]?.getD 0:=by rw [List.getElem?_eq_getElem h];rfl
theorem aEY {fs : List eJ} {code : List eC} (F : Fit fs code) (hx : x∈code) (hp : pc<code.length) : ∀ t∈kI x pc,0≤t∧t≤code.length:=by
 intro t ht
 unfold kI at ht
 rcases List.mem_append.1 ht with h | h
 ·split at h
  ·simp only [List.mem_singleton] at h;omega
  ·cases h
 ·split at h
  ·rename_i hj
   simp only [List.mem_singleton] at h
   have:=F.j x hx hj
   omega
  ·cases h
theorem aSS {s : Hs} (h1 : t<s.1.length) (h2 : s.1[t.toNat]?.getD 0<0) : zU l s t=(s.1.set t.toNat l,true):=if_pos ⟨h1,h2⟩
theorem aPc {s : Hs} (h : ¬ (t<s.1.length∧s.1[t.toNat]?.getD 0<0)) : zU l s t=s:=if_neg h
section
variable {fs : List eJ} {code : List eC} {T : PV} (F : Fit fs code)
include F
theorem aTO (hpc : pc<code.length) {left : Int} {ts : List Int} (hts : ∀ t∈ts,0≤t∧t≤code.length) (hn : ts.length≤10) {s : Hs} (hs : s.1.length=code.length)
 (h : Ok P (gM (.lst (code.map eC.pv)) (.bool (ts.foldl (zU left) s).2) (.I ((pc : Int)+1)) T (.lst (fs.map eJ.pv)) (fW (ts.foldl (zU left) s).1))) :
 Ok P (iF (.lst (code.map eC.pv)) (.bool s.2) (.I pc) (.I left) (fW ts) (.I 0) T (.lst (fs.map eJ.pv)) (fW s.1)):=by
 have hn2:=F.n2
 refine aHc (n:=ts.length) (F:=λi (q : Hs)=>iF (.lst (code.map eC.pv)) (.bool q.2) (.I pc) (.I left) (fW ts) (.I i) T (.lst (fs.map eJ.pv)) (fW q.1))
  (λi q=>q.1.length=code.length∧(ts.drop i).foldl (zU left) q=ts.foldl (zU left) s) ?_ ?_ 0 s (by omega) ⟨hs,by rw [List.drop_zero]⟩
 ·rintro q ⟨hq,he⟩
  rw [List.drop_length] at he
  have he : q=ts.foldl (zU left) s:=he
  subst he
  rw [vV]
  exact gU (aO (λh=>by omega) (λ_=>bS h))
 ·rintro i q hi ⟨hq,he⟩ ih
  have ht:=hts ts[i] (List.getElem_mem _)
  rw [List.drop_eq_getElem_cons hi,List.foldl_cons] at he
  have ih:=λs'=>ih s'
  rw [vV]
  refine gU (aO (λ_=>?_) (λh=>by omega))
  refine fR hi (aF (aO (λh1=>?_) (λh1=>?_)))
  ·refine fR hi (lK (by omega) (by omega) (yE (by omega) (by omega) (λv hv=>?_)))
   refine aO (λh2=>?_) (λh2=>?_)
   ·rw [aDM]
    refine fR hi (lK (by omega) (by omega) ?_)
    obtain ⟨t,et⟩:=Int.eq_ofNat_of_zero_le ht.1
    rw [et]
    refine aBt (by omega) (bS ?_)
    refine ih (q.1.set t left,true) ⟨by simpa using hq,?_⟩
    rw [aSS (by omega) (by rw [hv];exact h2),et] at he
    exact he
   ·refine bS (ih q ⟨hq,?_⟩)
    rw [aPc (by rw [hv];simp only [Option.getD_some];omega)] at he
    exact he
  ·refine bS (ih q ⟨hq,?_⟩)
   rw [aPc (by omega)] at he
   exact he
theorem aMr (hs : Hgt code.length s)
 (h : Ok P (nJ (.lst (code.map eC.pv)) (.bool (yF fs code s).2) T (.lst (fs.map eJ.pv)) (fW (yF fs code s).1))) :
 Ok P (gM (.lst (code.map eC.pv)) (.bool false) (.I 0) T (.lst (fs.map eJ.pv)) (fW s)):=by
 have hn2:=F.n2
 have hnf:=F.nf
 refine aHc (n:=code.length) (F:=λi (q : Hs)=>gM (.lst (code.map eC.pv)) (.bool q.2) (.I i) T (.lst (fs.map eJ.pv)) (fW q.1))
  (λi q=>Hgt code.length q.1∧(List.range' i (code.length - i)).foldl (aDU fs code) q=yF fs code s) ?_ ?_ 0 (s,false) (by omega) ⟨hs,rfl⟩
 ·rintro q ⟨hq,he⟩
  rw [Nat.sub_self] at he
  have he : q=yF fs code s:=he
  subst he
  rw [vU]
  exact aF (aO (λh=>by omega) (λ_=>h))
 ·rintro i q hi ⟨hq,he⟩ ih
  have e1 : code.length - i=(code.length - (i+1))+1:=by omega
  rw [e1,List.range'_succ,List.foldl_cons] at he
  have hx : code[i]? = some code[i]:=List.getElem?_eq_getElem hi
  have hu:=F.u code[i] (List.getElem_mem _)
  have hil : i<q.1.length:=by rw [hq.1];exact hi
  have hv:=hq.at i
  have e2 : q.1[i]=q.1[i]?.getD 0:=aKX hil
  have hone:=hq.one F i
  have hgo:=ih (aDU fs code q i) ⟨hone,he⟩
  have eo : aDU fs code q i=if can fs code[i] (q.1[i]?.getD 0) then (kI code[i] i).foldl (zU (mN fs code[i] (q.1[i]?.getD 0))) q else q:=by
   conv=>lhs;unfold aDU
   rw [hx]
  generalize hw : q.1[i]?.getD 0=w at *
  rw [vU]
  refine aF (aO (λ_=>?_) (λh=>by omega))
  refine aQ hi (λ_=>rfl) (aI (aN1 (T:=T) (by omega)) (λr hr=>?_))
  subst hr
  refine gZ ?_
  refine lK (by omega) (by omega) (fR hil (dS (bS (lK (by omega) (by omega) (fR hil ?_)))))
  rw [e2]
  refine aO (λh1=>?_) (λh1=>?_)
  ·have hc : can fs code[i] w=false:=by simp only [can];rw [decide_eq_false (by omega)];rfl
   rw [hc,if_neg (by simp)] at eo
   rw [eo] at hgo
   exact bS hgo
  refine iU (λh2=>?_) (λh2=>?_)
  ·have hc : can fs code[i] w=false:=by simp only [can];rw [decide_eq_false (p:=mN fs code[i] w≤16) (by unfold mN;omega),Bool.and_false]
   rw [hc,if_neg (by simp)] at eo
   rw [eo] at hgo
   exact bS hgo
  ·have hc : can fs code[i] w=true:=by simp only [can];rw [decide_eq_true (by omega),decide_eq_true (p:=mN fs code[i] w≤16) (by unfold mN;omega)];rfl
   rw [hc,if_pos rfl] at eo
   rw [eo] at hgo
   refine aQ hi (λ_=>rfl) (aI (aN3 (by omega)) (λr hr=>?_))
   subst hr
   exact aTO F hi (aEY F (List.getElem_mem _) hi) (by unfold kI;repeat' split<;>simp) hq.1 hgo
theorem aTP : ∀ (j : Nat) (s : List Int),nn s≤j→Hgt code.length s→Ok (λr=>r = [fW (aIk fs code (j+1) s)]) (nJ (.lst (code.map eC.pv)) (.bool true) T (.lst (fs.map eJ.pv)) (fW s)):=by
 intro j
 induction j with
 | zero=>
   intro s hs hg
   rw [nO]
   refine bF (aMr F hg ?_)
   rcases Dec.pass F s with h | ⟨h,h2⟩
   ·unfold aIk
    rw [h,nO]
    exact bP (aA rfl)
   ·have h3 : nn (yF fs code s).1<nn s:=h2
    omega
 | succ j ih=>
   intro s hs hg
   rw [nO]
   refine bF (aMr F hg ?_)
   rcases Dec.pass F s with h | ⟨h,h2⟩
   ·unfold aIk
    rw [h,nO]
    exact bP (aA rfl)
   ·rw [aIk,h,if_pos rfl]
    exact ih _ (by have h3 : nn (yF fs code s).1<nn s:=h2;omega) (hg.pass F)
end
end
noncomputable section
open Go Go.IntWalk
attribute [local irreducible] bd aV aE aH bE aS PV.cell PV.sub aB aK bV dG dL dQ cQ aD dM dB bR bA cG aN aX aC bM bC bD bK aW PV.deref bG cA aT dJ cJ cK dO PV.apply bL bO fK cC
variable {n lo hi : Nat} {kk k1 k2 : IntKind} {xs ys : R} {a b : Int}
section
variable {fs : List eJ} {code : List eC} {T : PV} (F : Fit fs code)
include F
theorem aEZ {f : Nat} (hf : f<fs.length) (hc : fs[f].code=code) : Ok (λr=>r = [fW (oA fs code)]) (oY (.agg [T,.lst (fs.map eJ.pv)]) (.I f)):=by
 have hn2:=F.n2
 have hn1:=F.n1
 rw [aH0]
 refine dY (aQ hf (λ_=>rfl) (aL (y:=.lst (code.map eC.pv)) (by rw [← hc];rfl) ?_))
 have key:=fQ (n:=code.length) (P:=λ_ r=>r = [fW (oA fs code)])
  (F:=λi=>qL (.lst (code.map eC.pv)) (.I i) T (.lst (fs.map eJ.pv)) (fW (List.replicate i (-1)))) ?_ ?_ 0 (by omega)
 ·exact key
 ·rw [xZ]
  refine aF (aO (λh=>by omega) (λ_=>?_))
  refine lK (by omega) (by rw [List.length_replicate];omega) (aBt (i:=0) (by rw [List.length_replicate];omega) ?_)
  exact aTP F code.length _ (by have:=(Hgt.start (n:=code.length)).1;unfold nn;exact Nat.le_trans List.countP_le_length (by omega)) Hgt.start
 ·intro i hi ih
  rw [xZ]
  refine aF (aO (λh=>?_) (λh=>by omega))
  refine yD (ys:=[-1]) (by rw [List.length_replicate];simp only [List.length_cons,List.length_nil];omega) (bS ?_)
  rw [← List.replicate_succ']
  exact ih
end
section
variable {P : R → Prop} {k : PV → OR}
theorem aFB {m : Nat} (h : n≤m) : nC m (.int kk (n : Int))=some n:=by
 simp only [nC]
 rw [gH,Int.toNat_natCast]
theorem aQB (h1 : lo≤hi) (h2 : hi≤xs.length) (h3 : xs.length≤1000000000) (h : Ok P (k (.I (min (hi - lo) ys.length : Nat)))) :
 Ok P (bd (bM (.lst xs) (.int k1 (lo : Int)) (.int k2 (hi : Int)) (.lst ys)) k):=
 eZ _ (by
  simp only [bM]
  rw [aFB (by omega),aFB (by omega)]
  simp only [eK]
  rw [if_pos ⟨h1,h2⟩]) h
theorem aN6 {s : Nat} {g : Bool} (h1 : lo≤hi) (h2 : hi≤xs.length) (h3 : xs.length≤1000000000) (he : ∀ y∈ys,y.isEl s g=true)
 (h : Ok P (k (.lst (xs.take lo++ys.take (hi - lo)++xs.drop (lo+min (hi - lo) ys.length))))) :
 Ok P (bd (bC s g (.lst xs) (.int k1 (lo : Int)) (.int k2 (hi : Int)) (.lst ys)) k):=
 eZ _ (by
  simp only [bC]
  rw [aFB (by omega),aFB (by omega)]
  simp only [eK]
  rw [if_pos ⟨h1,h2,List.all_eq_true.2 he⟩]) h
theorem aQC {e : Nat} {z : PV} (h1 : n*e≤140737488355328) (h2 : n≤1000000000) (h : Ok P (k (.lst (List.replicate n z)))) : Ok P (bd (bD e z (.int kk (n : Int))) k):=
 eZ _ (by
  simp only [bD]
  rw [if_pos ⟨by omega,by rw [Int.toNat_natCast];exact h1,by omega⟩,Int.toNat_natCast]) h
theorem aIl {l : List Int} : ∀ x∈l.map PV.I,x.isEl 1 false=true:=by
 intro x hx
 obtain ⟨a,_,rfl⟩:=List.mem_map.1 hx
 rfl
end
theorem aQD (hn : n≤1000) : ∀ (j a : Nat),n - a≤j→1≤a→a≤n→
 Ok (λr=>r = [fW (List.replicate n (-1))]) (jV (.I a) (fW (List.replicate a (-1)++List.replicate (n - a) 0))):=by
 intro j
 induction j with
 | zero=>
   intro a h1 h2 h3
   have : a=n:=by omega
   subst this
   rw [qP]
   refine gU (aO (λh=>?_) (λ_=>aA ?_))
   ·simp at h
   ·simp
 | succ j ih=>
   intro a h1 h2 h3
   rw [qP]
   have hl : (List.replicate a (-1 : Int)++List.replicate (n - a) 0).length=n:=by simp;omega
   have hlm : ((List.replicate a (-1 : Int)++List.replicate (n - a) 0).map PV.I).length=n:=by rw [List.length_map,hl]
   have ht : (List.replicate a (-1 : Int)++List.replicate (n - a) 0).take a=List.replicate a (-1):=by
    rw [List.take_left' (by simp)]
   refine gU (aO (λh=>?_) (λh=>aA ?_))
   ·rw [hl] at h
    refine gU ?_
    rw [hl]
    refine aCz (by omega) (by omega) (by omega) aIl ?_
    refine aCz (by omega) (by omega) (by omega) aIl ?_
    refine aCz (by omega) (by omega) (by omega) aIl ?_
    simp only [Int.toNat_natCast,Int.toNat_zero,List.drop_zero,← List.map_take]
    rw [ht]
    refine aQB (by omega) (by omega) (by omega) (aN6 (by omega) (by omega) (by omega) aIl ?_)
    rw [← List.map_take,ht,← List.map_take,← List.map_drop,← List.map_append,← List.map_append,List.length_map,List.length_replicate]
    have e : List.replicate a (-1 : Int)++(List.replicate a (-1)).take (n - a)++(List.replicate a (-1)++List.replicate (n - a) 0).drop (a+min (n - a) a)=List.replicate (a+min (n - a) a) (-1)++List.replicate (n - (a+min (n - a) a)) 0:=by
     rw [List.take_replicate,List.replicate_append_replicate,List.drop_append,List.length_replicate,List.drop_eq_nil_of_le (by simp),List.nil_append,List.drop_replicate]
     congr 2
     omega
    rw [e]
    exact bS (ih (a+min (n - a) a) (by omega) (by omega) (by omega))
   ·have : a=n:=by rw [hl] at h;omega
    subst this
    simp
theorem aPd {P : R→Prop} {k : PV→OR} (h1 : 0≤a∧a≤2097152) (h : Ok P (k (.int .u64 a))) : Ok P (bd (aD .and (.int .u64 a) (.int .u64 4294967295)) k):=
 eZ _ (by
  obtain ⟨n,rfl⟩:=Int.eq_ofNat_of_zero_le h1.1
  rw [mC (by simp) (by simp)]
  simp only [lO]
  have hb : IntKind.u64.bits=64:=rfl
  have e : (BitVec.ofInt 64 (n : Int)&&& BitVec.ofInt 64 4294967295).toNat=n:=by
   rw [BitVec.toNat_and,BitVec.ofInt_natCast,BitVec.toNat_ofNat]
   have : (BitVec.ofInt 64 4294967295).toNat=2 ^ 32 - 1:=by decide
   rw [this,Nat.and_two_pow_sub_one_eq_mod,Nat.mod_eq_of_lt (by omega),Nat.mod_eq_of_lt (by omega)]
  rw [hb,e,u64_in _ (by omega)]) h
theorem aE0 {P : R→Prop} {k : PV→OR} (h1 : 0≤a∧a≤2097152) (h : Ok P (k (.int .u64 0))) : Ok P (bd (aD .shr (.int .u64 a) (.int .u64 32)) k):=
 eZ _ (by
  simp only [aD]
  rw [eV]
  have : a.fdiv (2 ^ min (Int.toNat 32) IntKind.u64.bits)=0:=by
   have e : (2 : Int) ^ min (Int.toNat 32) IntKind.u64.bits=4294967296:=by decide
   rw [e,Int.fdiv_eq_ediv_of_nonneg _ (by omega)]
   omega
  rw [this]) h
theorem aE1 {P : R→Prop} {k : PV→OR} (h1 : 0≤a*b∧a*b≤2097152) (h : Ok P (k (.int .u64 (a*b)))) : Ok P (bd (aD .mul (.int .u64 a) (.int .u64 b)) k):=
 eZ _ (by rw [mC (by simp) (by simp)];simp only [lO];rw [u64_in _ (by omega)]) h
theorem aIm {P : R→Prop} {k : PV→OR} (h1 : 0≤a+b∧a+b≤2097152) (h : Ok P (k (.int .u64 (a+b)))) : Ok P (bd (aD .add (.int .u64 a) (.int .u64 b)) k):=
 eZ _ (by rw [mC (by simp) (by simp)];simp only [lO];rw [u64_in _ (by omega)]) h
theorem aU9 {P : R→Prop} {k : PV→OR} (h1 : 0≤a∧a≤2097152) (h : Ok P (k (.int .u64 a))) : Ok P (bd (bR .u64 (.int kk a)) k):=eZ _ (by simp only [bR];rw [u64_in _ (by omega)]) h
theorem aTQ (h1 : 1≤n) (hn : n≤1000) : Ok (λr=>r = [fW (List.replicate n (-1))]) (qD (.lst [.I (-1)]) (.I n)):=by
 rw [aBP]
 refine aO (λh=>by omega) (λ_=>?_)
 rw [zP]
 refine eS (aU9 (by simp) (aU9 (by omega) ?_))
 refine aI (Q:=λr=>r = [.tup [.int .u64 0,.int .u64 n]]) ?_ (λr hr=>?_)
 ·rw [aJg,aG2]
  simp only [List.length_cons,List.length_nil]
  refine aI (Q:=λr=>r = [.tup [.int .u64 0,.int .u64 n]]) ?_ (λr hr=>?_)
  ·refine aPd (by omega) (aE0 (by omega) (aPd (by omega) (aE0 (by omega) ?_)))
   refine aE1 (by omega) (aE1 (by omega) (aE0 (by omega) (aIm (by omega) ?_)))
   refine aPd (by omega) (aE0 (by omega) (aE1 (by omega) (aIm (by omega) ?_)))
   refine aE1 (by omega) (aIm (by omega) (aE0 (by omega) (aIm (by omega) (aE1 (by omega) (aA ?_)))))
   simp
  ·subst hr
   exact gZ (aA rfl)
 subst hr
 refine gZ (iU (λh=>by omega) (λ_=>iU (λh=>by omega) (λ_=>?_)))
 rw [zQ]
 refine mQ (by omega) (aQC (by omega) (by omega) (aD7 (λ_=>?_) (λh=>by omega)))
 refine aQC (by omega) (by omega) (eS ?_)
 rw [List.length_replicate]
 refine aQB (lo:=0) (by omega) (by simp) (by simp;omega) (aN6 (lo:=0) (by omega) (by simp) (by simp;omega) (aIl (l:=[-1])) ?_)
 have:=aQD hn n 1 (by omega) (by omega) h1
 have e : (min (n - 0) [PV.I (-1)].length : Nat)=1:=by simp;omega
 rw [e]
 have e2 : (List.replicate n (PV.I 0)).take 0++[PV.I (-1)].take (n - 0)++(List.replicate n (PV.I 0)).drop (0+1)=(List.replicate 1 (-1 : Int)++List.replicate (n - 1) 0).map PV.I:=by
  rw [List.take_zero,List.nil_append,List.take_of_length_le (by simp;omega),List.drop_replicate]
  simp
 rw [e2]
 exact this
end
noncomputable section
open Go
attribute [local irreducible] bd aV aE aH bE aS PV.cell PV.sub aB aK bV dG dL dQ cQ aD dM dB bR bA cG aN aX aC bM bC bD bK aW PV.deref bG cA aT dJ cJ cK dO PV.apply bL bO fK cC
variable {x : eC} {h : Int} {P : R → Prop}
section
variable {fs : List eJ} {code : List eC} {T : PV} (F : Fit fs code)
include F
theorem aN7 (hx : x∈code) (hh : -1≤h∧h≤16) : Ok (λr=>r = [.tup [.I (mN fs x h),.bool (can fs x h)]]) (aBc (.agg [T,.lst (fs.map eJ.pv)]) x.pv (.I h)):=by
 have hu:=F.u x hx
 have hnf:=F.nf
 rw [aL8]
 refine dY (dY ?_)
 refine aI (aN2 (x:=x) (T:=T) (by omega)) (λr hr=>?_)
 subst hr
 refine gZ (dS (bS (aD7 (λh1=>?_) (λh1=>aA ?_))))
 ·refine jM (aA ?_)
  unfold can mN
  rw [decide_eq_true h1];rfl
 ·unfold can mN
  rw [decide_eq_false h1];rfl
theorem aTR {pc : Nat} (hpc : pc<code.length) {left : Int} {b : Bool} {ts : List Int} (hts : ∀ t∈ts,0≤t∧t≤code.length) (hn : ts.length≤10) {s : Hs} (hs : s.1.length=code.length)
 (h : Ok P (lU (.lst (code.map eC.pv)) (.bool (if b then ts.foldl (zU left) s else s).2) (.lst (code.map eC.pv)) (.I code.length) (.I ((pc : Int)+1)) T (.lst (fs.map eJ.pv)) (fW (if b then ts.foldl (zU left) s else s).1))) :
 Ok P (jC (.lst (code.map eC.pv)) (.bool s.2) (.I left) (.bool b) (.lst (code.map eC.pv)) (.I code.length) (.I pc) (fW ts) (.I ts.length) (.I 0) T (.lst (fs.map eJ.pv)) (fW s.1)):=by
 have hn2:=F.n2
 refine aHc (n:=ts.length) (F:=λi (q : Hs)=>jC (.lst (code.map eC.pv)) (.bool q.2) (.I left) (.bool b) (.lst (code.map eC.pv)) (.I code.length) (.I pc) (fW ts) (.I ts.length) (.I i) T (.lst (fs.map eJ.pv)) (fW q.1))
  (λi q=>q.1.length=code.length∧(if b then (ts.drop i).foldl (zU left) q else q)=(if b then ts.foldl (zU left) s else s)) ?_ ?_ 0 s (by omega) ⟨hs,by rw [List.drop_zero]⟩
 ·rintro q ⟨hq,he⟩
  rw [List.drop_length] at he
  have he : q=(if b then ts.foldl (zU left) s else s):=by rw [← he];split<;>rfl
  subst he
  rw [aAE]
  exact aO (λh=>by omega) (λ_=>bS h)
 ·rintro i q hi ⟨hq,he⟩ ih
  have ht:=hts ts[i] (List.getElem_mem _)
  rw [List.drop_eq_getElem_cons hi,List.foldl_cons] at he
  rw [aAE]
  refine aO (λ_=>?_) (λh=>by omega)
  refine fR hi (aZ (λhb=>?_) (λhb=>?_))
  ·subst hb
   simp only [if_true] at he ih
   refine aF (aO (λh1=>?_) (λh1=>?_))
   ·refine lK (by omega) (by omega) (yE (by omega) (by omega) (λv hv=>?_))
    refine aO (λh2=>?_) (λh2=>?_)
    ·rw [aGR]
     refine lK (by omega) (by omega) ?_
     obtain ⟨t,et⟩:=Int.eq_ofNat_of_zero_le ht.1
     rw [et]
     refine aBt (by omega) (bS ?_)
     refine ih (q.1.set t left,true) ⟨by simpa using hq,?_⟩
     rw [aSS (by omega) (by rw [hv];exact h2),et] at he
     exact he
    ·refine bS (ih q ⟨hq,?_⟩)
     rw [aPc (by rw [hv];simp only [Option.getD_some];omega)] at he
     exact he
   ·refine bS (ih q ⟨hq,?_⟩)
    rw [aPc (by omega)] at he
    exact he
  ·subst hb
   exact bS (ih q ⟨hq,he⟩)
theorem aWs (hx : x∈code) (hh : h<0) : can fs x h=false:=by
 have hu:=F.u x hx
 simp only [can]
 rw [decide_eq_false (by omega)];rfl
theorem aMs {s : List Int} (hs : Hgt code.length s)
 (h : Ok P (rA (.lst (code.map eC.pv)) (.bool (yF fs code s).2) T (.lst (fs.map eJ.pv)) (fW (yF fs code s).1))) :
 Ok P (lU (.lst (code.map eC.pv)) (.bool false) (.lst (code.map eC.pv)) (.I code.length) (.I 0) T (.lst (fs.map eJ.pv)) (fW s)):=by
 have hn2:=F.n2
 have hnf:=F.nf
 refine aHc (n:=code.length) (F:=λi (q : Hs)=>lU (.lst (code.map eC.pv)) (.bool q.2) (.lst (code.map eC.pv)) (.I code.length) (.I i) T (.lst (fs.map eJ.pv)) (fW q.1))
  (λi q=>Hgt code.length q.1∧(List.range' i (code.length - i)).foldl (aDU fs code) q=yF fs code s) ?_ ?_ 0 (s,false) (by omega) ⟨hs,rfl⟩
 ·rintro q ⟨hq,he⟩
  rw [Nat.sub_self] at he
  have he : q=yF fs code s:=he
  subst he
  rw [aBk]
  exact aO (λh=>by omega) (λ_=>h)
 ·rintro i q hi ⟨hq,he⟩ ih
  have e1 : code.length - i=(code.length - (i+1))+1:=by omega
  rw [e1,List.range'_succ,List.foldl_cons] at he
  have hx : code[i]? = some code[i]:=List.getElem?_eq_getElem hi
  have hm : code[i]∈code:=List.getElem_mem _
  have hil : i<q.1.length:=by rw [hq.1];exact hi
  have hv:=hq.at i
  have e2 : q.1[i]=q.1[i]?.getD 0:=aKX hil
  have hone:=hq.one F i
  have hgo:=ih (aDU fs code q i) ⟨hone,he⟩
  have eo : aDU fs code q i=if can fs code[i] (q.1[i]?.getD 0) then (kI code[i] i).foldl (zU (mN fs code[i] (q.1[i]?.getD 0))) q else q:=by
   conv=>lhs;unfold aDU
   rw [hx]
  generalize hw : q.1[i]?.getD 0=w at *
  rw [aBk]
  refine aO (λ_=>?_) (λh=>by omega)
  refine aQ hi (λ_=>rfl) (dY ?_)
  refine lK (by omega) (by omega) (fR hil ?_)
  rw [e2]
  refine aO (λh1=>?_) (λh1=>?_)
  ·rw [aWs F hm h1,if_neg (by simp)] at eo
   rw [eo] at hgo
   exact bS hgo
  refine lK (by omega) (by omega) (fR hil ?_)
  rw [e2]
  refine aI (aN7 (T:=T) F hm hv) (λr hr=>?_)
  subst hr
  refine gZ (aI (aN4 (x:=code[i]) (by omega)) (λr hr=>?_))
  subst hr
  refine gU ?_
  refine aTR F hi (aEY F hm hi) (by unfold kI;repeat' split<;>simp) hq.1 ?_
  rw [← eo]
  exact hgo
theorem aTS : ∀ (j : Nat) (s : List Int),nn s≤j→Hgt code.length s→Ok (λr=>r = [fW (aIk fs code (j+1) s)]) (rA (.lst (code.map eC.pv)) (.bool true) T (.lst (fs.map eJ.pv)) (fW s)):=by
 intro j
 induction j with
 | zero=>
   intro s hs hg
   rw [qO]
   refine bF (aF (aMs F hg ?_))
   rcases Dec.pass F s with h | ⟨h,h2⟩
   ·unfold aIk
    rw [h,qO]
    exact bP (aA rfl)
   ·have h3 : nn (yF fs code s).1<nn s:=h2
    omega
 | succ j ih=>
   intro s hs hg
   rw [qO]
   refine bF (aF (aMs F hg ?_))
   rcases Dec.pass F s with h | ⟨h,h2⟩
   ·unfold aIk
    rw [h,qO]
    exact bP (aA rfl)
   ·rw [aIk,h,if_pos rfl]
    exact ih _ (by have h3 : nn (yF fs code s).1<nn s:=h2;omega) (hg.pass F)
theorem aTT (l : List Int) : PV.flatO (.own 1 8 false []) (fW l)=true:=by
 clear F
 show PV.flatEs false [] (l.map PV.I)=true
 induction l with
 | nil=>simp [PV.flatEs]
 | cons x r ih=>simp [PV.flatEs,PV.flatE,PV.flat,ih]
theorem aE2 {f : Nat} (hf : f<fs.length) (hc : fs[f].code=code) : Ok (λr=>r = [fW (oA fs code)]) (aBb (.agg [T,.lst (fs.map eJ.pv)]) (.I f)):=by
 have hn2:=F.n2
 have hn1:=F.n1
 rw [aL7]
 refine dY (aQ hf (λ_=>rfl) (aL (y:=.lst (code.map eC.pv)) (by rw [← hc];rfl) (aF ?_)))
 refine aI (aTQ hn1 (by omega)) (λr hr=>?_)
 subst hr
 refine gD (aTT F _) (lK (by omega) (by rw [List.length_replicate];omega) (aBt (i:=0) (by rw [List.length_replicate];omega) ?_))
 exact aTS F code.length _ (by have:=(Hgt.start (n:=code.length)).1;unfold nn;exact Nat.le_trans List.countP_le_length (by omega)) Hgt.start
end
theorem fO.okB_fit {m : fO} (h : m.okB=true) : 1≤m.funcs.length∧m.funcs.length≤12∧∀ f∈m.funcs,Fit m.funcs f.code∧0≤f.p∧f.p≤6∧f.p≤f.lc∧f.lc≤12:=by
 simp only [fO.okB,Bool.and_eq_true,bT,decide_eq_true_eq,List.all_eq_true,aAM] at h
 obtain ⟨⟨h1,h2⟩,_,_,h3⟩:=h
 have hp : ∀ i : Int,0≤iL m.funcs i∧iL m.funcs i≤6:=by
  intro i
  unfold iL
  cases hx : m.funcs[i.toNat]? with
  | none=>simp
  | some f=>exact (h3 f (List.mem_of_getElem? hx)).1
 refine ⟨by omega,by omega,λf hf=>?_⟩
 obtain ⟨p1,p2,p3,p4⟩:=h3 f hf
 refine ⟨⟨by omega,by omega,by omega,λx hx=>?_,λx hx hj=>?_⟩,p1.1,p1.2,p2.1,p2.2⟩
 ·have:=hp x.a
  unfold bU
  repeat' split
  all_goals (simp only;omega)
 ·have:=p4 x hx
  unfold eI at this
  rcases hj with hj | hj | hj<;>simp [hj,mA] at this<;>omega
end
noncomputable section
open Go Go.IntWalk
attribute [local irreducible] bd aV aE aH bE aS PV.cell PV.sub aB aK bV dG dL dQ cQ aD dM dB bR bA cG aN aX aC bM bC bD bK aW PV.deref bG cA aT dJ cJ cK dO PV.apply bL bO fK cC
variable {l s loc : List eR} {cs : R} {i n f pc : Int} {v : eR}
structure dC where
 f : Int
 pc : Int
 loc : List eR
 stk : List eR
def bI (l : List eR) : PV:=.lst (l.map eR.pv)
def dC.pv (f : dC) : PV:=.agg [.I f.f,.I f.pc,bI f.loc,bI f.stk]
def bQ (r : List eR) : PV:=.agg [bI r]
theorem xM : ∀ x∈l.map eR.pv,x.isEl 3 true=true:=by
 intro x hx
 obtain ⟨a,_,rfl⟩:=List.mem_map.1 hx
 rfl
section
variable {P : R → Prop} {k : PV → OR}
theorem dV {A : R} {s : Nat} (hi : i=A.length) (hs : cs.length=s) (h : Ok P (k (.agg cs))) : Ok P (bd (aB s true (.lst (A++[.agg cs])) (.I i)) k):=
 eZ _ (by
  subst hi
  simp only [aB]
  rw [gH,Int.toNat_natCast,List.getElem?_append_right (Nat.le_refl _),Nat.sub_self]
  simp only [List.getElem?_cons_zero]
  rw [if_pos (by simp [PV.isEl,hs])]) h
theorem eW {A : R} {s off : Nat} {v : PV} (hi : i=A.length) (hs : cs.length=s) (ho : off<s) (hv : v.isEl 1 false=true) (h : Ok P (k (.lst (A++[.agg (cs.set off v)])))) :
 Ok P (bd (aC s (.lst (A++[.agg cs])) (.I i) off v) k):=by
 subst hi
 refine kM (by omega) (cs:=cs) (by rw [Int.toNat_natCast,List.getElem?_append_right (Nat.le_refl _),Nat.sub_self];rfl) hs ho hv ?_
 rw [Int.toNat_natCast,List.set_append_right _ _ (Nat.le_refl _),Nat.sub_self]
 exact h
theorem uA (h0 : 0≤i) (h1 : i<l.length) (h : ∀ v,l[i.toNat]? = some v→Ok P (k v.pv)) : Ok P (bd (aB 3 true (bI l) (.I i)) k):=by
 refine aAk h0 (by rw [List.length_map];exact h1) xM (λx _ hx=>?_)
 rw [List.getElem?_map] at hx
 cases hl : l[i.toNat]? with
 | none=>rw [hl] at hx;cases hx
 | some v=>rw [hl] at hx;cases hx;exact h v hl
theorem bX (h : Ok P (k (.I l.length))) : Ok P (bd (aK (bI l)) k):=aF h
theorem gV (h0 : 0≤i) (h1 : i<l.length) (h : Ok P (k (bI l))) : Ok P (bd (aT (bI l) (.I i)) k):=eH h0 (by rw [List.length_map];exact h1) h
theorem lL {m : Int} (h0 : 0≤m) (h1 : m≤n) (h2 : n≤l.length) (h : Ok P (k (bI ((l.take n.toNat).drop m.toNat)))) : Ok P (bd (bA 3 true (bI l) (.I m) (.I n)) k):=by
 refine aCz h0 h1 (by rw [List.length_map];exact h2) xM ?_
 rw [← List.map_take,← List.map_drop]
 exact h
theorem nS {m : List eR} (hb : l.length+m.length≤1000000000) (h : Ok P (k (bI (l++m)))) : Ok P (bd (aN 3 32 true (bI l) (.lst (m.map eR.pv))) k):=by
 refine iT (by simp only [List.length_map];omega) xM ?_
 rw [← List.map_append]
 exact h
theorem uP (h0 : 0≤i) (h1 : i<l.length) (h : Ok P (k (bI (l.set i.toNat v)))) : Ok P (bd (aX 3 true (bI l) (.I i) v.pv) k):=by
 refine aD6 h0 (by rw [List.length_map];exact h1) rfl ?_
 rw [← List.map_set]
 exact h
theorem aBu (h0 : 0≤n) (h1 : n≤1000000000) (h : Ok P (k (bI (List.replicate n.toNat eQ)))) : Ok P (bd (bD 32 (.agg [.I 0,.I 0,.str (bs [])]) (.I n)) k):=by
 obtain ⟨m,rfl⟩:=Int.eq_ofNat_of_zero_le h0
 refine eZ _ ?_ h
 simp only [bD]
 rw [if_pos ⟨by omega,by omega,by omega⟩,Int.toNat_natCast,bI,List.map_replicate]
 rfl
end
section
variable {P : R → Prop} {k : R → OR} {a0 a1 a2 a3 a4 a5 a6 a7 a8 a9 H O : PV} {A : R}
theorem aE3 {x : PV} (hA : A.length≤2097152) (h : Ok P (k [.I A.length,a0,a1,a2,a3,a4,a5,a6,a7,a8,a9,.lst (A++[x]),H,O])) :
 Ok P (bd (gT a0 a1 a2 a3 a4 a5 a6 a7 a8 a9 (.lst (A++[x])) H O) k):=by
 refine aI (Q:=λr=>r = [.I A.length,a0,a1,a2,a3,a4,a5,a6,a7,a8,a9,.lst (A++[x]),H,O]) ?_ (λr hr=>by rw [hr];exact h)
 rw [aET]
 have e : ((A++[x]).length : Int) - 1=A.length:=by simp
 refine eS (iS (by simp;omega) ?_)
 rw [e]
 exact eH (by omega) (by simp;omega) (aA rfl)
theorem kO (hA : A.length≤2097152) (hs : s.length≤2097152)
 (h : Ok P (k [v.pv,a0,a1,a2,a3,a4,a5,a6,a7,a8,a9,.lst (A++[dC.pv ⟨f,pc,loc,s⟩]),H,O])) :
 Ok P (bd (bW a0 a1 a2 a3 a4 a5 a6 a7 a8 a9 (.lst (A++[dC.pv ⟨f,pc,loc,s++[v]⟩])) H O) k):=by
 refine aI (Q:=λr=>r = [v.pv,a0,a1,a2,a3,a4,a5,a6,a7,a8,a9,.lst (A++[dC.pv ⟨f,pc,loc,s⟩]),H,O]) ?_ (λr hr=>by rw [hr];exact h)
 rw [aHa]
 have e : ((s++[v]).length : Int) - 1=s.length:=by simp
 have hl : (s++[v]).length=s.length+1:=by simp
 have at3 : ∀ {P : R→Prop} {k : PV→OR},Ok P (k (bI (s++[v])))→Ok P (bd (aB 4 true (.lst (A++[dC.pv ⟨f,pc,loc,s++[v]⟩])) (.I A.length)) λx=>bd (PV.cell x 3) k):=
  λh=>dV rfl rfl (aL rfl h)
 have at_ : ∀ {P : R→Prop} {k : PV→OR},(∀ x,Ok P (k x))→Ok P (bd (aB 4 true (.lst (A++[dC.pv ⟨f,pc,loc,s++[v]⟩])) (.I A.length)) k):=
  λh=>dV rfl rfl (h _)
 have el : (s++[v])[(s.length : Int).toNat]? = some v:=by rw [Int.toNat_natCast,List.getElem?_append_right (Nat.le_refl _),Nat.sub_self];rfl
 refine aE3 hA (at_ (λ_=>at_ (λ_=>at3 (bX (dS ?_)))))
 rw [e]
 refine at3 (gV (by omega) (by omega) (at3 (uA (by omega) (by omega) (λw hw=>?_))))
 rw [el] at hw
 cases hw
 refine cB (at_ (λ_=>at_ (λ_=>at3 (bX (dS ?_)))))
 rw [e]
 refine at3 (lL (by omega) (by omega) (by omega) (at3 (lL (by omega) (by omega) (by omega) (at3 ?_))))
 refine eW rfl rfl (by omega) rfl (eW rfl rfl (by omega) rfl (aA ?_))
 simp only [Int.toNat_natCast,Int.toNat_zero,List.drop_zero,List.take_left']
 rfl
theorem aKY (hA : A.length≤2097152) (hs : s.length≤2097152)
 (h : Ok P (k [a0,a1,a2,a3,a4,a5,a6,a7,a8,a9,.lst (A++[dC.pv ⟨f,pc,loc,s++[v]⟩]),H,O])) :
 Ok P (bd (lN v.pv a0 a1 a2 a3 a4 a5 a6 a7 a8 a9 (.lst (A++[dC.pv ⟨f,pc,loc,s⟩])) H O) k):=by
 refine aI (Q:=λr=>r = [a0,a1,a2,a3,a4,a5,a6,a7,a8,a9,.lst (A++[dC.pv ⟨f,pc,loc,s++[v]⟩]),H,O]) ?_ (λr hr=>by rw [hr];exact h)
 rw [aFY]
 refine cB (aE3 hA ?_)
 refine dV rfl rfl (dV rfl rfl (aL rfl (dV rfl rfl (aL rfl ?_))))
 refine eW rfl rfl (by omega) rfl (nS (m:=[v]) (by simp;omega) (eW rfl rfl (by omega) rfl (aA rfl)))
theorem mB {vk vn : Int} {vs : ByteArray} (hA : A.length≤2097152) (hs : s.length≤2097152)
 (h : Ok P (k [a0,a1,a2,a3,a4,a5,a6,a7,a8,a9,.lst (A++[dC.pv ⟨f,pc,loc,s++[⟨vk,vn,vs⟩]⟩]),H,O])) :
 Ok P (bd (cO (.I vk) (.I vn) (.str vs) a0 a1 a2 a3 a4 a5 a6 a7 a8 a9 (.lst (A++[dC.pv ⟨f,pc,loc,s⟩])) H O) k):=by
 refine aI (Q:=λr=>r = [a0,a1,a2,a3,a4,a5,a6,a7,a8,a9,.lst (A++[dC.pv ⟨f,pc,loc,s++[⟨vk,vn,vs⟩]⟩]),H,O]) ?_ (λr hr=>by rw [hr];exact h)
 rw [aC5]
 refine aE3 hA ?_
 refine dV rfl rfl (dV rfl rfl (aL rfl (dV rfl rfl (aL rfl ?_))))
 refine eW rfl rfl (by omega) rfl (nS (m:=[⟨vk,vn,vs⟩]) (by simp;omega) (eW rfl rfl (by omega) rfl (aA rfl)))
end
variable {P : R → Prop} {g f pc : Int} {loc s s1 : List eR} {under : Bool}
inductive aIn where
 | trap (c : Int)
 | next (fr : dC) (hp : List (List eR)) (made : Int) (out : List ByteArray)
 | call (fr : dC) (g : dC)
 | ret (v : eR)
def kW (v : eR) (hp : List (List eR)) : ByteArray:=
 if v.k=0 then bs [110,105,108] else if v.k=1 then mK v.n else if v.k=2 then (if v.n=1 then bs [116,114,117,101] else bs [102,97,108,115,101]) else if v.k=3 then v.s
 else if v.k=5 then bs [102,117,110]++mK v.n
 else if v.k=4 then bs [123]++mK ((hp[v.n.toNat]?.getD []).length)++bs [125] else bs []
def aCp (fs : List eJ) (i : Int) : Int:=(fs[i.toNat]?.map eJ.lc).getD 0
def yP (fs : List eJ) (g : Int) (args : List eR) : dC:=⟨g,0,args++List.replicate ((aCp fs g).toNat - args.length) eQ,[]⟩
def fX (m : fO) (fr : dC) (took : List eR) (depth : Nat) (hp : List (List eR)) (made : Int) (out : List ByteArray) (x : eC) : aIn:=
 let a:=took.headD eQ
 let b:=took.tail.headD eQ
 let go : List eR→aIn:=λl=>.next ⟨fr.f,fr.pc,fr.loc,fr.stk++l⟩ hp made out
 let rec_ : List eR:=hp[a.n.toNat]?.getD []
 if x.o=1 then go [zR x.a]
 else if x.o=2 then go [rJ (decide (x.a=1))]
 else if x.o=3 then go [aDD (m.texts[x.a.toNat]?.getD (bs []))]
 else if x.o=4 then go [eQ]
 else if x.o=5 then go [aPa x.a]
 else if x.o=6 then go [fr.loc[x.a.toNat]?.getD eQ]
 else if x.o=7 then .next ⟨fr.f,fr.pc,fr.loc.set x.a.toNat a,fr.stk⟩ hp made out
 else if x.o=8 then go [a,a]
 else if x.o=9 then go []
 else if x.o=10 then go [b,a]
 else if x.o≤15 then (if (uT x.o a b).2≠0 then .trap (uT x.o a b).2 else go [(uT x.o a b).1])
 else if x.o=16 then (if (aCo a).2≠0 then .trap (aCo a).2 else go [(aCo a).1])
 else if x.o=17 then .next ⟨fr.f,x.a,fr.loc,fr.stk⟩ hp made out
 else if x.o≤19 then (if a.k≠2 then .trap 1 else if (decide (a.n=1)==decide (x.o=18))=true then .next ⟨fr.f,x.a,fr.loc,fr.stk⟩ hp made out else go [])
 else if x.o=20 then (if made=120 then .trap 7 else .next ⟨fr.f,fr.pc,fr.loc,fr.stk++[aTN hp.length]⟩ (hp++[List.replicate x.a.toNat eQ]) (made+1) out)
 else if x.o=21 then (if a.k≠4 then .trap 1 else if rec_.length≤x.a then .trap 4 else go [rec_[x.a.toNat]?.getD eQ])
 else if x.o=22 then (if a.k≠4 then .trap 1 else if rec_.length≤x.a then .trap 4 else .next fr (hp.set a.n.toNat (rec_.set x.a.toNat b)) made out)
 else if x.o=23 then (if a.k≠5 then .trap 1 else if iL m.funcs a.n≠x.a then .trap 5 else if depth=24 then .trap 6 else .call fr (yP m.funcs a.n took.tail))
 else if x.o=24 then (if depth=24 then .trap 6 else .call fr (yP m.funcs x.a took))
 else if x.o=25 then .ret a
 else if out.length=200 then .trap 8 else .next fr hp made (out++[kW a hp])
theorem aPe {v : eR} {hp : List (List eR)} {nf : Int} (hnf : nf≤1000) (hh : hp.length≤1000) (hr : ∀ r∈hp,r.length≤1000) (hv : cW nf hp.length v=true) :
 Ok (λr=>r = [.str (kW v hp)]) (aAB v.pv (.lst (hp.map bQ))):=by
 have hn : -1000000000≤v.n∧v.n≤1000000000∧(v.k=4→0≤v.n∧v.n<hp.length)∧0≤v.k∧v.k≤5:=by
  unfold cW at hv
  repeat' split at hv
  all_goals first
   | (cases hv;done)
   | (simp only [eM,bT,Bool.and_eq_true,decide_eq_true_eq] at hv;omega)
 rw [aH8]
 refine cB ?_
 refine aJ (λh=>aA ?_) (λh0=>aJ (λh=>?_) (λh1=>aJ (λh=>?_) (λh2=>aJ (λh=>aA ?_) (λh3=>aJ (λh=>?_) (λh5=>?_)))))
 ·unfold kW;rw [if_pos h]
 ·refine aI (aEX (by omega)) (λr hr=>?_)
  subst hr
  refine aA ?_
  unfold kW;rw [if_neg h0,if_pos h];rfl
 ·refine aJ (λh'=>aA ?_) (λh'=>aA ?_)
  ·unfold kW;rw [if_neg h0,if_neg h1,if_pos h,if_pos h']
  ·unfold kW;rw [if_neg h0,if_neg h1,if_pos h,if_neg h']
 ·unfold kW;rw [if_neg h0,if_neg h1,if_neg h2,if_pos h]
 ·refine aI (aEX (by omega)) (λr hr=>?_)
  subst hr
  have:=zT v.n
  refine tL (by have e : (bs [102,117,110]).size=3:=rfl
                omega) (aA ?_)
  unfold kW;rw [if_neg h0,if_neg h1,if_neg h2,if_neg h3,if_pos h]
 ·refine aJ (λh4=>?_) (λh4=>by omega)
  refine aF (dS (fP ?_))
  rw [show mA v.n 0 (hp.length - 1)=true from bT.2 (by omega)]
  refine bF ?_
  obtain ⟨i,hi⟩:=Int.eq_ofNat_of_zero_le (hn.2.2.1 h4).1
  have hil : i<hp.length:=by omega
  rw [hi]
  have hrl:=hr _ (List.getElem_mem hil)
  refine aQ hil (λ_=>rfl) (aL rfl (bX ?_))
  refine aI (aEX (by omega)) (λr hr=>?_)
  subst hr
  have:=zT ((hp[i].length : Nat) : Int)
  have e1 : (bs [123]).size=1:=rfl
  have e2 : (bs [125]).size=1:=rfl
  refine tL (by omega) (tL (by rw [ByteArray.size_append];omega) (aA ?_))
  unfold kW;rw [if_neg h0,if_neg h1,if_neg h2,if_neg h3,if_neg h5,if_pos h4,hi,Int.toNat_natCast,List.getElem?_eq_getElem hil]
  rfl
section
variable {a2 a3 a4 a5 a6 a7 a8 H O T : PV} {A : R} {fs : List eJ}
theorem aQE (hA : A.length≤1000) (h : P [T,.lst (fs.map eJ.pv),a2,a3,a4,a5,a6,a7,a8,.I 0,.lst (A++[dC.pv ⟨g,0,loc,[]⟩]),H,O]) :
 Ok P (nN (.I g) T (.lst (fs.map eJ.pv)) a2 a3 a4 a5 a6 a7 a8 (.I 0) (.lst A) H O (bI loc)):=by
 rw [aCk]
 refine bJ rfl (iT (by simp;omega) (λx hx=>by simp only [List.mem_singleton] at hx;subst hx;rfl) (aA h))
theorem aWt (hA : A.length≤100) (hs : s.length≤100) (hu : (under=true∧∃ w,s=s1++[w])∨(under=false∧s=s1)) :
 ∀ (j : Nat) (args post pre : List eR),args.length=j→pre.length=j→j+post.length≤50→
 P [T,.lst (fs.map eJ.pv),a2,a3,a4,a5,a6,a7,a8,.I 0,.lst (A++[dC.pv ⟨f,pc,loc,s1⟩]++[dC.pv ⟨g,0,args++post,[]⟩]),H,O]→
 Ok P (oK (.I g) (.bool under) (.I ((j : Int) - 1)) T (.lst (fs.map eJ.pv)) a2 a3 a4 a5 a6 a7 a8 (.I 0) (.lst (A++[dC.pv ⟨f,pc,loc,s++args⟩])) H O (bI (pre++post))):=by
 intro j
 induction j with
 | zero=>
   intro args post pre h1 h2 h3 h
   rw [List.eq_nil_of_length_eq_zero h1,List.nil_append] at h
   rw [List.eq_nil_of_length_eq_zero h1,List.eq_nil_of_length_eq_zero h2,List.append_nil,List.nil_append,vO]
   refine aCA (λh=>by omega) (λ_=>?_)
   rcases hu with ⟨rfl,w,rfl⟩ | ⟨rfl,rfl⟩
   ·refine bF (kO (by omega) (by simp at hs;omega) ?_)
    exact aQE (by simp;omega) h
   ·exact bP (aQE (by simp;omega) h)
 | succ j ih=>
   intro args post pre h1 h2 h3 h
   obtain ⟨args',v,rfl⟩ : ∃ l v,args=l++[v]:=⟨args.dropLast,args.getLast (λe=>by rw [e] at h1;simp at h1),(List.dropLast_concat_getLast _).symm⟩
   obtain ⟨pre',u,rfl⟩ : ∃ l v,pre=l++[v]:=⟨pre.dropLast,pre.getLast (λe=>by rw [e] at h2;simp at h2),(List.dropLast_concat_getLast _).symm⟩
   simp only [List.length_append,List.length_cons,List.length_nil,Nat.zero_add,Nat.add_right_cancel_iff] at h1 h2
   have ej : ((j+1 : Nat) : Int) - 1=j:=by omega
   rw [ej,vO,← List.append_assoc]
   refine aCA (λ_=>?_) (λh=>by omega)
   refine kO (by omega) (by simp;omega) ?_
   have hlen : (pre'++[u]++post).length=j+1+post.length:=by simp;omega
   refine gV (by omega) (by omega) (uP (by omega) (by omega) (dS ?_))
   have e : (pre'++[u]++post).set (j : Int).toNat v=pre'++(v::post):=by
    rw [Int.toNat_natCast,← h2,List.append_assoc,List.set_append_right _ _ (Nat.le_refl _),Nat.sub_self]
    rfl
   rw [e]
   refine ih args' (v::post) pre' h1 h2 (by simp;omega) ?_
   rw [show args'++v::post=args'++[v]++post by simp]
   exact h
theorem aQF {k : R→OR} {args : List eR} (hF : fs.length≤1000) (hpar : ∀ f∈fs,0≤f.p∧f.p≤6∧f.p≤f.lc∧f.lc≤12) (hA : A.length≤23) (hs : s.length≤100)
 (hu : (under=true∧∃ w,s=s1++[w])∨(under=false∧s=s1)) (hg : 0≤g∧g<fs.length) (ha : args.length=iL fs g)
 (h1 : A.length=23→Ok P (k [T,.lst (fs.map eJ.pv),a2,a3,a4,a5,a6,a7,a8,.I 6,.lst (A++[dC.pv ⟨f,pc,loc,s++args⟩]),H,O]))
 (h2 : A.length≠23→Ok P (k [T,.lst (fs.map eJ.pv),a2,a3,a4,a5,a6,a7,a8,.I 0,.lst (A++[dC.pv ⟨f,pc,loc,s1⟩]++[dC.pv (yP fs g args)]),H,O])) :
 Ok P (bd (rV (.I g) (.bool under) T (.lst (fs.map eJ.pv)) a2 a3 a4 a5 a6 a7 a8 (.I 0) (.lst (A++[dC.pv ⟨f,pc,loc,s++args⟩])) H O) k):=by
 obtain ⟨n,rfl⟩:=Int.eq_ofNat_of_zero_le hg.1
 have hn : n<fs.length:=by omega
 have hp:=hpar _ (List.getElem_mem hn)
 have ep : iL fs (n : Int)=fs[n].p:=by simp [iL,List.getElem?_eq_getElem hn]
 have el : aCp fs (n : Int)=fs[n].lc:=by simp [aCp,List.getElem?_eq_getElem hn]
 rw [ep] at ha
 have hl : ((A++[dC.pv ⟨f,pc,loc,s++args⟩]).length : Int)=A.length+1:=by simp
 refine aI (Q:=λr=>(A.length=23∧r = [T,.lst (fs.map eJ.pv),a2,a3,a4,a5,a6,a7,a8,.I 6,.lst (A++[dC.pv ⟨f,pc,loc,s++args⟩]),H,O])∨
  (A.length≠23∧r = [T,.lst (fs.map eJ.pv),a2,a3,a4,a5,a6,a7,a8,.I 0,.lst (A++[dC.pv ⟨f,pc,loc,s1⟩]++[dC.pv (yP fs n args)]),H,O])) ?_ ?_
 ·rw [aFZ]
  refine aQ hn (λ_=>rfl) (cB (eS ?_))
  refine aJ (λh=>aA (.inl ⟨by omega,rfl⟩)) (λh=>?_)
  refine aBu (by omega) (by omega) (aD7 (λ_=>?_) (λh=>by omega))
  refine aBu (by omega) (by omega) (dS ?_)
  have e1 : fs[n].p - 1=((args.length : Int)) - 1:=by omega
  have e2 : List.replicate fs[n].lc.toNat eQ=List.replicate args.length eQ++List.replicate (fs[n].lc.toNat - args.length) eQ:=by
   rw [List.replicate_append_replicate];congr 1;omega
  rw [e1,e2]
  refine aWt (by omega) hs hu args.length args _ _ rfl (by simp) (by simp;omega) (.inr ⟨by omega,?_⟩)
  simp only [yP,el]
 ·rintro r (⟨h,rfl⟩ | ⟨h,rfl⟩)
  ·exact h1 h
  ·exact h2 h
end
variable {nf recs : Int} {v : eR}
def aGi (v : eR) : List dC→List dC
 | []=>[]
 | [f]=>[⟨f.f,f.pc,f.loc,f.stk++[v]⟩]
 | f::g::r=>f::aGi v (g::r)
theorem aDc (v : eR) : ∀ (l : List dC) (f : dC),aGi v (l++[f])=l++[⟨f.f,f.pc,f.loc,f.stk++[v]⟩]
 | [],_=>rfl
 | [a],f=>rfl
 | a::b::l,f=>by
   show a::aGi v (b::l++[f])=_
   rw [aDc v (b::l) f]
   rfl
def DoR (a0 a1 made a3 a4 a5 a6 a7 a8 H O : PV) (fs0 : List dC) : aIn→R→Prop
 | .trap c,r=>c≠0∧gd r 9 = .I c
 | .next fr hp made' out,r=>r = [a0,a1,.I made',a3,a4,a5,a6,a7,a8,.I 0,.lst (fs0.map dC.pv++[fr.pv]),.lst (hp.map bQ),.lst (out.map PV.str)]
 | .call fr g,r=>r = [a0,a1,made,a3,a4,a5,a6,a7,a8,.I 0,.lst (fs0.map dC.pv++[fr.pv]++[g.pv]),H,O]
 | .ret v,r=>r=if fs0 = [] then [a0,a1,made,.I 1,a4,.I v.k,.I v.n,.str v.s,a8,.I 0,.lst [],H,O]
  else [a0,a1,made,a3,a4,a5,a6,a7,a8,.I 0,.lst ((aGi v fs0).map dC.pv),H,O]
structure aVa (m : fO) (fs0 : List dC) (fr : dC) (took : List eR) (hp : List (List eR)) (made : Int) (out : List ByteArray) : Prop where
 nf : m.funcs.length≤12
 nt : m.texts.length≤20
 par : ∀ f∈m.funcs,0≤f.p∧f.p≤6∧f.p≤f.lc∧f.lc≤12
 n0 : fs0.length≤23
 stks : ∀ f∈fs0,f.stk.length≤16
 nl : fr.loc.length≤12
 ns : fr.stk.length+took.length≤16
 recs : ∀ r∈hp,r.length≤6
 nh : hp.length≤120
 nm : 0≤made∧made≤120
 no : out.length≤200
 bI : ∀ v∈took,cW m.funcs.length hp.length v=true
theorem dE (h : cW nf recs v=true) : v.s.size≤60:=by
 by_cases h3 : v.k=3
 ·unfold cW at h
  rw [if_neg (λe=>e.1 h3),eV,eV,eV,if_pos h3] at h
  simp only [Bool.and_eq_true,fA,decide_eq_true_eq] at h
  omega
 ·unfold cW at h
  split at h
  ·cases h
  ·rename_i hn
   have he : kV v.s (bs [])=true:=by
    cases hs : kV v.s (bs []) with
    | true=>rfl
    | false=>exact absurd ⟨h3,hs⟩ hn
   have e0 : (bs []).toList = []:=by rw [Lib.toList_data];rfl
   unfold kV at he
   rw [e0] at he
   have hl : v.s.toList = []:=by simpa using he
   have hsz : v.s.size=v.s.toList.length:=by
    rw [Lib.toList_data,Array.length_toList]
    rfl
   rw [hsz,hl]
   simp
theorem aAc (h : cW nf recs v=true) (hk : v.k=4) : 0≤v.n∧v.n<recs:=by
 unfold cW at h
 by_cases hc : v.k≠3∧kV v.s (bs [])=false
 ·rw [if_pos hc] at h;cases h
 ·rw [if_neg hc,eV,eV,eV,eV,if_pos hk] at h
  simp only [Bool.and_eq_true,decide_eq_true_eq] at h
  exact h
theorem aJs (h : cW nf recs v=true) (hk : v.k=5) : 0≤v.n∧v.n<nf:=by
 unfold cW at h
 by_cases hc : v.k≠3∧kV v.s (bs [])=false
 ·rw [if_pos hc] at h;cases h
 ·rw [if_neg hc,eV,eV,eV,eV,eV,if_pos hk] at h
  have:=bT.1 h
  omega
theorem aAd {nt lc nc : Int} {x : eC} (h : eI nt nf lc nc x.o x.a=true) : (1≤x.o∧x.o≤26)∧(x.o=3→0≤x.a∧x.a<nt)∧((x.o=6∨x.o=7)→0≤x.a∧x.a<lc)∧(x.o=20→0≤x.a∧x.a≤6)∧
 ((x.o=21∨x.o=22)→0≤x.a∧x.a≤5)∧(x.o=23→0≤x.a∧x.a≤6)∧((x.o=5∨x.o=24)→0≤x.a∧x.a<nf)∧((x.o=17∨x.o=18∨x.o=19)→0≤x.a∧x.a<nc)∧(x.o=1→eM x.a=true):=by
 unfold eI at h
 by_cases h1 : x.o=1
 ·rw [if_pos h1] at h
  have h:=bT.1 h
  exact ⟨by omega,λ_=>by omega,λ_=>by omega,λ_=>by omega,λ_=>by omega,λ_=>by omega,λ_=>by omega,λ_=>by omega,λ_=>by first | (unfold eM;exact bT.2 (by omega)) | (exfalso;omega)⟩
 rw [if_neg h1] at h
 by_cases h2 : x.o=2
 ·rw [if_pos h2] at h
  have h:=bT.1 h
  exact ⟨by omega,λ_=>by omega,λ_=>by omega,λ_=>by omega,λ_=>by omega,λ_=>by omega,λ_=>by omega,λ_=>by omega,λ_=>by first | (unfold eM;exact bT.2 (by omega)) | (exfalso;omega)⟩
 rw [if_neg h2] at h
 by_cases h3 : x.o=3
 ·rw [if_pos h3] at h
  have h:=bT.1 h
  exact ⟨by omega,λ_=>by omega,λ_=>by omega,λ_=>by omega,λ_=>by omega,λ_=>by omega,λ_=>by omega,λ_=>by omega,λ_=>by first | (unfold eM;exact bT.2 (by omega)) | (exfalso;omega)⟩
 rw [if_neg h3] at h
 by_cases h5 : x.o=5
 ·rw [if_pos h5] at h
  have h:=bT.1 h
  exact ⟨by omega,λ_=>by omega,λ_=>by omega,λ_=>by omega,λ_=>by omega,λ_=>by omega,λ_=>by omega,λ_=>by omega,λ_=>by first | (unfold eM;exact bT.2 (by omega)) | (exfalso;omega)⟩
 rw [if_neg h5] at h
 by_cases h24 : x.o=24
 ·rw [if_pos h24] at h
  have h:=bT.1 h
  exact ⟨by omega,λ_=>by omega,λ_=>by omega,λ_=>by omega,λ_=>by omega,λ_=>by omega,λ_=>by omega,λ_=>by omega,λ_=>by first | (unfold eM;exact bT.2 (by omega)) | (exfalso;omega)⟩
 rw [if_neg h24] at h
 by_cases h6 : x.o=6
 ·rw [if_pos h6] at h
  have h:=bT.1 h
  exact ⟨by omega,λ_=>by omega,λ_=>by omega,λ_=>by omega,λ_=>by omega,λ_=>by omega,λ_=>by omega,λ_=>by omega,λ_=>by first | (unfold eM;exact bT.2 (by omega)) | (exfalso;omega)⟩
 rw [if_neg h6] at h
 by_cases h7 : x.o=7
 ·rw [if_pos h7] at h
  have h:=bT.1 h
  exact ⟨by omega,λ_=>by omega,λ_=>by omega,λ_=>by omega,λ_=>by omega,λ_=>by omega,λ_=>by omega,λ_=>by omega,λ_=>by first | (unfold eM;exact bT.2 (by omega)) | (exfalso;omega)⟩
 rw [if_neg h7] at h
 by_cases h17 : x.o=17
 ·rw [if_pos h17] at h
  have h:=bT.1 h
  exact ⟨by omega,λ_=>by omega,λ_=>by omega,λ_=>by omega,λ_=>by omega,λ_=>by omega,λ_=>by omega,λ_=>by omega,λ_=>by first | (unfold eM;exact bT.2 (by omega)) | (exfalso;omega)⟩
 rw [if_neg h17] at h
 by_cases h18 : x.o=18
 ·rw [if_pos h18] at h
  have h:=bT.1 h
  exact ⟨by omega,λ_=>by omega,λ_=>by omega,λ_=>by omega,λ_=>by omega,λ_=>by omega,λ_=>by omega,λ_=>by omega,λ_=>by first | (unfold eM;exact bT.2 (by omega)) | (exfalso;omega)⟩
 rw [if_neg h18] at h
 by_cases h19 : x.o=19
 ·rw [if_pos h19] at h
  have h:=bT.1 h
  exact ⟨by omega,λ_=>by omega,λ_=>by omega,λ_=>by omega,λ_=>by omega,λ_=>by omega,λ_=>by omega,λ_=>by omega,λ_=>by first | (unfold eM;exact bT.2 (by omega)) | (exfalso;omega)⟩
 rw [if_neg h19] at h
 by_cases h20 : x.o=20
 ·rw [if_pos h20] at h
  have h:=bT.1 h
  exact ⟨by omega,λ_=>by omega,λ_=>by omega,λ_=>by omega,λ_=>by omega,λ_=>by omega,λ_=>by omega,λ_=>by omega,λ_=>by first | (unfold eM;exact bT.2 (by omega)) | (exfalso;omega)⟩
 rw [if_neg h20] at h
 by_cases h21 : x.o=21
 ·rw [if_pos h21] at h
  have h:=bT.1 h
  exact ⟨by omega,λ_=>by omega,λ_=>by omega,λ_=>by omega,λ_=>by omega,λ_=>by omega,λ_=>by omega,λ_=>by omega,λ_=>by first | (unfold eM;exact bT.2 (by omega)) | (exfalso;omega)⟩
 rw [if_neg h21] at h
 by_cases h22 : x.o=22
 ·rw [if_pos h22] at h
  have h:=bT.1 h
  exact ⟨by omega,λ_=>by omega,λ_=>by omega,λ_=>by omega,λ_=>by omega,λ_=>by omega,λ_=>by omega,λ_=>by omega,λ_=>by first | (unfold eM;exact bT.2 (by omega)) | (exfalso;omega)⟩
 rw [if_neg h22] at h
 by_cases h23 : x.o=23
 ·rw [if_pos h23] at h
  have h:=bT.1 h
  exact ⟨by omega,λ_=>by omega,λ_=>by omega,λ_=>by omega,λ_=>by omega,λ_=>by omega,λ_=>by omega,λ_=>by omega,λ_=>by first | (unfold eM;exact bT.2 (by omega)) | (exfalso;omega)⟩
 rw [if_neg h23] at h
 simp only [Bool.and_eq_true,decide_eq_true_eq,bT] at h
 exact ⟨by omega,λ_=>by omega,λ_=>by omega,λ_=>by omega,λ_=>by omega,λ_=>by omega,λ_=>by omega,λ_=>by omega,λ_=>by first | (unfold eM;exact bT.2 (by omega)) | (exfalso;omega)⟩
end
end Go.Proofs.YtllmobkkbpdchaaGreatDoor
