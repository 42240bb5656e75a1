/-
  Texts of the proof, part 6: a value-level evaluator and its soundness, what the functions compute, laws about it.
  Conditions: none.
-/
import Derived.Test.YthkofpnllaapeaaGreatE
import Derived.ChangeArms
import Derived.DataReads
import Derived.Laws.Strings
set_option linter.all false
namespace Go.Proofs.YthkofpnllaapeaaGreat
noncomputable section
open Go Go.IntWalk
attribute [local irreducible] bd PV.ite PV.guardFlat PV.guardOwn PV.whole PV.one PV.cell PV.sub PV.at_ PV.len PV.slen PV.chr PV.beq PV.peq PV.ceq PV.bin PV.neg PV.not PV.conv PV.cut PV.scut PV.cat PV.setAt PV.setCell PV.ncopy PV.copyIn PV.zeros PV.toStr PV.toBytes PV.deref PV.isPtr PV.comp PV.inb PV.off PV.imin PV.imax PV.sel PV.apply PV.isLst PV.isInt PV.ix PV.nilT
structure aJr (m : eJ) (v : fN) (f : bT) (x : bK) (fr : bT) (hp : List (List bZ)) (made : Int) (out : List ByteArray) : Prop where
 ff : fr.f=f.f
 pc : fr.pc∈fI x f.pc
 loc : fr.loc.length=f.loc.length
 len : (fr.stk.length : Int)=gJ m.funcs x f.stk.length
 vl : ∀ y∈fr.loc,iZ m hp.length y
 vs : ∀ y∈fr.stk,iZ m hp.length y
 n : v.hp.length≤hp.length
 hpI : HpI m hp made out
structure aOr (m : eJ) (v : fN) (fs0 : List bT) (f : bT) (x : bK) (fr g : bT) : Prop where
 n : fs0.length+1<24
 o : x.o=23∨x.o=24
 frr : fr=⟨f.f,f.pc+1,f.loc,f.stk.take (f.stk.length - (dQ m.funcs x).1.toNat)⟩
 gg : ∃ i args,g=aGF m.funcs i args∧(0≤i∧i<m.funcs.length)∧(args.length : Int)=oL m.funcs i∧∀ y∈args,iZ m v.hp.length y
def aPl (m : eJ) (v : fN) (fs0 : List bT) (f : bT) (x : bK) : aH8→Prop
 | .trap _=>True
 | .next fr hp made out=>aJr m v f x fr hp made out
 | .call fr g=>aOr m v fs0 f x fr g
 | .ret a=>iZ m v.hp.length a
theorem aK8 {m : eJ} {n : Int} {l : List bZ} (h : ∀ y∈l,iZ m n y) (i : Nat) : iZ m n (l[i]?.getD fB):=by
 cases hx : l[i]? with
 | none=>exact mT
 | some y=>exact h y (List.mem_of_getElem? hx)
theorem aIb {m : eJ} {v : fN} (h : HpI m v.hp v.made v.out) (i : Nat) : (v.hp[i]?.getD []).length≤6∧∀ y∈v.hp[i]?.getD [],iZ m v.hp.length y:=by
 cases hx : v.hp[i]? with
 | none=>simp
 | some y=>exact h.recs y (List.mem_of_getElem? hx)
theorem aMW {m : eJ} {n : Int} {l : List bZ} (h : ∀ y∈l,iZ m n y) {y : bZ} (hy : iZ m n y) (i : Nat) : ∀ z∈l.set i y,iZ m n z:=by
 intro z hz
 rcases List.mem_or_eq_of_mem_set hz with h1 | rfl
 ·exact h z h1
 ·exact hy
theorem aIc {m : eJ} {n : Int} {a b : List bZ} (h : ∀ y∈a,iZ m n y) (h' : ∀ y∈b,iZ m n y) : ∀ y∈a++b,iZ m n y:=by
 intro y hy
 rcases List.mem_append.1 hy with h1 | h1
 ·exact h y h1
 ·exact h' y h1
theorem aHi {x : bK} {pc : Int} (h : x.o≠17∧x.o≠25) : pc+1∈fI x pc:=by simp [fI,h]
theorem aFZ {x : bK} {pc : Int} (h : x.o=17∨x.o=18∨x.o=19) : x.a∈fI x pc:=by unfold fI;rw [if_pos h];simp
section
variable {m : eJ} {v : fN} {fs0 : List bT} {f : bT} {x : bK}
theorem aMX (g : fC m) (h : VmI m v) (t : aGJ m v.hp.length f) (hx : nK m.funcs f=x) (hn : fs0.length+1≤24) : aPl m v fs0 f x (aHf m v fs0 f):=by
 obtain ⟨a1,a2,a3,a4,a5⟩:=g.at_ t.fi t.pc t.d
 have hi : qE m f.f f.pc=x:=hx
 rw [hi] at a1 a2 a4 a5
 have hh:=t.h
 rw [← hh] at a2 a3 a4
 rw [← t.loc] at a1
 have ib:=aHe a1
 show aPl m v fs0 f x (doT m ⟨f.f,f.pc+1,f.loc,f.stk.take (f.stk.length - (dQ m.funcs (nK m.funcs f)).1.toNat)⟩ (f.stk.drop (f.stk.length - (dQ m.funcs (nK m.funcs f)).1.toNat)) (fs0.length+1) v.hp v.made v.out (nK m.funcs f))
 rw [hx]
 generalize hb : f.stk.length - (dQ m.funcs x).1.toNat=b
 have hlt : ((f.stk.take b).length : Int)=f.stk.length - (dQ m.funcs x).1:=by rw [List.length_take];omega
 have hld : ((f.stk.drop b).length : Int)=(dQ m.funcs x).1:=by rw [List.length_drop];omega
 have kt : ∀ y∈f.stk.take b,iZ m v.hp.length y:=fun y hy=>t.vs y (List.mem_of_mem_take hy)
 have kd : ∀ y∈f.stk.drop b,iZ m v.hp.length y:=fun y hy=>t.vs y (List.mem_of_mem_drop hy)
 have hlef : gJ m.funcs x f.stk.length=f.stk.length - (dQ m.funcs x).1+(dQ m.funcs x).2:=rfl
 generalize htk : f.stk.take b=T at *
 generalize hdr : f.stk.drop b=D at *
 have ka : iZ m v.hp.length (D.headD fB):=by
  cases D with
  | nil=>exact mT
  | cons y r=>exact kd y (by simp)
 have kb : iZ m v.hp.length (D.tail.headD fB):=by
  cases D with
  | nil=>exact mT
  | cons y r=>cases r with
    | nil=>exact mT
    | cons z r=>exact kd z (by simp)
 have ktl : ∀ y∈D.tail,iZ m v.hp.length y:=fun y hy=>kd y (List.mem_of_mem_tail hy)
 have go : ∀ (l : List bZ) (pc : Int),pc∈fI x f.pc→(∀ y∈l,iZ m v.hp.length y)→(l.length : Int)=(dQ m.funcs x).2→aJr m v f x ⟨f.f,pc,f.loc,T++l⟩ v.hp v.made v.out:=fun l pc hpc hl hn=>
  ⟨rfl,hpc,rfl,by rw [hlef,List.length_append];omega,t.vl,aIc kt hl,Nat.le_refl _,h.hp⟩
 have go0 : ∀ pc : Int,pc∈fI x f.pc→(dQ m.funcs x).2=0→aJr m v f x ⟨f.f,pc,f.loc,T⟩ v.hp v.made v.out:=fun pc hpc hn=>by
  have:=go [] pc hpc (by simp) (by simp [hn])
  simpa using this
 have one : ∀ y,iZ m v.hp.length y→∀ z∈[y],iZ m v.hp.length z:=fun y hy z hz=>by rw [List.mem_singleton] at hz;rw [hz];exact hy
 have two : ∀ y y',iZ m v.hp.length y→iZ m v.hp.length y'→∀ z∈[y,y'],iZ m v.hp.length z:=fun y y' hy hy' z hz=>by
  simp only [List.mem_cons,List.not_mem_nil,or_false] at hz
  rcases hz with rfl | rfl
  ·exact hy
  ·exact hy'
 obtain ⟨⟨o1,o2⟩,i3,i67,i20,i21,i23,i5,ij,i1⟩:=ib
 have inc : x.o≠17→x.o≠25→f.pc+1∈fI x f.pc:=fun h1 h2=>aHi ⟨h1,h2⟩
 unfold doT
 simp only
 by_cases h1 : x.o=1
 ·rw [if_pos h1]
  exact go _ _ (inc (by omega) (by omega)) (one _ (aK6 (i1 h1))) (by simp [dQ,h1])
 rw [if_neg h1]
 by_cases h2 : x.o=2
 ·rw [if_pos h2]
  exact go _ _ (inc (by omega) (by omega)) (one _ aCv) (by simp [dQ,h2])
 rw [if_neg h2]
 by_cases h3 : x.o=3
 ·rw [if_pos h3]
  refine go _ _ (inc (by omega) (by omega)) (one _ (aJq ?_)) (by simp [dQ,h3])
  have hok:=g.ok
  simp only [eJ.okB,Bool.and_eq_true,bA,decide_eq_true_eq,List.all_eq_true] at hok
  have:=i3 h3
  rw [List.getElem?_eq_getElem (by omega)]
  exact hok.2.2.1 _ (List.getElem_mem _)
 rw [if_neg h3]
 by_cases h4 : x.o=4
 ·rw [if_pos h4]
  exact go _ _ (inc (by omega) (by omega)) (one _ mT) (by simp [dQ,h4])
 rw [if_neg h4]
 by_cases h5 : x.o=5
 ·rw [if_pos h5]
  exact go _ _ (inc (by omega) (by omega)) (one _ (aN1 (i5 (.inl h5)))) (by simp [dQ,h5])
 rw [if_neg h5]
 by_cases h6 : x.o=6
 ·rw [if_pos h6]
  exact go _ _ (inc (by omega) (by omega)) (one _ (aK8 t.vl _)) (by simp [dQ,h6])
 rw [if_neg h6]
 by_cases h7 : x.o=7
 ·rw [if_pos h7]
  exact ⟨rfl,inc (by omega) (by omega),by simp,by rw [hlef];simp only;rw [hlt];simp [dQ,h7],aMW t.vl ka _,kt,Nat.le_refl _,h.hp⟩
 rw [if_neg h7]
 by_cases h8 : x.o=8
 ·rw [if_pos h8]
  exact go _ _ (inc (by omega) (by omega)) (two _ _ ka ka) (by simp [dQ,h8])
 rw [if_neg h8]
 by_cases h9 : x.o=9
 ·rw [if_pos h9]
  exact go _ _ (inc (by omega) (by omega)) (by simp) (by simp [dQ,h9])
 rw [if_neg h9]
 by_cases h10 : x.o=10
 ·rw [if_pos h10]
  exact go _ _ (inc (by omega) (by omega)) (two _ _ kb ka) (by simp [dQ,h10])
 rw [if_neg h10]
 by_cases h15 : x.o≤15
 ·rw [if_pos h15]
  have hu : (dQ m.funcs x).2=1:=by
   have : x.o=11∨x.o=12∨x.o=13∨x.o=14∨x.o=15:=by omega
   rcases this with h | h | h | h | h<;>simp [dQ,h]
  split
  ·trivial
  ·exact go _ _ (inc (by omega) (by omega)) (one _ (aOI ka kb)) (by rw [hu];rfl)
 rw [if_neg h15]
 by_cases h16 : x.o=16
 ·rw [if_pos h16]
  split
  ·trivial
  ·refine go _ _ (inc (by omega) (by omega)) (one _ ?_) (by simp [dQ,h16])
   unfold aKr
   split
   ·exact mT
   ·exact aCv
 rw [if_neg h16]
 by_cases h17 : x.o=17
 ·rw [if_pos h17]
  exact go0 _ (aFZ (.inl h17)) (by simp [dQ,h17])
 rw [if_neg h17]
 by_cases h19 : x.o≤19
 ·rw [if_pos h19]
  have h89 : x.o=18∨x.o=19:=by omega
  have hu : (dQ m.funcs x).2=0:=by rcases h89 with h | h<;>simp [dQ,h]
  split
  ·trivial
  split
  ·exact go0 _ (aFZ (.inr h89)) hu
  ·exact go _ _ (inc (by omega) (by omega)) (by simp) (by rw [hu];rfl)
 rw [if_neg h19]
 by_cases h20 : x.o=20
 ·rw [if_pos h20]
  split
  ·trivial
  rename_i hm
  have hm0:=h.hp.made
  have hl : (v.hp++[List.replicate x.a.toNat fB]).length=v.hp.length+1:=by simp
  refine ⟨rfl,inc (by omega) (by omega),rfl,?_,fun y hy=>pK (by rw [hl];omega) (t.vl y hy),aIc (fun y hy=>pK (by rw [hl];omega) (kt y hy)) (fun y hy=>?_),by rw [hl];omega,⟨by rw [hl];omega,fun r hr=>?_,h.hp.out⟩⟩
  ·rw [hlef];simp only [List.length_append,List.length_singleton]
   have hu : (dQ m.funcs x).2=1:=by simp [dQ,h20]
   omega
  ·rw [List.mem_singleton] at hy
   rw [hy]
   exact aN0 (by rw [hl];omega)
  ·rcases List.mem_append.1 hr with hr | hr
   ·exact ⟨(h.hp.recs r hr).1,fun y hy=>pK (by rw [hl];omega) ((h.hp.recs r hr).2 y hy)⟩
   ·rw [List.mem_singleton] at hr
    rw [hr]
    have:=i20 h20
    refine ⟨by rw [List.length_replicate];omega,fun y hy=>?_⟩
    rw [List.eq_of_mem_replicate hy]
    exact mT
 rw [if_neg h20]
 by_cases h21 : x.o=21
 ·rw [if_pos h21]
  split
  ·trivial
  split
  ·trivial
  exact go _ _ (inc (by omega) (by omega)) (one _ (aK8 (aIb h.hp _).2 _)) (by simp [dQ,h21])
 rw [if_neg h21]
 by_cases h22 : x.o=22
 ·rw [if_pos h22]
  split
  ·trivial
  split
  ·trivial
  have hl : ∀ r,(v.hp.set (D.headD fB).n.toNat r).length=v.hp.length:=fun r=>List.length_set
  refine ⟨rfl,inc (by omega) (by omega),rfl,by rw [hlef];simp only;rw [hlt];simp [dQ,h22],fun y hy=>by rw [iZ,hl];exact t.vl y hy,fun y hy=>by rw [iZ,hl];exact kt y hy,by rw [hl];omega,⟨by rw [hl];exact h.hp.made,fun r hr=>?_,h.hp.out⟩⟩
  rw [hl]
  rcases List.mem_or_eq_of_mem_set hr with hr | hr
  ·exact h.hp.recs r hr
  ·rw [hr]
   exact ⟨by rw [List.length_set];exact (aIb h.hp _).1,aMW (aIb h.hp _).2 kb _⟩
 rw [if_neg h22]
 by_cases h23 : x.o=23
 ·rw [if_pos h23]
  have hxa:=i23 h23
  have hu : dQ m.funcs x=(x.a+1,1):=by
   have : 0≤x.a∧x.a≤6:=hxa
   simp [dQ,h23,this]
  rw [hu] at hld hb
  simp only at hld hb
  split
  ·trivial
  rename_i hk
  have hk : (D.headD fB).k=5:=by omega
  split
  ·trivial
  rename_i hp
  have hp : oL m.funcs (D.headD fB).n=x.a:=by omega
  split
  ·trivial
  rename_i hd
  refine ⟨?_,.inl h23,?_,_,_,rfl,aLY ka hk,by rw [List.length_tail,hp];omega,ktl⟩
  ·omega
  ·rw [← htk,← hb,hu]
 rw [if_neg h23]
 by_cases h24 : x.o=24
 ·rw [if_pos h24]
  have hxa:=i5 (.inr h24)
  have hu : dQ m.funcs x=(oL m.funcs x.a,1):=by
   have : 0≤x.a∧x.a<m.funcs.length:=hxa
   simp [dQ,h24,this]
  rw [hu] at hld hb
  simp only at hld hb
  split
  ·trivial
  rename_i hd
  refine ⟨?_,.inr h24,?_,_,_,rfl,hxa,hld,kd⟩
  ·omega
  ·rw [← htk,← hb,hu]
 rw [if_neg h24]
 by_cases h25 : x.o=25
 ·rw [if_pos h25]
  exact ka
 rw [if_neg h25]
 have h26 : x.o=26:=by omega
 split
 ·trivial
 rename_i ho
 have:=h.hp.out
 exact ⟨rfl,inc (by omega) (by omega),rfl,by rw [hlef];simp only;rw [hlt];simp [dQ,h26],t.vl,kt,Nat.le_refl _,⟨h.hp.made,h.hp.recs,by simp;omega⟩⟩
end
theorem aF0 {α : Type} {a b : List α} {x y : α} (h : a++[x]=b++[y]) : a=b∧x=y:=by
 have:=List.append_inj' h rfl
 exact ⟨this.1,by simpa using this.2⟩
theorem aEr.top {m : eJ} {n : Int} {f : bT} {a : bZ} (h : aEr m n f) (ha : iZ m n a) : aGJ m n ⟨f.f,f.pc,f.loc,f.stk++[a]⟩:=
 ⟨⟨h.fi,h.pc,h.loc,h.d,h.vl,aIc h.vs (fun y hy=>by rw [List.mem_singleton] at hy;rw [hy];exact ha)⟩,by
   have:=h.h
   simp only [List.length_append,List.length_singleton]
   omega⟩
theorem aMY {m : eJ} (g : fC m) {n i : Int} {args : List bZ} (hi : 0≤i∧i<m.funcs.length) (hn : (args.length : Int)=oL m.funcs i) (ha : ∀ y∈args,iZ m n y) : aGJ m n (aGF m.funcs i args):=by
 obtain ⟨k,hk,he,hc,F,p1,p2,p3,p4,hlc,hpar,hins⟩:=g.code hi
 have h0 : dAt m i 0=0:=by
  rw [dAt,hc,Int.toNat_zero,aJj F];rfl
 refine ⟨⟨hi,?_,?_,?_,?_,fun y hy=>by cases hy⟩,?_⟩
 ·show (0 : Int)≤0∧0<((dD m.funcs i).length : Int)
  have:=F.n1
  rw [hc];omega
 ·show ((args++List.replicate ((aFU m.funcs i).toNat - args.length) fB).length : Int)=aFU m.funcs i
  rw [List.length_append,List.length_replicate]
  omega
 ·show 0≤dAt m i 0
  omega
 ·refine aIc ha (fun y hy=>?_)
  rw [List.eq_of_mem_replicate hy]
  exact mT
 ·show ((0 : Nat) : Int)=dAt m i 0
  omega
theorem VmI.step {m : eJ} (g : fC m) {v : fN} (h : VmI m v) : VmI m (uQ m v):=by
 by_cases h0 : v.st≠0
 ·have : uQ m v=v:=by unfold uQ;rw [if_pos h0]
  rw [this];exact h
 have h0 : v.st=0:=by omega
 by_cases h5 : v.steps=50000
 ·have : uQ m v=v:=by unfold uQ;rw [if_neg (by omega),if_pos h5]
  rw [this];exact h
 obtain ⟨fs0,f,G⟩:=h.goes g h0
 obtain ⟨t,low⟩:=h.top fs0 f G.fr
 have hnf:=h.nfr
 rw [G.fr,List.length_append,List.length_singleton] at hnf
 have hst:=h.steps
 rw [aHg h0 h5 G.fr]
 have A:=aMX (fs0:=fs0) g h t rfl hnf
 obtain ⟨a1,a2,a3,a4,a5⟩:=g.at_ t.fi t.pc t.d
 have hh:=t.h
 have hx : qE m f.f f.pc=nK m.funcs f:=rfl
 rw [hx] at a1 a2 a4 a5
 cases ha : aHf m v fs0 f with
 | trap c=>
   exact ⟨h.hp,by show 0≤v.steps+1∧v.steps+1≤50000;omega,h.nfr,fun h=>absurd h (by show (2 : Int)≠0;omega),h.top⟩
 | next fr hp made out=>
   rw [ha] at A
   have A : aJr m v f (nK m.funcs f) fr hp made out:=A
   obtain ⟨b1,b2⟩:=a5 _ A.pc
   refine ⟨A.hpI,by show 0≤v.steps+1∧v.steps+1≤50000;omega,by show (fs0++[fr]).length≤24;rw [List.length_append,List.length_singleton];exact hnf,fun _=>by show fs0++[fr]≠[];simp,fun fs1 f1 he=>?_⟩
   obtain ⟨rfl,rfl⟩:=aF0 (show fs0++[fr]=fs1++[f1] from he)
   refine ⟨⟨⟨by rw [A.ff];exact t.fi,by rw [A.ff];exact b1,by rw [A.ff,A.loc];exact t.loc,by rw [A.ff,b2];have:=A.len;rw [hh] at this;omega,A.vl,A.vs⟩,by rw [A.len,A.ff,b2,hh]⟩,fun f hf=>(low f hf).mono (n':=(hp.length : Int)) (by have:=A.n;omega)⟩
 | call fr gg=>
   rw [ha] at A
   have A : aOr m v fs0 f (nK m.funcs f) fr gg:=A
   obtain ⟨i,args,rfl,hi,hn,hv⟩:=A.gg
   have hnx : f.pc+1∈fI (nK m.funcs f) f.pc:=aHi (by have:=A.o;omega)
   obtain ⟨b1,b2⟩:=a5 _ hnx
   have hu2 : (dQ m.funcs (nK m.funcs f)).2=1:=by
    have ib:=aHe a1
    rcases A.o with ho | ho
    ·have:=ib.2.2.2.2.2.1 ho
     simp [dQ,ho,this]
    ·have:=ib.2.2.2.2.2.2.1 (.inr ho)
     simp [dQ,ho,this]
   have hlef : gJ m.funcs (nK m.funcs f) (dAt m f.f f.pc)=dAt m f.f f.pc - (dQ m.funcs (nK m.funcs f)).1+(dQ m.funcs (nK m.funcs f)).2:=rfl
   refine ⟨h.hp,by show 0≤v.steps+1∧v.steps+1≤50000;omega,by show (fs0++[fr,aGF m.funcs i args]).length≤24;rw [List.length_append];have:=A.n;simp only [List.length_cons,List.length_nil];omega,fun _=>by show fs0++[fr,aGF m.funcs i args]≠[];simp,fun fs1 f1 he=>?_⟩
   have he : fs0++[fr,aGF m.funcs i args]=fs1++[f1]:=he
   rw [show fs0++[fr,aGF m.funcs i args]=(fs0++[fr])++[aGF m.funcs i args] by simp] at he
   obtain ⟨rfl,rfl⟩:=aF0 he
   refine ⟨aMY g hi hn hv,fun y hy=>?_⟩
   rcases List.mem_append.1 hy with hy | hy
   ·exact low y hy
   ·rw [List.mem_singleton] at hy
    rw [hy,A.frr]
    refine ⟨⟨t.fi,b1,t.loc,by show 0≤dAt m f.f (f.pc+1);rw [b2];omega,t.vl,fun y hy=>t.vs y (List.mem_of_mem_take hy)⟩,?_,?_⟩
    ·show 1≤f.pc+1∧0≤dAt m f.f (f.pc+1 - 1)∧((qE m f.f (f.pc+1 - 1)).o=23∨(qE m f.f (f.pc+1 - 1)).o=24)
     rw [show f.pc+1 - 1=f.pc by omega]
     exact ⟨by have:=t.pc;omega,t.d,A.o⟩
    ·show ((f.stk.take (f.stk.length - (dQ m.funcs (nK m.funcs f)).1.toNat)).length : Int)=dAt m f.f (f.pc+1) - 1
     rw [b2,List.length_take]
     omega
 | ret a=>
   rw [ha] at A
   have A : iZ m v.hp.length a:=A
   by_cases hf : fs0 = []
   ·have e : aL0 m v fs0 (.ret a)=⟨[],v.hp,v.made,v.out,1,v.tr,a,v.steps+1⟩:=if_pos hf
    rw [e]
    exact ⟨h.hp,by show 0≤v.steps+1∧v.steps+1≤50000;omega,by simp,fun h=>absurd h (by show (1 : Int)≠0;omega),fun fs1 f1 he=>by simp at he⟩
   ·have e : aL0 m v fs0 (.ret a)=⟨aDW a fs0,v.hp,v.made,v.out,v.st,v.tr,v.val,v.steps+1⟩:=if_neg hf
    rw [e]
    rcases List.eq_nil_or_concat fs0 with e0 | ⟨fs1,f1,e1⟩
    ·exact absurd e0 hf
    rw [List.concat_eq_append] at e1
    subst e1
    rw [aFV]
    simp only [List.length_append,List.length_singleton] at hnf
    refine ⟨h.hp,by show 0≤v.steps+1∧v.steps+1≤50000;omega,by simp only [List.length_append,List.length_singleton];omega,fun _=>by simp,fun fs2 f2 he=>?_⟩
    obtain ⟨rfl,rfl⟩:=aF0 he
    exact ⟨(low f1 (by simp)).top A,fun y hy=>low y (by simp [hy])⟩
end
noncomputable section
open Go
attribute [local irreducible] bd PV.ite PV.guardFlat PV.guardOwn PV.whole PV.one PV.cell PV.sub PV.at_ PV.len PV.slen PV.chr PV.beq PV.peq PV.ceq PV.bin PV.neg PV.not PV.conv PV.cut PV.scut PV.cat PV.setAt PV.setCell PV.ncopy PV.copyIn PV.zeros PV.toStr PV.toBytes PV.deref PV.isPtr PV.comp PV.inb PV.off PV.imin PV.imax PV.sel PV.apply PV.isLst PV.isInt PV.ix PV.nilT
def aPm (x : PV) : Prop:=∃ o a : Int,x = .agg [.int .i64 o,.int .i64 a]∧(-9223372036854775808≤o∧o≤9223372036854775807)∧(-9223372036854775808≤a∧a≤9223372036854775807)
def Cd (cs : List PV) : Prop:=∀ x∈cs,aPm x
theorem Cd.el {cs : List PV} (h : Cd cs) : ∀ x∈cs,x.isEl 2 true=true:=by
 intro x hx
 obtain ⟨o,a,rfl,_⟩:=h x hx
 rfl
theorem Cd.nil : Cd []:=fun x hx=>by cases hx
theorem Cd.append {a b : List PV} (h : Cd a) (k : Cd b) : Cd (a++b):=fun x hx=>(List.mem_append.1 hx).elim (h x) (k x)
theorem Cd.one {o a : Int} (h : -9223372036854775808≤o∧o≤9223372036854775807) (k : -9223372036854775808≤a∧a≤9223372036854775807) : Cd [.agg [.int .i64 o,.int .i64 a]]:=by
 intro x hx
 simp only [List.mem_singleton] at hx
 exact ⟨o,a,hx,h,k⟩
section
variable {P : R → Prop} {k : R → Option R}
end
def aPI : PV→Bool
 | .int .i64 n=>decide (-1000000000≤n)&&decide (n≤1000000000)
 | _=>false
def aId (x : PV) : Prop:=∃ p lc : Int,∃ cs : List PV,x = .agg [.int .i64 p,.int .i64 lc,.lst cs]∧(0≤p∧p≤2)∧(0≤lc∧lc≤100)∧Cd cs∧1≤(cs.length : Int)∧(cs.length : Int)≤100000000
structure Asm (l : List Int) (fs : List PV) (t lc : Int) : Prop where
 hl : Bts l
 hf : ∀ x∈fs,aId x
 hn : fs.length≤1000
 ht : 0≤t∧t≤1000
 hlc : 1≤lc∧lc≤1000
theorem aId.el {fs : List PV} (h : ∀ x∈fs,aId x) : ∀ x∈fs,x.isEl 3 true=true:=by
 intro x hx
 obtain ⟨p,lc,cs,rfl,_⟩:=h x hx
 rfl
def aPJ (l : List Int) (fs : List PV) (t lc : Int) (mn : PV) (A B0 B : Int) (r : R) : Prop:=∃ a s : Int,∃ cs : List PV,r = [.lst fs,.int .i64 t,.int .i64 lc,mn,wW l,.int .i64 a,.int .i64 s,.lst cs]∧0≤a∧a≤A∧0≤s∧s<65521∧B0≤cs.length∧(cs.length : Int)≤B∧Cd cs
def aMZ (l : List Int) (fs : List PV) (t lc : Int) (mn : PV) (c : Int) (f : PV→PV→PV→PV→PV→PV→PV→PV→Option R) : Prop:=
 ∀ (a s : Int) (cs : List PV),0≤a∧a+c≤1000000000∧0≤s∧s<65521→(cs.length : Int)+c≤1000000000→Cd cs→
   Ok (aPJ l fs t lc mn (a+c) cs.length (cs.length+c)) (f (.lst fs) (.int .i64 t) (.int .i64 lc) mn (wW l) (.int .i64 a) (.int .i64 s) (.lst cs))
section
variable {P : R → Prop} {k : R → Option R} {l : List Int} {fs : List PV} {t lc : Int} {mn : PV}
theorem aMZ.mono {c c' : Int} {f : PV→PV→PV→PV→PV→PV→PV→PV→Option R} (H : aMZ l fs t lc mn c f) (hc : 0≤c∧c≤c') : aMZ l fs t lc mn c' f:=by
 intro a s cs h0 hl hcs
 refine (H a s cs (by omega) (by omega) hcs).mono ?_
 rintro r ⟨a',s',cs',hr,h1,h2,h3,h4,h5,h6,h7⟩
 exact ⟨a',s',cs',hr,h1,by omega,h3,h4,h5,by omega,h7⟩
section
def Par (fs : List PV) (i p : Int) : Prop:=0≤i∧i<fs.length∧(0≤p∧p≤2)∧∃ q r : PV,fs[i.toNat]? = some (.agg [.int .i64 p,q,r])
end
end
section
variable {l : List Int} {fs : List PV} {t lc : Int} {mn : PV}
section
end
section
end
end
def aF1 (x : PV) : Prop:=∃ b : ByteArray,x = .str b∧b.size≤1000
theorem aF1.el {ts : List PV} (h : ∀ x∈ts,aF1 x) : ∀ x∈ts,x.isEl 1 false=true:=by
 intro x hx
 obtain ⟨b,rfl,_⟩:=h x hx
 rfl
def aPK (l : List Int) (A : Int) (r : R) : Prop:=∃ a s : Int,∃ ts fs : List PV,r = [.agg [.lst ts,.lst fs],wW l,.int .i64 a,.int .i64 s]∧0≤a∧a≤A∧0≤s∧s<65521∧(∀ x∈ts,aF1 x)∧ts.length≤10∧(∀ x∈fs,aId x)∧1≤fs.length∧fs.length≤10
section
variable {l : List Int} (hl : Bts l) {ts : List PV} (hts : ∀ x ∈ ts, aF1 x) (htn : ts.length ≤ 10)
include hl hts htn
end
def aDX (x : PV) : Prop:=∃ p lc : Int,∃ cs : List PV,x = .agg [.int .i64 p,.int .i64 lc,.lst cs]∧(-9223372036854775808≤p∧p≤9223372036854775807)∧(-9223372036854775808≤lc∧lc≤9223372036854775807)∧Cd cs∧(cs.length : Int)≤200000000
theorem aDX.el {fs : List PV} (h : ∀ x∈fs,aDX x) : ∀ x∈fs,x.isEl 3 true=true:=by
 intro x hx
 obtain ⟨p,lc,cs,rfl,_⟩:=h x hx
 rfl
def aPT (l : List Int) (A : Int) (r : R) : Prop:=∃ a s : Int,∃ ts fs : List PV,r = [.agg [.lst ts,.lst fs],wW l,.int .i64 a,.int .i64 s]∧0≤a∧a≤A∧0≤s∧s<65521∧(∀ x∈ts,aF1 x)∧ts.length≤100∧(∀ x∈fs,aDX x)∧fs.length≤100∧1≤fs.length
theorem aDX.set {fs : List PV} (hf : ∀ x∈fs,aDX x) {i : Nat} {y : PV} (hy : aDX y) : ∀ x∈fs.set i y,aDX x:=by
 intro x hx
 rcases List.mem_or_eq_of_mem_set hx with h | h
 ·exact hf x h
 ·rw [h];exact hy
section
variable {l : List Int} (hl : Bts l) {ts : List PV} (ht : ∀ x ∈ ts, aF1 x) (htn : ts.length ≤ 20)
include hl ht htn
end
def aPO (x : PV) : Prop:=∃ ts fs : List PV,x = .agg [.lst ts,.lst fs]∧(∀ x∈ts,aF1 x)∧ts.length≤100∧(∀ x∈fs,aDX x)∧fs.length≤100∧1≤fs.length
def Byt (l : List Int) : Prop:=∀ x∈l,0≤x∧x≤255
end
noncomputable section
open Go Go.IntWalk
attribute [local irreducible] bd PV.ite PV.guardFlat PV.guardOwn PV.whole PV.one PV.cell PV.sub PV.at_ PV.len PV.slen PV.chr PV.beq PV.peq PV.ceq PV.bin PV.neg PV.not PV.conv PV.cut PV.scut PV.cat PV.setAt PV.setCell PV.ncopy PV.copyIn PV.zeros PV.toStr PV.toBytes PV.deref PV.isPtr PV.comp PV.inb PV.off PV.imin PV.imax PV.sel PV.apply PV.isLst PV.isInt PV.ix PV.nilT
def aAp (m : eJ) : Bool:=m.okB&&(bad m.funcs).isNone
theorem aF2 {m : eJ} (hs : m.sized) (h : aAp m=true) : fC m:=by
 simp only [aAp,Bool.and_eq_true,Option.isNone_iff_eq_none] at h
 exact ⟨hs,h.1,h.2⟩
theorem aL5 {fs : List cG} {code : List bK} {d : List Int} {pc : Nat} {c : Int} (h : aCt fs code d pc=some c) : c≠0:=by
 unfold aCt at h
 repeat' split at h
 all_goals first
  | (cases h;done)
  | (injection h with h;omega)
theorem aJs {fs : List cG} {c : Int} {f pc : Nat} (h : bad fs=some (c,f,pc)) : c≠0:=by
 unfold bad at h
 obtain ⟨i,_,h⟩:=List.exists_of_findSome?_eq_some h
 unfold aHh at h
 split at h
 ·obtain ⟨j,_,h⟩:=List.exists_of_findSome?_eq_some h
  unfold aA9 at h
  simp only [Option.map_eq_some_iff] at h
  obtain ⟨c',h1,h2⟩:=h
  injection h2 with h2 h3
  rw [← h2]
  exact aL5 h1
 ·cases h
section
variable {P : R → Prop} {k : R → Option R}
theorem aK9 {m : eJ} (hs : m.sized) (h : Ok P (k [.bool (aAp m)])) : Ok P (bd (xC m.pv) k):=by
 refine aF (Q:=fun r=>r = [.bool (aAp m)]) ?_ (fun r hr=>by rw [hr];exact h)
 rw [aEe]
 refine aH rfl (aA rfl (aA rfl (aF (aJo hs) (fun r hr=>?_))))
 subst hr
 show Ok _ (bd (PV.cell m.verify 0) _)
 unfold eJ.verify aAp
 cases ho : m.okB with
 | false=>exact aA (y:=.int .i64 1) rfl (aM (aB rfl))
 | true=>
   simp only [if_true,Bool.true_and]
   cases hb : bad m.funcs with
   | none=>exact aA (y:=.int .i64 0) rfl (aM (aB rfl))
   | some p=>
     obtain ⟨c,f,pc⟩:=p
     have:=aJs hb
     refine aA (y:=.int .i64 c) rfl (aM (aB ?_))
     rw [decide_eq_false this];rfl
theorem aJt {m : eJ} (hs : m.sized) (h : Ok P (k [.bool (aAp m)])) : Ok P (bd (zT m.pv) k):=by
 refine aF (Q:=fun r=>r = [.bool (aAp m)]) ?_ (fun r hr=>by rw [hr];exact h)
 rw [aFC]
 refine aH rfl (aA rfl (aA rfl (aF (aJp hs) (fun r hr=>?_))))
 subst hr
 show Ok _ (bd (PV.whole 3 m.verify) _)
 have eq : ∀ a b c : Int,(PV.ceq [1,1,1] .eql (.agg [.int .i64 a,.int .i64 b,.int .i64 c]) (.agg [.int .i64 0,.int .i64 0,.int .i64 0]))=some (.bool (decide (a=0)&&(decide (b=0)&&decide (c=0)))):=by
  intro a b c
  simp [PV.ceq,PV.eqCells,PV.eqScalar,PV.eqOr]
  rfl
 unfold eJ.verify aAp
 cases ho : m.okB with
 | false=>exact aH (cs:=[.int .i64 1,.int .i64 0,.int .i64 0]) rfl (aA rfl (aA rfl (aA rfl (dR _ (eq _ _ _) (aB rfl)))))
 | true=>
   simp only [if_true,Bool.true_and]
   cases hb : bad m.funcs with
   | none=>exact aH (cs:=[.int .i64 0,.int .i64 0,.int .i64 0]) rfl (aA rfl (aA rfl (aA rfl (dR _ (eq _ _ _) (aB rfl)))))
   | some p=>
     obtain ⟨c,f,pc⟩:=p
     have:=aJs hb
     refine aH (cs:=[.int .i64 c,.int .i64 f,.int .i64 pc]) rfl (aA rfl (aA rfl (aA rfl (dR _ (eq _ _ _) (aB ?_)))))
     rw [decide_eq_false this];rfl
end
section
variable {P : R → Prop} {m : eJ}
theorem wF {kp : PV→Option R} {i : Int} (h0 : 0≤i∧i<m.funcs.length) (h : Ok P (kp (.agg [.int .i64 (oL m.funcs i),.int .i64 (aFU m.funcs i),.lst ((dD m.funcs i).map bK.pv)]))) : Ok P (bd (PV.at_ 3 true (.lst (m.funcs.map cG.pv)) (.int .i64 i)) kp):=by
 obtain ⟨j,rfl⟩:=Int.eq_ofNat_of_zero_le h0.1
 have hj : j<m.funcs.length:=by omega
 refine aN hj (fun _=>rfl) ?_
 have e1 : dD m.funcs j=m.funcs[j].code:=by simp [dD,List.getElem?_eq_getElem hj]
 have e2 : oL m.funcs j=m.funcs[j].p:=by simp [oL,List.getElem?_eq_getElem hj]
 have e3 : aFU m.funcs j=m.funcs[j].lc:=by simp [aFU,List.getElem?_eq_getElem hj]
 rw [e1,e2,e3] at h
 exact h
def vmZ : fN:=⟨[],[],0,[],0,0,fB,0⟩
end
def aPn (m : eJ) : Nat→fN→fN
 | 0,v=>v
 | n+1,v=>aPn m n (uQ m v)
def aOJ (m : eJ) (args : List bZ) : fN:=⟨[aGF m.funcs 0 args],[],0,[],0,0,fB,0⟩
def aOK (m : eJ) (args : List bZ) : Bool:=aAp m&&(decide ((args.length : Int)=oL m.funcs 0)&&args.all (cD m.funcs.length 0))
def aPL (m : eJ) (args : List bZ) (fuel : Int) : Bool:=aOK m args&&jK fuel 0 50000
def aPU (m : eJ) (args : List bZ) (fuel : Int) : fN:=if aPL m args fuel then aPn m fuel.toNat (aOJ m args) else vmZ
theorem aKy {m : eJ} {v : fN} (h : v.st≠0) : uQ m v=v:=by unfold uQ;rw [if_pos h]
section
variable {P : R → Prop} {k : R → Option R}
end
section
variable {P : R → Prop} {k : R → Option R}
end
section
variable {P : R → Prop} {k : PV → Option R} {kk : IntKind} {a b : List PV} {x v : PV} {n : Int} {s : Nat} {g : Bool}
theorem aLa (a : List PV) (x y : PV) (b : List PV) : (a++x::b).set a.length y=a++y::b:=by
 induction a with
 | nil=>rfl
 | cons c r ih=>simp [ih]
theorem aG (hn : n=a.length) (he : x.isEl s g=true) (h : Ok P (k x)) : Ok P (bd (PV.at_ s g (.lst (a++x::b)) (.int kk n)) k):=
 aBp (by omega) (by rw [hn,Int.toNat_natCast];simp) he h
theorem bF (hn : n=a.length) (h : Ok P (k (.lst (a++x::b)))) : Ok P (bd (PV.inb (.lst (a++x::b)) (.int kk n)) k):=
 aKm (by omega) (by simp;omega) h
theorem jJ (hn : n=a.length) (hv : v.isEl s g=true) (h : Ok P (k (.lst (a++v::b)))) : Ok P (bd (PV.setAt s g (.lst (a++x::b)) (.int kk n) v) k):=by
 refine aJd (by omega) (by simp;omega) hv ?_
 rw [hn,Int.toNat_natCast,aLa];exact h
theorem aR {cs : List PV} {off : Nat} (hn : n=a.length) (hc : cs.length=s) (ho : off<s) (hv : v.isEl 1 false=true) (h : Ok P (k (.lst (a++.agg (cs.set off v)::b)))) :
 Ok P (bd (PV.setCell s (.lst (a++.agg cs::b)) (.int kk n) off v) k):=by
 refine aKo (cs:=cs) (by omega) (by rw [hn,Int.toNat_natCast];simp) hc ho hv ?_
 rw [hn,Int.toNat_natCast,aLa];exact h
end
section
variable {α : Type} {f : α → PV}
theorem wG {z0 : PV} {F : PV→PV→PV→Option R}
 (hend : ∀ (xs : List PV) (out : PV),Ok (fun r=>r = [out]) (F (.lst xs) (.int .i64 xs.length) out))
 (hstep : ∀ (a : List PV) (z : α) (b c : List PV) (Q : R→Prop),a.length+b.length<2305843009213693952→Ok Q (F (.lst (a++f z::b)) (.int .i64 (a.length+1)) (.lst (a++f z::c)))→
  Ok Q (F (.lst (a++f z::b)) (.int .i64 a.length) (.lst (a++z0::c)))) {l : List α} (hl : l.length≤2305843009213693952) :
 Ok (fun r=>r = [.lst (l.map f)]) (F (.lst (l.map f)) (.int .i64 0) (.lst (l.map fun _=>z0))):=by
 have key : ∀ (r d : List α),d.length+r.length≤2305843009213693952→Ok (fun q=>q = [.lst (d.map f++r.map f)]) (F (.lst (d.map f++r.map f)) (.int .i64 d.length) (.lst (d.map f++r.map fun _=>z0))):=by
  intro r
  induction r with
  | nil=>
    intro d _
    have:=hend (d.map f) (.lst (d.map f))
    rw [List.length_map] at this
    simpa using this
  | cons z r ih=>
    intro d hd
    have h1:=ih (d++[z]) (by simp at hd ⊢;omega)
    have h2:=hstep (d.map f) z (r.map f) (r.map fun _=>z0) (fun q=>q = [.lst (d.map f++f z::r.map f)]) (by simp at hd ⊢;omega) (by
     simp only [List.length_map]
     simpa using h1)
    simpa using h2
 simpa using key l [] (by simpa using hl)
def dE (m : Int→α→α) (c : α→Nat) : Int→List α→List α
 | _,[]=>[]
 | q,z::r=>m q z::dE m c (q+c z) r
def bO (c : α→Nat) (l : List α) : Nat:=(l.map c).sum
theorem nL {m : Int→α→α} {c : α→Nat} {wrap : List PV→PV} {F : PV→PV→PV→Option R}
 (hend : ∀ (xs : List PV) (q : PV),Ok (fun r=>r = [q,wrap xs]) (F q (.int .i64 xs.length) (wrap xs)))
 (hstep : ∀ (a : List PV) (z : α) (b : List PV) (q : Int) (Q : R→Prop),a.length+b.length<2305843009213693952→1≤q→q+c z≤2305843009213693952→Ok Q (F (.int .i64 (q+c z)) (.int .i64 (a.length+1)) (wrap (a++f (m q z)::b)))→
  Ok Q (F (.int .i64 q) (.int .i64 a.length) (wrap (a++f z::b)))) {l : List α} {q : Int} (hl : l.length≤2305843009213693952) (h1 : 1≤q) (hq : q+bO c l≤2305843009213693952) :
 Ok (fun r=>r = [.int .i64 (q+bO c l),wrap ((dE m c q l).map f)]) (F (.int .i64 q) (.int .i64 0) (wrap (l.map f))):=by
 have key : ∀ (r d : List α) (q : Int),d.length+r.length≤2305843009213693952→1≤q→q+bO c r≤2305843009213693952→Ok (fun t=>t = [.int .i64 (q+bO c r),wrap (d.map f++(dE m c q r).map f)]) (F (.int .i64 q) (.int .i64 d.length) (wrap (d.map f++r.map f))):=by
  intro r
  induction r with
  | nil=>
    intro d q _ _ _
    have:=hend (d.map f) (.int .i64 q)
    rw [List.length_map] at this
    simpa [bO,dE] using this
  | cons z r ih=>
    intro d q hd h1 hq
    have e : bO c (z::r)=c z+bO c r:=by simp [bO]
    rw [e] at hq ⊢
    have h2:=ih (d++[m q z]) (q+c z) (by simp at hd ⊢;omega) (by omega) (by omega)
    have h3:=hstep (d.map f) z (r.map f) q (fun t=>t = [.int .i64 (q+(c z+bO c r : Nat)),wrap (d.map f++f (m q z)::(dE m c (q+c z) r).map f)]) (by simp at hd ⊢;omega) h1 (by omega) (by
     simp only [List.length_map]
     have e2 : q+((c z+bO c r : Nat) : Int)=q+c z+bO c r:=by omega
     rw [e2]
     simpa using h2)
    simpa [dE] using h3
 have:=key l [] q (by simpa using hl) h1 hq
 simpa using this
theorem aAM {m : Int→α→α} {c : α→Nat} {F : PV→PV→PV→Option R}
 (hend : ∀ (xs : List PV) (q : PV),Ok (fun r=>r = [q]) (F (.lst xs) q (.int .i64 xs.length)))
 (hstep : ∀ (a : List PV) (z : α) (b : List PV) (q : Int) (Q : R→Prop),a.length+b.length<2305843009213693952→1≤q→q+c z≤2305843009213693952→Ok Q (F (.lst (a++f (m q z)::b)) (.int .i64 (q+c z)) (.int .i64 (a.length+1)))→
  Ok Q (F (.lst (a++f (m q z)::b)) (.int .i64 q) (.int .i64 a.length))) {l : List α} {q : Int} (hl : l.length≤2305843009213693952) (h1 : 1≤q) (hq : q+bO c l≤2305843009213693952) :
 Ok (fun r=>r = [.int .i64 (q+bO c l)]) (F (.lst ((dE m c q l).map f)) (.int .i64 q) (.int .i64 0)):=by
 have key : ∀ (r : List α) (d : List PV) (q : Int),d.length+r.length≤2305843009213693952→1≤q→q+bO c r≤2305843009213693952→Ok (fun t=>t = [.int .i64 (q+bO c r)]) (F (.lst (d++(dE m c q r).map f)) (.int .i64 q) (.int .i64 d.length)):=by
  intro r
  induction r with
  | nil=>
    intro d q _ _ _
    have:=hend d (.int .i64 q)
    simpa [bO,dE] using this
  | cons z r ih=>
    intro d q hd h1 hq
    have e : bO c (z::r)=c z+bO c r:=by simp [bO]
    rw [e] at hq ⊢
    have h2:=ih (d++[f (m q z)]) (q+c z) (by simp at hd ⊢;omega) (by omega) (by omega)
    have hlen : ∀ q,(dE m c q r).length=r.length:=by
     intro q
     clear ih h2 hq h1 e hd
     induction r generalizing q with
     | nil=>rfl
     | cons a r ih=>simp [dE,ih]
    have h3:=hstep d z ((dE m c (q+c z) r).map f) q (fun t=>t = [.int .i64 (q+(c z+bO c r : Nat))]) (by simp [hlen] at hd ⊢;omega) h1 (by omega) (by
     have e2 : q+((c z+bO c r : Nat) : Int)=q+c z+bO c r:=by omega
     rw [e2]
     simpa using h2)
    simpa [dE] using h3
 have:=key l [] q (by simpa using hl) h1 hq
 simpa using this
theorem aAN {F : PV→PV→PV→Option R}
 (hend : ∀ (xs : List PV),Ok (fun r=>r = [.bool true]) (F (.lst xs) (.lst xs) (.int .i64 xs.length)))
 (hstep : ∀ (a : List PV) (z : α) (b : List PV) (Q : R→Prop),a.length+b.length<2305843009213693952→Ok Q (F (.lst (a++f z::b)) (.lst (a++f z::b)) (.int .i64 (a.length+1)))→
  Ok Q (F (.lst (a++f z::b)) (.lst (a++f z::b)) (.int .i64 a.length))) {l : List α} (hl : l.length≤2305843009213693952) :
 Ok (fun r=>r = [.bool true]) (F (.lst (l.map f)) (.lst (l.map f)) (.int .i64 0)):=by
 have key : ∀ (r d : List α),d.length+r.length≤2305843009213693952→Ok (fun q=>q = [.bool true]) (F (.lst (d.map f++r.map f)) (.lst (d.map f++r.map f)) (.int .i64 d.length)):=by
  intro r
  induction r with
  | nil=>
    intro d _
    have:=hend (d.map f)
    rw [List.length_map] at this
    simpa using this
  | cons z r ih=>
    intro d hd
    have h1:=ih (d++[z]) (by simp at hd ⊢;omega)
    have h2:=hstep (d.map f) z (r.map f) (fun q=>q = [.bool true]) (by simp at hd ⊢;omega) (by
     simp only [List.length_map]
     simpa using h1)
    simpa using h2
 simpa using key l [] (by simpa using hl)
def tO (left : Int) (B : Prop) (r : R) : Prop:=∃ z,r = [.int .i64 z]∧z≤left∧-1≤z∧(0≤z→B)
theorem aCw {F : PV→PV→PV→Option R} {B : α→Prop}
 (hend : ∀ (xs : List PV) (q : PV),Ok (fun r=>r = [q]) (F (.lst xs) q (.int .i64 xs.length)))
 (hstep : ∀ (a : List PV) (z : α) (b : List PV) (q : Int) (Q : R→Prop),a.length+b.length<2305843009213693952→0≤q→q≤1048576→Q [.int .i64 (-1)]→
  (∀ q',0≤q'→q'≤q→B z→Ok Q (F (.lst (a++f z::b)) (.int .i64 q') (.int .i64 (a.length+1))))→
  Ok Q (F (.lst (a++f z::b)) (.int .i64 q) (.int .i64 a.length))) {l : List α} {q : Int} (hl : l.length≤2305843009213693952) (h0 : 0≤q) (h1 : q≤1048576) :
 Ok (tO q (∀ z∈l,B z)) (F (.lst (l.map f)) (.int .i64 q) (.int .i64 0)):=by
 have key : ∀ (r d : List α) (q : Int),d.length+r.length≤2305843009213693952→0≤q→q≤1048576→Ok (tO q (∀ z∈r,B z)) (F (.lst (d.map f++r.map f)) (.int .i64 q) (.int .i64 d.length)):=by
  intro r
  induction r with
  | nil=>
    intro d q _ h0 _
    have:=hend (d.map f) (.int .i64 q)
    rw [List.length_map] at this
    simp only [List.map_nil,List.append_nil]
    refine this.mono ?_
    rintro t rfl
    exact ⟨q,rfl,Int.le_refl _,by omega,fun _ z hz=>by cases hz⟩
  | cons z r ih=>
    intro d q hd h0 h1
    have h2:=hstep (d.map f) z (r.map f) q (tO q (∀ x∈z::r,B x)) (by simp at hd ⊢;omega) h0 h1 ⟨-1,rfl,by omega,by omega,fun h=>absurd h (by omega)⟩ (fun q' g0 g1 hB=>by
     have h3:=ih (d++[z]) q' (by simp at hd ⊢;omega) g0 (by omega)
     simp only [List.length_map]
     have h4 : Ok (tO q' (∀ z∈r,B z)) (F (.lst (d.map f++f z::r.map f)) (.int .i64 q') (.int .i64 (d.length+1))):=by simpa using h3
     refine h4.mono ?_
     rintro t ⟨y,rfl,y1,y2,y3⟩
     refine ⟨y,rfl,by omega,y2,fun hy x hx=>?_⟩
     rcases List.mem_cons.1 hx with rfl | hx
     ·exact hB
     ·exact y3 hy x hx)
    simpa using h2
 simpa using key l [] q (by simpa using hl) h0 h1
end
section
variable {P : R → Prop} {k : PV → Option R}
theorem qP {α : Type} {l : List α} {e : Nat} {z : PV} (hl : l.length*e≤140737488355328) (hb : l.length≤2305843009213693952) (h : Ok P (k (.lst (l.map fun _=>z)))) : Ok P (bd (PV.zeros e z (.int .i64 l.length)) k):=
 dR _ (by
  simp only [PV.zeros]
  rw [if_pos ⟨by omega,by rw [Int.toNat_natCast];exact hl,by omega⟩,Int.toNat_natCast,List.map_const']) h
end
theorem aF3 : ∀ (l : List ByteArray),PV.flatO (.own 1 16 false []) (.lst (l.map PV.str))=true:=by
 intro l
 show PV.flatEs false [] (l.map PV.str)=true
 induction l with
 | nil=>simp [PV.flatEs]
 | cons x r ih=>simp [PV.flatEs,PV.flatE,PV.flat,ih]
theorem aBP : ∀ (l : List bK),PV.flatO (.own 2 16 true []) (.lst (l.map bK.pv))=true:=by
 intro l
 show PV.flatEs true [] (l.map bK.pv)=true
 induction l with
 | nil=>simp [PV.flatEs]
 | cons x r ih=>simp [PV.flatEs,PV.flatE,PV.flatCs,bK.pv,PV.flat,ih]
theorem aF4 : ∀ (l : List cG),PV.flatO (.own 3 40 true [.leaf,.leaf,.own 2 16 true []]) (.lst (l.map cG.pv))=true:=by
 intro l
 show PV.flatEs true [.leaf,.leaf,.own 2 16 true []] (l.map cG.pv)=true
 induction l with
 | nil=>simp [PV.flatEs]
 | cons x r ih=>
   have : PV.flatEs true [] (x.code.map bK.pv)=true:=aBP x.code
   simp [PV.flatEs,PV.flatE,PV.flatCs,cG.pv,PV.flat,ih,this]
theorem aLb {l : List ByteArray} (hl : l.length≤1000000000) : Ok (fun r=>r = [.lst (l.map PV.str)]) (oB (.lst (l.map PV.str))):=by
 rw [aCl]
 refine aD (qP (by omega) (by omega) (lQ ?_))
 rw [decide_eq_true (Int.le_refl _)]
 refine bG (qP (by omega) (by omega) ?_)
 refine wG (F:=kF) (fun xs out=>?_) (fun a z b c Q hb h=>?_) (by omega)
 ·rw [pZ]
  exact bJ (aE (aC (fun h=>by omega) (fun _=>aB rfl)))
 ·rw [pZ]
  refine bJ (aE (aC (fun _=>?_) (fun h=>by simp at h;omega)))
  exact aG rfl rfl (bF rfl (jJ rfl rfl (aI (by omega) h)))
theorem aOL {x : bK} : Ok (fun r=>r = [x.pv]) (aBw x.pv):=by
 rw [aGB]
 exact aH rfl (aA rfl (aA rfl (bR rfl (bR rfl (aB rfl)))))
theorem aN3 {l : List bK} (hl : l.length≤1000000000) : Ok (fun r=>r = [.lst (l.map bK.pv)]) (zZ (.lst (l.map bK.pv))):=by
 rw [aFL]
 refine aD (qP (by omega) (by omega) (lQ ?_))
 rw [decide_eq_true (Int.le_refl _)]
 refine bG (qP (by omega) (by omega) ?_)
 refine wG (F:=oE) (fun xs out=>?_) (fun a z b c Q hb h=>?_) (by omega)
 ·rw [uO]
  exact bJ (aE (aC (fun h=>by omega) (fun _=>aB rfl)))
 ·rw [uO]
  refine bJ (aE (aC (fun _=>?_) (fun h=>by simp at h;omega)))
  refine aG rfl rfl (aF aOL (fun r hr=>?_))
  subst hr
  exact bF rfl (jJ rfl rfl (aI (by omega) h))
theorem aOM {x : cG} (hl : x.code.length≤1000000000) : Ok (fun r=>r = [.int .i64 x.p,.int .i64 x.lc,.lst (x.code.map bK.pv)]) (zY x.pv):=by
 rw [aFK]
 refine aH rfl (aA rfl (aA rfl (aA rfl (bR rfl (bR rfl (aF (aN3 hl) (fun r hr=>?_)))))))
 subst hr
 exact eA (aBP _) (aB rfl)
theorem aN4 {l : List cG} (hl : l.length≤1000000000) (hc : ∀ x∈l,x.code.length≤1000000000) : Ok (fun r=>r = [.lst (l.map cG.pv)]) (xF (.lst (l.map cG.pv))):=by
 rw [aEm]
 refine aD (qP (by omega) (by omega) (lQ ?_))
 rw [decide_eq_true (Int.le_refl _)]
 refine bG (qP (by omega) (by omega) ?_)
 have key : Ok (fun r=>r = [.lst ((l.attach.map fun x=>x).map fun x : {x // x∈l}=>x.1.pv)]) (jT (.lst ((l.attach.map fun x=>x).map fun x : {x // x∈l}=>x.1.pv)) (.int .i64 0) (.lst ((l.attach.map fun x=>x).map fun _=>.agg [.int .i64 0,.int .i64 0,.lst []]))):=by
  refine wG (F:=jT) (fun xs out=>?_) (fun a z b c Q hb h=>?_) (by simp;omega)
  ·rw [tG]
   exact bJ (aE (aC (fun h=>by omega) (fun _=>aB rfl)))
  ·rw [tG]
   refine bJ (aE (aC (fun _=>?_) (fun h=>by simp at h;omega)))
   refine aG rfl rfl (aF (aOM (hc z.1 z.2)) (fun r hr=>?_))
   subst hr
   exact fE rfl (fE rfl (eA (aBP _) (bF rfl (jJ rfl rfl (aI (by omega) h)))))
 have e1 : ((l.attach.map fun x=>x).map fun x : {x // x∈l}=>x.1.pv)=l.map cG.pv:=by simp
 have e2 : ((l.attach.map fun x=>x).map fun _=>PV.agg [.int .i64 0,.int .i64 0,.lst []])=l.map fun _=>PV.agg [.int .i64 0,.int .i64 0,.lst []]:=by simp [List.map_const']
 rw [e1,e2] at key
 exact key
def eJ.rows (m : eJ) : R:=[.lst (m.texts.map PV.str),.lst (m.funcs.map cG.pv)]
theorem aON {m : eJ} (h : m.sized) : Ok (fun r=>r=m.rows) (fX m.pv):=by
 obtain ⟨h1,h2,h3,h4⟩:=h
 rw [aC5]
 refine aH rfl (aA rfl (aA rfl (aF (aLb (by omega)) (fun r hr=>?_))))
 subst hr
 refine eA (aF3 _) (aF (aN4 (by omega) h4) (fun r hr=>?_))
 subst hr
 exact eA (aF4 _) (aB rfl)
section
variable {P : R → Prop} {k : R → Option R}
theorem iL {B : Prop} {left : Int} {o : Option R} (h : Ok (tO left B) o) (hk : ∀ z,z≤left→-1≤z→(0≤z→B)→Ok P (k [.int .i64 z])) : Ok P (bd o k):=
 aF h (fun r hr=>by obtain ⟨z,rfl,h1,h2,h3⟩:=hr;exact hk z h1 h2 h3)
end
theorem aLc {l : List ByteArray} {q : Int} (hl : l.length≤9223372036854775807) (hs : ∀ s∈l,s.size≤9223372036854775807) (h0 : 0≤q) (h1 : q≤1048576) :
 Ok (tO q (l.length≤1048576∧∀ s∈l,s.size≤1048576)) (nU (.lst (l.map PV.str)) (.int .i64 q)):=by
 rw [aCf]
 refine aD (bY (by omega) (aE (aC (fun h=>aB ⟨-1,rfl,by omega,by omega,fun h=>absurd h (by omega)⟩) (fun h=>?_))))
 have key : Ok (tO (q - l.length) (∀ s∈l.attach,s.1.size≤1048576)) (gP (.lst (l.attach.map fun s=>PV.str s.1)) (.int .i64 (q - l.length)) (.int .i64 0)):=by
  refine aCw (F:=gP) (f:=fun s : {s // s∈l}=>PV.str s.1) (B:=fun s=>s.1.size≤1048576) (fun xs q=>?_) (fun a z b q Q hb g0 g1 hQ hk=>?_) (by simp;omega) (by omega) (by omega)
  ·rw [pV]
   exact bJ (aE (aC (fun h=>by omega) (fun _=>aB rfl)))
  ·have:=hs z.1 z.2
   rw [pV]
   refine bJ (aE (aC (fun _=>?_) (fun h=>by simp at h;omega)))
   refine aG rfl rfl (wV (bY (by omega) (aE (aC (fun _=>aB hQ) (fun h=>aI (by omega) (hk _ (by omega) (by omega) (by omega)))))))
 have e1 : (l.attach.map fun s=>PV.str s.1)=l.map PV.str:=by simp
 rw [e1] at key
 refine key.mono ?_
 rintro r ⟨z,rfl,h2,h3,h4⟩
 exact ⟨z,rfl,by omega,h3,fun hz=>⟨by omega,fun s hs'=>h4 hz ⟨s,hs'⟩ (List.mem_attach _ _)⟩⟩
theorem aN5 {l : List bK} {q : Int} (hl : l.length≤9223372036854775807) (h0 : 0≤q) (h1 : q≤1048576) : Ok (tO q (l.length≤1048576)) (zQ (.lst (l.map bK.pv)) (.int .i64 q)):=by
 rw [aFx]
 refine aD (bY (by omega) (aE (aC (fun h=>aB ⟨-1,rfl,by omega,by omega,fun h=>absurd h (by omega)⟩) (fun h=>aB ⟨_,rfl,by omega,by omega,fun _=>by omega⟩))))
theorem aOO {x : cG} {q : Int} (hl : x.code.length≤9223372036854775807) (h0 : 0≤q) (h1 : q≤1048576) : Ok (tO q (x.code.length≤1048576)) (zO x.pv (.int .i64 q)):=by
 rw [aFv]
 refine aH rfl (aA rfl (aA rfl (aA rfl (iL (aN5 hl h0 h1) (fun z g1 g2 g3=>aE (aC (fun h=>aB ⟨-1,rfl,by omega,by omega,fun h=>absurd h (by omega)⟩) (fun h=>aB ⟨z,rfl,g1,g2,g3⟩)))))))
theorem aN6 {l : List cG} {q : Int} (hl : l.length≤9223372036854775807) (hs : ∀ x∈l,x.code.length≤9223372036854775807) (h0 : 0≤q) (h1 : q≤1048576) :
 Ok (tO q (l.length≤1048576∧∀ x∈l,x.code.length≤1048576)) (wY (.lst (l.map cG.pv)) (.int .i64 q)):=by
 rw [aD6]
 refine aD (bY (by omega) (aE (aC (fun h=>aB ⟨-1,rfl,by omega,by omega,fun h=>absurd h (by omega)⟩) (fun h=>?_))))
 have key : Ok (tO (q - l.length) (∀ s∈l.attach,s.1.code.length≤1048576)) (jN (.lst (l.attach.map fun s=>s.1.pv)) (.int .i64 (q - l.length)) (.int .i64 0)):=by
  refine aCw (F:=jN) (f:=fun s : {s // s∈l}=>s.1.pv) (B:=fun s=>s.1.code.length≤1048576) (fun xs q=>?_) (fun a z b q Q hb g0 g1 hQ hk=>?_) (by simp;omega) (by omega) (by omega)
  ·rw [sV]
   exact bJ (aE (aC (fun h=>by omega) (fun _=>aB rfl)))
  ·rw [sV]
   refine bJ (aE (aC (fun _=>?_) (fun h=>by simp at h;omega)))
   refine aG rfl rfl (iL (aOO (hs z.1 z.2) g0 g1) (fun y y1 y2 y3=>aE (aC (fun _=>aB hQ) (fun h=>aI (by omega) (hk _ (by omega) (by omega) (y3 (by omega)))))))
 have e1 : (l.attach.map fun s=>s.1.pv)=l.map cG.pv:=by simp
 rw [e1] at key
 refine key.mono ?_
 rintro r ⟨z,rfl,h2,h3,h4⟩
 exact ⟨z,rfl,by omega,h3,fun hz=>⟨by omega,fun s hs'=>h4 hz ⟨s,hs'⟩ (List.mem_attach _ _)⟩⟩
def eJ.wide (m : eJ) : Prop:=m.texts.length≤9223372036854775807∧m.funcs.length≤9223372036854775807∧(∀ t∈m.texts,t.size≤9223372036854775807)∧∀ f∈m.funcs,f.code.length≤9223372036854775807
theorem aOP {m : eJ} {q : Int} (h : m.wide) (h0 : 0≤q) (h1 : q≤1048576) : Ok (tO q m.sized) (uW m.pv (.int .i64 q)):=by
 obtain ⟨w1,w2,w3,w4⟩:=h
 rw [aCX]
 refine aH rfl (aA rfl (aA rfl (iL (aLc w1 w3 h0 h1) (fun z g1 g2 g3=>aE (aC (fun h=>aB ⟨-1,rfl,by omega,by omega,fun h=>absurd h (by omega)⟩) (fun h=>?_))))))
 refine iL (aN6 w2 w4 (by omega) (by omega)) (fun y y1 y2 y3=>aE (aC (fun h=>aB ⟨-1,rfl,by omega,by omega,fun h=>absurd h (by omega)⟩) (fun h=>aB ⟨y,rfl,by omega,y2,fun hy=>?_⟩)))
 obtain ⟨e1,e2⟩:=g3 (by omega)
 obtain ⟨e3,e4⟩:=y3 (by omega)
 exact ⟨by omega,by omega,fun t ht=>by have:=e2 t ht;omega,fun f hf=>by have:=e4 f hf;omega⟩
theorem aLd {l : List ByteArray} (hl : l.length≤2305843009213693952) : Ok (fun r=>r = [.bool true]) (nW (.lst (l.map PV.str)) (.lst (l.map PV.str))):=by
 rw [aCg]
 refine aD (aD (cW (aY (fun h=>absurd rfl h) (fun _=>?_))))
 refine aAN (F:=kC) (fun xs=>?_) (fun a z b Q hb h=>?_) hl
 ·rw [pW]
  exact bJ (aE (aC (fun h=>by omega) (fun _=>aB rfl)))
 ·rw [pW]
  refine bJ (aE (aC (fun _=>?_) (fun h=>by simp at h;omega)))
  exact aG rfl rfl (aG rfl rfl (aAG (aQ (aI (by omega) h))))
theorem aOQ {x : bK} : Ok (fun r=>r = [.bool true]) (aBs x.pv x.pv):=by
 rw [aGw]
 exact aH rfl (aA rfl (aA rfl (aH rfl (aA rfl (aA rfl (cW (aY (fun h=>absurd rfl h) (fun _=>cW (aY (fun h=>absurd rfl h) (fun _=>aB rfl))))))))))
theorem hX {P : R→Prop} {k : R→Option R} {o : Option R} (h : Ok (fun r=>r = [.bool true]) o) (hk : Ok P (k [.bool true])) : Ok P (bd o k):=aF h (fun r hr=>by rw [hr];exact hk)
theorem aN7 {l : List bK} (hl : l.length≤2305843009213693952) : Ok (fun r=>r = [.bool true]) (zR (.lst (l.map bK.pv)) (.lst (l.map bK.pv))):=by
 rw [aFy]
 refine aD (aD (cW (aY (fun h=>absurd rfl h) (fun _=>?_))))
 refine aAN (F:=nX) (fun xs=>?_) (fun a z b Q hb h=>?_) hl
 ·rw [uE]
  exact bJ (aE (aC (fun h=>by omega) (fun _=>aB rfl)))
 ·rw [uE]
  refine bJ (aE (aC (fun _=>?_) (fun h=>by simp at h;omega)))
  exact aG rfl rfl (aG rfl rfl (hX aOQ (bC (aQ (aI (by omega) h)))))
theorem aOR {x : cG} (hl : x.code.length≤2305843009213693952) : Ok (fun r=>r = [.bool true]) (zP x.pv x.pv):=by
 rw [aFw]
 exact aH rfl (aA rfl (aA rfl (aA rfl (aH rfl (aA rfl (aA rfl (aA rfl (cW (aY (fun h=>absurd rfl h) (fun _=>cW (aY (fun h=>absurd rfl h) (fun _=>
  hX (aN7 hl) (bC (aQ (aB rfl)))))))))))))))
theorem aN8 {l : List cG} (hl : l.length≤2305843009213693952) (hs : ∀ x∈l,x.code.length≤2305843009213693952) : Ok (fun r=>r = [.bool true]) (wZ (.lst (l.map cG.pv)) (.lst (l.map cG.pv))):=by
 rw [aD9]
 refine aD (aD (cW (aY (fun h=>absurd rfl h) (fun _=>?_))))
 have e1 : (l.attach.map fun s=>s.1.pv)=l.map cG.pv:=by simp
 rw [← e1]
 refine aAN (F:=mH) (f:=fun s : {s // s∈l}=>s.1.pv) (fun xs=>?_) (fun a z b Q hb h=>?_) (by simpa using hl)
 ·rw [sW]
  exact bJ (aE (aC (fun h=>by omega) (fun _=>aB rfl)))
 ·rw [sW]
  refine bJ (aE (aC (fun _=>?_) (fun h=>by simp at h;omega)))
  exact aG rfl rfl (aG rfl rfl (hX (aOR (hs z.1 z.2)) (bC (aQ (aI (by omega) h)))))
theorem aOS {m : eJ} (h : m.sized) : Ok (fun r=>r = [.bool true]) (pT m.pv m.pv):=by
 obtain ⟨h1,h2,h3,h4⟩:=h
 rw [aCY]
 exact aH rfl (aA rfl (aA rfl (aH rfl (aA rfl (aA rfl (hX (aLd (by omega)) (bC (aQ (hX (aN8 (by omega) (fun x hx=>by have:=h4 x hx;omega)) (bC (aQ (aB rfl))))))))))))
def mtD : Nat→Int→ByteArray→ByteArray
 | 0,_,s=>bs [109]++s
 | n+1,k,s=>if 0<k then mtD n (k / 10) (⟨([48+k % 10].map fun x=>UInt8.ofNat x.toNat).toArray⟩++s) else bs [109]++s
def mtx (k : Int) : ByteArray:=mtD 19 k (bs [])
theorem aBa : ∀ (n : Nat) (k : Int) (s : ByteArray),0≤k→k≤9223372036854775807→k<10 ^ n→n≤19→s.size+n≤100→Ok (fun r=>r = [.str (mtD n k s)]) (lB (.int .i64 k) (.str s))
 | 0,k,s,h0,_,h1,_,hs=>by
   have : k=0:=by omega
   subst this
   rw [qV]
   refine iC (aC (fun h=>absurd h (by omega)) (fun _=>aH4 ?_ (aB rfl)))
   have : (bs [109]).size=1:=rfl
   omega
 | n+1,k,s,h0,hk,h1,hn,hs=>by
   rw [qV]
   unfold mtD
   refine iC (aC (fun h=>?_) (fun h=>aH4 ?_ (aB ?_)))
   ·rw [if_pos h]
    refine aOA h0 (by omega) (aI (by omega) (aPf (by omega) (wX (by simp) (fun x hx=>?_) ?_)))
    ·rw [List.mem_singleton] at hx;subst hx;rfl
    ·refine aMK (l:=[48+k % 10]) (aH4 ?_ (aOB h0 (by omega) hk (aBa n (k / 10) _ (by omega) (by omega) ?_ (by omega) ?_)))
     ·show 1+s.size≤_
      omega
     ·have : (10 : Int) ^ (n+1)=10 ^ n*10:=Int.pow_succ ..
      omega
     ·rw [ByteArray.size_append]
      show 1+s.size+n≤100
      omega
   ·have : (bs [109]).size=1:=rfl
    omega
   ·rw [if_neg h]
section
variable {P : R → Prop} {k : R → Option R}
theorem aDm {q : Int} (h1 : 1≤q) (h2 : q≤2305843009213693952) (h : Ok P (k [.str (mtx q)])) : Ok P (bd (fW (.int .i64 q)) k):=by
 refine aF (Q:=fun r=>r = [.str (mtx q)]) ?_ (fun r hr=>by rw [hr];exact h)
 rw [aC2]
 refine lQ (aC (fun h=>absurd h (by omega)) (fun _=>aBa 19 q _ (by omega) (by omega) (by omega) (by omega) (by decide)))
end
def cS (_ : ByteArray) : Nat:=1
def mS (q : Int) (_ : ByteArray) : ByteArray:=mtx q
def cI (_ : bK) : Nat:=2
def mI (q : Int) (_ : bK) : bK:=⟨q,q+1⟩
def cF (f : cG) : Nat:=2+bO cI f.code
def mF (q : Int) (f : cG) : cG:=⟨q,q+1,dE mI cI (q+2) f.code⟩
def cM (m : eJ) : Nat:=bO cS m.texts+bO cF m.funcs
def mM (q : Int) (m : eJ) : eJ:=⟨dE mS cS q m.texts,dE mF cF (q+bO cS m.texts) m.funcs⟩
theorem aAO {α : Type} {c : α→Nat} {n : Nat} : ∀ {l : List α},(∀ x∈l,c x≤n)→bO c l≤l.length*n
 | [],_=>by simp [bO]
 | x::r,h=>by
   have h1:=aAO (c:=c) (l:=r) (fun y hy=>h y (List.mem_cons_of_mem _ hy))
   have h2:=h x List.mem_cons_self
   have e : bO c (x::r)=c x+bO c r:=by simp [bO]
   rw [e,List.length_cons,Nat.succ_mul]
   omega
theorem aM0 (l : List ByteArray) : bO cS l≤l.length:=by
 have:=aAO (c:=cS) (n:=1) (l:=l) (fun _ _=>Nat.le_refl _)
 omega
theorem aOT (l : List bK) : bO cI l≤l.length*2:=aAO (fun _ _=>Nat.le_refl _)
theorem aOs : ∀ (l : List bK),bO cI l=2*l.length
 | []=>rfl
 | x::r=>by
   have e : bO cI (x::r)=2+bO cI r:=by simp [bO,cI]
   rw [e,aOs r,List.length_cons]
   omega
theorem aJu {m : eJ} (h : m.sized) : cM m≤9000000000000000:=by
 obtain ⟨h1,h2,h3,h4⟩:=h
 have a:=aM0 m.texts
 have b : bO cF m.funcs≤m.funcs.length*2000000002:=aAO (fun f hf=>by
  have:=h4 f hf
  have:=aOT f.code
  unfold cF
  omega)
 unfold cM
 have : m.funcs.length*2000000002≤2097152*2000000002:=Nat.mul_le_mul_right _ h2
 omega
theorem aHj {l : List ByteArray} {q : Int} (hl : l.length≤2305843009213693952) (h1 : 1≤q) (hq : q+bO cS l≤2305843009213693952) :
 Ok (fun r=>r = [.int .i64 (q+bO cS l),.lst ((dE mS cS q l).map PV.str)]) (lH (.int .i64 q) (.lst (l.map PV.str))):=by
 rw [aAV]
 refine nL (wrap:=PV.lst) (F:=iH) (fun xs q=>?_) (fun a z b q Q hb g1 g2 h=>?_) hl h1 hq
 ·rw [oJ]
  exact bJ (aE (aC (fun h=>by omega) (fun _=>aB rfl)))
 ·rw [oJ]
  have : cS z=1:=rfl
  refine bJ (aE (aC (fun _=>?_) (fun h=>by simp at h;omega)))
  exact aDm g1 (by omega) (bF rfl (jJ rfl rfl (aI (by omega) (aI (by omega) h))))
def fnW (A B : List PV) (p lc : Int) (xs : List PV) : PV:=.lst (A++.agg [.int .i64 p,.int .i64 lc,.lst xs]::B)
theorem aL6 {A B : List PV} {p lc : Int} {l : List bK} {q i : Int} (hi : i=A.length) (hl : l.length≤2305843009213693952) (h1 : 1≤q) (hq : q+bO cI l≤2305843009213693952) :
 Ok (fun r=>r = [.int .i64 (q+bO cI l),fnW A B p lc ((dE mI cI q l).map bK.pv)]) (vG (.int .i64 i) (.int .i64 q) (fnW A B p lc (l.map bK.pv))):=by
 rw [aDd]
 refine nL (wrap:=fnW A B p lc) (F:=lJ (.int .i64 i)) (fun xs q=>?_) (fun a z b q Q hb g1 g2 h=>?_) hl h1 hq
 ·rw [rH]
  exact aG hi rfl (aA rfl (bJ (aE (aC (fun h=>by omega) (fun _=>aB rfl)))))
 ·rw [rH]
  have : cI z=2:=rfl
  refine aG hi rfl (aA rfl (bJ (aE (aC (fun _=>?_) (fun h=>by simp at h;omega)))))
  refine aG hi rfl (aA rfl (bF rfl (aG hi rfl (aA rfl (bR rfl (aG hi rfl (aA rfl ?_)))))))
  refine aR rfl rfl (by decide) rfl (aG hi rfl (aA rfl (aR hi rfl (by decide) rfl (aI (by omega) ?_))))
  refine aG hi rfl (aA rfl (bF rfl (aG hi rfl (aA rfl (bR rfl (aG hi rfl (aA rfl ?_)))))))
  refine aR rfl rfl (by decide) rfl (aG hi rfl (aA rfl (aR hi rfl (by decide) rfl (aI (by omega) (aI (by omega) ?_)))))
  have e : q+1+1=q+cI z:=by omega
  rw [e]
  exact h
theorem aL7 {l : List cG} {q : Int} (hl : l.length≤2305843009213693952) (hc : ∀ x∈l,x.code.length≤2305843009213693952) (h1 : 1≤q) (hq : q+bO cF l≤2305843009213693952) :
 Ok (fun r=>r = [.int .i64 (q+bO cF l),.lst ((dE mF cF q l).map cG.pv)]) (sU (.int .i64 q) (.lst (l.map cG.pv))):=by
 rw [aCm]
 refine nL (wrap:=PV.lst) (F:=kG) (fun xs q=>?_) (fun a z b q Q hb g1 g2 h=>?_) hl h1 hq
 ·rw [qA]
  exact bJ (aE (aC (fun h=>by omega) (fun _=>aB rfl)))
 ·rw [qA]
  have hcF : cF z=2+bO cI z.code:=rfl
  refine bJ (aE (aC (fun _=>?_) (fun h=>by simp at h;omega)))
  refine bF rfl (bR rfl (aR rfl rfl (by decide) rfl (aI (by omega) (bF rfl (bR rfl (aR rfl rfl (by decide) rfl (aI (by omega) (bF rfl (aG rfl rfl ?_)))))))))
  refine aF (aL6 (A:=a) (B:=b) (p:=q) (lc:=q+1) (l:=z.code) (q:=q+1+1) rfl ?_ (by omega) (by omega)) (fun r hr=>?_)
  ·have:=aOs z.code
   omega
  ·subst hr
   refine aI (by omega) ?_
   have e : q+1+1+(bO cI z.code : Nat)=q+cF z:=by omega
   have e2 : fnW a b q (q+1) ((dE mI cI (q+1+1) z.code).map bK.pv) = .lst (a++(mF q z).pv::b):=by
    unfold fnW mF cG.pv
    rw [show q+2=q+1+1 by omega]
   rw [← e,← e2] at h
   exact h
theorem aM1 {m : eJ} {q : Int} (h : m.sized) (h1 : 1≤q) (hq : q≤1000000000000000) :
 Ok (fun r=>r = .int .i64 (q+cM m)::(mM q m).rows) (qK (.int .i64 q) (.lst (m.texts.map PV.str)) (.lst (m.funcs.map cG.pv))):=by
 have hs:=aJu h
 unfold cM at hs
 rw [aBI]
 refine aF (aHj (by have:=h.1;omega) h1 (by omega)) (fun r hr=>?_)
 subst hr
 refine aF (aL7 (q:=q+bO cS m.texts) (by have:=h.2.1;omega) (fun x hx=>by have:=h.2.2.2 x hx;omega) (by omega) (by omega)) (fun r hr=>?_)
 subst hr
 refine aB ?_
 have e : q+(bO cS m.texts : Nat)+(bO cF m.funcs : Nat)=q+(cM m : Nat):=by unfold cM;omega
 show [PV.int .i64 (q+(bO cS m.texts : Nat)+(bO cF m.funcs : Nat)),_,_]=_
 rw [e]
 rfl
theorem aL8 {l : List ByteArray} {q : Int} (hl : l.length≤2305843009213693952) (h1 : 1≤q) (hq : q+bO cS l≤2305843009213693952) :
 Ok (fun r=>r = [.int .i64 (q+bO cS l)]) (pF (.lst ((dE mS cS q l).map PV.str)) (.int .i64 q)):=by
 rw [aAT]
 refine aAM (F:=iF) (fun xs q=>?_) (fun a z b q Q hb g1 g2 h=>?_) hl h1 hq
 ·rw [oF]
  exact bJ (aE (aC (fun h=>by omega) (fun _=>aB rfl)))
 ·rw [oF]
  have : cS z=1:=rfl
  refine bJ (aE (aC (fun _=>?_) (fun h=>by simp at h;omega)))
  exact aG rfl rfl (aDm g1 (by omega) (aAG (aQ (aI (by omega) (aI (by omega) h)))))
theorem aM2 {x : bZ} : Ok (fun r=>r = [x.pv]) (rQ x.pv):=by
 rw [aEc]
 exact aH rfl (aA rfl (aA rfl (aA rfl (bR rfl (bR rfl (bR rfl (aB rfl)))))))
theorem aIe {l : List bZ} (hl : l.length≤1000000000) : Ok (fun r=>r = [aU l]) (mE (aU l)):=by
 rw [aDe]
 refine aD (qP (by omega) (by omega) (lQ ?_))
 rw [decide_eq_true (Int.le_refl _)]
 refine bG (qP (by omega) (by omega) ?_)
 refine wG (f:=bZ.pv) (F:=lK) (fun xs out=>?_) (fun a z b c Q hb h=>?_) (by omega)
 ·rw [rI]
  exact bJ (aE (aC (fun h=>by omega) (fun _=>aB rfl)))
 ·rw [rI]
  refine bJ (aE (aC (fun _=>?_) (fun h=>by simp at h;omega)))
  refine aG rfl rfl (aF aM2 (fun r hr=>?_))
  subst hr
  exact bF rfl (jJ rfl rfl (aI (by omega) h))
theorem aOU {x : List bZ} (hl : x.length≤1000000000) : Ok (fun r=>r = [aU x]) (aBv (aL x)):=by
 rw [aGA]
 refine aH rfl (aA rfl (aF (aIe hl) (fun r hr=>?_)))
 subst hr
 exact eA (eX _) (aB rfl)
theorem aN9 {l : List (List bZ)} (hl : l.length≤1000000000) (hc : ∀ x∈l,x.length≤1000000000) : Ok (fun r=>r = [.lst (l.map aL)]) (zX (.lst (l.map aL))):=by
 rw [aFJ]
 refine aD (qP (by omega) (by omega) (lQ ?_))
 rw [decide_eq_true (Int.le_refl _)]
 refine bG (qP (by omega) (by omega) ?_)
 have key : Ok (fun r=>r = [.lst (l.attach.map fun x=>aL x.1)]) (kQ (.lst (l.attach.map fun x=>aL x.1)) (.int .i64 0) (.lst (l.attach.map fun _=>.agg [.lst []]))):=by
  refine wG (f:=fun x : {x // x∈l}=>aL x.1) (F:=kQ) (fun xs out=>?_) (fun a z b c Q hb h=>?_) (by simp;omega)
  ·rw [uM]
   exact bJ (aE (aC (fun h=>by omega) (fun _=>aB rfl)))
  ·rw [uM]
   refine bJ (aE (aC (fun _=>?_) (fun h=>by simp at h;omega)))
   refine aG rfl rfl (aF (aOU (hc z.1 z.2)) (fun r hr=>?_))
   subst hr
   exact eA (eX _) (bF rfl (jJ rfl rfl (aI (by omega) h)))
 have e1 : (l.attach.map fun x=>aL x.1)=l.map aL:=by simp
 have e2 : (l.attach.map fun _=>PV.agg [.lst []])=l.map fun _=>PV.agg [.lst []]:=by simp [List.map_const']
 rw [e1,e2] at key
 exact key
theorem aM3 {x : bT} (h1 : x.loc.length≤1000000000) (h2 : x.stk.length≤1000000000) : Ok (fun r=>r = [.int .i64 x.f,.int .i64 x.pc,aU x.loc,aU x.stk]) (xG x.pv):=by
 rw [aEo]
 refine aH rfl (aA rfl (aA rfl (aA rfl (aA rfl (bR rfl (bR rfl (aF (aIe h1) (fun r hr=>?_))))))))
 subst hr
 refine eA (eX _) (aF (aIe h2) (fun r hr=>?_))
 subst hr
 exact eA (eX _) (aB rfl)
theorem aL9 {l : List bT} (hl : l.length≤1000000000) (hc : ∀ x∈l,x.loc.length≤1000000000∧x.stk.length≤1000000000) : Ok (fun r=>r = [.lst (l.map bT.pv)]) (vD (.lst (l.map bT.pv))):=by
 rw [aC9]
 refine aD (qP (by omega) (by omega) (lQ ?_))
 rw [decide_eq_true (Int.le_refl _)]
 refine bG (qP (by omega) (by omega) ?_)
 have key : Ok (fun r=>r = [.lst (l.attach.map fun x=>x.1.pv)]) (iW (.lst (l.attach.map fun x=>x.1.pv)) (.int .i64 0) (.lst (l.attach.map fun _=>.agg [.int .i64 0,.int .i64 0,.lst [],.lst []]))):=by
  refine wG (f:=fun x : {x // x∈l}=>x.1.pv) (F:=iW) (fun xs out=>?_) (fun a z b c Q hb h=>?_) (by simp;omega)
  ·rw [rF]
   exact bJ (aE (aC (fun h=>by omega) (fun _=>aB rfl)))
  ·rw [rF]
   refine bJ (aE (aC (fun _=>?_) (fun h=>by simp at h;omega)))
   refine aG rfl rfl (aF (aM3 (hc z.1 z.2).1 (hc z.1 z.2).2) (fun r hr=>?_))
   subst hr
   exact fE rfl (fE rfl (eA (eX _) (eA (eX _) (bF rfl (jJ rfl rfl (aI (by omega) h))))))
 have e1 : (l.attach.map fun x=>x.1.pv)=l.map bT.pv:=by simp
 have e2 : (l.attach.map fun _=>PV.agg [.int .i64 0,.int .i64 0,.lst [],.lst []])=l.map fun _=>PV.agg [.int .i64 0,.int .i64 0,.lst [],.lst []]:=by simp [List.map_const']
 rw [e1,e2] at key
 exact key
structure fN.few (v : fN) : Prop where
 f : v.fr.length≤2097152
 h : v.hp.length≤2097152
 o : v.out.length≤2097152
 fl : ∀ f∈v.fr,f.loc.length≤2097152∧f.stk.length≤2097152
 hl : ∀ r∈v.hp,r.length≤2097152
theorem Sz.few {v : fN} (z : Sz v) : v.few:=⟨by have:=z.f;omega,by have:=z.h;omega,by have:=z.o;omega,fun f hf=>by have:=z.fl f hf;omega,fun r hr=>by have:=z.hl r hr;omega⟩
theorem aPp {v : fN} (h : v.few) : Ok (fun r=>r=dY v) (pG v.pv):=by
 rw [aHZ]
 refine aH rfl (aA rfl (aA rfl (aA rfl (aA rfl (aA rfl (aA rfl (aA rfl (aA rfl (aA rfl (aA rfl ?_))))))))))
 refine aF (aL9 (by have:=h.f;omega) (fun x hx=>by have:=h.fl x hx;omega)) (fun r hr=>?_)
 subst hr
 refine eA (aAn _) (aF (aN9 (by have:=h.h;omega) (fun x hx=>by have:=h.hl x hx;omega)) (fun r hr=>?_))
 subst hr
 refine eA (aAL _) (bR rfl (aF (aLb (by have:=h.o;omega)) (fun r hr=>?_)))
 subst hr
 refine eA (aDj _) (bR rfl (bR rfl (aF (aM2 (x:=v.val)) (fun r hr=>?_))))
 subst hr
 exact aH rfl (aA rfl (aA rfl (aA rfl (bR rfl (aB rfl)))))
theorem aM4 {x : bZ} : Ok (fun r=>r = [.bool true]) (rP x.pv x.pv):=by
 rw [aD8]
 exact aH rfl (aA rfl (aA rfl (aA rfl (aH rfl (aA rfl (aA rfl (aA rfl (cW (aY (fun h=>absurd rfl h) (fun _=>cW (aY (fun h=>absurd rfl h) (fun _=>aAG (aQ (aB rfl))))))))))))))
theorem aIf {l : List bZ} (hl : l.length≤2305843009213693952) : Ok (fun r=>r = [.bool true]) (mA (aU l) (aU l)):=by
 rw [aC4]
 refine aD (aD (cW (aY (fun h=>absurd rfl h) (fun _=>?_))))
 refine aAN (f:=bZ.pv) (F:=lC) (fun xs=>?_) (fun a z b Q hb h=>?_) hl
 ·rw [qX]
  exact bJ (aE (aC (fun h=>by omega) (fun _=>aB rfl)))
 ·rw [qX]
  refine bJ (aE (aC (fun _=>?_) (fun h=>by simp at h;omega)))
  exact aG rfl rfl (aG rfl rfl (hX aM4 (bC (aQ (aI (by omega) h)))))
theorem aOV {x : List bZ} (hl : x.length≤2305843009213693952) : Ok (fun r=>r = [.bool true]) (aBr (aL x) (aL x)):=by
 rw [aGv]
 exact aH rfl (aA rfl (aH rfl (aA rfl (hX (aIf hl) (bC (aQ (aB rfl)))))))
theorem aOa {l : List (List bZ)} (hl : l.length≤2305843009213693952) (hs : ∀ x∈l,x.length≤2305843009213693952) : Ok (fun r=>r = [.bool true]) (zN (.lst (l.map aL)) (.lst (l.map aL))):=by
 rw [aFu]
 refine aD (aD (cW (aY (fun h=>absurd rfl h) (fun _=>?_))))
 have e1 : (l.attach.map fun s=>aL s.1)=l.map aL:=by simp
 rw [← e1]
 refine aAN (F:=nV) (f:=fun s : {s // s∈l}=>aL s.1) (fun xs=>?_) (fun a z b Q hb h=>?_) (by simpa using hl)
 ·rw [uD]
  exact bJ (aE (aC (fun h=>by omega) (fun _=>aB rfl)))
 ·rw [uD]
  refine bJ (aE (aC (fun _=>?_) (fun h=>by simp at h;omega)))
  exact aG rfl rfl (aG rfl rfl (hX (aOV (hs z.1 z.2)) (bC (aQ (aI (by omega) h)))))
theorem aM5 {x : bT} (h1 : x.loc.length≤2305843009213693952) (h2 : x.stk.length≤2305843009213693952) : Ok (fun r=>r = [.bool true]) (xB x.pv x.pv):=by
 rw [aEb]
 exact aH rfl (aA rfl (aA rfl (aA rfl (aA rfl (aH rfl (aA rfl (aA rfl (aA rfl (aA rfl (cW (aY (fun h=>absurd rfl h) (fun _=>cW (aY (fun h=>absurd rfl h) (fun _=>
  hX (aIf h1) (bC (aQ (hX (aIf h2) (bC (aQ (aB rfl))))))))))))))))))))
theorem aMa {l : List bT} (hl : l.length≤2305843009213693952) (hs : ∀ x∈l,x.loc.length≤2305843009213693952∧x.stk.length≤2305843009213693952) : Ok (fun r=>r = [.bool true]) (uY (.lst (l.map bT.pv)) (.lst (l.map bT.pv))):=by
 rw [aC0]
 refine aD (aD (cW (aY (fun h=>absurd rfl h) (fun _=>?_))))
 have e1 : (l.attach.map fun s=>s.1.pv)=l.map bT.pv:=by simp
 rw [← e1]
 refine aAN (F:=kZ) (f:=fun s : {s // s∈l}=>s.1.pv) (fun xs=>?_) (fun a z b Q hb h=>?_) (by simpa using hl)
 ·rw [qT]
  exact bJ (aE (aC (fun h=>by omega) (fun _=>aB rfl)))
 ·rw [qT]
  refine bJ (aE (aC (fun _=>?_) (fun h=>by simp at h;omega)))
  exact aG rfl rfl (aG rfl rfl (hX (aM5 (hs z.1 z.2).1 (hs z.1 z.2).2) (bC (aQ (aI (by omega) h)))))
theorem aPq {v : fN} (h : v.few) : Ok (fun r=>r = [.bool true]) (pE v.pv v.pv):=by
 rw [aHY]
 refine aH rfl (aA rfl (aA rfl (aA rfl (aA rfl (aA rfl (aA rfl (aA rfl (aA rfl (aA rfl (aA rfl ?_))))))))))
 refine aH rfl (aA rfl (aA rfl (aA rfl (aA rfl (aA rfl (aA rfl (aA rfl (aA rfl (aA rfl (aA rfl ?_))))))))))
 refine hX (aMa (by have:=h.f;omega) (fun x hx=>by have:=h.fl x hx;omega)) (bC (aQ (hX (aOa (by have:=h.h;omega) (fun x hx=>by have:=h.hl x hx;omega)) (bC (aQ ?_)))))
 refine cW (aY (fun h=>absurd rfl h) (fun _=>hX (aLd (by have:=h.o;omega)) (bC (aQ ?_))))
 refine cW (aY (fun h=>absurd rfl h) (fun _=>cW (aY (fun h=>absurd rfl h) (fun _=>hX (aM4 (x:=v.val)) (bC (aQ ?_))))))
 exact cW (aY (fun h=>absurd rfl h) (fun _=>aB rfl))
theorem aM6 {x : bZ} {q : Int} (hl : x.s.size≤9223372036854775807) (h0 : 0≤q) (h1 : q≤1048576) : Ok (tO q (x.s.size≤1048576)) (rO x.pv (.int .i64 q)):=by
 rw [aD7]
 refine aH rfl (aA rfl (aA rfl (aA rfl (wV (bY (by omega) (aE (aC (fun h=>aB ⟨-1,rfl,by omega,by omega,fun h=>absurd h (by omega)⟩) (fun h=>aB ⟨_,rfl,by omega,by omega,fun _=>by omega⟩))))))))
theorem aIg {l : List bZ} {q : Int} (hl : l.length≤9223372036854775807) (hs : ∀ x∈l,x.s.size≤9223372036854775807) (h0 : 0≤q) (h1 : q≤1048576) :
 Ok (tO q (l.length≤1048576∧∀ x∈l,x.s.size≤1048576)) (lZ (aU l) (.int .i64 q)):=by
 rw [aC3]
 refine aD (bY (by omega) (aE (aC (fun h=>aB ⟨-1,rfl,by omega,by omega,fun h=>absurd h (by omega)⟩) (fun h=>?_))))
 have key : Ok (tO (q - l.length) (∀ s∈l.attach,s.1.s.size≤1048576)) (iP (.lst (l.attach.map fun s=>s.1.pv)) (.int .i64 (q - l.length)) (.int .i64 0)):=by
  refine aCw (F:=iP) (f:=fun s : {s // s∈l}=>s.1.pv) (B:=fun s=>s.1.s.size≤1048576) (fun xs q=>?_) (fun a z b q Q hb g0 g1 hQ hk=>?_) (by simp;omega) (by omega) (by omega)
  ·rw [qW]
   exact bJ (aE (aC (fun h=>by omega) (fun _=>aB rfl)))
  ·rw [qW]
   refine bJ (aE (aC (fun _=>?_) (fun h=>by simp at h;omega)))
   refine aG rfl rfl (iL (aM6 (hs z.1 z.2) g0 g1) (fun y y1 y2 y3=>aE (aC (fun _=>aB hQ) (fun h=>aI (by omega) (hk _ (by omega) (by omega) (y3 (by omega)))))))
 have e1 : (l.attach.map fun s=>s.1.pv)=l.map bZ.pv:=by simp
 rw [e1] at key
 refine key.mono ?_
 rintro r ⟨z,rfl,h2,h3,h4⟩
 exact ⟨z,rfl,by omega,h3,fun hz=>⟨by omega,fun s hs'=>h4 hz ⟨s,hs'⟩ (List.mem_attach _ _)⟩⟩
section
variable {P : R → Prop} {k : R → Option R}
def aPP (v : fN) (b : Bool) : R:=[.int .i64 v.made,.int .i64 v.st,.int .i64 v.tr,.int .i64 v.val.k,.int .i64 v.val.n,.str v.val.s,.int .i64 v.steps,.bool b,.lst (v.fr.map bT.pv),.lst (v.hp.map aL),.lst (v.out.map PV.str)]
end
def cV (_ : bZ) : Nat:=3
def mV (q : Int) (_ : bZ) : bZ:=⟨q,q+1,mtx (q+2)⟩
def cR (x : List bZ) : Nat:=bO cV x
def mR (q : Int) (x : List bZ) : List bZ:=dE mV cV q x
def cFr (f : bT) : Nat:=2+(bO cV f.loc+bO cV f.stk)
def mFr (q : Int) (f : bT) : bT:=⟨q,q+1,dE mV cV (q+2) f.loc,dE mV cV (q+2+bO cV f.loc) f.stk⟩
def cVm (v : fN) : Nat:=bO cFr v.fr+(bO cR v.hp+bO cS v.out)
theorem aBb : ∀ (l : List bZ),bO cV l=3*l.length
 | []=>rfl
 | x::r=>by
   have e : bO cV (x::r)=3+bO cV r:=by simp [bO,cV]
   rw [e,aBb r,List.length_cons]
   omega
theorem aDn {v : fN} (h : v.few) : cVm v≤100000000000000:=by
 have a:=aM0 v.out
 have b : bO cFr v.fr≤v.fr.length*20000000:=aAO (fun f hf=>by
  have:=h.fl f hf
  have:=aBb f.loc
  have:=aBb f.stk
  unfold cFr
  omega)
 have c : bO cR v.hp≤v.hp.length*20000000:=aAO (fun f hf=>by
  have:=h.hl f hf
  have:=aBb f
  unfold cR
  omega)
 have:=h.f
 have:=h.h
 have:=h.o
 unfold cVm
 omega
def aOW (A B : List PV) (f pc stk : PV) (xs : List PV) : PV:=.lst (A++.agg [f,pc,.lst xs,stk]::B)
def aM7 (A B : List PV) (f pc loc : PV) (xs : List PV) : PV:=.lst (A++.agg [f,pc,loc,.lst xs]::B)
def aOX (A B : List PV) (xs : List PV) : PV:=.lst (A++.agg [.lst xs]::B)
theorem aM8 {A B : List PV} {f pc stk : PV} {l : List bZ} {q i : Int} (hi : i=A.length) (hl : l.length≤2305843009213693952) (h1 : 1≤q) (hq : q+bO cV l≤2305843009213693952) :
 Ok (fun r=>r = [.int .i64 (q+bO cV l),aOW A B f pc stk ((dE mV cV q l).map bZ.pv)]) (qN (.int .i64 i) (.int .i64 q) (aOW A B f pc stk (l.map bZ.pv))):=by
 rw [aBM]
 refine nL (wrap:=aOW A B f pc stk) (F:=jG (.int .i64 i)) (fun xs q=>?_) (fun a z b q Q hb g1 g2 h=>?_) hl h1 hq
 ·rw [oY]
  exact aG hi rfl (aA rfl (bJ (aE (aC (fun h=>by omega) (fun _=>aB rfl)))))
 ·rw [oY]
  have : cV z=3:=rfl
  refine aG hi rfl (aA rfl (bJ (aE (aC (fun _=>?_) (fun h=>by simp at h;omega)))))
  refine aG hi rfl (aA rfl (bF rfl (aG hi rfl (aA rfl (bR rfl (aG hi rfl (aA rfl ?_)))))))
  refine aR rfl rfl (by decide) rfl (aG hi rfl (aA rfl (aR hi rfl (by decide) rfl (aI (by omega) ?_))))
  refine aG hi rfl (aA rfl (bF rfl (aG hi rfl (aA rfl (bR rfl (aG hi rfl (aA rfl ?_)))))))
  refine aR rfl rfl (by decide) rfl (aG hi rfl (aA rfl (aR hi rfl (by decide) rfl (aI (by omega) (aDm (by omega) (by omega) ?_)))))
  refine aG hi rfl (aA rfl (bF rfl (aG hi rfl (aA rfl (bR rfl (aG hi rfl (aA rfl ?_)))))))
  refine aR rfl rfl (by decide) rfl (aG hi rfl (aA rfl (aR hi rfl (by decide) rfl (aI (by omega) (aI (by omega) ?_)))))
  have e : q+1+1+1=q+cV z:=by omega
  rw [e,show q+1+1=q+2 by omega]
  exact h
theorem aM9 {A B : List PV} {f pc loc : PV} {l : List bZ} {q i : Int} (hi : i=A.length) (hl : l.length≤2305843009213693952) (h1 : 1≤q) (hq : q+bO cV l≤2305843009213693952) :
 Ok (fun r=>r = [.int .i64 (q+bO cV l),aM7 A B f pc loc ((dE mV cV q l).map bZ.pv)]) (mU (.int .i64 i) (.int .i64 q) (aM7 A B f pc loc (l.map bZ.pv))):=by
 rw [yL]
 refine nL (wrap:=aM7 A B f pc loc) (F:=gU (.int .i64 i)) (fun xs q=>?_) (fun a z b q Q hb g1 g2 h=>?_) hl h1 hq
 ·rw [nI]
  exact aG hi rfl (aA rfl (bJ (aE (aC (fun h=>by omega) (fun _=>aB rfl)))))
 ·rw [nI]
  have : cV z=3:=rfl
  refine aG hi rfl (aA rfl (bJ (aE (aC (fun _=>?_) (fun h=>by simp at h;omega)))))
  refine aG hi rfl (aA rfl (bF rfl (aG hi rfl (aA rfl (bR rfl (aG hi rfl (aA rfl ?_)))))))
  refine aR rfl rfl (by decide) rfl (aG hi rfl (aA rfl (aR hi rfl (by decide) rfl (aI (by omega) ?_))))
  refine aG hi rfl (aA rfl (bF rfl (aG hi rfl (aA rfl (bR rfl (aG hi rfl (aA rfl ?_)))))))
  refine aR rfl rfl (by decide) rfl (aG hi rfl (aA rfl (aR hi rfl (by decide) rfl (aI (by omega) (aDm (by omega) (by omega) ?_)))))
  refine aG hi rfl (aA rfl (bF rfl (aG hi rfl (aA rfl (bR rfl (aG hi rfl (aA rfl ?_)))))))
  refine aR rfl rfl (by decide) rfl (aG hi rfl (aA rfl (aR hi rfl (by decide) rfl (aI (by omega) (aI (by omega) ?_)))))
  have e : q+1+1+1=q+cV z:=by omega
  rw [e,show q+1+1=q+2 by omega]
  exact h
theorem aKz {A B : List PV} {l : List bZ} {q i : Int} (hi : i=A.length) (hl : l.length≤2305843009213693952) (h1 : 1≤q) (hq : q+bO cV l≤2305843009213693952) :
 Ok (fun r=>r = [.int .i64 (q+bO cV l),aOX A B ((dE mV cV q l).map bZ.pv)]) (mW (.int .i64 i) (.int .i64 q) (aOX A B (l.map bZ.pv))):=by
 rw [yM]
 refine nL (wrap:=aOX A B) (F:=gV (.int .i64 i)) (fun xs q=>?_) (fun a z b q Q hb g1 g2 h=>?_) hl h1 hq
 ·rw [nJ]
  exact aG hi rfl (aA rfl (bJ (aE (aC (fun h=>by omega) (fun _=>aB rfl)))))
 ·rw [nJ]
  have : cV z=3:=rfl
  refine aG hi rfl (aA rfl (bJ (aE (aC (fun _=>?_) (fun h=>by simp at h;omega)))))
  refine aG hi rfl (aA rfl (bF rfl (aG hi rfl (aA rfl (bR rfl (aG hi rfl (aA rfl ?_)))))))
  refine aR rfl rfl (by decide) rfl (aG hi rfl (aA rfl (aR hi rfl (by decide) rfl (aI (by omega) ?_))))
  refine aG hi rfl (aA rfl (bF rfl (aG hi rfl (aA rfl (bR rfl (aG hi rfl (aA rfl ?_)))))))
  refine aR rfl rfl (by decide) rfl (aG hi rfl (aA rfl (aR hi rfl (by decide) rfl (aI (by omega) (aDm (by omega) (by omega) ?_)))))
  refine aG hi rfl (aA rfl (bF rfl (aG hi rfl (aA rfl (bR rfl (aG hi rfl (aA rfl ?_)))))))
  refine aR rfl rfl (by decide) rfl (aG hi rfl (aA rfl (aR hi rfl (by decide) rfl (aI (by omega) (aI (by omega) ?_)))))
  have e : q+1+1+1=q+cV z:=by omega
  rw [e,show q+1+1=q+2 by omega]
  exact h
theorem aMb {l : List (List bZ)} {q : Int} (hl : l.length≤2305843009213693952) (h1 : 1≤q) (hq : q+bO cR l≤2305843009213693952) :
 Ok (fun r=>r = [.int .i64 (q+bO cR l),.lst ((dE mR cR q l).map aL)]) (vE (.int .i64 q) (.lst (l.map aL))):=by
 rw [aDb]
 refine nL (wrap:=PV.lst) (F:=lI) (fun xs q=>?_) (fun a z b q Q hb g1 g2 h=>?_) hl h1 hq
 ·rw [rG]
  exact bJ (aE (aC (fun h=>by omega) (fun _=>aB rfl)))
 ·rw [rG]
  have hc : cR z=bO cV z:=rfl
  have hz:=aBb z
  refine bJ (aE (aC (fun _=>?_) (fun h=>by simp at h;omega)))
  refine bF rfl (aG rfl rfl (aF (aKz (A:=a) (B:=b) (l:=z) (q:=q) rfl (by omega) (by omega) (by omega)) (fun r hr=>?_)))
  subst hr
  exact aI (by omega) h
theorem aJv {l : List bT} {q : Int} (hl : l.length≤2305843009213693952) (h1 : 1≤q) (hq : q+bO cFr l≤2305843009213693952) :
 Ok (fun r=>r = [.int .i64 (q+bO cFr l),.lst ((dE mFr cFr q l).map bT.pv)]) (qM (.int .i64 q) (.lst (l.map bT.pv))):=by
 rw [aBL]
 refine nL (wrap:=PV.lst) (F:=jF) (fun xs q=>?_) (fun a z b q Q hb g1 g2 h=>?_) hl h1 hq
 ·rw [oX]
  exact bJ (aE (aC (fun h=>by omega) (fun _=>aB rfl)))
 ·rw [oX]
  have hc : cFr z=2+(bO cV z.loc+bO cV z.stk):=rfl
  have hz:=aBb z.loc
  have hy:=aBb z.stk
  refine bJ (aE (aC (fun _=>?_) (fun h=>by simp at h;omega)))
  refine bF rfl (bR rfl (aR rfl rfl (by decide) rfl (aI (by omega) (bF rfl (bR rfl (aR rfl rfl (by decide) rfl (aI (by omega) (bF rfl (aG rfl rfl ?_)))))))))
  refine aF (aM8 (A:=a) (B:=b) (f:=.int .i64 q) (pc:=.int .i64 (q+1)) (stk:=aU z.stk) (l:=z.loc) (q:=q+1+1) rfl (by omega) (by omega) (by omega)) (fun r hr=>?_)
  subst hr
  refine bF rfl (aG rfl rfl ?_)
  refine aF (aM9 (A:=a) (B:=b) (f:=.int .i64 q) (pc:=.int .i64 (q+1)) (loc:=aU (dE mV cV (q+1+1) z.loc)) (l:=z.stk) (q:=q+1+1+bO cV z.loc) rfl (by omega) (by omega) (by omega)) (fun r hr=>?_)
  subst hr
  refine aI (by omega) ?_
  have e : q+1+1+(bO cV z.loc : Nat)+(bO cV z.stk : Nat)=q+cFr z:=by omega
  have e2 : aM7 a b (.int .i64 q) (.int .i64 (q+1)) (aU (dE mV cV (q+1+1) z.loc)) ((dE mV cV (q+1+1+bO cV z.loc) z.stk).map bZ.pv) = .lst (a++(mFr q z).pv::b):=by
   unfold aM7 mFr bT.pv
   rw [show q+2=q+1+1 by omega]
   rfl
  rw [← e,← e2] at h
  exact h
def mVm (q : Int) (v : fN) : fN:={ v with fr:=dE mFr cFr q v.fr,hp:=dE mR cR (q+bO cFr v.fr) v.hp,out:=dE mS cS (q+bO cFr v.fr+bO cR v.hp) v.out}
theorem aLe {v : fN} {q : Int} {a0 a1 a2 a3 a4 a5 a6 : PV} (h : v.few) (h1 : 1≤q) (hq : q≤10000000000000000) :
 Ok (fun r=>r = [.int .i64 (q+cVm v),.lst ((mVm q v).fr.map bT.pv),.lst ((mVm q v).hp.map aL),.lst ((mVm q v).out.map PV.str)])
  (uB a0 a1 a2 a3 a4 a5 a6 (.int .i64 q) (.lst (v.fr.map bT.pv)) (.lst (v.hp.map aL)) (.lst (v.out.map PV.str))):=by
 have hs:=aDn h
 unfold cVm at hs
 have:=h.f
 have:=h.h
 have:=h.o
 rw [aFI]
 refine aF (aJv (l:=v.fr) (q:=q) (by omega) h1 (by omega)) (fun r hr=>?_)
 subst hr
 refine aF (aMb (l:=v.hp) (q:=q+bO cFr v.fr) (by omega) (by omega) (by omega)) (fun r hr=>?_)
 subst hr
 refine aF (aHj (l:=v.out) (q:=q+bO cFr v.fr+bO cR v.hp) (by omega) (by omega) (by omega)) (fun r hr=>?_)
 subst hr
 refine aB ?_
 have e : q+(bO cFr v.fr : Nat)+(bO cR v.hp : Nat)+(bO cS v.out : Nat)=q+(cVm v : Nat):=by unfold cVm;omega
 show [PV.int .i64 (q+(bO cFr v.fr : Nat)+(bO cR v.hp : Nat)+(bO cS v.out : Nat)),_,_,_]=_
 rw [e]
 rfl
theorem aDo {l : List bZ} {q : Int} (hl : l.length≤2305843009213693952) (h1 : 1≤q) (hq : q+bO cV l≤2305843009213693952) :
 Ok (fun r=>r = [.int .i64 (q+bO cV l)]) (jO (aU (dE mV cV q l)) (.int .i64 q)):=by
 rw [aBy]
 refine aAM (f:=bZ.pv) (F:=jD) (fun xs q=>?_) (fun a z b q Q hb g1 g2 h=>?_) hl h1 hq
 ·rw [oS]
  exact bJ (aE (aC (fun h=>by omega) (fun _=>aB rfl)))
 ·rw [oS]
  have : cV z=3:=rfl
  refine bJ (aE (aC (fun _=>?_) (fun h=>by simp at h;omega)))
  refine aG rfl rfl (aA rfl (cW (aY (fun h=>absurd rfl h) (fun _=>aI (by omega) (aG rfl rfl (aA rfl (cW (aY (fun h=>absurd rfl h) (fun _=>aI (by omega) (aG rfl rfl (aA rfl ?_)))))))))))
  refine aDm (by omega) (by omega) ?_
  have e3 : q+1+1=q+2:=by omega
  rw [e3]
  refine aAG (aQ (aI (by omega) (aI (by omega) ?_)))
  have e : q+2+1=q+cV z:=by omega
  rw [e]
  exact h
theorem aMc {l : List (List bZ)} {q : Int} (hl : l.length≤2305843009213693952) (h1 : 1≤q) (hq : q+bO cR l≤2305843009213693952) :
 Ok (fun r=>r = [.int .i64 (q+bO cR l)]) (uZ (.lst ((dE mR cR q l).map aL)) (.int .i64 q)):=by
 rw [aC1]
 refine aAM (F:=lA) (fun xs q=>?_) (fun a z b q Q hb g1 g2 h=>?_) hl h1 hq
 ·rw [qU]
  exact bJ (aE (aC (fun h=>by omega) (fun _=>aB rfl)))
 ·rw [qU]
  have hc : cR z=bO cV z:=rfl
  have hz:=aBb z
  refine bJ (aE (aC (fun _=>?_) (fun h=>by simp at h;omega)))
  refine aG rfl rfl (aA rfl (aF (aDo (l:=z) (q:=q) (by omega) (by omega) (by omega)) (fun r hr=>?_)))
  subst hr
  exact aE (aC (fun h=>absurd h (by omega)) (fun _=>aI (by omega) h))
theorem aJw {l : List bT} {q : Int} (hl : l.length≤2305843009213693952) (h1 : 1≤q) (hq : q+bO cFr l≤2305843009213693952) :
 Ok (fun r=>r = [.int .i64 (q+bO cFr l)]) (qJ (.lst ((dE mFr cFr q l).map bT.pv)) (.int .i64 q)):=by
 rw [aBx]
 refine aAM (F:=jC) (fun xs q=>?_) (fun a z b q Q hb g1 g2 h=>?_) hl h1 hq
 ·rw [oR]
  exact bJ (aE (aC (fun h=>by omega) (fun _=>aB rfl)))
 ·rw [oR]
  have hc : cFr z=2+(bO cV z.loc+bO cV z.stk):=rfl
  have hz:=aBb z.loc
  have hy:=aBb z.stk
  refine bJ (aE (aC (fun _=>?_) (fun h=>by simp at h;omega)))
  refine aG rfl rfl (aA rfl (cW (aY (fun h=>absurd rfl h) (fun _=>aI (by omega) (aG rfl rfl (aA rfl (cW (aY (fun h=>absurd rfl h) (fun _=>aI (by omega) (aG rfl rfl (aA rfl ?_)))))))))))
  have e0 : q+1+1=q+2:=by omega
  rw [e0]
  refine aF (aDo (l:=z.loc) (q:=q+2) (by omega) (by omega) (by omega)) (fun r hr=>?_)
  subst hr
  refine aE (aC (fun h=>absurd h (by omega)) (fun _=>aG rfl rfl (aA rfl ?_)))
  refine aF (aDo (l:=z.stk) (q:=q+2+bO cV z.loc) (by omega) (by omega) (by omega)) (fun r hr=>?_)
  subst hr
  refine aE (aC (fun h=>absurd h (by omega)) (fun _=>aI (by omega) ?_))
  have e : q+2+(bO cV z.loc : Nat)+(bO cV z.stk : Nat)=q+cFr z:=by omega
  rw [← e] at h
  exact h
theorem aLf {v : fN} {q : Int} (h : v.few) (h1 : 1≤q) (hq : q≤10000000000000000) : Ok (fun r=>r = [.int .i64 (q+cVm v)]) (tV (mVm q v).pv (.int .i64 q)):=by
 have hs:=aDn h
 unfold cVm at hs
 have:=h.f
 have:=h.h
 have:=h.o
 rw [aFs]
 refine aH rfl (aA rfl (aA rfl (aA rfl (aA rfl (aA rfl (aA rfl (aA rfl (aA rfl (aA rfl (aA rfl ?_))))))))))
 refine aF (aJw (l:=v.fr) (q:=q) (by omega) h1 (by omega)) (fun r hr=>?_)
 subst hr
 refine aE (aC (fun h=>absurd h (by omega)) (fun _=>aF (aMc (l:=v.hp) (q:=q+bO cFr v.fr) (by omega) (by omega) (by omega)) (fun r hr=>?_)))
 subst hr
 refine aE (aC (fun h=>absurd h (by omega)) (fun _=>aF (aL8 (l:=v.out) (q:=q+bO cFr v.fr+bO cR v.hp) (by omega) (by omega) (by omega)) (fun r hr=>?_)))
 subst hr
 have e : q+(bO cFr v.fr : Nat)+(bO cR v.hp : Nat)+(bO cS v.out : Nat)=q+(cVm v : Nat):=by unfold cVm;omega
 refine aE (aC (fun h=>absurd h (by omega)) (fun _=>aB ?_))
 show [PV.int .i64 (q+(bO cFr v.fr : Nat)+(bO cR v.hp : Nat)+(bO cS v.out : Nat))]=_
 rw [e]
end
noncomputable section
open Go Go.ChangeShapes Go.WideShapes Go.ChangeAt
inductive CSh where
 | b
 | i (k : IntKind)
 | s
 | l (g : Bool) (cs : List CSh)
mutual
def qQ : CSh→PV→Prop
 | .b,x=>∃ v,x = .bool v
 | .i k,x=>∃ n,x = .int k n∧(Lit.int k n).wf=true
 | .s,x=>∃ t : ByteArray,x = .str t∧t.size≤maxLen
 | .l g cs,x=>∃ xs,x = .lst xs∧xs.length≤maxLen∧∀ e∈xs,if g then ∃ ys,e = .agg ys∧cH cs ys else cH cs [e]
def cH : List CSh→List PV→Prop
 | [],[]=>True
 | c::cs,y::ys=>qQ c y∧cH cs ys
 | _,_=>False
end
theorem cH.len : ∀ {cs : List CSh} {ys : List PV},cH cs ys→ys.length=cs.length
 | [],[],_=>rfl
 | [],_::_,h=>by unfold cH at h;exact h.elim
 | _::_,[],h=>by unfold cH at h;exact h.elim
 | c::cs,y::ys,h=>by
   unfold cH at h
   simp [cH.len h.2]
theorem cH.append : ∀ {cs ds : List CSh} {ys zs : List PV},cH cs ys→cH ds zs→cH (cs++ds) (ys++zs)
 | [],_,[],_,_,h=>h
 | [],_,_::_,_,h,_=>by unfold cH at h;exact h.elim
 | _::_,_,[],_,h,_=>by unfold cH at h;exact h.elim
 | c::cs,ds,y::ys,zs,h,k=>by
   unfold cH at h
   show cH (c::(cs++ds)) (y::(ys++zs))
   unfold cH
   exact ⟨h.1,cH.append h.2 k⟩
def isAggP (P : Program) (t : TypeId) : Bool:=match P.underlying t with
 | some (.struct _)=>true
 | _=>false
def fieldsSh (P : Program) (f : TypeId→Option (List CSh)) : Nat→List Field→Option (List CSh)
 | _,[]=>some []
 | off,fd::r=>if fd.offset=off then (f fd.type).bind fun cs=>if cs.length=P.cellsOf fd.type then (fieldsSh P f (off+cs.length) r).map (cs++·) else none else none
def shapeOf (P : Program) : Nat→TypeId→Option (List CSh)
 | 0,_=>none
 | n+1,t=>match P.underlying t with
   | some .bool=>some [.b]
   | some (.int k)=>some [.i k]
   | some .string=>some [.s]
   | some (.slice e)=>(shapeOf P n e).bind fun cs=>if cs.length=P.cellsOf e∧0<cs.length∧(isAggP P e=false→cs.length=1) then some [.l (isAggP P e) cs] else none
   | some (.struct fs)=>(fieldsSh P (shapeOf P n) 0 fs.toList).bind fun cs=>if cs.length=P.cellsOf t then some cs else none
   | _=>none
def CellsRep (w : World) (cs : List CSh) (vs : List Value) : Prop:=
 ∃ ys : List PV,cH cs ys∧ys.length=vs.length∧(∀ (i : Nat) v,vs[i]? = some v→cN v)∧∀ (i : Nat) c v,ys[i]? = some c→vs[i]? = some v→eU w (fun r=>r<w.heap.size) c v
theorem CellsRep.one {w : World} {c : CSh} {x : PV} {v : Value} (h : qQ c x) (hc : cN v) (hr : eU w (fun r=>r<w.heap.size) x v) : CellsRep w [c] [v]:=by
 refine ⟨[x],?_,rfl,fun i u hu=>?_,fun i c u hcu hu=>?_⟩
 ·unfold cH;exact ⟨h,by unfold cH;trivial⟩
 ·cases i with
  | zero=>cases hu;exact hc
  | succ i=>simp at hu
 ·cases i with
  | zero=>cases hu;cases hcu;exact hr
  | succ i=>simp at hu
theorem CellsRep.append {w : World} {cs ds : List CSh} {vs us : List Value} (h : CellsRep w cs vs) (k : CellsRep w ds us) : CellsRep w (cs++ds) (vs++us):=by
 obtain ⟨ys,h1,h2,h3,h4⟩:=h
 obtain ⟨zs,k1,k2,k3,k4⟩:=k
 refine ⟨ys++zs,h1.append k1,by simp [h2,k2],fun i v hv=>?_,fun i c v hc hv=>?_⟩
 ·rw [List.getElem?_append] at hv
  split at hv
  ·exact h3 _ _ hv
  ·exact k3 _ _ hv
 ·rw [List.getElem?_append] at hv hc
  split at hv
  ·rename_i hi
   rw [if_pos (by omega)] at hc
   exact h4 _ _ _ hc hv
  ·rename_i hi
   rw [if_neg (by omega),h2] at hc
   exact k4 _ _ _ hc hv
section
variable {H : Type} {enc : TypeId × Value → H} {P : Program} {w : World} {held : Bool}
theorem fields_rep {f : TypeId→Option (List CSh)} {n : Nat} (hf : ∀ t cs,f t=some cs→∀ (vs : List Value) x,DataW.trod enc P w 0 (fun _=>true) held n t vs=some x→CellsRep w cs vs) {vs : List Value} :
 ∀ (fs : List Field) (off : Nat) (cs : List CSh),fieldsSh P f off fs=some cs→off+cs.length≤vs.length→
   (∀ fd∈fs,∃ x,DataW.trod enc P w 0 (fun _=>true) held n fd.type ((vs.drop fd.offset).take (P.cellsOf fd.type))=some x)→CellsRep w cs ((vs.drop off).take cs.length)
 | [],off,cs,h,_,_=>by
  cases h
  exact ⟨[],by unfold cH;trivial,by simp,fun i v hv=>by simp at hv,fun i c v hc hv=>by simp at hc⟩
 | fd::r,off,cs,h,hl,ha=>by
   unfold fieldsSh at h
   split at h
   rotate_left
   ·cases h
   rename_i ho
   obtain ⟨c1,h1,h2⟩:=Option.bind_eq_some_iff.1 h
   split at h2
   rotate_left
   ·cases h2
   rename_i hc1
   obtain ⟨c2,h3,rfl⟩:=Option.map_eq_some_iff.1 h2
   rw [List.length_append] at hl
   obtain ⟨x,hx⟩:=ha fd List.mem_cons_self
   rw [ho,← hc1] at hx
   have k1:=hf _ _ h1 _ _ hx
   have k2:=fields_rep hf r (off+c1.length) c2 h3 (by omega) (fun fd' hfd=>ha fd' (List.mem_cons_of_mem _ hfd))
   have e : (vs.drop off).take (c1++c2).length=(vs.drop off).take c1.length++(vs.drop (off+c1.length)).take c2.length:=by
    rw [List.length_append,List.take_add,List.drop_drop]
   rw [e]
   exact k1.append k2
theorem cells_rep : ∀ (n : Nat) (t : TypeId) (cs : List CSh),shapeOf P n t=some cs→∀ (fuel : Nat) (vs : List Value) (x : DataW H × List MemPlace),DataW.trod enc P w 0 (fun _=>true) held fuel t vs=some x→CellsRep w cs vs
 | 0,_,_,h,_,_,_,_=>by cases h
 | n+1,t,cs,h,fuel,vs,x,hx=>by
   unfold shapeOf at h
   split at h
   ·rename_i hu
    cases h
    obtain ⟨b,rfl,_⟩:=DataW.trod_bool hu hx
    exact .one (by unfold qQ;exact ⟨b,rfl⟩) trivial (.bool b)
   ·rename_i k hu
    cases h
    obtain ⟨z,rfl,_,hw⟩:=DataW.trod_int hu hx
    exact .one (by unfold qQ;exact ⟨z,rfl,hw⟩) trivial (.int k z)
   ·rename_i hu
    cases h
    obtain ⟨s,rfl,_,hs⟩:=DataW.trod_string hu hx
    exact .one (by unfold qQ;exact ⟨s,rfl,hs⟩) trivial (.str s)
   ·rename_i e hu
    obtain ⟨cs',h1,h2⟩:=Option.bind_eq_some_iff.1 h
    split at h2
    rotate_left
    ·cases h2
    rename_i hc
    obtain ⟨hc1,hc2,hc3⟩:=hc
    cases h2
    rcases DataW.trod_slice hu hx with ⟨rfl,_⟩ | ⟨a,len,cap,elems,rest,m,hfu,rfl,_,hb,hle,hcap,hel,hE,_,_⟩
    ·exact .one (by unfold qQ;exact ⟨[],rfl,by simp,fun e he=>by cases he⟩) trivial (.empty none 0)
    have els : ∀ i,i<len→∃ vs : List Value,w.cells? 0 (a.add (i*P.cellsOf e)) (P.cellsOf e)=some vs∧CellsRep w cs' vs:=by
     intro i hi
     have:=hE i hi
     rw [List.getElem?_eq_getElem (by omega)] at this
     obtain ⟨vs,h3,h4⟩:=Option.bind_eq_some_iff.1 this
     exact ⟨vs,h3,cells_rep n e cs' h1 m vs _ h4⟩
    by_cases h0 : len=0
    ·subst h0
     exact .one (by unfold qQ;exact ⟨[],rfl,by simp,fun e he=>by cases he⟩) trivial (.empty (some a) cap)
    have hsz : 0<P.cellsOf e:=by omega
    have cell : ∀ i j,i<len→j<P.cellsOf e→∀ vs,w.cells? 0 (a.add (i*P.cellsOf e)) (P.cellsOf e)=some vs→w.cell? ((a.add (i*P.cellsOf e)).add j)=vs[j]?:=by
     intro i j hi hj vs hv
     exact (World.cells?_some hv).2.2 j hj
    have hlen : ∀ i,i<len→∀ vs,w.cells? 0 (a.add (i*P.cellsOf e)) (P.cellsOf e)=some vs→vs.length=P.cellsOf e:=fun i _ vs hv=>(World.cells?_some hv).2.1
    obtain ⟨v0,hv0,_⟩:=els 0 (by omega)
    have hl0:=hlen 0 (by omega) v0 hv0
    have hc0:=cell 0 0 (by omega) hsz v0 hv0
    rw [Nat.zero_mul] at hc0
    have ea : (a.add 0).add 0=a:=rfl
    rw [ea,List.getElem?_eq_getElem (by omega)] at hc0
    have hspot : a.spot=none∧∃ c ty fz,w.heap[a.block]? = some (.cells c ty fz):=by
     unfold World.cell? at hc0
     split at hc0
     ·rename_i c ty fz hh
      split at hc0
      ·cases hc0
      ·rename_i hs;exact ⟨by simpa using hs,c,ty,fz,hh⟩
     ·cases hc0
    obtain ⟨hs,c,ty,fz,hh⟩:=hspot
    have hblk : a.block<w.heap.size:=(Array.getElem?_eq_some_iff.1 hh).1
    have ha : a=⟨a.block,a.off,none⟩:=by cases a;simp at hs;rw [hs]
    have addr : ∀ i j,(a.add i).add j=⟨a.block,a.off+i+j,none⟩:=by
     intro i j
     rw [ha]
     unfold Addr.add
     by_cases hi : i=0
     ·by_cases hj : j=0
      ·simp [hi,hj]
      ·simp [hi,hj]
     ·by_cases hj : j=0
      ·simp [hi,hj]
      ·simp [hi,hj]
    have atc : ∀ i j,i<len→j<P.cellsOf e→∀ vs,w.cells? 0 (a.add (i*P.cellsOf e)) (P.cellsOf e)=some vs→c[a.off+i*P.cellsOf e+j]? = vs[j]?:=by
     intro i j hi hj vs hv
     have:=cell i j hi hj vs hv
     rw [addr] at this
     unfold World.cell? at this
     rw [hh] at this
     simpa using this
    have pick : ∀ i : Fin len,∃ (vs : List Value) (ys : List PV),w.cells? 0 (a.add (i.val*P.cellsOf e)) (P.cellsOf e)=some vs∧cH cs' ys∧ys.length=vs.length∧(∀ (j : Nat) v,vs[j]? = some v→cN v)∧
     ∀ (j : Nat) c v,ys[j]? = some c→vs[j]? = some v→eU w (fun r=>r<w.heap.size) c v:=by
     intro i
     obtain ⟨vs,h3,ys,h4,h5,h6,h7⟩:=els i.val i.isLt
     exact ⟨vs,ys,h3,h4,h5,h6,h7⟩
    let vsF : Fin len→List Value:=fun i=>(pick i).choose
    let ysF : Fin len→List PV:=fun i=>(pick i).choose_spec.choose
    have spec : ∀ i,w.cells? 0 (a.add (i.val*P.cellsOf e)) (P.cellsOf e)=some (vsF i)∧cH cs' (ysF i)∧(ysF i).length=(vsF i).length∧(∀ (j : Nat) v,(vsF i)[j]? = some v→cN v)∧
     ∀ (j : Nat) c v,(ysF i)[j]? = some c→(vsF i)[j]? = some v→eU w (fun r=>r<w.heap.size) c v:=fun i=>(pick i).choose_spec.choose_spec
    let el : List PV→PV:=fun ys=>if isAggP P e then .agg ys else ys.headD .hole
    let xs : List PV:=List.ofFn fun i=>el (ysF i)
    have hxl : xs.length=len:=by simp [xs]
    have hxs : ∀ (i : Nat) x,xs[i]? = some x→∃ h : i<len,x=el (ysF ⟨i,h⟩):=by
     intro i x hx
     obtain ⟨hi,rfl⟩:=List.getElem?_eq_some_iff.1 hx
     rw [hxl] at hi
     exact ⟨hi,by simp [xs]⟩
    have ylen : ∀ i,(ysF i).length=P.cellsOf e:=fun i=>by rw [(spec i).2.2.1];exact hlen i.val i.isLt _ (spec i).1
    have cellOf : ∀ (i : Fin len) j,j<P.cellsOf e→(ysF i)[j]? = some (cY (isAggP P e) (el (ysF i)) j):=by
     intro i j hj
     have hy:=ylen i
     by_cases hg : isAggP P e=true
     ·simp only [el,hg,if_true,cY]
      rw [List.getD_eq_getElem?_getD,List.getElem?_eq_getElem (by omega)];rfl
     ·have hg : isAggP P e=false:=by simpa using hg
      have h1 : cs'.length=1:=hc3 hg
      have hj0 : j=0:=by omega
      subst hj0
      simp only [el,hg,cY]
      cases hq : ysF i with
      | nil=>rw [hq] at hy;simp at hy;omega
      | cons y r=>simp
    refine .one (x:=.lst xs) ?_ trivial ?_
    ·unfold qQ
     refine ⟨xs,rfl,by rw [hxl];omega,fun e' he=>?_⟩
     obtain ⟨i,hi⟩:=List.getElem?_of_mem he
     obtain ⟨hlt,rfl⟩:=hxs i e' hi
     have hF:=(spec ⟨i,hlt⟩).2.1
     by_cases hg : isAggP P e=true
     ·rw [if_pos hg]
      exact ⟨ysF ⟨i,hlt⟩,by simp [el,hg],hF⟩
     ·rw [if_neg hg]
      have h1 : cs'.length=1:=hc3 (by simpa using hg)
      have hy:=hF.len
      have : [el (ysF ⟨i,hlt⟩)]=ysF ⟨i,hlt⟩:=by
       cases hq : ysF ⟨i,hlt⟩ with
       | nil=>rw [hq] at hy;simp at hy;omega
       | cons y r=>
         rw [hq] at hy
         simp only [List.length_cons] at hy
         have : r = []:=List.length_eq_zero_iff.1 (by omega)
         simp [el,hg,this]
      rw [this];exact hF
    ·have key : ∀ len',xs.length=len'→eU w (fun r=>r<w.heap.size) (.lst xs) (.slice (some a) len' cap):=by
      intro len' hl'
      subst hl'
      rw [ha]
      refine eU.lst (w:=w) (Z:=fun r=>r<w.heap.size) xs a.block a.off (P.cellsOf e) cap (isAggP P e) c ty fz (fun i j=>if h : i<len then (vsF ⟨i,h⟩).getD j .nilFunc else .nilFunc) hblk hh hsz (by omega) ?_ ?_ ?_ ?_
      ·intro i x hx
       obtain ⟨hlt,rfl⟩:=hxs i x hx
       have hy:=ylen ⟨i,hlt⟩
       by_cases hg : isAggP P e=true
       ·simp [el,hg,PV.isEl,hy]
       ·have hg : isAggP P e=false:=by simpa using hg
        have h1 : cs'.length=1:=hc3 hg
        have hF:=(spec ⟨i,hlt⟩).2.1
        cases hq : ysF ⟨i,hlt⟩ with
        | nil=>rw [hq] at hy;simp at hy;omega
        | cons y r=>
          rw [hq] at hF
          cases hcs : cs' with
          | nil=>rw [hcs] at h1;simp at h1
          | cons c0 cr=>
            rw [hcs] at hF
            unfold cH at hF
            have hf0:=hF.1
            have e1 : P.cellsOf e=1:=by omega
            simp only [el,hg,List.headD_cons]
            rw [e1]
            cases c0 with
            | b=>unfold qQ at hf0;obtain ⟨_,rfl⟩:=hf0;rfl
            | i k=>unfold qQ at hf0;obtain ⟨_,rfl,_⟩:=hf0;rfl
            | s=>unfold qQ at hf0;obtain ⟨_,rfl,_⟩:=hf0;rfl
            | l g q=>unfold qQ at hf0;obtain ⟨_,rfl,_⟩:=hf0;rfl
      ·intro i j hi hj
       rw [hxl] at hi
       simp only [dif_pos hi]
       have hl:=hlen i hi _ (spec ⟨i,hi⟩).1
       rw [atc i j hi hj _ (spec ⟨i,hi⟩).1,List.getD_eq_getElem?_getD,List.getElem?_eq_getElem (by omega)];rfl
      ·intro i j hi hj
       rw [hxl] at hi
       simp only [dif_pos hi]
       have hl:=hlen i hi _ (spec ⟨i,hi⟩).1
       refine (spec ⟨i,hi⟩).2.2.2.1 j _ ?_
       rw [List.getD_eq_getElem?_getD,List.getElem?_eq_getElem (by omega)];rfl
      ·intro i j x hx hj
       obtain ⟨hi,rfl⟩:=hxs i x hx
       simp only [dif_pos hi]
       have hl:=hlen i hi _ (spec ⟨i,hi⟩).1
       refine (spec ⟨i,hi⟩).2.2.2.2 j _ _ (cellOf ⟨i,hi⟩ j hj) ?_
       rw [List.getD_eq_getElem?_getD,List.getElem?_eq_getElem (by omega)];rfl
     exact key len hxl
   ·rename_i fs hu
    obtain ⟨cs',h1,h2⟩:=Option.bind_eq_some_iff.1 h
    split at h2
    rotate_left
    ·cases h2
    rename_i hc
    cases h2
    obtain ⟨xs,m,rfl,_,hl,hxl,hf⟩:=DataW.trod_struct hu hx
    have:=fields_rep (f:=shapeOf P n) (n:=m) (enc:=enc) (held:=held) (fun t cs h vs x hx=>cells_rep n t cs h m vs x hx) (vs:=vs) fs.toList 0 cs h1 (by omega) (fun fd hfd=>by
     obtain ⟨i,hi⟩:=List.getElem?_of_mem hfd
     have hi' : fs[i]? = some fd:=by simpa using hi
     have hlt : i<xs.length:=by rw [hxl];exact (Array.getElem?_eq_some_iff.1 hi').1
     exact ⟨_,(hf i fd hi').trans (List.getElem?_eq_getElem hlt)⟩)
    rw [List.drop_zero,List.take_of_length_le (by omega)] at this
    exact this
   ·cases h
def FitsArg (g : Bool) (cs : List CSh) (x : PV) : Prop:=if g then ∃ ys,x = .agg ys∧cH cs ys else cH cs [x]
theorem arg_agg {t : TypeId} {cs : List CSh} {v : Value} {p : DataW H × List MemPlace} {us : Array Value} {n fuel : Nat} (hv : v = .agg us) (hs : shapeOf P n t=some cs) (hx : DataW.trod enc P w 0 (fun _=>true) held fuel t v.cells.toList=some p) :
 ∃ x,FitsArg true cs x∧eU w (fun r=>r<w.heap.size) x v:=by
 obtain ⟨ys,h1,h2,h3,h4⟩:=cells_rep n t cs hs fuel _ _ hx
 subst hv
 refine ⟨.agg ys,?_,?_⟩
 ·unfold FitsArg;rw [if_pos rfl];exact ⟨ys,rfl,h1⟩
 ·have:=eU.agg (w:=w) (Z:=fun r=>r<w.heap.size) ys us.toList h2 h3 h4
  simpa using this
end
end
noncomputable section
open Go Go.IntWalk
attribute [local irreducible] bd PV.ite PV.guardFlat PV.guardOwn PV.whole PV.one PV.cell PV.sub PV.at_ PV.len PV.slen PV.chr PV.beq PV.peq PV.ceq PV.bin PV.neg PV.not PV.conv PV.cut PV.scut PV.cat PV.setAt PV.setCell PV.ncopy PV.copyIn PV.zeros PV.toStr PV.toBytes PV.deref PV.isPtr PV.comp PV.inb PV.off PV.imin PV.imax PV.sel PV.apply PV.isLst PV.isInt PV.ix PV.nilT
section
variable {P : R → Prop} {k : R → Option R}
theorem aPs {m : eJ} (h : m.sized) (hk : Ok P (k m.rows)) : Ok P (bd (fX m.pv) k):=aF (aON h) (fun r hr=>by rw [hr];exact hk)
theorem aOb {m : eJ} {o : Option R} (h : Ok P o) : Ok P (PV.guardOwn (.own 1 16 false []) (gd m.rows 0) (PV.guardOwn (.own 3 40 true [.leaf,.leaf,.own 2 16 true []]) (gd m.rows 1) o)):=
 eA (aF3 _) (eA (aF4 _) h)
theorem aOY {m : eJ} (h : m.sized) (hk : Ok P (k [.bool true])) : Ok P (bd (pT m.pv m.pv) k):=hX (aOS h) hk
theorem aCx {o : Option R} {x : Option R} (h : Ok P o) : Ok P (PV.guardFlat (hd [.bool true]) (bd (PV.not (hd [.bool true])) fun v=>PV.ite v x o)):=fE rfl (bC (aQ h))
theorem aIh {m : eJ} (h : m.sized) {o : R→Option R} (hk : Ok P (o m.rows)) : Ok P (bd (fX m.pv) fun r=>PV.guardOwn (.own 1 16 false []) (gd r 0) (PV.guardOwn (.own 3 40 true [.leaf,.leaf,.own 2 16 true []]) (gd r 1) (o r))):=
 aPs h (aOb hk)
theorem aIi {v : fN} (h : v.few) (hk : Ok P (k [.bool true])) : Ok P (bd (pE v.pv v.pv) k):=hX (aPq h) hk
end
theorem oM {k : IntKind} {x : PV} (h : qQ (.i k) x) : ∃ n,x = .int k n∧(Lit.int k n).wf=true:=by unfold qQ at h;exact h
theorem aKA {x : PV} (h : qQ .s x) : ∃ t : ByteArray,x = .str t∧t.size≤maxLen:=by unfold qQ at h;exact h
theorem aDp {g : Bool} {cs : List CSh} {x : PV} (h : qQ (.l g cs) x) : ∃ xs,x = .lst xs∧xs.length≤maxLen∧∀ e∈xs,if g then ∃ ys,e = .agg ys∧cH cs ys else cH cs [e]:=by unfold qQ at h;exact h
theorem tL {ys : List PV} (h : cH [] ys) : ys = []:=by cases ys with | nil=>rfl | cons y r=>unfold cH at h;exact h.elim
theorem cC {c : CSh} {cs : List CSh} {ys : List PV} (h : cH (c::cs) ys) : ∃ y r,ys=y::r∧qQ c y∧cH cs r:=by
 cases ys with
 | nil=>unfold cH at h;exact h.elim
 | cons y r=>unfold cH at h;exact ⟨y,r,rfl,h.1,h.2⟩
theorem xP {α : Type} {f : α→PV} {B : α→Prop} : ∀ {xs : List PV},(∀ e∈xs,∃ a,e=f a∧B a)→∃ l : List α,xs=l.map f∧∀ a∈l,B a
 | [],_=>⟨[],rfl,fun a h=>by cases h⟩
 | x::r,h=>by
   obtain ⟨a,rfl,ha⟩:=h x List.mem_cons_self
   obtain ⟨l,rfl,hl⟩:=xP (fun e he=>h e (List.mem_cons_of_mem _ he))
   refine ⟨a::l,rfl,fun b hb=>?_⟩
   rcases List.mem_cons.1 hb with rfl | hb
   ·exact ha
   ·exact hl b hb
def aF5 : CSh:=.l false [.s]
def aNa : CSh:=.l true [.i .i64,.i .i64]
def aIj : CSh:=.l true [.i .i64,.i .i64,aNa]
theorem aLg {x : PV} (h : qQ aF5 x) : ∃ l : List ByteArray,x = .lst (l.map PV.str)∧l.length≤9223372036854775807∧∀ t∈l,t.size≤9223372036854775807:=by
 obtain ⟨xs,rfl,hl,he⟩:=aDp h
 obtain ⟨l,rfl,hs⟩:=xP (f:=PV.str) (B:=fun t=>t.size≤9223372036854775807) (xs:=xs) (fun e hm=>by
  have h1:=he e hm
  rw [if_neg (by simp)] at h1
  obtain ⟨y,r,e1,h2,_⟩:=cC h1
  cases e1
  obtain ⟨t,rfl,ht⟩:=aKA h2
  exact ⟨t,rfl,by unfold maxLen at ht;omega⟩)
 exact ⟨l,rfl,by rw [List.length_map] at hl;unfold maxLen at hl;omega,hs⟩
theorem aNb {x : PV} (h : qQ aNa x) : ∃ l : List bK,x = .lst (l.map bK.pv)∧l.length≤9223372036854775807:=by
 obtain ⟨xs,rfl,hl,he⟩:=aDp h
 obtain ⟨l,rfl,hs⟩:=xP (f:=bK.pv) (B:=fun _=>True) (xs:=xs) (fun e hm=>by
  have h1:=he e hm
  rw [if_pos rfl] at h1
  obtain ⟨ys,rfl,h2⟩:=h1
  obtain ⟨y1,r1,rfl,g1,h2⟩:=cC h2
  obtain ⟨y2,r2,rfl,g2,h2⟩:=cC h2
  cases tL h2
  obtain ⟨a,rfl,_⟩:=oM g1
  obtain ⟨b,rfl,_⟩:=oM g2
  exact ⟨⟨a,b⟩,rfl,trivial⟩)
 exact ⟨l,rfl,by rw [List.length_map] at hl;unfold maxLen at hl;omega⟩
theorem aNc {x : PV} (h : qQ aIj x) : ∃ l : List cG,x = .lst (l.map cG.pv)∧l.length≤9223372036854775807∧∀ f∈l,f.code.length≤9223372036854775807:=by
 obtain ⟨xs,rfl,hl,he⟩:=aDp h
 obtain ⟨l,rfl,hs⟩:=xP (f:=cG.pv) (B:=fun f=>f.code.length≤9223372036854775807) (xs:=xs) (fun e hm=>by
  have h1:=he e hm
  rw [if_pos rfl] at h1
  obtain ⟨ys,rfl,h2⟩:=h1
  obtain ⟨y1,r1,rfl,g1,h2⟩:=cC h2
  obtain ⟨y2,r2,rfl,g2,h2⟩:=cC h2
  obtain ⟨y3,r3,rfl,g3,h2⟩:=cC h2
  cases tL h2
  obtain ⟨a,rfl,_⟩:=oM g1
  obtain ⟨b,rfl,_⟩:=oM g2
  obtain ⟨c,rfl,hc⟩:=aNb g3
  exact ⟨⟨a,b,c⟩,rfl,hc⟩)
 exact ⟨l,rfl,by rw [List.length_map] at hl;unfold maxLen at hl;omega,hs⟩
theorem aOc {x : PV} (h : FitsArg true [aF5,aIj] x) : ∃ m : eJ,x=m.pv∧m.wide:=by
 unfold FitsArg at h
 rw [if_pos rfl] at h
 obtain ⟨ys,rfl,h⟩:=h
 obtain ⟨y1,r1,rfl,g1,h⟩:=cC h
 obtain ⟨y2,r2,rfl,g2,h⟩:=cC h
 cases tL h
 obtain ⟨t,rfl,t1,t2⟩:=aLg g1
 obtain ⟨f,rfl,f1,f2⟩:=aNc g2
 exact ⟨⟨t,f⟩,rfl,t1,f1,t2,f2⟩
def aIk : CSh:=.l true [.i .i64,.i .i64,.s]
theorem aIl {x : PV} (h : qQ aIk x) : ∃ l : List bZ,x=aU l∧l.length≤9223372036854775807∧∀ v∈l,v.s.size≤9223372036854775807:=by
 obtain ⟨xs,rfl,hl,he⟩:=aDp h
 obtain ⟨l,rfl,hs⟩:=xP (f:=bZ.pv) (B:=fun v=>v.s.size≤9223372036854775807) (xs:=xs) (fun e hm=>by
  have h1:=he e hm
  rw [if_pos rfl] at h1
  obtain ⟨ys,rfl,h2⟩:=h1
  obtain ⟨y1,r1,rfl,g1,h2⟩:=cC h2
  obtain ⟨y2,r2,rfl,g2,h2⟩:=cC h2
  obtain ⟨y3,r3,rfl,g3,h2⟩:=cC h2
  cases tL h2
  obtain ⟨a,rfl,_⟩:=oM g1
  obtain ⟨b,rfl,_⟩:=oM g2
  obtain ⟨t,rfl,ht⟩:=aKA g3
  exact ⟨⟨a,b,t⟩,rfl,by unfold maxLen at ht;show t.size≤_;omega⟩)
 exact ⟨l,rfl,by rw [List.length_map] at hl;unfold maxLen at hl;omega,hs⟩
section
variable {P : R → Prop} {k : R → Option R}
end
def TC (a : ByteArray) : Prop:=a.data.toList.all chB=true
theorem aBQ {a b : ByteArray} (ha : TC a) (hb : TC b) : TC (a++b):=by
 unfold TC at *
 rw [ByteArray.data_append,Array.toList_append,List.all_append,ha,hb];rfl
theorem aKB : ∀ n : Nat,n<10→TC (dig n):=by
 intro n h
 have : ∀ n : Fin 10,(dig (n.val : Int)).data.toList.all chB=true:=by decide
 exact this ⟨n,h⟩
theorem aLh : ∀ (j n : Nat),n<10 ^ (j+1)→TC (aFQ j n)
 | 0,n,h=>aKB n (by simpa using h)
 | j+1,n,h=>by
   unfold aFQ
   split
   ·exact aKB n (by omega)
   ·have e1 : (n : Int) / 10=((n / 10 : Nat) : Int):=by omega
    have e2 : (n : Int) % 10=((n % 10 : Nat) : Int):=by omega
    rw [e1,e2]
    exact aBQ (aLh j (n / 10) (by rw [Nat.pow_succ] at h;omega)) (aKB _ (by omega))
theorem aIm {n : Int} (h0 : 0≤n) (h : n≤1000000000) : TC (aFQ 18 n):=by
 obtain ⟨k,rfl⟩:=Int.eq_ofNat_of_zero_le h0
 exact aLh 18 k (by omega)
theorem aDq {n : Int} (h : -1000000000≤n∧n≤1000000000) : TC (xM n):=by
 have m45 : TC (bs [45]):=by unfold TC;decide
 unfold xM
 split
 ·rename_i h1
  split
  ·refine aBQ (aBQ m45 (aIm ?_ ?_)) (aIm ?_ ?_)
   ·have:=Int.tdiv_eq_ediv_of_nonneg (a:=-n) (b:=10) (by omega)
    rw [Int.neg_tdiv] at this
    omega
   ·have:=Int.tdiv_eq_ediv_of_nonneg (a:=-n) (b:=10) (by omega)
    rw [Int.neg_tdiv] at this
    omega
   ·have:=Int.tmod_eq_emod_of_nonneg (a:=-n) (b:=10) (by omega)
    rw [Int.neg_tmod] at this
    omega
   ·have:=Int.tmod_eq_emod_of_nonneg (a:=-n) (b:=10) (by omega)
    rw [Int.neg_tmod] at this
    omega
  ·exact aBQ m45 (aIm (by omega) (by omega))
 ·exact aIm (by omega) (by omega)
theorem aAq (n : Int) : (xM n).size≤50:=by
 unfold xM
 have:=fun n=>sE 18 n
 split
 ·split
  ·have:=sE 18 (-(n.tdiv 10))
   have:=sE 18 (-(n.tmod 10))
   have e : (bs [45]).size=1:=rfl
   rw [ByteArray.size_append,ByteArray.size_append];omega
  ·have:=sE 18 (-n)
   have e : (bs [45]).size=1:=rfl
   rw [ByteArray.size_append];omega
 ·have:=sE 18 n
  omega
theorem aKC {nf : Int} {v : bZ} {hp : List (List bZ)} (hr : ∀ i : Nat,(hp[i]?.getD []).length≤6) (hf : nf≤1000) (h : cD nf hp.length v=true) : cP (aCs v hp)=true:=by
 have mk : ∀ s : ByteArray,s.size≤60→TC s→cP s=true:=fun s h1 h2=>by
  unfold cP
  rw [decide_eq_true (by omega),h2];rfl
 have hn : (v.k=1→-1000000000≤v.n∧v.n≤1000000000)∧(v.k=5→0≤v.n∧v.n≤nf - 1):=by
  have hv:=h
  unfold cD at hv
  repeat' split at hv
  all_goals first
   | (cases hv;done)
   | (simp only [eK,bA,Bool.and_eq_true,decide_eq_true_eq] at hv;omega)
 unfold aCs
 split
 ·decide
 rename_i k0
 split
 ·rename_i k1
  exact mk _ (by have:=aAq v.n;omega) (aDq (hn.1 k1))
 rename_i k1
 split
 ·split<;>decide
 rename_i k2
 split
 ·rename_i k3
  exact aDl h k3
 rename_i k3
 split
 ·rename_i k5
  have h':=hn.2 k5
  refine mk _ ?_ (aBQ (by unfold TC;decide) (aDq (by omega)))
  have:=aAq v.n
  have e : (bs [102,117,110]).size=3:=rfl
  rw [ByteArray.size_append];omega
 rename_i k5
 split
 ·have:=hr v.n.toNat
  refine mk _ ?_ (aBQ (aBQ (by unfold TC;decide) (aDq (by omega))) (by unfold TC;decide))
  have:=aAq ((hp[v.n.toNat]?.getD []).length : Int)
  have e : (bs [123]).size=1:=rfl
  have e' : (bs [125]).size=1:=rfl
  rw [ByteArray.size_append,ByteArray.size_append];omega
 ·decide
def aMd : aH8→Prop
 | .trap c=>1≤c∧c≤8
 | .next _ _ _ out=>∀ s∈out,cP s=true
 | _=>True
theorem aMe (o : Int) (a b : bZ) : 0≤(aJg o a b).2∧(aJg o a b).2≤8:=by
 unfold aJg
 repeat' split
 all_goals simp
theorem aNd (o : Int) (a b : bZ) : 0≤(opT o a b).2∧(opT o a b).2≤8:=by
 unfold opT
 repeat' split
 all_goals first
  | exact aMe _ _ _
  | simp
theorem aMf (a : bZ) : 0≤(aKr a).2∧(aKr a).2≤8:=by
 unfold aKr
 split<;>simp
theorem ifk {c : Prop} [Decidable c] {a b : aH8} (h1 : c→aMd a) (h2 : ¬ c→aMd b) : aMd (if c then a else b):=by
 split
 ·exact h1 (by assumption)
 ·exact h2 (by assumption)
theorem aPt {m : eJ} {fr : bT} {took : List bZ} {depth : Nat} {hp : List (List bZ)} {made : Int} {out : List ByteArray} {x : bK} (ho : ∀ s∈out,cP s=true) (ha : cP (aCs (took.headD fB) hp)=true) :
 aMd (doT m fr took depth hp made out x):=by
 have t : ∀ c : Int,1≤c→c≤8→aMd (.trap c):=fun c h1 h2=>⟨h1,h2⟩
 unfold doT
 simp only
 repeat' (refine ifk (fun _=>?_) (fun _=>?_))
 all_goals first
  | exact ho
  | exact True.intro
  | exact t _ (by omega) (by omega)
  | (have:=aNd x.o (took.headD fB) (took.tail.headD fB);exact t _ (by omega) (by omega))
  | (have:=aMf (took.headD fB);exact t _ (by omega) (by omega))
  | (refine (?_ : ∀ s∈out++[_],cP s=true)
     intro s hs
     rcases List.mem_append.1 hs with hs | hs
     ·exact ho s hs
     ·rw [List.mem_singleton] at hs
      rw [hs];exact ha)
structure VmK (m : eJ) (v : fN) : Prop extends VmI m v where
 outs : ∀ s∈v.out,cP s=true
 vok : iZ m v.hp.length v.val
 end_ : (v.st=0∧v.tr=0∧v.val=fB)∨(v.st=2∧1≤v.tr∧v.tr≤8∧v.val=fB∧v.fr≠[])∨(v.st=1∧v.tr=0∧v.fr = [])
theorem VmK.step {m : eJ} (g : fC m) {v : fN} (h : VmK m v) : VmK m (uQ m v):=by
 by_cases h0 : v.st≠0
 ·rw [aKy h0];exact h
 have h0 : v.st=0:=by omega
 by_cases h5 : v.steps=50000
 ·have : uQ m v=v:=by unfold uQ;rw [if_neg (by omega),if_pos h5]
  rw [this];exact h
 have I':=h.toVmI.step g
 obtain ⟨fs0,f,G⟩:=h.goes g h0
 obtain ⟨t,low⟩:=h.top fs0 f G.fr
 have hnf:=h.nfr
 rw [G.fr,List.length_append,List.length_singleton] at hnf
 have A:=aMX (fs0:=fs0) g h.toVmI t rfl hnf
 have K : aMd (aHf m v fs0 f):=by
  refine aPt h.outs (aKC (nf:=m.funcs.length) (fun i=>(aIb h.hp i).1) (by have:=g.fit.2.1;omega) ?_)
  generalize hd : f.stk.drop (f.stk.length - (dQ m.funcs (nK m.funcs f)).1.toNat)=D
  cases D with
  | nil=>exact mT
  | cons y r=>exact t.vs y (List.mem_of_mem_drop (by rw [hd];simp))
 obtain ⟨e1,e2⟩ : v.tr=0∧v.val=fB:=by
  rcases h.end_ with e | e | e
  ·exact e.2
  ·omega
  ·omega
 have hst:=aHg h0 h5 G.fr (m:=m)
 rw [hst] at I' ⊢
 cases ha : aHf m v fs0 f with
 | trap c=>
   rw [ha] at K I'
   exact ⟨I',h.outs,h.vok,.inr (.inl ⟨rfl,K.1,K.2,e2,by show v.fr≠[];rw [G.fr];simp⟩)⟩
 | next fr hp made out=>
   rw [ha] at K I' A
   have A : aJr m v f _ fr hp made out:=A
   exact ⟨I',K,pK (n:=v.hp.length) (by have:=A.n;show (v.hp.length : Int)≤hp.length;omega) h.vok,.inl ⟨h0,e1,e2⟩⟩
 | call fr gg=>
   rw [ha] at I'
   exact ⟨I',h.outs,h.vok,.inl ⟨h0,e1,e2⟩⟩
 | ret a=>
   rw [ha] at A I'
   have A : iZ m v.hp.length a:=A
   by_cases hf : fs0 = []
   ·have e : aL0 m v fs0 (.ret a)=⟨[],v.hp,v.made,v.out,1,v.tr,a,v.steps+1⟩:=if_pos hf
    rw [e] at I' ⊢
    exact ⟨I',h.outs,A,.inr (.inr ⟨rfl,e1,rfl⟩)⟩
   ·have e : aL0 m v fs0 (.ret a)=⟨aDW a fs0,v.hp,v.made,v.out,v.st,v.tr,v.val,v.steps+1⟩:=if_neg hf
    rw [e] at I' ⊢
    exact ⟨I',h.outs,h.vok,.inl ⟨h0,e1,e2⟩⟩
def aF6 (m : eJ) (v : fN) : R:=[.bool true,.lst (m.texts.map PV.str),.lst (m.funcs.map cG.pv),.lst (v.fr.map bT.pv),.lst (v.hp.map aL),.int .i64 v.made,.lst (v.out.map PV.str),.int .i64 v.st,.int .i64 v.tr,.int .i64 v.val.k,.int .i64 v.val.n,.str v.val.s,.int .i64 v.steps]
def aGK (m : eJ) : PV:=.lst (m.funcs.map fun f=>aX (iD m.funcs f.code))
section
variable {P : R → Prop} {k : R → Option R} {m : eJ}
theorem fC.b (g : fC m) : aAp m=true:=by simp [aAp,g.ok,g.bad]
theorem aF7 (g : fC m) : Ok (fun r=>r = [aGK m]) (xE m.pv):=by
 obtain ⟨f1,f2,ff⟩:=g.fit
 rw [aEi]
 refine aH rfl (aA rfl (aA rfl (aD ?_)))
 have loop : ∀ i,i≤m.funcs.length→Ok (fun r=>r = [aGK m]) (jS (.int .i64 m.funcs.length) (.int .i64 i) (.lst (m.texts.map PV.str)) (.lst (m.funcs.map cG.pv)) (.lst ((m.funcs.take i).map fun f=>aX (iD m.funcs f.code)))):=by
  refine cT (n:=m.funcs.length) (F:=fun i=>jS (.int .i64 m.funcs.length) (.int .i64 i) (.lst (m.texts.map PV.str)) (.lst (m.funcs.map cG.pv)) (.lst ((m.funcs.take i).map fun f=>aX (iD m.funcs f.code)))) (P:=fun _ r=>r = [aGK m]) ?_ (fun i hi ih=>?_)
  ·rw [tD,List.take_length]
   exact aE (aC (fun h=>by omega) (fun _=>aB rfl))
  ·rw [tD]
   refine aE (aC (fun _=>?_) (fun h=>by omega))
   refine aF (aAl (T:=(.lst (m.texts.map PV.str))) (ff _ (List.getElem_mem hi)).1 hi rfl) (fun r hr=>?_)
   rw [hr]
   refine nT (by simp) (fun x hx=>by simp only [hd,List.nil_append,List.mem_singleton] at hx;subst hx;rfl) (nT (by simp;omega) (fun x hx=>by simp only [hd,List.nil_append,List.mem_singleton] at hx;subst hx;rfl) (aI (by omega) ?_))
   rw [List.take_add_one,List.getElem?_eq_getElem hi,Option.toList_some,List.map_append] at ih
   exact ih
 exact loop 0 (by omega)
theorem aJy {hp : List (List bZ)} (hn : hp.length≤120) (hr : ∀ r∈hp,r.length≤6) : Ok (fun r=>r = [.bool true]) (tZ (.lst (hp.map aL))):=by
 have loop : ∀ i,i≤hp.length→Ok (fun r=>r = [.int .i64 (-1)]) (bE (.lst (hp.map aL)) (.fn 116 []) (.int .i64 hp.length) (.int .i64 i)):=by
  refine cT (n:=hp.length) (F:=fun i=>bE (.lst (hp.map aL)) (.fn 116 []) (.int .i64 hp.length) (.int .i64 i)) (P:=fun _ r=>r = [.int .i64 (-1)]) ?_ (fun i hi ih=>?_)
  ·rw [cA]
   exact aE (aC (fun h=>by omega) (fun _=>aB rfl))
  ·rw [cA]
   refine aE (aC (fun _=>?_) (fun h=>by omega))
   refine aN hi (fun _=>rfl) (zL (o:=vC (aL hp[i])) (Q:=fun r=>r = [.bool false]) rfl ?_ (fun r hr=>?_))
   ·rw [wD]
    have:=hr _ (List.getElem_mem hi)
    exact aH rfl (aA rfl (bH (iC (aB (by rw [decide_eq_false (by omega)])))))
   ·rw [hr]
    exact aQ (aI (by omega) ih)
 rw [aAb]
 refine aD (lQ (aC (fun _=>?_) (fun h=>by omega)))
 refine aF (Q:=fun r=>r = [.bool false]) ?_ (fun r hr=>by rw [hr];exact bC (aB rfl))
 rw [eS]
 refine aF (Q:=fun r=>r = [.int .i64 (-1)]) ?_ (fun r hr=>by rw [hr];exact sQ (aB rfl))
 rw [fH]
 exact aD (loop 0 (by omega))
theorem aKD {v : fN} {x : bZ} (hf : m.funcs.length≤1000) (hh : v.hp.length≤1000) (hx : iZ m v.hp.length x) : Ok (fun r=>r=aF6 m v) (nE (.int .i64 x.k) (.int .i64 x.n) (.str x.s) (.bool true) (.lst (m.texts.map PV.str)) (.lst (m.funcs.map cG.pv)) (.lst (v.fr.map bT.pv)) (.lst (v.hp.map aL)) (.int .i64 v.made) (.lst (v.out.map PV.str)) (.int .i64 v.st) (.int .i64 v.tr) (.int .i64 v.val.k) (.int .i64 v.val.n) (.str v.val.s) (.int .i64 v.steps)):=by
 have hs:=aBO hx
 rw [aAf]
 refine bG (aD (aD (aF (aFW (v:=x) (nf:=m.funcs.length) (recs:=v.hp.length) (by omega) (by omega) (by omega)) (fun r hr=>?_))))
 rw [hr,hx]
 exact bR rfl (aB rfl)
theorem aMg (g : fC m) {v : fN} (h : VmK m v) : Ok (fun r=>r=aF6 m v) (oC (.lst (v.fr.map bT.pv)) (.lst (v.hp.map aL)) (.int .i64 v.made) (.lst (v.out.map PV.str)) (.int .i64 v.st) (.int .i64 v.tr) (.int .i64 v.val.k) (.int .i64 v.val.n) (.str v.val.s) (.int .i64 v.steps) (.bool true) (.lst (m.texts.map PV.str)) (.lst (m.funcs.map cG.pv)) (.lst (v.fr.map bT.pv)) (.lst (v.hp.map aL)) (.int .i64 v.made) (.lst (v.out.map PV.str)) (.int .i64 v.st) (.int .i64 v.tr) (.int .i64 v.val.k) (.int .i64 v.val.n) (.str v.val.s) (.int .i64 v.steps)):=by
 have hf:=g.fit.2.1
 have z:=h.toVmI.sz g
 have zf:=z.f
 have zh:=z.h
 have inv : ∀ f∈v.fr,(∀ y∈f.loc++f.stk,iZ m v.hp.length y)∧(f.loc++f.stk).length≤2000:=fun f hf=>by
  have:=z.fl f hf
  refine ⟨fun y hy=>?_,by rw [List.length_append];omega⟩
  rcases List.eq_nil_or_concat v.fr with h0 | ⟨fs0,f0,h0⟩
  ·rw [h0] at hf;cases hf
  ·obtain ⟨t,l⟩:=h.top fs0 f0 (by rw [h0];simp)
   rw [h0] at hf
   simp only [List.concat_eq_append,List.mem_append,List.mem_singleton] at hf
   rcases hf with hf | rfl
   ·rcases List.mem_append.1 hy with hy | hy
    ·exact (l f hf).vl y hy
    ·exact (l f hf).vs y hy
   ·rcases List.mem_append.1 hy with hy | hy
    ·exact t.vl y hy
    ·exact t.vs y hy
 have last : Ok (fun r=>r=aF6 m v) (dA (.lst (v.hp.map aL)) (.int .i64 v.hp.length) (.int .i64 v.hp.length) (.bool true) (.lst (m.texts.map PV.str)) (.lst (m.funcs.map cG.pv)) (.lst (v.fr.map bT.pv)) (.lst (v.hp.map aL)) (.int .i64 v.made) (.lst (v.out.map PV.str)) (.int .i64 v.st) (.int .i64 v.tr) (.int .i64 v.val.k) (.int .i64 v.val.n) (.str v.val.s) (.int .i64 v.steps) (.lst (v.fr.map bT.pv)) (.lst (v.hp.map aL)) (.int .i64 v.made) (.lst (v.out.map PV.str)) (.int .i64 v.st) (.int .i64 v.tr) (.int .i64 v.val.k) (.int .i64 v.val.n) (.str v.val.s) (.int .i64 v.steps)):=by
  rw [gH]
  refine aE (aC (fun h=>by omega) (fun _=>aF (aKD (by omega) zh h.vok) (fun r hr=>?_)))
  rw [hr]
  exact aB rfl
 have heap : ∀ i,i≤v.hp.length→Ok (fun r=>r=aF6 m v) (dA (.lst (v.hp.map aL)) (.int .i64 v.hp.length) (.int .i64 i) (.bool true) (.lst (m.texts.map PV.str)) (.lst (m.funcs.map cG.pv)) (.lst (v.fr.map bT.pv)) (.lst (v.hp.map aL)) (.int .i64 v.made) (.lst (v.out.map PV.str)) (.int .i64 v.st) (.int .i64 v.tr) (.int .i64 v.val.k) (.int .i64 v.val.n) (.str v.val.s) (.int .i64 v.steps) (.lst (v.fr.map bT.pv)) (.lst (v.hp.map aL)) (.int .i64 v.made) (.lst (v.out.map PV.str)) (.int .i64 v.st) (.int .i64 v.tr) (.int .i64 v.val.k) (.int .i64 v.val.n) (.str v.val.s) (.int .i64 v.steps)):=by
  refine cT (n:=v.hp.length) (F:=fun i=>dA (.lst (v.hp.map aL)) (.int .i64 v.hp.length) (.int .i64 i) (.bool true) (.lst (m.texts.map PV.str)) (.lst (m.funcs.map cG.pv)) (.lst (v.fr.map bT.pv)) (.lst (v.hp.map aL)) (.int .i64 v.made) (.lst (v.out.map PV.str)) (.int .i64 v.st) (.int .i64 v.tr) (.int .i64 v.val.k) (.int .i64 v.val.n) (.str v.val.s) (.int .i64 v.steps) (.lst (v.fr.map bT.pv)) (.lst (v.hp.map aL)) (.int .i64 v.made) (.lst (v.out.map PV.str)) (.int .i64 v.st) (.int .i64 v.tr) (.int .i64 v.val.k) (.int .i64 v.val.n) (.str v.val.s) (.int .i64 v.steps)) (P:=fun _ r=>r=aF6 m v) last (fun i hi ih=>?_)
  obtain ⟨q1,q2⟩:=h.hp.recs _ (List.getElem_mem hi)
  rw [gH]
  refine aE (aC (fun _=>?_) (fun h=>by omega))
  refine aN hi (fun _=>rfl) (aH rfl (aA rfl (bH ?_)))
  have inner : ∀ j,j≤v.hp[i].length→Ok (fun r=>r=aF6 m v) (eC (.lst (v.hp.map aL)) (.int .i64 v.hp.length) (.int .i64 i) (aU v.hp[i]) (.int .i64 v.hp[i].length) (.int .i64 j) (.bool true) (.lst (m.texts.map PV.str)) (.lst (m.funcs.map cG.pv)) (.lst (v.fr.map bT.pv)) (.lst (v.hp.map aL)) (.int .i64 v.made) (.lst (v.out.map PV.str)) (.int .i64 v.st) (.int .i64 v.tr) (.int .i64 v.val.k) (.int .i64 v.val.n) (.str v.val.s) (.int .i64 v.steps) (.lst (v.fr.map bT.pv)) (.lst (v.hp.map aL)) (.int .i64 v.made) (.lst (v.out.map PV.str)) (.int .i64 v.st) (.int .i64 v.tr) (.int .i64 v.val.k) (.int .i64 v.val.n) (.str v.val.s) (.int .i64 v.steps)):=by
   refine cT (n:=v.hp[i].length) (F:=fun j=>eC (.lst (v.hp.map aL)) (.int .i64 v.hp.length) (.int .i64 i) (aU v.hp[i]) (.int .i64 v.hp[i].length) (.int .i64 j) (.bool true) (.lst (m.texts.map PV.str)) (.lst (m.funcs.map cG.pv)) (.lst (v.fr.map bT.pv)) (.lst (v.hp.map aL)) (.int .i64 v.made) (.lst (v.out.map PV.str)) (.int .i64 v.st) (.int .i64 v.tr) (.int .i64 v.val.k) (.int .i64 v.val.n) (.str v.val.s) (.int .i64 v.steps) (.lst (v.fr.map bT.pv)) (.lst (v.hp.map aL)) (.int .i64 v.made) (.lst (v.out.map PV.str)) (.int .i64 v.st) (.int .i64 v.tr) (.int .i64 v.val.k) (.int .i64 v.val.n) (.str v.val.s) (.int .i64 v.steps)) (P:=fun _ r=>r=aF6 m v) ?_ (fun j hj ih'=>?_)
   ·rw [gI]
    exact aE (aC (fun h=>by omega) (fun _=>aI (by omega) ih))
   ·rw [gI]
    refine aE (aC (fun _=>?_) (fun h=>by omega))
    refine aN hj (fun _=>rfl) (aH rfl (aA rfl (aA rfl (aA rfl (aF (aKD (by omega) zh (q2 _ (List.getElem_mem hj))) (fun r hr=>?_))))))
    rw [hr]
    exact aI (by omega) ih'
  exact inner 0 (by omega)
 have frames : ∀ i,i≤v.fr.length→Ok (fun r=>r=aF6 m v) (eN (.lst (v.fr.map bT.pv)) (.int .i64 v.fr.length) (.int .i64 i) (.bool true) (.lst (m.texts.map PV.str)) (.lst (m.funcs.map cG.pv)) (.lst (v.fr.map bT.pv)) (.lst (v.hp.map aL)) (.int .i64 v.made) (.lst (v.out.map PV.str)) (.int .i64 v.st) (.int .i64 v.tr) (.int .i64 v.val.k) (.int .i64 v.val.n) (.str v.val.s) (.int .i64 v.steps) (.lst (v.fr.map bT.pv)) (.lst (v.hp.map aL)) (.int .i64 v.made) (.lst (v.out.map PV.str)) (.int .i64 v.st) (.int .i64 v.tr) (.int .i64 v.val.k) (.int .i64 v.val.n) (.str v.val.s) (.int .i64 v.steps)):=by
  refine cT (n:=v.fr.length) (F:=fun i=>eN (.lst (v.fr.map bT.pv)) (.int .i64 v.fr.length) (.int .i64 i) (.bool true) (.lst (m.texts.map PV.str)) (.lst (m.funcs.map cG.pv)) (.lst (v.fr.map bT.pv)) (.lst (v.hp.map aL)) (.int .i64 v.made) (.lst (v.out.map PV.str)) (.int .i64 v.st) (.int .i64 v.tr) (.int .i64 v.val.k) (.int .i64 v.val.n) (.str v.val.s) (.int .i64 v.steps) (.lst (v.fr.map bT.pv)) (.lst (v.hp.map aL)) (.int .i64 v.made) (.lst (v.out.map PV.str)) (.int .i64 v.st) (.int .i64 v.tr) (.int .i64 v.val.k) (.int .i64 v.val.n) (.str v.val.s) (.int .i64 v.steps)) (P:=fun _ r=>r=aF6 m v) ?_ (fun i hi ih=>?_)
  ·rw [gY]
   exact aE (aC (fun h=>by omega) (fun _=>aD (heap 0 (by omega))))
  obtain ⟨q2,q1⟩:=inv _ (List.getElem_mem hi)
  have zz:=z.fl _ (List.getElem_mem hi)
  rw [gY]
  refine aE (aC (fun _=>?_) (fun h=>by omega))
  refine aN hi (fun _=>rfl) (aH rfl (aA rfl (aA rfl (aA rfl (aA rfl ?_)))))
  refine nT (by simp) (fun x hx=>by simp only [List.nil_append,List.mem_cons,List.not_mem_nil,or_false] at hx;rcases hx with rfl | rfl<;>rfl) ?_
  refine aK4 (by omega) (by omega) (eA (eX _) (bH ?_))
  generalize hl : v.fr[i].loc++v.fr[i].stk=l at q1 q2
  have inner : ∀ j,j≤l.length→Ok (fun r=>r=aF6 m v) (eO (.lst (v.fr.map bT.pv)) (.int .i64 v.fr.length) (.int .i64 i) (.int .i64 l.length) (.int .i64 j) (.bool true) (.lst (m.texts.map PV.str)) (.lst (m.funcs.map cG.pv)) (.lst (v.fr.map bT.pv)) (.lst (v.hp.map aL)) (.int .i64 v.made) (.lst (v.out.map PV.str)) (.int .i64 v.st) (.int .i64 v.tr) (.int .i64 v.val.k) (.int .i64 v.val.n) (.str v.val.s) (.int .i64 v.steps) (.lst (v.fr.map bT.pv)) (.lst (v.hp.map aL)) (.int .i64 v.made) (.lst (v.out.map PV.str)) (.int .i64 v.st) (.int .i64 v.tr) (.int .i64 v.val.k) (.int .i64 v.val.n) (.str v.val.s) (.int .i64 v.steps) (aU l)):=by
   refine cT (n:=l.length) (F:=fun j=>eO (.lst (v.fr.map bT.pv)) (.int .i64 v.fr.length) (.int .i64 i) (.int .i64 l.length) (.int .i64 j) (.bool true) (.lst (m.texts.map PV.str)) (.lst (m.funcs.map cG.pv)) (.lst (v.fr.map bT.pv)) (.lst (v.hp.map aL)) (.int .i64 v.made) (.lst (v.out.map PV.str)) (.int .i64 v.st) (.int .i64 v.tr) (.int .i64 v.val.k) (.int .i64 v.val.n) (.str v.val.s) (.int .i64 v.steps) (.lst (v.fr.map bT.pv)) (.lst (v.hp.map aL)) (.int .i64 v.made) (.lst (v.out.map PV.str)) (.int .i64 v.st) (.int .i64 v.tr) (.int .i64 v.val.k) (.int .i64 v.val.n) (.str v.val.s) (.int .i64 v.steps) (aU l)) (P:=fun _ r=>r=aF6 m v) ?_ (fun j hj ih'=>?_)
   ·rw [gZ]
    exact aE (aC (fun h=>by omega) (fun _=>aI (by omega) ih))
   ·rw [gZ]
    refine aE (aC (fun _=>?_) (fun h=>by omega))
    refine aDV (by omega) (by omega) (aN hj (fun _=>rfl) (aH rfl (aA rfl (aA rfl (aA rfl (aF (aKD (by omega) zh (q2 _ (List.getElem_mem hj))) (fun r hr=>?_)))))))
    rw [hr]
    exact aI (by omega) ih'
  exact inner 0 (by omega)
 rw [uN]
 exact aD (frames 0 (by omega))
end
section
variable {P : R → Prop} {m : eJ}
theorem vO {k : PV→Option R} {f : Int} (hf : 0≤f∧f<m.funcs.length) (h : Ok P (k (aX (iD m.funcs (dD m.funcs f))))) : Ok P (bd (PV.at_ 1 false (aGK m) (.int .i64 f)) k):=by
 obtain ⟨i,rfl⟩:=Int.eq_ofNat_of_zero_le hf.1
 have hi : i<m.funcs.length:=by omega
 have : dD m.funcs i=m.funcs[i].code:=by simp [dD,List.getElem?_eq_getElem hi]
 rw [this] at h
 exact aN hi (fun _=>rfl) h
theorem fJ (g : fC m) {k : PV→Option R} {f pc : Int} (hf : 0≤f∧f<m.funcs.length) (hp : 0≤pc∧pc<(dD m.funcs f).length) (h : Ok P (k (.int .i64 (dAt m f pc)))) :
 Ok P (bd (PV.at_ 1 false (aX (iD m.funcs (dD m.funcs f))) (.int .i64 pc)) k):=by
 obtain ⟨i,hi,he,hc,F,_⟩:=g.code hf
 have hl : (iD m.funcs (dD m.funcs f)).length=(dD m.funcs f).length:=by rw [hc];exact (xN F).1
 refine hJ hp.1 (by omega) (fun x hx=>?_)
 have : dAt m f pc=x:=by unfold dAt;rw [hx];rfl
 rw [← this];exact h
theorem aNe (g : fC m) {n : Int} {f : bT} {top : Bool} (h : FrI m n f) (h1 : top=true→aGJ m n f) (h2 : top=false→aEr m n f) :
 Ok (fun r=>r = [.bool true]) (rT m.pv (aGK m) (.int .i64 f.f) (.int .i64 f.pc) (.int .i64 f.loc.length) (.int .i64 f.stk.length) (.bool top)):=by
 obtain ⟨hf,hpc,hloc,hd,_,_⟩:=h
 obtain ⟨f1,f2,ff⟩:=g.fit
 obtain ⟨i,hi,he,hc,F,_⟩:=g.code hf
 have nc:=F.n2
 rw [← hc] at nc
 rw [yH]
 refine aH rfl (aA rfl (aA rfl (aD (fA (by omega) ?_))))
 rw [bA.2 (show 0≤f.f∧f.f≤(m.funcs.length : Int) - 1 by omega)]
 refine bC (aQ (aKt hf.1 hf.2 (fun fn hfn=>aA rfl (cW (aY (fun h=>?_) (fun _=>?_))))))
 ·exact absurd (by rw [hloc];unfold aFU;rw [hfn];rfl) h
 refine aKt hf.1 hf.2 (fun fn' hfn'=>aA rfl (aD ?_))
 have hcf : dD m.funcs f.f=fn'.code:=by unfold dD;rw [hfn'];rfl
 rw [← hcf]
 refine fA (by omega) ?_
 rw [bA.2 (show 0≤f.pc∧f.pc≤((dD m.funcs f.f).length : Int) - 1 by omega)]
 refine bC (aQ (vO hf (fJ g hf hpc (aE (aC (fun h=>by omega) (fun _=>?_))))))
 cases top with
 | true=>
   have t:=(h1 rfl).h
   refine bG (vO hf (fJ g hf hpc (aM (aB ?_))))
   rw [decide_eq_true t]
 | false=>
   have l:=(h2 rfl).h
   obtain ⟨l1,l2,l3⟩:=(h2 rfl).low
   refine aQ (aM (aC (fun h=>by omega) (fun _=>vO hf (bY (by omega) (fJ g hf (by omega) (aE (aC (fun h=>by omega) (fun _=>?_))))))))
   refine aKt hf.1 hf.2 (fun fn2 hfn2=>aA rfl (bY (by omega) ?_))
   have hcf2 : dD m.funcs f.f=fn2.code:=by unfold dD;rw [hfn2];rfl
   have hin : (fn2.code.map bK.pv)[(f.pc - 1).toNat]? = some (qE m f.f (f.pc - 1)).pv:=by
    rw [List.getElem?_map,← hcf2]
    unfold qE
    rw [List.getElem?_eq_getElem (by omega)];rfl
   refine aBp (by omega) hin rfl (aA rfl (aM (aC (fun _=>?_) (fun h=>aM (aC (fun _=>?_) (fun h=>by omega))))))
   ·refine vO hf (fJ g hf hpc (bY (by have:=(h2 rfl).toFrI.dle g;omega) (aM (aB ?_))))
    rw [decide_eq_true l]
   ·refine vO hf (fJ g hf hpc (bY (by have:=(h2 rfl).toFrI.dle g;omega) (aM (aB ?_))))
    rw [decide_eq_true l]
theorem aMh : hU fB.s fB.s=true:=aFP _
theorem aJz (g : fC m) {v : fN} (h : VmK m v) : ∀ i,i≤v.fr.length→Ok (fun r=>r = [.bool true]) (gT (aGK m) (.lst (v.fr.map bT.pv)) (.int .i64 v.fr.length) (.int .i64 i) (.lst (m.texts.map PV.str)) (.lst (m.funcs.map cG.pv)) (.lst (v.fr.map bT.pv)) (.lst (v.hp.map aL)) (.int .i64 v.made) (.lst (v.out.map PV.str)) (.int .i64 v.st) (.int .i64 v.tr) (.int .i64 v.val.k) (.int .i64 v.val.n) (.str v.val.s) (.int .i64 v.steps) (.bool true)):=by
 have z:=h.toVmI.sz g
 have zf:=z.f
 refine cT (n:=v.fr.length) (F:=fun i=>gT (aGK m) (.lst (v.fr.map bT.pv)) (.int .i64 v.fr.length) (.int .i64 i) (.lst (m.texts.map PV.str)) (.lst (m.funcs.map cG.pv)) (.lst (v.fr.map bT.pv)) (.lst (v.hp.map aL)) (.int .i64 v.made) (.lst (v.out.map PV.str)) (.int .i64 v.st) (.int .i64 v.tr) (.int .i64 v.val.k) (.int .i64 v.val.n) (.str v.val.s) (.int .i64 v.steps) (.bool true)) (P:=fun _ r=>r = [.bool true]) ?_ (fun i hi ih=>?_)
 ·rw [mQ]
  have hn:=h.nfr
  refine aE (aC (fun h=>by omega) (fun _=>aD (dX (tK (fun h1=>?_) (fun h1=>?_)))))
  ·have hne : v.fr≠[]:=fun e=>by rw [e] at h1;simp at h1
   have key : ∀ {k : PV→Option R},v.val=fB→Ok (fun r=>r = [.bool true]) (k (.bool true))→Ok (fun r=>r = [.bool true]) (bd (PV.ceq [1,1,2] .eql (.agg [.int .i64 v.val.k,.int .i64 v.val.n,.str v.val.s]) (.agg [(.int .i64 0),(.int .i64 0),(.str (bs []))])) k):=fun e hk=>by
    refine aH9 (a:=v.val) (b:=fB) ?_
    rw [e,decide_eq_true rfl,decide_eq_true rfl,aMh]
    exact hk
   rcases h.end_ with e | e | e
   ·refine key e.2.2 (aM ?_)
    rw [decide_eq_true e.1]
    refine bG (bG (bG (aM (aB ?_))))
    rw [decide_eq_true e.2.1]
   ·refine key e.2.2.2.1 (aM ?_)
    rw [decide_eq_false (by omega)]
    refine aQ (aM ?_)
    rw [decide_eq_true e.1]
    refine bG (bG (bG (dX (aB ?_))))
    rw [bA.2 (by omega)];rfl
   ·exact absurd e.2.2 hne
  ·have he : v.fr = []:=by
    cases hq : v.fr with
    | nil=>rfl
    | cons a l=>exfalso;rw [hq] at h1 hn;simp at h1 hn;omega
   rcases h.end_ with e | e | e
   ·exact absurd he (h.run e.1)
   ·exact absurd he e.2.2.2.2
   ·refine aM ?_
    rw [decide_eq_false (by omega)]
    refine aQ (aM ?_)
    rw [decide_eq_false (by omega)]
    refine aQ (aM ?_)
    rw [decide_eq_true e.1]
    refine bG (bG (aD (aM ?_)))
    rw [he,decide_eq_true (show ((([] : List bT).length : Nat) : Int)=0 from rfl)]
    refine bG (aM (aB ?_))
    rw [decide_eq_true e.2.1]
 ·rw [mQ]
  refine aE (aC (fun _=>?_) (fun h=>by omega))
  refine aN hi (fun _=>rfl) (aH rfl (aA rfl (aA rfl (aA rfl (aA rfl (bG (bH (bH (aD (bY (by omega) (aM ?_)))))))))))
  rcases List.eq_nil_or_concat v.fr with e | ⟨fs0,f,e⟩
  ·rw [e] at hi;simp at hi
  rw [List.concat_eq_append] at e
  obtain ⟨t,l⟩:=h.top fs0 f e
  have hlen : v.fr.length=fs0.length+1:=by rw [e];simp
  have fr : (i : Int)=(v.fr.length : Int) - 1→v.fr[i]=f:=fun h=>by
   have : i=fs0.length:=by omega
   subst this
   simp [e]
  have lo : ¬ (i : Int)=(v.fr.length : Int) - 1→v.fr[i]∈fs0:=fun h=>by
   have hi' : i<fs0.length:=by omega
   have : v.fr[i]=fs0[i]:=by simp only [e];exact List.getElem_append_left hi'
   rw [this];exact List.getElem_mem hi'
  refine aF (aNe g (n:=v.hp.length) (f:=v.fr[i]) ?_ (fun ht=>?_) (fun ht=>?_)) (fun r hr=>?_)
  ·by_cases hc : (i : Int)=(v.fr.length : Int) - 1
   ·rw [fr hc];exact t.toFrI
   ·exact (l _ (lo hc)).toFrI
  ·rw [fr (of_decide_eq_true ht)];exact t
  ·exact l _ (lo (of_decide_eq_false ht))
  ·rw [hr]
   exact bR rfl (aI (by omega) ih)
theorem aIn (g : fC m) {v : fN} (h : VmK m v) : Ok (fun r=>r = [.bool true]) (wC m.pv v.pv):=by
 have z:=h.toVmI.sz g
 have hm:=h.hp.made
 have ho:=h.hp.out
 have hst:=h.steps
 rw [aCj]
 refine aH rfl (aA rfl (aA rfl (aH rfl (aA rfl (aA rfl (aA rfl (aA rfl (aA rfl (aA rfl (aA rfl (aA rfl (aA rfl (aA rfl (aJt g.sz ?_))))))))))))))
 rw [g.b]
 refine bG (aF (aF7 g) (fun r hr=>?_))
 rw [hr]
 refine aF (Q:=fun r=>r = [.bool true]) ?_ (fun r hr=>by rw [hr];exact aB rfl)
 rw [aCk]
 refine aH rfl (aA rfl (aA rfl (aH rfl (aA rfl (aA rfl (aA rfl (aA rfl (aA rfl (aA rfl (aA rfl (aA rfl (aA rfl (aA rfl ?_)))))))))))))
 refine aF (aJy (by omega) (fun r hr=>(h.hp.recs r hr).1)) (fun r hr=>?_)
 rw [hr]
 refine bC (aQ (aD (dX ?_)))
 rw [bA.2 hm]
 refine bC (aQ (aD (iC (aC (fun h=>by omega) (fun _=>dX ?_)))))
 rw [bA.2 hst]
 refine bC (aQ (aDh (by omega) (fun s=>!cP s) (fun x hx=>?_) ?_))
 ·show Ok _ (zV _)
  rw [aAc]
  have ht:=h.outs x hx
  refine aF (aAH (s:=x) (by simp only [cP,Bool.and_eq_true,decide_eq_true_eq] at ht;omega)) (fun r hr=>?_)
  rw [hr]
  exact bC (aB rfl)
 ·have : v.out.any (fun s=>!cP s)=false:=by
   rw [List.any_eq_false]
   intro s hs
   rw [h.outs s hs];simp
  rw [this]
  refine aQ (aF (aMg g h) (fun r hr=>?_))
  rw [hr]
  exact aD (aJz g h 0 (by omega))
end
section
variable {P : R → Prop} {m : eJ}
theorem aAr (g : fC m) {l : List bZ} {n : Nat} (hl : l.length≤1000) (h : ∀ y∈l,iZ m n y) : Ok (fun r=>r = [.bool true]) (iS m.pv (aU l) (.int .i64 n)):=by
 have hf:=g.fit.2.1
 rw [uH]
 refine aH rfl (aA rfl (aA rfl ?_))
 refine cT (n:=l.length) (F:=fun i=>gQ (aU l) (.int .i64 n) (.int .i64 i) (.lst (m.texts.map PV.str)) (.lst (m.funcs.map cG.pv))) (P:=fun _ r=>r = [.bool true]) ?_ (fun i hi ih=>?_) 0 (by omega)
 ·rw [gW]
  exact bH (aE (aC (fun h=>by omega) (fun _=>aB rfl)))
 ·rw [gW]
  have hv:=h _ (List.getElem_mem hi)
  have hs:=aBO hv
  refine bH (aE (aC (fun _=>?_) (fun h=>by omega)))
  refine aN hi (fun _=>rfl) (aF (xL (T:=(.lst (m.texts.map PV.str))) (fs:=m.funcs) (v:=l[i]) (recs:=n) (by omega) (by omega)) (fun r hr=>?_))
  rw [hr,hv]
  exact bC (aQ (aI (by omega) ih))
theorem aMi (g : fC m) {n : Nat} {f : bT} {top : Bool} (h : FrI m n f) (hs : f.loc.length≤1000∧f.stk.length≤1000) (h1 : top=true→aGJ m n f) (h2 : top=false→aEr m n f) :
 Ok (fun r=>r = [.bool true]) (mK m.pv f.pv (.int .i64 n) (.bool top)):=by
 obtain ⟨hf,hpc,hloc,hd,hvl,hvs⟩:=h
 obtain ⟨f1,f2,ff⟩:=g.fit
 obtain ⟨i,hi,he,hc,F,_⟩:=g.code hf
 have nc:=F.n2
 rw [← hc] at nc
 have hdep : Ok (fun r=>r = [aX (iD m.funcs (dD m.funcs f.f))]) (iU m.pv (.int .i64 f.f)):=by
  rw [hc,he]
  exact aAi F hi rfl
 rw [tC]
 refine aH rfl (aA rfl (aA rfl (aH rfl (aA rfl (aA rfl (aA rfl (aA rfl (aD (bY (by omega) (dH ?_))))))))))
 rw [bA.2 (show 0≤f.f∧f.f≤(m.funcs.length : Int) - 1 by omega)]
 refine bC (aQ (wF hf (aH rfl (aA rfl (aA rfl (aA rfl (aF hdep (fun r hr=>?_))))))))
 rw [hr]
 refine bH (cW (aY (fun h=>absurd hloc h) (fun _=>aD (bY (by omega) (dH ?_)))))
 rw [bA.2 (show 0≤f.pc∧f.pc≤((dD m.funcs f.f).length : Int) - 1 by omega)]
 refine bC (aQ (fJ g hf hpc (aE (aC (fun h=>by omega) (fun _=>aF (aAr g hs.1 hvl) (fun r hr=>?_))))))
 rw [hr]
 refine bC (aQ (aF (aAr g hs.2 hvs) (fun r hr=>?_)))
 rw [hr]
 refine bC (aQ ?_)
 cases top with
 | true=>
   have t:=(h1 rfl).h
   refine bG (bH (fJ g hf hpc (aM (aB ?_))))
   rw [decide_eq_true t]
 | false=>
   have l:=(h2 rfl).h
   have dl:=(h2 rfl).toFrI.dle g
   obtain ⟨l1,l2,l3⟩:=(h2 rfl).low
   refine aQ (aE (aC (fun h=>by omega) (fun _=>bY (by omega) (fJ g hf (by omega) (aE (aC (fun h=>by omega) (fun _=>bY (by omega) ?_)))))))
   have hin : ((dD m.funcs f.f).map bK.pv)[(f.pc - 1).toNat]? = some (qE m f.f (f.pc - 1)).pv:=by
    rw [List.getElem?_map]
    unfold qE
    rw [List.getElem?_eq_getElem (by omega)];rfl
   refine aBp (by omega) hin rfl (aA rfl (aM (aC (fun _=>?_) (fun h=>aM (aC (fun _=>?_) (fun h=>by omega))))))
   ·refine bH (fJ g hf hpc (bY (by omega) (aM (aB ?_))))
    rw [decide_eq_true l]
   ·refine bH (fJ g hf hpc (bY (by omega) (aM (aB ?_))))
    rw [decide_eq_true l]
theorem aHk {v : bZ} {k : PV→Option R} (e : v=fB) (h : Ok P (k (.bool false))) : Ok P (bd (PV.ceq [1,1,2] .neq (.agg [.int .i64 v.k,.int .i64 v.n,.str v.s]) (.agg [(.int .i64 0),(.int .i64 0),(.str (bs []))])) k):=by
 subst e
 exact dR _ (by simp [PV.ceq,PV.eqCells,PV.eqScalar,PV.eqOr,fB]) h
theorem aKE (g : fC m) {v : fN} (h : VmK m v) : Ok (fun r=>r = [.bool true]) (bD (.int .i64 v.hp.length) (.int .i64 0) (.lst (m.texts.map PV.str)) (.lst (m.funcs.map cG.pv)) (.lst (v.fr.map bT.pv)) (.lst (v.hp.map aL)) (.int .i64 v.made) (.lst (v.out.map PV.str)) (.int .i64 v.st) (.int .i64 v.tr) (.int .i64 v.val.k) (.int .i64 v.val.n) (.str v.val.s) (.int .i64 v.steps)):=by
 have z:=h.toVmI.sz g
 have zf:=z.f
 refine cT (n:=v.fr.length) (F:=fun i=>bD (.int .i64 v.hp.length) (.int .i64 i) (.lst (m.texts.map PV.str)) (.lst (m.funcs.map cG.pv)) (.lst (v.fr.map bT.pv)) (.lst (v.hp.map aL)) (.int .i64 v.made) (.lst (v.out.map PV.str)) (.int .i64 v.st) (.int .i64 v.tr) (.int .i64 v.val.k) (.int .i64 v.val.n) (.str v.val.s) (.int .i64 v.steps)) (P:=fun _ r=>r = [.bool true]) ?_ (fun i hi ih=>?_) 0 (by omega)
 ·rw [iK]
  exact aD (aE (aC (fun h=>by omega) (fun _=>aB rfl)))
 ·rw [iK]
  refine aD (aE (aC (fun _=>?_) (fun h=>by omega)))
  refine aN hi (fun _=>rfl) (aD (bY (by omega) (aM ?_)))
  rcases List.eq_nil_or_concat v.fr with e | ⟨fs0,f,e⟩
  ·rw [e] at hi;simp at hi
  rw [List.concat_eq_append] at e
  obtain ⟨t,l⟩:=h.top fs0 f e
  have hlen : v.fr.length=fs0.length+1:=by rw [e];simp
  have fr : (i : Int)=(v.fr.length : Int) - 1→v.fr[i]=f:=fun h=>by
   have : i=fs0.length:=by omega
   subst this
   simp [e]
  have lo : ¬ (i : Int)=(v.fr.length : Int) - 1→v.fr[i]∈fs0:=fun h=>by
   have hi' : i<fs0.length:=by omega
   have : v.fr[i]=fs0[i]:=by simp only [e];exact List.getElem_append_left hi'
   rw [this];exact List.getElem_mem hi'
  refine aF (aMi g (n:=v.hp.length) (f:=v.fr[i]) ?_ (z.fl _ (List.getElem_mem hi)) (fun ht=>?_) (fun ht=>?_)) (fun r hr=>?_)
  ·by_cases hc : (i : Int)=(v.fr.length : Int) - 1
   ·rw [fr hc];exact t.toFrI
   ·exact (l _ (lo hc)).toFrI
  ·rw [fr (of_decide_eq_true ht)];exact t
  ·exact l _ (lo (of_decide_eq_false ht))
  ·rw [hr]
   exact bC (aQ (aI (by omega) ih))
theorem aIo (g : fC m) {v : fN} (h : VmK m v) : Ok (fun r=>r = [.bool true]) (wA m.pv v.pv):=by
 have z:=h.toVmI.sz g
 have zf:=z.f
 have hm:=h.hp.made
 have ho:=h.hp.out
 have hst:=h.steps
 have hfn:=g.fit.2.1
 have hnf:=h.nfr
 have hvs:=aBO h.vok
 have frames:=aKE g h
 rw [aCh]
 refine aH rfl (aA rfl (aA rfl ?_))
 refine aH rfl (aA rfl (aA rfl (aA rfl (aA rfl (aA rfl (aA rfl (aA rfl (aA rfl (aA rfl (aA rfl (?_)))))))))))
 refine aK9 g.sz ?_
 rw [g.b]
 refine bG (aF (Q:=fun r=>r = [.bool true]) ?_ (fun r hr=>by rw [hr];exact aB rfl))
 rw [yG]
 refine aH rfl (aA rfl (aA rfl ?_))
 refine aH rfl (aA rfl (aA rfl (aA rfl (aA rfl (aA rfl (aA rfl (aA rfl (aA rfl (aA rfl (aA rfl (?_)))))))))))
 refine aD (iC (aC (fun h=>by omega) (fun _=>dH ?_)))
 rw [bA.2 hm]
 refine bC (aQ (aD (iC (aC (fun h=>by omega) (fun _=>dH ?_)))))
 rw [bA.2 hst]
 refine bC (aQ (aF (xL (T:=(.lst (m.texts.map PV.str))) (fs:=m.funcs) (v:=v.val) (recs:=v.hp.length) (by omega) (by omega)) (fun r hr=>?_)))
 rw [hr,h.vok]
 refine bC (aQ ?_)
 have tail : Ok (fun r=>r = [.bool true]) (eD (.int .i64 v.hp.length) (.int .i64 0) (.lst (m.texts.map PV.str)) (.lst (m.funcs.map cG.pv)) (.lst (v.fr.map bT.pv)) (.lst (v.hp.map aL)) (.int .i64 v.made) (.lst (v.out.map PV.str)) (.int .i64 v.st) (.int .i64 v.tr) (.int .i64 v.val.k) (.int .i64 v.val.n) (.str v.val.s) (.int .i64 v.steps)):=by
  refine cT (n:=v.out.length) (F:=fun i=>eD (.int .i64 v.hp.length) (.int .i64 i) (.lst (m.texts.map PV.str)) (.lst (m.funcs.map cG.pv)) (.lst (v.fr.map bT.pv)) (.lst (v.hp.map aL)) (.int .i64 v.made) (.lst (v.out.map PV.str)) (.int .i64 v.st) (.int .i64 v.tr) (.int .i64 v.val.k) (.int .i64 v.val.n) (.str v.val.s) (.int .i64 v.steps)) (P:=fun _ r=>r = [.bool true]) ?_ (fun i hi ih=>?_) 0 (by omega)
  ·rw [iJ]
   refine aD (aE (aC (fun h=>by omega) (fun _=>?_)))
   have some_ : v.fr≠[]→1≤(v.fr.length : Int)∧(v.fr.length : Int)≤24:=fun hne=>by
    have : v.fr.length≠0:=fun e=>hne (List.length_eq_zero_iff.1 e)
    omega
   rcases h.end_ with e | e | e
   ·refine aM (aC (fun h=>by omega) (fun _=>cW (aY (fun h=>absurd e.1 h) (fun _=>aHk e.2.2 (aQ (aD (dH ?_)))))))
    rw [bA.2 (some_ (h.run e.1))]
    refine bC (aQ (aM (aC (fun _=>cW (aY (fun h=>absurd e.2.1 h) (fun _=>aM (aC (fun h=>by omega) (fun _=>frames))))) (fun h=>absurd e.1 h))))
   ·refine aM (aC (fun h=>by omega) (fun _=>cW (aY (fun _=>cW (aY (fun h=>absurd e.1 h) (fun _=>aHk e.2.2.2.1 (aQ (aD (dH ?_)))))) (fun h=>by omega))))
    rw [bA.2 (some_ e.2.2.2.2)]
    refine bC (aQ (aM (aC (fun h=>by omega) (fun _=>aM (aC (fun _=>dH ?_) (fun h=>absurd e.1 h))))))
    rw [bA.2 (show 1≤v.tr∧v.tr≤8 by omega)]
    exact bC (aQ frames)
   ·have hz : (v.fr.length : Int)=0:=by rw [e.2.2];rfl
    refine aM (aC (fun _=>aD (aM (aC (fun _=>aM (aB ?_)) (fun h=>absurd hz h)))) (fun h=>absurd e.1 h))
    rw [decide_eq_true e.2.1]
  ·rw [iJ]
   have ht:=h.outs _ (List.getElem_mem hi)
   refine aD (aE (aC (fun _=>?_) (fun h=>by omega)))
   refine aN hi (fun _=>rfl) (aEy (s:=v.out[i]) (by have:=ht;simp only [cP,Bool.and_eq_true,decide_eq_true_eq] at this;omega) ?_)
   rw [ht]
   exact bC (aQ (aI (by omega) ih))
 refine cT (n:=v.hp.length) (F:=fun i=>gL (.int .i64 v.hp.length) (.int .i64 i) (.lst (m.texts.map PV.str)) (.lst (m.funcs.map cG.pv)) (.lst (v.fr.map bT.pv)) (.lst (v.hp.map aL)) (.int .i64 v.made) (.lst (v.out.map PV.str)) (.int .i64 v.st) (.int .i64 v.tr) (.int .i64 v.val.k) (.int .i64 v.val.n) (.str v.val.s) (.int .i64 v.steps)) (P:=fun _ r=>r = [.bool true]) ?_ (fun i hi ih=>?_) 0 (by omega)
 ·rw [jI]
  exact aE (aC (fun h=>by omega) (fun _=>tail))
 ·rw [jI]
  obtain ⟨q1,q2⟩:=h.hp.recs _ (List.getElem_mem hi)
  refine aE (aC (fun _=>?_) (fun h=>by omega))
  refine aN hi (fun _=>rfl) (aA rfl (bH (iC (aC (fun h=>by omega) (fun _=>?_)))))
  refine aN hi (fun _=>rfl) (aA rfl (aF (aAr g (l:=v.hp[i]) (n:=v.hp.length) (by omega) q2) (fun r hr=>?_)))
  rw [hr]
  exact bC (aQ (aI (by omega) ih))
end
theorem aNf {a b : ByteArray} (h : hU a b=true) : a=b:=by
 unfold hU at h
 rw [ByteArray.toList_eq,ByteArray.toList_eq,beq_iff_eq] at h
 cases a;cases b
 simpa using h
theorem aPu {v : bZ} (h : (decide (v.k=fB.k)&&(decide (v.n=fB.n)&&hU v.s fB.s))=true) : v=fB:=by
 simp only [Bool.and_eq_true,decide_eq_true_eq] at h
 cases v
 obtain ⟨h1,h2,h3⟩:=h
 cases h1;cases h2;cases aNf h3
 rfl
section
variable {P : R → Prop} {m : eJ}
theorem aNg {a b : bZ} {k : PV→Option R} (h : Ok P (k (.bool (!(decide (a.k=b.k)&&(decide (a.n=b.n)&&hU a.s b.s)))))) : Ok P (bd (PV.ceq [1,1,2] .neq (.agg [.int .i64 a.k,.int .i64 a.n,.str a.s]) (.agg [.int .i64 b.k,.int .i64 b.n,.str b.s])) k):=
 dR _ (by simp [PV.ceq,PV.eqCells,PV.eqScalar,PV.eqOr,hU];rfl) h
def qF (B : Prop) (r : R) : Prop:=∃ b,r = [.bool b]∧(b=true→B)
theorem no {B : Prop} : Ok (qF B) (some [.bool false]):=aB ⟨false,rfl,fun h=>by cases h⟩
theorem yes {B : Prop} {b : Bool} (h : b=true→B) : Ok (qF B) (some [.bool b]):=aB ⟨b,rfl,h⟩
theorem xQ {o : Option R} {A B : Prop} {x : Option R} (ho : Ok (qF A) o) (hx : A→Ok (qF B) x) : Ok (qF B) (bd o fun r=>bd (PV.not (hd r)) fun v=>PV.ite v (some [.bool false]) x):=
 aF ho (fun r hr=>by
  obtain ⟨b,rfl,hb⟩:=hr
  refine bC ?_
  cases b with
  | false=>exact bG no
  | true=>exact aQ (hx (hb rfl)))
theorem aF8 {l : List bZ} {n : Nat} (hf : m.funcs.length≤1000) (hl : l.length≤2097152) (hs : ∀ y∈l,y.s.size≤2097152) : Ok (qF (∀ y∈l,iZ m n y)) (iS m.pv (aU l) (.int .i64 n)):=by
 rw [uH]
 refine aH rfl (aA rfl (aA rfl ?_))
 have key:=cT (n:=l.length) (F:=fun i=>gQ (aU l) (.int .i64 n) (.int .i64 i) (.lst (m.texts.map PV.str)) (.lst (m.funcs.map cG.pv))) (P:=fun i=>qF (∀ y∈l.drop i,iZ m n y)) ?_ (fun i hi ih=>?_) 0 (by omega)
 ·exact key
 ·rw [gW]
  exact bH (aE (aC (fun h=>by omega) (fun _=>yes fun _ y hy=>by rw [List.drop_length] at hy;cases hy)))
 ·rw [gW]
  refine bH (aE (aC (fun _=>?_) (fun h=>by omega)))
  refine aN hi (fun _=>rfl) (xQ (A:=iZ m n l[i]) ?_ (fun ha=>aI (by omega) (ih.mono ?_)))
  ·exact (xL (T:=(.lst (m.texts.map PV.str))) (fs:=m.funcs) (v:=l[i]) (recs:=n) (by omega) (hs _ (List.getElem_mem hi))).mono (fun r hr=>⟨_,hr,fun h=>h⟩)
  ·rintro r ⟨b,rfl,hb⟩
   refine ⟨b,rfl,fun h y hy=>?_⟩
   rw [List.drop_eq_getElem_cons hi] at hy
   rcases List.mem_cons.1 hy with rfl | hy
   ·exact ha
   ·exact hb h y hy
theorem aNh (g : fC m) {n : Nat} {f : bT} {top : Bool} (hs : f.loc.length≤2097152∧f.stk.length≤2097152) (hz : ∀ y∈f.loc++f.stk,y.s.size≤2097152) :
 Ok (qF ((top=true→aGJ m n f)∧(top=false→aEr m n f))) (mK m.pv f.pv (.int .i64 n) (.bool top)):=by
 obtain ⟨f1,f2,ff⟩:=g.fit
 rw [tC]
 refine aH rfl (aA rfl (aA rfl (aH rfl (aA rfl (aA rfl (aA rfl (aA rfl (aD (bY (by omega) (dH (bC (aZ (fun _=>no) (fun hb=>?_)))))))))))))
 have hf : 0≤f.f∧f.f<m.funcs.length:=by
  have : jK f.f 0 ((m.funcs.length : Int) - 1)=true:=by simpa using hb
  rw [bA] at this
  omega
 obtain ⟨i,hi,he,hc,F,_⟩:=g.code hf
 have nc:=F.n2
 rw [← hc] at nc
 have hdep : Ok (fun r=>r = [aX (iD m.funcs (dD m.funcs f.f))]) (iU m.pv (.int .i64 f.f)):=by
  rw [hc,he]
  exact aAi F hi rfl
 refine wF hf (aH rfl (aA rfl (aA rfl (aA rfl (aF hdep (fun r hr=>?_))))))
 rw [hr]
 refine bH (cW (aY (fun _=>no) (fun hloc=>aD (bY (by omega) (dH (bC (aZ (fun _=>no) (fun hb=>?_))))))))
 have hpc : 0≤f.pc∧f.pc<(dD m.funcs f.f).length:=by
  have : jK f.pc 0 (((dD m.funcs f.f).length : Int) - 1)=true:=by simpa using hb
  rw [bA] at this
  omega
 refine fJ g hf hpc (aE (aC (fun _=>no) (fun hd=>?_)))
 refine xQ (aF8 (by omega) hs.1 (fun y hy=>hz y (List.mem_append_left _ hy))) (fun hvl=>xQ (aF8 (by omega) hs.2 (fun y hy=>hz y (List.mem_append_right _ hy))) (fun hvs=>?_))
 have I : FrI m n f:=⟨hf,hpc,hloc,by omega,hvl,hvs⟩
 have dl:=I.dle g
 cases top with
 | true=>exact bG (bH (fJ g hf hpc (aM (yes fun h=>⟨fun _=>⟨I,of_decide_eq_true h⟩,fun h=>by cases h⟩))))
 | false=>
   refine aQ (aE (aC (fun _=>no) (fun h1=>bY (by omega) (fJ g hf (by omega) (aE (aC (fun _=>no) (fun h2=>bY (by omega) ?_)))))))
   have hin : ((dD m.funcs f.f).map bK.pv)[(f.pc - 1).toNat]? = some (qE m f.f (f.pc - 1)).pv:=by
    rw [List.getElem?_map]
    unfold qE
    rw [List.getElem?_eq_getElem (by omega)];rfl
   refine aBp (by omega) hin rfl (aA rfl (aM (aC (fun h3=>?_) (fun _=>aM (aC (fun h3=>?_) (fun _=>no))))))
   ·exact bH (fJ g hf hpc (bY (by omega) (aM (yes fun h=>⟨fun h=>(by cases h),fun _=>⟨I,⟨by omega,by omega,.inl h3⟩,of_decide_eq_true h⟩⟩))))
   ·exact bH (fJ g hf hpc (bY (by omega) (aM (yes fun h=>⟨fun h=>(by cases h),fun _=>⟨I,⟨by omega,by omega,.inr h3⟩,of_decide_eq_true h⟩⟩))))
def wH (m : eJ) (n : Nat) (l : List bT) (i : Nat) : Prop:=∀ j (hj : j<l.length),i≤j→((j : Int)=(l.length : Int) - 1→aGJ m n l[j])∧(¬ (j : Int)=(l.length : Int) - 1→aEr m n l[j])
theorem wH.top {n : Nat} {l : List bT} (h : wH m n l 0) (fs0 : List bT) (f : bT) (e : l=fs0++[f]) : aGJ m n f∧∀ g∈fs0,aEr m n g:=by
 subst e
 constructor
 ·have:=(h fs0.length (by simp) (by omega)).1 (by simp)
  simpa using this
 ·intro g hg
  obtain ⟨j,hj,rfl⟩:=List.getElem_of_mem hg
  have:=(h j (by simp;omega) (by omega)).2 (by simp;omega)
  rw [List.getElem_append_left hj] at this
  exact this
structure fN.fine (v : fN) : Prop extends v.few where
 val : v.val.s.size≤2097152
 outs : ∀ s∈v.out,s.size≤2097152
 frs : ∀ f∈v.fr,∀ y∈f.loc++f.stk,y.s.size≤2097152
 hps : ∀ r∈v.hp,∀ y∈r,y.s.size≤2097152
theorem aNi (g : fC m) {v : fN} (h : v.fine) : Ok (qF (wH m v.hp.length v.fr 0)) (bD (.int .i64 v.hp.length) (.int .i64 0) (.lst (m.texts.map PV.str)) (.lst (m.funcs.map cG.pv)) (.lst (v.fr.map bT.pv)) (.lst (v.hp.map aL)) (.int .i64 v.made) (.lst (v.out.map PV.str)) (.int .i64 v.st) (.int .i64 v.tr) (.int .i64 v.val.k) (.int .i64 v.val.n) (.str v.val.s) (.int .i64 v.steps)):=by
 have zf:=h.f
 refine cT (n:=v.fr.length) (F:=fun i=>bD (.int .i64 v.hp.length) (.int .i64 i) (.lst (m.texts.map PV.str)) (.lst (m.funcs.map cG.pv)) (.lst (v.fr.map bT.pv)) (.lst (v.hp.map aL)) (.int .i64 v.made) (.lst (v.out.map PV.str)) (.int .i64 v.st) (.int .i64 v.tr) (.int .i64 v.val.k) (.int .i64 v.val.n) (.str v.val.s) (.int .i64 v.steps)) (P:=fun i=>qF (wH m v.hp.length v.fr i)) ?_ (fun i hi ih=>?_) 0 (by omega)
 ·rw [iK]
  exact aD (aE (aC (fun h=>by omega) (fun _=>yes fun _ j hj hij=>by omega)))
 ·rw [iK]
  refine aD (aE (aC (fun _=>?_) (fun h=>by omega)))
  refine aN hi (fun _=>rfl) (aD (bY (by omega) (aM ?_)))
  refine xQ (aNh g (n:=v.hp.length) (f:=v.fr[i]) (h.fl _ (List.getElem_mem hi)) (h.frs _ (List.getElem_mem hi))) (fun hA=>aI (by omega) (ih.mono ?_))
  rintro r ⟨b,rfl,hb⟩
  refine ⟨b,rfl,fun ht j hj hij=>?_⟩
  by_cases e : i=j
  ·subst e
   exact ⟨fun e=>hA.1 (decide_eq_true e),fun e=>hA.2 (decide_eq_false e)⟩
  ·exact hb ht j hj (by omega)
def aCy (v : fN) : Prop:=(v.st=0∧v.tr=0∧v.val=fB∧1≤v.fr.length∧v.fr.length≤24)∨(v.st=2∧1≤v.tr∧v.tr≤8∧v.val=fB∧1≤v.fr.length∧v.fr.length≤24)∨(v.st=1∧v.tr=0∧v.fr = [])
theorem aNj {v : fN} (h1 : v.hp.length≤v.made∧v.made≤120) (h2 : v.out.length≤200) (h3 : 0≤v.steps∧v.steps≤50000) (h4 : iZ m v.hp.length v.val) (h5 : ∀ r∈v.hp,r.length≤6∧∀ y∈r,iZ m v.hp.length y)
 (h6 : ∀ s∈v.out,cP s=true) (h7 : aCy v) (h8 : wH m v.hp.length v.fr 0) : VmK m v:=by
 refine ⟨⟨⟨h1,h5,h2⟩,h3,?_,?_,h8.top⟩,h6,h4,?_⟩
 ·rcases h7 with h | h | h
  ·omega
  ·omega
  ·rw [h.2.2];simp
 ·intro h0
  rcases h7 with h | h | h
  ·intro e;rw [e] at h;simp at h
  ·omega
  ·omega
 ·rcases h7 with h | h | h
  ·exact .inl ⟨h.1,h.2.1,h.2.2.1⟩
  ·refine .inr (.inl ⟨h.1,h.2.1,h.2.2.1,h.2.2.2.1,fun e=>?_⟩)
   rw [e] at h;simp at h
  ·exact .inr (.inr h)
end
section
variable {P : R → Prop} {m : eJ}
def aGL (m : eJ) (v : fN) : Prop:=fC m∧VmK m v
theorem aF9 {o : Option R} {A B : Prop} {x : R→Option R} (ho : Ok (qF A) o) (hx : ∀ b,(b=true→A)→Ok (qF B) (x [.bool b])) : Ok (qF B) (bd o x):=
 aF ho (fun r hr=>by obtain ⟨b,rfl,hb⟩:=hr;exact hx b hb)
theorem aOZ (g : fC m) {v : fN} (h : v.fine) (hk : (∀ s∈v.out,cP s=true)→aCy v→wH m v.hp.length v.fr 0→VmK m v) : Ok (qF (VmK m v)) (eD (.int .i64 v.hp.length) (.int .i64 0) (.lst (m.texts.map PV.str)) (.lst (m.funcs.map cG.pv)) (.lst (v.fr.map bT.pv)) (.lst (v.hp.map aL)) (.int .i64 v.made) (.lst (v.out.map PV.str)) (.int .i64 v.st) (.int .i64 v.tr) (.int .i64 v.val.k) (.int .i64 v.val.n) (.str v.val.s) (.int .i64 v.steps)):=by
 have zo:=h.o
 have zf:=h.f
 have key : Ok (qF ((∀ s∈v.out.drop 0,cP s=true)∧aCy v∧wH m v.hp.length v.fr 0)) (eD (.int .i64 v.hp.length) (.int .i64 0) (.lst (m.texts.map PV.str)) (.lst (m.funcs.map cG.pv)) (.lst (v.fr.map bT.pv)) (.lst (v.hp.map aL)) (.int .i64 v.made) (.lst (v.out.map PV.str)) (.int .i64 v.st) (.int .i64 v.tr) (.int .i64 v.val.k) (.int .i64 v.val.n) (.str v.val.s) (.int .i64 v.steps)):=by
  refine cT (n:=v.out.length) (F:=fun i=>eD (.int .i64 v.hp.length) (.int .i64 i) (.lst (m.texts.map PV.str)) (.lst (m.funcs.map cG.pv)) (.lst (v.fr.map bT.pv)) (.lst (v.hp.map aL)) (.int .i64 v.made) (.lst (v.out.map PV.str)) (.int .i64 v.st) (.int .i64 v.tr) (.int .i64 v.val.k) (.int .i64 v.val.n) (.str v.val.s) (.int .i64 v.steps)) (P:=fun i=>qF ((∀ s∈v.out.drop i,cP s=true)∧aCy v∧wH m v.hp.length v.fr 0)) ?_ (fun i hi ih=>?_) 0 (by omega)
  ·rw [iJ]
   have hnil : ∀ s∈v.out.drop v.out.length,cP s=true:=fun s hs=>by rw [List.drop_length] at hs;cases hs
   have frames : aCy v→Ok (qF ((∀ s∈v.out.drop v.out.length,cP s=true)∧aCy v∧wH m v.hp.length v.fr 0)) (bD (.int .i64 v.hp.length) (.int .i64 0) (.lst (m.texts.map PV.str)) (.lst (m.funcs.map cG.pv)) (.lst (v.fr.map bT.pv)) (.lst (v.hp.map aL)) (.int .i64 v.made) (.lst (v.out.map PV.str)) (.int .i64 v.st) (.int .i64 v.tr) (.int .i64 v.val.k) (.int .i64 v.val.n) (.str v.val.s) (.int .i64 v.steps)):=fun he=>by
    refine (aNi g h).mono ?_
    rintro r ⟨b,rfl,hb⟩
    exact ⟨b,rfl,fun hb'=>⟨hnil,he,hb hb'⟩⟩
   refine aD (aE (aC (fun h=>by omega) (fun _=>?_)))
   refine aM (aC (fun h1=>aD (aM (aC (fun h2=>aM (yes fun h3=>?_)) (fun _=>no)))) (fun h1=>?_))
   ·have e : v.fr = []:=List.length_eq_zero_iff.1 (by omega)
    exact ⟨hnil,.inr (.inr ⟨h1,of_decide_eq_true h3,e⟩),fun j hj _=>by rw [e] at hj;simp at hj⟩
   ·have rest : v.st=0∨v.st=2→Ok (qF ((∀ s∈v.out.drop v.out.length,cP s=true)∧aCy v∧wH m v.hp.length v.fr 0))
     (bd (PV.ceq [1,1,2] .neq (.agg [.int .i64 v.val.k,.int .i64 v.val.n,.str v.val.s]) (.agg [(.int .i64 0),(.int .i64 0),(.str (bs []))])) fun v589=>
     PV.ite v589
      (some [(.bool false)])
      (bd (PV.len (.lst (v.fr.map bT.pv))) fun v590=>
      bd (aJ v590 (.int .i64 1) (.int .i64 24)) fun r591=>
      bd (PV.not (hd r591)) fun v592=>
      PV.ite v592
       (some [(.bool false)])
       (bd (PV.bin .eql (.int .i64 v.st) (.int .i64 0)) fun v593=>
       PV.ite v593
        (bd (PV.bin .neq (.int .i64 v.tr) (.int .i64 0)) fun v594=>
        PV.ite v594
         (some [(.bool false)])
         (bd (PV.bin .eql (.int .i64 v.st) (.int .i64 2)) fun v595=>
         PV.ite v595
          (bd (aJ (.int .i64 v.tr) (.int .i64 1) (.int .i64 8)) fun r596=>
          bd (PV.not (hd r596)) fun v597=>
          PV.ite v597
           (some [(.bool false)])
           (bD (.int .i64 v.hp.length) (.int .i64 0) (.lst (m.texts.map PV.str)) (.lst (m.funcs.map cG.pv)) (.lst (v.fr.map bT.pv)) (.lst (v.hp.map aL)) (.int .i64 v.made) (.lst (v.out.map PV.str)) (.int .i64 v.st) (.int .i64 v.tr) (.int .i64 v.val.k) (.int .i64 v.val.n) (.str v.val.s) (.int .i64 v.steps)))
          (bD (.int .i64 v.hp.length) (.int .i64 0) (.lst (m.texts.map PV.str)) (.lst (m.funcs.map cG.pv)) (.lst (v.fr.map bT.pv)) (.lst (v.hp.map aL)) (.int .i64 v.made) (.lst (v.out.map PV.str)) (.int .i64 v.st) (.int .i64 v.tr) (.int .i64 v.val.k) (.int .i64 v.val.n) (.str v.val.s) (.int .i64 v.steps))))
        (bd (PV.bin .eql (.int .i64 v.st) (.int .i64 2)) fun v598=>
        PV.ite v598
         (bd (aJ (.int .i64 v.tr) (.int .i64 1) (.int .i64 8)) fun r599=>
         bd (PV.not (hd r599)) fun v600=>
         PV.ite v600
          (some [(.bool false)])
          (bD (.int .i64 v.hp.length) (.int .i64 0) (.lst (m.texts.map PV.str)) (.lst (m.funcs.map cG.pv)) (.lst (v.fr.map bT.pv)) (.lst (v.hp.map aL)) (.int .i64 v.made) (.lst (v.out.map PV.str)) (.int .i64 v.st) (.int .i64 v.tr) (.int .i64 v.val.k) (.int .i64 v.val.n) (.str v.val.s) (.int .i64 v.steps)))
         (bD (.int .i64 v.hp.length) (.int .i64 0) (.lst (m.texts.map PV.str)) (.lst (m.funcs.map cG.pv)) (.lst (v.fr.map bT.pv)) (.lst (v.hp.map aL)) (.int .i64 v.made) (.lst (v.out.map PV.str)) (.int .i64 v.st) (.int .i64 v.tr) (.int .i64 v.val.k) (.int .i64 v.val.n) (.str v.val.s) (.int .i64 v.steps)))))):=fun hst=>by
     refine aNg (a:=v.val) (b:=fB) (aZ (fun _=>no) (fun hv=>aD (dH (bC (aZ (fun _=>no) (fun hn=>?_))))))
     have hv : v.val=fB:=aPu (by simpa using hv)
     have hn : jK (v.fr.length : Int) 1 24=true:=by simpa using hn
     rw [bA] at hn
     refine aM (aC (fun h0=>cW (aY (fun _=>no) (fun ht=>aM (aC (fun h2=>by omega) (fun _=>frames (.inl ⟨h0,ht,hv,by omega,by omega⟩)))))) (fun h0=>aM (aC (fun h2=>dH (bC (aZ (fun _=>no) (fun ht=>?_)))) (fun h2=>by omega))))
     have ht : jK v.tr 1 8=true:=by simpa using ht
     rw [bA] at ht
     exact frames (.inr (.inl ⟨h2,ht.1,ht.2,hv,by omega,by omega⟩))
    refine cW (aY (fun h0=>cW (aY (fun _=>no) (fun h2=>rest (.inr h2)))) (fun h0=>rest (.inl h0)))
  ·rw [iJ]
   refine aD (aE (aC (fun _=>?_) (fun h=>by omega)))
   refine aN hi (fun _=>rfl) (aEy (s:=v.out[i]) (h.outs _ (List.getElem_mem hi)) (bC (aZ (fun _=>no) (fun ht=>aI (by omega) (ih.mono ?_)))))
   rintro r ⟨b,rfl,hb⟩
   refine ⟨b,rfl,fun hb'=>⟨fun s hs=>?_,(hb hb').2⟩⟩
   rw [List.drop_eq_getElem_cons hi] at hs
   rcases List.mem_cons.1 hs with rfl | hs
   ·simpa using ht
   ·exact (hb hb').1 s hs
 refine key.mono ?_
 rintro r ⟨b,rfl,hb⟩
 exact ⟨b,rfl,fun h=>hk (hb h).1 (hb h).2.1 (hb h).2.2⟩
theorem aJA (hs : m.sized) {v : fN} (h : v.fine) : Ok (qF (aGL m v)) (wA m.pv v.pv):=by
 rw [aCh]
 refine aH rfl (aA rfl (aA rfl ?_))
 refine aH rfl (aA rfl (aA rfl (aA rfl (aA rfl (aA rfl (aA rfl (aA rfl (aA rfl (aA rfl (aA rfl (aK9 hs (aZ (fun hg=>?_) (fun _=>no)))))))))))))
 have g:=aF2 hs hg
 have hfn:=g.fit.2.1
 refine aF9 (A:=VmK m v) ?_ (fun b hb=>yes fun h=>⟨g,hb h⟩)
 rw [yG]
 refine aH rfl (aA rfl (aA rfl ?_))
 refine aH rfl (aA rfl (aA rfl (aA rfl (aA rfl (aA rfl (aA rfl (aA rfl (aA rfl (aA rfl (aA rfl (?_)))))))))))
 refine aD (iC (aC (fun _=>no) (fun h1=>dH (bC (aZ (fun _=>no) (fun h2=>?_))))))
 refine aD (iC (aC (fun _=>no) (fun h3=>dH (bC (aZ (fun _=>no) (fun h4=>?_))))))
 have h2 : jK v.made v.hp.length 120=true:=by simpa using h2
 have h4 : jK v.steps 0 50000=true:=by simpa using h4
 rw [bA] at h2 h4
 refine xQ (A:=iZ m v.hp.length v.val) ((xL (T:=(.lst (m.texts.map PV.str))) (fs:=m.funcs) (v:=v.val) (recs:=v.hp.length) (by omega) h.val).mono (fun r hr=>⟨_,hr,fun h=>h⟩)) (fun h5=>?_)
 have key : Ok (qF (VmK m v)) (gL (.int .i64 v.hp.length) (.int .i64 0) (.lst (m.texts.map PV.str)) (.lst (m.funcs.map cG.pv)) (.lst (v.fr.map bT.pv)) (.lst (v.hp.map aL)) (.int .i64 v.made) (.lst (v.out.map PV.str)) (.int .i64 v.st) (.int .i64 v.tr) (.int .i64 v.val.k) (.int .i64 v.val.n) (.str v.val.s) (.int .i64 v.steps)):=by
  have up : ∀ (j i : Nat),v.hp.length - i=j→i≤v.hp.length→(∀ r∈v.hp.take i,r.length≤6∧∀ y∈r,iZ m v.hp.length y)→Ok (qF (VmK m v)) (gL (.int .i64 v.hp.length) (.int .i64 i) (.lst (m.texts.map PV.str)) (.lst (m.funcs.map cG.pv)) (.lst (v.fr.map bT.pv)) (.lst (v.hp.map aL)) (.int .i64 v.made) (.lst (v.out.map PV.str)) (.int .i64 v.st) (.int .i64 v.tr) (.int .i64 v.val.k) (.int .i64 v.val.n) (.str v.val.s) (.int .i64 v.steps)):=by
   intro j
   induction j with
   | zero=>
     intro i hj hi hr
     have : i=v.hp.length:=by omega
     subst this
     rw [List.take_length] at hr
     rw [jI]
     exact aE (aC (fun h=>by omega) (fun _=>aOZ g h (fun h6 h7 h8=>aNj (by omega) (by omega) (by omega) h5 hr h6 h7 h8)))
   | succ j ih=>
     intro i hj hi hr
     have hi' : i<v.hp.length:=by omega
     rw [jI]
     refine aE (aC (fun _=>?_) (fun h=>by omega))
     refine aN hi' (fun _=>rfl) (aA rfl (bH (iC (aC (fun _=>no) (fun h6=>?_)))))
     refine aN hi' (fun _=>rfl) (aA rfl (xQ (aF8 (by omega) (by omega) (h.hps _ (List.getElem_mem hi'))) (fun hv=>aI (by omega) (ih (i+1) (by omega) (by omega) (fun r hr'=>?_)))))
     rw [List.take_add_one,List.getElem?_eq_getElem hi',Option.toList_some] at hr'
     rcases List.mem_append.1 hr' with hr' | hr'
     ·exact hr r hr'
     ·rw [List.mem_singleton] at hr'
      subst hr'
      exact ⟨by omega,hv⟩
  exact up _ 0 rfl (by omega) (fun r hr=>by simp at hr)
 exact key
open Classical in
theorem aJB (hs : m.sized) {v : fN} (h : v.fine) : Ok (fun r=>r = [.bool (decide (aGL m v))]) (wA m.pv v.pv):=by
 obtain ⟨r,e,b,rfl,hb⟩:=(aJA hs h)
 by_cases hk : aGL m v
 ·have:=aIo hk.1 hk.2
  rw [decide_eq_true hk];exact this
 ·refine ⟨_,e,?_⟩
  rw [decide_eq_false hk]
  cases b with
  | false=>rfl
  | true=>exact absurd (hb rfl) hk
end
theorem aAs {n : Nat} {F : Nat→Bool→Option R} {P : Nat→Bool→R→Prop} (he : ∀ b,Ok (P n b) (F n b)) (hs : ∀ i,i<n→(∀ b,Ok (P (i+1) b) (F (i+1) b))→∀ b,Ok (P i b) (F i b)) : ∀ i,i≤n→∀ b,Ok (P i b) (F i b):=by
 have key : ∀ j i,n - i=j→i≤n→∀ b,Ok (P i b) (F i b):=by
  intro j
  induction j with
  | zero=>intro i h1 h2;have : i=n:=by omega
          subst this;exact he
  | succ j ih=>intro i h1 h2;exact hs i (by omega) (ih (i+1) (by omega) (by omega))
 intro i h
 exact key _ i rfl h
def aPv (m : eJ) (v : fN) (b : Bool) : R:=[.bool b,.lst (m.texts.map PV.str),.lst (m.funcs.map cG.pv),.lst (v.fr.map bT.pv),.lst (v.hp.map aL),.int .i64 v.made,.lst (v.out.map PV.str),.int .i64 v.st,.int .i64 v.tr,.int .i64 v.val.k,.int .i64 v.val.n,.str v.val.s,.int .i64 v.steps]
section
variable {P : R → Prop} {m : eJ}
theorem aNk {hp : List (List bZ)} (hn : hp.length≤2097152) : Ok (qF (hp.length≤120∧∀ r∈hp,r.length≤6)) (tZ (.lst (hp.map aL))):=by
 have loop : ∀ i,i≤hp.length→Ok (fun r=>∃ k : Int,r = [.int .i64 k]∧(k<0→∀ x∈hp.drop i,x.length≤6)) (bE (.lst (hp.map aL)) (.fn 116 []) (.int .i64 hp.length) (.int .i64 i)):=by
  refine cT (n:=hp.length) (F:=fun i=>bE (.lst (hp.map aL)) (.fn 116 []) (.int .i64 hp.length) (.int .i64 i)) (P:=fun i r=>∃ k : Int,r = [.int .i64 k]∧(k<0→∀ x∈hp.drop i,x.length≤6)) ?_ (fun i hi ih=>?_)
  ·rw [cA]
   exact aE (aC (fun h=>by omega) (fun _=>aB ⟨_,rfl,fun _ x hx=>by rw [List.drop_length] at hx;cases hx⟩))
  ·rw [cA]
   refine aE (aC (fun _=>?_) (fun h=>by omega))
   refine aN hi (fun _=>rfl) (zL (o:=vC (aL hp[i])) (Q:=fun r=>r = [.bool (decide ((6 : Int)<hp[i].length))]) rfl ?_ (fun r hr=>?_))
   ·rw [wD]
    exact aH rfl (aA rfl (bH (iC (aB rfl))))
   ·rw [hr]
    refine aC (fun h=>aB ⟨i,rfl,fun hk=>by omega⟩) (fun h=>aI (by omega) (ih.mono ?_))
    rintro r ⟨k,rfl,hk⟩
    refine ⟨k,rfl,fun h' x hx=>?_⟩
    rw [List.drop_eq_getElem_cons hi] at hx
    rcases List.mem_cons.1 hx with rfl | hx
    ·omega
    ·exact hk h' x hx
 rw [aAb]
 refine aD (lQ (aC (fun h1=>?_) (fun _=>no)))
 refine aF (Q:=fun r=>∃ b,r = [.bool b]∧(b=false→∀ x∈hp,x.length≤6)) ?_ (fun r hr=>?_)
 ·rw [eS]
  refine aF (Q:=fun r=>∃ k : Int,r = [.int .i64 k]∧(k<0→∀ x∈hp,x.length≤6)) ?_ (fun r hr=>?_)
  ·rw [fH]
   exact aD (loop 0 (by omega))
  ·obtain ⟨k,rfl,hk⟩:=hr
   exact sQ (aB ⟨_,rfl,fun h=>hk (by have:=of_decide_eq_false h;omega)⟩)
 ·obtain ⟨b,rfl,hb⟩:=hr
  exact bC (yes fun h=>⟨by omega,hb (by simpa using h)⟩)
theorem aNl {v : fN} {x : bZ} {b : Bool} (hf : m.funcs.length≤1000) (hh : v.hp.length≤1000) (hs : x.s.size≤2097152) : Ok (fun r=>r=aPv m v (b&&cD m.funcs.length v.hp.length x)) (nE (.int .i64 x.k) (.int .i64 x.n) (.str x.s) (.bool b) (.lst (m.texts.map PV.str)) (.lst (m.funcs.map cG.pv)) (.lst (v.fr.map bT.pv)) (.lst (v.hp.map aL)) (.int .i64 v.made) (.lst (v.out.map PV.str)) (.int .i64 v.st) (.int .i64 v.tr) (.int .i64 v.val.k) (.int .i64 v.val.n) (.str v.val.s) (.int .i64 v.steps)):=by
 rw [aAf]
 cases b with
 | false=>exact aQ (aB rfl)
 | true=>
   refine bG (aD (aD (aF (aFW (v:=x) (nf:=m.funcs.length) (recs:=v.hp.length) (by omega) (by omega) (by omega)) (fun r hr=>?_))))
   rw [hr]
   exact bR rfl (aB rfl)
def boxes (m : eJ) (v : fN) (B : Prop) (r : R) : Prop:=∃ b,r=aPv m v b∧(b=true→B)
theorem boxes.mono {v : fN} {A B : Prop} {r : R} (h : boxes m v A r) (f : A→B) : boxes m v B r:=by
 obtain ⟨b,e,hb⟩:=h
 exact ⟨b,e,fun h=>f (hb h)⟩
theorem aJC {v : fN} (hfn : m.funcs.length≤1000) (h : v.fine) (zh : v.hp.length≤120) :
 Ok (boxes m v ((∀ f∈v.fr,∀ y∈f.loc++f.stk,iZ m v.hp.length y)∧(∀ r∈v.hp,∀ y∈r,iZ m v.hp.length y)∧iZ m v.hp.length v.val)) (oC (.lst (v.fr.map bT.pv)) (.lst (v.hp.map aL)) (.int .i64 v.made) (.lst (v.out.map PV.str)) (.int .i64 v.st) (.int .i64 v.tr) (.int .i64 v.val.k) (.int .i64 v.val.n) (.str v.val.s) (.int .i64 v.steps) (.bool true) (.lst (m.texts.map PV.str)) (.lst (m.funcs.map cG.pv)) (.lst (v.fr.map bT.pv)) (.lst (v.hp.map aL)) (.int .i64 v.made) (.lst (v.out.map PV.str)) (.int .i64 v.st) (.int .i64 v.tr) (.int .i64 v.val.k) (.int .i64 v.val.n) (.str v.val.s) (.int .i64 v.steps)):=by
 have zf:=h.f
 have last : ∀ b,Ok (boxes m v (b=true∧iZ m v.hp.length v.val)) (dA (.lst (v.hp.map aL)) (.int .i64 v.hp.length) (.int .i64 v.hp.length) (.bool b) (.lst (m.texts.map PV.str)) (.lst (m.funcs.map cG.pv)) (.lst (v.fr.map bT.pv)) (.lst (v.hp.map aL)) (.int .i64 v.made) (.lst (v.out.map PV.str)) (.int .i64 v.st) (.int .i64 v.tr) (.int .i64 v.val.k) (.int .i64 v.val.n) (.str v.val.s) (.int .i64 v.steps) (.lst (v.fr.map bT.pv)) (.lst (v.hp.map aL)) (.int .i64 v.made) (.lst (v.out.map PV.str)) (.int .i64 v.st) (.int .i64 v.tr) (.int .i64 v.val.k) (.int .i64 v.val.n) (.str v.val.s) (.int .i64 v.steps)):=fun b=>by
  rw [gH]
  refine aE (aC (fun h=>by omega) (fun _=>aF (aNl (b:=b) (by omega) (by omega) h.val) (fun r hr=>?_)))
  rw [hr]
  exact aB ⟨_,rfl,fun h=>by simpa [Bool.and_eq_true] using h⟩
 have heap : ∀ i,i≤v.hp.length→∀ b,Ok (boxes m v (b=true∧(∀ r∈v.hp.drop i,∀ y∈r,iZ m v.hp.length y)∧iZ m v.hp.length v.val)) (dA (.lst (v.hp.map aL)) (.int .i64 v.hp.length) (.int .i64 i) (.bool b) (.lst (m.texts.map PV.str)) (.lst (m.funcs.map cG.pv)) (.lst (v.fr.map bT.pv)) (.lst (v.hp.map aL)) (.int .i64 v.made) (.lst (v.out.map PV.str)) (.int .i64 v.st) (.int .i64 v.tr) (.int .i64 v.val.k) (.int .i64 v.val.n) (.str v.val.s) (.int .i64 v.steps) (.lst (v.fr.map bT.pv)) (.lst (v.hp.map aL)) (.int .i64 v.made) (.lst (v.out.map PV.str)) (.int .i64 v.st) (.int .i64 v.tr) (.int .i64 v.val.k) (.int .i64 v.val.n) (.str v.val.s) (.int .i64 v.steps)):=by
  refine aAs (n:=v.hp.length) (F:=fun i b=>dA (.lst (v.hp.map aL)) (.int .i64 v.hp.length) (.int .i64 i) (.bool b) (.lst (m.texts.map PV.str)) (.lst (m.funcs.map cG.pv)) (.lst (v.fr.map bT.pv)) (.lst (v.hp.map aL)) (.int .i64 v.made) (.lst (v.out.map PV.str)) (.int .i64 v.st) (.int .i64 v.tr) (.int .i64 v.val.k) (.int .i64 v.val.n) (.str v.val.s) (.int .i64 v.steps) (.lst (v.fr.map bT.pv)) (.lst (v.hp.map aL)) (.int .i64 v.made) (.lst (v.out.map PV.str)) (.int .i64 v.st) (.int .i64 v.tr) (.int .i64 v.val.k) (.int .i64 v.val.n) (.str v.val.s) (.int .i64 v.steps)) (P:=fun i b=>boxes m v (b=true∧(∀ r∈v.hp.drop i,∀ y∈r,iZ m v.hp.length y)∧iZ m v.hp.length v.val)) (fun b=>(last b).mono (fun r hr=>hr.mono (fun h=>⟨h.1,fun r hr=>(by rw [List.drop_length] at hr;cases hr),h.2⟩))) (fun i hi ih b=>?_)
  rw [gH]
  refine aE (aC (fun _=>?_) (fun h=>by omega))
  have hri:=h.hl _ (List.getElem_mem hi)
  refine aN hi (fun _=>rfl) (aH rfl (aA rfl (bH ?_)))
  have inner : ∀ j,j≤v.hp[i].length→∀ b,Ok (boxes m v (b=true∧(∀ y∈v.hp[i].drop j,iZ m v.hp.length y)∧(∀ r∈v.hp.drop (i+1),∀ y∈r,iZ m v.hp.length y)∧iZ m v.hp.length v.val)) (eC (.lst (v.hp.map aL)) (.int .i64 v.hp.length) (.int .i64 i) (aU v.hp[i]) (.int .i64 v.hp[i].length) (.int .i64 j) (.bool b) (.lst (m.texts.map PV.str)) (.lst (m.funcs.map cG.pv)) (.lst (v.fr.map bT.pv)) (.lst (v.hp.map aL)) (.int .i64 v.made) (.lst (v.out.map PV.str)) (.int .i64 v.st) (.int .i64 v.tr) (.int .i64 v.val.k) (.int .i64 v.val.n) (.str v.val.s) (.int .i64 v.steps) (.lst (v.fr.map bT.pv)) (.lst (v.hp.map aL)) (.int .i64 v.made) (.lst (v.out.map PV.str)) (.int .i64 v.st) (.int .i64 v.tr) (.int .i64 v.val.k) (.int .i64 v.val.n) (.str v.val.s) (.int .i64 v.steps)):=by
   refine aAs (n:=v.hp[i].length) (F:=fun j b=>eC (.lst (v.hp.map aL)) (.int .i64 v.hp.length) (.int .i64 i) (aU v.hp[i]) (.int .i64 v.hp[i].length) (.int .i64 j) (.bool b) (.lst (m.texts.map PV.str)) (.lst (m.funcs.map cG.pv)) (.lst (v.fr.map bT.pv)) (.lst (v.hp.map aL)) (.int .i64 v.made) (.lst (v.out.map PV.str)) (.int .i64 v.st) (.int .i64 v.tr) (.int .i64 v.val.k) (.int .i64 v.val.n) (.str v.val.s) (.int .i64 v.steps) (.lst (v.fr.map bT.pv)) (.lst (v.hp.map aL)) (.int .i64 v.made) (.lst (v.out.map PV.str)) (.int .i64 v.st) (.int .i64 v.tr) (.int .i64 v.val.k) (.int .i64 v.val.n) (.str v.val.s) (.int .i64 v.steps)) (P:=fun j b=>boxes m v (b=true∧(∀ y∈v.hp[i].drop j,iZ m v.hp.length y)∧(∀ r∈v.hp.drop (i+1),∀ y∈r,iZ m v.hp.length y)∧iZ m v.hp.length v.val)) (fun b=>?_) (fun j hj ih' b=>?_)
   ·rw [gI]
    exact aE (aC (fun h=>by omega) (fun _=>aI (by omega) ((ih b).mono (fun r hr=>hr.mono (fun h=>⟨h.1,fun y hy=>(by rw [List.drop_length] at hy;cases hy),h.2⟩)))))
   ·rw [gI]
    refine aE (aC (fun _=>?_) (fun h=>by omega))
    refine aN hj (fun _=>rfl) (aH rfl (aA rfl (aA rfl (aA rfl (aF (aNl (b:=b) (x:=v.hp[i][j]) (by omega) (by omega) (h.hps _ (List.getElem_mem hi) _ (List.getElem_mem hj))) (fun r hr=>?_))))))
    rw [hr]
    refine aI (by omega) ((ih' _).mono (fun r hr=>hr.mono (fun h=>?_)))
    obtain ⟨h1,h2,h3⟩:=h
    rw [Bool.and_eq_true] at h1
    refine ⟨h1.1,fun y hy=>?_,h3⟩
    rw [List.drop_eq_getElem_cons hj] at hy
    rcases List.mem_cons.1 hy with rfl | hy
    ·exact h1.2
    ·exact h2 y hy
  refine (inner 0 (by omega) b).mono (fun r hr=>hr.mono (fun h=>?_))
  obtain ⟨h1,h2,h3,h4⟩:=h
  refine ⟨h1,fun r hr=>?_,h4⟩
  rw [List.drop_eq_getElem_cons hi] at hr
  rcases List.mem_cons.1 hr with rfl | hr
  ·exact h2
  ·exact h3 r hr
 have frames : ∀ i,i≤v.fr.length→∀ b,Ok (boxes m v (b=true∧(∀ f∈v.fr.drop i,∀ y∈f.loc++f.stk,iZ m v.hp.length y)∧(∀ r∈v.hp,∀ y∈r,iZ m v.hp.length y)∧iZ m v.hp.length v.val)) (eN (.lst (v.fr.map bT.pv)) (.int .i64 v.fr.length) (.int .i64 i) (.bool b) (.lst (m.texts.map PV.str)) (.lst (m.funcs.map cG.pv)) (.lst (v.fr.map bT.pv)) (.lst (v.hp.map aL)) (.int .i64 v.made) (.lst (v.out.map PV.str)) (.int .i64 v.st) (.int .i64 v.tr) (.int .i64 v.val.k) (.int .i64 v.val.n) (.str v.val.s) (.int .i64 v.steps) (.lst (v.fr.map bT.pv)) (.lst (v.hp.map aL)) (.int .i64 v.made) (.lst (v.out.map PV.str)) (.int .i64 v.st) (.int .i64 v.tr) (.int .i64 v.val.k) (.int .i64 v.val.n) (.str v.val.s) (.int .i64 v.steps)):=by
  refine aAs (n:=v.fr.length) (F:=fun i b=>eN (.lst (v.fr.map bT.pv)) (.int .i64 v.fr.length) (.int .i64 i) (.bool b) (.lst (m.texts.map PV.str)) (.lst (m.funcs.map cG.pv)) (.lst (v.fr.map bT.pv)) (.lst (v.hp.map aL)) (.int .i64 v.made) (.lst (v.out.map PV.str)) (.int .i64 v.st) (.int .i64 v.tr) (.int .i64 v.val.k) (.int .i64 v.val.n) (.str v.val.s) (.int .i64 v.steps) (.lst (v.fr.map bT.pv)) (.lst (v.hp.map aL)) (.int .i64 v.made) (.lst (v.out.map PV.str)) (.int .i64 v.st) (.int .i64 v.tr) (.int .i64 v.val.k) (.int .i64 v.val.n) (.str v.val.s) (.int .i64 v.steps)) (P:=fun i b=>boxes m v (b=true∧(∀ f∈v.fr.drop i,∀ y∈f.loc++f.stk,iZ m v.hp.length y)∧(∀ r∈v.hp,∀ y∈r,iZ m v.hp.length y)∧iZ m v.hp.length v.val)) (fun b=>?_) (fun i hi ih b=>?_)
  ·rw [gY]
   exact aE (aC (fun h=>by omega) (fun _=>aD ((heap 0 (by omega) b).mono (fun r hr=>hr.mono (fun h=>⟨h.1,fun f hf=>(by rw [List.drop_length] at hf;cases hf),h.2.1,h.2.2⟩)))))
  have zz:=h.fl _ (List.getElem_mem hi)
  have q2:=h.frs _ (List.getElem_mem hi)
  rw [gY]
  refine aE (aC (fun _=>?_) (fun h=>by omega))
  refine aN hi (fun _=>rfl) (aH rfl (aA rfl (aA rfl (aA rfl (aA rfl ?_)))))
  refine nT (by simp) (fun x hx=>by simp only [List.nil_append,List.mem_cons,List.not_mem_nil,or_false] at hx;rcases hx with rfl | rfl<;>rfl) ?_
  refine aK4 zz.1 zz.2 (eA (eX _) (bH ?_))
  have q1 : (v.fr[i].loc++v.fr[i].stk).length≤4194304:=by rw [List.length_append];omega
  have inner : ∀ l : List bZ,l.length≤4194304→(∀ y∈l,y.s.size≤2097152)→∀ j,j≤l.length→∀ b,Ok (boxes m v (b=true∧(∀ y∈l.drop j,iZ m v.hp.length y)∧(∀ f∈v.fr.drop (i+1),∀ y∈f.loc++f.stk,iZ m v.hp.length y)∧(∀ r∈v.hp,∀ y∈r,iZ m v.hp.length y)∧iZ m v.hp.length v.val)) (eO (.lst (v.fr.map bT.pv)) (.int .i64 v.fr.length) (.int .i64 i) (.int .i64 l.length) (.int .i64 j) (.bool b) (.lst (m.texts.map PV.str)) (.lst (m.funcs.map cG.pv)) (.lst (v.fr.map bT.pv)) (.lst (v.hp.map aL)) (.int .i64 v.made) (.lst (v.out.map PV.str)) (.int .i64 v.st) (.int .i64 v.tr) (.int .i64 v.val.k) (.int .i64 v.val.n) (.str v.val.s) (.int .i64 v.steps) (.lst (v.fr.map bT.pv)) (.lst (v.hp.map aL)) (.int .i64 v.made) (.lst (v.out.map PV.str)) (.int .i64 v.st) (.int .i64 v.tr) (.int .i64 v.val.k) (.int .i64 v.val.n) (.str v.val.s) (.int .i64 v.steps) (aU l)):=by
   intro l q1 q2
   refine aAs (n:=l.length) (F:=fun j b=>eO (.lst (v.fr.map bT.pv)) (.int .i64 v.fr.length) (.int .i64 i) (.int .i64 l.length) (.int .i64 j) (.bool b) (.lst (m.texts.map PV.str)) (.lst (m.funcs.map cG.pv)) (.lst (v.fr.map bT.pv)) (.lst (v.hp.map aL)) (.int .i64 v.made) (.lst (v.out.map PV.str)) (.int .i64 v.st) (.int .i64 v.tr) (.int .i64 v.val.k) (.int .i64 v.val.n) (.str v.val.s) (.int .i64 v.steps) (.lst (v.fr.map bT.pv)) (.lst (v.hp.map aL)) (.int .i64 v.made) (.lst (v.out.map PV.str)) (.int .i64 v.st) (.int .i64 v.tr) (.int .i64 v.val.k) (.int .i64 v.val.n) (.str v.val.s) (.int .i64 v.steps) (aU l)) (P:=fun j b=>boxes m v (b=true∧(∀ y∈l.drop j,iZ m v.hp.length y)∧(∀ f∈v.fr.drop (i+1),∀ y∈f.loc++f.stk,iZ m v.hp.length y)∧(∀ r∈v.hp,∀ y∈r,iZ m v.hp.length y)∧iZ m v.hp.length v.val)) (fun b=>?_) (fun j hj ih' b=>?_)
   ·rw [gZ]
    exact aE (aC (fun h=>by omega) (fun _=>aI (by omega) ((ih b).mono (fun r hr=>hr.mono (fun h=>⟨h.1,fun y hy=>(by rw [List.drop_length] at hy;cases hy),h.2⟩)))))
   ·rw [gZ]
    refine aE (aC (fun _=>?_) (fun h=>by omega))
    refine aDV (by omega) (by omega) (aN hj (fun _=>rfl) (aH rfl (aA rfl (aA rfl (aA rfl (aF (aNl (b:=b) (x:=l[j]) (by omega) (by omega) (q2 _ (List.getElem_mem hj))) (fun r hr=>?_)))))))
    rw [hr]
    refine aI (by omega) ((ih' _).mono (fun r hr=>hr.mono (fun h=>?_)))
    obtain ⟨h1,h2,h3⟩:=h
    rw [Bool.and_eq_true] at h1
    refine ⟨h1.1,fun y hy=>?_,h3⟩
    rw [List.drop_eq_getElem_cons hj] at hy
    rcases List.mem_cons.1 hy with rfl | hy
    ·exact h1.2
    ·exact h2 y hy
  refine (inner _ q1 q2 0 (by omega) b).mono (fun r hr=>hr.mono (fun h=>?_))
  obtain ⟨h1,h2,h3,h4⟩:=h
  refine ⟨h1,fun f hf=>?_,h4⟩
  rw [List.drop_eq_getElem_cons hi] at hf
  rcases List.mem_cons.1 hf with rfl | hf
  ·exact h2
  ·exact h3 f hf
 rw [uN]
 exact aD ((frames 0 (by omega) true).mono (fun r hr=>hr.mono (fun h=>h.2)))
end
section
variable {P : R → Prop} {m : eJ}
theorem aNm (g : fC m) {n : Nat} {f : bT} {top : Bool} (hs : f.loc.length≤2097152∧f.stk.length≤2097152) :
 Ok (qF ((∀ y∈f.loc++f.stk,iZ m n y)→(top=true→aGJ m n f)∧(top=false→aEr m n f))) (rT m.pv (aGK m) (.int .i64 f.f) (.int .i64 f.pc) (.int .i64 f.loc.length) (.int .i64 f.stk.length) (.bool top)):=by
 obtain ⟨f1,f2,ff⟩:=g.fit
 rw [yH]
 refine aH rfl (aA rfl (aA rfl (aD (fA (by omega) (bC (aZ (fun _=>no) (fun hb=>?_)))))))
 have hf : 0≤f.f∧f.f<m.funcs.length:=by
  have : jK f.f 0 ((m.funcs.length : Int) - 1)=true:=by simpa using hb
  rw [bA] at this
  omega
 obtain ⟨i,hi,he,hc,F,_⟩:=g.code hf
 have nc:=F.n2
 rw [← hc] at nc
 refine wF hf (aA rfl (cW (aY (fun _=>no) (fun hloc=>wF hf (aA rfl (aD (fA (by omega) (bC (aZ (fun _=>no) (fun hb=>?_))))))))))
 have hpc : 0≤f.pc∧f.pc<(dD m.funcs f.f).length:=by
  have : jK f.pc 0 (((dD m.funcs f.f).length : Int) - 1)=true:=by simpa using hb
  rw [bA] at this
  omega
 refine vO hf (fJ g hf hpc (aE (aC (fun _=>no) (fun hd=>?_))))
 have I : (∀ y∈f.loc++f.stk,iZ m n y)→FrI m n f:=fun hv=>⟨hf,hpc,hloc,by omega,fun y hy=>hv y (List.mem_append_left _ hy),fun y hy=>hv y (List.mem_append_right _ hy)⟩
 have dl:=(g.at_ hf hpc (by omega)).2.2.1
 cases top with
 | true=>exact bG (vO hf (fJ g hf hpc (aM (yes fun h hv=>⟨fun _=>⟨I hv,of_decide_eq_true h⟩,fun h=>by cases h⟩))))
 | false=>
   refine aQ (aM (aC (fun _=>no) (fun h0=>vO hf (bY (by omega) (fJ g hf (by omega) (aE (aC (fun _=>no) (fun h2=>wF hf (aA rfl (bY (by omega) ?_))))))))))
   have hin : ((dD m.funcs f.f).map bK.pv)[(f.pc - 1).toNat]? = some (qE m f.f (f.pc - 1)).pv:=by
    rw [List.getElem?_map]
    unfold qE
    rw [List.getElem?_eq_getElem (by omega)];rfl
   refine aBp (by omega) hin rfl (aA rfl (aM (aC (fun h3=>?_) (fun _=>aM (aC (fun h3=>?_) (fun _=>no))))))
   ·exact vO hf (fJ g hf hpc (bY (by omega) (aM (yes fun h hv=>⟨fun h=>(by cases h),fun _=>⟨I hv,⟨by omega,by omega,.inl h3⟩,of_decide_eq_true h⟩⟩))))
   ·exact vO hf (fJ g hf hpc (bY (by omega) (aM (yes fun h hv=>⟨fun h=>(by cases h),fun _=>⟨I hv,⟨by omega,by omega,.inr h3⟩,of_decide_eq_true h⟩⟩))))
theorem aMj (g : fC m) {v : fN} (h : v.fine) (b : Bool) : Ok (qF (b=true∧((∀ f∈v.fr,∀ y∈f.loc++f.stk,iZ m v.hp.length y)→wH m v.hp.length v.fr 0)∧aCy v)) (gT (aGK m) (.lst (v.fr.map bT.pv)) (.int .i64 v.fr.length) (.int .i64 0) (.lst (m.texts.map PV.str)) (.lst (m.funcs.map cG.pv)) (.lst (v.fr.map bT.pv)) (.lst (v.hp.map aL)) (.int .i64 v.made) (.lst (v.out.map PV.str)) (.int .i64 v.st) (.int .i64 v.tr) (.int .i64 v.val.k) (.int .i64 v.val.n) (.str v.val.s) (.int .i64 v.steps) (.bool b)):=by
 have zf:=h.f
 refine aAs (n:=v.fr.length) (F:=fun i b=>gT (aGK m) (.lst (v.fr.map bT.pv)) (.int .i64 v.fr.length) (.int .i64 i) (.lst (m.texts.map PV.str)) (.lst (m.funcs.map cG.pv)) (.lst (v.fr.map bT.pv)) (.lst (v.hp.map aL)) (.int .i64 v.made) (.lst (v.out.map PV.str)) (.int .i64 v.st) (.int .i64 v.tr) (.int .i64 v.val.k) (.int .i64 v.val.n) (.str v.val.s) (.int .i64 v.steps) (.bool b)) (P:=fun i b=>qF (b=true∧((∀ f∈v.fr,∀ y∈f.loc++f.stk,iZ m v.hp.length y)→wH m v.hp.length v.fr i)∧aCy v)) (fun b=>?_) (fun i hi ih b=>?_) 0 (by omega) b
 ·rw [mQ]
  have hF : (∀ f∈v.fr,∀ y∈f.loc++f.stk,iZ m v.hp.length y)→wH m v.hp.length v.fr v.fr.length:=fun _ j hj hij=>by omega
  refine aE (aC (fun h=>by omega) (fun _=>aD (dX (tK (fun h1=>?_) (fun h1=>?_)))))
  ·refine aH9 (a:=v.val) (b:=fB) ?_
   generalize hE : (decide (v.val.k=fB.k)&&(decide (v.val.n=fB.n)&&hU v.val.s fB.s))=e
   have he : e=true→v.val=fB:=fun h=>aPu (by rw [hE];exact h)
   refine aM (aC (fun h0=>aZ (fun hb=>aZ (fun hv=>aM (yes fun ht=>⟨hb,hF,.inl ⟨h0,of_decide_eq_true ht,he hv,by omega,by omega⟩⟩)) (fun _=>no)) (fun _=>no)) (fun h0=>?_))
   refine aM (aC (fun h2=>aZ (fun hb=>aZ (fun hv=>dX (yes fun ht=>?_)) (fun _=>no)) (fun _=>no)) (fun h2=>?_))
   ·rw [bA] at ht
    exact ⟨hb,hF,.inr (.inl ⟨h2,ht.1,ht.2,he hv,by omega,by omega⟩)⟩
   ·exact aM (aC (fun _=>aZ (fun _=>aD (aM (aC (fun h=>by omega) (fun _=>no)))) (fun _=>no)) (fun _=>no))
  ·refine aM (aC (fun _=>aZ (fun _=>no) (fun _=>no)) (fun _=>aM (aC (fun _=>aZ (fun _=>no) (fun _=>no)) (fun _=>?_))))
   refine aM (aC (fun h3=>aZ (fun hb=>aD (aM (aC (fun hl=>aM (yes fun ht=>?_)) (fun _=>no)))) (fun _=>no)) (fun _=>no))
   exact ⟨hb,hF,.inr (.inr ⟨h3,of_decide_eq_true ht,List.length_eq_zero_iff.1 (by omega)⟩)⟩
 ·rw [mQ]
  refine aE (aC (fun _=>?_) (fun h=>by omega))
  refine aN hi (fun _=>rfl) (aH rfl (aA rfl (aA rfl (aA rfl (aA rfl (aZ (fun hb=>bH (bH (aD (bY (by omega) (aM (aF9 (aNm g (n:=v.hp.length) (f:=v.fr[i]) (h.fl _ (List.getElem_mem hi))) (fun c hc=>bR rfl (aI (by omega) ((ih c).mono ?_))))))))) (fun hb=>aI (by omega) ((ih false).mono ?_))))))))
  ·rintro r ⟨d,rfl,hd⟩
   refine ⟨d,rfl,fun hd'=>?_⟩
   obtain ⟨h1,h2,h3⟩:=hd hd'
   refine ⟨hb,fun hv j hj hij=>?_,h3⟩
   by_cases e : i=j
   ·subst e
    have:=hc h1 (hv _ (List.getElem_mem hi))
    exact ⟨fun e=>this.1 (decide_eq_true e),fun e=>this.2 (decide_eq_false e)⟩
   ·exact h2 hv j hj (by omega)
  ·rintro r ⟨d,rfl,hd⟩
   exact ⟨d,rfl,fun hd'=>absurd (hd hd').1 (by simp)⟩
theorem aJD (hs : m.sized) {v : fN} (h : v.fine) : Ok (qF (aGL m v)) (wC m.pv v.pv):=by
 have ho:=h.o
 rw [aCj]
 refine aH rfl (aA rfl (aA rfl (aH rfl (aA rfl (aA rfl (aA rfl (aA rfl (aA rfl (aA rfl (aA rfl (aA rfl (aA rfl (aA rfl (aJt hs (aZ (fun hg=>?_) (fun _=>no))))))))))))))))
 have g:=aF2 hs hg
 have hfn:=g.fit.2.1
 refine aF (aF7 g) (fun r hr=>?_)
 rw [hr]
 refine aF9 (A:=VmK m v) ?_ (fun b hb=>yes fun h=>⟨g,hb h⟩)
 rw [aCk]
 refine aH rfl (aA rfl (aA rfl (aH rfl (aA rfl (aA rfl (aA rfl (aA rfl (aA rfl (aA rfl (aA rfl (aA rfl (aA rfl (aA rfl ?_)))))))))))))
 refine xQ (aNk h.h) (fun hA=>aD (dX (bC (aZ (fun _=>no) (fun h2=>?_)))))
 refine aD (iC (aC (fun _=>no) (fun h3=>dX (bC (aZ (fun _=>no) (fun h4=>?_))))))
 have h2 : jK v.made v.hp.length 120=true:=by simpa using h2
 have h4 : jK v.steps 0 50000=true:=by simpa using h4
 rw [bA] at h2 h4
 refine aDh (by omega) (fun s=>!cP s) (fun x hx=>?_) (aZ (fun _=>no) (fun h6=>?_))
 ·show Ok _ (zV _)
  rw [aAc]
  refine aF (aAH (s:=x) (h.outs x hx)) (fun r hr=>?_)
  rw [hr]
  exact bC (aB rfl)
 refine aF (aJC (by omega) h hA.1) (fun r hr=>?_)
 obtain ⟨b,rfl,hb⟩:=hr
 refine aD ((aMj g h b).mono ?_)
 rintro r ⟨d,rfl,hd⟩
 refine ⟨d,rfl,fun hd'=>?_⟩
 obtain ⟨e1,e2,e3⟩:=hd hd'
 obtain ⟨q1,q2,q3⟩:=hb e1
 refine aNj h2 (by omega) h4 q3 (fun r hr=>⟨hA.2 r hr,q2 r hr⟩) (fun s hs=>?_) e3 (e2 q1)
 rw [List.any_eq_false] at h6
 simpa using h6 s hs
open Classical in
theorem aJE (hs : m.sized) {v : fN} (h : v.fine) : Ok (fun r=>r = [.bool (decide (aGL m v))]) (wC m.pv v.pv):=by
 obtain ⟨r,e,b,rfl,hb⟩:=(aJD hs h)
 by_cases hk : aGL m v
 ·have:=aIn hk.1 hk.2
  rw [decide_eq_true hk];exact this
 ·refine ⟨_,e,?_⟩
  rw [decide_eq_false hk]
  cases b with
  | false=>rfl
  | true=>exact absurd (hb rfl) hk
open Classical in
def aPQ (m : eJ) (v : fN) : fN:=if aGL m v then uQ m v else vmZ
end
structure fN.wide (v : fN) : Prop where
 f : v.fr.length≤9223372036854775807
 fl : ∀ f∈v.fr,(f.loc.length≤9223372036854775807∧∀ y∈f.loc,y.s.size≤9223372036854775807)∧f.stk.length≤9223372036854775807∧∀ y∈f.stk,y.s.size≤9223372036854775807
 h : v.hp.length≤9223372036854775807
 hl : ∀ r∈v.hp,r.length≤9223372036854775807∧∀ y∈r,y.s.size≤9223372036854775807
 o : v.out.length≤9223372036854775807
 os : ∀ s∈v.out,s.size≤9223372036854775807
 val : v.val.s.size≤9223372036854775807
theorem aO0 {x : List bZ} {q : Int} (hl : x.length≤9223372036854775807) (hs : ∀ y∈x,y.s.size≤9223372036854775807) (h0 : 0≤q) (h1 : q≤1048576) : Ok (tO q (x.length≤1048576∧∀ y∈x,y.s.size≤1048576)) (aBq (aL x) (.int .i64 q)):=by
 rw [aGu]
 exact aH rfl (aA rfl (iL (aIg hl hs h0 h1) (fun z g1 g2 g3=>aE (aC (fun h=>aB ⟨-1,rfl,by omega,by omega,fun h=>absurd h (by omega)⟩) (fun h=>aB ⟨z,rfl,g1,g2,g3⟩)))))
theorem aOd {l : List (List bZ)} {q : Int} (hl : l.length≤9223372036854775807) (hs : ∀ r∈l,r.length≤9223372036854775807∧∀ y∈r,y.s.size≤9223372036854775807) (h0 : 0≤q) (h1 : q≤1048576) :
 Ok (tO q (l.length≤1048576∧∀ r∈l,r.length≤1048576∧∀ y∈r,y.s.size≤1048576)) (zM (.lst (l.map aL)) (.int .i64 q)):=by
 rw [aFt]
 refine aD (bY (by omega) (aE (aC (fun h=>aB ⟨-1,rfl,by omega,by omega,fun h=>absurd h (by omega)⟩) (fun h=>?_))))
 have key : Ok (tO (q - l.length) (∀ s∈l.attach,s.1.length≤1048576∧∀ y∈s.1,y.s.size≤1048576)) (kL (.lst (l.attach.map fun s=>aL s.1)) (.int .i64 (q - l.length)) (.int .i64 0)):=by
  refine aCw (F:=kL) (f:=fun s : {s // s∈l}=>aL s.1) (B:=fun s=>s.1.length≤1048576∧∀ y∈s.1,y.s.size≤1048576) (fun xs q=>?_) (fun a z b q Q hb g0 g1 hQ hk=>?_) (by simp;omega) (by omega) (by omega)
  ·rw [uC]
   exact bJ (aE (aC (fun h=>by omega) (fun _=>aB rfl)))
  ·rw [uC]
   refine bJ (aE (aC (fun _=>?_) (fun h=>by simp at h;omega)))
   refine aG rfl rfl (iL (aO0 (hs z.1 z.2).1 (hs z.1 z.2).2 g0 g1) (fun y y1 y2 y3=>aE (aC (fun _=>aB hQ) (fun h=>aI (by omega) (hk _ (by omega) (by omega) (y3 (by omega)))))))
 have e1 : (l.attach.map fun s=>aL s.1)=l.map aL:=by simp
 rw [e1] at key
 refine key.mono ?_
 rintro r ⟨z,rfl,h2,h3,h4⟩
 exact ⟨z,rfl,by omega,h3,fun hz=>⟨by omega,fun s hs'=>h4 hz ⟨s,hs'⟩ (List.mem_attach _ _)⟩⟩
theorem aNn {x : bT} {q : Int} (hl : (x.loc.length≤9223372036854775807∧∀ y∈x.loc,y.s.size≤9223372036854775807)∧x.stk.length≤9223372036854775807∧∀ y∈x.stk,y.s.size≤9223372036854775807) (h0 : 0≤q) (h1 : q≤1048576) :
 Ok (tO q ((x.loc.length≤1048576∧∀ y∈x.loc,y.s.size≤1048576)∧x.stk.length≤1048576∧∀ y∈x.stk,y.s.size≤1048576)) (xA x.pv (.int .i64 q)):=by
 rw [aEa]
 refine aH rfl (aA rfl (aA rfl (aA rfl (aA rfl (iL (aIg hl.1.1 hl.1.2 h0 h1) (fun z g1 g2 g3=>aE (aC (fun h=>aB ⟨-1,rfl,by omega,by omega,fun h=>absurd h (by omega)⟩) (fun h=>?_))))))))
 exact iL (aIg hl.2.1 hl.2.2 (by omega) (by omega)) (fun y y1 y2 y3=>aE (aC (fun h=>aB ⟨-1,rfl,by omega,by omega,fun h=>absurd h (by omega)⟩) (fun h=>aB ⟨y,rfl,by omega,y2,fun hy=>⟨g3 (by omega),y3 hy⟩⟩)))
theorem aMk {l : List bT} {q : Int} (hl : l.length≤9223372036854775807) (hs : ∀ x∈l,(x.loc.length≤9223372036854775807∧∀ y∈x.loc,y.s.size≤9223372036854775807)∧x.stk.length≤9223372036854775807∧∀ y∈x.stk,y.s.size≤9223372036854775807) (h0 : 0≤q) (h1 : q≤1048576) :
 Ok (tO q (l.length≤1048576∧∀ x∈l,(x.loc.length≤1048576∧∀ y∈x.loc,y.s.size≤1048576)∧x.stk.length≤1048576∧∀ y∈x.stk,y.s.size≤1048576)) (uX (.lst (l.map bT.pv)) (.int .i64 q)):=by
 rw [aCZ]
 refine aD (bY (by omega) (aE (aC (fun h=>aB ⟨-1,rfl,by omega,by omega,fun h=>absurd h (by omega)⟩) (fun h=>?_))))
 have key : Ok (tO (q - l.length) (∀ s∈l.attach,(s.1.loc.length≤1048576∧∀ y∈s.1.loc,y.s.size≤1048576)∧s.1.stk.length≤1048576∧∀ y∈s.1.stk,y.s.size≤1048576)) (iO (.lst (l.attach.map fun s=>s.1.pv)) (.int .i64 (q - l.length)) (.int .i64 0)):=by
  refine aCw (F:=iO) (f:=fun s : {s // s∈l}=>s.1.pv) (B:=fun s=>(s.1.loc.length≤1048576∧∀ y∈s.1.loc,y.s.size≤1048576)∧s.1.stk.length≤1048576∧∀ y∈s.1.stk,y.s.size≤1048576) (fun xs q=>?_) (fun a z b q Q hb g0 g1 hQ hk=>?_) (by simp;omega) (by omega) (by omega)
  ·rw [qS]
   exact bJ (aE (aC (fun h=>by omega) (fun _=>aB rfl)))
  ·rw [qS]
   refine bJ (aE (aC (fun _=>?_) (fun h=>by simp at h;omega)))
   refine aG rfl rfl (iL (aNn (hs z.1 z.2) g0 g1) (fun y y1 y2 y3=>aE (aC (fun _=>aB hQ) (fun h=>aI (by omega) (hk _ (by omega) (by omega) (y3 (by omega)))))))
 have e1 : (l.attach.map fun s=>s.1.pv)=l.map bT.pv:=by simp
 rw [e1] at key
 refine key.mono ?_
 rintro r ⟨z,rfl,h2,h3,h4⟩
 exact ⟨z,rfl,by omega,h3,fun hz=>⟨by omega,fun s hs'=>h4 hz ⟨s,hs'⟩ (List.mem_attach _ _)⟩⟩
theorem aPw {v : fN} {q : Int} (h : v.wide) (h0 : 0≤q) (h1 : q≤1048576) : Ok (tO q v.fine) (aCW v.pv (.int .i64 q)):=by
 rw [aHX]
 refine aH rfl (aA rfl (aA rfl (aA rfl (aA rfl (aA rfl (aA rfl (aA rfl (aA rfl (aA rfl (aA rfl ?_))))))))))
 refine iL (aMk h.f h.fl h0 h1) (fun a a1 a2 a3=>aE (aC (fun h=>aB ⟨-1,rfl,by omega,by omega,fun h=>absurd h (by omega)⟩) (fun ha=>?_)))
 refine iL (aOd h.h h.hl (by omega) (by omega)) (fun b b1 b2 b3=>aE (aC (fun h=>aB ⟨-1,rfl,by omega,by omega,fun h=>absurd h (by omega)⟩) (fun hb=>?_)))
 refine iL (aLc h.o h.os (by omega) (by omega)) (fun c c1 c2 c3=>aE (aC (fun h=>aB ⟨-1,rfl,by omega,by omega,fun h=>absurd h (by omega)⟩) (fun hc=>?_)))
 refine iL (aM6 (x:=v.val) h.val (by omega) (by omega)) (fun d d1 d2 d3=>aE (aC (fun h=>aB ⟨-1,rfl,by omega,by omega,fun h=>absurd h (by omega)⟩) (fun hd=>aB ⟨d,rfl,by omega,d2,fun _=>?_⟩)))
 obtain ⟨p1,p2⟩:=a3 (by omega)
 obtain ⟨p3,p4⟩:=b3 (by omega)
 obtain ⟨p5,p6⟩:=c3 (by omega)
 have p7:=d3 (by omega)
 refine ⟨⟨by omega,by omega,by omega,fun f hf=>?_,fun r hr=>?_⟩,by omega,fun s hs=>?_,fun f hf y hy=>?_,fun r hr y hy=>?_⟩
 ·have:=p2 f hf;omega
 ·have:=(p4 r hr).1;omega
 ·have:=p6 s hs;omega
 ·rcases List.mem_append.1 hy with hy | hy
  ·have:=(p2 f hf).1.2 y hy;omega
  ·have:=(p2 f hf).2.2 y hy;omega
 ·have:=(p4 r hr).2 y hy;omega
section
variable {P : R → Prop}
theorem aEE {v : fN} (h : v.few) {o : R→Option R} (hk : Ok P (o (dY v))) : Ok P (bd (pG v.pv) o):=aF (aPp h) (fun r hr=>by rw [hr];exact hk)
end
def aJF : CSh:=.l true [.i .i64,.i .i64,aIk,aIk]
def aNo : CSh:=.l true [aIk]
def aO1 : List CSh:=[aJF,aNo,.i .i64,aF5,.i .i64,.i .i64,.i .i64,.i .i64,.s,.i .i64]
theorem aMl {x : PV} (h : qQ aJF x) : ∃ l : List bT,x = .lst (l.map bT.pv)∧l.length≤9223372036854775807∧∀ f∈l,(f.loc.length≤9223372036854775807∧∀ y∈f.loc,y.s.size≤9223372036854775807)∧f.stk.length≤9223372036854775807∧∀ y∈f.stk,y.s.size≤9223372036854775807:=by
 obtain ⟨xs,rfl,hl,he⟩:=aDp h
 obtain ⟨l,rfl,hs⟩:=xP (f:=bT.pv) (B:=fun f=>(f.loc.length≤9223372036854775807∧∀ y∈f.loc,y.s.size≤9223372036854775807)∧f.stk.length≤9223372036854775807∧∀ y∈f.stk,y.s.size≤9223372036854775807) (xs:=xs) (fun e hm=>by
  have h1:=he e hm
  rw [if_pos rfl] at h1
  obtain ⟨ys,rfl,h2⟩:=h1
  obtain ⟨y1,r1,rfl,g1,h2⟩:=cC h2
  obtain ⟨y2,r2,rfl,g2,h2⟩:=cC h2
  obtain ⟨y3,r3,rfl,g3,h2⟩:=cC h2
  obtain ⟨y4,r4,rfl,g4,h2⟩:=cC h2
  cases tL h2
  obtain ⟨a,rfl,_⟩:=oM g1
  obtain ⟨b,rfl,_⟩:=oM g2
  obtain ⟨c,rfl,hc⟩:=aIl g3
  obtain ⟨d,rfl,hd⟩:=aIl g4
  exact ⟨⟨a,b,c,d⟩,rfl,hc,hd⟩)
 exact ⟨l,rfl,by rw [List.length_map] at hl;unfold maxLen at hl;omega,hs⟩
theorem aOe {x : PV} (h : qQ aNo x) : ∃ l : List (List bZ),x = .lst (l.map aL)∧l.length≤9223372036854775807∧∀ r∈l,r.length≤9223372036854775807∧∀ y∈r,y.s.size≤9223372036854775807:=by
 obtain ⟨xs,rfl,hl,he⟩:=aDp h
 obtain ⟨l,rfl,hs⟩:=xP (f:=aL) (B:=fun r=>r.length≤9223372036854775807∧∀ y∈r,y.s.size≤9223372036854775807) (xs:=xs) (fun e hm=>by
  have h1:=he e hm
  rw [if_pos rfl] at h1
  obtain ⟨ys,rfl,h2⟩:=h1
  obtain ⟨y1,r1,rfl,g1,h2⟩:=cC h2
  cases tL h2
  obtain ⟨c,rfl,hc⟩:=aIl g1
  exact ⟨c,rfl,hc⟩)
 exact ⟨l,rfl,by rw [List.length_map] at hl;unfold maxLen at hl;omega,hs⟩
theorem aPx {x : PV} (h : FitsArg true aO1 x) : ∃ v : fN,x=v.pv∧v.wide:=by
 unfold FitsArg at h
 rw [if_pos rfl] at h
 obtain ⟨ys,rfl,h⟩:=h
 obtain ⟨y1,r1,rfl,g1,h⟩:=cC h
 obtain ⟨y2,r2,rfl,g2,h⟩:=cC h
 obtain ⟨y3,r3,rfl,g3,h⟩:=cC h
 obtain ⟨y4,r4,rfl,g4,h⟩:=cC h
 obtain ⟨y5,r5,rfl,g5,h⟩:=cC h
 obtain ⟨y6,r6,rfl,g6,h⟩:=cC h
 obtain ⟨y7,r7,rfl,g7,h⟩:=cC h
 obtain ⟨y8,r8,rfl,g8,h⟩:=cC h
 obtain ⟨y9,r9,rfl,g9,h⟩:=cC h
 obtain ⟨y10,r10,rfl,g10,h⟩:=cC h
 cases tL h
 obtain ⟨fr,rfl,f1,f2⟩:=aMl g1
 obtain ⟨hp,rfl,e1,e2⟩:=aOe g2
 obtain ⟨made,rfl,_⟩:=oM g3
 obtain ⟨out,rfl,o1,o2⟩:=aLg g4
 obtain ⟨st,rfl,_⟩:=oM g5
 obtain ⟨tr,rfl,_⟩:=oM g6
 obtain ⟨k,rfl,_⟩:=oM g7
 obtain ⟨n,rfl,_⟩:=oM g8
 obtain ⟨s,rfl,hs⟩:=aKA g9
 obtain ⟨steps,rfl,_⟩:=oM g10
 exact ⟨⟨fr,hp,made,out,st,tr,⟨k,n,s⟩,steps⟩,rfl,⟨f1,f2,e1,e2,o1,o2,by unfold maxLen at hs;show s.size≤_;omega⟩⟩
def iY (L : List Int) (v : bZ) : List Int:=if v.k=4∧v.n∉L then L++[v.n] else L
def jA (L : List Int) (l : List bZ) : List Int:=l.foldl iY L
def aCz (L : List Int) (f : bT) : List Int:=jA (jA L f.loc) f.stk
def aIp (v : fN) : List Int:=iY (v.fr.foldl aCz []) v.val
def oN (hp : List (List bZ)) (i : Int) : List bZ:=hp[i.toNat]?.getD []
def kT (hp : List (List bZ)) : Nat→Nat→List Int→List Int
 | 0,_,L=>L
 | d+1,i,L=>if i<L.length then kT hp d (i+1) (jA L (oN hp (L[i]?.getD 0))) else L
def bB (v : fN) : List Int:=kT v.hp v.hp.length 0 (aIp v)
def aAt (H : Nat) (v : bZ) : Prop:=v.k=4→0≤v.n∧v.n<H
structure yP (H : Nat) (L : List Int) : Prop where
 nd : L.Nodup
 lt : ∀ x∈L,0≤x∧x<H
theorem aLi {m : eJ} {H : Nat} {v : bZ} (h : iZ m H v) : aAt H v:=fun hk=>by
 unfold iZ cD at h
 split at h
 ·cases h
 ·rw [if_neg (by omega),if_neg (by omega),if_neg (by omega),if_neg (by omega)] at h
  try rw [if_pos hk] at h
  simp only [Bool.and_eq_true,decide_eq_true_eq] at h
  exact h
theorem yP.len {H : Nat} {L : List Int} (h : yP H L) : L.length≤H:=by
 have:=List.Nodup.length_le_of_subset h.nd (l₂:=(List.range H).map Int.ofNat) (fun x hx=>by
  obtain ⟨h1,h2⟩:=h.lt x hx
  rw [List.mem_map]
  exact ⟨x.toNat,List.mem_range.2 (by omega),by show ((x.toNat : Nat) : Int)=x;omega⟩)
 simpa using this
theorem aDr {L : List Int} {v : bZ} {x : Int} (h : x∈L) : x∈iY L v:=by
 unfold iY;split
 ·exact List.mem_append_left _ h
 ·exact h
theorem aHl {L : List Int} {v : bZ} (h : v.k=4) : v.n∈iY L v:=by
 unfold iY;split
 ·simp
 ·rename_i hn
  exact Classical.not_not.1 (fun k=>hn ⟨h,k⟩)
theorem aCA {H : Nat} {L : List Int} {v : bZ} (hL : yP H L) (hv : aAt H v) : yP H (iY L v):=by
 unfold iY;split
 ·rename_i h
  refine ⟨List.nodup_append.2 ⟨hL.nd,by simp,fun a ha b hb=>?_⟩,fun x hx=>?_⟩
  ·simp at hb;subst hb;rintro rfl;exact h.2 ha
  ·rcases List.mem_append.1 hx with hx | hx
   ·exact hL.lt x hx
   ·simp at hx;subst hx;exact hv h.1
 ·exact hL
theorem pL {x : Int} : ∀ {l : List bZ} {L : List Int},x∈L→x∈jA L l
 | [],_,h=>h
 | v::r,_,h=>pL (l:=r) (aDr h)
theorem aAP {v : bZ} (hk : v.k=4) : ∀ {l : List bZ} {L : List Int},v∈l→v.n∈jA L l
 | a::r,L,h=>by
   rcases List.mem_cons.1 h with rfl | h
   ·exact pL (l:=r) (aHl hk)
   ·exact aAP hk (l:=r) h
theorem kU {H : Nat} : ∀ {l : List bZ} {L : List Int},yP H L→(∀ v∈l,aAt H v)→yP H (jA L l)
 | [],_,h,_=>h
 | v::r,_,h,hv=>kU (l:=r) (aCA h (hv v List.mem_cons_self)) (fun x hx=>hv x (List.mem_cons_of_mem _ hx))
theorem xR {hp : List (List bZ)} {x : Int} : ∀ {d i : Nat} {L : List Int},x∈L→x∈kT hp d i L
 | 0,_,_,h=>h
 | d+1,i,L,h=>by
   unfold kT;split
   ·exact xR (pL h)
   ·exact h
theorem aHm {H : Nat} {hp : List (List bZ)} (hh : ∀ r∈hp,∀ v∈r,aAt H v) : ∀ {d i : Nat} {L : List Int},yP H L→yP H (kT hp d i L)
 | 0,_,_,h=>h
 | d+1,i,L,h=>by
   unfold kT;split
   ·refine aHm hh (kU h (fun v hv=>?_))
    unfold oN at hv
    cases hq : hp[(L[i]?.getD 0).toNat]? with
    | none=>rw [hq] at hv;cases hv
    | some r=>rw [hq] at hv;exact hh r (List.mem_of_getElem? hq) v hv
   ·exact h
def aLj (hp : List (List bZ)) (L : List Int) (n : Nat) : Prop:=∀ j : Nat,j<n→j<L.length→∀ v∈oN hp (L[j]?.getD 0),v.k=4→v.n∈L
theorem aMm {l : List bZ} : ∀ {L : List Int} {j : Nat},j<L.length→(jA L l)[j]? = L[j]?:=by
 induction l with
 | nil=>intro L j _;rfl
 | cons v r ih=>
   intro L j hj
   show (jA (iY L v) r)[j]? = _
   have h2 : j<(iY L v).length:=by
    unfold iY;split
    ·simp;omega
    ·exact hj
   rw [ih h2]
   unfold iY;split
   ·rw [List.getElem?_append_left hj]
   ·rfl
theorem aBc {H : Nat} {hp : List (List bZ)} (hh : ∀ r∈hp,∀ v∈r,aAt H v) : ∀ {d i : Nat} {L : List Int},yP H L→H≤i+d→aLj hp L i→aLj hp (kT hp d i L) (kT hp d i L).length
 | 0,i,L,h,hd,hc=>fun j hj hl=>hc j (by have:=h.len;have : j<L.length:=hj;omega) hl
 | d+1,i,L,h,hd,hc=>by
   unfold kT;split
   ·rename_i hi
    have hvv : ∀ v∈oN hp (L[i]?.getD 0),aAt H v:=fun v hv=>by
     unfold oN at hv
     cases hq : hp[(L[i]?.getD 0).toNat]? with
     | none=>rw [hq] at hv;cases hv
     | some r=>rw [hq] at hv;exact hh r (List.mem_of_getElem? hq) v hv
    refine aBc hh (kU h hvv) (by omega) (fun j hj hl v hv hk=>?_)
    have hjL : j<L.length:=by omega
    rw [aMm hjL] at hv
    rcases Nat.lt_or_ge j i with h1 | h1
    ·exact pL (hc j h1 hjL v hv hk)
    ·have : j=i:=by omega
     subst this
     exact aAP hk hv
   ·rename_i hi
    exact fun j hj hl=>hc j (by omega) hl
def fK (H : Nat) (L : List Int) : List Nat:=(List.range H).filter fun (i : Nat)=>decide ((i : Int)∈L)
def aBR (L : List Int) (i : Nat) : Int:=(fK i L).length
def fU (L : List Int) (v : bZ) : bZ:=if v.k=4 then ⟨v.k,aBR L v.n.toNat,v.s⟩ else v
def vP (L : List Int) (f : bT) : bT:=⟨f.f,f.pc,f.loc.map (fU L),f.stk.map (fU L)⟩
def aJG (v : fN) (L : List Int) : fN:=
 { v with fr:=v.fr.map (vP L),hp:=(fK v.hp.length L).map fun i=>(v.hp[i]?.getD []).map (fU L),val:=fU L v.val}
def yI (v : fN) : fN:=aJG v (bB v)
theorem xS (L : List Int) (i : Nat) : fK (i+1) L=fK i L++(if (i : Int)∈L then [i] else []):=by
 unfold fK
 rw [List.range_succ,List.filter_append]
 congr 1
 by_cases h : (i : Int)∈L<;>simp [h]
theorem aNp (L : List Int) (i : Nat) : aBR L (i+1)=aBR L i+(if (i : Int)∈L then 1 else 0):=by
 unfold aBR
 rw [xS]
 split<;>simp
theorem aNq (L : List Int) (i : Nat) : 0≤aBR L i∧aBR L i≤i:=by
 unfold aBR fK
 have:=List.length_filter_le (fun (j : Nat)=>decide ((j : Int)∈L)) (List.range i)
 rw [List.length_range] at this
 omega
theorem sF {H : Nat} {L : List Int} {i : Nat} : i∈fK H L↔i<H∧(i : Int)∈L:=by
 unfold fK
 simp
theorem aJH {H : Nat} {L : List Int} {i : Nat} (hi : i<H) (hm : (i : Int)∈L) : ∃ r,fK H L=fK i L++i::r:=by
 induction H with
 | zero=>omega
 | succ H ih=>
   rw [xS]
   rcases Nat.lt_or_ge i H with h | h
   ·obtain ⟨r,hr⟩:=ih h
    exact ⟨r++(if (H : Int)∈L then [H] else []),by rw [hr];simp⟩
   ·have : i=H:=by omega
    subst this
    exact ⟨[],by rw [if_pos hm]⟩
theorem aJI {H : Nat} {L : List Int} (h : yP H L) : (L.mergeSort fun x y=>decide (x≤y))=(fK H L).map Int.ofNat:=by
 have hp : (L.mergeSort fun x y=>decide (x≤y)).Perm ((fK H L).map Int.ofNat):=by
  refine (List.mergeSort_perm L _).trans ?_
  refine (List.perm_ext_iff_of_nodup h.nd ?_).2 (fun x=>?_)
  ·show List.Pairwise _ _
   rw [List.pairwise_map]
   exact List.Pairwise.imp (fun h e=>h (Int.ofNat.inj e)) (List.Pairwise.filter _ List.nodup_range : (fK H L).Pairwise (·≠·))
  ·rw [List.mem_map]
   constructor
   ·intro hx
    obtain ⟨h1,h2⟩:=h.lt x hx
    have e : ((x.toNat : Nat) : Int)=x:=by omega
    exact ⟨x.toNat,sF.2 ⟨by omega,by rw [e];exact hx⟩,e⟩
   ·rintro ⟨i,hi,rfl⟩
    exact (sF.1 hi).2
 have s1:=List.pairwise_mergeSort (le:=fun (x y : Int)=>decide (x≤y)) (fun a b c=>by simp;omega) (fun a b=>by simp;omega) L
 have s2 : ((fK H L).map Int.ofNat).Pairwise fun x y=>decide (x≤y)=true:=by
  rw [List.pairwise_map]
  refine List.Pairwise.filter _ (List.Pairwise.imp ?_ List.pairwise_lt_range)
  intro a b hab
  simp
  omega
 exact List.Perm.eq_of_pairwise (fun a b _ _ h1 h2=>by simp at h1 h2;omega) s1 s2 hp
end
noncomputable section
open Go Go.IntWalk
theorem aO2 (v : bZ) (x N L : PV) : jZ v.pv x N L=gE (.int .i64 v.k) (.int .i64 v.n) (.str v.s) x N L:=by
 rw [vN,oV];rfl
attribute [local irreducible] bd PV.ite PV.guardFlat PV.guardOwn PV.whole PV.one PV.cell PV.sub PV.at_ PV.len PV.slen PV.chr PV.beq PV.peq PV.ceq PV.bin PV.neg PV.not PV.conv PV.cut PV.scut PV.cat PV.setAt PV.setCell PV.ncopy PV.copyIn PV.zeros PV.toStr PV.toBytes PV.deref PV.isPtr PV.comp PV.inb PV.off PV.imin PV.imax PV.sel PV.apply PV.isLst PV.isInt PV.ix PV.nilT
def qG (N : List Int) (i : Int) : Int:=N[i.toNat]?.getD 0
def gK (N L : List Int) (v : bZ) : bZ × List Int × List Int:=
 if v.k≠4 then (v,N,L) else if qG N v.n<0 then (⟨v.k,L.length,v.s⟩,N.set v.n.toNat L.length,L++[v.n]) else (⟨v.k,qG N v.n,v.s⟩,N,L)
def dU (N L : List Int) : List bZ→List bZ × List Int × List Int
 | []=>([],N,L)
 | v::r=>((gK N L v).1::(dU (gK N L v).2.1 (gK N L v).2.2 r).1,(dU (gK N L v).2.1 (gK N L v).2.2 r).2)
theorem aMn (N L : List Int) (v : bZ) : (gK N L v).2.1.length=N.length∧(gK N L v).2.2.length≤L.length+1:=by
 unfold gK;split
 ·exact ⟨rfl,by simp⟩
 ·split
  ·exact ⟨by simp,by simp⟩
  ·exact ⟨rfl,by simp⟩
section
variable {P : R → Prop} {k : R → Option R} {T : PV}
theorem aNr {N : List Int} {x L : PV} {a b c : PV} {q n : Int} {s : ByteArray} (h0 : 0≤n∧n<N.length) (h : Ok P (k [.agg [.int .i64 q,.int .i64 (qG N n),.str s],x,aX N,L])) : Ok P (bd (cQ x (.int .i64 q) (.int .i64 n) (.str s) a b c (aX N) L) k):=by
 refine aF (Q:=fun r=>r = [.agg [.int .i64 q,.int .i64 (qG N n),.str s],x,aX N,L]) ?_ (fun r hr=>by rw [hr];exact h)
 rw [vJ]
 refine cX h0.1 (by omega) (hJ h0.1 h0.2 (fun z hz=>bR rfl (aB ?_)))
 unfold qG;rw [hz];rfl
theorem aGa {N L : List Int} {v : bZ} {x : PV} (hv : aAt N.length v) (hL : L.length≤1000000) : Ok (fun r=>r = [(gK N L v).1.pv,x,aX (gK N L v).2.1,aX (gK N L v).2.2]) (gE (.int .i64 v.k) (.int .i64 v.n) (.str v.s) x (aX N) (aX L)):=by
 rw [oV]
 refine cW (aY (fun h=>aB ?_) (fun h=>?_))
 ·unfold gK;rw [if_pos h];rfl
 have h : v.k=4:=h
 obtain ⟨h0,h1⟩:=hv h
 refine cX h0 h1 (hJ h0 h1 (fun z hz=>aE (aC (fun hneg=>?_) (fun hneg=>?_))))
 ·have hg : qG N v.n<0:=by unfold qG;rw [hz];exact hneg
  obtain ⟨i,hi⟩:=Int.eq_ofNat_of_zero_le h0
  have e : gK N L v=(⟨v.k,L.length,v.s⟩,N.set v.n.toNat L.length,L++[v.n]):=by unfold gK;rw [if_neg (by omega),if_pos hg]
  rw [e,hi]
  refine cB (cX (by omega) (by omega) (qC (by omega) (dT (l:=[]) (ys:=[(i : Int)]) (by simp) (dT (ys:=[(i : Int)]) (by simp;omega) ?_))))
  have:=aNr (P:=fun r=>r = [.agg [.int .i64 v.k,.int .i64 (qG (N.set i L.length) i),.str v.s],x,aX (N.set i L.length),aX (L++[(i : Int)])]) (k:=fun r=>some r) (N:=N.set i L.length) (x:=x) (L:=aX (L++[(i : Int)])) (a:=.int .i64 0) (b:=.int .i64 0) (c:=.str (bs [])) (q:=v.k) (n:=i) (s:=v.s) ⟨by omega,by simp;omega⟩ (aB rfl)
  have e2 : qG (N.set i L.length) i=L.length:=by
   unfold qG
   rw [Int.toNat_natCast,List.getElem?_set_self (by omega)];rfl
  rw [e2] at this
  rw [Int.toNat_natCast]
  obtain ⟨r,hr,hp⟩:=this
  cases hq : cQ x (.int .i64 v.k) (.int .i64 i) (.str v.s) (.int .i64 0) (.int .i64 0) (.str (bs [])) (aX (N.set i L.length)) (aX (L++[(i : Int)])) with
  | none=>rw [hq] at hr;exact (by unfold bd at hr;cases hr)
  | some y=>rw [hq] at hr;unfold bd at hr;cases hr;exact ⟨_,rfl,hp⟩
 ·have hg : ¬ qG N v.n<0:=by unfold qG;rw [hz];exact hneg
  have e : gK N L v=(⟨v.k,qG N v.n,v.s⟩,N,L):=by unfold gK;rw [if_neg (by omega),if_neg hg]
  rw [e]
  have:=aNr (P:=fun r=>r = [.agg [.int .i64 v.k,.int .i64 (qG N v.n),.str v.s],x,aX N,aX L]) (k:=fun r=>some r) (N:=N) (x:=x) (L:=aX L) (a:=.int .i64 0) (b:=.int .i64 0) (c:=.str (bs [])) (q:=v.k) (n:=v.n) (s:=v.s) ⟨h0,h1⟩ (aB rfl)
  obtain ⟨r,hr,hp⟩:=this
  cases hq : cQ x (.int .i64 v.k) (.int .i64 v.n) (.str v.s) (.int .i64 0) (.int .i64 0) (.str (bs [])) (aX N) (aX L) with
  | none=>rw [hq] at hr;exact (by unfold bd at hr;cases hr)
  | some y=>rw [hq] at hr;unfold bd at hr;cases hr;exact ⟨_,rfl,hp⟩
def oO (H : Nat) (l : List bZ) : Prop:=∀ v∈l,aAt H v
theorem aGb : ∀ (l : List bZ) (N L : List Int) (v : bZ),dU N L (l++[v])=((dU N L l).1++[(gK (dU N L l).2.1 (dU N L l).2.2 v).1],(gK (dU N L l).2.1 (dU N L l).2.2 v).2)
 | [],N,L,v=>rfl
 | a::r,N,L,v=>by
   show _=_
   simp only [List.cons_append,dU,aGb r]
theorem aHn : ∀ (l : List bZ) (N L : List Int),(dU N L l).1.length=l.length∧(dU N L l).2.1.length=N.length∧(dU N L l).2.2.length≤L.length+l.length
 | [],N,L=>⟨rfl,rfl,by simp [dU]⟩
 | a::r,N,L=>by
   obtain ⟨h1,h2,h3⟩:=aHn r (gK N L a).2.1 (gK N L a).2.2
   obtain ⟨g1,g2⟩:=aMn N L a
   simp only [dU,List.length_cons]
   exact ⟨by omega,by omega,by omega⟩
theorem aHo {N L : List Int} {l : List bZ} {x : PV} (hv : oO N.length l) (hl : l.length≤100000) (hL : L.length≤100000) :
 Ok (fun r=>r = [x,aX (dU N L l).2.1,aX (dU N L l).2.2,aU (dU N L l).1]) (cE (aU l) x (aX N) (aX L)):=by
 rw [xJ]
 refine xK (n:=l.length) (σ:=List Int × List Int × List bZ) (F:=fun i z=>cZ (aU l) (.int .i64 i) x (aX z.1) (aX z.2.1) (aU z.2.2)) (fun i z=>z=((dU N L (l.take i)).2.1,(dU N L (l.take i)).2.2,(dU N L (l.take i)).1)) ?_ ?_ 0 (N,L,[]) (by omega) (by simp [dU])
 ·rintro ⟨a,b,c⟩ hz
  show Ok _ (cZ _ _ _ (aX a) (aX b) (aU c))
  rw [List.take_length] at hz
  cases hz
  rw [lO]
  exact aD (aE (aC (fun h=>by omega) (fun _=>aB rfl)))
 ·rintro i ⟨a,b,c⟩ hi hz ih
  show Ok _ (cZ _ _ _ (aX a) (aX b) (aU c))
  obtain ⟨q1,q2,q3⟩:=aHn (l.take i) N L
  rw [List.length_take] at q1 q3
  have et : l.take (i+1)=l.take i++[l[i]]:=by rw [List.take_add_one,List.getElem?_eq_getElem hi];rfl
  have hsn:=aGb (l.take i) N L l[i]
  rw [← et] at hsn
  cases hz
  rw [lO]
  refine aD (aE (aC (fun _=>?_) (fun h=>by omega)))
  refine aN hi (fun _=>rfl) ?_
  rw [aO2]
  have hvi:=hv l[i] (List.getElem_mem hi)
  refine aF (aGa (by rw [q2];exact hvi) (by omega)) (fun r hr=>?_)
  subst hr
  have el : ∀ y∈[(gK (dU N L (l.take i)).2.1 (dU N L (l.take i)).2.2 l[i]).1.pv],y.isEl 3 true=true:=fun y hy=>by simp at hy;subst hy;rfl
  refine wX (by simp) el (nT (by simp [q1];omega) el (aI (by omega) ?_))
  have e2 : (dU N L (l.take i)).1.map bZ.pv++[(gK (dU N L (l.take i)).2.1 (dU N L (l.take i)).2.2 l[i]).1.pv]=(dU N L (l.take (i+1))).1.map bZ.pv:=by
   rw [hsn];simp
  have:=ih ((dU N L (l.take (i+1))).2.1,(dU N L (l.take (i+1))).2.2,(dU N L (l.take (i+1))).1) rfl
  have e3 : (gK (dU N L (l.take i)).2.1 (dU N L (l.take i)).2.2 l[i]).2=(dU N L (l.take (i+1))).2:=by rw [hsn]
  show Ok _ (cZ _ _ _ (aX (gK (dU N L (l.take i)).2.1 (dU N L (l.take i)).2.2 l[i]).2.1) (aX (gK (dU N L (l.take i)).2.1 (dU N L (l.take i)).2.2 l[i]).2.2) (.lst ((dU N L (l.take i)).1.map bZ.pv++[(gK (dU N L (l.take i)).2.1 (dU N L (l.take i)).2.2 l[i]).1.pv])))
  rw [e2,e3]
  exact this
end
def aEs (L : List Int) (x : Int) : Int:=if x∈L then (L.idxOf x : Nat) else -1
def iE (H : Nat) (L : List Int) : List Int:=(List.range H).map fun (i : Nat)=>aEs L (i : Int)
def mvL (H : Nat) (L : List Int) : List Int:=(List.range H).map fun i=>aBR L i
theorem pM {H : Nat} {L : List Int} : (iE H L).length=H:=by simp [iE]
theorem aLk {H : Nat} {L : List Int} : (mvL H L).length=H:=by simp [mvL]
theorem aAu {H : Nat} {L : List Int} {x : Int} (h : 0≤x∧x<H) : qG (iE H L) x=aEs L x:=by
 obtain ⟨i,rfl⟩:=Int.eq_ofNat_of_zero_le h.1
 unfold qG iE
 rw [Int.toNat_natCast,List.getElem?_map,List.getElem?_range (by omega)];rfl
theorem aO3 {H : Nat} {L : List Int} {x : Int} (h : 0≤x∧x<H) : qG (mvL H L) x=aBR L x.toNat:=by
 obtain ⟨i,rfl⟩:=Int.eq_ofNat_of_zero_le h.1
 unfold qG mvL
 rw [Int.toNat_natCast,List.getElem?_map,List.getElem?_range (by omega)];rfl
theorem aNs {H : Nat} {L : List Int} {x : Int} (h : 0≤x∧x<H) (hx : x∉L) : (iE H L).set x.toNat L.length=iE H (L++[x]):=by
 obtain ⟨i,rfl⟩:=Int.eq_ofNat_of_zero_le h.1
 rw [Int.toNat_natCast]
 apply List.ext_getElem?
 intro j
 unfold iE
 rw [List.getElem?_set]
 by_cases hj : j<H
 ·rw [List.getElem?_map,List.getElem?_map,List.getElem?_range hj,List.length_map,List.length_range]
  simp only [Option.map_some]
  by_cases e : i=j
  ·subst e
   rw [if_pos rfl,if_pos hj]
   unfold aEs
   rw [if_pos (by simp),List.idxOf_append,if_neg hx]
   simp
  ·rw [if_neg e]
   unfold aEs
   by_cases hm : (j : Int)∈L
   ·rw [if_pos hm,if_pos (List.mem_append_left _ hm),List.idxOf_append,if_pos hm]
   ·rw [if_neg hm,if_neg]
    intro hq
    rcases List.mem_append.1 hq with hq | hq
    ·exact hm hq
    ·simp at hq;omega
 ·have : ¬ i=j:=by omega
  rw [if_neg this,List.getElem?_eq_none (by simp;omega),List.getElem?_eq_none (by simp;omega)]
theorem aJJ {H : Nat} {L : List Int} {v : bZ} (hv : aAt H v) : (gK (iE H L) L v).2=(iE H (iY L v),iY L v):=by
 unfold gK iY
 by_cases hk : v.k=4
 ·have h:=hv hk
  rw [if_neg (by omega),aAu h]
  by_cases hm : v.n∈L
  ·have : ¬ aEs L v.n<0:=by unfold aEs;rw [if_pos hm];omega
   rw [if_neg this,if_neg (fun h=>h.2 hm)]
  ·have : aEs L v.n<0:=by unfold aEs;rw [if_neg hm];decide
   rw [if_pos this,if_pos ⟨hk,hm⟩,aNs h hm]
 ·rw [if_pos hk,if_neg (fun h=>hk h.1)]
theorem aHp {H : Nat} : ∀ {l : List bZ} {L : List Int},oO H l→(dU (iE H L) L l).2=(iE H (jA L l),jA L l)
 | [],L,_=>rfl
 | v::r,L,h=>by
   have h1:=aJJ (L:=L) (h v List.mem_cons_self)
   simp only [dU]
   rw [h1]
   exact aHp (fun x hx=>h x (List.mem_cons_of_mem _ hx))
theorem aJK {H : Nat} {L Q : List Int} {v : bZ} (hv : aAt H v) : gK (mvL H L) Q v=(fU L v,mvL H L,Q):=by
 unfold gK fU
 by_cases hk : v.k=4
 ·have h:=hv hk
  rw [if_neg (by omega),aO3 h,if_pos hk,if_neg (by have:=aNq L v.n.toNat;omega)]
 ·rw [if_pos hk,if_neg hk]
theorem aHq {H : Nat} {L Q : List Int} : ∀ {l : List bZ},oO H l→dU (mvL H L) Q l=(l.map (fU L),mvL H L,Q)
 | [],_=>rfl
 | v::r,h=>by
   have h1:=aJK (L:=L) (Q:=Q) (h v List.mem_cons_self)
   simp only [dU]
   rw [h1]
   simp only [aHq (l:=r) (fun x hx=>h x (List.mem_cons_of_mem _ hx)),List.map_cons]
end
noncomputable section
open Go Go.IntWalk
attribute [local irreducible] bd PV.ite PV.guardFlat PV.guardOwn PV.whole PV.one PV.cell PV.sub PV.at_ PV.len PV.slen PV.chr PV.beq PV.peq PV.ceq PV.bin PV.neg PV.not PV.conv PV.cut PV.scut PV.cat PV.setAt PV.setCell PV.ncopy PV.copyIn PV.zeros PV.toStr PV.toBytes PV.deref PV.isPtr PV.comp PV.inb PV.off PV.imin PV.imax PV.sel PV.apply PV.isLst PV.isInt PV.ix PV.nilT
section
variable {P : R → Prop} {m : eJ} {v : fN}
structure aAv (v : fN) : Prop where
 h : v.hp.length≤120
 nf : v.fr.length≤24
 fl : ∀ f∈v.fr,f.loc.length≤100∧f.stk.length≤100∧oO v.hp.length f.loc∧oO v.hp.length f.stk
 hr : ∀ r∈v.hp,r.length≤100∧oO v.hp.length r
 vl : aAt v.hp.length v.val
theorem aIr {k : R→Option R} {H : Nat} {L : List Int} {l : List bZ} {x : PV} (hv : oO H l) (hl : l.length≤1000) (hL : L.length≤1000) (h : ∀ y : PV,Ok P (k [x,aX (iE H (jA L l)),aX (jA L l),y])) :
 Ok P (bd (cE (aU l) x (aX (iE H L)) (aX L)) k):=by
 refine aF (aHo (by rw [pM];exact hv) (by omega) (by omega)) (fun r hr=>?_)
 rw [hr,aHp hv]
 exact h _
theorem aIs {k : R→Option R} {H : Nat} {L Q : List Int} {l : List bZ} {x : PV} (hv : oO H l) (hl : l.length≤1000) (hL : Q.length≤1000) (h : Ok P (k [x,aX (mvL H L),aX Q,aU (l.map (fU L))])) :
 Ok P (bd (cE (aU l) x (aX (mvL H L)) (aX Q)) k):=by
 refine aF (aHo (by rw [aLk];exact hv) (by omega) (by omega)) (fun r hr=>?_)
 rw [hr,aHq hv]
 exact h
abbrev fr0 (v : fN) : PV:=.lst (v.fr.map bT.pv)
abbrev hp0 (v : fN) : PV:=.lst (v.hp.map aL)
abbrev aDs (v : fN) : PV:=.lst (v.out.map PV.str)
theorem aHr (g : aAv v) {i : Int} (h : 0≤i∧i<v.hp.length) : ∃ j : Nat,∃ hj : j<v.hp.length,i=j∧oN v.hp i=v.hp[j]∧v.hp[j].length≤100∧oO v.hp.length v.hp[j]:=by
 obtain ⟨j,rfl⟩:=Int.eq_ofNat_of_zero_le h.1
 have hj : j<v.hp.length:=by omega
 obtain ⟨h1,h2⟩:=g.hr _ (List.getElem_mem hj)
 exact ⟨j,hj,rfl,by unfold oN;rw [Int.toNat_natCast,List.getElem?_eq_getElem hj];rfl,h1,h2⟩
theorem aNt (g : aAv v) {L Q : List Int} (hQ : Q.length≤1000) {a3 a4 a5 a6 a10 a11 a12 a13 a14 a15 a16 a17 a18 a19 a20 a21 a22 a23 a24 a25 a26 a27 a28 a32 a33 : PV} :
 Ok (fun r=>r = [a19,a20,a21,.int .i64 (fU L v.val).k,.int .i64 (fU L v.val).n,.str (fU L v.val).s,a25,.lst ((v.fr.map (vP L)).map bT.pv),a32,a33])
  (iQ (.int .i64 0) (fr0 v) (hp0 v) a3 a4 a5 a6 (.int .i64 v.val.k) (.int .i64 v.val.n) (.str v.val.s) a10 a11 a12 a13 a14 a15 a16 a17 a18 a19 a20 a21 a22 a23 a24 a25 a26 a27 a28 (aX (mvL v.hp.length L)) (aX Q) (.lst (v.fr.map bT.pv)) a32 a33):=by
 have nf:=g.nf
 have key:=cT (n:=v.fr.length) (P:=fun _ r=>r = [a19,a20,a21,.int .i64 (fU L v.val).k,.int .i64 (fU L v.val).n,.str (fU L v.val).s,a25,.lst ((v.fr.map (vP L)).map bT.pv),a32,a33]) (F:=fun i=>iQ (.int .i64 i) (fr0 v) (hp0 v) a3 a4 a5 a6 (.int .i64 v.val.k) (.int .i64 v.val.n) (.str v.val.s) a10 a11 a12 a13 a14 a15 a16 a17 a18 a19 a20 a21 a22 a23 a24 a25 a26 a27 a28 (aX (mvL v.hp.length L)) (aX Q) (.lst (((v.fr.take i).map (vP L)).map bT.pv++(v.fr.drop i).map bT.pv)) a32 a33) ?_ (fun i hi ih=>?_) 0 (by omega)
 ·simpa using key
 ·rw [rB]
  refine aD (aE (aC (fun h=>by omega) (fun _=>?_)))
  refine aF (aGa (by rw [aLk];exact g.vl) (by omega)) (fun r hr=>?_)
  subst hr
  rw [aJK g.vl]
  refine aH rfl (aA rfl (aA rfl (aA rfl (aB ?_))))
  simp
 ·rw [rB]
  obtain ⟨f1,f2,f3,f4⟩:=g.fl _ (List.getElem_mem hi)
  refine aD (aE (aC (fun _=>?_) (fun h=>by omega)))
  refine aN hi (fun _=>rfl) (aA (y:=aU v.fr[i].loc) rfl (aIs f3 (by omega) hQ ?_))
  rw [List.drop_eq_getElem_cons hi,List.map_cons]
  have hlen : ((i : Nat) : Int)=(((v.fr.take i).map (vP L)).map bT.pv).length:=by simp;omega
  refine bF hlen (aR (off:=2) hlen rfl (by decide) rfl ?_)
  refine aN hi (fun _=>rfl) (aA (y:=aU v.fr[i].stk) rfl (aIs f4 (by omega) hQ ?_))
  refine bF hlen (aR (off:=3) hlen rfl (by decide) rfl (aI (by omega) ?_))
  have e : ((v.fr.take (i+1)).map (vP L)).map bT.pv=((v.fr.take i).map (vP L)).map bT.pv++[(vP L v.fr[i]).pv]:=by
   rw [List.take_add_one,List.getElem?_eq_getElem hi,List.map_append,List.map_append];rfl
  rw [e,List.append_assoc] at ih
  exact ih
theorem aNu (g : aAv v) {L Q Q2 : List Int} (hQ : Q.length≤1000) {a3 a4 a5 a6 a10 a11 a12 a13 a14 a15 a16 a17 a18 a19 a20 a21 a22 a23 a24 a25 a26 a27 a28 a29 a36 : PV} :
 Ok (fun r=>r = [a20,a21,a22,.int .i64 (fU L v.val).k,.int .i64 (fU L v.val).n,.str (fU L v.val).s,a26,.lst ((v.fr.map (vP L)).map bT.pv),.lst (((fK v.hp.length L).map fun i=>(v.hp[i]?.getD []).map (fU L)).map aL),a36])
  (fZ (.int .i64 0) (fr0 v) (hp0 v) a3 a4 a5 a6 (.int .i64 v.val.k) (.int .i64 v.val.n) (.str v.val.s) a10 a11 a12 a13 a14 a15 a16 a17 a18 a19 a20 a21 a22 a23 a24 a25 a26 a27 a28 a29 (aX (iE v.hp.length L)) (aX Q2) (aX (mvL v.hp.length L)) (aX Q) (.lst (v.fr.map bT.pv)) (.lst []) a36):=by
 have nh:=g.h
 have key:=cT (n:=v.hp.length) (P:=fun _ r=>r = [a20,a21,a22,.int .i64 (fU L v.val).k,.int .i64 (fU L v.val).n,.str (fU L v.val).s,a26,.lst ((v.fr.map (vP L)).map bT.pv),.lst (((fK v.hp.length L).map fun i=>(v.hp[i]?.getD []).map (fU L)).map aL),a36])
  (F:=fun i=>fZ (.int .i64 i) (fr0 v) (hp0 v) a3 a4 a5 a6 (.int .i64 v.val.k) (.int .i64 v.val.n) (.str v.val.s) a10 a11 a12 a13 a14 a15 a16 a17 a18 a19 a20 a21 a22 a23 a24 a25 a26 a27 a28 a29 (aX (iE v.hp.length L)) (aX Q2) (aX (mvL v.hp.length L)) (aX Q) (.lst (v.fr.map bT.pv)) (.lst (((fK i L).map fun i=>(v.hp[i]?.getD []).map (fU L)).map aL)) a36) ?_ (fun i hi ih=>?_) 0 (by omega)
 ·exact key
 ·rw [rA]
  exact aD (aE (aC (fun h=>by omega) (fun _=>aNt g hQ)))
 ·rw [rA]
  obtain ⟨h1,h2⟩:=g.hr _ (List.getElem_mem hi)
  refine aD (aE (aC (fun _=>?_) (fun h=>by omega)))
  refine cX (by omega) (by rw [pM];omega) (hJ (by omega) (by rw [pM];omega) (fun z hz=>sQ (aC (fun hge=>?_) (fun hge=>?_))))
  ·have hm : (i : Int)∈L:=by
    have e : qG (iE v.hp.length L) i=z:=by unfold qG;rw [hz];rfl
    rw [aAu (by omega)] at e
    unfold aEs at e
    by_cases h : (i : Int)∈L
    ·exact h
    ·rw [if_neg h] at e;omega
   refine aN hi (fun _=>rfl) (aA (y:=aU v.hp[i]) rfl (aIs h2 (by omega) hQ ?_))
   have hk:=(List.length_filter_le (fun (j : Nat)=>decide ((j : Int)∈L)) (List.range i))
   rw [List.length_range] at hk
   refine nT (by simp [fK];omega) (fun x hx=>by simp at hx;subst hx;rfl) (aI (by omega) ?_)
   rw [xS,if_pos hm] at ih
   simp only [List.map_append,List.map_cons,List.map_nil,List.getElem?_eq_getElem hi,Option.getD_some] at ih
   exact ih
  ·have hm : ¬ (i : Int)∈L:=by
    have e : qG (iE v.hp.length L) i=z:=by unfold qG;rw [hz];rfl
    rw [aAu (by omega)] at e
    unfold aEs at e
    intro h
    rw [if_pos h] at e;omega
   rw [xS,if_neg hm,List.append_nil] at ih
   exact aI (by omega) ih
theorem aJL (g : aAv v) (z : Sz v) {L Q Q2 : List Int} (hQ : Q.length≤1000) {a12 a13 a14 a15 a16 a17 a18 a19 a20 a21 a22 a23 : PV} :
 Ok (fun r=>r=dY (aJG v L))
  (fY (.int .i64 0) (.int .i64 0) (fr0 v) (hp0 v) (.int .i64 v.made) (aDs v) (.int .i64 v.st) (.int .i64 v.tr) (.int .i64 v.val.k) (.int .i64 v.val.n) (.str v.val.s) (.int .i64 v.steps) a12 a13 a14 a15 a16 a17 a18 a19 a20 a21 a22 a23 (aX (iE v.hp.length L)) (aX Q2) (.lst []) (aX Q)):=by
 have nh:=g.h
 have key:=cT (n:=v.hp.length) (P:=fun _ r=>r=dY (aJG v L))
  (F:=fun i=>fY (.int .i64 (aBR L i)) (.int .i64 i) (fr0 v) (hp0 v) (.int .i64 v.made) (aDs v) (.int .i64 v.st) (.int .i64 v.tr) (.int .i64 v.val.k) (.int .i64 v.val.n) (.str v.val.s) (.int .i64 v.steps) a12 a13 a14 a15 a16 a17 a18 a19 a20 a21 a22 a23 (aX (iE v.hp.length L)) (aX Q2) (aX (mvL i L)) (aX Q)) ?_ (fun i hi ih=>?_) 0 (by omega)
 ·exact key
 ·rw [qZ]
  refine aD (aE (aC (fun h=>by omega) (fun _=>?_)))
  exact aNX z (jV (aNu g hQ))
 ·rw [qZ]
  have hrk:=aNq L i
  have emv : mvL (i+1) L=mvL i L++[aBR L i]:=by unfold mvL;rw [List.range_succ];simp
  have hs:=aNp L i
  refine aD (aE (aC (fun _=>?_) (fun h=>by omega)))
  refine dT (l:=[]) (ys:=[aBR L i]) (by simp) (dT (ys:=[aBR L i]) (by simp [mvL];omega) ?_)
  rw [← emv]
  refine cX (by omega) (by rw [pM];omega) (hJ (by omega) (by rw [pM];omega) (fun z hz=>sQ (aC (fun hge=>?_) (fun hge=>?_))))
  ·have hm : (i : Int)∈L:=by
    have e : qG (iE v.hp.length L) i=z:=by unfold qG;rw [hz];rfl
    rw [aAu (by omega)] at e
    unfold aEs at e
    by_cases h : (i : Int)∈L
    ·exact h
    ·rw [if_neg h] at e;omega
   rw [if_pos hm] at hs
   rw [hs] at ih
   exact aI (by omega) (aI (by omega) ih)
  ·have hm : ¬ (i : Int)∈L:=by
    have e : qG (iE v.hp.length L) i=z:=by unfold qG;rw [hz];rfl
    rw [aAu (by omega)] at e
    unfold aEs at e
    intro h
    rw [if_pos h] at e;omega
   rw [if_neg hm,Int.add_zero] at hs
   rw [hs] at ih
   exact aI (by omega) ih
theorem aJM (g : aAv v) (z : Sz v) {a11 a12 a13 a14 a15 a16 a17 a18 a19 a20 a21 : PV} : ∀ (d i : Nat) (L : List Int),yP v.hp.length L→v.hp.length≤i+d→
 Ok (fun r=>r=dY (aJG v (kT v.hp d i L)))
  (lD (.int .i64 i) (fr0 v) (hp0 v) (.int .i64 v.made) (aDs v) (.int .i64 v.st) (.int .i64 v.tr) (.int .i64 v.val.k) (.int .i64 v.val.n) (.str v.val.s) (.int .i64 v.steps) a11 a12 a13 a14 a15 a16 a17 a18 a19 a20 a21 (aX (iE v.hp.length L)) (aX L))
 | 0,i,L,hL,hd=>by
   have h1:=hL.len
   have h2:=g.h
   rw [qY]
   exact cB (aE (aC (fun h=>by omega) (fun _=>aJL g z (Q:=[]) (by simp))))
 | d+1,i,L,hL,hd=>by
   have h1:=hL.len
   have h2:=g.h
   rw [qY]
   refine cB (aE (aC (fun h=>?_) (fun h=>?_)))
   ·have hi : i<L.length:=by omega
    have hx:=hL.lt _ (List.getElem_mem hi)
    obtain ⟨j,hj,he,hf,f1,f2⟩:=aHr g hx
    have er : kT v.hp (d+1) i L=kT v.hp d (i+1) (jA L v.hp[j]):=by
     show (if i<L.length then _ else _)=_
     rw [if_pos hi,List.getElem?_eq_getElem hi,Option.getD_some,hf]
    rw [er]
    refine cX (by omega) (by omega) (cJ hi ?_)
    rw [he]
    refine aN hj (fun _=>rfl) (aA (y:=aU v.hp[j]) rfl (aIr f2 (by omega) (by omega) (fun y=>aI (by omega) ?_)))
    exact aJM g z d (i+1) (jA L v.hp[j]) (kU hL f2) (by omega)
   ·have er : kT v.hp (d+1) i L=L:=by
     show (if i<L.length then _ else _)=_
     rw [if_neg (by omega)]
    rw [er]
    exact aJL g z (Q:=[]) (by simp)
theorem aOf (g : aAv v) (z : Sz v) {a11 a12 a13 a14 a15 a16 a17 a18 a19 a20 a21 : PV} :
 Ok (fun r=>r=dY (yI v)) (jQ (.int .i64 0) (fr0 v) (hp0 v) (.int .i64 v.made) (aDs v) (.int .i64 v.st) (.int .i64 v.tr) (.int .i64 v.val.k) (.int .i64 v.val.n) (.str v.val.s) (.int .i64 v.steps) a11 a12 a13 a14 a15 a16 a17 a18 a19 a20 a21 (aX (iE v.hp.length [])) (aX [])):=by
 have nf:=g.nf
 have nh:=g.h
 refine xK (n:=v.fr.length) (σ:=List Int) (F:=fun i L=>jQ (.int .i64 i) (fr0 v) (hp0 v) (.int .i64 v.made) (aDs v) (.int .i64 v.st) (.int .i64 v.tr) (.int .i64 v.val.k) (.int .i64 v.val.n) (.str v.val.s) (.int .i64 v.steps) a11 a12 a13 a14 a15 a16 a17 a18 a19 a20 a21 (aX (iE v.hp.length L)) (aX L)) (fun i L=>L=(v.fr.take i).foldl aCz []∧yP v.hp.length L) ?_ ?_ 0 [] (by omega) ⟨rfl,⟨List.nodup_nil,(fun x h=>by cases h)⟩⟩
 ·rintro L ⟨rfl,hL⟩
  rw [List.take_length] at hL ⊢
  rw [sY]
  refine aD (aE (aC (fun h=>by omega) (fun _=>?_)))
  have hlen:=hL.len
  refine aF (aGa (by rw [pM];exact g.vl) (by omega)) (fun r hr=>?_)
  subst hr
  have e:=aJJ (L:=v.fr.foldl aCz []) g.vl
  rw [e]
  exact aJM g z v.hp.length 0 (aIp v) (aCA hL g.vl) (by omega)
 ·rintro i L hi ⟨rfl,hL⟩ ih
  rw [sY]
  obtain ⟨f1,f2,f3,f4⟩:=g.fl _ (List.getElem_mem hi)
  have hlen:=hL.len
  have hL2:=kU hL f3
  have hlen2:=hL2.len
  refine aD (aE (aC (fun _=>?_) (fun h=>by omega)))
  refine aN hi (fun _=>rfl) (aA (y:=aU v.fr[i].loc) rfl (aIr f3 (by omega) (by omega) (fun y=>?_)))
  refine aN hi (fun _=>rfl) (aA (y:=aU v.fr[i].stk) rfl (aIr f4 (by omega) (by omega) (fun y=>aI (by omega) ?_)))
  refine ih _ ⟨?_,kU hL2 f4⟩
  rw [List.take_add_one,List.getElem?_eq_getElem hi,List.foldl_append];rfl
end
theorem aIt {m : eJ} {n : Nat} {l : List bZ} (h : ∀ y∈l,iZ m n y) : oO n l:=fun y hy=>aLi (h y hy)
theorem aIu {m : eJ} (g : fC m) {v : fN} (h : VmI m v) : ∀ f∈v.fr,FrI m v.hp.length f∧f.loc.length≤100∧f.stk.length≤100:=fun f hf=>by
 rcases List.eq_nil_or_concat v.fr with h0 | ⟨fs0,f0,h0⟩
 ·rw [h0] at hf;cases hf
 ·obtain ⟨t,l⟩:=h.top fs0 f0 (by rw [h0];simp)
  rw [h0] at hf
  simp only [List.concat_eq_append,List.mem_append,List.mem_singleton] at hf
  rcases hf with hf | rfl
  ·have i:=(l f hf).toFrI
   have:=i.small g
   have:=i.dle g
   have:=(l f hf).h
   exact ⟨i,by omega,by omega⟩
  ·have:=t.toFrI.small g
   have:=t.toFrI.dle g
   have:=t.h
   exact ⟨t.toFrI,by omega,by omega⟩
theorem aLm {m : eJ} {v : fN} (g : fC m) (k : VmK m v) : aAv v:=by
 have hm:=k.hp.made
 refine ⟨by omega,k.nfr,fun f hf=>?_,fun r hr=>?_,aLi k.vok⟩
 ·obtain ⟨I,s1,s2⟩:=aIu g k.toVmI f hf
  exact ⟨s1,s2,aIt I.vl,aIt I.vs⟩
 ·obtain ⟨h1,h2⟩:=k.hp.recs r hr
  exact ⟨by omega,aIt h2⟩
open Classical in
def aAw (m : eJ) (v : fN) : fN:=if aGL m v then yI v else vmZ
theorem aNv {v : fN} (z : Sz v) (L : List Int) : Sz (aJG v L):=by
 refine ⟨?_,?_,z.o,fun f hf=>?_,fun r hr=>?_⟩
 ·show (v.fr.map (vP L)).length≤1000
  rw [List.length_map];exact z.f
 ·show (((fK v.hp.length L).map _)).length≤1000
  rw [List.length_map]
  have:=List.length_filter_le (fun (j : Nat)=>decide ((j : Int)∈L)) (List.range v.hp.length)
  rw [List.length_range] at this
  have:=z.h
  unfold fK;omega
 ·obtain ⟨a,ha,rfl⟩:=List.mem_map.1 (show f∈v.fr.map (vP L) from hf)
  have:=z.fl a ha
  show (a.loc.map _).length≤1000∧(a.stk.map _).length≤1000
  rw [List.length_map,List.length_map];exact this
 ·obtain ⟨i,hi,rfl⟩:=List.mem_map.1 (show r∈(fK v.hp.length L).map (fun i=>(v.hp[i]?.getD []).map (fU L)) from hr)
  rw [List.length_map,List.getElem?_eq_getElem (sF.1 hi).1]
  exact z.hl _ (List.getElem_mem _)
theorem aMo (m : eJ) (v : fN) : (aAw m v).few:=by
 unfold aAw
 split
 ·rename_i h
  exact (aNv (h.2.toVmI.sz h.1) _).few
 ·exact ⟨by simp [vmZ],by simp [vmZ],by simp [vmZ],by simp [vmZ],by simp [vmZ]⟩
section
variable {P : R → Prop} {m : eJ}
theorem aOg {v : fN} (g : aAv v) (z : Sz v) {a11 a12 a13 a14 a15 a16 a17 a18 a19 a20 a21 : PV} :
 Ok (fun r=>r=dY (yI v)) (jP (.int .i64 0) (fr0 v) (hp0 v) (.int .i64 v.made) (aDs v) (.int .i64 v.st) (.int .i64 v.tr) (.int .i64 v.val.k) (.int .i64 v.val.n) (.str v.val.s) (.int .i64 v.steps) a11 a12 a13 a14 a15 a16 a17 a18 a19 a20 a21 (.lst []) (.lst [])):=by
 have nh:=g.h
 refine cT (n:=v.hp.length) (P:=fun _ r=>r=dY (yI v)) (F:=fun i=>jP (.int .i64 i) (fr0 v) (hp0 v) (.int .i64 v.made) (aDs v) (.int .i64 v.st) (.int .i64 v.tr) (.int .i64 v.val.k) (.int .i64 v.val.n) (.str v.val.s) (.int .i64 v.steps) a11 a12 a13 a14 a15 a16 a17 a18 a19 a20 a21 (aX (iE i [])) (aX [])) ?_ (fun i hi ih=>?_) 0 (by omega)
 ·rw [sX]
  exact aD (aE (aC (fun h=>by omega) (fun _=>aOf g z)))
 ·rw [sX]
  have e : iE (i+1) []=iE i []++[-1]:=by
   unfold iE
   rw [List.range_succ,List.map_append];rfl
  refine aD (aE (aC (fun _=>dT (ys:=[-1]) (by rw [pM];simp;omega) (aI (by omega) ?_)) (fun h=>by omega)))
  rw [← e]
  exact ih
open Classical in
theorem aGM (hs : m.sized) {v : fN} (h : v.fine) : Ok (fun r=>r=dY (aAw m v)) (rR m.pv v.pv):=by
 rw [aEd]
 refine aH rfl (aA rfl (aA rfl ?_))
 refine aH rfl (aA rfl (aA rfl (aA rfl (aA rfl (aA rfl (aA rfl (aA rfl (aA rfl (aA rfl (aA rfl (?_)))))))))))
 refine aF (aJB hs h) (fun r hr=>?_)
 rw [hr]
 refine bC ?_
 by_cases hk : aGL m v
 ·rw [decide_eq_true hk]
  have e : aAw m v=yI v:=if_pos hk
  rw [e]
  exact aQ (bR rfl (aOg (aLm hk.1 hk.2) (hk.2.toVmI.sz hk.1)))
 ·rw [decide_eq_false hk]
  have e : aAw m v=vmZ:=if_neg hk
  rw [e]
  exact bG (aB rfl)
end
end
end Go.Proofs.YthkofpnllaapeaaGreat
