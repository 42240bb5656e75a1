/-
  Texts of the proof, part 6: a value-level evaluator and its soundness, what the functions compute, laws about it.
  Conditions: none.
-/
import Derived.Test.YtllmobkkbpdchaaGreatE
import Derived.WalkKit
import Derived.ProofKit
import Derived.OpenShut
import Derived.ShutString
import Derived.ChangeOld
import Derived.ChangeArms
import Derived.DataReads
set_option linter.all false
namespace Go.Proofs.YtllmobkkbpdchaaGreat
noncomputable section
open Go Go.IntWalk
attribute [local irreducible] bd PV.ite PV.guardFlat PV.guardOwn PV.whole PV.one PV.cell PV.sub PV.at_ PV.len PV.slen PV.chr PV.beq PV.peq PV.ceq PV.bin PV.neg PV.not PV.conv PV.cut PV.scut PV.cat PV.setAt PV.setCell PV.ncopy PV.copyIn PV.zeros PV.toStr PV.toBytes PV.deref PV.isPtr PV.comp PV.inb PV.off PV.imin PV.imax PV.sel PV.apply PV.isLst PV.isInt PV.ix PV.nilT
structure uC where
 fr : List eU
 hp : List (List eL)
 made : Int
 out : List ByteArray
 st : Int
 tr : Int
 val : eL
 steps : Int
def uC.pv (v : uC) : PV:=.agg [.lst (v.fr.map eU.pv),.lst (v.hp.map jE),.I v.made,.lst (v.out.map PV.str),.I v.st,.I v.tr,.I v.val.k,.I v.val.n,.str v.val.s,.I v.steps]
def oO (v : uC) : R:=[.I v.made,.I v.st,.I v.tr,.I v.val.k,.I v.val.n,.str v.val.s,.I v.steps,.lst (v.fr.map eU.pv),.lst (v.hp.map jE),.lst (v.out.map PV.str)]
structure Sz (v : uC) : Prop where
 f : v.fr.length≤1000
 h : v.hp.length≤1000
 o : v.out.length≤1000
 fl : ∀ f∈v.fr,f.loc.length≤1000∧f.stk.length≤1000
 hl : ∀ r∈v.hp,r.length≤1000
theorem aCK (l : List eL) : PV.flatEs true [] (l.map eL.pv)=true:=by
 induction l with
 | nil=>simp [PV.flatEs]
 | cons x r ih=>simp [PV.flatEs,PV.flatE,PV.flatCs,PV.flat,eL.pv,ih]
theorem aE2 (l : List eL) : PV.flatO (.own 3 32 true []) (bD l)=true:=aCK l
theorem aDd (l : List eU) : PV.flatO (.own 4 64 true [.leaf,.leaf,(.own 3 32 true []),(.own 3 32 true [])]) (.lst (l.map eU.pv))=true:=by
 show PV.flatEs true _ (l.map eU.pv)=true
 induction l with
 | nil=>simp [PV.flatEs]
 | cons x r ih=>
   simp only [List.map_cons,PV.flatEs,Bool.and_eq_true]
   refine ⟨?_,ih⟩
   simp [eU.pv,PV.flatE,PV.flatCs,PV.flat,bD,aCK]
theorem aCL (l : List (List eL)) : PV.flatO (.own 1 24 true [(.own 3 32 true [])]) (.lst (l.map jE))=true:=by
 show PV.flatEs true _ (l.map jE)=true
 induction l with
 | nil=>simp [PV.flatEs]
 | cons x r ih=>
   simp only [List.map_cons,PV.flatEs,Bool.and_eq_true]
   refine ⟨?_,ih⟩
   simp [jE,PV.flatE,PV.flatCs,bD,aCK]
theorem aGl (l : List ByteArray) : PV.flatO (.own 1 16 false []) (.lst (l.map PV.str))=true:=by
 show PV.flatEs false [] (l.map PV.str)=true
 induction l with
 | nil=>simp [PV.flatEs]
 | cons x r ih=>simp [PV.flatEs,PV.flatE,PV.flat,ih]
theorem aMO {l : List ByteArray} : ∀ x∈l.map PV.str,x.isEl 1 false=true:=by
 intro x hx
 obtain ⟨a,_,rfl⟩:=List.mem_map.1 hx
 rfl
theorem aFT {hp : List (List eL)} (h : hp.length≤1000) (hl : ∀ r∈hp,r.length≤1000) : Ok (λr=>r = [.lst (hp.map jE)]) (oZ (.lst (hp.map jE))):=by
 rw [aAd]
 refine lH (n:=hp.length) (P:=λ_ r=>r = [.lst (hp.map jE)]) (F:=λi=>iR (.lst (hp.map jE)) (.I i) (.lst ((hp.take i).map jE))) ?_ ?_ 0 (by omega)
 ·rw [oE]
  refine aF (aJ (aC (λh=>by omega) (λ_=>aB ?_)))
  rw [List.take_length]
 ·intro i hi ih
  rw [oE]
  have:=hl _ (List.getElem_mem hi)
  refine aF (aJ (aC (λ_=>?_) (λh=>by omega)))
  refine aQ hi (λ_=>rfl) (aA rfl (hJ (by rw [List.length_map];omega) pM ?_))
  refine jI (by simp;omega) (λx hx=>by simp only [List.mem_singleton] at hx;subst hx;rfl) (aP (by omega) ?_)
  have e : (hp.take i).map jE++[PV.agg [.lst (hp[i].map eL.pv)]]=(hp.take (i+1)).map jE:=by
   rw [List.take_add_one,List.getElem?_eq_getElem hi,List.map_append];rfl
  rw [e]
  exact ih
theorem aE3 {f : eU} (h : f.loc.length≤1000∧f.stk.length≤1000) : Ok (λr=>r = [.I f.f,.I f.pc,bD f.loc,bD f.stk]) (oB f.pv):=by
 rw [yQ]
 refine aE rfl (aA rfl (aA rfl (aA rfl (aA rfl ?_))))
 exact hJ (by rw [List.length_map];omega) pM (hJ (by rw [List.length_map];omega) pM (aB rfl))
theorem aK0 {v : uC} (z : Sz v) : Ok (λr=>r=oO v) (jM v.pv):=by
 obtain ⟨zf,zh,zo,zfl,zhl⟩:=z
 rw [aDC]
 refine aE rfl (aA rfl (aA rfl (aA rfl (aA rfl (aA rfl (aA rfl (aA rfl (aA rfl (aA rfl (aA rfl ?_))))))))))
 refine lH (n:=v.fr.length) (P:=λ_ r=>r=oO v) (F:=λi=>mU (.I i) (.lst (v.fr.map eU.pv)) (.lst (v.hp.map jE)) (.I v.made) (.lst (v.out.map PV.str)) (.I v.st) (.I v.tr) (.I v.val.k) (.I v.val.n) (.str v.val.s) (.I v.steps) (.I 0) (.I 0) (.I 0) (.I 0) (.I 0) (.str (bs [])) (.I 0) (.lst []) (.lst []) (.lst []) (.lst ((v.fr.take i).map eU.pv))) ?_ ?_ 0 (by omega)
 ·rw [sC]
  refine aF (aJ (aC (λh=>by omega) (λ_=>?_)))
  refine aI (aFT zh zhl) (λr hr=>?_)
  subst hr
  refine gI (aCL _) (hJ (by rw [List.length_map];omega) aMO (aB ?_))
  rw [List.take_length]
  rfl
 ·intro i hi ih
  rw [sC]
  refine aF (aJ (aC (λ_=>?_) (λh=>by omega)))
  refine aQ hi (λ_=>rfl) (aI (aE3 (zfl _ (List.getElem_mem hi))) (λr hr=>?_))
  subst hr
  refine dG rfl (dG rfl (gI (aE2 _) (gI (aE2 _) ?_)))
  refine jI (by simp;omega) (λx hx=>by simp only [List.mem_singleton] at hx;subst hx;rfl) (aP (by omega) ?_)
  have e : (v.fr.take i).map eU.pv++[PV.agg [.I v.fr[i].f,.I v.fr[i].pc,bD v.fr[i].loc,bD v.fr[i].stk]]=(v.fr.take (i+1)).map eU.pv:=by
   rw [List.take_add_one,List.getElem?_eq_getElem hi,List.map_append];rfl
  exact e▸ih
theorem aDO {P : R→Prop} {k : R→OR} {v : uC} (z : Sz v) (h : Ok P (k (oO v))) : Ok P (bd (jM v.pv) k):=aI (aK0 z) (λr hr=>by rw [hr];exact h)
theorem uU {P : R→Prop} {v : uC} {o : OR} (h : Ok P o) :
 Ok P (PV.guardFlat (gd (oO v) 0) (PV.guardFlat (gd (oO v) 1) (PV.guardFlat (gd (oO v) 2) (PV.guardFlat (gd (oO v) 3) (PV.guardFlat (gd (oO v) 4) (PV.guardFlat (gd (oO v) 5) (PV.guardFlat (gd (oO v) 6)
  (PV.guardOwn (.own 4 64 true [.leaf,.leaf,(.own 3 32 true []),(.own 3 32 true [])]) (gd (oO v) 7) (PV.guardOwn (.own 1 24 true [(.own 3 32 true [])]) (gd (oO v) 8) (PV.guardOwn (.own 1 16 false []) (gd (oO v) 9) o)))))))))):=
 dG rfl (dG rfl (dG rfl (dG rfl (dG rfl (dG rfl (dG rfl (gI (aDd _) (gI (aCL _) (gI (aGl _) h)))))))))
def dB (fs : List cZ) (i : Int) : List bP:=(fs[i.toNat]?.map cZ.code).getD []
def lN (fs : List cZ) (f : eU) : bP:=(dB fs f.f)[f.pc.toNat]?.getD ⟨0,0⟩
def aIh (_m : dT) (v : uC) (fs0 : List eU) : aJo→uC
 | .trap c=>⟨v.fr,v.hp,v.made,v.out,2,c,v.val,v.steps+1⟩
 | .next fr hp made out=>⟨fs0++[fr],hp,made,out,v.st,v.tr,v.val,v.steps+1⟩
 | .call fr g=>⟨fs0++[fr,g],v.hp,v.made,v.out,v.st,v.tr,v.val,v.steps+1⟩
 | .ret a=>if fs0 = [] then ⟨[],v.hp,v.made,v.out,1,v.tr,a,v.steps+1⟩ else ⟨aE1 a fs0,v.hp,v.made,v.out,v.st,v.tr,v.val,v.steps+1⟩
def aE4 (m : dT) (v : uC) (fs0 : List eU) (f : eU) : aJo:=
 let x:=lN m.funcs f
 let b:=f.stk.length - (bL m.funcs x).1.toNat
 oJ m ⟨f.f,f.pc+1,f.loc,f.stk.take b⟩ (f.stk.drop b) (fs0.length+1) v.hp v.made v.out x
def uV (m : dT) (v : uC) : uC:=
 if v.st≠0 then v else if v.steps=50000 then v
 else match v.fr.getLast? with
 | none=>v
 | some f=>aIh m v v.fr.dropLast (aE4 m v v.fr.dropLast f)
theorem aGm {m : dT} {v : uC} {fs0 : List eU} {f : eU} (h1 : v.st=0) (h2 : v.steps≠50000) (h3 : v.fr=fs0++[f]) : uV m v=aIh m v fs0 (aE4 m v fs0 f):=by
 unfold uV
 rw [if_neg (by omega),if_neg h2,h3]
 simp
structure aNi (m : dT) (v : uC) (fs0 : List eU) (f : eU) : Prop where
 fr : v.fr=fs0++[f]
 fi : 0≤f.f∧f.f<m.funcs.length
 pc : 0≤f.pc∧f.pc<(dB m.funcs f.f).length
 nc : (dB m.funcs f.f).length≤120
 ins : bW m.texts.length m.funcs.length f.loc.length (dB m.funcs f.f).length (lN m.funcs f).o (lN m.funcs f).a=true
 us : 0≤(bL m.funcs (lN m.funcs f)).1∧(bL m.funcs (lN m.funcs f)).1≤f.stk.length
 small : ∀ b,aNh m fs0 ⟨f.f,f.pc+1,f.loc,f.stk.take b⟩ (f.stk.drop b) v.hp v.made v.out
end
noncomputable section
open Go
attribute [local irreducible] bd PV.ite PV.guardFlat PV.guardOwn PV.whole PV.one PV.cell PV.sub PV.at_ PV.len PV.slen PV.chr PV.beq PV.peq PV.ceq PV.bin PV.neg PV.not PV.conv PV.cut PV.scut PV.cat PV.setAt PV.setCell PV.ncopy PV.copyIn PV.zeros PV.toStr PV.toBytes PV.deref PV.isPtr PV.comp PV.inb PV.off PV.imin PV.imax PV.sel PV.apply PV.isLst PV.isInt PV.ix PV.nilT
def aB2 (fs : List cZ) (code : List bP) (d : List Int) (pc : Nat) : Option Int:=
 match code[pc]? with
 | none=>none
 | some x=>
   if d[pc]?.getD 0<0 then none
   else if can fs x (d[pc]?.getD 0)=false then some 2
   else if (fP x pc).any (λt=>decide ((code.length : Int)≤t))=true then some 3
   else if (fP x pc).any (λt=>!decide (d[t.toNat]?.getD 0=gU fs x (d[pc]?.getD 0)))=true then some 4
   else none
def aAu (fs : List cZ) (code : List bP) (f pc : Nat) : Option (Int × Nat × Nat):=(aB2 fs code (pC fs code) pc).map λc=>(c,f,pc)
def aGn (fs : List cZ) (f : Nat) : Option (Int × Nat × Nat):=match fs[f]? with
 | some x=>(List.range' 0 x.code.length).findSome? (aAu fs x.code f)
 | none=>none
def bad (fs : List cZ) : Option (Int × Nat × Nat):=(List.range' 0 fs.length).findSome? (aGn fs)
def aJq : Option (Int × Nat × Nat)→PV
 | some (c,f,pc)=>.agg [.I c,.I f,.I pc]
 | none=>.agg [.I 0,.I 0,.I 0]
def dT.verify (m : dT) : PV:=if m.okB then aJq (bad m.funcs) else .agg [.I 1,.I 0,.I 0]
theorem aDP {n : Nat} {F : Nat→OR} {P : R→Prop} (I : NP) (he : I n→Ok P (F n)) (hs : ∀ i,i<n→I i→(I (i+1)→Ok P (F (i+1)))→Ok P (F i)) (h0 : I 0) : Ok P (F 0):=
 sE (σ:=Unit) (F:=λi _=>F i) (λi _=>I i) (λ_ h=>he h) (λi _ hi hI ih=>hs i hi hI (λh=>ih () h)) 0 () (by omega) h0
theorem aB3 {α : Type} {xs : List α} {i : Nat} (hi : i<xs.length) (p : α→Bool) : (xs.drop i).any p=(p xs[i]||(xs.drop (i+1)).any p):=by
 rw [List.drop_eq_getElem_cons hi,List.any_cons]
section
variable {fs : List cZ} {code : List bP} {T x3 x4 x5 : PV} (F : Fit fs code) {f : Nat} (hf : f < fs.length)
include F hf
theorem aJr {P : R→Prop} {pc : Nat} (hpc : pc<code.length) {d : List Int} (hd : d.length=code.length) {left : Int} {ts : List Int} (hts : ∀ t∈ts,0≤t∧t<code.length) (hn : ts.length≤10)
 (h4 : ts.any (λt=>!decide (d[t.toNat]?.getD 0=left))=true→P [.agg [.I 4,.I f,.I pc]])
 (hgo : ts.any (λt=>!decide (d[t.toNat]?.getD 0=left))=false→Ok P (iY (.I f) (.lst (code.map bP.pv)) (dO d) (.I ((pc : Int)+1)) T (.lst (fs.map cZ.pv)) x3 x4 x5)) :
 Ok P (gZ (.I f) (.lst (code.map bP.pv)) (dO d) (.I pc) (.I left) (dO ts) (.I 0) T (.lst (fs.map cZ.pv)) x3 x4 x5):=by
 have hn2:=F.n2
 refine aDP (n:=ts.length) (F:=λi=>gZ (.I f) (.lst (code.map bP.pv)) (dO d) (.I pc) (.I left) (dO ts) (.I i) T (.lst (fs.map cZ.pv)) x3 x4 x5)
  (λi=>(ts.drop i).any (λt=>!decide (d[t.toNat]?.getD 0=left))=ts.any (λt=>!decide (d[t.toNat]?.getD 0=left))) ?_ ?_ (by rw [List.drop_zero])
 ·intro hI
  rw [List.drop_length] at hI
  rw [rY]
  exact dS (aJ (aC (λh=>by omega) (λ_=>aP (by omega) (hgo hI.symm))))
 ·intro i hi hI ih
  rw [aB3 hi] at hI
  have ht:=hts ts[i] (List.getElem_mem _)
  rw [rY]
  refine dS (aJ (aC (λ_=>?_) (λh=>by omega)))
  refine cW hi (tH (by omega) (by omega) (λv hv=>?_))
  have hv' : d[ts[i].toNat]?.getD 0=v:=by rw [hv];rfl
  rw [hv'] at hI
  refine bM (aN (λh=>?_) (λh=>?_))
  ·rw [decide_eq_false h] at hI
   exact aT rfl (aT rfl (aB (h4 hI.symm)))
  ·rw [decide_eq_true h] at hI
   exact aP (by omega) (ih hI)
theorem aK1 {P : R→Prop} {pc : Nat} (hpc : pc<code.length) {d : List Int} (hd : d.length=code.length) {left : Int} {ts : List Int} (hts : ∀ t∈ts,0≤t∧t≤code.length) (hn : ts.length≤10)
 (h3 : ts.any (λt=>decide ((code.length : Int)≤t))=true→P [.agg [.I 3,.I f,.I pc]])
 (hgo : ts.any (λt=>decide ((code.length : Int)≤t))=false→Ok P (gZ (.I f) (.lst (code.map bP.pv)) (dO d) (.I pc) (.I left) (dO ts) (.I 0) T (.lst (fs.map cZ.pv)) x3 x4 x5)) :
 Ok P (jS (.I f) (.lst (code.map bP.pv)) (dO d) (.I pc) (.I left) (dO ts) (.I 0) T (.lst (fs.map cZ.pv)) x3 x4 x5):=by
 have hn2:=F.n2
 refine aDP (n:=ts.length) (F:=λi=>jS (.I f) (.lst (code.map bP.pv)) (dO d) (.I pc) (.I left) (dO ts) (.I i) T (.lst (fs.map cZ.pv)) x3 x4 x5)
  (λi=>(ts.drop i).any (λt=>decide ((code.length : Int)≤t))=ts.any (λt=>decide ((code.length : Int)≤t))) ?_ ?_ (by rw [List.drop_zero])
 ·intro hI
  rw [List.drop_length] at hI
  rw [rX]
  exact dS (aJ (aC (λh=>by omega) (λ_=>hgo hI.symm)))
 ·intro i hi hI ih
  rw [aB3 hi] at hI
  rw [rX]
  refine dS (aJ (aC (λ_=>?_) (λh=>by omega)))
  refine cW hi (aF (dY (aC (λh=>?_) (λh=>?_))))
  ·rw [decide_eq_true h] at hI
   exact aT rfl (aT rfl (aB (h3 hI.symm)))
  ·rw [decide_eq_false h] at hI
   exact aP (by omega) (ih hI)
theorem aJ7 {ts : List Int} {n : Int} (h : ts.any (λt=>decide (n≤t))=false) : ∀ t∈ts,t<n:=by
 clear F hf
 intro t ht
 rw [List.any_eq_false] at h
 have:=h t ht
 simp at this
 omega
theorem aJs {rest : Option (Int × Nat × Nat)} (hnext : Ok (λr=>r = [aJq rest]) (kQ (.I ((f : Int)+1)) T (.lst (fs.map cZ.pv)) x3 x4 x5)) : ∀ pc,pc≤code.length→
 Ok (λr=>r = [aJq (((List.range' pc (code.length - pc)).findSome? (aAu fs code f)).or rest)]) (iY (.I f) (.lst (code.map bP.pv)) (dO (pC fs code)) (.I pc) T (.lst (fs.map cZ.pv)) x3 x4 x5):=by
 have hn2:=F.n2
 have hnf:=F.nf
 have hg:=aBc F
 generalize hd : pC fs code=d at hg
 refine lH ?_ ?_
 ·rw [tB,aBR]
  exact aF (aJ (aC (λh=>by omega) (λ_=>aP (by omega) hnext)))
 ·intro pc hpc ih
  have hx : code[pc]? = some code[pc]:=List.getElem?_eq_getElem hpc
  have hm : code[pc]∈code:=List.getElem_mem _
  have hu:=F.u code[pc] hm
  have hil : pc<d.length:=by rw [hg.1];exact hpc
  have hv:=hg.at pc
  have e2 : d[pc]=d[pc]?.getD 0:=aDM hil
  rw [zN hpc]
  have eb : aAu fs code f pc=(aB2 fs code d pc).map λc=>(c,f,pc):=by unfold aAu;rw [hd]
  rw [eb]
  have ec : aB2 fs code d pc=if d[pc]?.getD 0<0 then none
   else if can fs code[pc] (d[pc]?.getD 0)=false then some 2
   else if (fP code[pc] pc).any (λt=>decide ((code.length : Int)≤t))=true then some 3
   else if (fP code[pc] pc).any (λt=>!decide (d[t.toNat]?.getD 0=gU fs code[pc] (d[pc]?.getD 0)))=true then some 4
   else none:=by
   conv=>lhs;unfold aB2
   rw [hx]
  generalize hw : d[pc]?.getD 0=w at *
  generalize aB2 fs code d pc=ch at *
  rw [tB]
  refine aF (aJ (aC (λ_=>?_) (λh=>by omega)))
  refine cW hil ?_
  rw [e2]
  refine aJ (aC (λh1=>?_) (λh1=>?_))
  ·rw [if_pos h1] at ec
   subst ec
   exact aP (by omega) ih
  rw [if_neg h1] at ec
  refine aQ hpc (λ_=>rfl) (aI (aGd (T:=T) (by omega)) (λr hr=>?_))
  subst hr
  refine aU rfl (aU rfl (cW hil ?_))
  rw [e2]
  refine bF (by omega) (aP (by omega) (cW hil ?_))
  rw [e2]
  refine aJ (aC (λh2=>?_) (λh2=>?_))
  ·have hc : can fs code[pc] w=false:=by simp only [can];rw [decide_eq_false (by omega)];rfl
   rw [if_pos hc] at ec
   subst ec
   exact aT rfl (aT rfl (aB rfl))
  refine cD (aC (λh3=>?_) (λh3=>?_))
  ·have hc : can fs code[pc] w=false:=by simp only [can];rw [decide_eq_false (p:=gU fs code[pc] w≤16) (by unfold gU;omega),Bool.and_false]
   rw [if_pos hc] at ec
   subst ec
   exact aT rfl (aT rfl (aB rfl))
  have hc : can fs code[pc] w=true:=by simp only [can];rw [decide_eq_true (by omega),decide_eq_true (p:=gU fs code[pc] w≤16) (by unfold gU;omega)];rfl
  rw [hc,if_neg (by simp)] at ec
  refine aQ hpc (λ_=>rfl) (aI (aGe (by omega)) (λr hr=>?_))
  subst hr
  have hnx:=yT F hm hpc
  have hl10 : (fP code[pc] pc).length≤10:=by unfold fP;repeat' split<;>simp
  refine aK1 F hf hpc hg.1 (left:=gU fs code[pc] w) hnx hl10 (λh=>?_) (λh=>?_)
  ·rw [if_pos h] at ec
   subst ec
   rfl
  rw [if_neg (by rw [h];simp)] at ec
  refine aJr F hf hpc hg.1 (left:=gU fs code[pc] w) (λt ht=>⟨(hnx t ht).1,aJ7 F hf h t ht⟩) hl10 (λh=>?_) (λh=>?_)
  ·rw [if_pos h] at ec
   subst ec
   rfl
  ·rw [if_neg (by rw [h];simp)] at ec
   subst ec
   exact ih
end
theorem aE5 {fs : List cZ} {f : Nat} (hf : f<fs.length) : aGn fs f=(List.range' 0 fs[f].code.length).findSome? (aAu fs fs[f].code f):=by
 unfold aGn
 rw [List.getElem?_eq_getElem hf]
theorem aIi {m : dT} (h : m.sized) : Ok (λr=>r = [m.verify]) (yG m.pv):=by
 rw [aEN]
 refine aE rfl (aA rfl (aA rfl (aI (aFR h) (λr hr=>?_))))
 subst hr
 unfold dT.verify
 refine bG (aS (λhb=>aB ?_) (λhb=>?_))
 ·have : m.okB=false:=by simpa using hb
  rw [this];rfl
 have hb : m.okB=true:=by simpa using hb
 rw [hb,if_pos rfl]
 obtain ⟨h1,h2,h3⟩:=dT.okB_fit hb
 have key:=lH (n:=m.funcs.length) (P:=λf r=>r = [aJq ((List.range' f (m.funcs.length - f)).findSome? (aGn m.funcs))])
  (F:=λf=>kQ (.I f) (.lst (m.texts.map PV.str)) (.lst (m.funcs.map cZ.pv)) (.I 0) (.I 0) (.I 0)) ?_ ?_ 0 (by omega)
 ·exact key
 ·rw [tA,aBR]
  exact aF (aJ (aC (λh=>by omega) (λ_=>aB rfl)))
 ·intro f hf ih
  have F:=(h3 m.funcs[f] (List.getElem_mem _)).1
  rw [tA,zN hf,aE5 hf]
  refine aF (aJ (aC (λ_=>?_) (λh=>by omega)))
  refine aQ hf (λ_=>rfl) (aA rfl (aI (aIb F hf rfl) (λr hr=>?_)))
  subst hr
  exact aJs F hf ih 0 (by omega)
section
variable {P : R → Prop} {k : R → OR}
theorem aK2 {xs : List Int} (hx : xs.length≤1000000000) (y : Int) : Ok (λr=>∃ n : Int,r = [.I n]∧(0≤n↔xs.any (λx=>decide (y=x))=true)) (kP (dO xs) (.I y)):=by
 rw [uM]
 refine dS ?_
 refine aDP (n:=xs.length) (F:=λi=>fO (dO xs) (.I y) (.I xs.length) (.I i)) (λi=>(xs.drop i).any (λx=>decide (y=x))=xs.any (λx=>decide (y=x))) ?_ ?_ (by rw [List.drop_zero])
 ·intro hI
  rw [List.drop_length] at hI
  rw [kU]
  refine aJ (aC (λh=>by omega) (λ_=>aB ⟨-1,rfl,?_⟩))
  rw [← hI];simp
 ·intro i hi hI ih
  rw [aB3 hi] at hI
  rw [kU]
  refine aJ (aC (λ_=>?_) (λh=>by omega))
  refine cW hi (aG (aC (λh=>aB ⟨i,rfl,?_⟩) (λh=>?_)))
  ·rw [← hI,decide_eq_true h];simp
  ·rw [decide_eq_false h] at hI
   exact aP (by omega) (ih hI)
theorem aK3 {xs : List Int} (hx : xs.length≤1000000000) {y : Int} (h : Ok P (k [.bool (xs.any (λx=>decide (y=x)))])) : Ok P (bd (iW (dO xs) (.I y)) k):=by
 refine aI (Q:=λr=>r = [.bool (xs.any (λx=>decide (y=x)))]) ?_ (λr hr=>by rw [hr];exact h)
 rw [rW]
 refine aI (aK2 hx y) ?_
 rintro r ⟨n,rfl,hn⟩
 refine dY (aB ?_)
 by_cases h0 : 0≤n
 ·rw [decide_eq_true h0,hn.1 h0]
 ·rw [decide_eq_false h0]
  cases h2 : xs.any (λx=>decide (y=x)) with
  | false=>rfl
  | true=>exact absurd (hn.2 h2) h0
theorem aK4 {f : Nat} {caps : R} {xs : List Int} (hx : xs.length≤1000000000) (p : Int→Bool) (hp : ∀ x∈xs,Ok (λr=>r = [.bool (p x)]) (aY f ([.I x]++caps))) (h : Ok P (k [.bool (xs.any p)])) :
 Ok P (bd (gB (dO xs) (.fn f caps)) k):=by
 refine aI (Q:=λr=>r = [.bool (xs.any p)]) ?_ (λr hr=>by rw [hr];exact h)
 rw [pA]
 refine aI (Q:=λr=>∃ n : Int,r = [.I n]∧(0≤n↔xs.any p=true)) ?_ ?_
 ·rw [qV]
  refine dS ?_
  refine aDP (n:=xs.length) (F:=λi=>eG (dO xs) (.fn f caps) (.I xs.length) (.I i)) (λi=>(xs.drop i).any p=xs.any p) ?_ ?_ (by rw [List.drop_zero])
  ·intro hI
   rw [List.drop_length] at hI
   rw [jB]
   refine aJ (aC (λh=>by omega) (λ_=>aB ⟨-1,rfl,?_⟩))
   rw [← hI];simp
  ·intro i hi hI ih
   rw [aB3 hi] at hI
   rw [jB]
   refine aJ (aC (λ_=>?_) (λh=>by omega))
   refine cW hi (xC rfl (hp _ (List.getElem_mem _)) (λr hr=>?_))
   subst hr
   refine aS (λh=>aB ⟨i,rfl,?_⟩) (λh=>?_)
   ·rw [← hI,h];simp
   ·rw [h,Bool.false_or] at hI
    exact aP (by omega) (ih hI)
 ·rintro r ⟨n,rfl,hn⟩
  refine dY (aB ?_)
  by_cases h0 : 0≤n
  ·rw [decide_eq_true h0,hn.1 h0]
  ·rw [decide_eq_false h0]
   cases h2 : xs.any p with
   | false=>rfl
   | true=>exact absurd (hn.2 h2) h0
end
theorem aMP {ts : List Int} {n : Int} (h : ∀ t∈ts,t≤n) : ts.any (λx=>decide (n=x))=ts.any (λt=>decide (n≤t)):=by
 induction ts with
 | nil=>rfl
 | cons t r ih=>
   rw [List.any_cons,List.any_cons,ih (λx hx=>h x (List.mem_cons_of_mem _ hx))]
   have:=h t List.mem_cons_self
   congr 1
   by_cases h1 : n=t
   ·rw [decide_eq_true h1,decide_eq_true (by omega)]
   ·rw [decide_eq_false h1,decide_eq_false (by omega)]
section
variable {fs : List cZ} {code : List bP} {T x3 x4 x5 : PV} (F : Fit fs code) {f : Nat} (hf : f < fs.length)
include F hf
theorem aJt {rest : Option (Int × Nat × Nat)} (hnext : Ok (λr=>r = [aJq rest]) (kM (.I fs.length) (.I ((f : Int)+1)) T (.lst (fs.map cZ.pv)) x3 x4 x5)) : ∀ pc,pc≤code.length→
 Ok (λr=>r = [aJq (((List.range' pc (code.length - pc)).findSome? (aAu fs code f)).or rest)])
  (kN (.I f) (.I fs.length) (.I f) (.lst (code.map bP.pv)) (.I code.length) (.I pc) T (.lst (fs.map cZ.pv)) x3 x4 x5 (dO (pC fs code))):=by
 have hn2:=F.n2
 have hnf:=F.nf
 have hg:=aBc F
 generalize hd : pC fs code=d at hg
 refine lH ?_ ?_
 ·rw [sX,aBR]
  exact aJ (aC (λh=>by omega) (λ_=>aP (by omega) hnext))
 ·intro pc hpc ih
  have hx : code[pc]? = some code[pc]:=List.getElem?_eq_getElem hpc
  have hm : code[pc]∈code:=List.getElem_mem _
  have hu:=F.u code[pc] hm
  have hil : pc<d.length:=by rw [hg.1];exact hpc
  have hv:=hg.at pc
  have e2 : d[pc]=d[pc]?.getD 0:=aDM hil
  rw [zN hpc]
  have eb : aAu fs code f pc=(aB2 fs code d pc).map λc=>(c,f,pc):=by unfold aAu;rw [hd]
  rw [eb]
  have ec : aB2 fs code d pc=if d[pc]?.getD 0<0 then none
   else if can fs code[pc] (d[pc]?.getD 0)=false then some 2
   else if (fP code[pc] pc).any (λt=>decide ((code.length : Int)≤t))=true then some 3
   else if (fP code[pc] pc).any (λt=>!decide (d[t.toNat]?.getD 0=gU fs code[pc] (d[pc]?.getD 0)))=true then some 4
   else none:=by
   conv=>lhs;unfold aB2
   rw [hx]
  generalize hw : d[pc]?.getD 0=w at *
  generalize aB2 fs code d pc=ch at *
  rw [sX]
  refine aJ (aC (λ_=>?_) (λh=>by omega))
  refine aQ hpc (λ_=>rfl) (aE rfl (aA rfl (aA rfl (cW hil ?_))))
  rw [e2]
  refine aJ (aC (λh1=>?_) (λh1=>?_))
  ·rw [if_pos h1] at ec
   subst ec
   exact aP (by omega) ih
  rw [if_neg h1] at ec
  refine cW hil ?_
  rw [e2]
  refine aI (aGi (T:=T) F hm hv) (λr hr=>?_)
  subst hr
  refine aU rfl (aU rfl (aT rfl (bG (aS (λhc=>?_) (λhc=>?_)))))
  ·have hc : can fs code[pc] w=false:=by simpa using hc
   rw [if_pos hc] at ec
   subst ec
   exact aT rfl (aT rfl (aB rfl))
  have hc : can fs code[pc] w=true:=by simpa using hc
  rw [hc,if_neg (by simp)] at ec
  refine aI (aGf (x:=code[pc]) (by omega)) (λr hr=>?_)
  subst hr
  have hnx:=yT F hm hpc
  have hl10 : (fP code[pc] pc).length≤10:=by unfold fP;repeat' split<;>simp
  refine dS (aK3 (by omega) ?_)
  rw [hg.1,aMP (λt ht=>(hnx t ht).2)]
  refine aS (λh=>?_) (λh=>?_)
  ·rw [if_pos h] at ec
   subst ec
   exact aT rfl (aT rfl (aB rfl))
  rw [if_neg (by rw [h];simp)] at ec
  refine aK4 (by omega) (λt=>!decide (d[t.toNat]?.getD 0=gU fs code[pc] w)) (λt ht=>?_) ?_
  ·have:=hnx t ht
   have:=aJ7 F hf h t ht
   show Ok _ (aAr _ _ _)
   rw [aCz]
   refine rH rfl (tH (by omega) (by rw [hg.1];omega) (λv hv=>rH rfl (bM (aB ?_))))
   rw [hv];rfl
  ·refine dG rfl (aS (λh=>?_) (λh=>?_))
   ·rw [if_pos h] at ec
    subst ec
    exact aT rfl (aT rfl (aB rfl))
   ·rw [if_neg (by rw [h];simp)] at ec
    subst ec
    exact aP (by omega) ih
end
theorem aIj {m : dT} (h : m.sized) : Ok (λr=>r = [m.verify]) (yA m.pv):=by
 rw [aEH]
 refine aE rfl (aA rfl (aA rfl (aI (aFS h) (λr hr=>?_))))
 subst hr
 unfold dT.verify
 refine bG (aS (λhb=>aB ?_) (λhb=>?_))
 ·have : m.okB=false:=by simpa using hb
  rw [this];rfl
 have hb : m.okB=true:=by simpa using hb
 rw [hb,if_pos rfl]
 obtain ⟨h1,h2,h3⟩:=dT.okB_fit hb
 refine aF ?_
 have key:=lH (n:=m.funcs.length) (P:=λf r=>r = [aJq ((List.range' f (m.funcs.length - f)).findSome? (aGn m.funcs))])
  (F:=λf=>kM (.I m.funcs.length) (.I f) (.lst (m.texts.map PV.str)) (.lst (m.funcs.map cZ.pv)) (.I 0) (.I 0) (.I 0)) ?_ ?_ 0 (by omega)
 ·exact key
 ·rw [sW,aBR]
  exact aJ (aC (λh=>by omega) (λ_=>aB rfl))
 ·intro f hf ih
  have F:=(h3 m.funcs[f] (List.getElem_mem _)).1
  rw [sW,zN hf,aE5 hf]
  refine aJ (aC (λ_=>?_) (λh=>by omega))
  refine aI (aE0 F hf rfl) (λr hr=>?_)
  subst hr
  refine aT rfl (aQ hf (λ_=>rfl) (aA rfl (aF ?_)))
  exact aJt F hf ih 0 (by omega)
theorem aK5 {fs : List cZ} {code : List bP} {d : List Int} {pc : Nat} (hpc : pc<code.length) (h : aB2 fs code d pc=none) (h0 : ¬ d[pc]?.getD 0<0) :
 can fs code[pc] (d[pc]?.getD 0)=true∧∀ t∈fP code[pc] pc,t<code.length∧d[t.toNat]?.getD 0=gU fs code[pc] (d[pc]?.getD 0):=by
 unfold aB2 at h
 rw [List.getElem?_eq_getElem hpc] at h
 simp only at h
 rw [if_neg h0] at h
 split at h
 ·cases h
 rename_i h1
 split at h
 ·cases h
 rename_i h2
 split at h
 ·cases h
 rename_i h3
 refine ⟨by simpa using h1,λt ht=>?_⟩
 rw [Bool.not_eq_true,List.any_eq_false] at h2 h3
 have g2:=h2 t ht
 have g3:=h3 t ht
 simp at g2 g3
 exact ⟨by omega,g3⟩
theorem aLW {fs : List cZ} (h : bad fs=none) {f : Nat} (hf : f<fs.length) {pc : Nat} (hpc : pc<fs[f].code.length) : aB2 fs fs[f].code (pC fs fs[f].code) pc=none:=by
 unfold bad at h
 rw [List.findSome?_eq_none_iff] at h
 have h1:=h f (by rw [List.mem_range'_1];omega)
 rw [aE5 hf,List.findSome?_eq_none_iff] at h1
 have h2:=h1 pc (by rw [List.mem_range'_1];omega)
 simpa [aAu] using h2
end
noncomputable section
open Go Go.IntWalk
attribute [local irreducible] bd PV.ite PV.guardFlat PV.guardOwn PV.whole PV.one PV.cell PV.sub PV.at_ PV.len PV.slen PV.chr PV.beq PV.peq PV.ceq PV.bin PV.neg PV.not PV.conv PV.cut PV.scut PV.cat PV.setAt PV.setCell PV.ncopy PV.copyIn PV.zeros PV.toStr PV.toBytes PV.deref PV.isPtr PV.comp PV.inb PV.off PV.imin PV.imax PV.sel PV.apply PV.isLst PV.isInt PV.ix PV.nilT
structure kV (m : dT) : Prop where
 sz : m.sized
 ok : m.okB=true
 bad : bad m.funcs=none
def dAt (m : dT) (f pc : Int) : Int:=(pC m.funcs (dB m.funcs f))[pc.toNat]?.getD 0
def bS (m : dT) (f pc : Int) : bP:=(dB m.funcs f)[pc.toNat]?.getD ⟨0,0⟩
abbrev vOk (m : dT) (n : Int) (v : eL) : Prop:=bV m.funcs.length n v=true
theorem yX : sF (bs []) (bs [])=true:=aJl _
theorem oH {nf n : Int} : bV nf n fB=true:=by simp [bV,fB,yX]
theorem aJ8 {nf n x : Int} (h : dA x=true) : bV nf n (wX x)=true:=by simp [bV,wX,yX,h]
theorem aB4 {nf n : Int} {b : Bool} : bV nf n (qN b)=true:=by cases b<;>simp [bV,qN,yX,jU]
theorem aIk {nf n : Int} {s : ByteArray} (h : iL s=true) : bV nf n (aBS s)=true:=by simp [bV,aBS,h]
theorem aMQ {nf n i : Int} (h : 0≤i∧i<n) : bV nf n (aMF i)=true:=by simp [bV,aMF,yX,h]
theorem aMR {nf n i : Int} (h : 0≤i∧i<nf) : bV nf n (aJk i)=true:=by
 have : i≤nf - 1:=by omega
 simp [bV,aJk,yX,jU,h,this]
theorem sG {nf n n' : Int} (hn : n≤n') {v : eL} (h : bV nf n v=true) : bV nf n' v=true:=by
 unfold bV at *
 split at h
 ·cases h
 rename_i h0
 rw [if_neg h0]
 split at h
 ·rename_i h1;rw [if_pos h1];exact h
 rename_i h1
 rw [if_neg h1]
 split at h
 ·rename_i h1;rw [if_pos h1];exact h
 rename_i h2
 rw [if_neg h2]
 split at h
 ·rename_i h1;rw [if_pos h1];exact h
 rename_i h3
 rw [if_neg h3]
 split at h
 ·rename_i h1;rw [if_pos h1];exact h
 rename_i h4
 rw [if_neg h4]
 split at h
 ·rename_i h1
  rw [if_pos h1]
  simp only [Bool.and_eq_true,decide_eq_true_eq] at *
  omega
 rename_i h5
 rw [if_neg h5]
 exact h
theorem aMS {a b : ByteArray} (ha : iL a=true) (hb : iL b=true) (h : ¬ (60 : Int)<a.size+b.size) : iL (a++b)=true:=by
 simp only [iL,Bool.and_eq_true,decide_eq_true_eq,List.all_eq_true] at *
 refine ⟨by rw [ByteArray.size_append];omega,λx hx=>?_⟩
 rw [ByteArray.data_append,Array.toList_append,List.mem_append] at hx
 rcases hx with hx | hx
 ·exact ha.2 x hx
 ·exact hb.2 x hx
theorem aGo {nf n : Int} {v : eL} (h : bV nf n v=true) (hk : v.k=3) : iL v.s=true:=by
 unfold bV at h
 rw [if_neg (λe=>e.1 hk),if_neg (by omega),if_neg (by omega),if_neg (by omega),if_pos hk] at h
 simp only [Bool.and_eq_true] at h
 exact h.2
theorem aHb {nf n o : Int} {a b : eL} : bV nf n (aEX o a b).1=true:=by
 unfold aEX
 repeat' split
 all_goals first
  | exact oH
  | (rename_i h;exact aJ8 (by simpa using h))
theorem aNv {nf n o : Int} {a b : eL} (ha : bV nf n a=true) (hb : bV nf n b=true) : bV nf n (wY o a b).1=true:=by
 unfold wY
 split
 ·split
  ·rename_i h
   split
   ·exact oH
   ·rename_i h2
    exact aIk (aMS (aGo ha h.1) (aGo hb h.2) h2)
  ·exact aHb
 split
 ·exact aHb
 split
 ·exact aHb
 split
 ·repeat' split
  all_goals first
   | exact oH
   | exact aB4
 ·exact aB4
theorem kV.fit {m : dT} (g : kV m) : 1≤m.funcs.length∧m.funcs.length≤12∧∀ f∈m.funcs,Fit m.funcs f.code∧0≤f.p∧f.p≤6∧f.p≤f.lc∧f.lc≤12:=dT.okB_fit g.ok
theorem kV.code {m : dT} (g : kV m) {f : Int} (h : 0≤f∧f<m.funcs.length) : ∃ i : Nat,∃ hi : i<m.funcs.length,f=i∧dB m.funcs f=m.funcs[i].code∧Fit m.funcs m.funcs[i].code∧0≤m.funcs[i].p∧m.funcs[i].p≤6∧m.funcs[i].p≤m.funcs[i].lc∧m.funcs[i].lc≤12∧aCJ m.funcs f=m.funcs[i].lc∧iN m.funcs f=m.funcs[i].p∧
 ∀ x∈m.funcs[i].code,bW m.texts.length m.funcs.length m.funcs[i].lc m.funcs[i].code.length x.o x.a=true:=by
 obtain ⟨i,hi⟩:=Int.eq_ofNat_of_zero_le h.1
 have hl : i<m.funcs.length:=by omega
 have hm : m.funcs[i]∈m.funcs:=List.getElem_mem _
 obtain ⟨F,p1,p2,p3,p4⟩:=g.fit.2.2 _ hm
 refine ⟨i,hl,hi,by simp [dB,hi,List.getElem?_eq_getElem hl],F,p1,p2,p3,p4,by simp [aCJ,hi,List.getElem?_eq_getElem hl],by simp [iN,hi,List.getElem?_eq_getElem hl],λx hx=>?_⟩
 have h:=g.ok
 simp only [dT.okB,Bool.and_eq_true,bH,decide_eq_true_eq,List.all_eq_true,sD] at h
 exact (h.2.2.2 _ hm).2.2.2 x hx
theorem kV.at_ {m : dT} (g : kV m) {f pc : Int} (h : 0≤f∧f<m.funcs.length) (hp : 0≤pc∧pc<(dB m.funcs f).length) (hd : 0≤dAt m f pc) :
 bW m.texts.length m.funcs.length (aCJ m.funcs f) (dB m.funcs f).length (bS m f pc).o (bS m f pc).a=true∧
 (0≤(bL m.funcs (bS m f pc)).1∧(bL m.funcs (bS m f pc)).1≤dAt m f pc∧0≤(bL m.funcs (bS m f pc)).2∧(bL m.funcs (bS m f pc)).2≤2)∧dAt m f pc≤16∧gU m.funcs (bS m f pc) (dAt m f pc)≤16∧
 ∀ t∈fP (bS m f pc) pc,(0≤t∧t<(dB m.funcs f).length)∧dAt m f t=gU m.funcs (bS m f pc) (dAt m f pc):=by
 obtain ⟨i,hi,rfl,hc,F,p1,p2,p3,p4,hlc,hpar,hins⟩:=g.code h
 obtain ⟨j,rfl⟩:=Int.eq_ofNat_of_zero_le hp.1
 have hj : j<m.funcs[i].code.length:=by rw [hc] at hp;omega
 have hx : bS m i j=m.funcs[i].code[j]:=by simp [bS,hc,List.getElem?_eq_getElem hj]
 have hm : m.funcs[i].code[j]∈m.funcs[i].code:=List.getElem_mem _
 have hu:=F.u _ hm
 have hdd : ∀ t : Int,dAt m i t=(pC m.funcs m.funcs[i].code)[t.toNat]?.getD 0:=λt=>by rw [dAt,hc]
 have hb:=(aBc F).at j
 have hck:=aK5 hj (aLW g.bad hi hj)
 have hnx:=yT F hm hj
 rw [hx,hc,hlc]
 rw [hdd,Int.toNat_natCast] at hd ⊢
 obtain ⟨hcan,hall⟩:=hck (by omega)
 simp only [can,Bool.and_eq_true,decide_eq_true_eq] at hcan
 refine ⟨hins _ hm,⟨hu.1,hcan.1,hu.2.2⟩,hb.2,hcan.2,λt ht=>?_⟩
 obtain ⟨q1,q2⟩:=hall t ht
 exact ⟨⟨(hnx t ht).1,q1⟩,by rw [hdd];exact q2⟩
structure FrI (m : dT) (n : Int) (f : eU) : Prop where
 fi : 0≤f.f∧f.f<m.funcs.length
 pc : 0≤f.pc∧f.pc<(dB m.funcs f.f).length
 loc : (f.loc.length : Int)=aCJ m.funcs f.f
 d : 0≤dAt m f.f f.pc
 vl : ∀ v∈f.loc,vOk m n v
 vs : ∀ v∈f.stk,vOk m n v
structure aJu (m : dT) (n : Int) (f : eU) : Prop extends FrI m n f where
 h : (f.stk.length : Int)=dAt m f.f f.pc
structure aK6 (m : dT) (n : Int) (f : eU) : Prop extends FrI m n f where
 low : 1≤f.pc∧0≤dAt m f.f (f.pc - 1)∧((bS m f.f (f.pc - 1)).o=23∨(bS m f.f (f.pc - 1)).o=24)
 h : (f.stk.length : Int)=dAt m f.f f.pc - 1
structure HpI (m : dT) (hp : List (List eL)) (made : Int) (out : List ByteArray) : Prop where
 made : hp.length≤made∧made≤120
 recs : ∀ r∈hp,r.length≤6∧∀ v∈r,vOk m hp.length v
 out : out.length≤200
structure VmI (m : dT) (v : uC) : Prop where
 hp : HpI m v.hp v.made v.out
 steps : 0≤v.steps∧v.steps≤50000
 nfr : v.fr.length≤24
 run : v.st=0→v.fr≠[]
 top : ∀ fs0 f,v.fr=fs0++[f]→aJu m v.hp.length f∧∀ g∈fs0,aK6 m v.hp.length g
theorem FrI.mono {m : dT} {n n' : Int} (hn : n≤n') {f : eU} (h : FrI m n f) : FrI m n' f:=
 ⟨h.fi,h.pc,h.loc,h.d,λv hv=>sG hn (h.vl v hv),λv hv=>sG hn (h.vs v hv)⟩
theorem aK6.mono {m : dT} {n n' : Int} (hn : n≤n') {f : eU} (h : aK6 m n f) : aK6 m n' f:=⟨h.toFrI.mono hn,h.low,h.h⟩
theorem FrI.small {m : dT} (g : kV m) {n : Int} {f : eU} (h : FrI m n f) : f.loc.length≤12:=by
 obtain ⟨i,hi,he,hc,F,p1,p2,p3,p4,hlc,hpar,hins⟩:=g.code h.fi
 have:=h.loc
 omega
theorem FrI.dle {m : dT} (g : kV m) {n : Int} {f : eU} (h : FrI m n f) : dAt m f.f f.pc≤16:=(g.at_ h.fi h.pc h.d).2.2.1
theorem VmI.sz {m : dT} (g : kV m) {v : uC} (h : VmI m v) : Sz v:=by
 have:=h.hp.made
 have:=h.hp.out
 have:=h.nfr
 refine ⟨by omega,by omega,by omega,λf hf=>?_,λr hr=>by have:=(h.hp.recs r hr).1;omega⟩
 rcases List.eq_nil_or_concat v.fr with h0 | ⟨fs0,f0,h0⟩
 ·rw [h0] at hf;cases hf
 ·obtain ⟨t,l⟩:=h.top fs0 f0 (by rw [h0];simp)
  rw [h0] at hf
  simp only [List.concat_eq_append,List.mem_append,List.mem_singleton] at hf
  rcases hf with hf | rfl
  ·have:=(l f hf).toFrI.small g
   have:=(l f hf).toFrI.dle g
   have:=(l f hf).h
   omega
  ·have:=t.toFrI.small g
   have:=t.toFrI.dle g
   have:=t.h
   omega
theorem VmI.goes {m : dT} (g : kV m) {v : uC} (h : VmI m v) (h0 : v.st=0) : ∃ fs0 f,aNi m v fs0 f:=by
 rcases List.eq_nil_or_concat v.fr with e | ⟨fs0,f,e⟩
 ·exact absurd e (h.run h0)
 rw [List.concat_eq_append] at e
 refine ⟨fs0,f,?_⟩
 obtain ⟨t,l⟩:=h.top fs0 f e
 obtain ⟨i,hi,he,hc,F,p1,p2,p3,p4,hlc,hpar,hins⟩:=g.code t.fi
 obtain ⟨a1,a2,a3,a4,a5⟩:=g.at_ t.fi t.pc t.d
 have hx : lN m.funcs f=bS m f.f f.pc:=rfl
 have hh:=t.h
 have hm:=h.hp.made
 have hn:=h.nfr
 rw [e,List.length_append,List.length_singleton] at hn
 refine ⟨e,t.fi,t.pc,by rw [hc];exact F.n2,by rw [hx,t.loc];exact a1,by rw [hx,hh];exact ⟨a2.1,a2.2.1⟩,λb=>?_⟩
 refine ⟨g.fit.2.1,?_,λf hf=>?_,by omega,λf hf=>?_,by have:=t.toFrI.small g;exact this,?_,λr hr=>(h.hp.recs r hr).1,by omega,by omega,h.hp.out,λv hv=>t.vs v (List.mem_of_mem_drop hv)⟩
 ·have h:=g.ok
  simp only [dT.okB,Bool.and_eq_true,bH,decide_eq_true_eq] at h
  omega
 ·have:=g.fit.2.2 f hf
  exact this.2
 ·have:=(l f hf).toFrI.dle g
  have:=(l f hf).h
  omega
 ·simp only [List.length_take,List.length_drop]
  omega
structure aJ9 (m : dT) (v : uC) (f : eU) (x : bP) (fr : eU) (hp : List (List eL)) (made : Int) (out : List ByteArray) : Prop where
 ff : fr.f=f.f
 pc : fr.pc∈fP x f.pc
 loc : fr.loc.length=f.loc.length
 len : (fr.stk.length : Int)=gU m.funcs x f.stk.length
 vl : ∀ y∈fr.loc,vOk m hp.length y
 vs : ∀ y∈fr.stk,vOk m hp.length y
 n : v.hp.length≤hp.length
 hpI : HpI m hp made out
structure aNj (m : dT) (v : uC) (fs0 : List eU) (f : eU) (x : bP) (fr g : eU) : Prop where
 n : fs0.length+1<24
 o : x.o=23∨x.o=24
 frr : fr=⟨f.f,f.pc+1,f.loc,f.stk.take (f.stk.length - (bL m.funcs x).1.toNat)⟩
 gg : ∃ i args,g=xB m.funcs i args∧(0≤i∧i<m.funcs.length)∧(args.length : Int)=iN m.funcs i∧∀ y∈args,vOk m v.hp.length y
def aNT (m : dT) (v : uC) (fs0 : List eU) (f : eU) (x : bP) : aJo→Prop
 | .trap _=>True
 | .next fr hp made out=>aJ9 m v f x fr hp made out
 | .call fr g=>aNj m v fs0 f x fr g
 | .ret a=>vOk m v.hp.length a
theorem aKa {m : dT} {n : Int} {l : List eL} (h : ∀ y∈l,vOk m n y) (i : Nat) : vOk m n (l[i]?.getD fB):=by
 cases hx : l[i]? with
 | none=>exact oH
 | some y=>exact h y (List.mem_of_getElem? hx)
theorem aJv {m : dT} {v : uC} (h : HpI m v.hp v.made v.out) (i : Nat) : (v.hp[i]?.getD []).length≤6∧∀ y∈v.hp[i]?.getD [],vOk m v.hp.length y:=by
 cases hx : v.hp[i]? with
 | none=>simp
 | some y=>exact h.recs y (List.mem_of_getElem? hx)
theorem aLX {m : dT} {n : Int} {l : List eL} (h : ∀ y∈l,vOk m n y) {y : eL} (hy : vOk m n y) (i : Nat) : ∀ z∈l.set i y,vOk m n z:=by
 intro z hz
 rcases List.mem_or_eq_of_mem_set hz with h1 | rfl
 ·exact h z h1
 ·exact hy
theorem aHc {m : dT} {n : Int} {a b : List eL} (h : ∀ y∈a,vOk m n y) (h' : ∀ y∈b,vOk m n y) : ∀ y∈a++b,vOk m n y:=by
 intro y hy
 rcases List.mem_append.1 hy with h1 | h1
 ·exact h y h1
 ·exact h' y h1
theorem aGp {x : bP} {pc : Int} (h : x.o≠17∧x.o≠25) : pc+1∈fP x pc:=by simp [fP,h]
theorem aE6 {x : bP} {pc : Int} (h : x.o=17∨x.o=18∨x.o=19) : x.a∈fP x pc:=by unfold fP;rw [if_pos h];simp
section
variable {m : dT} {v : uC} {fs0 : List eU} {f : eU} {x : bP}
theorem aNw (g : kV m) (h : VmI m v) (t : aJu m v.hp.length f) (hx : lN m.funcs f=x) (hn : fs0.length+1≤24) : aNT m v fs0 f x (aE4 m v fs0 f):=by
 obtain ⟨a1,a2,a3,a4,a5⟩:=g.at_ t.fi t.pc t.d
 have hi : bS m f.f f.pc=x:=hx
 rw [hi] at a1 a2 a4 a5
 have hh:=t.h
 rw [← hh] at a2 a3 a4
 rw [← t.loc] at a1
 have ib:=uT a1
 show aNT m v fs0 f x (oJ m ⟨f.f,f.pc+1,f.loc,f.stk.take (f.stk.length - (bL m.funcs (lN m.funcs f)).1.toNat)⟩ (f.stk.drop (f.stk.length - (bL m.funcs (lN m.funcs f)).1.toNat)) (fs0.length+1) v.hp v.made v.out (lN m.funcs f))
 rw [hx]
 generalize hb : f.stk.length - (bL m.funcs x).1.toNat=b
 have hlt : ((f.stk.take b).length : Int)=f.stk.length - (bL m.funcs x).1:=by rw [List.length_take];omega
 have hld : ((f.stk.drop b).length : Int)=(bL m.funcs x).1:=by rw [List.length_drop];omega
 have kt : ∀ y∈f.stk.take b,vOk m v.hp.length y:=λy hy=>t.vs y (List.mem_of_mem_take hy)
 have kd : ∀ y∈f.stk.drop b,vOk m v.hp.length y:=λy hy=>t.vs y (List.mem_of_mem_drop hy)
 have hlef : gU m.funcs x f.stk.length=f.stk.length - (bL m.funcs x).1+(bL m.funcs x).2:=rfl
 generalize htk : f.stk.take b=T at *
 generalize hdr : f.stk.drop b=D at *
 have ka : vOk m v.hp.length (D.headD fB):=by
  cases D with
  | nil=>exact oH
  | cons y r=>exact kd y (by simp)
 have kb : vOk m v.hp.length (D.tail.headD fB):=by
  cases D with
  | nil=>exact oH
  | cons y r=>cases r with
    | nil=>exact oH
    | cons z r=>exact kd z (by simp)
 have ktl : ∀ y∈D.tail,vOk m v.hp.length y:=λy hy=>kd y (List.mem_of_mem_tail hy)
 have go : ∀ (l : List eL) (pc : Int),pc∈fP x f.pc→(∀ y∈l,vOk m v.hp.length y)→(l.length : Int)=(bL m.funcs x).2→aJ9 m v f x ⟨f.f,pc,f.loc,T++l⟩ v.hp v.made v.out:=λl pc hpc hl hn=>
  ⟨rfl,hpc,rfl,by rw [hlef,List.length_append];omega,t.vl,aHc kt hl,Nat.le_refl _,h.hp⟩
 have go0 : ∀ pc : Int,pc∈fP x f.pc→(bL m.funcs x).2=0→aJ9 m v f x ⟨f.f,pc,f.loc,T⟩ v.hp v.made v.out:=λpc hpc hn=>by
  have:=go [] pc hpc (by simp) (by simp [hn])
  simpa using this
 have one : ∀ y,vOk m v.hp.length y→∀ z∈[y],vOk m v.hp.length z:=λy hy z hz=>by rw [List.mem_singleton] at hz;rw [hz];exact hy
 have two : ∀ y y',vOk m v.hp.length y→vOk m v.hp.length y'→∀ z∈[y,y'],vOk m v.hp.length z:=λy y' hy hy' z hz=>by
  simp only [List.mem_cons,List.not_mem_nil,or_false] at hz
  rcases hz with rfl | rfl
  ·exact hy
  ·exact hy'
 obtain ⟨⟨o1,o2⟩,i3,i67,i20,i21,i23,i5,ij,i1⟩:=ib
 have inc : x.o≠17→x.o≠25→f.pc+1∈fP x f.pc:=λh1 h2=>aGp ⟨h1,h2⟩
 unfold oJ
 simp only
 by_cases h1 : x.o=1
 ·rw [if_pos h1]
  exact go _ _ (inc (by omega) (by omega)) (one _ (aJ8 (i1 h1))) (by simp [bL,h1])
 rw [if_neg h1]
 by_cases h2 : x.o=2
 ·rw [if_pos h2]
  exact go _ _ (inc (by omega) (by omega)) (one _ aB4) (by simp [bL,h2])
 rw [if_neg h2]
 by_cases h3 : x.o=3
 ·rw [if_pos h3]
  refine go _ _ (inc (by omega) (by omega)) (one _ (aIk ?_)) (by simp [bL,h3])
  have hok:=g.ok
  simp only [dT.okB,Bool.and_eq_true,bH,decide_eq_true_eq,List.all_eq_true] at hok
  have:=i3 h3
  rw [List.getElem?_eq_getElem (by omega)]
  exact hok.2.2.1 _ (List.getElem_mem _)
 rw [if_neg h3]
 by_cases h4 : x.o=4
 ·rw [if_pos h4]
  exact go _ _ (inc (by omega) (by omega)) (one _ oH) (by simp [bL,h4])
 rw [if_neg h4]
 by_cases h5 : x.o=5
 ·rw [if_pos h5]
  exact go _ _ (inc (by omega) (by omega)) (one _ (aMR (i5 (.inl h5)))) (by simp [bL,h5])
 rw [if_neg h5]
 by_cases h6 : x.o=6
 ·rw [if_pos h6]
  exact go _ _ (inc (by omega) (by omega)) (one _ (aKa t.vl _)) (by simp [bL,h6])
 rw [if_neg h6]
 by_cases h7 : x.o=7
 ·rw [if_pos h7]
  exact ⟨rfl,inc (by omega) (by omega),by simp,by rw [hlef];simp only;rw [hlt];simp [bL,h7],aLX t.vl ka _,kt,Nat.le_refl _,h.hp⟩
 rw [if_neg h7]
 by_cases h8 : x.o=8
 ·rw [if_pos h8]
  exact go _ _ (inc (by omega) (by omega)) (two _ _ ka ka) (by simp [bL,h8])
 rw [if_neg h8]
 by_cases h9 : x.o=9
 ·rw [if_pos h9]
  exact go _ _ (inc (by omega) (by omega)) (by simp) (by simp [bL,h9])
 rw [if_neg h9]
 by_cases h10 : x.o=10
 ·rw [if_pos h10]
  exact go _ _ (inc (by omega) (by omega)) (two _ _ kb ka) (by simp [bL,h10])
 rw [if_neg h10]
 by_cases h15 : x.o≤15
 ·rw [if_pos h15]
  have hu : (bL m.funcs x).2=1:=by
   have : x.o=11∨x.o=12∨x.o=13∨x.o=14∨x.o=15:=by omega
   rcases this with h | h | h | h | h<;>simp [bL,h]
  split
  ·trivial
  ·exact go _ _ (inc (by omega) (by omega)) (one _ (aNv ka kb)) (by rw [hu];rfl)
 rw [if_neg h15]
 by_cases h16 : x.o=16
 ·rw [if_pos h16]
  split
  ·trivial
  ·refine go _ _ (inc (by omega) (by omega)) (one _ ?_) (by simp [bL,h16])
   unfold aDE
   split
   ·exact oH
   ·exact aB4
 rw [if_neg h16]
 by_cases h17 : x.o=17
 ·rw [if_pos h17]
  exact go0 _ (aE6 (.inl h17)) (by simp [bL,h17])
 rw [if_neg h17]
 by_cases h19 : x.o≤19
 ·rw [if_pos h19]
  have h89 : x.o=18∨x.o=19:=by omega
  have hu : (bL m.funcs x).2=0:=by rcases h89 with h | h<;>simp [bL,h]
  split
  ·trivial
  split
  ·exact go0 _ (aE6 (.inr h89)) hu
  ·exact go _ _ (inc (by omega) (by omega)) (by simp) (by rw [hu];rfl)
 rw [if_neg h19]
 by_cases h20 : x.o=20
 ·rw [if_pos h20]
  split
  ·trivial
  rename_i hm
  have hm0:=h.hp.made
  have hl : (v.hp++[List.replicate x.a.toNat fB]).length=v.hp.length+1:=by simp
  refine ⟨rfl,inc (by omega) (by omega),rfl,?_,λy hy=>sG (by rw [hl];omega) (t.vl y hy),aHc (λy hy=>sG (by rw [hl];omega) (kt y hy)) (λy hy=>?_),by rw [hl];omega,⟨by rw [hl];omega,λr hr=>?_,h.hp.out⟩⟩
  ·rw [hlef];simp only [List.length_append,List.length_singleton]
   have hu : (bL m.funcs x).2=1:=by simp [bL,h20]
   omega
  ·rw [List.mem_singleton] at hy
   rw [hy]
   exact aMQ (by rw [hl];omega)
  ·rcases List.mem_append.1 hr with hr | hr
   ·exact ⟨(h.hp.recs r hr).1,λy hy=>sG (by rw [hl];omega) ((h.hp.recs r hr).2 y hy)⟩
   ·rw [List.mem_singleton] at hr
    rw [hr]
    have:=i20 h20
    refine ⟨by rw [List.length_replicate];omega,λy hy=>?_⟩
    rw [List.eq_of_mem_replicate hy]
    exact oH
 rw [if_neg h20]
 by_cases h21 : x.o=21
 ·rw [if_pos h21]
  split
  ·trivial
  split
  ·trivial
  exact go _ _ (inc (by omega) (by omega)) (one _ (aKa (aJv h.hp _).2 _)) (by simp [bL,h21])
 rw [if_neg h21]
 by_cases h22 : x.o=22
 ·rw [if_pos h22]
  split
  ·trivial
  split
  ·trivial
  have hl : ∀ r,(v.hp.set (D.headD fB).n.toNat r).length=v.hp.length:=λr=>List.length_set
  refine ⟨rfl,inc (by omega) (by omega),rfl,by rw [hlef];simp only;rw [hlt];simp [bL,h22],λy hy=>by rw [vOk,hl];exact t.vl y hy,λy hy=>by rw [vOk,hl];exact kt y hy,by rw [hl];omega,⟨by rw [hl];exact h.hp.made,λr hr=>?_,h.hp.out⟩⟩
  rw [hl]
  rcases List.mem_or_eq_of_mem_set hr with hr | hr
  ·exact h.hp.recs r hr
  ·rw [hr]
   exact ⟨by rw [List.length_set];exact (aJv h.hp _).1,aLX (aJv h.hp _).2 kb _⟩
 rw [if_neg h22]
 by_cases h23 : x.o=23
 ·rw [if_pos h23]
  have hxa:=i23 h23
  have hu : bL m.funcs x=(x.a+1,1):=by
   have : 0≤x.a∧x.a≤6:=hxa
   simp [bL,h23,this]
  rw [hu] at hld hb
  simp only at hld hb
  split
  ·trivial
  rename_i hk
  have hk : (D.headD fB).k=5:=by omega
  split
  ·trivial
  rename_i hp
  have hp : iN m.funcs (D.headD fB).n=x.a:=by omega
  split
  ·trivial
  rename_i hd
  refine ⟨?_,.inl h23,?_,_,_,rfl,aGk ka hk,by rw [List.length_tail,hp];omega,ktl⟩
  ·omega
  ·rw [← htk,← hb,hu]
 rw [if_neg h23]
 by_cases h24 : x.o=24
 ·rw [if_pos h24]
  have hxa:=i5 (.inr h24)
  have hu : bL m.funcs x=(iN m.funcs x.a,1):=by
   have : 0≤x.a∧x.a<m.funcs.length:=hxa
   simp [bL,h24,this]
  rw [hu] at hld hb
  simp only at hld hb
  split
  ·trivial
  rename_i hd
  refine ⟨?_,.inr h24,?_,_,_,rfl,hxa,hld,kd⟩
  ·omega
  ·rw [← htk,← hb,hu]
 rw [if_neg h24]
 by_cases h25 : x.o=25
 ·rw [if_pos h25]
  exact ka
 rw [if_neg h25]
 have h26 : x.o=26:=by omega
 split
 ·trivial
 rename_i ho
 have:=h.hp.out
 exact ⟨rfl,inc (by omega) (by omega),rfl,by rw [hlef];simp only;rw [hlt];simp [bL,h26],t.vl,kt,Nat.le_refl _,⟨h.hp.made,h.hp.recs,by simp;omega⟩⟩
end
theorem aB5 {α : Type} {a b : List α} {x y : α} (h : a++[x]=b++[y]) : a=b∧x=y:=by
 have:=List.append_inj' h rfl
 exact ⟨this.1,by simpa using this.2⟩
theorem aK6.top {m : dT} {n : Int} {f : eU} {a : eL} (h : aK6 m n f) (ha : vOk m n a) : aJu m n ⟨f.f,f.pc,f.loc,f.stk++[a]⟩:=
 ⟨⟨h.fi,h.pc,h.loc,h.d,h.vl,aHc h.vs (λy hy=>by rw [List.mem_singleton] at hy;rw [hy];exact ha)⟩,by
   have:=h.h
   simp only [List.length_append,List.length_singleton]
   omega⟩
theorem aIl {m : dT} (g : kV m) {n i : Int} {args : List eL} (hi : 0≤i∧i<m.funcs.length) (hn : (args.length : Int)=iN m.funcs i) (ha : ∀ y∈args,vOk m n y) : aJu m n (xB m.funcs i args):=by
 obtain ⟨k,hk,he,hc,F,p1,p2,p3,p4,hlc,hpar,hins⟩:=g.code hi
 have h0 : dAt m i 0=0:=by
  rw [dAt,hc,Int.toNat_zero,aIa F];rfl
 refine ⟨⟨hi,?_,?_,?_,?_,λy hy=>by cases hy⟩,?_⟩
 ·show (0 : Int)≤0∧0<((dB m.funcs i).length : Int)
  have:=F.n1
  rw [hc];omega
 ·show ((args++List.replicate ((aCJ m.funcs i).toNat - args.length) fB).length : Int)=aCJ m.funcs i
  rw [List.length_append,List.length_replicate]
  omega
 ·show 0≤dAt m i 0
  omega
 ·refine aHc ha (λy hy=>?_)
  rw [List.eq_of_mem_replicate hy]
  exact oH
 ·show ((0 : Nat) : Int)=dAt m i 0
  omega
theorem VmI.step {m : dT} (g : kV m) {v : uC} (h : VmI m v) : VmI m (uV m v):=by
 by_cases h0 : v.st≠0
 ·have : uV m v=v:=by unfold uV;rw [if_pos h0]
  rw [this];exact h
 have h0 : v.st=0:=by omega
 by_cases h5 : v.steps=50000
 ·have : uV m v=v:=by unfold uV;rw [if_neg (by omega),if_pos h5]
  rw [this];exact h
 obtain ⟨fs0,f,G⟩:=h.goes g h0
 obtain ⟨t,low⟩:=h.top fs0 f G.fr
 have hnf:=h.nfr
 rw [G.fr,List.length_append,List.length_singleton] at hnf
 have hst:=h.steps
 rw [aGm h0 h5 G.fr]
 have A:=aNw (fs0:=fs0) g h t rfl hnf
 obtain ⟨a1,a2,a3,a4,a5⟩:=g.at_ t.fi t.pc t.d
 have hh:=t.h
 have hx : bS m f.f f.pc=lN m.funcs f:=rfl
 rw [hx] at a1 a2 a4 a5
 cases ha : aE4 m v fs0 f with
 | trap c=>
   exact ⟨h.hp,by show 0≤v.steps+1∧v.steps+1≤50000;omega,h.nfr,λh=>absurd h (by show (2 : Int)≠0;omega),h.top⟩
 | next fr hp made out=>
   rw [ha] at A
   have A : aJ9 m v f (lN m.funcs f) fr hp made out:=A
   obtain ⟨b1,b2⟩:=a5 _ A.pc
   refine ⟨A.hpI,by show 0≤v.steps+1∧v.steps+1≤50000;omega,by show (fs0++[fr]).length≤24;rw [List.length_append,List.length_singleton];exact hnf,λ_=>by show fs0++[fr]≠[];simp,λfs1 f1 he=>?_⟩
   obtain ⟨rfl,rfl⟩:=aB5 (show fs0++[fr]=fs1++[f1] from he)
   refine ⟨⟨⟨by rw [A.ff];exact t.fi,by rw [A.ff];exact b1,by rw [A.ff,A.loc];exact t.loc,by rw [A.ff,b2];have:=A.len;rw [hh] at this;omega,A.vl,A.vs⟩,by rw [A.len,A.ff,b2,hh]⟩,λf hf=>(low f hf).mono (n':=(hp.length : Int)) (by have:=A.n;omega)⟩
 | call fr gg=>
   rw [ha] at A
   have A : aNj m v fs0 f (lN m.funcs f) fr gg:=A
   obtain ⟨i,args,rfl,hi,hn,hv⟩:=A.gg
   have hnx : f.pc+1∈fP (lN m.funcs f) f.pc:=aGp (by have:=A.o;omega)
   obtain ⟨b1,b2⟩:=a5 _ hnx
   have hu2 : (bL m.funcs (lN m.funcs f)).2=1:=by
    have ib:=uT a1
    rcases A.o with ho | ho
    ·have:=ib.2.2.2.2.2.1 ho
     simp [bL,ho,this]
    ·have:=ib.2.2.2.2.2.2.1 (.inr ho)
     simp [bL,ho,this]
   have hlef : gU m.funcs (lN m.funcs f) (dAt m f.f f.pc)=dAt m f.f f.pc - (bL m.funcs (lN m.funcs f)).1+(bL m.funcs (lN m.funcs f)).2:=rfl
   refine ⟨h.hp,by show 0≤v.steps+1∧v.steps+1≤50000;omega,by show (fs0++[fr,xB m.funcs i args]).length≤24;rw [List.length_append];have:=A.n;simp only [List.length_cons,List.length_nil];omega,λ_=>by show fs0++[fr,xB m.funcs i args]≠[];simp,λfs1 f1 he=>?_⟩
   have he : fs0++[fr,xB m.funcs i args]=fs1++[f1]:=he
   rw [show fs0++[fr,xB m.funcs i args]=(fs0++[fr])++[xB m.funcs i args] by simp] at he
   obtain ⟨rfl,rfl⟩:=aB5 he
   refine ⟨aIl g hi hn hv,λy hy=>?_⟩
   rcases List.mem_append.1 hy with hy | hy
   ·exact low y hy
   ·rw [List.mem_singleton] at hy
    rw [hy,A.frr]
    refine ⟨⟨t.fi,b1,t.loc,by show 0≤dAt m f.f (f.pc+1);rw [b2];omega,t.vl,λy hy=>t.vs y (List.mem_of_mem_take hy)⟩,?_,?_⟩
    ·show 1≤f.pc+1∧0≤dAt m f.f (f.pc+1 - 1)∧((bS m f.f (f.pc+1 - 1)).o=23∨(bS m f.f (f.pc+1 - 1)).o=24)
     rw [show f.pc+1 - 1=f.pc by omega]
     exact ⟨by have:=t.pc;omega,t.d,A.o⟩
    ·show ((f.stk.take (f.stk.length - (bL m.funcs (lN m.funcs f)).1.toNat)).length : Int)=dAt m f.f (f.pc+1) - 1
     rw [b2,List.length_take]
     omega
 | ret a=>
   rw [ha] at A
   have A : vOk m v.hp.length a:=A
   by_cases hf : fs0 = []
   ·have e : aIh m v fs0 (.ret a)=⟨[],v.hp,v.made,v.out,1,v.tr,a,v.steps+1⟩:=if_pos hf
    rw [e]
    exact ⟨h.hp,by show 0≤v.steps+1∧v.steps+1≤50000;omega,by simp,λh=>absurd h (by show (1 : Int)≠0;omega),λfs1 f1 he=>by simp at he⟩
   ·have e : aIh m v fs0 (.ret a)=⟨aE1 a fs0,v.hp,v.made,v.out,v.st,v.tr,v.val,v.steps+1⟩:=if_neg hf
    rw [e]
    rcases List.eq_nil_or_concat fs0 with e0 | ⟨fs1,f1,e1⟩
    ·exact absurd e0 hf
    rw [List.concat_eq_append] at e1
    subst e1
    rw [aBd]
    simp only [List.length_append,List.length_singleton] at hnf
    refine ⟨h.hp,by show 0≤v.steps+1∧v.steps+1≤50000;omega,by simp only [List.length_append,List.length_singleton];omega,λ_=>by simp,λfs2 f2 he=>?_⟩
    obtain ⟨rfl,rfl⟩:=aB5 he
    exact ⟨(low f1 (by simp)).top A,λy hy=>low y (by simp [hy])⟩
end
noncomputable section
open Go
attribute [local irreducible] bd PV.ite PV.guardFlat PV.guardOwn PV.whole PV.one PV.cell PV.sub PV.at_ PV.len PV.slen PV.chr PV.beq PV.peq PV.ceq PV.bin PV.neg PV.not PV.conv PV.cut PV.scut PV.cat PV.setAt PV.setCell PV.ncopy PV.copyIn PV.zeros PV.toStr PV.toBytes PV.deref PV.isPtr PV.comp PV.inb PV.off PV.imin PV.imax PV.sel PV.apply PV.isLst PV.isInt PV.ix PV.nilT
def aNU (x : PV) : Prop:=∃ o a : Int,x = .agg [.I o,.I a]∧(-9223372036854775808≤o∧o≤9223372036854775807)∧(-9223372036854775808≤a∧a≤9223372036854775807)
def Cd (cs : R) : Prop:=∀ x∈cs,aNU x
theorem Cd.el {cs : R} (h : Cd cs) : ∀ x∈cs,x.isEl 2 true=true:=by
 intro x hx
 obtain ⟨o,a,rfl,_⟩:=h x hx
 rfl
theorem Cd.nil : Cd []:=λx hx=>by cases hx
theorem Cd.append {a b : R} (h : Cd a) (k : Cd b) : Cd (a++b):=λx hx=>(List.mem_append.1 hx).elim (h x) (k x)
theorem Cd.one {o a : Int} (h : -9223372036854775808≤o∧o≤9223372036854775807) (k : -9223372036854775808≤a∧a≤9223372036854775807) : Cd [.agg [.I o,.I a]]:=by
 intro x hx
 simp only [List.mem_singleton] at hx
 exact ⟨o,a,hx,h,k⟩
section
variable {P : R → Prop} {k : R → OR}
theorem lT {o x : Int} {F T L M C A S : PV} {cs : R} (ho : -9223372036854775808≤o∧o≤9223372036854775807) (hx : -9223372036854775808≤x∧x≤9223372036854775807) (hc : Cd cs) (hl : (cs.length : Int)≤1000000000)
 (h : ∀ cs' : R,Cd cs'→(cs'.length : Int)=cs.length+1→Ok P (k [F,T,L,M,C,A,S,.lst cs'])) : Ok P (bd (aH (.I o) (.I x) F T L M C A S (.lst cs)) k):=by
 refine aI (Q:=λr=>r = [F,T,L,M,C,A,S,.lst (cs++[.agg [.I o,.I x]])]) ?_ (λr hr=>?_)
 ·rw [aA8]
  refine aT rfl (aT rfl (jI ?_ (Cd.one ho hx).el (aB rfl)))
  simp only [List.length_cons,List.length_nil]
  omega
 ·rw [hr]
  exact h _ (hc.append (Cd.one ho hx)) (by simp)
theorem sH {x : Int} {F T L M C A S D : PV} (hx : 0≤x∧x≤1000000000) (h : Ok P (k [.I (x+1),F,T,L,M,C,A,S,D])) : Ok P (bd (jN (.I x) F T L M C A S D) k):=by
 refine aI (Q:=λr=>r = [.I (x+1),F,T,L,M,C,A,S,D]) ?_ (λr hr=>by rw [hr];exact h)
 rw [wW]
 refine aP (by omega) (aB rfl)
end
def aJw : PV→Bool
 | .int .i64 n=>decide (-1000000000≤n)&&decide (n≤1000000000)
 | _=>false
theorem aE7 {x : PV} (h : aJw x=true) : ∃ n : Int,x = .I n∧-1000000000≤n∧n≤1000000000:=by
 unfold aJw at h
 split at h
 ·rename_i n
  simp only [Bool.and_eq_true,decide_eq_true_eq] at h
  exact ⟨n,rfl,h⟩
 ·cases h
theorem mW {P : R→Prop} {k : PV→OR} {xs : R} {i : Int} (hx : xs.all aJw=true) (h0 : 0≤i) (h1 : i<xs.length) (h : ∀ x : Int,-1000000000≤x∧x≤1000000000→Ok P (k (.I x))) : Ok P (bd (PV.at_ 1 false (.lst xs) (.I i)) k):=by
 rw [List.all_eq_true] at hx
 refine rG h0 h1 (λx hm=>?_) (λx hm _=>?_)
 ·obtain ⟨n,rfl,_⟩:=aE7 (hx x hm);rfl
 ·obtain ⟨n,rfl,hn⟩:=aE7 (hx x hm);exact h n hn
theorem dJ {P : R→Prop} {k : PV→OR} {cs : R} {m n : Int} (hc : Cd cs) (h0 : 0≤m) (h1 : m≤n) (h2 : n≤cs.length) (h : ∀ cs' : R,Cd cs'→(cs'.length : Int)=n - m→Ok P (k (.lst cs'))) :
 Ok P (bd (PV.cut 2 true (.lst cs) (.I m) (.I n)) k):=by
 refine aAw h0 h1 h2 hc.el (h _ (λx hx=>hc x (List.mem_of_mem_take (List.mem_of_mem_drop hx))) ?_)
 rw [List.length_drop,List.length_take]
 omega
theorem fU {P : R→Prop} {k : PV→OR} {cs : R} {i n : Int} (hc : Cd cs) (h0 : 0≤i) (h1 : i<cs.length) (hn : -9223372036854775808≤n∧n≤9223372036854775807) (h : ∀ cs' : R,Cd cs'→(cs'.length : Int)=cs.length→Ok P (k (.lst cs'))) :
 Ok P (bd (PV.setCell 2 (.lst cs) (.I i) 1 (.I n)) k):=by
 have hlt : i.toNat<cs.length:=by omega
 have hx : cs[i.toNat]? = some cs[i.toNat]:=List.getElem?_eq_getElem hlt
 obtain ⟨o,a,he,ho,ha⟩:=hc _ (List.mem_of_getElem? hx)
 rw [he] at hx
 refine fQ h0 hx rfl (by omega) rfl (h _ (λx hm=>?_) (by rw [List.length_set]))
 rcases List.mem_or_eq_of_mem_set hm with h | h
 ·exact hc x h
 ·exact ⟨o,n,h,ho,hn⟩
def jO (x : PV) : Prop:=∃ p lc : Int,∃ cs : R,x = .agg [.I p,.I lc,.lst cs]∧(0≤p∧p≤2)∧(0≤lc∧lc≤100)∧Cd cs∧1≤(cs.length : Int)∧(cs.length : Int)≤100000000
structure Asm (l : List Int) (fs : R) (t lc : Int) : Prop where
 hl : Bts l
 hf : ∀ x∈fs,jO x
 hn : fs.length≤1000
 ht : 0≤t∧t≤1000
 hlc : 1≤lc∧lc≤1000
theorem jO.el {fs : R} (h : ∀ x∈fs,jO x) : ∀ x∈fs,x.isEl 3 true=true:=by
 intro x hx
 obtain ⟨p,lc,cs,rfl,_⟩:=h x hx
 rfl
def aNV (l : List Int) (fs : R) (t lc : Int) (mn : PV) (A B0 B : Int) (r : R) : Prop:=∃ a s : Int,∃ cs : R,r = [.lst fs,.I t,.I lc,mn,aZ l,.I a,.I s,.lst cs]∧0≤a∧a≤A∧0≤s∧s<65521∧B0≤cs.length∧(cs.length : Int)≤B∧Cd cs
def lO (l : List Int) (fs : R) (t lc : Int) (mn : PV) (c : Int) (f : PV→PV→PV→PV→PV→PV→PV→PV→OR) : Prop:=
 ∀ (a s : Int) (cs : R),0≤a∧a+c≤1000000000∧0≤s∧s<65521→(cs.length : Int)+c≤1000000000→Cd cs→
   Ok (aNV l fs t lc mn (a+c) cs.length (cs.length+c)) (f (.lst fs) (.I t) (.I lc) mn (aZ l) (.I a) (.I s) (.lst cs))
section
variable {P : R → Prop} {k : R → OR} {l : List Int} {fs : R} {t lc : Int} {mn : PV}
theorem iM {c : Int} {f : PV→PV→PV→PV→PV→PV→PV→PV→OR} (H : lO l fs t lc mn c f) {a s : Int} {cs : R} (h0 : 0≤a∧a+c≤1000000000∧0≤s∧s<65521) (hl : (cs.length : Int)+c≤1000000000) (hc : Cd cs)
 (h : ∀ (a' s' : Int) (cs' : R),0≤a'∧a'≤a+c∧0≤s'∧s'<65521∧(cs.length : Int)≤cs'.length∧(cs'.length : Int)≤cs.length+c→Cd cs'→
  Ok P (k [.lst fs,.I t,.I lc,mn,aZ l,.I a',.I s',.lst cs'])) :
 Ok P (bd (f (.lst fs) (.I t) (.I lc) mn (aZ l) (.I a) (.I s) (.lst cs)) k):=
 aI (H a s cs h0 hl hc) (λr ⟨a',s',cs',hr,h1,h2,h3,h4,h5,h6,h7⟩=>by rw [hr];exact h a' s' cs' ⟨h1,h2,h3,h4,h5,h6⟩ h7)
theorem lO.mono {c c' : Int} {f : PV→PV→PV→PV→PV→PV→PV→PV→OR} (H : lO l fs t lc mn c f) (hc : 0≤c∧c≤c') : lO l fs t lc mn c' f:=by
 intro a s cs h0 hl hcs
 refine (H a s cs (by omega) (by omega) hcs).mono ?_
 rintro r ⟨a',s',cs',hr,h1,h2,h3,h4,h5,h6,h7⟩
 exact ⟨a',s',cs',hr,h1,by omega,h3,h4,h5,by omega,h7⟩
theorem aIm (H : Asm l fs t lc) : lO l fs t lc mn 3 (λF T L M C A S D=>fK F T L M C A S D):=by
 intro a s cs h0 hl hc
 obtain ⟨hb,hfs,hfl,ht,hlc⟩:=H
 show Ok _ (fK _ _ _ _ _ _ _ _)
 rw [uP]
 repeat' (first | refine lT (by omega) (by omega) (by assumption) (by omega) (λ_ _ _=>?_) | refine bC hb (by omega) (by omega) (λ_ _ _ _=>?_) | refine iF hb (by omega) (by omega) (λ_ _ _ _=>?_) | refine cT (by omega) (by first | omega | (simp;omega)) ?_ | refine mW rfl (by omega) (by first | omega | (simp;omega)) (λ_ _=>?_) | refine fU (by assumption) (by omega) (by omega) (by omega) (λ_ _ _=>?_) | refine sH (by omega) ?_ | refine dJ (by assumption) (by omega) (by omega) (by omega) (λ_ _ _=>?_) | refine aJ ?_ | refine dX ?_ | refine cD ?_ | refine dY ?_ | refine aG ?_ | refine bM ?_ | (refine aC (λ_=>?_) (λ_=>?_)) | (refine aN (λ_=>?_) (λ_=>?_)) | refine aS (λ_=>?_) (λ_=>?_) | refine aP (by omega) ?_ | refine bF (by omega) ?_ | refine iH (by omega) (by omega) ?_ | refine iU (by omega) (by omega) (by omega) ?_ | refine iT (by omega) ?_ | refine gV (by omega) ?_ | refine bN ?_ | refine cX ?_ | refine dQ ?_ | refine bG ?_ | refine gW (by omega) ?_ | refine aT rfl ?_ | refine aA rfl ?_ | refine aU rfl ?_ | refine aE rfl ?_ | exact aB ⟨_,_,_,rfl,by omega,by omega,by omega,by omega,by omega,by omega,by assumption⟩)
theorem lJ {c : Int} {f : PV→PV→PV→PV→PV→PV→PV→PV→OR} (H : lO l fs t lc mn c f) {a s A B0 B : Int} {cs : R} (h0 : 0≤a∧a+c≤1000000000∧0≤s∧s<65521) (hl : (cs.length : Int)+c≤1000000000) (hc : Cd cs)
 (hA : a+c≤A) (hB0 : B0≤cs.length) (hB : cs.length+c≤B) :
 Ok (aNV l fs t lc mn A B0 B) (f (.lst fs) (.I t) (.I lc) mn (aZ l) (.I a) (.I s) (.lst cs)):=by
 refine (H a s cs h0 hl hc).mono ?_
 rintro r ⟨a',s',cs',hr,h1,h2,h3,h4,h5,h6,h7⟩
 exact ⟨a',s',cs',hr,h1,by omega,h3,h4,by omega,by omega,h7⟩
def aIn (l : List Int) (fs : R) (t lc : Int) (mn : PV) (n c : Int) : Prop:=∀ d : Int,-1000≤d→d≤n→lO l fs t lc mn c (λF T L M C A S D=>aM (.I d) F T L M C A S D)
theorem aKb (H : Asm l fs t lc) : aIn l fs t lc mn 0 3:=by
 intro d hd1 hd2 a s cs h0 hl hc
 show Ok _ (aM _ _ _ _ _ _ _ _ _)
 rw [pW]
 refine dX (aC (λ_=>?_) (λh=>absurd hd2 h))
 exact aIm H a s cs h0 hl hc
section
variable {n c : Int} (V : aIn l fs t lc mn n c) (H : Asm l fs t lc) (hc0 : 0 ≤ c ∧ c ≤ 2097152 ∧ 0 ≤ n ∧ n ≤ 100)
include V H hc0
theorem tK (m : Int) (hm : 1≤m∧m≤3) (K : Int) (hK : 4≤K∧K≤1000000000) (j : Int) (hj : 0≤j∧j≤10) (ih : ∀ d i : Int,-500≤d→d≤n+1→0≤i→i<j→lO l fs t lc mn K (λF T L M C A S D=>dV (.I d) (.I m) (.I i) F T L M C A S D)) :
 ∀ d i : Int,-500≤d→d≤n+1→0≤i→i≤j→lO l fs t lc mn (K+c+4) (λF T L M C A S D=>dV (.I d) (.I m) (.I i) F T L M C A S D):=by
 intro d i hd1 hd2 hi1 hi2 a s cs h0 hl hc
 obtain ⟨hb,hfs,hfl,ht,hlc⟩:=H
 show Ok _ (dV _ _ _ _ _ _ _ _ _ _ _)
 rw [uA]
 refine cD (aC (λ_=>?_) (λ_=>?_))
 ·refine lT (by omega) (by omega) (by assumption) (by omega) (λ_ _ _=>?_)
  refine bF (by omega) ?_
  refine iM (V _ (by omega) (by omega)) (by omega) (by omega) (by assumption) (λ_ _ _ _ _=>?_)
  refine bC hb (by omega) (by omega) (λ_ _ _ _=>?_)
  refine lT (by omega) (by omega) (by assumption) (by omega) (λ_ _ _=>?_)
  refine bF (by omega) ?_
  exact lJ (ih d _ hd1 hd2 (by omega) (by omega)) (by omega) (by omega) (by assumption) (by omega) (by omega) (by omega)
 ·repeat' (first | refine lT (by omega) (by omega) (by assumption) (by omega) (λ_ _ _=>?_) | refine bC hb (by omega) (by omega) (λ_ _ _ _=>?_) | refine iF hb (by omega) (by omega) (λ_ _ _ _=>?_) | refine cT (by omega) (by first | omega | (simp;omega)) ?_ | refine mW rfl (by omega) (by first | omega | (simp;omega)) (λ_ _=>?_) | refine fU (by assumption) (by omega) (by omega) (by omega) (λ_ _ _=>?_) | refine sH (by omega) ?_ | refine dJ (by assumption) (by omega) (by omega) (by omega) (λ_ _ _=>?_) | refine aJ ?_ | refine dX ?_ | refine cD ?_ | refine dY ?_ | refine aG ?_ | refine bM ?_ | (refine aC (λ_=>?_) (λ_=>?_)) | (refine aN (λ_=>?_) (λ_=>?_)) | refine aS (λ_=>?_) (λ_=>?_) | refine aP (by omega) ?_ | refine bF (by omega) ?_ | refine iH (by omega) (by omega) ?_ | refine iU (by omega) (by omega) (by omega) ?_ | refine iT (by omega) ?_ | refine gV (by omega) ?_ | refine bN ?_ | refine cX ?_ | refine dQ ?_ | refine bG ?_ | refine gW (by omega) ?_ | refine aT rfl ?_ | refine aA rfl ?_ | refine aU rfl ?_ | refine aE rfl ?_ | exact aB ⟨_,_,_,rfl,by omega,by omega,by omega,by omega,by omega,by omega,by assumption⟩)
theorem aK8 : ∀ d : Int,-500≤d→d≤n+1→lO l fs t lc mn (4*c+40) (λF T L M C A S D=>gO (.I d) F T L M C A S D):=by
 intro d hd1 hd2 a s cs h0 hl hc
 have H':=H
 obtain ⟨hb,hfs,hfl,ht,hlc⟩:=H
 show Ok _ (gO _ _ _ _ _ _ _ _ _)
 rw [wV]
 refine bC hb (by omega) (by omega) (λv _ _ _=>?_)
 refine aP (by omega) ?_
 refine lT (by omega) (by omega) (by assumption) (by omega) (λ_ _ _=>?_)
 refine aP (by omega) ?_
 refine bC hb (by omega) (by omega) (λw _ _ _=>?_)
 have L0:=tK V H' hc0 (1+v) (by omega) 4 (by omega) 0 (by omega) (λd i _ _ h1 h2=>by omega)
 have L1:=tK V H' hc0 (1+v) (by omega) (4+c+4) (by omega) 1 (by omega) (λd i g1 g2 h1 h2=>L0 d i g1 g2 h1 (by omega))
 have L2:=tK V H' hc0 (1+v) (by omega) (4+c+4+c+4) (by omega) 2 (by omega) (λd i g1 g2 h1 h2=>L1 d i g1 g2 h1 (by omega))
 have L3:=tK V H' hc0 (1+v) (by omega) (4+c+4+c+4+c+4) (by omega) 3 (by omega) (λd i g1 g2 h1 h2=>L2 d i g1 g2 h1 (by omega))
 exact lJ (L3 d w hd1 hd2 (by omega) (by omega)) (by omega) (by omega) (by assumption) (by omega) (by omega) (by omega)
def Par (fs : R) (i p : Int) : Prop:=0≤i∧i<fs.length∧(0≤p∧p≤2)∧∃ q r : PV,fs[i.toNat]? = some (.agg [.I p,q,r])
omit V H hc0 in
theorem aHd (H : Asm l fs t lc) {P : R→Prop} {k : PV→OR} {i p : Int} (hp : Par fs i p) (h : ∀ q r : PV,Ok P (k (.agg [.I p,q,r]))) : Ok P (bd (PV.at_ 3 true (.lst fs) (.I i)) k):=by
 obtain ⟨h0,h1,_,q,r,hq⟩:=hp
 refine rG h0 h1 (jO.el H.hf) (λx _ hx=>?_)
 rw [hq] at hx
 cases hx
 exact h q r
omit V H hc0 in
theorem aLY (H : Asm l fs t lc) {i : Int} (h0 : 0≤i) (h1 : i<fs.length) : ∃ p,Par fs i p:=by
 have hlt : i.toNat<fs.length:=by omega
 have hx : fs[i.toNat]? = some fs[i.toNat]:=List.getElem?_eq_getElem hlt
 obtain ⟨p,lc,cs,he,hp,_⟩:=H.hf _ (List.mem_of_getElem? hx)
 exact ⟨p,h0,h1,hp,.I lc,.lst cs,by rw [hx,he]⟩
theorem yY (f p : Int) (hp : Par fs f p) (K : Int) (hK : 1≤K∧K≤100000000) (j : Int) (ih : ∀ d i : Int,-500≤d→d≤n+1→0≤i→i≤p→p - i<j→lO l fs t lc mn K (λF T L M C A S D=>cK (.I d) (.I f) (.I i) F T L M C A S D)) :
 ∀ d i : Int,-500≤d→d≤n+1→0≤i→i≤p→p - i≤j→lO l fs t lc mn (K+c) (λF T L M C A S D=>cK (.I d) (.I f) (.I i) F T L M C A S D):=by
 intro d i hd1 hd2 hi1 hi2 hi3 a s cs h0 hl hc
 have H':=H
 obtain ⟨hb,hfs,hfl,ht,hlc⟩:=H
 have hp':=hp.2.2.1
 have hf1:=hp.1
 have hf2:=hp.2.1
 show Ok _ (cK _ _ _ _ _ _ _ _ _ _ _)
 rw [tX]
 refine aHd H' hp (λq r=>aA rfl (aJ (aC (λ_=>?_) (λ_=>?_))))
 ·refine bF (by omega) ?_
  refine iM (V _ (by omega) (by omega)) (by omega) (by omega) (by assumption) (λ_ _ _ _ _=>?_)
  refine aP (by omega) ?_
  exact lJ (ih d _ hd1 hd2 (by omega) (by omega) (by omega)) (by omega) (by omega) (by assumption) (by omega) (by omega) (by omega)
 ·repeat' (first | refine lT (by omega) (by omega) (by assumption) (by omega) (λ_ _ _=>?_) | refine bC hb (by omega) (by omega) (λ_ _ _ _=>?_) | refine iF hb (by omega) (by omega) (λ_ _ _ _=>?_) | refine cT (by omega) (by first | omega | (simp;omega)) ?_ | refine mW rfl (by omega) (by first | omega | (simp;omega)) (λ_ _=>?_) | refine fU (by assumption) (by omega) (by omega) (by omega) (λ_ _ _=>?_) | refine sH (by omega) ?_ | refine dJ (by assumption) (by omega) (by omega) (by omega) (λ_ _ _=>?_) | refine aJ ?_ | refine dX ?_ | refine cD ?_ | refine dY ?_ | refine aG ?_ | refine bM ?_ | (refine aC (λ_=>?_) (λ_=>?_)) | (refine aN (λ_=>?_) (λ_=>?_)) | refine aS (λ_=>?_) (λ_=>?_) | refine aP (by omega) ?_ | refine bF (by omega) ?_ | refine iH (by omega) (by omega) ?_ | refine iU (by omega) (by omega) (by omega) ?_ | refine iT (by omega) ?_ | refine gV (by omega) ?_ | refine bN ?_ | refine cX ?_ | refine dQ ?_ | refine bG ?_ | refine gW (by omega) ?_ | refine aT rfl ?_ | refine aA rfl ?_ | refine aU rfl ?_ | refine aE rfl ?_ | exact aB ⟨_,_,_,rfl,by omega,by omega,by omega,by omega,by omega,by omega,by assumption⟩)
theorem aK9 (f : Int) (hf : 0≤f∧f<fs.length) : ∀ d : Int,-500≤d→d≤n+1→lO l fs t lc mn (3*c+10) (λF T L M C A S D=>cK (.I d) (.I f) (.I 0) F T L M C A S D):=by
 intro d hd1 hd2
 obtain ⟨p,hp⟩:=aLY H hf.1 hf.2
 have hp':=hp.2.2.1
 have L0:=yY V H hc0 f p hp 1 (by omega) 0 (λd i _ _ h1 h2 h3=>by omega)
 have L1:=yY V H hc0 f p hp (1+c) (by omega) 1 (λd i g1 g2 h1 h2 h3=>L0 d i g1 g2 h1 h2 (by omega))
 have L2:=yY V H hc0 f p hp (1+c+c) (by omega) 2 (λd i g1 g2 h1 h2 h3=>L1 d i g1 g2 h1 h2 (by omega))
 exact (L2 d 0 hd1 hd2 (by omega) (by omega) (by omega)).mono (by omega)
theorem aCM (f p : Int) (hp : Par fs f p) (K : Int) (hK : 1≤K∧K≤100000000) (j : Int) (ih : ∀ d i : Int,-500≤d→d≤n+1→0≤i→i≤p→p - i<j→lO l fs t lc mn K (λF T L M C A S D=>dU (.I d) (.I f) (.I i) F T L M C A S D)) :
 ∀ d i : Int,-500≤d→d≤n+1→0≤i→i≤p→p - i≤j→lO l fs t lc mn (K+c) (λF T L M C A S D=>dU (.I d) (.I f) (.I i) F T L M C A S D):=by
 intro d i hd1 hd2 hi1 hi2 hi3 a s cs h0 hl hc
 have H':=H
 obtain ⟨hb,hfs,hfl,ht,hlc⟩:=H
 have hp':=hp.2.2.1
 have hf1:=hp.1
 have hf2:=hp.2.1
 show Ok _ (dU _ _ _ _ _ _ _ _ _ _ _)
 rw [tZ]
 refine aHd H' hp (λq r=>aA rfl (aJ (aC (λ_=>?_) (λ_=>?_))))
 ·refine bF (by omega) ?_
  refine iM (V _ (by omega) (by omega)) (by omega) (by omega) (by assumption) (λ_ _ _ _ _=>?_)
  refine aP (by omega) ?_
  exact lJ (ih d _ hd1 hd2 (by omega) (by omega) (by omega)) (by omega) (by omega) (by assumption) (by omega) (by omega) (by omega)
 ·refine aHd H' hp (λq r=>aA rfl ?_)
  repeat' (first | refine lT (by omega) (by omega) (by assumption) (by omega) (λ_ _ _=>?_) | refine bC hb (by omega) (by omega) (λ_ _ _ _=>?_) | refine iF hb (by omega) (by omega) (λ_ _ _ _=>?_) | refine cT (by omega) (by first | omega | (simp;omega)) ?_ | refine mW rfl (by omega) (by first | omega | (simp;omega)) (λ_ _=>?_) | refine fU (by assumption) (by omega) (by omega) (by omega) (λ_ _ _=>?_) | refine sH (by omega) ?_ | refine dJ (by assumption) (by omega) (by omega) (by omega) (λ_ _ _=>?_) | refine aJ ?_ | refine dX ?_ | refine cD ?_ | refine dY ?_ | refine aG ?_ | refine bM ?_ | (refine aC (λ_=>?_) (λ_=>?_)) | (refine aN (λ_=>?_) (λ_=>?_)) | refine aS (λ_=>?_) (λ_=>?_) | refine aP (by omega) ?_ | refine bF (by omega) ?_ | refine iH (by omega) (by omega) ?_ | refine iU (by omega) (by omega) (by omega) ?_ | refine iT (by omega) ?_ | refine gV (by omega) ?_ | refine bN ?_ | refine cX ?_ | refine dQ ?_ | refine bG ?_ | refine gW (by omega) ?_ | refine aT rfl ?_ | refine aA rfl ?_ | refine aU rfl ?_ | refine aE rfl ?_ | exact aB ⟨_,_,_,rfl,by omega,by omega,by omega,by omega,by omega,by omega,by assumption⟩)
theorem aMT (f : Int) (hf : 0≤f∧f<fs.length) : ∀ d : Int,-500≤d→d≤n+1→lO l fs t lc mn (3*c+10) (λF T L M C A S D=>eZ (.I d) (.I f) F T L M C A S D):=by
 intro d hd1 hd2 a s cs h0 hl hc
 obtain ⟨p,hp⟩:=aLY H hf.1 hf.2
 have hp':=hp.2.2.1
 have L0:=aCM V H hc0 f p hp 1 (by omega) 0 (λd i _ _ h1 h2 h3=>by omega)
 have L1:=aCM V H hc0 f p hp (1+c) (by omega) 1 (λd i g1 g2 h1 h2 h3=>L0 d i g1 g2 h1 h2 (by omega))
 have L2:=aCM V H hc0 f p hp (1+c+c) (by omega) 2 (λd i g1 g2 h1 h2 h3=>L1 d i g1 g2 h1 h2 (by omega))
 show Ok _ (eZ _ _ _ _ _ _ _ _ _ _)
 rw [tY]
 exact lJ (L2 d 0 hd1 hd2 (by omega) (by omega) (by omega)) (by omega) (by omega) (by assumption) (by omega) (by omega) (by omega)
set_option maxRecDepth 100000 in
set_option maxHeartbeats 4000000 in
theorem aE8 : aIn l fs t lc mn (n+1) (4*c+50):=by
 intro d hd1 hd2 a s cs h0 hl hc
 have RO:=aK8 V H hc0
 have IK:=aK9 V H hc0
 have CO:=aMT V H hc0
 have C2:=aIm (mn:=mn) H
 obtain ⟨hb,hfs,hfl,ht,hlc⟩:=H
 show Ok _ (aM _ _ _ _ _ _ _ _ _)
 rw [pW]
 repeat' (first | refine iM (V _ (by omega) (by omega)) (by omega) (by omega) (by assumption) (λ_ _ _ _ _=>?_) | refine iM (RO _ (by omega) (by omega)) (by omega) (by omega) (by assumption) (λ_ _ _ _ _=>?_) | exact lJ C2 (by omega) (by omega) (by assumption) (by omega) (by omega) (by omega) | exact lJ (IK _ (by omega) _ (by omega) (by omega)) (by omega) (by omega) (by assumption) (by omega) (by omega) (by omega) | exact lJ (CO _ (by omega) _ (by omega) (by omega)) (by omega) (by omega) (by assumption) (by omega) (by omega) (by omega) | refine lT (by omega) (by omega) (by assumption) (by omega) (λ_ _ _=>?_) | refine bC hb (by omega) (by omega) (λ_ _ _ _=>?_) | refine iF hb (by omega) (by omega) (λ_ _ _ _=>?_) | refine cT (by omega) (by first | omega | (simp;omega)) ?_ | refine mW rfl (by omega) (by first | omega | (simp;omega)) (λ_ _=>?_) | refine fU (by assumption) (by omega) (by omega) (by omega) (λ_ _ _=>?_) | refine sH (by omega) ?_ | refine dJ (by assumption) (by omega) (by omega) (by omega) (λ_ _ _=>?_) | refine aJ ?_ | refine dX ?_ | refine cD ?_ | refine dY ?_ | refine aG ?_ | refine bM ?_ | (refine aC (λ_=>?_) (λ_=>?_)) | (refine aN (λ_=>?_) (λ_=>?_)) | refine aS (λ_=>?_) (λ_=>?_) | refine aP (by omega) ?_ | refine bF (by omega) ?_ | refine iH (by omega) (by omega) ?_ | refine iU (by omega) (by omega) (by omega) ?_ | refine iT (by omega) ?_ | refine gV (by omega) ?_ | refine bN ?_ | refine cX ?_ | refine dQ ?_ | refine bG ?_ | refine gW (by omega) ?_ | refine aT rfl ?_ | refine aA rfl ?_ | refine aU rfl ?_ | refine aE rfl ?_ | exact aB ⟨_,_,_,rfl,by omega,by omega,by omega,by omega,by omega,by omega,by assumption⟩)
end
end
section
variable {l : List Int} {fs : R} {t lc : Int} {mn : PV}
theorem aB6 (H : Asm l fs t lc) : aIn l fs t lc mn 1 62:=aE8 (aKb H) H (by omega)
theorem aHe (H : Asm l fs t lc) : aIn l fs t lc mn 2 298:=aE8 (aB6 H) H (by omega)
theorem aMU (H : Asm l fs t lc) : lO l fs t lc mn 100 (λF T L M C A S D=>lF F T L M C A S D):=by
 intro a s cs h0 hl hc
 have V1:=aB6 (mn:=mn) H
 have V0:=aKb (mn:=mn) H
 obtain ⟨hb,hfs,hfl,ht,hlc⟩:=H
 show Ok _ (lF _ _ _ _ _ _ _ _)
 rw [aAg]
 refine iM (V1 _ (by omega) (by omega)) (by omega) (by omega) (by assumption) (λ_ _ _ _ _=>?_)
 refine iM (V0 _ (by omega) (by omega)) (by omega) (by omega) (by assumption) (λ_ _ _ _ _=>?_)
 repeat' (first | refine lT (by omega) (by omega) (by assumption) (by omega) (λ_ _ _=>?_) | refine bC hb (by omega) (by omega) (λ_ _ _ _=>?_) | refine iF hb (by omega) (by omega) (λ_ _ _ _=>?_) | refine cT (by omega) (by first | omega | (simp;omega)) ?_ | refine mW rfl (by omega) (by first | omega | (simp;omega)) (λ_ _=>?_) | refine fU (by assumption) (by omega) (by omega) (by omega) (λ_ _ _=>?_) | refine sH (by omega) ?_ | refine dJ (by assumption) (by omega) (by omega) (by omega) (λ_ _ _=>?_) | refine aJ ?_ | refine dX ?_ | refine cD ?_ | refine dY ?_ | refine aG ?_ | refine bM ?_ | (refine aC (λ_=>?_) (λ_=>?_)) | (refine aN (λ_=>?_) (λ_=>?_)) | refine aS (λ_=>?_) (λ_=>?_) | refine aP (by omega) ?_ | refine bF (by omega) ?_ | refine iH (by omega) (by omega) ?_ | refine iU (by omega) (by omega) (by omega) ?_ | refine iT (by omega) ?_ | refine gV (by omega) ?_ | refine bN ?_ | refine cX ?_ | refine dQ ?_ | refine bG ?_ | refine gW (by omega) ?_ | refine aT rfl ?_ | refine aA rfl ?_ | refine aU rfl ?_ | refine aE rfl ?_ | exact aB ⟨_,_,_,rfl,by omega,by omega,by omega,by omega,by omega,by omega,by assumption⟩)
def aJy (l : List Int) (fs : R) (t lc : Int) (mn : PV) (n c : Int) : Prop:=∀ d : Int,-100≤d→d≤n→lO l fs t lc mn c (λF T L M C A S D=>jA (.I d) F T L M C A S D)
def aHf (l : List Int) (fs : R) (t lc : Int) (mn : PV) (n q c : Int) : Prop:=∀ d : Int,-100≤d→d≤n→lO l fs t lc mn c (λF T L M C A S D=>fE (.I d) (.I q) F T L M C A S D)
set_option maxRecDepth 100000 in
set_option maxHeartbeats 4000000 in
theorem aNx (H : Asm l fs t lc) : aJy l fs t lc mn 0 500:=by
 intro d hd1 hd2 a s cs h0 hl hc
 have V1:=aB6 (mn:=mn) H
 have V2:=aHe (mn:=mn) H
 obtain ⟨hb,hfs,hfl,ht,hlc⟩:=H
 show Ok _ (jA _ _ _ _ _ _ _ _ _)
 rw [qM]
 repeat' (first | (exfalso;omega) | (first | refine iM (V1 _ (by omega) (by omega)) (by omega) (by omega) (by assumption) (λ_ _ _ _ _=>?_) | refine iM (V2 _ (by omega) (by omega)) (by omega) (by omega) (by assumption) (λ_ _ _ _ _=>?_) | refine iM TE (by omega) (by omega) (by assumption) (λ_ _ _ _ _=>?_) | refine iM (L _ (by omega) (by omega)) (by omega) (by omega) (by assumption) (λ_ _ _ _ _=>?_) | exact lJ (C7 _ _ (by omega) (by omega) (by omega)) (by omega) (by omega) (by assumption) (by omega) (by omega) (by omega) | refine lT (by omega) (by omega) (by assumption) (by omega) (λ_ _ _=>?_) | refine bC hb (by omega) (by omega) (λ_ _ _ _=>?_) | refine iF hb (by omega) (by omega) (λ_ _ _ _=>?_) | refine cT (by omega) (by first | omega | (simp;omega)) ?_ | refine mW rfl (by omega) (by first | omega | (simp;omega)) (λ_ _=>?_) | refine fU (by assumption) (by omega) (by omega) (by omega) (λ_ _ _=>?_) | refine sH (by omega) ?_ | refine dJ (by assumption) (by omega) (by omega) (by omega) (λ_ _ _=>?_) | refine aJ ?_ | refine dX ?_ | refine cD ?_ | refine dY ?_ | refine aG ?_ | refine bM ?_ | (refine aC (λ_=>?_) (λ_=>?_)) | (refine aN (λ_=>?_) (λ_=>?_)) | refine aS (λ_=>?_) (λ_=>?_) | refine aP (by omega) ?_ | refine bF (by omega) ?_ | refine iH (by omega) (by omega) ?_ | refine iU (by omega) (by omega) (by omega) ?_ | refine iT (by omega) ?_ | refine gV (by omega) ?_ | refine bN ?_ | refine cX ?_ | refine dQ ?_ | refine bG ?_ | refine gW (by omega) ?_ | refine aT rfl ?_ | refine aA rfl ?_ | refine aU rfl ?_ | refine aE rfl ?_ | exact aB ⟨_,_,_,rfl,by omega,by omega,by omega,by omega,by omega,by omega,by assumption⟩))
section
variable {n c : Int} (L : aHf l fs t lc mn n 2 c) (H : Asm l fs t lc) (hc0 : 0 ≤ c ∧ c ≤ 100000 ∧ 0 ≤ n ∧ n ≤ 50)
include L H hc0
set_option maxRecDepth 100000 in
set_option maxHeartbeats 4000000 in
theorem aMV : ∀ d x : Int,1≤d→d≤n+1→0≤x∧x≤1000→lO l fs t lc mn (c+100) (λF T L M C A S D=>fX (.I d) (.I x) F T L M C A S D):=by
 intro d x hd1 hd2 hx a s cs h0 hl hc
 obtain ⟨hb,hfs,hfl,ht,hlc⟩:=H
 show Ok _ (fX _ _ _ _ _ _ _ _ _ _)
 rw [vS]
 repeat' (first | refine iM (L _ (by omega) (by omega)) (by omega) (by omega) (by assumption) (λ_ _ _ _ _=>?_) | (first | refine lT (by omega) (by omega) (by assumption) (by omega) (λ_ _ _=>?_) | refine bC hb (by omega) (by omega) (λ_ _ _ _=>?_) | refine iF hb (by omega) (by omega) (λ_ _ _ _=>?_) | refine cT (by omega) (by first | omega | (simp;omega)) ?_ | refine mW rfl (by omega) (by first | omega | (simp;omega)) (λ_ _=>?_) | refine fU (by assumption) (by omega) (by omega) (by omega) (λ_ _ _=>?_) | refine sH (by omega) ?_ | refine dJ (by assumption) (by omega) (by omega) (by omega) (λ_ _ _=>?_) | refine aJ ?_ | refine dX ?_ | refine cD ?_ | refine dY ?_ | refine aG ?_ | refine bM ?_ | (refine aC (λ_=>?_) (λ_=>?_)) | (refine aN (λ_=>?_) (λ_=>?_)) | refine aS (λ_=>?_) (λ_=>?_) | refine aP (by omega) ?_ | refine bF (by omega) ?_ | refine iH (by omega) (by omega) ?_ | refine iU (by omega) (by omega) (by omega) ?_ | refine iT (by omega) ?_ | refine gV (by omega) ?_ | refine bN ?_ | refine cX ?_ | refine dQ ?_ | refine bG ?_ | refine gW (by omega) ?_ | refine aT rfl ?_ | refine aA rfl ?_ | refine aU rfl ?_ | refine aE rfl ?_ | exact aB ⟨_,_,_,rfl,by omega,by omega,by omega,by omega,by omega,by omega,by assumption⟩))
set_option maxRecDepth 100000 in
set_option maxHeartbeats 4000000 in
theorem aGq : aJy l fs t lc mn (n+1) (c+600):=by
 intro d hd1 hd2 a s cs h0 hl hc
 have V1:=aB6 (mn:=mn) H
 have V2:=aHe (mn:=mn) H
 have TE:=aMU (mn:=mn) H
 have C7:=aMV L H hc0
 obtain ⟨hb,hfs,hfl,ht,hlc⟩:=H
 show Ok _ (jA _ _ _ _ _ _ _ _ _)
 rw [qM]
 repeat' (first | refine iM (V1 _ (by omega) (by omega)) (by omega) (by omega) (by assumption) (λ_ _ _ _ _=>?_) | refine iM (V2 _ (by omega) (by omega)) (by omega) (by omega) (by assumption) (λ_ _ _ _ _=>?_) | refine iM TE (by omega) (by omega) (by assumption) (λ_ _ _ _ _=>?_) | refine iM (L _ (by omega) (by omega)) (by omega) (by omega) (by assumption) (λ_ _ _ _ _=>?_) | exact lJ (C7 _ _ (by omega) (by omega) (by omega)) (by omega) (by omega) (by assumption) (by omega) (by omega) (by omega) | refine lT (by omega) (by omega) (by assumption) (by omega) (λ_ _ _=>?_) | refine bC hb (by omega) (by omega) (λ_ _ _ _=>?_) | refine iF hb (by omega) (by omega) (λ_ _ _ _=>?_) | refine cT (by omega) (by first | omega | (simp;omega)) ?_ | refine mW rfl (by omega) (by first | omega | (simp;omega)) (λ_ _=>?_) | refine fU (by assumption) (by omega) (by omega) (by omega) (λ_ _ _=>?_) | refine sH (by omega) ?_ | refine dJ (by assumption) (by omega) (by omega) (by omega) (λ_ _ _=>?_) | refine aJ ?_ | refine dX ?_ | refine cD ?_ | refine dY ?_ | refine aG ?_ | refine bM ?_ | (refine aC (λ_=>?_) (λ_=>?_)) | (refine aN (λ_=>?_) (λ_=>?_)) | refine aS (λ_=>?_) (λ_=>?_) | refine aP (by omega) ?_ | refine bF (by omega) ?_ | refine iH (by omega) (by omega) ?_ | refine iU (by omega) (by omega) (by omega) ?_ | refine iT (by omega) ?_ | refine gV (by omega) ?_ | refine bN ?_ | refine cX ?_ | refine dQ ?_ | refine bG ?_ | refine gW (by omega) ?_ | refine aT rfl ?_ | refine aA rfl ?_ | refine aU rfl ?_ | refine aE rfl ?_ | exact aB ⟨_,_,_,rfl,by omega,by omega,by omega,by omega,by omega,by omega,by assumption⟩)
end
section
variable {n c : Int} (S : aJy l fs t lc mn n c) (H : Asm l fs t lc) (hc0 : 0 ≤ c ∧ c ≤ 100000 ∧ 0 ≤ n ∧ n ≤ 50)
include S H hc0
theorem pD (K : Int) (hK : 0≤K∧K≤10000000) (j : Int) (hj : 0≤j∧j≤100) (ih : ∀ d i : Int,-100≤d→d≤n→0≤i→i<j→lO l fs t lc mn K (λF T L M C A S D=>eT (.I d) (.I i) F T L M C A S D)) :
 ∀ d i : Int,-100≤d→d≤n→0≤i→i≤j→lO l fs t lc mn (K+c) (λF T L M C A S D=>eT (.I d) (.I i) F T L M C A S D):=by
 intro d i hd1 hd2 hi1 hi2 a s cs h0 hl hc
 obtain ⟨hb,hfs,hfl,ht,hlc⟩:=H
 show Ok _ (eT _ _ _ _ _ _ _ _ _ _)
 rw [vR]
 refine cD (aC (λ_=>?_) (λ_=>?_))
 ·refine cX (aJ (aC (λ_=>?_) (λ_=>?_)))
  ·refine iM (S _ hd1 hd2) (by omega) (by omega) (by assumption) (λ_ _ _ _ _=>?_)
   refine bF (by omega) ?_
   exact lJ (ih d _ hd1 hd2 (by omega) (by omega)) (by omega) (by omega) (by assumption) (by omega) (by omega) (by omega)
  ·repeat' (first | refine lT (by omega) (by omega) (by assumption) (by omega) (λ_ _ _=>?_) | refine bC hb (by omega) (by omega) (λ_ _ _ _=>?_) | refine iF hb (by omega) (by omega) (λ_ _ _ _=>?_) | refine cT (by omega) (by first | omega | (simp;omega)) ?_ | refine mW rfl (by omega) (by first | omega | (simp;omega)) (λ_ _=>?_) | refine fU (by assumption) (by omega) (by omega) (by omega) (λ_ _ _=>?_) | refine sH (by omega) ?_ | refine dJ (by assumption) (by omega) (by omega) (by omega) (λ_ _ _=>?_) | refine aJ ?_ | refine dX ?_ | refine cD ?_ | refine dY ?_ | refine aG ?_ | refine bM ?_ | (refine aC (λ_=>?_) (λ_=>?_)) | (refine aN (λ_=>?_) (λ_=>?_)) | refine aS (λ_=>?_) (λ_=>?_) | refine aP (by omega) ?_ | refine bF (by omega) ?_ | refine iH (by omega) (by omega) ?_ | refine iU (by omega) (by omega) (by omega) ?_ | refine iT (by omega) ?_ | refine gV (by omega) ?_ | refine bN ?_ | refine cX ?_ | refine dQ ?_ | refine bG ?_ | refine gW (by omega) ?_ | refine aT rfl ?_ | refine aA rfl ?_ | refine aU rfl ?_ | refine aE rfl ?_ | exact aB ⟨_,_,_,rfl,by omega,by omega,by omega,by omega,by omega,by omega,by assumption⟩)
 ·repeat' (first | refine lT (by omega) (by omega) (by assumption) (by omega) (λ_ _ _=>?_) | refine bC hb (by omega) (by omega) (λ_ _ _ _=>?_) | refine iF hb (by omega) (by omega) (λ_ _ _ _=>?_) | refine cT (by omega) (by first | omega | (simp;omega)) ?_ | refine mW rfl (by omega) (by first | omega | (simp;omega)) (λ_ _=>?_) | refine fU (by assumption) (by omega) (by omega) (by omega) (λ_ _ _=>?_) | refine sH (by omega) ?_ | refine dJ (by assumption) (by omega) (by omega) (by omega) (λ_ _ _=>?_) | refine aJ ?_ | refine dX ?_ | refine cD ?_ | refine dY ?_ | refine aG ?_ | refine bM ?_ | (refine aC (λ_=>?_) (λ_=>?_)) | (refine aN (λ_=>?_) (λ_=>?_)) | refine aS (λ_=>?_) (λ_=>?_) | refine aP (by omega) ?_ | refine bF (by omega) ?_ | refine iH (by omega) (by omega) ?_ | refine iU (by omega) (by omega) (by omega) ?_ | refine iT (by omega) ?_ | refine gV (by omega) ?_ | refine bN ?_ | refine cX ?_ | refine dQ ?_ | refine bG ?_ | refine gW (by omega) ?_ | refine aT rfl ?_ | refine aA rfl ?_ | refine aU rfl ?_ | refine aE rfl ?_ | exact aB ⟨_,_,_,rfl,by omega,by omega,by omega,by omega,by omega,by omega,by assumption⟩)
theorem aHg (q : Int) (hq : 1≤q∧q≤6) : aHf l fs t lc mn n q (7*c+2):=by
 intro d hd1 hd2 a s cs h0 hl hc
 have L0:=pD S H hc0 0 (by omega) 0 (by omega) (λd i _ _ h1 h2=>by omega)
 have L1:=pD S H hc0 (0+c) (by omega) 1 (by omega) (λd i g1 g2 h1 h2=>L0 d i g1 g2 h1 (by omega))
 have L2:=pD S H hc0 (0+c+c) (by omega) 2 (by omega) (λd i g1 g2 h1 h2=>L1 d i g1 g2 h1 (by omega))
 have L3:=pD S H hc0 (0+c+c+c) (by omega) 3 (by omega) (λd i g1 g2 h1 h2=>L2 d i g1 g2 h1 (by omega))
 have L4:=pD S H hc0 (0+c+c+c+c) (by omega) 4 (by omega) (λd i g1 g2 h1 h2=>L3 d i g1 g2 h1 (by omega))
 have L5:=pD S H hc0 (0+c+c+c+c+c) (by omega) 5 (by omega) (λd i g1 g2 h1 h2=>L4 d i g1 g2 h1 (by omega))
 have hb:=H.hl
 show Ok _ (fE _ _ _ _ _ _ _ _ _ _)
 rw [aAb]
 refine bC hb (by omega) (by omega) (λv _ _ _=>?_)
 refine aP (by omega) ?_
 by_cases hv : 1+v≤5
 ·exact lJ ((L5 d (1+v) hd1 hd2 (by omega) hv)) (by omega) (by omega) (by assumption) (by omega) (by omega) (by omega)
 ·have L6:=pD S H hc0 (0+c+c+c+c+c+c) (by omega) 6 (by omega) (λd i g1 g2 h1 h2=>L5 d i g1 g2 h1 (by omega))
  exact lJ ((L6 d (1+v) hd1 hd2 (by omega) (by omega))) (by omega) (by omega) (by assumption) (by omega) (by omega) (by omega)
end
theorem aLZ (H : Asm l fs t lc) : aHf l fs t lc mn 1 2 30000:=λd h1 h2=>
 (aHg (aGq (aHg (aNx (mn:=mn) H) H (by omega) 2 (by omega)) H (by omega)) H (by omega) 2 (by omega) d h1 (by omega)).mono (by omega)
theorem aNy (H : Asm l fs t lc) (q : Int) (hq : 1≤q∧q≤6) : aHf l fs t lc mn 2 q 500000:=λd h1 h2=>
 (aHg (aGq (aLZ (mn:=mn) H) H (by omega)) H (by omega) q hq d h1 (by omega)).mono (by omega)
end
def iO (x : PV) : Prop:=∃ b : ByteArray,x = .str b∧b.size≤1000
theorem iO.el {ts : R} (h : ∀ x∈ts,iO x) : ∀ x∈ts,x.isEl 1 false=true:=by
 intro x hx
 obtain ⟨b,rfl,_⟩:=h x hx
 rfl
def aE9 (l : List Int) (A : Int) (r : R) : Prop:=∃ a s : Int,∃ ts fs : R,r = [.agg [.lst ts,.lst fs],aZ l,.I a,.I s]∧0≤a∧a≤A∧0≤s∧s<65521∧(∀ x∈ts,iO x)∧ts.length≤10∧(∀ x∈fs,jO x)∧1≤fs.length∧fs.length≤10
section
variable {l : List Int} (hl : Bts l) {ts : R} (hts : ∀ x ∈ ts, iO x) (htn : ts.length ≤ 10)
include hl hts htn
set_option maxRecDepth 100000 in
set_option maxHeartbeats 4000000 in
theorem aKc {a s : Int} {hs : R} {x4 x5 x7 : PV} (h0 : 0≤a∧a+2097152≤900000000∧0≤s∧s<65521) (hh : ∀ x∈hs,jO x) (hn : hs.length≤3) :
 Ok (aE9 l (a+2097152)) (eY (.I 0) (aZ l) (.I a) (.I s) x4 x5 (.lst ts) x7 (.lst hs)):=by
 rw [mE]
 refine cD (aC (λh=>by omega) (λ_=>?_))
 refine bC hl (by omega) (by omega) (λp a1 s1 h1=>?_)
 refine bC hl (by omega) (by omega) (λq a2 s2 h2=>?_)
 refine aP (by omega) (aT rfl (aT rfl (cX (aT rfl (aT rfl ?_)))))
 have H : Asm l hs (ts.length : Int) (3+q):=⟨hl,hh,by omega,by omega,by omega⟩
 refine aMD hl (by omega) (by omega) (λw a3 s3 h3=>?_)
 refine aP (by omega) ?_
 refine iM (aNy (mn:=.bool true) H (1+w) (by omega) 2 (by omega) (by omega)) (by omega) (by simp) Cd.nil (λa4 s4 c4 h4 k4=>?_)
 simp only [List.length_nil,Int.natCast_zero] at h4
 refine iM (aB6 (mn:=.bool true) H 1 (by omega) (by omega)) (by omega) (by omega) k4 (λa5 s5 c5 h5 k5=>?_)
 refine lT (by omega) (by omega) k5 (by omega) (λc6 k6 h6=>?_)
 refine jI (by simp;omega) (jO.el hh) ?_
 refine aB ⟨a5,s5,ts,_,rfl,by omega,by omega,by omega,by omega,hts,htn,?_,by simp,by simp;omega⟩
 intro x hx
 rcases List.mem_append.1 hx with hx | hx
 ·simp only [List.mem_singleton] at hx
  exact ⟨p,3+q,c6,hx,by omega,by omega,k6,by omega,by omega⟩
 ·exact hh x hx
set_option maxRecDepth 100000 in
set_option maxHeartbeats 4000000 in
theorem aFa (x4 x5 x7 : PV) : ∀ (j : Nat) (k a s : Int) (hs : R),0≤k→k≤j→(0≤a∧a+2097152+100000*k≤900000000∧0≤s∧s<65521)→(∀ x∈hs,jO x)→(hs.length : Int)+k≤3→
 Ok (aE9 l (a+2097152+100000*k)) (eY (.I k) (aZ l) (.I a) (.I s) x4 x5 (.lst ts) x7 (.lst hs)):=by
 intro j
 induction j with
 | zero=>
   intro k a s hs hk1 hk2 h0 hh hn
   have : k=0:=by omega
   subst this
   refine (aKc hl hts htn (by omega) hh (by omega)).mono ?_
   rintro r ⟨a',s',ts',fs',hr,h1,h2,h3⟩
   exact ⟨a',s',ts',fs',hr,h1,by omega,h3⟩
 | succ j ih=>
   intro k a s hs hk1 hk2 h0 hh hn
   by_cases hk : k=0
   ·subst hk
    refine (aKc hl hts htn (by omega) hh (by omega)).mono ?_
    rintro r ⟨a',s',ts',fs',hr,h1,h2,h3⟩
    exact ⟨a',s',ts',fs',hr,h1,by omega,h3⟩
   rw [mE]
   refine cD (aC (λ_=>?_) (λh=>by omega))
   refine bC hl (by omega) (by omega) (λp a1 s1 h1=>?_)
   refine aT rfl (aP (by omega) ?_)
   refine bC hl (by omega) (by omega) (λq a2 s2 h2=>?_)
   refine aP (by omega) (aT rfl (cX ?_))
   refine hJ (by omega) (jO.el hh) (aT rfl (aT rfl ?_))
   have H : Asm l hs (ts.length : Int) (1+p+q):=⟨hl,hh,by omega,by omega,by omega⟩
   have C15 : ∀ (a s : Int) (cs : R),(0≤a∧a+2097152+100000*(k - 1)+1000≤900000000∧0≤s∧s<65521)→Cd cs→(cs.length : Int)≤2097152→
    Ok (aE9 l (a+2097152+100000*(k - 1)+1000)) (gC (.I k) (aZ l) (.I a) (.I s) (.I p) (.I (1+p+q)) (.lst hs) (.I ts.length) (.I (1+p+q)) (.bool false) x4 x5 (.lst ts) x7 (.lst hs) (.lst []) (.lst cs)):=by
    intro a s cs h0 hc hcl
    rw [sM]
    refine iM (aHe (mn:=.bool false) H 2 (by omega) (by omega)) (by omega) (by omega) hc (λa5 s5 c5 h5 k5=>?_)
    refine lT (by omega) (by omega) k5 (by omega) (λc6 k6 h6=>?_)
    have hnew : ∀ x∈[PV.agg [.I p,.I (1+p+q),.lst c6]],jO x:=by
     intro x hx
     simp only [List.mem_singleton] at hx
     exact ⟨p,1+p+q,c6,hx,by omega,by omega,k6,by omega,by omega⟩
    refine jI (by simp;omega) (jO.el hnew) (bF (by omega) ?_)
    refine (ih (k - 1) a5 s5 (hs++[.agg [.I p,.I (1+p+q),.lst c6]]) (by omega) (by omega) (by omega) (λx hx=>(List.mem_append.1 hx).elim (hh x) (hnew x)) (by simp;omega)).mono ?_
    rintro r ⟨a',s',ts',fs',hr,h1,h2,h3⟩
    exact ⟨a',s',ts',fs',hr,h1,by omega,h3⟩
   refine iF hl (by omega) (by omega) (λb a3 s3 h3=>?_)
   refine aS (λ_=>?_) (λ_=>?_)
   ·refine iM (aLZ (mn:=.bool false) H 1 (by omega) (by omega)) (by omega) (by simp) Cd.nil (λa4 s4 c4 h4 k4=>?_)
    simp only [List.length_nil,Int.natCast_zero] at h4
    refine (C15 a4 s4 c4 (by omega) k4 (by omega)).mono ?_
    rintro r ⟨a',s',ts',fs',hr,h1,h2,h3⟩
    exact ⟨a',s',ts',fs',hr,h1,by omega,h3⟩
   ·refine (C15 a3 s3 [] (by omega) Cd.nil (by simp)).mono ?_
    rintro r ⟨a',s',ts',fs',hr,h1,h2,h3⟩
    exact ⟨a',s',ts',fs',hr,h1,by omega,h3⟩
end
theorem aIo : ∀ x∈[PV.str (bs []),PV.str (bs [97]),PV.str (bs [98,99]),PV.str (bs [104,101,108,108,111,32,119,111,114,108,100]),PV.str (bs [120,32,121])],iO x:=by
 intro x hx
 simp only [List.mem_cons,List.not_mem_nil,or_false] at hx
 rcases hx with rfl | rfl | rfl | rfl | rfl<;>exact ⟨_,rfl,Nat.le_of_ble_eq_true rfl⟩
theorem aL0 {l : List Int} (hl : Bts l) (x4 x5 : PV) : ∀ (j : Nat) (k a s : Int) (ts : R),0≤k→k≤j→(0≤a∧a+2500000+k≤900000000∧0≤s∧s<65521)→(∀ x∈ts,iO x)→(ts.length : Int)+k≤10→
 Ok (aE9 l (a+2500000+k)) (gS (.I k) (aZ l) (.I a) (.I s) x4 x5 (.lst ts) (.lst [])):=by
 intro j
 induction j with
 | zero=>
   intro k a s ts hk1 hk2 h0 ht hn
   rw [mD]
   refine cD (aC (λh=>by omega) (λ_=>?_))
   refine bC hl (by omega) (by omega) (λp a1 s1 h1=>?_)
   refine (aFa hl ht (by omega) x4 x5 (.lst []) 3 p a1 s1 [] (by omega) (by omega) (by omega) (λx hx=>by cases hx) (by simp;omega)).mono ?_
   rintro r ⟨a',s',ts',fs',hr,h1,h2,h3⟩
   exact ⟨a',s',ts',fs',hr,h1,by omega,h3⟩
 | succ j ih=>
   intro k a s ts hk1 hk2 h0 ht hn
   rw [mD]
   refine cD (aC (λ_=>?_) (λ_=>?_))
   ·refine bC hl (by omega) (by omega) (λp a1 s1 h1=>?_)
    refine cT (by omega) (by simp;omega) ?_
    refine rG (by omega) (by simp;omega) (iO.el aIo) (λx hx _=>?_)
    have hone : ∀ y∈[x],iO y:=λy hy=>by simp only [List.mem_singleton] at hy;rw [hy];exact aIo x hx
    refine hJ (by simp) (iO.el hone) ?_
    refine jI (by simp;omega) (iO.el hone) (bF (by omega) ?_)
    refine (ih (k - 1) a1 s1 (ts++[x]) (by omega) (by omega) (by omega) (λy hy=>(List.mem_append.1 hy).elim (ht y) (hone y)) (by simp;omega)).mono ?_
    rintro r ⟨a',s',ts',fs',hr,h1,h2,h3⟩
    exact ⟨a',s',ts',fs',hr,h1,by omega,h3⟩
   ·refine bC hl (by omega) (by omega) (λp a1 s1 h1=>?_)
    refine (aFa hl ht (by omega) x4 x5 (.lst []) 3 p a1 s1 [] (by omega) (by omega) (by omega) (λx hx=>by cases hx) (by simp;omega)).mono ?_
    rintro r ⟨a',s',ts',fs',hr,h1,h2,h3⟩
    exact ⟨a',s',ts',fs',hr,h1,by omega,h3⟩
theorem aAv {l : List Int} (hl : Bts l) {a s : Int} (h0 : 0≤a∧a≤800000000∧0≤s∧s<65521) : Ok (aE9 l (a+3000000)) (jL (aZ l) (.I a) (.I s)):=by
 rw [wR]
 refine bC hl (by omega) (by omega) (λp a1 s1 h1=>?_)
 refine (aL0 hl (.lst []) (.lst []) 2 p a1 s1 [] (by omega) (by omega) (by omega) (λx hx=>by cases hx) (by simp;omega)).mono ?_
 rintro r ⟨a',s',ts',fs',hr,h1,h2,h3⟩
 exact ⟨a',s',ts',fs',hr,h1,by omega,h3⟩
theorem aLa {ts fs : R} (hf : ∀ x∈fs,jO x) (hn : fs.length≤100) (x3 x4 : PV) : ∀ (j i : Nat),fs.length - i=j→i≤fs.length→
 Ok (λr=>r = [.lst ts,.lst fs]) (gT (.I i) (.lst ts) (.lst fs) x3 x4 (.lst ts) (.lst (fs.take i))):=by
 intro j
 induction j with
 | zero=>
   intro i h1 h2
   rw [mG]
   have : i=fs.length:=by omega
   subst this
   refine cX (aJ (aC (λh=>by omega) (λ_=>aB ?_)))
   rw [List.take_length]
 | succ j ih=>
   intro i h1 h2
   rw [mG]
   refine cX (aJ (aC (λ_=>?_) (λh=>by omega)))
   refine rG (by omega) (by omega) (jO.el hf) (λx hx hi=>?_)
   obtain ⟨p,lc,cs,rfl,hp,hlc,hc,hc1,hc2⟩:=hf x hx
   refine aE rfl (aA rfl (aA rfl (aA rfl ?_)))
   refine hJ (by omega) hc.el (aT rfl (aT rfl ?_))
   have hone : ∀ y∈[PV.agg [.I p,.I lc,.lst cs]],jO y:=λy hy=>by
    simp only [List.mem_singleton] at hy
    exact ⟨p,lc,cs,hy,hp,hlc,hc,hc1,hc2⟩
   refine jI (by simp;omega) (jO.el hone) (aP (by omega) ?_)
   have htk : fs.take i++[PV.agg [.I p,.I lc,.lst cs]]=fs.take (i+1):=by
    have hi' : fs[i]? = some (.agg [.I p,.I lc,.lst cs]):=by simpa using hi
    rw [List.take_add_one,hi'];rfl
   rw [htk]
   exact ih (i+1) (by omega) (by omega)
theorem aMW {ts fs : R} (ht : ∀ x∈ts,iO x) (htn : ts.length≤10) (hf : ∀ x∈fs,jO x) (hn : fs.length≤100) :
 Ok (λr=>r = [.lst ts,.lst fs]) (nB (.agg [.lst ts,.lst fs])):=by
 rw [wS]
 refine aE rfl (aA rfl (aA rfl ?_))
 refine hJ (by omega) (iO.el ht) ?_
 have:=aLa (ts:=ts) hf hn (.lst []) (.lst []) fs.length 0 (by omega) (by omega)
 exact this
def kH (x : PV) : Prop:=∃ p lc : Int,∃ cs : R,x = .agg [.I p,.I lc,.lst cs]∧(-9223372036854775808≤p∧p≤9223372036854775807)∧(-9223372036854775808≤lc∧lc≤9223372036854775807)∧Cd cs∧(cs.length : Int)≤200000000
theorem jO.toFun {x : PV} (h : jO x) : kH x:=by
 obtain ⟨p,lc,cs,rfl,h1,h2,h3,h4,h5⟩:=h
 exact ⟨p,lc,cs,rfl,by omega,by omega,h3,by omega⟩
theorem kH.el {fs : R} (h : ∀ x∈fs,kH x) : ∀ x∈fs,x.isEl 3 true=true:=by
 intro x hx
 obtain ⟨p,lc,cs,rfl,_⟩:=h x hx
 rfl
def aMX (l : List Int) (A : Int) (r : R) : Prop:=∃ a s : Int,∃ ts fs : R,r = [.agg [.lst ts,.lst fs],aZ l,.I a,.I s]∧0≤a∧a≤A∧0≤s∧s<65521∧(∀ x∈ts,iO x)∧ts.length≤100∧(∀ x∈fs,kH x)∧fs.length≤100∧1≤fs.length
theorem aGr : ∀ {ts : R},(∀ x∈ts,iO x)→PV.flatEs false [] ts=true
 | [],_=>by simp [PV.flatEs]
 | x::r,h=>by
   obtain ⟨b,rfl,_⟩:=h x List.mem_cons_self
   simp [PV.flatEs,PV.flatE,PV.flat,aGr (λy hy=>h y (List.mem_cons_of_mem _ hy))]
theorem aGs : ∀ {cs : R},Cd cs→PV.flatEs true [] cs=true
 | [],_=>by simp [PV.flatEs]
 | x::r,h=>by
   obtain ⟨o,a,rfl,_⟩:=h x List.mem_cons_self
   simp [PV.flatEs,PV.flatE,PV.flatCs,PV.flat,aGs (λy hy=>h y (List.mem_cons_of_mem _ hy))]
theorem aGt : ∀ {fs : R},(∀ x∈fs,kH x)→PV.flatEs true [.leaf,.leaf,.own 2 16 true []] fs=true
 | [],_=>by simp [PV.flatEs]
 | x::r,h=>by
   obtain ⟨p,lc,cs,rfl,_,_,hc,_⟩:=h x List.mem_cons_self
   simp [PV.flatEs,PV.flatE,PV.flatCs,PV.flat,aGs hc,aGt (λy hy=>h y (List.mem_cons_of_mem _ hy))]
theorem eR {fs : R} (hf : ∀ x∈fs,kH x) {P : R→Prop} {k : PV→OR} {i : Int} {x : PV} (h0 : 0≤i) (hx : fs[i.toNat]? = some x) (h : Ok P (k x)) : Ok P (bd (PV.at_ 3 true (.lst fs) (.I i)) k):=by
 refine rG h0 (by have:=(List.getElem?_eq_some_iff.1 hx).1;omega) (kH.el hf) (λy _ hy=>?_)
 rw [hx] at hy
 cases hy
 exact h
theorem aL1 {P : R→Prop} {k : PV→OR} {cs : R} {i n : Int} (hc : Cd cs) (h0 : 0≤i) (h1 : i<cs.length) (hn : -9223372036854775808≤n∧n≤9223372036854775807) (h : ∀ cs' : R,Cd cs'→(cs'.length : Int)=cs.length→Ok P (k (.lst cs'))) :
 Ok P (bd (PV.setCell 2 (.lst cs) (.I i) 0 (.I n)) k):=by
 have hlt : i.toNat<cs.length:=by omega
 have hx : cs[i.toNat]? = some cs[i.toNat]:=List.getElem?_eq_getElem hlt
 obtain ⟨o,a,he,ho,ha⟩:=hc _ (List.mem_of_getElem? hx)
 rw [he] at hx
 refine fQ h0 hx rfl (by omega) rfl (h _ (λx hm=>?_) (by rw [List.length_set]))
 rcases List.mem_or_eq_of_mem_set hm with h | h
 ·exact hc x h
 ·exact ⟨n,a,h,hn,ha⟩
theorem kH.set {fs : R} (hf : ∀ x∈fs,kH x) {i : Nat} {y : PV} (hy : kH y) : ∀ x∈fs.set i y,kH x:=by
 intro x hx
 rcases List.mem_or_eq_of_mem_set hx with h | h
 ·exact hf x h
 ·rw [h];exact hy
section
variable {l : List Int} (hl : Bts l) {ts : R} (ht : ∀ x ∈ ts, iO x) (htn : ts.length ≤ 20)
include hl ht htn
theorem aLb (x3 x4 : PV) : ∀ (j : Nat) (a s : Int) (fs : R),13 - fs.length≤j→(0≤a∧a+j+1≤900000000∧0≤s∧s<65521)→(∀ x∈fs,kH x)→fs.length≤50→
 Ok (aMX l (a+j+1)) (kD (aZ l) (.I a) (.I s) x3 x4 (.lst ts) (.lst fs)):=by
 intro j
 induction j with
 | zero=>
   intro a s fs hj h0 hf hn
   rw [pV]
   refine cX (bC hl (by omega) (by omega) (λp a1 s1 h1=>?_))
   refine aP (by omega) (aJ (aC (λ_=>by omega) (λ_=>?_)))
   exact aB ⟨a1,s1,ts,fs,rfl,by omega,by omega,by omega,by omega,ht,by omega,hf,by omega⟩
 | succ j ih=>
   intro a s fs hj h0 hf hn
   rw [pV]
   refine cX (bC hl (by omega) (by omega) (λp a1 s1 h1=>?_))
   refine aP (by omega) (aJ (aC (λ_=>?_) (λ_=>?_)))
   ·have hone : ∀ y∈[PV.agg [.I 0,.I 0,.lst [.agg [.I 4,.I 0],.agg [.I 25,.I 0]]]],kH y:=λy hy=>by
     simp only [List.mem_singleton] at hy
     exact ⟨0,0,_,hy,by omega,by omega,(Cd.one (by omega) (by omega)).append (Cd.one (by omega) (by omega)),by simp⟩
    refine jI (by simp;omega) (kH.el hone) ?_
    refine (ih a1 s1 _ (by simp;omega) (by omega) (λx hx=>(List.mem_append.1 hx).elim (hf x) (hone x)) (by simp;omega)).mono ?_
    rintro r ⟨a',s',ts',fs',hr,h1,h2,h3⟩
    exact ⟨a',s',ts',fs',hr,h1,by omega,h3⟩
   ·exact aB ⟨a1,s1,ts,fs,rfl,by omega,by omega,by omega,by omega,ht,by omega,hf,by omega⟩
theorem aL2 (x3 x4 : PV) (f o i : Int) (hf0 : 0≤f) (ho : -9223372036854775808≤o∧o≤9223372036854775807) (hi : -9223372036854775808≤i∧i≤9223372036854775807) :
 ∀ (j : Nat) (a s : Int) (fs : R) (p lc : Int) (cs : R),fs[f.toNat]? = some (.agg [.I p,.I lc,.lst cs])→121 - cs.length≤j→(0≤a∧a+j+1≤900000000∧0≤s∧s<65521)→(∀ x∈fs,kH x)→fs.length≤50→
 Ok (aMX l (a+j+1)) (lD (.I f) (aZ l) (.I a) (.I s) (.I o) (.I i) x3 x4 (.lst ts) (.lst fs)):=by
 intro j
 induction j with
 | zero=>
   intro a s fs p lc cs hx hj h0 hf hn
   rw [qL]
   have hlt:=(List.getElem?_eq_some_iff.1 hx).1
   refine cT hf0 (by omega) (eR hf hf0 hx (eR hf hf0 hx (aA rfl (cX (bC hl (by omega) (by omega) (λq a1 s1 h1=>?_))))))
   refine aP (by omega) (aJ (aC (λ_=>by omega) (λ_=>?_)))
   exact aB ⟨a1,s1,ts,fs,rfl,by omega,by omega,by omega,by omega,ht,by omega,hf,by omega⟩
 | succ j ih=>
   intro a s fs p lc cs hx hj h0 hf hn
   rw [qL]
   have hlt:=(List.getElem?_eq_some_iff.1 hx).1
   obtain ⟨p',lc',cs',he,hp,hlc,hc,hcl⟩:=hf _ (List.mem_of_getElem? hx)
   cases he
   refine cT hf0 (by omega) (eR hf hf0 hx (eR hf hf0 hx (aA rfl (cX (bC hl (by omega) (by omega) (λq a1 s1 h1=>?_))))))
   refine aP (by omega) (aJ (aC (λ_=>?_) (λ_=>?_)))
   ·refine cT hf0 (by omega) (eR hf hf0 hx (eR hf hf0 hx (aA rfl (eR hf hf0 hx (aA rfl ?_)))))
    refine fQ hf0 hx rfl (by omega) rfl ?_
    refine jI (by simp;omega) (Cd.one ho hi).el ?_
    refine cT hf0 (by rw [List.length_set];omega) ?_
    refine fQ (cs:=[.I p,.I lc,.hole]) hf0 (List.getElem?_set_self hlt) rfl (by omega) rfl ?_
    rw [List.set_set]
    have hcode : Cd (cs++[.agg [.I o,.I i]]):=hc.append (Cd.one ho hi)
    refine (ih a1 s1 _ p lc (cs++[.agg [.I o,.I i]]) (List.getElem?_set_self hlt) (by simp;omega) (by omega) (kH.set hf ⟨p,lc,_,rfl,hp,hlc,hcode,by simp;omega⟩) (by rw [List.length_set];exact hn)).mono ?_
    rintro r ⟨a',s',ts',fs',hr,h1,h2,h3⟩
    exact ⟨a',s',ts',fs',hr,h1,by omega,h3⟩
   ·exact aB ⟨a1,s1,ts,fs,rfl,by omega,by omega,by omega,by omega,ht,by omega,hf,by omega⟩
end
theorem aGu : ∀ x∈[PV.str (bs [113,34]),PV.str (bs [10]),PV.str (bs [48,49,50,51,52,53,54,55,56,57,48,49,50,51,52,53,54,55,56,57,48,49,50,51,52,53,54,55,56,57,48,49,50,51,52,53,54,55,56,57,48,49,50,51,52,53,54,55,56,57,48,49,50,51,52,53,54,55,56,57,48]),PV.str (bs [195,169])],iO x:=by
 intro x hx
 simp only [List.mem_cons,List.not_mem_nil,or_false] at hx
 rcases hx with rfl | rfl | rfl | rfl<;>exact ⟨_,rfl,Nat.le_of_ble_eq_true rfl⟩
set_option maxRecDepth 100000 in
set_option maxHeartbeats 4000000 in
theorem aL3 {l : List Int} (hl : Bts l) {ts fs : R} (ht : ∀ x∈ts,iO x) (htn : ts.length≤10) (hh : ∀ x∈fs,jO x) (hn1 : 1≤fs.length) (hn : fs.length≤10) {a s : Int} (h0 : 0≤a∧a≤850000000∧0≤s∧s<65521) :
 Ok (aMX l (a+1000)) (tU (.lst ts) (.lst fs) (aZ l) (.I a) (.I s)):=by
 have hf : ∀ x∈fs,kH x:=λx hx=>(hh x hx).toFun
 rw [aCE]
 refine aI (aMW ht htn hh (by omega)) (λr hr=>?_)
 subst hr
 refine gI (aGr ht) (gI (aGt hf) ?_)
 refine cX (bC hl (by omega) (by omega) (λf a1 s1 h1=>?_))
 have hlt : f.toNat<fs.length:=by omega
 have hx : fs[f.toNat]? = some fs[f.toNat]:=List.getElem?_eq_getElem hlt
 obtain ⟨p,lc,cs,he,hp,hlc,hc,hc1,hcl⟩:=hh _ (List.mem_of_getElem? hx)
 rw [he] at hx
 refine cT (by omega) (by omega) (eR hf (by omega) hx (eR hf (by omega) hx (aA rfl (cX (bC hl (by omega) (by omega) (λi a2 s2 h2=>?_))))))
 refine bC hl (by omega) (by omega) (λq a3 s3 h3=>?_)
 have hset : ∀ cs' : R,Cd cs'→(cs'.length : Int)≤cs.length→∀ x∈fs.set f.toNat (.agg [.I p,.I lc,.lst cs']),kH x:=λcs' h1 h2=>kH.set hf ⟨p,lc,cs',rfl,by omega,by omega,h1,by omega⟩
 refine aG (aC (λ_=>?_) (λ_=>?_))
 ·refine cT (by omega) (by omega) (eR hf (by omega) hx (bC hl (by omega) (by omega) (λw a4 s4 h4=>?_)))
  refine bF (by omega) (eR hf (by omega) hx (aA rfl (cT (by omega) (by omega) (eR hf (by omega) hx (aA rfl (aT rfl (eR hf (by omega) hx (aA rfl ?_))))))))
  refine aL1 hc (by omega) (by omega) (by omega) (λcs' hc' hl'=>eR hf (by omega) hx (aA rfl ?_))
  refine fQ (by omega) hx rfl (by omega) rfl ?_
  exact aB ⟨a4,s4,ts,_,rfl,by omega,by omega,by omega,by omega,ht,by omega,hset cs' hc' (by omega),by rw [List.length_set];omega⟩
 refine aG (aC (λ_=>?_) (λ_=>?_))
 ·refine cT (by omega) (by omega) (eR hf (by omega) hx (aGc hl (by omega) (λw a4 s4 h4=>?_)))
  refine eR hf (by omega) hx (aA rfl (cT (by omega) (by omega) (eR hf (by omega) hx (aA rfl (aT rfl (eR hf (by omega) hx (aA rfl ?_)))))))
  refine fU hc (by omega) (by omega) (by omega) (λcs' hc' hl'=>eR hf (by omega) hx (aA rfl ?_))
  refine fQ (by omega) hx rfl (by omega) rfl ?_
  exact aB ⟨a4,s4,ts,_,rfl,by omega,by omega,by omega,by omega,ht,by omega,hset cs' hc' (by omega),by rw [List.length_set];omega⟩
 refine aG (aC (λ_=>?_) (λ_=>?_))
 ·refine bC hl (by omega) (by omega) (λw a4 s4 h4=>?_)
  refine bF (by omega) (cT (by omega) (by omega) (aT rfl ?_))
  refine fQ (by omega) hx rfl (by omega) rfl ?_
  exact aB ⟨a4,s4,ts,_,rfl,by omega,by omega,by omega,by omega,ht,by omega,kH.set hf ⟨w - 1,lc,cs,rfl,by omega,by omega,hc,by omega⟩,by rw [List.length_set];omega⟩
 refine aG (aC (λ_=>?_) (λ_=>?_))
 ·refine bC hl (by omega) (by omega) (λw a4 s4 h4=>?_)
  refine cT (by omega) (by simp;omega) (mW rfl (by omega) (by simp;omega) (λy hy=>?_))
  refine cT (by omega) (by omega) (aT rfl ?_)
  refine fQ (by omega) hx rfl (by omega) rfl ?_
  exact aB ⟨a4,s4,ts,_,rfl,by omega,by omega,by omega,by omega,ht,by omega,kH.set hf ⟨p,y,cs,rfl,by omega,by omega,hc,by omega⟩,by rw [List.length_set];omega⟩
 refine aG (aC (λ_=>?_) (λ_=>?_))
 ·refine bC hl (by omega) (by omega) (λw a4 s4 h4=>?_)
  refine cT (by omega) (by simp;omega) (rG (by omega) (by simp;omega) (iO.el aGu) (λy hy _=>?_))
  have hone : ∀ z∈[y],iO z:=λz hz=>by simp only [List.mem_singleton] at hz;rw [hz];exact aGu y hy
  refine hJ (by simp) (iO.el hone) (jI (by simp;omega) (iO.el hone) ?_)
  exact aB ⟨a4,s4,_,fs,rfl,by omega,by omega,by omega,by omega,λz hz=>(List.mem_append.1 hz).elim (ht z) (hone z),by simp;omega,hf,by omega⟩
 refine aG (aC (λ_=>?_) (λ_=>?_))
 ·refine cT (by omega) (by omega) (eR hf (by omega) hx (eR hf (by omega) hx (aA rfl (dJ hc (by omega) (by omega) (by omega) (λc1 k1 e1=>?_)))))
  refine cT (by omega) (by omega) (eR hf (by omega) hx (aP (by omega) (eR hf (by omega) hx (aA rfl (cX (dJ hc (by omega) (by omega) (by omega) (λc2 k2 e2=>?_)))))))
  refine eR hf (by omega) hx (aA rfl (eR hf (by omega) hx (aA rfl (dJ hc (by omega) (by omega) (by omega) (λc3 k3 e3=>?_)))))
  refine dJ hc (by omega) (by omega) (by omega) (λc4 k4 e4=>eR hf (by omega) hx (aA rfl ?_))
  refine fQ (by omega) hx rfl (by omega) rfl ?_
  refine jI (by omega) k3.el ?_
  refine cT (by omega) (by rw [List.length_set];omega) ?_
  refine fQ (cs:=[.I p,.I lc,.hole]) (by omega) (List.getElem?_set_self hlt) rfl (by omega) rfl ?_
  rw [List.set_set]
  exact aB ⟨a3,s3,ts,_,rfl,by omega,by omega,by omega,by omega,ht,by omega,hset _ (k4.append k3) (by rw [List.length_append];omega),by rw [List.length_set];omega⟩
 refine aG (aC (λ_=>?_) (λ_=>?_))
 ·refine (aLb hl ht (by omega) (.lst []) (.lst []) 13 a3 s3 fs (by omega) (by omega) hf (by omega)).mono ?_
  rintro r ⟨a',s',ts',fs',hr,h1,h2,h3⟩
  exact ⟨a',s',ts',fs',hr,h1,by omega,h3⟩
 ·refine cT (by omega) (by omega) (eR hf (by omega) hx (eR hf (by omega) hx (aA rfl (cT (by omega) (by omega) (eR hf (by omega) hx (aA rfl ?_))))))
  refine rG (by omega) (by omega) hc.el (λy hy _=>?_)
  obtain ⟨o,b,rfl,ho,hb⟩:=hc y hy
  refine aE rfl (aA rfl (aA rfl ?_))
  refine (aL2 hl ht (by omega) (.lst []) (.lst []) f o b (by omega) ho hb 121 a3 s3 fs p lc cs hx (by omega) (by omega) hf (by omega)).mono ?_
  rintro r ⟨a',s',ts',fs',hr,h1,h2,h3⟩
  exact ⟨a',s',ts',fs',hr,h1,by omega,h3⟩
theorem aJz {l : List Int} (hl : Bts l) {n a s : Int} (hn : 1≤n∧n≤1000) (h0 : 0≤a∧a≤800000000∧0≤s∧s<65521) : Ok (aMX l (a+4000000)) (qD (.I n) (aZ l) (.I a) (.I s)):=by
 rw [aA6]
 refine aI (aAv hl h0) ?_
 rintro r ⟨a1,s1,ts,fs,rfl,h1,h2,h3,h4,ht,htn,hf,hn1,hn2⟩
 refine aE rfl (aA rfl (aA rfl ?_))
 refine iF hl (by omega) (by omega) (λb a2 s2 h5=>aS (λ_=>?_) (λ_=>?_))
 ·refine aI (aL3 hl ht htn hf hn1 hn2 (by omega)) ?_
  rintro r ⟨a3,s3,ts3,fs3,rfl,g1,g2,g3,g4,g5,g6,g7,g8⟩
  refine aE rfl (aA rfl (aA rfl ?_))
  exact aB ⟨a3,s3,ts3,fs3,rfl,by omega,by omega,by omega,by omega,g5,g6,g7,g8⟩
 ·exact aB ⟨a2,s2,ts,fs,rfl,by omega,by omega,by omega,by omega,ht,by omega,λx hx=>(hf x hx).toFun,by omega⟩
theorem aMY {l : List Int} (hl : Bts l) {P : R→Prop} {k : R→OR} (h : ∀ s : Int,0≤s∧s<65521→Ok P (k [aZ l,.I 0,.I s])) : Ok P (bd (vM (aZ l)) k):=by
 refine aI (Q:=λr=>∃ s : Int,r = [aZ l,.I 0,.I s]∧0≤s∧s<65521) ?_ (λr ⟨s,hr,hs⟩=>by rw [hr];exact h s hs)
 rw [aDz]
 refine bN (iH (by omega) (by omega) (aP (by omega) (aT rfl (aT rfl (aB ⟨_,rfl,by omega,by omega⟩)))))
def aOg (x : PV) : Prop:=∃ ts fs : R,x = .agg [.lst ts,.lst fs]∧(∀ x∈ts,iO x)∧ts.length≤100∧(∀ x∈fs,kH x)∧fs.length≤100∧1≤fs.length
def Byt (l : List Int) : Prop:=∀ x∈l,0≤x∧x≤255
theorem aKd : ∀ {ts : R},(∀ x∈ts,iO x)→∃ l : List ByteArray,ts=l.map PV.str∧∀ t∈l,t.size≤1000
 | [],_=>⟨[],rfl,λt ht=>by cases ht⟩
 | x::r,h=>by
   obtain ⟨b,rfl,hb⟩:=h x List.mem_cons_self
   obtain ⟨l,rfl,hl⟩:=aKd (λy hy=>h y (List.mem_cons_of_mem _ hy))
   refine ⟨b::l,rfl,λt ht=>?_⟩
   rcases List.mem_cons.1 ht with rfl | ht
   ·exact hb
   ·exact hl t ht
theorem aKe : ∀ {cs : R},Cd cs→∃ l : List bP,cs=l.map bP.pv
 | [],_=>⟨[],rfl⟩
 | x::r,h=>by
   obtain ⟨o,a,rfl,_⟩:=h x List.mem_cons_self
   obtain ⟨l,rfl⟩:=aKe (λy hy=>h y (List.mem_cons_of_mem _ hy))
   exact ⟨⟨o,a⟩::l,rfl⟩
theorem aKf : ∀ {fs : R},(∀ x∈fs,kH x)→∃ l : List cZ,fs=l.map cZ.pv∧∀ f∈l,f.code.length≤1000000000
 | [],_=>⟨[],rfl,λt ht=>by cases ht⟩
 | x::r,h=>by
   obtain ⟨p,lc,cs,rfl,_,_,hc,hl⟩:=h x List.mem_cons_self
   obtain ⟨l,rfl,hl2⟩:=aKf (λy hy=>h y (List.mem_cons_of_mem _ hy))
   obtain ⟨c,rfl⟩:=aKe hc
   refine ⟨⟨p,lc,c⟩::l,rfl,λt ht=>?_⟩
   rcases List.mem_cons.1 ht with rfl | ht
   ·rw [List.length_map] at hl
    show c.length≤_
    omega
   ·exact hl2 t ht
theorem aNz {l : List Int} (hb : Byt l) {P : R→Prop} {k : R→OR} (h1 : Bts l→Ok P (k [.bool false])) (h2 : Ok P (k [.bool true])) : Ok P (bd (aEF (aZ l)) k):=by
 refine aI (Q:=λr=>r = [.bool (decide ((1048576 : Int)<l.length))]) ?_ (λr hr=>?_)
 ·rw [aH4]
  exact bN (cD (aB rfl))
 ·subst hr
  by_cases h : (1048576 : Int)<l.length
  ·rw [decide_eq_true h];exact h2
  ·rw [decide_eq_false h];exact h1 ⟨hb,by omega⟩
end
noncomputable section
open Go Go.IntWalk
attribute [local irreducible] bd PV.ite PV.guardFlat PV.guardOwn PV.whole PV.one PV.cell PV.sub PV.at_ PV.len PV.slen PV.chr PV.beq PV.peq PV.ceq PV.bin PV.neg PV.not PV.conv PV.cut PV.scut PV.cat PV.setAt PV.setCell PV.ncopy PV.copyIn PV.zeros PV.toStr PV.toBytes PV.deref PV.isPtr PV.comp PV.inb PV.off PV.imin PV.imax PV.sel PV.apply PV.isLst PV.isInt PV.ix PV.nilT
def yZ (m : dT) : Bool:=m.okB&&(bad m.funcs).isNone
theorem aBf {m : dT} (hs : m.sized) (h : yZ m=true) : kV m:=by
 simp only [yZ,Bool.and_eq_true,Option.isNone_iff_eq_none] at h
 exact ⟨hs,h.1,h.2⟩
theorem aLc {fs : List cZ} {code : List bP} {d : List Int} {pc : Nat} {c : Int} (h : aB2 fs code d pc=some c) : c≠0:=by
 unfold aB2 at h
 repeat' split at h
 all_goals first
  | (cases h;done)
  | (injection h with h;omega)
theorem aIp {fs : List cZ} {c : Int} {f pc : Nat} (h : bad fs=some (c,f,pc)) : c≠0:=by
 unfold bad at h
 obtain ⟨i,_,h⟩:=List.exists_of_findSome?_eq_some h
 unfold aGn at h
 split at h
 ·obtain ⟨j,_,h⟩:=List.exists_of_findSome?_eq_some h
  unfold aAu at h
  simp only [Option.map_eq_some_iff] at h
  obtain ⟨c',h1,h2⟩:=h
  injection h2 with h2 h3
  rw [← h2]
  exact aLc h1
 ·cases h
section
variable {P : R → Prop} {k : R → OR}
theorem aDQ {m : dT} (hs : m.sized) (h : Ok P (k [.bool (yZ m)])) : Ok P (bd (lB m.pv) k):=by
 refine aI (Q:=λr=>r = [.bool (yZ m)]) ?_ (λr hr=>by rw [hr];exact h)
 rw [aDv]
 refine aE rfl (aA rfl (aA rfl (aI (aIi hs) (λr hr=>?_))))
 subst hr
 show Ok _ (bd (PV.cell m.verify 0) _)
 unfold dT.verify yZ
 cases ho : m.okB with
 | false=>exact aA (y:=.I 1) rfl (aG (aB rfl))
 | true=>
   simp only [if_true,Bool.true_and]
   cases hb : bad m.funcs with
   | none=>exact aA (y:=.I 0) rfl (aG (aB rfl))
   | some p=>
     obtain ⟨c,f,pc⟩:=p
     have:=aIp hb
     refine aA (y:=.I c) rfl (aG (aB ?_))
     rw [decide_eq_false this];rfl
theorem aL4 {m : dT} (hs : m.sized) (h : Ok P (k [.bool (yZ m)])) : Ok P (bd (xZ m.pv) k):=by
 refine aI (Q:=λr=>r = [.bool (yZ m)]) ?_ (λr hr=>by rw [hr];exact h)
 rw [aEG]
 refine aE rfl (aA rfl (aA rfl (aI (aIj hs) (λr hr=>?_))))
 subst hr
 show Ok _ (bd (PV.whole 3 m.verify) _)
 have eq : ∀ a b c : Int,(PV.ceq [1,1,1] .eql (.agg [.I a,.I b,.I c]) (.agg [.I 0,.I 0,.I 0]))=some (.bool (decide (a=0)&&(decide (b=0)&&decide (c=0)))):=by
  intro a b c
  simp [PV.ceq,PV.eqCells,PV.eqScalar,PV.eqOr]
  rfl
 unfold dT.verify yZ
 cases ho : m.okB with
 | false=>exact aE (cs:=[.I 1,.I 0,.I 0]) rfl (aA rfl (aA rfl (aA rfl (cU _ (eq _ _ _) (aB rfl)))))
 | true=>
   simp only [if_true,Bool.true_and]
   cases hb : bad m.funcs with
   | none=>exact aE (cs:=[.I 0,.I 0,.I 0]) rfl (aA rfl (aA rfl (aA rfl (cU _ (eq _ _ _) (aB rfl)))))
   | some p=>
     obtain ⟨c,f,pc⟩:=p
     have:=aIp hb
     refine aE (cs:=[.I c,.I f,.I pc]) rfl (aA rfl (aA rfl (aA rfl (cU _ (eq _ _ _) (aB ?_)))))
     rw [decide_eq_false this];rfl
end
section
variable {P : R → Prop} {m : dT}
theorem jD {kp : PV→OR} {i : Int} (h0 : 0≤i∧i<m.funcs.length) (h : ∀ lc,Ok P (kp (.agg [.I (iN m.funcs i),lc,.lst ((dB m.funcs i).map bP.pv)]))) : Ok P (bd (PV.at_ 3 true (.lst (m.funcs.map cZ.pv)) (.I i)) kp):=by
 obtain ⟨j,rfl⟩:=Int.eq_ofNat_of_zero_le h0.1
 have hj : j<m.funcs.length:=by omega
 refine aQ hj (λ_=>rfl) ?_
 have:=h (.I m.funcs[j].lc)
 have e1 : dB m.funcs j=m.funcs[j].code:=by simp [dB,List.getElem?_eq_getElem hj]
 have e2 : iN m.funcs j=m.funcs[j].p:=by simp [iN,List.getElem?_eq_getElem hj]
 rw [e1,e2] at this
 exact this
theorem aGv {kp : PV→OR} {i : Int} (h0 : 0≤i∧i<m.funcs.length) (h : Ok P (kp (.agg [.I (iN m.funcs i),.I (aCJ m.funcs i),.lst ((dB m.funcs i).map bP.pv)]))) : Ok P (bd (PV.at_ 3 true (.lst (m.funcs.map cZ.pv)) (.I i)) kp):=by
 obtain ⟨j,rfl⟩:=Int.eq_ofNat_of_zero_le h0.1
 have hj : j<m.funcs.length:=by omega
 refine aQ hj (λ_=>rfl) ?_
 have e1 : dB m.funcs j=m.funcs[j].code:=by simp [dB,List.getElem?_eq_getElem hj]
 have e2 : iN m.funcs j=m.funcs[j].p:=by simp [iN,List.getElem?_eq_getElem hj]
 have e3 : aCJ m.funcs j=m.funcs[j].lc:=by simp [aCJ,List.getElem?_eq_getElem hj]
 rw [e1,e2,e3] at h
 exact h
def vmZ : uC:=⟨[],[],0,[],0,0,fB,0⟩
end
section
variable {P : R → Prop} {k : R → OR}
def aIq (a b : Int) : Int:=if a<b then -1 else if b<a then 1 else 0
theorem aL5 {a : Int} (h : Ok P (k [.bool false])) : Ok P (bd (pL (.I a)) k):=by
 refine aI (Q:=λr=>r = [.bool false]) ?_ (λr hr=>by rw [hr];exact h)
 rw [aCA]
 exact bM (aB (by simp))
theorem aHh {a b : Int} (h : Ok P (k [.I (aIq a b)])) : Ok P (bd (mN (.I a) (.I b)) k):=by
 refine aI (Q:=λr=>r = [.I (aIq a b)]) ?_ (λr hr=>by rw [hr];exact h)
 rw [aAU]
 refine aL5 (aL5 (cB (cB (aJ (aC (λh=>aB ?_) (λh=>cD (aC (λh'=>aB ?_) (λh'=>aB ?_))))))))
 ·rw [aIq,if_pos h]
 ·rw [aIq,if_neg h,if_pos h']
 ·rw [aIq,if_neg h,if_neg h']
theorem aL6 {a b : Int} (h : Ok P (k [.I (if a≠0 then a else b)])) : Ok P (bd (PV.cat 1 8 false (.lst []) (.lst [.I a,.I b])) λv=>bd (aAI v) k):=by
 refine aJ3 (aI (Q:=λr=>r = [.I (if a≠0 then a else b)]) ?_ (λr hr=>by rw [hr];exact h))
 rw [aFD]
 refine dS ?_
 rw [pB]
 refine aJ (cC ?_)
 refine cW (i:=0) (l:=[a,b]) (by simp) ?_
 refine bM (aN (λh0=>aB (by rw [if_pos (show a≠0 from h0)];rfl)) (λh0=>aP (by omega) ?_))
 have h0 : a=0:=h0
 rw [pB]
 refine aJ (cC ?_)
 refine cW (i:=1) (l:=[a,b]) (by simp) ?_
 refine bM (aN (λh1=>aB (by rw [if_neg (by omega)];rfl)) (λh1=>aP (by omega) ?_))
 rw [pB]
 refine aJ (cB (aB ?_))
 have : b=0:=h1
 rw [if_neg (by omega),this]
end
structure cJ where
 f : Int
 pc : Int
 seen : Int
 tgt : Int
def cJ.pv (s : cJ) : PV:=.agg [.I s.f,.I s.pc,.I s.seen,.I s.tgt]
def aO (l : List cJ) : PV:=.lst (l.map cJ.pv)
def isW (o : Int) : Prop:=o=23∨(11≤o∧o≤14)
instance (o : Int) : Decidable (isW o):=by unfold isW;infer_instance
def bO (a b : cJ) : Prop:=a.f<b.f∨(a.f=b.f∧a.pc<b.pc)
instance (a b : cJ) : Decidable (bO a b):=by unfold bO;infer_instance
def plP (m : dT) (f pc : Int) : Prop:=(0≤f∧f<m.funcs.length)∧(0≤pc∧pc<(dB m.funcs f).length)
instance (m : dT) (f pc : Int) : Decidable (plP m f pc):=by unfold plP;infer_instance
def fC (m : dT) (s : cJ) : Prop:=plP m s.f s.pc∧
 (((bS m s.f s.pc).o=23∧s.seen=1∧0≤s.tgt∧s.tgt<m.funcs.length)∨((bS m s.f s.pc).o=23∧s.seen=2∧s.tgt=0)∨((11≤(bS m s.f s.pc).o∧(bS m s.f s.pc).o≤14)∧1≤s.seen∧s.seen≤3∧s.tgt=0))
instance (m : dT) (s : cJ) : Decidable (fC m s):=by unfold fC;infer_instance
def kW (m : dT) : Option cJ→List cJ→Bool
 | _,[]=>true
 | q,s::r=>decide (fC m s)&&((match q with | none=>true | some q=>decide (bO q s))&&kW m (some s) r)
def oP (m : dT) (p : List cJ) : Bool:=decide (p.length≤150)&&kW m none p
def qO (p : List cJ) (i : Nat) : Option cJ:=if i=0 then none else p[i - 1]?
theorem pE {p : List cJ} {i : Nat} (h : i<p.length) : qO p (i+1)=some p[i]:=by simp [qO,List.getElem?_eq_getElem h]
section
variable {P : R → Prop} {k : R → OR} {m : dT}
theorem nD {kp : PV→OR} {i j : Int} (h0 : 0≤j∧j<(dB m.funcs i).length) (h : Ok P (kp (.agg [.I (bS m i j).o,.I (bS m i j).a]))) : Ok P (bd (PV.at_ 2 true (.lst ((dB m.funcs i).map bP.pv)) (.I j)) kp):=by
 obtain ⟨q,rfl⟩:=Int.eq_ofNat_of_zero_le h0.1
 have hq : q<(dB m.funcs i).length:=by omega
 refine aQ hq (λ_=>rfl) ?_
 have e : bS m i q=(dB m.funcs i)[q]:=by simp [bS,List.getElem?_eq_getElem hq]
 rw [e] at h
 exact h
theorem aIr (hs : m.sized) (i : Int) : (dB m.funcs i).length≤1000000000:=by
 unfold dB
 cases hx : m.funcs[i.toNat]? with
 | none=>simp
 | some f=>exact hs.2.2.2 f (List.mem_of_getElem? hx)
theorem aJA {o : Int} (h : Ok P (k [.bool (decide (isW o))])) : Ok P (bd (mZ (.I o)) k):=by
 refine aI (Q:=λr=>r = [.bool (decide (isW o))]) ?_ (λr hr=>by rw [hr];exact h)
 rw [aFH]
 have t : isW o→Ok (λr=>r = [.bool (decide (isW o))]) (some [.bool true]):=λh=>aB (by rw [decide_eq_true h])
 have f : ¬ isW o→Ok (λr=>r = [.bool (decide (isW o))]) (some [.bool false]):=λh=>aB (by rw [decide_eq_false h])
 unfold isW at t f ⊢
 refine aG (aC (λ_=>t (by omega)) (λ_=>?_))
 refine aG (aC (λ_=>t (by omega)) (λ_=>?_))
 refine aG (aC (λ_=>t (by omega)) (λ_=>?_))
 refine aG (aC (λ_=>t (by omega)) (λ_=>?_))
 exact aG (aC (λ_=>t (by omega)) (λ_=>f (by omega)))
theorem aFb {a b : cJ} (h : Ok P (k [.bool (decide (bO a b))])) : Ok P (bd (qS a.pv b.pv) k):=by
 refine aI (Q:=λr=>r = [.bool (decide (bO a b))]) ?_ (λr hr=>by rw [hr];exact h)
 rw [aDw]
 have t : (a.f<b.f∨(a.f=b.f∧a.pc<b.pc))→decide (bO a b)=true:=λh=>decide_eq_true h
 have f : ¬ (a.f<b.f∨(a.f=b.f∧a.pc<b.pc))→decide (bO a b)=false:=λh=>decide_eq_false h
 refine aE rfl (aA rfl (aA rfl (aA rfl (aA rfl (aE rfl (aA rfl (aA rfl (aA rfl (aA rfl ?_)))))))))
 refine aJ (aC (λh=>aB (by rw [t (by omega)])) (λh=>aG (aC (λh'=>aJ (aB ?_)) (λh'=>aB (by rw [f (by omega)])))))
 by_cases h2 : a.pc<b.pc
 ·rw [t (by omega),decide_eq_true h2]
 ·rw [f (by omega),decide_eq_false h2]
theorem aMZ {a b : cJ} (h : ∀ n : Int,(0≤n↔¬ bO a b)→Ok P (k [.I n])) : Ok P (bd (eO a.pv b.pv) k):=by
 refine aI (Q:=λr=>∃ n : Int,r = [.I n]∧(0≤n↔¬ bO a b)) ?_ (λr ⟨n,hr,hn⟩=>by rw [hr];exact h n hn)
 rw [pR]
 refine aE rfl (aA rfl (aA rfl (aA rfl (aA rfl (aE rfl (aA rfl (aA rfl (aA rfl (aA rfl ?_)))))))))
 refine aHh (aHh (aL6 (dG rfl (aB ⟨_,rfl,?_⟩))))
 unfold aIq bO
 repeat' split
 all_goals omega
theorem aIs (hs : m.sized) {p : List cJ} (hp : p.length≤2097152) : Ok (λr=>r = [.bool (oP m p)]) (aAL m.pv (aO p)):=by
 have hfl:=hs.2.1
 rw [aFG]
 refine aE rfl (aA rfl (aA rfl (aF ?_)))
 refine cD (aC (λh=>aB (by rw [oP,decide_eq_false (by omega)];rfl)) (λh=>?_))
 have e : oP m p=kW m (qO p 0) (p.drop 0):=by rw [oP,decide_eq_true (by omega)];rfl
 rw [e]
 refine lH (n:=p.length) (P:=λi r=>r = [.bool (kW m (qO p i) (p.drop i))]) (F:=λi=>iK (aO p) (.I i) (.lst (m.texts.map PV.str)) (.lst (m.funcs.map cZ.pv))) ?_ ?_ 0 (by omega)
 ·rw [uN]
  refine aF (aJ (aC (λh=>by omega) (λ_=>aB ?_)))
  rw [List.drop_length];rfl
 ·intro i hi ih
  rw [uN]
  have hpv:=pE hi
  have hdr : p.drop i=p[i]::p.drop (i+1):=List.drop_eq_getElem_cons hi
  rw [hpv] at ih
  rw [hdr]
  have no : ¬ fC m p[i]→Ok (λr=>r = [.bool (kW m (qO p i) (p[i]::p.drop (i+1)))]) (some [.bool false]):=λh=>aB (by simp only [kW];rw [decide_eq_false h];rfl)
  have body : (∀ q,qO p i=some q→bO q p[i])→Ok (λr=>r = [.bool (kW m (qO p i) (p[i]::p.drop (i+1)))])
   (bd (PV.len (.lst (m.funcs.map cZ.pv))) λv410=>bd (PV.bin .sub v410 (.I 1)) λv411=>bd (aL (.I p[i].f) (.I 0) v411) λr412=>
    bd (PV.not (hd r412)) λv413=>
    PV.ite v413
     (some [(.bool false)])
     (bd (PV.at_ 3 true (.lst (m.funcs.map cZ.pv)) (.I p[i].f)) λv414=>
     bd (PV.cell v414 2) λv415=>
     bd (PV.len v415) λv416=>
     bd (PV.bin .sub v416 (.I 1)) λv417=>
     bd (aL (.I p[i].pc) (.I 0) v417) λr418=>
     bd (PV.not (hd r418)) λv419=>
     PV.ite v419
      (some [(.bool false)])
      (bd (PV.at_ 3 true (.lst (m.funcs.map cZ.pv)) (.I p[i].f)) λv420=>
      bd (PV.cell v420 2) λv421=>
      bd (PV.at_ 2 true v421 (.I p[i].pc)) λv422=>
      bd (PV.cell v422 0) λv423=>
      bd (mZ v423) λr424=>
      bd (PV.not (hd r424)) λv425=>
      PV.ite v425
       (some [(.bool false)])
       (bd (aL (.I p[i].seen) (.I 1) (.I 3)) λr426=>
       bd (PV.not (hd r426)) λv427=>
       PV.ite v427
        (some [(.bool false)])
        (bd (PV.bin .eql v423 (.I 23)) λv428=>
        PV.ite v428
         (bd (PV.bin .eql (.I p[i].seen) (.I 1)) λv429=>
         PV.ite v429
          (nW (aO p) (.I i) (.lst (m.texts.map PV.str)) (.lst (m.funcs.map cZ.pv)) (.I p[i].f) (.I p[i].pc) (.I p[i].seen) (.I p[i].tgt))
          (fI (aO p) (.I i) v423 (.lst (m.texts.map PV.str)) (.lst (m.funcs.map cZ.pv)) (.I p[i].f) (.I p[i].pc) (.I p[i].seen) (.I p[i].tgt)))
         (fI (aO p) (.I i) v423 (.lst (m.texts.map PV.str)) (.lst (m.funcs.map cZ.pv)) (.I p[i].f) (.I p[i].pc) (.I p[i].seen) (.I p[i].tgt))))))):=by
   intro hq
   have yes : fC m p[i]→Ok (λr=>r = [.bool (kW m (qO p i) (p[i]::p.drop (i+1)))]) (iK (aO p) (.I ((i : Int)+1)) (.lst (m.texts.map PV.str)) (.lst (m.funcs.map cZ.pv))):=by
    intro h
    have e : kW m (qO p i) (p[i]::p.drop (i+1))=kW m (some p[i]) (p.drop (i+1)):=by
     simp only [kW]
     rw [decide_eq_true h]
     cases hpp : qO p i with
     | none=>rfl
     | some q=>simp only;rw [decide_eq_true (hq q hpp)];rfl
    rw [e]
    exact ih
   unfold fC plP at no yes
   have hcl:=aIr hs p[i].f
   generalize p[i]=s at *
   refine aF (bF (by omega) (eK (bG ?_)))
   cases hb : jU s.f 0 ((m.funcs.length : Int) - 1) with
   | false=>exact cC (no (by have:=qY.1 hb;omega))
   | true=>
     have h1:=bH.1 hb
     refine cB (jD (by omega) (λlc=>aA rfl (aF (bF (by omega) (eK (bG ?_))))))
     cases hb2 : jU s.pc 0 (((dB m.funcs s.f).length : Int) - 1) with
     | false=>exact cC (no (by have:=qY.1 hb2;omega))
     | true=>
       have h2:=bH.1 hb2
       refine cB (jD (by omega) (λlc=>aA rfl (nD (by omega) (aA rfl (aJA (bG (aN (λh3=>?_) (λh3=>eK (bG ?_)))))))))
       ·unfold isW at h3
        exact no (by omega)
       unfold isW at h3
       cases hb3 : jU s.seen 1 3 with
       | false=>exact cC (no (by have:=qY.1 hb3;omega))
       | true=>
         have h4:=bH.1 hb3
         refine cB ?_
         have c15 : ¬ ((bS m s.f s.pc).o=23∧s.seen=1)→Ok (λr=>r = [.bool (kW m (qO p i) (s::p.drop (i+1)))]) (fI (aO p) (.I i) (.I (bS m s.f s.pc).o) (.lst (m.texts.map PV.str)) (.lst (m.funcs.map cZ.pv)) (.I s.f) (.I s.pc) (.I s.seen) (.I s.tgt)):=by
          intro hn
          rw [aBJ]
          refine bM (aN (λh5=>no (by omega)) (λh5=>?_))
          refine aG (aC (λh6=>?_) (λh6=>aP (by omega) (yes (by omega))))
          exact aG (aC (λh7=>no (by omega)) (λh7=>aP (by omega) (yes (by omega))))
         refine aG (aC (λh5=>aG (aC (λh6=>?_) (λh6=>c15 (by omega)))) (λh5=>c15 (by omega)))
         rw [aBI]
         refine aF (bF (by omega) (eK (bG ?_)))
         cases hb4 : jU s.tgt 0 ((m.funcs.length : Int) - 1) with
         | false=>exact cC (no (by have:=qY.1 hb4;omega))
         | true=>
           have:=bH.1 hb4
           exact cB (aP (by omega) (yes (by omega)))
  refine aF (aJ (aC (λ_=>?_) (λh=>by omega)))
  refine aQ hi (λ_=>rfl) (aE rfl (aA rfl (aA rfl (aA rfl (aA rfl ?_)))))
  refine cD (aC (λh=>?_) (λh=>body (λq hq=>by rw [qO,if_pos (by omega)] at hq;cases hq)))
  obtain ⟨j,rfl⟩ : ∃ j,i=j+1:=⟨i - 1,by omega⟩
  refine bF (by omega) ?_
  have ej : ((j+1 : Nat) : Int) - 1=(j : Int):=by omega
  rw [ej]
  have hj : j<p.length:=by omega
  refine aQ hj (λ_=>rfl) (aFb (bG (aN (λh3=>aB ?_) (λh3=>?_))))
  ·rw [pE hj]
   simp only [kW]
   rw [decide_eq_false h3];simp
  ·exact body (λq hq=>by rw [pE hj] at hq;cases hq;exact h3)
end
def aLf (m : dT) (f pc : Int) : R:=if plP m f pc then [.tup [.agg [.I (bS m f pc).o,.I (bS m f pc).a],.bool true]] else [.tup [.agg [.I 0,.I 0],.bool false]]
section
variable {P : R → Prop} {k : R → OR} {m : dT}
theorem aIt (hs : m.sized) {f pc : Int} : Ok (λr=>r=aLf m f pc) (vK m.pv (.I f) (.I pc)):=by
 have hfl:=hs.2.1
 have hcl:=aIr hs f
 rw [aFC]
 have no : ¬ ((0≤f∧f<m.funcs.length)∧(0≤pc∧pc<(dB m.funcs f).length))→Ok (λr=>r=aLf m f pc) (some [.tup [.agg [.I 0,.I 0],.bool false]]):=λh=>aB (by rw [aLf,if_neg (show ¬ plP m f pc from h)])
 have yes : ((0≤f∧f<m.funcs.length)∧(0≤pc∧pc<(dB m.funcs f).length))→Ok (λr=>r=aLf m f pc) (some [.tup [.agg [.I (bS m f pc).o,.I (bS m f pc).a],.bool true]]):=λh=>aB (by rw [aLf,if_pos (show plP m f pc from h)])
 refine aE rfl (aA rfl (aA rfl (aF (iG (by omega) (bG ?_)))))
 cases hb : jU f 0 ((m.funcs.length : Int) - 1) with
 | false=>exact cC (no (by have:=qY.1 hb;omega))
 | true=>
   have h1:=bH.1 hb
   refine cB (jD (by omega) (λlc=>aA rfl (aF (iG (by omega) (bG ?_)))))
   cases hb2 : jU pc 0 (((dB m.funcs f).length : Int) - 1) with
   | false=>exact cC (no (by have:=qY.1 hb2;omega))
   | true=>
     have h2:=bH.1 hb2
     exact cB (jD (by omega) (λlc=>aA rfl (nD (by omega) (aE rfl (aA rfl (aA rfl (yes (by omega))))))))
theorem aL7 (hs : m.sized) {f pc : Int} (h1 : plP m f pc→Ok P (k [.tup [.agg [.I (bS m f pc).o,.I (bS m f pc).a],.bool true]])) (h2 : ¬ plP m f pc→Ok P (k [.tup [.agg [.I 0,.I 0],.bool false]])) :
 Ok P (bd (vK m.pv (.I f) (.I pc)) k):=by
 refine aI (aIt hs) (λr hr=>?_)
 subst hr
 unfold aLf
 by_cases h : plP m f pc
 ·rw [if_pos h];exact h1 h
 ·rw [if_neg h];exact h2 h
theorem aJB {o a : Int} (h : Ok P (k [.bool (jU o 11 14)])) : Ok P (bd (vL (.agg [.I o,.I a])) k):=by
 refine aI (Q:=λr=>r = [.bool (jU o 11 14)]) ?_ (λr hr=>by rw [hr];exact h)
 rw [aDt]
 exact aE rfl (aA rfl (aA rfl (jC (aB rfl))))
theorem aLg (hs : m.sized) {s : cJ} : Ok (λr=>r = [.bool (decide (fC m s))]) (yB m.pv s.pv):=by
 have hfl:=hs.2.1
 rw [aEI]
 have ans : ∀ b : Bool,(b=true↔fC m s)→Ok (λr=>r = [.bool (decide (fC m s))]) (some [.bool b]):=by
  intro b hb
  refine aB ?_
  congr 2
  cases b with
  | true=>exact (decide_eq_true (hb.1 rfl)).symm
  | false=>exact (decide_eq_false (λh=>by have:=hb.2 h;cases this)).symm
 refine aE rfl (aA rfl (aA rfl (aE rfl (aA rfl (aA rfl (aA rfl (aA rfl ?_)))))))
 refine aL7 hs (λhp=>?_) (λhp=>?_)
 ·refine aU rfl (aU rfl (aE rfl (aA rfl (aA rfl (bG (cB ?_))))))
  have c6 : ¬ ((bS m s.f s.pc).o=23∧s.seen=1)→Ok (λr=>r = [.bool (decide (fC m s))]) (nT (.I s.f) (.I s.pc) (.I s.seen) (.I s.tgt) (.I (bS m s.f s.pc).o) (.I (bS m s.f s.pc).a)):=by
   intro hn
   rw [aBG]
   refine aG (aC (λh1=>aG (aC (λh2=>aG (ans _ ?_)) (λh2=>ans _ ?_))) (λh1=>aJB ?_))
   ·rw [decide_eq_true_eq];unfold fC;constructor
    ·intro h;exact ⟨hp,by omega⟩
    ·rintro ⟨_,h⟩;omega
   ·unfold fC;constructor
    ·intro h;cases h
    ·rintro ⟨_,h⟩;omega
   ·cases hb : jU (bS m s.f s.pc).o 11 14 with
    | false=>
      have hb:=qY.1 hb
      refine cB (ans _ ?_)
      unfold fC;constructor
      ·intro h;cases h
      ·rintro ⟨_,h⟩;omega
    | true=>
      have hb:=bH.1 hb
      refine cC (jC ?_)
      cases hb2 : jU s.seen 1 3 with
      | false=>
        have hb2:=qY.1 hb2
        refine cB (ans _ ?_)
        unfold fC;constructor
        ·intro h;cases h
        ·rintro ⟨_,h⟩;omega
      | true=>
        have hb2:=bH.1 hb2
        refine cC (aG (ans _ ?_))
        rw [decide_eq_true_eq];unfold fC;constructor
        ·intro h;exact ⟨hp,by omega⟩
        ·rintro ⟨_,h⟩;omega
  refine aG (aC (λh1=>aG (aC (λh2=>?_) (λh2=>c6 (by omega)))) (λh1=>c6 (by omega)))
  rw [aBF]
  refine aF (iG (by omega) (ans _ ?_))
  rw [bH];unfold fC;constructor
  ·intro h;exact ⟨hp,by omega⟩
  ·rintro ⟨_,h⟩;omega
 ·refine aU rfl (aU rfl (aE rfl (aA rfl (aA rfl (bG (cC (ans _ ?_)))))))
  unfold fC;constructor
  ·intro h;cases h
  ·rintro ⟨h,_⟩;exact absurd h hp
theorem aDe (hs : m.sized) {p : List cJ} (hp : p.length≤2097152) : Ok (λr=>r = [.bool (oP m p)]) (nS m.pv (aO p)):=by
 rw [aBE]
 refine aE rfl (aA rfl (aA rfl (aF ?_)))
 have e : oP m p=(kW m (qO p 0) (p.drop 0)&&decide (p.length≤150)):=by rw [oP,Bool.and_comm];rfl
 rw [e]
 refine lH (n:=p.length) (P:=λi r=>r = [.bool (kW m (qO p i) (p.drop i)&&decide (p.length≤150))]) (F:=λi=>iA (aO p) (aO p) (.I p.length) (.I i) (.lst (m.texts.map PV.str)) (.lst (m.funcs.map cZ.pv))) ?_ ?_ 0 (by omega)
 ·rw [pQ]
  refine aJ (aC (λh=>by omega) (λ_=>aF (dX (aB ?_))))
  rw [List.drop_length]
  simp only [kW,Bool.true_and]
  congr 2
  exact decide_eq_decide.2 (by omega)
 ·intro i hi ih
  rw [pQ]
  have hpv:=pE hi
  have hdr : p.drop i=p[i]::p.drop (i+1):=List.drop_eq_getElem_cons hi
  rw [hpv] at ih
  rw [hdr]
  refine aJ (aC (λ_=>?_) (λh=>by omega))
  refine aQ hi (λ_=>rfl) (aE rfl (aA rfl (aA rfl (aA rfl (aA rfl ?_)))))
  refine aI (aLg hs (s:=p[i])) (λr hr=>?_)
  subst hr
  refine bG (aN (λh=>aB (by simp only [kW];rw [decide_eq_false h];rfl)) (λh=>?_))
  refine cD (aC (λh0=>?_) (λh0=>aP (by omega) ?_))
  ·obtain ⟨j,rfl⟩ : ∃ j,i=j+1:=⟨i - 1,by omega⟩
   refine bF (by omega) ?_
   have ej : ((j+1 : Nat) : Int) - 1=(j : Int):=by omega
   rw [ej]
   have hj : j<p.length:=by omega
   refine aQ hj (λ_=>rfl) (aMZ (λn hn=>dY (aC (λh3=>aB ?_) (λh3=>aP (by omega) ?_))))
   ·rw [pE hj]
    simp only [kW]
    rw [decide_eq_false (hn.1 h3)];simp
   ·rw [pE hj]
    simp only [kW]
    have : bO p[j] p[j+1]:=by
     apply Classical.byContradiction
     intro h
     exact h3 (hn.2 h)
    rw [decide_eq_true h,decide_eq_true this]
    exact ih
  ·have : qO p i=none:=by rw [qO,if_pos (by omega)]
   rw [this]
   simp only [kW]
   rw [decide_eq_true h]
   exact ih
def nE (m : dT) (p : List cJ) : Bool:=yZ m&&oP m p
theorem aFc (hs : m.sized) {p : List cJ} (hp : p.length≤2097152) (h : Ok P (k [.bool (nE m p)])) : Ok P (bd (nV m.pv (aO p)) k):=by
 refine aI (Q:=λr=>r = [.bool (nE m p)]) ?_ (λr hr=>by rw [hr];exact h)
 rw [aBH]
 refine aE rfl (aA rfl (aA rfl (aDQ hs (aS (λh=>aI (aIs hs hp) (λr hr=>by subst hr;exact aB (by rw [nE,h];rfl))) (λh=>aB (by rw [nE,h];rfl))))))
theorem aDf (hs : m.sized) {p : List cJ} (hp : p.length≤2097152) (h : Ok P (k [.bool (nE m p)])) : Ok P (bd (nR m.pv (aO p)) k):=by
 refine aI (Q:=λr=>r = [.bool (nE m p)]) ?_ (λr hr=>by rw [hr];exact h)
 rw [aBD]
 refine aE rfl (aA rfl (aA rfl (aL4 hs (aS (λh=>aI (aDe hs hp) (λr hr=>by subst hr;exact aB (by rw [nE,h];rfl))) (λh=>aB (by rw [nE,h];rfl))))))
def aIu (f pc : Int) (s : cJ) : Bool:=decide (s.f=f)&&decide (s.pc=pc)
def zA (p : List cJ) (f pc : Int) : cJ:=(p.find? (aIu f pc)).getD ⟨0,0,0,0⟩
theorem aIv {s : cJ} {p : List cJ} {f pc : Int} : zA (s::p) f pc=if s.f=f∧s.pc=pc then s else zA p f pc:=by
 unfold zA
 rw [List.find?_cons]
 by_cases h : s.f=f∧s.pc=pc
 ·have : aIu f pc s=true:=by simp [aIu,h]
  rw [this,if_pos h];rfl
 ·have : aIu f pc s=false:=by simp [aIu];omega
  rw [this,if_neg h]
theorem aLh {p : List cJ} (hp : p.length≤2097152) {f pc : Int} (h : Ok P (k [(zA p f pc).pv])) : Ok P (bd (yI (aO p) (.I f) (.I pc)) k):=by
 refine aI (Q:=λr=>r = [(zA p f pc).pv]) ?_ (λr hr=>by rw [hr];exact h)
 rw [aES]
 refine lH (n:=p.length) (P:=λi r=>r = [(zA (p.drop i) f pc).pv]) (F:=λi=>kT (aO p) (.I f) (.I pc) (.I i) (.I 0) (.I 0) (.I 0) (.I 0)) ?_ ?_ 0 (by omega)
 ·rw [tF]
  refine aF (aJ (aC (λh=>by omega) (λ_=>aB ?_)))
  rw [List.drop_length];rfl
 ·intro i hi ih
  rw [tF,List.drop_eq_getElem_cons hi,aIv]
  refine aF (aJ (aC (λ_=>?_) (λh=>by omega)))
  refine aQ hi (λ_=>rfl) (aA rfl (aG (aC (λh1=>?_) (λh1=>aP (by omega) ?_))))
  ·refine aQ hi (λ_=>rfl) (aA rfl (aG (aC (λh2=>?_) (λh2=>aP (by omega) ?_))))
   ·refine aQ hi (λ_=>rfl) (aE rfl (aA rfl (aA rfl (aA rfl (aA rfl (aB ?_))))))
    rw [if_pos ⟨h1,h2⟩];rfl
   ·rw [if_neg (λh=>h2 h.2)];exact ih
  ·rw [if_neg (λh=>h1 h.1)];exact ih
end
structure SpT where
 f : Int
 pc : Int
 kind : Int
 tgt : Int
def SpT.pv (s : SpT) : PV:=.agg [.I s.f,.I s.pc,.I s.kind,.I s.tgt]
def aM0 (l : List SpT) : PV:=.lst (l.map SpT.pv)
def aL8 (m : dT) (s : SpT) : Prop:=plP m s.f s.pc∧
 ((s.kind=1∧(11≤(bS m s.f s.pc).o∧(bS m s.f s.pc).o≤14)∧s.tgt=0)∨(s.kind=2∧(bS m s.f s.pc).o=23∧(0≤s.tgt∧s.tgt<m.funcs.length)∧iN m.funcs s.tgt=(bS m s.f s.pc).a))
instance (m : dT) (s : SpT) : Decidable (aL8 m s):=by unfold aL8;infer_instance
def aL9 (m : dT) (x : cJ) : SpT:=if (bS m x.f x.pc).o=23 then ⟨x.f,x.pc,2,x.tgt⟩ else ⟨x.f,x.pc,1,0⟩
def aOb (s b : SpT) : Bool:=decide (b.f=s.f)&&(decide (b.pc=s.pc)&&decide (b.kind=s.kind))
def aNW (m : dT) (black : List SpT) (x : cJ) : Bool:=decide (x.seen=1)&&(decide (aL8 m (aL9 m x))&&!(black.any (aOb (aL9 m x))))
def aNX (m : dT) (sites : List cJ) (black : List SpT) : List SpT:=(sites.filter (aNW m black)).map (aL9 m)
section
variable {P : R → Prop} {k : R → OR} {m : dT}
end
section
variable {P : R → Prop} {k : R → OR} {m : dT}
def aOh (m : dT) (sites : List cJ) (black : List SpT) (lay : Int) (bare : Bool) : PV:=
 if nE m sites=true∧0≤lay∧lay≤3 then .agg [aM0 (aNX m sites black),.I lay,.bool bare] else .agg [.lst [],.I 0,.bool false]
end
def aOi (a b : SpT) : Prop:=a.f<b.f∨(a.f=b.f∧a.pc<b.pc)
section
variable {P : R → Prop} {k : R → OR} {m : dT}
end
def MdP (l : List Int) (A : Int) (r : R) : Prop:=∃ a s : Int,∃ m : dT,r = [m.pv,aZ l,.I a,.I s]∧0≤a∧a≤A∧0≤s∧s<65521∧m.sized∧1≤m.funcs.length∧m.funcs.length≤100
theorem MdP.of {l : List Int} {A a s : Int} {ts fs : R} (h : 0≤a∧a≤A∧0≤s∧s<65521) (h1 : ∀ x∈ts,iO x) (h2 : ts.length≤100) (h3 : ∀ x∈fs,kH x) (h4 : fs.length≤100) (h5 : 1≤fs.length) : ∃ m : dT,ts=m.texts.map PV.str∧fs=m.funcs.map cZ.pv∧m.sized∧1≤m.funcs.length∧m.funcs.length≤100:=by
 obtain ⟨t,rfl,ht⟩:=aKd h1
 obtain ⟨f,rfl,hf⟩:=aKf h3
 rw [List.length_map] at h2 h4 h5
 exact ⟨⟨t,f⟩,rfl,rfl,⟨by show t.length≤_;omega,by show f.length≤_;omega,λx hx=>by have:=ht x hx;omega,hf⟩,h5,h4⟩
section
variable {l : List Int} (hl : Bts l) {P : R → Prop}
include hl
theorem aIw {a s : Int} (h0 : 0≤a∧a≤800000000∧0≤s∧s<65521) : Ok (MdP l (a+4000000)) (oW (aZ l) (.I a) (.I s)):=by
 rw [zY]
 refine aI (aAv hl h0) ?_
 rintro r ⟨a1,s1,ts,fs,rfl,h1,h2,h3,h4,ht,htn,hf,hn1,hn2⟩
 obtain ⟨m,rfl,rfl,hs,hm1,hm2⟩:=MdP.of (l:=l) (A:=a1) (a:=a1) (s:=s1) (by omega) ht (by omega) (λx hx=>(hf x hx).toFun) (by omega) hn1
 refine aE rfl (aA rfl (aA rfl (aDQ hs (bG (aS (λ_=>aB ?_) (λ_=>aB ?_))))))
 ·refine ⟨a1,s1,⟨[],[⟨0,1,[⟨6,0⟩,⟨26,0⟩,⟨4,0⟩,⟨25,0⟩]⟩]⟩,rfl,by omega,by omega,by omega,by omega,⟨?_,?_,?_,?_⟩,?_,?_⟩
  all_goals simp
 ·exact ⟨a1,s1,m,rfl,by omega,by omega,by omega,by omega,hs,hm1,hm2⟩
theorem aIx {a s : Int} (h0 : 0≤a∧a≤700000000∧0≤s∧s<65521) : Ok (MdP l (a+5000000)) (oV (aZ l) (.I a) (.I s)):=by
 rw [zW]
 refine iF hl (by omega) (by omega) (λb a1 s1 h1=>aS (λ_=>?_) (λ_=>?_))
 ·refine aI (aJz hl (by omega) (by omega)) ?_
  rintro r ⟨a2,s2,ts,fs,rfl,g1,g2,g3,g4,ht,htn,hf,hn2,hn1⟩
  obtain ⟨m,rfl,rfl,hs,hm1,hm2⟩:=MdP.of (l:=l) (A:=a2) (a:=a2) (s:=s2) (by omega) ht (by omega) hf (by omega) hn1
  exact aE rfl (aA rfl (aA rfl (aB ⟨a2,s2,m,rfl,by omega,by omega,by omega,by omega,hs,hm1,hm2⟩)))
 ·refine aI (aIw hl (by omega)) ?_
  rintro r ⟨a2,s2,m,rfl,g1,g2,g3,g4,hs,hm1,hm2⟩
  exact aE rfl (aA rfl (aA rfl (aB ⟨a2,s2,m,rfl,by omega,by omega,by omega,by omega,hs,hm1,hm2⟩)))
def aNZ (l : List Int) (A : Int) (r : R) : Prop:=∃ a s : Int,∃ v : eL,r = [v.pv,aZ l,.I a,.I s]∧0≤a∧a≤A∧0≤s∧s<65521∧v.s.size≤1000
omit hl in
theorem aKg : ∀ x∈[PV.str (bs []),PV.str (bs [97]),PV.str (bs [98,99]),PV.str (bs [48,49,50,51,52,53,54,55,56,57,48,49,50,51,52,53,54,55,56,57,48,49,50,51,52,53,54,55,56,57,48,49,50,51,52,53,54,55,56,57])],iO x:=by
 intro x hx
 simp only [List.mem_cons,List.not_mem_nil,or_false] at hx
 rcases hx with rfl | rfl | rfl | rfl<;>exact ⟨_,rfl,by decide⟩
omit hl in
theorem aKh : ∀ x∈[PV.str (bs []),PV.str (bs [97]),PV.str (bs [34])],iO x:=by
 intro x hx
 simp only [List.mem_cons,List.not_mem_nil,or_false] at hx
 rcases hx with rfl | rfl | rfl<;>exact ⟨_,rfl,by decide⟩
theorem aHi {a s : Int} (h0 : 0≤a∧a≤800000000∧0≤s∧s<65521) : Ok (aNZ l (a+10)) (iC (aZ l) (.I a) (.I s)):=by
 rw [yO]
 have e0 : (bs []).size≤1000:=by decide
 have num : ∀ {a1 s1 : Int},a≤a1∧a1≤a+1∧0≤s1∧s1<65521→Ok (aNZ l (a+10)) (bd (eC (aZ l) (.I a1) (.I s1)) λr1757=>
  bd (eW (gd r1757 0)) λr1758=>
  bd (PV.whole 3 (hd r1758)) λv1759=>
  bd (PV.cell v1759 0) λv1760=>
  bd (PV.cell v1759 1) λv1761=>
  bd (PV.cell v1759 2) λv1762=>
  some [(.agg [v1760,v1761,v1762]),(gd r1757 1),(gd r1757 2),(gd r1757 3)]):=λh=>
  aGc hl (by omega) (λn a2 s2 h2=>uS (aE rfl (aA rfl (aA rfl (aA rfl (aB ⟨a2,s2,wX n,rfl,by omega,by omega,by omega,by omega,e0⟩))))))
 refine bC hl (by omega) (by omega) (λx a1 s1 h1=>?_)
 refine aG (aC (λ_=>aB ⟨a1,s1,fB,rfl,by omega,by omega,by omega,by omega,e0⟩) (λ_=>?_))
 refine aG (aC (λ_=>num (by omega)) (λ_=>?_))
 refine aG (aC (λ_=>num (by omega)) (λ_=>?_))
 refine aG (aC (λ_=>num (by omega)) (λ_=>?_))
 refine aG (aC (λ_=>bC hl (by omega) (by omega) (λy a2 s2 h2=>aT rfl (aB ⟨a2,s2,⟨2,y,bs []⟩,rfl,by omega,by omega,by omega,by omega,e0⟩))) (λ_=>?_))
 refine aG (aC (λ_=>bC hl (by omega) (by omega) (λy a2 s2 h2=>?_)) (λ_=>?_))
 ·refine cT (by omega) (by simp;omega) (rG (by omega) (by simp;omega) (iO.el aKg) (λz hz _=>?_))
  obtain ⟨b,rfl,hb⟩:=aKg z hz
  exact aT rfl (aB ⟨a2,s2,⟨3,0,b⟩,rfl,by omega,by omega,by omega,by omega,hb⟩)
 refine aG (aC (λ_=>bC hl (by omega) (by omega) (λy a2 s2 h2=>aT rfl (aB ⟨a2,s2,⟨4,y,bs []⟩,rfl,by omega,by omega,by omega,by omega,e0⟩))) (λ_=>?_))
 refine aG (aC (λ_=>bC hl (by omega) (by omega) (λy a2 s2 h2=>aT rfl (aB ⟨a2,s2,⟨5,y,bs []⟩,rfl,by omega,by omega,by omega,by omega,e0⟩))) (λ_=>?_))
 refine bC hl (by omega) (by omega) (λy a2 s2 h2=>bF (by omega) (bC hl (by omega) (by omega) (λz a3 s3 h3=>bF (by omega) (bC hl (by omega) (by omega) (λw a4 s4 h4=>?_)))))
 refine cT (by omega) (by simp;omega) (rG (by omega) (by simp;omega) (iO.el aKh) (λt ht _=>?_))
 obtain ⟨b,rfl,hb⟩:=aKh t ht
 exact aT rfl (aT rfl (aT rfl (aB ⟨a4,s4,⟨y - 1,z - 1,b⟩,rfl,by omega,by omega,by omega,by omega,hb⟩)))
def aIy (l : List Int) (A : Int) (r : R) : Prop:=∃ a s : Int,∃ vs : List eL,r = [bD vs,aZ l,.I a,.I s]∧0≤a∧a≤A∧0≤s∧s<65521∧(∀ v∈vs,v.s.size≤1000)∧vs.length≤21
omit hl in
theorem aGw {vs : List eL} (h : ∀ v∈vs,v.s.size≤1000) {v : eL} (hv : v.s.size≤1000) : ∀ w∈vs++[v],w.s.size≤1000:=by
 intro w hw
 rcases List.mem_append.1 hw with hw | hw
 ·exact h w hw
 ·rw [List.mem_singleton] at hw;rw [hw];exact hv
omit hl in
theorem aFd {k : PV→OR} {vs : List eL} (hn : vs.length≤1000) {v : eL} (h : Ok P (k (bD (vs++[v])))) : Ok P (bd (PV.cat 3 32 true (.lst []) (.lst [v.pv])) λy=>bd (PV.cat 3 32 true (bD vs) y) k):=by
 refine hJ (by simp) (pM (l:=[v])) (jI (by simp;omega) (pM (l:=[v])) ?_)
 rw [show vs.map eL.pv++[v.pv]=(vs++[v]).map eL.pv by rw [List.map_append];rfl]
 exact h
theorem aIz {a s : Int} {vs : List eL} (h0 : 0≤a∧a≤790000000∧0≤s∧s<65521) (hv : ∀ v∈vs,v.s.size≤1000) (hn : vs.length≤20) : Ok (aIy l (a+20)) (bd (bY (.I 30) (aZ l) (.I a) (.I s)) λr1440=>
 PV.ite (gd r1440 0)
  (bd (iC (gd r1440 1) (gd r1440 2) (gd r1440 3)) λr1441=>
  bd (PV.cat 3 32 true (.lst []) (.lst [(gd r1441 0)])) λv1442=>
  bd (PV.cat 3 32 true (bD vs) v1442) λv1443=>
  some [v1443,(gd r1441 1),(gd r1441 2),(gd r1441 3)])
  (some [bD vs,(gd r1440 1),(gd r1440 2),(gd r1440 3)])):=by
 refine iF hl (by omega) (by omega) (λb a1 s1 h1=>aS (λ_=>aI (aHi hl (by omega)) ?_) (λ_=>aB ⟨a1,s1,vs,rfl,by omega,by omega,by omega,by omega,hv,by omega⟩))
 rintro r ⟨a2,s2,v,rfl,g1,g2,g3,g4,g5⟩
 exact aFd (by omega) (aB ⟨a2,s2,vs++[v],rfl,by omega,by omega,by omega,by omega,aGw hv g5,by simp;omega⟩)
theorem aIA {m : dT} (hs : m.sized) (hm : 1≤m.funcs.length) {a s : Int} (h0 : 0≤a∧a≤700000000∧0≤s∧s<65521) : Ok (aIy l (a+1000)) (oX (.lst (m.texts.map PV.str)) (.lst (m.funcs.map cZ.pv)) (aZ l) (.I a) (.I s)):=by
 rw [aAa]
 have hfl:=hs.2.1
 have loop : ∀ (j : Nat) (q a1 s1 : Int) (vs : List eL),q+j=20→0≤q→vs.length=q→(a≤a1∧a1≤a+10*q∧0≤s1∧s1<65521)→(∀ v∈vs,v.s.size≤1000)→
  Ok (aIy l (a+1000)) (iQ (.I q) (aZ l) (.I a1) (.I s1) (.lst (m.texts.map PV.str)) (.lst (m.funcs.map cZ.pv)) (bD vs)):=by
  intro j
  induction j with
  | zero=>
    intro q a1 s1 vs hq hq0 hn h1 hv
    have fin:=aIz hl (a:=a1) (s:=s1) (vs:=vs) (by omega) hv (by omega)
    have fin : Ok (aIy l (a+1000)) _:=fin.mono (λr ⟨a',s',v',hr,g1,g2,g⟩=>⟨a',s',v',hr,g1,by omega,g⟩)
    rw [oC]
    refine jD (by omega) (λlc=>aA rfl (aJ (aC (λ_=>aJ (aC (λh=>by omega) (λ_=>fin))) (λ_=>fin))))
  | succ j ih=>
    intro q a1 s1 vs hq hq0 hn h1 hv
    have fin:=aIz hl (a:=a1) (s:=s1) (vs:=vs) (by omega) hv (by omega)
    have fin : Ok (aIy l (a+1000)) _:=fin.mono (λr ⟨a',s',v',hr,g1,g2,g⟩=>⟨a',s',v',hr,g1,by omega,g⟩)
    rw [oC]
    refine jD (by omega) (λlc=>aA rfl (aJ (aC (λ_=>aJ (aC (λ_=>?_) (λ_=>fin))) (λ_=>fin))))
    refine bC hl (by omega) (by omega) (λx1 a2 s2 h2=>uS (bC hl (by omega) (by omega) (λx2 a3 s3 h3=>bF (by omega) (uS (bC hl (by omega) (by omega) (λx3 a4 s4 h4=>uS (nJ (aF (bC hl (by omega) (by omega) (λx4 a5 s5 h5=>aT rfl ?_))))))))))
    refine hJ (by simp) (pM (l:=[wX x1,wX (x2 - 2),wX x3,qN true,aBS (bs [113]),fB,aJk x4])) ?_
    refine bC hl (by omega) (by omega) (λx5 a6 s6 h6=>?_)
    refine cT (by omega) (by simp;omega) (rG (by omega) (by simp;omega) (pM (l:=[wX x1,wX (x2 - 2),wX x3,qN true,aBS (bs [113]),fB,aJk x4])) (λz hz _=>?_))
    obtain ⟨v,hv',rfl⟩:=List.mem_map.1 (show z∈[wX x1,wX (x2 - 2),wX x3,qN true,aBS (bs [113]),fB,aJk x4].map eL.pv from hz)
    have hvs : v.s.size≤1000:=by
     have e0 : (bs []).size≤1000:=by decide
     have e1 : (bs [113]).size≤1000:=by decide
     simp only [List.mem_cons,List.not_mem_nil,or_false] at hv'
     rcases hv' with rfl | rfl | rfl | rfl | rfl | rfl | rfl<;>first | exact e0 | exact e1
    refine aFd (by omega) (aP (by omega) (ih (q+1) a6 s6 (vs++[v]) (by omega) (by omega) (by simp;omega) (by omega) (aGw hv hvs)))
 exact loop 20 0 a s [] (by omega) (by omega) rfl (by omega) (by simp)
end
theorem aB7 {l : List cJ} : ∀ x∈l.map cJ.pv,x.isEl 4 true=true:=by
 intro x hx
 obtain ⟨a,_,rfl⟩:=List.mem_map.1 hx
 rfl
theorem gQ (l : List cJ) : PV.flatO (.own 4 32 true []) (aO l)=true:=by
 show PV.flatEs true [] (l.map cJ.pv)=true
 induction l with
 | nil=>simp [PV.flatEs]
 | cons x r ih=>simp [PV.flatEs,PV.flatE,PV.flatCs,PV.flat,cJ.pv,ih]
section
variable {P : R → Prop} {m : dT}
theorem aNA {k : PV→OR} {a b : Int} (h : ∀ n : Int,Ok P (k (.I n))) : Ok P (bd (PV.bin .or (.I a) (.I b)) k):=
 cU _ (by rw [gR (by simp) (by simp)];rfl) (h _)
theorem aM1 {k : R→OR} {o : Int} {a b : cJ} (h : ∀ c : cJ,Ok P (k [c.pv])) : Ok P (bd (qU (.I o) a.pv b.pv) k):=by
 refine aI (Q:=λr=>∃ c : cJ,r = [c.pv]) ?_ (λr ⟨c,hr⟩=>by rw [hr];exact h c)
 rw [wO]
 refine aE rfl (aA rfl (aA rfl (aA rfl (aA rfl (aE rfl (aA rfl (aA rfl (aA rfl (aA rfl ?_)))))))))
 refine bM (aN (λ_=>aNA (λn=>aT rfl (aB ⟨⟨a.f,a.pc,n,a.tgt⟩,rfl⟩))) (λ_=>?_))
 have f : Ok (λr=>∃ c : cJ,r = [c.pv]) (some [.agg [.I a.f,.I a.pc,.I 2,.I 0]]):=aB ⟨⟨a.f,a.pc,2,0⟩,rfl⟩
 exact bM (aN (λ_=>f) (λ_=>bM (aN (λ_=>f) (λ_=>bM (aN (λ_=>f) (λ_=>aB ⟨a,rfl⟩))))))
theorem eF {k : PV→OR} {vs : List cJ} (hn : vs.length≤100000) {v : cJ} (h : Ok P (k (aO (vs++[v])))) : Ok P (bd (PV.cat 4 32 true (aO vs) (.lst [v.pv])) k):=by
 refine jI (by simp;omega) (aB7 (l:=[v])) ?_
 rw [show vs.map cJ.pv++[v.pv]=(vs++[v]).map cJ.pv by rw [List.map_append];rfl]
 exact h
theorem jG {k : PV→OR} {v : cJ} (h : Ok P (k (.lst [v.pv]))) : Ok P (bd (PV.cat 4 32 true (.lst []) (.lst [v.pv])) k):=hJ (by simp) (aB7 (l:=[v])) h
theorem aNB {k : R→OR} {p : List cJ} (hp : p.length≤10000) {s : cJ} (hs : plP m s.f s.pc) (h : ∀ q : List cJ,q.length≤p.length+1→Ok P (k [aO q])) : Ok P (bd (fJ m.pv (aO p) s.pv) k):=by
 refine aI (Q:=λr=>∃ q : List cJ,r = [aO q]∧q.length≤p.length+1) ?_ (λr ⟨q,hr,hq⟩=>by rw [hr];exact h q hq)
 rw [yN]
 refine aE rfl (aA rfl (aA rfl (aE rfl (aA rfl (aA rfl (aA rfl (aA rfl ?_)))))))
 refine sE (n:=p.length) (σ:=Bool × List cJ) (F:=λi z=>cG (aO p) (.bool z.1) (.I i) (.lst (m.texts.map PV.str)) (.lst (m.funcs.map cZ.pv)) (.I s.f) (.I s.pc) (.I s.seen) (.I s.tgt) (aO z.2)) (λi z=>z.2.length≤i+(if z.1 then 1 else 0)) ?_ ?_ 0 (false,[]) (by omega) (by simp)
 ·rintro ⟨d,acc⟩ hz
  show Ok _ (cG _ _ _ _ _ _ _ _ _ _)
  rw [kG]
  have hz : acc.length≤p.length+(if d then 1 else 0):=hz
  refine aF (aJ (aC (λh=>by omega) (λ_=>bG (aS (λhd=>?_) (λhd=>aB ⟨acc,rfl,?_⟩)))))
  ·have : d=false:=by simpa using hd
   rw [this,if_neg (by simp)] at hz
   exact eF (vs:=acc) (v:=s) (by omega) (aB ⟨acc++[s],rfl,by simp;omega⟩)
  ·cases d<;>simp at hz<;>omega
 ·rintro i ⟨d,acc⟩ hi hz ih
  show Ok _ (cG _ _ _ _ _ _ _ _ _ _)
  rw [kG]
  have hz : acc.length≤i+(if d then 1 else 0):=hz
  have hz2 : acc.length≤i+1:=by cases d<;>simp at hz<;>omega
  have c7 : Ok (λr=>∃ q : List cJ,r = [aO q]∧q.length≤p.length+1) (nY (aO p) (.I i) (.lst (m.texts.map PV.str)) (.lst (m.funcs.map cZ.pv)) (.I s.f) (.I s.pc) (.I s.seen) (.I s.tgt) (aO acc)):=by
   rw [tC]
   refine jD hs.1 (λlc=>aA rfl (nD hs.2 (aA rfl (aQ hi (λ_=>rfl) (aM1 (b:=s) (λc=>jG (eF (by omega) (aP (by omega) ?_))))))))
   exact ih (true,acc++[c]) (by simp;omega)
  have c9 : Ok (λr=>∃ q : List cJ,r = [aO q]∧q.length≤p.length+1) (kR (aO p) (.bool d) (.I i) (.lst (m.texts.map PV.str)) (.lst (m.funcs.map cZ.pv)) (.I s.f) (.I s.pc) (.I s.seen) (.I s.tgt) (aO acc)):=by
   rw [tD]
   have go : Ok (λr=>∃ q : List cJ,r = [aO q]∧q.length≤p.length+1) (cG (aO p) (.bool d) (.I ((i : Int)+1)) (.lst (m.texts.map PV.str)) (.lst (m.funcs.map cZ.pv)) (.I s.f) (.I s.pc) (.I s.seen) (.I s.tgt) (aO (acc++[p[i]]))):=
    ih (d,acc++[p[i]]) (by simp;omega)
   refine bG (aS (λhd=>?_) (λ_=>aQ hi (λ_=>rfl) (jG (eF (by omega) (aP (by omega) go)))))
   have hd : d=false:=by simpa using hd
   refine aQ hi (λ_=>rfl) (aFb (a:=s) (aC (λ_=>?_) (λ_=>aQ hi (λ_=>rfl) (jG (eF (by omega) (aP (by omega) go))))))
   rw [sB]
   rw [hd,if_neg (by simp)] at hz
   refine eF (v:=s) (by omega) (aQ hi (λ_=>rfl) (jG (eF (by simp;omega) (aP (by omega) ?_))))
   exact ih (true,acc++[s]++[p[i]]) (by simp;omega)
  refine aF (aJ (aC (λ_=>?_) (λh=>by omega)))
  exact aQ hi (λ_=>rfl) (aA rfl (aG (aC (λ_=>aQ hi (λ_=>rfl) (aA rfl (aG (aC (λ_=>c7) (λ_=>c9))))) (λ_=>c9))))
end
section
variable {P : R → Prop} {k : R → OR}
def aOo (f : PV) (g : Int→Int→Int) : Prop:=∀ {a b : Int} {P : R→Prop} {k : R→OR},dA a=true→dA b=true→Ok P (k [.I (g a b)])→Ok P (bd (PV.apply aY f [.I a,.I b]) k)
end
section
variable {P : R → Prop} {k : R → OR}
end
section
variable {P : R → Prop} {k : R → OR}
end
def DoI (made a3 a4 a5 a6 a7 a8 F H O : PV) (fs0 : List eU) : aJo→R→Prop
 | .trap c,r=>c≠0∧r = [.I c,made,a3,a4,a5,a6,a7,a8,F,H,O]
 | .next fr hp made' out,r=>r = [.I 0,.I made',a3,a4,a5,a6,a7,a8,.lst (fs0.map eU.pv++[fr.pv]),.lst (hp.map jE),.lst (out.map PV.str)]
 | .call fr g,r=>r = [.I 0,made,a3,a4,a5,a6,a7,a8,.lst (fs0.map eU.pv++[fr.pv]++[g.pv]),H,O]
 | .ret v,r=>r=if fs0 = [] then [.I 0,made,.I 1,a4,.I v.k,.I v.n,.str v.s,a8,.lst [],H,O]
  else [.I 0,made,a3,a4,a5,a6,a7,a8,.lst ((aE1 v fs0).map eU.pv),H,O]
section
variable {P : R → Prop} {k : R → OR} {A : R}
end
def aN0 (m : dT) : Nat→uC→uC
 | 0,v=>v
 | n+1,v=>aN0 m n (uV m v)
def jY (m : dT) (args : List eL) : uC:=⟨[xB m.funcs 0 args],[],0,[],0,0,fB,0⟩
def pF (m : dT) (args : List eL) : Bool:=yZ m&&(decide ((args.length : Int)=iN m.funcs 0)&&args.all (bV m.funcs.length 0))
def aJC (m : dT) (args : List eL) (fuel : Int) : Bool:=pF m args&&jU fuel 0 50000
def aOp (m : dT) (args : List eL) (fuel : Int) : uC:=if aJC m args fuel then aN0 m fuel.toNat (jY m args) else vmZ
section
variable {P : R → Prop} {k : R → OR}
theorem aGx {m : dT} {args : List eL} (hs : m.sized) (h : pF m args=true) : kV m∧VmI m (jY m args):=by
 simp only [pF,Bool.and_eq_true,decide_eq_true_eq,List.all_eq_true] at h
 have g:=aBf hs h.1
 obtain ⟨f1,f2,ff⟩:=g.fit
 have h0 : (0 : Int)≤0∧(0 : Int)<m.funcs.length:=by omega
 refine ⟨g,⟨by simp [jY],by simp [jY],by simp [jY]⟩,by simp [jY],by simp [jY],by simp [jY],λfs0 f hf=>?_⟩
 obtain ⟨rfl,rfl⟩:=aB5 (a:=[]) (show []++[xB m.funcs 0 args]=fs0++[f] from hf)
 exact ⟨aIl g h0 h.2.1 h.2.2,by simp⟩
end
section
variable {P : R → Prop} {k : R → OR}
end
section
variable {P : R → Prop} {k : PV → OR} {kk : IntKind} {a b : R} {x v : PV} {n : Int} {s : Nat} {g : Bool}
end
section
variable {α : Type} {f : α → PV}
def uB (m : Int→α→α) (c : α→Nat) : Int→List α→List α
 | _,[]=>[]
 | q,z::r=>m q z::uB m c (q+c z) r
def aB8 (c : α→Nat) (l : List α) : Nat:=(l.map c).sum
def aOq (left : Int) (B : Prop) (r : R) : Prop:=∃ z,r = [.I z]∧z≤left∧-1≤z∧(0≤z→B)
end
section
variable {P : R → Prop} {k : PV → OR}
end
def dT.rows (m : dT) : R:=[.lst (m.texts.map PV.str),.lst (m.funcs.map cZ.pv)]
section
variable {P : R → Prop} {k : R → OR}
end
def dT.wide (m : dT) : Prop:=m.texts.length≤9223372036854775807∧m.funcs.length≤9223372036854775807∧(∀ t∈m.texts,t.size≤9223372036854775807)∧∀ f∈m.funcs,f.code.length≤9223372036854775807
def mtD : Nat→Int→ByteArray→ByteArray
 | 0,_,s=>bs [109]++s
 | n+1,k,s=>if 0<k then mtD n (k / 10) (⟨([48+k % 10].map λx=>UInt8.ofNat x.toNat).toArray⟩++s) else bs [109]++s
def mtx (k : Int) : ByteArray:=mtD 19 k (bs [])
section
variable {P : R → Prop} {k : R → OR}
end
def cS (_ : ByteArray) : Nat:=1
def mS (q : Int) (_ : ByteArray) : ByteArray:=mtx q
def cI (_ : bP) : Nat:=2
def mI (q : Int) (_ : bP) : bP:=⟨q,q+1⟩
def cF (f : cZ) : Nat:=2+aB8 cI f.code
def mF (q : Int) (f : cZ) : cZ:=⟨q,q+1,uB mI cI (q+2) f.code⟩
def cM (m : dT) : Nat:=aB8 cS m.texts+aB8 cF m.funcs
def mM (q : Int) (m : dT) : dT:=⟨uB mS cS q m.texts,uB mF cF (q+aB8 cS m.texts) m.funcs⟩
def fnW (A B : R) (p lc : Int) (xs : R) : PV:=.lst (A++.agg [.I p,.I lc,.lst xs]::B)
structure uC.few (v : uC) : Prop where
 f : v.fr.length≤2097152
 h : v.hp.length≤2097152
 o : v.out.length≤2097152
 fl : ∀ f∈v.fr,f.loc.length≤2097152∧f.stk.length≤2097152
 hl : ∀ r∈v.hp,r.length≤2097152
theorem Sz.few {v : uC} (z : Sz v) : v.few:=⟨by have:=z.f;omega,by have:=z.h;omega,by have:=z.o;omega,λf hf=>by have:=z.fl f hf;omega,λr hr=>by have:=z.hl r hr;omega⟩
section
variable {P : R → Prop} {k : R → OR}
def oI (v : uC) (b : Bool) : R:=[.I v.made,.I v.st,.I v.tr,.I v.val.k,.I v.val.n,.str v.val.s,.I v.steps,.bool b,.lst (v.fr.map eU.pv),.lst (v.hp.map jE),.lst (v.out.map PV.str)]
theorem aJD {v : uC} {b : Bool} {o : OR} (H : Ok P o) :
 Ok P (PV.guardFlat (gd (oI v b) 0) (PV.guardFlat (gd (oI v b) 1) (PV.guardFlat (gd (oI v b) 2) (PV.guardFlat (gd (oI v b) 3) (PV.guardFlat (gd (oI v b) 4) (PV.guardFlat (gd (oI v b) 5) (PV.guardFlat (gd (oI v b) 6) (PV.guardFlat (gd (oI v b) 7)
  (PV.guardOwn (.own 4 64 true [.leaf,.leaf,(.own 3 32 true []),(.own 3 32 true [])]) (gd (oI v b) 8) (PV.guardOwn (.own 1 24 true [(.own 3 32 true [])]) (gd (oI v b) 9) (PV.guardOwn (.own 1 16 false []) (gd (oI v b) 10) o))))))))))):=
 dG rfl (dG rfl (dG rfl (dG rfl (dG rfl (dG rfl (dG rfl (dG rfl (gI (aDd _) (gI (aCL _) (gI (aGl _) H))))))))))
theorem aJE {m : dT} {v : uC} (z : Sz v) (hst : 0≤v.steps∧v.steps≤50000) (hg : v.st=0→v.steps≠50000→∃ fs0 f,aNi m v fs0 f) : Ok (λr=>r=oO (uV m v)) (vN m.pv v.pv):=by
 rw [aDB]
 refine aE rfl (aA rfl (aA rfl (aE rfl (aA rfl (aA rfl (aA rfl (aA rfl (aA rfl (aA rfl (aA rfl (aA rfl (aA rfl (aA rfl ?_)))))))))))))
 refine bM (aN (λh=>?_) (λh=>?_))
 ·refine aDO z (uU (aB ?_))
  unfold uV
  rw [if_pos h];rfl
 have h0 : v.st=0:=by simpa using h
 refine aG (aC (λh=>?_) (λh5=>?_))
 ·refine aDO z (uU (aB ?_))
  unfold uV
  rw [if_neg (by omega),if_pos h];rfl
 obtain ⟨fs0,f,G⟩:=hg h0 h5
 rw [aGm h0 h5 G.fr]
 obtain ⟨gfr,gfi,gpc,gnc,gins,gus,gsm⟩:=G
 obtain ⟨fi,hfi⟩:=Int.eq_ofNat_of_zero_le gfi.1
 obtain ⟨pi,hpi⟩:=Int.eq_ofNat_of_zero_le gpc.1
 have hfl : fi<m.funcs.length:=by omega
 have hco : dB m.funcs f.f=m.funcs[fi].code:=by simp [dB,hfi,List.getElem?_eq_getElem hfl]
 have hpl : pi<m.funcs[fi].code.length:=by rw [← hco];omega
 have hin : lN m.funcs f=m.funcs[fi].code[pi]:=by simp [lN,hco,hpi,List.getElem?_eq_getElem hpl]
 have n0:=(gsm 0).n0
 have nA : (fs0.map eU.pv).length≤23:=by rw [List.length_map];exact n0
 refine aDO z (uU ?_)
 have efr : v.fr.map eU.pv=fs0.map eU.pv++[f.pv]:=by rw [gfr,List.map_append];rfl
 show Ok _ (bd (dR _ _ _ _ _ _ _ _ _ _ (.lst (v.fr.map eU.pv)) _ _) _)
 rw [efr]
 refine yW (by omega) ?_
 refine bR rfl rfl (aA rfl ?_)
 rw [hfi]
 refine aQ hfl (λ_=>rfl) (aA (y:=.lst (m.funcs[fi].code.map bP.pv)) rfl (bR rfl rfl (aA rfl ?_)))
 rw [hpi]
 refine aQ hpl (λ_=>rfl) (aE rfl (aA rfl (aA rfl (bR rfl rfl (aA rfl ?_)))))
 refine aP (by omega) (aT rfl (fM rfl rfl (by omega) rfl ?_))
 generalize hb : f.stk.length - (bL m.funcs (lN m.funcs f)).1.toNat=b
 have hsplit : f.stk=f.stk.take b++f.stk.drop b:=(List.take_append_drop b f.stk).symm
 have hdo:=aMN (nc:=(dB m.funcs f.f).length) (a3:=.I v.st) (a4:=.I v.tr) (a5:=.I v.val.k) (a6:=.I v.val.n) (a7:=.str v.val.s) (a8:=.I v.steps) (gsm b) gins (by rw [List.length_drop];omega)
 rw [hin] at hdo hb
 have hnx : aE4 m v fs0 f=oJ m ⟨f.f,f.pc+1,f.loc,f.stk.take b⟩ (f.stk.drop b) (fs0.length+1) v.hp v.made v.out m.funcs[fi].code[pi]:=by
  simp only [aE4]
  rw [hin,hb]
 rw [← hnx] at hdo
 rw [← hsplit] at hdo
 refine aI hdo (λr hr=>?_)
 cases ha : aE4 m v fs0 f with
 | trap c=>
   rw [ha] at hr
   obtain ⟨hc,hr⟩:=hr
   rw [hr]
   refine bM (aN (λ_=>?_) (λh=>absurd (by simpa using h) hc))
   rw [← efr]
   refine aDO z ?_
   refine uU ?_
   refine aT rfl ?_
   refine aP (by omega) ?_
   refine aT rfl (aB rfl)
 | next fr hp made out=>
   rw [ha] at hr
   have hr : r=_:=hr
   subst hr
   refine bM (aN (λh=>absurd rfl h) (λ_=>aP (by omega) (aT rfl (aB ?_))))
   simp only [aIh,oO,List.map_append]
   rfl
 | call fr g=>
   rw [ha] at hr
   have hr : r=_:=hr
   subst hr
   refine bM (aN (λh=>absurd rfl h) (λ_=>aP (by omega) (aT rfl (aB ?_))))
   simp only [aIh,oO,List.map_append,List.append_assoc]
   rfl
 | ret a=>
   rw [ha] at hr
   have hr : r=_:=hr
   by_cases hf : fs0 = []
   ·rw [if_pos hf] at hr
    subst hr
    refine bM (aN (λh=>absurd rfl h) (λ_=>aP (by omega) (aT rfl (aB ?_))))
    simp only [aIh,if_pos hf,oO]
    rfl
   ·rw [if_neg hf] at hr
    subst hr
    refine bM (aN (λh=>absurd rfl h) (λ_=>aP (by omega) (aT rfl (aB ?_))))
    simp only [aIh,if_neg hf,oO]
    rfl
theorem aIB {m : dT} {args : List eL} (hs : m.sized) (ha : ∀ v∈args,v.s.size≤2097152) (hn : args.length≤2097152) :
 Ok (λr=>r=oI (if pF m args then jY m args else vmZ) (pF m args)) (aAN m.pv (bD args)):=by
 rw [aFJ]
 have no : pF m args=false→Ok (λr=>r=oI (if pF m args then jY m args else vmZ) (pF m args)) (some (oI vmZ false)):=λh=>aB (by rw [h];rfl)
 refine aE rfl (aA rfl (aA rfl (aDQ hs (bG ?_))))
 cases hg : yZ m with
 | false=>exact cC (no (by simp [pF,hg]))
 | true=>
   have g:=aBf hs hg
   obtain ⟨f1,f2,ff⟩:=g.fit
   have h0 : (0 : Int)≤0∧(0 : Int)<m.funcs.length:=by omega
   obtain ⟨i0,hi0,he,hc,F,p1,p2,p3,p4,hlc,hpar,hins⟩:=g.code h0
   refine cB (aF (aGv h0 (aA rfl (bM (aN (λh=>no (by simp [pF,h])) (λhpn=>?_))))))
   have e0 : pF m args=args.all (bV m.funcs.length 0):=by simp [pF,hg,hpn]
   have loop : ∀ i,i≤args.length→Ok (λr=>r=oI (if (args.drop i).all (bV m.funcs.length 0) then jY m args else vmZ) ((args.drop i).all (bV m.funcs.length 0)))
    (mB (bD args) (.I i) (.lst (m.texts.map PV.str)) (.lst (m.funcs.map cZ.pv)) (.I 0) (.I 0) (.I 0) (.I 0) (.I 0) (.str (bs [])) (.I 0) (.lst []) (.lst []) (.lst [])):=by
    refine lH (n:=args.length) (F:=λi=>mB (bD args) (.I i) (.lst (m.texts.map PV.str)) (.lst (m.funcs.map cZ.pv)) (.I 0) (.I 0) (.I 0) (.I 0) (.I 0) (.str (bs [])) (.I 0) (.lst []) (.lst []) (.lst []))
     (P:=λi r=>r=oI (if (args.drop i).all (bV m.funcs.length 0) then jY m args else vmZ) ((args.drop i).all (bV m.funcs.length 0))) ?_ (λi hi ih=>?_)
    ·rw [uO,List.drop_length]
     obtain ⟨n,hn0⟩:=Int.eq_ofNat_of_zero_le (show 0≤aCJ m.funcs 0 by omega)
     refine aF (aJ ?_)
     rw [decide_eq_false (by omega)]
     refine cB (aGv h0 (aA rfl ?_))
     rw [hn0]
     refine zQ (by omega) (by omega) (dX ?_)
     rw [decide_eq_true (Int.le_refl _)]
     refine cC (zQ (by omega) (by omega) ?_)
     rw [Int.toNat_natCast]
     have hle : args.length≤n:=by omega
     have inner : ∀ i,i≤args.length→Ok (λr=>r=oI (jY m args) true) (kS (bD args) (.I i) (.I 0) (.I 0) (.I 0) (.I 0) (.I 0) (.str (bs [])) (.I 0) (.I 0) (.I 0) (.lst []) (.lst []) (.lst []) (bD (args.take i++List.replicate (n - i) fB)) (.lst [])):=by
      refine lH (n:=args.length) (F:=λi=>kS (bD args) (.I i) (.I 0) (.I 0) (.I 0) (.I 0) (.I 0) (.str (bs [])) (.I 0) (.I 0) (.I 0) (.lst []) (.lst []) (.lst []) (bD (args.take i++List.replicate (n - i) fB)) (.lst []))
       (P:=λ_ r=>r=oI (jY m args) true) ?_ (λi hi ih=>?_)
      ·rw [tE,List.take_length]
       refine aF (aJ ?_)
       rw [decide_eq_false (by omega)]
       refine cB (aB ?_)
       have : (xB m.funcs 0 args)=⟨0,0,args++List.replicate (n - args.length) fB,[]⟩:=by unfold xB;rw [hn0,Int.toNat_natCast]
       unfold jY oI
       rw [this];rfl
      ·rw [tE]
       refine aF (aJ ?_)
       rw [decide_eq_true (by omega)]
       have hlen : (args.take i++List.replicate (n - i) fB).length=n:=by simp;omega
       refine cC (aQ hi (λ_=>rfl) (jF (by omega) (by omega) (tJ (by omega) (by omega) (aP (by omega) ?_))))
       have : (args.take i++List.replicate (n - i) fB).set (i : Int).toNat args[i]=args.take (i+1)++List.replicate (n - (i+1)) fB:=by
        rw [Int.toNat_natCast,List.set_append_right _ _ (by simp;omega)]
        rw [show List.replicate (n - i) fB=fB::List.replicate (n - (i+1)) fB by rw [show n - i=(n - (i+1))+1 by omega,List.replicate_succ]]
        have : i - (args.take i).length=0:=by simp;omega
        rw [this,List.set_cons_zero,List.take_add_one,List.getElem?_eq_getElem hi,Option.toList_some,List.append_assoc];rfl
       rw [this]
       exact ih
     have:=inner 0 (by omega)
     simpa using this
    ·rw [uO]
     have:=ha _ (List.getElem_mem hi)
     have hfl:=hs.2.1
     refine aF (aJ ?_)
     rw [decide_eq_true (by omega)]
     refine cC (aQ hi (λ_=>rfl) (aI (aJm (v:=args[i]) hfl (by omega)) (λr hr=>?_)))
     subst hr
     have ed : args.drop i=args[i]::args.drop (i+1):=List.drop_eq_getElem_cons hi
     refine bG ?_
     cases hv : bV m.funcs.length 0 args[i] with
     | false=>
       refine cC (aB ?_)
       rw [ed,List.all_cons,hv];rfl
     | true=>
       refine cB (aP (by omega) ?_)
       rw [ed,List.all_cons,hv,Bool.true_and]
       exact ih
   have:=loop 0 (by omega)
   rw [List.drop_zero,← e0] at this
   exact this
end
def orI (a b : Int) : Int:=IntKind.i64.wrap (BitVec.ofInt IntKind.i64.bits a||| BitVec.ofInt IntKind.i64.bits b).toNat
theorem aLj {a b : Int} (ha : 1≤a∧a≤3) (hb : 1≤b∧b≤3) : 1≤orI a b∧orI a b≤3:=by
 obtain ⟨x,rfl⟩:=Int.eq_ofNat_of_zero_le (show 0≤a by omega)
 obtain ⟨y,rfl⟩:=Int.eq_ofNat_of_zero_le (show 0≤b by omega)
 have h1 : x=1∨x=2∨x=3:=by omega
 have h2 : y=1∨y=2∨y=3:=by omega
 rcases h1 with rfl | rfl | rfl<;>rcases h2 with rfl | rfl | rfl<;>decide
def fZ (o : Int) (a b : cJ) : cJ:=if o≠23 then ⟨a.f,a.pc,orI a.seen b.seen,a.tgt⟩ else if a.seen≠1∨b.seen≠1∨a.tgt≠b.tgt then ⟨a.f,a.pc,2,0⟩ else a
def jP (a b : cJ) : Prop:=a.f=b.f∧a.pc=b.pc
instance (a b : cJ) : Decidable (jP a b):=by unfold jP;infer_instance
def lU (o : Int) : List cJ→cJ→List cJ
 | [],s=>[s]
 | a::r,s=>if jP a s then fZ o a s::r else if bO s a then s::a::r else a::lU o r s
theorem zR {o : Int} {a s : cJ} {r : List cJ} : lU o (a::r) s=if jP a s then fZ o a s::r else if bO s a then s::a::r else a::lU o r s:=rfl
theorem aFe (o : Int) : ∀ (p : List cJ) (s : cJ),(lU o p s).length≤p.length+1
 | [],s=>by simp [lU]
 | a::r,s=>by
   unfold lU
   split
   ·simp
   ·split
    ·simp
    ·have:=aFe o r s
     simp;omega
theorem sI {a b c : cJ} (h : bO a b) (k : bO b c) : bO a c:=by unfold bO at *;omega
theorem aIC {a b : cJ} (h : bO a b) : ¬ jP b a:=by unfold bO at h;unfold jP;omega
theorem aGy {a b : cJ} (h : bO a b) : ¬ jP a b:=by unfold bO at h;unfold jP;omega
theorem aID {a b c : cJ} (h : jP a b) : (bO c a↔bO c b)∧(bO a c↔bO b c):=by unfold jP at h;unfold bO;omega
theorem aMa (a b : cJ) (h : ¬ jP a b) (k : ¬ bO b a) : bO a b:=by unfold jP at h;unfold bO at *;omega
theorem zS (o : Int) (a b : cJ) : (fZ o a b).f=a.f∧(fZ o a b).pc=a.pc:=by
 unfold fZ;split
 ·exact ⟨rfl,rfl⟩
 ·split<;>exact ⟨rfl,rfl⟩
theorem aB9 {o : Int} {x : cJ} : ∀ {p : List cJ} {s : cJ},x∈lU o p s→x=s∨x∈p∨∃ a∈p,jP a s∧x=fZ o a s
 | [],s,h=>by simp [lU] at h;exact .inl h
 | a::r,s,h=>by
   unfold lU at h
   split at h
   ·rename_i hk
    rcases List.mem_cons.1 h with rfl | h
    ·exact .inr (.inr ⟨a,List.mem_cons_self,hk,rfl⟩)
    ·exact .inr (.inl (List.mem_cons_of_mem _ h))
   ·split at h
    ·rcases List.mem_cons.1 h with rfl | h
     ·exact .inl rfl
     ·exact .inr (.inl h)
    ·rcases List.mem_cons.1 h with rfl | h
     ·exact .inr (.inl List.mem_cons_self)
     ·rcases aB9 h with h | h | ⟨b,hb,h1,h2⟩
      ·exact .inl h
      ·exact .inr (.inl (List.mem_cons_of_mem _ h))
      ·exact .inr (.inr ⟨b,List.mem_cons_of_mem _ hb,h1,h2⟩)
theorem zT {o : Int} : ∀ {p : List cJ} {s : cJ},p.Pairwise bO→(lU o p s).Pairwise bO
 | [],s,_=>by simp [lU]
 | a::r,s,h=>by
   rw [List.pairwise_cons] at h
   have hb:=zS o a s
   unfold lU
   split
   ·rename_i hk
    refine List.pairwise_cons.2 ⟨λx hx=>?_,h.2⟩
    have:=h.1 x hx
    unfold bO at *;rw [hb.1,hb.2];exact this
   ·rename_i hk
    split
    ·rename_i hl
     refine List.pairwise_cons.2 ⟨λx hx=>?_,List.pairwise_cons.2 h⟩
     rcases List.mem_cons.1 hx with rfl | hx
     ·exact hl
     ·exact sI hl (h.1 x hx)
    ·rename_i hl
     refine List.pairwise_cons.2 ⟨λx hx=>?_,zT h.2⟩
     rcases aB9 hx with rfl | hx | ⟨b,hb,h1,rfl⟩
     ·exact aMa _ _ hk hl
     ·exact h.1 x hx
     ·have:=h.1 b hb
      have h2:=zS o b s
      unfold bO at *;rw [h2.1,h2.2];exact this
theorem aCa {p : List cJ} (hp : p.Pairwise bO) (s : cJ) : ∃ c : Nat,c≤p.length∧(∀ k (h : k<p.length),k<c→bO p[k] s)∧(∀ k (h : k<p.length),c≤k→¬ bO p[k] s)∧
 ∀ o,lU o p s=if h : c<p.length then (if jP p[c] s then p.set c (fZ o p[c] s) else p.take c++s::p.drop c) else p.take c++s::p.drop c:=by
 induction p with
 | nil=>exact ⟨0,by simp,λk h=>by simp at h,λk h=>by simp at h,λo=>by simp [lU]⟩
 | cons a r ih=>
   rw [List.pairwise_cons] at hp
   by_cases ha : bO a s
   ·obtain ⟨c,h1,h2,h3,h4⟩:=ih hp.2
    refine ⟨c+1,by simp;omega,λk h hk=>?_,λk h hk=>?_,λo=>?_⟩
    ·cases k with
     | zero=>exact ha
     | succ k=>exact h2 k (by simp at h;omega) (by omega)
    ·cases k with
     | zero=>omega
     | succ k=>exact h3 k (by simp at h;omega) (by omega)
    ·unfold lU
     rw [if_neg (aGy ha),if_neg (λh=>by unfold bO at h ha;omega),h4 o]
     by_cases hc : c<r.length
     ·rw [dif_pos hc,dif_pos (by simp;omega)]
      simp only [List.getElem_cons_succ,List.set_cons_succ,List.take_succ_cons,List.drop_succ_cons,List.cons_append]
      split<;>rfl
     ·rw [dif_neg hc,dif_neg (by simp;omega)]
      simp
   ·refine ⟨0,by omega,λk _ h=>by omega,λk h _=>?_,λo=>?_⟩
    ·cases k with
     | zero=>exact ha
     | succ k=>
       have:=hp.1 _ (List.getElem_mem (show k<r.length by simp at h;omega))
       intro h2
       exact ha (sI this h2)
    ·rw [dif_pos (by simp)]
     simp only [List.getElem_cons_zero,List.set_cons_zero,List.take_zero,List.drop_zero,List.nil_append]
     unfold lU
     split
     ·rfl
     ·rename_i hk
      rw [if_pos (by unfold bO at *;unfold jP at hk;omega)]
structure zB (m : dT) (p : List cJ) : Prop where
 pr : p.Pairwise bO
 ok : ∀ x∈p,fC m x
 len : p.length≤150
theorem aKi {m : dT} {a s : cJ} (ha : fC m a) (hs : fC m s) (hk : jP a s) : fC m (fZ (bS m s.f s.pc).o a s):=by
 obtain ⟨p1,a2⟩:=ha
 obtain ⟨_,s2⟩:=hs
 unfold jP at hk
 rw [← hk.1,← hk.2] at s2 ⊢
 have hb:=zS (bS m a.f a.pc).o a s
 refine ⟨by rw [hb.1,hb.2];exact p1,?_⟩
 rw [hb.1,hb.2]
 generalize (bS m a.f a.pc).o=o at *
 unfold fZ
 by_cases ho : o≠23
 ·rw [if_pos ho]
  have:=aLj (a:=a.seen) (b:=s.seen) (by omega) (by omega)
  exact .inr (.inr ⟨by omega,this.1,this.2,by show a.tgt=0;omega⟩)
 ·rw [if_neg ho]
  split
  ·exact .inr (.inl ⟨by omega,rfl,rfl⟩)
  ·exact a2
theorem aNC {m : dT} {p : List cJ} {s : cJ} (hp : zB m p) (hs : fC m s) (hl : p.length<150∨∃ a∈p,jP a s) : zB m (lU (bS m s.f s.pc).o p s):=by
 refine ⟨zT hp.pr,λx hx=>?_,?_⟩
 ·rcases aB9 hx with rfl | h | ⟨a,ha,hk,rfl⟩
  ·exact hs
  ·exact hp.ok x h
  ·exact aKi (hp.ok a ha) hs hk
 ·rcases hl with hl | ⟨a,ha,hk⟩
  ·have:=aFe (bS m s.f s.pc).o p s
   omega
  ·have:=hp.len
   obtain ⟨c,h1,h2,h3,h4⟩:=aCa hp.pr s
   rw [h4]
   obtain ⟨i,hi,rfl⟩:=List.getElem_of_mem ha
   have hci : c≤i:=by
    rcases Nat.lt_or_ge i c with h | h
    ·exact absurd hk (aGy (h2 i hi h))
    ·exact h
   have hic : i=c:=by
    rcases Nat.lt_or_ge c i with h | h
    ·exfalso
     have h5:=List.pairwise_iff_getElem.1 hp.pr c i (by omega) hi h
     exact h3 c (by omega) (Nat.le_refl _) ((aID hk).1.1 h5)
    ·omega
   subst hic
   rw [dif_pos hi,if_pos hk]
   simpa using this
theorem aIE {m : dT} {p : List cJ} (hp : zB m p) (s : cJ) : (zA p s.f s.pc).seen=0↔¬ ∃ a∈p,jP a s:=by
 unfold zA
 cases hf : p.find? (aIu s.f s.pc) with
 | none=>
   rw [List.find?_eq_none] at hf
   refine ⟨λ_ ⟨a,ha,hk⟩=>?_,λ_=>rfl⟩
   have:=hf a ha
   unfold aIu jP at *
   simp [hk.1,hk.2] at this
 | some a=>
   have h1:=List.find?_some hf
   have h2:=List.mem_of_find?_eq_some hf
   have h3:=(hp.ok a h2).2
   show a.seen=0↔_
   refine ⟨λh=>by omega,λh=>absurd ⟨a,h2,?_⟩ h⟩
   unfold aIu at h1
   simp at h1
   exact h1
section
variable {P : R → Prop} {m : dT}
theorem aMb {k : PV→OR} {a b : Int} (h : Ok P (k (.I (orI a b)))) : Ok P (bd (PV.bin .or (.I a) (.I b)) k):=
 cU _ (by rw [gR (by simp) (by simp)];rfl) h
theorem aMc {k : R→OR} {o : Int} {a b : cJ} (h : Ok P (k [(fZ o a b).pv])) : Ok P (bd (qU (.I o) a.pv b.pv) k):=by
 refine aI (Q:=λr=>r = [(fZ o a b).pv]) ?_ (λr hr=>by rw [hr];exact h)
 rw [wO]
 refine aE rfl (aA rfl (aA rfl (aA rfl (aA rfl (aE rfl (aA rfl (aA rfl (aA rfl (aA rfl ?_)))))))))
 refine bM (aN (λh1=>aMb (aT rfl (aB ?_))) (λh1=>?_))
 ·unfold fZ;rw [if_pos h1];rfl
 have e : fZ o a b=if a.seen≠1∨b.seen≠1∨a.tgt≠b.tgt then ⟨a.f,a.pc,2,0⟩ else a:=by unfold fZ;rw [if_neg (λh=>h h1)]
 have f : (a.seen≠1∨b.seen≠1∨a.tgt≠b.tgt)→Ok (λr=>r = [(fZ o a b).pv]) (some [.agg [.I a.f,.I a.pc,.I 2,.I 0]]):=λh=>aB (by rw [e,if_pos h];rfl)
 refine bM (aN (λh2=>f (.inl h2)) (λh2=>bM (aN (λh3=>f (.inr (.inl h3))) (λh3=>bM (aN (λh4=>f (.inr (.inr h4))) (λh4=>aB ?_))))))
 rw [e,if_neg (by omega)];rfl
theorem aIF {k : R→OR} {a s : cJ} (ha : fC m a) (hs : fC m s) (hk : jP a s) (h : Ok P (k [(fZ (bS m s.f s.pc).o a s).pv])) : Ok P (bd (tS m.pv a.pv s.pv) k):=by
 refine aI (Q:=λr=>r = [(fZ (bS m s.f s.pc).o a s).pv]) ?_ (λr hr=>by rw [hr];exact h)
 rw [aCB]
 refine aE rfl (aA rfl (aA rfl (aE rfl (aA rfl (aA rfl (aA rfl (aA rfl (aE rfl (aA rfl (aA rfl (aA rfl (aA rfl ?_))))))))))))
 obtain ⟨p1,a2⟩:=ha
 obtain ⟨_,s2⟩:=hs
 have hk':=hk
 unfold jP at hk'
 rw [← hk'.1,← hk'.2] at s2 ⊢
 refine jD p1.1 (λlc=>aA rfl (nD p1.2 (aA rfl ?_)))
 generalize (bS m a.f a.pc).o=o at *
 refine bM (aN (λh1=>aMb (aT rfl (aB ?_))) (λh1=>?_))
 ·unfold fZ;rw [if_pos h1];rfl
 have h1 : o=23:=h1
 have e : fZ o a s=if a.seen≠1∨s.seen≠1∨a.tgt≠s.tgt then ⟨a.f,a.pc,2,0⟩ else a:=by unfold fZ;rw [if_neg (λh=>h h1)]
 refine cU (.bool (!(a.f==a.f&&(a.pc==a.pc&&(a.seen==s.seen&&(a.tgt==s.tgt&&true)))))) (by unfold PV.ceq;rfl) ?_
 by_cases hq : a.seen=s.seen∧a.tgt=s.tgt
 ·rw [show (a.f==a.f&&(a.pc==a.pc&&(a.seen==s.seen&&(a.tgt==s.tgt&&true))))=true by simp [hq.1,hq.2]]
  refine cB (aB ?_)
  rw [e]
  by_cases h2 : a.seen=1
  ·rw [if_neg (by omega)];rfl
  ·rw [if_pos (by omega)]
   have : a.seen=2∧a.tgt=0:=by omega
   rw [this.1,this.2];rfl
 ·have hne : (a.f==a.f&&(a.pc==a.pc&&(a.seen==s.seen&&(a.tgt==s.tgt&&true))))=false:=by
   by_cases h2 : a.seen=s.seen
   ·have : a.tgt≠s.tgt:=λh=>hq ⟨h2,h⟩
    simp [this]
   ·simp [h2]
  rw [hne]
  refine cC (aB ?_)
  rw [e,if_pos (by omega)];rfl
theorem aKj {k : R→OR} {p : List cJ} (hp : p.length≤10000) (hpr : p.Pairwise bO) {s : cJ} (hs : plP m s.f s.pc) (h : Ok P (k [aO (lU (bS m s.f s.pc).o p s)])) : Ok P (bd (fJ m.pv (aO p) s.pv) k):=by
 generalize ho : (bS m s.f s.pc).o=o at h
 refine aI (Q:=λr=>r = [aO (lU o p s)]) ?_ (λr hr=>by rw [hr];exact h)
 rw [yN]
 refine aE rfl (aA rfl (aA rfl (aE rfl (aA rfl (aA rfl (aA rfl (aA rfl ?_)))))))
 refine sE (n:=p.length) (σ:=Bool × List cJ) (F:=λi z=>cG (aO p) (.bool z.1) (.I i) (.lst (m.texts.map PV.str)) (.lst (m.funcs.map cZ.pv)) (.I s.f) (.I s.pc) (.I s.seen) (.I s.tgt) (aO z.2))
  (λi z=>z.2.length≤i+1∧(z.1=true→(∀ x∈p.drop i,¬ jP x s)∧z.2++p.drop i=lU o p s)∧(z.1=false→z.2.length=i∧z.2++lU o (p.drop i) s=lU o p s)) ?_ ?_ 0 (false,[]) (by omega) ⟨by simp,(λh=>by cases h),λ_=>by simp⟩
 ·rintro ⟨d,acc⟩ ⟨hz,h1,h2⟩
  show Ok _ (cG _ _ _ _ _ _ _ _ _ _)
  rw [kG]
  have hz : acc.length≤p.length+1:=hz
  simp only [List.drop_length,List.append_nil] at h1 h2
  refine aF (aJ (aC (λh=>by omega) (λ_=>bG (aS (λhd=>?_) (λhd=>aB ?_)))))
  ·have : d=false:=by simpa using hd
   refine eF (vs:=acc) (v:=s) (by omega) (aB ?_)
   have:=(h2 this).2
   rw [← this];rfl
  ·have : d=true:=by simpa using hd
   rw [← (h1 this).2]
 ·rintro i ⟨d,acc⟩ hi ⟨hz,h1,h2⟩ ih
  show Ok _ (cG _ _ _ _ _ _ _ _ _ _)
  rw [kG]
  have hz : acc.length≤i+1:=hz
  have ed : p.drop i=p[i]::p.drop (i+1):=List.drop_eq_getElem_cons hi
  have hgt : ∀ x∈p.drop (i+1),bO p[i] x:=λx hx=>by
   have:=List.Pairwise.sublist (List.drop_sublist i p) hpr
   rw [ed,List.pairwise_cons] at this
   exact this.1 x hx
  simp only [ed] at h1 h2
  have go : Ok (λr=>r = [aO (lU o p s)]) (cG (aO p) (.bool d) (.I ((i : Int)+1)) (.lst (m.texts.map PV.str)) (.lst (m.funcs.map cZ.pv)) (.I s.f) (.I s.pc) (.I s.seen) (.I s.tgt) (aO (acc++[p[i]])))∨(d=false∧(jP p[i] s∨bO s p[i])):=by
   cases d with
   | true=>
     obtain ⟨q1,q2⟩:=h1 rfl
     exact .inl (ih (true,acc++[p[i]]) ⟨by simp;omega,λ_=>⟨λx hx=>q1 x (List.mem_cons_of_mem _ hx),by rw [← q2];simp⟩,λh=>by cases h⟩)
   | false=>
     obtain ⟨q0,q2⟩:=h2 rfl
     by_cases hk : jP p[i] s
     ·exact .inr ⟨rfl,.inl hk⟩
     by_cases hl : bO s p[i]
     ·exact .inr ⟨rfl,.inr hl⟩
     refine .inl (ih (false,acc++[p[i]]) ⟨by simp;omega,(λh=>by cases h),λ_=>⟨by simp;exact q0,?_⟩⟩)
     rw [zR] at q2
     rw [if_neg hk,if_neg hl] at q2
     rw [← q2];simp
  have c7 : jP p[i] s→Ok (λr=>r = [aO (lU o p s)]) (nY (aO p) (.I i) (.lst (m.texts.map PV.str)) (.lst (m.funcs.map cZ.pv)) (.I s.f) (.I s.pc) (.I s.seen) (.I s.tgt) (aO acc)):=λhk=>by
   rw [tC]
   have hd : d=false:=by
    cases d with
    | false=>rfl
    | true=>exact absurd hk ((h1 rfl).1 _ List.mem_cons_self)
   subst hd
   obtain ⟨q0,q2⟩:=h2 rfl
   refine jD hs.1 (λlc=>aA rfl (nD hs.2 (aA rfl (aQ hi (λ_=>rfl) (aMc (b:=s) (jG (eF (by omega) (aP (by omega) ?_))))))))
   refine ih (true,acc++[fZ (bS m s.f s.pc).o p[i] s]) ⟨by simp;omega,λ_=>⟨λx hx=>?_,?_⟩,λh=>by cases h⟩
   ·have:=hgt x hx
    rw [(aID hk).2] at this
    exact aIC this
   ·rw [zR] at q2
    rw [if_pos hk] at q2
    rw [ho,← q2];simp
  have c9 : ¬ jP p[i] s→Ok (λr=>r = [aO (lU o p s)]) (kR (aO p) (.bool d) (.I i) (.lst (m.texts.map PV.str)) (.lst (m.funcs.map cZ.pv)) (.I s.f) (.I s.pc) (.I s.seen) (.I s.tgt) (aO acc)):=λhk=>by
   rw [tD]
   refine bG (aS (λhd=>?_) (λhd=>?_))
   ·have hd : d=false:=by simpa using hd
    subst hd
    obtain ⟨q0,q2⟩:=h2 rfl
    refine aQ hi (λ_=>rfl) (aFb (a:=s) (aC (λhl=>?_) (λhl=>aQ hi (λ_=>rfl) (jG (eF (by omega) (aP (by omega) ?_))))))
    ·rw [sB]
     refine eF (v:=s) (by omega) (aQ hi (λ_=>rfl) (jG (eF (by simp;omega) (aP (by omega) ?_))))
     refine ih (true,acc++[s]++[p[i]]) ⟨by simp;omega,λ_=>⟨λx hx=>aIC (sI hl (hgt x hx)),?_⟩,λh=>by cases h⟩
     rw [zR] at q2
     rw [if_neg hk,if_pos hl] at q2
     rw [← q2];simp
    ·rcases go with g | ⟨_,g | g⟩
     ·exact g
     ·exact absurd g hk
     ·exact absurd g hl
   ·have hd : d=true:=by simpa using hd
    refine aQ hi (λ_=>rfl) (jG (eF (by omega) (aP (by omega) ?_)))
    rcases go with g | ⟨g,_⟩
    ·exact g
    ·rw [hd] at g;cases g
  refine aF (aJ (aC (λ_=>?_) (λh=>by omega)))
  exact aQ hi (λ_=>rfl) (aA rfl (aG (aC (λe1=>aQ hi (λ_=>rfl) (aA rfl (aG (aC (λe2=>c7 ⟨e1,e2⟩) (λe2=>c9 (λh=>e2 h.2)))))) (λe1=>c9 (λh=>e1 h.1)))))
end
def aDg (f : eU) (i : Int) : eL:=f.stk[i.toNat]?.getD fB
def aHj (m : dT) (f : eU) : Option cJ:=
 if (bS m f.f f.pc).o=23 then
  (if (aDg f (f.stk.length - 1 - (bS m f.f f.pc).a)).k=5 then some ⟨f.f,f.pc,1,(aDg f (f.stk.length - 1 - (bS m f.f f.pc).a)).n⟩ else some ⟨f.f,f.pc,2,0⟩)
 else if 11≤(bS m f.f f.pc).o∧(bS m f.f f.pc).o≤14 then
  (if (aDg f (f.stk.length - 1)).k=1∧(aDg f (f.stk.length - 2)).k=1 then some ⟨f.f,f.pc,1,0⟩ else some ⟨f.f,f.pc,2,0⟩)
 else none
def aN1 : Option cJ→R
 | none=>[.tup [.agg [.I 0,.I 0,.I 0,.I 0],.bool false]]
 | some s=>[.tup [s.pv,.bool true]]
def aIG (p : List cJ) (s : cJ) : Bool:=p.any λa=>decide (jP a s)
theorem aFf {p : List cJ} {s : cJ} : aIG p s=true↔∃ a∈p,jP a s:=by simp [aIG]
def aLk (m : dT) (p : List cJ) (f : eU) : List cJ:=match aHj m f with
 | none=>p
 | some s=>if p.length=150∧aIG p s=false then p else lU (bS m s.f s.pc).o p s
section
variable {P : R → Prop} {m : dT}
theorem aIH {n : Int} {f : eU} (g : kV m) (t : aJu m n f) {s : cJ} (h : aHj m f=some s) : s.f=f.f∧s.pc=f.pc∧fC m s:=by
 obtain ⟨a1,a2,a3,a4,a5⟩:=g.at_ t.fi t.pc t.d
 have hh:=t.h
 unfold aHj at h
 split at h
 ·rename_i h23
  have hxa:=(uT a1).2.2.2.2.2.1 h23
  have hu : bL m.funcs (bS m f.f f.pc)=((bS m f.f f.pc).a+1,1):=by
   have : 0≤(bS m f.f f.pc).a∧(bS m f.f f.pc).a≤6:=hxa
   simp [bL,h23,this]
  rw [hu] at a2
  simp only at a2
  split at h
  ·rename_i h5
   cases h
   refine ⟨rfl,rfl,⟨t.fi,t.pc⟩,.inl ⟨h23,rfl,?_⟩⟩
   have hm : aDg f (f.stk.length - 1 - (bS m f.f f.pc).a)∈f.stk:=by
    unfold aDg
    rw [List.getElem?_eq_getElem (show (f.stk.length - 1 - (bS m f.f f.pc).a).toNat<f.stk.length by omega)]
    exact List.getElem_mem _
   have hv:=t.vs _ hm
   unfold vOk bV at hv
   split at hv
   ·cases hv
   ·rw [if_neg (by omega),if_neg (by omega),if_neg (by omega),if_neg (by omega),if_neg (by omega)] at hv
    try rw [if_pos h5] at hv
    simp only [jU,Bool.and_eq_true,decide_eq_true_eq] at hv
    dsimp only
    omega
  ·cases h
   exact ⟨rfl,rfl,⟨t.fi,t.pc⟩,.inr (.inl ⟨h23,rfl,rfl⟩)⟩
 ·split at h
  ·rename_i ho
   split at h<;>(cases h;exact ⟨rfl,rfl,⟨t.fi,t.pc⟩,.inr (.inr ⟨ho,(by dsimp only;omega),(by dsimp only;omega),rfl⟩)⟩)
  ·cases h
theorem aJF {k : PV→OR} {f : eU} {i : Int} (h1 : 0≤i) (h2 : i<f.stk.length) (hk : Ok P (k (aDg f i).pv)) : Ok P (bd (PV.at_ 3 true (bD f.stk) (.I i)) k):=by
 obtain ⟨j,rfl⟩:=Int.eq_ofNat_of_zero_le h1
 have hj : j<f.stk.length:=by omega
 refine aQ hj (λ_=>rfl) ?_
 unfold aDg at hk
 rwa [Int.toNat_natCast,List.getElem?_eq_getElem hj] at hk
theorem aMd {n : Int} {f : eU} (g : kV m) (t : aJu m n f) : f.stk.length≤16∧((bS m f.f f.pc).o=23→0≤(bS m f.f f.pc).a∧(bS m f.f f.pc).a<f.stk.length∧(bS m f.f f.pc).a≤6)∧(11≤(bS m f.f f.pc).o∧(bS m f.f f.pc).o≤14→2≤f.stk.length):=by
 obtain ⟨a1,a2,a3,a4,a5⟩:=g.at_ t.fi t.pc t.d
 have hh:=t.h
 refine ⟨by omega,λh23=>?_,λho=>?_⟩
 ·have hxa:=(uT a1).2.2.2.2.2.1 h23
  have hxb : 0≤(bS m f.f f.pc).a∧(bS m f.f f.pc).a≤6:=hxa
  have hu : bL m.funcs (bS m f.f f.pc)=((bS m f.f f.pc).a+1,1):=by simp [bL,h23,hxb]
  rw [hu] at a2
  simp only at a2
  omega
 ·have hu : (bL m.funcs (bS m f.f f.pc)).1=2:=by
   have : (bS m f.f f.pc).o=11∨(bS m f.f f.pc).o=12∨(bS m f.f f.pc).o=13∨(bS m f.f f.pc).o=14:=by omega
   rcases this with h | h | h | h<;>simp [bL,h]
  omega
theorem aM2 {k : R→OR} {v : uC} (g : kV m) (h : VmI m v) (h0 : v.st=0) {fs0 : List eU} {f : eU} (hf : v.fr=fs0++[f]) (hk : Ok P (k (aN1 (aHj m f)))) : Ok P (bd (yH m.pv v.pv) k):=by
 refine aI (Q:=λr=>r=aN1 (aHj m f)) ?_ (λr hr=>by rw [hr];exact hk)
 obtain ⟨t,_⟩:=h.top fs0 f hf
 obtain ⟨s1,s2,s3⟩:=aMd g t
 rw [aER]
 refine aE rfl (aA rfl (aA rfl (aE rfl (aA rfl (aA rfl (aA rfl (aA rfl (aA rfl (aA rfl (aA rfl (aA rfl (aA rfl (aA rfl ?_)))))))))))))
 refine bM (aN (λh=>absurd h0 h) (λ_=>?_))
 have hl : fs0.length≤23:=by
  have:=h.nfr
  rw [hf] at this
  simp at this ⊢
  omega
 have efr : v.fr.map eU.pv=fs0.map eU.pv++[f.pv]:=by rw [hf,List.map_append];rfl
 rw [efr]
 refine cX (bF (by simp;omega) (bR (by simp) rfl (aE rfl (aA rfl (aA rfl (aA rfl (aA rfl ?_)))))))
 refine jD t.fi (λlc=>aA rfl (nD t.pc (aE rfl (aA rfl (aA rfl (aT rfl (aT rfl (aF (aJA (bG (aN (λhw=>aB ?_) (λhw=>?_))))))))))))
 ·unfold isW at hw
  unfold aHj
  rw [if_neg (by omega),if_neg (by omega)];rfl
 unfold isW at hw
 unfold aHj
 generalize bS m f.f f.pc=x at *
 refine aG (aC (λh23=>?_) (λh23=>?_))
 ·have:=s2 h23
  rw [if_pos h23]
  refine bF (by omega) (bF (by omega) (aJF (by omega) (by omega) (aE rfl (aA rfl (aA rfl (aA rfl (aG (aC (λh5=>aT rfl (aB ?_)) (λh5=>aB ?_)))))))))
  ·rw [if_pos h5];rfl
  ·rw [if_neg h5];rfl
 ·have ho : 11≤x.o∧x.o≤14:=by omega
  have:=s3 ho
  rw [if_neg h23,if_pos ho]
  refine bF (by omega) (aJF (by omega) (by omega) (aA rfl (aG (aC (λh1=>bF (by omega) (aJF (by omega) (by omega) (aA rfl (aG (aC (λh2=>aB ?_) (λh2=>aB ?_)))))) (λh1=>aB ?_)))))
  ·rw [if_pos ⟨h1,h2⟩];rfl
  ·rw [if_neg (λh=>h2 h.2)];rfl
  ·rw [if_neg (λh=>h1 h.1)];rfl
theorem aII {k : R→OR} (g : kV m) {v : uC} (h : VmI m v) (h0 : v.st=0) {fs0 : List eU} {f : eU} (hf : v.fr=fs0++[f]) {p : List cJ} (hp : zB m p) (hk : Ok P (k [aO (aLk m p f)])) : Ok P (bd (qE m.pv (aO p) v.pv) k):=by
 refine aI (Q:=λr=>r = [aO (aLk m p f)]) ?_ (λr hr=>by rw [hr];exact hk)
 have hl:=hp.len
 obtain ⟨t,_⟩:=h.top fs0 f hf
 rw [aA7]
 refine aE rfl (aA rfl (aA rfl (aE rfl (aA rfl (aA rfl (aA rfl (aA rfl (aA rfl (aA rfl (aA rfl (aA rfl (aA rfl (aA rfl ?_)))))))))))))
 refine aM2 g h h0 hf ?_
 have copy : Ok (λr=>r = [aO p]) (bd (PV.cat 4 32 true (.lst []) (aO p)) λx=>some [x]):=hJ (by simp;omega) aB7 (aB rfl)
 unfold aLk
 cases hs : aHj m f with
 | none=>exact aU rfl (aU rfl (aE rfl (aA rfl (aA rfl (aA rfl (aA rfl (bG (cC copy))))))))
 | some s=>
   obtain ⟨e1,e2,es⟩:=aIH g t hs
   refine aU rfl (aU rfl (aE rfl (aA rfl (aA rfl (aA rfl (aA rfl (bG (cB ?_))))))))
   have lay : (p.length=150∧aIG p s=false→False)→Ok (λr=>r = [aO (if p.length=150∧aIG p s=false then p else lU (bS m s.f s.pc).o p s)]) (bd (fJ m.pv (aO p) s.pv) λr=>PV.guardOwn (.own 4 32 true []) (gd r 0) (some [gd r 0])):=λhn=>by
    rw [if_neg hn]
    exact aKj (by omega) hp.pr es.1 (gI (gQ _) (aB rfl))
   have hseen:=aIE hp s
   refine aLh (by omega) (aA rfl (aG (aC (λhz=>aF (aG (aC (λh150=>?_) (λh150=>lay (λh=>h150 (by rw [h.1];rfl)))))) (λhz=>lay (λh=>?_)))))
   ·have : aIG p s=false:=by
     cases ha : aIG p s with
     | false=>rfl
     | true=>exact absurd (aFf.1 ha) (hseen.1 hz)
    dsimp only
    rw [if_pos ⟨by omega,this⟩]
    exact copy
   ·refine hz (hseen.2 (λhx=>?_))
    rw [← aFf,h.2] at hx
    cases hx
theorem aN2 {a b : cJ} : Ok (λr=>∃ n : Int,r = [.I n]∧(n<0↔bO a b)∧(n=0↔jP a b)) (eO a.pv b.pv):=by
 rw [pR]
 refine aE rfl (aA rfl (aA rfl (aA rfl (aA rfl (aE rfl (aA rfl (aA rfl (aA rfl (aA rfl ?_)))))))))
 refine aHh (aHh (aL6 (dG rfl (aB ⟨_,rfl,?_,?_⟩))))
 ·unfold aIq bO
  repeat' split
  all_goals omega
 ·unfold aIq jP
  repeat' split
  all_goals omega
theorem aM3 {k : PV→OR} {a : Int} (ha : 0≤a∧a≤2097152) (h : Ok P (k (.int .u64 (a / 2)))) : Ok P (bd (PV.bin .shr (.int .u64 a) (.int .u64 1)) k):=
 cU _ (by
  simp only [PV.bin]
  rw [if_neg (by omega),show min (Int.toNat 1) IntKind.u64.bits=1 by decide,show (2 : Int) ^ 1=2 by rfl,Int.fdiv_eq_ediv_of_nonneg _ (by omega)]) h
theorem aM4 {k : PV→OR} {a : Int} {kk : IntKind} (h1 : 0≤a∧a≤2097152) (h : Ok P (k (.int .u64 a))) : Ok P (bd (PV.conv .u64 (.int kk a)) k):=cU _ (by simp only [PV.conv];rw [u64_in _ (by omega)]) h
theorem rB {q : Nat} (hq : ∀ a b : PV,aY q [a,b]=eO a b) {p : List cJ} {s : cJ} (hl : p.length≤1000000) {c : Nat} (h2 : ∀ k (h : k<p.length),k<c→bO p[k] s) (h3 : ∀ k (h : k<p.length),c≤k→¬ bO p[k] s) :
 ∀ (d i j : Nat),j - i≤d→i≤c→c≤j→j≤p.length→
   Ok (λr=>r = [.tup [.I c,.bool (decide (∃ h : c<p.length,jP p[c] s))]]) (bA (aO p) (.fn q []) (.I p.length) (.I i) (.I j) (.I s.f) (.I s.pc) (.I s.seen) (.I s.tgt))
 | 0,i,j,hd,hi,hj,hjl=>by
   rw [cL]
   have : i=c:=by omega
   subst this
   refine aJ (aC (λh=>by omega) (λ_=>aJ (aC (λh=>?_) (λh=>aB ?_))))
   ·have h : i<p.length:=by omega
    refine aQ h (λ_=>rfl) (xC (o:=eO p[i].pv s.pv) (hq _ _) (Q:=λr=>∃ n : Int,r = [.I n]∧(n=0↔jP p[i] s)) ?_ (λr hr=>?_))
    ·exact aN2.mono (λr ⟨n,h1,_,h2⟩=>⟨n,h1,h2⟩)
    ·obtain ⟨n,rfl,hn⟩:=hr
     refine aG (aB ?_)
     rw [decide_eq_decide.2 (show n=0↔∃ h : i<p.length,jP p[i] s from hn.trans ⟨λk=>⟨h,k⟩,λ⟨_,k⟩=>k⟩)]
   ·rw [decide_eq_false (λ⟨h',_⟩=>by omega)]
 | d+1,i,j,hd,hi,hj,hjl=>by
   by_cases hij : i<j
   ·rw [cL]
    refine aJ (aC (λ_=>?_) (λh=>by omega))
    refine aP (by omega) (aM4 (by omega) (aM3 (by omega) (gW (by omega) ?_)))
    obtain ⟨h,hh⟩ : ∃ h : Nat,h=(i+j) / 2:=⟨_,rfl⟩
    have e : ((i : Int)+j) / 2=h:=by omega
    rw [e]
    have hlt : h<p.length:=by omega
    refine aQ hlt (λ_=>rfl) (xC (o:=eO p[h].pv s.pv) (hq _ _) (Q:=λr=>∃ n : Int,r = [.I n]∧(n<0↔bO p[h] s)) ?_ (λr hr=>?_))
    ·exact aN2.mono (λr ⟨n,h1,h2,_⟩=>⟨n,h1,h2⟩)
    ·obtain ⟨n,rfl,hn⟩:=hr
     refine aJ (aC (λhneg=>aP (by omega) ?_) (λhneg=>?_))
     ·have hc : h<c:=by
       rcases Nat.lt_or_ge h c with k | k
       ·exact k
       ·exact absurd (hn.1 hneg) (h3 h hlt k)
      exact rB hq hl h2 h3 d (h+1) j (by omega) (by omega) hj hjl
     ·have hc : c≤h:=by
       rcases Nat.lt_or_ge h c with k | k
       ·exact absurd (hn.2 (h2 h hlt k)) hneg
       ·exact k
      exact rB hq hl h2 h3 d i h (by omega) hi hc (by omega)
   ·exact rB hq hl h2 h3 0 i j (by omega) hi hj hjl
theorem aLl {k : R→OR} {i : Nat} {p : List cJ} {s : cJ} (hi : i≤p.length) (hp : p.length≤1000000) (h : Ok P (k [aO (p.take i++s::p.drop i)])) : Ok P (bd (eJ (.I i) (aO p) (.lst [s.pv])) k):=by
 refine aI (Q:=λr=>r = [aO (p.take i++s::p.drop i)]) ?_ (λr hr=>by rw [hr];exact h)
 rw [lS]
 have e : kI [.ref 0 [],.p (.I i),.ref 1 []] ⟨[],[(0,some ⟨(.own 4 32 true []),aO p⟩),(1,some ⟨(.own 4 32 true []),.lst [s.pv]⟩)],0,0,2⟩=aLu i (aO p) (.lst [s.pv]):=by
  simp [kI,sinkAs,zU,St.list,St.killL,look,OTy.same_refl]
 rw [e]
 unfold aLu aO
 dsimp only
 rw [if_pos (by rw [List.length_map];omega),Int.toNat_natCast]
 refine aB ?_
 simp
theorem aIJ {n : Int} {f : eU} (g : kV m) (t : aJu m n f) {p : List cJ} (hp : zB m p) : zB m (aLk m p f):=by
 unfold aLk
 cases hs : aHj m f with
 | none=>exact hp
 | some s=>
   obtain ⟨e1,e2,es⟩:=aIH g t hs
   dsimp only
   split
   ·exact hp
   ·rename_i hn
    refine aNC hp es ?_
    have:=hp.len
    by_cases h : p.length=150
    ·right
     cases ha : aIG p s with
     | true=>exact aFf.1 ha
     | false=>exact absurd ⟨h,ha⟩ hn
    ·left;omega
end
def cV (_ : eL) : Nat:=3
def mV (q : Int) (_ : eL) : eL:=⟨q,q+1,mtx (q+2)⟩
def cR (x : List eL) : Nat:=aB8 cV x
def mR (q : Int) (x : List eL) : List eL:=uB mV cV q x
def cFr (f : eU) : Nat:=2+(aB8 cV f.loc+aB8 cV f.stk)
def mFr (q : Int) (f : eU) : eU:=⟨q,q+1,uB mV cV (q+2) f.loc,uB mV cV (q+2+aB8 cV f.loc) f.stk⟩
def cVm (v : uC) : Nat:=aB8 cFr v.fr+(aB8 cR v.hp+aB8 cS v.out)
def aOs (A B : R) (f pc stk : PV) (xs : R) : PV:=.lst (A++.agg [f,pc,.lst xs,stk]::B)
def aOt (A B : R) (f pc loc : PV) (xs : R) : PV:=.lst (A++.agg [f,pc,loc,.lst xs]::B)
def aOu (A B : R) (xs : R) : PV:=.lst (A++.agg [.lst xs]::B)
def mVm (q : Int) (v : uC) : uC:={ v with fr:=uB mFr cFr q v.fr,hp:=uB mR cR (q+aB8 cFr v.fr) v.hp,out:=uB mS cS (q+aB8 cFr v.fr+aB8 cR v.hp) v.out}
end
noncomputable section
open Go Go.ChangeShapes Go.WideShapes Go.ChangeAt
inductive CSh where
 | b
 | i (k : IntKind)
 | s
 | l (g : Bool) (cs : List CSh)
mutual
def aN3 : CSh→PV→Prop
 | .b,x=>∃ v,x = .bool v
 | .i k,x=>∃ n,x = .int k n∧(Lit.int k n).wf=true
 | .s,x=>∃ t : ByteArray,x = .str t∧t.size≤maxLen
 | .l g cs,x=>∃ xs,x = .lst xs∧xs.length≤maxLen∧∀ e∈xs,if g then ∃ ys,e = .agg ys∧eH cs ys else eH cs [e]
def eH : List CSh→R→Prop
 | [],[]=>True
 | c::cs,y::ys=>aN3 c y∧eH cs ys
 | _,_=>False
end
theorem eH.len : ∀ {cs : List CSh} {ys : R},eH cs ys→ys.length=cs.length
 | [],[],_=>rfl
 | [],_::_,h=>by unfold eH at h;exact h.elim
 | _::_,[],h=>by unfold eH at h;exact h.elim
 | c::cs,y::ys,h=>by
   unfold eH at h
   simp [eH.len h.2]
theorem eH.append : ∀ {cs ds : List CSh} {ys zs : R},eH cs ys→eH ds zs→eH (cs++ds) (ys++zs)
 | [],_,[],_,_,h=>h
 | [],_,_::_,_,h,_=>by unfold eH at h;exact h.elim
 | _::_,_,[],_,h,_=>by unfold eH at h;exact h.elim
 | c::cs,ds,y::ys,zs,h,k=>by
   unfold eH at h
   show eH (c::(cs++ds)) (y::(ys++zs))
   unfold eH
   exact ⟨h.1,eH.append h.2 k⟩
def isAggP (P : Program) (t : TypeId) : Bool:=match P.underlying t with
 | some (.struct _)=>true
 | _=>false
def fieldsSh (P : Program) (f : TypeId→Option (List CSh)) : Nat→List Field→Option (List CSh)
 | _,[]=>some []
 | off,fd::r=>if fd.offset=off then (f fd.type).bind λcs=>if cs.length=P.cellsOf fd.type then (fieldsSh P f (off+cs.length) r).map (cs++·) else none else none
def shapeOf (P : Program) : Nat→TypeId→Option (List CSh)
 | 0,_=>none
 | n+1,t=>match P.underlying t with
   | some .bool=>some [.b]
   | some (.int k)=>some [.i k]
   | some .string=>some [.s]
   | some (.slice e)=>(shapeOf P n e).bind λcs=>if cs.length=P.cellsOf e∧0<cs.length∧(isAggP P e=false→cs.length=1) then some [.l (isAggP P e) cs] else none
   | some (.struct fs)=>(fieldsSh P (shapeOf P n) 0 fs.toList).bind λcs=>if cs.length=P.cellsOf t then some cs else none
   | _=>none
def CellsRep (w : World) (cs : List CSh) (vs : List Value) : Prop:=
 ∃ ys : R,eH cs ys∧ys.length=vs.length∧(∀ (i : Nat) v,vs[i]? = some v→bZ v)∧∀ (i : Nat) c v,ys[i]? = some c→vs[i]? = some v→gD w (λr=>r<w.heap.size) c v
theorem CellsRep.one {w : World} {c : CSh} {x : PV} {v : Value} (h : aN3 c x) (hc : bZ v) (hr : gD w (λr=>r<w.heap.size) x v) : CellsRep w [c] [v]:=by
 refine ⟨[x],?_,rfl,λi u hu=>?_,λi c u hcu hu=>?_⟩
 ·unfold eH;exact ⟨h,by unfold eH;trivial⟩
 ·cases i with
  | zero=>cases hu;exact hc
  | succ i=>simp at hu
 ·cases i with
  | zero=>cases hu;cases hcu;exact hr
  | succ i=>simp at hu
theorem CellsRep.append {w : World} {cs ds : List CSh} {vs us : List Value} (h : CellsRep w cs vs) (k : CellsRep w ds us) : CellsRep w (cs++ds) (vs++us):=by
 obtain ⟨ys,h1,h2,h3,h4⟩:=h
 obtain ⟨zs,k1,k2,k3,k4⟩:=k
 refine ⟨ys++zs,h1.append k1,by simp [h2,k2],λi v hv=>?_,λi c v hc hv=>?_⟩
 ·rw [List.getElem?_append] at hv
  split at hv
  ·exact h3 _ _ hv
  ·exact k3 _ _ hv
 ·rw [List.getElem?_append] at hv hc
  split at hv
  ·rename_i hi
   rw [if_pos (by omega)] at hc
   exact h4 _ _ _ hc hv
  ·rename_i hi
   rw [if_neg (by omega),h2] at hc
   exact k4 _ _ _ hc hv
section
variable {H : Type} {enc : TypeId × Value → H} {P : Program} {w : World} {held : Bool}
def FitsArg (g : Bool) (cs : List CSh) (x : PV) : Prop:=if g then ∃ ys,x = .agg ys∧eH cs ys else eH cs [x]
end
end
noncomputable section
open Go Go.IntWalk
attribute [local irreducible] bd PV.ite PV.guardFlat PV.guardOwn PV.whole PV.one PV.cell PV.sub PV.at_ PV.len PV.slen PV.chr PV.beq PV.peq PV.ceq PV.bin PV.neg PV.not PV.conv PV.cut PV.scut PV.cat PV.setAt PV.setCell PV.ncopy PV.copyIn PV.zeros PV.toStr PV.toBytes PV.deref PV.isPtr PV.comp PV.inb PV.off PV.imin PV.imax PV.sel PV.apply PV.isLst PV.isInt PV.ix PV.nilT
section
variable {P : R → Prop} {k : R → OR}
end
def aOc : CSh:=.l false [.s]
def aND : CSh:=.l true [.i .i64,.i .i64]
def aOd : CSh:=.l true [.i .i64,.i .i64,aND]
def aOe : CSh:=.l true [.i .i64,.i .i64,.s]
def aFg (m : dT) : Nat→List cJ→uC→List cJ
 | 0,p,_=>p
 | j+1,p,v=>if v.st=0 then aFg m j (match v.fr.getLast? with | some f=>aLk m p f | none=>p) (uV m v) else p
section
variable {m : dT}
theorem aGz (g : kV m) : ∀ (j : Nat) {p : List cJ} {v : uC},zB m p→VmI m v→zB m (aFg m j p v)
 | 0,p,v,hp,_=>hp
 | j+1,p,v,hp,I=>by
   unfold aFg
   split
   ·rename_i h0
    obtain ⟨fs0,f,G⟩:=I.goes g h0
    obtain ⟨t,_⟩:=I.top fs0 f G.fr
    rw [G.fr,List.getLast?_append]
    exact aGz g j (aIJ g t hp) (I.step g)
   ·exact hp
theorem zC (g : kV m) {n : Nat} (hn : n≤50000) : ∀ (j i : Nat) (p : List cJ) (v : uC),i+j=n→VmI m v→zB m p→
 Ok (λr=>r = [aO (aFg m j p v)]) (kC (.I n) (.I i) (.lst (m.texts.map PV.str)) (.lst (m.funcs.map cZ.pv)) (.I v.made) (.I v.st) (.I v.tr) (.I v.val.k) (.I v.val.n) (.str v.val.s) (.I v.steps) (aO p) (.lst (v.fr.map eU.pv)) (.lst (v.hp.map jE)) (.lst (v.out.map PV.str)))
 | 0,i,p,v,hi,I,hp=>by
   rw [pU]
   refine aJ (aC (λh=>by omega) (λ_=>aB ?_))
   rfl
 | j+1,i,p,v,hi,I,hp=>by
   rw [pU]
   refine aJ (aC (λ_=>?_) (λh=>by omega))
   unfold aFg
   refine aG (aC (λh0=>?_) (λh0=>aB ?_))
   ·rw [if_pos h0]
    obtain ⟨fs0,f,G⟩:=I.goes g h0
    obtain ⟨t,_⟩:=I.top fs0 f G.fr
    have e : v.fr.getLast? = some f:=by rw [G.fr,List.getLast?_append];rfl
    rw [e]
    refine aII g I h0 G.fr hp (gI (gQ _) (aI (aJE (I.sz g) I.steps (λh _=>I.goes g h)) (λr hr=>?_)))
    rw [hr]
    refine uU (aP (by omega) ?_)
    exact zC g hn j (i+1) _ (uV m v) (by omega) (I.step g) (aIJ g t hp)
   ·rw [if_neg h0]
def vX (m : dT) (args : List eL) (fuel : Int) : List cJ:=if aJC m args fuel then aFg m fuel.toNat [] (jY m args) else []
theorem aFh : zB m []:=⟨List.Pairwise.nil,(λx h=>by cases h),by simp⟩
theorem aLm {args : List eL} {fuel : Int} (hs : m.sized) (ha : ∀ v∈args,v.s.size≤2097152) (hn : args.length≤2097152) :
 Ok (λr=>r = [aO (vX m args fuel)]) (nZ m.pv (bD args) (.I fuel)):=by
 rw [aBL]
 refine aE rfl (aA rfl (aA rfl (aI (aIB hs ha hn) (λr hr=>?_))))
 rw [hr]
 have no : aJC m args fuel=false→Ok (λr=>r = [aO (vX m args fuel)]) (some [.lst []]):=λh=>aB (by unfold vX;rw [h];rfl)
 refine aJD (bG ?_)
 cases hb : pF m args with
 | false=>exact cC (no (by simp [aJC,hb]))
 | true=>
   refine cB (eK (bG ?_))
   cases hf : jU fuel 0 50000 with
   | false=>exact cC (no (by simp [aJC,hf]))
   | true=>
     obtain ⟨g,I⟩:=aGx hs hb
     have hf':=hf
     simp only [jU,Bool.and_eq_true,decide_eq_true_eq] at hf'
     obtain ⟨n,rfl⟩:=Int.eq_ofNat_of_zero_le hf'.1
     have : vX m args n=aFg m n [] (jY m args):=by unfold vX aJC;rw [hb,hf];rfl
     rw [this]
     exact cB (zC g (by omega) n 0 [] (jY m args) (by omega) I aFh)
def cSi (_ : cJ) : Nat:=4
def mSi (q : Int) (_ : cJ) : cJ:=⟨q,q+1,q+2,q+3⟩
end
section
variable {P : R → Prop} {m : dT}
theorem aHk (hs : m.sized) (args : List eL) (fuel : Int) : zB m (vX m args fuel):=by
 unfold vX
 split
 ·rename_i hb
  simp only [aJC,Bool.and_eq_true] at hb
  obtain ⟨g,I⟩:=aGx hs hb.1
  exact aGz g _ aFh I
 ·exact aFh
theorem aHl {k : R→OR} (hs : m.sized) {args : List eL} (ha : ∀ v∈args,v.s.size≤1000) (hn : args.length≤1000) {fuel : Int} (hk : ∀ q : List cJ,q.length≤5000→Ok P (k [aO q])) : Ok P (bd (nZ m.pv (bD args) (.I fuel)) k):=by
 refine aI (aLm hs (λv hv=>by have:=ha v hv;omega) (by omega)) (λr hr=>?_)
 rw [hr]
 exact hk _ (by have:=(aHk hs args fuel).len;omega)
end
def aFi (l : List Int) (A : Int) (r : R) : Prop:=∃ a s : Int,∃ p : List cJ,r = [aO p,aZ l,.I a,.I s]∧0≤a∧a≤A∧0≤s∧s<65521∧p.length≤10000
section
variable {l : List Int} (hl : Bts l) {m : dT} (hs : m.sized) (hm : 1 ≤ m.funcs.length)
include hl hs hm
omit hs hm in
theorem aMe {n : Int} (hn : 1≤n∧n≤1000) {a s : Int} (h0 : 0≤a∧a≤750000000∧0≤s∧s<65521) {p : List cJ} (hp : p.length≤9000) : Ok (aFi l (a+10)) (eE (.I n) (aZ l) (.I a) (.I s) (aO p)):=by
 rw [sA]
 refine iF hl (by omega) (by omega) (λb a1 s1 h1=>aS (λ_=>?_) (λ_=>aB ⟨a1,s1,p,rfl,by omega,by omega,by omega,by omega,by omega⟩))
 refine bC hl (by omega) (by omega) (λx1 a2 s2 h2=>bF (by omega) (bC hl (by omega) (by omega) (λx2 a3 s3 h3=>bF (by omega) (bC hl (by omega) (by omega) (λx3 a4 s4 h4=>bF (by omega) (bC hl (by omega) (by omega) (λx4 a5 s5 h5=>bF (by omega) (aT rfl (aT rfl (aT rfl (aT rfl ?_)))))))))))
 exact eF (v:=⟨x1 - 1,x2 - 1,x3 - 1,x4 - 1⟩) (by omega) (aB ⟨a5,s5,p++[⟨x1 - 1,x2 - 1,x3 - 1,x4 - 1⟩],rfl,by omega,by omega,by omega,by omega,by simp;omega⟩)
theorem aM5 {n : Int} (hn : 1≤n∧n≤1000) {a s : Int} (h0 : 0≤a∧a≤700000000∧0≤s∧s<65521) {p : List cJ} (hp : p.length≤5000) : Ok (aFi l (a+10000)) (eP (.I n) (aZ l) (.I a) (.I s) (.lst (m.texts.map PV.str)) (.lst (m.funcs.map cZ.pv)) (aO p)):=by
 rw [sL]
 have fin : ∀ {a1 s1 : Int} {q : List cJ},(a≤a1∧a1≤a+9000∧0≤s1∧s1<65521)→q.length≤9000→Ok (aFi l (a+10000)) (eE (.I n) (aZ l) (.I a1) (.I s1) (aO q)):=λh hq=>
  (aMe hl hn (by omega) hq).mono (λr ⟨a',s',v',hr,g1,g2,g⟩=>⟨a',s',v',hr,g1,by omega,g⟩)
 refine aDQ hs (aS (λhg=>?_) (λ_=>fin (by omega) (by omega)))
 have g : kV m:=aBf hs hg
 obtain ⟨f1,f2,ff⟩:=g.fit
 refine sE (n:=m.funcs.length) (σ:=Int × Int × List cJ) (F:=λi z=>dN (.I n) (.I i) (aZ l) (.I z.1) (.I z.2.1) (.lst (m.texts.map PV.str)) (.lst (m.funcs.map cZ.pv)) (aO z.2.2)) (λi z=>(a≤z.1∧z.1≤a+500*i∧0≤z.2.1∧z.2.1<65521)∧z.2.2.length≤5000+120*i) ?_ ?_ 0 (a,s,p) (by omega) ⟨by dsimp only;omega,by dsimp only;omega⟩
 ·rintro ⟨a1,s1,q⟩ ⟨hz,hq⟩
  show Ok _ (dN _ _ _ _ _ _ _ _)
  have hz : a≤a1∧a1≤a+500*m.funcs.length∧0≤s1∧s1<65521:=hz
  have hq : q.length≤5000+120*m.funcs.length:=hq
  rw [lL]
  exact aF (aJ (aC (λh=>by omega) (λ_=>fin (by omega) (by omega))))
 ·rintro i ⟨a1,s1,q⟩ hi ⟨hz,hq⟩ ih
  show Ok _ (dN _ _ _ _ _ _ _ _)
  have hz : a≤a1∧a1≤a+500*i∧0≤s1∧s1<65521:=hz
  have hq : q.length≤5000+120*i:=hq
  have hii : (0 : Int)≤i∧(i : Int)<m.funcs.length:=by omega
  obtain ⟨i0,hi0,he,hc,F,p1,p2,p3,p4,hlc,hpar,hins⟩:=g.code hii
  have hcl : (dB m.funcs i).length≤120:=by rw [hc];exact F.n2
  rw [lL]
  refine aF (aJ (aC (λ_=>?_) (λh=>by omega)))
  refine sE (n:=(dB m.funcs i).length) (σ:=Int × Int × List cJ) (F:=λj z=>bK (.I n) (.I i) (.I j) (aZ l) (.I z.1) (.I z.2.1) (.lst (m.texts.map PV.str)) (.lst (m.funcs.map cZ.pv)) (aO z.2.2)) (λj z=>(a≤z.1∧z.1≤a+500*i+4*j∧0≤z.2.1∧z.2.1<65521)∧z.2.2.length≤5000+120*i+j) ?_ ?_ 0 (a1,s1,q) (by omega) ⟨by dsimp only;omega,by dsimp only;omega⟩
  ·rintro ⟨a2,s2,q2⟩ ⟨hz2,hq2⟩
   show Ok _ (bK _ _ _ _ _ _ _ _ _)
   have hz2 : a≤a2∧a2≤a+500*i+4*(dB m.funcs i).length∧0≤s2∧s2<65521:=hz2
   have hq2 : q2.length≤5000+120*i+(dB m.funcs i).length:=hq2
   rw [lM]
   refine jD hii (λlc=>aA rfl (aF (aJ (aC (λh=>by omega) (λ_=>aP (by omega) ?_)))))
   exact ih (a2,s2,q2) ⟨by show a≤a2∧a2≤a+500*((i+1 : Nat) : Int)∧0≤s2∧s2<65521;omega,by show q2.length≤5000+120*(i+1);omega⟩
  ·rintro j ⟨a2,s2,q2⟩ hj ⟨hz2,hq2⟩ ih2
   show Ok _ (bK _ _ _ _ _ _ _ _ _)
   have hz2 : a≤a2∧a2≤a+500*i+4*j∧0≤s2∧s2<65521:=hz2
   have hq2 : q2.length≤5000+120*i+j:=hq2
   rw [lM]
   have next : ∀ {a3 s3 : Int} {q3 : List cJ},(a2≤a3∧a3≤a2+4∧0≤s3∧s3<65521)→q3.length≤q2.length+1→Ok (aFi l (a+10000)) (bK (.I n) (.I i) (.I ((j : Int)+1)) (aZ l) (.I a3) (.I s3) (.lst (m.texts.map PV.str)) (.lst (m.funcs.map cZ.pv)) (aO q3)):=λ{a3 s3 q3} h hq3=>
    ih2 (a3,s3,q3) ⟨by show a≤a3∧a3≤a+500*i+4*((j+1 : Nat) : Int)∧0≤s3∧s3<65521;omega,by show q3.length≤5000+120*i+(j+1);omega⟩
   have lay : ∀ {a3 s3 : Int} {x y : Int},(a2≤a3∧a3≤a2+4∧0≤s3∧s3<65521)→Ok (aFi l (a+10000)) (bd (fJ m.pv (aO q2) (.agg [.I i,.I j,.I x,.I y])) λr=>PV.guardOwn (.own 4 32 true []) (gd r 0) (bd (PV.bin .add (.I j) (.I 1)) λv=>bK (.I n) (.I i) v (aZ l) (.I a3) (.I s3) (.lst (m.texts.map PV.str)) (.lst (m.funcs.map cZ.pv)) (gd r 0))):=λ{a3 s3 x y} h=>
    aNB (s:=⟨i,j,x,y⟩) (by omega) ⟨hii,by dsimp only;omega⟩ (λq3 hq3=>gI (gQ q3) (aP (by omega) (next h hq3)))
   refine jD hii (λlc=>aA rfl (aF (aJ (aC (λ_=>?_) (λh=>by omega)))))
   refine jD hii (λlc=>aA rfl (nD (by omega) (aA rfl (aJA (bG (aN (λ_=>aP (by omega) (next (a3:=a2) (s3:=s2) (q3:=q2) (by omega) (by omega))) (λ_=>?_)))))))
   refine bC hl (by omega) (by omega) (λx1 a3 s3 h3=>cD (aC (λ_=>aP (by omega) (next (a3:=a3) (s3:=s3) (q3:=q2) (by omega) (by omega))) (λ_=>aT rfl (aT rfl (aG (aC (λ_=>?_) (λ_=>?_)))))))
   ·exact aF (bC hl (by omega) (by omega) (λx2 a4 s4 h4=>aT rfl (lay (by omega))))
   ·refine iF hl (by omega) (by omega) (λb a4 s4 h4=>aS (λ_=>?_) (λ_=>lay (by omega)))
    exact bC hl (by omega) (by omega) (λx3 a5 s5 h5=>aP (by omega) (aT rfl (lay (by omega))))
theorem aDh {n : Int} (hn : 1≤n∧n≤1000) {a s : Int} (h0 : 0≤a∧a≤600000000∧0≤s∧s<65521) : Ok (aFi l (a+20000)) (iP (.lst (m.texts.map PV.str)) (.lst (m.funcs.map cZ.pv)) (.I n) (aZ l) (.I a) (.I s)):=by
 rw [vP]
 have fin : ∀ {a1 s1 : Int} {q : List cJ},(0≤a1∧a1≤a+5000∧0≤s1∧s1<65521)→q.length≤5000→Ok (aFi l (a+20000)) (eP (.I n) (aZ l) (.I a1) (.I s1) (.lst (m.texts.map PV.str)) (.lst (m.funcs.map cZ.pv)) (aO q)):=λh hq=>
  (aM5 hl hs hm hn (by omega) hq).mono (λr ⟨a',s',v',hr,g1,g2,g⟩=>⟨a',s',v',hr,g1,by omega,g⟩)
 refine bC hl (by omega) (by omega) (λx a1 s1 h1=>cD (aC (λ_=>?_) (λ_=>fin (q:=[]) (by omega) (by simp))))
 refine aI (aIA hl hs hm (by omega)) ?_
 rintro r ⟨a2,s2,vs,rfl,g1,g2,g3,g4,g5,g6⟩
 refine bC hl (by omega) (by omega) (λy a3 s3 h3=>?_)
 exact aHl hs g5 (by omega) (λq hq=>gI (gQ q) (fin (by omega) hq))
end
def lkS (p : List cJ) (f pc : Int) : Option cJ:=p.find? λa=>decide (a.f=f∧a.pc=pc)
theorem mJ (a : cJ) (r : List cJ) (f pc : Int) : lkS (a::r) f pc=if a.f=f∧a.pc=pc then some a else lkS r f pc:=by
 unfold lkS
 rw [List.find?_cons]
 by_cases h : a.f=f∧a.pc=pc
 ·rw [if_pos h,decide_eq_true h]
 ·rw [if_neg h,decide_eq_false h]
theorem aHm {p : List cJ} {f pc : Int} {x : cJ} (h : lkS p f pc=some x) : x∈p∧x.f=f∧x.pc=pc:=by
 unfold lkS at h
 refine ⟨List.mem_of_find?_eq_some h,?_⟩
 have:=List.find?_some h
 simpa using this
theorem aIK {p : List cJ} {s : cJ} (h : ∀ a∈p,bO s a) : lkS p s.f s.pc=none:=by
 unfold lkS
 rw [List.find?_eq_none]
 intro a ha
 have:=h a ha
 simp only [decide_eq_true_eq]
 unfold bO at this
 omega
theorem aMf {p : List cJ} (hp : p.Pairwise bO) {x : cJ} (h : x∈p) : lkS p x.f x.pc=some x:=by
 induction p with
 | nil=>cases h
 | cons a r ih=>
   rw [List.pairwise_cons] at hp
   rw [mJ]
   rcases List.mem_cons.1 h with rfl | h
   ·rw [if_pos ⟨rfl,rfl⟩]
   ·have:=hp.1 x h
    rw [if_neg (by unfold bO at this;omega)]
    exact ih hp.2 h
theorem aFk : ∀ {p q : List cJ},p.Pairwise bO→q.Pairwise bO→(∀ x,x∈p↔x∈q)→p=q
 | [],[],_,_,_=>rfl
 | [],b::t,_,_,h=>by have:=(h b).2 List.mem_cons_self;cases this
 | a::r,[],_,_,h=>by have:=(h a).1 List.mem_cons_self;cases this
 | a::r,b::t,hp,hq,h=>by
   rw [List.pairwise_cons] at hp hq
   have hab : a=b:=by
    rcases List.mem_cons.1 ((h a).1 List.mem_cons_self) with e | h1
    ·exact e
    ·rcases List.mem_cons.1 ((h b).2 List.mem_cons_self) with e | h2
     ·exact e.symm
     ·have l1:=hq.1 a h1
      have l2:=hp.1 b h2
      unfold bO at l1 l2
      omega
   subst hab
   rw [aFk hp.2 hq.2 (λx=>⟨λhx=>?_,λhx=>?_⟩)]
   ·rcases List.mem_cons.1 ((h x).1 (List.mem_cons_of_mem _ hx)) with e | h1
    ·subst e
     have:=hp.1 x hx
     unfold bO at this;omega
    ·exact h1
   ·rcases List.mem_cons.1 ((h x).2 (List.mem_cons_of_mem _ hx)) with e | h1
    ·subst e
     have:=hq.1 x hx
     unfold bO at this;omega
    ·exact h1
theorem aKk {p q : List cJ} (hp : p.Pairwise bO) (hq : q.Pairwise bO) (h : ∀ f pc,lkS p f pc=lkS q f pc) : p=q:=by
 refine aFk hp hq (λx=>⟨λhx=>?_,λhx=>?_⟩)
 ·have:=aMf hp hx
  rw [h] at this
  exact (aHm this).1
 ·have:=aMf hq hx
  rw [← h] at this
  exact (aHm this).1
def aM6 (o : Int) (x : Option cJ) (s : cJ) : cJ:=match x with
 | none=>s
 | some a=>fZ o a s
theorem aKl {o : Int} {s : cJ} {f pc : Int} : ∀ {p : List cJ},p.Pairwise bO→lkS (lU o p s) f pc=if s.f=f∧s.pc=pc then some (aM6 o (lkS p s.f s.pc) s) else lkS p f pc
 | [],_=>by
  show lkS [s] f pc=_
  rw [mJ];rfl
 | a::r,hp=>by
   rw [List.pairwise_cons] at hp
   have ih:=aKl (o:=o) (s:=s) (f:=f) (pc:=pc) hp.2
   rw [zR]
   by_cases hk : jP a s
   ·rw [if_pos hk,mJ,mJ a r s.f s.pc,if_pos (show a.f=s.f∧a.pc=s.pc from hk),mJ a r f pc]
    obtain ⟨b1,b2⟩:=zS o a s
    rw [b1,b2]
    unfold jP at hk
    rw [hk.1,hk.2]
    by_cases h : s.f=f∧s.pc=pc
    ·rw [if_pos h,if_pos h];rfl
    ·rw [if_neg h,if_neg h,if_neg h]
   ·rw [if_neg hk]
    by_cases hl : bO s a
    ·rw [if_pos hl,mJ]
     by_cases h : s.f=f∧s.pc=pc
     ·rw [if_pos h,if_pos h]
      have : lkS (a::r) s.f s.pc=none:=aIK (λb hb=>by
       rcases List.mem_cons.1 hb with rfl | hb
       ·exact hl
       ·exact sI hl (hp.1 b hb))
      rw [this];rfl
     ·rw [if_neg h,if_neg h]
    ·rw [if_neg hl,mJ,mJ a r f pc,mJ a r s.f s.pc,if_neg (show ¬ (a.f=s.f∧a.pc=s.pc) from hk),ih]
     by_cases ha : a.f=f∧a.pc=pc
     ·rw [if_pos ha,if_pos ha,if_neg (λh=>hk ⟨by omega,by omega⟩)]
     ·rw [if_neg ha,if_neg ha]
section
variable {m : dT}
abbrev opS (m : dT) (s : cJ) : Int:=(bS m s.f s.pc).o
def eS (m : dT) (p q : List cJ) : List cJ:=q.foldl (λout s=>lU (opS m s) out s) p
def aGA (o : Int) (x y : Option cJ) : Option cJ:=match y with
 | none=>x
 | some s=>some (aM6 o x s)
theorem jH : ∀ {q p : List cJ},p.Pairwise bO→(eS m p q).Pairwise bO
 | [],_,h=>h
 | s::r,_,h=>jH (q:=r) (zT h)
theorem uW : ∀ {q p : List cJ} (f pc : Int),p.Pairwise bO→q.Pairwise bO→lkS (eS m p q) f pc=aGA (bS m f pc).o (lkS p f pc) (lkS q f pc)
 | [],_,_,_,_,_=>rfl
 | s::r,p,f,pc,hp,hq=>by
   rw [List.pairwise_cons] at hq
   show lkS (eS m (lU (opS m s) p s) r) f pc=_
   rw [uW (q:=r) f pc (zT hp) hq.2,aKl hp,mJ s r f pc]
   by_cases h : s.f=f∧s.pc=pc
   ·rw [if_pos h,if_pos h]
    have : lkS r f pc=none:=by rw [← h.1,← h.2];exact aIK hq.1
    rw [this]
    show some (aM6 (bS m s.f s.pc).o (lkS p s.f s.pc) s)=some (aM6 (bS m f pc).o (lkS p f pc) s)
    rw [h.1,h.2]
   ·rw [if_neg h,if_neg h]
theorem aDi : ∀ {q p : List cJ},(∀ x∈p,fC m x)→(∀ x∈q,fC m x)→∀ x∈eS m p q,fC m x
 | [],_,hp,_=>hp
 | s::r,p,hp,hq=>aDi (q:=r) (λx hx=>by
  rcases aB9 hx with rfl | h | ⟨a,ha,hk,rfl⟩
  ·exact hq _ List.mem_cons_self
  ·exact hp x h
  ·exact aKi (hp a ha) (hq s List.mem_cons_self) hk) (λx hx=>hq x (List.mem_cons_of_mem _ hx))
theorem aFl : ∀ {q p : List cJ},(eS m p q).length≤p.length+q.length
 | [],p=>by show p.length≤_;simp
 | s::r,p=>by
   have h1:=aFl (q:=r) (p:=lU (opS m s) p s)
   have h2:=aFe (opS m s) p s
   show (eS m (lU (opS m s) p s) r).length≤_
   rw [List.length_cons];omega
theorem aMg {a b : Int} (ha : 1≤a∧a≤3) (hb : 1≤b∧b≤3) : orI a b=orI b a:=by
 obtain ⟨x,rfl⟩:=Int.eq_ofNat_of_zero_le (show 0≤a by omega)
 obtain ⟨y,rfl⟩:=Int.eq_ofNat_of_zero_le (show 0≤b by omega)
 have h1 : x=1∨x=2∨x=3:=by omega
 have h2 : y=1∨y=2∨y=3:=by omega
 rcases h1 with rfl | rfl | rfl<;>rcases h2 with rfl | rfl | rfl<;>decide
theorem aM7 {a b : Int} (ha : 1≤a∧a≤3) (hb : 1≤b∧b≤3) : orI (orI a b) a=orI a b:=by
 obtain ⟨x,rfl⟩:=Int.eq_ofNat_of_zero_le (show 0≤a by omega)
 obtain ⟨y,rfl⟩:=Int.eq_ofNat_of_zero_le (show 0≤b by omega)
 have h1 : x=1∨x=2∨x=3:=by omega
 have h2 : y=1∨y=2∨y=3:=by omega
 rcases h1 with rfl | rfl | rfl<;>rcases h2 with rfl | rfl | rfl<;>decide
theorem aMh {a : Int} (ha : 1≤a∧a≤3) : orI a a=a:=by
 obtain ⟨x,rfl⟩:=Int.eq_ofNat_of_zero_le (show 0≤a by omega)
 have h1 : x=1∨x=2∨x=3:=by omega
 rcases h1 with rfl | rfl | rfl<;>decide
theorem aLn {a b : cJ} (ha : fC m a) (hb : fC m b) (hk : jP a b) : fZ (bS m a.f a.pc).o a b=fZ (bS m a.f a.pc).o b a:=by
 obtain ⟨af,ap,as_,at_⟩:=a
 obtain ⟨bf,bp,bs_,bt⟩:=b
 obtain ⟨_,ha⟩:=ha
 obtain ⟨_,hb⟩:=hb
 obtain ⟨k1,k2⟩:=hk
 dsimp only at *
 subst k1
 subst k2
 generalize (bS m af ap).o=o at *
 unfold fZ
 dsimp only
 by_cases ho : o≠23
 ·rw [if_pos ho,if_pos ho,aMg (by omega) (by omega),show at_=bt by omega]
 ·rw [if_neg ho,if_neg ho]
  by_cases h : as_≠1∨bs_≠1∨at_≠bt
  ·rw [if_pos h,if_pos (by omega)]
  ·rw [if_neg h,if_neg (by omega),show as_=bs_ by omega,show at_=bt by omega]
theorem aLo {a : cJ} (ha : fC m a) : fZ (bS m a.f a.pc).o a a=a:=by
 obtain ⟨af,ap,as_,at_⟩:=a
 obtain ⟨_,ha⟩:=ha
 dsimp only at *
 generalize (bS m af ap).o=o at *
 unfold fZ
 dsimp only
 by_cases ho : o≠23
 ·rw [if_pos ho,aMh (by omega)]
 ·rw [if_neg ho]
  by_cases h : as_≠1∨as_≠1∨at_≠at_
  ·rw [if_pos h,show as_=2 by omega,show at_=0 by omega]
  ·rw [if_neg h]
theorem aMi {a b : cJ} (ha : fC m a) (hb : fC m b) (hk : jP a b) : fZ (bS m a.f a.pc).o (fZ (bS m a.f a.pc).o a b) a=fZ (bS m a.f a.pc).o a b:=by
 obtain ⟨af,ap,as_,at_⟩:=a
 obtain ⟨bf,bp,bs_,bt⟩:=b
 obtain ⟨_,ha⟩:=ha
 obtain ⟨_,hb⟩:=hb
 obtain ⟨k1,k2⟩:=hk
 dsimp only at *
 subst k1
 subst k2
 generalize (bS m af ap).o=o at *
 unfold fZ
 dsimp only
 by_cases ho : o≠23
 ·rw [if_pos ho,if_pos ho]
  dsimp only
  rw [aM7 (by omega) (by omega)]
 ·rw [if_neg ho,if_neg ho]
  by_cases h : as_≠1∨bs_≠1∨at_≠bt
  ·rw [if_pos h]
   dsimp only
   rw [if_pos (.inl (by decide))]
  ·rw [if_neg h]
   dsimp only
   rw [if_neg (by omega)]
structure aIL (m : dT) (f pc : Int) (x : Option cJ) : Prop where
 t : ∀ a,x=some a→fC m a∧a.f=f∧a.pc=pc
theorem aKm {p : List cJ} (h : ∀ x∈p,fC m x) (f pc : Int) : aIL m f pc (lkS p f pc):=⟨λa ha=>by obtain ⟨h1,h2,h3⟩:=aHm ha;exact ⟨h a h1,h2,h3⟩⟩
theorem aLp {f pc : Int} {x y : Option cJ} (hx : aIL m f pc x) (hy : aIL m f pc y) : aGA (bS m f pc).o x y=aGA (bS m f pc).o y x:=by
 cases x with
 | none=>cases y<;>rfl
 | some a=>cases y with
   | none=>rfl
   | some b=>
     obtain ⟨h1,h2,h3⟩:=hx.t a rfl
     obtain ⟨g1,g2,g3⟩:=hy.t b rfl
     have:=aLn h1 g1 ⟨by omega,by omega⟩
     rw [h2,h3] at this
     exact congrArg some this
theorem aMj {f pc : Int} {x y : Option cJ} (hx : aIL m f pc x) (hy : aIL m f pc y) : aGA (bS m f pc).o (aGA (bS m f pc).o x y) x=aGA (bS m f pc).o x y:=by
 cases x with
 | none=>cases y<;>rfl
 | some a=>
   obtain ⟨h1,h2,h3⟩:=hx.t a rfl
   cases y with
   | none=>
     have:=aLo h1
     rw [h2,h3] at this
     exact congrArg some this
   | some b=>
     obtain ⟨g1,g2,g3⟩:=hy.t b rfl
     have:=aMi h1 g1 ⟨by omega,by omega⟩
     rw [h2,h3] at this
     exact congrArg some this
structure Srt (m : dT) (p : List cJ) : Prop where
 pr : p.Pairwise bO
 ok : ∀ x∈p,fC m x
theorem Srt.merge {p q : List cJ} (hp : Srt m p) (hq : Srt m q) : Srt m (eS m p q):=⟨jH hp.pr,aDi hp.ok hq.ok⟩
theorem aBg {p q : List cJ} (hp : Srt m p) (hq : Srt m q) : eS m p q=eS m q p:=
 aKk (jH hp.pr) (jH hq.pr) (λf pc=>by
  rw [uW f pc hp.pr hq.pr,uW f pc hq.pr hp.pr]
  exact aLp (aKm hp.ok f pc) (aKm hq.ok f pc))
theorem aGB {p q : List cJ} (hp : Srt m p) (hq : Srt m q) : eS m (eS m p q) p=eS m p q:=
 aKk (jH (jH hp.pr)) (jH hp.pr) (λf pc=>by
  rw [uW f pc (jH hp.pr) hp.pr,uW f pc hp.pr hq.pr]
  exact aMj (aKm hp.ok f pc) (aKm hq.ok f pc))
theorem aJG {p q : List cJ} (hp : Srt m p) (hq : Srt m q) : eS m q (eS m p q)=eS m p q:=by
 rw [aBg hq (hp.merge hq),aBg hp hq]
 exact aGB hq hp
end
end
end Go.Proofs.YtllmobkkbpdchaaGreat
