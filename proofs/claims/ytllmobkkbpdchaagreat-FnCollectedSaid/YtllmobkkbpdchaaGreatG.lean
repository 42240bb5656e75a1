/-
  Texts of the proof, part 7: a value-level evaluator and its soundness, what the functions compute, laws about it.
  Conditions: none.
-/
import Derived.Test.YtllmobkkbpdchaaGreatF
import Derived.Laws.Strings
import Derived.ProofKit
import Derived.OpenShut
import Derived.ShutString
import Derived.ChangeOld
set_option linter.all false
namespace Go.Proofs.YtllmobkkbpdchaaGreat
noncomputable section
open Go Go.IntWalk
attribute [local irreducible] bd PV.ite PV.guardFlat PV.guardOwn PV.whole PV.one PV.cell PV.sub PV.at_ PV.len PV.slen PV.chr PV.beq PV.peq PV.ceq PV.bin PV.neg PV.not PV.conv PV.cut PV.scut PV.cat PV.setAt PV.setCell PV.ncopy PV.copyIn PV.zeros PV.toStr PV.toBytes PV.deref PV.isPtr PV.comp PV.inb PV.off PV.imin PV.imax PV.sel PV.apply PV.isLst PV.isInt PV.ix PV.nilT
section
variable {P : R → Prop} {m : eN}
theorem yF {k : PV→OR} {f : Int} (hf : 0≤f∧f<m.funcs.length) (h : Ok P (k (bD (kR m.funcs (dE m.funcs f))))) : Ok P (bd (PV.at_ 1 false (aIs m) (.I f)) k):=by
 obtain ⟨i,rfl⟩:=Int.eq_ofNat_of_zero_le hf.1
 have hi : i<m.funcs.length:=by omega
 have : dE m.funcs i=m.funcs[i].code:=by simp [dE,List.getElem?_eq_getElem hi]
 rw [this] at h
 exact aK hi (λ_=>rfl) h
theorem iB (g : eO m) {k : PV→OR} {f pc : Int} (hf : 0≤f∧f<m.funcs.length) (hp : 0≤pc∧pc<(dE m.funcs f).length) (h : Ok P (k (.I (dAt m f pc)))) :
 Ok P (bd (PV.at_ 1 false (bD (kR m.funcs (dE m.funcs f))) (.I pc)) k):=by
 obtain ⟨i,hi,he,hc,F,_⟩:=g.code hf
 have hl : (kR m.funcs (dE m.funcs f)).length=(dE m.funcs f).length:=by rw [hc];exact (aAa F).1
 refine kM hp.1 (by omega) (λx hx=>?_)
 have : dAt m f pc=x:=by unfold dAt;rw [hx];rfl
 rw [← this];exact h
theorem aPj (g : eO m) {n : Int} {f : bT} {top : Bool} (h : FrI m n f) (h1 : top=true→aIp m n f) (h2 : top=false→aGa m n f) :
 Ok (λr=>r = [.bool true]) (tY m.pv (aIs m) (.I f.f) (.I f.pc) (.I f.loc.length) (.I f.stk.length) (.bool top)):=by
 obtain ⟨hf,hpc,hloc,hd,_,_⟩:=h
 obtain ⟨f1,f2,ff⟩:=g.fit
 obtain ⟨i,hi,he,hc,F,_⟩:=g.code hf
 have nc:=F.n2
 rw [← hc] at nc
 rw [aAy]
 refine aE rfl (aA rfl (aA rfl (aD (gT (by omega) ?_))))
 rw [bH.2 (show 0≤f.f∧f.f≤(m.funcs.length : Int) - 1 by omega)]
 refine bC (aT (aMw hf.1 hf.2 (λfn hfn=>aA rfl (bQ (aO (λh=>?_) (λ_=>?_))))))
 ·exact absurd (by rw [hloc];unfold aEf;rw [hfn];rfl) h
 refine aMw hf.1 hf.2 (λfn' hfn'=>aA rfl (aD ?_))
 have hcf : dE m.funcs f.f=fn'.code:=by unfold dE;rw [hfn'];rfl
 rw [← hcf]
 refine gT (by omega) ?_
 rw [bH.2 (show 0≤f.pc∧f.pc≤((dE m.funcs f.f).length : Int) - 1 by omega)]
 refine bC (aT (yF hf (iB g hf hpc (aH (aC (λh=>by omega) (λ_=>?_))))))
 cases top with
 | true=>
   have t:=(h1 rfl).h
   refine bB (yF hf (iB g hf hpc (aI (aB ?_))))
   rw [decide_eq_true t]
 | false=>
   have l:=(h2 rfl).h
   obtain ⟨l1,l2,l3⟩:=(h2 rfl).low
   refine aT (aI (aC (λh=>by omega) (λ_=>yF hf (bF (by omega) (iB g hf (by omega) (aH (aC (λh=>by omega) (λ_=>?_))))))))
   refine aMw hf.1 hf.2 (λfn2 hfn2=>aA rfl (bF (by omega) ?_))
   have hcf2 : dE m.funcs f.f=fn2.code:=by unfold dE;rw [hfn2];rfl
   have hin : (fn2.code.map cK.pv)[(f.pc - 1).toNat]? = some (tB m f.f (f.pc - 1)).pv:=by
    rw [List.getElem?_map,← hcf2]
    unfold tB
    rw [List.getElem?_eq_getElem (by omega)];rfl
   refine rO (by omega) hin rfl (aA rfl (aI (aC (λ_=>?_) (λh=>aI (aC (λ_=>?_) (λh=>by omega))))))
   ·refine yF hf (iB g hf hpc (bF (by have:=(h2 rfl).toFrI.dle g;omega) (aI (aB ?_))))
    rw [decide_eq_true l]
   ·refine yF hf (iB g hf hpc (bF (by have:=(h2 rfl).toFrI.dle g;omega) (aI (aB ?_))))
    rw [decide_eq_true l]
theorem aOr : jS dO.s dO.s=true:=aHt _
theorem aLr (g : eO m) {v : eA} (h : VmK m v) : ∀ i,i≤v.fr.length→Ok (λr=>r = [.bool true]) (kC (aIs m) (.lst (v.fr.map bT.pv)) (.I v.fr.length) (.I i) (.lst (m.texts.map PV.str)) (.lst (m.funcs.map dA.pv)) (.lst (v.fr.map bT.pv)) (.lst (v.hp.map aR)) (.I v.made) (.lst (v.out.map PV.str)) (.I v.st) (.I v.tr) (.I v.val.k) (.I v.val.n) (.str v.val.s) (.I v.steps) (.bool true)):=by
 have z:=h.toVmI.sz g
 have zf:=z.f
 refine cH (n:=v.fr.length) (F:=λi=>kC (aIs m) (.lst (v.fr.map bT.pv)) (.I v.fr.length) (.I i) (.lst (m.texts.map PV.str)) (.lst (m.funcs.map dA.pv)) (.lst (v.fr.map bT.pv)) (.lst (v.hp.map aR)) (.I v.made) (.lst (v.out.map PV.str)) (.I v.st) (.I v.tr) (.I v.val.k) (.I v.val.n) (.str v.val.s) (.I v.steps) (.bool true)) (P:=λ_ r=>r = [.bool true]) ?_ (λi hi ih=>?_)
 ·rw [pL]
  have hn:=h.nfr
  refine aH (aC (λh=>by omega) (λ_=>aD (fH (vX (λh1=>?_) (λh1=>?_)))))
  ·have hne : v.fr≠[]:=λe=>by rw [e] at h1;simp at h1
   have key : ∀ {k : PV→OR},v.val=dO→Ok (λr=>r = [.bool true]) (k (.bool true))→Ok (λr=>r = [.bool true]) (bd (PV.ceq [1,1,2] .eql (.agg [.I v.val.k,.I v.val.n,.str v.val.s]) (.agg [(.I 0),(.I 0),(.str (bs []))])) k):=λe hk=>by
    refine aJU (a:=v.val) (b:=dO) ?_
    rw [e,decide_eq_true rfl,decide_eq_true rfl,aOr]
    exact hk
   rcases h.end_ with e | e | e
   ·refine key e.2.2 (aI ?_)
    rw [decide_eq_true e.1]
    refine bB (bB (bB (aI (aB ?_))))
    rw [decide_eq_true e.2.1]
   ·refine key e.2.2.2.1 (aI ?_)
    rw [decide_eq_false (by omega)]
    refine aT (aI ?_)
    rw [decide_eq_true e.1]
    refine bB (bB (bB (fH (aB ?_))))
    rw [bH.2 (by omega)];rfl
   ·exact absurd e.2.2 hne
  ·have he : v.fr = []:=by
    cases hq : v.fr with
    | nil=>rfl
    | cons a l=>exfalso;rw [hq] at h1 hn;simp at h1 hn;omega
   rcases h.end_ with e | e | e
   ·exact absurd he (h.run e.1)
   ·exact absurd he e.2.2.2.2
   ·refine aI ?_
    rw [decide_eq_false (by omega)]
    refine aT (aI ?_)
    rw [decide_eq_false (by omega)]
    refine aT (aI ?_)
    rw [decide_eq_true e.1]
    refine bB (bB (aD (aI ?_)))
    rw [he,decide_eq_true (show ((([] : List bT).length : Nat) : Int)=0 from rfl)]
    refine bB (aI (aB ?_))
    rw [decide_eq_true e.2.1]
 ·rw [pL]
  refine aH (aC (λ_=>?_) (λh=>by omega))
  refine aK hi (λ_=>rfl) (aE rfl (aA rfl (aA rfl (aA rfl (aA rfl (bB (aY (aY (aD (bF (by omega) (aI ?_)))))))))))
  rcases List.eq_nil_or_concat v.fr with e | ⟨fs0,f,e⟩
  ·rw [e] at hi;simp at hi
  rw [List.concat_eq_append] at e
  obtain ⟨t,l⟩:=h.top fs0 f e
  have hlen : v.fr.length=fs0.length+1:=by rw [e];simp
  have fr : (i : Int)=(v.fr.length : Int) - 1→v.fr[i]=f:=λh=>by
   have : i=fs0.length:=by omega
   subst this
   simp [e]
  have lo : ¬ (i : Int)=(v.fr.length : Int) - 1→v.fr[i]∈fs0:=λh=>by
   have hi' : i<fs0.length:=by omega
   have : v.fr[i]=fs0[i]:=by simp only [e];exact List.getElem_append_left hi'
   rw [this];exact List.getElem_mem hi'
  refine aG (aPj g (n:=v.hp.length) (f:=v.fr[i]) ?_ (λht=>?_) (λht=>?_)) (λr hr=>?_)
  ·by_cases hc : (i : Int)=(v.fr.length : Int) - 1
   ·rw [fr hc];exact t.toFrI
   ·exact (l _ (lo hc)).toFrI
  ·rw [fr (of_decide_eq_true ht)];exact t
  ·exact l _ (lo (of_decide_eq_false ht))
  ·rw [hr]
   exact aX rfl (aL (by omega) ih)
theorem aJ3 (g : eO m) {v : eA} (h : VmK m v) : Ok (λr=>r = [.bool true]) (nT m.pv v.pv):=by
 have z:=h.toVmI.sz g
 have hm:=h.hp.made
 have ho:=h.hp.out
 have hst:=h.steps
 rw [aDT]
 refine aE rfl (aA rfl (aA rfl (aE rfl (aA rfl (aA rfl (aA rfl (aA rfl (aA rfl (aA rfl (aA rfl (aA rfl (aA rfl (aA rfl (aLm g.sz ?_))))))))))))))
 rw [g.b]
 refine bB (aG (aHH g) (λr hr=>?_))
 rw [hr]
 refine aG (Q:=λr=>r = [.bool true]) ?_ (λr hr=>by rw [hr];exact aB rfl)
 rw [aDV]
 refine aE rfl (aA rfl (aA rfl (aE rfl (aA rfl (aA rfl (aA rfl (aA rfl (aA rfl (aA rfl (aA rfl (aA rfl (aA rfl (aA rfl ?_)))))))))))))
 refine aG (aLq (by omega) (λr hr=>(h.hp.recs r hr).1)) (λr hr=>?_)
 rw [hr]
 refine bC (aT (aD (fH ?_)))
 rw [bH.2 hm]
 refine bC (aT (aD (cN (aC (λh=>by omega) (λ_=>fH ?_)))))
 rw [bH.2 hst]
 refine bC (aT (aE2 (by omega) (λs=>!dC s) (λx hx=>?_) ?_))
 ·show Ok _ (aBd _)
  rw [aBl]
  have ht:=h.outs x hx
  refine aG (aB1 (s:=x) (by simp only [dC,Bool.and_eq_true,decide_eq_true_eq] at ht;omega)) (λr hr=>?_)
  rw [hr]
  exact bC (aB rfl)
 ·have : v.out.any (λs=>!dC s)=false:=by
   rw [List.any_eq_false]
   intro s hs
   rw [h.outs s hs];simp
  rw [this]
  refine aT (aG (aOq g h) (λr hr=>?_))
  rw [hr]
  exact aD (aLr g h 0 (by omega))
end
section
variable {P : R → Prop} {m : eN}
theorem aBJ (g : eO m) {l : List cB} {n : Nat} (hl : l.length≤1000) (h : ∀ y∈l,lE m n y) : Ok (λr=>r = [.bool true]) (lK m.pv (aS l) (.I n)):=by
 have hf:=g.fit.2.1
 rw [wY]
 refine aE rfl (aA rfl (aA rfl ?_))
 refine cH (n:=l.length) (F:=λi=>kD (aS l) (.I n) (.I i) (.lst (m.texts.map PV.str)) (.lst (m.funcs.map dA.pv))) (P:=λ_ r=>r = [.bool true]) ?_ (λi hi ih=>?_) 0 (by omega)
 ·rw [kH]
  exact aY (aH (aC (λh=>by omega) (λ_=>aB rfl)))
 ·rw [kH]
  have hv:=h _ (List.getElem_mem hi)
  have hs:=bM hv
  refine aY (aH (aC (λ_=>?_) (λh=>by omega)))
  refine aK hi (λ_=>rfl) (aG (vY (T:=(.lst (m.texts.map PV.str))) (fs:=m.funcs) (v:=l[i]) (recs:=n) (by omega) (by omega)) (λr hr=>?_))
  rw [hr,hv]
  exact bC (aT (aL (by omega) ih))
theorem aOs (g : eO m) {n : Nat} {f : bT} {top : Bool} (h : FrI m n f) (hs : f.loc.length≤1000∧f.stk.length≤1000) (h1 : top=true→aIp m n f) (h2 : top=false→aGa m n f) :
 Ok (λr=>r = [.bool true]) (pF m.pv f.pv (.I n) (.bool top)):=by
 obtain ⟨hf,hpc,hloc,hd,hvl,hvs⟩:=h
 obtain ⟨f1,f2,ff⟩:=g.fit
 obtain ⟨i,hi,he,hc,F,_⟩:=g.code hf
 have nc:=F.n2
 rw [← hc] at nc
 have hdep : Ok (λr=>r = [bD (kR m.funcs (dE m.funcs f.f))]) (lM m.pv (.I f.f)):=by
  rw [hc,he]
  exact aBy F hi rfl
 rw [vO]
 refine aE rfl (aA rfl (aA rfl (aE rfl (aA rfl (aA rfl (aA rfl (aA rfl (aD (bF (by omega) (dV ?_))))))))))
 rw [bH.2 (show 0≤f.f∧f.f≤(m.funcs.length : Int) - 1 by omega)]
 refine bC (aT (sF hf (aE rfl (aA rfl (aA rfl (aA rfl (aG hdep (λr hr=>?_))))))))
 rw [hr]
 refine aY (bQ (aO (λh=>absurd hloc h) (λ_=>aD (bF (by omega) (dV ?_)))))
 rw [bH.2 (show 0≤f.pc∧f.pc≤((dE m.funcs f.f).length : Int) - 1 by omega)]
 refine bC (aT (iB g hf hpc (aH (aC (λh=>by omega) (λ_=>aG (aBJ g hs.1 hvl) (λr hr=>?_))))))
 rw [hr]
 refine bC (aT (aG (aBJ g hs.2 hvs) (λr hr=>?_)))
 rw [hr]
 refine bC (aT ?_)
 cases top with
 | true=>
   have t:=(h1 rfl).h
   refine bB (aY (iB g hf hpc (aI (aB ?_))))
   rw [decide_eq_true t]
 | false=>
   have l:=(h2 rfl).h
   have dl:=(h2 rfl).toFrI.dle g
   obtain ⟨l1,l2,l3⟩:=(h2 rfl).low
   refine aT (aH (aC (λh=>by omega) (λ_=>bF (by omega) (iB g hf (by omega) (aH (aC (λh=>by omega) (λ_=>bF (by omega) ?_)))))))
   have hin : ((dE m.funcs f.f).map cK.pv)[(f.pc - 1).toNat]? = some (tB m f.f (f.pc - 1)).pv:=by
    rw [List.getElem?_map]
    unfold tB
    rw [List.getElem?_eq_getElem (by omega)];rfl
   refine rO (by omega) hin rfl (aA rfl (aI (aC (λ_=>?_) (λh=>aI (aC (λ_=>?_) (λh=>by omega))))))
   ·refine aY (iB g hf hpc (bF (by omega) (aI (aB ?_))))
    rw [decide_eq_true l]
   ·refine aY (iB g hf hpc (bF (by omega) (aI (aB ?_))))
    rw [decide_eq_true l]
theorem aI7 {v : cB} {k : PV→OR} (e : v=dO) (h : Ok P (k (.bool false))) : Ok P (bd (PV.ceq [1,1,2] .neq (.agg [.I v.k,.I v.n,.str v.s]) (.agg [(.I 0),(.I 0),(.str (bs []))])) k):=by
 subst e
 exact dP _ (by simp [PV.ceq,PV.eqCells,PV.eqScalar,PV.eqOr,dO]) h
theorem aMF (g : eO m) {v : eA} (h : VmK m v) : Ok (λr=>r = [.bool true]) (bO (.I v.hp.length) (.I 0) (.lst (m.texts.map PV.str)) (.lst (m.funcs.map dA.pv)) (.lst (v.fr.map bT.pv)) (.lst (v.hp.map aR)) (.I v.made) (.lst (v.out.map PV.str)) (.I v.st) (.I v.tr) (.I v.val.k) (.I v.val.n) (.str v.val.s) (.I v.steps)):=by
 have z:=h.toVmI.sz g
 have zf:=z.f
 refine cH (n:=v.fr.length) (F:=λi=>bO (.I v.hp.length) (.I i) (.lst (m.texts.map PV.str)) (.lst (m.funcs.map dA.pv)) (.lst (v.fr.map bT.pv)) (.lst (v.hp.map aR)) (.I v.made) (.lst (v.out.map PV.str)) (.I v.st) (.I v.tr) (.I v.val.k) (.I v.val.n) (.str v.val.s) (.I v.steps)) (P:=λ_ r=>r = [.bool true]) ?_ (λi hi ih=>?_) 0 (by omega)
 ·rw [lC]
  exact aD (aH (aC (λh=>by omega) (λ_=>aB rfl)))
 ·rw [lC]
  refine aD (aH (aC (λ_=>?_) (λh=>by omega)))
  refine aK hi (λ_=>rfl) (aD (bF (by omega) (aI ?_)))
  rcases List.eq_nil_or_concat v.fr with e | ⟨fs0,f,e⟩
  ·rw [e] at hi;simp at hi
  rw [List.concat_eq_append] at e
  obtain ⟨t,l⟩:=h.top fs0 f e
  have hlen : v.fr.length=fs0.length+1:=by rw [e];simp
  have fr : (i : Int)=(v.fr.length : Int) - 1→v.fr[i]=f:=λh=>by
   have : i=fs0.length:=by omega
   subst this
   simp [e]
  have lo : ¬ (i : Int)=(v.fr.length : Int) - 1→v.fr[i]∈fs0:=λh=>by
   have hi' : i<fs0.length:=by omega
   have : v.fr[i]=fs0[i]:=by simp only [e];exact List.getElem_append_left hi'
   rw [this];exact List.getElem_mem hi'
  refine aG (aOs g (n:=v.hp.length) (f:=v.fr[i]) ?_ (z.fl _ (List.getElem_mem hi)) (λht=>?_) (λht=>?_)) (λr hr=>?_)
  ·by_cases hc : (i : Int)=(v.fr.length : Int) - 1
   ·rw [fr hc];exact t.toFrI
   ·exact (l _ (lo hc)).toFrI
  ·rw [fr (of_decide_eq_true ht)];exact t
  ·exact l _ (lo (of_decide_eq_false ht))
  ·rw [hr]
   exact bC (aT (aL (by omega) ih))
theorem aJ4 (g : eO m) {v : eA} (h : VmK m v) : Ok (λr=>r = [.bool true]) (rU m.pv v.pv):=by
 have z:=h.toVmI.sz g
 have zf:=z.f
 have hm:=h.hp.made
 have ho:=h.hp.out
 have hst:=h.steps
 have hfn:=g.fit.2.1
 have hnf:=h.nfr
 have hvs:=bM h.vok
 have frames:=aMF g h
 rw [aDS]
 refine aE rfl (aA rfl (aA rfl ?_))
 refine aE rfl (aA rfl (aA rfl (aA rfl (aA rfl (aA rfl (aA rfl (aA rfl (aA rfl (aA rfl (aA rfl (?_)))))))))))
 refine aGl g.sz ?_
 rw [g.b]
 refine bB (aG (Q:=λr=>r = [.bool true]) ?_ (λr hr=>by rw [hr];exact aB rfl))
 rw [aAx]
 refine aE rfl (aA rfl (aA rfl ?_))
 refine aE rfl (aA rfl (aA rfl (aA rfl (aA rfl (aA rfl (aA rfl (aA rfl (aA rfl (aA rfl (aA rfl (?_)))))))))))
 refine aD (cN (aC (λh=>by omega) (λ_=>dV ?_)))
 rw [bH.2 hm]
 refine bC (aT (aD (cN (aC (λh=>by omega) (λ_=>dV ?_)))))
 rw [bH.2 hst]
 refine bC (aT (aG (vY (T:=(.lst (m.texts.map PV.str))) (fs:=m.funcs) (v:=v.val) (recs:=v.hp.length) (by omega) (by omega)) (λr hr=>?_)))
 rw [hr,h.vok]
 refine bC (aT ?_)
 have tail : Ok (λr=>r = [.bool true]) (fL (.I v.hp.length) (.I 0) (.lst (m.texts.map PV.str)) (.lst (m.funcs.map dA.pv)) (.lst (v.fr.map bT.pv)) (.lst (v.hp.map aR)) (.I v.made) (.lst (v.out.map PV.str)) (.I v.st) (.I v.tr) (.I v.val.k) (.I v.val.n) (.str v.val.s) (.I v.steps)):=by
  refine cH (n:=v.out.length) (F:=λi=>fL (.I v.hp.length) (.I i) (.lst (m.texts.map PV.str)) (.lst (m.funcs.map dA.pv)) (.lst (v.fr.map bT.pv)) (.lst (v.hp.map aR)) (.I v.made) (.lst (v.out.map PV.str)) (.I v.st) (.I v.tr) (.I v.val.k) (.I v.val.n) (.str v.val.s) (.I v.steps)) (P:=λ_ r=>r = [.bool true]) ?_ (λi hi ih=>?_) 0 (by omega)
  ·rw [lB]
   refine aD (aH (aC (λh=>by omega) (λ_=>?_)))
   have some_ : v.fr≠[]→1≤(v.fr.length : Int)∧(v.fr.length : Int)≤24:=λhne=>by
    have : v.fr.length≠0:=λe=>hne (List.length_eq_zero_iff.1 e)
    omega
   rcases h.end_ with e | e | e
   ·refine aI (aC (λh=>by omega) (λ_=>bQ (aO (λh=>absurd e.1 h) (λ_=>aI7 e.2.2 (aT (aD (dV ?_)))))))
    rw [bH.2 (some_ (h.run e.1))]
    refine bC (aT (aI (aC (λ_=>bQ (aO (λh=>absurd e.2.1 h) (λ_=>aI (aC (λh=>by omega) (λ_=>frames))))) (λh=>absurd e.1 h))))
   ·refine aI (aC (λh=>by omega) (λ_=>bQ (aO (λ_=>bQ (aO (λh=>absurd e.1 h) (λ_=>aI7 e.2.2.2.1 (aT (aD (dV ?_)))))) (λh=>by omega))))
    rw [bH.2 (some_ e.2.2.2.2)]
    refine bC (aT (aI (aC (λh=>by omega) (λ_=>aI (aC (λ_=>dV ?_) (λh=>absurd e.1 h))))))
    rw [bH.2 (show 1≤v.tr∧v.tr≤8 by omega)]
    exact bC (aT frames)
   ·have hz : (v.fr.length : Int)=0:=by rw [e.2.2];rfl
    refine aI (aC (λ_=>aD (aI (aC (λ_=>aI (aB ?_)) (λh=>absurd hz h)))) (λh=>absurd e.1 h))
    rw [decide_eq_true e.2.1]
  ·rw [lB]
   have ht:=h.outs _ (List.getElem_mem hi)
   refine aD (aH (aC (λ_=>?_) (λh=>by omega)))
   refine aK hi (λ_=>rfl) (aGg (s:=v.out[i]) (by have:=ht;simp only [dC,Bool.and_eq_true,decide_eq_true_eq] at this;omega) ?_)
   rw [ht]
   exact bC (aT (aL (by omega) ih))
 refine cH (n:=v.hp.length) (F:=λi=>jV (.I v.hp.length) (.I i) (.lst (m.texts.map PV.str)) (.lst (m.funcs.map dA.pv)) (.lst (v.fr.map bT.pv)) (.lst (v.hp.map aR)) (.I v.made) (.lst (v.out.map PV.str)) (.I v.st) (.I v.tr) (.I v.val.k) (.I v.val.n) (.str v.val.s) (.I v.steps)) (P:=λ_ r=>r = [.bool true]) ?_ (λi hi ih=>?_) 0 (by omega)
 ·rw [mD]
  exact aH (aC (λh=>by omega) (λ_=>tail))
 ·rw [mD]
  obtain ⟨q1,q2⟩:=h.hp.recs _ (List.getElem_mem hi)
  refine aH (aC (λ_=>?_) (λh=>by omega))
  refine aK hi (λ_=>rfl) (aA rfl (aY (cN (aC (λh=>by omega) (λ_=>?_)))))
  refine aK hi (λ_=>rfl) (aA rfl (aG (aBJ g (l:=v.hp[i]) (n:=v.hp.length) (by omega) q2) (λr hr=>?_)))
  rw [hr]
  exact bC (aT (aL (by omega) ih))
end
section
variable {P : R → Prop} {k : PV → OR} {kk : IntKind} {a b : R} {x v : PV} {n : Int} {s : Nat} {g : Bool}
theorem aQo (a : R) (x y : PV) (b : R) : (a++x::b).set a.length y=a++y::b:=by
 induction a with
 | nil=>rfl
 | cons c r ih=>simp [ih]
theorem iC (hn : n=a.length) (he : x.isEl s g=true) (h : Ok P (k x)) : Ok P (bd (PV.at_ s g (.lst (a++x::b)) (.int kk n)) k):=
 rO (by omega) (by rw [hn,Int.toNat_natCast];simp) he h
theorem kT (hn : n=a.length) (h : Ok P (k (.lst (a++x::b)))) : Ok P (bd (PV.inb (.lst (a++x::b)) (.int kk n)) k):=
 dF (by omega) (by simp;omega) h
theorem eL {cs : R} {off : Nat} (hn : n=a.length) (hc : cs.length=s) (ho : off<s) (hv : v.isEl 1 false=true) (h : Ok P (k (.lst (a++.agg (cs.set off v)::b)))) :
 Ok P (bd (PV.setCell s (.lst (a++.agg cs::b)) (.int kk n) off v) k):=by
 refine fT (cs:=cs) (by omega) (by rw [hn,Int.toNat_natCast];simp) hc ho hv ?_
 rw [hn,Int.toNat_natCast,aQo];exact h
end
section
variable {α : Type} {f : α → PV}
def aJ5 (m : Int→α→α) (c : α→Nat) : Int→List α→List α
 | _,[]=>[]
 | q,z::r=>m q z::aJ5 m c (q+c z) r
def aQp (c : α→Nat) (l : List α) : Nat:=(l.map c).sum
def aR3 (left : Int) (B : Prop) (r : R) : Prop:=∃ z,r = [.I z]∧z≤left∧-1≤z∧(0≤z→B)
end
section
variable {P : R → Prop} {k : PV → OR}
end
def eN.rows (m : eN) : R:=[.lst (m.texts.map PV.str),.lst (m.funcs.map dA.pv)]
section
variable {P : R → Prop} {k : R → OR}
end
def eN.wide (m : eN) : Prop:=m.texts.length≤9223372036854775807∧m.funcs.length≤9223372036854775807∧(∀ t∈m.texts,t.size≤9223372036854775807)∧∀ f∈m.funcs,f.code.length≤9223372036854775807
def mtD : Nat→Int→ByteArray→ByteArray
 | 0,_,s=>bs [109]++s
 | n+1,k,s=>if 0<k then mtD n (k / 10) (⟨([48+k % 10].map λx=>UInt8.ofNat x.toNat).toArray⟩++s) else bs [109]++s
def mtx (k : Int) : ByteArray:=mtD 19 k (bs [])
section
variable {P : R → Prop} {k : R → OR}
end
def cS (_ : ByteArray) : Nat:=1
def mS (q : Int) (_ : ByteArray) : ByteArray:=mtx q
def cI (_ : cK) : Nat:=2
def mI (q : Int) (_ : cK) : cK:=⟨q,q+1⟩
def cF (f : dA) : Nat:=2+aQp cI f.code
def mF (q : Int) (f : dA) : dA:=⟨q,q+1,aJ5 mI cI (q+2) f.code⟩
def cM (m : eN) : Nat:=aQp cS m.texts+aQp cF m.funcs
def mM (q : Int) (m : eN) : eN:=⟨aJ5 mS cS q m.texts,aJ5 mF cF (q+aQp cS m.texts) m.funcs⟩
def fnW (A B : R) (p lc : Int) (xs : R) : PV:=.lst (A++.agg [.I p,.I lc,.lst xs]::B)
structure eA.few (v : eA) : Prop where
 f : v.fr.length≤2097152
 h : v.hp.length≤2097152
 o : v.out.length≤2097152
 fl : ∀ f∈v.fr,f.loc.length≤2097152∧f.stk.length≤2097152
 hl : ∀ r∈v.hp,r.length≤2097152
theorem Sz.few {v : eA} (z : Sz v) : v.few:=⟨by have:=z.f;omega,by have:=z.h;omega,by have:=z.o;omega,λf hf=>by have:=z.fl f hf;omega,λr hr=>by have:=z.hl r hr;omega⟩
section
variable {P : R → Prop} {k : R → OR}
def rC (v : eA) (b : Bool) : R:=[.I v.made,.I v.st,.I v.tr,.I v.val.k,.I v.val.n,.str v.val.s,.I v.steps,.bool b,.lst (v.fr.map bT.pv),.lst (v.hp.map aR),.lst (v.out.map PV.str)]
theorem aMG {v : eA} {b : Bool} {o : OR} (H : Ok P o) :
 Ok P (PV.guardFlat (gd (rC v b) 0) (PV.guardFlat (gd (rC v b) 1) (PV.guardFlat (gd (rC v b) 2) (PV.guardFlat (gd (rC v b) 3) (PV.guardFlat (gd (rC v b) 4) (PV.guardFlat (gd (rC v b) 5) (PV.guardFlat (gd (rC v b) 6) (PV.guardFlat (gd (rC v b) 7)
  (PV.guardOwn (.own 4 64 true [.leaf,.leaf,(.own 3 32 true []),(.own 3 32 true [])]) (gd (rC v b) 8) (PV.guardOwn (.own 1 24 true [(.own 3 32 true [])]) (gd (rC v b) 9) (PV.guardOwn (.own 1 16 false []) (gd (rC v b) 10) o))))))))))):=
 eR rfl (eR rfl (eR rfl (eR rfl (eR rfl (eR rfl (eR rfl (eR rfl (kO (aBD _) (kO (aB7 _) (kO (aE5 _) H))))))))))
theorem aMH {m : eN} {v : eA} (z : Sz v) (hst : 0≤v.steps∧v.steps≤50000) (hg : v.st=0→v.steps≠50000→∃ fs0 f,aQJ m v fs0 f) : Ok (λr=>r=dD (pC m v)) (zT m.pv v.pv):=by
 rw [aF6]
 refine aE rfl (aA rfl (aA rfl (aE rfl (aA rfl (aA rfl (aA rfl (aA rfl (aA rfl (aA rfl (aA rfl (aA rfl (aA rfl (aA rfl ?_)))))))))))))
 refine bQ (aO (λh=>?_) (λh=>?_))
 ·refine aB8 z (fD (aB ?_))
  unfold pC
  rw [if_pos h];rfl
 have h0 : v.st=0:=by simpa using h
 refine aI (aC (λh=>?_) (λh5=>?_))
 ·refine aB8 z (fD (aB ?_))
  unfold pC
  rw [if_neg (by omega),if_pos h];rfl
 obtain ⟨fs0,f,G⟩:=hg h0 h5
 rw [aE6 h0 h5 G.fr]
 obtain ⟨gfr,gfi,gpc,gnc,gins,gus,gsm⟩:=G
 obtain ⟨fi,hfi⟩:=Int.eq_ofNat_of_zero_le gfi.1
 obtain ⟨pi,hpi⟩:=Int.eq_ofNat_of_zero_le gpc.1
 have hfl : fi<m.funcs.length:=by omega
 have hco : dE m.funcs f.f=m.funcs[fi].code:=by simp [dE,hfi,List.getElem?_eq_getElem hfl]
 have hpl : pi<m.funcs[fi].code.length:=by rw [← hco];omega
 have hin : nP m.funcs f=m.funcs[fi].code[pi]:=by simp [nP,hco,hpi,List.getElem?_eq_getElem hpl]
 have n0:=(gsm 0).n0
 have nA : (fs0.map bT.pv).length≤23:=by rw [List.length_map];exact n0
 refine aB8 z (fD ?_)
 have efr : v.fr.map bT.pv=fs0.map bT.pv++[f.pv]:=by rw [gfr,List.map_append];rfl
 show Ok _ (bd (eZ _ _ _ _ _ _ _ _ _ _ (.lst (v.fr.map bT.pv)) _ _) _)
 rw [efr]
 refine aBC (by omega) ?_
 refine cQ rfl rfl (aA rfl ?_)
 rw [hfi]
 refine aK hfl (λ_=>rfl) (aA (y:=.lst (m.funcs[fi].code.map cK.pv)) rfl (cQ rfl rfl (aA rfl ?_)))
 rw [hpi]
 refine aK hpl (λ_=>rfl) (aE rfl (aA rfl (aA rfl (cQ rfl rfl (aA rfl ?_)))))
 refine aL (by omega) (aX rfl (gU rfl rfl (by omega) rfl ?_))
 generalize hb : f.stk.length - (bZ m.funcs (nP m.funcs f)).1.toNat=b
 have hsplit : f.stk=f.stk.take b++f.stk.drop b:=(List.take_append_drop b f.stk).symm
 have hdo:=aQa (nc:=(dE m.funcs f.f).length) (a3:=.I v.st) (a4:=.I v.tr) (a5:=.I v.val.k) (a6:=.I v.val.n) (a7:=.str v.val.s) (a8:=.I v.steps) (gsm b) gins (by rw [List.length_drop];omega)
 rw [hin] at hdo hb
 have hnx : aEg m v fs0 f=rA m ⟨f.f,f.pc+1,f.loc,f.stk.take b⟩ (f.stk.drop b) (fs0.length+1) v.hp v.made v.out m.funcs[fi].code[pi]:=by
  simp only [aEg]
  rw [hin,hb]
 rw [← hnx] at hdo
 rw [← hsplit] at hdo
 refine aG hdo (λr hr=>?_)
 cases ha : aEg m v fs0 f with
 | trap c=>
   rw [ha] at hr
   obtain ⟨hc,hr⟩:=hr
   rw [hr]
   refine bQ (aO (λ_=>?_) (λh=>absurd (by simpa using h) hc))
   rw [← efr]
   refine aB8 z ?_
   refine fD ?_
   refine aX rfl ?_
   refine aL (by omega) ?_
   refine aX rfl (aB rfl)
 | next fr hp made out=>
   rw [ha] at hr
   have hr : r=_:=hr
   subst hr
   refine bQ (aO (λh=>absurd rfl h) (λ_=>aL (by omega) (aX rfl (aB ?_))))
   simp only [aF8,dD,List.map_append]
   rfl
 | call fr g=>
   rw [ha] at hr
   have hr : r=_:=hr
   subst hr
   refine bQ (aO (λh=>absurd rfl h) (λ_=>aL (by omega) (aX rfl (aB ?_))))
   simp only [aF8,dD,List.map_append,List.append_assoc]
   rfl
 | ret a=>
   rw [ha] at hr
   have hr : r=_:=hr
   by_cases hf : fs0 = []
   ·rw [if_pos hf] at hr
    subst hr
    refine bQ (aO (λh=>absurd rfl h) (λ_=>aL (by omega) (aX rfl (aB ?_))))
    simp only [aF8,if_pos hf,dD]
    rfl
   ·rw [if_neg hf] at hr
    subst hr
    refine bQ (aO (λh=>absurd rfl h) (λ_=>aL (by omega) (aX rfl (aB ?_))))
    simp only [aF8,if_neg hf,dD]
    rfl
theorem aLs {m : eN} {args : List cB} (hs : m.sized) (ha : ∀ v∈args,v.s.size≤2097152) (hn : args.length≤2097152) :
 Ok (λr=>r=rC (if rB m args then lT m args else vmZ) (rB m args)) (aC2 m.pv (aS args)):=by
 rw [aIf]
 have no : rB m args=false→Ok (λr=>r=rC (if rB m args then lT m args else vmZ) (rB m args)) (some (rC vmZ false)):=λh=>aB (by rw [h];rfl)
 refine aE rfl (aA rfl (aA rfl (aGl hs (bC ?_))))
 cases hg : aAz m with
 | false=>exact bB (no (by simp [rB,hg]))
 | true=>
   have g:=aAg hs hg
   obtain ⟨f1,f2,ff⟩:=g.fit
   have h0 : (0 : Int)≤0∧(0 : Int)<m.funcs.length:=by omega
   obtain ⟨i0,hi0,he,hc,F,p1,p2,p3,p4,hlc,hpar,hins⟩:=g.code h0
   refine aT (aD (sF h0 (aA rfl (bQ (aO (λh=>no (by simp [rB,h])) (λhpn=>?_))))))
   have e0 : rB m args=args.all (cD m.funcs.length 0):=by simp [rB,hg,hpn]
   have loop : ∀ i,i≤args.length→Ok (λr=>r=rC (if (args.drop i).all (cD m.funcs.length 0) then lT m args else vmZ) ((args.drop i).all (cD m.funcs.length 0)))
    (oX (aS args) (.I i) (.lst (m.texts.map PV.str)) (.lst (m.funcs.map dA.pv)) (.I 0) (.I 0) (.I 0) (.I 0) (.I 0) (.str (bs [])) (.I 0) (.lst []) (.lst []) (.lst [])):=by
    refine cH (n:=args.length) (F:=λi=>oX (aS args) (.I i) (.lst (m.texts.map PV.str)) (.lst (m.funcs.map dA.pv)) (.I 0) (.I 0) (.I 0) (.I 0) (.I 0) (.str (bs [])) (.I 0) (.lst []) (.lst []) (.lst []))
     (P:=λi r=>r=rC (if (args.drop i).all (cD m.funcs.length 0) then lT m args else vmZ) ((args.drop i).all (cD m.funcs.length 0))) ?_ (λi hi ih=>?_)
    ·rw [yS,List.drop_length]
     obtain ⟨n,hn0⟩:=Int.eq_ofNat_of_zero_le (show 0≤aEf m.funcs 0 by omega)
     refine aD (aH ?_)
     rw [decide_eq_false (by omega)]
     refine aT (sF h0 (aA rfl ?_))
     rw [hn0]
     refine aB5 (by omega) (by omega) (fE ?_)
     rw [decide_eq_true (Int.le_refl _)]
     refine bB (aB5 (by omega) (by omega) ?_)
     rw [Int.toNat_natCast]
     have hle : args.length≤n:=by omega
     have inner : ∀ i,i≤args.length→Ok (λr=>r=rC (lT m args) true) (nM (aS args) (.I i) (.I 0) (.I 0) (.I 0) (.I 0) (.I 0) (.str (bs [])) (.I 0) (.I 0) (.I 0) (.lst []) (.lst []) (.lst []) (aS (args.take i++List.replicate (n - i) dO)) (.lst [])):=by
      refine cH (n:=args.length) (F:=λi=>nM (aS args) (.I i) (.I 0) (.I 0) (.I 0) (.I 0) (.I 0) (.str (bs [])) (.I 0) (.I 0) (.I 0) (.lst []) (.lst []) (.lst []) (aS (args.take i++List.replicate (n - i) dO)) (.lst []))
       (P:=λ_ r=>r=rC (lT m args) true) ?_ (λi hi ih=>?_)
      ·rw [xE,List.take_length]
       refine aD (aH ?_)
       rw [decide_eq_false (by omega)]
       refine aT (aB ?_)
       have : (aAK m.funcs 0 args)=⟨0,0,args++List.replicate (n - args.length) dO,[]⟩:=by unfold aAK;rw [hn0,Int.toNat_natCast]
       unfold lT rC
       rw [this];rfl
      ·rw [xE]
       refine aD (aH ?_)
       rw [decide_eq_true (by omega)]
       have hlen : (args.take i++List.replicate (n - i) dO).length=n:=by simp;omega
       refine bB (aK hi (λ_=>rfl) (iV (by omega) (by omega) (xG (by omega) (by omega) (aL (by omega) ?_))))
       have : (args.take i++List.replicate (n - i) dO).set (i : Int).toNat args[i]=args.take (i+1)++List.replicate (n - (i+1)) dO:=by
        rw [Int.toNat_natCast,List.set_append_right _ _ (by simp;omega)]
        rw [show List.replicate (n - i) dO=dO::List.replicate (n - (i+1)) dO by rw [show n - i=(n - (i+1))+1 by omega,List.replicate_succ]]
        have : i - (args.take i).length=0:=by simp;omega
        rw [this,List.set_cons_zero,List.take_add_one,List.getElem?_eq_getElem hi,Option.toList_some,List.append_assoc];rfl
       rw [this]
       exact ih
     have:=inner 0 (by omega)
     simpa using this
    ·rw [yS]
     have:=ha _ (List.getElem_mem hi)
     have hfl:=hs.2.1
     refine aD (aH ?_)
     rw [decide_eq_true (by omega)]
     refine bB (aK hi (λ_=>rfl) (aG (vY (v:=args[i]) hfl (by omega)) (λr hr=>?_)))
     subst hr
     have ed : args.drop i=args[i]::args.drop (i+1):=List.drop_eq_getElem_cons hi
     refine bC ?_
     cases hv : cD m.funcs.length 0 args[i] with
     | false=>
       refine bB (aB ?_)
       rw [ed,List.all_cons,hv];rfl
     | true=>
       refine aT (aL (by omega) ?_)
       rw [ed,List.all_cons,hv,Bool.true_and]
       exact ih
   have:=loop 0 (by omega)
   rw [List.drop_zero,← e0] at this
   exact this
theorem aBK {m : eN} (g : eO m) {n : Nat} (hn : n≤50000) {a0 a1 a2 a3 a4 a5 a6 b0 b1 b2 : PV} : ∀ (j i : Nat) (v : eA),i+j=n→VmI m v→v.steps≤i→
 Ok (λr=>r=dD (aLo m j v)) (wS (.I n) (.I i) (.lst (m.texts.map PV.str)) (.lst (m.funcs.map dA.pv)) a0 a1 a2 a3 a4 a5 a6 (.I v.made) (.I v.st) (.I v.tr) (.I v.val.k) (.I v.val.n) (.str v.val.s) (.I v.steps) b0 b1 b2 (.lst (v.fr.map bT.pv)) (.lst (v.hp.map aR)) (.lst (v.out.map PV.str)))
 | 0,i,v,hi,I,hv=>by
   rw [aBo]
   refine aH (aC (λh=>by omega) (λ_=>aB ?_))
   rfl
 | j+1,i,v,hi,I,hv=>by
   rw [aBo]
   refine aH (aC (λ_=>?_) (λh=>by omega))
   refine aI (aC (λh0=>?_) (λh0=>aB ?_))
   ·refine aG (aMH (I.sz g) I.steps (λh _=>I.goes g h)) (λr hr=>?_)
    rw [hr]
    refine fD (aL (by omega) ?_)
    have:=aLp (m:=m) I.steps.2
    exact aBK g hn j (i+1) (pC m v) (by omega) (I.step g) (by omega)
   ·rw [aI5 h0];rfl
theorem aOt {m : eN} {args : List cB} {fuel : Int} (hs : m.sized) (ha : ∀ v∈args,v.s.size≤2097152) (hn : args.length≤2097152) :
 Ok (λr=>r=dD (aHE m args fuel)) (aHc m.pv (aS args) (.I fuel)):=by
 rw [aKZ]
 refine aE rfl (aA rfl (aA rfl (aG (aLs hs ha hn) (λr hr=>?_))))
 rw [hr]
 have no : aJ1 m args fuel=false→Ok (λr=>r=dD (aHE m args fuel)) (some (dD vmZ)):=λh=>aB (by unfold aHE;rw [h];rfl)
 refine aMG (bC ?_)
 cases hb : rB m args with
 | false=>exact bB (no (by simp [aJ1,hb]))
 | true=>
   refine aT (dV (bC ?_))
   cases hf : lV fuel 0 50000 with
   | false=>exact bB (no (by simp [aJ1,hf]))
   | true=>
     obtain ⟨g,I⟩:=aI6 hs hb
     have hf':=hf
     simp only [lV,Bool.and_eq_true,decide_eq_true_eq] at hf'
     obtain ⟨n,rfl⟩:=Int.eq_ofNat_of_zero_le hf'.1
     have : aHE m args n=aLo m n (lT m args):=by unfold aHE aJ1;rw [hb,hf];rfl
     rw [this]
     exact aT (aBK g (by omega) n 0 (lT m args) (by omega) I (Int.le_refl _))
end
theorem aPk {a b : ByteArray} (h : jS a b=true) : a=b:=by
 unfold jS at h
 rw [ByteArray.toList_eq,ByteArray.toList_eq,beq_iff_eq] at h
 cases a;cases b
 simpa using h
theorem aRr {v : cB} (h : (decide (v.k=dO.k)&&(decide (v.n=dO.n)&&jS v.s dO.s))=true) : v=dO:=by
 simp only [Bool.and_eq_true,decide_eq_true_eq] at h
 cases v
 obtain ⟨h1,h2,h3⟩:=h
 cases h1;cases h2;cases aPk h3
 rfl
section
variable {P : R → Prop} {m : eN}
theorem aPl {a b : cB} {k : PV→OR} (h : Ok P (k (.bool (!(decide (a.k=b.k)&&(decide (a.n=b.n)&&jS a.s b.s)))))) : Ok P (bd (PV.ceq [1,1,2] .neq (.agg [.I a.k,.I a.n,.str a.s]) (.agg [.I b.k,.I b.n,.str b.s])) k):=
 dP _ (by simp [PV.ceq,PV.eqCells,PV.eqScalar,PV.eqOr,jS];rfl) h
def tC (B : Prop) (r : R) : Prop:=∃ b,r = [.bool b]∧(b=true→B)
theorem no {B : Prop} : Ok (tC B) (some [.bool false]):=aB ⟨false,rfl,λh=>by cases h⟩
theorem yes {B : Prop} {b : Bool} (h : b=true→B) : Ok (tC B) (some [.bool b]):=aB ⟨b,rfl,h⟩
theorem aAi {o : OR} {A B : Prop} {x : OR} (ho : Ok (tC A) o) (hx : A→Ok (tC B) x) : Ok (tC B) (bd o λr=>bd (PV.not (hd r)) λv=>PV.ite v (some [.bool false]) x):=
 aG ho (λr hr=>by
  obtain ⟨b,rfl,hb⟩:=hr
  refine bC ?_
  cases b with
  | false=>exact bB no
  | true=>exact aT (hx (hb rfl)))
theorem aHI {l : List cB} {n : Nat} (hf : m.funcs.length≤1000) (hl : l.length≤2097152) (hs : ∀ y∈l,y.s.size≤2097152) : Ok (tC (∀ y∈l,lE m n y)) (lK m.pv (aS l) (.I n)):=by
 rw [wY]
 refine aE rfl (aA rfl (aA rfl ?_))
 have key:=cH (n:=l.length) (F:=λi=>kD (aS l) (.I n) (.I i) (.lst (m.texts.map PV.str)) (.lst (m.funcs.map dA.pv))) (P:=λi=>tC (∀ y∈l.drop i,lE m n y)) ?_ (λi hi ih=>?_) 0 (by omega)
 ·exact key
 ·rw [kH]
  exact aY (aH (aC (λh=>by omega) (λ_=>yes λ_ y hy=>by rw [List.drop_length] at hy;cases hy)))
 ·rw [kH]
  refine aY (aH (aC (λ_=>?_) (λh=>by omega)))
  refine aK hi (λ_=>rfl) (aAi (A:=lE m n l[i]) ?_ (λha=>aL (by omega) (ih.mono ?_)))
  ·exact (vY (T:=(.lst (m.texts.map PV.str))) (fs:=m.funcs) (v:=l[i]) (recs:=n) (by omega) (hs _ (List.getElem_mem hi))).mono (λr hr=>⟨_,hr,λh=>h⟩)
  ·rintro r ⟨b,rfl,hb⟩
   refine ⟨b,rfl,λh y hy=>?_⟩
   rw [List.drop_eq_getElem_cons hi] at hy
   rcases List.mem_cons.1 hy with rfl | hy
   ·exact ha
   ·exact hb h y hy
theorem aPm (g : eO m) {n : Nat} {f : bT} {top : Bool} (hs : f.loc.length≤2097152∧f.stk.length≤2097152) (hz : ∀ y∈f.loc++f.stk,y.s.size≤2097152) :
 Ok (tC ((top=true→aIp m n f)∧(top=false→aGa m n f))) (pF m.pv f.pv (.I n) (.bool top)):=by
 obtain ⟨f1,f2,ff⟩:=g.fit
 rw [vO]
 refine aE rfl (aA rfl (aA rfl (aE rfl (aA rfl (aA rfl (aA rfl (aA rfl (aD (bF (by omega) (dV (bC (aQ (λ_=>no) (λhb=>?_)))))))))))))
 have hf : 0≤f.f∧f.f<m.funcs.length:=by
  have : lV f.f 0 ((m.funcs.length : Int) - 1)=true:=by simpa using hb
  rw [bH] at this
  omega
 obtain ⟨i,hi,he,hc,F,_⟩:=g.code hf
 have nc:=F.n2
 rw [← hc] at nc
 have hdep : Ok (λr=>r = [bD (kR m.funcs (dE m.funcs f.f))]) (lM m.pv (.I f.f)):=by
  rw [hc,he]
  exact aBy F hi rfl
 refine sF hf (aE rfl (aA rfl (aA rfl (aA rfl (aG hdep (λr hr=>?_))))))
 rw [hr]
 refine aY (bQ (aO (λ_=>no) (λhloc=>aD (bF (by omega) (dV (bC (aQ (λ_=>no) (λhb=>?_))))))))
 have hpc : 0≤f.pc∧f.pc<(dE m.funcs f.f).length:=by
  have : lV f.pc 0 (((dE m.funcs f.f).length : Int) - 1)=true:=by simpa using hb
  rw [bH] at this
  omega
 refine iB g hf hpc (aH (aC (λ_=>no) (λhd=>?_)))
 refine aAi (aHI (by omega) hs.1 (λy hy=>hz y (List.mem_append_left _ hy))) (λhvl=>aAi (aHI (by omega) hs.2 (λy hy=>hz y (List.mem_append_right _ hy))) (λhvs=>?_))
 have I : FrI m n f:=⟨hf,hpc,hloc,by omega,hvl,hvs⟩
 have dl:=I.dle g
 cases top with
 | true=>exact bB (aY (iB g hf hpc (aI (yes λh=>⟨λ_=>⟨I,of_decide_eq_true h⟩,λh=>by cases h⟩))))
 | false=>
   refine aT (aH (aC (λ_=>no) (λh1=>bF (by omega) (iB g hf (by omega) (aH (aC (λ_=>no) (λh2=>bF (by omega) ?_)))))))
   have hin : ((dE m.funcs f.f).map cK.pv)[(f.pc - 1).toNat]? = some (tB m f.f (f.pc - 1)).pv:=by
    rw [List.getElem?_map]
    unfold tB
    rw [List.getElem?_eq_getElem (by omega)];rfl
   refine rO (by omega) hin rfl (aA rfl (aI (aC (λh3=>?_) (λ_=>aI (aC (λh3=>?_) (λ_=>no))))))
   ·exact aY (iB g hf hpc (bF (by omega) (aI (yes λh=>⟨λh=>(by cases h),λ_=>⟨I,⟨by omega,by omega,.inl h3⟩,of_decide_eq_true h⟩⟩))))
   ·exact aY (iB g hf hpc (bF (by omega) (aI (yes λh=>⟨λh=>(by cases h),λ_=>⟨I,⟨by omega,by omega,.inr h3⟩,of_decide_eq_true h⟩⟩))))
def yY (m : eN) (n : Nat) (l : List bT) (i : Nat) : Prop:=∀ j (hj : j<l.length),i≤j→((j : Int)=(l.length : Int) - 1→aIp m n l[j])∧(¬ (j : Int)=(l.length : Int) - 1→aGa m n l[j])
theorem yY.top {n : Nat} {l : List bT} (h : yY m n l 0) (fs0 : List bT) (f : bT) (e : l=fs0++[f]) : aIp m n f∧∀ g∈fs0,aGa m n g:=by
 subst e
 constructor
 ·have:=(h fs0.length (by simp) (by omega)).1 (by simp)
  simpa using this
 ·intro g hg
  obtain ⟨j,hj,rfl⟩:=List.getElem_of_mem hg
  have:=(h j (by simp;omega) (by omega)).2 (by simp;omega)
  rw [List.getElem_append_left hj] at this
  exact this
structure eA.fine (v : eA) : Prop extends v.few where
 val : v.val.s.size≤2097152
 outs : ∀ s∈v.out,s.size≤2097152
 frs : ∀ f∈v.fr,∀ y∈f.loc++f.stk,y.s.size≤2097152
 hps : ∀ r∈v.hp,∀ y∈r,y.s.size≤2097152
theorem aPn (g : eO m) {v : eA} (h : v.fine) : Ok (tC (yY m v.hp.length v.fr 0)) (bO (.I v.hp.length) (.I 0) (.lst (m.texts.map PV.str)) (.lst (m.funcs.map dA.pv)) (.lst (v.fr.map bT.pv)) (.lst (v.hp.map aR)) (.I v.made) (.lst (v.out.map PV.str)) (.I v.st) (.I v.tr) (.I v.val.k) (.I v.val.n) (.str v.val.s) (.I v.steps)):=by
 have zf:=h.f
 refine cH (n:=v.fr.length) (F:=λi=>bO (.I v.hp.length) (.I i) (.lst (m.texts.map PV.str)) (.lst (m.funcs.map dA.pv)) (.lst (v.fr.map bT.pv)) (.lst (v.hp.map aR)) (.I v.made) (.lst (v.out.map PV.str)) (.I v.st) (.I v.tr) (.I v.val.k) (.I v.val.n) (.str v.val.s) (.I v.steps)) (P:=λi=>tC (yY m v.hp.length v.fr i)) ?_ (λi hi ih=>?_) 0 (by omega)
 ·rw [lC]
  exact aD (aH (aC (λh=>by omega) (λ_=>yes λ_ j hj hij=>by omega)))
 ·rw [lC]
  refine aD (aH (aC (λ_=>?_) (λh=>by omega)))
  refine aK hi (λ_=>rfl) (aD (bF (by omega) (aI ?_)))
  refine aAi (aPm g (n:=v.hp.length) (f:=v.fr[i]) (h.fl _ (List.getElem_mem hi)) (h.frs _ (List.getElem_mem hi))) (λhA=>aL (by omega) (ih.mono ?_))
  rintro r ⟨b,rfl,hb⟩
  refine ⟨b,rfl,λht j hj hij=>?_⟩
  by_cases e : i=j
  ·subst e
   exact ⟨λe=>hA.1 (decide_eq_true e),λe=>hA.2 (decide_eq_false e)⟩
  ·exact hb ht j hj (by omega)
def aEn (v : eA) : Prop:=(v.st=0∧v.tr=0∧v.val=dO∧1≤v.fr.length∧v.fr.length≤24)∨(v.st=2∧1≤v.tr∧v.tr≤8∧v.val=dO∧1≤v.fr.length∧v.fr.length≤24)∨(v.st=1∧v.tr=0∧v.fr = [])
theorem aPo {v : eA} (h1 : v.hp.length≤v.made∧v.made≤120) (h2 : v.out.length≤200) (h3 : 0≤v.steps∧v.steps≤50000) (h4 : lE m v.hp.length v.val) (h5 : ∀ r∈v.hp,r.length≤6∧∀ y∈r,lE m v.hp.length y)
 (h6 : ∀ s∈v.out,dC s=true) (h7 : aEn v) (h8 : yY m v.hp.length v.fr 0) : VmK m v:=by
 refine ⟨⟨⟨h1,h5,h2⟩,h3,?_,?_,h8.top⟩,h6,h4,?_⟩
 ·rcases h7 with h | h | h
  ·omega
  ·omega
  ·rw [h.2.2];simp
 ·intro h0
  rcases h7 with h | h | h
  ·intro e;rw [e] at h;simp at h
  ·omega
  ·omega
 ·rcases h7 with h | h | h
  ·exact .inl ⟨h.1,h.2.1,h.2.2.1⟩
  ·refine .inr (.inl ⟨h.1,h.2.1,h.2.2.1,h.2.2.2.1,λe=>?_⟩)
   rw [e] at h;simp at h
  ·exact .inr (.inr h)
end
section
variable {P : R → Prop} {m : eN}
def aBL (m : eN) (v : eA) : Prop:=eO m∧VmK m v
theorem aHJ {o : OR} {A B : Prop} {x : R→OR} (ho : Ok (tC A) o) (hx : ∀ b,(b=true→A)→Ok (tC B) (x [.bool b])) : Ok (tC B) (bd o x):=
 aG ho (λr hr=>by obtain ⟨b,rfl,hb⟩:=hr;exact hx b hb)
theorem aQ4 (g : eO m) {v : eA} (h : v.fine) (hk : (∀ s∈v.out,dC s=true)→aEn v→yY m v.hp.length v.fr 0→VmK m v) : Ok (tC (VmK m v)) (fL (.I v.hp.length) (.I 0) (.lst (m.texts.map PV.str)) (.lst (m.funcs.map dA.pv)) (.lst (v.fr.map bT.pv)) (.lst (v.hp.map aR)) (.I v.made) (.lst (v.out.map PV.str)) (.I v.st) (.I v.tr) (.I v.val.k) (.I v.val.n) (.str v.val.s) (.I v.steps)):=by
 have zo:=h.o
 have zf:=h.f
 have key : Ok (tC ((∀ s∈v.out.drop 0,dC s=true)∧aEn v∧yY m v.hp.length v.fr 0)) (fL (.I v.hp.length) (.I 0) (.lst (m.texts.map PV.str)) (.lst (m.funcs.map dA.pv)) (.lst (v.fr.map bT.pv)) (.lst (v.hp.map aR)) (.I v.made) (.lst (v.out.map PV.str)) (.I v.st) (.I v.tr) (.I v.val.k) (.I v.val.n) (.str v.val.s) (.I v.steps)):=by
  refine cH (n:=v.out.length) (F:=λi=>fL (.I v.hp.length) (.I i) (.lst (m.texts.map PV.str)) (.lst (m.funcs.map dA.pv)) (.lst (v.fr.map bT.pv)) (.lst (v.hp.map aR)) (.I v.made) (.lst (v.out.map PV.str)) (.I v.st) (.I v.tr) (.I v.val.k) (.I v.val.n) (.str v.val.s) (.I v.steps)) (P:=λi=>tC ((∀ s∈v.out.drop i,dC s=true)∧aEn v∧yY m v.hp.length v.fr 0)) ?_ (λi hi ih=>?_) 0 (by omega)
  ·rw [lB]
   have hnil : ∀ s∈v.out.drop v.out.length,dC s=true:=λs hs=>by rw [List.drop_length] at hs;cases hs
   have frames : aEn v→Ok (tC ((∀ s∈v.out.drop v.out.length,dC s=true)∧aEn v∧yY m v.hp.length v.fr 0)) (bO (.I v.hp.length) (.I 0) (.lst (m.texts.map PV.str)) (.lst (m.funcs.map dA.pv)) (.lst (v.fr.map bT.pv)) (.lst (v.hp.map aR)) (.I v.made) (.lst (v.out.map PV.str)) (.I v.st) (.I v.tr) (.I v.val.k) (.I v.val.n) (.str v.val.s) (.I v.steps)):=λhe=>by
    refine (aPn g h).mono ?_
    rintro r ⟨b,rfl,hb⟩
    exact ⟨b,rfl,λhb'=>⟨hnil,he,hb hb'⟩⟩
   refine aD (aH (aC (λh=>by omega) (λ_=>?_)))
   refine aI (aC (λh1=>aD (aI (aC (λh2=>aI (yes λh3=>?_)) (λ_=>no)))) (λh1=>?_))
   ·have e : v.fr = []:=List.length_eq_zero_iff.1 (by omega)
    exact ⟨hnil,.inr (.inr ⟨h1,of_decide_eq_true h3,e⟩),λj hj _=>by rw [e] at hj;simp at hj⟩
   ·have rest : v.st=0∨v.st=2→Ok (tC ((∀ s∈v.out.drop v.out.length,dC s=true)∧aEn v∧yY m v.hp.length v.fr 0))
     (bd (PV.ceq [1,1,2] .neq (.agg [.I v.val.k,.I v.val.n,.str v.val.s]) (.agg [(.I 0),(.I 0),(.str (bs []))])) λv589=>
     PV.ite v589
      (some [(.bool false)])
      (bd (PV.len (.lst (v.fr.map bT.pv))) λv590=>
      bd (aM v590 (.I 1) (.I 24)) λr591=>
      bd (PV.not (hd r591)) λv592=>
      PV.ite v592
       (some [(.bool false)])
       (bd (PV.bin .eql (.I v.st) (.I 0)) λv593=>
       PV.ite v593
        (bd (PV.bin .neq (.I v.tr) (.I 0)) λv594=>
        PV.ite v594
         (some [(.bool false)])
         (bd (PV.bin .eql (.I v.st) (.I 2)) λv595=>
         PV.ite v595
          (bd (aM (.I v.tr) (.I 1) (.I 8)) λr596=>
          bd (PV.not (hd r596)) λv597=>
          PV.ite v597
           (some [(.bool false)])
           (bO (.I v.hp.length) (.I 0) (.lst (m.texts.map PV.str)) (.lst (m.funcs.map dA.pv)) (.lst (v.fr.map bT.pv)) (.lst (v.hp.map aR)) (.I v.made) (.lst (v.out.map PV.str)) (.I v.st) (.I v.tr) (.I v.val.k) (.I v.val.n) (.str v.val.s) (.I v.steps)))
          (bO (.I v.hp.length) (.I 0) (.lst (m.texts.map PV.str)) (.lst (m.funcs.map dA.pv)) (.lst (v.fr.map bT.pv)) (.lst (v.hp.map aR)) (.I v.made) (.lst (v.out.map PV.str)) (.I v.st) (.I v.tr) (.I v.val.k) (.I v.val.n) (.str v.val.s) (.I v.steps))))
        (bd (PV.bin .eql (.I v.st) (.I 2)) λv598=>
        PV.ite v598
         (bd (aM (.I v.tr) (.I 1) (.I 8)) λr599=>
         bd (PV.not (hd r599)) λv600=>
         PV.ite v600
          (some [(.bool false)])
          (bO (.I v.hp.length) (.I 0) (.lst (m.texts.map PV.str)) (.lst (m.funcs.map dA.pv)) (.lst (v.fr.map bT.pv)) (.lst (v.hp.map aR)) (.I v.made) (.lst (v.out.map PV.str)) (.I v.st) (.I v.tr) (.I v.val.k) (.I v.val.n) (.str v.val.s) (.I v.steps)))
         (bO (.I v.hp.length) (.I 0) (.lst (m.texts.map PV.str)) (.lst (m.funcs.map dA.pv)) (.lst (v.fr.map bT.pv)) (.lst (v.hp.map aR)) (.I v.made) (.lst (v.out.map PV.str)) (.I v.st) (.I v.tr) (.I v.val.k) (.I v.val.n) (.str v.val.s) (.I v.steps)))))):=λhst=>by
     refine aPl (a:=v.val) (b:=dO) (aQ (λ_=>no) (λhv=>aD (dV (bC (aQ (λ_=>no) (λhn=>?_))))))
     have hv : v.val=dO:=aRr (by simpa using hv)
     have hn : lV (v.fr.length : Int) 1 24=true:=by simpa using hn
     rw [bH] at hn
     refine aI (aC (λh0=>bQ (aO (λ_=>no) (λht=>aI (aC (λh2=>by omega) (λ_=>frames (.inl ⟨h0,ht,hv,by omega,by omega⟩)))))) (λh0=>aI (aC (λh2=>dV (bC (aQ (λ_=>no) (λht=>?_)))) (λh2=>by omega))))
     have ht : lV v.tr 1 8=true:=by simpa using ht
     rw [bH] at ht
     exact frames (.inr (.inl ⟨h2,ht.1,ht.2,hv,by omega,by omega⟩))
    refine bQ (aO (λh0=>bQ (aO (λ_=>no) (λh2=>rest (.inr h2)))) (λh0=>rest (.inl h0)))
  ·rw [lB]
   refine aD (aH (aC (λ_=>?_) (λh=>by omega)))
   refine aK hi (λ_=>rfl) (aGg (s:=v.out[i]) (h.outs _ (List.getElem_mem hi)) (bC (aQ (λ_=>no) (λht=>aL (by omega) (ih.mono ?_)))))
   rintro r ⟨b,rfl,hb⟩
   refine ⟨b,rfl,λhb'=>⟨λs hs=>?_,(hb hb').2⟩⟩
   rw [List.drop_eq_getElem_cons hi] at hs
   rcases List.mem_cons.1 hs with rfl | hs
   ·simpa using ht
   ·exact (hb hb').1 s hs
 refine key.mono ?_
 rintro r ⟨b,rfl,hb⟩
 exact ⟨b,rfl,λh=>hk (hb h).1 (hb h).2.1 (hb h).2.2⟩
theorem aLt (hs : m.sized) {v : eA} (h : v.fine) : Ok (tC (aBL m v)) (rU m.pv v.pv):=by
 rw [aDS]
 refine aE rfl (aA rfl (aA rfl ?_))
 refine aE rfl (aA rfl (aA rfl (aA rfl (aA rfl (aA rfl (aA rfl (aA rfl (aA rfl (aA rfl (aA rfl (aGl hs (aQ (λhg=>?_) (λ_=>no)))))))))))))
 have g:=aAg hs hg
 have hfn:=g.fit.2.1
 refine aHJ (A:=VmK m v) ?_ (λb hb=>yes λh=>⟨g,hb h⟩)
 rw [aAx]
 refine aE rfl (aA rfl (aA rfl ?_))
 refine aE rfl (aA rfl (aA rfl (aA rfl (aA rfl (aA rfl (aA rfl (aA rfl (aA rfl (aA rfl (aA rfl (?_)))))))))))
 refine aD (cN (aC (λ_=>no) (λh1=>dV (bC (aQ (λ_=>no) (λh2=>?_))))))
 refine aD (cN (aC (λ_=>no) (λh3=>dV (bC (aQ (λ_=>no) (λh4=>?_))))))
 have h2 : lV v.made v.hp.length 120=true:=by simpa using h2
 have h4 : lV v.steps 0 50000=true:=by simpa using h4
 rw [bH] at h2 h4
 refine aAi (A:=lE m v.hp.length v.val) ((vY (T:=(.lst (m.texts.map PV.str))) (fs:=m.funcs) (v:=v.val) (recs:=v.hp.length) (by omega) h.val).mono (λr hr=>⟨_,hr,λh=>h⟩)) (λh5=>?_)
 have key : Ok (tC (VmK m v)) (jV (.I v.hp.length) (.I 0) (.lst (m.texts.map PV.str)) (.lst (m.funcs.map dA.pv)) (.lst (v.fr.map bT.pv)) (.lst (v.hp.map aR)) (.I v.made) (.lst (v.out.map PV.str)) (.I v.st) (.I v.tr) (.I v.val.k) (.I v.val.n) (.str v.val.s) (.I v.steps)):=by
  have up : ∀ (j i : Nat),v.hp.length - i=j→i≤v.hp.length→(∀ r∈v.hp.take i,r.length≤6∧∀ y∈r,lE m v.hp.length y)→Ok (tC (VmK m v)) (jV (.I v.hp.length) (.I i) (.lst (m.texts.map PV.str)) (.lst (m.funcs.map dA.pv)) (.lst (v.fr.map bT.pv)) (.lst (v.hp.map aR)) (.I v.made) (.lst (v.out.map PV.str)) (.I v.st) (.I v.tr) (.I v.val.k) (.I v.val.n) (.str v.val.s) (.I v.steps)):=by
   intro j
   induction j with
   | zero=>
     intro i hj hi hr
     have : i=v.hp.length:=by omega
     subst this
     rw [List.take_length] at hr
     rw [mD]
     exact aH (aC (λh=>by omega) (λ_=>aQ4 g h (λh6 h7 h8=>aPo (by omega) (by omega) (by omega) h5 hr h6 h7 h8)))
   | succ j ih=>
     intro i hj hi hr
     have hi' : i<v.hp.length:=by omega
     rw [mD]
     refine aH (aC (λ_=>?_) (λh=>by omega))
     refine aK hi' (λ_=>rfl) (aA rfl (aY (cN (aC (λ_=>no) (λh6=>?_)))))
     refine aK hi' (λ_=>rfl) (aA rfl (aAi (aHI (by omega) (by omega) (h.hps _ (List.getElem_mem hi'))) (λhv=>aL (by omega) (ih (i+1) (by omega) (by omega) (λr hr'=>?_)))))
     rw [List.take_add_one,List.getElem?_eq_getElem hi',Option.toList_some] at hr'
     rcases List.mem_append.1 hr' with hr' | hr'
     ·exact hr r hr'
     ·rw [List.mem_singleton] at hr'
      subst hr'
      exact ⟨by omega,hv⟩
  exact up _ 0 rfl (by omega) (λr hr=>by simp at hr)
 exact key
open Classical in
theorem aBM (hs : m.sized) {v : eA} (h : v.fine) : Ok (λr=>r = [.bool (decide (aBL m v))]) (rU m.pv v.pv):=by
 obtain ⟨r,e,b,rfl,hb⟩:=(aLt hs h)
 by_cases hk : aBL m v
 ·have:=aJ4 hk.1 hk.2
  rw [decide_eq_true hk];exact this
 ·refine ⟨_,e,?_⟩
  rw [decide_eq_false hk]
  cases b with
  | false=>rfl
  | true=>exact absurd (hb rfl) hk
end
end
noncomputable section
open Go Go.IntWalk
theorem aQ5 (v : cB) (x N L : PV) : mV v.pv x N L=gM (.I v.k) (.I v.n) (.str v.s) x N L:=by
 rw [yA,rL];rfl
attribute [local irreducible] bd PV.ite PV.guardFlat PV.guardOwn PV.whole PV.one PV.cell PV.sub PV.at_ PV.len PV.slen PV.chr PV.beq PV.peq PV.ceq PV.bin PV.neg PV.not PV.conv PV.cut PV.scut PV.cat PV.setAt PV.setCell PV.ncopy PV.copyIn PV.zeros PV.toStr PV.toBytes PV.deref PV.isPtr PV.comp PV.inb PV.off PV.imin PV.imax PV.sel PV.apply PV.isLst PV.isInt PV.ix PV.nilT
def rD (N : List Int) (i : Int) : Int:=N[i.toNat]?.getD 0
def iX (N L : List Int) (v : cB) : cB × List Int × List Int:=
 if v.k≠4 then (v,N,L) else if rD N v.n<0 then (⟨v.k,L.length,v.s⟩,N.set v.n.toNat L.length,L++[v.n]) else (⟨v.k,rD N v.n,v.s⟩,N,L)
def eP (N L : List Int) : List cB→List cB × List Int × List Int
 | []=>([],N,L)
 | v::r=>((iX N L v).1::(eP (iX N L v).2.1 (iX N L v).2.2 r).1,(eP (iX N L v).2.1 (iX N L v).2.2 r).2)
theorem aOu (N L : List Int) (v : cB) : (iX N L v).2.1.length=N.length∧(iX N L v).2.2.length≤L.length+1:=by
 unfold iX;split
 ·exact ⟨rfl,by simp⟩
 ·split
  ·exact ⟨by simp,by simp⟩
  ·exact ⟨rfl,by simp⟩
section
variable {P : R → Prop} {k : R → OR} {T : PV}
theorem aPp {N : List Int} {x L : PV} {a b c : PV} {q n : Int} {s : ByteArray} (h0 : 0≤n∧n<N.length) (h : Ok P (k [.agg [.I q,.I (rD N n),.str s],x,bD N,L])) : Ok P (bd (dJ x (.I q) (.I n) (.str s) a b c (bD N) L) k):=by
 refine aG (Q:=λr=>r = [.agg [.I q,.I (rD N n),.str s],x,bD N,L]) ?_ (λr hr=>by rw [hr];exact h)
 rw [xZ]
 refine dR h0.1 (by omega) (kM h0.1 h0.2 (λz hz=>aX rfl (aB ?_)))
 unfold rD;rw [hz];rfl
theorem aEo {N L : List Int} {v : cB} {x : PV} (hv : aBG N.length v) (hL : L.length≤1000000) : Ok (λr=>r = [(iX N L v).1.pv,x,bD (iX N L v).2.1,bD (iX N L v).2.2]) (gM (.I v.k) (.I v.n) (.str v.s) x (bD N) (bD L)):=by
 rw [rL]
 refine bQ (aO (λh=>aB ?_) (λh=>?_))
 ·unfold iX;rw [if_pos h];rfl
 have h : v.k=4:=h
 obtain ⟨h0,h1⟩:=hv h
 refine dR h0 h1 (kM h0 h1 (λz hz=>aH (aC (λhneg=>?_) (λhneg=>?_))))
 ·have hg : rD N v.n<0:=by unfold rD;rw [hz];exact hneg
  obtain ⟨i,hi⟩:=Int.eq_ofNat_of_zero_le h0
  have e : iX N L v=(⟨v.k,L.length,v.s⟩,N.set v.n.toNat L.length,L++[v.n]):=by unfold iX;rw [if_neg (by omega),if_pos hg]
  rw [e,hi]
  refine cX (dR (by omega) (by omega) (sY (by omega) (dZ (l:=[]) (ys:=[(i : Int)]) (by simp) (dZ (ys:=[(i : Int)]) (by simp;omega) ?_))))
  have:=aPp (P:=λr=>r = [.agg [.I v.k,.I (rD (N.set i L.length) i),.str v.s],x,bD (N.set i L.length),bD (L++[(i : Int)])]) (k:=λr=>some r) (N:=N.set i L.length) (x:=x) (L:=bD (L++[(i : Int)])) (a:=.I 0) (b:=.I 0) (c:=.str (bs [])) (q:=v.k) (n:=i) (s:=v.s) ⟨by omega,by simp;omega⟩ (aB rfl)
  have e2 : rD (N.set i L.length) i=L.length:=by
   unfold rD
   rw [Int.toNat_natCast,List.getElem?_set_self (by omega)];rfl
  rw [e2] at this
  rw [Int.toNat_natCast]
  obtain ⟨r,hr,hp⟩:=this
  cases hq : dJ x (.I v.k) (.I i) (.str v.s) (.I 0) (.I 0) (.str (bs [])) (bD (N.set i L.length)) (bD (L++[(i : Int)])) with
  | none=>rw [hq] at hr;exact (by unfold bd at hr;cases hr)
  | some y=>rw [hq] at hr;unfold bd at hr;cases hr;exact ⟨_,rfl,hp⟩
 ·have hg : ¬ rD N v.n<0:=by unfold rD;rw [hz];exact hneg
  have e : iX N L v=(⟨v.k,rD N v.n,v.s⟩,N,L):=by unfold iX;rw [if_neg (by omega),if_neg hg]
  rw [e]
  have:=aPp (P:=λr=>r = [.agg [.I v.k,.I (rD N v.n),.str v.s],x,bD N,bD L]) (k:=λr=>some r) (N:=N) (x:=x) (L:=bD L) (a:=.I 0) (b:=.I 0) (c:=.str (bs [])) (q:=v.k) (n:=v.n) (s:=v.s) ⟨h0,h1⟩ (aB rfl)
  obtain ⟨r,hr,hp⟩:=this
  cases hq : dJ x (.I v.k) (.I v.n) (.str v.s) (.I 0) (.I 0) (.str (bs [])) (bD N) (bD L) with
  | none=>rw [hq] at hr;exact (by unfold bd at hr;cases hr)
  | some y=>rw [hq] at hr;unfold bd at hr;cases hr;exact ⟨_,rfl,hp⟩
def sG (H : Nat) (l : List cB) : Prop:=∀ v∈l,aBG H v
theorem aHK : ∀ (l : List cB) (N L : List Int) (v : cB),eP N L (l++[v])=((eP N L l).1++[(iX (eP N L l).2.1 (eP N L l).2.2 v).1],(iX (eP N L l).2.1 (eP N L l).2.2 v).2)
 | [],N,L,v=>rfl
 | a::r,N,L,v=>by
   show _=_
   simp only [List.cons_append,eP,aHK r]
theorem aI8 : ∀ (l : List cB) (N L : List Int),(eP N L l).1.length=l.length∧(eP N L l).2.1.length=N.length∧(eP N L l).2.2.length≤L.length+l.length
 | [],N,L=>⟨rfl,rfl,by simp [eP]⟩
 | a::r,N,L=>by
   obtain ⟨h1,h2,h3⟩:=aI8 r (iX N L a).2.1 (iX N L a).2.2
   obtain ⟨g1,g2⟩:=aOu N L a
   simp only [eP,List.length_cons]
   exact ⟨by omega,by omega,by omega⟩
theorem aFc {N L : List Int} {l : List cB} {x : PV} (hv : sG N.length l) (hl : l.length≤100000) (hL : L.length≤100000) :
 Ok (λr=>r = [x,bD (eP N L l).2.1,bD (eP N L l).2.2,aS (eP N L l).1]) (bX (aS l) x (bD N) (bD L)):=by
 rw [zU]
 refine vW (n:=l.length) (σ:=List Int × List Int × List cB) (F:=λi z=>dT (aS l) (.I i) x (bD z.1) (bD z.2.1) (aS z.2.2)) (λi z=>z=((eP N L (l.take i)).2.1,(eP N L (l.take i)).2.2,(eP N L (l.take i)).1)) ?_ ?_ 0 (N,L,[]) (by omega) (by simp [eP])
 ·rintro ⟨a,b,c⟩ hz
  show Ok _ (dT _ _ _ (bD a) (bD b) (aS c))
  rw [List.take_length] at hz
  cases hz
  rw [oJ]
  exact aD (aH (aC (λh=>by omega) (λ_=>aB rfl)))
 ·rintro i ⟨a,b,c⟩ hi hz ih
  show Ok _ (dT _ _ _ (bD a) (bD b) (aS c))
  obtain ⟨q1,q2,q3⟩:=aI8 (l.take i) N L
  rw [List.length_take] at q1 q3
  have et : l.take (i+1)=l.take i++[l[i]]:=by rw [List.take_add_one,List.getElem?_eq_getElem hi];rfl
  have hsn:=aHK (l.take i) N L l[i]
  rw [← et] at hsn
  cases hz
  rw [oJ]
  refine aD (aH (aC (λ_=>?_) (λh=>by omega)))
  refine aK hi (λ_=>rfl) ?_
  rw [aQ5]
  have hvi:=hv l[i] (List.getElem_mem hi)
  refine aG (aEo (by rw [q2];exact hvi) (by omega)) (λr hr=>?_)
  subst hr
  have el : ∀ y∈[(iX (eP N L (l.take i)).2.1 (eP N L (l.take i)).2.2 l[i]).1.pv],y.isEl 3 true=true:=λy hy=>by simp at hy;subst hy;rfl
  refine jN (by simp) el (fQ (by simp [q1];omega) el (aL (by omega) ?_))
  have e2 : (eP N L (l.take i)).1.map cB.pv++[(iX (eP N L (l.take i)).2.1 (eP N L (l.take i)).2.2 l[i]).1.pv]=(eP N L (l.take (i+1))).1.map cB.pv:=by
   rw [hsn];simp
  have:=ih ((eP N L (l.take (i+1))).2.1,(eP N L (l.take (i+1))).2.2,(eP N L (l.take (i+1))).1) rfl
  have e3 : (iX (eP N L (l.take i)).2.1 (eP N L (l.take i)).2.2 l[i]).2=(eP N L (l.take (i+1))).2:=by rw [hsn]
  show Ok _ (dT _ _ _ (bD (iX (eP N L (l.take i)).2.1 (eP N L (l.take i)).2.2 l[i]).2.1) (bD (iX (eP N L (l.take i)).2.1 (eP N L (l.take i)).2.2 l[i]).2.2) (.lst ((eP N L (l.take i)).1.map cB.pv++[(iX (eP N L (l.take i)).2.1 (eP N L (l.take i)).2.2 l[i]).1.pv])))
  rw [e2,e3]
  exact this
end
def eG (L : List Int) (x : Int) : Int:=if x∈L then (L.idxOf x : Nat) else -1
def kV (H : Nat) (L : List Int) : List Int:=(List.range H).map λ(i : Nat)=>eG L (i : Int)
def mvL (H : Nat) (L : List Int) : List Int:=(List.range H).map λi=>aAL L i
theorem sH {H : Nat} {L : List Int} : (kV H L).length=H:=by simp [kV]
theorem aNm {H : Nat} {L : List Int} : (mvL H L).length=H:=by simp [mvL]
theorem aBN {H : Nat} {L : List Int} {x : Int} (h : 0≤x∧x<H) : rD (kV H L) x=eG L x:=by
 obtain ⟨i,rfl⟩:=Int.eq_ofNat_of_zero_le h.1
 unfold rD kV
 rw [Int.toNat_natCast,List.getElem?_map,List.getElem?_range (by omega)];rfl
theorem aQ6 {H : Nat} {L : List Int} {x : Int} (h : 0≤x∧x<H) : rD (mvL H L) x=aAL L x.toNat:=by
 obtain ⟨i,rfl⟩:=Int.eq_ofNat_of_zero_le h.1
 unfold rD mvL
 rw [Int.toNat_natCast,List.getElem?_map,List.getElem?_range (by omega)];rfl
theorem aPq {H : Nat} {L : List Int} {x : Int} (h : 0≤x∧x<H) (hx : x∉L) : (kV H L).set x.toNat L.length=kV H (L++[x]):=by
 obtain ⟨i,rfl⟩:=Int.eq_ofNat_of_zero_le h.1
 rw [Int.toNat_natCast]
 apply List.ext_getElem?
 intro j
 unfold kV
 rw [List.getElem?_set]
 by_cases hj : j<H
 ·rw [List.getElem?_map,List.getElem?_map,List.getElem?_range hj,List.length_map,List.length_range]
  simp only [Option.map_some]
  by_cases e : i=j
  ·subst e
   rw [if_pos rfl,if_pos hj]
   unfold eG
   rw [if_pos (by simp),List.idxOf_append,if_neg hx]
   simp
  ·rw [if_neg e]
   unfold eG
   by_cases hm : (j : Int)∈L
   ·rw [if_pos hm,if_pos (List.mem_append_left _ hm),List.idxOf_append,if_pos hm]
   ·rw [if_neg hm,if_neg]
    intro hq
    rcases List.mem_append.1 hq with hq | hq
    ·exact hm hq
    ·simp at hq;omega
 ·have : ¬ i=j:=by omega
  rw [if_neg this,List.getElem?_eq_none (by simp;omega),List.getElem?_eq_none (by simp;omega)]
theorem aLu {H : Nat} {L : List Int} {v : cB} (hv : aBG H v) : (iX (kV H L) L v).2=(kV H (iA L v),iA L v):=by
 unfold iX iA
 by_cases hk : v.k=4
 ·have h:=hv hk
  rw [if_neg (by omega),aBN h]
  by_cases hm : v.n∈L
  ·have : ¬ eG L v.n<0:=by unfold eG;rw [if_pos hm];omega
   rw [if_neg this,if_neg (λh=>h.2 hm)]
  ·have : eG L v.n<0:=by unfold eG;rw [if_neg hm];decide
   rw [if_pos this,if_pos ⟨hk,hm⟩,aPq h hm]
 ·rw [if_pos hk,if_neg (λh=>hk h.1)]
theorem aI9 {H : Nat} : ∀ {l : List cB} {L : List Int},sG H l→(eP (kV H L) L l).2=(kV H (iW L l),iW L l)
 | [],L,_=>rfl
 | v::r,L,h=>by
   have h1:=aLu (L:=L) (h v List.mem_cons_self)
   simp only [eP]
   rw [h1]
   exact aI9 (λx hx=>h x (List.mem_cons_of_mem _ hx))
theorem aLv {H : Nat} {L Q : List Int} {v : cB} (hv : aBG H v) : iX (mvL H L) Q v=(lW L v,mvL H L,Q):=by
 unfold iX lW
 by_cases hk : v.k=4
 ·have h:=hv hk
  rw [if_neg (by omega),aQ6 h,if_pos hk,if_neg (by have:=aO8 L v.n.toNat;omega)]
 ·rw [if_pos hk,if_neg hk]
theorem aJa {H : Nat} {L Q : List Int} : ∀ {l : List cB},sG H l→eP (mvL H L) Q l=(l.map (lW L),mvL H L,Q)
 | [],_=>rfl
 | v::r,h=>by
   have h1:=aLv (L:=L) (Q:=Q) (h v List.mem_cons_self)
   simp only [eP]
   rw [h1]
   simp only [aJa (l:=r) (λx hx=>h x (List.mem_cons_of_mem _ hx)),List.map_cons]
end
noncomputable section
open Go Go.IntWalk
attribute [local irreducible] bd PV.ite PV.guardFlat PV.guardOwn PV.whole PV.one PV.cell PV.sub PV.at_ PV.len PV.slen PV.chr PV.beq PV.peq PV.ceq PV.bin PV.neg PV.not PV.conv PV.cut PV.scut PV.cat PV.setAt PV.setCell PV.ncopy PV.copyIn PV.zeros PV.toStr PV.toBytes PV.deref PV.isPtr PV.comp PV.inb PV.off PV.imin PV.imax PV.sel PV.apply PV.isLst PV.isInt PV.ix PV.nilT
variable {a0 a1 a2 a3 a4 a5 a6 a7 a8 a9 a10 a11 a12 a13 a14 a15 a16 a17 a18 a19 a20 a21 a22 a23 a24 a25 a26 a27 a28 a29 a30 a31 a32 a33 a34 a35 a36 : PV}
section
variable {P : R → Prop} {m : eN} {v : eA}
structure sI (v : eA) : Prop where
 h : v.hp.length≤120
 nf : v.fr.length≤24
 fl : ∀ f∈v.fr,f.loc.length≤100∧f.stk.length≤100∧sG v.hp.length f.loc∧sG v.hp.length f.stk
 hr : ∀ r∈v.hp,r.length≤100∧sG v.hp.length r
 vl : aBG v.hp.length v.val
theorem aJ7 {k : R→OR} {H : Nat} {L : List Int} {l : List cB} {x : PV} (hv : sG H l) (hl : l.length≤1000) (hL : L.length≤1000) (h : ∀ y : PV,Ok P (k [x,bD (kV H (iW L l)),bD (iW L l),y])) :
 Ok P (bd (bX (aS l) x (bD (kV H L)) (bD L)) k):=by
 refine aG (aFc (by rw [sH];exact hv) (by omega) (by omega)) (λr hr=>?_)
 rw [hr,aI9 hv]
 exact h _
theorem aJ8 {k : R→OR} {H : Nat} {L Q : List Int} {l : List cB} {x : PV} (hv : sG H l) (hl : l.length≤1000) (hL : Q.length≤1000) (h : Ok P (k [x,bD (mvL H L),bD Q,aS (l.map (lW L))])) :
 Ok P (bd (bX (aS l) x (bD (mvL H L)) (bD Q)) k):=by
 refine aG (aFc (by rw [aNm];exact hv) (by omega) (by omega)) (λr hr=>?_)
 rw [hr,aJa hv]
 exact h
abbrev fr0 (v : eA) : PV:=.lst (v.fr.map bT.pv)
abbrev hp0 (v : eA) : PV:=.lst (v.hp.map aR)
abbrev yZ (v : eA) : PV:=.lst (v.out.map PV.str)
theorem zA (g : sI v) {i : Int} (h : 0≤i∧i<v.hp.length) : ∃ j : Nat,∃ hj : j<v.hp.length,i=j∧cA v.hp i=v.hp[j]∧v.hp[j].length≤100∧sG v.hp.length v.hp[j]:=by
 obtain ⟨j,rfl⟩:=Int.eq_ofNat_of_zero_le h.1
 have hj : j<v.hp.length:=by omega
 obtain ⟨h1,h2⟩:=g.hr _ (List.getElem_mem hj)
 exact ⟨j,hj,rfl,by unfold cA;rw [Int.toNat_natCast,List.getElem?_eq_getElem hj];rfl,h1,h2⟩
theorem aPr (g : sI v) {L Q : List Int} (hQ : Q.length≤1000) :
 Ok (λr=>r = [a19,a20,a21,.I (lW L v.val).k,.I (lW L v.val).n,.str (lW L v.val).s,a25,.lst ((v.fr.map (aCt L)).map bT.pv),a32,a33])
  (lO (.I 0) (fr0 v) (hp0 v) a3 a4 a5 a6 (.I v.val.k) (.I v.val.n) (.str v.val.s) a10 a11 a12 a13 a14 a15 a16 a17 a18 a19 a20 a21 a22 a23 a24 a25 a26 a27 a28 (bD (mvL v.hp.length L)) (bD Q) (.lst (v.fr.map bT.pv)) a32 a33):=by
 have nf:=g.nf
 have key:=cH (n:=v.fr.length) (P:=λ_ r=>r = [a19,a20,a21,.I (lW L v.val).k,.I (lW L v.val).n,.str (lW L v.val).s,a25,.lst ((v.fr.map (aCt L)).map bT.pv),a32,a33]) (F:=λi=>lO (.I i) (fr0 v) (hp0 v) a3 a4 a5 a6 (.I v.val.k) (.I v.val.n) (.str v.val.s) a10 a11 a12 a13 a14 a15 a16 a17 a18 a19 a20 a21 a22 a23 a24 a25 a26 a27 a28 (bD (mvL v.hp.length L)) (bD Q) (.lst (((v.fr.take i).map (aCt L)).map bT.pv++(v.fr.drop i).map bT.pv)) a32 a33) ?_ (λi hi ih=>?_) 0 (by omega)
 ·simpa using key
 ·rw [tR]
  refine aD (aH (aC (λh=>by omega) (λ_=>?_)))
  refine aG (aEo (by rw [aNm];exact g.vl) (by omega)) (λr hr=>?_)
  subst hr
  rw [aLv g.vl]
  refine aE rfl (aA rfl (aA rfl (aA rfl (aB ?_))))
  simp
 ·rw [tR]
  obtain ⟨f1,f2,f3,f4⟩:=g.fl _ (List.getElem_mem hi)
  refine aD (aH (aC (λ_=>?_) (λh=>by omega)))
  refine aK hi (λ_=>rfl) (aA (y:=aS v.fr[i].loc) rfl (aJ8 f3 (by omega) hQ ?_))
  rw [List.drop_eq_getElem_cons hi,List.map_cons]
  have hlen : ((i : Nat) : Int)=(((v.fr.take i).map (aCt L)).map bT.pv).length:=by simp;omega
  refine kT hlen (eL (off:=2) hlen rfl (by decide) rfl ?_)
  refine aK hi (λ_=>rfl) (aA (y:=aS v.fr[i].stk) rfl (aJ8 f4 (by omega) hQ ?_))
  refine kT hlen (eL (off:=3) hlen rfl (by decide) rfl (aL (by omega) ?_))
  have e : ((v.fr.take (i+1)).map (aCt L)).map bT.pv=((v.fr.take i).map (aCt L)).map bT.pv++[(aCt L v.fr[i]).pv]:=by
   rw [List.take_add_one,List.getElem?_eq_getElem hi,List.map_append,List.map_append];rfl
  rw [e,List.append_assoc] at ih
  exact ih
theorem aPs (g : sI v) {L Q Q2 : List Int} (hQ : Q.length≤1000) :
 Ok (λr=>r = [a20,a21,a22,.I (lW L v.val).k,.I (lW L v.val).n,.str (lW L v.val).s,a26,.lst ((v.fr.map (aCt L)).map bT.pv),.lst (((iP v.hp.length L).map λi=>(v.hp[i]?.getD []).map (lW L)).map aR),a36])
  (iZ (.I 0) (fr0 v) (hp0 v) a3 a4 a5 a6 (.I v.val.k) (.I v.val.n) (.str v.val.s) a10 a11 a12 a13 a14 a15 a16 a17 a18 a19 a20 a21 a22 a23 a24 a25 a26 a27 a28 a29 (bD (kV v.hp.length L)) (bD Q2) (bD (mvL v.hp.length L)) (bD Q) (.lst (v.fr.map bT.pv)) (.lst []) a36):=by
 have nh:=g.h
 have key:=cH (n:=v.hp.length) (P:=λ_ r=>r = [a20,a21,a22,.I (lW L v.val).k,.I (lW L v.val).n,.str (lW L v.val).s,a26,.lst ((v.fr.map (aCt L)).map bT.pv),.lst (((iP v.hp.length L).map λi=>(v.hp[i]?.getD []).map (lW L)).map aR),a36])
  (F:=λi=>iZ (.I i) (fr0 v) (hp0 v) a3 a4 a5 a6 (.I v.val.k) (.I v.val.n) (.str v.val.s) a10 a11 a12 a13 a14 a15 a16 a17 a18 a19 a20 a21 a22 a23 a24 a25 a26 a27 a28 a29 (bD (kV v.hp.length L)) (bD Q2) (bD (mvL v.hp.length L)) (bD Q) (.lst (v.fr.map bT.pv)) (.lst (((iP i L).map λi=>(v.hp[i]?.getD []).map (lW L)).map aR)) a36) ?_ (λi hi ih=>?_) 0 (by omega)
 ·exact key
 ·rw [tQ]
  exact aD (aH (aC (λh=>by omega) (λ_=>aPr g hQ)))
 ·rw [tQ]
  obtain ⟨h1,h2⟩:=g.hr _ (List.getElem_mem hi)
  refine aD (aH (aC (λ_=>?_) (λh=>by omega)))
  refine dR (by omega) (by rw [sH];omega) (kM (by omega) (by rw [sH];omega) (λz hz=>eQ (aC (λhge=>?_) (λhge=>?_))))
  ·have hm : (i : Int)∈L:=by
    have e : rD (kV v.hp.length L) i=z:=by unfold rD;rw [hz];rfl
    rw [aBN (by omega)] at e
    unfold eG at e
    by_cases h : (i : Int)∈L
    ·exact h
    ·rw [if_neg h] at e;omega
   refine aK hi (λ_=>rfl) (aA (y:=aS v.hp[i]) rfl (aJ8 h2 (by omega) hQ ?_))
   have hk:=(List.length_filter_le (λ(j : Nat)=>decide ((j : Int)∈L)) (List.range i))
   rw [List.length_range] at hk
   refine fQ (by simp [iP];omega) (λx hx=>by simp at hx;subst hx;rfl) (aL (by omega) ?_)
   rw [aAe,if_pos hm] at ih
   simp only [List.map_append,List.map_cons,List.map_nil,List.getElem?_eq_getElem hi,Option.getD_some] at ih
   exact ih
  ·have hm : ¬ (i : Int)∈L:=by
    have e : rD (kV v.hp.length L) i=z:=by unfold rD;rw [hz];rfl
    rw [aBN (by omega)] at e
    unfold eG at e
    intro h
    rw [if_pos h] at e;omega
   rw [aAe,if_neg hm,List.append_nil] at ih
   exact aL (by omega) ih
theorem aLw (g : sI v) (z : Sz v) {L Q Q2 : List Int} (hQ : Q.length≤1000) :
 Ok (λr=>r=dD (aLd v L))
  (iY (.I 0) (.I 0) (fr0 v) (hp0 v) (.I v.made) (yZ v) (.I v.st) (.I v.tr) (.I v.val.k) (.I v.val.n) (.str v.val.s) (.I v.steps) a12 a13 a14 a15 a16 a17 a18 a19 a20 a21 a22 a23 (bD (kV v.hp.length L)) (bD Q2) (.lst []) (bD Q)):=by
 have nh:=g.h
 have key:=cH (n:=v.hp.length) (P:=λ_ r=>r=dD (aLd v L))
  (F:=λi=>iY (.I (aAL L i)) (.I i) (fr0 v) (hp0 v) (.I v.made) (yZ v) (.I v.st) (.I v.tr) (.I v.val.k) (.I v.val.n) (.str v.val.s) (.I v.steps) a12 a13 a14 a15 a16 a17 a18 a19 a20 a21 a22 a23 (bD (kV v.hp.length L)) (bD Q2) (bD (mvL i L)) (bD Q)) ?_ (λi hi ih=>?_) 0 (by omega)
 ·exact key
 ·rw [tP]
  refine aD (aH (aC (λh=>by omega) (λ_=>?_)))
  exact aB8 z (fD (aPs g hQ))
 ·rw [tP]
  have hrk:=aO8 L i
  have emv : mvL (i+1) L=mvL i L++[aAL L i]:=by unfold mvL;rw [List.range_succ];simp
  have hs:=aO7 L i
  refine aD (aH (aC (λ_=>?_) (λh=>by omega)))
  refine dZ (l:=[]) (ys:=[aAL L i]) (by simp) (dZ (ys:=[aAL L i]) (by simp [mvL];omega) ?_)
  rw [← emv]
  refine dR (by omega) (by rw [sH];omega) (kM (by omega) (by rw [sH];omega) (λz hz=>eQ (aC (λhge=>?_) (λhge=>?_))))
  ·have hm : (i : Int)∈L:=by
    have e : rD (kV v.hp.length L) i=z:=by unfold rD;rw [hz];rfl
    rw [aBN (by omega)] at e
    unfold eG at e
    by_cases h : (i : Int)∈L
    ·exact h
    ·rw [if_neg h] at e;omega
   rw [if_pos hm] at hs
   rw [hs] at ih
   exact aL (by omega) (aL (by omega) ih)
  ·have hm : ¬ (i : Int)∈L:=by
    have e : rD (kV v.hp.length L) i=z:=by unfold rD;rw [hz];rfl
    rw [aBN (by omega)] at e
    unfold eG at e
    intro h
    rw [if_pos h] at e;omega
   rw [if_neg hm,Int.add_zero] at hs
   rw [hs] at ih
   exact aL (by omega) ih
theorem aLx (g : sI v) (z : Sz v) {a11 a12 a13 a14 a15 a16 a17 a18 a19 a20 a21 : PV} : ∀ (d i : Nat) (L : List Int),yX v.hp.length L→v.hp.length≤i+d→
 Ok (λr=>r=dD (aLd v (jL v.hp d i L)))
  (nY (.I i) (fr0 v) (hp0 v) (.I v.made) (yZ v) (.I v.st) (.I v.tr) (.I v.val.k) (.I v.val.n) (.str v.val.s) (.I v.steps) a11 a12 a13 a14 a15 a16 a17 a18 a19 a20 a21 (bD (kV v.hp.length L)) (bD L))
 | 0,i,L,hL,hd=>by
   have h1:=hL.len
   have h2:=g.h
   rw [tO]
   exact cX (aH (aC (λh=>by omega) (λ_=>aLw g z (Q:=[]) (by simp))))
 | d+1,i,L,hL,hd=>by
   have h1:=hL.len
   have h2:=g.h
   rw [tO]
   refine cX (aH (aC (λh=>?_) (λh=>?_)))
   ·have hi : i<L.length:=by omega
    have hx:=hL.lt _ (List.getElem_mem hi)
    obtain ⟨j,hj,he,hf,f1,f2⟩:=zA g hx
    have er : jL v.hp (d+1) i L=jL v.hp d (i+1) (iW L v.hp[j]):=by
     show (if i<L.length then _ else _)=_
     rw [if_pos hi,List.getElem?_eq_getElem hi,Option.getD_some,hf]
    rw [er]
    refine dR (by omega) (by omega) (cY hi ?_)
    rw [he]
    refine aK hj (λ_=>rfl) (aA (y:=aS v.hp[j]) rfl (aJ7 f2 (by omega) (by omega) (λy=>aL (by omega) ?_)))
    exact aLx g z d (i+1) (iW L v.hp[j]) (nQ hL f2) (by omega)
   ·have er : jL v.hp (d+1) i L=L:=by
     show (if i<L.length then _ else _)=_
     rw [if_neg (by omega)]
    rw [er]
    exact aLw g z (Q:=[]) (by simp)
theorem aQq (g : sI v) (z : Sz v) :
 Ok (λr=>r=dD (eT v)) (mP (.I 0) (fr0 v) (hp0 v) (.I v.made) (yZ v) (.I v.st) (.I v.tr) (.I v.val.k) (.I v.val.n) (.str v.val.s) (.I v.steps) a11 a12 a13 a14 a15 a16 a17 a18 a19 a20 a21 (bD (kV v.hp.length [])) (bD [])):=by
 have nf:=g.nf
 have nh:=g.h
 refine vW (n:=v.fr.length) (σ:=List Int) (F:=λi L=>mP (.I i) (fr0 v) (hp0 v) (.I v.made) (yZ v) (.I v.st) (.I v.tr) (.I v.val.k) (.I v.val.n) (.str v.val.s) (.I v.steps) a11 a12 a13 a14 a15 a16 a17 a18 a19 a20 a21 (bD (kV v.hp.length L)) (bD L)) (λi L=>L=(v.fr.take i).foldl xH []∧yX v.hp.length L) ?_ ?_ 0 [] (by omega) ⟨rfl,⟨List.nodup_nil,(λx h=>by cases h)⟩⟩
 ·rintro L ⟨rfl,hL⟩
  rw [List.take_length] at hL ⊢
  rw [vS]
  refine aD (aH (aC (λh=>by omega) (λ_=>?_)))
  have hlen:=hL.len
  refine aG (aEo (by rw [sH];exact g.vl) (by omega)) (λr hr=>?_)
  subst hr
  have e:=aLu (L:=v.fr.foldl xH []) g.vl
  rw [e]
  exact aLx g z v.hp.length 0 (aBF v) (aEk hL g.vl) (by omega)
 ·rintro i L hi ⟨rfl,hL⟩ ih
  rw [vS]
  obtain ⟨f1,f2,f3,f4⟩:=g.fl _ (List.getElem_mem hi)
  have hlen:=hL.len
  have hL2:=nQ hL f3
  have hlen2:=hL2.len
  refine aD (aH (aC (λ_=>?_) (λh=>by omega)))
  refine aK hi (λ_=>rfl) (aA (y:=aS v.fr[i].loc) rfl (aJ7 f3 (by omega) (by omega) (λy=>?_)))
  refine aK hi (λ_=>rfl) (aA (y:=aS v.fr[i].stk) rfl (aJ7 f4 (by omega) (by omega) (λy=>aL (by omega) ?_)))
  refine ih _ ⟨?_,nQ hL2 f4⟩
  rw [List.take_add_one,List.getElem?_eq_getElem hi,List.foldl_append];rfl
end
theorem aBO {n : Nat} {F : Nat→Bool→OR} {P : Nat→Bool→R→Prop} (he : ∀ b,Ok (P n b) (F n b)) (hs : ∀ i,i<n→(∀ b,Ok (P (i+1) b) (F (i+1) b))→∀ b,Ok (P i b) (F i b)) : ∀ i,i≤n→∀ b,Ok (P i b) (F i b):=by
 have key : ∀ j i,n - i=j→i≤n→∀ b,Ok (P i b) (F i b):=by
  intro j
  induction j with
  | zero=>intro i h1 h2;have : i=n:=by omega
          subst this;exact he
  | succ j ih=>intro i h1 h2;exact hs i (by omega) (ih (i+1) (by omega) (by omega))
 intro i h
 exact key _ i rfl h
def aRs (m : eN) (v : eA) (b : Bool) : R:=[.bool b,.lst (m.texts.map PV.str),.lst (m.funcs.map dA.pv),.lst (v.fr.map bT.pv),.lst (v.hp.map aR),.I v.made,.lst (v.out.map PV.str),.I v.st,.I v.tr,.I v.val.k,.I v.val.n,.str v.val.s,.I v.steps]
section
variable {P : R → Prop} {m : eN}
theorem aPt {hp : List (List cB)} (hn : hp.length≤2097152) : Ok (tC (hp.length≤120∧∀ r∈hp,r.length≤6)) (wO (.lst (hp.map aR))):=by
 have loop : ∀ i,i≤hp.length→Ok (λr=>∃ k : Int,r = [.I k]∧(k<0→∀ x∈hp.drop i,x.length≤6)) (bP (.lst (hp.map aR)) (.fn 164 []) (.I hp.length) (.I i)):=by
  refine cH (n:=hp.length) (F:=λi=>bP (.lst (hp.map aR)) (.fn 164 []) (.I hp.length) (.I i)) (P:=λi r=>∃ k : Int,r = [.I k]∧(k<0→∀ x∈hp.drop i,x.length≤6)) ?_ (λi hi ih=>?_)
  ·rw [cW]
   exact aH (aC (λh=>by omega) (λ_=>aB ⟨_,rfl,λ_ x hx=>by rw [List.drop_length] at hx;cases hx⟩))
  ·rw [cW]
   refine aH (aC (λ_=>?_) (λh=>by omega))
   refine aK hi (λ_=>rfl) (uQ (o:=xQ (aR hp[i])) (Q:=λr=>r = [.bool (decide ((6 : Int)<hp[i].length))]) rfl ?_ (λr hr=>?_))
   ·rw [yR]
    exact aE rfl (aA rfl (aY (cN (aB rfl))))
   ·rw [hr]
    refine aC (λh=>aB ⟨i,rfl,λhk=>by omega⟩) (λh=>aL (by omega) (ih.mono ?_))
    rintro r ⟨k,rfl,hk⟩
    refine ⟨k,rfl,λh' x hx=>?_⟩
    rw [List.drop_eq_getElem_cons hi] at hx
    rcases List.mem_cons.1 hx with rfl | hx
    ·omega
    ·exact hk h' x hx
 rw [aBk]
 refine aD (fE (aC (λh1=>?_) (λ_=>no)))
 refine aG (Q:=λr=>∃ b,r = [.bool b]∧(b=false→∀ x∈hp,x.length≤6)) ?_ (λr hr=>?_)
 ·rw [gG]
  refine aG (Q:=λr=>∃ k : Int,r = [.I k]∧(k<0→∀ x∈hp,x.length≤6)) ?_ (λr hr=>?_)
  ·rw [hJ]
   exact aD (loop 0 (by omega))
  ·obtain ⟨k,rfl,hk⟩:=hr
   exact eQ (aB ⟨_,rfl,λh=>hk (by have:=of_decide_eq_false h;omega)⟩)
 ·obtain ⟨b,rfl,hb⟩:=hr
  exact bC (yes λh=>⟨by omega,hb (by simpa using h)⟩)
theorem aPu {v : eA} {x : cB} {b : Bool} (hf : m.funcs.length≤1000) (hh : v.hp.length≤1000) (hs : x.s.size≤2097152) : Ok (λr=>r=aRs m v (b&&cD m.funcs.length v.hp.length x)) (pZ (.I x.k) (.I x.n) (.str x.s) (.bool b) (.lst (m.texts.map PV.str)) (.lst (m.funcs.map dA.pv)) (.lst (v.fr.map bT.pv)) (.lst (v.hp.map aR)) (.I v.made) (.lst (v.out.map PV.str)) (.I v.st) (.I v.tr) (.I v.val.k) (.I v.val.n) (.str v.val.s) (.I v.steps)):=by
 rw [aBq]
 cases b with
 | false=>exact aT (aB rfl)
 | true=>
   refine bB (aD (aD (aG (aHy (v:=x) (nf:=m.funcs.length) (recs:=v.hp.length) (by omega) (by omega) (by omega)) (λr hr=>?_))))
   rw [hr]
   exact aX rfl (aB rfl)
def boxes (m : eN) (v : eA) (B : Prop) (r : R) : Prop:=∃ b,r=aRs m v b∧(b=true→B)
theorem boxes.mono {v : eA} {A B : Prop} {r : R} (h : boxes m v A r) (f : A→B) : boxes m v B r:=by
 obtain ⟨b,e,hb⟩:=h
 exact ⟨b,e,λh=>f (hb h)⟩
theorem aLy {v : eA} (hfn : m.funcs.length≤1000) (h : v.fine) (zh : v.hp.length≤120) :
 Ok (boxes m v ((∀ f∈v.fr,∀ y∈f.loc++f.stk,lE m v.hp.length y)∧(∀ r∈v.hp,∀ y∈r,lE m v.hp.length y)∧lE m v.hp.length v.val)) (qN (.lst (v.fr.map bT.pv)) (.lst (v.hp.map aR)) (.I v.made) (.lst (v.out.map PV.str)) (.I v.st) (.I v.tr) (.I v.val.k) (.I v.val.n) (.str v.val.s) (.I v.steps) (.bool true) (.lst (m.texts.map PV.str)) (.lst (m.funcs.map dA.pv)) (.lst (v.fr.map bT.pv)) (.lst (v.hp.map aR)) (.I v.made) (.lst (v.out.map PV.str)) (.I v.st) (.I v.tr) (.I v.val.k) (.I v.val.n) (.str v.val.s) (.I v.steps)):=by
 have zf:=h.f
 have last : ∀ b,Ok (boxes m v (b=true∧lE m v.hp.length v.val)) (dS (.lst (v.hp.map aR)) (.I v.hp.length) (.I v.hp.length) (.bool b) (.lst (m.texts.map PV.str)) (.lst (m.funcs.map dA.pv)) (.lst (v.fr.map bT.pv)) (.lst (v.hp.map aR)) (.I v.made) (.lst (v.out.map PV.str)) (.I v.st) (.I v.tr) (.I v.val.k) (.I v.val.n) (.str v.val.s) (.I v.steps) (.lst (v.fr.map bT.pv)) (.lst (v.hp.map aR)) (.I v.made) (.lst (v.out.map PV.str)) (.I v.st) (.I v.tr) (.I v.val.k) (.I v.val.n) (.str v.val.s) (.I v.steps)):=λb=>by
  rw [jQ]
  refine aH (aC (λh=>by omega) (λ_=>aG (aPu (b:=b) (by omega) (by omega) h.val) (λr hr=>?_)))
  rw [hr]
  exact aB ⟨_,rfl,λh=>by simpa [Bool.and_eq_true] using h⟩
 have heap : ∀ i,i≤v.hp.length→∀ b,Ok (boxes m v (b=true∧(∀ r∈v.hp.drop i,∀ y∈r,lE m v.hp.length y)∧lE m v.hp.length v.val)) (dS (.lst (v.hp.map aR)) (.I v.hp.length) (.I i) (.bool b) (.lst (m.texts.map PV.str)) (.lst (m.funcs.map dA.pv)) (.lst (v.fr.map bT.pv)) (.lst (v.hp.map aR)) (.I v.made) (.lst (v.out.map PV.str)) (.I v.st) (.I v.tr) (.I v.val.k) (.I v.val.n) (.str v.val.s) (.I v.steps) (.lst (v.fr.map bT.pv)) (.lst (v.hp.map aR)) (.I v.made) (.lst (v.out.map PV.str)) (.I v.st) (.I v.tr) (.I v.val.k) (.I v.val.n) (.str v.val.s) (.I v.steps)):=by
  refine aBO (n:=v.hp.length) (F:=λi b=>dS (.lst (v.hp.map aR)) (.I v.hp.length) (.I i) (.bool b) (.lst (m.texts.map PV.str)) (.lst (m.funcs.map dA.pv)) (.lst (v.fr.map bT.pv)) (.lst (v.hp.map aR)) (.I v.made) (.lst (v.out.map PV.str)) (.I v.st) (.I v.tr) (.I v.val.k) (.I v.val.n) (.str v.val.s) (.I v.steps) (.lst (v.fr.map bT.pv)) (.lst (v.hp.map aR)) (.I v.made) (.lst (v.out.map PV.str)) (.I v.st) (.I v.tr) (.I v.val.k) (.I v.val.n) (.str v.val.s) (.I v.steps)) (P:=λi b=>boxes m v (b=true∧(∀ r∈v.hp.drop i,∀ y∈r,lE m v.hp.length y)∧lE m v.hp.length v.val)) (λb=>(last b).mono (λr hr=>hr.mono (λh=>⟨h.1,λr hr=>(by rw [List.drop_length] at hr;cases hr),h.2⟩))) (λi hi ih b=>?_)
  rw [jQ]
  refine aH (aC (λ_=>?_) (λh=>by omega))
  have hri:=h.hl _ (List.getElem_mem hi)
  refine aK hi (λ_=>rfl) (aE rfl (aA rfl (aY ?_)))
  have inner : ∀ j,j≤v.hp[i].length→∀ b,Ok (boxes m v (b=true∧(∀ y∈v.hp[i].drop j,lE m v.hp.length y)∧(∀ r∈v.hp.drop (i+1),∀ y∈r,lE m v.hp.length y)∧lE m v.hp.length v.val)) (fK (.lst (v.hp.map aR)) (.I v.hp.length) (.I i) (aS v.hp[i]) (.I v.hp[i].length) (.I j) (.bool b) (.lst (m.texts.map PV.str)) (.lst (m.funcs.map dA.pv)) (.lst (v.fr.map bT.pv)) (.lst (v.hp.map aR)) (.I v.made) (.lst (v.out.map PV.str)) (.I v.st) (.I v.tr) (.I v.val.k) (.I v.val.n) (.str v.val.s) (.I v.steps) (.lst (v.fr.map bT.pv)) (.lst (v.hp.map aR)) (.I v.made) (.lst (v.out.map PV.str)) (.I v.st) (.I v.tr) (.I v.val.k) (.I v.val.n) (.str v.val.s) (.I v.steps)):=by
   refine aBO (n:=v.hp[i].length) (F:=λj b=>fK (.lst (v.hp.map aR)) (.I v.hp.length) (.I i) (aS v.hp[i]) (.I v.hp[i].length) (.I j) (.bool b) (.lst (m.texts.map PV.str)) (.lst (m.funcs.map dA.pv)) (.lst (v.fr.map bT.pv)) (.lst (v.hp.map aR)) (.I v.made) (.lst (v.out.map PV.str)) (.I v.st) (.I v.tr) (.I v.val.k) (.I v.val.n) (.str v.val.s) (.I v.steps) (.lst (v.fr.map bT.pv)) (.lst (v.hp.map aR)) (.I v.made) (.lst (v.out.map PV.str)) (.I v.st) (.I v.tr) (.I v.val.k) (.I v.val.n) (.str v.val.s) (.I v.steps)) (P:=λj b=>boxes m v (b=true∧(∀ y∈v.hp[i].drop j,lE m v.hp.length y)∧(∀ r∈v.hp.drop (i+1),∀ y∈r,lE m v.hp.length y)∧lE m v.hp.length v.val)) (λb=>?_) (λj hj ih' b=>?_)
   ·rw [jR]
    exact aH (aC (λh=>by omega) (λ_=>aL (by omega) ((ih b).mono (λr hr=>hr.mono (λh=>⟨h.1,λy hy=>(by rw [List.drop_length] at hy;cases hy),h.2⟩)))))
   ·rw [jR]
    refine aH (aC (λ_=>?_) (λh=>by omega))
    refine aK hj (λ_=>rfl) (aE rfl (aA rfl (aA rfl (aA rfl (aG (aPu (b:=b) (x:=v.hp[i][j]) (by omega) (by omega) (h.hps _ (List.getElem_mem hi) _ (List.getElem_mem hj))) (λr hr=>?_))))))
    rw [hr]
    refine aL (by omega) ((ih' _).mono (λr hr=>hr.mono (λh=>?_)))
    obtain ⟨h1,h2,h3⟩:=h
    rw [Bool.and_eq_true] at h1
    refine ⟨h1.1,λy hy=>?_,h3⟩
    rw [List.drop_eq_getElem_cons hj] at hy
    rcases List.mem_cons.1 hy with rfl | hy
    ·exact h1.2
    ·exact h2 y hy
  refine (inner 0 (by omega) b).mono (λr hr=>hr.mono (λh=>?_))
  obtain ⟨h1,h2,h3,h4⟩:=h
  refine ⟨h1,λr hr=>?_,h4⟩
  rw [List.drop_eq_getElem_cons hi] at hr
  rcases List.mem_cons.1 hr with rfl | hr
  ·exact h2
  ·exact h3 r hr
 have frames : ∀ i,i≤v.fr.length→∀ b,Ok (boxes m v (b=true∧(∀ f∈v.fr.drop i,∀ y∈f.loc++f.stk,lE m v.hp.length y)∧(∀ r∈v.hp,∀ y∈r,lE m v.hp.length y)∧lE m v.hp.length v.val)) (fW (.lst (v.fr.map bT.pv)) (.I v.fr.length) (.I i) (.bool b) (.lst (m.texts.map PV.str)) (.lst (m.funcs.map dA.pv)) (.lst (v.fr.map bT.pv)) (.lst (v.hp.map aR)) (.I v.made) (.lst (v.out.map PV.str)) (.I v.st) (.I v.tr) (.I v.val.k) (.I v.val.n) (.str v.val.s) (.I v.steps) (.lst (v.fr.map bT.pv)) (.lst (v.hp.map aR)) (.I v.made) (.lst (v.out.map PV.str)) (.I v.st) (.I v.tr) (.I v.val.k) (.I v.val.n) (.str v.val.s) (.I v.steps)):=by
  refine aBO (n:=v.fr.length) (F:=λi b=>fW (.lst (v.fr.map bT.pv)) (.I v.fr.length) (.I i) (.bool b) (.lst (m.texts.map PV.str)) (.lst (m.funcs.map dA.pv)) (.lst (v.fr.map bT.pv)) (.lst (v.hp.map aR)) (.I v.made) (.lst (v.out.map PV.str)) (.I v.st) (.I v.tr) (.I v.val.k) (.I v.val.n) (.str v.val.s) (.I v.steps) (.lst (v.fr.map bT.pv)) (.lst (v.hp.map aR)) (.I v.made) (.lst (v.out.map PV.str)) (.I v.st) (.I v.tr) (.I v.val.k) (.I v.val.n) (.str v.val.s) (.I v.steps)) (P:=λi b=>boxes m v (b=true∧(∀ f∈v.fr.drop i,∀ y∈f.loc++f.stk,lE m v.hp.length y)∧(∀ r∈v.hp,∀ y∈r,lE m v.hp.length y)∧lE m v.hp.length v.val)) (λb=>?_) (λi hi ih b=>?_)
  ·rw [kK]
   exact aH (aC (λh=>by omega) (λ_=>aD ((heap 0 (by omega) b).mono (λr hr=>hr.mono (λh=>⟨h.1,λf hf=>(by rw [List.drop_length] at hf;cases hf),h.2.1,h.2.2⟩)))))
  have zz:=h.fl _ (List.getElem_mem hi)
  have q2:=h.frs _ (List.getElem_mem hi)
  rw [kK]
  refine aH (aC (λ_=>?_) (λh=>by omega))
  refine aK hi (λ_=>rfl) (aE rfl (aA rfl (aA rfl (aA rfl (aA rfl ?_)))))
  refine fQ (by simp) (λx hx=>by simp only [List.nil_append,List.mem_cons,List.not_mem_nil,or_false] at hx;rcases hx with rfl | rfl<;>rfl) ?_
  refine aNe zz.1 zz.2 (kO (pR _) (aY ?_))
  have q1 : (v.fr[i].loc++v.fr[i].stk).length≤4194304:=by rw [List.length_append];omega
  have inner : ∀ l : List cB,l.length≤4194304→(∀ y∈l,y.s.size≤2097152)→∀ j,j≤l.length→∀ b,Ok (boxes m v (b=true∧(∀ y∈l.drop j,lE m v.hp.length y)∧(∀ f∈v.fr.drop (i+1),∀ y∈f.loc++f.stk,lE m v.hp.length y)∧(∀ r∈v.hp,∀ y∈r,lE m v.hp.length y)∧lE m v.hp.length v.val)) (fX (.lst (v.fr.map bT.pv)) (.I v.fr.length) (.I i) (.I l.length) (.I j) (.bool b) (.lst (m.texts.map PV.str)) (.lst (m.funcs.map dA.pv)) (.lst (v.fr.map bT.pv)) (.lst (v.hp.map aR)) (.I v.made) (.lst (v.out.map PV.str)) (.I v.st) (.I v.tr) (.I v.val.k) (.I v.val.n) (.str v.val.s) (.I v.steps) (.lst (v.fr.map bT.pv)) (.lst (v.hp.map aR)) (.I v.made) (.lst (v.out.map PV.str)) (.I v.st) (.I v.tr) (.I v.val.k) (.I v.val.n) (.str v.val.s) (.I v.steps) (aS l)):=by
   intro l q1 q2
   refine aBO (n:=l.length) (F:=λj b=>fX (.lst (v.fr.map bT.pv)) (.I v.fr.length) (.I i) (.I l.length) (.I j) (.bool b) (.lst (m.texts.map PV.str)) (.lst (m.funcs.map dA.pv)) (.lst (v.fr.map bT.pv)) (.lst (v.hp.map aR)) (.I v.made) (.lst (v.out.map PV.str)) (.I v.st) (.I v.tr) (.I v.val.k) (.I v.val.n) (.str v.val.s) (.I v.steps) (.lst (v.fr.map bT.pv)) (.lst (v.hp.map aR)) (.I v.made) (.lst (v.out.map PV.str)) (.I v.st) (.I v.tr) (.I v.val.k) (.I v.val.n) (.str v.val.s) (.I v.steps) (aS l)) (P:=λj b=>boxes m v (b=true∧(∀ y∈l.drop j,lE m v.hp.length y)∧(∀ f∈v.fr.drop (i+1),∀ y∈f.loc++f.stk,lE m v.hp.length y)∧(∀ r∈v.hp,∀ y∈r,lE m v.hp.length y)∧lE m v.hp.length v.val)) (λb=>?_) (λj hj ih' b=>?_)
   ·rw [kL]
    exact aH (aC (λh=>by omega) (λ_=>aL (by omega) ((ih b).mono (λr hr=>hr.mono (λh=>⟨h.1,λy hy=>(by rw [List.drop_length] at hy;cases hy),h.2⟩)))))
   ·rw [kL]
    refine aH (aC (λ_=>?_) (λh=>by omega))
    refine iV (by omega) (by omega) (aK hj (λ_=>rfl) (aE rfl (aA rfl (aA rfl (aA rfl (aG (aPu (b:=b) (x:=l[j]) (by omega) (by omega) (q2 _ (List.getElem_mem hj))) (λr hr=>?_)))))))
    rw [hr]
    refine aL (by omega) ((ih' _).mono (λr hr=>hr.mono (λh=>?_)))
    obtain ⟨h1,h2,h3⟩:=h
    rw [Bool.and_eq_true] at h1
    refine ⟨h1.1,λy hy=>?_,h3⟩
    rw [List.drop_eq_getElem_cons hj] at hy
    rcases List.mem_cons.1 hy with rfl | hy
    ·exact h1.2
    ·exact h2 y hy
  refine (inner _ q1 q2 0 (by omega) b).mono (λr hr=>hr.mono (λh=>?_))
  obtain ⟨h1,h2,h3,h4⟩:=h
  refine ⟨h1,λf hf=>?_,h4⟩
  rw [List.drop_eq_getElem_cons hi] at hf
  rcases List.mem_cons.1 hf with rfl | hf
  ·exact h2
  ·exact h3 f hf
 rw [xD]
 exact aD ((frames 0 (by omega) true).mono (λr hr=>hr.mono (λh=>h.2)))
end
section
variable {P : R → Prop} {m : eN}
theorem aPv (g : eO m) {n : Nat} {f : bT} {top : Bool} (hs : f.loc.length≤2097152∧f.stk.length≤2097152) :
 Ok (tC ((∀ y∈f.loc++f.stk,lE m n y)→(top=true→aIp m n f)∧(top=false→aGa m n f))) (tY m.pv (aIs m) (.I f.f) (.I f.pc) (.I f.loc.length) (.I f.stk.length) (.bool top)):=by
 obtain ⟨f1,f2,ff⟩:=g.fit
 rw [aAy]
 refine aE rfl (aA rfl (aA rfl (aD (gT (by omega) (bC (aQ (λ_=>no) (λhb=>?_)))))))
 have hf : 0≤f.f∧f.f<m.funcs.length:=by
  have : lV f.f 0 ((m.funcs.length : Int) - 1)=true:=by simpa using hb
  rw [bH] at this
  omega
 obtain ⟨i,hi,he,hc,F,_⟩:=g.code hf
 have nc:=F.n2
 rw [← hc] at nc
 refine sF hf (aA rfl (bQ (aO (λ_=>no) (λhloc=>sF hf (aA rfl (aD (gT (by omega) (bC (aQ (λ_=>no) (λhb=>?_))))))))))
 have hpc : 0≤f.pc∧f.pc<(dE m.funcs f.f).length:=by
  have : lV f.pc 0 (((dE m.funcs f.f).length : Int) - 1)=true:=by simpa using hb
  rw [bH] at this
  omega
 refine yF hf (iB g hf hpc (aH (aC (λ_=>no) (λhd=>?_))))
 have I : (∀ y∈f.loc++f.stk,lE m n y)→FrI m n f:=λhv=>⟨hf,hpc,hloc,by omega,λy hy=>hv y (List.mem_append_left _ hy),λy hy=>hv y (List.mem_append_right _ hy)⟩
 have dl:=(g.at_ hf hpc (by omega)).2.2.1
 cases top with
 | true=>exact bB (yF hf (iB g hf hpc (aI (yes λh hv=>⟨λ_=>⟨I hv,of_decide_eq_true h⟩,λh=>by cases h⟩))))
 | false=>
   refine aT (aI (aC (λ_=>no) (λh0=>yF hf (bF (by omega) (iB g hf (by omega) (aH (aC (λ_=>no) (λh2=>sF hf (aA rfl (bF (by omega) ?_))))))))))
   have hin : ((dE m.funcs f.f).map cK.pv)[(f.pc - 1).toNat]? = some (tB m f.f (f.pc - 1)).pv:=by
    rw [List.getElem?_map]
    unfold tB
    rw [List.getElem?_eq_getElem (by omega)];rfl
   refine rO (by omega) hin rfl (aA rfl (aI (aC (λh3=>?_) (λ_=>aI (aC (λh3=>?_) (λ_=>no))))))
   ·exact yF hf (iB g hf hpc (bF (by omega) (aI (yes λh hv=>⟨λh=>(by cases h),λ_=>⟨I hv,⟨by omega,by omega,.inl h3⟩,of_decide_eq_true h⟩⟩))))
   ·exact yF hf (iB g hf hpc (bF (by omega) (aI (yes λh hv=>⟨λh=>(by cases h),λ_=>⟨I hv,⟨by omega,by omega,.inr h3⟩,of_decide_eq_true h⟩⟩))))
theorem aOv (g : eO m) {v : eA} (h : v.fine) (b : Bool) : Ok (tC (b=true∧((∀ f∈v.fr,∀ y∈f.loc++f.stk,lE m v.hp.length y)→yY m v.hp.length v.fr 0)∧aEn v)) (kC (aIs m) (.lst (v.fr.map bT.pv)) (.I v.fr.length) (.I 0) (.lst (m.texts.map PV.str)) (.lst (m.funcs.map dA.pv)) (.lst (v.fr.map bT.pv)) (.lst (v.hp.map aR)) (.I v.made) (.lst (v.out.map PV.str)) (.I v.st) (.I v.tr) (.I v.val.k) (.I v.val.n) (.str v.val.s) (.I v.steps) (.bool b)):=by
 have zf:=h.f
 refine aBO (n:=v.fr.length) (F:=λi b=>kC (aIs m) (.lst (v.fr.map bT.pv)) (.I v.fr.length) (.I i) (.lst (m.texts.map PV.str)) (.lst (m.funcs.map dA.pv)) (.lst (v.fr.map bT.pv)) (.lst (v.hp.map aR)) (.I v.made) (.lst (v.out.map PV.str)) (.I v.st) (.I v.tr) (.I v.val.k) (.I v.val.n) (.str v.val.s) (.I v.steps) (.bool b)) (P:=λi b=>tC (b=true∧((∀ f∈v.fr,∀ y∈f.loc++f.stk,lE m v.hp.length y)→yY m v.hp.length v.fr i)∧aEn v)) (λb=>?_) (λi hi ih b=>?_) 0 (by omega) b
 ·rw [pL]
  have hF : (∀ f∈v.fr,∀ y∈f.loc++f.stk,lE m v.hp.length y)→yY m v.hp.length v.fr v.fr.length:=λ_ j hj hij=>by omega
  refine aH (aC (λh=>by omega) (λ_=>aD (fH (vX (λh1=>?_) (λh1=>?_)))))
  ·refine aJU (a:=v.val) (b:=dO) ?_
   generalize hE : (decide (v.val.k=dO.k)&&(decide (v.val.n=dO.n)&&jS v.val.s dO.s))=e
   have he : e=true→v.val=dO:=λh=>aRr (by rw [hE];exact h)
   refine aI (aC (λh0=>aQ (λhb=>aQ (λhv=>aI (yes λht=>⟨hb,hF,.inl ⟨h0,of_decide_eq_true ht,he hv,by omega,by omega⟩⟩)) (λ_=>no)) (λ_=>no)) (λh0=>?_))
   refine aI (aC (λh2=>aQ (λhb=>aQ (λhv=>fH (yes λht=>?_)) (λ_=>no)) (λ_=>no)) (λh2=>?_))
   ·rw [bH] at ht
    exact ⟨hb,hF,.inr (.inl ⟨h2,ht.1,ht.2,he hv,by omega,by omega⟩)⟩
   ·exact aI (aC (λ_=>aQ (λ_=>aD (aI (aC (λh=>by omega) (λ_=>no)))) (λ_=>no)) (λ_=>no))
  ·refine aI (aC (λ_=>aQ (λ_=>no) (λ_=>no)) (λ_=>aI (aC (λ_=>aQ (λ_=>no) (λ_=>no)) (λ_=>?_))))
   refine aI (aC (λh3=>aQ (λhb=>aD (aI (aC (λhl=>aI (yes λht=>?_)) (λ_=>no)))) (λ_=>no)) (λ_=>no))
   exact ⟨hb,hF,.inr (.inr ⟨h3,of_decide_eq_true ht,List.length_eq_zero_iff.1 (by omega)⟩)⟩
 ·rw [pL]
  refine aH (aC (λ_=>?_) (λh=>by omega))
  refine aK hi (λ_=>rfl) (aE rfl (aA rfl (aA rfl (aA rfl (aA rfl (aQ (λhb=>aY (aY (aD (bF (by omega) (aI (aHJ (aPv g (n:=v.hp.length) (f:=v.fr[i]) (h.fl _ (List.getElem_mem hi))) (λc hc=>aX rfl (aL (by omega) ((ih c).mono ?_))))))))) (λhb=>aL (by omega) ((ih false).mono ?_))))))))
  ·rintro r ⟨d,rfl,hd⟩
   refine ⟨d,rfl,λhd'=>?_⟩
   obtain ⟨h1,h2,h3⟩:=hd hd'
   refine ⟨hb,λhv j hj hij=>?_,h3⟩
   by_cases e : i=j
   ·subst e
    have:=hc h1 (hv _ (List.getElem_mem hi))
    exact ⟨λe=>this.1 (decide_eq_true e),λe=>this.2 (decide_eq_false e)⟩
   ·exact h2 hv j hj (by omega)
  ·rintro r ⟨d,rfl,hd⟩
   exact ⟨d,rfl,λhd'=>absurd (hd hd').1 (by simp)⟩
theorem aLz (hs : m.sized) {v : eA} (h : v.fine) : Ok (tC (aBL m v)) (nT m.pv v.pv):=by
 have ho:=h.o
 rw [aDT]
 refine aE rfl (aA rfl (aA rfl (aE rfl (aA rfl (aA rfl (aA rfl (aA rfl (aA rfl (aA rfl (aA rfl (aA rfl (aA rfl (aA rfl (aLm hs (aQ (λhg=>?_) (λ_=>no))))))))))))))))
 have g:=aAg hs hg
 have hfn:=g.fit.2.1
 refine aG (aHH g) (λr hr=>?_)
 rw [hr]
 refine aHJ (A:=VmK m v) ?_ (λb hb=>yes λh=>⟨g,hb h⟩)
 rw [aDV]
 refine aE rfl (aA rfl (aA rfl (aE rfl (aA rfl (aA rfl (aA rfl (aA rfl (aA rfl (aA rfl (aA rfl (aA rfl (aA rfl (aA rfl ?_)))))))))))))
 refine aAi (aPt h.h) (λhA=>aD (fH (bC (aQ (λ_=>no) (λh2=>?_)))))
 refine aD (cN (aC (λ_=>no) (λh3=>fH (bC (aQ (λ_=>no) (λh4=>?_))))))
 have h2 : lV v.made v.hp.length 120=true:=by simpa using h2
 have h4 : lV v.steps 0 50000=true:=by simpa using h4
 rw [bH] at h2 h4
 refine aE2 (by omega) (λs=>!dC s) (λx hx=>?_) (aQ (λ_=>no) (λh6=>?_))
 ·show Ok _ (aBd _)
  rw [aBl]
  refine aG (aB1 (s:=x) (h.outs x hx)) (λr hr=>?_)
  rw [hr]
  exact bC (aB rfl)
 refine aG (aLy (by omega) h hA.1) (λr hr=>?_)
 obtain ⟨b,rfl,hb⟩:=hr
 refine aD ((aOv g h b).mono ?_)
 rintro r ⟨d,rfl,hd⟩
 refine ⟨d,rfl,λhd'=>?_⟩
 obtain ⟨e1,e2,e3⟩:=hd hd'
 obtain ⟨q1,q2,q3⟩:=hb e1
 refine aPo h2 (by omega) h4 q3 (λr hr=>⟨hA.2 r hr,q2 r hr⟩) (λs hs=>?_) e3 (e2 q1)
 rw [List.any_eq_false] at h6
 simpa using h6 s hs
open Classical in
theorem tD (hs : m.sized) {v : eA} (h : v.fine) : Ok (λr=>r = [.bool (decide (aBL m v))]) (nT m.pv v.pv):=by
 obtain ⟨r,e,b,rfl,hb⟩:=(aLz hs h)
 by_cases hk : aBL m v
 ·have:=aJ3 hk.1 hk.2
  rw [decide_eq_true hk];exact this
 ·refine ⟨_,e,?_⟩
  rw [decide_eq_false hk]
  cases b with
  | false=>rfl
  | true=>exact absurd (hb rfl) hk
open Classical in
def aRJ (m : eN) (v : eA) : eA:=if aBL m v then pC m v else vmZ
end
variable {a0 a1 a2 a3 a4 a5 a6 a7 a8 a9 a10 a11 a12 a13 a14 a15 a16 a17 a18 a19 a20 a21 : PV}
theorem aJ9 {m : eN} {n : Nat} {l : List cB} (h : ∀ y∈l,lE m n y) : sG n l:=λy hy=>aNc (h y hy)
theorem aAj {m : eN} (g : eO m) {v : eA} (h : VmI m v) : ∀ f∈v.fr,FrI m v.hp.length f∧f.loc.length≤100∧f.stk.length≤100:=λf hf=>by
 rcases List.eq_nil_or_concat v.fr with h0 | ⟨fs0,f0,h0⟩
 ·rw [h0] at hf;cases hf
 ·obtain ⟨t,l⟩:=h.top fs0 f0 (by rw [h0];simp)
  rw [h0] at hf
  simp only [List.concat_eq_append,List.mem_append,List.mem_singleton] at hf
  rcases hf with hf | rfl
  ·have i:=(l f hf).toFrI
   have:=i.small g
   have:=i.dle g
   have:=(l f hf).h
   exact ⟨i,by omega,by omega⟩
  ·have:=t.toFrI.small g
   have:=t.toFrI.dle g
   have:=t.h
   exact ⟨t.toFrI,by omega,by omega⟩
theorem uH {m : eN} {v : eA} (g : eO m) (k : VmK m v) : sI v:=by
 have hm:=k.hp.made
 refine ⟨by omega,k.nfr,λf hf=>?_,λr hr=>?_,aNc k.vok⟩
 ·obtain ⟨I,s1,s2⟩:=aAj g k.toVmI f hf
  exact ⟨s1,s2,aJ9 I.vl,aJ9 I.vs⟩
 ·obtain ⟨h1,h2⟩:=k.hp.recs r hr
  exact ⟨by omega,aJ9 h2⟩
open Classical in
def aBP (m : eN) (v : eA) : eA:=if aBL m v then eT v else vmZ
theorem aPw {v : eA} (z : Sz v) (L : List Int) : Sz (aLd v L):=by
 refine ⟨?_,?_,z.o,λf hf=>?_,λr hr=>?_⟩
 ·show (v.fr.map (aCt L)).length≤1000
  rw [List.length_map];exact z.f
 ·show (((iP v.hp.length L).map _)).length≤1000
  rw [List.length_map]
  have:=List.length_filter_le (λ(j : Nat)=>decide ((j : Int)∈L)) (List.range v.hp.length)
  rw [List.length_range] at this
  have:=z.h
  unfold iP;omega
 ·obtain ⟨a,ha,rfl⟩:=List.mem_map.1 (show f∈v.fr.map (aCt L) from hf)
  have:=z.fl a ha
  show (a.loc.map _).length≤1000∧(a.stk.map _).length≤1000
  rw [List.length_map,List.length_map];exact this
 ·obtain ⟨i,hi,rfl⟩:=List.mem_map.1 (show r∈(iP v.hp.length L).map (λi=>(v.hp[i]?.getD []).map (lW L)) from hr)
  rw [List.length_map,List.getElem?_eq_getElem (uN.1 hi).1]
  exact z.hl _ (List.getElem_mem _)
section
variable {P : R → Prop} {m : eN}
theorem aQr {v : eA} (g : sI v) (z : Sz v) :
 Ok (λr=>r=dD (eT v)) (mO (.I 0) (fr0 v) (hp0 v) (.I v.made) (yZ v) (.I v.st) (.I v.tr) (.I v.val.k) (.I v.val.n) (.str v.val.s) (.I v.steps) a11 a12 a13 a14 a15 a16 a17 a18 a19 a20 a21 (.lst []) (.lst [])):=by
 have nh:=g.h
 refine cH (n:=v.hp.length) (P:=λ_ r=>r=dD (eT v)) (F:=λi=>mO (.I i) (fr0 v) (hp0 v) (.I v.made) (yZ v) (.I v.st) (.I v.tr) (.I v.val.k) (.I v.val.n) (.str v.val.s) (.I v.steps) a11 a12 a13 a14 a15 a16 a17 a18 a19 a20 a21 (bD (kV i [])) (bD [])) ?_ (λi hi ih=>?_) 0 (by omega)
 ·rw [vR]
  exact aD (aH (aC (λh=>by omega) (λ_=>aQq g z)))
 ·rw [vR]
  have e : kV (i+1) []=kV i []++[-1]:=by
   unfold kV
   rw [List.range_succ,List.map_append];rfl
  refine aD (aH (aC (λ_=>dZ (ys:=[-1]) (by rw [sH];simp;omega) (aL (by omega) ?_)) (λh=>by omega)))
  rw [← e]
  exact ih
open Classical in
theorem aIt (hs : m.sized) {v : eA} (h : v.fine) : Ok (λr=>r=dD (aBP m v)) (zQ m.pv v.pv):=by
 rw [aF1]
 refine aE rfl (aA rfl (aA rfl ?_))
 refine aE rfl (aA rfl (aA rfl (aA rfl (aA rfl (aA rfl (aA rfl (aA rfl (aA rfl (aA rfl (aA rfl (?_)))))))))))
 refine aG (aBM hs h) (λr hr=>?_)
 rw [hr]
 refine bC ?_
 by_cases hk : aBL m v
 ·rw [decide_eq_true hk]
  have e : aBP m v=eT v:=if_pos hk
  rw [e]
  exact aT (aX rfl (aQr (uH hk.1 hk.2) (hk.2.toVmI.sz hk.1)))
 ·rw [decide_eq_false hk]
  have e : aBP m v=vmZ:=if_neg hk
  rw [e]
  exact bB (aB rfl)
end
def jM (L : List Int) (l : List cB) : Prop:=∀ y∈l,y.k=4→y.n∈L
theorem aJc : ∀ {l : List cB} {L : List Int},(iW L l).length≤L.length+l.length
 | [],L=>by simp [iW]
 | a::r,L=>by
   have h:=aJc (l:=r) (L:=iA L a)
   have h2 : (iA L a).length≤L.length+1:=by unfold iA;split<;>simp
   show (iW (iA L a) r).length≤_
   rw [List.length_cons];omega
theorem aOw {x : Int} {f : bT} {L : List Int} (h : x∈L) : x∈xH L f:=sD (sD h)
theorem aFd {x : Int} : ∀ {fs : List bT} {L : List Int},x∈L→x∈fs.foldl xH L
 | [],_,h=>h
 | _::r,_,h=>aFd (fs:=r) (aOw h)
theorem aFe {f : bT} : ∀ {fs : List bT} {L : List Int},f∈fs→jM (fs.foldl xH L) f.loc∧jM (fs.foldl xH L) f.stk
 | a::r,L,h=>by
   rcases List.mem_cons.1 h with rfl | h
   ·exact ⟨λy hy hk=>aFd (fs:=r) (sD (aB9 hk hy)),λy hy hk=>aFd (fs:=r) (aB9 hk hy)⟩
   ·exact aFe (fs:=r) h
section
variable {v : eA}
theorem aLA {H : Nat} : ∀ {fs : List bT} {L : List Int},(∀ f∈fs,sG H f.loc∧sG H f.stk)→yX H L→yX H (fs.foldl xH L)
 | [],_,_,h=>h
 | a::r,L,hf,h=>aLA (fs:=r) (λf h=>hf f (List.mem_cons_of_mem _ h)) (nQ (nQ h (hf a List.mem_cons_self).1) (hf a List.mem_cons_self).2)
theorem aJd (g : sI v) : yX v.hp.length (aBF v):=aEk (aLA (λf hf=>(g.fl f hf).2.2) ⟨List.nodup_nil,(λx h=>by cases h)⟩) g.vl
theorem aFf (g : sI v) : yX v.hp.length (cR v):=aIY (λr hr=>(g.hr r hr).2) (aJd g)
theorem aKa {f : bT} (hf : f∈v.fr) : jM (cR v) f.loc∧jM (cR v) f.stk:=
 ⟨λy hy hk=>aAd (aE9 ((aFe hf).1 y hy hk)),λy hy hk=>aAd (aE9 ((aFe hf).2 y hy hk))⟩
theorem aOx : jM (cR v) [v.val]:=λy hy hk=>by
 rw [List.mem_singleton] at hy;subst hy
 exact aAd (aIX hk)
theorem aMJ (g : sI v) {j : Nat} (hj : j<v.hp.length) (hm : (j : Int)∈cR v) : jM (cR v) v.hp[j]:=λy hy hk=>by
 obtain ⟨p,hp,he⟩:=List.getElem_of_mem hm
 have c:=aCI (H:=v.hp.length) (hp:=v.hp) (λr hr=>(g.hr r hr).2) (d:=v.hp.length) (i:=0) (aJd g) (by omega) (λj hj=>by omega)
 refine c p hp hp y ?_ hk
 show y∈cA v.hp ((cR v)[p]?.getD 0)
 rw [List.getElem?_eq_getElem hp,Option.getD_some,he]
 unfold cA
 rw [Int.toNat_natCast,List.getElem?_eq_getElem hj]
 exact hy
end
section
variable {P : R → Prop} {k : R → OR}
theorem aNn {L : List Int} {y : Int} : L.any (λx=>decide (y=x))=decide (y∈L):=by
 rw [Bool.eq_iff_iff]
 simp
theorem aHL {l : List cB} {L : List Int} (hl : l.length≤2000) (hL : L.length≤2000) : Ok (λr=>r = [bD (iW L l)]) (jH (aS l) (bD L)):=by
 rw [aAB]
 refine aY ?_
 refine vW (n:=l.length) (σ:=List Int) (F:=λi L=>fA (aS l) (.I l.length) (.I i) (bD L)) (λi z=>z=iW L (l.take i)) ?_ ?_ 0 L (by omega) rfl
 ·rintro z rfl
  rw [List.take_length,oY]
  exact aH (aC (λh=>by omega) (λ_=>aB rfl))
 ·rintro i z hi rfl ih
  have hlen:=aJc (l:=l.take i) (L:=L)
  rw [List.length_take] at hlen
  have e : iW L (l.take (i+1))=iA (iW L (l.take i)) l[i]:=by
   rw [List.take_add_one,List.getElem?_eq_getElem hi]
   unfold iW
   rw [List.foldl_append];rfl
  rw [oY]
  refine aH (aC (λ_=>?_) (λh=>by omega))
  refine aK hi (λ_=>rfl) (aE rfl (aA rfl (aA rfl (aA rfl (aI (aC (λh4=>?_) (λh4=>?_)))))))
  ·refine aE7 (by omega) (eR rfl (bC ?_))
   rw [aNn]
   refine aQ (λhb=>?_) (λhb=>?_)
   ·have hm : l[i].n∉iW L (l.take i):=by simpa using hb
    rw [xX]
    refine dZ (l:=[]) (ys:=[l[i].n]) (by simp) (dZ (ys:=[l[i].n]) (by simp;omega) (aL (by omega) (ih _ ?_)))
    rw [e];unfold iA;rw [if_pos ⟨h4,hm⟩]
   ·have hm : l[i].n∈iW L (l.take i):=by simpa using hb
    refine aL (by omega) (ih _ ?_)
    rw [e];unfold iA;rw [if_neg (λh=>h.2 hm)]
  ·refine aL (by omega) (ih _ ?_)
   rw [e];unfold iA;rw [if_neg (λh=>h4 h.1)]
theorem aOy {y : cB} {L : List Int} (hL : L.length≤2000) : Ok (λr=>r = [bD (iA L y)]) (mU (aS [y]) (bD L)):=by
 have last : ∀ {Q : List Int},Q.length≤3000→Ok (λr=>r = [bD Q]) (eF (.I 1) (.I 1) (bD Q) (aS [y])):=λhQ=>by
  rw [nN]
  exact aH (aC (λh=>by omega) (λ_=>aB rfl))
 rw [xY]
 refine aY ?_
 rw [nN]
 refine aH (aC (λ_=>?_) (λh=>by simp at h))
 refine kT (a:=[]) (x:=y.pv) (b:=[]) (n:=0) rfl (iC (a:=[]) (x:=y.pv) (b:=[]) (n:=0) rfl rfl (aE rfl (aA rfl (aA rfl (aA rfl (aI (aC (λh4=>?_) (λh4=>?_))))))))
 ·refine aE7 (by omega) (eR rfl (bC ?_))
  rw [aNn]
  refine aQ (λhb=>?_) (λhb=>?_)
  ·have hm : y.n∉L:=by simpa using hb
   rw [vT]
   refine dZ (l:=[]) (ys:=[y.n]) (by simp) (dZ (ys:=[y.n]) (by simp;omega) (aL (by omega) ?_))
   unfold iA;rw [if_pos ⟨h4,hm⟩]
   exact last (by simp;omega)
  ·have hm : y.n∈L:=by simpa using hb
   refine aL (by omega) ?_
   unfold iA;rw [if_neg (λh=>h.2 hm)]
   exact last (by omega)
 ·refine aL (by omega) ?_
  unfold iA;rw [if_neg (λh=>h4 h.1)]
  exact last (by omega)
theorem aLB {v : eA} (g : sI v) {a1 a3 a4 a5 a6 a7 a8 a9 a10 : PV} : ∀ (d i : Nat) (L : List Int),yX v.hp.length L→v.hp.length≤i+d→
 Ok (λr=>r = [bD (jL v.hp d i L)]) (kF (.I i) a1 (hp0 v) a3 a4 a5 a6 a7 a8 a9 a10 (bD L))
 | 0,i,L,hL,hd=>by
   have h1:=hL.len
   have h2:=g.h
   rw [qB]
   exact cX (aH (aC (λh=>by omega) (λ_=>aB rfl)))
 | d+1,i,L,hL,hd=>by
   have h1:=hL.len
   have h2:=g.h
   rw [qB]
   refine cX (aH (aC (λh=>?_) (λh=>?_)))
   ·have hi : i<L.length:=by omega
    have hx:=hL.lt _ (List.getElem_mem hi)
    obtain ⟨j,hj,he,hf,f1,f2⟩:=zA g hx
    have er : jL v.hp (d+1) i L=jL v.hp d (i+1) (iW L v.hp[j]):=by
     show (if i<L.length then _ else _)=_
     rw [if_pos hi,List.getElem?_eq_getElem hi,Option.getD_some,hf]
    rw [er]
    refine dR (by omega) (by omega) (cY hi ?_)
    rw [he]
    refine aK hj (λ_=>rfl) (aA (y:=aS v.hp[j]) rfl (aG (aHL (by omega) (by omega)) (λr hr=>?_)))
    rw [hr]
    exact aL (by omega) (aLB g d (i+1) (iW L v.hp[j]) (nQ hL f2) (by omega))
   ·have er : jL v.hp (d+1) i L=L:=by
     show (if i<L.length then _ else _)=_
     rw [if_neg (by omega)]
    rw [er]
    exact aB rfl
theorem aEp {v : eA} (g : sI v) : Ok (λr=>r = [bD (cR v)]) (nX v.pv):=by
 have nf:=g.nf
 have nh:=g.h
 rw [aCh]
 refine aE rfl (aA rfl (aA rfl (aA rfl (aA rfl (aA rfl (aA rfl (aA rfl (aA rfl (aA rfl (aA rfl (aD ?_)))))))))))
 refine vW (n:=v.fr.length) (σ:=List Int) (F:=λi L=>kX (fr0 v) (.I v.fr.length) (.I i) (fr0 v) (hp0 v) (.I v.made) (yZ v) (.I v.st) (.I v.tr) (.I v.val.k) (.I v.val.n) (.str v.val.s) (.I v.steps) (bD L)) (λi L=>L=(v.fr.take i).foldl xH []∧yX v.hp.length L) ?_ ?_ 0 [] (by omega) ⟨rfl,⟨List.nodup_nil,(λx h=>by cases h)⟩⟩
 ·rintro L ⟨rfl,hL⟩
  rw [List.take_length] at hL ⊢
  have hlen:=hL.len
  rw [qQ]
  refine aH (aC (λh=>by omega) (λ_=>aG (aOy (y:=v.val) (by omega)) (λr hr=>?_)))
  rw [hr]
  exact aLB g v.hp.length 0 (aBF v) (aEk hL g.vl) (by omega)
 ·rintro i L hi ⟨rfl,hL⟩ ih
  obtain ⟨f1,f2,f3,f4⟩:=g.fl _ (List.getElem_mem hi)
  have hlen:=hL.len
  have hL2:=nQ hL f3
  have hlen2:=hL2.len
  rw [qQ]
  refine aH (aC (λ_=>?_) (λh=>by omega))
  refine aK hi (λ_=>rfl) (aE rfl (aA rfl (aA rfl (aA (y:=aS v.fr[i].loc) rfl (aA (y:=aS v.fr[i].stk) rfl ?_)))))
  refine aG (aHL (by omega) (by omega)) (λr hr=>?_)
  rw [hr]
  refine aG (aHL (by omega) (by omega)) (λr hr=>?_)
  rw [hr]
  refine aL (by omega) (ih _ ⟨?_,nQ hL2 f4⟩)
  rw [List.take_add_one,List.getElem?_eq_getElem hi,List.foldl_append];rfl
theorem aNo : ∀ (l : List Int),aAM (l.map PV.I)=some l
 | []=>rfl
 | a::r=>by simp only [List.map_cons,aAM,aNo r]
theorem aOz {L : List Int} (hL : L.length≤100000) (h : Ok P (k [bD (L.mergeSort λx y=>decide (x≤y))])) : Ok P (bd (qM (.fn 135 [.bx [bD L]])) k):=by
 refine aG (Q:=λr=>r = [bD (L.mergeSort λx y=>decide (x≤y))]) ⟨_,?_,rfl⟩ (λr hr=>by rw [hr];exact h)
 rw [aBm]
 unfold uT bD
 simp only [aNo]
 show (if L.length≤1000000 then some [PV.lst _] else none)=_
 exact if_pos (by omega)
end
section
variable {P : R → Prop} {k : R → OR}
theorem aPx {A B : List Int} {y : Int} (hx : (A++y::B).length≤1000000) (hy : y∉A) (h : Ok P (k [.I A.length])) : Ok P (bd (fN (bD (A++y::B)) (.I y)) k):=by
 refine aG (Q:=λr=>r = [.I A.length]) ?_ (λr hr=>by rw [hr];exact h)
 rw [qA]
 rw [List.length_append,List.length_cons] at hx
 refine cX ?_
 have key:=cH (n:=A.length) (P:=λ_ r=>r = [.I A.length]) (F:=λi=>fO (bD (A++y::B)) (.I y) (.I (A++y::B).length) (.I i)) ?_ (λi hi ih=>?_) 0 (by omega)
 ·exact key
 ·rw [fY]
  refine aH (aC (λ_=>cY (by simp) (aI (aC (λ_=>aB rfl) (λh=>absurd ?_ h)))) (λh=>absurd ?_ h))
  ·simp
  ·simp;omega
 ·rw [fY]
  refine aH (aC (λ_=>cY (by simp;omega) (aI (aC (λh=>?_) (λh=>aL (by omega) ih)))) (λh=>absurd ?_ h))
  ·rw [List.getElem_append_left hi] at h
   exact absurd (h▸List.getElem_mem hi) hy
  ·simp;omega
abbrev rN (H : Nat) (L : List Int) : List Int:=(iP H L).map Int.ofNat
end
section
variable {v : eA}
abbrev aRK (v : eA) (L : List Int) : List (List cB):=(iP v.hp.length L).map λi=>v.hp[i]?.getD []
abbrev aRL (v : eA) (L : List Int) : List (List cB):=(iP v.hp.length L).map λi=>(v.hp[i]?.getD []).map (lW L)
end
section
variable {P : R → Prop} {m : eN}
end
def lU (P : List Int) (v : cB) : cB:=if v.k=4 then ⟨v.k,eG P v.n,v.s⟩ else v
def rnF (P : List Int) (f : bT) : bT:=⟨f.f,f.pc,f.loc.map (lU P),f.stk.map (lU P)⟩
def rnT (P : List Int) (v : eA) : eA:={ v with fr:=v.fr.map (rnF P),hp:=P.map λp=>(cA v.hp p).map (lU P),val:=lU P v.val}
def aEq (v : eA) : eA:={ rnT (cR v) v with steps:=0}
structure Cov (v : eA) (P : List Int) : Prop where
 nd : P.Nodup
 lt : ∀ x∈P,0≤x∧x<v.hp.length
 fr : ∀ f∈v.fr,jM P f.loc∧jM P f.stk
 vl : jM P [v.val]
 hp : ∀ p∈P,jM P (cA v.hp p)
theorem aEr {P : List Int} {x : Int} (h : x∈P) : eG P x=(P.idxOf x : Nat)∧P.idxOf x<P.length:=⟨if_pos h,List.idxOf_lt_length_of_mem h⟩
theorem aNp {P : List Int} {x y : Int} (hx : x∈P) (hy : y∈P) (h : eG P x=eG P y) : x=y:=by
 obtain ⟨h1,h2⟩:=aEr hx
 obtain ⟨h3,h4⟩:=aEr hy
 rw [h1,h3] at h
 have e : P.idxOf x=P.idxOf y:=by omega
 have a:=List.getElem_idxOf h2
 have b:=List.getElem_idxOf h4
 rw [← a,← b]
 simp only [e]
theorem aGm {P Q : List Int} (hQ : ∀ q∈Q,q∈P) {x : Int} (hx : x∈P) : (eG P x∈Q.map (eG P))↔x∈Q:=by
 rw [List.mem_map]
 constructor
 ·rintro ⟨q,h1,h2⟩
  have:=aNp (hQ q h1) hx h2
  rw [← this];exact h1
 ·intro h;exact ⟨x,h,rfl⟩
theorem aNq {P : List Int} : ∀ {Q : List Int},(∀ q∈Q,q∈P)→∀ {x : Int},x∈P→(Q.map (eG P)).idxOf (eG P x)=Q.idxOf x
 | [],_,_,_=>rfl
 | a::r,h,x,hx=>by
   rw [List.map_cons,List.idxOf_cons,List.idxOf_cons]
   have ih:=aNq (Q:=r) (λq hq=>h q (List.mem_cons_of_mem _ hq)) hx
   by_cases e : a=x
   ·subst e;simp
   ·have e2 : eG P a≠eG P x:=λk=>e (aNp (h a List.mem_cons_self) hx k)
    have b1 : (eG P a==eG P x)=false:=by simpa using e2
    have b2 : (a==x)=false:=by simpa using e
    rw [b1,b2,ih]
theorem aQs {P Q : List Int} (hQ : ∀ q∈Q,q∈P) {x : Int} (hx : x∈P) : eG (Q.map (eG P)) (eG P x)=eG Q x:=by
 have h1 : eG (Q.map (eG P)) (eG P x)=if eG P x∈Q.map (eG P) then (((Q.map (eG P)).idxOf (eG P x) : Nat) : Int) else -1:=rfl
 rw [h1]
 by_cases h : x∈Q
 ·rw [if_pos ((aGm hQ hx).2 h),aNq hQ hx]
  unfold eG;rw [if_pos h]
 ·rw [if_neg (λk=>h ((aGm hQ hx).1 k))]
  unfold eG;rw [if_neg h]
theorem aOA {L P : List Int} (h : L.Nodup) (hs : ∀ x∈L,x∈P) : L.length≤P.length:=List.Nodup.length_le_of_subset h hs
section
variable {P : List Int}
structure Am (P L : List Int) : Prop where
 nd : L.Nodup
 sub : ∀ x∈L,x∈P
theorem Am.len {L : List Int} (h : Am P L) : L.length≤P.length:=aOA h.nd h.sub
theorem aHN {L : List Int} {v : cB} (h : Am P L) (hv : v.k=4→v.n∈P) : Am P (iA L v):=by
 unfold iA;split
 ·rename_i q
  refine ⟨List.nodup_append.2 ⟨h.nd,by simp,λa ha b hb=>?_⟩,λx hx=>?_⟩
  ·simp at hb;subst hb;rintro rfl;exact q.2 ha
  ·rcases List.mem_append.1 hx with hx | hx
   ·exact h.sub x hx
   ·simp at hx;subst hx;exact hv q.1
 ·exact h
theorem tE : ∀ {l : List cB} {L : List Int},Am P L→jM P l→Am P (iW L l)
 | [],_,h,_=>h
 | v::r,_,h,hv=>tE (l:=r) (aHN h (hv v List.mem_cons_self)) (λx hx=>hv x (List.mem_cons_of_mem _ hx))
theorem aLC {L : List Int} {v : cB} (h : Am P L) (hv : v.k=4→v.n∈P) : iA (L.map (eG P)) (lU P v)=(iA L v).map (eG P):=by
 unfold iA lU
 by_cases hk : v.k=4
 ·rw [if_pos hk]
  by_cases hm : v.n∈L
  ·rw [if_neg (λk=>k.2 ((aGm h.sub (hv hk)).2 hm)),if_neg (λk=>k.2 hm)]
  ·rw [if_pos ⟨hk,λk=>hm ((aGm h.sub (hv hk)).1 k)⟩,if_pos ⟨hk,hm⟩,List.map_append];rfl
 ·rw [if_neg hk,if_neg (λk=>hk k.1),if_neg (λk=>hk k.1)]
theorem aEs : ∀ {l : List cB} {L : List Int},Am P L→jM P l→iW (L.map (eG P)) (l.map (lU P))=(iW L l).map (eG P)
 | [],_,_,_=>rfl
 | v::r,L,h,hv=>by
   show iW (iA (L.map (eG P)) (lU P v)) (r.map (lU P))=_
   rw [aLC h (hv v List.mem_cons_self)]
   exact aEs (l:=r) (aHN h (hv v List.mem_cons_self)) (λx hx=>hv x (List.mem_cons_of_mem _ hx))
theorem aHO : ∀ {fs : List bT} {L : List Int},Am P L→(∀ f∈fs,jM P f.loc∧jM P f.stk)→Am P (fs.foldl xH L)
 | [],_,h,_=>h
 | f::r,_,h,hf=>aHO (fs:=r) (tE (tE h (hf f List.mem_cons_self).1) (hf f List.mem_cons_self).2) (λx hx=>hf x (List.mem_cons_of_mem _ hx))
theorem aLD : ∀ {fs : List bT} {L : List Int},Am P L→(∀ f∈fs,jM P f.loc∧jM P f.stk)→(fs.map (rnF P)).foldl xH (L.map (eG P))=(fs.foldl xH L).map (eG P)
 | [],_,_,_=>rfl
 | f::r,L,h,hf=>by
   have h1:=tE h (hf f List.mem_cons_self).1
   show (r.map (rnF P)).foldl xH (iW (iW (L.map (eG P)) (f.loc.map (lU P))) (f.stk.map (lU P)))=_
   rw [aEs h (hf f List.mem_cons_self).1,aEs h1 (hf f List.mem_cons_self).2]
   exact aLD (fs:=r) (tE h1 (hf f List.mem_cons_self).2) (λx hx=>hf x (List.mem_cons_of_mem _ hx))
theorem aMK : Am P []:=⟨List.nodup_nil,λx h=>by cases h⟩
theorem aFL {hp : List (List cB)} (hc : ∀ p∈P,jM P (cA hp p)) : ∀ {d d' i : Nat} {L : List Int},Am P L→P.length≤i+d→P.length≤i+d'→jL hp d i L=jL hp d' i L
 | 0,0,_,_,_,_,_=>rfl
 | 0,d'+1,i,L,h,h1,h2=>by
   have:=h.len
   show L=if i<L.length then _ else L
   rw [if_neg (by omega)]
 | d+1,0,i,L,h,h1,h2=>by
   have:=h.len
   show (if i<L.length then _ else L)=L
   rw [if_neg (by omega)]
 | d+1,d'+1,i,L,h,h1,h2=>by
   show (if i<L.length then _ else L)=if i<L.length then _ else L
   by_cases hi : i<L.length
   ·rw [if_pos hi,if_pos hi,List.getElem?_eq_getElem hi,Option.getD_some]
    exact aFL hc (tE h (hc _ (h.sub _ (List.getElem_mem hi)))) (by omega) (by omega)
   ·rw [if_neg hi,if_neg hi]
theorem aJe {hp : List (List cB)} (hc : ∀ p∈P,jM P (cA hp p)) : ∀ {d i : Nat} {L : List Int},Am P L→Am P (jL hp d i L)
 | 0,_,_,h=>h
 | d+1,i,L,h=>by
   show Am P (if i<L.length then _ else L)
   by_cases hi : i<L.length
   ·rw [if_pos hi,List.getElem?_eq_getElem hi,Option.getD_some]
    exact aJe hc (tE h (hc _ (h.sub _ (List.getElem_mem hi))))
   ·rw [if_neg hi];exact h
theorem aJf {v : eA} {p : Int} (hp : p∈P) : cA (rnT P v).hp (eG P p)=(cA v.hp p).map (lU P):=by
 obtain ⟨h1,h2⟩:=aEr hp
 rw [h1]
 show (((P.map λp=>(cA v.hp p).map (lU P))[((P.idxOf p : Nat) : Int).toNat]?).getD [])=_
 rw [Int.toNat_natCast,List.getElem?_map,List.getElem?_eq_getElem h2,List.getElem_idxOf h2];rfl
theorem aJg {v : eA} (hc : ∀ p∈P,jM P (cA v.hp p)) : ∀ {d i : Nat} {L : List Int},Am P L→jL (rnT P v).hp d i (L.map (eG P))=(jL v.hp d i L).map (eG P)
 | 0,_,_,_=>rfl
 | d+1,i,L,h=>by
   show (if i<(L.map (eG P)).length then _ else _)=(if i<L.length then _ else _ : List Int).map _
   rw [List.length_map]
   by_cases hi : i<L.length
   ·have hm:=h.sub _ (List.getElem_mem hi)
    rw [if_pos hi,if_pos hi,List.getElem?_map,List.getElem?_eq_getElem hi]
    simp only [Option.map_some,Option.getD_some]
    rw [aJf hm,aEs h (hc _ hm)]
    exact aJg hc (tE h (hc _ hm))
   ·rw [if_neg hi,if_neg hi]
variable {v : eA}
theorem Cov.am0 (c : Cov v P) : Am P (aBF v):=aHN (aHO aMK c.fr) (λhk=>c.vl _ List.mem_cons_self hk)
theorem Cov.amT (c : Cov v P) : Am P (cR v):=aJe c.hp c.am0
theorem Cov.len (c : Cov v P) : P.length≤v.hp.length:=yX.len ⟨c.nd,c.lt⟩
theorem aLE (c : Cov v P) : cR (rnT P v)=(cR v).map (eG P):=by
 have hl:=c.len
 have e0 : aBF (rnT P v)=(aBF v).map (eG P):=by
  show iA ((v.fr.map (rnF P)).foldl xH []) (lU P v.val)=_
  have:=aLD (P:=P) (L:=[]) aMK c.fr
  rw [List.map_nil] at this
  rw [this,aLC (aHO aMK c.fr) (λhk=>c.vl _ List.mem_cons_self hk)]
  rfl
 show jL (rnT P v).hp (P.map λp=>(cA v.hp p).map (lU P)).length 0 (aBF (rnT P v))=_
 rw [e0,List.length_map,aJg c.hp c.am0,aFL c.hp (d':=v.hp.length) c.am0 (by omega) (by omega)]
 rfl
theorem aNr {Q : List Int} (hQ : ∀ q∈Q,q∈P) {y : cB} (hy : y.k=4→y.n∈P) : lU (Q.map (eG P)) (lU P y)=lU Q y:=by
 unfold lU
 by_cases hk : y.k=4
 ·rw [if_pos hk]
  show (if y.k=4 then _ else _)=_
  rw [if_pos hk,if_pos hk,aQs hQ (hy hk)]
 ·rw [if_neg hk,if_neg hk,if_neg hk]
theorem aKb {Q : List Int} (hQ : ∀ q∈Q,q∈P) {l : List cB} (hy : jM P l) : (l.map (lU P)).map (lU (Q.map (eG P)))=l.map (lU Q):=by
 rw [List.map_map]
 exact List.map_congr_left (λy h=>aNr hQ (hy y h))
theorem aRt (c : Cov v P) {Q : List Int} (hQ : ∀ q∈Q,q∈P) : rnT (Q.map (eG P)) (rnT P v)=rnT Q v:=by
 have e1 : ((v.fr.map (rnF P)).map (rnF (Q.map (eG P))))=v.fr.map (rnF Q):=by
  rw [List.map_map]
  refine List.map_congr_left (λf hf=>?_)
  show bT.mk _ _ _ _=bT.mk _ _ _ _
  have h:=c.fr f hf
  show bT.mk f.f f.pc ((f.loc.map (lU P)).map _) ((f.stk.map (lU P)).map _)=bT.mk f.f f.pc _ _
  rw [aKb hQ h.1,aKb hQ h.2]
 have e2 : (Q.map (eG P)).map (λp=>(cA (rnT P v).hp p).map (lU (Q.map (eG P))))=Q.map λp=>(cA v.hp p).map (lU Q):=by
  rw [List.map_map]
  refine List.map_congr_left (λq hq=>?_)
  show (cA (rnT P v).hp (eG P q)).map _=_
  rw [aJf (hQ q hq),aKb hQ (c.hp q (hQ q hq))]
 have e3 : lU (Q.map (eG P)) (lU P v.val)=lU Q v.val:=aNr hQ (λhk=>c.vl _ List.mem_cons_self hk)
 show eA.mk ((v.fr.map (rnF P)).map (rnF (Q.map (eG P)))) ((Q.map (eG P)).map (λp=>(cA (rnT P v).hp p).map (lU (Q.map (eG P))))) _ _ _ _ (lU (Q.map (eG P)) (lU P v.val)) _=eA.mk _ _ _ _ _ _ _ _
 rw [e1,e2,e3]
 rfl
theorem aQ7 (c : Cov v P) : aEq (rnT P v)=aEq v:=by
 unfold aEq
 rw [aLE c,aRt c c.amT.sub]
end
section
variable {v : eA} {m : eN}
theorem aNs {hp : List (List cB)} {i : Nat} : cA hp (i : Int)=hp[i]?.getD []:=by unfold cA;rw [Int.toNat_natCast]
theorem aCa (g : sI v) : Cov v (cR v):=by
 have h:=aFf g
 refine ⟨h.nd,h.lt,λf hf=>aKa hf,aOx,λp hp=>?_⟩
 have hx:=h.lt p hp
 obtain ⟨j,hj,rfl,hf,_,_⟩:=zA g hx
 rw [hf]
 exact aMJ g hj hp
theorem uO {H : Nat} {L : List Int} {x : Int} : x∈rN H L↔(0≤x∧x<H)∧x∈L:=by
 unfold rN
 rw [List.mem_map]
 constructor
 ·rintro ⟨i,hi,rfl⟩
  obtain ⟨h1,h2⟩:=uN.1 hi
  exact ⟨⟨by show (0 : Int)≤(i : Int);omega,by show (i : Int)<H;omega⟩,h2⟩
 ·rintro ⟨h1,h2⟩
  obtain ⟨i,rfl⟩:=Int.eq_ofNat_of_zero_le h1.1
  exact ⟨i,uN.2 ⟨by omega,h2⟩,rfl⟩
theorem aCb {L M : List Int} (h : ∀ x∈L,x∈M) {l : List cB} (hn : jM L l) : jM M l:=λy hy hk=>h _ (hn y hy hk)
theorem aML (H : Nat) (L : List Int) : (rN H L).Nodup:=by
 show List.Pairwise _ _
 rw [List.pairwise_map]
 exact List.Pairwise.imp (λh e=>h (Int.ofNat.inj e)) (List.Pairwise.filter _ List.nodup_range : (iP H L).Pairwise (·≠·))
theorem aEt (g : sI v) : Cov v (rN v.hp.length (cR v)):=by
 have c:=aCa g
 have hs : ∀ x∈cR v,x∈rN v.hp.length (cR v):=λx hx=>uO.2 ⟨c.lt x hx,hx⟩
 exact ⟨aML _ _,λx hx=>(uO.1 hx).1,λf hf=>⟨aCb hs (c.fr f hf).1,aCb hs (c.fr f hf).2⟩,aCb hs c.vl,λp hp=>aCb hs (c.hp p (uO.1 hp).2)⟩
theorem aPy {H : Nat} {L : List Int} {x : Int} (h : 0≤x∧x<H) (hm : x∈L) : eG (rN H L) x=aAL L x.toNat:=by
 obtain ⟨i,rfl⟩:=Int.eq_ofNat_of_zero_le h.1
 obtain ⟨r,hr⟩:=aLe (H:=H) (L:=L) (i:=i) (by omega) hm
 have e : rN H L=rN i L++(i : Int)::r.map Int.ofNat:=by
  unfold rN
  rw [hr,List.map_append];rfl
 have hn : (i : Int)∉rN i L:=λk=>by have:=(uO.1 k).1;omega
 unfold eG
 rw [if_pos (uO.2 ⟨h,hm⟩),e,List.idxOf_append,if_neg hn,List.idxOf_cons_self]
 unfold aAL
 rw [List.length_map,Int.toNat_natCast];simp
theorem aNt {H : Nat} {L : List Int} {y : cB} (h : y.k=4→(0≤y.n∧y.n<H)∧y.n∈L) : lW L y=lU (rN H L) y:=by
 unfold lW lU
 by_cases hk : y.k=4
 ·rw [if_pos hk,if_pos hk,aPy (h hk).1 (h hk).2]
 ·rw [if_neg hk,if_neg hk]
theorem aKc {H : Nat} {L : List Int} {l : List cB} (hr : ∀ x∈L,0≤x∧x<H) (h : jM L l) : l.map (lW L)=l.map (lU (rN H L)):=
 List.map_congr_left (λy hy=>aNt (λhk=>⟨hr _ (h y hy hk),h y hy hk⟩))
theorem aGn (g : sI v) : eT v=rnT (rN v.hp.length (cR v)) v:=by
 have c:=aCa g
 have e1 : v.fr.map (aCt (cR v))=v.fr.map (rnF (rN v.hp.length (cR v))):=List.map_congr_left (λf hf=>by
  show bT.mk f.f f.pc (f.loc.map _) (f.stk.map _)=bT.mk f.f f.pc (f.loc.map _) (f.stk.map _)
  rw [aKc c.lt (c.fr f hf).1,aKc c.lt (c.fr f hf).2])
 have e2 : ((iP v.hp.length (cR v)).map λi=>(v.hp[i]?.getD []).map (lW (cR v)))=(rN v.hp.length (cR v)).map λp=>(cA v.hp p).map (lU (rN v.hp.length (cR v))):=by
  rw [List.map_map]
  refine List.map_congr_left (λi hi=>?_)
  show _=(cA v.hp (i : Int)).map _
  have hm:=(uN.1 hi).2
  have hn:=c.hp _ hm
  rw [aNs] at hn ⊢
  exact aKc c.lt hn
 have e3 : lW (cR v) v.val=lU (rN v.hp.length (cR v)) v.val:=aNt (λhk=>⟨c.lt _ (c.vl _ List.mem_cons_self hk),c.vl _ List.mem_cons_self hk⟩)
 show eA.mk (v.fr.map (aCt (cR v))) ((iP v.hp.length (cR v)).map λi=>(v.hp[i]?.getD []).map (lW (cR v))) _ _ _ _ (lW (cR v) v.val) _=eA.mk _ _ _ _ _ _ _ _
 rw [e1,e2,e3]
theorem aPz (g : sI v) : aEq (eT v)=aEq v:=by
 rw [aGn g];exact aQ7 (aEt g)
theorem aPA (g : sI v) : (eT v).hp.length=(aEq v).hp.length:=by
 have h:=aFf g
 show ((iP v.hp.length (cR v)).map _).length=((cR v).map _).length
 rw [List.length_map,List.length_map]
 have:=congrArg List.length (aFK h)
 rw [List.length_mergeSort,List.length_map] at this
 omega
theorem aQ8 {L : List Int} {n : Nat} (h : ∀ i : Nat,i<n→(i : Int)∈L) : iP n L=List.range n∧∀ i : Nat,i<n→aAL L i=i:=by
 have e : ∀ k : Nat,k≤n→iP k L=List.range k:=λk hk=>by
  unfold iP
  rw [List.filter_eq_self]
  intro a ha
  exact decide_eq_true (h a (by have:=List.mem_range.1 ha;omega))
 refine ⟨e n (by omega),λi hi=>?_⟩
 unfold aAL
 rw [e i (by omega),List.length_range]
theorem aOB (g : sI v) : eT (eT v)=eT v:=by
 have c:=aEt g
 have e:=aGn g
 generalize hK : rN v.hp.length (cR v)=K at *
 have hsub : ∀ x∈K,x∈cR v:=λx hx=>by rw [← hK] at hx;exact (uO.1 hx).2
 have er : cR (eT v)=(cR v).map (eG K):=by rw [e];exact aLE c
 have hlen : (eT v).hp.length=K.length:=by rw [e];exact List.length_map _
 have hall : ∀ i : Nat,i<K.length→(i : Int)∈cR (eT v):=λi hi=>by
  rw [er]
  refine List.mem_map.2 ⟨K[i],hsub _ (List.getElem_mem hi),?_⟩
  unfold eG
  rw [if_pos (List.getElem_mem hi)]
  have:=List.Nodup.idxOf_getElem c.nd i hi
  omega
 obtain ⟨k1,k2⟩:=aQ8 hall
 have hV : ∀ y : cB,(y.k=4→y.n∈K)→lW (cR (eT v)) (lU K y)=lU K y:=λy hy=>by
  unfold lU
  by_cases hk : y.k=4
  ·rw [if_pos hk]
   obtain ⟨h1,h2⟩:=aEr (hy hk)
   unfold lW
   rw [if_pos hk]
   show cB.mk y.k (aAL _ (eG K y.n).toNat) y.s=_
   rw [h1,Int.toNat_natCast,k2 _ h2]
  ·rw [if_neg hk]
   unfold lW
   rw [if_neg hk]
 have hL : ∀ l : List cB,jM K l→(l.map (lU K)).map (lW (cR (eT v)))=l.map (lU K):=λl h=>by
  rw [List.map_map]
  exact List.map_congr_left (λy hy=>hV y (h y hy))
 have e1 : (eT v).fr.map (aCt (cR (eT v)))=(eT v).fr:=by
  have : (eT v).fr=v.fr.map (rnF K):=by rw [e];rfl
  rw [this,List.map_map]
  refine List.map_congr_left (λf hf=>?_)
  show bT.mk f.f f.pc ((f.loc.map (lU K)).map _) ((f.stk.map (lU K)).map _)=bT.mk f.f f.pc _ _
  rw [hL _ (c.fr f hf).1,hL _ (c.fr f hf).2]
 have e2 : ((iP (eT v).hp.length (cR (eT v))).map λi=>((eT v).hp[i]?.getD []).map (lW (cR (eT v))))=(eT v).hp:=by
  rw [hlen,k1]
  have hh : (eT v).hp=K.map λp=>(cA v.hp p).map (lU K):=by rw [e];rfl
  apply List.ext_getElem
  ·rw [List.length_map,List.length_range,hlen]
  ·intro i h1 h2
   rw [List.length_map,List.length_range] at h1
   rw [List.getElem_map,List.getElem_range,List.getElem?_eq_getElem h2,Option.getD_some]
   have : (eT v).hp[i]=(cA v.hp K[i]).map (lU K):=by simp only [hh,List.getElem_map]
   rw [this]
   exact hL _ (c.hp _ (List.getElem_mem h1))
 have e3 : lW (cR (eT v)) (eT v).val=(eT v).val:=by
  have : (eT v).val=lU K v.val:=by rw [e];rfl
  rw [this]
  exact hV _ (λhk=>c.vl _ List.mem_cons_self hk)
 show eA.mk ((eT v).fr.map (aCt (cR (eT v)))) ((iP (eT v).hp.length (cR (eT v))).map λi=>((eT v).hp[i]?.getD []).map (lW (cR (eT v)))) _ _ _ _ (lW (cR (eT v)) (eT v).val) _=_
 rw [e1,e2,e3]
theorem aKd {P : List Int} {n : Nat} {y : cB} (h : lE m n y) (hy : y.k=4→y.n∈P) : lE m P.length (lU P y):=by
 unfold lU
 by_cases hk : y.k=4
 ·rw [if_pos hk]
  obtain ⟨h1,h2⟩:=aEr (hy hk)
  unfold lE cD at h ⊢
  dsimp only
  split at h
  ·cases h
  ·rename_i hs
   rw [if_neg hs,if_neg (by omega),if_neg (by omega),if_neg (by omega),if_neg (by omega),if_pos hk]
   simp only [Bool.and_eq_true,decide_eq_true_eq]
   omega
 ·rw [if_neg hk]
  unfold lE cD at h ⊢
  rw [if_neg hk] at h ⊢
  exact h
theorem FrI.rn {P : List Int} {n : Nat} {f : bT} (i : FrI m n f) (h1 : jM P f.loc) (h2 : jM P f.stk) : FrI m P.length (rnF P f):=
 ⟨i.fi,i.pc,by show ((f.loc.map _).length : Int)=_;rw [List.length_map];exact i.loc,i.d,
  λy hy=>by obtain ⟨a,ha,rfl⟩:=List.mem_map.1 (show y∈f.loc.map (lU P) from hy);exact aKd (i.vl a ha) (h1 a ha),
  λy hy=>by obtain ⟨a,ha,rfl⟩:=List.mem_map.1 (show y∈f.stk.map (lU P) from hy);exact aKd (i.vs a ha) (h2 a ha)⟩
theorem VmK.rn {P : List Int} (k : VmK m v) (c : Cov v P) : VmK m (rnT P v):=by
 have hl:=c.len
 have hm:=k.hp.made
 have hlen : (rnT P v).hp.length=P.length:=List.length_map _
 refine ⟨⟨⟨?_,λr hr=>?_,k.hp.out⟩,k.steps,?_,λh0=>?_,λfs0 f hf=>?_⟩,k.outs,?_,?_⟩
 ·rw [hlen];exact ⟨by have:=hm.1;show (P.length : Int)≤v.made;omega,hm.2⟩
 ·rw [hlen]
  obtain ⟨p,hp,rfl⟩:=List.mem_map.1 (show r∈P.map (λp=>(cA v.hp p).map (lU P)) from hr)
  have hx:=c.lt p hp
  have hn:=c.hp p hp
  obtain ⟨j,rfl⟩:=Int.eq_ofNat_of_zero_le hx.1
  have hj : j<v.hp.length:=by omega
  have e : cA v.hp (j : Int)=v.hp[j]:=by rw [aNs,List.getElem?_eq_getElem hj];rfl
  rw [e] at hn ⊢
  obtain ⟨q1,q2⟩:=k.hp.recs _ (List.getElem_mem hj)
  refine ⟨by rw [List.length_map];exact q1,λy hy=>?_⟩
  obtain ⟨a,ha,rfl⟩:=List.mem_map.1 hy
  exact aKd (q2 a ha) (hn a ha)
 ·show (v.fr.map _).length≤24
  rw [List.length_map];exact k.nfr
 ·show v.fr.map (rnF P)≠[]
  intro e
  exact k.run h0 (List.map_eq_nil_iff.1 e)
 ·rw [hlen]
  have hf : v.fr.map (rnF P)=fs0++[f]:=hf
  obtain ⟨l1,l2,e0,rfl,e2⟩:=List.map_eq_append_iff.1 hf
  obtain ⟨a,r,rfl,rfl,e4⟩:=List.map_eq_cons_iff.1 e2
  cases List.map_eq_nil_iff.1 e4
  obtain ⟨t,low⟩:=k.top l1 a e0
  have ca:=c.fr a (by rw [e0];simp)
  refine ⟨⟨t.toFrI.rn ca.1 ca.2,by show ((a.stk.map _).length : Int)=_;rw [List.length_map];exact t.h⟩,λb hb=>?_⟩
  obtain ⟨b,hb2,rfl⟩:=List.mem_map.1 hb
  have cb:=c.fr b (by rw [e0];exact List.mem_append_left _ hb2)
  have lo:=low b hb2
  exact ⟨lo.toFrI.rn cb.1 cb.2,lo.low,by show ((b.stk.map _).length : Int)=_;rw [List.length_map];exact lo.h⟩
 ·rw [hlen];exact aKd k.vok (λhk=>c.vl _ List.mem_cons_self hk)
 ·have hv : v.val=dO→lU P v.val=dO:=λh=>by rw [h];rfl
  have hf : v.fr = []→v.fr.map (rnF P) = []:=λh=>by rw [h];rfl
  rcases k.end_ with ⟨a,b,d⟩ | ⟨a,b,d,e,f⟩ | ⟨a,b,d⟩
  ·exact .inl ⟨a,b,hv d⟩
  ·exact .inr (.inl ⟨a,b,d,hv e,λh=>f (List.map_eq_nil_iff.1 h)⟩)
  ·exact .inr (.inr ⟨a,b,hf d⟩)
theorem VmK.can (g : eO m) (k : VmK m v) : VmK m (aEq v):=by
 have r:=k.rn (aCa (uH g k))
 exact ⟨⟨r.hp,⟨Int.le_refl 0,by show (0 : Int)≤50000;omega⟩,r.nfr,r.run,r.top⟩,r.outs,r.vok,r.end_⟩
theorem VmK.coll (g : eO m) (k : VmK m v) : VmK m (eT v):=by
 have gg:=uH g k
 rw [aGn gg]
 exact k.rn (aEt gg)
end
def Nm (P : List Int) (y : cB) : Prop:=y.k=4→y.n∈P
def rnH (P : List Int) (hp : List (List cB)) : List (List cB):=P.map λp=>(cA hp p).map (lU P)
def rnA (P : List Int) : aEe→aEe
 | .trap c=>.trap c
 | .next fr hp made out=>.next (rnF P fr) (rnH P hp) made out
 | .call fr g=>.call (rnF P fr) (rnF P g)
 | .ret a=>.ret (lU P a)
def NmF (P : List Int) (f : bT) : Prop:=jM P f.loc∧jM P f.stk
structure Pl (P : List Int) (hp : List (List cB)) : Prop where
 nd : P.Nodup
 lt : ∀ x∈P,0≤x∧x<hp.length
 hp : ∀ p∈P,jM P (cA hp p)
def okA (P : List Int) : aEe→Prop
 | .trap _=>True
 | .next fr hp _ _=>NmF P fr∧Pl P hp
 | .call fr g=>NmF P fr∧NmF P g
 | .ret a=>Nm P a
def Res (P : List Int) (H : Nat) (D D' : aEe) : Prop:=(okA P D∧D'=rnA P D)∨((∃ fr hp made out,D = .next fr hp made out)∧okA (P++[(H : Int)]) D∧D'=rnA (P++[(H : Int)]) D)
section
variable {P : List Int} {H : Nat} {hp : List (List cB)}
end
section
variable {P : List Int} {hp : List (List cB)}
theorem Pl.len (h : Pl P hp) : P.length≤hp.length:=yX.len ⟨h.nd,h.lt⟩
end
section
variable {P : List Int} {v : eA} {m : eN}
end
section
variable {v : eA}
end
theorem aLF {s : ByteArray} (h : dC s=true) : s.size≤60:=by
 unfold dC at h
 simp only [Bool.and_eq_true,decide_eq_true_eq] at h
 omega
theorem VmK.tofine {m : eN} {v : eA} (g : eO m) (k : VmK m v) : v.fine:=by
 have z:=k.toVmI.sz g
 refine ⟨z.few,?_,λs hs=>?_,λf hf y hy=>?_,λr hr y hy=>?_⟩
 ·have:=bM k.vok;omega
 ·have:=aLF (k.outs s hs);omega
 ·obtain ⟨I,_,_⟩:=aAj g k.toVmI f hf
  rcases List.mem_append.1 hy with hy | hy
  ·have:=bM (I.vl y hy);omega
  ·have:=bM (I.vs y hy);omega
 ·have:=bM ((k.hp.recs r hr).2 y hy);omega
variable {a0 a1 a2 a3 a4 a5 a6 a7 a8 a9 a10 a11 a12 a13 a14 a15 a16 a17 a18 a19 a20 a21 a22 a23 a24 a25 a26 a27 a28 a29 : PV}
section
variable {P : R → Prop} {k : R → OR}
theorem aLG {Q : List Int} {y : Int} (hH : Q.length≤1000) (hm : y∈Q) (h : Ok P (k [.I (eG Q y)])) : Ok P (bd (fN (bD Q) (.I y)) k):=by
 obtain ⟨A,B,e,hn⟩:=List.eq_append_cons_of_mem hm
 have ep : eG Q y=A.length:=by
  unfold eG
  rw [if_pos hm,e,List.idxOf_append,if_neg hn,List.idxOf_cons_self];simp
 rw [ep] at h
 have hl : (A++y::B).length≤1000000:=by rw [← e];omega
 rw [e]
 exact aPx hl hn h
theorem aEu {Q : List Int} {l : List cB} (hH : Q.length≤1000) (hl : l.length≤2000) (hn : jM Q l) : Ok (λr=>r = [bD (Q),aS (l.map (lU Q))]) (gZ (bD (Q)) (aS l)):=by
 rw [aBr]
 refine aY ?_
 have key:=cH (n:=l.length) (P:=λ_ r=>r = [bD (Q),aS (l.map (lU Q))]) (F:=λi=>gR (.I l.length) (.I i) (bD (Q)) (.lst (((l.take i).map (lU Q)).map cB.pv++(l.drop i).map cB.pv))) ?_ (λi hi ih=>?_) 0 (by omega)
 ·simpa [aS] using key
 ·rw [qC]
  refine aH (aC (λh=>by omega) (λ_=>aB ?_))
  simp [aS]
 ·rw [qC]
  have hlen : ((i : Nat) : Int)=(((l.take i).map (lU Q)).map cB.pv).length:=by simp;omega
  have e : ((l.take (i+1)).map (lU Q)).map cB.pv=((l.take i).map (lU Q)).map cB.pv++[(lU Q l[i]).pv]:=by
   rw [List.take_add_one,List.getElem?_eq_getElem hi,List.map_append,List.map_append];rfl
  rw [e,List.append_assoc] at ih
  rw [List.drop_eq_getElem_cons hi,List.map_cons]
  have hm:=List.getElem_mem hi
  refine aH (aC (λ_=>?_) (λh=>by omega))
  refine kT hlen (iC hlen rfl (aE rfl (aA rfl (aA rfl (aA rfl (aI (aC (λh4=>?_) (λh4=>?_))))))))
  ·refine aLG hH (hn _ hm h4) (kT hlen (aX rfl (eL (off:=1) hlen rfl (by decide) rfl (aL (by omega) ?_))))
   have er : lU Q l[i]=⟨l[i].k,eG Q l[i].n,l[i].s⟩:=if_pos h4
   rw [er] at ih
   exact ih
  ·have er : lU Q l[i]=l[i]:=if_neg h4
   rw [er] at ih
   exact aL (by omega) ih
end
section
variable {v : eA}
abbrev wA (v : eA) (Q : List Int) : List (List cB):=Q.map λp=>cA v.hp p
theorem aPB (g : sI v) {Q : List Int} (c : Cov v Q) {j : Nat} (hj : j<(wA v Q).length) : (wA v Q)[j].length≤100∧jM Q (wA v Q)[j]:=by
 obtain ⟨p,hp,he⟩:=List.mem_map.1 (List.getElem_mem hj)
 obtain ⟨i,hi,rfl,hf,h1,_⟩:=zA g (c.lt p hp)
 rw [← he]
 exact ⟨by rw [hf];exact h1,c.hp _ hp⟩
theorem aPC (g : sI v) {Q : List Int} (c : Cov v Q) :
 Ok (λr=>r=dD (rnT Q v))
  (iL (.I (wA v Q).length) (.I 0) a2 a3 a4 a5 a6 a7 (.I v.val.k) (.I v.val.n) (.str v.val.s) a11 a12 a13 a14 a15 a16 a17 a18 (bD (Q)) (.I v.made) (.I v.st) (.I v.tr) a23 a24 a25 (.I v.steps) a27 a28 a29 (.lst ((v.fr.map (rnF Q)).map bT.pv)) (.lst ((wA v Q).map aR)) (yZ v)):=by
 have nh:=g.h
 have nk:=c.len
 have e1 : (Q.map λp=>(cA v.hp p).map (lU Q))=(wA v Q).map λr=>r.map (lU Q):=by
  unfold wA;rw [List.map_map];rfl
 have n0 : (wA v Q).length≤1000:=by unfold wA;rw [List.length_map];omega
 have ra : ∀ j (hj : j<(wA v Q).length),_:=λj hj=>aPB g c hj
 have cr : dD (rnT Q v) = [.I v.made,.I v.st,.I v.tr,.I (lU Q v.val).k,.I (lU Q v.val).n,.str (lU Q v.val).s,.I v.steps,.lst ((v.fr.map (rnF Q)).map bT.pv),.lst (((Q.map λp=>(cA v.hp p).map (lU Q))).map aR),.lst (v.out.map PV.str)]:=rfl
 rw [cr,e1]
 generalize wA v Q=K at *
 have key:=cH (n:=K.length) (P:=λ_ r=>r = [.I v.made,.I v.st,.I v.tr,.I (lU Q v.val).k,.I (lU Q v.val).n,.str (lU Q v.val).s,.I v.steps,.lst ((v.fr.map (rnF Q)).map bT.pv),.lst ((K.map λr=>r.map (lU Q)).map aR),.lst (v.out.map PV.str)])
  (F:=λi=>iL (.I K.length) (.I i) a2 a3 a4 a5 a6 a7 (.I v.val.k) (.I v.val.n) (.str v.val.s) a11 a12 a13 a14 a15 a16 a17 a18 (bD (Q)) (.I v.made) (.I v.st) (.I v.tr) a23 a24 a25 (.I v.steps) a27 a28 a29 (.lst ((v.fr.map (rnF Q)).map bT.pv)) (.lst (((K.take i).map λr=>r.map (lU Q)).map aR++(K.drop i).map aR)) (yZ v)) ?_ (λi hi ih=>?_) 0 (by omega)
 ·simpa using key
 ·rw [qU]
  refine aH (aC (λh=>by omega) (λ_=>?_))
  refine aG (aEu (l:=[v.val]) (Q:=Q) (by omega) (by simp) c.vl) (λr hr=>?_)
  rw [hr]
  refine kT (a:=[]) (x:=(lU Q v.val).pv) (b:=[]) (n:=0) rfl (iC (a:=[]) (x:=(lU Q v.val).pv) (b:=[]) (n:=0) rfl rfl (aE rfl (aA rfl (aA rfl (aA rfl (aB ?_))))))
  simp
 ·rw [qU]
  obtain ⟨f1,f3⟩:=ra i hi
  have hlen : ((i : Nat) : Int)=(((K.take i).map λr=>r.map (lU Q)).map aR).length:=by simp;omega
  have e : ((K.take (i+1)).map λr=>r.map (lU Q)).map aR=((K.take i).map λr=>r.map (lU Q)).map aR++[aR (K[i].map (lU Q))]:=by
   rw [List.take_add_one,List.getElem?_eq_getElem hi,List.map_append,List.map_append];rfl
  rw [e,List.append_assoc] at ih
  rw [List.drop_eq_getElem_cons hi,List.map_cons]
  refine aH (aC (λ_=>?_) (λh=>by omega))
  refine kT hlen (iC hlen rfl (iC hlen rfl (aA (y:=aS K[i]) rfl (iC hlen rfl (aA rfl (eL (off:=0) hlen rfl (by decide) rfl ?_))))))
  refine aG (aEu (l:=K[i]) (Q:=Q) (by omega) (by omega) f3) (λr hr=>?_)
  rw [hr]
  refine iC hlen rfl (aA rfl (eL (off:=0) hlen rfl (by decide) rfl (aL (by omega) ?_)))
  exact ih
theorem aPD (g : sI v) {Q : List Int} (c : Cov v Q) :
 Ok (λr=>r=dD (rnT Q v))
  (iK (.I v.fr.length) (.I 0) a2 a3 a4 a5 a6 a7 (.I v.val.k) (.I v.val.n) (.str v.val.s) a11 a12 a13 a14 a15 a16 a17 a18 (bD (Q)) (.I v.made) (.I v.st) (.I v.tr) a23 a24 a25 (.I v.steps) a27 a28 a29 (fr0 v) (.lst ((wA v Q).map aR)) (yZ v)):=by
 have nh:=g.h
 have nk:=c.len
 have nf:=g.nf
 have key:=cH (n:=v.fr.length) (P:=λ_ r=>r=dD (rnT Q v)) (F:=λi=>iK (.I v.fr.length) (.I i) a2 a3 a4 a5 a6 a7 (.I v.val.k) (.I v.val.n) (.str v.val.s) a11 a12 a13 a14 a15 a16 a17 a18 (bD (Q)) (.I v.made) (.I v.st) (.I v.tr) a23 a24 a25 (.I v.steps) a27 a28 a29 (.lst (((v.fr.take i).map (rnF Q)).map bT.pv++(v.fr.drop i).map bT.pv)) (.lst ((wA v Q).map aR)) (yZ v)) ?_ (λi hi ih=>?_) 0 (by omega)
 ·simpa using key
 ·rw [qT]
  refine aH (aC (λh=>by omega) (λ_=>aD ?_))
  rw [List.take_length,List.drop_length,List.map_nil,List.append_nil]
  exact aPC g c
 ·rw [qT]
  obtain ⟨f1,f2,f3,f4⟩:=g.fl _ (List.getElem_mem hi)
  obtain ⟨q1,q2⟩:=c.fr _ (List.getElem_mem hi)
  have hlen : ((i : Nat) : Int)=(((v.fr.take i).map (rnF Q)).map bT.pv).length:=by simp;omega
  have e : ((v.fr.take (i+1)).map (rnF Q)).map bT.pv=((v.fr.take i).map (rnF Q)).map bT.pv++[(rnF Q v.fr[i]).pv]:=by
   rw [List.take_add_one,List.getElem?_eq_getElem hi,List.map_append,List.map_append];rfl
  rw [e,List.append_assoc] at ih
  rw [List.drop_eq_getElem_cons hi,List.map_cons]
  refine aH (aC (λ_=>?_) (λh=>by omega))
  refine kT hlen (iC hlen rfl (aA rfl (aA rfl (iC hlen rfl (aA (y:=aS v.fr[i].loc) rfl (iC hlen rfl (aA rfl (eL (off:=2) hlen rfl (by decide) rfl ?_))))))))
  refine aG (aEu (l:=v.fr[i].loc) (Q:=Q) (by omega) (by omega) q1) (λr hr=>?_)
  rw [hr]
  refine iC hlen rfl (aA rfl (eL (off:=2) hlen rfl (by decide) rfl ?_))
  refine iC hlen rfl (aA (y:=aS v.fr[i].stk) rfl (iC hlen rfl (aA rfl (eL (off:=3) hlen rfl (by decide) rfl ?_))))
  refine aG (aEu (l:=v.fr[i].stk) (Q:=Q) (by omega) (by omega) q2) (λr hr=>?_)
  rw [hr]
  refine iC hlen rfl (aA rfl (eL (off:=3) hlen rfl (by decide) rfl (aL (by omega) ?_)))
  exact ih
theorem aNu (g : sI v) (z : Sz v) {Q : List Int} (c : Cov v Q) : Ok (λr=>r=dD (rnT Q v)) (pJ v.pv (bD (Q))):=by
 have nh:=g.h
 have nk:=c.len
 rw [aDj]
 refine aE rfl (aA rfl (aA rfl (aA rfl (aA rfl (aA rfl (aA rfl (aA rfl (aA rfl (aA rfl (aA rfl (aX rfl (aO9 z (fD (cX ?_))))))))))))))
 have key:=cH (n:=Q.length) (P:=λ_ r=>r=dD (rnT Q v)) (F:=λi=>lZ (bD (Q)) (.I Q.length) (.I i) (fr0 v) (hp0 v) (.I v.made) (yZ v) (.I v.st) (.I v.tr) (.I v.val.k) (.I v.val.n) (.str v.val.s) (.I v.steps) (.I 0) (.I 0) (.I 0) (.I 0) (.I 0) (.str (bs [])) (.I 0) (bD (Q)) (gd (dD v) 0) (gd (dD v) 1) (gd (dD v) 2) (gd (dD v) 3) (gd (dD v) 4) (gd (dD v) 5) (gd (dD v) 6) (.lst []) (.lst []) (.lst []) (gd (dD v) 7) (.lst ((Q.take i).map λp=>aR (cA v.hp p))) (gd (dD v) 9)) ?_ (λi hi ih=>?_) 0 (by omega)
 ·exact key
 ·rw [rK]
  refine aH (aC (λh=>by omega) (λ_=>aD ?_))
  rw [List.take_length]
  have e : (Q.map λp=>aR (cA v.hp p))=(wA v Q).map aR:=by unfold wA;rw [List.map_map];rfl
  rw [e]
  exact aPD g c
 ·rw [rK]
  have hq:=List.getElem_mem hi
  obtain ⟨j,hj,hje,hf,hs,_⟩:=zA g (c.lt _ hq)
  refine aH (aC (λ_=>?_) (λh=>by omega))
  refine cY hi ?_
  rw [hje]
  refine aK hj (λ_=>rfl) (aA (y:=aS v.hp[j]) rfl ?_)
  refine aAf (by omega) (kO (aB6 _) (fQ (by simp;omega) (λx hx=>by simp at hx;subst hx;rfl) (aL (by omega) ?_)))
  have e : ((Q.take (i+1)).map λp=>aR (cA v.hp p))=((Q.take i).map λp=>aR (cA v.hp p))++[aR v.hp[j]]:=by
   rw [List.take_add_one,List.getElem?_eq_getElem hi,List.map_append,← hf];rfl
  rw [e] at ih
  exact ih
end
section
variable {v : eA}
abbrev aR6 (v : eA) (T : List Int) (L : List Int) : PV:=.lst ((L.map λp=>(cA v.hp p).map (lU T)).map aR)
end
open Classical in
def aQt (m : eN) (v : eA) : eA:=if aBL m v then aEq v else vmZ
theorem aQu {m : eN} {v : eA} (g : eO m) (k : VmK m v) : Sz (aEq v):=(k.can g).toVmI.sz g
section
variable {m : eN}
theorem aBQ {v : eA} (g : sI v) (z : Sz v) : Ok (λr=>r=dD (aEq v)) (vH v.pv):=by
 rw [aIe]
 refine aE rfl (aA rfl (aA rfl (aA rfl (aA rfl (aA rfl (aA rfl (aA rfl (aA rfl (aA rfl (aA rfl (?_)))))))))))
 refine aG (aEp g) (λr hr=>?_)
 rw [hr]
 refine aG (aNu g z (aCa g)) (λr hr=>?_)
 rw [hr]
 exact fD (aB rfl)
open Classical in
theorem aLH (hs : m.sized) {v : eA} (h : v.fine) : Ok (λr=>r=dD (aQt m v)) (aC1 m.pv v.pv):=by
 rw [aId]
 refine aE rfl (aA rfl (aA rfl ?_))
 refine aE rfl (aA rfl (aA rfl (aA rfl (aA rfl (aA rfl (aA rfl (aA rfl (aA rfl (aA rfl (aA rfl (?_)))))))))))
 refine aG (tD hs h) (λr hr=>?_)
 rw [hr]
 refine bC ?_
 by_cases hk : aBL m v
 ·rw [decide_eq_true hk]
  have e : aQt m v=aEq v:=if_pos hk
  rw [e]
  refine aT (aG (aBQ (uH hk.1 hk.2) (hk.2.toVmI.sz hk.1)) (λr hr=>?_))
  rw [hr]
  exact fD (aB rfl)
 ·rw [decide_eq_false hk]
  have e : aQt m v=vmZ:=if_neg hk
  rw [e]
  exact bB (aB rfl)
end
def MdP (l : List Int) (A : Int) (r : R) : Prop:=∃ a s : Int,∃ m : eN,r = [m.pv,bI l,.I a,.I s]∧0≤a∧a≤A∧0≤s∧s<65521∧m.sized∧1≤m.funcs.length∧m.funcs.length≤100
theorem MdP.of {l : List Int} {A a s : Int} {ts fs : R} (h : 0≤a∧a≤A∧0≤s∧s<65521) (h1 : ∀ x∈ts,kU x) (h2 : ts.length≤100) (h3 : ∀ x∈fs,nE x) (h4 : fs.length≤100) (h5 : 1≤fs.length) : ∃ m : eN,ts=m.texts.map PV.str∧fs=m.funcs.map dA.pv∧m.sized∧1≤m.funcs.length∧m.funcs.length≤100:=by
 obtain ⟨t,rfl,ht⟩:=aNi h1
 obtain ⟨f,rfl,hf⟩:=aNk h3
 rw [List.length_map] at h2 h4 h5
 exact ⟨⟨t,f⟩,rfl,rfl,⟨by show t.length≤_;omega,by show f.length≤_;omega,λx hx=>by have:=ht x hx;omega,hf⟩,h5,h4⟩
section
variable {l : List Int} (hl : Bts l) {P : R → Prop}
include hl
theorem aLI {a s : Int} (h0 : 0≤a∧a≤800000000∧0≤s∧s<65521) : Ok (MdP l (a+4000000)) (rX (bI l) (.I a) (.I s)):=by
 rw [aCk]
 refine aG (aCJ hl h0) ?_
 rintro r ⟨a1,s1,ts,fs,rfl,h1,h2,h3,h4,ht,htn,hf,hn1,hn2⟩
 obtain ⟨m,rfl,rfl,hs,hm1,hm2⟩:=MdP.of (l:=l) (A:=a1) (a:=a1) (s:=s1) (by omega) ht (by omega) (λx hx=>(hf x hx).toFun) (by omega) hn1
 refine aE rfl (aA rfl (aA rfl (aGl hs (bC (aQ (λ_=>aB ?_) (λ_=>aB ?_))))))
 ·refine ⟨a1,s1,⟨[],[⟨0,1,[⟨6,0⟩,⟨26,0⟩,⟨4,0⟩,⟨25,0⟩]⟩]⟩,rfl,by omega,by omega,by omega,by omega,⟨?_,?_,?_,?_⟩,?_,?_⟩
  all_goals simp
 ·exact ⟨a1,s1,m,rfl,by omega,by omega,by omega,by omega,hs,hm1,hm2⟩
theorem aLJ {a s : Int} (h0 : 0≤a∧a≤700000000∧0≤s∧s<65521) : Ok (MdP l (a+5000000)) (rW (bI l) (.I a) (.I s)):=by
 rw [aCi]
 refine lD hl (by omega) (by omega) (λb a1 s1 h1=>aQ (λ_=>?_) (λ_=>?_))
 ·refine aG (aMA hl (by omega) (by omega)) ?_
  rintro r ⟨a2,s2,ts,fs,rfl,g1,g2,g3,g4,ht,htn,hf,hn2,hn1⟩
  obtain ⟨m,rfl,rfl,hs,hm1,hm2⟩:=MdP.of (l:=l) (A:=a2) (a:=a2) (s:=s2) (by omega) ht (by omega) hf (by omega) hn1
  exact aE rfl (aA rfl (aA rfl (aB ⟨a2,s2,m,rfl,by omega,by omega,by omega,by omega,hs,hm1,hm2⟩)))
 ·refine aG (aLI hl (by omega)) ?_
  rintro r ⟨a2,s2,m,rfl,g1,g2,g3,g4,hs,hm1,hm2⟩
  exact aE rfl (aA rfl (aA rfl (aB ⟨a2,s2,m,rfl,by omega,by omega,by omega,by omega,hs,hm1,hm2⟩)))
def aRv (l : List Int) (A : Int) (r : R) : Prop:=∃ a s : Int,∃ v : cB,r = [v.pv,bI l,.I a,.I s]∧0≤a∧a≤A∧0≤s∧s<65521∧v.s.size≤1000
omit hl in
theorem aNv : ∀ x∈[PV.str (bs []),PV.str (bs [97]),PV.str (bs [98,99]),PV.str (bs [48,49,50,51,52,53,54,55,56,57,48,49,50,51,52,53,54,55,56,57,48,49,50,51,52,53,54,55,56,57,48,49,50,51,52,53,54,55,56,57])],kU x:=by
 intro x hx
 simp only [List.mem_cons,List.not_mem_nil,or_false] at hx
 rcases hx with rfl | rfl | rfl | rfl<;>exact ⟨_,rfl,by decide⟩
omit hl in
theorem aNw : ∀ x∈[PV.str (bs []),PV.str (bs [97]),PV.str (bs [34])],kU x:=by
 intro x hx
 simp only [List.mem_cons,List.not_mem_nil,or_false] at hx
 rcases hx with rfl | rfl | rfl<;>exact ⟨_,rfl,by decide⟩
theorem uI {a s : Int} (h0 : 0≤a∧a≤800000000∧0≤s∧s<65521) : Ok (aRv l (a+10)) (eY (bI l) (.I a) (.I s)):=by
 rw [aBp]
 have e0 : (bs []).size≤1000:=by decide
 have num : ∀ {a1 s1 : Int},a≤a1∧a1≤a+1∧0≤s1∧s1<65521→Ok (aRv l (a+10)) (bd (eJ (bI l) (.I a1) (.I s1)) λr1757=>
  bd (gC (gd r1757 0)) λr1758=>
  bd (PV.whole 3 (hd r1758)) λv1759=>
  bd (PV.cell v1759 0) λv1760=>
  bd (PV.cell v1759 1) λv1761=>
  bd (PV.cell v1759 2) λv1762=>
  some [(.agg [v1760,v1761,v1762]),(gd r1757 1),(gd r1757 2),(gd r1757 3)]):=λh=>
  aE0 hl (by omega) (λn a2 s2 h2=>yW (aE rfl (aA rfl (aA rfl (aA rfl (aB ⟨a2,s2,aAH n,rfl,by omega,by omega,by omega,by omega,e0⟩))))))
 refine bJ hl (by omega) (by omega) (λx a1 s1 h1=>?_)
 refine aI (aC (λ_=>aB ⟨a1,s1,dO,rfl,by omega,by omega,by omega,by omega,e0⟩) (λ_=>?_))
 refine aI (aC (λ_=>num (by omega)) (λ_=>?_))
 refine aI (aC (λ_=>num (by omega)) (λ_=>?_))
 refine aI (aC (λ_=>num (by omega)) (λ_=>?_))
 refine aI (aC (λ_=>bJ hl (by omega) (by omega) (λy a2 s2 h2=>aX rfl (aB ⟨a2,s2,⟨2,y,bs []⟩,rfl,by omega,by omega,by omega,by omega,e0⟩))) (λ_=>?_))
 refine aI (aC (λ_=>bJ hl (by omega) (by omega) (λy a2 s2 h2=>?_)) (λ_=>?_))
 ·refine dF (by omega) (by simp;omega) (uP (by omega) (by simp;omega) (kU.el aNv) (λz hz _=>?_))
  obtain ⟨b,rfl,hb⟩:=aNv z hz
  exact aX rfl (aB ⟨a2,s2,⟨3,0,b⟩,rfl,by omega,by omega,by omega,by omega,hb⟩)
 refine aI (aC (λ_=>bJ hl (by omega) (by omega) (λy a2 s2 h2=>aX rfl (aB ⟨a2,s2,⟨4,y,bs []⟩,rfl,by omega,by omega,by omega,by omega,e0⟩))) (λ_=>?_))
 refine aI (aC (λ_=>bJ hl (by omega) (by omega) (λy a2 s2 h2=>aX rfl (aB ⟨a2,s2,⟨5,y,bs []⟩,rfl,by omega,by omega,by omega,by omega,e0⟩))) (λ_=>?_))
 refine bJ hl (by omega) (by omega) (λy a2 s2 h2=>bF (by omega) (bJ hl (by omega) (by omega) (λz a3 s3 h3=>bF (by omega) (bJ hl (by omega) (by omega) (λw a4 s4 h4=>?_)))))
 refine dF (by omega) (by simp;omega) (uP (by omega) (by simp;omega) (kU.el aNw) (λt ht _=>?_))
 obtain ⟨b,rfl,hb⟩:=aNw t ht
 exact aX rfl (aX rfl (aX rfl (aB ⟨a4,s4,⟨y - 1,z - 1,b⟩,rfl,by omega,by omega,by omega,by omega,hb⟩)))
def aLK (l : List Int) (A : Int) (r : R) : Prop:=∃ a s : Int,∃ vs : List cB,r = [aS vs,bI l,.I a,.I s]∧0≤a∧a≤A∧0≤s∧s<65521∧(∀ v∈vs,v.s.size≤1000)∧vs.length≤21
omit hl in
theorem aJh {vs : List cB} (h : ∀ v∈vs,v.s.size≤1000) {v : cB} (hv : v.s.size≤1000) : ∀ w∈vs++[v],w.s.size≤1000:=by
 intro w hw
 rcases List.mem_append.1 hw with hw | hw
 ·exact h w hw
 ·rw [List.mem_singleton] at hw;rw [hw];exact hv
omit hl in
theorem aHP {k : PV→OR} {vs : List cB} (hn : vs.length≤1000) {v : cB} (h : Ok P (k (aS (vs++[v])))) : Ok P (bd (PV.cat 3 32 true (.lst []) (.lst [v.pv])) λy=>bd (PV.cat 3 32 true (aS vs) y) k):=by
 refine jN (by simp) (sP (l:=[v])) (fQ (by simp;omega) (sP (l:=[v])) ?_)
 rw [show vs.map cB.pv++[v.pv]=(vs++[v]).map cB.pv by rw [List.map_append];rfl]
 exact h
theorem aLL {a s : Int} {vs : List cB} (h0 : 0≤a∧a≤790000000∧0≤s∧s<65521) (hv : ∀ v∈vs,v.s.size≤1000) (hn : vs.length≤20) : Ok (aLK l (a+20)) (bd (cZ (.I 30) (bI l) (.I a) (.I s)) λr1440=>
 PV.ite (gd r1440 0)
  (bd (eY (gd r1440 1) (gd r1440 2) (gd r1440 3)) λr1441=>
  bd (PV.cat 3 32 true (.lst []) (.lst [(gd r1441 0)])) λv1442=>
  bd (PV.cat 3 32 true (aS vs) v1442) λv1443=>
  some [v1443,(gd r1441 1),(gd r1441 2),(gd r1441 3)])
  (some [aS vs,(gd r1440 1),(gd r1440 2),(gd r1440 3)])):=by
 refine lD hl (by omega) (by omega) (λb a1 s1 h1=>aQ (λ_=>aG (uI hl (by omega)) ?_) (λ_=>aB ⟨a1,s1,vs,rfl,by omega,by omega,by omega,by omega,hv,by omega⟩))
 rintro r ⟨a2,s2,v,rfl,g1,g2,g3,g4,g5⟩
 exact aHP (by omega) (aB ⟨a2,s2,vs++[v],rfl,by omega,by omega,by omega,by omega,aJh hv g5,by simp;omega⟩)
theorem aLM {m : eN} (hs : m.sized) (hm : 1≤m.funcs.length) {a s : Int} (h0 : 0≤a∧a≤700000000∧0≤s∧s<65521) : Ok (aLK l (a+1000)) (rY (.lst (m.texts.map PV.str)) (.lst (m.funcs.map dA.pv)) (bI l) (.I a) (.I s)):=by
 rw [aCl]
 have hfl:=hs.2.1
 have loop : ∀ (j : Nat) (q a1 s1 : Int) (vs : List cB),q+j=20→0≤q→vs.length=q→(a≤a1∧a1≤a+10*q∧0≤s1∧s1<65521)→(∀ v∈vs,v.s.size≤1000)→
  Ok (aLK l (a+1000)) (kY (.I q) (bI l) (.I a1) (.I s1) (.lst (m.texts.map PV.str)) (.lst (m.funcs.map dA.pv)) (aS vs)):=by
  intro j
  induction j with
  | zero=>
    intro q a1 s1 vs hq hq0 hn h1 hv
    have fin:=aLL hl (a:=a1) (s:=s1) (vs:=vs) (by omega) hv (by omega)
    have fin : Ok (aLK l (a+1000)) _:=fin.mono (λr ⟨a',s',v',hr,g1,g2,g⟩=>⟨a',s',v',hr,g1,by omega,g⟩)
    rw [qV]
    refine aLn (by omega) (λlc=>aA rfl (aH (aC (λ_=>aH (aC (λh=>by omega) (λ_=>fin))) (λ_=>fin))))
  | succ j ih=>
    intro q a1 s1 vs hq hq0 hn h1 hv
    have fin:=aLL hl (a:=a1) (s:=s1) (vs:=vs) (by omega) hv (by omega)
    have fin : Ok (aLK l (a+1000)) _:=fin.mono (λr ⟨a',s',v',hr,g1,g2,g⟩=>⟨a',s',v',hr,g1,by omega,g⟩)
    rw [qV]
    refine aLn (by omega) (λlc=>aA rfl (aH (aC (λ_=>aH (aC (λ_=>?_) (λ_=>fin))) (λ_=>fin))))
    refine bJ hl (by omega) (by omega) (λx1 a2 s2 h2=>yW (bJ hl (by omega) (by omega) (λx2 a3 s3 h3=>bF (by omega) (yW (bJ hl (by omega) (by omega) (λx3 a4 s4 h4=>yW (qD (aD (bJ hl (by omega) (by omega) (λx4 a5 s5 h5=>aX rfl ?_))))))))))
    refine jN (by simp) (sP (l:=[aAH x1,aAH (x2 - 2),aAH x3,tV true,aD5 (bs [113]),dO,aMo x4])) ?_
    refine bJ hl (by omega) (by omega) (λx5 a6 s6 h6=>?_)
    refine dF (by omega) (by simp;omega) (uP (by omega) (by simp;omega) (sP (l:=[aAH x1,aAH (x2 - 2),aAH x3,tV true,aD5 (bs [113]),dO,aMo x4])) (λz hz _=>?_))
    obtain ⟨v,hv',rfl⟩:=List.mem_map.1 (show z∈[aAH x1,aAH (x2 - 2),aAH x3,tV true,aD5 (bs [113]),dO,aMo x4].map cB.pv from hz)
    have hvs : v.s.size≤1000:=by
     have e0 : (bs []).size≤1000:=by decide
     have e1 : (bs [113]).size≤1000:=by decide
     simp only [List.mem_cons,List.not_mem_nil,or_false] at hv'
     rcases hv' with rfl | rfl | rfl | rfl | rfl | rfl | rfl<;>first | exact e0 | exact e1
    refine aHP (by omega) (aL (by omega) (ih (q+1) a6 s6 (vs++[v]) (by omega) (by omega) (by simp;omega) (by omega) (aJh hv hvs)))
 exact loop 20 0 a s [] (by omega) (by omega) rfl (by omega) (by simp)
end
section
variable {P : R → Prop} {m : eN}
theorem aKe {a : cB} {k : PV→OR} (h : Ok P (k (.bool false))) : Ok P (bd (PV.ceq [1,1,2] .neq (.agg [.I a.k,.I a.n,.str a.s]) (.agg [.I a.k,.I a.n,.str a.s])) k):=
 dP _ (by simp [PV.ceq,PV.eqCells,PV.eqScalar,PV.eqOr]) h
theorem aMM {ts : List ByteArray} (ht : ts.length≤1000) : Ok (λr=>r = [.bool true]) (vC (.lst (ts.map PV.str)) (.lst (ts.map PV.str))):=by
 rw [aDU]
 refine aD (aD (bQ (aO (λh=>absurd rfl h) (λ_=>?_))))
 refine cH (n:=ts.length) (F:=λi=>mX (.lst (ts.map PV.str)) (.lst (ts.map PV.str)) (.I i)) (P:=λ_ r=>r = [.bool true]) ?_ (λi hi ih=>?_) 0 (by omega)
 ·rw [sR]
  exact aD (aH (aC (λh=>by omega) (λ_=>aB rfl)))
 ·rw [sR]
  refine aD (aH (aC (λ_=>?_) (λh=>by omega)))
  exact aK hi (λ_=>rfl) (aK hi (λ_=>rfl) (aIu (aT (aL (by omega) ih))))
theorem aBR {l : List cB} (ht : l.length≤1000) : Ok (λr=>r = [.bool true]) (mK (aS l) (aS l)):=by
 rw [aC7]
 refine aY (aY (bQ (aO (λh=>absurd rfl h) (λ_=>?_))))
 refine cH (n:=l.length) (F:=λi=>lY (aS l) (aS l) (.I i)) (P:=λ_ r=>r = [.bool true]) ?_ (λi hi ih=>?_) 0 (by omega)
 ·rw [rG]
  exact aY (aH (aC (λh=>by omega) (λ_=>aB rfl)))
 ·rw [rG]
  refine aY (aH (aC (λ_=>?_) (λh=>by omega)))
  refine aK hi (λ_=>rfl) (aK hi (λ_=>rfl) ?_)
  refine aE rfl (aA rfl (aA rfl (aA rfl (aE rfl (aA rfl (aA rfl (aA rfl ?_)))))))
  exact aKe (aT (aL (by omega) ih))
theorem aNx {v : eA} (z : Sz v) : Ok (λr=>r = [.bool true]) (wM v.pv v.pv):=by
 obtain ⟨zf,zh,zo,zfl,zhl⟩:=z
 rw [aHd]
 refine aE rfl (aA rfl (aA rfl (aA rfl (aA rfl (aA rfl (aA rfl (aA rfl (aA rfl (aA rfl (aA rfl (?_)))))))))))
 refine aE rfl (aA rfl (aA rfl (aA rfl (aA rfl (aA rfl (aA rfl (aA rfl (aA rfl (aA rfl (aA rfl (?_)))))))))))
 refine bQ (aO (λh=>absurd rfl h) (λ_=>bQ (aO (λh=>absurd rfl h) (λ_=>bQ (aO (λh=>absurd rfl h) (λ_=>aKe (aT ?_)))))))
 refine bQ (aO (λh=>absurd rfl h) (λ_=>aG (aMM zo) (λr hr=>?_)))
 rw [hr]
 refine bC (aT (aD (aD (bQ (aO (λh=>absurd rfl h) (λ_=>aD (aD (bQ (aO (λh=>absurd rfl h) (λ_=>?_))))))))))
 have fr : Ok (λr=>r = [.bool true]) (nH (.I 0) (.lst (v.fr.map bT.pv)) (.lst (v.hp.map aR)) (.I v.made) (.lst (v.out.map PV.str)) (.I v.st) (.I v.tr) (.I v.val.k) (.I v.val.n) (.str v.val.s) (.I v.steps) (.lst (v.fr.map bT.pv)) (.lst (v.hp.map aR)) (.I v.made) (.lst (v.out.map PV.str)) (.I v.st) (.I v.tr) (.I v.val.k) (.I v.val.n) (.str v.val.s) (.I v.steps)):=by
  refine cH (n:=v.fr.length) (F:=λi=>nH (.I i) (.lst (v.fr.map bT.pv)) (.lst (v.hp.map aR)) (.I v.made) (.lst (v.out.map PV.str)) (.I v.st) (.I v.tr) (.I v.val.k) (.I v.val.n) (.str v.val.s) (.I v.steps) (.lst (v.fr.map bT.pv)) (.lst (v.hp.map aR)) (.I v.made) (.lst (v.out.map PV.str)) (.I v.st) (.I v.tr) (.I v.val.k) (.I v.val.n) (.str v.val.s) (.I v.steps)) (P:=λ_ r=>r = [.bool true]) ?_ (λi hi ih=>?_) 0 (by omega)
  ·rw [wV]
   exact aD (aH (aC (λh=>by omega) (λ_=>aB rfl)))
  ·rw [wV]
   have:=zfl _ (List.getElem_mem hi)
   refine aD (aH (aC (λ_=>?_) (λh=>by omega)))
   refine aK hi (λ_=>rfl) (aE rfl (aA rfl (aA rfl (aA rfl (aA rfl (aK hi (λ_=>rfl) (aE rfl (aA rfl (aA rfl (aA rfl (aA rfl ?_)))))))))))
   refine bQ (aO (λh=>absurd rfl h) (λ_=>bQ (aO (λh=>absurd rfl h) (λ_=>aG (aBR (l:=v.fr[i].loc) this.1) (λr hr=>?_)))))
   rw [hr]
   refine bC (aT (aG (aBR (l:=v.fr[i].stk) this.2) (λr hr=>?_)))
   rw [hr]
   exact bC (aT (aL (by omega) ih))
 refine cH (n:=v.hp.length) (F:=λi=>qJ (.I i) (.lst (v.fr.map bT.pv)) (.lst (v.hp.map aR)) (.I v.made) (.lst (v.out.map PV.str)) (.I v.st) (.I v.tr) (.I v.val.k) (.I v.val.n) (.str v.val.s) (.I v.steps) (.lst (v.fr.map bT.pv)) (.lst (v.hp.map aR)) (.I v.made) (.lst (v.out.map PV.str)) (.I v.st) (.I v.tr) (.I v.val.k) (.I v.val.n) (.str v.val.s) (.I v.steps)) (P:=λ_ r=>r = [.bool true]) ?_ (λi hi ih=>?_) 0 (by omega)
 ·rw [wU]
  exact aD (aH (aC (λh=>by omega) (λ_=>fr)))
 ·rw [wU]
  have:=zhl _ (List.getElem_mem hi)
  refine aD (aH (aC (λ_=>?_) (λh=>by omega)))
  refine aK hi (λ_=>rfl) (aA rfl (aK hi (λ_=>rfl) (aA rfl (aG (aBR (l:=v.hp[i]) this) (λr hr=>?_)))))
  rw [hr]
  exact bC (aT (aL (by omega) ih))
end
section
variable {l : List Int} {P : R → Prop}
theorem aQv : Sz vmZ:=⟨by simp [vmZ],by simp [vmZ],by simp [vmZ],by simp [vmZ],by simp [vmZ]⟩
theorem aMN {m : eN} (hs : m.sized) (args : List cB) (fuel : Int) : (aJ1 m args fuel=false∧aHE m args fuel=vmZ)∨(aJ1 m args fuel=true∧eO m∧VmK m (lT m args)∧0≤fuel∧fuel≤50000∧aHE m args fuel=aLo m fuel.toNat (lT m args)):=by
 cases hb : aJ1 m args fuel with
 | false=>exact .inl ⟨rfl,by unfold aHE;rw [hb];rfl⟩
 | true=>
   refine .inr ⟨rfl,?_⟩
   have hb':=hb
   simp only [aJ1,Bool.and_eq_true,bH] at hb'
   obtain ⟨g,K⟩:=aQn hs hb'.1
   exact ⟨g,K,hb'.2.1,hb'.2.2,by unfold aHE;rw [hb];rfl⟩
end
section
variable {P : R → Prop} {m : eN}
theorem aQw {a : cB} {k : PV→OR} (h : Ok P (k (.bool true))) : Ok P (bd (PV.ceq [1,1,2] .eql (.agg [.I a.k,.I a.n,.str a.s]) (.agg [.I a.k,.I a.n,.str a.s])) k):=
 dP _ (by simp [PV.ceq,PV.eqCells,PV.eqScalar,PV.eqOr]) h
theorem aPE {ts : List ByteArray} (ht : ts.length≤1000) : Ok (λr=>r = [.bool true]) (jE (.lst (ts.map PV.str)) (.lst (ts.map PV.str))):=by
 rw [sS]
 refine aD (aD (bQ (aO (λh=>absurd rfl h) (λ_=>aD ?_))))
 refine cH (n:=ts.length) (F:=λi=>eX (.lst (ts.map PV.str)) (.lst (ts.map PV.str)) (.I ts.length) (.I i)) (P:=λ_ r=>r = [.bool true]) ?_ (λi hi ih=>?_) 0 (by omega)
 ·rw [kI]
  exact aH (aC (λh=>by omega) (λ_=>aB rfl))
 ·rw [kI]
  refine aH (aC (λ_=>?_) (λh=>by omega))
  exact aK hi (λ_=>rfl) (aK hi (λ_=>rfl) (aIu (aT (aL (by omega) ih))))
theorem aFh {l : List cB} (ht : l.length≤1000) : Ok (λr=>r = [.bool true]) (cU (aS l) (aS l)):=by
 rw [oD]
 refine aY (aY (bQ (aO (λh=>absurd rfl h) (λ_=>aY ?_))))
 refine cH (n:=l.length) (F:=λi=>dG (aS l) (aS l) (.I l.length) (.I i)) (P:=λ_ r=>r = [.bool true]) ?_ (λi hi ih=>?_) 0 (by omega)
 ·rw [gH]
  exact aH (aC (λh=>by omega) (λ_=>aB rfl))
 ·rw [gH]
  refine aH (aC (λ_=>?_) (λh=>by omega))
  refine aK hi (λ_=>rfl) (aK hi (λ_=>rfl) ?_)
  refine aE rfl (aA rfl (aA rfl (aA rfl (aE rfl (aA rfl (aA rfl (aA rfl ?_)))))))
  exact aKe (aT (aL (by omega) ih))
theorem aOC {l : List bT} (ht : l.length≤1000) (hl : ∀ f∈l,f.loc.length≤1000∧f.stk.length≤1000) : Ok (λr=>r = [.bool true]) (cE (.lst (l.map bT.pv)) (.lst (l.map bT.pv)) (.fn 125 [])):=by
 rw [fS]
 refine aD (aD (bQ (aO (λh=>absurd rfl h) (λ_=>aD ?_))))
 refine cH (n:=l.length) (F:=λi=>bL (.lst (l.map bT.pv)) (.fn 125 []) (.lst (l.map bT.pv)) (.I l.length) (.I i)) (P:=λ_ r=>r = [.bool true]) ?_ (λi hi ih=>?_) 0 (by omega)
 ·rw [cV]
  exact aH (aC (λh=>by omega) (λ_=>aB rfl))
 ·rw [cV]
  obtain ⟨h1,h2⟩:=hl _ (List.getElem_mem hi)
  refine aH (aC (λ_=>?_) (λh=>by omega))
  refine aK hi (λ_=>rfl) (aE rfl (aA rfl (aA rfl (aA rfl (aA rfl (aK hi (λ_=>rfl) (aE rfl (aA rfl (aA rfl (aA rfl (aA rfl ?_)))))))))))
  refine uQ (o:=aBe l[i].pv l[i].pv) (Q:=λr=>r = [.bool true]) rfl ?_ (λr hr=>?_)
  ·rw [aDW]
   refine aE rfl (aA rfl (aA rfl (aA rfl (aA rfl (aE rfl (aA rfl (aA rfl (aA rfl (aA rfl ?_)))))))))
   refine aI (aC (λ_=>aI (aC (λ_=>?_) (λh=>absurd rfl h))) (λh=>absurd rfl h))
   refine aG (aFh h1) (λr hr=>?_)
   rw [hr]
   refine bB (aG (aFh h2) (λr hr=>?_))
   rw [hr]
   exact aB rfl
  ·rw [hr]
   exact bC (aT (aL (by omega) ih))
theorem aQx {l : List (List cB)} (ht : l.length≤1000) (hl : ∀ f∈l,f.length≤1000) : Ok (λr=>r = [.bool true]) (cO (.lst (l.map aR)) (.lst (l.map aR)) (.fn 127 [])):=by
 rw [gV]
 refine aD (aD (bQ (aO (λh=>absurd rfl h) (λ_=>aD ?_))))
 refine cH (n:=l.length) (F:=λi=>bU (.lst (l.map aR)) (.fn 127 []) (.lst (l.map aR)) (.I l.length) (.I i)) (P:=λ_ r=>r = [.bool true]) ?_ (λi hi ih=>?_) 0 (by omega)
 ·rw [dN]
  exact aH (aC (λh=>by omega) (λ_=>aB rfl))
 ·rw [dN]
  have h1:=hl _ (List.getElem_mem hi)
  refine aH (aC (λ_=>?_) (λh=>by omega))
  refine aK hi (λ_=>rfl) (aE rfl (aA rfl (aK hi (λ_=>rfl) (aE rfl (aA rfl ?_)))))
  refine uQ (o:=aDR (aR l[i]) (aR l[i])) (Q:=λr=>r = [.bool true]) rfl ?_ (λr hr=>?_)
  ·rw [aFW]
   refine aE rfl (aA rfl (aE rfl (aA rfl (aG (aFh h1) (λr hr=>?_)))))
   rw [hr]
   exact aB rfl
  ·rw [hr]
   exact bC (aT (aL (by omega) ih))
theorem aRE {v : eA} (z : Sz v) : Ok (λr=>r = [.bool true]) (aBa v.pv v.pv):=by
 obtain ⟨zf,zh,zo,zfl,zhl⟩:=z
 rw [aHf]
 refine aE rfl (aA rfl (aA rfl (aA rfl (aA rfl (aA rfl (aA rfl (aA rfl (aA rfl (aA rfl (aA rfl (?_)))))))))))
 refine aE rfl (aA rfl (aA rfl (aA rfl (aA rfl (aA rfl (aA rfl (aA rfl (aA rfl (aA rfl (aA rfl (?_)))))))))))
 refine aG (aOC zf zfl) (λr hr=>?_)
 rw [hr]
 refine bB (aG (aQx zh zhl) (λr hr=>?_))
 rw [hr]
 refine bB (aI (aC (λ_=>aG (aPE zo) (λr hr=>?_)) (λh=>absurd rfl h)))
 rw [hr]
 refine bB (aI (aC (λ_=>aI (aC (λ_=>aQw (bB (aI (aB ?_)))) (λh=>absurd rfl h))) (λh=>absurd rfl h)))
 simp
open Classical in
theorem aLN (hs : m.sized) {v w : eA} (g : eO m) (hv : VmK m v) (hw : VmK m w) (he : aEq v=aEq w) : Ok (λr=>r = [.bool true]) (aCY m.pv v.pv w.pv):=by
 have sv : aBL m v:=⟨g,hv⟩
 have sw : aBL m w:=⟨g,hw⟩
 rw [aH9]
 refine aE rfl (aA rfl (aA rfl ?_))
 refine aE rfl (aA rfl (aA rfl (aA rfl (aA rfl (aA rfl (aA rfl (aA rfl (aA rfl (aA rfl (aA rfl (?_)))))))))))
 refine aE rfl (aA rfl (aA rfl (aA rfl (aA rfl (aA rfl (aA rfl (aA rfl (aA rfl (aA rfl (aA rfl (?_)))))))))))
 refine aG (tD hs (hv.tofine g)) (λr hr=>?_)
 rw [hr,decide_eq_true sv]
 refine bB (aG (tD hs (hw.tofine g)) (λr hr=>?_))
 rw [hr,decide_eq_true sw]
 refine bB (aG (aBQ (uH g hv) (hv.toVmI.sz g)) (λr hr=>?_))
 rw [hr]
 refine fD (aG (aBQ (uH g hw) (hw.toVmI.sz g)) (λr hr=>?_))
 rw [hr]
 rw [he]
 refine fD (aG (aRE (aQu g hw)) (λr hr=>?_))
 rw [hr]
 exact eR rfl (aB rfl)
end
def LF (N : Nat) (l : List cB) : Prop:=l.length≤N∧∀ y∈l,y.s.size≤N
structure Mid (N : Nat) (v : eA) : Prop where
 f : v.fr.length≤N
 h : v.hp.length≤N
 o : v.out.length≤N
 fl : ∀ f∈v.fr,LF N f.loc∧LF N f.stk
 hl : ∀ r∈v.hp,LF N r
 val : v.val.s.size≤N
 outs : ∀ s∈v.out,s.size≤N
theorem LF.up {N M : Nat} {l : List cB} (h : LF N l) (hn : N≤M) : LF M l:=⟨by have:=h.1;omega,λy hy=>by have:=h.2 y hy;omega⟩
theorem Mid.up {N M : Nat} {v : eA} (h : Mid N v) (hn : N≤M) : Mid M v:=
 ⟨by have:=h.f;omega,by have:=h.h;omega,by have:=h.o;omega,λf hf=>⟨(h.fl f hf).1.up hn,(h.fl f hf).2.up hn⟩,λr hr=>(h.hl r hr).up hn,by have:=h.val;omega,λs hs=>by have:=h.outs s hs;omega⟩
theorem Mid.fine {v : eA} (h : Mid 2000 v) : v.fine:=by
 refine ⟨⟨by have:=h.f;omega,by have:=h.h;omega,by have:=h.o;omega,λf hf=>⟨by have:=(h.fl f hf).1.1;omega,by have:=(h.fl f hf).2.1;omega⟩,λr hr=>by have:=(h.hl r hr).1;omega⟩,
  by have:=h.val;omega,λs hs=>by have:=h.outs s hs;omega,λf hf y hy=>?_,λr hr y hy=>by have:=(h.hl r hr).2 y hy;omega⟩
 rcases List.mem_append.1 hy with hy | hy
 ·have:=(h.fl f hf).1.2 y hy;omega
 ·have:=(h.fl f hf).2.2 y hy;omega
theorem VmK.mid {m : eN} {v : eA} (g : eO m) (k : VmK m v) : Mid 1000 v:=by
 have z:=k.toVmI.sz g
 refine ⟨z.f,z.h,z.o,λf hf=>?_,λr hr=>⟨z.hl r hr,λy hy=>?_⟩,?_,λs hs=>?_⟩
 ·obtain ⟨I,_,_⟩:=aAj g k.toVmI f hf
  exact ⟨⟨(z.fl f hf).1,λy hy=>by have:=bM (I.vl y hy);omega⟩,(z.fl f hf).2,λy hy=>by have:=bM (I.vs y hy);omega⟩
 ·have:=bM ((k.hp.recs r hr).2 y hy);omega
 ·have:=bM k.vok;omega
 ·have:=aLF (k.outs s hs);omega
theorem aQy : Mid 1000 vmZ:=⟨by simp [vmZ],by simp [vmZ],by simp [vmZ],by simp [vmZ],by simp [vmZ],by show (bs []).size≤1000;decide,by simp [vmZ]⟩
theorem aPF {m : eN} (hs : m.sized) (args : List cB) (fuel : Int) : Mid 1000 (aHE m args fuel):=by
 rcases aMN hs args fuel with ⟨_,h⟩ | ⟨_,g,K,_,_,h⟩
 ·rw [h];exact aQy
 ·rw [h];exact (K.runs g _).mid g
section
variable {P : R → Prop} {l : List Int} {m : eN}
def VmP (l : List Int) (A : Int) (r : R) : Prop:=∃ a s : Int,∃ v : eA,r = [v.pv,bI l,.I a,.I s]∧0≤a∧a≤A∧0≤s∧s<65521∧v.fine
theorem vmP {A a s : Int} {v : eA} {x : PV} (h : x=v.pv) (hv : v.fine) (h0 : 0≤a∧a≤A∧0≤s∧s<65521) : Ok (VmP l A) (some [x,bI l,.I a,.I s]):=
 aB ⟨a,s,v,by rw [h],h0.1,h0.2.1,h0.2.2.1,h0.2.2.2,hv⟩
theorem Mid.num {v : eA} (h : Mid 1000 v) (a b c d : Int) : ({ v with made:=a,st:=b,tr:=c,steps:=d} : eA).fine:=
 Mid.fine (Mid.up (⟨h.f,h.h,h.o,h.fl,h.hl,h.val,h.outs⟩ : Mid 1000 { v with made:=a,st:=b,tr:=c,steps:=d}) (by omega))
theorem Mid.fr1 {f0 f1 : bT} {rest : List bT} {hp : List (List cB)} {made st tr steps : Int} {out : List ByteArray} {val : cB} (h : Mid 1000 ⟨f0::rest,hp,made,out,st,tr,val,steps⟩) (h1 : LF 2000 f1.loc∧LF 2000 f1.stk) :
 (⟨f1::rest,hp,made,out,st,tr,val,steps⟩ : eA).fine:=by
 have u:=h.up (show 1000≤2000 by omega)
 refine Mid.fine ⟨u.f,u.h,u.o,λf hf=>?_,u.hl,u.val,u.outs⟩
 rcases List.mem_cons.1 hf with rfl | hf
 ·exact h1
 ·exact u.fl f (List.mem_cons_of_mem _ hf)
theorem Mid.hp1 {v : eA} (h : Mid 1000 v) {y : List cB} (hy : LF 2000 y) : ({ v with hp:=v.hp++[y]} : eA).fine:=by
 have u:=h.up (show 1000≤2000 by omega)
 refine Mid.fine ⟨u.f,?_,u.o,u.fl,λr hr=>?_,u.val,u.outs⟩
 ·have:=h.h
  show (v.hp++[y]).length≤2000
  rw [List.length_append];simp;omega
 ·rcases List.mem_append.1 (show r∈v.hp++[y] from hr) with hr | hr
  ·exact u.hl r hr
  ·rw [List.mem_singleton] at hr;rw [hr];exact hy
theorem Mid.out1 {v : eA} (h : Mid 1000 v) {y : ByteArray} (hy : y.size≤2000) : ({ v with out:=v.out++[y]} : eA).fine:=by
 have u:=h.up (show 1000≤2000 by omega)
 refine Mid.fine ⟨u.f,u.h,?_,u.fl,u.hl,u.val,λr hr=>?_⟩
 ·have:=h.o
  show (v.out++[y]).length≤2000
  rw [List.length_append];simp;omega
 ·rcases List.mem_append.1 (show r∈v.out++[y] from hr) with hr | hr
  ·exact u.outs r hr
  ·rw [List.mem_singleton] at hr;rw [hr];exact hy
theorem LF.snoc {l : List cB} {y : cB} (h : LF 1000 l) (hy : y.s.size≤1000) : LF 2000 (l++[y]):=
 ⟨by have:=h.1;rw [List.length_append];simp;omega,λx hx=>by
  rcases List.mem_append.1 hx with hx | hx
  ·have:=h.2 x hx;omega
  ·rw [List.mem_singleton] at hx;rw [hx];omega⟩
section
variable {k : PV → OR} {s : Nat} {g : Bool} {x v : PV} {b cs : R} {off : Nat}
theorem aHQ (h : Ok P (k (.lst (x::b)))) : Ok P (bd (PV.inb (.lst (x::b)) (.I 0)) k):=dF (by omega) (by simp) h
theorem aDt (he : x.isEl s g=true) (h : Ok P (k x)) : Ok P (bd (PV.at_ s g (.lst (x::b)) (.I 0)) k):=rO (by omega) rfl he h
theorem aNz (hv : v.isEl s g=true) (h : Ok P (k (.lst (v::b)))) : Ok P (bd (PV.setAt s g (.lst (x::b)) (.I 0) v) k):=aDu (by omega) (by simp) hv h
theorem zB (hc : cs.length=s) (ho : off<s) (hv : v.isEl 1 false=true) (h : Ok P (k (.lst (.agg (cs.set off v)::b)))) : Ok P (bd (PV.setCell s (.lst (.agg cs::b)) (.I 0) off v) k):=
 fT (by omega) rfl hc ho hv h
end
theorem cp0 (v : eA) : gd (dD v) 0 = .I v.made:=rfl
theorem cp1 (v : eA) : gd (dD v) 1 = .I v.st:=rfl
theorem cp2 (v : eA) : gd (dD v) 2 = .I v.tr:=rfl
theorem cp3 (v : eA) : gd (dD v) 3 = .I v.val.k:=rfl
theorem cp4 (v : eA) : gd (dD v) 4 = .I v.val.n:=rfl
theorem cp5 (v : eA) : gd (dD v) 5 = .str v.val.s:=rfl
theorem cp6 (v : eA) : gd (dD v) 6 = .I v.steps:=rfl
theorem cp7 (v : eA) : gd (dD v) 7 = .lst (v.fr.map bT.pv):=rfl
theorem cp8 (v : eA) : gd (dD v) 8 = .lst (v.hp.map aR):=rfl
theorem cp9 (v : eA) : gd (dD v) 9 = .lst (v.out.map PV.str):=rfl
theorem aOD (hl : Bts l) (hs : m.sized) (hm : 1≤m.funcs.length) {n a s : Int} (hn : 1≤n∧n≤1000) (h0 : 0≤a∧a≤600000000∧0≤s∧s<65521) :
 Ok (VmP l (a+3000)) (vG (.lst (m.texts.map PV.str)) (.lst (m.funcs.map dA.pv)) (.I n) (bI l) (.I a) (.I s)):=by
 rw [aDY]
 refine aG (aLM hl hs hm (by omega)) ?_
 rintro r ⟨a1,s1,vs,rfl,g1,g2,g3,g4,g5,g6⟩
 refine bJ hl (by omega) (by omega) (λfuel a2 s2 h2=>?_)
 refine aG (aOt hs (λv hv=>by have:=g5 v hv;omega) (by omega)) (λr hr=>?_)
 rw [hr]
 have hM:=aPF hs vs fuel
 generalize aHE m vs fuel=v at hM
 refine fD ?_
 simp only [cp0,cp1,cp2,cp3,cp4,cp5,cp6,cp7,cp8,cp9]
 have same : ∀ {a' s' : Int},(0≤a'∧a'≤a+3000∧0≤s'∧s'<65521)→Ok (VmP l (a+3000)) (some [v.pv,bI l,.I a',.I s']):=λh=>vmP rfl (hM.up (by omega)).fine h
 refine lD hl (by omega) (by omega) (λb a3 s3 h3=>bC (aQ (λ_=>same (by omega)) (λ_=>?_)))
 refine bJ hl (by omega) (by omega) (λx a4 s4 h4=>?_)
 refine aI (aC (λ_=>?_) (λ_=>?_))
 ·exact aE0 hl (by omega) (λq a5 s5 h5=>aX rfl (vmP (v:={ v with made:=q}) rfl (hM.num q v.st v.tr v.steps) (by omega)))
 refine aI (aC (λ_=>?_) (λ_=>?_))
 ·exact bJ hl (by omega) (by omega) (λq a5 s5 h5=>bF (by omega) (aX rfl (vmP (v:={ v with st:=q - 1}) rfl (hM.num v.made (q - 1) v.tr v.steps) (by omega))))
 refine aI (aC (λ_=>?_) (λ_=>?_))
 ·exact bJ hl (by omega) (by omega) (λq a5 s5 h5=>bF (by omega) (aX rfl (vmP (v:={ v with tr:=q - 1}) rfl (hM.num v.made v.st (q - 1) v.steps) (by omega))))
 refine aI (aC (λ_=>?_) (λ_=>?_))
 ·refine aD (cN (aC (λh=>?_) (λ_=>same (by omega))))
  obtain ⟨fr,hp,made,out,st,tr,val,steps⟩:=v
  cases fr with
  | nil=>simp at h
  | cons f0 rest=>
    have hf:=hM.fl f0 List.mem_cons_self
    simp only [List.map_cons]
    refine aHQ (aDt rfl (aA rfl (aA rfl (bJ hl (by omega) (by omega) (λq a5 s5 h5=>bF (by omega) (aX rfl (aHQ ?_)))))))
    refine aDt rfl (aA rfl (aDt rfl (aA rfl (zB rfl (by decide) rfl (aDt rfl (aA rfl (aDt rfl (aA rfl (zB rfl (by decide) rfl (aNz rfl ?_))))))))))
    exact vmP (v:=⟨⟨f0.f,q - 1,f0.loc,f0.stk⟩::rest,hp,made,out,st,tr,val,steps⟩) rfl (hM.fr1 ⟨hf.1.up (by omega),hf.2.up (by omega)⟩) (by omega)
 refine aI (aC (λ_=>?_) (λ_=>?_))
 ·refine aD (cN (aC (λh=>?_) (λ_=>same (by omega))))
  obtain ⟨fr,hp,made,out,st,tr,val,steps⟩:=v
  cases fr with
  | nil=>simp at h
  | cons f0 rest=>
    have hf:=hM.fl f0 List.mem_cons_self
    have hfl:=hf.2.1
    simp only [List.map_cons]
    refine aHQ (aDt rfl (aG (uI hl (by omega)) ?_))
    rintro r ⟨a5,s5,y,rfl,y1,y2,y3,y4,y5⟩
    refine jN (by simp) (λz hz=>by simp at hz;subst hz;rfl) (aDt rfl (aA rfl (aDt rfl (aA rfl (zB rfl (by decide) rfl ?_)))))
    refine fQ (xs:=f0.stk.map cB.pv) (ys:=[y.pv]) (by simp;omega) (λz hz=>by simp at hz;subst hz;rfl) (aHQ (zB rfl (by decide) rfl ?_))
    exact vmP (v:=⟨⟨f0.f,f0.pc,f0.loc,f0.stk++[y]⟩::rest,hp,made,out,st,tr,val,steps⟩) (by simp [eA.pv,bT.pv,aS]) (hM.fr1 ⟨hf.1.up (by omega),hf.2.snoc y5⟩) (by omega)
 refine aI (aC (λ_=>?_) (λ_=>?_))
 ·refine aG (uI hl (by omega)) ?_
  rintro r ⟨a5,s5,y,rfl,y1,y2,y3,y4,y5⟩
  have hh:=hM.h
  refine jN (by simp) (λz hz=>by simp at hz;subst hz;rfl) (fQ (by simp;omega) (λz hz=>by simp at hz;subst hz;rfl) ?_)
  exact vmP (v:={ v with hp:=v.hp++[[y]]}) (by simp [eA.pv,aR,aS];rfl) (hM.hp1 ⟨by simp,λz hz=>by simp at hz;subst hz;omega⟩) (by omega)
 refine aI (aC (λ_=>?_) (λ_=>?_))
 ·refine bJ hl (by omega) (by omega) (λq a5 s5 h5=>dF (by omega) (by show q<3;omega) ?_)
  have hq : q=0∨q=1∨q=2:=by omega
  rcases hq with rfl | rfl | rfl
  ·exact rO (by omega) rfl rfl (aX rfl (vmP (v:={ v with steps:=-1}) rfl (hM.num v.made v.st v.tr _) (by omega)))
  ·exact rO (by omega) rfl rfl (aX rfl (vmP (v:={ v with steps:=50000}) rfl (hM.num v.made v.st v.tr _) (by omega)))
  ·exact rO (by omega) rfl rfl (aX rfl (vmP (v:={ v with steps:=50001}) rfl (hM.num v.made v.st v.tr _) (by omega)))
 refine aI (aC (λ_=>?_) (λ_=>?_))
 ·have ho:=hM.o
  have fin : ∀ {t : ByteArray} {a' s' : Int},t.size≤2000→(0≤a'∧a'≤a+3000∧0≤s'∧s'<65521)→Ok (VmP l (a+3000)) (bd (PV.cat 1 16 false (.lst []) (.lst [.str t])) λv1487=>bd (PV.cat 1 16 false (.lst (v.out.map PV.str)) v1487) λv1488=>
   some [(.agg [(.lst (v.fr.map bT.pv)),(.lst (v.hp.map aR)),(.I v.made),v1488,(.I v.st),(.I v.tr),(.I v.val.k),(.I v.val.n),(.str v.val.s),(.I v.steps)]),bI l,.I a',.I s']):=λ{t a' s'} ht h=>by
   refine jN (by simp) (λz hz=>by simp at hz;subst hz;rfl) (fQ (by simp;omega) (λz hz=>by simp at hz;subst hz;rfl) ?_)
   exact vmP (v:={ v with out:=v.out++[t]}) (by simp [eA.pv]) (hM.out1 ht) h
  refine bJ hl (by omega) (by omega) (λq a5 s5 h5=>dF (by omega) (by show q<2;omega) ?_)
  have hq : q=0∨q=1:=by omega
  rcases hq with rfl | rfl
  ·exact rO (by omega) rfl rfl (fin (by decide) (by omega))
  ·exact rO (by omega) rfl rfl (fin (by decide) (by omega))
 refine aD (cN (aC (λh=>?_) (λ_=>same (by omega))))
 obtain ⟨fr,hp,made,out,st,tr,val,steps⟩:=v
 cases fr with
 | nil=>simp at h
 | cons f0 rest=>
   have hf:=hM.fl f0 List.mem_cons_self
   simp only [List.map_cons]
   refine aHQ (aDt rfl (aDt rfl (aA (y:=aS f0.loc) rfl (aY (cN (aC (λh2=>?_) (λ_=>same (by omega))))))))
   obtain ⟨ff,pc,loc,stk⟩:=f0
   cases loc with
   | nil=>simp at h2
   | cons z zs=>
     rw [aBn]
     refine aHQ (aDt rfl (aG (uI hl (by omega)) ?_))
     rintro r ⟨a5,s5,y,rfl,y1,y2,y3,y4,y5⟩
     refine aDt rfl (aA (y:=.lst (z.pv::zs.map cB.pv)) rfl (aHQ (aDt rfl (aA rfl (aDt rfl (aA (y:=.lst (z.pv::zs.map cB.pv)) rfl (aNz rfl (aDt rfl (aA rfl (zB rfl (by decide) rfl ?_))))))))))
     have hz:=hf.1
     exact vmP (v:=⟨⟨ff,pc,y::zs,stk⟩::rest,hp,made,out,st,tr,val,steps⟩) rfl (hM.fr1 ⟨⟨by have:=hz.1;simp at this ⊢;omega,λq hq=>by
      rcases List.mem_cons.1 (show q∈y::zs from hq) with rfl | hq
      ·omega
      ·have:=hz.2 q (List.mem_cons_of_mem _ hq);omega⟩,hf.2.up (by omega)⟩) (by omega)
end
variable {a0 a1 a2 a3 a4 a5 a6 a7 a8 a9 a10 a11 a12 a13 a14 a15 a16 a17 a18 a19 a20 a21 a22 a23 a24 a25 a26 a27 a28 a29 a30 a31 a32 a33 : PV}
def mvN (N : List Int) (v : cB) : cB:=if v.k=4 then ⟨v.k,rD N v.n,v.s⟩ else v
def mvF (N : List Int) (f : bT) : bT:=⟨f.f,f.pc,f.loc.map (mvN N),f.stk.map (mvN N)⟩
theorem aPG {N : List Int} (h : ∀ x∈N,0≤x) (i : Int) : 0≤rD N i:=by
 unfold rD
 cases e : N[i.toNat]? with
 | none=>exact Int.le_refl 0
 | some x=>exact h x (List.mem_of_getElem? e)
theorem aLO {N L : List Int} (h : ∀ x∈N,0≤x) (v : cB) : iX N L v=(mvN N v,N,L):=by
 unfold iX mvN
 by_cases hk : v.k=4
 ·rw [if_neg (by omega),if_neg (by have:=aPG h v.n;omega),if_pos hk]
 ·rw [if_pos hk,if_neg hk]
theorem aLP {N L : List Int} (h : ∀ x∈N,0≤x) : ∀ l : List cB,eP N L l=(l.map (mvN N),N,L)
 | []=>rfl
 | v::r=>by
   simp only [eP]
   rw [aLO h,aLP h r];rfl
theorem LF.mv {M : Nat} {N : List Int} {l : List cB} (h : LF M l) : LF M (l.map (mvN N)):=
 ⟨by rw [List.length_map];exact h.1,λy hy=>by obtain ⟨a,ha,rfl⟩:=List.mem_map.1 hy;have:=h.2 a ha;unfold mvN;split<;>exact this⟩
section
variable {P : R → Prop} {k : R → OR} {l : List Int}
theorem aPH {N : List Int} {l : List cB} {x : PV} (hv : sG N.length l) (hN : ∀ x∈N,0≤x) (hl : l.length≤1000) (h : Ok P (k [x,bD N,bD [],aS (l.map (mvN N))])) :
 Ok P (bd (bX (aS l) x (bD N) (bD [])) k):=by
 refine aG (aFc hv (by omega) (by simp)) (λr hr=>?_)
 rw [hr,aLP hN]
 exact h
section
variable {v : eA}
theorem aQ9 (g : sI v) (hM : Mid 1000 v) {N : List Int} (hN : N.length=v.hp.length) (hp : ∀ x∈N,0≤x) {K : List (List cB)} (hK : K.length≤1000) (hk : ∀ r∈K,LF 1000 r) {a s A : Int} (h0 : 0≤a∧a≤A∧0≤s∧s<65521)
 :
 Ok (VmP l A) (iJ (.I 0) (bI l) (.I a) (.I s) (fr0 v) a5 a6 a7 a8 a9 (.I v.val.k) (.I v.val.n) (.str v.val.s) a13 a14 a15 a16 a17 a18 a19 a20 (.I v.made) (.I v.st) (.I v.tr) a24 a25 a26 (.I v.steps) a28 a29 a30 a31 (fr0 v) (.lst (K.map aR)) (yZ v) (bD N) (bD [])):=by
 have nf:=g.nf
 have key:=cH (n:=v.fr.length) (P:=λ_=>VmP l A) (F:=λi=>iJ (.I i) (bI l) (.I a) (.I s) (fr0 v) a5 a6 a7 a8 a9 (.I v.val.k) (.I v.val.n) (.str v.val.s) a13 a14 a15 a16 a17 a18 a19 a20 (.I v.made) (.I v.st) (.I v.tr) a24 a25 a26 (.I v.steps) a28 a29 a30 a31 (.lst (((v.fr.take i).map (mvF N)).map bT.pv++(v.fr.drop i).map bT.pv)) (.lst (K.map aR)) (yZ v) (bD N) (bD [])) ?_ (λi hi ih=>?_) 0 (by omega)
 ·simpa using key
 ·rw [qS]
  refine aD (aH (aC (λh=>by omega) (λ_=>?_)))
  refine aG (aEo (by rw [hN];exact g.vl) (by simp)) (λr hr=>?_)
  rw [hr,aLO hp]
  refine aE rfl (aA rfl (aA rfl (aA rfl ?_)))
  rw [List.take_length,List.drop_length,List.map_nil,List.append_nil]
  refine vmP (v:=⟨v.fr.map (mvF N),K,v.made,v.out,v.st,v.tr,mvN N v.val,v.steps⟩) rfl (Mid.fine (Mid.up (N:=1000) ⟨?_,hK,hM.o,λf hf=>?_,hk,?_,hM.outs⟩ (by omega))) h0
  ·have:=hM.f
   show (v.fr.map (mvF N)).length≤1000
   rw [List.length_map];exact this
  ·obtain ⟨f0,hf0,rfl⟩:=List.mem_map.1 (show f∈v.fr.map (mvF N) from hf)
   exact ⟨(hM.fl f0 hf0).1.mv,(hM.fl f0 hf0).2.mv⟩
  ·have:=hM.val
   show (mvN N v.val).s.size≤1000
   unfold mvN;split<;>exact this
 ·rw [qS]
  obtain ⟨f1,f2,f3,f4⟩:=g.fl _ (List.getElem_mem hi)
  refine aD (aH (aC (λ_=>?_) (λh=>by omega)))
  refine aK hi (λ_=>rfl) (aA (y:=aS v.fr[i].loc) rfl (aPH (by rw [hN];exact f3) hp (by omega) ?_))
  rw [List.drop_eq_getElem_cons hi,List.map_cons]
  have hlen : ((i : Nat) : Int)=(((v.fr.take i).map (mvF N)).map bT.pv).length:=by simp;omega
  refine kT hlen (eL (off:=2) hlen rfl (by decide) rfl ?_)
  refine aK hi (λ_=>rfl) (aA (y:=aS v.fr[i].stk) rfl (aPH (by rw [hN];exact f4) hp (by omega) ?_))
  refine kT hlen (eL (off:=3) hlen rfl (by decide) rfl (aL (by omega) ?_))
  have e : ((v.fr.take (i+1)).map (mvF N)).map bT.pv=((v.fr.take i).map (mvF N)).map bT.pv++[(mvF N v.fr[i]).pv]:=by
   rw [List.take_add_one,List.getElem?_eq_getElem hi,List.map_append,List.map_append];rfl
  rw [e,List.append_assoc] at ih
  exact ih
theorem aRa (g : sI v) (hM : Mid 1000 v) {N : List Int} (hN : N.length=v.hp.length) (hp : ∀ x∈N,0≤x) {a s A b : Int} (hb : 0≤b∧b≤1000000) (h0 : 0≤a∧a≤A∧0≤s∧s<65521)
 :
 Ok (VmP l A) (eV (.I v.hp.length) (.I b) (.I 0) (bI l) (.I a) (.I s) (fr0 v) (hp0 v) a8 a9 a10 a11 (.I v.val.k) (.I v.val.n) (.str v.val.s) a15 a16 a17 a18 a19 a20 a21 a22 (.I v.made) (.I v.st) (.I v.tr) a26 a27 a28 (.I v.steps) a30 a31 a32 a33 (fr0 v) (hp0 v) (yZ v) (bD N) (bD [])):=by
 have nh:=g.h
 refine vW (n:=v.hp.length) (σ:=List (List cB)) (F:=λi K=>eV (.I v.hp.length) (.I b) (.I i) (bI l) (.I a) (.I s) (fr0 v) (hp0 v) a8 a9 a10 a11 (.I v.val.k) (.I v.val.n) (.str v.val.s) a15 a16 a17 a18 a19 a20 a21 a22 (.I v.made) (.I v.st) (.I v.tr) a26 a27 a28 (.I v.steps) a30 a31 a32 a33 (fr0 v) (.lst (K.map aR)) (yZ v) (bD N) (bD []))
  (λi K=>K.length=v.hp.length∧∀ r∈K,LF 1000 r) ?_ ?_ 0 v.hp (by omega) ⟨rfl,hM.hl⟩
 ·rintro K ⟨k1,k2⟩
  show Ok _ (eV _ _ _ _ _ _ _ _ _ _ _ _ _ _ _ _ _ _ _ _ _ _ _ _ _ _ _ _ _ _ _ _ _ _ _ (.lst (K.map aR)) _ _ _)
  rw [qR]
  exact aH (aC (λh=>by omega) (λ_=>aQ9 g hM hN hp (by omega) k2 h0))
 ·rintro i K hi ⟨k1,k2⟩ ih
  show Ok _ (eV _ _ _ _ _ _ _ _ _ _ _ _ _ _ _ _ _ _ _ _ _ _ _ _ _ _ _ _ _ _ _ _ _ _ _ (.lst (K.map aR)) _ _ _)
  rw [qR]
  obtain ⟨r1,r2⟩:=g.hr _ (List.getElem_mem hi)
  have hn0 : (0 : Int)<v.hp.length:=by omega
  have m0:=Int.emod_nonneg ((i : Int)+b) (show (v.hp.length : Int)≠0 by omega)
  have m1:=Int.emod_lt_of_pos ((i : Int)+b) hn0
  refine aH (aC (λ_=>?_) (λh=>by omega))
  refine aL (by omega) (jB (by omega) hn0 (aK hi (λ_=>rfl) (aA (y:=aS v.hp[i]) rfl (aPH (by rw [hN];exact r2) hp (by omega) ?_))))
  refine dF m0 (by rw [List.length_map,k1];exact m1) (aDu m0 (by rw [List.length_map,k1];exact m1) rfl (aL (by omega) ?_))
  have e : (K.map aR).set (((i : Int)+b) % v.hp.length).toNat (.agg [aS (v.hp[i].map (mvN N))])=(K.set (((i : Int)+b) % v.hp.length).toNat (v.hp[i].map (mvN N))).map aR:=by
   rw [List.map_set];rfl
  have:=ih (K.set (((i : Int)+b) % v.hp.length).toNat (v.hp[i].map (mvN N))) ⟨by rw [List.length_set];exact k1,λr hr=>by
   rcases List.mem_or_eq_of_mem_set hr with hr | rfl
   ·exact k2 r hr
   ·exact (hM.hl _ (List.getElem_mem hi)).mv⟩
  rw [← e] at this
  exact this
theorem aMO (hl : Bts l) (g : sI v) (z : Sz v) (hM : Mid 1000 v) {a s A : Int} (h0 : 0≤a∧a+10≤A∧A≤900000000∧0≤s∧s<65521) :
 Ok (VmP l A) (tH (fr0 v) (hp0 v) (.I v.made) (yZ v) (.I v.st) (.I v.tr) (.I v.val.k) (.I v.val.n) (.str v.val.s) (.I v.steps) (bI l) (.I a) (.I s)):=by
 have nh:=g.h
 rw [aDh]
 refine aD (aI (aC (λ_=>vmP (v:=v) rfl (hM.up (by omega)).fine (by omega)) (λh=>?_)))
 refine bJ hl (by omega) (by omega) (λb a1 s1 h1=>aB8 z (fD ?_))
 simp only [cp0,cp1,cp2,cp3,cp4,cp5,cp6,cp7,cp8,cp9]
 refine vW (n:=v.hp.length) (σ:=List Int) (F:=λi N=>gL (.I v.hp.length) (.I b) (.I i) (bI l) (.I a1) (.I s1) (fr0 v) (hp0 v) (.I v.made) (yZ v) (.I v.st) (.I v.tr) (.I v.val.k) (.I v.val.n) (.str v.val.s) (.I v.steps) (.I 0) (.I 0) (.I 0) (.I 0) (.I 0) (.str (bs [])) (.I 0) (.I v.made) (.I v.st) (.I v.tr) (.I v.val.k) (.I v.val.n) (.str v.val.s) (.I v.steps) (.lst []) (.lst []) (.lst []) (.lst []) (fr0 v) (hp0 v) (yZ v) (bD N) (bD []))
  (λi N=>N.length=i∧∀ x∈N,0≤x) ?_ ?_ 0 [] (by omega) ⟨rfl,λx h=>by cases h⟩
 ·rintro N ⟨n1,n2⟩
  show Ok _ (gL _ _ _ _ _ _ _ _ _ _ _ _ _ _ _ _ _ _ _ _ _ _ _ _ _ _ _ _ _ _ _ _ _ _ _ _ _ (bD N) _)
  rw [rJ]
  exact aH (aC (λh=>by omega) (λ_=>aRa g hM n1 n2 (by omega) (by omega)))
 ·rintro i N hi ⟨n1,n2⟩ ih
  show Ok _ (gL _ _ _ _ _ _ _ _ _ _ _ _ _ _ _ _ _ _ _ _ _ _ _ _ _ _ _ _ _ _ _ _ _ _ _ _ _ (bD N) _)
  rw [rJ]
  have hn0 : (0 : Int)<v.hp.length:=by omega
  have m0:=Int.emod_nonneg ((i : Int)+b) (show (v.hp.length : Int)≠0 by omega)
  refine aH (aC (λ_=>?_) (λh=>by omega))
  refine aL (by omega) (jB (by omega) hn0 (dZ (l:=[]) (ys:=[((i : Int)+b) % v.hp.length]) (by simp) (dZ (ys:=[((i : Int)+b) % v.hp.length]) (by simp;omega) (aL (by omega) ?_))))
  exact ih (N++[((i : Int)+b) % v.hp.length]) ⟨by rw [List.length_append,n1];rfl,λx hx=>by
   rcases List.mem_append.1 hx with hx | hx
   ·exact n2 x hx
   ·rw [List.mem_singleton] at hx;rw [hx];exact m0⟩
end
open Classical in
theorem aHR (hl : Bts l) : Ok (λr=>∃ (m : eN) (v : eA),r = [.tup [m.pv,v.pv]]∧m.sized∧v.fine) (rV (bI l)):=by
 rw [aCg]
 refine aQm hl (λs hs=>aG (aLJ hl (by omega)) ?_)
 rintro r ⟨a1,s1,m,rfl,h1,h2,h3,h4,hm,hm1,hm2⟩
 refine aE rfl (aA rfl (aA rfl (aG (aOD hl hm hm1 (by omega) (by omega)) ?_)))
 rintro r ⟨a2,s2,v,rfl,g1,g2,g3,g4,hf⟩
 refine aE rfl (aA rfl (aA rfl (aA rfl (aA rfl (aA rfl (aA rfl (aA rfl (aA rfl (aA rfl (aA rfl (?_)))))))))))
 refine aG (aBM hm hf) (λr hr=>?_)
 rw [hr]
 by_cases hk : aBL m v
 ·rw [decide_eq_true hk]
  refine bB (aG (aMO hl (uH hk.1 hk.2) (hk.2.toVmI.sz hk.1) (hk.2.mid hk.1) (A:=a2+10) (by omega)) ?_)
  rintro r ⟨a3,s3,w,rfl,_,_,_,_,hw⟩
  exact aE rfl (aA rfl (aA rfl (aA rfl (aA rfl (aA rfl (aA rfl (aA rfl (aA rfl (aA rfl (aA rfl (aB ⟨m,w,rfl,hm,hw⟩)))))))))))
 ·rw [decide_eq_false hk]
  exact aT (aB ⟨m,v,rfl,hm,hf⟩)
end
section
variable {l : List Int}
open Classical in
theorem aPI (m : eN) (v : eA) : Sz (aBP m v):=by
 unfold aBP
 split
 ·rename_i h;exact aPw (h.2.toVmI.sz h.1) _
 ·exact aQv
end
section
variable {m : eN}
open Classical in
theorem aCK (hs : m.sized) {v : eA} (h : v.fine) : Ok (λr=>r=dD (aBP m v)) (uB m.pv v.pv):=by
 rw [aF0]
 refine aE rfl (aA rfl (aA rfl ?_))
 refine aE rfl (aA rfl (aA rfl (aA rfl (aA rfl (aA rfl (aA rfl (aA rfl (aA rfl (aA rfl (aA rfl (?_)))))))))))
 refine aG (tD hs h) (λr hr=>?_)
 rw [hr]
 refine bC ?_
 by_cases hk : aBL m v
 ·rw [decide_eq_true hk]
  have e : aBP m v=eT v:=if_pos hk
  have g:=uH hk.1 hk.2
  rw [e,aGn g]
  have hT:=aFf g
  have hl:=hT.len
  have nh:=g.h
  refine aT (aG (aEp g) (λr hr=>?_))
  rw [hr,xV]
  refine aG (Q:=λr=>r = [.fn 135 [.bx [bD (cR v)]]]) (aX rfl (aB rfl)) (λr hr=>?_)
  rw [hr]
  refine aOz (by omega) ?_
  rw [aFK hT]
  refine aG (aNu g (hk.2.toVmI.sz hk.1) (aEt g)) (λr hr=>?_)
  rw [hr]
  exact fD (aB rfl)
 ·rw [decide_eq_false hk]
  have e : aBP m v=vmZ:=if_neg hk
  rw [e]
  exact bB (aB rfl)
end
section
variable {l : List Int}
open Classical in
theorem aKf (h0 : ∀ x∈l,0≤x∧x≤255) : aZ 6 [bI l]=some [.bool true]:=by
 refine Ok.eq ?_
 show Ok _ (yQ (bI l))
 rw [aCf]
 refine aQ3 h0 (λhl=>aT ?_) (bB (aB rfl))
 refine aG (aHR hl) ?_
 rintro r ⟨m,v,rfl,hs,hf⟩
 refine bG rfl (bG rfl (aE rfl (aA rfl (aA rfl ?_))))
 refine aE rfl (aA rfl (aA rfl (aA rfl (aA rfl (aA rfl (aA rfl (aA rfl (aA rfl (aA rfl (aA rfl (?_)))))))))))
 refine aG (aCK hs hf) (λr hr=>?_)
 rw [hr]
 refine fD (aG (aIt hs hf) (λr hr=>?_))
 rw [hr]
 refine fD (aG (aNx (aPI m v)) (λr hr=>?_))
 rw [hr]
 refine eR rfl (bC (aT (aG (aBM hs hf) (λr hr=>?_))))
 rw [hr]
 refine bC ?_
 by_cases hk : aBL m v
 ·rw [decide_eq_true hk]
  have e : aBP m v=eT v:=if_pos hk
  rw [e]
  have ec : aQt m v=aEq v:=if_pos hk
  obtain ⟨g,K⟩:=hk
  have K2:=K.coll g
  have s2 : aBL m (eT v):=⟨g,K2⟩
  have gg:=uH g K
  refine aT (aG (tD hs (K2.tofine g)) (λr hr=>?_))
  rw [hr,decide_eq_true s2]
  refine eR rfl (bB (aG (aLN hs g K2 K (aPz gg)) (λr hr=>?_)))
  rw [hr]
  refine eR rfl (bB (aI (aC (λ_=>aD (aG (aLH hs hf) (λr hr=>?_))) (λh=>absurd rfl h))))
  rw [hr,ec]
  refine fD (aD (aI (aC (λ_=>aG (aCK hs (K2.tofine g)) (λr hr=>?_)) (λh=>absurd ?_ h))))
  ·have e2 : aBP m (eT v)=eT v:=(if_pos s2).trans (aOB gg)
   rw [hr,e2]
   refine fD (aG (aNx (K2.toVmI.sz g)) (λr hr=>?_))
   rw [hr]
   exact eR rfl (aB rfl)
  ·have:=aPA gg
   omega
 ·rw [decide_eq_false hk]
  have e : aBP m v=vmZ:=if_neg hk
  rw [e]
  exact bB (aD (aI (aB rfl)))
end
end
noncomputable section
open Go Go.ChangeShapes Go.WideShapes Go.ChangeAt Go.RowKit
def aEv (w : World) (a : Option Addr) (len cap : Nat) (zs : List Int) : Prop:=
 (a=none∧len=0∧cap=0∧zs = [])∨
 ∃ x,a=some x∧len≤cap∧cap≤maxLen∧zs.length=cap∧(∀ i,i<zs.length→w.cell? (x.add i)=some (.int .u8 (zs.getD i 0)))∧∀ n∈zs,(Lit.int .u8 n).wf=true
theorem cell_inv {w : World} {a : Addr} {v : Value} (h : w.cell? a=some v) : a.spot=none∧∃ c e fz,w.heap[a.block]? = some (.cells c e fz)∧c[a.off]? = some v:=by
 unfold World.cell? at h
 split at h
 ·rename_i c e fz hc
  split at h
  ·cases h
  ·rename_i hs
   exact ⟨by simpa using hs,c,e,fz,hc,h⟩
 ·cases h
theorem aEv.rep {w : World} {a : Option Addr} {len cap : Nat} {zs : List Int} (h : aEv w a len cap zs) : iH w (λr=>r<w.heap.size) (bI (zs.take len)) (.slice a len cap):=by
 rcases h with ⟨rfl,rfl,rfl,rfl⟩ | ⟨x,rfl,hl,_,hz,hc,_⟩
 ·exact .empty none 0
 ·by_cases h0 : len=0
  ·subst h0;exact .empty _ cap
  ·have hlen : ((zs.take len).map (PV.int .u8)).length=len:=by simp;omega
   obtain ⟨hsp,c,e,fz,hh,hc0⟩:=cell_inv (hc 0 (by omega))
   have hx : x=⟨x.block,x.off,none⟩:=by
    have : x.spot=none:=by
     have h1 : (x.add 0).spot=none:=hsp
     unfold Addr.add at h1
     split at h1<;>simp_all
    cases x;simp_all
   rw [hx] at hc ⊢
   have hb : (x.add 0).block=x.block:=by unfold Addr.add;split<;>rfl
   rw [hb] at hh
   have:=iH.lst (w:=w) (Z:=λr=>r<w.heap.size) ((zs.take len).map (PV.int .u8)) x.block x.off 1 cap false c e fz (λi _=>.int .u8 (zs.getD i 0)) (Array.getElem?_eq_some_iff.1 hh).1 hh (by omega) (by omega)
    (λi y hy=>by
     rw [List.getElem?_map] at hy
     cases hi : (zs.take len)[i]? with
     | none=>rw [hi] at hy;cases hy
     | some q=>rw [hi] at hy;cases hy;rfl)
    (λi j hi hj=>by
     have hj0 : j=0:=by omega
     subst hj0
     have h1:=hc i (by omega)
     rw [lH] at h1
     obtain ⟨_,c',e',fz',hh',hc'⟩:=cell_inv h1
     have hh' : w.heap[x.block]? = some (.cells c' e' fz'):=hh'
     rw [hh] at hh'
     cases hh'
     simpa using hc')
    (λ_ _ _ _=>trivial)
    (λi j y hy hj=>by
     rw [List.getElem?_map] at hy
     cases hi : (zs.take len)[i]? with
     | none=>rw [hi] at hy;cases hy
     | some q=>
       rw [hi] at hy
       cases hy
       have hlt : i<(zs.take len).length:=(List.getElem?_eq_some_iff.1 hi).1
       have : zs.getD i 0=q:=by
        rw [List.getElem?_take] at hi
        split at hi
        ·rw [List.getD,hi];rfl
        ·cases hi
       rw [this]
       exact .int _ _)
   rw [hlen] at this
   exact this
theorem aEv.wf {w : World} {a : Option Addr} {len cap : Nat} {zs : List Int} (h : aEv w a len cap zs) : ∀ x∈zs.take len,(Lit.int .u8 x).wf=true:=by
 intro x hx
 rcases h with ⟨_,_,_,rfl⟩ | ⟨_,_,_,_,_,_,hw⟩
 ·simp at hx
 ·exact hw x (List.mem_of_mem_take hx)
theorem aMP (n : Nat) (args : R) (aS : Array Value) (h : aZ n args=some [.bool true]) {w : World} (gz : aGr w λr=>r<w.heap.size) (hl : args.length=aS.size) (hr : ∀ (i : Nat) x v,args[i]? = some x→aS[i]? = some v→iH w (λr=>r<w.heap.size) x v) :
 Calls Tryz.prog n aS w λe w'=>e = .returned (.bool true)∧Below w.heap.size w w':=by
 refine (aKV hyp h (Z:=λr=>r<w.heap.size) ⟨λ_ h=>h,gz⟩ hl hr).mono ?_
 rintro e w' ⟨v,rfl,Z',pe,hrep⟩
 have hrep : iH w' Z' (.bool true) v:=hrep
 rw [hrep.bool_inv]
 exact ⟨rfl,pe.os,pe.tape,pe.output,pe.size,pe.old⟩
theorem aRb {l : List Int} (h : ∀ x∈l,(Lit.int .u8 x).wf=true) : ∀ x∈l,0≤x∧x≤255:=by
 intro x hx
 have:=h x hx
 have e1 : IntKind.min .u8=0:=rfl
 have e2 : IntKind.max .u8=255:=rfl
 simp only [Lit.wf,e1,e2,Bool.and_eq_true,decide_eq_true_eq] at this
 exact this
theorem own : ownKnob Tryz.prog.godebug=none:=by kernel_rfl
theorem aQz : laidOutB Tryz.prog=true:=by kernel_rfl
end
end Go.Proofs.YtllmobkkbpdchaaGreat
