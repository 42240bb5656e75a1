/-
  Texts of the proof, part 7: a value-level evaluator and its soundness, what the functions compute, laws about it.
  Conditions: none.
-/
import Derived.Test.YtllmobkkbpdchaaGreatDoorF
import Derived.WalkKit
import Derived.ProofKit
import Derived.OpenShut
import Derived.ShutString
import Derived.ChangeOld
import Derived.ChangeArms
import Derived.DataReads
import Derived.Laws.Strings
set_option linter.all false
namespace Go.Proofs.YtllmobkkbpdchaaGreatDoor
noncomputable section
open Go Go.IntWalk
attribute [local irreducible] bd aV aE aH bE aS PV.cell PV.sub aB aK bV dG dL dQ cQ aD dM dB bR bA cG aN aX aC bM bC bD bK aW PV.deref bG cA aT dJ cJ cK dO PV.apply bL bO fK cC
def mtD : Nat→Int→ByteArray→ByteArray
 | 0,_,s=>bs [109]++s
 | n+1,k,s=>if 0<k then mtD n (k / 10) (⟨([48+k % 10].map λx=>UInt8.ofNat x.toNat).toArray⟩++s) else bs [109]++s
def mtx (k : Int) : ByteArray:=mtD 19 k (bs [])
section
variable {P : R → Prop} {k : R → OR}
end
def cS (_ : ByteArray) : Nat:=1
def mS (q : Int) (_ : ByteArray) : ByteArray:=mtx q
def cI (_ : eC) : Nat:=2
def mI (q : Int) (_ : eC) : eC:=⟨q,q+1⟩
def cF (f : eJ) : Nat:=2+aIu cI f.code
def mF (q : Int) (f : eJ) : eJ:=⟨q,q+1,aBU mI cI (q+2) f.code⟩
def cM (m : fO) : Nat:=aIu cS m.texts+aIu cF m.funcs
def mM (q : Int) (m : fO) : fO:=⟨aBU mS cS q m.texts,aBU mF cF (q+aIu cS m.texts) m.funcs⟩
def fnW (A B : R) (p lc : Int) (xs : R) : PV:=.lst (A++.agg [.I p,.I lc,.lst xs]::B)
structure mL.few (v : mL) : Prop where
 f : v.fr.length≤2097152
 h : v.hp.length≤2097152
 o : v.out.length≤2097152
 fl : ∀ f∈v.fr,f.loc.length≤2097152∧f.stk.length≤2097152
 hl : ∀ r∈v.hp,r.length≤2097152
theorem Sz.few {v : mL} (z : Sz v) : v.few:=⟨by have:=z.f;omega,by have:=z.h;omega,by have:=z.o;omega,λf hf=>by have:=z.fl f hf;omega,λr hr=>by have:=z.hl r hr;omega⟩
variable {v : mL} {m : fO}
section
variable {P : R → Prop} {k : R → OR}
def uR (v : mL) (b : Bool) : R:=[.I v.made,.I v.st,.I v.tr,.I v.val.k,.I v.val.n,.str v.val.s,.I v.steps,.bool b,.lst (v.fr.map dC.pv),.lst (v.hp.map bQ),.lst (v.out.map PV.str)]
theorem aHh {b : Bool} {o : OR} (H : Ok P o) :
 Ok P (aE (gd (uR v b) 0) (aE (gd (uR v b) 1) (aE (gd (uR v b) 2) (aE (gd (uR v b) 3) (aE (gd (uR v b) 4) (aE (gd (uR v b) 5) (aE (gd (uR v b) 6) (aE (gd (uR v b) 7)
  (aH oF (gd (uR v b) 8) (aH oH (gd (uR v b) 9) (aH oO (gd (uR v b) 10) o))))))))))):=
 eF rfl (eF rfl (eF rfl (eF rfl (eF rfl (eF rfl (eF rfl (eF rfl (gD (aE4 _) (gD (aFC _) (gD (aJu _) H))))))))))
theorem aMH (z : Sz v) (hst : 0≤v.steps∧v.steps≤50000) (hg : v.st=0→v.steps≠50000→∃ fs0 f,aVb m v fs0 f) : Ok (λr=>r=oC (iZ m v)) (zL m.pv v.pv):=by
 rw [aKw]
 refine dY (tS ?_)
 refine dD (λh=>?_) (λh=>?_)
 ·refine aKZ z (pF (aA ?_))
  unfold iZ
  rw [if_pos h];rfl
 have h0 : v.st=0:=by simpa using h
 refine aJ (λh=>?_) (λh5=>?_)
 ·refine aKZ z (pF (aA ?_))
  unfold iZ
  rw [eV,if_pos h];rfl
 obtain ⟨fs0,f,G⟩:=hg h0 h5
 rw [aFD h0 h5 G.fr]
 obtain ⟨gfr,gfi,gpc,gnc,gins,gus,gsm⟩:=G
 obtain ⟨fi,hfi⟩:=Int.eq_ofNat_of_zero_le gfi.1
 obtain ⟨pi,hpi⟩:=Int.eq_ofNat_of_zero_le gpc.1
 have hfl : fi<m.funcs.length:=by omega
 have hco : dR m.funcs f.f=m.funcs[fi].code:=by simp [dR,hfi,List.getElem?_eq_getElem hfl]
 have hpl : pi<m.funcs[fi].code.length:=by rw [← hco];omega
 have hin : pG m.funcs f=m.funcs[fi].code[pi]:=by simp [pG,hco,hpi,List.getElem?_eq_getElem hpl]
 have n0:=(gsm 0).n0
 have nA : (fs0.map dC.pv).length≤23:=by rw [List.length_map];exact n0
 refine aKZ z (pF ?_)
 have efr : v.fr.map dC.pv=fs0.map dC.pv++[f.pv]:=by rw [gfr,List.map_append];rfl
 show Ok _ (bd (gT _ _ _ _ _ _ _ _ _ _ (.lst (v.fr.map dC.pv)) _ _) _)
 rw [efr]
 refine aE3 (by omega) ?_
 refine dV rfl rfl (aL rfl ?_)
 rw [hfi]
 refine aQ hfl (λ_=>rfl) (aL (y:=.lst (m.funcs[fi].code.map eC.pv)) rfl (dV rfl rfl (aL rfl ?_)))
 rw [hpi]
 refine aQ hpl (λ_=>rfl) (dY (dV rfl rfl (aL rfl ?_)))
 refine bS (bJ rfl (eW rfl rfl (by omega) rfl ?_))
 generalize hb : f.stk.length - (bU m.funcs (pG m.funcs f)).1.toNat=b
 have hsplit : f.stk=f.stk.take b++f.stk.drop b:=(List.take_append_drop b f.stk).symm
 have hdo:=aWu (nc:=(dR m.funcs f.f).length) (a3:=.I v.st) (a4:=.I v.tr) (a5:=.I v.val.k) (a6:=.I v.val.n) (a7:=.str v.val.s) (a8:=.I v.steps) (gsm b) gins (by rw [List.length_drop];omega)
 rw [hin] at hdo hb
 have hnx : aDE m v fs0 f=fX m ⟨f.f,f.pc+1,f.loc,f.stk.take b⟩ (f.stk.drop b) (fs0.length+1) v.hp v.made v.out m.funcs[fi].code[pi]:=by
  simp only [aDE]
  rw [hin,hb]
 rw [← hnx] at hdo
 rw [← hsplit] at hdo
 refine aI hdo (λr hr=>?_)
 cases ha : aDE m v fs0 f with
 | trap c=>
   rw [ha] at hr
   obtain ⟨hc,hr⟩:=hr
   rw [hr]
   refine dD (λ_=>?_) (λh=>absurd (by simpa using h) hc)
   rw [← efr]
   refine aKZ z ?_
   refine pF ?_
   refine bJ rfl ?_
   refine bS ?_
   refine bJ rfl (aA rfl)
 | next fr hp made out=>
   rw [ha] at hr
   have hr : r=_:=hr
   subst hr
   refine dD (λh=>absurd rfl h) (λ_=>bS (bJ rfl (aA ?_)))
   simp only [aE5,oC,List.map_append]
   rfl
 | call fr g=>
   rw [ha] at hr
   have hr : r=_:=hr
   subst hr
   refine dD (λh=>absurd rfl h) (λ_=>bS (bJ rfl (aA ?_)))
   simp only [aE5,oC,List.map_append,List.append_assoc]
   rfl
 | ret a=>
   rw [ha] at hr
   have hr : r=_:=hr
   by_cases hf : fs0 = []
   ·rw [if_pos hf] at hr
    subst hr
    refine dD (λh=>absurd rfl h) (λ_=>bS (bJ rfl (aA ?_)))
    simp only [aE5,if_pos hf,oC]
    rfl
   ·rw [if_neg hf] at hr
    subst hr
    refine dD (λh=>absurd rfl h) (λ_=>bS (bJ rfl (aA ?_)))
    simp only [aE5,if_neg hf,oC]
    rfl
theorem aJ8 {args : List eR} (hs : m.sized) (ha : ∀ v∈args,v.s.size≤2097152) (hn : args.length≤2097152) :
 Ok (λr=>r=uR (if lG m args then lF m args else vmZ) (lG m args)) (aCS m.pv (bI args)):=by
 rw [aNb]
 have no : lG m args=false→Ok (λr=>r=uR (if lG m args then lF m args else vmZ) (lG m args)) (some (uR vmZ false)):=λh=>aA (by rw [h];rfl)
 refine dY (aK1 hs (cD ?_))
 cases hg : aBw m with
 | false=>exact bF (no (by simp [lG,hg]))
 | true=>
   have g:=aAQ hs hg
   obtain ⟨f1,f2,ff⟩:=g.fit
   have h0 : (0 : Int)≤0∧(0 : Int)<m.funcs.length:=by omega
   obtain ⟨i0,hi0,he,hc,F,p1,p2,p3,p4,hlc,hpar,hins⟩:=g.code h0
   refine bP (aF (xC h0 (aL rfl (dD (λh=>no (by simp [lG,h])) (λhpn=>?_)))))
   have e0 : lG m args=args.all (cW m.funcs.length 0):=by simp [lG,hg,hpn]
   have loop : ∀ i,i≤args.length→Ok (λr=>r=uR (if (args.drop i).all (cW m.funcs.length 0) then lF m args else vmZ) ((args.drop i).all (cW m.funcs.length 0)))
    (sR (bI args) (.I i) (.lst (m.texts.map PV.str)) (.lst (m.funcs.map eJ.pv)) (.I 0) (.I 0) (.I 0) (.I 0) (.I 0) (.str (bs [])) (.I 0) (.lst []) (.lst []) (.lst [])):=by
    refine fQ (n:=args.length) (F:=λi=>sR (bI args) (.I i) (.lst (m.texts.map PV.str)) (.lst (m.funcs.map eJ.pv)) (.I 0) (.I 0) (.I 0) (.I 0) (.I 0) (.str (bs [])) (.I 0) (.lst []) (.lst []) (.lst []))
     (P:=λi r=>r=uR (if (args.drop i).all (cW m.funcs.length 0) then lF m args else vmZ) ((args.drop i).all (cW m.funcs.length 0))) ?_ (λi hi ih=>?_)
    ·rw [aCi,List.drop_length]
     obtain ⟨n,hn0⟩:=Int.eq_ofNat_of_zero_le (show 0≤aCp m.funcs 0 by omega)
     refine aF (fB ?_)
     rw [decide_eq_false (by omega)]
     refine bP (xC h0 (aL rfl ?_))
     rw [hn0]
     refine aBu (by omega) (by omega) (jM ?_)
     rw [decide_eq_true (Int.le_refl _)]
     refine bF (aBu (by omega) (by omega) ?_)
     rw [Int.toNat_natCast]
     have hle : args.length≤n:=by omega
     have inner : ∀ i,i≤args.length→Ok (λr=>r=uR (lF m args) true) (rD (bI args) (.I i) (.I 0) (.I 0) (.I 0) (.I 0) (.I 0) (.str (bs [])) (.I 0) (.I 0) (.I 0) (.lst []) (.lst []) (.lst []) (bI (args.take i++List.replicate (n - i) eQ)) (.lst [])):=by
      refine fQ (n:=args.length) (F:=λi=>rD (bI args) (.I i) (.I 0) (.I 0) (.I 0) (.I 0) (.I 0) (.str (bs [])) (.I 0) (.I 0) (.I 0) (.lst []) (.lst []) (.lst []) (bI (args.take i++List.replicate (n - i) eQ)) (.lst []))
       (P:=λ_ r=>r=uR (lF m args) true) ?_ (λi hi ih=>?_)
      ·rw [aBm,List.take_length]
       refine aF (fB ?_)
       rw [decide_eq_false (by omega)]
       refine bP (aA ?_)
       have : (yP m.funcs 0 args)=⟨0,0,args++List.replicate (n - args.length) eQ,[]⟩:=by unfold yP;rw [hn0,Int.toNat_natCast]
       unfold lF uR
       rw [this];rfl
      ·rw [aBm]
       refine aF (fB ?_)
       rw [decide_eq_true (by omega)]
       have hlen : (args.take i++List.replicate (n - i) eQ).length=n:=by simp;omega
       refine bF (aQ hi (λ_=>rfl) (gV (by omega) (by omega) (uP (by omega) (by omega) (bS ?_))))
       have : (args.take i++List.replicate (n - i) eQ).set (i : Int).toNat args[i]=args.take (i+1)++List.replicate (n - (i+1)) eQ:=by
        rw [Int.toNat_natCast,List.set_append_right _ _ (by simp;omega)]
        rw [show List.replicate (n - i) eQ=eQ::List.replicate (n - (i+1)) eQ by rw [show n - i=(n - (i+1))+1 by omega,List.replicate_succ]]
        have : i - (args.take i).length=0:=by simp;omega
        rw [this,List.set_cons_zero,List.take_add_one,List.getElem?_eq_getElem hi,Option.toList_some,List.append_assoc];rfl
       rw [this]
       exact ih
     have:=inner 0 (by omega)
     simpa using this
    ·rw [aCi]
     have:=ha _ (List.getElem_mem hi)
     have hfl:=hs.2.1
     refine aF (fB ?_)
     rw [decide_eq_true (by omega)]
     refine bF (aQ hi (λ_=>rfl) (aI (aAO (v:=args[i]) hfl (by omega)) (λr hr=>?_)))
     subst hr
     have ed : args.drop i=args[i]::args.drop (i+1):=List.drop_eq_getElem_cons hi
     refine cD ?_
     cases hv : cW m.funcs.length 0 args[i] with
     | false=>
       refine bF (aA ?_)
       rw [ed,List.all_cons,hv];rfl
     | true=>
       refine bP (bS ?_)
       rw [ed,List.all_cons,hv,Bool.true_and]
       exact ih
   have:=loop 0 (by omega)
   rw [List.drop_zero,← e0] at this
   exact this
end
variable {a b s c : hY} {o : Int} {p : List hY} {k : R → OR}
def orI (a b : Int) : Int:=IntKind.i64.wrap (BitVec.ofInt IntKind.i64.bits a||| BitVec.ofInt IntKind.i64.bits b).toNat
theorem aUc {a b : Int} (ha : 1≤a∧a≤3) (hb : 1≤b∧b≤3) : 1≤orI a b∧orI a b≤3:=by
 obtain ⟨x,rfl⟩:=Int.eq_ofNat_of_zero_le (show 0≤a by omega)
 obtain ⟨y,rfl⟩:=Int.eq_ofNat_of_zero_le (show 0≤b by omega)
 have h1 : x=1∨x=2∨x=3:=by omega
 have h2 : y=1∨y=2∨y=3:=by omega
 rcases h1 with rfl | rfl | rfl<;>rcases h2 with rfl | rfl | rfl<;>decide
def kK (o : Int) (a b : hY) : hY:=if o≠23 then ⟨a.f,a.pc,orI a.seen b.seen,a.tgt⟩ else if a.seen≠1∨b.seen≠1∨a.tgt≠b.tgt then ⟨a.f,a.pc,2,0⟩ else a
def pI (a b : hY) : Prop:=a.f=b.f∧a.pc=b.pc
instance (a b : hY) : Decidable (pI a b):=by unfold pI;infer_instance
def qF (o : Int) : List hY→hY→List hY
 | [],s=>[s]
 | a::r,s=>if pI a s then kK o a s::r else if dZ s a then s::a::r else a::qF o r s
theorem aFH {r : List hY} : qF o (a::r) s=if pI a s then kK o a s::r else if dZ s a then s::a::r else a::qF o r s:=rfl
theorem aIv (o : Int) : ∀ (p : List hY) (s : hY),(qF o p s).length≤p.length+1
 | [],s=>by simp [qF]
 | a::r,s=>by
   unfold qF
   split
   ·simp
   ·split
    ·simp
    ·have:=aIv o r s
     simp;omega
theorem aAS (h : dZ a b) (k : dZ b c) : dZ a c:=by unfold dZ at *;omega
theorem aQ2 (h : dZ a b) : ¬ pI b a:=by unfold dZ at h;unfold pI;omega
theorem aJx (h : dZ a b) : ¬ pI a b:=by unfold dZ at h;unfold pI;omega
theorem aMI (h : pI a b) : (dZ c a↔dZ c b)∧(dZ a c↔dZ b c):=by unfold pI at h;unfold dZ;omega
theorem aVC (a b : hY) (h : ¬ pI a b) (k : ¬ dZ b a) : dZ a b:=by unfold pI at h;unfold dZ at *;omega
theorem aFI (o : Int) (a b : hY) : (kK o a b).f=a.f∧(kK o a b).pc=a.pc:=by
 unfold kK;split
 ·exact ⟨rfl,rfl⟩
 ·split<;>exact ⟨rfl,rfl⟩
theorem aIw {o : Int} {x : hY} : ∀ {p : List hY} {s : hY},x∈qF o p s→x=s∨x∈p∨∃ a∈p,pI a s∧x=kK o a s
 | [],s,h=>by simp [qF] at h;exact .inl h
 | a::r,s,h=>by
   unfold qF at h
   split at h
   ·rename_i hk
    rcases List.mem_cons.1 h with rfl | h
    ·exact .inr (.inr ⟨a,List.mem_cons_self,hk,rfl⟩)
    ·exact .inr (.inl (List.mem_cons_of_mem _ h))
   ·split at h
    ·rcases List.mem_cons.1 h with rfl | h
     ·exact .inl rfl
     ·exact .inr (.inl h)
    ·rcases List.mem_cons.1 h with rfl | h
     ·exact .inr (.inl List.mem_cons_self)
     ·rcases aIw h with h | h | ⟨b,hb,h1,h2⟩
      ·exact .inl h
      ·exact .inr (.inl (List.mem_cons_of_mem _ h))
      ·exact .inr (.inr ⟨b,List.mem_cons_of_mem _ hb,h1,h2⟩)
theorem aFJ {o : Int} : ∀ {p : List hY} {s : hY},p.Pairwise dZ→(qF o p s).Pairwise dZ
 | [],s,_=>by simp [qF]
 | a::r,s,h=>by
   rw [List.pairwise_cons] at h
   have hb:=aFI o a s
   unfold qF
   split
   ·rename_i hk
    refine List.pairwise_cons.2 ⟨λx hx=>?_,h.2⟩
    have:=h.1 x hx
    unfold dZ at *;rw [hb.1,hb.2];exact this
   ·rename_i hk
    split
    ·rename_i hl
     refine List.pairwise_cons.2 ⟨λx hx=>?_,List.pairwise_cons.2 h⟩
     rcases List.mem_cons.1 hx with rfl | hx
     ·exact hl
     ·exact aAS hl (h.1 x hx)
    ·rename_i hl
     refine List.pairwise_cons.2 ⟨λx hx=>?_,aFJ h.2⟩
     rcases aIw hx with rfl | hx | ⟨b,hb,h1,rfl⟩
     ·exact aVC _ _ hk hl
     ·exact h.1 x hx
     ·have:=h.1 b hb
      have h2:=aFI o b s
      unfold dZ at *;rw [h2.1,h2.2];exact this
theorem aE9 (hp : p.Pairwise dZ) (s : hY) : ∃ c : Nat,c≤p.length∧(∀ k (h : k<p.length),k<c→dZ p[k] s)∧(∀ k (h : k<p.length),c≤k→¬ dZ p[k] s)∧
 ∀ o,qF o p s=if h : c<p.length then (if pI p[c] s then p.set c (kK o p[c] s) else p.take c++s::p.drop c) else p.take c++s::p.drop c:=by
 induction p with
 | nil=>exact ⟨0,by simp,λk h=>by simp at h,λk h=>by simp at h,λo=>by simp [qF]⟩
 | cons a r ih=>
   rw [List.pairwise_cons] at hp
   by_cases ha : dZ a s
   ·obtain ⟨c,h1,h2,h3,h4⟩:=ih hp.2
    refine ⟨c+1,by simp;omega,λk h hk=>?_,λk h hk=>?_,λo=>?_⟩
    ·cases k with
     | zero=>exact ha
     | succ k=>exact h2 k (by simp at h;omega) (by omega)
    ·cases k with
     | zero=>omega
     | succ k=>exact h3 k (by simp at h;omega) (by omega)
    ·unfold qF
     rw [if_neg (aJx ha),if_neg (λh=>by unfold dZ at h ha;omega),h4 o]
     by_cases hc : c<r.length
     ·rw [dif_pos hc,dif_pos (by simp;omega)]
      simp only [List.getElem_cons_succ,List.set_cons_succ,List.take_succ_cons,List.drop_succ_cons,List.cons_append]
      split<;>rfl
     ·rw [dif_neg hc,dif_neg (by simp;omega)]
      simp
   ·refine ⟨0,by omega,λk _ h=>by omega,λk h _=>?_,λo=>?_⟩
    ·cases k with
     | zero=>exact ha
     | succ k=>
       have:=hp.1 _ (List.getElem_mem (show k<r.length by simp at h;omega))
       intro h2
       exact ha (aAS this h2)
    ·rw [dif_pos (by simp)]
     simp only [List.getElem_cons_zero,List.set_cons_zero,List.take_zero,List.drop_zero,List.nil_append]
     unfold qF
     split
     ·rfl
     ·rename_i hk
      rw [if_pos (by unfold dZ at *;unfold pI at hk;omega)]
structure sC (m : fO) (p : List hY) : Prop where
 pr : p.Pairwise dZ
 ok : ∀ x∈p,jR m x
 len : p.length≤150
theorem aS8 {m : fO} (ha : jR m a) (hs : jR m s) (hk : pI a s) : jR m (kK (dU m s.f s.pc).o a s):=by
 obtain ⟨p1,a2⟩:=ha
 obtain ⟨_,s2⟩:=hs
 unfold pI at hk
 rw [← hk.1,← hk.2] at s2 ⊢
 have hb:=aFI (dU m a.f a.pc).o a s
 refine ⟨by rw [hb.1,hb.2];exact p1,?_⟩
 rw [hb.1,hb.2]
 generalize (dU m a.f a.pc).o=o at *
 unfold kK
 by_cases ho : o≠23
 ·rw [if_pos ho]
  have:=aUc (a:=a.seen) (b:=s.seen) (by omega) (by omega)
  exact .inr (.inr ⟨by omega,this.1,this.2,by show a.tgt=0;omega⟩)
 ·rw [if_neg ho]
  split
  ·exact .inr (.inl ⟨by omega,rfl,rfl⟩)
  ·exact a2
theorem aXH {m : fO} (hp : sC m p) (hs : jR m s) (hl : p.length<150∨∃ a∈p,pI a s) : sC m (qF (dU m s.f s.pc).o p s):=by
 refine ⟨aFJ hp.pr,λx hx=>?_,?_⟩
 ·rcases aIw hx with rfl | h | ⟨a,ha,hk,rfl⟩
  ·exact hs
  ·exact hp.ok x h
  ·exact aS8 (hp.ok a ha) hs hk
 ·rcases hl with hl | ⟨a,ha,hk⟩
  ·have:=aIv (dU m s.f s.pc).o p s
   omega
  ·have:=hp.len
   obtain ⟨c,h1,h2,h3,h4⟩:=aE9 hp.pr s
   rw [h4]
   obtain ⟨i,hi,rfl⟩:=List.getElem_of_mem ha
   have hci : c≤i:=by
    rcases Nat.lt_or_ge i c with h | h
    ·exact absurd hk (aJx (h2 i hi h))
    ·exact h
   have hic : i=c:=by
    rcases Nat.lt_or_ge c i with h | h
    ·exfalso
     have h5:=List.pairwise_iff_getElem.1 hp.pr c i (by omega) hi h
     exact h3 c (by omega) (Nat.le_refl _) ((aMI hk).1.1 h5)
    ·omega
   subst hic
   rw [dif_pos hi,if_pos hk]
   simpa using this
theorem aQ3 {m : fO} (hp : sC m p) (s : hY) : (uC p s.f s.pc).seen=0↔¬ ∃ a∈p,pI a s:=by
 unfold uC
 cases hf : p.find? (aNw s.f s.pc) with
 | none=>
   rw [List.find?_eq_none] at hf
   refine ⟨λ_ ⟨a,ha,hk⟩=>?_,λ_=>rfl⟩
   have:=hf a ha
   unfold aNw pI at *
   simp [hk.1,hk.2] at this
 | some a=>
   have h1:=List.find?_some hf
   have h2:=List.mem_of_find?_eq_some hf
   have h3:=(hp.ok a h2).2
   show a.seen=0↔_
   refine ⟨λh=>by omega,λh=>absurd ⟨a,h2,?_⟩ h⟩
   unfold aNw at h1
   simp at h1
   exact h1
section
variable {P : R → Prop} {m : fO}
theorem aVD {k : PV→OR} {a b : Int} (h : Ok P (k (.I (orI a b)))) : Ok P (bd (aD .or (.I a) (.I b)) k):=
 eZ _ (by rw [mC (by simp) (by simp)];rfl) h
theorem aVE (h : Ok P (k [(kK o a b).pv])) : Ok P (bd (aCY (.I o) a.pv b.pv) k):=by
 refine aI (Q:=λr=>r = [(kK o a b).pv]) ?_ (λr hr=>by rw [hr];exact h)
 rw [aKz]
 refine jG (jG ?_)
 refine dD (λh1=>aVD (bJ rfl (aA ?_))) (λh1=>?_)
 ·unfold kK;rw [if_pos h1];rfl
 have e : kK o a b=if a.seen≠1∨b.seen≠1∨a.tgt≠b.tgt then ⟨a.f,a.pc,2,0⟩ else a:=by unfold kK;rw [if_neg (λh=>h h1)]
 have f : (a.seen≠1∨b.seen≠1∨a.tgt≠b.tgt)→Ok (λr=>r = [(kK o a b).pv]) (some [.agg [.I a.f,.I a.pc,.I 2,.I 0]]):=λh=>aA (by rw [e,if_pos h];rfl)
 refine dD (λh2=>f (.inl h2)) (λh2=>dD (λh3=>f (.inr (.inl h3))) (λh3=>dD (λh4=>f (.inr (.inr h4))) (λh4=>aA ?_)))
 rw [e,eV];rfl
theorem aFa (ha : jR m a) (hs : jR m s) (hk : pI a s) (h : Ok P (k [(kK (dU m s.f s.pc).o a s).pv])) : Ok P (bd (sS m.pv a.pv s.pv) k):=by
 refine aI (Q:=λr=>r = [(kK (dU m s.f s.pc).o a s).pv]) ?_ (λr hr=>by rw [hr];exact h)
 rw [aJf]
 refine dY (jG (jG ?_))
 obtain ⟨p1,a2⟩:=ha
 obtain ⟨_,s2⟩:=hs
 have hk':=hk
 unfold pI at hk'
 rw [← hk'.1,← hk'.2] at s2 ⊢
 refine sZ p1.1 (λlc=>aL rfl (uB p1.2 (aL rfl ?_)))
 generalize (dU m a.f a.pc).o=o at *
 refine dD (λh1=>aVD (bJ rfl (aA ?_))) (λh1=>?_)
 ·unfold kK;rw [if_pos h1];rfl
 have h1 : o=23:=h1
 have e : kK o a s=if a.seen≠1∨s.seen≠1∨a.tgt≠s.tgt then ⟨a.f,a.pc,2,0⟩ else a:=by unfold kK;rw [if_neg (λh=>h h1)]
 refine eZ (.bool (!(a.f==a.f&&(a.pc==a.pc&&(a.seen==s.seen&&(a.tgt==s.tgt&&true)))))) (by unfold cQ;rfl) ?_
 by_cases hq : a.seen=s.seen∧a.tgt=s.tgt
 ·rw [show (a.f==a.f&&(a.pc==a.pc&&(a.seen==s.seen&&(a.tgt==s.tgt&&true))))=true by simp [hq.1,hq.2]]
  refine bP (aA ?_)
  rw [e]
  by_cases h2 : a.seen=1
  ·rw [eV];rfl
  ·rw [gH]
   have : a.seen=2∧a.tgt=0:=by omega
   rw [this.1,this.2];rfl
 ·have hne : (a.f==a.f&&(a.pc==a.pc&&(a.seen==s.seen&&(a.tgt==s.tgt&&true))))=false:=by
   by_cases h2 : a.seen=s.seen
   ·have : a.tgt≠s.tgt:=λh=>hq ⟨h2,h⟩
    simp [this]
   ·simp [h2]
  rw [hne]
  refine bF (aA ?_)
  rw [e,gH];rfl
theorem aWK (hp : p.length≤10000) (hpr : p.Pairwise dZ) (hs : plP m s.f s.pc) (h : Ok P (k [bN (qF (dU m s.f s.pc).o p s)])) : Ok P (bd (xT m.pv (bN p) s.pv) k):=by
 generalize ho : (dU m s.f s.pc).o=o at h
 refine aI (Q:=λr=>r = [bN (qF o p s)]) ?_ (λr hr=>by rw [hr];exact h)
 rw [aMi]
 refine dY (jG ?_)
 refine aHc (n:=p.length) (σ:=Bool × List hY) (F:=λi z=>hH (bN p) (.bool z.1) (.I i) (.lst (m.texts.map PV.str)) (.lst (m.funcs.map eJ.pv)) (.I s.f) (.I s.pc) (.I s.seen) (.I s.tgt) (bN z.2))
  (λi z=>z.2.length≤i+1∧(z.1=true→(∀ x∈p.drop i,¬ pI x s)∧z.2++p.drop i=qF o p s)∧(z.1=false→z.2.length=i∧z.2++qF o (p.drop i) s=qF o p s)) ?_ ?_ 0 (false,[]) (by omega) ⟨by simp,(λh=>by cases h),λ_=>by simp⟩
 ·rintro ⟨d,acc⟩ ⟨hz,h1,h2⟩
  show Ok _ (hH _ _ _ _ _ _ _ _ _ _)
  rw [aBs]
  have hz : acc.length≤p.length+1:=hz
  simp only [List.drop_length,List.append_nil] at h1 h2
  refine aF (aO (λh=>by omega) (λ_=>cD (aZ (λhd=>?_) (λhd=>aA ?_))))
  ·have : d=false:=by simpa using hd
   refine uQ (vs:=acc) (v:=s) (by omega) (aA ?_)
   have:=(h2 this).2
   rw [← this];rfl
  ·have : d=true:=by simpa using hd
   rw [← (h1 this).2]
 ·rintro i ⟨d,acc⟩ hi ⟨hz,h1,h2⟩ ih
  show Ok _ (hH _ _ _ _ _ _ _ _ _ _)
  rw [aBs]
  have hz : acc.length≤i+1:=hz
  have ed : p.drop i=p[i]::p.drop (i+1):=List.drop_eq_getElem_cons hi
  have hgt : ∀ x∈p.drop (i+1),dZ p[i] x:=λx hx=>by
   have:=List.Pairwise.sublist (List.drop_sublist i p) hpr
   rw [ed,List.pairwise_cons] at this
   exact this.1 x hx
  simp only [ed] at h1 h2
  have go : Ok (λr=>r = [bN (qF o p s)]) (hH (bN p) (.bool d) (.I ((i : Int)+1)) (.lst (m.texts.map PV.str)) (.lst (m.funcs.map eJ.pv)) (.I s.f) (.I s.pc) (.I s.seen) (.I s.tgt) (bN (acc++[p[i]])))∨(d=false∧(pI p[i] s∨dZ s p[i])):=by
   cases d with
   | true=>
     obtain ⟨q1,q2⟩:=h1 rfl
     exact .inl (ih (true,acc++[p[i]]) ⟨by simp;omega,λ_=>⟨λx hx=>q1 x (List.mem_cons_of_mem _ hx),by rw [← q2];simp⟩,λh=>by cases h⟩)
   | false=>
     obtain ⟨q0,q2⟩:=h2 rfl
     by_cases hk : pI p[i] s
     ·exact .inr ⟨rfl,.inl hk⟩
     by_cases hl : dZ s p[i]
     ·exact .inr ⟨rfl,.inr hl⟩
     refine .inl (ih (false,acc++[p[i]]) ⟨by simp;omega,(λh=>by cases h),λ_=>⟨by simp;exact q0,?_⟩⟩)
     rw [aFH] at q2
     rw [if_neg hk,if_neg hl] at q2
     rw [← q2];simp
  have c7 : pI p[i] s→Ok (λr=>r = [bN (qF o p s)]) (aAz (bN p) (.I i) (.lst (m.texts.map PV.str)) (.lst (m.funcs.map eJ.pv)) (.I s.f) (.I s.pc) (.I s.seen) (.I s.tgt) (bN acc)):=λhk=>by
   rw [aH5]
   have hd : d=false:=by
    cases d with
    | false=>rfl
    | true=>exact absurd hk ((h1 rfl).1 _ List.mem_cons_self)
   subst hd
   obtain ⟨q0,q2⟩:=h2 rfl
   refine sZ hs.1 (λlc=>aL rfl (uB hs.2 (aL rfl (aQ hi (λ_=>rfl) (aVE (b:=s) (aBx (uQ (by omega) (bS ?_))))))))
   refine ih (true,acc++[kK (dU m s.f s.pc).o p[i] s]) ⟨by simp;omega,λ_=>⟨λx hx=>?_,?_⟩,λh=>by cases h⟩
   ·have:=hgt x hx
    rw [(aMI hk).2] at this
    exact aQ2 this
   ·rw [aFH] at q2
    rw [if_pos hk] at q2
    rw [ho,← q2];simp
  have c9 : ¬ pI p[i] s→Ok (λr=>r = [bN (qF o p s)]) (vH (bN p) (.bool d) (.I i) (.lst (m.texts.map PV.str)) (.lst (m.funcs.map eJ.pv)) (.I s.f) (.I s.pc) (.I s.seen) (.I s.tgt) (bN acc)):=λhk=>by
   rw [aH6]
   refine cD (aZ (λhd=>?_) (λhd=>?_))
   ·have hd : d=false:=by simpa using hd
    subst hd
    obtain ⟨q0,q2⟩:=h2 rfl
    refine aQ hi (λ_=>rfl) (aVq (a:=s) (gC (λhl=>?_) (λhl=>aQ hi (λ_=>rfl) (aBx (uQ (by omega) (bS ?_))))))
    ·rw [aG5]
     refine uQ (v:=s) (by omega) (aQ hi (λ_=>rfl) (aBx (uQ (by simp;omega) (bS ?_))))
     refine ih (true,acc++[s]++[p[i]]) ⟨by simp;omega,λ_=>⟨λx hx=>aQ2 (aAS hl (hgt x hx)),?_⟩,λh=>by cases h⟩
     rw [aFH] at q2
     rw [if_neg hk,if_pos hl] at q2
     rw [← q2];simp
    ·rcases go with g | ⟨_,g | g⟩
     ·exact g
     ·exact absurd g hk
     ·exact absurd g hl
   ·have hd : d=true:=by simpa using hd
    refine aQ hi (λ_=>rfl) (aBx (uQ (by omega) (bS ?_)))
    rcases go with g | ⟨g,_⟩
    ·exact g
    ·rw [hd] at g;cases g
  refine aF (aO (λ_=>?_) (λh=>by omega))
  exact aQ hi (λ_=>rfl) (aL rfl (aJ (λe1=>aQ hi (λ_=>rfl) (aL rfl (aJ (λe2=>c7 ⟨e1,e2⟩) (λe2=>c9 (λh=>e2 h.2))))) (λe1=>c9 (λh=>e1 h.1))))
end
variable {p q : List hY} {f pc a b : Int} {x : hY} {y : Option hY}
def lkS (p : List hY) (f pc : Int) : Option hY:=p.find? λa=>decide (a.f=f∧a.pc=pc)
theorem tA (a : hY) (r : List hY) (f pc : Int) : lkS (a::r) f pc=if a.f=f∧a.pc=pc then some a else lkS r f pc:=by
 unfold lkS
 rw [List.find?_cons]
 by_cases h : a.f=f∧a.pc=pc
 ·rw [if_pos h,decide_eq_true h]
 ·rw [if_neg h,decide_eq_false h]
theorem aIx (h : lkS p f pc=some x) : x∈p∧x.f=f∧x.pc=pc:=by
 unfold lkS at h
 refine ⟨List.mem_of_find?_eq_some h,?_⟩
 have:=List.find?_some h
 simpa using this
theorem aQ4 {s : hY} (h : ∀ a∈p,dZ s a) : lkS p s.f s.pc=none:=by
 unfold lkS
 rw [List.find?_eq_none]
 intro a ha
 have:=h a ha
 simp only [decide_eq_true_eq]
 unfold dZ at this
 omega
theorem aVF (hp : p.Pairwise dZ) (h : x∈p) : lkS p x.f x.pc=some x:=by
 induction p with
 | nil=>cases h
 | cons a r ih=>
   rw [List.pairwise_cons] at hp
   rw [tA]
   rcases List.mem_cons.1 h with rfl | h
   ·rw [if_pos ⟨rfl,rfl⟩]
   ·have:=hp.1 x h
    rw [if_neg (by unfold dZ at this;omega)]
    exact ih hp.2 h
theorem aMJ : ∀ {p q : List hY},p.Pairwise dZ→q.Pairwise dZ→(∀ x,x∈p↔x∈q)→p=q
 | [],[],_,_,_=>rfl
 | [],b::t,_,_,h=>by have:=(h b).2 List.mem_cons_self;cases this
 | a::r,[],_,_,h=>by have:=(h a).1 List.mem_cons_self;cases this
 | a::r,b::t,hp,hq,h=>by
   rw [List.pairwise_cons] at hp hq
   have hab : a=b:=by
    rcases List.mem_cons.1 ((h a).1 List.mem_cons_self) with e | h1
    ·exact e
    ·rcases List.mem_cons.1 ((h b).2 List.mem_cons_self) with e | h2
     ·exact e.symm
     ·have l1:=hq.1 a h1
      have l2:=hp.1 b h2
      unfold dZ at l1 l2
      omega
   subst hab
   rw [aMJ hp.2 hq.2 (λx=>⟨λhx=>?_,λhx=>?_⟩)]
   ·rcases List.mem_cons.1 ((h x).1 (List.mem_cons_of_mem _ hx)) with e | h1
    ·subst e
     have:=hp.1 x hx
     unfold dZ at this;omega
    ·exact h1
   ·rcases List.mem_cons.1 ((h x).2 (List.mem_cons_of_mem _ hx)) with e | h1
    ·subst e
     have:=hq.1 x hx
     unfold dZ at this;omega
    ·exact h1
theorem aWL (hp : p.Pairwise dZ) (hq : q.Pairwise dZ) (h : ∀ f pc,lkS p f pc=lkS q f pc) : p=q:=by
 refine aMJ hp hq (λx=>⟨λhx=>?_,λhx=>?_⟩)
 ·have:=aVF hp hx
  rw [h] at this
  exact (aIx this).1
 ·have:=aVF hq hx
  rw [← h] at this
  exact (aIx this).1
def aWM (o : Int) (x : Option hY) (s : hY) : hY:=match x with
 | none=>s
 | some a=>kK o a s
theorem aK5 {o : Int} {s : hY} {f pc : Int} : ∀ {p : List hY},p.Pairwise dZ→lkS (qF o p s) f pc=if s.f=f∧s.pc=pc then some (aWM o (lkS p s.f s.pc) s) else lkS p f pc
 | [],_=>by
  show lkS [s] f pc=_
  rw [tA];rfl
 | a::r,hp=>by
   rw [List.pairwise_cons] at hp
   have ih:=aK5 (o:=o) (s:=s) (f:=f) (pc:=pc) hp.2
   rw [aFH]
   by_cases hk : pI a s
   ·rw [if_pos hk,tA,tA a r s.f s.pc,if_pos (show a.f=s.f∧a.pc=s.pc from hk),tA a r f pc]
    obtain ⟨b1,b2⟩:=aFI o a s
    rw [b1,b2]
    unfold pI at hk
    rw [hk.1,hk.2]
    by_cases h : s.f=f∧s.pc=pc
    ·rw [if_pos h,if_pos h];rfl
    ·rw [if_neg h,if_neg h,if_neg h]
   ·rw [if_neg hk]
    by_cases hl : dZ s a
    ·rw [if_pos hl,tA]
     by_cases h : s.f=f∧s.pc=pc
     ·rw [if_pos h,if_pos h]
      have : lkS (a::r) s.f s.pc=none:=aQ4 (λb hb=>by
       rcases List.mem_cons.1 hb with rfl | hb
       ·exact hl
       ·exact aAS hl (hp.1 b hb))
      rw [this];rfl
     ·rw [if_neg h,if_neg h]
    ·rw [if_neg hl,tA,tA a r f pc,tA a r s.f s.pc,if_neg (show ¬ (a.f=s.f∧a.pc=s.pc) from hk),ih]
     by_cases ha : a.f=f∧a.pc=pc
     ·rw [if_pos ha,if_pos ha,if_neg (λh=>hk ⟨by omega,by omega⟩)]
     ·rw [if_neg ha,if_neg ha]
section
variable {m : fO}
abbrev opS (m : fO) (s : hY) : Int:=(dU m s.f s.pc).o
def sK (m : fO) (p q : List hY) : List hY:=q.foldl (λout s=>qF (opS m s) out s) p
def aS9 (o : Int) (x y : Option hY) : Option hY:=match y with
 | none=>x
 | some s=>some (aWM o x s)
theorem aFb : ∀ {q p : List hY},p.Pairwise dZ→(sK m p q).Pairwise dZ
 | [],_,h=>h
 | s::r,_,h=>aFb (q:=r) (aFJ h)
theorem aOj : ∀ {q p : List hY} (f pc : Int),p.Pairwise dZ→q.Pairwise dZ→lkS (sK m p q) f pc=aS9 (dU m f pc).o (lkS p f pc) (lkS q f pc)
 | [],_,_,_,_,_=>rfl
 | s::r,p,f,pc,hp,hq=>by
   rw [List.pairwise_cons] at hq
   show lkS (sK m (qF (opS m s) p s) r) f pc=_
   rw [aOj (q:=r) f pc (aFJ hp) hq.2,aK5 hp,tA s r f pc]
   by_cases h : s.f=f∧s.pc=pc
   ·rw [if_pos h,if_pos h]
    have : lkS r f pc=none:=by rw [← h.1,← h.2];exact aQ4 hq.1
    rw [this]
    show some (aWM (dU m s.f s.pc).o (lkS p s.f s.pc) s)=some (aWM (dU m f pc).o (lkS p f pc) s)
    rw [h.1,h.2]
   ·rw [if_neg h,if_neg h]
theorem aJ9 : ∀ {q p : List hY},(∀ x∈p,jR m x)→(∀ x∈q,jR m x)→∀ x∈sK m p q,jR m x
 | [],_,hp,_=>hp
 | s::r,p,hp,hq=>aJ9 (q:=r) (λx hx=>by
  rcases aIw hx with rfl | h | ⟨a,ha,hk,rfl⟩
  ·exact hq _ List.mem_cons_self
  ·exact hp x h
  ·exact aS8 (hp a ha) (hq s List.mem_cons_self) hk) (λx hx=>hq x (List.mem_cons_of_mem _ hx))
theorem aMK : ∀ {q p : List hY},(sK m p q).length≤p.length+q.length
 | [],p=>by show p.length≤_;simp
 | s::r,p=>by
   have h1:=aMK (q:=r) (p:=qF (opS m s) p s)
   have h2:=aIv (opS m s) p s
   show (sK m (qF (opS m s) p s) r).length≤_
   rw [List.length_cons];omega
theorem aWN (ha : 1≤a∧a≤3) (hb : 1≤b∧b≤3) : orI (orI a b) a=orI a b:=by
 obtain ⟨x,rfl⟩:=Int.eq_ofNat_of_zero_le (show 0≤a by omega)
 obtain ⟨y,rfl⟩:=Int.eq_ofNat_of_zero_le (show 0≤b by omega)
 have h1 : x=1∨x=2∨x=3:=by omega
 have h2 : y=1∨y=2∨y=3:=by omega
 rcases h1 with rfl | rfl | rfl<;>rcases h2 with rfl | rfl | rfl<;>decide
theorem aVG (ha : 1≤a∧a≤3) : orI a a=a:=by
 obtain ⟨x,rfl⟩:=Int.eq_ofNat_of_zero_le (show 0≤a by omega)
 have h1 : x=1∨x=2∨x=3:=by omega
 rcases h1 with rfl | rfl | rfl<;>decide
theorem aUd {a : hY} (ha : jR m a) : kK (dU m a.f a.pc).o a a=a:=by
 obtain ⟨af,ap,as_,at_⟩:=a
 obtain ⟨_,ha⟩:=ha
 dsimp only at *
 generalize (dU m af ap).o=o at *
 unfold kK
 dsimp only
 by_cases ho : o≠23
 ·rw [if_pos ho,aVG (by omega)]
 ·rw [if_neg ho]
  by_cases h : as_≠1∨as_≠1∨at_≠at_
  ·rw [if_pos h,show as_=2 by omega,show at_=0 by omega]
  ·rw [if_neg h]
theorem aVH {a b : hY} (ha : jR m a) (hb : jR m b) (hk : pI a b) : kK (dU m a.f a.pc).o (kK (dU m a.f a.pc).o a b) a=kK (dU m a.f a.pc).o a b:=by
 obtain ⟨af,ap,as_,at_⟩:=a
 obtain ⟨bf,bp,bs_,bt⟩:=b
 obtain ⟨_,ha⟩:=ha
 obtain ⟨_,hb⟩:=hb
 obtain ⟨k1,k2⟩:=hk
 dsimp only at *
 subst k1
 subst k2
 generalize (dU m af ap).o=o at *
 unfold kK
 dsimp only
 by_cases ho : o≠23
 ·rw [if_pos ho,if_pos ho]
  dsimp only
  rw [aWN (by omega) (by omega)]
 ·rw [if_neg ho,if_neg ho]
  by_cases h : as_≠1∨bs_≠1∨at_≠bt
  ·rw [if_pos h]
   dsimp only
   rw [if_pos (.inl (by decide))]
  ·rw [if_neg h]
   dsimp only
   rw [eV]
structure aVI (m : fO) (f pc : Int) (x : Option hY) : Prop where
 t : ∀ a,x=some a→jR m a∧a.f=f∧a.pc=pc
theorem aYb (h : ∀ x∈p,jR m x) (f pc : Int) : aVI m f pc (lkS p f pc):=⟨λa ha=>by obtain ⟨h1,h2,h3⟩:=aIx ha;exact ⟨h a h1,h2,h3⟩⟩
theorem aVJ {x : Option hY} (hx : aVI m f pc x) (hy : aVI m f pc y) : aS9 (dU m f pc).o (aS9 (dU m f pc).o x y) x=aS9 (dU m f pc).o x y:=by
 cases x with
 | none=>cases y<;>rfl
 | some a=>
   obtain ⟨h1,h2,h3⟩:=hx.t a rfl
   cases y with
   | none=>
     have:=aUd h1
     rw [h2,h3] at this
     exact congrArg some this
   | some b=>
     obtain ⟨g1,g2,g3⟩:=hy.t b rfl
     have:=aVH h1 g1 ⟨by omega,by omega⟩
     rw [h2,h3] at this
     exact congrArg some this
structure Srt (m : fO) (p : List hY) : Prop where
 pr : p.Pairwise dZ
 ok : ∀ x∈p,jR m x
theorem Srt.merge (hp : Srt m p) (hq : Srt m q) : Srt m (sK m p q):=⟨aFb hp.pr,aJ9 hp.ok hq.ok⟩
theorem aSl (hp : Srt m p) : sK m p p=p:=
 aWL (aFb hp.pr) hp.pr (λf pc=>by
  rw [aOj f pc hp.pr hp.pr]
  have:=aVJ (x:=lkS p f pc) (y:=none) (aYb hp.ok f pc) ⟨λa h=>by cases h⟩
  exact this)
end
variable {p : List hY} {s : hY} {n a : Int} {f : dC} {k : R → OR} {v : mL} {fs0 : List dC} {b2 b3 b4 b5 b6 b7 b8 b1 : PV}
def aCr (f : dC) (i : Int) : eR:=f.stk[i.toNat]?.getD eQ
def aA0 (m : fO) (f : dC) : Option hY:=
 if (dU m f.f f.pc).o=23 then
  (if (aCr f (f.stk.length - 1 - (dU m f.f f.pc).a)).k=5 then some ⟨f.f,f.pc,1,(aCr f (f.stk.length - 1 - (dU m f.f f.pc).a)).n⟩ else some ⟨f.f,f.pc,2,0⟩)
 else if 11≤(dU m f.f f.pc).o∧(dU m f.f f.pc).o≤14 then
  (if (aCr f (f.stk.length - 1)).k=1∧(aCr f (f.stk.length - 2)).k=1 then some ⟨f.f,f.pc,1,0⟩ else some ⟨f.f,f.pc,2,0⟩)
 else none
def aWO : Option hY→R
 | none=>[.tup [.agg [.I 0,.I 0,.I 0,.I 0],.bool false]]
 | some s=>[.tup [s.pv,.bool true]]
def aHi (p : List hY) (s : hY) : Bool:=p.any λa=>decide (pI a s)
theorem aIy : aHi p s=true↔∃ a∈p,pI a s:=by simp [aHi]
def aAT (m : fO) (p : List hY) (f : dC) : List hY:=match aA0 m f with
 | none=>p
 | some s=>if p.length=150∧aHi p s=false then p else qF (dU m s.f s.pc).o p s
theorem aOk (hp : p.Pairwise dZ) {c : Nat} (h2 : ∀ k (h : k<p.length),k<c→dZ p[k] s) (h3 : ∀ k (h : k<p.length),c≤k→¬ dZ p[k] s) :
 aHi p s=true↔∃ h : c<p.length,pI p[c] s:=by
 rw [aIy]
 constructor
 ·rintro ⟨a,ha,hk⟩
  obtain ⟨i,hi,rfl⟩:=List.getElem_of_mem ha
  have hci : c≤i:=by
   rcases Nat.lt_or_ge i c with h | h
   ·exact absurd hk (aJx (h2 i hi h))
   ·exact h
  have hic : i=c:=by
   rcases Nat.lt_or_ge c i with h | h
   ·exfalso
    have h5:=List.pairwise_iff_getElem.1 hp c i (by omega) hi h
    exact h3 c (by omega) (Nat.le_refl _) ((aMI hk).1.1 h5)
   ·omega
  subst hic
  exact ⟨hi,hk⟩
 ·rintro ⟨h,hk⟩
  exact ⟨_,List.getElem_mem h,hk⟩
section
variable {P : R → Prop} {m : fO}
theorem aAU (g : fF m) (t : aHd m n f) (h : aA0 m f=some s) : s.f=f.f∧s.pc=f.pc∧jR m s:=by
 obtain ⟨a1,a2,a3,a4,a5⟩:=g.at_ t.fi t.pc t.d
 have hh:=t.h
 unfold aA0 at h
 split at h
 ·rename_i h23
  have hxa:=(aAd a1).2.2.2.2.2.1 h23
  have hu : bU m.funcs (dU m f.f f.pc)=((dU m f.f f.pc).a+1,1):=by
   have : 0≤(dU m f.f f.pc).a∧(dU m f.f f.pc).a≤6:=hxa
   simp [bU,h23,this]
  rw [hu] at a2
  simp only at a2
  split at h
  ·rename_i h5
   cases h
   refine ⟨rfl,rfl,⟨t.fi,t.pc⟩,.inl ⟨h23,rfl,?_⟩⟩
   have hm : aCr f (f.stk.length - 1 - (dU m f.f f.pc).a)∈f.stk:=by
    unfold aCr
    rw [List.getElem?_eq_getElem (show (f.stk.length - 1 - (dU m f.f f.pc).a).toNat<f.stk.length by omega)]
    exact List.getElem_mem _
   have hv:=t.vs _ hm
   unfold oD cW at hv
   split at hv
   ·cases hv
   ·rw [eV,eV,eV,eV,eV] at hv
    try rw [if_pos h5] at hv
    simp only [mA,Bool.and_eq_true,decide_eq_true_eq] at hv
    dsimp only
    omega
  ·cases h
   exact ⟨rfl,rfl,⟨t.fi,t.pc⟩,.inr (.inl ⟨h23,rfl,rfl⟩)⟩
 ·split at h
  ·rename_i ho
   split at h<;>(cases h;exact ⟨rfl,rfl,⟨t.fi,t.pc⟩,.inr (.inr ⟨ho,(by dsimp only;omega),(by dsimp only;omega),rfl⟩)⟩)
  ·cases h
theorem aDg {k : PV→OR} {i : Int} (h1 : 0≤i) (h2 : i<f.stk.length) (hk : Ok P (k (aCr f i).pv)) : Ok P (bd (aB 3 true (bI f.stk) (.I i)) k):=by
 obtain ⟨j,rfl⟩:=Int.eq_ofNat_of_zero_le h1
 have hj : j<f.stk.length:=by omega
 refine aQ hj (λ_=>rfl) ?_
 unfold aCr at hk
 rwa [Int.toNat_natCast,List.getElem?_eq_getElem hj] at hk
theorem aML (g : fF m) (t : aHd m n f) : f.stk.length≤16∧((dU m f.f f.pc).o=23→0≤(dU m f.f f.pc).a∧(dU m f.f f.pc).a<f.stk.length∧(dU m f.f f.pc).a≤6)∧(11≤(dU m f.f f.pc).o∧(dU m f.f f.pc).o≤14→2≤f.stk.length):=by
 obtain ⟨a1,a2,a3,a4,a5⟩:=g.at_ t.fi t.pc t.d
 have hh:=t.h
 refine ⟨by omega,λh23=>?_,λho=>?_⟩
 ·have hxa:=(aAd a1).2.2.2.2.2.1 h23
  have hxb : 0≤(dU m f.f f.pc).a∧(dU m f.f f.pc).a≤6:=hxa
  have hu : bU m.funcs (dU m f.f f.pc)=((dU m f.f f.pc).a+1,1):=by simp [bU,h23,hxb]
  rw [hu] at a2
  simp only at a2
  omega
 ·have hu : (bU m.funcs (dU m f.f f.pc)).1=2:=by
   have : (dU m f.f f.pc).o=11∨(dU m f.f f.pc).o=12∨(dU m f.f f.pc).o=13∨(dU m f.f f.pc).o=14:=by omega
   rcases this with h | h | h | h<;>simp [bU,h]
  omega
theorem aWP (g : fF m) (h : VmI m v) (h0 : v.st=0) (hf : v.fr=fs0++[f]) (hk : Ok P (k (aWO (aA0 m f)))) : Ok P (bd (aEF m.pv v.pv) k):=by
 refine aI (Q:=λr=>r=aWO (aA0 m f)) ?_ (λr hr=>by rw [hr];exact hk)
 obtain ⟨t,_⟩:=h.top fs0 f hf
 obtain ⟨s1,s2,s3⟩:=aML g t
 rw [aMf]
 refine dY (tS ?_)
 refine dD (λh=>absurd h0 h) (λ_=>?_)
 have hl : fs0.length≤23:=by
  have:=h.nfr
  rw [hf] at this
  simp at this ⊢
  omega
 have efr : v.fr.map dC.pv=fs0.map dC.pv++[f.pv]:=by rw [hf,List.map_append];rfl
 rw [efr]
 refine eS (iS (by simp;omega) (dV (by simp) rfl (jG ?_)))
 refine sZ t.fi (λlc=>aL rfl (uB t.pc (dY (bJ rfl (bJ rfl (aF (aXB (cD (eL (λhw=>aA ?_) (λhw=>?_))))))))))
 ·unfold isW at hw
  unfold aA0
  rw [eV,eV];rfl
 unfold isW at hw
 unfold aA0
 generalize dU m f.f f.pc=x at *
 refine aJ (λh23=>?_) (λh23=>?_)
 ·have:=s2 h23
  rw [if_pos h23]
  refine dS (dS (aDg (by omega) (by omega) (cB (aJ (λh5=>bJ rfl (aA ?_)) (λh5=>aA ?_)))))
  ·rw [if_pos h5];rfl
  ·rw [if_neg h5];rfl
 ·have ho : 11≤x.o∧x.o≤14:=by omega
  have:=s3 ho
  rw [if_neg h23,if_pos ho]
  refine dS (aDg (by omega) (by omega) (aL rfl (aJ (λh1=>dS (aDg (by omega) (by omega) (aL rfl (aJ (λh2=>aA ?_) (λh2=>aA ?_))))) (λh1=>aA ?_))))
  ·rw [if_pos ⟨h1,h2⟩];rfl
  ·rw [if_neg (λh=>h2 h.2)];rfl
  ·rw [if_neg (λh=>h1 h.1)];rfl
theorem aVK {a b : eR} {q : Int} (h : Ok P (k [.bool (decide (a.k=q∧b.k=q))])) : Ok P (bd (uM a.pv b.pv (.I q)) k):=by
 refine aI (Q:=λr=>r = [.bool (decide (a.k=q∧b.k=q))]) ?_ (λr hr=>by rw [hr];exact h)
 rw [aH4]
 refine cB (cB ?_)
 refine aJ (λh1=>cL (aA ?_)) (λh1=>aA ?_)
 ·simp [h1]
 ·simp [h1]
theorem aQ5 (g : fF m) (h : VmI m v) (hf : v.fr=fs0++[f]) {b9 : PV} (hk : Ok P (k (aWO (aA0 m f)))) :
 Ok P (bd (aCW m.pv (.bx [.lst (v.fr.map dC.pv),b1,b2,b3,b4,b5,b6,b7,b8,b9])) k):=by
 refine aI (Q:=λr=>r=aWO (aA0 m f)) ?_ (λr hr=>by rw [hr];exact hk)
 obtain ⟨t,_⟩:=h.top fs0 f hf
 obtain ⟨s1,s2,s3⟩:=aML g t
 rw [aNf]
 have hl : fs0.length≤23:=by
  have:=h.nfr
  rw [hf] at this
  simp at this ⊢
  omega
 have efr : v.fr.map dC.pv=fs0.map dC.pv++[f.pv]:=by rw [hf,List.map_append];rfl
 rw [efr]
 refine dY (aMF (aMF (sM rfl (aMF (aMF (sM rfl (eS (iS (by simp;omega) (dV (by simp) rfl (jG ?_))))))))))
 refine sZ t.fi (λlc=>aL rfl (uB t.pc (aF (dY (bJ rfl (bJ rfl (aMB ?_)))))))
 unfold aA0
 generalize dU m f.f f.pc=x at *
 refine aZ (λha=>?_) (λha=>?_)
 ·simp only [mA,Bool.and_eq_true,decide_eq_true_eq] at ha
  have:=s3 ha
  rw [eV,if_pos ha]
  refine dS (aDg (by omega) (by omega) (dS (aDg (by omega) (by omega) (aVK (gC (λh1=>aA ?_) (λh1=>aA ?_))))))
  ·rw [if_pos ⟨h1.2,h1.1⟩];rfl
  ·rw [if_neg (λh=>h1 ⟨h.2,h.1⟩)];rfl
 ·have ha' : ¬ (11≤x.o∧x.o≤14):=λh=>by
   have : mA x.o 11 14=true:=by simp [mA,h.1,h.2]
   rw [this] at ha;cases ha
  refine aJ (λh23=>?_) (λh23=>aA ?_)
  ·have:=s2 h23
   rw [if_pos h23]
   refine dS (dS (aDg (by omega) (by omega) (cB (aJ (λh5=>bJ rfl (aA ?_)) (λh5=>aA ?_)))))
   ·rw [if_pos h5];rfl
   ·rw [if_neg h5];rfl
  ·rw [if_neg h23,if_neg ha'];rfl
theorem aQ6 (g : fF m) (h : VmI m v) (h0 : v.st=0) (hf : v.fr=fs0++[f]) (hp : sC m p) (hk : Ok P (k [bN (aAT m p f)])) : Ok P (bd (yL m.pv (bN p) v.pv) k):=by
 refine aI (Q:=λr=>r = [bN (aAT m p f)]) ?_ (λr hr=>by rw [hr];exact hk)
 have hl:=hp.len
 obtain ⟨t,_⟩:=h.top fs0 f hf
 rw [aG3]
 refine dY (tS ?_)
 refine aWP g h h0 hf ?_
 have copy : Ok (λr=>r = [bN p]) (bd (aN 4 32 true (.lst []) (bN p)) λx=>some [x]):=mD (by simp;omega) aK2 (aA rfl)
 unfold aAT
 cases hs : aA0 m f with
 | none=>exact gZ (jG (aV9 copy))
 | some s=>
   obtain ⟨e1,e2,es⟩:=aAU g t hs
   refine gZ (jG (vR ?_))
   have lay : (p.length=150∧aHi p s=false→False)→Ok (λr=>r = [bN (if p.length=150∧aHi p s=false then p else qF (dU m s.f s.pc).o p s)]) (bd (xT m.pv (bN p) s.pv) λr=>aH oS (gd r 0) (some [gd r 0])):=λhn=>by
    rw [if_neg hn]
    exact aWK (by omega) hp.pr es.1 (gD (rK _) (aA rfl))
   have hseen:=aQ3 hp s
   refine aT7 (by omega) (aL rfl (aJ (λhz=>aF (aJ (λh150=>?_) (λh150=>lay (λh=>h150 (by rw [h.1];rfl))))) (λhz=>lay (λh=>?_))))
   ·have : aHi p s=false:=by
     cases ha : aHi p s with
     | false=>rfl
     | true=>exact absurd (aIy.1 ha) (hseen.1 hz)
    dsimp only
    rw [if_pos ⟨by omega,this⟩]
    exact copy
   ·refine hz (hseen.2 (λhx=>?_))
    rw [← aIy,h.2] at hx
    cases hx
theorem aYc {a b : hY} : Ok (λr=>∃ n : Int,r = [.I n]∧(n<0↔dZ a b)∧(n=0↔pI a b)) (iW a.pv b.pv):=by
 rw [xW]
 refine jG (jG ?_)
 refine aPm (aPm (aVm (eF rfl (aA ⟨_,rfl,?_,?_⟩))))
 ·unfold aQP dZ
  repeat' split
  all_goals omega
 ·unfold aQP pI
  repeat' split
  all_goals omega
theorem aWQ {k : PV→OR} (ha : 0≤a∧a≤2097152) (h : Ok P (k (.int .u64 (a / 2)))) : Ok P (bd (aD .shr (.int .u64 a) (.int .u64 1)) k):=
 eZ _ (by
  simp only [aD]
  rw [eV,show min (Int.toNat 1) IntKind.u64.bits=1 by decide,show (2 : Int) ^ 1=2 by rfl,Int.fdiv_eq_ediv_of_nonneg _ (by omega)]) h
theorem aWR {k : PV→OR} {kk : IntKind} (h1 : 0≤a∧a≤2097152) (h : Ok P (k (.int .u64 a))) : Ok P (bd (bR .u64 (.int kk a)) k):=eZ _ (by simp only [bR];rw [u64_in _ (by omega)]) h
theorem vQ {q : Nat} (hq : ∀ a b : PV,aU q [a,b]=iW a b) {p : List hY} {s : hY} (hl : p.length≤1000000) {c : Nat} (h2 : ∀ k (h : k<p.length),k<c→dZ p[k] s) (h3 : ∀ k (h : k<p.length),c≤k→¬ dZ p[k] s) :
 ∀ (d i j : Nat),j - i≤d→i≤c→c≤j→j≤p.length→
   Ok (λr=>r = [.tup [.I c,.bool (decide (∃ h : c<p.length,pI p[c] s))]]) (cH (bN p) (.fn q []) (.I p.length) (.I i) (.I j) (.I s.f) (.I s.pc) (.I s.seen) (.I s.tgt))
 | 0,i,j,hd,hi,hj,hjl=>by
   rw [fE]
   have : i=c:=by omega
   subst this
   refine aO (λh=>by omega) (λ_=>aO (λh=>?_) (λh=>aA ?_))
   ·have h : i<p.length:=by omega
    refine aQ h (λ_=>rfl) (sL (o:=iW p[i].pv s.pv) (hq _ _) (Q:=λr=>∃ n : Int,r = [.I n]∧(n=0↔pI p[i] s)) ?_ (λr hr=>?_))
    ·exact aYc.mono (λr ⟨n,h1,_,h2⟩=>⟨n,h1,h2⟩)
    ·obtain ⟨n,rfl,hn⟩:=hr
     refine cL (aA ?_)
     rw [decide_eq_decide.2 (show n=0↔∃ h : i<p.length,pI p[i] s from hn.trans ⟨λk=>⟨h,k⟩,λ⟨_,k⟩=>k⟩)]
   ·rw [decide_eq_false (λ⟨h',_⟩=>by omega)]
 | d+1,i,j,hd,hi,hj,hjl=>by
   by_cases hij : i<j
   ·rw [fE]
    refine aO (λ_=>?_) (λh=>by omega)
    refine bS (aWR (by omega) (aWQ (by omega) (mQ (by omega) ?_)))
    obtain ⟨h,hh⟩ : ∃ h : Nat,h=(i+j) / 2:=⟨_,rfl⟩
    have e : ((i : Int)+j) / 2=h:=by omega
    rw [e]
    have hlt : h<p.length:=by omega
    refine aQ hlt (λ_=>rfl) (sL (o:=iW p[h].pv s.pv) (hq _ _) (Q:=λr=>∃ n : Int,r = [.I n]∧(n<0↔dZ p[h] s)) ?_ (λr hr=>?_))
    ·exact aYc.mono (λr ⟨n,h1,h2,_⟩=>⟨n,h1,h2⟩)
    ·obtain ⟨n,rfl,hn⟩:=hr
     refine aO (λhneg=>bS ?_) (λhneg=>?_)
     ·have hc : h<c:=by
       rcases Nat.lt_or_ge h c with k | k
       ·exact k
       ·exact absurd (hn.1 hneg) (h3 h hlt k)
      exact vQ hq hl h2 h3 d (h+1) j (by omega) (by omega) hj hjl
     ·have hc : c≤h:=by
       rcases Nat.lt_or_ge h c with k | k
       ·exact absurd (hn.2 (h2 h hlt k)) hneg
       ·exact k
      exact vQ hq hl h2 h3 d i h (by omega) hi hc (by omega)
   ·exact vQ hq hl h2 h3 0 i j (by omega) hi hj hjl
theorem aJy {i : Nat} (hi : i≤p.length) (hp : p.length≤1000000) (h : Ok P (k [bN (p.take i++s::p.drop i)])) : Ok P (bd (eY (.I i) (bN p) (.lst [s.pv])) k):=by
 refine aI (Q:=λr=>r = [bN (p.take i++s::p.drop i)]) ?_ (λr hr=>by rw [hr];exact h)
 rw [sH]
 have e : qS [.ref 0 [],.p (.I i),.ref 1 []] ⟨[],[(0,some ⟨oS,bN p⟩),(1,some ⟨oS,.lst [s.pv]⟩)],0,0,2⟩=aUJ i (bN p) (.lst [s.pv]):=by
  simp [qS,nU,aFN,St.list,St.killL,oG,OTy.same_refl]
 rw [e]
 unfold aUJ bN
 dsimp only
 rw [if_pos (by rw [List.length_map];omega),Int.toNat_natCast]
 refine aA ?_
 simp
theorem aVL (g : fF m) (h : VmI m v) (h0 : v.st=0) (hf : v.fr=fs0++[f]) (hp : sC m p) :
 Ok (λr=>r = [b2,.I v.st,b3,b4,b5,b6,b7,.lst (v.fr.map dC.pv),b1,b8,bN (aAT m p f)])
  (wS (.lst (m.texts.map PV.str)) (.lst (m.funcs.map eJ.pv)) b2 (.I v.st) b3 b4 b5 b6 b7 (bN p) (.lst (v.fr.map dC.pv)) b1 b8):=by
 have hl:=hp.len
 obtain ⟨t,_⟩:=h.top fs0 f hf
 rw [aFV]
 refine dD (λhn=>absurd h0 hn) (λ_=>?_)
 refine aQ5 g h hf ?_
 unfold aAT
 cases hs : aA0 m f with
 | none=>exact eF rfl (gZ (jG (aV9 (aA rfl))))
 | some s=>
   obtain ⟨e1,e2,es⟩:=aAU g t hs
   refine eF rfl (gZ (jG (vR ?_)))
   obtain ⟨c,c1,c2,c3,c4⟩:=aE9 hp.pr s
   have hkey:=aOk hp.pr c2 c3
   refine aI (Q:=λr=>r = [.tup [.I c,.bool (decide (∃ h : c<p.length,pI p[c] s))]]) ?_ (λr hr=>?_)
   ·rw [fL]
    exact jG (aF (vQ (λ_ _=>rfl) (by omega) c2 c3 _ 0 p.length (Nat.le_refl _) (by omega) c1 (Nat.le_refl _)))
   ·subst hr
    refine eF rfl (gZ (gC (λhx=>?_) (λhx=>?_)))
    ·obtain ⟨hc,hk⟩:=hx
     refine eH (by omega) (by rw [List.length_map];omega) (aQ hc (λ_=>rfl) (aFa (hp.ok _ (List.getElem_mem hc)) es hk (eH (by omega) (by rw [List.length_map];omega) (aD6 (by omega) (by rw [List.length_map];omega) rfl (aA ?_)))))
     have ha : aHi p s=true:=hkey.2 ⟨hc,hk⟩
     dsimp only
     rw [if_neg (by rw [ha];simp),c4,dif_pos hc,if_pos hk,Int.toNat_natCast]
     unfold bN
     rw [List.map_set]
     rfl
    ·have ha : aHi p s=false:=by
      cases ha : aHi p s with
      | false=>rfl
      | true=>exact absurd (hkey.1 ha) hx
     have e4 : qF (dU m s.f s.pc).o p s=p.take c++s::p.drop c:=by
      rw [c4]
      split
      ·rename_i hc;rw [if_neg (λhk=>hx ⟨hc,hk⟩)]
      ·rfl
     refine aF (aO (λh150=>?_) (λh150=>aA ?_))
     ·refine aJy c1 (by omega) (aA ?_)
      dsimp only
      rw [eV,e4];rfl
     ·dsimp only
      rw [if_pos ⟨by omega,ha⟩]
theorem aFc (g : fF m) (t : aHd m n f) (hp : sC m p) : sC m (aAT m p f):=by
 unfold aAT
 cases hs : aA0 m f with
 | none=>exact hp
 | some s=>
   obtain ⟨e1,e2,es⟩:=aAU g t hs
   dsimp only
   split
   ·exact hp
   ·rename_i hn
    refine aXH hp es ?_
    have:=hp.len
    by_cases h : p.length=150
    ·right
     cases ha : aHi p s with
     | true=>exact aIy.1 ha
     | false=>exact absurd ⟨h,ha⟩ hn
    ·left;omega
end
def cV (_ : eR) : Nat:=3
def mV (q : Int) (_ : eR) : eR:=⟨q,q+1,mtx (q+2)⟩
def cR (x : List eR) : Nat:=aIu cV x
def mR (q : Int) (x : List eR) : List eR:=aBU mV cV q x
def cFr (f : dC) : Nat:=2+(aIu cV f.loc+aIu cV f.stk)
def mFr (q : Int) (f : dC) : dC:=⟨q,q+1,aBU mV cV (q+2) f.loc,aBU mV cV (q+2+aIu cV f.loc) f.stk⟩
def cVm (v : mL) : Nat:=aIu cFr v.fr+(aIu cR v.hp+aIu cS v.out)
def aY7 (A B : R) (f pc stk : PV) (xs : R) : PV:=.lst (A++.agg [f,pc,.lst xs,stk]::B)
def aY8 (A B : R) (f pc loc : PV) (xs : R) : PV:=.lst (A++.agg [f,pc,loc,.lst xs]::B)
def aY9 (A B : R) (xs : R) : PV:=.lst (A++.agg [.lst xs]::B)
def mVm (q : Int) (v : mL) : mL:={ v with fr:=aBU mFr cFr q v.fr,hp:=aBU mR cR (q+aIu cFr v.fr) v.hp,out:=aBU mS cS (q+aIu cFr v.fr+aIu cR v.hp) v.out}
end
noncomputable section
open Go Go.ChangeShapes Go.WideShapes Go.ChangeAt
variable {v : Value} {t : TypeId} {n fuel : Nat}
inductive CSh where
 | b
 | i (k : IntKind)
 | s
 | l (g : Bool) (cs : List CSh)
mutual
def aYd : CSh→PV→Prop
 | .b,x=>∃ v,x = .bool v
 | .i k,x=>∃ n,x = .int k n∧(Lit.int k n).wf=true
 | .s,x=>∃ t : ByteArray,x = .str t∧t.size≤maxLen
 | .l g cs,x=>∃ xs,x = .lst xs∧xs.length≤maxLen∧∀ e∈xs,if g then ∃ ys,e = .agg ys∧iN cs ys else iN cs [e]
def iN : List CSh→R→Prop
 | [],[]=>True
 | c::cs,y::ys=>aYd c y∧iN cs ys
 | _,_=>False
end
theorem iN.len : ∀ {cs : List CSh} {ys : R},iN cs ys→ys.length=cs.length
 | [],[],_=>rfl
 | [],_::_,h=>by unfold iN at h;exact h.elim
 | _::_,[],h=>by unfold iN at h;exact h.elim
 | c::cs,y::ys,h=>by
   unfold iN at h
   simp [iN.len h.2]
theorem iN.append : ∀ {cs ds : List CSh} {ys zs : R},iN cs ys→iN ds zs→iN (cs++ds) (ys++zs)
 | [],_,[],_,_,h=>h
 | [],_,_::_,_,h,_=>by unfold iN at h;exact h.elim
 | _::_,_,[],_,h,_=>by unfold iN at h;exact h.elim
 | c::cs,ds,y::ys,zs,h,k=>by
   unfold iN at h
   show iN (c::(cs++ds)) (y::(ys++zs))
   unfold iN
   exact ⟨h.1,iN.append h.2 k⟩
def aVM (P : Program) (t : TypeId) : Bool:=match P.underlying t with
 | some (.struct _)=>true
 | _=>false
def aQ7 (P : Program) (f : TypeId→Option (List CSh)) : Nat→List Field→Option (List CSh)
 | _,[]=>some []
 | off,fd::r=>if fd.offset=off then (f fd.type).bind λcs=>if cs.length=P.cellsOf fd.type then (aQ7 P f (off+cs.length) r).map (cs++·) else none else none
def aTb (P : Program) : Nat→TypeId→Option (List CSh)
 | 0,_=>none
 | n+1,t=>match P.underlying t with
   | some .bool=>some [.b]
   | some (.int k)=>some [.i k]
   | some .string=>some [.s]
   | some (.slice e)=>(aTb P n e).bind λcs=>if cs.length=P.cellsOf e∧0<cs.length∧(aVM P e=false→cs.length=1) then some [.l (aVM P e) cs] else none
   | some (.struct fs)=>(aQ7 P (aTb P n) 0 fs.toList).bind λcs=>if cs.length=P.cellsOf t then some cs else none
   | _=>none
def aCs (w : World) (cs : List CSh) (vs : List Value) : Prop:=
 ∃ ys : R,iN cs ys∧ys.length=vs.length∧(∀ (i : Nat) v,vs[i]? = some v→eN v)∧∀ (i : Nat) c v,ys[i]? = some c→vs[i]? = some v→kX w (λr=>r<w.heap.size) c v
theorem aCs.one {w : World} {c : CSh} {x : PV} (h : aYd c x) (hc : eN v) (hr : kX w (λr=>r<w.heap.size) x v) : aCs w [c] [v]:=by
 refine ⟨[x],?_,rfl,λi u hu=>?_,λi c u hcu hu=>?_⟩
 ·unfold iN;exact ⟨h,by unfold iN;trivial⟩
 ·cases i with
  | zero=>cases hu;exact hc
  | succ i=>simp at hu
 ·cases i with
  | zero=>cases hu;cases hcu;exact hr
  | succ i=>simp at hu
theorem aCs.append {w : World} {cs ds : List CSh} {vs us : List Value} (h : aCs w cs vs) (k : aCs w ds us) : aCs w (cs++ds) (vs++us):=by
 obtain ⟨ys,h1,h2,h3,h4⟩:=h
 obtain ⟨zs,k1,k2,k3,k4⟩:=k
 refine ⟨ys++zs,h1.append k1,by simp [h2,k2],λi v hv=>?_,λi c v hc hv=>?_⟩
 ·rw [List.getElem?_append] at hv
  split at hv
  ·exact h3 _ _ hv
  ·exact k3 _ _ hv
 ·rw [List.getElem?_append] at hv hc
  split at hv
  ·rename_i hi
   rw [if_pos (by omega)] at hc
   exact h4 _ _ _ hc hv
  ·rename_i hi
   rw [if_neg (by omega),h2] at hc
   exact k4 _ _ _ hc hv
section
variable {H : Type} {enc : TypeId × Value → H} {P : Program} {w : World} {held : Bool}
def aYu (g : Bool) (cs : List CSh) (x : PV) : Prop:=if g then ∃ ys,x = .agg ys∧iN cs ys else iN cs [x]
end
end
noncomputable section
open Go Go.IntWalk
attribute [local irreducible] bd aV aE aH bE aS PV.cell PV.sub aB aK bV dG dL dQ cQ aD dM dB bR bA cG aN aX aC bM bC bD bK aW PV.deref bG cA aT dJ cJ cK dO PV.apply bL bO fK cC
variable {o : OR} {x : PV} {cs : List CSh} {ys : R} {c : CSh}
section
variable {P : R → Prop} {k : R → OR}
end
def aYB : CSh:=.l false [.s]
def aXI : CSh:=.l true [.i .i64,.i .i64]
def aYC : CSh:=.l true [.i .i64,.i .i64,aXI]
def aYD : CSh:=.l true [.i .i64,.i .i64,.s]
variable {args : List eR} {fuel : Int}
def zC (m : fO) : Nat→List hY→mL→List hY
 | 0,p,_=>p
 | j+1,p,v=>if v.st=0 then zC m j (match v.fr.getLast? with | some f=>aAT m p f | none=>p) (iZ m v) else p
section
variable {m : fO}
theorem aOl (g : fF m) : ∀ (j : Nat) {p : List hY} {v : mL},sC m p→VmI m v→sC m (zC m j p v)
 | 0,p,v,hp,_=>hp
 | j+1,p,v,hp,I=>by
   unfold zC
   split
   ·rename_i h0
    obtain ⟨fs0,f,G⟩:=I.goes g h0
    obtain ⟨t,_⟩:=I.top fs0 f G.fr
    rw [G.fr,List.getLast?_append]
    exact aOl g j (aFc g t hp) (I.step g)
   ·exact hp
theorem aFd (g : fF m) {n : Nat} (hn : n≤50000) : ∀ (j i : Nat) (p : List hY) (v : mL),i+j=n→VmI m v→sC m p→
 Ok (λr=>r = [bN (zC m j p v)]) (qJ (.I n) (.I i) (.lst (m.texts.map PV.str)) (.lst (m.funcs.map eJ.pv)) (.I v.made) (.I v.st) (.I v.tr) (.I v.val.k) (.I v.val.n) (.str v.val.s) (.I v.steps) (bN p) (.lst (v.fr.map dC.pv)) (.lst (v.hp.map bQ)) (.lst (v.out.map PV.str)))
 | 0,i,p,v,hi,I,hp=>by
   rw [xX]
   refine aO (λh=>by omega) (λ_=>aA ?_)
   rfl
 | j+1,i,p,v,hi,I,hp=>by
   rw [xX]
   refine aO (λ_=>?_) (λh=>by omega)
   unfold zC
   refine aJ (λh0=>?_) (λh0=>aA ?_)
   ·rw [if_pos h0]
    obtain ⟨fs0,f,G⟩:=I.goes g h0
    obtain ⟨t,_⟩:=I.top fs0 f G.fr
    have e : v.fr.getLast? = some f:=by rw [G.fr,List.getLast?_append];rfl
    rw [e]
    refine aQ6 g I h0 G.fr hp (gD (rK _) (aI (aMH (I.sz g) I.steps (λh _=>I.goes g h)) (λr hr=>?_)))
    rw [hr]
    refine pF (bS ?_)
    exact aFd g hn j (i+1) _ (iZ m v) (by omega) (I.step g) (aFc g t hp)
   ·rw [if_neg h0]
def lH (m : fO) (args : List eR) (fuel : Int) : List hY:=if aAZ m args fuel then zC m fuel.toNat [] (lF m args) else []
theorem aFe : sC m []:=⟨List.Pairwise.nil,(λx h=>by cases h),by simp⟩
theorem aUe (hs : m.sized) (ha : ∀ v∈args,v.s.size≤2097152) (hn : args.length≤2097152) :
 Ok (λr=>r = [bN (lH m args fuel)]) (aAw m.pv (bI args) (.I fuel)):=by
 rw [aHZ]
 refine dY (aI (aJ8 hs ha hn) (λr hr=>?_))
 rw [hr]
 have no : aAZ m args fuel=false→Ok (λr=>r = [bN (lH m args fuel)]) (some [.lst []]):=λh=>aA (by unfold lH;rw [h];rfl)
 refine aHh (cD ?_)
 cases hb : lG m args with
 | false=>exact bF (no (by simp [aAZ,hb]))
 | true=>
   refine bP (fP (cD ?_))
   cases hf : mA fuel 0 50000 with
   | false=>exact bF (no (by simp [aAZ,hf]))
   | true=>
     obtain ⟨g,I⟩:=aFG hs hb
     have hf':=hf
     simp only [mA,Bool.and_eq_true,decide_eq_true_eq] at hf'
     obtain ⟨n,rfl⟩:=Int.eq_ofNat_of_zero_le hf'.1
     have : lH m args n=zC m n [] (lF m args):=by unfold lH aAZ;rw [hb,hf];rfl
     rw [this]
     exact bP (aFd g (by omega) n 0 [] (lF m args) (by omega) I aFe)
theorem aFf (g : fF m) {n : Nat} (hn : n≤50000) {a0 a1 a2 a3 a4 a5 a6 b0 b1 b2 : PV} : ∀ (j i : Nat) (p : List hY) (v : mL),i+j=n→VmI m v→v.steps≤i→sC m p→
 Ok (λr=>gd r 7 = .bool true∧gd r 10=bN (zC m j p v)) (aBg (.I n) (.I i) (.lst (m.texts.map PV.str)) (.lst (m.funcs.map eJ.pv)) (.lst (m.texts.map PV.str)) (.lst (m.funcs.map eJ.pv)) a0 a1 a2 a3 a4 a5 a6 (.I v.made) (.I v.st) (.I v.tr) (.I v.val.k) (.I v.val.n) (.str v.val.s) (.I v.steps) (bN p) b0 b1 b2 (.lst (v.fr.map dC.pv)) (.lst (v.hp.map bQ)) (.lst (v.out.map PV.str)))
 | 0,i,p,v,hi,I,hv,hp=>by
   rw [aER]
   refine aO (λh=>by omega) (λ_=>?_)
   exact aQY (I.sz g) (pF (aA ⟨rfl,rfl⟩))
 | j+1,i,p,v,hi,I,hv,hp=>by
   rw [aER]
   refine aO (λ_=>?_) (λh=>by omega)
   unfold zC
   refine dD (λh0=>?_) (λh0=>?_)
   ·rw [if_neg h0]
    exact aQY (I.sz g) (pF (aA ⟨rfl,rfl⟩))
   ·have h0 : v.st=0:=by simpa using h0
    rw [if_pos h0]
    obtain ⟨fs0,f,G⟩:=I.goes g h0
    obtain ⟨t,_⟩:=I.top fs0 f G.fr
    have e : v.fr.getLast? = some f:=by rw [G.fr,List.getLast?_append];rfl
    rw [e]
    refine aI (Q:=λr=>r = [.I v.made,.I v.st,.I v.tr,.I v.val.k,.I v.val.n,.str v.val.s,.I v.steps,.lst (m.texts.map PV.str),.lst (m.funcs.map eJ.pv),.lst (v.fr.map dC.pv),.lst (v.hp.map bQ),.lst (v.out.map PV.str),bN (aAT m p f)]) ?_ (λr hr=>?_)
    ·rw [aFU]
     refine aI (aVL g I h0 G.fr hp) (λr hr=>?_)
     rw [hr]
     exact aA rfl
    rw [hr]
    refine aI (aUb G h0 (by omega) I.steps) (λr hr=>?_)
    rw [hr]
    refine bS ?_
    have:=aQ0 (m:=m) I.steps.2
    exact aFf g hn j (i+1) _ (iZ m v) (by omega) (I.step g) (by omega) (aFc g t hp)
theorem aUf (hs : m.sized) (ha : ∀ v∈args,v.s.size≤2097152) (hn : args.length≤2097152) :
 Ok (λr=>r = [bN (lH m args fuel)]) (aAv m.pv (bI args) (.I fuel)):=by
 rw [aHY]
 refine dY (aI (Q:=λr=>gd r 7 = .bool (aAZ m args fuel)∧(aAZ m args fuel=true→gd r 10=bN (lH m args fuel))) ?_ (λr hr=>?_))
 ·rw [aQu]
  refine aI (aSk hs ha hn) (λr hr=>?_)
  have e : r=uR (if lG m args then lF m args else vmZ) (lG m args):=by
   rw [hr];cases lG m args<;>rfl
  rw [e]
  have no : ∀ {x : R},aAZ m args fuel=false→gd x 7 = .bool false→Ok (λr=>gd r 7 = .bool (aAZ m args fuel)∧(aAZ m args fuel=true→gd r 10=bN (lH m args fuel))) (some x):=λh hx=>aA ⟨by rw [h];exact hx,λh'=>by rw [h] at h';cases h'⟩
  refine aHh (cD ?_)
  cases hb : lG m args with
  | false=>exact bF (no (by simp [aAZ,hb]) rfl)
  | true=>
    refine bP (gB (cD ?_))
    cases hf : mA fuel 0 50000 with
    | false=>exact bF (no (by simp [aAZ,hf]) rfl)
    | true=>
      obtain ⟨g,I⟩:=aFG hs hb
      have hf':=hf
      simp only [mA,Bool.and_eq_true,decide_eq_true_eq] at hf'
      obtain ⟨n,rfl⟩:=Int.eq_ofNat_of_zero_le hf'.1
      have hr : aAZ m args n=true:=by unfold aAZ;rw [hb,hf];rfl
      have : lH m args n=zC m n [] (lF m args):=by unfold lH;rw [hr];rfl
      rw [this,hr]
      exact bP ((aFf g (by omega) n 0 [] (lF m args) (by omega) I (Int.le_refl _) aFe).mono (λr hr=>⟨hr.1,λ_=>hr.2⟩))
 ·obtain ⟨h1,h2⟩:=hr
  rw [h1]
  refine cD ?_
  cases hb : aAZ m args fuel with
  | false=>exact bF (aA (by unfold lH;rw [hb];rfl))
  | true=>exact bP (aA (by rw [h2 hb]))
def cSi (_ : hY) : Nat:=4
def mSi (q : Int) (_ : hY) : hY:=⟨q,q+1,q+2,q+3⟩
end
variable {a s : hY} {p : List hY} {n : Int} {f : dC}
section
variable {m : fO}
def aKK (o : Int) (a s : hY) : Prop:=
 if o=23 then a.seen=1→(s.seen=1∧a.tgt=s.tgt) else (s.seen=1→a.seen=1∨a.seen=3)∧(s.seen=2→a.seen=2∨a.seen=3)
def aPt (m : fO) (p : List hY) (s : hY) : Prop:=∃ a,lkS p s.f s.pc=some a∧aKK (opS m s) a s
theorem aYe {a b : Int} (ha : 1≤a∧a≤3) (hb : 1≤b∧b≤3) : ((a=1∨a=3)→(orI a b=1∨orI a b=3))∧((a=2∨a=3)→(orI a b=2∨orI a b=3))∧((b=1∨b=3)→(orI a b=1∨orI a b=3))∧((b=2∨b=3)→(orI a b=2∨orI a b=3)):=by
 obtain ⟨x,rfl⟩:=Int.eq_ofNat_of_zero_le (show 0≤a by omega)
 obtain ⟨y,rfl⟩:=Int.eq_ofNat_of_zero_le (show 0≤b by omega)
 have h1 : x=1∨x=2∨x=3:=by omega
 have h2 : y=1∨y=2∨y=3:=by omega
 rcases h1 with rfl | rfl | rfl<;>rcases h2 with rfl | rfl | rfl<;>decide
theorem aQ8 (ha : jR m a) (hs : jR m s) (hk : pI a s) : aKK (opS m s) (kK (opS m s) a s) s∧∀ t,aKK (opS m s) a t→aKK (opS m s) (kK (opS m s) a s) t:=by
 obtain ⟨af,ap,as_,at_⟩:=a
 obtain ⟨bf,bp,bs_,bt⟩:=s
 obtain ⟨_,ha⟩:=ha
 obtain ⟨_,hs⟩:=hs
 obtain ⟨k1,k2⟩:=hk
 dsimp only at *
 subst k1
 subst k2
 unfold opS
 dsimp only
 generalize (dU m af ap).o=o at *
 by_cases ho : o=23
 ·subst ho
  simp only [aKK,kK,ne_eq,not_true_eq_false,↓reduceIte]
  by_cases h : ¬as_=1∨¬bs_=1∨¬at_=bt
  ·rw [if_pos h]
   exact ⟨λh=>absurd (show (2 : Int)=1 from h) (by decide),λt _ h=>absurd (show (2 : Int)=1 from h) (by decide)⟩
  ·rw [if_neg h]
   exact ⟨λ_=>⟨by omega,by show at_=bt;omega⟩,λt h=>h⟩
 ·simp only [aKK,kK,ho,ne_eq,not_false_eq_true,↓reduceIte]
  have k:=aYe (a:=as_) (b:=bs_) (by omega) (by omega)
  exact ⟨⟨λh=>k.2.2.1 (.inl h),λh=>k.2.2.2 (.inl h)⟩,λt h=>⟨λh1=>k.1 (h.1 h1),λh1=>k.2.1 (h.2 h1)⟩⟩
theorem aUg {o : Int} : aKK o s s:=by
 unfold aKK
 split
 ·exact λh=>⟨h,rfl⟩
 ·exact ⟨λh=>.inl h,λh=>.inl h⟩
theorem aVN (hp : Srt m p) (hs : jR m s) : aPt m (qF (opS m s) p s) s:=by
 refine ⟨_,by rw [aK5 hp.pr,if_pos ⟨rfl,rfl⟩],?_⟩
 cases h : lkS p s.f s.pc with
 | none=>exact aUg
 | some a=>
   obtain ⟨h1,h2,h3⟩:=aIx h
   exact (aQ8 (hp.ok a h1) hs ⟨h2,h3⟩).1
theorem aUh {t : hY} (hp : Srt m p) (hs : jR m s) (h : aPt m p t) : aPt m (qF (opS m s) p s) t:=by
 obtain ⟨a,h1,h2⟩:=h
 unfold aPt
 rw [aK5 hp.pr]
 by_cases hk : s.f=t.f∧s.pc=t.pc
 ·rw [if_pos hk,hk.1,hk.2,h1]
  obtain ⟨g1,g2,g3⟩:=aIx h1
  have ho : opS m s=opS m t:=by unfold opS;rw [hk.1,hk.2]
  rw [← ho] at h2 ⊢
  exact ⟨_,rfl,(aQ8 (hp.ok a g1) hs ⟨by omega,by omega⟩).2 t h2⟩
 ·rw [if_neg hk];exact ⟨a,h1,h2⟩
theorem sC.srt (h : sC m p) : Srt m p:=⟨h.pr,h.ok⟩
theorem aWS (g : fF m) (t : aHd m n f) (hp : sC m p) (h : aPt m p s) : aPt m (aAT m p f) s:=by
 unfold aAT
 cases hs : aA0 m f with
 | none=>exact h
 | some x=>
   obtain ⟨_,_,es⟩:=aAU g t hs
   dsimp only
   split
   ·exact h
   ·exact aUh hp.srt es h
theorem aQ9 (g : fF m) {s : hY} : ∀ (j : Nat) {p : List hY} {v : mL},sC m p→VmI m v→aPt m p s→aPt m (zC m j p v) s
 | 0,_,_,_,_,h=>h
 | j+1,p,v,hp,I,h=>by
   unfold zC
   split
   ·rename_i h0
    obtain ⟨fs0,f,G⟩:=I.goes g h0
    obtain ⟨t,_⟩:=I.top fs0 f G.fr
    rw [G.fr,List.getLast?_append]
    exact aQ9 g j (aFc g t hp) (I.step g) (aWS g t hp h)
   ·exact h
theorem aWT : (aAT m p f).length≤p.length+1:=by
 unfold aAT
 split
 ·omega
 ·split
  ·omega
  ·exact aIv _ _ _
theorem aWU (g : fF m) (t : aHd m n f) (hp : sC m p) (hl : p.length<150) (hs : aA0 m f=some s) : aPt m (aAT m p f) s:=by
 obtain ⟨_,_,es⟩:=aAU g t hs
 unfold aAT
 rw [hs]
 dsimp only
 rw [if_neg (λh=>by omega)]
 exact aVN hp.srt es
theorem aUi {f pc : Int} (h : lkS p f pc=some a) : uC p f pc=a:=by
 unfold uC
 have : aNw f pc=λa=>decide (a.f=f∧a.pc=pc):=by
  funext a;unfold aNw;rw [Bool.decide_and]
 rw [this]
 unfold lkS at h
 rw [h];rfl
end
section
variable {P : R → Prop} {m : fO}
theorem aPu (hs : m.sized) (args : List eR) (fuel : Int) : sC m (lH m args fuel):=by
 unfold lH
 split
 ·rename_i hb
  simp only [aAZ,Bool.and_eq_true] at hb
  obtain ⟨g,I⟩:=aFG hs hb.1
  exact aOl g _ aFe I
 ·exact aFe
end
def aYT (l : List Int) (A : Int) (r : R) : Prop:=∃ a s : Int,∃ p : List hY,r = [bN p,cX l,.I a,.I s]∧0≤a∧a≤A∧0≤s∧s<65521∧p.length≤10000
section
variable {l : List Int} (hl : Bts l) {m : fO} (hs : m.sized) (hm : 1 ≤ m.funcs.length)
include hl hs hm
end
section
variable {P : R → Prop} {m : fO} {p q : List hY}
theorem aOm : ∀ {p : List hY} {b : Option hY},aDF m b p=true↔(∀ x∈p,jR m x)∧(∀ y,b=some y→∀ x∈p,dZ y x)∧p.Pairwise dZ
 | [],b=>by simp [aDF]
 | s::r,b=>by
   have ih:=aOm (p:=r) (b:=some s)
   unfold aDF
   rw [Bool.and_eq_true,Bool.and_eq_true,decide_eq_true_eq,ih,List.pairwise_cons]
   constructor
   ·rintro ⟨h1,h2,h3,h4,h5⟩
    refine ⟨λx hx=>?_,λy hy x hx=>?_,h4 s rfl,h5⟩
    ·rcases List.mem_cons.1 hx with rfl | hx
     ·exact h1
     ·exact h3 x hx
    ·subst hy
     have h2 : dZ y s:=by simpa using h2
     rcases List.mem_cons.1 hx with rfl | hx
     ·exact h2
     ·exact aAS h2 (h4 s rfl x hx)
   ·rintro ⟨h1,h2,h3,h4⟩
    refine ⟨h1 s List.mem_cons_self,?_,λx hx=>h1 x (List.mem_cons_of_mem _ hx),λy hy=>by cases hy;exact h3,h4⟩
    cases b with
    | none=>rfl
    | some y=>exact decide_eq_true (h2 y rfl s List.mem_cons_self)
theorem aFK : aGl m p=true↔p.length≤150∧Srt m p:=by
 unfold aGl
 rw [Bool.and_eq_true,decide_eq_true_eq,aOm]
 exact ⟨λ⟨h1,h2,_,h3⟩=>⟨h1,h3,h2⟩,λ⟨h1,h2⟩=>⟨h1,h2.ok,(λ_ hy=>nomatch hy),h2.pr⟩⟩
def aHj (m : fO) (p q : List hY) : List hY:=if (aMC m p&&aGl m q)=true then (if 150<(sK m p q).length then [] else sK m p q) else []
theorem aRa {i : Nat} (hi : i<q.length) : sK m p (q.take (i+1))=qF (opS m q[i]) (sK m p (q.take i)) q[i]:=by
 unfold sK
 rw [List.take_add_one,List.getElem?_eq_getElem hi,List.foldl_append];rfl
theorem Srt.take {p : List hY} (h : Srt m p) (i : Nat) : Srt m (p.take i):=⟨h.pr.sublist (List.take_sublist _ _),λx hx=>h.ok x (List.mem_of_mem_take hx)⟩
theorem aRb (i : Nat) : (sK m p (q.take i)).length≤p.length+i:=by
 have h1:=aMK (m:=m) (p:=p) (q:=q.take i)
 have h2 : (q.take i).length≤i:=List.length_take_le _ _
 omega
theorem aTc (hp : p.length≤100000) {s : hY} {c : Nat} (c1 : c≤p.length) (h2 : ∀ k (h : k<p.length),k<c→dZ p[k] s) (h3 : ∀ k (h : k<p.length),c≤k→¬ dZ p[k] s) :
 Ok (λr=>r = [.tup [.I c,.bool (decide (∃ h : c<p.length,pI p[c] s))]]) (cN (bN p) s.pv (.fn 47 [])):=by
 rw [fL]
 exact jG (aF (vQ (λ_ _=>rfl) (by omega) h2 h3 _ 0 p.length (Nat.le_refl _) (by omega) c1 (Nat.le_refl _)))
theorem aKa (hp : p.length≤100000) : Ok (λr=>r = [bN p]) (gA (bN p)):=by
 rw [sV]
 refine aLg (aOB (λe=>aA ?_) ?_)
 ·rw [show p = [] from by simpa using e];rfl
 ·exact mD (by rw [List.length_map];omega) aK2 (aA rfl)
theorem aSm (hs : m.sized) (hp : p.length≤100000) (hq : q.length≤100000) : Ok (λr=>r = [bN (aHj m p q)]) (yK m.pv (bN p) (bN q)):=by
 rw [aG1]
 refine dY (aE8 hs (by omega) (cD (aZ (λh1=>aA ?_) (λh1=>aI (aJ6 hs (by omega)) (λr hr=>?_)))))
 ·unfold aHj
  rw [if_neg (by simp at h1;simp [h1])];rfl
 rw [hr]
 refine cD (aZ (λh2=>aA ?_) (λh2=>?_))
 ·unfold aHj
  rw [if_neg (by simp at h1 h2;simp [h2])];rfl
 have e1 : aMC m p=true:=by simpa using h1
 have e2 : aGl m q=true:=by simpa using h2
 have hb : (aMC m p&&aGl m q)=true:=by rw [e1,e2];rfl
 have sp : p.length≤150∧Srt m p:=by unfold aMC at e1;simp at e1;exact aFK.1 e1.2
 have sq : q.length≤150∧Srt m q:=aFK.1 e2
 refine aI (aKa hp) (λr hr=>?_)
 rw [hr]
 refine gD (rK _) (aF ?_)
 refine aHc (n:=q.length) (σ:=List hY) (F:=λi z=>lW (bN q) (.I q.length) (.I i) (.lst (m.texts.map PV.str)) (.lst (m.funcs.map eJ.pv)) (bN z)) (λi z=>z=sK m p (q.take i)) ?_ ?_ 0 p (by omega) rfl
 ·rintro z rfl
  rw [List.take_length,vW]
  refine aO (λh=>by omega) (λ_=>aF (iU (λh=>aA ?_) (λh=>aA ?_)))
  ·unfold aHj;rw [if_pos hb,gH];rfl
  ·unfold aHj;rw [if_pos hb,eV]
 ·rintro i z hi hz ih
  have hln:=aRb (m:=m) (p:=p) (q:=q) i
  have hsi:=sq.2.ok _ (List.getElem_mem hi)
  have hso:=sp.2.merge (sq.2.take i)
  have hnx:=aRa (m:=m) (p:=p) hi
  rw [← hz] at hln hso hnx
  obtain ⟨c,c1,c2,c3,c4⟩:=aE9 hso.pr q[i]
  rw [c4] at hnx
  rw [vW]
  refine aO (λ_=>?_) (λh=>by omega)
  refine aQ hi (λ_=>rfl) (jG (aI (aTc (s:=q[i]) (by omega) c1 c2 c3) (λr hr=>?_)))
  rw [hr]
  refine eF rfl (gZ (gC (λhx=>?_) (λhx=>?_)))
  ·obtain ⟨hc,hk⟩:=hx
   refine eH (by omega) (by rw [List.length_map];omega) (aQ hc (λ_=>rfl) (aFa (s:=q[i]) (hso.ok _ (List.getElem_mem hc)) hsi hk (eH (by omega) (by rw [List.length_map];omega) (aD6 (by omega) (by rw [List.length_map];omega) rfl (bS ?_)))))
   rw [dif_pos hc,if_pos hk] at hnx
   have e : (z.map hY.pv).set (c : Int).toNat (kK (dU m q[i].f q[i].pc).o z[c] q[i]).pv=(z.set c (kK (opS m q[i]) z[c] q[i])).map hY.pv:=by
    rw [List.map_set,Int.toNat_natCast]
   have:=ih _ hnx.symm
   unfold bN at this
   rw [← e] at this
   exact this
  ·have e : sK m p (q.take (i+1))=z.take c++q[i]::z.drop c:=by
    rw [hnx]
    split
    ·rename_i hc;rw [if_neg (λhk=>hx ⟨hc,hk⟩)]
    ·rfl
   refine aJy (s:=q[i]) c1 (by omega) (bS ?_)
   exact ih _ e.symm
theorem aSn (hp : p.length≤100000) : Ok (λr=>r = [.bool true]) (lT (bN p) (bN p)):=by
 rw [aHT]
 refine aF (aF (dD (λh=>absurd rfl h) (λ_=>?_)))
 refine fQ (n:=p.length) (F:=λi=>qI (bN p) (bN p) (.I i)) (P:=λ_ r=>r = [.bool true]) ?_ (λi hi ih=>?_) 0 (by omega)
 ·rw [xU]
  exact aF (aO (λh=>by omega) (λ_=>aA rfl))
 ·rw [xU]
  refine aF (aO (λ_=>?_) (λh=>by omega))
  refine aQ hi (λ_=>rfl) (aQ hi (λ_=>rfl) (jG (jG ?_)))
  exact eZ (.bool false) (by simp [cQ,eU,iB,vZ]) (bP (bS ih))
theorem aIz {k : R→OR} (hp : p.length≤100000) (h : Ok P (k [.bool true])) : Ok P (bd (lT (bN p) (bN p)) k):=aI (aSn hp) (λr hr=>by rw [hr];exact h)
end
section
variable {l : List Int}
end
section
variable {P : R → Prop} {k : R → OR}
end
variable {n : Int} {hp : List (List eR)} {m : fO}
def TC (a : ByteArray) : Prop:=a.data.toList.all chB=true
theorem aHk {a b : ByteArray} (ha : TC a) (hb : TC b) : TC (a++b):=by
 unfold TC at *
 rw [ByteArray.data_append,Array.toList_append,List.all_append,ha,hb];rfl
theorem aSo : ∀ n : Nat,n<10→TC (dig n):=by
 intro n h
 have : ∀ n : Fin 10,(dig (n.val : Int)).data.toList.all chB=true:=by decide
 exact this ⟨n,h⟩
theorem aTd : ∀ (j n : Nat),n<10 ^ (j+1)→TC (aDa j n)
 | 0,n,h=>aSo n (by simpa using h)
 | j+1,n,h=>by
   unfold aDa
   split
   ·exact aSo n (by omega)
   ·have e1 : (n : Int) / 10=((n / 10 : Nat) : Int):=by omega
    have e2 : (n : Int) % 10=((n % 10 : Nat) : Int):=by omega
    rw [e1,e2]
    exact aHk (aTd j (n / 10) (by rw [Nat.pow_succ] at h;omega)) (aSo _ (by omega))
theorem aPv (h0 : 0≤n) (h : n≤1000000000) : TC (aDa 18 n):=by
 obtain ⟨k,rfl⟩:=Int.eq_ofNat_of_zero_le h0
 exact aTd 18 k (by omega)
theorem aJz (h : -1000000000≤n∧n≤1000000000) : TC (mK n):=by
 have m45 : TC (bs [45]):=by unfold TC;decide
 unfold mK
 split
 ·rename_i h1
  split
  ·refine aHk (aHk m45 (aPv ?_ ?_)) (aPv ?_ ?_)
   ·have:=Int.tdiv_eq_ediv_of_nonneg (a:=-n) (b:=10) (by omega)
    rw [Int.neg_tdiv] at this
    omega
   ·have:=Int.tdiv_eq_ediv_of_nonneg (a:=-n) (b:=10) (by omega)
    rw [Int.neg_tdiv] at this
    omega
   ·have:=Int.tmod_eq_emod_of_nonneg (a:=-n) (b:=10) (by omega)
    rw [Int.neg_tmod] at this
    omega
   ·have:=Int.tmod_eq_emod_of_nonneg (a:=-n) (b:=10) (by omega)
    rw [Int.neg_tmod] at this
    omega
  ·exact aHk m45 (aPv (by omega) (by omega))
 ·exact aPv (by omega) (by omega)
theorem aFg (n : Int) : (mK n).size≤50:=by
 unfold mK
 have:=λn=>kJ 18 n
 split
 ·split
  ·have:=kJ 18 (-(n.tdiv 10))
   have:=kJ 18 (-(n.tmod 10))
   have e : (bs [45]).size=1:=rfl
   rw [ByteArray.size_append,ByteArray.size_append];omega
  ·have:=kJ 18 (-n)
   have e : (bs [45]).size=1:=rfl
   rw [ByteArray.size_append];omega
 ·have:=kJ 18 n
  omega
theorem aSp {nf : Int} {v : eR} (hr : ∀ i : Nat,(hp[i]?.getD []).length≤6) (hf : nf≤1000) (h : cW nf hp.length v=true) : fA (kW v hp)=true:=by
 have mk : ∀ s : ByteArray,s.size≤60→TC s→fA s=true:=λs h1 h2=>by
  unfold fA
  rw [decide_eq_true (by omega),h2];rfl
 have hn : (v.k=1→-1000000000≤v.n∧v.n≤1000000000)∧(v.k=5→0≤v.n∧v.n≤nf - 1):=by
  have hv:=h
  unfold cW at hv
  repeat' split at hv
  all_goals first
   | (cases hv;done)
   | (simp only [eM,bT,Bool.and_eq_true,decide_eq_true_eq] at hv;omega)
 unfold kW
 split
 ·decide
 rename_i k0
 split
 ·rename_i k1
  exact mk _ (by have:=aFg v.n;omega) (aJz (hn.1 k1))
 rename_i k1
 split
 ·split<;>decide
 rename_i k2
 split
 ·rename_i k3
  exact aJv h k3
 rename_i k3
 split
 ·rename_i k5
  have h':=hn.2 k5
  refine mk _ ?_ (aHk (by unfold TC;decide) (aJz (by omega)))
  have:=aFg v.n
  have e : (bs [102,117,110]).size=3:=rfl
  rw [ByteArray.size_append];omega
 rename_i k5
 split
 ·have:=hr v.n.toNat
  refine mk _ ?_ (aHk (aHk (by unfold TC;decide) (aJz (by omega))) (by unfold TC;decide))
  have:=aFg ((hp[v.n.toNat]?.getD []).length : Int)
  have e : (bs [123]).size=1:=rfl
  have e' : (bs [125]).size=1:=rfl
  rw [ByteArray.size_append,ByteArray.size_append];omega
 ·decide
def aUj : aIn→Prop
 | .trap c=>1≤c∧c≤8
 | .next _ _ _ out=>∀ s∈out,fA s=true
 | _=>True
theorem aUk (o : Int) (a b : eR) : 0≤(aDT o a b).2∧(aDT o a b).2≤8:=by
 unfold aDT
 repeat' split
 all_goals simp
theorem aVO (o : Int) (a b : eR) : 0≤(uT o a b).2∧(uT o a b).2≤8:=by
 unfold uT
 repeat' split
 all_goals first
  | exact aUk _ _ _
  | simp
theorem aUl (a : eR) : 0≤(aCo a).2∧(aCo a).2≤8:=by
 unfold aCo
 split<;>simp
theorem ifk {c : Prop} [Decidable c] {a b : aIn} (h1 : c→aUj a) (h2 : ¬ c→aUj b) : aUj (if c then a else b):=by
 split
 ·exact h1 (by assumption)
 ·exact h2 (by assumption)
theorem aYf {fr : dC} {took : List eR} {depth : Nat} {made : Int} {out : List ByteArray} {x : eC} (ho : ∀ s∈out,fA s=true) (ha : fA (kW (took.headD eQ) hp)=true) :
 aUj (fX m fr took depth hp made out x):=by
 have t : ∀ c : Int,1≤c→c≤8→aUj (.trap c):=λc h1 h2=>⟨h1,h2⟩
 unfold fX
 simp only
 repeat' (refine ifk (λ_=>?_) (λ_=>?_))
 all_goals first
  | exact ho
  | exact True.intro
  | exact t _ (by omega) (by omega)
  | (have:=aVO x.o (took.headD eQ) (took.tail.headD eQ);exact t _ (by omega) (by omega))
  | (have:=aUl (took.headD eQ);exact t _ (by omega) (by omega))
  | (refine (?_ : ∀ s∈out++[_],fA s=true)
     intro s hs
     rcases List.mem_append.1 hs with hs | hs
     ·exact ho s hs
     ·rw [List.mem_singleton] at hs
      rw [hs];exact ha)
structure VmK (m : fO) (v : mL) : Prop extends VmI m v where
 outs : ∀ s∈v.out,fA s=true
 vok : oD m v.hp.length v.val
 end_ : (v.st=0∧v.tr=0∧v.val=eQ)∨(v.st=2∧1≤v.tr∧v.tr≤8∧v.val=eQ∧v.fr≠[])∨(v.st=1∧v.tr=0∧v.fr = [])
theorem VmK.step {m : fO} (g : fF m) {v : mL} (h : VmK m v) : VmK m (iZ m v):=by
 by_cases h0 : v.st≠0
 ·rw [aSi h0];exact h
 have h0 : v.st=0:=by omega
 by_cases h5 : v.steps=50000
 ·have : iZ m v=v:=by unfold iZ;rw [eV,if_pos h5]
  rw [this];exact h
 have I':=h.toVmI.step g
 obtain ⟨fs0,f,G⟩:=h.goes g h0
 obtain ⟨t,low⟩:=h.top fs0 f G.fr
 have hnf:=h.nfr
 rw [G.fr,List.length_append,List.length_singleton] at hnf
 have A:=aVe (fs0:=fs0) g h.toVmI t rfl hnf
 have K : aUj (aDE m v fs0 f):=by
  refine aYf h.outs (aSp (nf:=m.funcs.length) (λi=>(aPg h.hp i).1) (by have:=g.fit.2.1;omega) ?_)
  generalize hd : f.stk.drop (f.stk.length - (bU m.funcs (pG m.funcs f)).1.toNat)=D
  cases D with
  | nil=>exact rZ
  | cons y r=>exact t.vs y (List.mem_of_mem_drop (by rw [hd];simp))
 obtain ⟨e1,e2⟩ : v.tr=0∧v.val=eQ:=by
  rcases h.end_ with e | e | e
  ·exact e.2
  ·omega
  ·omega
 have hst:=aFD h0 h5 G.fr (m:=m)
 rw [hst] at I' ⊢
 cases ha : aDE m v fs0 f with
 | trap c=>
   rw [ha] at K I'
   exact ⟨I',h.outs,h.vok,.inr (.inl ⟨rfl,K.1,K.2,e2,by show v.fr≠[];rw [G.fr];simp⟩)⟩
 | next fr hp made out=>
   rw [ha] at K I' A
   have A : aQJ m v f _ fr hp made out:=A
   exact ⟨I',K,xA (n:=v.hp.length) (by have:=A.n;show (v.hp.length : Int)≤hp.length;omega) h.vok,.inl ⟨h0,e1,e2⟩⟩
 | call fr gg=>
   rw [ha] at I'
   exact ⟨I',h.outs,h.vok,.inl ⟨h0,e1,e2⟩⟩
 | ret a=>
   rw [ha] at A I'
   have A : oD m v.hp.length a:=A
   by_cases hf : fs0 = []
   ·have e : aE5 m v fs0 (.ret a)=⟨[],v.hp,v.made,v.out,1,v.tr,a,v.steps+1⟩:=if_pos hf
    rw [e] at I' ⊢
    exact ⟨I',h.outs,A,.inr (.inr ⟨rfl,e1,rfl⟩)⟩
   ·have e : aE5 m v fs0 (.ret a)=⟨aGi a fs0,v.hp,v.made,v.out,v.st,v.tr,v.val,v.steps+1⟩:=if_neg hf
    rw [e] at I' ⊢
    exact ⟨I',h.outs,h.vok,.inl ⟨h0,e1,e2⟩⟩
theorem aWV {args : List eR} (hs : m.sized) (h : lG m args=true) : fF m∧VmK m (lF m args):=by
 obtain ⟨g,I⟩:=aFG hs h
 exact ⟨g,⟨I,λs hs=>(by cases hs),rZ,.inl ⟨rfl,rfl,rfl⟩⟩⟩
variable {v : mL}
def aMM (m : fO) (v : mL) : R:=[.bool true,.lst (m.texts.map PV.str),.lst (m.funcs.map eJ.pv),.lst (v.fr.map dC.pv),.lst (v.hp.map bQ),.I v.made,.lst (v.out.map PV.str),.I v.st,.I v.tr,.I v.val.k,.I v.val.n,.str v.val.s,.I v.steps]
def aNy (m : fO) : PV:=.lst (m.funcs.map λf=>fW (oA m.funcs f.code))
section
variable {P : R → Prop} {k : R → OR} {m : fO}
theorem fF.b (g : fF m) : aBw m=true:=by simp [aBw,g.ok,g.bad]
theorem aMN (g : fF m) : Ok (λr=>r = [aNy m]) (aCU m.pv):=by
 obtain ⟨f1,f2,ff⟩:=g.fit
 rw [aKt]
 refine dY (aF ?_)
 have loop : ∀ i,i≤m.funcs.length→Ok (λr=>r = [aNy m]) (pY (.I m.funcs.length) (.I i) (.lst (m.texts.map PV.str)) (.lst (m.funcs.map eJ.pv)) (.lst ((m.funcs.take i).map λf=>fW (oA m.funcs f.code)))):=by
  refine fQ (n:=m.funcs.length) (F:=λi=>pY (.I m.funcs.length) (.I i) (.lst (m.texts.map PV.str)) (.lst (m.funcs.map eJ.pv)) (.lst ((m.funcs.take i).map λf=>fW (oA m.funcs f.code)))) (P:=λ_ r=>r = [aNy m]) ?_ (λi hi ih=>?_)
  ·rw [aAJ,List.take_length]
   exact aO (λh=>by omega) (λ_=>aA rfl)
  ·rw [aAJ]
   refine aO (λ_=>?_) (λh=>by omega)
   refine aI (aE2 (T:=(.lst (m.texts.map PV.str))) (ff _ (List.getElem_mem hi)).1 hi rfl) (λr hr=>?_)
   rw [hr]
   refine iT (by simp) (λx hx=>by simp only [hd,List.nil_append,List.mem_singleton] at hx;subst hx;rfl) (iT (by simp;omega) (λx hx=>by simp only [hd,List.nil_append,List.mem_singleton] at hx;subst hx;rfl) (bS ?_))
   rw [List.take_add_one,List.getElem?_eq_getElem hi,Option.toList_some,List.map_append] at ih
   exact ih
 exact loop 0 (by omega)
theorem aRc {hp : List (List eR)} (hn : hp.length≤120) (hr : ∀ r∈hp,r.length≤6) : Ok (λr=>r = [.bool true]) (aBf (.lst (hp.map bQ))):=by
 have loop : ∀ i,i≤hp.length→Ok (λr=>r = [.I (-1)]) (cY (.lst (hp.map bQ)) (.fn 156 []) (.I hp.length) (.I i)):=by
  refine fQ (n:=hp.length) (F:=λi=>cY (.lst (hp.map bQ)) (.fn 156 []) (.I hp.length) (.I i)) (P:=λ_ r=>r = [.I (-1)]) ?_ (λi hi ih=>?_)
  ·rw [eT]
   exact aO (λh=>by omega) (λ_=>aA rfl)
  ·rw [eT]
   refine aO (λ_=>?_) (λh=>by omega)
   refine aQ hi (λ_=>rfl) (sL (o:=aBK (bQ hp[i])) (Q:=λr=>r = [.bool false]) rfl ?_ (λr hr=>?_))
   ·rw [aCj]
    have:=hr _ (List.getElem_mem hi)
    exact aPJ (bX (lQ (aA (by rw [decide_eq_false (by omega)]))))
   ·rw [hr]
    exact bP (bS ih)
 rw [aEP]
 refine aF (aD7 (λ_=>?_) (λh=>by omega))
 refine aI (Q:=λr=>r = [.bool false]) ?_ (λr hr=>by rw [hr];exact cD (aA rfl))
 rw [jL]
 refine aI (Q:=λr=>r = [.I (-1)]) ?_ (λr hr=>by rw [hr];exact jN (aA rfl))
 rw [kH]
 exact aF (loop 0 (by omega))
theorem aSq {x : eR} (hf : m.funcs.length≤1000) (hh : v.hp.length≤1000) (hx : oD m v.hp.length x) : Ok (λr=>r=aMM m v) (uN (.I x.k) (.I x.n) (.str x.s) (.bool true) (.lst (m.texts.map PV.str)) (.lst (m.funcs.map eJ.pv)) (.lst (v.fr.map dC.pv)) (.lst (v.hp.map bQ)) (.I v.made) (.lst (v.out.map PV.str)) (.I v.st) (.I v.tr) (.I v.val.k) (.I v.val.n) (.str v.val.s) (.I v.steps)):=by
 have hs:=dE hx
 rw [aEU]
 refine bF (aF (aF (aI (aHf (v:=x) (nf:=m.funcs.length) (recs:=v.hp.length) (by omega) (by omega) (by omega)) (λr hr=>?_))))
 rw [hr,hx]
 exact bJ rfl (aA rfl)
theorem aUm (g : fF m) (h : VmK m v) : Ok (λr=>r=aMM m v) (vG (.lst (v.fr.map dC.pv)) (.lst (v.hp.map bQ)) (.I v.made) (.lst (v.out.map PV.str)) (.I v.st) (.I v.tr) (.I v.val.k) (.I v.val.n) (.str v.val.s) (.I v.steps) (.bool true) (.lst (m.texts.map PV.str)) (.lst (m.funcs.map eJ.pv)) (.lst (v.fr.map dC.pv)) (.lst (v.hp.map bQ)) (.I v.made) (.lst (v.out.map PV.str)) (.I v.st) (.I v.tr) (.I v.val.k) (.I v.val.n) (.str v.val.s) (.I v.steps)):=by
 have hf:=g.fit.2.1
 have z:=h.toVmI.sz g
 have zf:=z.f
 have zh:=z.h
 have inv : ∀ f∈v.fr,(∀ y∈f.loc++f.stk,oD m v.hp.length y)∧(f.loc++f.stk).length≤2000:=λf hf=>by
  have:=z.fl f hf
  refine ⟨λy hy=>?_,by rw [List.length_append];omega⟩
  rcases List.eq_nil_or_concat v.fr with h0 | ⟨fs0,f0,h0⟩
  ·rw [h0] at hf;cases hf
  ·obtain ⟨t,l⟩:=h.top fs0 f0 (by rw [h0];simp)
   rw [h0] at hf
   simp only [List.concat_eq_append,List.mem_append,List.mem_singleton] at hf
   rcases hf with hf | rfl
   ·rcases List.mem_append.1 hy with hy | hy
    ·exact (l f hf).vl y hy
    ·exact (l f hf).vs y hy
   ·rcases List.mem_append.1 hy with hy | hy
    ·exact t.vl y hy
    ·exact t.vs y hy
 have last : Ok (λr=>r=aMM m v) (fM (.lst (v.hp.map bQ)) (.I v.hp.length) (.I v.hp.length) (.bool true) (.lst (m.texts.map PV.str)) (.lst (m.funcs.map eJ.pv)) (.lst (v.fr.map dC.pv)) (.lst (v.hp.map bQ)) (.I v.made) (.lst (v.out.map PV.str)) (.I v.st) (.I v.tr) (.I v.val.k) (.I v.val.n) (.str v.val.s) (.I v.steps) (.lst (v.fr.map dC.pv)) (.lst (v.hp.map bQ)) (.I v.made) (.lst (v.out.map PV.str)) (.I v.st) (.I v.tr) (.I v.val.k) (.I v.val.n) (.str v.val.s) (.I v.steps)):=by
  rw [mH]
  refine aO (λh=>by omega) (λ_=>aI (aSq (by omega) zh h.vok) (λr hr=>?_))
  rw [hr]
  exact aA rfl
 have heap : ∀ i,i≤v.hp.length→Ok (λr=>r=aMM m v) (fM (.lst (v.hp.map bQ)) (.I v.hp.length) (.I i) (.bool true) (.lst (m.texts.map PV.str)) (.lst (m.funcs.map eJ.pv)) (.lst (v.fr.map dC.pv)) (.lst (v.hp.map bQ)) (.I v.made) (.lst (v.out.map PV.str)) (.I v.st) (.I v.tr) (.I v.val.k) (.I v.val.n) (.str v.val.s) (.I v.steps) (.lst (v.fr.map dC.pv)) (.lst (v.hp.map bQ)) (.I v.made) (.lst (v.out.map PV.str)) (.I v.st) (.I v.tr) (.I v.val.k) (.I v.val.n) (.str v.val.s) (.I v.steps)):=by
  refine fQ (n:=v.hp.length) (F:=λi=>fM (.lst (v.hp.map bQ)) (.I v.hp.length) (.I i) (.bool true) (.lst (m.texts.map PV.str)) (.lst (m.funcs.map eJ.pv)) (.lst (v.fr.map dC.pv)) (.lst (v.hp.map bQ)) (.I v.made) (.lst (v.out.map PV.str)) (.I v.st) (.I v.tr) (.I v.val.k) (.I v.val.n) (.str v.val.s) (.I v.steps) (.lst (v.fr.map dC.pv)) (.lst (v.hp.map bQ)) (.I v.made) (.lst (v.out.map PV.str)) (.I v.st) (.I v.tr) (.I v.val.k) (.I v.val.n) (.str v.val.s) (.I v.steps)) (P:=λ_ r=>r=aMM m v) last (λi hi ih=>?_)
  obtain ⟨q1,q2⟩:=h.hp.recs _ (List.getElem_mem hi)
  rw [mH]
  refine aO (λ_=>?_) (λh=>by omega)
  refine aQ hi (λ_=>rfl) (aPJ (bX ?_))
  have inner : ∀ j,j≤v.hp[i].length→Ok (λr=>r=aMM m v) (iG (.lst (v.hp.map bQ)) (.I v.hp.length) (.I i) (bI v.hp[i]) (.I v.hp[i].length) (.I j) (.bool true) (.lst (m.texts.map PV.str)) (.lst (m.funcs.map eJ.pv)) (.lst (v.fr.map dC.pv)) (.lst (v.hp.map bQ)) (.I v.made) (.lst (v.out.map PV.str)) (.I v.st) (.I v.tr) (.I v.val.k) (.I v.val.n) (.str v.val.s) (.I v.steps) (.lst (v.fr.map dC.pv)) (.lst (v.hp.map bQ)) (.I v.made) (.lst (v.out.map PV.str)) (.I v.st) (.I v.tr) (.I v.val.k) (.I v.val.n) (.str v.val.s) (.I v.steps)):=by
   refine fQ (n:=v.hp[i].length) (F:=λj=>iG (.lst (v.hp.map bQ)) (.I v.hp.length) (.I i) (bI v.hp[i]) (.I v.hp[i].length) (.I j) (.bool true) (.lst (m.texts.map PV.str)) (.lst (m.funcs.map eJ.pv)) (.lst (v.fr.map dC.pv)) (.lst (v.hp.map bQ)) (.I v.made) (.lst (v.out.map PV.str)) (.I v.st) (.I v.tr) (.I v.val.k) (.I v.val.n) (.str v.val.s) (.I v.steps) (.lst (v.fr.map dC.pv)) (.lst (v.hp.map bQ)) (.I v.made) (.lst (v.out.map PV.str)) (.I v.st) (.I v.tr) (.I v.val.k) (.I v.val.n) (.str v.val.s) (.I v.steps)) (P:=λ_ r=>r=aMM m v) ?_ (λj hj ih'=>?_)
   ·rw [mJ]
    exact aO (λh=>by omega) (λ_=>bS ih)
   ·rw [mJ]
    refine aO (λ_=>?_) (λh=>by omega)
    refine aQ hj (λ_=>rfl) (cB (aI (aSq (by omega) zh (q2 _ (List.getElem_mem hj))) (λr hr=>?_)))
    rw [hr]
    exact bS ih'
  exact inner 0 (by omega)
 have frames : ∀ i,i≤v.fr.length→Ok (λr=>r=aMM m v) (iX (.lst (v.fr.map dC.pv)) (.I v.fr.length) (.I i) (.bool true) (.lst (m.texts.map PV.str)) (.lst (m.funcs.map eJ.pv)) (.lst (v.fr.map dC.pv)) (.lst (v.hp.map bQ)) (.I v.made) (.lst (v.out.map PV.str)) (.I v.st) (.I v.tr) (.I v.val.k) (.I v.val.n) (.str v.val.s) (.I v.steps) (.lst (v.fr.map dC.pv)) (.lst (v.hp.map bQ)) (.I v.made) (.lst (v.out.map PV.str)) (.I v.st) (.I v.tr) (.I v.val.k) (.I v.val.n) (.str v.val.s) (.I v.steps)):=by
  refine fQ (n:=v.fr.length) (F:=λi=>iX (.lst (v.fr.map dC.pv)) (.I v.fr.length) (.I i) (.bool true) (.lst (m.texts.map PV.str)) (.lst (m.funcs.map eJ.pv)) (.lst (v.fr.map dC.pv)) (.lst (v.hp.map bQ)) (.I v.made) (.lst (v.out.map PV.str)) (.I v.st) (.I v.tr) (.I v.val.k) (.I v.val.n) (.str v.val.s) (.I v.steps) (.lst (v.fr.map dC.pv)) (.lst (v.hp.map bQ)) (.I v.made) (.lst (v.out.map PV.str)) (.I v.st) (.I v.tr) (.I v.val.k) (.I v.val.n) (.str v.val.s) (.I v.steps)) (P:=λ_ r=>r=aMM m v) ?_ (λi hi ih=>?_)
  ·rw [nQ]
   exact aO (λh=>by omega) (λ_=>aF (heap 0 (by omega)))
  obtain ⟨q2,q1⟩:=inv _ (List.getElem_mem hi)
  have zz:=z.fl _ (List.getElem_mem hi)
  rw [nQ]
  refine aO (λ_=>?_) (λh=>by omega)
  refine aQ hi (λ_=>rfl) (jG ?_)
  refine iT (by simp) (λx hx=>by simp only [List.nil_append,List.mem_cons,List.not_mem_nil,or_false] at hx;rcases hx with rfl | rfl<;>rfl) ?_
  refine aPs (by omega) (by omega) (gD (iI _) (bX ?_))
  generalize hl : v.fr[i].loc++v.fr[i].stk=l at q1 q2
  have inner : ∀ j,j≤l.length→Ok (λr=>r=aMM m v) (iY (.lst (v.fr.map dC.pv)) (.I v.fr.length) (.I i) (.I l.length) (.I j) (.bool true) (.lst (m.texts.map PV.str)) (.lst (m.funcs.map eJ.pv)) (.lst (v.fr.map dC.pv)) (.lst (v.hp.map bQ)) (.I v.made) (.lst (v.out.map PV.str)) (.I v.st) (.I v.tr) (.I v.val.k) (.I v.val.n) (.str v.val.s) (.I v.steps) (.lst (v.fr.map dC.pv)) (.lst (v.hp.map bQ)) (.I v.made) (.lst (v.out.map PV.str)) (.I v.st) (.I v.tr) (.I v.val.k) (.I v.val.n) (.str v.val.s) (.I v.steps) (bI l)):=by
   refine fQ (n:=l.length) (F:=λj=>iY (.lst (v.fr.map dC.pv)) (.I v.fr.length) (.I i) (.I l.length) (.I j) (.bool true) (.lst (m.texts.map PV.str)) (.lst (m.funcs.map eJ.pv)) (.lst (v.fr.map dC.pv)) (.lst (v.hp.map bQ)) (.I v.made) (.lst (v.out.map PV.str)) (.I v.st) (.I v.tr) (.I v.val.k) (.I v.val.n) (.str v.val.s) (.I v.steps) (.lst (v.fr.map dC.pv)) (.lst (v.hp.map bQ)) (.I v.made) (.lst (v.out.map PV.str)) (.I v.st) (.I v.tr) (.I v.val.k) (.I v.val.n) (.str v.val.s) (.I v.steps) (bI l)) (P:=λ_ r=>r=aMM m v) ?_ (λj hj ih'=>?_)
   ·rw [nR]
    exact aO (λh=>by omega) (λ_=>bS ih)
   ·rw [nR]
    refine aO (λ_=>?_) (λh=>by omega)
    refine gV (by omega) (by omega) (aQ hj (λ_=>rfl) (cB (aI (aSq (by omega) zh (q2 _ (List.getElem_mem hj))) (λr hr=>?_))))
    rw [hr]
    exact bS ih'
  exact inner 0 (by omega)
 rw [aBr]
 exact aF (frames 0 (by omega))
end
variable {k : PV → OR} {f : Int} {v : mL}
section
variable {P : R → Prop} {m : fO}
theorem aBV (hf : 0≤f∧f<m.funcs.length) (h : Ok P (k (fW (oA m.funcs (dR m.funcs f))))) : Ok P (bd (aB 1 false (aNy m) (.I f)) k):=by
 obtain ⟨i,rfl⟩:=Int.eq_ofNat_of_zero_le hf.1
 have hi : i<m.funcs.length:=by omega
 have : dR m.funcs i=m.funcs[i].code:=by simp [dR,List.getElem?_eq_getElem hi]
 rw [this] at h
 exact aQ hi (λ_=>rfl) h
theorem kL (g : fF m) {pc : Int} (hf : 0≤f∧f<m.funcs.length) (hp : 0≤pc∧pc<(dR m.funcs f).length) (h : Ok P (k (.I (dAt m f pc)))) :
 Ok P (bd (aB 1 false (fW (oA m.funcs (dR m.funcs f))) (.I pc)) k):=by
 obtain ⟨i,hi,he,hc,F,_⟩:=g.code hf
 have hl : (oA m.funcs (dR m.funcs f)).length=(dR m.funcs f).length:=by rw [hc];exact (aDb F).1
 refine yE hp.1 (by omega) (λx hx=>?_)
 have : dAt m f pc=x:=by unfold dAt;rw [hx];rfl
 rw [← this];exact h
theorem aVP (g : fF m) {n : Int} {f : dC} {top : Bool} (h : FrI m n f) (h1 : top=true→aHd m n f) (h2 : top=false→aKJ m n f) :
 Ok (λr=>r = [.bool true]) (zK m.pv (aNy m) (.I f.f) (.I f.pc) (.I f.loc.length) (.I f.stk.length) (.bool top)):=by
 obtain ⟨hf,hpc,hloc,hd,_,_⟩:=h
 obtain ⟨f1,f2,ff⟩:=g.fit
 obtain ⟨i,hi,he,hc,F,_⟩:=g.code hf
 have nc:=F.n2
 rw [← hc] at nc
 rw [aDB]
 refine dY (aF (hU (by omega) ?_))
 rw [bT.2 (show 0≤f.f∧f.f≤(m.funcs.length : Int) - 1 by omega)]
 refine vR (aHg hf.1 hf.2 (λfn hfn=>aL rfl (dD (λh=>?_) (λ_=>?_))))
 ·exact absurd (by rw [hloc];unfold aCp;rw [hfn];rfl) h
 refine aHg hf.1 hf.2 (λfn' hfn'=>aL rfl (aF ?_))
 have hcf : dR m.funcs f.f=fn'.code:=by unfold dR;rw [hfn'];rfl
 rw [← hcf]
 refine hU (by omega) ?_
 rw [bT.2 (show 0≤f.pc∧f.pc≤((dR m.funcs f.f).length : Int) - 1 by omega)]
 refine vR (aBV hf (kL g hf hpc (aO (λh=>by omega) (λ_=>?_))))
 cases top with
 | true=>
   have t:=(h1 rfl).h
   refine bF (aBV hf (kL g hf hpc (cL (aA ?_))))
   rw [decide_eq_true t]
 | false=>
   have l:=(h2 rfl).h
   obtain ⟨l1,l2,l3⟩:=(h2 rfl).low
   refine bP (aJ (λh=>by omega) (λ_=>aBV hf (dS (kL g hf (by omega) (aO (λh=>by omega) (λ_=>?_))))))
   refine aHg hf.1 hf.2 (λfn2 hfn2=>aL rfl (dS ?_))
   have hcf2 : dR m.funcs f.f=fn2.code:=by unfold dR;rw [hfn2];rfl
   have hin : (fn2.code.map eC.pv)[(f.pc - 1).toNat]? = some (dU m f.f (f.pc - 1)).pv:=by
    rw [List.getElem?_map,← hcf2]
    unfold dU
    rw [List.getElem?_eq_getElem (by omega)];rfl
   refine aGq (by omega) hin rfl (aL rfl (aJ (λ_=>?_) (λh=>aJ (λ_=>?_) (λh=>by omega))))
   ·refine aBV hf (kL g hf hpc (iS (by have:=(h2 rfl).toFrI.dle g;omega) (cL (aA ?_))))
    rw [decide_eq_true l]
   ·refine aBV hf (kL g hf hpc (iS (by have:=(h2 rfl).toFrI.dle g;omega) (cL (aA ?_))))
    rw [decide_eq_true l]
theorem aUn : kV eQ.s eQ.s=true:=aMq _
theorem aRd (g : fF m) (h : VmK m v) : ∀ i,i≤v.fr.length→Ok (λr=>r = [.bool true]) (nK (aNy m) (.lst (v.fr.map dC.pv)) (.I v.fr.length) (.I i) (.lst (m.texts.map PV.str)) (.lst (m.funcs.map eJ.pv)) (.lst (v.fr.map dC.pv)) (.lst (v.hp.map bQ)) (.I v.made) (.lst (v.out.map PV.str)) (.I v.st) (.I v.tr) (.I v.val.k) (.I v.val.n) (.str v.val.s) (.I v.steps) (.bool true)):=by
 have z:=h.toVmI.sz g
 have zf:=z.f
 refine fQ (n:=v.fr.length) (F:=λi=>nK (aNy m) (.lst (v.fr.map dC.pv)) (.I v.fr.length) (.I i) (.lst (m.texts.map PV.str)) (.lst (m.funcs.map eJ.pv)) (.lst (v.fr.map dC.pv)) (.lst (v.hp.map bQ)) (.I v.made) (.lst (v.out.map PV.str)) (.I v.st) (.I v.tr) (.I v.val.k) (.I v.val.n) (.str v.val.s) (.I v.steps) (.bool true)) (P:=λ_ r=>r = [.bool true]) ?_ (λi hi ih=>?_)
 ·rw [tK]
  have hn:=h.nfr
  refine aO (λh=>by omega) (λ_=>aF (gB (aAN (λh1=>?_) (λh1=>?_))))
  ·have hne : v.fr≠[]:=λe=>by rw [e] at h1;simp at h1
   have key : ∀ {k : PV→OR},v.val=eQ→Ok (λr=>r = [.bool true]) (k (.bool true))→Ok (λr=>r = [.bool true]) (bd (cQ [1,1,2] .eql (.agg [.I v.val.k,.I v.val.n,.str v.val.s]) (.agg [(.I 0),(.I 0),(.str (bs []))])) k):=λe hk=>by
    refine aK3 (a:=v.val) (b:=eQ) ?_
    rw [e,decide_eq_true rfl,decide_eq_true rfl,aUn]
    exact hk
   rcases h.end_ with e | e | e
   ·refine key e.2.2 (cL ?_)
    rw [decide_eq_true e.1]
    refine bF (bF (bF (cL (aA ?_))))
    rw [decide_eq_true e.2.1]
   ·refine key e.2.2.2.1 (cL ?_)
    rw [decide_eq_false (by omega)]
    refine bP (cL ?_)
    rw [decide_eq_true e.1]
    refine bF (bF (bF (gB (aA ?_))))
    rw [bT.2 (by omega)];rfl
   ·exact absurd e.2.2 hne
  ·have he : v.fr = []:=by
    cases hq : v.fr with
    | nil=>rfl
    | cons a l=>exfalso;rw [hq] at h1 hn;simp at h1 hn;omega
   rcases h.end_ with e | e | e
   ·exact absurd he (h.run e.1)
   ·exact absurd he e.2.2.2.2
   ·refine cL ?_
    rw [decide_eq_false (by omega)]
    refine bP (cL ?_)
    rw [decide_eq_false (by omega)]
    refine bP (cL ?_)
    rw [decide_eq_true e.1]
    refine bF (bF (aF (cL ?_)))
    rw [he,decide_eq_true (show ((([] : List dC).length : Nat) : Int)=0 from rfl)]
    refine bF (cL (aA ?_))
    rw [decide_eq_true e.2.1]
 ·rw [tK]
  refine aO (λ_=>?_) (λh=>by omega)
  refine aQ hi (λ_=>rfl) (jG (bF (bX (bX (aF (dS (cL ?_)))))))
  rcases List.eq_nil_or_concat v.fr with e | ⟨fs0,f,e⟩
  ·rw [e] at hi;simp at hi
  rw [List.concat_eq_append] at e
  obtain ⟨t,l⟩:=h.top fs0 f e
  have hlen : v.fr.length=fs0.length+1:=by rw [e];simp
  have fr : (i : Int)=(v.fr.length : Int) - 1→v.fr[i]=f:=λh=>by
   have : i=fs0.length:=by omega
   subst this
   simp [e]
  have lo : ¬ (i : Int)=(v.fr.length : Int) - 1→v.fr[i]∈fs0:=λh=>by
   have hi' : i<fs0.length:=by omega
   have : v.fr[i]=fs0[i]:=by simp only [e];exact List.getElem_append_left hi'
   rw [this];exact List.getElem_mem hi'
  refine aI (aVP g (n:=v.hp.length) (f:=v.fr[i]) ?_ (λht=>?_) (λht=>?_)) (λr hr=>?_)
  ·by_cases hc : (i : Int)=(v.fr.length : Int) - 1
   ·rw [fr hc];exact t.toFrI
   ·exact (l _ (lo hc)).toFrI
  ·rw [fr (of_decide_eq_true ht)];exact t
  ·exact l _ (lo (of_decide_eq_false ht))
  ·rw [hr]
   exact bJ rfl (bS ih)
theorem aPw (g : fF m) (h : VmK m v) : Ok (λr=>r = [.bool true]) (aCe m.pv v.pv):=by
 have z:=h.toVmI.sz g
 have hm:=h.hp.made
 have ho:=h.hp.out
 have hst:=h.steps
 rw [aH1]
 refine dY (tS (aIt g.sz ?_))
 rw [g.b]
 refine bF (aI (aMN g) (λr hr=>?_))
 rw [hr]
 refine aI (Q:=λr=>r = [.bool true]) ?_ (λr hr=>by rw [hr];exact aA rfl)
 rw [aH2]
 refine dY (tS ?_)
 refine aI (aRc (by omega) (λr hr=>(h.hp.recs r hr).1)) (λr hr=>?_)
 rw [hr]
 refine vR (aF (gB ?_))
 rw [bT.2 hm]
 refine vR (aF (iU (λh=>by omega) (λ_=>gB ?_)))
 rw [bT.2 hst]
 refine vR (aJq (by omega) (λs=>!fA s) (λx hx=>?_) ?_)
 ·show Ok _ (aEE _)
  rw [aEQ]
  have ht:=h.outs x hx
  refine aI (aFy (s:=x) (by simp only [fA,Bool.and_eq_true,decide_eq_true_eq] at ht;omega)) (λr hr=>?_)
  rw [hr]
  exact cD (aA rfl)
 ·have : v.out.any (λs=>!fA s)=false:=by
   rw [List.any_eq_false]
   intro s hs
   rw [h.outs s hs];simp
  rw [this]
  refine bP (aI (aUm g h) (λr hr=>?_))
  rw [hr]
  exact aF (aRd g h 0 (by omega))
end
variable {n : Nat} {v : mL}
section
variable {P : R → Prop} {m : fO}
theorem aFh (g : fF m) {l : List eR} (hl : l.length≤1000) (h : ∀ y∈l,oD m n y) : Ok (λr=>r = [.bool true]) (oZ m.pv (bI l) (.I n)):=by
 have hf:=g.fit.2.1
 rw [aBp]
 refine dY ?_
 refine fQ (n:=l.length) (F:=λi=>nL (bI l) (.I n) (.I i) (.lst (m.texts.map PV.str)) (.lst (m.funcs.map eJ.pv))) (P:=λ_ r=>r = [.bool true]) ?_ (λi hi ih=>?_) 0 (by omega)
 ·rw [nP]
  exact bX (aO (λh=>by omega) (λ_=>aA rfl))
 ·rw [nP]
  have hv:=h _ (List.getElem_mem hi)
  have hs:=dE hv
  refine bX (aO (λ_=>?_) (λh=>by omega))
  refine aQ hi (λ_=>rfl) (aI (aAO (T:=(.lst (m.texts.map PV.str))) (fs:=m.funcs) (v:=l[i]) (recs:=n) (by omega) (by omega)) (λr hr=>?_))
  rw [hr,hv]
  exact vR (bS ih)
theorem aUo (g : fF m) {f : dC} {top : Bool} (h : FrI m n f) (hs : f.loc.length≤1000∧f.stk.length≤1000) (h1 : top=true→aHd m n f) (h2 : top=false→aKJ m n f) :
 Ok (λr=>r = [.bool true]) (tI m.pv f.pv (.I n) (.bool top)):=by
 obtain ⟨hf,hpc,hloc,hd,hvl,hvs⟩:=h
 obtain ⟨f1,f2,ff⟩:=g.fit
 obtain ⟨i,hi,he,hc,F,_⟩:=g.code hf
 have nc:=F.n2
 rw [← hc] at nc
 have hdep : Ok (λr=>r = [fW (oA m.funcs (dR m.funcs f.f))]) (oY m.pv (.I f.f)):=by
  rw [hc,he]
  exact aEZ F hi rfl
 rw [aAK]
 refine dY (jG (aF (dS (fP ?_))))
 rw [bT.2 (show 0≤f.f∧f.f≤(m.funcs.length : Int) - 1 by omega)]
 refine vR (xC hf (cB (aI hdep (λr hr=>?_))))
 rw [hr]
 refine bX (dD (λh=>absurd hloc h) (λ_=>aF (dS (fP ?_))))
 rw [bT.2 (show 0≤f.pc∧f.pc≤((dR m.funcs f.f).length : Int) - 1 by omega)]
 refine vR (kL g hf hpc (aO (λh=>by omega) (λ_=>aI (aFh g hs.1 hvl) (λr hr=>?_))))
 rw [hr]
 refine vR (aI (aFh g hs.2 hvs) (λr hr=>?_))
 rw [hr]
 refine vR ?_
 cases top with
 | true=>
   have t:=(h1 rfl).h
   refine bF (bX (kL g hf hpc (cL (aA ?_))))
   rw [decide_eq_true t]
 | false=>
   have l:=(h2 rfl).h
   have dl:=(h2 rfl).toFrI.dle g
   obtain ⟨l1,l2,l3⟩:=(h2 rfl).low
   refine bP (aO (λh=>by omega) (λ_=>dS (kL g hf (by omega) (aO (λh=>by omega) (λ_=>dS ?_)))))
   have hin : ((dR m.funcs f.f).map eC.pv)[(f.pc - 1).toNat]? = some (dU m f.f (f.pc - 1)).pv:=by
    rw [List.getElem?_map]
    unfold dU
    rw [List.getElem?_eq_getElem (by omega)];rfl
   refine aGq (by omega) hin rfl (aL rfl (aJ (λ_=>?_) (λh=>aJ (λ_=>?_) (λh=>by omega))))
   ·refine bX (kL g hf hpc (dS (cL (aA ?_))))
    rw [decide_eq_true l]
   ·refine bX (kL g hf hpc (dS (cL (aA ?_))))
    rw [decide_eq_true l]
theorem aOn {v : eR} {k : PV→OR} (e : v=eQ) (h : Ok P (k (.bool false))) : Ok P (bd (cQ [1,1,2] .neq (.agg [.I v.k,.I v.n,.str v.s]) (.agg [(.I 0),(.I 0),(.str (bs []))])) k):=by
 subst e
 exact eZ _ (by simp [cQ,eU,iB,vZ,eQ]) h
theorem aSr (g : fF m) (h : VmK m v) : Ok (λr=>r = [.bool true]) (cZ (.I v.hp.length) (.I 0) (.lst (m.texts.map PV.str)) (.lst (m.funcs.map eJ.pv)) (.lst (v.fr.map dC.pv)) (.lst (v.hp.map bQ)) (.I v.made) (.lst (v.out.map PV.str)) (.I v.st) (.I v.tr) (.I v.val.k) (.I v.val.n) (.str v.val.s) (.I v.steps)):=by
 have z:=h.toVmI.sz g
 have zf:=z.f
 refine fQ (n:=v.fr.length) (F:=λi=>cZ (.I v.hp.length) (.I i) (.lst (m.texts.map PV.str)) (.lst (m.funcs.map eJ.pv)) (.lst (v.fr.map dC.pv)) (.lst (v.hp.map bQ)) (.I v.made) (.lst (v.out.map PV.str)) (.I v.st) (.I v.tr) (.I v.val.k) (.I v.val.n) (.str v.val.s) (.I v.steps)) (P:=λ_ r=>r = [.bool true]) ?_ (λi hi ih=>?_) 0 (by omega)
 ·rw [oM]
  exact aF (aO (λh=>by omega) (λ_=>aA rfl))
 ·rw [oM]
  refine aF (aO (λ_=>?_) (λh=>by omega))
  refine aQ hi (λ_=>rfl) (aF (dS (cL ?_)))
  rcases List.eq_nil_or_concat v.fr with e | ⟨fs0,f,e⟩
  ·rw [e] at hi;simp at hi
  rw [List.concat_eq_append] at e
  obtain ⟨t,l⟩:=h.top fs0 f e
  have hlen : v.fr.length=fs0.length+1:=by rw [e];simp
  have fr : (i : Int)=(v.fr.length : Int) - 1→v.fr[i]=f:=λh=>by
   have : i=fs0.length:=by omega
   subst this
   simp [e]
  have lo : ¬ (i : Int)=(v.fr.length : Int) - 1→v.fr[i]∈fs0:=λh=>by
   have hi' : i<fs0.length:=by omega
   have : v.fr[i]=fs0[i]:=by simp only [e];exact List.getElem_append_left hi'
   rw [this];exact List.getElem_mem hi'
  refine aI (aUo g (n:=v.hp.length) (f:=v.fr[i]) ?_ (z.fl _ (List.getElem_mem hi)) (λht=>?_) (λht=>?_)) (λr hr=>?_)
  ·by_cases hc : (i : Int)=(v.fr.length : Int) - 1
   ·rw [fr hc];exact t.toFrI
   ·exact (l _ (lo hc)).toFrI
  ·rw [fr (of_decide_eq_true ht)];exact t
  ·exact l _ (lo (of_decide_eq_false ht))
  ·rw [hr]
   exact vR (bS ih)
theorem aPx (g : fF m) (h : VmK m v) : Ok (λr=>r = [.bool true]) (aCf m.pv v.pv):=by
 have z:=h.toVmI.sz g
 have zf:=z.f
 have hm:=h.hp.made
 have ho:=h.hp.out
 have hst:=h.steps
 have hfn:=g.fit.2.1
 have hnf:=h.nfr
 have hvs:=dE h.vok
 have frames:=aSr g h
 rw [aH3]
 refine dY ?_
 refine tS (?_)
 refine aK1 g.sz ?_
 rw [g.b]
 refine bF (aI (Q:=λr=>r = [.bool true]) ?_ (λr hr=>by rw [hr];exact aA rfl))
 rw [aDC]
 refine dY ?_
 refine tS (?_)
 refine aF (iU (λh=>by omega) (λ_=>fP ?_))
 rw [bT.2 hm]
 refine vR (aF (iU (λh=>by omega) (λ_=>fP ?_)))
 rw [bT.2 hst]
 refine vR (aI (aAO (T:=(.lst (m.texts.map PV.str))) (fs:=m.funcs) (v:=v.val) (recs:=v.hp.length) (by omega) (by omega)) (λr hr=>?_))
 rw [hr,h.vok]
 refine vR ?_
 have tail : Ok (λr=>r = [.bool true]) (iJ (.I v.hp.length) (.I 0) (.lst (m.texts.map PV.str)) (.lst (m.funcs.map eJ.pv)) (.lst (v.fr.map dC.pv)) (.lst (v.hp.map bQ)) (.I v.made) (.lst (v.out.map PV.str)) (.I v.st) (.I v.tr) (.I v.val.k) (.I v.val.n) (.str v.val.s) (.I v.steps)):=by
  refine fQ (n:=v.out.length) (F:=λi=>iJ (.I v.hp.length) (.I i) (.lst (m.texts.map PV.str)) (.lst (m.funcs.map eJ.pv)) (.lst (v.fr.map dC.pv)) (.lst (v.hp.map bQ)) (.I v.made) (.lst (v.out.map PV.str)) (.I v.st) (.I v.tr) (.I v.val.k) (.I v.val.n) (.str v.val.s) (.I v.steps)) (P:=λ_ r=>r = [.bool true]) ?_ (λi hi ih=>?_) 0 (by omega)
  ·rw [oL]
   refine aF (aO (λh=>by omega) (λ_=>?_))
   have some_ : v.fr≠[]→1≤(v.fr.length : Int)∧(v.fr.length : Int)≤24:=λhne=>by
    have : v.fr.length≠0:=λe=>hne (List.length_eq_zero_iff.1 e)
    omega
   rcases h.end_ with e | e | e
   ·refine aJ (λh=>by omega) (λ_=>dD (λh=>absurd e.1 h) (λ_=>aOn e.2.2 (bP (aF (fP ?_)))))
    rw [bT.2 (some_ (h.run e.1))]
    refine vR (aJ (λ_=>dD (λh=>absurd e.2.1 h) (λ_=>aJ (λh=>by omega) (λ_=>frames))) (λh=>absurd e.1 h))
   ·refine aJ (λh=>by omega) (λ_=>dD (λ_=>dD (λh=>absurd e.1 h) (λ_=>aOn e.2.2.2.1 (bP (aF (fP ?_))))) (λh=>by omega))
    rw [bT.2 (some_ e.2.2.2.2)]
    refine vR (aJ (λh=>by omega) (λ_=>aJ (λ_=>fP ?_) (λh=>absurd e.1 h)))
    rw [bT.2 (show 1≤v.tr∧v.tr≤8 by omega)]
    exact vR frames
   ·have hz : (v.fr.length : Int)=0:=by rw [e.2.2];rfl
    refine aJ (λ_=>aF (aJ (λ_=>cL (aA ?_)) (λh=>absurd hz h))) (λh=>absurd e.1 h)
    rw [decide_eq_true e.2.1]
  ·rw [oL]
   have ht:=h.outs _ (List.getElem_mem hi)
   refine aF (aO (λ_=>?_) (λh=>by omega))
   refine aQ hi (λ_=>rfl) (aKV (s:=v.out[i]) (by have:=ht;simp only [fA,Bool.and_eq_true,decide_eq_true_eq] at this;omega) ?_)
   rw [ht]
   exact vR (bS ih)
 refine fQ (n:=v.hp.length) (F:=λi=>mY (.I v.hp.length) (.I i) (.lst (m.texts.map PV.str)) (.lst (m.funcs.map eJ.pv)) (.lst (v.fr.map dC.pv)) (.lst (v.hp.map bQ)) (.I v.made) (.lst (v.out.map PV.str)) (.I v.st) (.I v.tr) (.I v.val.k) (.I v.val.n) (.str v.val.s) (.I v.steps)) (P:=λ_ r=>r = [.bool true]) ?_ (λi hi ih=>?_) 0 (by omega)
 ·rw [pP]
  exact aO (λh=>by omega) (λ_=>tail)
 ·rw [pP]
  obtain ⟨q1,q2⟩:=h.hp.recs _ (List.getElem_mem hi)
  refine aO (λ_=>?_) (λh=>by omega)
  refine aQ hi (λ_=>rfl) (aL rfl (bX (iU (λh=>by omega) (λ_=>?_))))
  refine aQ hi (λ_=>rfl) (aL rfl (aI (aFh g (l:=v.hp[i]) (n:=v.hp.length) (by omega) q2) (λr hr=>?_)))
  rw [hr]
  exact vR (bS ih)
end
variable {v : mL} {B : Prop} {n : Nat}
theorem aVQ {a b : ByteArray} (h : kV a b=true) : a=b:=by
 unfold kV at h
 rw [ByteArray.toList_eq,ByteArray.toList_eq,beq_iff_eq] at h
 cases a;cases b
 simpa using h
theorem aYg {v : eR} (h : (decide (v.k=eQ.k)&&(decide (v.n=eQ.n)&&kV v.s eQ.s))=true) : v=eQ:=by
 simp only [Bool.and_eq_true,decide_eq_true_eq] at h
 cases v
 obtain ⟨h1,h2,h3⟩:=h
 cases h1;cases h2;cases aVQ h3
 rfl
section
variable {P : R → Prop} {m : fO}
theorem aRe {a b : eR} {k : PV→OR} (h : Ok P (k (.bool (!(decide (a.k=b.k)&&(decide (a.n=b.n)&&kV a.s b.s)))))) : Ok P (bd (cQ [1,1,2] .neq (.agg [.I a.k,.I a.n,.str a.s]) (.agg [.I b.k,.I b.n,.str b.s])) k):=
 eZ _ (by simp [cQ,eU,iB,vZ,kV];rfl) h
def yG (B : Prop) (r : R) : Prop:=∃ b,r = [.bool b]∧(b=true→B)
theorem no : Ok (yG B) (some [.bool false]):=aA ⟨false,rfl,λh=>by cases h⟩
theorem yes {b : Bool} (h : b=true→B) : Ok (yG B) (some [.bool b]):=aA ⟨b,rfl,h⟩
theorem aDh {o : OR} {A : Prop} {x : OR} (ho : Ok (yG A) o) (hx : A→Ok (yG B) x) : Ok (yG B) (bd o λr=>bd (dB (hd r)) λv=>aV v (some [.bool false]) x):=
 aI ho (λr hr=>by
  obtain ⟨b,rfl,hb⟩:=hr
  refine cD ?_
  cases b with
  | false=>exact bF no
  | true=>exact bP (hx (hb rfl)))
theorem aMO {l : List eR} (hf : m.funcs.length≤1000) (hl : l.length≤2097152) (hs : ∀ y∈l,y.s.size≤2097152) : Ok (yG (∀ y∈l,oD m n y)) (oZ m.pv (bI l) (.I n)):=by
 rw [aBp]
 refine dY ?_
 have key:=fQ (n:=l.length) (F:=λi=>nL (bI l) (.I n) (.I i) (.lst (m.texts.map PV.str)) (.lst (m.funcs.map eJ.pv))) (P:=λi=>yG (∀ y∈l.drop i,oD m n y)) ?_ (λi hi ih=>?_) 0 (by omega)
 ·exact key
 ·rw [nP]
  exact bX (aO (λh=>by omega) (λ_=>yes λ_ y hy=>by rw [List.drop_length] at hy;cases hy))
 ·rw [nP]
  refine bX (aO (λ_=>?_) (λh=>by omega))
  refine aQ hi (λ_=>rfl) (aDh (A:=oD m n l[i]) ?_ (λha=>bS (ih.mono ?_)))
  ·exact (aAO (T:=(.lst (m.texts.map PV.str))) (fs:=m.funcs) (v:=l[i]) (recs:=n) (by omega) (hs _ (List.getElem_mem hi))).mono (λr hr=>⟨_,hr,λh=>h⟩)
  ·rintro r ⟨b,rfl,hb⟩
   refine ⟨b,rfl,λh y hy=>?_⟩
   rw [List.drop_eq_getElem_cons hi] at hy
   rcases List.mem_cons.1 hy with rfl | hy
   ·exact ha
   ·exact hb h y hy
theorem aVR (g : fF m) {f : dC} {top : Bool} (hs : f.loc.length≤2097152∧f.stk.length≤2097152) (hz : ∀ y∈f.loc++f.stk,y.s.size≤2097152) :
 Ok (yG ((top=true→aHd m n f)∧(top=false→aKJ m n f))) (tI m.pv f.pv (.I n) (.bool top)):=by
 obtain ⟨f1,f2,ff⟩:=g.fit
 rw [aAK]
 refine dY (jG (aF (dS (fP (cD (aZ (λ_=>no) (λhb=>?_)))))))
 have hf : 0≤f.f∧f.f<m.funcs.length:=by
  have : mA f.f 0 ((m.funcs.length : Int) - 1)=true:=by simpa using hb
  rw [bT] at this
  omega
 obtain ⟨i,hi,he,hc,F,_⟩:=g.code hf
 have nc:=F.n2
 rw [← hc] at nc
 have hdep : Ok (λr=>r = [fW (oA m.funcs (dR m.funcs f.f))]) (oY m.pv (.I f.f)):=by
  rw [hc,he]
  exact aEZ F hi rfl
 refine xC hf (cB (aI hdep (λr hr=>?_)))
 rw [hr]
 refine bX (dD (λ_=>no) (λhloc=>aF (dS (fP (cD (aZ (λ_=>no) (λhb=>?_)))))))
 have hpc : 0≤f.pc∧f.pc<(dR m.funcs f.f).length:=by
  have : mA f.pc 0 (((dR m.funcs f.f).length : Int) - 1)=true:=by simpa using hb
  rw [bT] at this
  omega
 refine kL g hf hpc (aO (λ_=>no) (λhd=>?_))
 refine aDh (aMO (by omega) hs.1 (λy hy=>hz y (List.mem_append_left _ hy))) (λhvl=>aDh (aMO (by omega) hs.2 (λy hy=>hz y (List.mem_append_right _ hy))) (λhvs=>?_))
 have I : FrI m n f:=⟨hf,hpc,hloc,by omega,hvl,hvs⟩
 have dl:=I.dle g
 cases top with
 | true=>exact bF (bX (kL g hf hpc (cL (yes λh=>⟨λ_=>⟨I,of_decide_eq_true h⟩,λh=>by cases h⟩))))
 | false=>
   refine bP (aO (λ_=>no) (λh1=>dS (kL g hf (by omega) (aO (λ_=>no) (λh2=>dS ?_)))))
   have hin : ((dR m.funcs f.f).map eC.pv)[(f.pc - 1).toNat]? = some (dU m f.f (f.pc - 1)).pv:=by
    rw [List.getElem?_map]
    unfold dU
    rw [List.getElem?_eq_getElem (by omega)];rfl
   refine aGq (by omega) hin rfl (aL rfl (aJ (λh3=>?_) (λ_=>aJ (λh3=>?_) (λ_=>no))))
   ·exact bX (kL g hf hpc (dS (cL (yes λh=>⟨λh=>(by cases h),λ_=>⟨I,⟨by omega,by omega,.inl h3⟩,of_decide_eq_true h⟩⟩))))
   ·exact bX (kL g hf hpc (dS (cL (yes λh=>⟨λh=>(by cases h),λ_=>⟨I,⟨by omega,by omega,.inr h3⟩,of_decide_eq_true h⟩⟩))))
def aCt (m : fO) (n : Nat) (l : List dC) (i : Nat) : Prop:=∀ j (hj : j<l.length),i≤j→((j : Int)=(l.length : Int) - 1→aHd m n l[j])∧(¬ (j : Int)=(l.length : Int) - 1→aKJ m n l[j])
theorem aCt.top {l : List dC} (h : aCt m n l 0) (fs0 : List dC) (f : dC) (e : l=fs0++[f]) : aHd m n f∧∀ g∈fs0,aKJ m n g:=by
 subst e
 constructor
 ·have:=(h fs0.length (by simp) (by omega)).1 (by simp)
  simpa using this
 ·intro g hg
  obtain ⟨j,hj,rfl⟩:=List.getElem_of_mem hg
  have:=(h j (by simp;omega) (by omega)).2 (by simp;omega)
  rw [List.getElem_append_left hj] at this
  exact this
structure mL.fine (v : mL) : Prop extends v.few where
 val : v.val.s.size≤2097152
 outs : ∀ s∈v.out,s.size≤2097152
 frs : ∀ f∈v.fr,∀ y∈f.loc++f.stk,y.s.size≤2097152
 hps : ∀ r∈v.hp,∀ y∈r,y.s.size≤2097152
theorem aVS (g : fF m) (h : v.fine) : Ok (yG (aCt m v.hp.length v.fr 0)) (cZ (.I v.hp.length) (.I 0) (.lst (m.texts.map PV.str)) (.lst (m.funcs.map eJ.pv)) (.lst (v.fr.map dC.pv)) (.lst (v.hp.map bQ)) (.I v.made) (.lst (v.out.map PV.str)) (.I v.st) (.I v.tr) (.I v.val.k) (.I v.val.n) (.str v.val.s) (.I v.steps)):=by
 have zf:=h.f
 refine fQ (n:=v.fr.length) (F:=λi=>cZ (.I v.hp.length) (.I i) (.lst (m.texts.map PV.str)) (.lst (m.funcs.map eJ.pv)) (.lst (v.fr.map dC.pv)) (.lst (v.hp.map bQ)) (.I v.made) (.lst (v.out.map PV.str)) (.I v.st) (.I v.tr) (.I v.val.k) (.I v.val.n) (.str v.val.s) (.I v.steps)) (P:=λi=>yG (aCt m v.hp.length v.fr i)) ?_ (λi hi ih=>?_) 0 (by omega)
 ·rw [oM]
  exact aF (aO (λh=>by omega) (λ_=>yes λ_ j hj hij=>by omega))
 ·rw [oM]
  refine aF (aO (λ_=>?_) (λh=>by omega))
  refine aQ hi (λ_=>rfl) (aF (dS (cL ?_)))
  refine aDh (aVR g (n:=v.hp.length) (f:=v.fr[i]) (h.fl _ (List.getElem_mem hi)) (h.frs _ (List.getElem_mem hi))) (λhA=>bS (ih.mono ?_))
  rintro r ⟨b,rfl,hb⟩
  refine ⟨b,rfl,λht j hj hij=>?_⟩
  by_cases e : i=j
  ·subst e
   exact ⟨λe=>hA.1 (decide_eq_true e),λe=>hA.2 (decide_eq_false e)⟩
  ·exact hb ht j hj (by omega)
def aIA (v : mL) : Prop:=(v.st=0∧v.tr=0∧v.val=eQ∧1≤v.fr.length∧v.fr.length≤24)∨(v.st=2∧1≤v.tr∧v.tr≤8∧v.val=eQ∧1≤v.fr.length∧v.fr.length≤24)∨(v.st=1∧v.tr=0∧v.fr = [])
theorem aVT (h1 : v.hp.length≤v.made∧v.made≤120) (h2 : v.out.length≤200) (h3 : 0≤v.steps∧v.steps≤50000) (h4 : oD m v.hp.length v.val) (h5 : ∀ r∈v.hp,r.length≤6∧∀ y∈r,oD m v.hp.length y)
 (h6 : ∀ s∈v.out,fA s=true) (h7 : aIA v) (h8 : aCt m v.hp.length v.fr 0) : VmK m v:=by
 refine ⟨⟨⟨h1,h5,h2⟩,h3,?_,?_,h8.top⟩,h6,h4,?_⟩
 ·rcases h7 with h | h | h
  ·omega
  ·omega
  ·rw [h.2.2];simp
 ·intro h0
  rcases h7 with h | h | h
  ·intro e;rw [e] at h;simp at h
  ·omega
  ·omega
 ·rcases h7 with h | h | h
  ·exact .inl ⟨h.1,h.2.1,h.2.2.1⟩
  ·refine .inr (.inl ⟨h.1,h.2.1,h.2.2.1,h.2.2.2.1,λe=>?_⟩)
   rw [e] at h;simp at h
  ·exact .inr (.inr h)
end
variable {v : mL}
section
variable {P : R → Prop} {m : fO}
def aNz (m : fO) (v : mL) : Prop:=fF m∧VmK m v
theorem aMP {o : OR} {A B : Prop} {x : R→OR} (ho : Ok (yG A) o) (hx : ∀ b,(b=true→A)→Ok (yG B) (x [.bool b])) : Ok (yG B) (bd o x):=
 aI ho (λr hr=>by obtain ⟨b,rfl,hb⟩:=hr;exact hx b hb)
theorem aXJ (g : fF m) (h : v.fine) (hk : (∀ s∈v.out,fA s=true)→aIA v→aCt m v.hp.length v.fr 0→VmK m v) : Ok (yG (VmK m v)) (iJ (.I v.hp.length) (.I 0) (.lst (m.texts.map PV.str)) (.lst (m.funcs.map eJ.pv)) (.lst (v.fr.map dC.pv)) (.lst (v.hp.map bQ)) (.I v.made) (.lst (v.out.map PV.str)) (.I v.st) (.I v.tr) (.I v.val.k) (.I v.val.n) (.str v.val.s) (.I v.steps)):=by
 have zo:=h.o
 have zf:=h.f
 have key : Ok (yG ((∀ s∈v.out.drop 0,fA s=true)∧aIA v∧aCt m v.hp.length v.fr 0)) (iJ (.I v.hp.length) (.I 0) (.lst (m.texts.map PV.str)) (.lst (m.funcs.map eJ.pv)) (.lst (v.fr.map dC.pv)) (.lst (v.hp.map bQ)) (.I v.made) (.lst (v.out.map PV.str)) (.I v.st) (.I v.tr) (.I v.val.k) (.I v.val.n) (.str v.val.s) (.I v.steps)):=by
  refine fQ (n:=v.out.length) (F:=λi=>iJ (.I v.hp.length) (.I i) (.lst (m.texts.map PV.str)) (.lst (m.funcs.map eJ.pv)) (.lst (v.fr.map dC.pv)) (.lst (v.hp.map bQ)) (.I v.made) (.lst (v.out.map PV.str)) (.I v.st) (.I v.tr) (.I v.val.k) (.I v.val.n) (.str v.val.s) (.I v.steps)) (P:=λi=>yG ((∀ s∈v.out.drop i,fA s=true)∧aIA v∧aCt m v.hp.length v.fr 0)) ?_ (λi hi ih=>?_) 0 (by omega)
  ·rw [oL]
   have hnil : ∀ s∈v.out.drop v.out.length,fA s=true:=λs hs=>by rw [List.drop_length] at hs;cases hs
   have frames : aIA v→Ok (yG ((∀ s∈v.out.drop v.out.length,fA s=true)∧aIA v∧aCt m v.hp.length v.fr 0)) (cZ (.I v.hp.length) (.I 0) (.lst (m.texts.map PV.str)) (.lst (m.funcs.map eJ.pv)) (.lst (v.fr.map dC.pv)) (.lst (v.hp.map bQ)) (.I v.made) (.lst (v.out.map PV.str)) (.I v.st) (.I v.tr) (.I v.val.k) (.I v.val.n) (.str v.val.s) (.I v.steps)):=λhe=>by
    refine (aVS g h).mono ?_
    rintro r ⟨b,rfl,hb⟩
    exact ⟨b,rfl,λhb'=>⟨hnil,he,hb hb'⟩⟩
   refine aF (aO (λh=>by omega) (λ_=>?_))
   refine aJ (λh1=>aF (aJ (λh2=>cL (yes λh3=>?_)) (λ_=>no))) (λh1=>?_)
   ·have e : v.fr = []:=List.length_eq_zero_iff.1 (by omega)
    exact ⟨hnil,.inr (.inr ⟨h1,of_decide_eq_true h3,e⟩),λj hj _=>by rw [e] at hj;simp at hj⟩
   ·have rest : v.st=0∨v.st=2→Ok (yG ((∀ s∈v.out.drop v.out.length,fA s=true)∧aIA v∧aCt m v.hp.length v.fr 0))
     (bd (cQ [1,1,2] .neq (.agg [.I v.val.k,.I v.val.n,.str v.val.s]) (.agg [(.I 0),(.I 0),(.str (bs []))])) λv589=>
     aV v589
      (some [(.bool false)])
      (bd (aK (.lst (v.fr.map dC.pv))) λv590=>
      bd (aR v590 (.I 1) (.I 24)) λr591=>
      bd (dB (hd r591)) λv592=>
      aV v592
       (some [(.bool false)])
       (bd (aD .eql (.I v.st) (.I 0)) λv593=>
       aV v593
        (bd (aD .neq (.I v.tr) (.I 0)) λv594=>
        aV v594
         (some [(.bool false)])
         (bd (aD .eql (.I v.st) (.I 2)) λv595=>
         aV v595
          (bd (aR (.I v.tr) (.I 1) (.I 8)) λr596=>
          bd (dB (hd r596)) λv597=>
          aV v597
           (some [(.bool false)])
           (cZ (.I v.hp.length) (.I 0) (.lst (m.texts.map PV.str)) (.lst (m.funcs.map eJ.pv)) (.lst (v.fr.map dC.pv)) (.lst (v.hp.map bQ)) (.I v.made) (.lst (v.out.map PV.str)) (.I v.st) (.I v.tr) (.I v.val.k) (.I v.val.n) (.str v.val.s) (.I v.steps)))
          (cZ (.I v.hp.length) (.I 0) (.lst (m.texts.map PV.str)) (.lst (m.funcs.map eJ.pv)) (.lst (v.fr.map dC.pv)) (.lst (v.hp.map bQ)) (.I v.made) (.lst (v.out.map PV.str)) (.I v.st) (.I v.tr) (.I v.val.k) (.I v.val.n) (.str v.val.s) (.I v.steps))))
        (bd (aD .eql (.I v.st) (.I 2)) λv598=>
        aV v598
         (bd (aR (.I v.tr) (.I 1) (.I 8)) λr599=>
         bd (dB (hd r599)) λv600=>
         aV v600
          (some [(.bool false)])
          (cZ (.I v.hp.length) (.I 0) (.lst (m.texts.map PV.str)) (.lst (m.funcs.map eJ.pv)) (.lst (v.fr.map dC.pv)) (.lst (v.hp.map bQ)) (.I v.made) (.lst (v.out.map PV.str)) (.I v.st) (.I v.tr) (.I v.val.k) (.I v.val.n) (.str v.val.s) (.I v.steps)))
         (cZ (.I v.hp.length) (.I 0) (.lst (m.texts.map PV.str)) (.lst (m.funcs.map eJ.pv)) (.lst (v.fr.map dC.pv)) (.lst (v.hp.map bQ)) (.I v.made) (.lst (v.out.map PV.str)) (.I v.st) (.I v.tr) (.I v.val.k) (.I v.val.n) (.str v.val.s) (.I v.steps)))))):=λhst=>by
     refine aRe (a:=v.val) (b:=eQ) (aZ (λ_=>no) (λhv=>aF (fP (cD (aZ (λ_=>no) (λhn=>?_))))))
     have hv : v.val=eQ:=aYg (by simpa using hv)
     have hn : mA (v.fr.length : Int) 1 24=true:=by simpa using hn
     rw [bT] at hn
     refine aJ (λh0=>dD (λ_=>no) (λht=>aJ (λh2=>by omega) (λ_=>frames (.inl ⟨h0,ht,hv,by omega,by omega⟩)))) (λh0=>aJ (λh2=>fP (cD (aZ (λ_=>no) (λht=>?_)))) (λh2=>by omega))
     have ht : mA v.tr 1 8=true:=by simpa using ht
     rw [bT] at ht
     exact frames (.inr (.inl ⟨h2,ht.1,ht.2,hv,by omega,by omega⟩))
    refine dD (λh0=>dD (λ_=>no) (λh2=>rest (.inr h2))) (λh0=>rest (.inl h0))
  ·rw [oL]
   refine aF (aO (λ_=>?_) (λh=>by omega))
   refine aQ hi (λ_=>rfl) (aKV (s:=v.out[i]) (h.outs _ (List.getElem_mem hi)) (cD (aZ (λ_=>no) (λht=>bS (ih.mono ?_)))))
   rintro r ⟨b,rfl,hb⟩
   refine ⟨b,rfl,λhb'=>⟨λs hs=>?_,(hb hb').2⟩⟩
   rw [List.drop_eq_getElem_cons hi] at hs
   rcases List.mem_cons.1 hs with rfl | hs
   ·simpa using ht
   ·exact (hb hb').1 s hs
 refine key.mono ?_
 rintro r ⟨b,rfl,hb⟩
 exact ⟨b,rfl,λh=>hk (hb h).1 (hb h).2.1 (hb h).2.2⟩
theorem aRf (hs : m.sized) (h : v.fine) : Ok (yG (aNz m v)) (aCf m.pv v.pv):=by
 rw [aH3]
 refine dY ?_
 refine tS (aK1 hs (aZ (λhg=>?_) (λ_=>no)))
 have g:=aAQ hs hg
 have hfn:=g.fit.2.1
 refine aMP (A:=VmK m v) ?_ (λb hb=>yes λh=>⟨g,hb h⟩)
 rw [aDC]
 refine dY ?_
 refine tS (?_)
 refine aF (iU (λ_=>no) (λh1=>fP (cD (aZ (λ_=>no) (λh2=>?_)))))
 refine aF (iU (λ_=>no) (λh3=>fP (cD (aZ (λ_=>no) (λh4=>?_)))))
 have h2 : mA v.made v.hp.length 120=true:=by simpa using h2
 have h4 : mA v.steps 0 50000=true:=by simpa using h4
 rw [bT] at h2 h4
 refine aDh (A:=oD m v.hp.length v.val) ((aAO (T:=(.lst (m.texts.map PV.str))) (fs:=m.funcs) (v:=v.val) (recs:=v.hp.length) (by omega) h.val).mono (λr hr=>⟨_,hr,λh=>h⟩)) (λh5=>?_)
 have key : Ok (yG (VmK m v)) (mY (.I v.hp.length) (.I 0) (.lst (m.texts.map PV.str)) (.lst (m.funcs.map eJ.pv)) (.lst (v.fr.map dC.pv)) (.lst (v.hp.map bQ)) (.I v.made) (.lst (v.out.map PV.str)) (.I v.st) (.I v.tr) (.I v.val.k) (.I v.val.n) (.str v.val.s) (.I v.steps)):=by
  have up : ∀ (j i : Nat),v.hp.length - i=j→i≤v.hp.length→(∀ r∈v.hp.take i,r.length≤6∧∀ y∈r,oD m v.hp.length y)→Ok (yG (VmK m v)) (mY (.I v.hp.length) (.I i) (.lst (m.texts.map PV.str)) (.lst (m.funcs.map eJ.pv)) (.lst (v.fr.map dC.pv)) (.lst (v.hp.map bQ)) (.I v.made) (.lst (v.out.map PV.str)) (.I v.st) (.I v.tr) (.I v.val.k) (.I v.val.n) (.str v.val.s) (.I v.steps)):=by
   intro j
   induction j with
   | zero=>
     intro i hj hi hr
     have : i=v.hp.length:=by omega
     subst this
     rw [List.take_length] at hr
     rw [pP]
     exact aO (λh=>by omega) (λ_=>aXJ g h (λh6 h7 h8=>aVT (by omega) (by omega) (by omega) h5 hr h6 h7 h8))
   | succ j ih=>
     intro i hj hi hr
     have hi' : i<v.hp.length:=by omega
     rw [pP]
     refine aO (λ_=>?_) (λh=>by omega)
     refine aQ hi' (λ_=>rfl) (aL rfl (bX (iU (λ_=>no) (λh6=>?_))))
     refine aQ hi' (λ_=>rfl) (aL rfl (aDh (aMO (by omega) (by omega) (h.hps _ (List.getElem_mem hi'))) (λhv=>bS (ih (i+1) (by omega) (by omega) (λr hr'=>?_)))))
     rw [List.take_add_one,List.getElem?_eq_getElem hi',Option.toList_some] at hr'
     rcases List.mem_append.1 hr' with hr' | hr'
     ·exact hr r hr'
     ·rw [List.mem_singleton] at hr'
      subst hr'
      exact ⟨by omega,hv⟩
  exact up _ 0 rfl (by omega) (λr hr=>by simp at hr)
 exact key
open Classical in
theorem aRg (hs : m.sized) (h : v.fine) : Ok (λr=>r = [.bool (decide (aNz m v))]) (aCf m.pv v.pv):=by
 obtain ⟨r,e,b,rfl,hb⟩:=(aRf hs h)
 by_cases hk : aNz m v
 ·have:=aPx hk.1 hk.2
  rw [decide_eq_true hk];exact this
 ·refine ⟨_,e,?_⟩
  rw [decide_eq_false hk]
  cases b with
  | false=>rfl
  | true=>exact absurd (hb rfl) hk
end
variable {v : mL}
theorem aFi {n : Nat} {F : Nat→Bool→OR} {P : Nat→Bool→R→Prop} (he : ∀ b,Ok (P n b) (F n b)) (hs : ∀ i,i<n→(∀ b,Ok (P (i+1) b) (F (i+1) b))→∀ b,Ok (P i b) (F i b)) : ∀ i,i≤n→∀ b,Ok (P i b) (F i b):=by
 have key : ∀ j i,n - i=j→i≤n→∀ b,Ok (P i b) (F i b):=by
  intro j
  induction j with
  | zero=>intro i h1 h2;have : i=n:=by omega
          subst this;exact he
  | succ j ih=>intro i h1 h2;exact hs i (by omega) (ih (i+1) (by omega) (by omega))
 intro i h
 exact key _ i rfl h
def aYh (m : fO) (v : mL) (b : Bool) : R:=[.bool b,.lst (m.texts.map PV.str),.lst (m.funcs.map eJ.pv),.lst (v.fr.map dC.pv),.lst (v.hp.map bQ),.I v.made,.lst (v.out.map PV.str),.I v.st,.I v.tr,.I v.val.k,.I v.val.n,.str v.val.s,.I v.steps]
section
variable {P : R → Prop} {m : fO}
theorem aVU {hp : List (List eR)} (hn : hp.length≤2097152) : Ok (yG (hp.length≤120∧∀ r∈hp,r.length≤6)) (aBf (.lst (hp.map bQ))):=by
 have loop : ∀ i,i≤hp.length→Ok (λr=>∃ k : Int,r = [.I k]∧(k<0→∀ x∈hp.drop i,x.length≤6)) (cY (.lst (hp.map bQ)) (.fn 156 []) (.I hp.length) (.I i)):=by
  refine fQ (n:=hp.length) (F:=λi=>cY (.lst (hp.map bQ)) (.fn 156 []) (.I hp.length) (.I i)) (P:=λi r=>∃ k : Int,r = [.I k]∧(k<0→∀ x∈hp.drop i,x.length≤6)) ?_ (λi hi ih=>?_)
  ·rw [eT]
   exact aO (λh=>by omega) (λ_=>aA ⟨_,rfl,λ_ x hx=>by rw [List.drop_length] at hx;cases hx⟩)
  ·rw [eT]
   refine aO (λ_=>?_) (λh=>by omega)
   refine aQ hi (λ_=>rfl) (sL (o:=aBK (bQ hp[i])) (Q:=λr=>r = [.bool (decide ((6 : Int)<hp[i].length))]) rfl ?_ (λr hr=>?_))
   ·rw [aCj]
    exact aPJ (bX (lQ (aA rfl)))
   ·rw [hr]
    refine gC (λh=>aA ⟨i,rfl,λhk=>by omega⟩) (λh=>bS (ih.mono ?_))
    rintro r ⟨k,rfl,hk⟩
    refine ⟨k,rfl,λh' x hx=>?_⟩
    rw [List.drop_eq_getElem_cons hi] at hx
    rcases List.mem_cons.1 hx with rfl | hx
    ·omega
    ·exact hk h' x hx
 rw [aEP]
 refine aF (aD7 (λh1=>?_) (λ_=>no))
 refine aI (Q:=λr=>∃ b,r = [.bool b]∧(b=false→∀ x∈hp,x.length≤6)) ?_ (λr hr=>?_)
 ·rw [jL]
  refine aI (Q:=λr=>∃ k : Int,r = [.I k]∧(k<0→∀ x∈hp,x.length≤6)) ?_ (λr hr=>?_)
  ·rw [kH]
   exact aF (loop 0 (by omega))
  ·obtain ⟨k,rfl,hk⟩:=hr
   exact jN (aA ⟨_,rfl,λh=>hk (by have:=of_decide_eq_false h;omega)⟩)
 ·obtain ⟨b,rfl,hb⟩:=hr
  exact cD (yes λh=>⟨by omega,hb (by simpa using h)⟩)
theorem aVV {x : eR} {b : Bool} (hf : m.funcs.length≤1000) (hh : v.hp.length≤1000) (hs : x.s.size≤2097152) : Ok (λr=>r=aYh m v (b&&cW m.funcs.length v.hp.length x)) (uN (.I x.k) (.I x.n) (.str x.s) (.bool b) (.lst (m.texts.map PV.str)) (.lst (m.funcs.map eJ.pv)) (.lst (v.fr.map dC.pv)) (.lst (v.hp.map bQ)) (.I v.made) (.lst (v.out.map PV.str)) (.I v.st) (.I v.tr) (.I v.val.k) (.I v.val.n) (.str v.val.s) (.I v.steps)):=by
 rw [aEU]
 cases b with
 | false=>exact bP (aA rfl)
 | true=>
   refine bF (aF (aF (aI (aHf (v:=x) (nf:=m.funcs.length) (recs:=v.hp.length) (by omega) (by omega) (by omega)) (λr hr=>?_))))
   rw [hr]
   exact bJ rfl (aA rfl)
def boxes (m : fO) (v : mL) (B : Prop) (r : R) : Prop:=∃ b,r=aYh m v b∧(b=true→B)
theorem boxes.mono {A B : Prop} {r : R} (h : boxes m v A r) (f : A→B) : boxes m v B r:=by
 obtain ⟨b,e,hb⟩:=h
 exact ⟨b,e,λh=>f (hb h)⟩
theorem aRh (hfn : m.funcs.length≤1000) (h : v.fine) (zh : v.hp.length≤120) :
 Ok (boxes m v ((∀ f∈v.fr,∀ y∈f.loc++f.stk,oD m v.hp.length y)∧(∀ r∈v.hp,∀ y∈r,oD m v.hp.length y)∧oD m v.hp.length v.val)) (vG (.lst (v.fr.map dC.pv)) (.lst (v.hp.map bQ)) (.I v.made) (.lst (v.out.map PV.str)) (.I v.st) (.I v.tr) (.I v.val.k) (.I v.val.n) (.str v.val.s) (.I v.steps) (.bool true) (.lst (m.texts.map PV.str)) (.lst (m.funcs.map eJ.pv)) (.lst (v.fr.map dC.pv)) (.lst (v.hp.map bQ)) (.I v.made) (.lst (v.out.map PV.str)) (.I v.st) (.I v.tr) (.I v.val.k) (.I v.val.n) (.str v.val.s) (.I v.steps)):=by
 have zf:=h.f
 have last : ∀ b,Ok (boxes m v (b=true∧oD m v.hp.length v.val)) (fM (.lst (v.hp.map bQ)) (.I v.hp.length) (.I v.hp.length) (.bool b) (.lst (m.texts.map PV.str)) (.lst (m.funcs.map eJ.pv)) (.lst (v.fr.map dC.pv)) (.lst (v.hp.map bQ)) (.I v.made) (.lst (v.out.map PV.str)) (.I v.st) (.I v.tr) (.I v.val.k) (.I v.val.n) (.str v.val.s) (.I v.steps) (.lst (v.fr.map dC.pv)) (.lst (v.hp.map bQ)) (.I v.made) (.lst (v.out.map PV.str)) (.I v.st) (.I v.tr) (.I v.val.k) (.I v.val.n) (.str v.val.s) (.I v.steps)):=λb=>by
  rw [mH]
  refine aO (λh=>by omega) (λ_=>aI (aVV (b:=b) (by omega) (by omega) h.val) (λr hr=>?_))
  rw [hr]
  exact aA ⟨_,rfl,λh=>by simpa [Bool.and_eq_true] using h⟩
 have heap : ∀ i,i≤v.hp.length→∀ b,Ok (boxes m v (b=true∧(∀ r∈v.hp.drop i,∀ y∈r,oD m v.hp.length y)∧oD m v.hp.length v.val)) (fM (.lst (v.hp.map bQ)) (.I v.hp.length) (.I i) (.bool b) (.lst (m.texts.map PV.str)) (.lst (m.funcs.map eJ.pv)) (.lst (v.fr.map dC.pv)) (.lst (v.hp.map bQ)) (.I v.made) (.lst (v.out.map PV.str)) (.I v.st) (.I v.tr) (.I v.val.k) (.I v.val.n) (.str v.val.s) (.I v.steps) (.lst (v.fr.map dC.pv)) (.lst (v.hp.map bQ)) (.I v.made) (.lst (v.out.map PV.str)) (.I v.st) (.I v.tr) (.I v.val.k) (.I v.val.n) (.str v.val.s) (.I v.steps)):=by
  refine aFi (n:=v.hp.length) (F:=λi b=>fM (.lst (v.hp.map bQ)) (.I v.hp.length) (.I i) (.bool b) (.lst (m.texts.map PV.str)) (.lst (m.funcs.map eJ.pv)) (.lst (v.fr.map dC.pv)) (.lst (v.hp.map bQ)) (.I v.made) (.lst (v.out.map PV.str)) (.I v.st) (.I v.tr) (.I v.val.k) (.I v.val.n) (.str v.val.s) (.I v.steps) (.lst (v.fr.map dC.pv)) (.lst (v.hp.map bQ)) (.I v.made) (.lst (v.out.map PV.str)) (.I v.st) (.I v.tr) (.I v.val.k) (.I v.val.n) (.str v.val.s) (.I v.steps)) (P:=λi b=>boxes m v (b=true∧(∀ r∈v.hp.drop i,∀ y∈r,oD m v.hp.length y)∧oD m v.hp.length v.val)) (λb=>(last b).mono (λr hr=>hr.mono (λh=>⟨h.1,λr hr=>(by rw [List.drop_length] at hr;cases hr),h.2⟩))) (λi hi ih b=>?_)
  rw [mH]
  refine aO (λ_=>?_) (λh=>by omega)
  have hri:=h.hl _ (List.getElem_mem hi)
  refine aQ hi (λ_=>rfl) (aPJ (bX ?_))
  have inner : ∀ j,j≤v.hp[i].length→∀ b,Ok (boxes m v (b=true∧(∀ y∈v.hp[i].drop j,oD m v.hp.length y)∧(∀ r∈v.hp.drop (i+1),∀ y∈r,oD m v.hp.length y)∧oD m v.hp.length v.val)) (iG (.lst (v.hp.map bQ)) (.I v.hp.length) (.I i) (bI v.hp[i]) (.I v.hp[i].length) (.I j) (.bool b) (.lst (m.texts.map PV.str)) (.lst (m.funcs.map eJ.pv)) (.lst (v.fr.map dC.pv)) (.lst (v.hp.map bQ)) (.I v.made) (.lst (v.out.map PV.str)) (.I v.st) (.I v.tr) (.I v.val.k) (.I v.val.n) (.str v.val.s) (.I v.steps) (.lst (v.fr.map dC.pv)) (.lst (v.hp.map bQ)) (.I v.made) (.lst (v.out.map PV.str)) (.I v.st) (.I v.tr) (.I v.val.k) (.I v.val.n) (.str v.val.s) (.I v.steps)):=by
   refine aFi (n:=v.hp[i].length) (F:=λj b=>iG (.lst (v.hp.map bQ)) (.I v.hp.length) (.I i) (bI v.hp[i]) (.I v.hp[i].length) (.I j) (.bool b) (.lst (m.texts.map PV.str)) (.lst (m.funcs.map eJ.pv)) (.lst (v.fr.map dC.pv)) (.lst (v.hp.map bQ)) (.I v.made) (.lst (v.out.map PV.str)) (.I v.st) (.I v.tr) (.I v.val.k) (.I v.val.n) (.str v.val.s) (.I v.steps) (.lst (v.fr.map dC.pv)) (.lst (v.hp.map bQ)) (.I v.made) (.lst (v.out.map PV.str)) (.I v.st) (.I v.tr) (.I v.val.k) (.I v.val.n) (.str v.val.s) (.I v.steps)) (P:=λj b=>boxes m v (b=true∧(∀ y∈v.hp[i].drop j,oD m v.hp.length y)∧(∀ r∈v.hp.drop (i+1),∀ y∈r,oD m v.hp.length y)∧oD m v.hp.length v.val)) (λb=>?_) (λj hj ih' b=>?_)
   ·rw [mJ]
    exact aO (λh=>by omega) (λ_=>bS ((ih b).mono (λr hr=>hr.mono (λh=>⟨h.1,λy hy=>(by rw [List.drop_length] at hy;cases hy),h.2⟩))))
   ·rw [mJ]
    refine aO (λ_=>?_) (λh=>by omega)
    refine aQ hj (λ_=>rfl) (cB (aI (aVV (b:=b) (x:=v.hp[i][j]) (by omega) (by omega) (h.hps _ (List.getElem_mem hi) _ (List.getElem_mem hj))) (λr hr=>?_)))
    rw [hr]
    refine bS ((ih' _).mono (λr hr=>hr.mono (λh=>?_)))
    obtain ⟨h1,h2,h3⟩:=h
    rw [Bool.and_eq_true] at h1
    refine ⟨h1.1,λy hy=>?_,h3⟩
    rw [List.drop_eq_getElem_cons hj] at hy
    rcases List.mem_cons.1 hy with rfl | hy
    ·exact h1.2
    ·exact h2 y hy
  refine (inner 0 (by omega) b).mono (λr hr=>hr.mono (λh=>?_))
  obtain ⟨h1,h2,h3,h4⟩:=h
  refine ⟨h1,λr hr=>?_,h4⟩
  rw [List.drop_eq_getElem_cons hi] at hr
  rcases List.mem_cons.1 hr with rfl | hr
  ·exact h2
  ·exact h3 r hr
 have frames : ∀ i,i≤v.fr.length→∀ b,Ok (boxes m v (b=true∧(∀ f∈v.fr.drop i,∀ y∈f.loc++f.stk,oD m v.hp.length y)∧(∀ r∈v.hp,∀ y∈r,oD m v.hp.length y)∧oD m v.hp.length v.val)) (iX (.lst (v.fr.map dC.pv)) (.I v.fr.length) (.I i) (.bool b) (.lst (m.texts.map PV.str)) (.lst (m.funcs.map eJ.pv)) (.lst (v.fr.map dC.pv)) (.lst (v.hp.map bQ)) (.I v.made) (.lst (v.out.map PV.str)) (.I v.st) (.I v.tr) (.I v.val.k) (.I v.val.n) (.str v.val.s) (.I v.steps) (.lst (v.fr.map dC.pv)) (.lst (v.hp.map bQ)) (.I v.made) (.lst (v.out.map PV.str)) (.I v.st) (.I v.tr) (.I v.val.k) (.I v.val.n) (.str v.val.s) (.I v.steps)):=by
  refine aFi (n:=v.fr.length) (F:=λi b=>iX (.lst (v.fr.map dC.pv)) (.I v.fr.length) (.I i) (.bool b) (.lst (m.texts.map PV.str)) (.lst (m.funcs.map eJ.pv)) (.lst (v.fr.map dC.pv)) (.lst (v.hp.map bQ)) (.I v.made) (.lst (v.out.map PV.str)) (.I v.st) (.I v.tr) (.I v.val.k) (.I v.val.n) (.str v.val.s) (.I v.steps) (.lst (v.fr.map dC.pv)) (.lst (v.hp.map bQ)) (.I v.made) (.lst (v.out.map PV.str)) (.I v.st) (.I v.tr) (.I v.val.k) (.I v.val.n) (.str v.val.s) (.I v.steps)) (P:=λi b=>boxes m v (b=true∧(∀ f∈v.fr.drop i,∀ y∈f.loc++f.stk,oD m v.hp.length y)∧(∀ r∈v.hp,∀ y∈r,oD m v.hp.length y)∧oD m v.hp.length v.val)) (λb=>?_) (λi hi ih b=>?_)
  ·rw [nQ]
   exact aO (λh=>by omega) (λ_=>aF ((heap 0 (by omega) b).mono (λr hr=>hr.mono (λh=>⟨h.1,λf hf=>(by rw [List.drop_length] at hf;cases hf),h.2.1,h.2.2⟩))))
  have zz:=h.fl _ (List.getElem_mem hi)
  have q2:=h.frs _ (List.getElem_mem hi)
  rw [nQ]
  refine aO (λ_=>?_) (λh=>by omega)
  refine aQ hi (λ_=>rfl) (jG ?_)
  refine iT (by simp) (λx hx=>by simp only [List.nil_append,List.mem_cons,List.not_mem_nil,or_false] at hx;rcases hx with rfl | rfl<;>rfl) ?_
  refine aPs zz.1 zz.2 (gD (iI _) (bX ?_))
  have q1 : (v.fr[i].loc++v.fr[i].stk).length≤4194304:=by rw [List.length_append];omega
  have inner : ∀ l : List eR,l.length≤4194304→(∀ y∈l,y.s.size≤2097152)→∀ j,j≤l.length→∀ b,Ok (boxes m v (b=true∧(∀ y∈l.drop j,oD m v.hp.length y)∧(∀ f∈v.fr.drop (i+1),∀ y∈f.loc++f.stk,oD m v.hp.length y)∧(∀ r∈v.hp,∀ y∈r,oD m v.hp.length y)∧oD m v.hp.length v.val)) (iY (.lst (v.fr.map dC.pv)) (.I v.fr.length) (.I i) (.I l.length) (.I j) (.bool b) (.lst (m.texts.map PV.str)) (.lst (m.funcs.map eJ.pv)) (.lst (v.fr.map dC.pv)) (.lst (v.hp.map bQ)) (.I v.made) (.lst (v.out.map PV.str)) (.I v.st) (.I v.tr) (.I v.val.k) (.I v.val.n) (.str v.val.s) (.I v.steps) (.lst (v.fr.map dC.pv)) (.lst (v.hp.map bQ)) (.I v.made) (.lst (v.out.map PV.str)) (.I v.st) (.I v.tr) (.I v.val.k) (.I v.val.n) (.str v.val.s) (.I v.steps) (bI l)):=by
   intro l q1 q2
   refine aFi (n:=l.length) (F:=λj b=>iY (.lst (v.fr.map dC.pv)) (.I v.fr.length) (.I i) (.I l.length) (.I j) (.bool b) (.lst (m.texts.map PV.str)) (.lst (m.funcs.map eJ.pv)) (.lst (v.fr.map dC.pv)) (.lst (v.hp.map bQ)) (.I v.made) (.lst (v.out.map PV.str)) (.I v.st) (.I v.tr) (.I v.val.k) (.I v.val.n) (.str v.val.s) (.I v.steps) (.lst (v.fr.map dC.pv)) (.lst (v.hp.map bQ)) (.I v.made) (.lst (v.out.map PV.str)) (.I v.st) (.I v.tr) (.I v.val.k) (.I v.val.n) (.str v.val.s) (.I v.steps) (bI l)) (P:=λj b=>boxes m v (b=true∧(∀ y∈l.drop j,oD m v.hp.length y)∧(∀ f∈v.fr.drop (i+1),∀ y∈f.loc++f.stk,oD m v.hp.length y)∧(∀ r∈v.hp,∀ y∈r,oD m v.hp.length y)∧oD m v.hp.length v.val)) (λb=>?_) (λj hj ih' b=>?_)
   ·rw [nR]
    exact aO (λh=>by omega) (λ_=>bS ((ih b).mono (λr hr=>hr.mono (λh=>⟨h.1,λy hy=>(by rw [List.drop_length] at hy;cases hy),h.2⟩))))
   ·rw [nR]
    refine aO (λ_=>?_) (λh=>by omega)
    refine gV (by omega) (by omega) (aQ hj (λ_=>rfl) (cB (aI (aVV (b:=b) (x:=l[j]) (by omega) (by omega) (q2 _ (List.getElem_mem hj))) (λr hr=>?_))))
    rw [hr]
    refine bS ((ih' _).mono (λr hr=>hr.mono (λh=>?_)))
    obtain ⟨h1,h2,h3⟩:=h
    rw [Bool.and_eq_true] at h1
    refine ⟨h1.1,λy hy=>?_,h3⟩
    rw [List.drop_eq_getElem_cons hj] at hy
    rcases List.mem_cons.1 hy with rfl | hy
    ·exact h1.2
    ·exact h2 y hy
  refine (inner _ q1 q2 0 (by omega) b).mono (λr hr=>hr.mono (λh=>?_))
  obtain ⟨h1,h2,h3,h4⟩:=h
  refine ⟨h1,λf hf=>?_,h4⟩
  rw [List.drop_eq_getElem_cons hi] at hf
  rcases List.mem_cons.1 hf with rfl | hf
  ·exact h2
  ·exact h3 f hf
 rw [aBr]
 exact aF ((frames 0 (by omega) true).mono (λr hr=>hr.mono (λh=>h.2)))
end
variable {v : mL}
section
variable {P : R → Prop} {m : fO}
theorem aVW (g : fF m) {n : Nat} {f : dC} {top : Bool} (hs : f.loc.length≤2097152∧f.stk.length≤2097152) :
 Ok (yG ((∀ y∈f.loc++f.stk,oD m n y)→(top=true→aHd m n f)∧(top=false→aKJ m n f))) (zK m.pv (aNy m) (.I f.f) (.I f.pc) (.I f.loc.length) (.I f.stk.length) (.bool top)):=by
 obtain ⟨f1,f2,ff⟩:=g.fit
 rw [aDB]
 refine dY (aF (hU (by omega) (cD (aZ (λ_=>no) (λhb=>?_)))))
 have hf : 0≤f.f∧f.f<m.funcs.length:=by
  have : mA f.f 0 ((m.funcs.length : Int) - 1)=true:=by simpa using hb
  rw [bT] at this
  omega
 obtain ⟨i,hi,he,hc,F,_⟩:=g.code hf
 have nc:=F.n2
 rw [← hc] at nc
 refine xC hf (aL rfl (dD (λ_=>no) (λhloc=>xC hf (aL rfl (aF (hU (by omega) (cD (aZ (λ_=>no) (λhb=>?_)))))))))
 have hpc : 0≤f.pc∧f.pc<(dR m.funcs f.f).length:=by
  have : mA f.pc 0 (((dR m.funcs f.f).length : Int) - 1)=true:=by simpa using hb
  rw [bT] at this
  omega
 refine aBV hf (kL g hf hpc (aO (λ_=>no) (λhd=>?_)))
 have I : (∀ y∈f.loc++f.stk,oD m n y)→FrI m n f:=λhv=>⟨hf,hpc,hloc,by omega,λy hy=>hv y (List.mem_append_left _ hy),λy hy=>hv y (List.mem_append_right _ hy)⟩
 have dl:=(g.at_ hf hpc (by omega)).2.2.1
 cases top with
 | true=>exact bF (aBV hf (kL g hf hpc (cL (yes λh hv=>⟨λ_=>⟨I hv,of_decide_eq_true h⟩,λh=>by cases h⟩))))
 | false=>
   refine bP (aJ (λ_=>no) (λh0=>aBV hf (dS (kL g hf (by omega) (aO (λ_=>no) (λh2=>xC hf (aL rfl (dS ?_))))))))
   have hin : ((dR m.funcs f.f).map eC.pv)[(f.pc - 1).toNat]? = some (dU m f.f (f.pc - 1)).pv:=by
    rw [List.getElem?_map]
    unfold dU
    rw [List.getElem?_eq_getElem (by omega)];rfl
   refine aGq (by omega) hin rfl (aL rfl (aJ (λh3=>?_) (λ_=>aJ (λh3=>?_) (λ_=>no))))
   ·exact aBV hf (kL g hf hpc (dS (cL (yes λh hv=>⟨λh=>(by cases h),λ_=>⟨I hv,⟨by omega,by omega,.inl h3⟩,of_decide_eq_true h⟩⟩))))
   ·exact aBV hf (kL g hf hpc (dS (cL (yes λh hv=>⟨λh=>(by cases h),λ_=>⟨I hv,⟨by omega,by omega,.inr h3⟩,of_decide_eq_true h⟩⟩))))
theorem aUp (g : fF m) (h : v.fine) (b : Bool) : Ok (yG (b=true∧((∀ f∈v.fr,∀ y∈f.loc++f.stk,oD m v.hp.length y)→aCt m v.hp.length v.fr 0)∧aIA v)) (nK (aNy m) (.lst (v.fr.map dC.pv)) (.I v.fr.length) (.I 0) (.lst (m.texts.map PV.str)) (.lst (m.funcs.map eJ.pv)) (.lst (v.fr.map dC.pv)) (.lst (v.hp.map bQ)) (.I v.made) (.lst (v.out.map PV.str)) (.I v.st) (.I v.tr) (.I v.val.k) (.I v.val.n) (.str v.val.s) (.I v.steps) (.bool b)):=by
 have zf:=h.f
 refine aFi (n:=v.fr.length) (F:=λi b=>nK (aNy m) (.lst (v.fr.map dC.pv)) (.I v.fr.length) (.I i) (.lst (m.texts.map PV.str)) (.lst (m.funcs.map eJ.pv)) (.lst (v.fr.map dC.pv)) (.lst (v.hp.map bQ)) (.I v.made) (.lst (v.out.map PV.str)) (.I v.st) (.I v.tr) (.I v.val.k) (.I v.val.n) (.str v.val.s) (.I v.steps) (.bool b)) (P:=λi b=>yG (b=true∧((∀ f∈v.fr,∀ y∈f.loc++f.stk,oD m v.hp.length y)→aCt m v.hp.length v.fr i)∧aIA v)) (λb=>?_) (λi hi ih b=>?_) 0 (by omega) b
 ·rw [tK]
  have hF : (∀ f∈v.fr,∀ y∈f.loc++f.stk,oD m v.hp.length y)→aCt m v.hp.length v.fr v.fr.length:=λ_ j hj hij=>by omega
  refine aO (λh=>by omega) (λ_=>aF (gB (aAN (λh1=>?_) (λh1=>?_))))
  ·refine aK3 (a:=v.val) (b:=eQ) ?_
   generalize hE : (decide (v.val.k=eQ.k)&&(decide (v.val.n=eQ.n)&&kV v.val.s eQ.s))=e
   have he : e=true→v.val=eQ:=λh=>aYg (by rw [hE];exact h)
   refine aJ (λh0=>aZ (λhb=>aZ (λhv=>cL (yes λht=>⟨hb,hF,.inl ⟨h0,of_decide_eq_true ht,he hv,by omega,by omega⟩⟩)) (λ_=>no)) (λ_=>no)) (λh0=>?_)
   refine aJ (λh2=>aZ (λhb=>aZ (λhv=>gB (yes λht=>?_)) (λ_=>no)) (λ_=>no)) (λh2=>?_)
   ·rw [bT] at ht
    exact ⟨hb,hF,.inr (.inl ⟨h2,ht.1,ht.2,he hv,by omega,by omega⟩)⟩
   ·exact aJ (λ_=>aZ (λ_=>aF (aJ (λh=>by omega) (λ_=>no))) (λ_=>no)) (λ_=>no)
  ·refine aJ (λ_=>aZ (λ_=>no) (λ_=>no)) (λ_=>aJ (λ_=>aZ (λ_=>no) (λ_=>no)) (λ_=>?_))
   refine aJ (λh3=>aZ (λhb=>aF (aJ (λhl=>cL (yes λht=>?_)) (λ_=>no))) (λ_=>no)) (λ_=>no)
   exact ⟨hb,hF,.inr (.inr ⟨h3,of_decide_eq_true ht,List.length_eq_zero_iff.1 (by omega)⟩)⟩
 ·rw [tK]
  refine aO (λ_=>?_) (λh=>by omega)
  refine aQ hi (λ_=>rfl) (jG (aZ (λhb=>bX (bX (aF (dS (cL (aMP (aVW g (n:=v.hp.length) (f:=v.fr[i]) (h.fl _ (List.getElem_mem hi))) (λc hc=>bJ rfl (bS ((ih c).mono ?_))))))))) (λhb=>bS ((ih false).mono ?_))))
  ·rintro r ⟨d,rfl,hd⟩
   refine ⟨d,rfl,λhd'=>?_⟩
   obtain ⟨h1,h2,h3⟩:=hd hd'
   refine ⟨hb,λhv j hj hij=>?_,h3⟩
   by_cases e : i=j
   ·subst e
    have:=hc h1 (hv _ (List.getElem_mem hi))
    exact ⟨λe=>this.1 (decide_eq_true e),λe=>this.2 (decide_eq_false e)⟩
   ·exact h2 hv j hj (by omega)
  ·rintro r ⟨d,rfl,hd⟩
   exact ⟨d,rfl,λhd'=>absurd (hd hd').1 (by simp)⟩
theorem aRi (hs : m.sized) (h : v.fine) : Ok (yG (aNz m v)) (aCe m.pv v.pv):=by
 have ho:=h.o
 rw [aH1]
 refine dY (tS (aIt hs (aZ (λhg=>?_) (λ_=>no))))
 have g:=aAQ hs hg
 have hfn:=g.fit.2.1
 refine aI (aMN g) (λr hr=>?_)
 rw [hr]
 refine aMP (A:=VmK m v) ?_ (λb hb=>yes λh=>⟨g,hb h⟩)
 rw [aH2]
 refine dY (tS ?_)
 refine aDh (aVU h.h) (λhA=>aF (gB (cD (aZ (λ_=>no) (λh2=>?_)))))
 refine aF (iU (λ_=>no) (λh3=>gB (cD (aZ (λ_=>no) (λh4=>?_)))))
 have h2 : mA v.made v.hp.length 120=true:=by simpa using h2
 have h4 : mA v.steps 0 50000=true:=by simpa using h4
 rw [bT] at h2 h4
 refine aJq (by omega) (λs=>!fA s) (λx hx=>?_) (aZ (λ_=>no) (λh6=>?_))
 ·show Ok _ (aEE _)
  rw [aEQ]
  refine aI (aFy (s:=x) (h.outs x hx)) (λr hr=>?_)
  rw [hr]
  exact cD (aA rfl)
 refine aI (aRh (by omega) h hA.1) (λr hr=>?_)
 obtain ⟨b,rfl,hb⟩:=hr
 refine aF ((aUp g h b).mono ?_)
 rintro r ⟨d,rfl,hd⟩
 refine ⟨d,rfl,λhd'=>?_⟩
 obtain ⟨e1,e2,e3⟩:=hd hd'
 obtain ⟨q1,q2,q3⟩:=hb e1
 refine aVT h2 (by omega) h4 q3 (λr hr=>⟨hA.2 r hr,q2 r hr⟩) (λs hs=>?_) e3 (e2 q1)
 rw [List.any_eq_false] at h6
 simpa using h6 s hs
open Classical in
theorem aRj (hs : m.sized) (h : v.fine) : Ok (λr=>r = [.bool (decide (aNz m v))]) (aCe m.pv v.pv):=by
 obtain ⟨r,e,b,rfl,hb⟩:=(aRi hs h)
 by_cases hk : aNz m v
 ·have:=aPw hk.1 hk.2
  rw [decide_eq_true hk];exact this
 ·refine ⟨_,e,?_⟩
  rw [decide_eq_false hk]
  cases b with
  | false=>rfl
  | true=>exact absurd (hb rfl) hk
open Classical in
def aRk (m : fO) (v : mL) : mL:=if aNz m v then iZ m v else vmZ
open Classical in
theorem aSs (hs : m.sized) (h : v.fine) : Ok (λr=>r=oC (aRk m v)) (aAb m.pv v.pv):=by
 rw [aO4]
 refine dY ?_
 refine tS (?_)
 refine aI (aRg hs h) (λr hr=>?_)
 rw [hr]
 refine cD ?_
 by_cases hk : aNz m v
 ·rw [decide_eq_true hk]
  have e : aRk m v=iZ m v:=if_pos hk
  rw [e]
  refine bP (aI (aMH (hk.2.toVmI.sz hk.1) hk.2.steps (λh0 _=>hk.2.toVmI.goes hk.1 h0)) (λr hr=>?_))
  rw [hr]
  exact pF (aA rfl)
 ·rw [decide_eq_false hk]
  have e : aRk m v=vmZ:=if_neg hk
  rw [e]
  exact bF (aA rfl)
end
variable {v : eR} {i : Nat}
def aDG (L : List Int) (v : eR) : List Int:=if v.k=4∧v.n∉L then L++[v.n] else L
def aKb (L : List Int) (l : List eR) : List Int:=l.foldl aDG L
def aOo (L : List Int) (f : dC) : List Int:=aKb (aKb L f.loc) f.stk
def aVX (v : mL) : List Int:=aDG (v.fr.foldl aOo []) v.val
def kB (hp : List (List eR)) (i : Int) : List eR:=hp[i.toNat]?.getD []
def aDi (hp : List (List eR)) : Nat→Nat→List Int→List Int
 | 0,_,L=>L
 | d+1,i,L=>if i<L.length then aDi hp d (i+1) (aKb L (kB hp (L[i]?.getD 0))) else L
def aBW (v : mL) : List Int:=aDi v.hp v.hp.length 0 (aVX v)
def aKc (H : Nat) (v : eR) : Prop:=v.k=4→0≤v.n∧v.n<H
structure aHl (H : Nat) (L : List Int) : Prop where
 nd : L.Nodup
 lt : ∀ x∈L,0≤x∧x<H
theorem aTe {m : fO} {H : Nat} (h : oD m H v) : aKc H v:=λhk=>by
 unfold oD cW at h
 split at h
 ·cases h
 ·rw [eV,eV,eV,eV] at h
  try rw [if_pos hk] at h
  simp only [Bool.and_eq_true,decide_eq_true_eq] at h
  exact h
theorem aHl.len {H : Nat} {L : List Int} (h : aHl H L) : L.length≤H:=by
 have:=List.Nodup.length_le_of_subset h.nd (l₂:=(List.range H).map Int.ofNat) (λx hx=>by
  obtain ⟨h1,h2⟩:=h.lt x hx
  rw [List.mem_map]
  exact ⟨x.toNat,List.mem_range.2 (by omega),by show ((x.toNat : Nat) : Int)=x;omega⟩)
 simpa using this
theorem aJA {L : List Int} {x : Int} (h : x∈L) : x∈aDG L v:=by
 unfold aDG;split
 ·exact List.mem_append_left _ h
 ·exact h
theorem aOp {L : List Int} (h : v.k=4) : v.n∈aDG L v:=by
 unfold aDG;split
 ·simp
 ·rename_i hn
  exact Classical.not_not.1 (λk=>hn ⟨h,k⟩)
theorem aRl {H : Nat} {L : List Int} (hL : aHl H L) (hv : aKc H v) : aHl H (aDG L v):=by
 unfold aDG;split
 ·rename_i h
  refine ⟨List.nodup_append.2 ⟨hL.nd,by simp,λa ha b hb=>?_⟩,λx hx=>?_⟩
  ·simp at hb;subst hb;rintro rfl;exact h.2 ha
  ·rcases List.mem_append.1 hx with hx | hx
   ·exact hL.lt x hx
   ·simp at hx;subst hx;exact hv h.1
 ·exact hL
theorem xD {x : Int} : ∀ {l : List eR} {L : List Int},x∈L→x∈aKb L l
 | [],_,h=>h
 | v::r,_,h=>xD (l:=r) (aJA h)
theorem aFL {v : eR} (hk : v.k=4) : ∀ {l : List eR} {L : List Int},v∈l→v.n∈aKb L l
 | a::r,L,h=>by
   rcases List.mem_cons.1 h with rfl | h
   ·exact xD (l:=r) (aOp hk)
   ·exact aFL hk (l:=r) h
theorem aFj {H : Nat} : ∀ {l : List eR} {L : List Int},aHl H L→(∀ v∈l,aKc H v)→aHl H (aKb L l)
 | [],_,h,_=>h
 | v::r,_,h,hv=>aFj (l:=r) (aRl h (hv v List.mem_cons_self)) (λx hx=>hv x (List.mem_cons_of_mem _ hx))
theorem aDj {hp : List (List eR)} {x : Int} : ∀ {d i : Nat} {L : List Int},x∈L→x∈aDi hp d i L
 | 0,_,_,h=>h
 | d+1,i,L,h=>by
   unfold aDi;split
   ·exact aDj (xD h)
   ·exact h
theorem aOq {H : Nat} {hp : List (List eR)} (hh : ∀ r∈hp,∀ v∈r,aKc H v) : ∀ {d i : Nat} {L : List Int},aHl H L→aHl H (aDi hp d i L)
 | 0,_,_,h=>h
 | d+1,i,L,h=>by
   unfold aDi;split
   ·refine aOq hh (aFj h (λv hv=>?_))
    unfold kB at hv
    cases hq : hp[(L[i]?.getD 0).toNat]? with
    | none=>rw [hq] at hv;cases hv
    | some r=>rw [hq] at hv;exact hh r (List.mem_of_getElem? hq) v hv
   ·exact h
def aTf (hp : List (List eR)) (L : List Int) (n : Nat) : Prop:=∀ j : Nat,j<n→j<L.length→∀ v∈kB hp (L[j]?.getD 0),v.k=4→v.n∈L
theorem aUq {l : List eR} : ∀ {L : List Int} {j : Nat},j<L.length→(aKb L l)[j]? = L[j]?:=by
 induction l with
 | nil=>intro L j _;rfl
 | cons v r ih=>
   intro L j hj
   show (aKb (aDG L v) r)[j]? = _
   have h2 : j<(aDG L v).length:=by
    unfold aDG;split
    ·simp;omega
    ·exact hj
   rw [ih h2]
   unfold aDG;split
   ·rw [List.getElem?_append_left hj]
   ·rfl
theorem aGn {H : Nat} {hp : List (List eR)} (hh : ∀ r∈hp,∀ v∈r,aKc H v) : ∀ {d i : Nat} {L : List Int},aHl H L→H≤i+d→aTf hp L i→aTf hp (aDi hp d i L) (aDi hp d i L).length
 | 0,i,L,h,hd,hc=>λj hj hl=>hc j (by have:=h.len;have : j<L.length:=hj;omega) hl
 | d+1,i,L,h,hd,hc=>by
   unfold aDi;split
   ·rename_i hi
    have hvv : ∀ v∈kB hp (L[i]?.getD 0),aKc H v:=λv hv=>by
     unfold kB at hv
     cases hq : hp[(L[i]?.getD 0).toNat]? with
     | none=>rw [hq] at hv;cases hv
     | some r=>rw [hq] at hv;exact hh r (List.mem_of_getElem? hq) v hv
    refine aGn hh (aFj h hvv) (by omega) (λj hj hl v hv hk=>?_)
    have hjL : j<L.length:=by omega
    rw [aUq hjL] at hv
    rcases Nat.lt_or_ge j i with h1 | h1
    ·exact xD (hc j h1 hjL v hv hk)
    ·have : j=i:=by omega
     subst this
     exact aFL hk hv
   ·rename_i hi
    exact λj hj hl=>hc j (by omega) hl
def aRm (H : Nat) (L : List Int) : List Nat:=(List.range H).filter λ(i : Nat)=>decide ((i : Int)∈L)
def aYi (L : List Int) (i : Nat) : Int:=(aRm i L).length
def aVY (L : List Int) (v : eR) : eR:=if v.k=4 then ⟨v.k,aYi L v.n.toNat,v.s⟩ else v
def aYE (L : List Int) (f : dC) : dC:=⟨f.f,f.pc,f.loc.map (aVY L),f.stk.map (aVY L)⟩
def aYj (v : mL) (L : List Int) : mL:=
 { v with fr:=v.fr.map (aYE L),hp:=(aRm v.hp.length L).map λi=>(v.hp[i]?.getD []).map (aVY L),val:=aVY L v.val}
def aYk (v : mL) : mL:=aYj v (aBW v)
variable {x : Int} {v : eR}
def aYl (N : List Int) (i : Int) : Int:=N[i.toNat]?.getD 0
def aRn (N L : List Int) (v : eR) : eR × List Int × List Int:=
 if v.k≠4 then (v,N,L) else if aYl N v.n<0 then (⟨v.k,L.length,v.s⟩,N.set v.n.toNat L.length,L++[v.n]) else (⟨v.k,aYl N v.n,v.s⟩,N,L)
def aXd (N L : List Int) : List eR→List eR × List Int × List Int
 | []=>([],N,L)
 | v::r=>((aRn N L v).1::(aXd (aRn N L v).2.1 (aRn N L v).2.2 r).1,(aXd (aRn N L v).2.1 (aRn N L v).2.2 r).2)
section
variable {P : R → Prop} {k : R → OR} {T : PV}
def aHm (H : Nat) (l : List eR) : Prop:=∀ v∈l,aKc H v
end
def aXK (L : List Int) (x : Int) : Int:=if x∈L then (L.idxOf x : Nat) else -1
def aYU (H : Nat) (L : List Int) : List Int:=(List.range H).map λ(i : Nat)=>aXK L (i : Int)
def mvL (H : Nat) (L : List Int) : List Int:=(List.range H).map λi=>aYi L i
section
variable {P : R → Prop} {m : fO} {v : mL}
structure aUr (v : mL) : Prop where
 h : v.hp.length≤120
 nf : v.fr.length≤24
 fl : ∀ f∈v.fr,f.loc.length≤100∧f.stk.length≤100∧aHm v.hp.length f.loc∧aHm v.hp.length f.stk
 hr : ∀ r∈v.hp,r.length≤100∧aHm v.hp.length r
 vl : aKc v.hp.length v.val
abbrev fr0 (v : mL) : PV:=.lst (v.fr.map dC.pv)
abbrev hp0 (v : mL) : PV:=.lst (v.hp.map bQ)
abbrev aZb (v : mL) : PV:=.lst (v.out.map PV.str)
theorem aUs (g : aUr v) {i : Int} (h : 0≤i∧i<v.hp.length) : ∃ j : Nat,∃ hj : j<v.hp.length,i=j∧kB v.hp i=v.hp[j]∧v.hp[j].length≤100∧aHm v.hp.length v.hp[j]:=by
 obtain ⟨j,rfl⟩:=Int.eq_ofNat_of_zero_le h.1
 have hj : j<v.hp.length:=by omega
 obtain ⟨h1,h2⟩:=g.hr _ (List.getElem_mem hj)
 exact ⟨j,hj,rfl,by unfold kB;rw [Int.toNat_natCast,List.getElem?_eq_getElem hj];rfl,h1,h2⟩
end
variable {v : mL}
theorem aPy {m : fO} {n : Nat} {l : List eR} (h : ∀ y∈l,oD m n y) : aHm n l:=λy hy=>aTe (h y hy)
theorem aIB {m : fO} (g : fF m) (h : VmI m v) : ∀ f∈v.fr,FrI m v.hp.length f∧f.loc.length≤100∧f.stk.length≤100:=λf hf=>by
 rcases List.eq_nil_or_concat v.fr with h0 | ⟨fs0,f0,h0⟩
 ·rw [h0] at hf;cases hf
 ·obtain ⟨t,l⟩:=h.top fs0 f0 (by rw [h0];simp)
  rw [h0] at hf
  simp only [List.concat_eq_append,List.mem_append,List.mem_singleton] at hf
  rcases hf with hf | rfl
  ·have i:=(l f hf).toFrI
   have:=i.small g
   have:=i.dle g
   have:=(l f hf).h
   exact ⟨i,by omega,by omega⟩
  ·have:=t.toFrI.small g
   have:=t.toFrI.dle g
   have:=t.h
   exact ⟨t.toFrI,by omega,by omega⟩
theorem aWW {m : fO} (g : fF m) (k : VmK m v) : aUr v:=by
 have hm:=k.hp.made
 refine ⟨by omega,k.nfr,λf hf=>?_,λr hr=>?_,aTe k.vok⟩
 ·obtain ⟨I,s1,s2⟩:=aIB g k.toVmI f hf
  exact ⟨s1,s2,aPy I.vl,aPy I.vs⟩
 ·obtain ⟨h1,h2⟩:=k.hp.recs r hr
  exact ⟨by omega,aPy h2⟩
open Classical in
def aYV (m : fO) (v : mL) : mL:=if aNz m v then aYk v else vmZ
section
variable {P : R → Prop} {m : fO}
end
variable {f : dC}
def aAV (L : List Int) (l : List eR) : Prop:=∀ y∈l,y.k=4→y.n∈L
theorem aUt {x : Int} {L : List Int} (h : x∈L) : x∈aOo L f:=xD (xD h)
theorem aJB {x : Int} : ∀ {fs : List dC} {L : List Int},x∈L→x∈fs.foldl aOo L
 | [],_,h=>h
 | _::r,_,h=>aJB (fs:=r) (aUt h)
theorem aJC {f : dC} : ∀ {fs : List dC} {L : List Int},f∈fs→aAV (fs.foldl aOo L) f.loc∧aAV (fs.foldl aOo L) f.stk
 | a::r,L,h=>by
   rcases List.mem_cons.1 h with rfl | h
   ·exact ⟨λy hy hk=>aJB (fs:=r) (xD (aFL hk hy)),λy hy hk=>aJB (fs:=r) (aFL hk hy)⟩
   ·exact aJC (fs:=r) h
section
variable {v : mL}
theorem aRo {H : Nat} : ∀ {fs : List dC} {L : List Int},(∀ f∈fs,aHm H f.loc∧aHm H f.stk)→aHl H L→aHl H (fs.foldl aOo L)
 | [],_,_,h=>h
 | a::r,L,hf,h=>aRo (fs:=r) (λf h=>hf f (List.mem_cons_of_mem _ h)) (aFj (aFj h (hf a List.mem_cons_self).1) (hf a List.mem_cons_self).2)
theorem aOr (g : aUr v) : aHl v.hp.length (aVX v):=aRl (aRo (λf hf=>(g.fl f hf).2.2) ⟨List.nodup_nil,(λx h=>by cases h)⟩) g.vl
theorem aUu (g : aUr v) : aHl v.hp.length (aBW v):=aOq (λr hr=>(g.hr r hr).2) (aOr g)
theorem aPz (hf : f∈v.fr) : aAV (aBW v) f.loc∧aAV (aBW v) f.stk:=
 ⟨λy hy hk=>aDj (aJA ((aJC hf).1 y hy hk)),λy hy hk=>aDj (aJA ((aJC hf).2 y hy hk))⟩
theorem aUv : aAV (aBW v) [v.val]:=λy hy hk=>by
 rw [List.mem_singleton] at hy;subst hy
 exact aDj (aOp hk)
theorem aSt (g : aUr v) {j : Nat} (hj : j<v.hp.length) (hm : (j : Int)∈aBW v) : aAV (aBW v) v.hp[j]:=λy hy hk=>by
 obtain ⟨p,hp,he⟩:=List.getElem_of_mem hm
 have c:=aGn (H:=v.hp.length) (hp:=v.hp) (λr hr=>(g.hr r hr).2) (d:=v.hp.length) (i:=0) (aOr g) (by omega) (λj hj=>by omega)
 refine c p hp hp y ?_ hk
 show y∈kB v.hp ((aBW v)[p]?.getD 0)
 rw [List.getElem?_eq_getElem hp,Option.getD_some,he]
 unfold kB
 rw [Int.toNat_natCast,List.getElem?_eq_getElem hj]
 exact hy
end
section
variable {P : R → Prop} {k : R → OR}
end
variable {y : Int}
section
variable {P : R → Prop} {k : R → OR}
abbrev aYW (H : Nat) (L : List Int) : List Int:=(aRm H L).map Int.ofNat
end
section
variable {v : mL}
abbrev aYX (v : mL) (L : List Int) : List (List eR):=(aRm v.hp.length L).map λi=>v.hp[i]?.getD []
abbrev aYY (v : mL) (L : List Int) : List (List eR):=(aRm v.hp.length L).map λi=>(v.hp[i]?.getD []).map (aVY L)
end
section
variable {P : R → Prop} {m : fO}
end
variable {x : Int} {Q : List Int}
def rnV (P : List Int) (v : eR) : eR:=if v.k=4 then ⟨v.k,aXK P v.n,v.s⟩ else v
def rnF (P : List Int) (f : dC) : dC:=⟨f.f,f.pc,f.loc.map (rnV P),f.stk.map (rnV P)⟩
def rnT (P : List Int) (v : mL) : mL:={ v with fr:=v.fr.map (rnF P),hp:=P.map λp=>(kB v.hp p).map (rnV P),val:=rnV P v.val}
def aYG (v : mL) : mL:={ rnT (aBW v) v with steps:=0}
structure Cov (v : mL) (P : List Int) : Prop where
 nd : P.Nodup
 lt : ∀ x∈P,0≤x∧x<v.hp.length
 fr : ∀ f∈v.fr,aAV P f.loc∧aAV P f.stk
 vl : aAV P [v.val]
 hp : ∀ p∈P,aAV P (kB v.hp p)
theorem aWX {P : List Int} (h : x∈P) : aXK P x=(P.idxOf x : Nat)∧P.idxOf x<P.length:=⟨if_pos h,List.idxOf_lt_length_of_mem h⟩
theorem aUw {L P : List Int} (h : L.Nodup) (hs : ∀ x∈L,x∈P) : L.length≤P.length:=List.Nodup.length_le_of_subset h hs
section
variable {P : List Int}
structure Am (P L : List Int) : Prop where
 nd : L.Nodup
 sub : ∀ x∈L,x∈P
theorem Am.len {L : List Int} (h : Am P L) : L.length≤P.length:=aUw h.nd h.sub
variable {v : mL}
theorem Cov.len (c : Cov v P) : P.length≤v.hp.length:=aHl.len ⟨c.nd,c.lt⟩
end
variable {x : Int} {l : List eR} {y : eR} {n : Nat} {P : List Int}
section
variable {v : mL} {m : fO}
theorem aWY {hp : List (List eR)} {i : Nat} : kB hp (i : Int)=hp[i]?.getD []:=by unfold kB;rw [Int.toNat_natCast]
theorem aUx (g : aUr v) : Cov v (aBW v):=by
 have h:=aUu g
 refine ⟨h.nd,h.lt,λf hf=>aPz hf,aUv,λp hp=>?_⟩
 have hx:=h.lt p hp
 obtain ⟨j,hj,rfl,hf,_,_⟩:=aUs g hx
 rw [hf]
 exact aSt g hj hp
theorem aPA (h : oD m n y) (hy : y.k=4→y.n∈P) : oD m P.length (rnV P y):=by
 unfold rnV
 by_cases hk : y.k=4
 ·rw [if_pos hk]
  obtain ⟨h1,h2⟩:=aWX (hy hk)
  unfold oD cW at h ⊢
  dsimp only
  split at h
  ·cases h
  ·rename_i hs
   rw [if_neg hs,eV,eV,eV,eV,if_pos hk]
   simp only [Bool.and_eq_true,decide_eq_true_eq]
   omega
 ·rw [if_neg hk]
  unfold oD cW at h ⊢
  rw [if_neg hk] at h ⊢
  exact h
theorem FrI.rn {f : dC} (i : FrI m n f) (h1 : aAV P f.loc) (h2 : aAV P f.stk) : FrI m P.length (rnF P f):=
 ⟨i.fi,i.pc,by show ((f.loc.map _).length : Int)=_;rw [List.length_map];exact i.loc,i.d,
  λy hy=>by obtain ⟨a,ha,rfl⟩:=List.mem_map.1 (show y∈f.loc.map (rnV P) from hy);exact aPA (i.vl a ha) (h1 a ha),
  λy hy=>by obtain ⟨a,ha,rfl⟩:=List.mem_map.1 (show y∈f.stk.map (rnV P) from hy);exact aPA (i.vs a ha) (h2 a ha)⟩
theorem VmK.rn {P : List Int} (k : VmK m v) (c : Cov v P) : VmK m (rnT P v):=by
 have hl:=c.len
 have hm:=k.hp.made
 have hlen : (rnT P v).hp.length=P.length:=List.length_map _
 refine ⟨⟨⟨?_,λr hr=>?_,k.hp.out⟩,k.steps,?_,λh0=>?_,λfs0 f hf=>?_⟩,k.outs,?_,?_⟩
 ·rw [hlen];exact ⟨by have:=hm.1;show (P.length : Int)≤v.made;omega,hm.2⟩
 ·rw [hlen]
  obtain ⟨p,hp,rfl⟩:=List.mem_map.1 (show r∈P.map (λp=>(kB v.hp p).map (rnV P)) from hr)
  have hx:=c.lt p hp
  have hn:=c.hp p hp
  obtain ⟨j,rfl⟩:=Int.eq_ofNat_of_zero_le hx.1
  have hj : j<v.hp.length:=by omega
  have e : kB v.hp (j : Int)=v.hp[j]:=by rw [aWY,List.getElem?_eq_getElem hj];rfl
  rw [e] at hn ⊢
  obtain ⟨q1,q2⟩:=k.hp.recs _ (List.getElem_mem hj)
  refine ⟨by rw [List.length_map];exact q1,λy hy=>?_⟩
  obtain ⟨a,ha,rfl⟩:=List.mem_map.1 hy
  exact aPA (q2 a ha) (hn a ha)
 ·show (v.fr.map _).length≤24
  rw [List.length_map];exact k.nfr
 ·show v.fr.map (rnF P)≠[]
  intro e
  exact k.run h0 (List.map_eq_nil_iff.1 e)
 ·rw [hlen]
  have hf : v.fr.map (rnF P)=fs0++[f]:=hf
  obtain ⟨l1,l2,e0,rfl,e2⟩:=List.map_eq_append_iff.1 hf
  obtain ⟨a,r,rfl,rfl,e4⟩:=List.map_eq_cons_iff.1 e2
  cases List.map_eq_nil_iff.1 e4
  obtain ⟨t,low⟩:=k.top l1 a e0
  have ca:=c.fr a (by rw [e0];simp)
  refine ⟨⟨t.toFrI.rn ca.1 ca.2,by show ((a.stk.map _).length : Int)=_;rw [List.length_map];exact t.h⟩,λb hb=>?_⟩
  obtain ⟨b,hb2,rfl⟩:=List.mem_map.1 hb
  have cb:=c.fr b (by rw [e0];exact List.mem_append_left _ hb2)
  have lo:=low b hb2
  exact ⟨lo.toFrI.rn cb.1 cb.2,lo.low,by show ((b.stk.map _).length : Int)=_;rw [List.length_map];exact lo.h⟩
 ·rw [hlen];exact aPA k.vok (λhk=>c.vl _ List.mem_cons_self hk)
 ·have hv : v.val=eQ→rnV P v.val=eQ:=λh=>by rw [h];rfl
  have hf : v.fr = []→v.fr.map (rnF P) = []:=λh=>by rw [h];rfl
  rcases k.end_ with ⟨a,b,d⟩ | ⟨a,b,d,e,f⟩ | ⟨a,b,d⟩
  ·exact .inl ⟨a,b,hv d⟩
  ·exact .inr (.inl ⟨a,b,d,hv e,λh=>f (List.map_eq_nil_iff.1 h)⟩)
  ·exact .inr (.inr ⟨a,b,hf d⟩)
theorem VmK.can (g : fF m) (k : VmK m v) : VmK m (aYG v):=by
 have r:=k.rn (aUx (aWW g k))
 exact ⟨⟨r.hp,⟨Int.le_refl 0,by show (0 : Int)≤50000;omega⟩,r.nfr,r.run,r.top⟩,r.outs,r.vok,r.end_⟩
end
variable {y a b : eR} {l : List eR} {i : Nat} {fr : dC} {made pc o : Int} {out : List ByteArray}
def Nm (P : List Int) (y : eR) : Prop:=y.k=4→y.n∈P
def rnH (P : List Int) (hp : List (List eR)) : List (List eR):=P.map λp=>(kB hp p).map (rnV P)
def rnA (P : List Int) : aIn→aIn
 | .trap c=>.trap c
 | .next fr hp made out=>.next (rnF P fr) (rnH P hp) made out
 | .call fr g=>.call (rnF P fr) (rnF P g)
 | .ret a=>.ret (rnV P a)
def NmF (P : List Int) (f : dC) : Prop:=aAV P f.loc∧aAV P f.stk
structure Pl (P : List Int) (hp : List (List eR)) : Prop where
 nd : P.Nodup
 lt : ∀ x∈P,0≤x∧x<hp.length
 hp : ∀ p∈P,aAV P (kB hp p)
def okA (P : List Int) : aIn→Prop
 | .trap _=>True
 | .next fr hp _ _=>NmF P fr∧Pl P hp
 | .call fr g=>NmF P fr∧NmF P g
 | .ret a=>Nm P a
def Res (P : List Int) (H : Nat) (D D' : aIn) : Prop:=(okA P D∧D'=rnA P D)∨((∃ fr hp made out,D = .next fr hp made out)∧okA (P++[(H : Int)]) D∧D'=rnA (P++[(H : Int)]) D)
section
variable {P : List Int} {H : Nat} {hp : List (List eR)}
end
variable {z p n g : Int} {l r args : List eR} {k : Nat} {fs : List eJ}
section
variable {P : List Int} {hp : List (List eR)}
theorem Pl.len (h : Pl P hp) : P.length≤hp.length:=aHl.len ⟨h.nd,h.lt⟩
end
variable {fs0 : List dC}
section
variable {P : List Int} {v : mL} {m : fO}
end
variable {T : List Int} {i : Nat}
section
variable {v : mL}
end
theorem aVZ {s : ByteArray} (h : fA s=true) : s.size≤60:=by
 unfold fA at h
 simp only [Bool.and_eq_true,decide_eq_true_eq] at h
 omega
theorem VmK.tofine {m : fO} {v : mL} (g : fF m) (k : VmK m v) : v.fine:=by
 have z:=k.toVmI.sz g
 refine ⟨z.few,?_,λs hs=>?_,λf hf y hy=>?_,λr hr y hy=>?_⟩
 ·have:=dE k.vok;omega
 ·have:=aVZ (k.outs s hs);omega
 ·obtain ⟨I,_,_⟩:=aIB g k.toVmI f hf
  rcases List.mem_append.1 hy with hy | hy
  ·have:=dE (I.vl y hy);omega
  ·have:=dE (I.vs y hy);omega
 ·have:=dE ((k.hp.recs r hr).2 y hy);omega
section
variable {P : R → Prop} {m : fO}
end
section
variable {l : List Int} {P : R → Prop}
end
variable {v : mL} {fs0 : List dC} {f : dC} {p : List hY} {k : PV → OR} {a b : Int}
section
variable {P : R → Prop} {m : fO}
theorem aUy (g : fF m) (h : VmI m v) (h0 : v.st=0) (hf : v.fr=fs0++[f]) (hp : sC m p) {b1 b2 b3 b4 b5 b6 b7 b8 : PV} :
 Ok (λr=>gd r 10=bN (aAT m p f))
  (aBL (.lst (m.texts.map PV.str)) (.lst (m.funcs.map eJ.pv)) (.lst (v.fr.map dC.pv)) b1 b2 b3 (.I v.st) b4 b5 b6 b7 b8 (bN p)):=by
 have hl:=hp.len
 obtain ⟨t,_⟩:=h.top fs0 f hf
 rw [aJh]
 refine dD (λhn=>absurd h0 hn) (λ_=>?_)
 refine aQ5 g h hf ?_
 unfold aAT
 cases hs : aA0 m f with
 | none=>exact eF rfl (gZ (jG (aV9 (aA rfl))))
 | some s=>
   obtain ⟨e1,e2,es⟩:=aAU g t hs
   refine eF rfl (gZ (jG (vR ?_)))
   obtain ⟨c,c1,c2,c3,c4⟩:=aE9 hp.pr s
   have hkey:=aOk hp.pr c2 c3
   refine aI (aTc (by omega) c1 c2 c3) (λr hr=>?_)
   subst hr
   refine eF rfl (gZ (gC (λhx=>?_) (λhx=>?_)))
   ·obtain ⟨hc,hk⟩:=hx
    refine eH (by omega) (by rw [List.length_map];omega) (aQ hc (λ_=>rfl) (aFa (hp.ok _ (List.getElem_mem hc)) es hk (eH (by omega) (by rw [List.length_map];omega) (aD6 (by omega) (by rw [List.length_map];omega) rfl (aA ?_)))))
    have ha : aHi p s=true:=hkey.2 ⟨hc,hk⟩
    dsimp only
    rw [if_neg (by rw [ha];simp),c4,dif_pos hc,if_pos hk,Int.toNat_natCast]
    unfold bN
    rw [List.map_set]
    rfl
   ·have ha : aHi p s=false:=by
     cases ha : aHi p s with
     | false=>rfl
     | true=>exact absurd (hkey.1 ha) hx
    have e4 : qF (dU m s.f s.pc).o p s=p.take c++s::p.drop c:=by
     rw [c4]
     split
     ·rename_i hc;rw [if_neg (λhk=>hx ⟨hc,hk⟩)]
     ·rfl
    refine aF (aO (λh150=>?_) (λh150=>aA ?_))
    ·refine aJy c1 (by omega) (aA ?_)
     dsimp only
     rw [eV,e4];rfl
    ·dsimp only
     rw [if_pos ⟨by omega,ha⟩];rfl
theorem aJD (g : fF m) (hp : sC m p) : aMC m p=true:=by
 unfold aMC
 rw [g.b,aFK.2 ⟨hp.len,hp.srt⟩];rfl
open Classical in
theorem aRp {k : R→OR} (g : fF m) (K : VmK m v) (h0 : v.st=0) (hf : v.fr=fs0++[f]) (hp : sC m p) (hk : Ok P (k [bN (aAT m p f)])) : Ok P (bd (aCT m.pv (bN p) v.pv) k):=by
 refine aI (Q:=λr=>r = [bN (aAT m p f)]) ?_ (λr hr=>by rw [hr];exact hk)
 have hl:=hp.len
 rw [aKs]
 refine dY (tS ?_)
 refine aE8 g.sz (by omega) ?_
 rw [aJD g hp]
 refine vR (aI (aRj g.sz (K.tofine g)) (λr hr=>?_))
 rw [hr,decide_eq_true (show aNz m v from ⟨g,K⟩)]
 refine vR (aI (aKa (by omega)) (λr hr=>?_))
 rw [hr]
 refine gD (rK _) (aI (aUy g K.toVmI h0 hf hp) (λr hr=>aA ?_))
 rw [hr]
theorem aBy (hf : v.fr=fs0++[f]) {i : Int} (hi : i=fs0.length) (h : Ok P (k f.pv)) : Ok P (bd (aB 4 true (.lst (v.fr.map dC.pv)) (.I i)) k):=by
 subst hi
 have h1 : fs0.length<v.fr.length:=by rw [hf];simp
 refine aQ h1 (λ_=>rfl) ?_
 have e : v.fr[fs0.length]=f:=by simp [hf]
 rw [e];exact h
def aYm (a b : Int) : Int:=IntKind.i64.wrap (BitVec.ofInt IntKind.i64.bits a&&& BitVec.ofInt IntKind.i64.bits b).toNat
theorem aWZ (h : Ok P (k (.I (aYm a b)))) : Ok P (bd (aD .and (.I a) (.I b)) k):=
 eZ _ (by rw [mC (by simp) (by simp)];rfl) h
theorem aPB (h : (a=1∧b=1)∨(a=3∧b=1)∨(a=2∧b=2)∨(a=3∧b=2)) (hk : Ok P (k (.I b))) : Ok P (bd (aD .and (.I a) (.I b)) k):=by
 have e : aYm a b=b:=by
  rcases h with ⟨rfl,rfl⟩ | ⟨rfl,rfl⟩ | ⟨rfl,rfl⟩ | ⟨rfl,rfl⟩<;>decide
 exact aWZ (by rw [e];exact hk)
theorem aUz {nf recs : Int} {v : eR} (h : cW nf recs v=true) (h5 : v.k=5) : kV v.s (bs [])=true:=by
 unfold cW at h
 split at h
 ·cases h
 ·rename_i hn
  cases hs : kV v.s (bs []) with
  | true=>rfl
  | false=>exact absurd ⟨by omega,hs⟩ hn
theorem aMQ (g : fF m) {n : Nat} (hn : n≤60) {p : List hY} (hp : p.length≤150) : ∀ (j i : Nat) (q : List hY) (v : mL),i+j=n→VmK m v→sC m q→q.length≤i→p=zC m j q v→
 Ok (λr=>r = [.bool true]) (iE (.I n) (.I i) (.lst (m.texts.map PV.str)) (.lst (m.funcs.map eJ.pv)) (.I v.made) (.I v.st) (.I v.tr) (.I v.val.k) (.I v.val.n) (.str v.val.s) (.I v.steps) (bN p) (.lst (v.fr.map dC.pv)) (.lst (v.hp.map bQ)) (.lst (v.out.map PV.str)) (bN q))
 | 0,i,q,v,hi,K,hq,hl,e=>by
   have e : p=q:=e
   subst e
   rw [vT]
   exact aO (λh=>by omega) (λ_=>aIz (by omega) (eF rfl (aA rfl)))
 | j+1,i,q,v,hi,K,hq,hl,e=>by
   rw [vT]
   refine aO (λ_=>?_) (λh=>by omega)
   unfold zC at e
   refine aJ (λh0=>?yes) (λh0=>?no)
   case no=>
    rw [if_neg h0] at e
    subst e
    exact aIz (by omega) (eF rfl (aA rfl))
   rw [if_pos h0] at e
   have I:=K.toVmI
   obtain ⟨fs0,f,G⟩:=I.goes g h0
   have hf:=G.fr
   obtain ⟨t,_⟩:=I.top fs0 f hf
   rw [hf,List.getLast?_append] at e
   have e : p=zC m j (aAT m q f) (iZ m v):=e
   have hfl : v.fr.length=fs0.length+1:=by rw [hf];simp
   have hnf:=I.nfr
   obtain ⟨s1,s2,s3⟩:=aML g t
   have hq':=aFc g t hq
   have hcov : ∀ s,aA0 m f=some s→aKK (dU m f.f f.pc).o (uC p f.f f.pc) s:=λs hs=>by
    obtain ⟨a1,a2,_⟩:=aAU g t hs
    obtain ⟨a,k1,k2⟩:=aQ9 g j hq' (I.step g) (aWU g t hq (by omega) hs)
    rw [← e,a1,a2] at k1
    rw [aUi k1]
    unfold opS at k2
    rw [a1,a2] at k2
    exact k2
   have ol:=aWT (m:=m) (p:=q) (f:=f)
   have tail : Ok (λr=>r = [.bool true]) (iE (.I n) (.I ((i : Int)+1)) (.lst (m.texts.map PV.str)) (.lst (m.funcs.map eJ.pv)) (.I (iZ m v).made) (.I (iZ m v).st) (.I (iZ m v).tr) (.I (iZ m v).val.k) (.I (iZ m v).val.n) (.str (iZ m v).val.s) (.I (iZ m v).steps) (bN p) (.lst ((iZ m v).fr.map dC.pv)) (.lst ((iZ m v).hp.map bQ)) (.lst ((iZ m v).out.map PV.str)) (bN (aAT m q f))):=
    aMQ g hn hp j (i+1) _ (iZ m v) (by omega) (K.step g) hq' (by omega) e
   have estep : aRk m v=iZ m v:=by
    unfold aRk
    rw [if_pos ⟨g,K⟩]
   have hstep : Ok (λr=>r=oC (iZ m v)) (aAb m.pv v.pv):=by
    rw [← estep];exact aSs g.sz (K.tofine g)
   refine aF (dS (eH (by omega) (by rw [List.length_map];omega) (aBy hf (by omega) (aL rfl (aL rfl ?_)))))
   refine sZ t.fi (λlc=>aL rfl (uB t.pc (aL rfl ?_)))
   refine aRp g K h0 hf hq (gD (rK _) (aSe (by omega) (eF rfl (jG (aBy hf (by omega) (aL rfl (aF ?_)))))))
   generalize hA : uC p f.f f.pc=A at hcov
   have c27 : Ok (λr=>r = [.bool true]) (gL (.I n) (.I i) (.I (dU m f.f f.pc).o) (.I f.stk.length) (.lst (m.texts.map PV.str)) (.lst (m.funcs.map eJ.pv)) (.I v.made) (.I v.st) (.I v.tr) (.I v.val.k) (.I v.val.n) (.str v.val.s) (.I v.steps) (.I f.f) (.I f.pc) (.I ((v.fr.length : Int) - 1)) (.I ((v.fr.length : Int) - 1)) (.I A.f) (.I A.pc) (.I A.seen) (.I A.tgt) (bN p) (.lst (v.fr.map dC.pv)) (.lst (v.hp.map bQ)) (.lst (v.out.map PV.str)) (bN (aAT m q f))):=by
    rw [aDK]
    refine aJ (λh23=>aJ (λhA1=>?_) (λ_=>?_)) (λ_=>?_)
    ·obtain ⟨b1,b2,b3⟩:=s2 h23
     refine dS (sZ t.fi (λlc=>aL rfl (uB t.pc (aL rfl (dS (aBy hf (by omega) (aL rfl (eH (by omega) (by rw [List.length_map];omega) (aBy hf (by omega) (aL rfl (aDg (by omega) (by omega) (bJ rfl (cB ?_)))))))))))))
     refine aRe (b:=⟨5,A.tgt,bs []⟩) ?_
     have hv : oD m v.hp.length (aCr f (f.stk.length - 1 - (dU m f.f f.pc).a)):=by
      refine t.vs _ ?_
      unfold aCr
      rw [List.getElem?_eq_getElem (show (f.stk.length - 1 - (dU m f.f f.pc).a).toNat<f.stk.length by omega)]
      exact List.getElem_mem _
     generalize hx : aCr f (f.stk.length - 1 - (dU m f.f f.pc).a)=x at hv
     by_cases h5 : x.k=5
     ·have hc:=hcov ⟨f.f,f.pc,1,x.n⟩ (by unfold aA0;rw [if_pos h23,hx,if_pos h5])
      rw [h23] at hc
      have hc : A.seen=1→((1 : Int)=1∧A.tgt=x.n):=by
       unfold aKK at hc
       rwa [if_pos rfl] at hc
      have ht:=(hc hA1).2
      have hb : (!(decide (x.k=(⟨5,A.tgt,bs []⟩ : eR).k)&&(decide (x.n=(⟨5,A.tgt,bs []⟩ : eR).n)&&kV x.s (⟨5,A.tgt,bs []⟩ : eR).s)))=false:=by
       dsimp only
       rw [aUz hv h5,decide_eq_true h5,decide_eq_true ht.symm];rfl
      rw [hb]
      refine bP (aI hstep (λr hr=>?_))
      rw [hr]
      exact pF (bS tail)
     ·have hc:=hcov ⟨f.f,f.pc,2,0⟩ (by unfold aA0;rw [if_pos h23,hx,if_neg h5])
      rw [h23] at hc
      have hc : A.seen=1→((2 : Int)=1∧A.tgt=0):=by
       unfold aKK at hc
       rwa [if_pos rfl] at hc
      exact absurd (hc hA1).1 (by decide)
    ·refine aI hstep (λr hr=>?_)
     rw [hr]
     exact pF (bS tail)
    ·refine aI hstep (λr hr=>?_)
     rw [hr]
     exact pF (bS tail)
   have c24 : 11≤(dU m f.f f.pc).o∧(dU m f.f f.pc).o≤14→Ok (λr=>r = [.bool true]) (jP (.I n) (.I i) (.I (dU m f.f f.pc).o) (.I f.stk.length) (.lst (m.texts.map PV.str)) (.lst (m.funcs.map eJ.pv)) (.I v.made) (.I v.st) (.I v.tr) (.I v.val.k) (.I v.val.n) (.str v.val.s) (.I v.steps) (.I f.f) (.I f.pc) (.I ((v.fr.length : Int) - 1)) (.I ((v.fr.length : Int) - 1)) (.I A.f) (.I A.pc) (.I A.seen) (.I A.tgt) (bN p) (.lst (v.fr.map dC.pv)) (.lst (v.hp.map bQ)) (.lst (v.out.map PV.str)) (bN (aAT m q f))):=λho=>by
    have h2:=s3 ho
    have hno : ¬ (dU m f.f f.pc).o=23:=by omega
    have co : ∀ s,aA0 m f=some s→(s.seen=1→A.seen=1∨A.seen=3)∧(s.seen=2→A.seen=2∨A.seen=3):=λs hs=>by
     have:=hcov s hs
     unfold aKK at this
     rwa [if_neg hno] at this
    rw [aDJ]
    refine dS (aBy hf (by omega) (aL rfl (eH (by omega) (by rw [List.length_map];omega) (aBy hf (by omega) (aL rfl (aDg (by omega) (by omega) (aL rfl ?_)))))))
    have two : ¬ ((aCr f (f.stk.length - 1)).k=1∧(aCr f (f.stk.length - 2)).k=1)→(A.seen=2∨A.seen=3):=λhh=>(co ⟨f.f,f.pc,2,0⟩ (by unfold aA0;rw [if_neg hno,if_pos ho,if_neg hh])).2 rfl
    refine aJ (λk1=>?_) (λk1=>?_)
    ·refine dS (aBy hf (by omega) (aL rfl (eH (by omega) (by rw [List.length_map];omega) (aBy hf (by omega) (aL rfl (aDg (by omega) (by omega) (aL rfl ?_)))))))
     refine cL ?_
     refine gC (λk2=>?_) (λk2=>?_)
     ·have:=(co ⟨f.f,f.pc,1,0⟩ (by unfold aA0;rw [if_neg hno,if_pos ho,if_pos ⟨k1,k2⟩])).1 rfl
      exact aPB (by omega) (aJ (λh=>absurd h (by decide)) (λ_=>cD (eL (λh=>absurd k2 h) (λ_=>c27))))
     ·have:=two (λh=>k2 h.2)
      exact cD (eL (λ_=>aPB (by omega) (aJ (λh=>absurd h (by decide)) (λ_=>c27))) (λh=>absurd h k2))
    ·have:=two (λh=>k1 h.1)
     exact aPB (by omega) (aJ (λh=>absurd h (by decide)) (λ_=>c27))
   exact aJ (λh=>c24 (by omega)) (λ_=>aJ (λh=>c24 (by omega)) (λ_=>aJ (λh=>c24 (by omega)) (λ_=>aJ (λh=>c24 (by omega)) (λ_=>c27))))
end
section
variable {l : List Int}
theorem aJE (hl : Bts l) : Ok (λr=>∃ (m : fO) (args : List eR) (fuel : Int),r = [.tup [m.pv,bI args,.I fuel]]∧m.sized∧(∀ v∈args,v.s.size≤1000)∧args.length≤1000∧-1≤fuel∧fuel≤1000) (tV (cX l)):=by
 rw [aDL]
 refine aWE hl (λs hs=>aI (aQS hl (by omega)) ?_)
 rintro r ⟨a1,s1,m,rfl,h1,h2,h3,h4,hm,hm1,hm2⟩
 refine dY (aI (aQV hl hm hm1 (by omega)) ?_)
 rintro r ⟨a2,s2,vs,rfl,g1,g2,g3,g4,g5,g6⟩
 exact dA hl (by omega) (by omega) (λx a3 s3 h5=>dS (aA ⟨m,vs,_,rfl,hm,g5,by omega,by omega,by omega⟩))
theorem aIC {m : fO} {args : List eR} {fuel : Int} (hs : m.sized) (ha : ∀ v∈args,v.s.size≤1000) (hn : args.length≤1000) (hf1 : -1≤fuel) (hf2 : fuel≤60) :
 Ok (λr=>r = [.bool true]) (qH (bI args) (.I fuel) (.lst (m.texts.map PV.str)) (.lst (m.funcs.map eJ.pv))):=by
 rw [aEO]
 have ha2 : ∀ v∈args,v.s.size≤2097152:=λv hv=>by have:=ha v hv;omega
 have hn2 : args.length≤2097152:=by omega
 have G:=aPu hs args fuel
 have gl:=G.len
 refine aI (aUf hs ha2 hn2) (λr hr=>?_)
 rw [hr]
 refine gD (rK _) (aI (aUe hs ha2 hn2) (λr hr=>?_))
 rw [hr]
 refine gD (rK _) (aIz (by omega) (eF rfl (vR (aI (aJ8 hs ha2 hn2) (λr hr=>?_)))))
 rw [hr]
 refine aHh (cD ?_)
 have no : aAZ m args fuel=false→Ok (λr=>r = [.bool true]) (bd (aK (bN (lH m args fuel))) λv=>bd (aD .eql v (.I 0)) λw=>some [w]):=λh=>by
  have : lH m args fuel = []:=by unfold lH;rw [h];rfl
  rw [this]
  exact eS (cL (aA rfl))
 cases hb : lG m args with
 | false=>exact bF (no (by simp [aAZ,hb]))
 | true=>
   refine bP (aO (λhneg=>no ?_) (λhpos=>?_))
   ·have : mA fuel 0 50000=false:=by
     cases h : mA fuel 0 50000 with
     | false=>rfl
     | true=>rw [bT] at h;omega
    simp [aAZ,this]
   ·obtain ⟨g,K⟩:=aWV hs hb
    obtain ⟨n,rfl⟩:=Int.eq_ofNat_of_zero_le (show 0≤fuel by omega)
    have hr : aAZ m args n=true:=by
     simp only [aAZ,Bool.and_eq_true,bT]
     exact ⟨hb,by omega⟩
    have e : lH m args n=zC m n [] (lF m args):=by unfold lH;rw [hr];rfl
    generalize lH m args n=p at G gl e
    refine aE8 hs (by omega) ?_
    rw [aJD g G]
    refine eF rfl (vR (aI (aSm hs (by omega) (by omega)) (λr hr=>?_)))
    have em : aHj m p p=p:=by
     unfold aHj
     have:=aJD g G
     have h2 : aGl m p=true:=aFK.2 ⟨gl,G.srt⟩
     rw [if_pos (by rw [this,h2];rfl),aSl G.srt,eV]
    rw [hr,em]
    refine gD (rK _) (aIz (by omega) (eF rfl (vR ?_)))
    exact aMQ g (by omega) gl n 0 [] (lF m args) (by omega) K aFe (Nat.le_refl 0) e
theorem aSu (h0 : ∀ x∈l,0≤x∧x≤255) : aU 4 [cX l]=some [.bool true]:=by
 refine Ok.eq ?_
 show Ok _ (aEy (cX l))
 rw [aHS]
 refine aXA h0 (λhl=>bP ?_) (bF (aA rfl))
 refine aI (aJE hl) ?_
 rintro r ⟨m,args,fuel,rfl,hs,ha,hn,hf1,hf2⟩
 refine aXV (dY (iU (λh=>aIC hs ha hn (by omega) (by omega)) (λh=>aIC hs ha hn hf1 (by omega))))
end
end
noncomputable section
open Go Go.ChangeShapes Go.WideShapes Go.ChangeAt Go.RowKit
variable {w : World}
def aID (w : World) (a : Option Addr) (len cap : Nat) (zs : List Int) : Prop:=
 (a=none∧len=0∧cap=0∧zs = [])∨
 ∃ x,a=some x∧len≤cap∧cap≤maxLen∧zs.length=cap∧(∀ i,i<zs.length→w.cell? (x.add i)=some (.int .u8 (zs.getD i 0)))∧∀ n∈zs,(Lit.int .u8 n).wf=true
theorem cell_inv {a : Addr} {v : Value} (h : w.cell? a=some v) : a.spot=none∧∃ c e fz,w.heap[a.block]? = some (.cells c e fz)∧c[a.off]? = some v:=by
 unfold World.cell? at h
 split at h
 ·rename_i c e fz hc
  split at h
  ·cases h
  ·rename_i hs
   exact ⟨by simpa using hs,c,e,fz,hc,h⟩
 ·cases h
theorem aID.rep {a : Option Addr} {len cap : Nat} {zs : List Int} (h : aID w a len cap zs) : kX w (λr=>r<w.heap.size) (cX (zs.take len)) (.slice a len cap):=by
 rcases h with ⟨rfl,rfl,rfl,rfl⟩ | ⟨x,rfl,hl,_,hz,hc,_⟩
 ·exact .empty none 0
 ·by_cases h0 : len=0
  ·subst h0;exact .empty _ cap
  ·have hlen : ((zs.take len).map (PV.int .u8)).length=len:=by simp;omega
   obtain ⟨hsp,c,e,fz,hh,hc0⟩:=cell_inv (hc 0 (by omega))
   have hx : x=⟨x.block,x.off,none⟩:=by
    have : x.spot=none:=by
     have h1 : (x.add 0).spot=none:=hsp
     unfold Addr.add at h1
     split at h1<;>simp_all
    cases x;simp_all
   rw [hx] at hc ⊢
   have hb : (x.add 0).block=x.block:=by unfold Addr.add;split<;>rfl
   rw [hb] at hh
   have:=kX.lst (w:=w) (Z:=λr=>r<w.heap.size) ((zs.take len).map (PV.int .u8)) x.block x.off 1 cap false c e fz (λi _=>.int .u8 (zs.getD i 0)) (Array.getElem?_eq_some_iff.1 hh).1 hh (by omega) (by omega)
    (λi y hy=>by
     rw [List.getElem?_map] at hy
     cases hi : (zs.take len)[i]? with
     | none=>rw [hi] at hy;cases hy
     | some q=>rw [hi] at hy;cases hy;rfl)
    (λi j hi hj=>by
     have hj0 : j=0:=by omega
     subst hj0
     have h1:=hc i (by omega)
     rw [nF] at h1
     obtain ⟨_,c',e',fz',hh',hc'⟩:=cell_inv h1
     have hh' : w.heap[x.block]? = some (.cells c' e' fz'):=hh'
     rw [hh] at hh'
     cases hh'
     simpa using hc')
    (λ_ _ _ _=>trivial)
    (λi j y hy hj=>by
     rw [List.getElem?_map] at hy
     cases hi : (zs.take len)[i]? with
     | none=>rw [hi] at hy;cases hy
     | some q=>
       rw [hi] at hy
       cases hy
       have hlt : i<(zs.take len).length:=(List.getElem?_eq_some_iff.1 hi).1
       have : zs.getD i 0=q:=by
        rw [List.getElem?_take] at hi
        split at hi
        ·rw [List.getD,hi];rfl
        ·cases hi
       rw [this]
       exact .int _ _)
   rw [hlen] at this
   exact this
theorem aID.wf {w : World} {a : Option Addr} {len cap : Nat} {zs : List Int} (h : aID w a len cap zs) : ∀ x∈zs.take len,(Lit.int .u8 x).wf=true:=by
 intro x hx
 rcases h with ⟨_,_,_,rfl⟩ | ⟨_,_,_,_,_,_,hw⟩
 ·simp at hx
 ·exact hw x (List.mem_of_mem_take hx)
theorem aSv (n : Nat) (args : R) (bI : Array Value) (h : aU n args=some [.bool true]) (gz : aGr w λr=>r<w.heap.size) (hl : args.length=bI.size) (hr : ∀ (i : Nat) x v,args[i]? = some x→bI[i]? = some v→kX w (λr=>r<w.heap.size) x v) :
 Calls Tryz.prog n bI w λe w'=>e = .returned (.bool true)∧Below w.heap.size w w':=by
 refine (aQo hyp h (Z:=λr=>r<w.heap.size) ⟨λ_ h=>h,gz⟩ hl hr).mono ?_
 rintro e w' ⟨v,rfl,Z',pe,hrep⟩
 have hrep : kX w' Z' (.bool true) v:=hrep
 rw [hrep.bool_inv]
 exact ⟨rfl,pe.os,pe.tape,pe.output,pe.size,pe.old⟩
theorem aXL {l : List Int} (h : ∀ x∈l,(Lit.int .u8 x).wf=true) : ∀ x∈l,0≤x∧x≤255:=by
 intro x hx
 have:=h x hx
 have e1 : IntKind.min .u8=0:=rfl
 have e2 : IntKind.max .u8=255:=rfl
 simp only [Lit.wf,e1,e2,Bool.and_eq_true,decide_eq_true_eq] at this
 exact this
theorem own : ownKnob Tryz.prog.godebug=none:=by kernel_rfl
theorem aW0 : laidOutB Tryz.prog=true:=by kernel_rfl
end
end Go.Proofs.YtllmobkkbpdchaaGreatDoor
