/-
  Texts of the proof, part 7: a value-level evaluator and its soundness, what the functions compute, laws about it.
  Conditions: none.
-/
import Derived.Test.YthkofpnllaapeaaGreatF
set_option linter.all false
namespace Go.Proofs.YthkofpnllaapeaaGreat
noncomputable section
open Go Go.IntWalk
attribute [local irreducible] bd PV.ite PV.guardFlat PV.guardOwn PV.whole PV.one PV.cell PV.sub PV.at_ PV.len PV.slen PV.chr PV.beq PV.peq PV.ceq PV.bin PV.neg PV.not PV.conv PV.cut PV.scut PV.cat PV.setAt PV.setCell PV.ncopy PV.copyIn PV.zeros PV.toStr PV.toBytes PV.deref PV.isPtr PV.comp PV.inb PV.off PV.imin PV.imax PV.sel PV.apply PV.isLst PV.isInt PV.ix PV.nilT
def aDY (L : List Int) (l : List bZ) : Prop:=∀ y∈l,y.k=4→y.n∈L
theorem aHs : ∀ {l : List bZ} {L : List Int},(jA L l).length≤L.length+l.length
 | [],L=>by simp [jA]
 | a::r,L=>by
   have h:=aHs (l:=r) (L:=iY L a)
   have h2 : (iY L a).length≤L.length+1:=by unfold iY;split<;>simp
   show (jA (iY L a) r).length≤_
   rw [List.length_cons];omega
theorem aMp {x : Int} {f : bT} {L : List Int} (h : x∈L) : x∈aCz L f:=pL (pL h)
theorem aDt {x : Int} : ∀ {fs : List bT} {L : List Int},x∈L→x∈fs.foldl aCz L
 | [],_,h=>h
 | _::r,_,h=>aDt (fs:=r) (aMp h)
theorem aDu {f : bT} : ∀ {fs : List bT} {L : List Int},f∈fs→aDY (fs.foldl aCz L) f.loc∧aDY (fs.foldl aCz L) f.stk
 | a::r,L,h=>by
   rcases List.mem_cons.1 h with rfl | h
   ·exact ⟨fun y hy hk=>aDt (fs:=r) (pL (aAP hk hy)),fun y hy hk=>aDt (fs:=r) (aAP hk hy)⟩
   ·exact aDu (fs:=r) h
section
variable {v : fN}
theorem aJN {H : Nat} : ∀ {fs : List bT} {L : List Int},(∀ f∈fs,oO H f.loc∧oO H f.stk)→yP H L→yP H (fs.foldl aCz L)
 | [],_,_,h=>h
 | a::r,L,hf,h=>aJN (fs:=r) (fun f h=>hf f (List.mem_cons_of_mem _ h)) (kU (kU h (hf a List.mem_cons_self).1) (hf a List.mem_cons_self).2)
theorem aHt (g : aAv v) : yP v.hp.length (aIp v):=aCA (aJN (fun f hf=>(g.fl f hf).2.2) ⟨List.nodup_nil,(fun x h=>by cases h)⟩) g.vl
theorem aMq (g : aAv v) : yP v.hp.length (bB v):=aHm (fun r hr=>(g.hr r hr).2) (aHt g)
theorem aIv {f : bT} (hf : f∈v.fr) : aDY (bB v) f.loc∧aDY (bB v) f.stk:=
 ⟨fun y hy hk=>xR (aDr ((aDu hf).1 y hy hk)),fun y hy hk=>xR (aDr ((aDu hf).2 y hy hk))⟩
theorem aMr : aDY (bB v) [v.val]:=fun y hy hk=>by
 rw [List.mem_singleton] at hy;subst hy
 exact xR (aHl hk)
theorem aKH (g : aAv v) {j : Nat} (hj : j<v.hp.length) (hm : (j : Int)∈bB v) : aDY (bB v) v.hp[j]:=fun y hy hk=>by
 obtain ⟨p,hp,he⟩:=List.getElem_of_mem hm
 have c:=aBc (H:=v.hp.length) (hp:=v.hp) (fun r hr=>(g.hr r hr).2) (d:=v.hp.length) (i:=0) (aHt g) (by omega) (fun j hj=>by omega)
 refine c p hp hp y ?_ hk
 show y∈oN v.hp ((bB v)[p]?.getD 0)
 rw [List.getElem?_eq_getElem hp,Option.getD_some,he]
 unfold oN
 rw [Int.toNat_natCast,List.getElem?_eq_getElem hj]
 exact hy
end
section
variable {P : R → Prop} {k : R → Option R}
theorem aLn {L : List Int} {y : Int} : L.any (fun x=>decide (y=x))=decide (y∈L):=by
 rw [Bool.eq_iff_iff]
 simp
theorem aGc {l : List bZ} {L : List Int} (hl : l.length≤2000) (hL : L.length≤2000) : Ok (fun r=>r = [aX (jA L l)]) (gF (aU l) (aX L)):=by
 rw [yK]
 refine bH ?_
 refine xK (n:=l.length) (σ:=List Int) (F:=fun i L=>dV (aU l) (.int .i64 l.length) (.int .i64 i) (aX L)) (fun i z=>z=jA L (l.take i)) ?_ ?_ 0 L (by omega) rfl
 ·rintro z rfl
  rw [List.take_length,mG]
  exact aE (aC (fun h=>by omega) (fun _=>aB rfl))
 ·rintro i z hi rfl ih
  have hlen:=aHs (l:=l.take i) (L:=L)
  rw [List.length_take] at hlen
  have e : jA L (l.take (i+1))=iY (jA L (l.take i)) l[i]:=by
   rw [List.take_add_one,List.getElem?_eq_getElem hi]
   unfold jA
   rw [List.foldl_append];rfl
  rw [mG]
  refine aE (aC (fun _=>?_) (fun h=>by omega))
  refine aN hi (fun _=>rfl) (aH rfl (aA rfl (aA rfl (aA rfl (aM (aC (fun h4=>?_) (fun h4=>?_)))))))
  ·refine aDk (by omega) (fE rfl (bC ?_))
   rw [aLn]
   refine aZ (fun hb=>?_) (fun hb=>?_)
   ·have hm : l[i].n∉jA L (l.take i):=by simpa using hb
    rw [vK]
    refine dT (l:=[]) (ys:=[l[i].n]) (by simp) (dT (ys:=[l[i].n]) (by simp;omega) (aI (by omega) (ih _ ?_)))
    rw [e];unfold iY;rw [if_pos ⟨h4,hm⟩]
   ·have hm : l[i].n∈jA L (l.take i):=by simpa using hb
    refine aI (by omega) (ih _ ?_)
    rw [e];unfold iY;rw [if_neg (fun h=>h.2 hm)]
  ·refine aI (by omega) (ih _ ?_)
   rw [e];unfold iY;rw [if_neg (fun h=>h4 h.1)]
theorem aMs {y : bZ} {L : List Int} (hL : L.length≤2000) : Ok (fun r=>r = [aX (iY L y)]) (jX (aU [y]) (aX L)):=by
 have last : ∀ {Q : List Int},Q.length≤3000→Ok (fun r=>r = [aX Q]) (dL (.int .i64 1) (.int .i64 1) (aX Q) (aU [y])):=fun hQ=>by
  rw [kR]
  exact aE (aC (fun h=>by omega) (fun _=>aB rfl))
 rw [vL]
 refine bH ?_
 rw [kR]
 refine aE (aC (fun _=>?_) (fun h=>by simp at h))
 refine bF (a:=[]) (x:=y.pv) (b:=[]) (n:=0) rfl (aG (a:=[]) (x:=y.pv) (b:=[]) (n:=0) rfl rfl (aH rfl (aA rfl (aA rfl (aA rfl (aM (aC (fun h4=>?_) (fun h4=>?_))))))))
 ·refine aDk (by omega) (fE rfl (bC ?_))
  rw [aLn]
  refine aZ (fun hb=>?_) (fun hb=>?_)
  ·have hm : y.n∉L:=by simpa using hb
   rw [tI]
   refine dT (l:=[]) (ys:=[y.n]) (by simp) (dT (ys:=[y.n]) (by simp;omega) (aI (by omega) ?_))
   unfold iY;rw [if_pos ⟨h4,hm⟩]
   exact last (by simp;omega)
  ·have hm : y.n∈L:=by simpa using hb
   refine aI (by omega) ?_
   unfold iY;rw [if_neg (fun h=>h.2 hm)]
   exact last (by omega)
 ·refine aI (by omega) ?_
  unfold iY;rw [if_neg (fun h=>h4 h.1)]
  exact last (by omega)
theorem aJO {v : fN} (g : aAv v) {a1 a3 a4 a5 a6 a7 a8 a9 a10 : PV} : ∀ (d i : Nat) (L : List Int),yP v.hp.length L→v.hp.length≤i+d→
 Ok (fun r=>r = [aX (kT v.hp d i L)]) (gS (.int .i64 i) a1 (hp0 v) a3 a4 a5 a6 a7 a8 a9 a10 (aX L))
 | 0,i,L,hL,hd=>by
   have h1:=hL.len
   have h2:=g.h
   rw [nF]
   exact cB (aE (aC (fun h=>by omega) (fun _=>aB rfl)))
 | d+1,i,L,hL,hd=>by
   have h1:=hL.len
   have h2:=g.h
   rw [nF]
   refine cB (aE (aC (fun h=>?_) (fun h=>?_)))
   ·have hi : i<L.length:=by omega
    have hx:=hL.lt _ (List.getElem_mem hi)
    obtain ⟨j,hj,he,hf,f1,f2⟩:=aHr g hx
    have er : kT v.hp (d+1) i L=kT v.hp d (i+1) (jA L v.hp[j]):=by
     show (if i<L.length then _ else _)=_
     rw [if_pos hi,List.getElem?_eq_getElem hi,Option.getD_some,hf]
    rw [er]
    refine cX (by omega) (by omega) (cJ hi ?_)
    rw [he]
    refine aN hj (fun _=>rfl) (aA (y:=aU v.hp[j]) rfl (aF (aGc (by omega) (by omega)) (fun r hr=>?_)))
    rw [hr]
    exact aI (by omega) (aJO g d (i+1) (jA L v.hp[j]) (kU hL f2) (by omega))
   ·have er : kT v.hp (d+1) i L=L:=by
     show (if i<L.length then _ else _)=_
     rw [if_neg (by omega)]
    rw [er]
    exact aB rfl
theorem aIw {v : fN} (g : aAv v) : Ok (fun r=>r = [aX (bB v)]) (pH v.pv):=by
 have nf:=g.nf
 have nh:=g.h
 rw [aAU]
 refine aH rfl (aA rfl (aA rfl (aA rfl (aA rfl (aA rfl (aA rfl (aA rfl (aA rfl (aA rfl (aA rfl (aD ?_)))))))))))
 refine xK (n:=v.fr.length) (σ:=List Int) (F:=fun i L=>iG (fr0 v) (.int .i64 v.fr.length) (.int .i64 i) (fr0 v) (hp0 v) (.int .i64 v.made) (aDs v) (.int .i64 v.st) (.int .i64 v.tr) (.int .i64 v.val.k) (.int .i64 v.val.n) (.str v.val.s) (.int .i64 v.steps) (aX L)) (fun i L=>L=(v.fr.take i).foldl aCz []∧yP v.hp.length L) ?_ ?_ 0 [] (by omega) ⟨rfl,⟨List.nodup_nil,(fun x h=>by cases h)⟩⟩
 ·rintro L ⟨rfl,hL⟩
  rw [List.take_length] at hL ⊢
  have hlen:=hL.len
  rw [oG]
  refine aE (aC (fun h=>by omega) (fun _=>aF (aMs (y:=v.val) (by omega)) (fun r hr=>?_)))
  rw [hr]
  exact aJO g v.hp.length 0 (aIp v) (aCA hL g.vl) (by omega)
 ·rintro i L hi ⟨rfl,hL⟩ ih
  obtain ⟨f1,f2,f3,f4⟩:=g.fl _ (List.getElem_mem hi)
  have hlen:=hL.len
  have hL2:=kU hL f3
  have hlen2:=hL2.len
  rw [oG]
  refine aE (aC (fun _=>?_) (fun h=>by omega))
  refine aN hi (fun _=>rfl) (aH rfl (aA rfl (aA rfl (aA (y:=aU v.fr[i].loc) rfl (aA (y:=aU v.fr[i].stk) rfl ?_)))))
  refine aF (aGc (by omega) (by omega)) (fun r hr=>?_)
  rw [hr]
  refine aF (aGc (by omega) (by omega)) (fun r hr=>?_)
  rw [hr]
  refine aI (by omega) (ih _ ⟨?_,kU hL2 f4⟩)
  rw [List.take_add_one,List.getElem?_eq_getElem hi,List.foldl_append];rfl
theorem aLo : ∀ (l : List Int),yQ (l.map (PV.int .i64))=some l
 | []=>rfl
 | a::r=>by simp only [List.map_cons,yQ,aLo r]
theorem aMt {L : List Int} (hL : L.length≤100000) (h : Ok P (k [aX (L.mergeSort fun x y=>decide (x≤y))])) : Ok P (bd (nZ (.fn 65 [.bx [aX L]])) k):=by
 refine aF (Q:=fun r=>r = [aX (L.mergeSort fun x y=>decide (x≤y))]) ⟨_,?_,rfl⟩ (fun r hr=>by rw [hr];exact h)
 rw [aAa]
 unfold sH aX
 simp only [aLo]
 show (if L.length≤1000000 then some [PV.lst _] else none)=_
 exact if_pos (by omega)
end
section
variable {P : R → Prop} {k : R → Option R}
theorem aNw {A B : List Int} {y : Int} (hx : (A++y::B).length≤1000000) (hy : y∉A) (h : Ok P (k [.int .i64 A.length])) : Ok P (bd (eF (aX (A++y::B)) (.int .i64 y)) k):=by
 refine aF (Q:=fun r=>r = [.int .i64 A.length]) ?_ (fun r hr=>by rw [hr];exact h)
 rw [nG]
 rw [List.length_append,List.length_cons] at hx
 refine cB ?_
 have key:=cT (n:=A.length) (P:=fun _ r=>r = [.int .i64 A.length]) (F:=fun i=>eG (aX (A++y::B)) (.int .i64 y) (.int .i64 (A++y::B).length) (.int .i64 i)) ?_ (fun i hi ih=>?_) 0 (by omega)
 ·exact key
 ·rw [eP]
  refine aE (aC (fun _=>cJ (by simp) (aM (aC (fun _=>aB rfl) (fun h=>absurd ?_ h)))) (fun h=>absurd ?_ h))
  ·simp
  ·simp;omega
 ·rw [eP]
  refine aE (aC (fun _=>cJ (by simp;omega) (aM (aC (fun h=>?_) (fun h=>aI (by omega) ih)))) (fun h=>absurd ?_ h))
  ·rw [List.getElem_append_left hi] at h
   exact absurd (h▸List.getElem_mem hi) hy
  ·simp;omega
abbrev rK (H : Nat) (L : List Int) : List Int:=(fK H L).map Int.ofNat
theorem aDv (H : Nat) (L : List Int) : (fK H L).length≤H:=by
 have:=List.length_filter_le (fun (j : Nat)=>decide ((j : Int)∈L)) (List.range H)
 rw [List.length_range] at this
 exact this
theorem aOh {H : Nat} {L : List Int} {y : Int} (hH : H≤1000) (h0 : 0≤y∧y<H) (hm : y∈L) (h : Ok P (k [.int .i64 (aBR L y.toNat)])) : Ok P (bd (eF (aX (rK H L)) (.int .i64 y)) k):=by
 obtain ⟨i,rfl⟩:=Int.eq_ofNat_of_zero_le h0.1
 obtain ⟨r,hr⟩:=aJH (H:=H) (L:=L) (i:=i) (by omega) hm
 have hlen:=aDv H L
 have e : rK H L=rK i L++(i : Int)::r.map Int.ofNat:=by
  unfold rK
  rw [hr,List.map_append];rfl
 have hl : (rK H L).length≤1000000:=by rw [List.length_map];omega
 rw [e] at hl ⊢
 refine aNw hl ?_ ?_
 ·intro hq
  obtain ⟨j,hj,he⟩:=List.mem_map.1 hq
  have:=(sF.1 hj).1
  have : (j : Int)=i:=he
  omega
 ·rw [List.length_map]
  rw [Int.toNat_natCast] at h
  exact h
theorem xT {H : Nat} {L : List Int} {l : List bZ} (hH : H≤1000) (hl : l.length≤2000) (hr : oO H l) (hn : aDY L l) : Ok (fun r=>r = [aX (rK H L),aU (l.map (fU L))]) (fG (aX (rK H L)) (aU l)):=by
 rw [aAe]
 refine bH ?_
 have key:=cT (n:=l.length) (P:=fun _ r=>r = [aX (rK H L),aU (l.map (fU L))]) (F:=fun i=>eZ (.int .i64 l.length) (.int .i64 i) (aX (rK H L)) (.lst (((l.take i).map (fU L)).map bZ.pv++(l.drop i).map bZ.pv))) ?_ (fun i hi ih=>?_) 0 (by omega)
 ·simpa [aU] using key
 ·rw [nH]
  refine aE (aC (fun h=>by omega) (fun _=>aB ?_))
  simp [aU]
 ·rw [nH]
  have hlen : ((i : Nat) : Int)=(((l.take i).map (fU L)).map bZ.pv).length:=by simp;omega
  have e : ((l.take (i+1)).map (fU L)).map bZ.pv=((l.take i).map (fU L)).map bZ.pv++[(fU L l[i]).pv]:=by
   rw [List.take_add_one,List.getElem?_eq_getElem hi,List.map_append,List.map_append];rfl
  rw [e,List.append_assoc] at ih
  rw [List.drop_eq_getElem_cons hi,List.map_cons]
  have hm:=List.getElem_mem hi
  refine aE (aC (fun _=>?_) (fun h=>by omega))
  refine bF hlen (aG hlen rfl (aH rfl (aA rfl (aA rfl (aA rfl (aM (aC (fun h4=>?_) (fun h4=>?_))))))))
  ·refine aOh hH (hr _ hm h4) (hn _ hm h4) (bF hlen (bR rfl (aR (off:=1) hlen rfl (by decide) rfl (aI (by omega) ?_))))
   have er : fU L l[i]=⟨l[i].k,aBR L l[i].n.toNat,l[i].s⟩:=if_pos h4
   rw [er] at ih
   exact ih
  ·have er : fU L l[i]=l[i]:=if_neg h4
   rw [er] at ih
   exact aI (by omega) ih
end
section
variable {v : fN}
abbrev rL (v : fN) (L : List Int) : List (List bZ):=(fK v.hp.length L).map fun i=>v.hp[i]?.getD []
abbrev aNx (v : fN) (L : List Int) : List (List bZ):=(fK v.hp.length L).map fun i=>(v.hp[i]?.getD []).map (fU L)
theorem aOi (g : aAv v) {j : Nat} (hj : j<(rL v (bB v)).length) : (rL v (bB v))[j].length≤100∧oO v.hp.length (rL v (bB v))[j]∧aDY (bB v) (rL v (bB v))[j]:=by
 obtain ⟨i,hi,he⟩:=List.mem_map.1 (List.getElem_mem hj)
 obtain ⟨h1,h2⟩:=sF.1 hi
 rw [List.getElem?_eq_getElem h1,Option.getD_some] at he
 rw [← he]
 exact ⟨(g.hr _ (List.getElem_mem h1)).1,(g.hr _ (List.getElem_mem h1)).2,aKH g h1 h2⟩
theorem aNy (g : aAv v) {a2 a3 a4 a5 a6 a7 a11 a12 a13 a14 a15 a16 a17 a18 a23 a24 a25 a27 a28 a29 : PV} :
 Ok (fun r=>r=dY (yI v))
  (fQ (.int .i64 (rL v (bB v)).length) (.int .i64 0) a2 a3 a4 a5 a6 a7 (.int .i64 v.val.k) (.int .i64 v.val.n) (.str v.val.s) a11 a12 a13 a14 a15 a16 a17 a18 (aX (rK v.hp.length (bB v))) (.int .i64 v.made) (.int .i64 v.st) (.int .i64 v.tr) a23 a24 a25 (.int .i64 v.steps) a27 a28 a29 (.lst ((v.fr.map (vP (bB v))).map bT.pv)) (.lst ((rL v (bB v)).map aL)) (aDs v)):=by
 have nh:=g.h
 have nk:=aDv v.hp.length (bB v)
 have e1 : aNx v (bB v)=(rL v (bB v)).map fun r=>r.map (fU (bB v)):=by
  unfold aNx rL;rw [List.map_map];rfl
 have n0 : (rL v (bB v)).length≤1000:=by unfold rL;rw [List.length_map];omega
 have ra : ∀ j (hj : j<(rL v (bB v)).length),_:=fun j hj=>aOi g hj
 have cr : dY (yI v) = [.int .i64 v.made,.int .i64 v.st,.int .i64 v.tr,.int .i64 (fU (bB v) v.val).k,.int .i64 (fU (bB v) v.val).n,.str (fU (bB v) v.val).s,.int .i64 v.steps,.lst ((v.fr.map (vP (bB v))).map bT.pv),.lst ((aNx v (bB v)).map aL),.lst (v.out.map PV.str)]:=rfl
 rw [cr,e1]
 generalize rL v (bB v)=K at *
 have key:=cT (n:=K.length) (P:=fun _ r=>r = [.int .i64 v.made,.int .i64 v.st,.int .i64 v.tr,.int .i64 (fU (bB v) v.val).k,.int .i64 (fU (bB v) v.val).n,.str (fU (bB v) v.val).s,.int .i64 v.steps,.lst ((v.fr.map (vP (bB v))).map bT.pv),.lst ((K.map fun r=>r.map (fU (bB v))).map aL),.lst (v.out.map PV.str)])
  (F:=fun i=>fQ (.int .i64 K.length) (.int .i64 i) a2 a3 a4 a5 a6 a7 (.int .i64 v.val.k) (.int .i64 v.val.n) (.str v.val.s) a11 a12 a13 a14 a15 a16 a17 a18 (aX (rK v.hp.length (bB v))) (.int .i64 v.made) (.int .i64 v.st) (.int .i64 v.tr) a23 a24 a25 (.int .i64 v.steps) a27 a28 a29 (.lst ((v.fr.map (vP (bB v))).map bT.pv)) (.lst (((K.take i).map fun r=>r.map (fU (bB v))).map aL++(K.drop i).map aL)) (aDs v)) ?_ (fun i hi ih=>?_) 0 (by omega)
 ·simpa using key
 ·rw [oI]
  refine aE (aC (fun h=>by omega) (fun _=>?_))
  refine aF (xT (l:=[v.val]) (H:=v.hp.length) (L:=bB v) (by omega) (by simp) (fun y hy=>by rw [List.mem_singleton] at hy;subst hy;exact g.vl) aMr) (fun r hr=>?_)
  rw [hr]
  refine bF (a:=[]) (x:=(fU (bB v) v.val).pv) (b:=[]) (n:=0) rfl (aG (a:=[]) (x:=(fU (bB v) v.val).pv) (b:=[]) (n:=0) rfl rfl (aH rfl (aA rfl (aA rfl (aA rfl (aB ?_))))))
  simp
 ·rw [oI]
  obtain ⟨f1,f2,f3⟩:=ra i hi
  have hlen : ((i : Nat) : Int)=(((K.take i).map fun r=>r.map (fU (bB v))).map aL).length:=by simp;omega
  have e : ((K.take (i+1)).map fun r=>r.map (fU (bB v))).map aL=((K.take i).map fun r=>r.map (fU (bB v))).map aL++[aL (K[i].map (fU (bB v)))]:=by
   rw [List.take_add_one,List.getElem?_eq_getElem hi,List.map_append,List.map_append];rfl
  rw [e,List.append_assoc] at ih
  rw [List.drop_eq_getElem_cons hi,List.map_cons]
  refine aE (aC (fun _=>?_) (fun h=>by omega))
  refine bF hlen (aG hlen rfl (aG hlen rfl (aA (y:=aU K[i]) rfl (aG hlen rfl (aA rfl (aR (off:=0) hlen rfl (by decide) rfl ?_))))))
  refine aF (xT (l:=K[i]) (H:=v.hp.length) (L:=bB v) (by omega) (by omega) f2 f3) (fun r hr=>?_)
  rw [hr]
  refine aG hlen rfl (aA rfl (aR (off:=0) hlen rfl (by decide) rfl (aI (by omega) ?_)))
  exact ih
theorem aNz (g : aAv v) {a2 a3 a4 a5 a6 a7 a11 a12 a13 a14 a15 a16 a17 a18 a23 a24 a25 a27 a28 a29 : PV} :
 Ok (fun r=>r=dY (yI v))
  (fP (.int .i64 v.fr.length) (.int .i64 0) a2 a3 a4 a5 a6 a7 (.int .i64 v.val.k) (.int .i64 v.val.n) (.str v.val.s) a11 a12 a13 a14 a15 a16 a17 a18 (aX (rK v.hp.length (bB v))) (.int .i64 v.made) (.int .i64 v.st) (.int .i64 v.tr) a23 a24 a25 (.int .i64 v.steps) a27 a28 a29 (fr0 v) (.lst ((rL v (bB v)).map aL)) (aDs v)):=by
 have nh:=g.h
 have nf:=g.nf
 have key:=cT (n:=v.fr.length) (P:=fun _ r=>r=dY (yI v)) (F:=fun i=>fP (.int .i64 v.fr.length) (.int .i64 i) a2 a3 a4 a5 a6 a7 (.int .i64 v.val.k) (.int .i64 v.val.n) (.str v.val.s) a11 a12 a13 a14 a15 a16 a17 a18 (aX (rK v.hp.length (bB v))) (.int .i64 v.made) (.int .i64 v.st) (.int .i64 v.tr) a23 a24 a25 (.int .i64 v.steps) a27 a28 a29 (.lst (((v.fr.take i).map (vP (bB v))).map bT.pv++(v.fr.drop i).map bT.pv)) (.lst ((rL v (bB v)).map aL)) (aDs v)) ?_ (fun i hi ih=>?_) 0 (by omega)
 ·simpa using key
 ·rw [oH]
  refine aE (aC (fun h=>by omega) (fun _=>aD ?_))
  rw [List.take_length,List.drop_length,List.map_nil,List.append_nil]
  exact aNy g
 ·rw [oH]
  obtain ⟨f1,f2,f3,f4⟩:=g.fl _ (List.getElem_mem hi)
  obtain ⟨q1,q2⟩:=aIv (v:=v) (List.getElem_mem hi)
  have hlen : ((i : Nat) : Int)=(((v.fr.take i).map (vP (bB v))).map bT.pv).length:=by simp;omega
  have e : ((v.fr.take (i+1)).map (vP (bB v))).map bT.pv=((v.fr.take i).map (vP (bB v))).map bT.pv++[(vP (bB v) v.fr[i]).pv]:=by
   rw [List.take_add_one,List.getElem?_eq_getElem hi,List.map_append,List.map_append];rfl
  rw [e,List.append_assoc] at ih
  rw [List.drop_eq_getElem_cons hi,List.map_cons]
  refine aE (aC (fun _=>?_) (fun h=>by omega))
  refine bF hlen (aG hlen rfl (aA rfl (aA rfl (aG hlen rfl (aA (y:=aU v.fr[i].loc) rfl (aG hlen rfl (aA rfl (aR (off:=2) hlen rfl (by decide) rfl ?_))))))))
  refine aF (xT (l:=v.fr[i].loc) (H:=v.hp.length) (L:=bB v) (by omega) (by omega) f3 q1) (fun r hr=>?_)
  rw [hr]
  refine aG hlen rfl (aA rfl (aR (off:=2) hlen rfl (by decide) rfl ?_))
  refine aG hlen rfl (aA (y:=aU v.fr[i].stk) rfl (aG hlen rfl (aA rfl (aR (off:=3) hlen rfl (by decide) rfl ?_))))
  refine aF (xT (l:=v.fr[i].stk) (H:=v.hp.length) (L:=bB v) (by omega) (by omega) f4 q2) (fun r hr=>?_)
  rw [hr]
  refine aG hlen rfl (aA rfl (aR (off:=3) hlen rfl (by decide) rfl (aI (by omega) ?_)))
  exact ih
theorem aKI (g : aAv v) (z : Sz v) : Ok (fun r=>r=dY (yI v)) (qL v.pv (aX (rK v.hp.length (bB v)))):=by
 have nh:=g.h
 have nk:=aDv v.hp.length (bB v)
 rw [aBJ]
 refine aH rfl (aA rfl (aA rfl (aA rfl (aA rfl (aA rfl (aA rfl (aA rfl (aA rfl (aA rfl (aA rfl (bR rfl (aMU z (jV (cB ?_))))))))))))))
 rw [List.length_map]
 have key:=cT (n:=(fK v.hp.length (bB v)).length) (P:=fun _ r=>r=dY (yI v)) (F:=fun i=>jE (aX (rK v.hp.length (bB v))) (.int .i64 (fK v.hp.length (bB v)).length) (.int .i64 i) (fr0 v) (hp0 v) (.int .i64 v.made) (aDs v) (.int .i64 v.st) (.int .i64 v.tr) (.int .i64 v.val.k) (.int .i64 v.val.n) (.str v.val.s) (.int .i64 v.steps) (.int .i64 0) (.int .i64 0) (.int .i64 0) (.int .i64 0) (.int .i64 0) (.str (bs [])) (.int .i64 0) (aX (rK v.hp.length (bB v))) (gd (dY v) 0) (gd (dY v) 1) (gd (dY v) 2) (gd (dY v) 3) (gd (dY v) 4) (gd (dY v) 5) (gd (dY v) 6) (.lst []) (.lst []) (.lst []) (gd (dY v) 7) (.lst (((fK v.hp.length (bB v)).take i).map fun i=>aL (v.hp[i]?.getD []))) (gd (dY v) 9)) ?_ (fun i hi ih=>?_) 0 (by omega)
 ·exact key
 ·rw [oW]
  refine aE (aC (fun h=>by omega) (fun _=>aD ?_))
  rw [List.take_length]
  have e : ((fK v.hp.length (bB v)).map fun i=>aL (v.hp[i]?.getD []))=(rL v (bB v)).map aL:=by unfold rL;rw [List.map_map];rfl
  rw [e]
  exact aNz g
 ·rw [oW]
  have hj:=(sF.1 (List.getElem_mem hi)).1
  refine aE (aC (fun _=>?_) (fun h=>by omega))
  refine cJ (by rw [List.length_map];exact hi) ?_
  rw [List.getElem_map]
  refine aN (i:=(fK v.hp.length (bB v))[i]) hj (fun _=>rfl) (aA (y:=aU v.hp[(fK v.hp.length (bB v))[i]]) rfl ?_)
  have hs:=(g.hr _ (List.getElem_mem hj)).1
  refine xO (by omega) (eA (aAK _) (nT (by simp;omega) (fun x hx=>by simp at hx;subst hx;rfl) (aI (by omega) ?_)))
  have e : (((fK v.hp.length (bB v)).take (i+1)).map fun i=>aL (v.hp[i]?.getD []))=(((fK v.hp.length (bB v)).take i).map fun i=>aL (v.hp[i]?.getD []))++[aL v.hp[(fK v.hp.length (bB v))[i]]]:=by
   rw [List.take_add_one,List.getElem?_eq_getElem hi,List.map_append]
   simp [List.getElem?_eq_getElem hj]
  rw [e] at ih
  exact ih
end
section
variable {P : R → Prop} {m : eJ}
open Classical in
theorem aGN (hs : m.sized) {v : fN} (h : v.fine) : Ok (fun r=>r=dY (aAw m v)) (nY m.pv v.pv):=by
 rw [aEh]
 refine aH rfl (aA rfl (aA rfl ?_))
 refine aH rfl (aA rfl (aA rfl (aA rfl (aA rfl (aA rfl (aA rfl (aA rfl (aA rfl (aA rfl (aA rfl (?_)))))))))))
 refine aF (aJE hs h) (fun r hr=>?_)
 rw [hr]
 refine bC ?_
 by_cases hk : aGL m v
 ·rw [decide_eq_true hk]
  have e : aAw m v=yI v:=if_pos hk
  rw [e]
  have g:=aLm hk.1 hk.2
  have hT:=aMq g
  have hl:=hT.len
  have nh:=g.h
  refine aQ (aF (aIw g) (fun r hr=>?_))
  rw [hr,vI]
  refine aF (Q:=fun r=>r = [.fn 65 [.bx [aX (bB v)]]]) (bR rfl (aB rfl)) (fun r hr=>?_)
  rw [hr]
  refine aMt (by omega) ?_
  rw [aJI hT]
  refine aF (aKI g (hk.2.toVmI.sz hk.1)) (fun r hr=>?_)
  rw [hr]
  exact jV (aB rfl)
 ·rw [decide_eq_false hk]
  have e : aAw m v=vmZ:=if_neg hk
  rw [e]
  exact bG (aB rfl)
end
theorem aJP {m : eJ} {v : fN} (h : m.wide) (hv : v.wide) : Ok (fun r=>r = [.bool true]) (lR m.pv v.pv):=by
 rw [xI]
 refine aH rfl (aA rfl (aA rfl ?_))
 refine aH rfl (aA rfl (aA rfl (aA rfl (aA rfl (aA rfl (aA rfl (aA rfl (aA rfl (aA rfl (aA rfl ?_))))))))))
 refine iL (aOP h (by omega) (by omega)) (fun z z1 z2 z3=>aE (aC (fun _=>aB rfl) (fun hz=>?_)))
 have hs : m.sized:=z3 (by omega)
 refine iL (aPw hv (by omega) (by omega)) (fun y y1 y2 y3=>aE (aC (fun _=>aB rfl) (fun hy=>?_)))
 have hf : v.fine:=y3 (by omega)
 have hfv:=hf.tofew
 have hfew:=aMo m v
 have hsp : Ok (fun r=>r=dY (aAw m v)) (rR m.pv v.pv):=aGM hs hf
 have him : Ok (fun r=>r=dY (aAw m v)) (nY m.pv v.pv):=aGN hs hf
 generalize aAw m v=w at hfew hsp him
 refine aIh hs (aEE hfv (jV (aF hsp (fun r hr=>?_))))
 subst hr
 refine jV (aIh hs (aEE hfv (jV (aF him (fun r hr=>?_)))))
 subst hr
 refine jV (aIi hfew (aCx (aIh hs (aOY hs (aCx (aEE hfv (jV (aIi hfv (aCx ?_)))))))))
 refine aF (aM1 (m:=m) (q:=1) hs (by omega) (by omega)) (fun r hr=>?_)
 subst hr
 have hcm:=aJu hs
 refine aF (aLe (v:=v) (q:=1+cM m) hfv (by omega) (by omega)) (fun r hr=>?_)
 subst hr
 have hcv:=aDn hfv
 refine aE (aC (fun h=>absurd h (by omega)) (fun _=>aIi hfew (aCx ?_)))
 refine aF (aLe (v:=w) (q:=1) hfew (by omega) (by omega)) (fun r hr=>?_)
 subst hr
 refine aF (aLf (v:=w) (q:=1) hfew (by omega) (by omega)) (fun r hr=>?_)
 subst hr
 refine fE rfl (aE (aC (fun h=>absurd h (by omega)) (fun _=>cW (aY (fun h=>absurd rfl h) (fun _=>?_)))))
 refine aIh hs (aEE hfv (jV (aF him (fun r hr=>?_))))
 subst hr
 refine jV (aIi hfew (aCx ?_))
 refine aF (aLf (v:=w) (q:=1) hfew (by omega) (by omega)) (fun r hr=>?_)
 subst hr
 exact fE rfl (aE (aC (fun h=>absurd h (by omega)) (fun _=>cW (aY (fun h=>absurd rfl h) (fun _=>aB rfl)))))
theorem aGO {x0 x1 : PV} (h0 : FitsArg true [aF5,aIj] x0) (h1 : FitsArg true aO1 x1) : lR x0 x1=some [.bool true]:=by
 obtain ⟨m,rfl,hm⟩:=aOc h0
 obtain ⟨v,rfl,hv⟩:=aPx h1
 exact (aJP hm hv).eq
end
end Go.Proofs.YthkofpnllaapeaaGreat
