/-
  Texts of the proof, part 7: a value-level evaluator and its soundness, what the functions compute, laws about it.
  Conditions: none.
-/
import Derived.Test.YtllmobkkbpdchaaGreatF
set_option linter.all false
namespace Go.Proofs.YtllmobkkbpdchaaGreat
noncomputable section
open Go Go.IntWalk
attribute [local irreducible] bd PV.ite PV.guardFlat PV.guardOwn PV.whole PV.one PV.cell PV.sub PV.at_ PV.len PV.slen PV.chr PV.beq PV.peq PV.ceq PV.bin PV.neg PV.not PV.conv PV.cut PV.scut PV.cat PV.setAt PV.setCell PV.ncopy PV.copyIn PV.zeros PV.toStr PV.toBytes PV.deref PV.isPtr PV.comp PV.inb PV.off PV.imin PV.imax PV.sel PV.apply PV.isLst PV.isInt PV.ix PV.nilT
section
variable {P : R → Prop} {m : dT} {p q : List cJ}
theorem aGC : ∀ {p : List cJ} {b : Option cJ},kW m b p=true↔(∀ x∈p,fC m x)∧(∀ y,b=some y→∀ x∈p,bO y x)∧p.Pairwise bO
 | [],b=>by simp [kW]
 | s::r,b=>by
   have ih:=aGC (p:=r) (b:=some s)
   unfold kW
   rw [Bool.and_eq_true,Bool.and_eq_true,decide_eq_true_eq,ih,List.pairwise_cons]
   constructor
   ·rintro ⟨h1,h2,h3,h4,h5⟩
    refine ⟨λx hx=>?_,λy hy x hx=>?_,h4 s rfl,h5⟩
    ·rcases List.mem_cons.1 hx with rfl | hx
     ·exact h1
     ·exact h3 x hx
    ·subst hy
     have h2 : bO y s:=by simpa using h2
     rcases List.mem_cons.1 hx with rfl | hx
     ·exact h2
     ·exact sI h2 (h4 s rfl x hx)
   ·rintro ⟨h1,h2,h3,h4⟩
    refine ⟨h1 s List.mem_cons_self,?_,λx hx=>h1 x (List.mem_cons_of_mem _ hx),λy hy=>by cases hy;exact h3,h4⟩
    cases b with
    | none=>rfl
    | some y=>exact decide_eq_true (h2 y rfl s List.mem_cons_self)
theorem pG : oP m p=true↔p.length≤150∧Srt m p:=by
 unfold oP
 rw [Bool.and_eq_true,decide_eq_true_eq,aGC]
 exact ⟨λ⟨h1,h2,_,h3⟩=>⟨h1,h3,h2⟩,λ⟨h1,h2⟩=>⟨h1,h2.ok,(λ_ hy=>nomatch hy),h2.pr⟩⟩
def eD (m : dT) (p q : List cJ) : List cJ:=if (nE m p&&oP m q)=true then (if 150<(eS m p q).length then [] else eS m p q) else []
theorem aDj {i : Nat} (hi : i<q.length) : eS m p (q.take (i+1))=lU (opS m q[i]) (eS m p (q.take i)) q[i]:=by
 unfold eS
 rw [List.take_add_one,List.getElem?_eq_getElem hi,List.foldl_append];rfl
theorem Srt.take {p : List cJ} (h : Srt m p) (i : Nat) : Srt m (p.take i):=⟨h.pr.sublist (List.take_sublist _ _),λx hx=>h.ok x (List.mem_of_mem_take hx)⟩
theorem aDk (i : Nat) : (eS m p (q.take i)).length≤p.length+i:=by
 have h1:=aFl (m:=m) (p:=p) (q:=q.take i)
 have h2 : (q.take i).length≤i:=List.length_take_le _ _
 omega
theorem aJH (hs : m.sized) (hp : p.length≤100000) (hq : q.length≤100000) : Ok (λr=>r = [aO (eD m p q)]) (qC m.pv (aO p) (aO q)):=by
 rw [aA0]
 refine aE rfl (aA rfl (aA rfl (aFc hs (by omega) (bG (aS (λh1=>aB ?_) (λh1=>aFc hs (by omega) (bG (aS (λh2=>aB ?_) (λh2=>?_)))))))))
 ·unfold eD
  rw [if_neg (by simp at h1;simp [h1])];rfl
 ·unfold eD
  unfold nE at h1 h2
  rw [if_neg (by simp at h1 h2;unfold nE;simp [h1];simpa [h1] using h2)];rfl
 have e1 : nE m p=true:=by simpa using h1
 have e2 : nE m q=true:=by simpa using h2
 have hb : (nE m p&&oP m q)=true:=by
  rw [e1];unfold nE at e2;simp at e2;simp [e2]
 have sp : p.length≤150∧Srt m p:=by unfold nE at e1;simp at e1;exact pG.1 e1.2
 have sq : q.length≤150∧Srt m q:=by unfold nE at e2;simp at e2;exact pG.1 e2.2
 refine hJ (by rw [List.length_map];omega) aB7 ?_
 refine sE (n:=q.length) (σ:=List cJ) (F:=λi z=>jK (aO q) (.I i) (.lst (m.texts.map PV.str)) (.lst (m.funcs.map cZ.pv)) (aO z)) (λi z=>z=eS m p (q.take i)) ?_ ?_ 0 p (by omega) rfl
 ·rintro z rfl
  rw [List.take_length,oL]
  refine aF (aJ (aC (λh=>by omega) (λ_=>aF (cD (aC (λh=>aB ?_) (λh=>aB ?_))))))
  ·unfold eD;rw [if_pos hb,if_pos (by omega)];rfl
  ·unfold eD;rw [if_pos hb,if_neg (by omega)]
 ·rintro i z hi rfl ih
  rw [oL]
  have hln:=aDk (m:=m) (p:=p) (q:=q) i
  have hsi:=sq.2.ok _ (List.getElem_mem hi)
  refine aF (aJ (aC (λ_=>?_) (λh=>by omega)))
  refine aQ hi (λ_=>rfl) (aKj (by omega) (sp.2.merge (sq.2.take i)).pr hsi.1 (gI (gQ _) (aP (by omega) ?_)))
  exact ih _ (aDj hi).symm
theorem aM8 (hp : p.length≤100000) {s : cJ} {c : Nat} (c1 : c≤p.length) (h2 : ∀ k (h : k<p.length),k<c→bO p[k] s) (h3 : ∀ k (h : k<p.length),c≤k→¬ bO p[k] s) :
 Ok (λr=>r = [.tup [.I c,.bool (decide (∃ h : c<p.length,jP p[c] s))]]) (bU (aO p) s.pv (.fn 55 [])):=by
 rw [fL]
 exact aE rfl (aA rfl (aA rfl (aA rfl (aA rfl (aF (rB (λ_ _=>rfl) (by omega) h2 h3 _ 0 p.length (Nat.le_refl _) (by omega) c1 (Nat.le_refl _)))))))
theorem aIM (hp : p.length≤100000) : Ok (λr=>r = [aO p]) (eQ (aO p)):=by
 rw [mC]
 refine aLt (aMq (λe=>aB ?_) ?_)
 ·rw [show p = [] from by simpa using e];rfl
 ·exact hJ (by rw [List.length_map];omega) aB7 (aB rfl)
theorem vY (hs : m.sized) (hp : p.length≤100000) (hq : q.length≤100000) : Ok (λr=>r = [aO (eD m p q)]) (gY m.pv (aO p) (aO q)):=by
 rw [aAZ]
 refine aE rfl (aA rfl (aA rfl (aDf hs (by omega) (bG (aS (λh1=>aB ?_) (λh1=>aI (aDe hs (by omega)) (λr hr=>?_)))))))
 ·unfold eD
  rw [if_neg (by simp at h1;simp [h1])];rfl
 rw [hr]
 refine bG (aS (λh2=>aB ?_) (λh2=>?_))
 ·unfold eD
  rw [if_neg (by simp at h1 h2;simp [h2])];rfl
 have e1 : nE m p=true:=by simpa using h1
 have e2 : oP m q=true:=by simpa using h2
 have hb : (nE m p&&oP m q)=true:=by rw [e1,e2];rfl
 have sp : p.length≤150∧Srt m p:=by unfold nE at e1;simp at e1;exact pG.1 e1.2
 have sq : q.length≤150∧Srt m q:=pG.1 e2
 refine aI (aIM hp) (λr hr=>?_)
 rw [hr]
 refine gI (gQ _) (aF ?_)
 refine sE (n:=q.length) (σ:=List cJ) (F:=λi z=>gN (aO q) (.I q.length) (.I i) (.lst (m.texts.map PV.str)) (.lst (m.funcs.map cZ.pv)) (aO z)) (λi z=>z=eS m p (q.take i)) ?_ ?_ 0 p (by omega) rfl
 ·rintro z rfl
  rw [List.take_length,oK]
  refine aJ (aC (λh=>by omega) (λ_=>aF (cD (aC (λh=>aB ?_) (λh=>aB ?_)))))
  ·unfold eD;rw [if_pos hb,if_pos (by omega)];rfl
  ·unfold eD;rw [if_pos hb,if_neg (by omega)]
 ·rintro i z hi hz ih
  have hln:=aDk (m:=m) (p:=p) (q:=q) i
  have hsi:=sq.2.ok _ (List.getElem_mem hi)
  have hso:=sp.2.merge (sq.2.take i)
  have hnx:=aDj (m:=m) (p:=p) hi
  rw [← hz] at hln hso hnx
  obtain ⟨c,c1,c2,c3,c4⟩:=aCa hso.pr q[i]
  rw [c4] at hnx
  rw [oK]
  refine aJ (aC (λ_=>?_) (λh=>by omega))
  refine aQ hi (λ_=>rfl) (aE rfl (aA rfl (aA rfl (aA rfl (aA rfl (aI (aM8 (s:=q[i]) (by omega) c1 c2 c3) (λr hr=>?_)))))))
  rw [hr]
  refine dG rfl (aU rfl (aU rfl (aC (λhx=>?_) (λhx=>?_))))
  ·obtain ⟨hc,hk⟩:=hx
   refine cT (by omega) (by rw [List.length_map];omega) (aQ hc (λ_=>rfl) (aIF (s:=q[i]) (hso.ok _ (List.getElem_mem hc)) hsi hk (cT (by omega) (by rw [List.length_map];omega) (aDS (by omega) (by rw [List.length_map];omega) rfl (aP (by omega) ?_)))))
   rw [dif_pos hc,if_pos hk] at hnx
   have e : (z.map cJ.pv).set (c : Int).toNat (fZ (bS m q[i].f q[i].pc).o z[c] q[i]).pv=(z.set c (fZ (opS m q[i]) z[c] q[i])).map cJ.pv:=by
    rw [List.map_set,Int.toNat_natCast]
   have:=ih _ hnx.symm
   unfold aO at this
   rw [← e] at this
   exact this
  ·have e : eS m p (q.take (i+1))=z.take c++q[i]::z.drop c:=by
    rw [hnx]
    split
    ·rename_i hc;rw [if_neg (λhk=>hx ⟨hc,hk⟩)]
    ·rfl
   refine aLl (s:=q[i]) c1 (by omega) (aP (by omega) ?_)
   exact ih _ e.symm
theorem aJI (hp : p.length≤100000) : Ok (λr=>r = [.bool true]) (gK (aO p) (aO p)):=by
 rw [aBC]
 refine aF (aF (bM (aN (λh=>absurd rfl h) (λ_=>?_))))
 refine lH (n:=p.length) (F:=λi=>jZ (aO p) (aO p) (.I i)) (P:=λ_ r=>r = [.bool true]) ?_ (λi hi ih=>?_) 0 (by omega)
 ·rw [pP]
  exact aF (aJ (aC (λh=>by omega) (λ_=>aB rfl)))
 ·rw [pP]
  refine aF (aJ (aC (λ_=>?_) (λh=>by omega)))
  refine aQ hi (λ_=>rfl) (aQ hi (λ_=>rfl) (aE rfl (aA rfl (aA rfl (aA rfl (aA rfl (aE rfl (aA rfl (aA rfl (aA rfl (aA rfl ?_)))))))))))
  exact cU (.bool false) (by simp [PV.ceq,PV.eqCells,PV.eqScalar,PV.eqOr]) (cB (aP (by omega) ih))
theorem aCb {k : R→OR} (hp : p.length≤100000) (h : Ok P (k [.bool true])) : Ok P (bd (gK (aO p) (aO p)) k):=aI (aJI hp) (λr hr=>by rw [hr];exact h)
theorem aJJ : (eD m p q).length≤150:=by
 unfold eD
 split
 ·split
  ·simp
  ·omega
 ·simp
end
section
variable {l : List Int}
theorem aHn (hl : Bts l) : Ok (λr=>∃ (m : dT) (p q : List cJ),r = [.tup [m.pv,aO p,aO q]]∧m.sized∧p.length≤10000∧q.length≤10000) (lQ (aZ l)):=by
 rw [vO]
 refine aMY hl (λs hs=>aI (aIx hl (by omega)) ?_)
 rintro r ⟨a1,s1,m,rfl,h1,h2,h3,h4,hm,hm1,hm2⟩
 refine aE rfl (aA rfl (aA rfl (aI (aDh hl hm hm1 (by omega) (by omega)) ?_)))
 rintro r ⟨a2,s2,p,rfl,g1,g2,g3,g4,g5⟩
 refine aI (aDh hl hm hm1 (by omega) (by omega)) ?_
 rintro r ⟨a3,s3,q,rfl,i1,i2,i3,i4,i5⟩
 exact aB ⟨m,p,q,rfl,hm,g5,i5⟩
theorem aLq (h0 : ∀ x∈l,0≤x∧x≤255) : aY 4 [aZ l]=some [.bool true]:=by
 refine Ok.eq ?_
 show Ok _ (aAq (aZ l))
 rw [aCx]
 refine aNz h0 (λhl=>cB ?_) (cC (aB rfl))
 refine aI (aHn hl) ?_
 rintro r ⟨m,p,q,rfl,hs,hp,hq⟩
 refine aU rfl (aU rfl (aU rfl (aE rfl (aA rfl (aA rfl ?_)))))
 have ml:=aJJ (m:=m) (p:=p) (q:=q)
 have key : eD m q p=eD m p q∧(eD m p q≠[]→nE m (eD m p q)=true∧eD m (eD m p q) p=eD m p q∧eD m q (eD m p q)=eD m p q):=by
  by_cases hb : (nE m p&&oP m q)=true
  ·have hb':=hb
   unfold nE at hb'
   simp only [Bool.and_eq_true] at hb'
   obtain ⟨⟨hg,b1⟩,b2⟩:=hb'
   obtain ⟨lp,sp⟩:=pG.1 b1
   obtain ⟨lq,sq⟩:=pG.1 b2
   have hc : (nE m q&&oP m p)=true:=by unfold nE;simp [hg,b1,b2]
   have e0 : eD m q p=eD m p q:=by
    unfold eD
    rw [if_pos hb,if_pos hc,aBg sq sp]
   refine ⟨e0,λhne=>?_⟩
   have e1 : eD m p q=eS m p q∧(eS m p q).length≤150:=by
    unfold eD at hne ⊢
    rw [if_pos hb] at hne ⊢
    by_cases hl2 : 150<(eS m p q).length
    ·rw [if_pos hl2] at hne;exact absurd rfl hne
    ·rw [if_neg hl2];exact ⟨rfl,by omega⟩
   have b3 : oP m (eS m p q)=true:=pG.2 ⟨e1.2,sp.merge sq⟩
   rw [e1.1]
   have o3 : nE m (eS m p q)=true:=by unfold nE;simp [hg,b3]
   refine ⟨o3,?_,?_⟩
   ·unfold eD
    rw [if_pos (by rw [o3,b1];rfl),aGB sp sq,if_neg (by omega)]
   ·unfold eD
    rw [if_pos (by unfold nE;simp [hg,b2,b3]),aJG sp sq,if_neg (by omega)]
  ·have hc : ¬ (nE m q&&oP m p)=true:=by
    intro h
    apply hb
    unfold nE at h ⊢
    simp only [Bool.and_eq_true] at h ⊢
    exact ⟨⟨h.1.1,h.2⟩,h.1.2⟩
   have e1 : eD m p q = []:=if_neg hb
   have e2 : eD m q p = []:=if_neg hc
   exact ⟨by rw [e1,e2],λh=>absurd e1 h⟩
 refine aI (vY hs (by omega) (by omega)) (λr hr=>?_)
 rw [hr]
 refine gI (gQ _) (aI (vY hs (by omega) (by omega)) (λr hr=>?_))
 rw [hr,key.1]
 refine gI (gQ _) (aI (aJH hs (by omega) (by omega)) (λr hr=>?_))
 rw [hr]
 refine gI (gQ _) (aCb (by omega) (dG rfl (bG (cB (aCb (by omega) (dG rfl (bG (cB ?_))))))))
 refine aF (aG (aC (λ_=>aB rfl) (λhne=>?_)))
 obtain ⟨k1,k2,k3⟩:=key.2 (λh=>hne (by rw [h];rfl))
 refine aDf hs (by omega) ?_
 rw [k1]
 refine dG rfl (cC (aI (vY hs (by omega) (by omega)) (λr hr=>?_)))
 rw [hr,k2]
 refine gI (gQ _) (aCb (by omega) (dG rfl (cC (aI (vY hs (by omega) (by omega)) (λr hr=>?_)))))
 rw [hr,k3]
 exact gI (gQ _) (aCb (by omega) (dG rfl (aB rfl)))
end
end
noncomputable section
open Go Go.ChangeShapes Go.WideShapes Go.ChangeAt Go.RowKit
def aCc (w : World) (a : Option Addr) (len cap : Nat) (zs : List Int) : Prop:=
 (a=none∧len=0∧cap=0∧zs = [])∨
 ∃ x,a=some x∧len≤cap∧cap≤maxLen∧zs.length=cap∧(∀ i,i<zs.length→w.cell? (x.add i)=some (.int .u8 (zs.getD i 0)))∧∀ n∈zs,(Lit.int .u8 n).wf=true
theorem cell_inv {w : World} {a : Addr} {v : Value} (h : w.cell? a=some v) : a.spot=none∧∃ c e fz,w.heap[a.block]? = some (.cells c e fz)∧c[a.off]? = some v:=by
 unfold World.cell? at h
 split at h
 ·rename_i c e fz hc
  split at h
  ·cases h
  ·rename_i hs
   exact ⟨by simpa using hs,c,e,fz,hc,h⟩
 ·cases h
theorem aCc.rep {w : World} {a : Option Addr} {len cap : Nat} {zs : List Int} (h : aCc w a len cap zs) : gD w (λr=>r<w.heap.size) (aZ (zs.take len)) (.slice a len cap):=by
 rcases h with ⟨rfl,rfl,rfl,rfl⟩ | ⟨x,rfl,hl,_,hz,hc,_⟩
 ·exact .empty none 0
 ·by_cases h0 : len=0
  ·subst h0;exact .empty _ cap
  ·have hlen : ((zs.take len).map (PV.int .u8)).length=len:=by simp;omega
   obtain ⟨hsp,c,e,fz,hh,hc0⟩:=cell_inv (hc 0 (by omega))
   have hx : x=⟨x.block,x.off,none⟩:=by
    have : x.spot=none:=by
     have h1 : (x.add 0).spot=none:=hsp
     unfold Addr.add at h1
     split at h1<;>simp_all
    cases x;simp_all
   rw [hx] at hc ⊢
   have hb : (x.add 0).block=x.block:=by unfold Addr.add;split<;>rfl
   rw [hb] at hh
   have:=gD.lst (w:=w) (Z:=λr=>r<w.heap.size) ((zs.take len).map (PV.int .u8)) x.block x.off 1 cap false c e fz (λi _=>.int .u8 (zs.getD i 0)) (Array.getElem?_eq_some_iff.1 hh).1 hh (by omega) (by omega)
    (λi y hy=>by
     rw [List.getElem?_map] at hy
     cases hi : (zs.take len)[i]? with
     | none=>rw [hi] at hy;cases hy
     | some q=>rw [hi] at hy;cases hy;rfl)
    (λi j hi hj=>by
     have hj0 : j=0:=by omega
     subst hj0
     have h1:=hc i (by omega)
     rw [hU] at h1
     obtain ⟨_,c',e',fz',hh',hc'⟩:=cell_inv h1
     have hh' : w.heap[x.block]? = some (.cells c' e' fz'):=hh'
     rw [hh] at hh'
     cases hh'
     simpa using hc')
    (λ_ _ _ _=>trivial)
    (λi j y hy hj=>by
     rw [List.getElem?_map] at hy
     cases hi : (zs.take len)[i]? with
     | none=>rw [hi] at hy;cases hy
     | some q=>
       rw [hi] at hy
       cases hy
       have hlt : i<(zs.take len).length:=(List.getElem?_eq_some_iff.1 hi).1
       have : zs.getD i 0=q:=by
        rw [List.getElem?_take] at hi
        split at hi
        ·rw [List.getD,hi];rfl
        ·cases hi
       rw [this]
       exact .int _ _)
   rw [hlen] at this
   exact this
theorem aCc.wf {w : World} {a : Option Addr} {len cap : Nat} {zs : List Int} (h : aCc w a len cap zs) : ∀ x∈zs.take len,(Lit.int .u8 x).wf=true:=by
 intro x hx
 rcases h with ⟨_,_,_,rfl⟩ | ⟨_,_,_,_,_,_,hw⟩
 ·simp at hx
 ·exact hw x (List.mem_of_mem_take hx)
theorem aJK (n : Nat) (args : R) (bD : Array Value) (h : aY n args=some [.bool true]) {w : World} (gz : aDV w λr=>r<w.heap.size) (hl : args.length=bD.size) (hr : ∀ (i : Nat) x v,args[i]? = some x→bD[i]? = some v→gD w (λr=>r<w.heap.size) x v) :
 Calls Tryz.prog n bD w λe w'=>e = .returned (.bool true)∧Below w.heap.size w w':=by
 refine (aH2 hyp h (Z:=λr=>r<w.heap.size) ⟨λ_ h=>h,gz⟩ hl hr).mono ?_
 rintro e w' ⟨v,rfl,Z',pe,hrep⟩
 have hrep : gD w' Z' (.bool true) v:=hrep
 rw [hrep.bool_inv]
 exact ⟨rfl,pe.os,pe.tape,pe.output,pe.size,pe.old⟩
theorem aNF {l : List Int} (h : ∀ x∈l,(Lit.int .u8 x).wf=true) : ∀ x∈l,0≤x∧x≤255:=by
 intro x hx
 have:=h x hx
 have e1 : IntKind.min .u8=0:=rfl
 have e2 : IntKind.max .u8=255:=rfl
 simp only [Lit.wf,e1,e2,Bool.and_eq_true,decide_eq_true_eq] at this
 exact this
theorem own : ownKnob Tryz.prog.godebug=none:=by kernel_rfl
theorem aM9 : laidOutB Tryz.prog=true:=by kernel_rfl
end
end Go.Proofs.YtllmobkkbpdchaaGreat
