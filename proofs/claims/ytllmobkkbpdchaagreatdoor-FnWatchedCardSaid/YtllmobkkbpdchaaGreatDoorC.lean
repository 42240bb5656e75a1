/-
  Texts of the proof, part 3: a value-level evaluator and its soundness, what the functions compute, laws about it.
  Conditions: none.
-/
import Derived.Test.YtllmobkkbpdchaaGreatDoorB
set_option linter.all false
namespace Go.Proofs.YtllmobkkbpdchaaGreatDoor
noncomputable section
open Go
variable {t n0 : Nat} {ps : List (Nat × DV)} {s : St} {k : DV → St → OR} {r : R}
section
variable {P : Program} {X : Cx}
theorem aHD {o : OTy} : ∀ {ds : List DV} {s : St} {k : R→St→OR} {r : R},aGo o s ds k=some r→
 ∃ vs ls,k vs (s.killL ls)=some r∧vs.length=ds.length∧(∀ l∈ls,l∈ds.flatMap (dX (cU+1)))∧
   ∀ (n : Nat) (m : bY) (L : NP),sN m→(∀ l,L l→m.s.list l=s.list l)→(∀ l∈ds.flatMap (dX (cU+1)),L l)→∀ us : List Value,us.length=ds.length→
     (∀ (i : Nat) d u,ds[i]? = some d→us[i]? = some u→m.rd d u)→(∀ x∈vs,x.isEl o.s o.g=true)→
     ∃ m' cv fp,zE m m' n ls∧Els m'.w m'.Z o vs cv fp∧(∀ (i : Nat) u,us[i]? = some u→u.cells.toList=(List.range o.s).map (cv i))∧
       (∀ i j r : Nat,i<vs.length→j<o.s→fp i j r→m'.L r∧¬ m.L r)
 | [],s,k,r,h=>⟨[],[],h,rfl,by simp,λn m L inv _ _ us hl _ _=>⟨m,λ_ _=>undef,λ_ _ _=>False,zE.refl n inv,Els.nil _ _ _,λi u hu=>by
  have : us = []:=List.eq_nil_of_length_eq_zero hl
  subst this
  simp at hu,λ_ _ _ hi=>by simp at hi⟩⟩
 | d::ds,s,k,r,h=>by
   unfold aGo at h
   obtain ⟨x,ls1,h1,hls1,H1⟩:=aJN h
   obtain ⟨vs,ls2,h2,hlen,hls2,H2⟩:=aHD h1
   refine ⟨x::vs,ls1++ls2,by rw [← aCD];exact h2,by simp [hlen],?_,λn m L inv hL hd us hl hrd hel=>?_⟩
   ·intro l hl
    rw [List.flatMap_cons]
    rcases List.mem_append.1 hl with h | h
    ·exact List.mem_append.2 (.inl (hls1 l h))
    ·exact List.mem_append.2 (.inr (hls2 l h))
   ·cases us with
    | nil=>simp at hl
    | cons u us=>
      have hd1 : ∀ l∈dX (cU+1) d,L l:=λl h=>hd l (by rw [List.flatMap_cons];exact List.mem_append.2 (.inl h))
      have hd2 : ∀ l∈ds.flatMap (dX (cU+1)),L l:=λl h=>hd l (by rw [List.flatMap_cons];exact List.mem_append.2 (.inr h))
      obtain ⟨m1,vs1,us1,F1,sk1,C1,hu1,hul1,huc1,hx1⟩:=H1 n m L inv hL hd1 u (hrd 0 d u rfl rfl) (hel x List.mem_cons_self)
      obtain ⟨m2,cv,fp,sk2,E,hcv,hfp⟩:=H2 n m1 L sk1.step.inv (λl hl=>by rw [sk1.list,iC,hL l hl]) hd2 us (by simpa using hl)
       (λi d' u' h1 h2=>sk1.keepD (hrd (i+1) d' u' (by simpa using h1) (by simpa using h2))) (λy hy=>hel y (List.mem_cons_of_mem _ hy))
      have c1:=C1.len
      refine ⟨m2,λi j=>match i with | 0=>us1.getD j undef | i+1=>cv i j,λi j r=>match i with | 0=>F1 j r | i+1=>fp i j r,sk1.trans sk2,⟨?_,?_,?_,?_⟩,?_,?_⟩
      ·intro i y hy
       exact hel y (List.mem_of_getElem? hy)
      ·intro i j hi hj
       cases i with
       | zero=>exact huc1 j _ (by rw [List.getD,List.getElem?_eq_getElem (show j<us1.length by omega)];rfl)
       | succ i=>exact E.one i j (by simpa using hi) hj
      ·intro i j y hy hj
       cases i with
       | zero=>
         simp at hy
         subst hy
         have hv : vs1[j]? = some (vs1[j]'(by omega)):=List.getElem?_eq_getElem (by omega)
         have hu : us1[j]? = some (us1[j]'(by omega)):=List.getElem?_eq_getElem (by omega)
         have:=C1.rep j _ _ hv hu
         rw [Nat.zero_add] at this
         rw [hx1 j _ hv]
         have e : us1.getD j undef=us1[j]'(by omega):=by rw [List.getD,hu];rfl
         show eO _ _ _ _ (us1.getD j undef) (F1 j)
         rw [e]
         exact sk2.keepO this (λr hr=>(C1.own j r (by omega) hr).1)
       | succ i=>exact E.rep i j y (by simpa using hy) hj
      ·intro i j i' j' r hi hj hi' hj' a b
       cases i with
       | zero=>
         cases i' with
         | zero=>exact ⟨rfl,C1.apart j j' r (by omega) (by omega) a b⟩
         | succ i'=>exact ((hfp i' j' r (by simpa using hi') hj' b).2 (C1.own j r (by omega) a).1).elim
       | succ i=>
         cases i' with
         | zero=>exact ((hfp i j r (by simpa using hi) hj a).2 (C1.own j' r (by omega) b).1).elim
         | succ i'=>
           have:=E.fd i j i' j' r (by simpa using hi) hj (by simpa using hi') hj' a b
           omega
      ·intro i u' hu'
       cases i with
       | zero=>
         simp at hu'
         subst hu'
         rw [hu1]
         apply List.ext_getElem?
         intro j
         rw [List.getElem?_map]
         by_cases hj : j<o.s
         ·rw [List.getElem?_range hj,List.getElem?_eq_getElem (show j<us1.length by omega)]
          simp [List.getD,List.getElem?_eq_getElem (show j<us1.length by omega)]
         ·rw [List.getElem?_eq_none (by omega),List.getElem?_eq_none (by simpa using hj)]
          rfl
       | succ i=>exact hcv i u' (by simpa using hu')
      ·intro i j r hi hj hr
       cases i with
       | zero=>exact ⟨sk2.L r (C1.own j r (by omega) hr).1,(C1.own j r (by omega) hr).2⟩
       | succ i=>
         have:=hfp i j r (by simpa using hi) hj hr
         exact ⟨this.1,λh=>this.2 (sk1.L r h)⟩
theorem aFq (hT : X.T=aM P) (h : aNA X t=true) : aD1 X t=true∧((aM P).at t).size≠0∧aHq (zeroCells (aM P) 20 t) (X.own t)=true:=by
 unfold aNA at h
 simp only [Bool.and_eq_true,hT] at h
 exact ⟨h.1.1,λe=>by have:=h.1.2;simp [e] at this,h.2⟩
theorem aEe : ∀ {n : Nat} {ps : List (Nat × DV)},aHp n ps=true→∀ (i : Nat) p,ps[i]? = some p→p.1=n+i
 | _,[],_,i,p,h=>by simp at h
 | n,(a,d)::ps,h,i,p,hp=>by
   unfold aHp at h
   simp only [Bool.and_eq_true] at h
   cases i with
   | zero=>simp at hp;subst hp;exact dH h.1
   | succ i=>
     have:=aEe h.2 i p (by simpa using hp)
     omega
theorem aPZ (hT : X.T=aM P) (hz : qC P X.zok) {u : Nat} (hu : kY X t=some u) (h : aSw X u n0 ps s k=some r) :
 ∃ d' s',k d' s'=some r∧∀ (n : Nat) (m : bY) (B L WB WL : NP),tT m s B L n→s'.nb≤n+16→∀ (vs : Array (Nat × Value)),RdP m ps vs.toList→
  ∃ v m',(Instr.buildSlice t n0 vs).run P m.w = .ok v m'.w∧dF m m' s s' B L WB WL n id∧m'.rd d' v:=by
 unfold aSw at h
 split at h
 rotate_left
 ·cases h
 rename_i hc
 simp only [Bool.and_eq_true] at hc
 obtain ⟨⟨⟨⟨⟨hro,hsz1⟩,hle⟩,hord⟩,hlen0⟩,hrows⟩:=hc
 obtain ⟨hzo,hsz,_⟩:=aFq hT hro
 obtain ⟨hzk,hzl,hz1⟩:=aAq hT hzo
 have hle:=tU hle
 have hlen0:=dH hlen0
 have hsz1:=dH hsz1
 rw [hT] at hsz1
 have hus : ((aM P).at t).d = .slice u:=by
  unfold kY at hu
  rw [hT] at hu
  split at hu
  ·rename_i e he;cases hu;exact he
  ·cases hu
 refine ⟨_,_,h,λn m B L WB WL sit hn vs hp=>?_⟩
 have hpl:=hp.1
 have hn : s.nb+1≤n+16:=hn
 obtain ⟨i,hi,hiz,his,hib,hizs⟩:=aCa hz hzk hzl hz1 hsz
 have hvs : vs.toList=((vs.toList.map (·.2)).zipIdx 0).map λx=>(x.2,x.1):=by
  apply List.ext_getElem?
  intro j
  rw [List.getElem?_map,List.getElem?_zipIdx,List.getElem?_map]
  cases hj : vs.toList[j]? with
  | none=>rfl
  | some q=>
    have hlt:=(List.getElem?_eq_some_iff.1 hj).1
    have hpj : ps[j]? = some (ps[j]'(by omega)):=List.getElem?_eq_getElem (by omega)
    have:=(hp.2 j _ q hpj hj).1
    have h0:=aEe hord j _ hpj
    obtain ⟨a,b⟩:=q
    simp at this h0 ⊢
    omega
 have hcell : ∀ (j : Nat) v,(vs.toList.map (·.2))[j]? = some v→eN v:=λj v hv=>by
  rw [List.getElem?_map] at hv
  cases hvj : vs.toList[j]? with
  | none=>rw [hvj] at hv;cases hv
  | some q=>
    rw [hvj] at hv;cases hv
    have hlt:=(List.getElem?_eq_some_iff.1 hvj).1
    have hpj : ps[j]? = some (ps[j]'(by omega)):=List.getElem?_eq_getElem (by omega)
    have hrd:=(hp.2 j _ q hpj hvj).2
    rw [List.all_eq_true] at hrows
    have hr:=hrows _ (List.mem_of_getElem? hpj)
    generalize (ps[j]'(by omega)).2=d at hrd hr
    cases d with
    | ref=>cases hrd;assumption
    | sref=>cases hrd;assumption
    | _=>cases hr
 have hrdl : ∀ (j : Nat) d v,(ps.map (·.2))[j]? = some d→(vs.toList.map (·.2))[j]? = some v→m.rd d v:=λj d v hd hv=>by
  rw [List.getElem?_map] at hd hv
  cases hpi : ps[j]? with
  | none=>rw [hpi] at hd;cases hd
  | some p=>
    cases hvi : vs.toList[j]? with
    | none=>rw [hvi] at hv;cases hv
    | some q=>
      rw [hpi] at hd;rw [hvi] at hv;cases hd;cases hv
      exact (hp.2 j p q hpi hvi).2
 generalize hus' : vs.toList.map (·.2)=us at hvs hcell hrdl
 have hul : us.length=n0:=by rw [← hus',List.length_map];omega
 have hcsz : ∀ v∈us,v.cells.size=1:=by
  intro v hv
  obtain ⟨i,hi⟩:=List.getElem?_of_mem hv
  have:=uJ (hcell i v hi)
  rw [← Array.length_toList,this];rfl
 have hflat : (us.flatMap λv=>v.cells.toList)=us:=by
  have : ∀ l : List Value,(∀ v∈l,eN v)→(l.flatMap λv=>v.cells.toList)=l:=by
   intro l
   induction l with
   | nil=>intro _;rfl
   | cons a r ih=>
     intro h
     rw [List.flatMap_cons,ih (λv hv=>h v (List.mem_cons_of_mem _ hv)),uJ (h a List.mem_cons_self)]
     rfl
  exact this us (λv hv=>by obtain ⟨i,hi⟩:=List.getElem?_of_mem hv;exact hcell i v hi)
 have hrun : (Instr.buildSlice t n0 vs).run P m.w = .ok (.slice (some ⟨m.w.heap.size,0,none⟩) n0 n0) (m.w.alloc (.cells us.toArray u)):=by
  have hfill : ∀ cells : Array Value,n0*1=cells.size→Instr.fill (λi=>some (i*1,1)) cells vs.toList=some us.toArray:=λcells hc=>by
   rw [hvs]
   have:=Go.Great.fill_whole (show 0<1 by omega) us cells hcsz (by rw [hul];exact hc)
   rwa [hflat] at this
  rw [← hsz1] at hfill
  have hn24 : ¬ (16777216<n0*((aM P).at u).size):=by rw [hsz1];omega
  by_cases h0 : n0*((aM P).at u).size=0
  ·have:=hfill ((Array.range (n0*((aM P).at u).size)).map λx=>(#[] : Array Value)[x % (#[] : Array Value).size]!) (by simp)
   simp [Instr.buildSlice,run_underlying (pS.slice hus),sizeOf,typeInfo,hi,his,hn24,h0,newRow] at this ⊢
   rw [this]
   simp
  ·have:=hfill ((Array.range (n0*((aM P).at u).size)).map λx=>(gI (aM P) u).cells[x % (gI (aM P) u).cells.size]!) (by simp)
   simp [Instr.buildSlice,run_underlying (pS.slice hus),sizeOf,typeInfo,zeroValue,hi,hiz,his,hn24,h0,newRow] at this ⊢
   rw [this]
   simp
 have G:=dF.addBox (B:=B) (L:=L) WB WL sit (by omega) (ety:=u) (cs:=ps.map (·.2)) (vs:=us) (by rw [List.length_map];omega) hcell hrdl
 refine ⟨_,_,hrun,G,?_⟩
 have : (m.addBox s.nb (m.w.alloc (.cells us.toArray u)) (ps.map (·.2))).rd (.bsl s.nb n0) (.slice (some ⟨(m.addBox s.nb (m.w.alloc (.cells us.toArray u)) (ps.map (·.2))).ρ.box s.nb,0,none⟩) n0 n0):=.bsl _ _ (.inr rfl)
 have e : (m.addBox s.nb (m.w.alloc (.cells us.toArray u)) (ps.map (·.2))).ρ.box s.nb=m.w.heap.size:=by
  show (if s.nb=s.nb then m.w.heap.size else _)=_
  rw [if_pos rfl]
 rw [e] at this
 exact this
theorem aHE (hT : X.T=aM P) (hz : qC P X.zok) (h : uF X t n0 ps s k=some r) :
 ∃ d' s',k d' s'=some r∧∀ (n : Nat) (m : bY) (B L WB WL : NP),tT m s B L n→s'.nl≤n+16→s'.nb≤n+16→(∀ l∈(ps.map (·.2)).flatMap (dX (cU+1)),L l∧WL l)→∀ (vs : Array (Nat × Value)),RdP m ps vs.toList→
  ∃ v m',(Instr.buildSlice t n0 vs).run P m.w = .ok v m'.w∧dF m m' s s' B L WB WL n id∧m'.rd d' v:=by
 unfold uF at h
 split at h
 rotate_left
 ·cases h
 rename_i u hu
 split at h
 ·obtain ⟨d',s',hk,H⟩:=aPZ hT hz hu h
  exact ⟨d',s',hk,λn m B L WB WL sit _ hnb _ vs hp=>H n m B L WB WL sit hnb vs hp⟩
 split at h
 rotate_left
 ·cases h
 rename_i hc
 simp only [Bool.and_eq_true] at hc
 obtain ⟨⟨⟨hro,hle⟩,hord⟩,hlen0⟩:=hc
 obtain ⟨hzo,hsz,_⟩:=aFq hT hro
 obtain ⟨hzk,hzl,hz1⟩:=aAq hT hzo
 have hle:=tU hle
 have hlen0:=dH hlen0
 rw [hT] at hle
 have hus : ((aM P).at t).d = .slice u:=by
  unfold kY at hu
  rw [hT] at hu
  split at hu
  ·rename_i e he;cases hu;exact he
  ·cases hu
 have os : (rowOf X u).s=((aM P).at u).size:=by unfold rowOf;rw [hT];rfl
 obtain ⟨xs,ls,h1,hxl,hls,H⟩:=aHD h
 obtain ⟨c',hc',hk⟩:=bH h1
 obtain ⟨e1,e2,q1,q2,hb,hall,rfl⟩:=aOO hc'
 simp only [eK] at q1 q2
 cases q1;cases q2
 refine ⟨_,_,hk,λn m B L WB WL sit hn _ hL vs hp=>?_⟩
 have hpl:=hp.1
 have hn : (s.killL ls).nl+1≤n+16:=hn
 have hxs : xs.length=n0:=by rw [hxl];simp;exact hlen0
 obtain ⟨m1,cv,fp,sk,E,hcv,hfp⟩:=H n m L sit.inv (λl h=>sit.al l (.inl h)) (λl hl=>(hL l hl).1) (vs.toList.map (·.2)) (by simp [hpl]) (λi d v hd hv=>by
  rw [List.getElem?_map] at hd hv
  cases hpi : ps[i]? with
  | none=>rw [hpi] at hd;cases hd
  | some p=>
    cases hvi : vs.toList[i]? with
    | none=>rw [hvi] at hv;cases hv
    | some q=>
      rw [hpi] at hd;rw [hvi] at hv;cases hd;cases hv
      exact (hp.2 i p q hpi hvi).2) (λx hx=>by rw [List.all_eq_true] at hall;exact hall x hx)
 have G1:=sk.goes (B:=B) (L:=L) (WL:=WL) WB sit (λl hl=>.inl (hL l (hls l hl)).1) (λl hl=>.inl (hL l (hls l hl)).2)
 have sit1:=G1.sit sit
 obtain ⟨i,hi,hiz,his,hib,hizs⟩:=aCa hz hzk hzl hz1 hsz
 have hvs : vs.toList=((vs.toList.map (·.2)).zipIdx 0).map λx=>(x.2,x.1):=by
  apply List.ext_getElem?
  intro j
  rw [List.getElem?_map,List.getElem?_zipIdx,List.getElem?_map]
  cases hj : vs.toList[j]? with
  | none=>rfl
  | some q=>
    have hlt:=(List.getElem?_eq_some_iff.1 hj).1
    have hpj : ps[j]? = some (ps[j]'(by omega)):=List.getElem?_eq_getElem (by omega)
    have:=(hp.2 j _ q hpj hj).1
    have h0:=aEe hord j _ hpj
    obtain ⟨a,b⟩:=q
    simp at this h0 ⊢
    omega
 have hspos : 0<(rowOf X u).s:=by rw [os];omega
 generalize hus' : vs.toList.map (·.2)=us at hvs hcv
 have hul : us.length=n0:=by rw [← hus',List.length_map];omega
 have hcsz : ∀ v∈us,v.cells.size=(rowOf X u).s:=by
  intro v hv
  obtain ⟨i,hi⟩:=List.getElem?_of_mem hv
  have:=hcv i v hi
  rw [← Array.length_toList,this];simp
 have hrun : (Instr.buildSlice t n0 vs).run P m.w = .ok (.slice (some ⟨m.w.heap.size,0,none⟩) n0 n0) (m.w.alloc (.cells (us.flatMap λv=>v.cells.toList).toArray u)):=by
  have hfill : ∀ cells : Array Value,n0*(rowOf X u).s=cells.size→Instr.fill (λi=>some (i*(rowOf X u).s,(rowOf X u).s)) cells vs.toList=some (us.flatMap λv=>v.cells.toList).toArray:=λcells hc=>by
   rw [hvs]
   exact Go.Great.fill_whole hspos us cells hcsz (by rw [hul];exact hc)
  rw [os] at hfill
  have hn24 : ¬ (16777216<n0*((aM P).at u).size):=by omega
  by_cases h0 : n0*((aM P).at u).size=0
  ·have:=hfill ((Array.range (n0*((aM P).at u).size)).map λx=>(#[] : Array Value)[x % (#[] : Array Value).size]!) (by simp)
   simp [Instr.buildSlice,run_underlying (pS.slice hus),sizeOf,typeInfo,hi,his,hn24,h0,newRow] at this ⊢
   rw [this]
   simp
  ·have:=hfill ((Array.range (n0*((aM P).at u).size)).map λx=>(gI (aM P) u).cells[x % (gI (aM P) u).cells.size]!) (by simp)
   simp [Instr.buildSlice,run_underlying (pS.slice hus),sizeOf,typeInfo,zeroValue,hi,hiz,his,hn24,h0,newRow] at this ⊢
   rw [this]
   simp
 have hw1 : m1.w=m.w:=sk.w
 have hold : ∀ r,r<m1.w.heap.size→(m.w.alloc (.cells (us.flatMap λv=>v.cells.toList).toArray u)).heap[r]? = m1.w.heap[r]?:=λr hr=>by
  rw [hw1] at hr ⊢
  exact heap_alloc_old m.w _ r hr
 have E':=E.frame (w':=m.w.alloc (.cells (us.flatMap λv=>v.cells.toList).toArray u)) (Z':=m1.Z) (λ_ h=>h) (λr hr=>hold r (sit1.inv.zlt r hr))
  (λi j r hi hj hr=>by
   have:=sit1.inv.Lz r (hfp i j r hi hj hr).1
   exact ⟨hold r this.2,this.1⟩)
 have hro':=E'.repO (o:=rowOf X u) rfl hspos (b:=m.w.heap.size) (off:=0) (cap:=n0) (heap_alloc_new m.w _) (by
  have : (us.flatMap λv=>v.cells.toList).length=n0*(rowOf X u).s:=by
   rw [List.length_flatMap]
   have : us.map (λv=>v.cells.toList.length)=List.replicate us.length (rowOf X u).s:=by
    rw [List.eq_replicate_iff]
    refine ⟨by simp,λb hb=>?_⟩
    obtain ⟨v,hv,rfl⟩:=List.mem_map.1 hb
    simpa using hcsz v hv
   rw [this,List.sum_replicate_nat,hul]
  simp [this]) (by omega) (λhzr=>by have:=sit1.inv.zlt _ hzr;rw [hw1] at this;omega)
  (λi j hi' hj=>by
   have h1 : i<us.length:=by omega
   have hu2 : us[i]? = some us[i]:=List.getElem?_eq_getElem h1
   have:=Go.Great.flat_get hspos us hcsz (i*(rowOf X u).s+j)
   have d1 : (i*(rowOf X u).s+j) / (rowOf X u).s=i:=by
    rw [Nat.mul_comm,Nat.mul_add_div hspos,Nat.div_eq_of_lt hj,Nat.add_zero]
   have d2 : (i*(rowOf X u).s+j) % (rowOf X u).s=j:=by
    rw [Nat.mul_comm,Nat.mul_add_mod,Nat.mod_eq_of_lt hj]
   rw [d1,d2,hu2] at this
   rw [Nat.zero_add]
   have h2 : us[i].cells[j]? = some (cv i j):=by
    rw [← Array.getElem?_toList,hcv i _ hu2,List.getElem?_map,List.getElem?_range hj]
    rfl
   rw [Option.bind_some,h2] at this
   simpa using this)
  (λi j hi' hj hr=>by
   have:=(sit1.inv.Lz _ (hfp i j _ hi' hj hr).1).2
   rw [hw1] at this
   omega)
 have G2:=dF.addRow (B:=B) (L:=L) WB WL sit1 (by omega) (w':=m.w.alloc (.cells (us.flatMap λv=>v.cells.toList).toArray u)) (own:=⟨rowOf X u,.lst ([]++xs)⟩) (hdr:=.slice (some ⟨m.w.heap.size,0,none⟩) xs.length n0) rfl hro'
  (λr hr=>by
   rcases hr with rfl | ⟨i,j,hi',hj,hr⟩
   ·right;rw [hw1];exact Nat.le_refl _
   ·exact .inl (hfp i j r hi' hj hr).1)
  (λr hr _=>hold r hr) (by rw [hw1];simp) (by rw [hw1];rfl) (by rw [hw1];rfl) (by rw [hw1];rfl)
 refine ⟨_,_,?_,G1.trans G2,bY.addRow_rd trivial⟩
 rw [hrun,hxs]
 rfl
theorem aLx {w : World} {Z : NP} : ∀ {zs : R} {cts : List OTy},aHq zs cts=true→∀ (j : Nat) z,zs[j]? = some z→eO w Z (cts.getD j .leaf) (aK7 z) (uU z) (λ_=>False)
 | [],_,_,j,z,h=>by simp at h
 | z0::zs,[],_,j,z,_=>by
   simp only [List.getD,List.getElem?_nil,Option.getD_none]
   exact .leaf _ _ _ (aGt w Z z) (λ_ h=>h)
 | z0::zs,c::cts,h,j,z,hz=>by
   unfold aHq at h
   simp only [Bool.and_eq_true,Bool.or_eq_true] at h
   cases j with
   | zero=>
     simp at hz
     subst hz
     show eO w Z c _ _ _
     rcases h.1 with h1 | h1
     ·cases c with
      | leaf=>exact .leaf _ _ _ (aGt w Z z0) (λ_ h=>h)
      | own=>cases h1
     ·cases z0<;>first | (cases h1;done) | skip
      cases c with
      | leaf=>exact .leaf _ _ _ (aGt w Z (.lst _)) (λ_ h=>h)
      | own=>exact .nil _ _ _ _ _ none (λ_ h=>h)
   | succ j=>
     have:=aLx (w:=w) (Z:=Z) h.2 j z (by simpa using hz)
     simpa [List.getD] using this
theorem aNN {e : Nat} {z n y : PV} (h : bD e z n=some y) : ∃ (k : IntKind) (m : Nat),n = .int k m∧m*e≤2 ^ 47∧m<2 ^ 62∧y = .lst (List.replicate m z):=by
 unfold bD at h
 split at h
 ·rename_i k m
  split at h
  ·rename_i hc
   cases h
   exact ⟨k,m.toNat,by rw [Int.toNat_of_nonneg hc.1],hc.2.1,by omega,rfl⟩
  ·cases h
 ·cases h
theorem aSC {v : PV} (h : aA2.isZ v=true) : ∃ k,v = .int k 0:=by
 unfold aA2.isZ at h
 split at h
 ·exact ⟨_,rfl⟩
 ·cases h
theorem aMY (hT : X.T=aM P) {x : DV} {lo hi : Option DV} {mx : DV} (h : aA2 X t x lo hi mx s k=some r) :
 ∃ d' s',k d' s'=some r∧∀ (n : Nat) (m : bY) (B L WB WL : NP),tT m s B L n→s'.nl≤n+16→∀ v vl vh vm,m.rd x v→m.rdO lo vl→m.rdO hi vh→m.rd mx vm→
  ∃ u m',(Instr.sliceAt t v vl vh (some vm)).run P m.w = .ok u m'.w∧dF m m' s s' B L WB WL n id∧m'.rd d' u:=by
 unfold aA2 at h
 split at h
 rotate_left
 ·cases h
 rename_i u v0 h0 n0 hu
 split at h
 rotate_left
 ·cases h
 rename_i hc
 simp only [Bool.and_eq_true] at hc
 obtain ⟨⟨hro,hz1⟩,hz2⟩:=hc
 obtain ⟨_,hsz,_⟩:=aFq hT hro
 have hus : ((aM P).at t).d = .slice u:=by
  unfold kY at hu
  rw [hT] at hu
  split at hu
  ·rename_i e he;cases hu;exact he
  ·cases hu
 obtain ⟨k1,rfl⟩:=aSC hz1
 obtain ⟨k2,rfl⟩:=aSC hz2
 obtain ⟨y,hy,hk⟩:=bH h
 clear h
 obtain ⟨xs,rfl,rfl⟩:=PV.len_inv hy
 refine ⟨_,_,hk,λn m B L WB WL sit hn v vl vh vm hv hvl hvh hvm=>?_⟩
 have hn : s.nl+1≤n+16:=hn
 cases hv with
 | p _ _ hv=>cases hvm with
   | p _ _ hvm=>
     cases hvm
     obtain ⟨a,cap,rfl⟩:=hv.lst_slice
     have hvl : vl=none:=by cases vl with | none=>rfl | some _=>exact hvl.elim
     subst hvl
     obtain ⟨k3,rfl⟩:=aKQ (n:=0) rfl hvh
     have G:=dF.addRow (B:=B) (L:=L) WB WL sit (by omega) (w':=m.w) (own:=⟨rowOf X u,.lst []⟩) (hdr:=.slice a 0 0) (F:=λ_=>False) rfl (.nil _ _ _ _ _ a (λ_ h=>h)) (λ_ h=>h.elim) (λ_ _ _=>rfl) (Nat.le_refl _) rfl rfl rfl
     refine ⟨_,_,?_,G,bY.addRow_rd trivial⟩
     have sb : ∀ (k : IntKind) (y : Nat) (c : BoundsCode),(Instr.sliceBound (.int k 0) y c).run P m.w = .ok 0 m.w:=by
      intro k y c
      simp [Instr.sliceBound,asIntOf]
     simp [Instr.sliceAt,run_underlying (pS.slice hus),Instr.slice,Instr.sliceBounds,sb,nY (.inl hsz)]
     rfl
theorem aIZ (hT : X.T=aM P) (hz : qC P X.zok) {l c : DV} (h : wH X t l c s k=some r) :
 ∃ d' s',k d' s'=some r∧∀ (n : Nat) (m : bY) (B L WB WL : NP),tT m s B L n→s'.nl≤n+16→∀ vl vc,m.rd l vl→m.rd c vc→
  ∃ v m',(Instr.makeSlice t vl vc).run P m.w = .ok v m'.w∧dF m m' s s' B L WB WL n id∧m'.rd d' v:=by
 unfold wH at h
 split at h
 rotate_left
 ·cases h
 rename_i u n1 m1 hu
 split at h
 rotate_left
 ·cases h
 rename_i hro
 obtain ⟨hzo,hsz,hok⟩:=aFq hT hro
 obtain ⟨hzk,hzl,hz1⟩:=aAq hT hzo
 have hus : ((aM P).at t).d = .slice u:=by
  unfold kY at hu
  rw [hT] at hu
  split at hu
  ·rename_i e he;cases hu;exact he
  ·cases hu
 have os : (rowOf X u).s=((aM P).at u).size:=by unfold rowOf;rw [hT];rfl
 have oe : (rowOf X u).e=((aM P).at u).bytes:=by unfold rowOf;rw [hT];rfl
 have og : (rowOf X u).g=((aM P).at u).isAgg:=by unfold rowOf;rw [hT];rfl
 obtain ⟨y1,hy1,h1⟩:=bH h
 obtain ⟨y2,hy2,h2⟩:=bH h1
 rcases aB8 h2 with ⟨rfl,h3⟩ | ⟨_,h3⟩
 rotate_left
 ·cases h3
 obtain ⟨y3,hy3,hk⟩:=bH h3
 clear h h1 h2 h3
 obtain ⟨kc,mc,rfl,hb1,hb2,_⟩:=aNN hy1
 obtain ⟨kl,ml,rfl,_,_,rfl⟩:=aNN hy3
 have hle : ml≤mc:=by
  unfold aD at hy2
  simp only at hy2
  split at hy2
  ·simp only [lO] at hy2
   cases hd : decide ((ml : Int)≤mc) with
   | true=>simpa using hd
   | false=>rw [hd] at hy2;cases hy2
  ·cases hy2
 refine ⟨_,_,hk,λn m B L WB WL sit hn vl vc hvl hvc=>?_⟩
 have hn : s.nl+1≤n+16:=hn
 obtain ⟨i,hi,hiz,his,hib,hizs⟩:=aCa hz hzk hzl hz1 hsz
 cases hvl with
 | p _ _ hvl=>cases hvl;cases hvc with
   | p _ _ hvc=>
     cases hvc
     have hrun:=run_make (P:=P) m.w t u i (gI (aM P) u) (pS.slice hus) hi hiz kl kc ml mc (by omega) (by omega) (by
      rw [hib]
      rw [oe] at hb1
      have : ((((aM P).at u).bytes*mc : Nat) : Int)≤281474976710656:=by rw [Nat.mul_comm];omega
      rwa [Int.natCast_mul] at this) (by omega)
     simp only [Int.toNat_natCast,his] at hrun
     have hspos : 0<(rowOf X u).s:=by rw [os];omega
     have hzel : (aCw X u).isEl (rowOf X u).s (rowOf X u).g=true:=by
      unfold aCw
      rw [hT,os,og]
      simp only
      split
      ·rename_i ha
       rw [ha]
       simp [PV.isEl,hzl]
      ·rename_i ha
       have hs1:=hz1.resolve_left ha
       rw [hs1] at hzl ⊢
       match hzc : zeroCells (aM P) 20 u,hzl with
       | [x],_=>simp only [List.map_cons,List.headD_cons];cases x<;>simp [aK7,PV.isEl,ha]
     have hzcell : ∀ j z,(zeroCells (aM P) 20 u)[j]? = some z→gF (rowOf X u).g (aCw X u) j=aK7 z:=by
      intro j z hj
      unfold aCw gF
      rw [hT,og]
      simp only
      cases ha : ((aM P).at u).isAgg with
      | true=>simp [List.getD,hj]
      | false=>
        have hs1:=hz1.resolve_left (by rw [ha];simp)
        rw [hs1] at hzl
        match hzc : zeroCells (aM P) 20 u,hzl with
        | [x],_=>
         rw [hzc] at hj
         cases j with
         | zero=>simp at hj;subst hj;simp
         | succ j=>simp at hj
     have hzv : (gI (aM P) u).cells.toList=(zeroCells (aM P) 20 u).map uU:=sO hzl hz1
     have hjz : ∀ j,j<(rowOf X u).s→∃ z,(zeroCells (aM P) 20 u)[j]? = some z:=λj hj=>⟨_,List.getElem?_eq_getElem (by rw [hzl,← os];exact hj)⟩
     have E : Els (m.w.alloc (.cells (madeCells (gI (aM P) u).cells (mc*((aM P).at u).size)) u)) m.Z (rowOf X u) (List.replicate ml (aCw X u)) (λ_ j=>uU ((zeroCells (aM P) 20 u).getD j .nil)) (λ_ _ _=>False):=by
      refine ⟨λi x hx=>?_,λi j _ _=>aA6 _,λi j x hx hj=>?_,λ_ _ _ _ _ _ _ _ _ h=>h.elim⟩
      ·rw [List.mem_replicate.1 (List.mem_of_getElem? hx) |>.2];exact hzel
      ·rw [(List.mem_replicate.1 (List.mem_of_getElem? hx)).2]
       obtain ⟨z,hj'⟩:=hjz j hj
       rw [hzcell j z hj']
       simp only [List.getD,hj',Option.getD_some]
       exact aLx hok j z hj'
     have hold : ∀ r,r<m.w.heap.size→(m.w.alloc (.cells (madeCells (gI (aM P) u).cells (mc*((aM P).at u).size)) u)).heap[r]? = m.w.heap[r]?:=λr hr=>heap_alloc_old m.w _ r hr
     have hcap : ml*(rowOf X u).s≤mc*(rowOf X u).s:=Nat.mul_le_mul_right _ hle
     have hro':=E.repO rfl hspos (b:=m.w.heap.size) (off:=0) (cap:=mc) (heap_alloc_new m.w _) (by rw [size_madeCells,os];omega) (by simp;exact hle) (λhzr=>by have:=sit.inv.zlt _ hzr;omega)
      (λi j hi' hj=>by
       obtain ⟨z,hj'⟩:=hjz j hj
       rw [List.length_replicate] at hi'
       have hlt:=aA9 hi' hj
       rw [Nat.zero_add]
       unfold madeCells
       have hlt2 : i*(rowOf X u).s+j<mc*((aM P).at u).size:=by rw [← os];omega
       rw [Array.getElem?_map,Array.getElem?_range,if_pos hlt2]
       simp only [Option.map_some]
       have hm : (i*(rowOf X u).s+j) % (gI (aM P) u).cells.size=j:=by
        rw [hizs,← os,Nat.mul_comm,Nat.mul_add_mod,Nat.mod_eq_of_lt hj]
       rw [hm]
       simp only [List.getD,hj',Option.getD_some]
       have : (gI (aM P) u).cells[j]? = some (uU z):=by
        rw [← Array.getElem?_toList,hzv,List.getElem?_map,hj'];rfl
       rw [getElem!_def,this]) (λ_ _ _ _ h=>h)
     have G:=dF.addRow (B:=B) (L:=L) WB WL sit (by omega) (w':=m.w.alloc (.cells (madeCells (gI (aM P) u).cells (mc*((aM P).at u).size)) u)) (own:=⟨rowOf X u,.lst (List.replicate ml (aCw X u))⟩)
      (hdr:=.slice (some ⟨m.w.heap.size,0,none⟩) (List.replicate ml (aCw X u)).length mc) rfl hro'
      (λr hr=>by
       rcases hr with rfl | ⟨_,_,_,_,h⟩
       ·exact .inr (Nat.le_refl _)
       ·exact h.elim) (λr hr _=>hold r hr) (by simp) rfl rfl rfl
     refine ⟨_,_,?_,G,bY.addRow_rd trivial⟩
     rw [hrun,List.length_replicate]
     rfl
end
variable {s : St} {l n : Nat} {path : jW} {r : R} {m : bY} {B : NP}
section
variable {P : Program} {X : Cx}
theorem aOQ {k : DV→St→OR} {lo hi : PV} (hpath : path≠[]) (h : aIK l path (some (lo,hi)) s k=some r) :
 ∃ s',k (.ref s.nl []) s'=some r∧s'.nl=s.nl+1∧(∀ l',jF s' l'=jF s l'∨jF s' l'=true)∧∀ (n : Nat) (m : bY) (B L WB WL : NP),tT m s B L n→s'.nl≤n+16→L l∧WL l→
   ∀ vb,m.rd (.sref l path lo hi) vb→∃ m',m'.w=m.w∧dF m m' s s' B L WB WL n id∧m'.rd (.ref s.nl []) vb:=by
 unfold aIK at h
 split at h
 rotate_left
 ·cases h
 rename_i w hw
 obtain ⟨c1,hg,h⟩:=uH h
 split at h
 rotate_left
 ·cases h
 rename_i hfp
 simp only [Bool.and_eq_true] at hfp
 obtain ⟨hplain,hsh⟩:=hfp
 obtain ⟨c3,h,hq⟩:=aJV h
 obtain ⟨p0,path0,hpe⟩ : ∃ p0 q0,path=p0::q0:=by
  cases path with
  | nil=>exact absurd rfl hpath
  | cons a b=>exact ⟨a,b,rfl⟩
 rw [hpe,aFp,← hpe] at h
 obtain ⟨c',c2,h,hp2,HS⟩:=qT h
 obtain ⟨zs,hzs,hk⟩:=zF h
 rw [hg] at hp2
 cases hp2
 refine ⟨_,hk,rfl,λl'=>?_,λn m B L WB WL sit hn hLl vb hvb=>?_⟩
 ·by_cases e : l'=s.nl
  ·refine .inr ?_
   unfold jF
   rw [lC,if_pos (by exact e)]
   exact hplain
  ·refine .inl ?_
   unfold jF
   rw [lC,if_neg (by exact e),jT]
   by_cases e2 : l'=l
   ·subst e2;rw [if_pos rfl,hw]
   ·rw [if_neg e2]
 have hml : m.s.list l=some w:=(sit.al l (.inl hLl.1)).trans hw
 obtain ⟨hty,hlf0,hro⟩:=sit.inv.row l w hml
 rcases hq with ⟨hq,_⟩ | ⟨lo',hi',hq,hcut⟩
 ·cases hq
 cases hq
 have hlf : (w.o.along path).isLeaf=false:=by
  cases hvb with
  | sref _ _ _ _ _ _ _ hd=>
    obtain ⟨_,_,_,_,_,_,_,hh,_⟩:=hd (bY.live_of hml)
    have:=hh.along_notLeaf (by rw [← hty];exact hlf0)
    rw [← hty] at this
    exact this
 obtain ⟨v1,F1,hh,hr1,hF1,HW⟩:=HS m.w m.Z _ _ hro hlf
 obtain ⟨xs0,_,_,_,_,hc1,_⟩:=rM hcut
 subst hc1
 have hcv : eN v1:=by
  rcases hr1.els hlf with ⟨_,_,h1⟩ | ⟨b,off,cap,cells,ety,cv,fp,h1,_⟩
  ·rw [h1];exact trivial
  ·rw [h1];exact trivial
 have hhole : eO m.w m.Z (w.o.along path) .hole v1 (λ_=>False):=by
  cases ho : w.o.along path with
  | leaf=>rw [ho] at hlf;cases hlf
  | own s e g cts=>exact .hole s e g cts v1 _ hcv (λ_ h=>h)
 obtain ⟨F',hro',hF'⟩:=HW m.w (λ_=>False) hhole (λ_ _=>rfl) (λ_ h=>h.elim)
 have G1:=dF.setRowH (B:=B) (L:=L) (WL:=WL) WB sit hLl.1 hLl.2 hw hsh hro' (λr hr=>by
  rcases hF' r hr with h | h
  ·exact .inl h.1
  ·exact h.elim) (λb o' len cap hlen hh0=>by
  rw [hh0,hzs] at hro'
  generalize w.o=ow at hro' hlf0
  cases hro' with
  | leaf=>cases hlf0
  | nil=>omega
  | own s0 e0 g0 cts0 xs0 b0 o0 cap0 cells0 ety0 cv0 fp0 F0 _ _ _ _ _ _ _ _ _ hfoot _ _=>exact (hfoot b).2 (.inl rfl))
 have hL2 : ∀ r,m.ρ.fp l r→¬ F' r→(m.setRow l m.w ⟨w.o,c'⟩ F').L r:=λr h1 h2=>⟨.inr h1,h2⟩
 have sit2:=G1.sit sit
 have hcvb : eN vb:=by cases hvb;assumption
 obtain ⟨xs2,m2',n2,k3,k4,hc,h5,h6,h7,h8,rfl,hhd⟩:=rM hcut
 cases hc
 cases hvb with
 | sref _ _ _ _ _ _ _ hd=>
   obtain ⟨a,len,cap,k1,k2,m1,n1,h9,h10,h11,h12,h13,rfl⟩:=hd (bY.live_of hml)
   rw [h5] at h10;cases h10
   rw [h6] at h11;cases h11
   rw [← hty] at h9
   cases hh.unique h9
   obtain ⟨a',len',cap',F2,h14,h15,h16,h17⟩:=hr1.cut hlf hhd h7 h8
   cases h14
   rw [← hty] at hcvb ⊢
   have hn1 : (s.setList l ⟨w.o,c'⟩).nl<n+16:=by
    have : (s.setList l ⟨w.o,c'⟩).nl+1≤n+16:=hn
    omega
   have G2:=dF.addRow (B:=B) (L:=L) WB WL sit2 hn1 (w':=m.w) (own:=⟨w.o.along path,_⟩) (F:=F2) hlf h16 (λr hr=>.inl (hL2 r (hF1 r (h17 r hr)) (λhf=>by
    rcases hF' r hf with h | h
    ·exact h.2 (h17 r hr)
    ·exact h))) (λ_ _ _=>rfl) (Nat.le_refl _) rfl rfl rfl
   exact ⟨(m.setRow l m.w ⟨w.o,c'⟩ F').addRow (s.setList l ⟨w.o,c'⟩).nl m.w ⟨w.o.along path,_⟩ _ F2,rfl,G1.trans G2,bY.addRow_rd hcvb⟩
theorem aDr {k : Nat→St→OR} (hpath : path≠[]) (h : wA l path s k=some r) :
 ∃ s',k s.nl s'=some r∧s'.nl=s.nl+1∧(∀ l',jF s' l'=jF s l'∨jF s' l'=true)∧∀ (n : Nat) (m : bY) (B L WB WL : NP),tT m s B L n→s'.nl≤n+16→L l∧WL l→
   ∀ vb,m.rd (.ref l path) vb→∃ m',m'.w=m.w∧dF m m' s s' B L WB WL n id∧m'.rd (.ref s.nl []) vb:=by
 unfold wA at h
 split at h
 rotate_left
 ·cases h
 rename_i w hw
 obtain ⟨c1,hg,h⟩:=uH h
 split at h
 rotate_left
 ·cases h
 rename_i hfp
 simp only [Bool.and_eq_true,Bool.not_eq_true'] at hfp
 obtain ⟨⟨hplain,hsh⟩,hlf⟩:=hfp
 obtain ⟨p0,path0,hpe⟩ : ∃ p0 q0,path=p0::q0:=by
  cases path with
  | nil=>exact absurd rfl hpath
  | cons a b=>exact ⟨a,b,rfl⟩
 rw [hpe,aFp,← hpe] at h
 obtain ⟨c',c2,h,hp2,HS⟩:=qT h
 obtain ⟨zs,hzs,hk⟩:=zF h
 rw [hg] at hp2
 cases hp2
 refine ⟨_,hk,rfl,λl'=>?_,λn m B L WB WL sit hn hLl vb hvb=>?_⟩
 ·by_cases e : l'=s.nl
  ·refine .inr ?_
   unfold jF
   rw [lC,if_pos (by exact e)]
   exact hplain
  ·refine .inl ?_
   unfold jF
   rw [lC,if_neg (by exact e),jT]
   by_cases e2 : l'=l
   ·subst e2;rw [if_pos rfl,hw]
   ·rw [if_neg e2]
 have hml : m.s.list l=some w:=(sit.al l (.inl hLl.1)).trans hw
 obtain ⟨hty,hlf0,hro⟩:=sit.inv.row l w hml
 obtain ⟨v1,F1,hh,hr1,hF1,HW⟩:=HS m.w m.Z _ _ hro hlf
 have hcvb : eN vb:=by cases hvb;assumption
 have hv : v1=vb:=by
  cases hvb with
  | ref _ _ _ _ _ hd=>
    have:=hd (bY.live_of hml)
    rw [← hty] at this
    exact hh.unique this
 subst hv
 have hhole : eO m.w m.Z (w.o.along path) .hole v1 (λ_=>False):=by
  cases ho : w.o.along path with
  | leaf=>rw [ho] at hlf;cases hlf
  | own s e g cts=>exact .hole s e g cts v1 _ hcvb (λ_ h=>h)
 obtain ⟨F',hro',hF'⟩:=HW m.w (λ_=>False) hhole (λ_ _=>rfl) (λ_ h=>h.elim)
 have G1:=dF.setRowH (B:=B) (L:=L) (WL:=WL) WB sit hLl.1 hLl.2 hw hsh hro' (λr hr=>by
  rcases hF' r hr with h | h
  ·exact .inl h.1
  ·exact h.elim) (λb o' len cap hlen hh0=>by
  rw [hh0,hzs] at hro'
  generalize w.o=ow at hro' hlf0
  cases hro' with
  | leaf=>cases hlf0
  | nil=>omega
  | own s0 e0 g0 cts0 xs0 b0 o0 cap0 cells0 ety0 cv0 fp0 F0 _ _ _ _ _ _ _ _ _ hfoot _ _=>exact (hfoot b).2 (.inl rfl))
 have sit2:=G1.sit sit
 have hn1 : (s.setList l ⟨w.o,c'⟩).nl<n+16:=by
  have : (s.setList l ⟨w.o,c'⟩).nl+1≤n+16:=hn
  omega
 have G2:=dF.addRow (B:=B) (L:=L) WB WL sit2 hn1 (w':=m.w) (own:=⟨w.o.along path,c1⟩) (F:=F1) hlf hr1 (λr hr=>.inl ⟨.inr (hF1 r hr),λhf=>by
  rcases hF' r hf with h | h
  ·exact h.2 hr
  ·exact h⟩) (λ_ _ _=>rfl) (Nat.le_refl _) rfl rfl rfl
 exact ⟨(m.setRow l m.w ⟨w.o,c'⟩ F').addRow (s.setList l ⟨w.o,c'⟩).nl m.w ⟨w.o.along path,c1⟩ _ F1,rfl,G1.trans G2,bY.addRow_rd hcvb⟩
theorem aLy {k : St→OR} {x : Nat} (hpath : path≠[]) (h : aBZ l path x s k=some r) :
 ∃ s',k s'=some r∧s'.nl=s.nl∧s'.nb=s.nb∧∀ (n : Nat) (m : bY) (B L WB WL : NP),tT m s B L n→L l∧WL l→L x∧WL x→
   ∀ v,m.rd (.ref l path) v→m.rd (.ref x []) v→∃ m',m'.w=m.w∧dF m m' s s' B L WB WL n id:=by
 unfold aBZ at h
 split at h
 rotate_left
 ·cases h
 rename_i w hw
 split at h
 rotate_left
 ·cases h
 rename_i hfp
 simp only [Bool.and_eq_true,Bool.not_eq_true'] at hfp
 obtain ⟨hsh,hlf⟩:=hfp
 obtain ⟨y,ls,hk,hls,H⟩:=lB h
 split at hk
 rotate_left
 ·cases hk
 rename_i w1 hw1
 have hww : w1=w:=by
  rw [iC] at hw1
  split at hw1
  ·cases hw1
  ·rw [hw] at hw1;cases hw1;rfl
 subst hww
 obtain ⟨p0,path0,hpe⟩ : ∃ p0 q0,path=p0::q0:=by
  cases path with
  | nil=>exact absurd rfl hpath
  | cons a b=>exact ⟨a,b,rfl⟩
 rw [hpe,aFp,← hpe] at hk
 obtain ⟨c',c2,hk,hp2,HS⟩:=qT hk
 obtain ⟨zs,hzs,hk⟩:=zF hk
 refine ⟨_,hk,xQ _ _,aLn _ _,λn m B L WB WL sit hLl hLx v hv hx=>?_⟩
 have hin : ∀ z∈dX cU (.ref x []),z=x:=λz hz=>by simpa [cU,dX] using hz
 obtain ⟨m2,F,sk,hro2,hF⟩:=H n m L sit.inv (λz hz=>sit.al z (.inl hz)) (λz hz=>by rw [hin z hz];exact hLx.1) v hx
 have G1:=sk.goes (B:=B) (L:=L) (WL:=WL) WB sit (λz hz=>.inl (by rw [hin z (hls z hz)];exact hLx.1)) (λz hz=>.inl (by rw [hin z (hls z hz)];exact hLx.2))
 have sit2:=G1.sit sit
 have hml : m2.s.list l=some w1:=(sit2.al l (.inl hLl.1)).trans hw1
 obtain ⟨hty,hlf0,hro⟩:=sit2.inv.row l w1 hml
 obtain ⟨v1,F1,hh,hr1,hF1,HW⟩:=HS m2.w m2.Z _ _ hro hlf
 have hv1 : v1=v:=by
  have hv2 : m2.rd (.ref l path) v:=G1.step.rd _ _ hv
  cases hv2 with
  | ref _ _ _ _ _ hd=>
    have:=hd (bY.live_of hml)
    rw [← hty] at this
    exact hh.unique this
 subst hv1
 obtain ⟨F',hro',hF'⟩:=HW m2.w F hro2 (λ_ _=>rfl) (λr hr=>.inr (λhf=>sit2.inv.Ll l w1 r hml hf (hF r hr).1))
 have G2:=dF.setRowH (B:=B) (L:=L) (WL:=WL) WB sit2 hLl.1 hLl.2 hw1 hsh hro' (λr hr=>by
  rcases hF' r hr with h | h
  ·exact .inl h.1
  ·exact .inr (hF r h).1) (λb o' len cap hlen hh0=>by
  rw [hh0,hzs] at hro'
  generalize w1.o=ow at hro' hlf0
  cases hro' with
  | leaf=>cases hlf0
  | nil=>omega
  | own s0 e0 g0 cts0 xs0 b0 o0 cap0 cells0 ety0 cv0 fp0 F0 _ _ _ _ _ _ _ _ _ hfoot _ _=>exact (hfoot b).2 (.inl rfl))
 exact ⟨m2.setRow l m2.w ⟨w1.o,c'⟩ F',sk.w,G1.trans G2⟩
theorem tT.wide {L : NP} (h : tT m s B L n) : tT m s B (λx=>L x∨(n≤x∧x<n+16)) n where
 inv:=h.inv
 ab:=h.ab
 al:=λl hl=>h.al l (hl.elim id .inr)
 nb:=h.nb
 nl:=h.nl
 fb:=h.fb
 fl:=h.fl
theorem dF.narrow {m' : bY} {s' : St} {L WB WL : NP} {scr : DV→DV} (h : dF m m' s s' B (λx=>L x∨(n≤x∧x<n+16)) WB (λx=>WL x∨(n≤x∧x<n+16)) n scr) : dF m m' s s' B L WB WL n scr where
 step:=h.step
 after:=⟨h.after.ab,λl hl=>h.after.al l (hl.elim (λh=>.inl (.inl h)) .inr),h.after.ob,λl h1 h2=>h.after.ol l (λh=>h.elim h1 h2) h2,h.after.wb,λl h1 h2=>h.after.wl l (λh=>h.elim h1 h2) h2⟩
 nb:=h.nb
 nl:=h.nl
 ub:=h.ub
 ul:=h.ul
theorem wJ {l : Nat} : ∀ {ds : List DV} {s : St} {k : List DV→St→OR} {r : R},nV l ds s k=some r→
 ∃ ds' s',k ds' s'=some r∧s.nl≤s'.nl∧ds'.length=ds.length∧(jF s' l=jF s l∨jF s' l=true)∧
   (∀ x∈ds'.flatMap (dX cU),x∈ds.flatMap (dX cU)∨(s.nl≤x∧x<s'.nl))∧
   ∀ (n : Nat) (m : bY) (B L WB WL : NP),tT m s B L n→s'.nl≤n+16→L l∧WL l→∀ (vs : List Value),ds.length=vs.length→(∀ (i : Nat) d v,ds[i]? = some d→vs[i]? = some v→m.rd d v)→
     ∃ m',m'.w=m.w∧dF m m' s s' B L WB WL n id∧(∀ (i : Nat) d v,ds'[i]? = some d→vs[i]? = some v→m'.rd d v)
 | [],s,k,r,h=>⟨[],s,h,Nat.le_refl _,rfl,.inl rfl,λx hx=>by simp at hx,λn m B L WB WL sit _ _ vs _ hr=>⟨m,rfl,dF.refl WB WL sit,hr⟩⟩
 | d::ds,s,k,r,h=>by
   have keep : ∀ d : DV,nV l ds s (λds s1=>k (d::ds) s1)=some r→∃ ds' s',k ds' s'=some r∧s.nl≤s'.nl∧ds'.length=(d::ds).length∧(jF s' l=jF s l∨jF s' l=true)∧
    (∀ x∈ds'.flatMap (dX cU),x∈(d::ds).flatMap (dX cU)∨(s.nl≤x∧x<s'.nl))∧
    ∀ (n : Nat) (m : bY) (B L WB WL : NP),tT m s B L n→s'.nl≤n+16→L l∧WL l→∀ (vs : List Value),(d::ds).length=vs.length→(∀ (i : Nat) d' v,(d::ds)[i]? = some d'→vs[i]? = some v→m.rd d' v)→
      ∃ m',m'.w=m.w∧dF m m' s s' B L WB WL n id∧(∀ (i : Nat) d v,ds'[i]? = some d→vs[i]? = some v→m'.rd d v):=by
    intro d h
    obtain ⟨ds',s',hk,hnl,hlen,hpl,hin,H⟩:=wJ h
    refine ⟨_,s',hk,hnl,by simp [hlen],hpl,λx hx=>?_,λn m B L WB WL sit hn hL vs hlv hr=>?_⟩
    ·rw [List.flatMap_cons,List.mem_append] at hx
     rw [List.flatMap_cons,List.mem_append]
     rcases hx with hx | hx
     ·exact .inl (.inl hx)
     ·exact (hin x hx).elim (λh=>.inl (.inr h)) .inr
    ·cases vs with
     | nil=>simp at hlv
     | cons v vs=>
       obtain ⟨m',h1,h2,h3⟩:=H n m B L WB WL sit hn hL vs (by simpa using hlv) (λi d u hd hu=>hr (i+1) d u (by simpa using hd) (by simpa using hu))
       refine ⟨m',h1,h2,λi d' u hd hu=>?_⟩
       cases i with
       | zero=>simp at hd hu;subst hd;subst hu;exact h2.step.rd _ _ (hr 0 d v rfl rfl)
       | succ i=>exact h3 i d' u (by simpa using hd) (by simpa using hu)
   unfold nV at h
   split at h
   rotate_left
   ·exact keep _ h
   rename_i m0 p path
   split at h
   rotate_left
   ·exact keep _ h
   rename_i hb
   have hb:=dH hb
   subst hb
   obtain ⟨s1,h1,hnl1,hpl1,HL⟩:=aDr (by simp) h
   obtain ⟨ds',s',hk,hnl,hlen,hpl,hin,H⟩:=wJ h1
   refine ⟨_,s',hk,by omega,by simp [hlen],?_,λx hx=>?_,λn m B L WB WL sit hn hL vs hlv hr=>?_⟩
   ·rcases hpl with h | h
    ·rcases hpl1 l with h' | h'
     ·exact .inl (h.trans h')
     ·exact .inr (h.trans h')
    ·exact .inr h
   ·rw [List.flatMap_cons,List.mem_append] at hx
    rw [List.flatMap_cons,List.mem_append]
    rcases hx with hx | hx
    ·have : x=s.nl:=by simpa [cU,dX] using hx
     subst this
     exact .inr ⟨Nat.le_refl _,by omega⟩
    ·rcases hin x hx with h | h
     ·exact .inl (.inr h)
     ·exact .inr ⟨by omega,h.2⟩
   ·cases vs with
    | nil=>simp at hlv
    | cons v vs=>
      obtain ⟨m1,w1,G1,hd1⟩:=HL n m B L WB WL sit (by omega) hL v (hr 0 _ v rfl rfl)
      obtain ⟨m',w2,G2,h3⟩:=H n m1 B L WB WL (G1.sit sit) hn hL vs (by simpa using hlv) (λi d u hd hu=>G1.step.rd _ _ (hr (i+1) d u (by simpa using hd) (by simpa using hu)))
      refine ⟨m',w2.trans w1,G1.trans G2,λi d' u hd hu=>?_⟩
      cases i with
      | zero=>simp at hd hu;subst hd;subst hu;exact G2.step.rd _ _ hd1
      | succ i=>exact h3 i d' u (by simpa using hd) (by simpa using hu)
theorem aMZ {t : Nat} {a v : DV} {e : gJ} {k : gJ→St→OR} (hT : X.T=aM P) (h : aFk X t a v e s k=some r) :
 ∃ e' s' scr,k e' s'=some r∧(∀ t,e'.get t=scr (e.get t))∧((bZ s a v).last=false→scr=id∧e'=e)∧∀ (n : Nat) (m : bY) (B L WB WL : NP),tT m s B L n→s'.nl≤n+16→
   (bZ s a v).Cov B L WB WL→∀ va vv,m.rd a va→m.rd v vv→
   ∃ m',(Instr.storeAt t va vv).run P m.w = .ok () m'.w∧dF m m' s s' B L WB WL n scr:=by
 unfold aFk at h
 split at h
 ·rename_i la pa i off ds
  obtain ⟨ds',s1,h1,hnl,hlen,hpl,hin,HL⟩:=wJ h
  obtain ⟨e',s',scr,hk,he,hid,H⟩:=aCJ hT h1
  split at hk
  rotate_left
  ·cases hk
  rename_i hgr
  have hgr:=tU hgr
  have hl1 : (bZ s1 (.eptr la pa i off) (.agg ds')).last=false∨(bZ s1 (.eptr la pa i off) (.agg ds')).last=(bZ s (.eptr la pa i off) (.agg ds)).last:=by
   simp only [bZ]
   rcases hpl with h | h
   ·rw [h];exact .inr rfl
   ·rw [h];exact .inl rfl
  have hsunk : ∀ ds : List DV,aDI [.agg ds]=ds.flatMap (dX cU):=λds=>by simp [aDI,dX]
  refine ⟨e',s',scr,hk,he,λhla=>hid (hl1.elim id (λh=>h.trans hla)),λn m B L WB WL sit hn C va vv hva hvv=>?_⟩
  have hn0:=sit.nl
  cases hvv with
  | agg _ vs hl hcv hr=>
  have hll : L la∧WL la:=⟨C.rl la (by simp [bZ]),C.wl la (by simp [bZ])⟩
  obtain ⟨m1,hw1,G1,hd1⟩:=HL n m B L WB WL sit (by omega) hll vs hl hr
  have sit1:=(G1.sit sit).wide
  have C1 : (bZ s1 (.eptr la pa i off) (.agg ds')).Cov B (λx=>L x∨(n≤x∧x<n+16)) WB (λx=>WL x∨(n≤x∧x<n+16)):={
   rb:=λb hb=>by simp [bZ] at hb
   rl:=λx hx=>by
    simp only [bZ,List.mem_cons,hsunk] at hx
    rcases hx with rfl | hx
    ·exact .inl hll.1
    ·rcases hin x hx with h | h
     ·exact .inl (C.rl x (by simp only [bZ,List.mem_cons,hsunk];exact .inr h))
     ·exact .inr ⟨by omega,by omega⟩
   wb:=λb hb=>by simp [bZ] at hb
   wl:=λx hx=>by
    simp only [bZ,List.mem_cons,hsunk] at hx
    rcases hx with rfl | hx
    ·exact .inl hll.2
    ·rcases hin x hx with h | h
     ·exact .inl (C.wl x (by simp only [bZ,List.mem_cons,hsunk];exact .inr h))
     ·exact .inr ⟨by omega,by omega⟩
   all:=λhlast x=>by
    rcases hl1 with h | h
    ·rw [h] at hlast;cases hlast
    ·rw [h] at hlast
     obtain ⟨q1,q2,q3,q4⟩:=C.all hlast x
     exact ⟨q1,.inl q2,q3,.inl q4⟩}
  obtain ⟨m',hrun,G2⟩:=H n m1 B _ WB _ sit1 hn C1 va _ (G1.step.rd _ _ hva) (.agg ds' vs (hlen.trans hl) hcv hd1)
  rw [hw1] at hrun
  exact ⟨m',hrun,G1.trans G2.narrow⟩
 rotate_left
 ·exact aCJ hT h
 rename_i la pa i off l p path lo hi
 obtain ⟨s1,h1,hnl,hpl,HL⟩:=aOQ (by simp) h
 obtain ⟨e',s',scr,hk,he,hid,H⟩:=aCJ hT h1
 split at hk
 rotate_left
 ·cases hk
 rename_i hgr
 have hgr:=tU hgr
 have hl1 : (bZ s1 (.eptr la pa i off) (.ref s.nl [])).last=false∨(bZ s1 (.eptr la pa i off) (.ref s.nl [])).last=(bZ s (.eptr la pa i off) (.sref l (p::path) lo hi)).last:=by
  simp only [bZ]
  rcases hpl la with h | h
  ·rw [h];exact .inr rfl
  ·rw [h];exact .inl rfl
 refine ⟨e',s',scr,hk,he,λhla=>hid (hl1.elim id (λh=>h.trans hla)),λn m B L WB WL sit hn C va vv hva hvv=>?_⟩
 have hn0:=sit.nl
 have hn1 : s1.nl≤n+16:=by omega
 ·have hll : L l∧WL l:=⟨C.rl l (by simp [bZ,aDI,dX]),C.wl l (by simp [bZ,aDI,dX])⟩
  obtain ⟨m1,hw1,G1,hd1⟩:=HL n m B L WB WL sit hn1 hll vv hvv
  have sit1:=(G1.sit sit).wide
  have hnew : n≤s.nl∧s.nl<n+16:=by omega
  have C1 : (bZ s1 (.eptr la pa i off) (.ref s.nl [])).Cov B (λx=>L x∨(n≤x∧x<n+16)) WB (λx=>WL x∨(n≤x∧x<n+16)):={
   rb:=λb hb=>by simp [bZ] at hb
   rl:=λx hx=>by
    simp only [bZ,List.mem_cons] at hx
    rcases hx with rfl | hx
    ·exact .inl (C.rl x (by simp [bZ]))
    ·have : x=s.nl:=by simpa [aDI,dX] using hx
     subst this;exact .inr hnew
   wb:=λb hb=>by simp [bZ] at hb
   wl:=λx hx=>by
    simp only [bZ,List.mem_cons] at hx
    rcases hx with rfl | hx
    ·exact .inl (C.wl x (by simp [bZ]))
    ·have : x=s.nl:=by simpa [aDI,dX] using hx
     subst this;exact .inr hnew
   all:=λhlast x=>by
    rcases hl1 with h | h
    ·rw [h] at hlast;cases hlast
    ·rw [h] at hlast
     obtain ⟨q1,q2,q3,q4⟩:=C.all hlast x
     exact ⟨q1,.inl q2,q3,.inl q4⟩}
  obtain ⟨m',hrun,G2⟩:=H n m1 B _ WB _ sit1 hn C1 va vv (G1.step.rd _ _ hva) hd1
  rw [hw1] at hrun
  exact ⟨m',hrun,G1.trans G2.narrow⟩
end
variable {a : Act} {v : Value} {m m' : bY} {s s' : St} {n i : Nat} {f : iR} {scr : DV → DV}
def St.at (s : St) (n : Nat) : St:={ s with nb:=n,nl:=n}
structure xG (P : Program) (ops : Array Oper) (i : Nat) (o : Oper) (g g' : Nat→DV) (s s' : St) (n : Nat) (f : iR) (scr : DV→DV) : Prop where
 env : ∀ t,o.dst≠some t→g' t=scr (g t)
 id : f.last=false→scr=id
 run : ∀ (m : bY) (B L WB WL : NP) (a : Act) (K : Act→World→Prop) (Q : Exit→Act→World→Prop),tT m (s.at n) B L n→f.Cov B L WB WL→(f.ok=true∨∀ x,B x∧L x)→
  (∀ t∈o.looksAt ops,m.rd (g t) (a.eval (.tmp t)))→
  (∀ v m',dF m m' (s.at n) s' B L WB WL n scr→(∀ t,o.dst=some t→m'.rd (g' t) v)→K (a.put o.dst v) m'.w)→wpOp P ops Q i K a m.w
structure Tr where
 g : Nat→Nat→DV
 s : Nat→St
 f : Nat→iR
 scr : Nat→DV→DV
def aTw (P : Program) (ops : Array Oper) (base : Nat) (T : Tr) : Prop:=
 ∀ i o,ops[i]? = some o→xG P ops i o (T.g i) (T.g (i+1)) (T.s i) (T.s (i+1)) (base+16*i) (T.f i) (T.scr i)
structure kC (m : bY) (s : St) (base : Nat) : Prop where
 inv : sN m
 box : ∀ b,m.s.box b=s.box b
 list : ∀ l,m.s.list l=s.list l
 ub : ∀ x,m.ρ.ub x→x<base
 ul : ∀ x,m.ρ.ul x→x<base
def lI (m : bY) (g : Nat→DV) (a : Act) : Prop:=∀ t,m.rd (g t) (a.eval (.tmp t))
theorem aHF {dst : Option Tmp} (hd : ∀ t,dst=some t→t<a.tmps.size) (t : Nat) :
 (a.put dst v).eval (.tmp t)=if dst=some t then v else a.eval (.tmp t):=by
 cases dst with
 | none=>simp [Act.put]
 | some d=>
   have hlt:=hd d rfl
   simp only [Act.put,Act.eval,Array.getD_eq_getD_getElem?,Array.getElem?_setIfInBounds]
   by_cases h : d=t
   ·subst h;simp [hlt]
   ·have : ¬ (some d=some t):=λe=>h (by cases e;rfl)
    simp [h]
theorem aLz (a : Act) (dst : Option Tmp) (v : Value) : (a.put dst v).tmps.size=a.tmps.size:=by
 cases dst<;>simp [Act.put]
theorem aLA (a : Act) (dst : Option Tmp) (v : Value) : (a.put dst v).defers=a.defers:=by
 cases dst<;>rfl
section
variable {P : Program} {ops : Array Oper} {base : Nat}
theorem kC.sit (h : kC m s base) (hn : base≤n) : tT m (s.at n) (λ_=>True) (λ_=>True) n where
 inv:=h.inv
 ab:=λb _=>h.box b
 al:=λl _=>h.list l
 nb:=Nat.le_refl _
 nl:=Nat.le_refl _
 fb:=λx hx _ hu=>by have h1:=h.ub x hu;have : n≤x:=hx;omega
 fl:=λx hx _ hu=>by have h1:=h.ul x hu;have : n≤x:=hx;omega
theorem iR.cov_all (f : iR) : f.Cov (λ_=>True) (λ_=>True) (λb=>b∈f.wb∨f.last=true) (λl=>l∈f.wl∨f.last=true):=
 ⟨λ_ _=>trivial,λ_ _=>trivial,λ_ h=>.inl h,λ_ h=>.inl h,λh _=>⟨trivial,trivial,.inr h,.inr h⟩⟩
structure aWc (s s' : St) (f : iR) (n : Nat) : Prop where
 b : ∀ b,b∉f.wb→f.last=false→¬ (n≤b∧b<n+16)→s'.box b=s.box b
 l : ∀ l,l∉f.wl→f.last=false→¬ (n≤l∧l<n+16)→s'.list l=s.list l
theorem dF.full (h : kC m s n) (G : dF m m' (s.at n) s' (λ_=>True) (λ_=>True) (λb=>b∈f.wb∨f.last=true) (λl=>l∈f.wl∨f.last=true) n scr) :
 kC m' s' (n+16)∧aWc s s' f n:=by
 refine ⟨⟨G.step.inv,λb=>G.after.ab b (.inl trivial),λl=>G.after.al l (.inl trivial),λx hx=>?_,λx hx=>?_⟩,⟨λb h1 h2 h3=>?_,λl h1 h2 h3=>?_⟩⟩
 ·rcases G.step.ub x hx with h' | h'
  ·have:=h.ub x h';omega
  ·exact h'.2
 ·rcases G.step.ul x hx with h' | h'
  ·have:=h.ul x h';omega
  ·exact h'.2
 ·exact G.after.wb b (λh=>h.elim h1 (λh=>by rw [h2] at h;cases h)) h3
 ·exact G.after.wl l (λh=>h.elim h1 (λh=>by rw [h2] at h;cases h)) h3
theorem xG.temps {o : Oper} {g g' : Nat→DV} (S : xG P ops i o g g' s s' n f scr)
 (ht : lI m g a) (hrd : ∀ d v,m.rd d v→m'.rd (scr d) v) (hd : ∀ t,o.dst=some t→m'.rd (g' t) v) (hsz : ∀ t,o.dst=some t→t<a.tmps.size) : lI m' g' (a.put o.dst v):=by
 intro t
 rw [aHF hsz]
 split
 ·rename_i h;exact hd t h
 ·rename_i h
  rw [S.env t h]
  exact hrd _ _ (ht t)
theorem aTx {K : Act→World→Prop} {w : World} (h : wpOp P ops (λ_ _ _=>False) i K a w) : ∃ a' w',K a' w':=by
 unfold wpOp at h
 split at h
 ·exact ⟨_,_,h⟩
 ·split at h
  ·rcases h with h | ⟨_,_,_,h⟩
   ·unfold Oper.wp at h
    generalize (execOp a.eval _).run P w=r at h
    cases r with
    | ok n w'=>
      cases n<;>simp only [Oper.upon] at h<;>first
       | exact ⟨_,_,h⟩
       | exact h.elim
       | skip
      ·obtain ⟨e,w'',fr,hR,_⟩:=h []
       cases e with
       | returned v=>exact ⟨_,_,hR⟩
       | panicked c=>exact hR.elim
       | outgrown=>obtain ⟨_,_,h⟩:=hR;exact h.elim
      ·obtain ⟨v,w'',hR,_⟩:=h default []
       exact ⟨_,_,hR⟩
    | halt x w'=>
      cases x<;>simp only [Oper.upon] at h
   ·exact h.elim
  ·exact ⟨_,_,h⟩
theorem aNO {T : Tr} (hT : aTw P ops base T) {nt : Nat} (hdst : ∀ (i : Nat) (o : Oper) (t : Nat),ops[i]? = some o→o.dst=some t→t<nt) {m : bY} {a : Act} (hf : kC m (T.s 0) base) (ht : lI m (T.g 0) a) (hsz : nt≤a.tmps.size) :
 ∀ i,i≤ops.size→(∃ m' a',kC m' (T.s i) (base+16*i)∧lI m' (T.g i) a'∧nt≤a'.tmps.size)∧∀ j,j<i→aWc (T.s j) (T.s (j+1)) (T.f j) (base+16*j)
 | 0,_=>⟨⟨m,a,hf,ht,hsz⟩,λj hj=>by omega⟩
 | i+1,hi=>by
   obtain ⟨⟨m1,a1,hf1,ht1,hsz1⟩,hR⟩:=aNO hT hdst hf ht hsz i (by omega)
   have ho : ops[i]? = some ops[i]:=Array.getElem?_eq_getElem (by omega)
   have S:=hT i _ ho
   obtain ⟨a',w',v,m',hK1,hK2,hK3,hK4⟩:=aTx (S.run m1 _ _ _ _ a1 (λa' w'=>∃ v m',kC m' (T.s (i+1)) (base+16*i+16)∧aWc (T.s i) (T.s (i+1)) (T.f i) (base+16*i)∧lI m' (T.g (i+1)) (a1.put (ops[i]).dst v)∧nt≤(a1.put (ops[i]).dst v).tmps.size) _
    (hf1.sit (Nat.le_refl _)) (iR.cov_all _) (.inr λ_=>⟨trivial,trivial⟩) (λt _=>ht1 t)
    (λv m' G hd=>by
     obtain ⟨h1,h2⟩:=G.full hf1
     exact ⟨v,m',h1,h2,S.temps ht1 G.step.rd hd (λt h=>Nat.lt_of_lt_of_le (hdst i _ t ho h) hsz1),by rw [aLz];exact hsz1⟩))
   refine ⟨⟨m',_,by rw [show base+16*(i+1)=base+16*i+16 by omega];exact hK1,hK3,hK4⟩,λj hj=>?_⟩
   by_cases h : j=i
   ·subst h;exact hK2
   ·exact hR j (by omega)
end
variable {p j b i : Nat} {T : Tr} {oj : Oper}
section
variable {α : Type} {val : Nat → α} {w : NP} {D : NP} {N : Nat}
structure At (w : NP) (D : NP) (N p : Nat) : Prop where
 le : p≤N
 src : p=0∨(D (p - 1)∧w (p - 1))
 lt : ∀ i,D i→w i→i<p
theorem At.same (hs : ∀ i,i<N→¬ w i→val (i+1)=val i) (h : At w D N p) (hj : j≤N) (hlt : ∀ i,i<j→w i→D i) (hle : p≤j) : val p=val j:=by
 have : ∀ q,p≤q→q≤j→val p=val q:=by
  intro q hq
  induction q with
  | zero=>intro _;rw [show p=0 by omega]
  | succ q ih=>
    intro hq'
    by_cases e : p=q+1
    ·rw [e]
    ·rw [ih (by omega) (by omega)]
     refine (hs q (by omega) (λhw=>?_)).symm
     have:=h.lt q (hlt q (by omega) hw) hw
     omega
 exact this j hle (Nat.le_refl _)
theorem At.read (hs : ∀ i,i<N→¬ w i→val (i+1)=val i) (h : At w D N p) (hj : j<N) (hD : ¬ D j) (ho : ∀ i,i<N→i≠j→w i→(D i↔i<j)) (hDN : ∀ i,D i→i<N) : val p=val j∧p≤j:=by
 have hle : p≤j:=by
  rcases h.src with h0 | ⟨h1,h2⟩
  ·omega
  ·have hne : p - 1≠j:=λe=>hD (e▸h1)
   have:=(ho (p - 1) (hDN _ h1) hne h2).1 h1
   omega
 exact ⟨h.same hs (by omega) (λi hi hw=>(ho i (by omega) (by omega) hw).2 hi) hle,hle⟩
theorem At.skip (h : At w D N p) (hw : ¬ w j) : At w (λi=>D i∨i=j) N p where
 le:=h.le
 src:=h.src.imp id (λh=>⟨.inl h.1,h.2⟩)
 lt:=λi hi hwi=>hi.elim (λh'=>h.lt i h' hwi) (λe=>absurd (e▸hwi) hw)
theorem At.write (hj : j<N) (hw : w j) (ho : ∀ i,D i→w i→i<j) : At w (λi=>D i∨i=j) N (j+1) where
 le:=hj
 src:=.inr ⟨.inr rfl,hw⟩
 lt:=λi hi hwi=>hi.elim (λh'=>Nat.lt_succ_of_lt (ho i h' hwi)) (λe=>by omega)
theorem At.fin (hs : ∀ i,i<N→¬ w i→val (i+1)=val i) (h : At w D N p) (hD : ∀ i,i<N→D i) : val p=val N:=
 h.same hs (Nat.le_refl _) (λi hi _=>hD i hi) h.le
end
section
variable {P : Program} {ops : Array Oper} {base : Nat}
def aLB (ops : Array Oper) (D : NP) : Prop:=∀ j o,ops[j]? = some o→D j→∀ e∈o.after.toList,Region.binds .any e=true→D e.on
def Beh (ops : Array Oper) (i j : Nat) : Prop:=∀ D : NP,aLB ops D→(∀ o,ops[j]? = some o→∀ e∈o.after.toList,Region.binds .any e=true→D e.on)→D i
theorem aP0 {acc : List Nat} {i : Nat} : ∀ (l : List Edge) (b : Nat),(l.foldl (λb e=>if Region.binds .any e then b||| 2 ^ e.on||| acc.getD e.on 0 else b) b).testBit i=true→
 b.testBit i=true∨∃ e∈l,Region.binds .any e=true∧(e.on=i∨(acc.getD e.on 0).testBit i=true)
 | [],b,h=>.inl h
 | e::l,b,h=>by
   rw [List.foldl_cons] at h
   rcases aP0 l _ h with h' | ⟨e',he',hb,h'⟩
   ·split at h'
    ·rename_i hb
     rw [Nat.testBit_or,Nat.testBit_or,Bool.or_eq_true,Bool.or_eq_true] at h'
     rcases h' with (h' | h') | h'
     ·exact .inl h'
     ·rw [Nat.testBit_two_pow] at h'
      exact .inr ⟨e,List.mem_cons_self,hb,.inl (by simpa using h')⟩
     ·exact .inr ⟨e,List.mem_cons_self,hb,.inr h'⟩
    ·exact .inl h'
   ·exact .inr ⟨e',List.mem_cons_of_mem _ he',hb,h'⟩
theorem aI0 : ∀ (r : List Oper) (acc : List Nat),ops.toList.drop acc.length=r→(∀ j,j<acc.length→∀ i,(acc.getD j 0).testBit i=true→Beh ops i j)→
 ∀ j i,((aB3 r acc).getD j 0).testBit i=true→Beh ops i j
 | [],acc,_,H,j,i,h=>by
  unfold aB3 at h
  by_cases hj : j<acc.length
  ·exact H j hj i h
  ·rw [List.getD,List.getElem?_eq_none (by omega)] at h
   simp at h
 | o::r,acc,hd,H,j,i,h=>by
   unfold aB3 at h
   have ho : ops[acc.length]? = some o:=by
    have : (ops.toList.drop acc.length)[0]? = some o:=by rw [hd];rfl
    simpa using this
   refine aI0 r _ ?_ ?_ j i h
   ·rw [List.length_append,← List.drop_drop,hd];rfl
   ·intro j hj i hi
    rw [List.length_append,List.length_singleton] at hj
    by_cases hlt : j<acc.length
    ·rw [List.getD,List.getElem?_append_left hlt] at hi
     exact H j hlt i hi
    ·have : j=acc.length:=by omega
     subst this
     rw [List.getD,List.getElem?_append_right (Nat.le_refl _),Nat.sub_self] at hi
     simp only [List.getElem?_cons_zero,Option.getD_some] at hi
     rcases aP0 _ _ hi with h' | ⟨e,he,hb,h'⟩
     ·simp at h'
     ·intro D hC hj'
      have hon:=hj' o ho e he hb
      rcases h' with h' | h'
      ·rwa [← h']
      ·by_cases hel : e.on<acc.length
       ·exact H e.on hel i h' D hC (λo' ho' e' he' hb'=>hC e.on o' ho' hon e' he' hb')
       ·rw [List.getD,List.getElem?_eq_none (by omega)] at h'
        simp at h'
theorem aHG {y : Oper} {b : Nat} : ∀ {l : List Oper} {i : Nat},aHt ops y b i l=true→∀ (k : Nat) x,l[k]? = some x→x.apart ops y=true∨b.testBit (i+k)=true
 | [],_,_,k,x,h=>by simp at h
 | x0::xs,i,h,k,x,hx=>by
   unfold aHt at h
   simp only [Bool.and_eq_true,Bool.or_eq_true] at h
   cases k with
   | zero=>simp at hx;subst hx;exact h.1
   | succ k=>
     have:=aHG h.2 k x (by simpa using hx)
     rwa [show i+(k+1)=i+1+k by omega]
theorem aJW {ms : List Nat} : ∀ {l : List Oper} {j : Nat},aHu ops ms j l=true→∀ (k : Nat) y,l[k]? = some y→∀ (i : Nat) x,i<j+k→ops[i]? = some x→x.apart ops y=true∨(ms.getD (j+k) 0).testBit i=true
 | [],_,_,k,y,h=>by simp at h
 | o::r,j,h,k,y,hy=>by
   unfold aHu at h
   simp only [Bool.and_eq_true] at h
   intro i x hi hx
   cases k with
   | zero=>
     simp at hy
     subst hy
     have:=aHG h.1 i x (by rw [List.getElem?_take,if_pos (by omega)];simpa using hx)
     simpa using this
   | succ k=>
     have:=aJW h.2 k y (by simpa using hy) i x (by omega) hx
     rwa [show j+(k+1)=j+1+k by omega]
theorem aLC : ∀ {l : List Oper} {j : Nat},aLe j l=true→∀ (k : Nat) o,l[k]? = some o→∀ e∈o.after.toList,Region.binds .any e=true→e.on<j+k
 | [],_,_,k,o,h=>by simp at h
 | o0::r,j,h,k,o,ho=>by
   unfold aLe at h
   simp only [Bool.and_eq_true,List.all_eq_true] at h
   intro e he hb
   cases k with
   | zero=>
     simp at ho
     subst ho
     have:=h.1 e he
     simp [hb,Nat.blt_eq] at this
     omega
   | succ k=>
     have:=aLC h.2 k o (by simpa using ho) e he hb
     omega
structure aP1 (ops : Array Oper) (base : Nat) (T : Tr) : Prop where
 back : ∀ (j : Nat) (o : Oper),ops[j]? = some o→∀ e∈o.after.toList,Region.binds .any e=true→e.on<j
 temps : ∀ (i j : Nat) (x y : Oper),i<j→ops[i]? = some x→ops[j]? = some y→x.apart ops y=true∨Beh ops i j
 meet : ∀ i j : Nat,i<j→j<ops.size→aA3 base (i,T.f i) (j,T.f j)=true→Beh ops i j
 ok : ∀ j : Nat,j<ops.size→(T.f j).ok=true
def wB (base : Nat) (T : Tr) (b i : Nat) : Prop:=b∈(T.f i).wb∨(T.f i).last=true∨(base+16*i≤b∧b<base+16*i+16)
def wL (base : Nat) (T : Tr) (b i : Nat) : Prop:=b∈(T.f i).wl∨(T.f i).last=true∨(base+16*i≤b∧b<base+16*i+16)
def wT (ops : Array Oper) (T : Tr) (t i : Nat) : Prop:=(∃ o,ops[i]? = some o∧o.dst=some t)∨(T.f i).last=true
theorem aP2 {a b : List Nat} : meet a b=true↔∃ x,x∈a∧x∈b:=by
 unfold Go.Proofs.YtllmobkkbpdchaaGreatDoor.meet
 rw [List.any_eq_true]
 constructor
 ·rintro ⟨x,h1,h2⟩;exact ⟨x,h1,xF.1 h2⟩
 ·rintro ⟨x,h1,h2⟩;exact ⟨x,h1,xF.2 h2⟩
theorem aSD {n : Nat} {l : List Nat} : iR.names.inR n l=true↔∃ x∈l,n≤x∧x<n+16:=by
 unfold iR.names.inR
 rw [List.any_eq_true]
 constructor
 ·rintro ⟨x,h1,h2⟩
  simp only [Bool.and_eq_true,Nat.blt_eq] at h2
  exact ⟨x,h1,tU h2.1,h2.2⟩
 ·rintro ⟨x,h1,h2,h3⟩
  exact ⟨x,h1,by simp only [Bool.and_eq_true,Nat.blt_eq];exact ⟨Nat.ble_eq_true_of_le h2,h3⟩⟩
theorem aTy (hij : i≠j) (hi : wB base T b i) (hj : b∈(T.f j).rb∨wB base T b j) : aA3 base (i,T.f i) (j,T.f j)=true∧aA3 base (j,T.f j) (i,T.f i)=true:=by
 unfold aA3 iR.clash iR.names
 simp only [Bool.or_eq_true,aP2,aSD]
 rcases hi with hi | hi | hi
 ·rcases hj with hj | hj | hj | hj
  ·exact ⟨.inl (.inl (.inl (.inl (.inl (.inl (.inl (.inl (.inl ⟨b,hi,hj⟩)))))))),.inl (.inl (.inl (.inl (.inl (.inl (.inl (.inl (.inr ⟨b,hj,hi⟩))))))))⟩
  ·exact ⟨.inl (.inl (.inl (.inl (.inl (.inl (.inl (.inr ⟨b,hi,hj⟩))))))),.inl (.inl (.inl (.inl (.inl (.inl (.inl (.inr ⟨b,hj,hi⟩)))))))⟩
  ·exact ⟨.inl (.inl (.inr hj)),.inl (.inl (.inl (.inr hj)))⟩
  ·exact ⟨.inr (.inl (.inr ⟨b,hi,hj⟩)),.inl (.inr (.inl (.inr ⟨b,hi,hj⟩)))⟩
 ·exact ⟨.inl (.inl (.inl (.inr hi))),.inl (.inl (.inr hi))⟩
 ·rcases hj with hj | hj | hj | hj
  ·exact ⟨.inl (.inr (.inl (.inl (.inl ⟨b,hj,hi⟩)))),.inr (.inl (.inl (.inl ⟨b,hj,hi⟩)))⟩
  ·exact ⟨.inl (.inr (.inl (.inr ⟨b,hj,hi⟩))),.inr (.inl (.inr ⟨b,hj,hi⟩))⟩
  ·exact ⟨.inl (.inl (.inr hj)),.inl (.inl (.inl (.inr hj)))⟩
  ·omega
theorem aRI (hij : i≠j) (hi : wL base T b i) (hj : b∈(T.f j).rl∨wL base T b j) : aA3 base (i,T.f i) (j,T.f j)=true∧aA3 base (j,T.f j) (i,T.f i)=true:=by
 unfold aA3 iR.clash iR.names
 simp only [Bool.or_eq_true,aP2,aSD]
 rcases hi with hi | hi | hi
 ·rcases hj with hj | hj | hj | hj
  ·exact ⟨.inl (.inl (.inl (.inl (.inl (.inl (.inr ⟨b,hi,hj⟩)))))),.inl (.inl (.inl (.inl (.inl (.inr ⟨b,hj,hi⟩)))))⟩
  ·exact ⟨.inl (.inl (.inl (.inl (.inr ⟨b,hi,hj⟩)))),.inl (.inl (.inl (.inl (.inr ⟨b,hj,hi⟩))))⟩
  ·exact ⟨.inl (.inl (.inr hj)),.inl (.inl (.inl (.inr hj)))⟩
  ·exact ⟨.inr (.inr ⟨b,hi,hj⟩),.inl (.inr (.inr ⟨b,hi,hj⟩))⟩
 ·exact ⟨.inl (.inl (.inl (.inr hi))),.inl (.inl (.inr hi))⟩
 ·rcases hj with hj | hj | hj | hj
  ·exact ⟨.inl (.inr (.inl (.inl (.inr ⟨b,hj,hi⟩)))),.inr (.inl (.inl (.inr ⟨b,hj,hi⟩)))⟩
  ·exact ⟨.inl (.inr (.inr ⟨b,hj,hi⟩)),.inr (.inr ⟨b,hj,hi⟩)⟩
  ·exact ⟨.inl (.inl (.inr hj)),.inl (.inl (.inl (.inr hj)))⟩
  ·omega
theorem wK (hi : (T.f i).last=true) : aA3 base (i,T.f i) (j,T.f j)=true∧aA3 base (j,T.f j) (i,T.f i)=true:=by
 unfold aA3 iR.clash
 simp only [Bool.or_eq_true]
 exact ⟨.inl (.inl (.inl (.inr hi))),.inl (.inl (.inr hi))⟩
theorem wM (A : aP1 ops base T) {D : NP} (hC : aLB ops D) (hoj : ops[j]? = some oj) (hr : ∀ e∈oj.after.toList,Region.binds .any e=true→D e.on) (hD : ¬ D j)
 (hi : i<ops.size) (hij : i≠j) (hm : aA3 base (i,T.f i) (j,T.f j)=true∧aA3 base (j,T.f j) (i,T.f i)=true) : D i↔i<j:=by
  have hj : j<ops.size:=(Array.getElem?_eq_some_iff.1 hoj).1
  constructor
  ·intro hDi
   rcases Nat.lt_or_ge i j with h | h
   ·exact h
   ·exact (hD (A.meet j i (by omega) hi hm.2 D hC (λo ho e he hb=>hC i o ho hDi e he hb))).elim
  ·intro h
   exact A.meet i j h hj hm.1 D hC (λo ho e he hb=>by rw [hoj] at ho;cases ho;exact hr e he hb)
theorem aLD (A : aP1 ops base T) {D : NP} (hC : aLB ops D) (hoj : ops[j]? = some oj) (hr : ∀ e∈oj.after.toList,Region.binds .any e=true→D e.on) (hD : ¬ D j)
 {oi : Oper} (hoi : ops[i]? = some oi) (hij : i≠j) (h1 : oi.apart ops oj≠true) (h2 : oj.apart ops oi≠true) : D i↔i<j:=by
  constructor
  ·intro hDi
   rcases Nat.lt_or_ge i j with h | h
   ·exact h
   ·exact (hD ((A.temps j i oj oi (by omega) hoj hoi).resolve_left h2 D hC (λo ho e he hb=>hC i o ho hDi e he hb))).elim
  ·intro h
   exact (A.temps i j oi oj h hoi hoj).resolve_left h1 D hC (λo ho e he hb=>by rw [hoj] at ho;cases ho;exact hr e he hb)
end
variable {nt : Nat} {T : Tr} {m : bY} {a : Act} {listed : Array Bool}
section
variable {P : Program} {ops : Array Oper} {base : Nat} {I : bY → Prop}
structure aI1 (I : bY→Prop) (ops : Array Oper) (base nt : Nat) (T : Tr) (D : NP) (m : bY) (a : Act) : Prop where
 inv : sN m
 box : ∀ b,∃ p,At (wB base T b) D ops.size p∧m.s.box b=(T.s p).box b
 list : ∀ l,∃ p,At (wL base T l) D ops.size p∧m.s.list l=(T.s p).list l
 tmp : ∀ t,∃ p,At (wT ops T t) D ops.size p∧m.rd (T.g p t) (a.eval (.tmp t))
 ub : ∀ x,m.ρ.ub x→x<base∨∃ i,D i∧base+16*i≤x∧x<base+16*i+16
 ul : ∀ x,m.ρ.ul x→x<base∨∃ i,D i∧base+16*i≤x∧x<base+16*i+16
 sz : nt≤a.tmps.size
 i : I m
theorem At.congr {w : NP} {D D' : NP} {N p : Nat} (h : At w D N p) (hD : ∀ i,D i↔D' i) : At w D' N p:=
 ⟨h.le,h.src.imp id (λh=>⟨(hD _).1 h.1,h.2⟩),λi hi=>h.lt i ((hD i).2 hi)⟩
theorem aI1.congr {nt : Nat} {T : Tr} {D D' : NP} {m : bY} {a : Act} (h : aI1 I ops base nt T D m a) (hD : ∀ i,D i↔D' i) : aI1 I ops base nt T D' m a where
 inv:=h.inv
 box:=λb=>let ⟨p,h1,h2⟩:=h.box b;⟨p,h1.congr hD,h2⟩
 list:=λb=>let ⟨p,h1,h2⟩:=h.list b;⟨p,h1.congr hD,h2⟩
 tmp:=λb=>let ⟨p,h1,h2⟩:=h.tmp b;⟨p,h1.congr hD,h2⟩
 ub:=λx hx=>(h.ub x hx).imp id (λ⟨i,hi,h'⟩=>⟨i,(hD i).1 hi,h'⟩)
 ul:=λx hx=>(h.ul x hx).imp id (λ⟨i,hi,h'⟩=>⟨i,(hD i).1 hi,h'⟩)
 sz:=h.sz
 i:=h.i
theorem aI1.start (hf : kC m (T.s 0) base) (ht : lI m (T.g 0) a) (hsz : nt≤a.tmps.size) (hi : I m) : aI1 I ops base nt T (λ_=>False) m a where
 inv:=hf.inv
 box:=λb=>⟨0,⟨Nat.zero_le _,.inl rfl,λ_ h=>h.elim⟩,hf.box b⟩
 list:=λl=>⟨0,⟨Nat.zero_le _,.inl rfl,λ_ h=>h.elim⟩,hf.list l⟩
 tmp:=λt=>⟨0,⟨Nat.zero_le _,.inl rfl,λ_ h=>h.elim⟩,ht t⟩
 ub:=λx hx=>.inl (hf.ub x hx)
 ul:=λx hx=>.inl (hf.ul x hx)
 sz:=hsz
 i:=hi
structure aBE (ops : Array Oper) (base : Nat) (T : Tr) : Prop where
 rest : ∀ i,i<ops.size→aWc (T.s i) (T.s (i+1)) (T.f i) (base+16*i)
 env : ∀ i o t,ops[i]? = some o→o.dst≠some t→(T.f i).last=false→T.g (i+1) t=T.g i t
theorem aBE.boxes (S : aBE ops base T) (b : Nat) : ∀ i,i<ops.size→¬ wB base T b i→(T.s (i+1)).box b=(T.s i).box b:=λi hi hw=>
 (S.rest i hi).b b (λh=>hw (.inl h)) (by cases h : (T.f i).last with | false=>rfl | true=>exact (hw (.inr (.inl h))).elim) (λh=>hw (.inr (.inr h)))
theorem aBE.lists (S : aBE ops base T) (l : Nat) : ∀ i,i<ops.size→¬ wL base T l i→(T.s (i+1)).list l=(T.s i).list l:=λi hi hw=>
 (S.rest i hi).l l (λh=>hw (.inl h)) (by cases h : (T.f i).last with | false=>rfl | true=>exact (hw (.inr (.inl h))).elim) (λh=>hw (.inr (.inr h)))
theorem aBE.temps (S : aBE ops base T) (t : Nat) : ∀ i,i<ops.size→¬ wT ops T t i→T.g (i+1) t=T.g i t:=λi hi hw=>
 S.env i ops[i] t (Array.getElem?_eq_getElem hi) (λh=>hw (.inl ⟨_,Array.getElem?_eq_getElem hi,h⟩)) (by cases h : (T.f i).last with | false=>rfl | true=>exact (hw (.inr h)).elim)
theorem aI1.step (hI : ∀ m m' scr n,I m→sN m→jH m m' scr n→I m') {nt : Nat} {T : Tr} (hT : aTw P ops base T) (A : aP1 ops base T) (S : aBE ops base T) (hdst : ∀ (i : Nat) (o : Oper) (t : Nat),ops[i]? = some o→o.dst=some t→t<nt)
 {D : NP} {m : bY} {a : Act} (h : aI1 I ops base nt T D m a) (hC : aLB ops D) (hDN : ∀ i,D i→i<ops.size) {j : Nat} {oj : Oper} (hoj : ops[j]? = some oj)
 (hr : ∀ e∈oj.after.toList,Region.binds .any e=true→D e.on) (hD : ¬ D j) {K : Act→World→Prop} {Q : Exit→Act→World→Prop}
 (hK : ∀ m' a',aI1 I ops base nt T (λi=>D i∨i=j) m' a'→a'.defers=a.defers→K a' m'.w) : wpOp P ops Q j K a m.w:=by
 have hj : j<ops.size:=(Array.getElem?_eq_some_iff.1 hoj).1
 have L:=hT j oj hoj
 have ordB : ∀ b,b∈(T.f j).rb∨wB base T b j→∀ i,i<ops.size→i≠j→wB base T b i→(D i↔i<j):=λb hb i hi hij hw=>
  wM A hC hoj hr hD hi hij (aTy hij hw hb)
 have ordL : ∀ b,b∈(T.f j).rl∨wL base T b j→∀ i,i<ops.size→i≠j→wL base T b i→(D i↔i<j):=λb hb i hi hij hw=>
  wM A hC hoj hr hD hi hij (aRI hij hw hb)
 have atB : ∀ b,b∈(T.f j).rb∨wB base T b j→m.s.box b=(T.s j).box b:=by
  intro b hb
  obtain ⟨p,hp,hm⟩:=h.box b
  rw [hm]
  exact (hp.read (val:=λi=>(T.s i).box b) (S.boxes b) hj hD (ordB b hb) hDN).1
 have atL : ∀ b,b∈(T.f j).rl∨wL base T b j→m.s.list b=(T.s j).list b:=by
  intro b hb
  obtain ⟨p,hp,hm⟩:=h.list b
  rw [hm]
  exact (hp.read (val:=λi=>(T.s i).list b) (S.lists b) hj hD (ordL b hb) hDN).1
 have range : ∀ x,x<base∨(∃ i,D i∧base+16*i≤x∧x<base+16*i+16)→base+16*j≤x→x<base+16*j+16→False:=by
  intro x hx h1 h2
  rcases hx with hx | ⟨i,hi,h3,h4⟩
  ·omega
  ·have : i=j:=by omega
   exact hD (this▸hi)
 have sit : tT m ((T.s j).at (base+16*j)) (λb=>b∈(T.f j).rb∨b∈(T.f j).wb∨(T.f j).last=true) (λl=>l∈(T.f j).rl∨l∈(T.f j).wl∨(T.f j).last=true) (base+16*j):={
  inv:=h.inv
  ab:=λb hb=>atB b (by
   rcases hb with (hb | hb | hb) | hb
   ·exact .inl hb
   ·exact .inr (.inl hb)
   ·exact .inr (.inr (.inl hb))
   ·exact .inr (.inr (.inr hb)))
  al:=λb hb=>atL b (by
   rcases hb with (hb | hb | hb) | hb
   ·exact .inl hb
   ·exact .inr (.inl hb)
   ·exact .inr (.inr (.inl hb))
   ·exact .inr (.inr (.inr hb)))
  nb:=Nat.le_refl _
  nl:=Nat.le_refl _
  fb:=λx hx hx' hu=>range x (h.ub x hu) hx hx'
  fl:=λx hx hx' hu=>range x (h.ul x hu) hx hx'}
 have cov : (T.f j).Cov (λb=>b∈(T.f j).rb∨b∈(T.f j).wb∨(T.f j).last=true) (λl=>l∈(T.f j).rl∨l∈(T.f j).wl∨(T.f j).last=true) (λb=>b∈(T.f j).wb∨(T.f j).last=true) (λl=>l∈(T.f j).wl∨(T.f j).last=true):=
  ⟨λ_ h=>.inl h,λ_ h=>.inl h,λ_ h=>.inl h,λ_ h=>.inl h,λh _=>⟨.inr (.inr h),.inr (.inr h),.inr h,.inr h⟩⟩
 have tempAt : ∀ t,(∀ i,i<ops.size→i≠j→wT ops T t i→(D i↔i<j))→m.rd (T.g j t) (a.eval (.tmp t)):=by
  intro t ht
  obtain ⟨p,hp,hm⟩:=h.tmp t
  rw [← (hp.read (val:=λi=>T.g i t) (S.temps t) hj hD ht hDN).1]
  exact hm
 refine L.run m _ _ _ _ a K Q sit cov (.inl (A.ok j hj)) (λt ht=>tempAt t (λi hi hij hw=>?_)) (λv m' G hd=>?_)
 ·rcases hw with ⟨oi,hoi,hdi⟩ | hl
  ·refine aLD A hC hoj hr hD hoi hij (λe=>?_) (λe=>?_)
   ·exact (Oper.apart_spec e).1 t hdi ht
   ·exact (Oper.apart_spec e).2.2 t hdi ht
  ·exact wM A hC hoj hr hD hi hij (wK hl)
 ·have hlen : ∀ t,oj.dst=some t→t<a.tmps.size:=λt ht=>Nat.lt_of_lt_of_le (hdst j oj t hoj ht) h.sz
  refine hK m' _ ⟨G.step.inv,λb=>?_,λb=>?_,λt=>?_,λx hx=>?_,λx hx=>?_,by rw [aLz];exact h.sz,hI _ _ _ _ h.i h.inv G.step⟩ (aLA _ _ _)
  ·by_cases hw : wB base T b j
   ·refine ⟨j+1,At.write hj hw (λi hi hwi=>?_),?_⟩
    ·exact (ordB b (.inr hw) i (hDN i hi) (λe=>hD (e▸hi)) hwi).1 hi
    ·refine G.after.ab b ?_
     rcases hw with hw | hw | hw
     ·exact .inl (.inr (.inl hw))
     ·exact .inl (.inr (.inr hw))
     ·exact .inr hw
   ·obtain ⟨p,hp,hm⟩:=h.box b
    refine ⟨p,hp.skip hw,?_⟩
    rw [← hm]
    by_cases hb : b∈(T.f j).rb
    ·rw [G.after.ab b (.inl (.inl hb)),S.boxes b j hj hw,atB b (.inl hb)]
    ·exact G.after.ob b (λhB=>hB.elim hb (λhB=>hw (hB.elim .inl (λh=>.inr (.inl h))))) (λhn=>hw (.inr (.inr hn)))
  ·by_cases hw : wL base T b j
   ·refine ⟨j+1,At.write hj hw (λi hi hwi=>?_),?_⟩
    ·exact (ordL b (.inr hw) i (hDN i hi) (λe=>hD (e▸hi)) hwi).1 hi
    ·refine G.after.al b ?_
     rcases hw with hw | hw | hw
     ·exact .inl (.inr (.inl hw))
     ·exact .inl (.inr (.inr hw))
     ·exact .inr hw
   ·obtain ⟨p,hp,hm⟩:=h.list b
    refine ⟨p,hp.skip hw,?_⟩
    rw [← hm]
    by_cases hb : b∈(T.f j).rl
    ·rw [G.after.al b (.inl (.inl hb)),S.lists b j hj hw,atL b (.inl hb)]
    ·exact G.after.ol b (λhB=>hB.elim hb (λhB=>hw (hB.elim .inl (λh=>.inr (.inl h))))) (λhn=>hw (.inr (.inr hn)))
  ·rw [aHF hlen]
   by_cases ht : oj.dst=some t
   ·rw [if_pos ht]
    refine ⟨j+1,At.write hj (.inl ⟨oj,hoj,ht⟩) (λi hi hwi=>?_),hd t ht⟩
    have hij : i≠j:=λe=>hD (e▸hi)
    rcases hwi with ⟨oi,hoi,hdi⟩ | hl
    ·exact (aLD A hC hoj hr hD hoi hij (λe=>(Oper.apart_spec e).2.1 t hdi ht) (λe=>(Oper.apart_spec e).2.1 t ht hdi)).1 hi
    ·exact (wM A hC hoj hr hD (hDN i hi) hij (wK hl)).1 hi
   ·rw [if_neg ht]
    cases hl : (T.f j).last with
    | true=>
      refine ⟨j+1,At.write hj (.inr hl) (λi hi hwi=>?_),?_⟩
      ·exact (wM A hC hoj hr hD (hDN i hi) (λe=>hD (e▸hi)) ⟨(wK hl).2,(wK hl).1⟩).1 hi
      ·rw [L.env t ht]
       exact G.step.rd _ _ (tempAt t (λi hi hij _=>wM A hC hoj hr hD hi hij ⟨(wK hl).2,(wK hl).1⟩))
    | false=>
      obtain ⟨p,hp,hm⟩:=h.tmp t
      refine ⟨p,hp.skip (λhw=>?_),?_⟩
      ·rcases hw with ⟨o',ho',hd'⟩ | hl'
       ·rw [hoj] at ho';cases ho';exact ht hd'
       ·rw [hl] at hl';cases hl'
      ·have:=G.step.rd _ _ hm
       rw [L.id hl] at this
       exact this
  ·rcases G.step.ub x hx with h' | h'
   ·exact (h.ub x h').imp id (λ⟨i,hi,h''⟩=>⟨i,.inl hi,h''⟩)
   ·exact .inr ⟨j,.inr rfl,h'⟩
  ·rcases G.step.ul x hx with h' | h'
   ·exact (h.ul x h').imp id (λ⟨i,hi,h''⟩=>⟨i,.inl hi,h''⟩)
   ·exact .inr ⟨j,.inr rfl,h'⟩
theorem aI1.fin {nt : Nat} {T : Tr} (S : aBE ops base T) {D : NP} {m : bY} {a : Act} (h : aI1 I ops base nt T D m a) (hD : ∀ i,i<ops.size→D i) (hDN : ∀ i,D i→i<ops.size) : kC m (T.s ops.size) (base+16*ops.size)∧lI m (T.g ops.size) a:=by
 refine ⟨⟨h.inv,λb=>?_,λb=>?_,λx hx=>?_,λx hx=>?_⟩,λt=>?_⟩
 ·obtain ⟨p,hp,hm⟩:=h.box b
  rw [hm];exact hp.fin (val:=λi=>(T.s i).box b) (S.boxes b) hD
 ·obtain ⟨p,hp,hm⟩:=h.list b
  rw [hm];exact hp.fin (val:=λi=>(T.s i).list b) (S.lists b) hD
 ·rcases h.ub x hx with h' | ⟨i,hi,h1,h2⟩
  ·omega
  ·have:=hDN i hi;omega
 ·rcases h.ul x hx with h' | ⟨i,hi,h1,h2⟩
  ·omega
  ·have:=hDN i hi;omega
 ·obtain ⟨p,hp,hm⟩:=h.tmp t
  rw [← hp.fin (val:=λi=>T.g i t) (S.temps t) hD]
  exact hm
theorem aI2 {i : Nat} : i∈Region.ready .any ops listed↔∃ o,ops[i]? = some o∧listed.getD i true=false∧∀ e∈o.after.toList,Region.binds .any e=true→listed.getD e.on false=true:=by
 unfold Region.ready
 rw [List.mem_filter,List.mem_range]
 constructor
 ·rintro ⟨hi,h⟩
  have ho : ops[i]? = some ops[i]:=Array.getElem?_eq_getElem hi
  rw [ho] at h
  simp only [Bool.and_eq_true,Bool.not_eq_true',Option.map_some,Option.getD_some,Array.all_eq_true_iff_forall_mem,Bool.or_eq_true] at h
  refine ⟨_,ho,h.1,λe he hb=>?_⟩
  rcases h.2 e (Array.mem_toList_iff.1 he) with h' | h'
  ·rw [hb] at h';cases h'
  ·exact h'
 ·rintro ⟨o,ho,h1,h2⟩
  refine ⟨(Array.getElem?_eq_some_iff.1 ho).1,?_⟩
  rw [ho]
  simp only [Bool.and_eq_true,Bool.not_eq_true',Option.map_some,Option.getD_some,Array.all_eq_true_iff_forall_mem,Bool.or_eq_true]
  refine ⟨h1,λe he=>?_⟩
  cases hb : Region.binds .any e with
  | false=>exact .inl rfl
  | true=>exact .inr (h2 e (Array.mem_toList_iff.2 he) hb)
def aEf (n : Nat) (listed : Array Bool) : Nat:=((List.range n).filter λi=>!listed.getD i false).length
theorem aOR {n : Nat} (hs : listed.size=n) {j : Nat} (hj : j<n) (h : listed.getD j false=false) : aEf n (listed.setIfInBounds j true)+1≤aEf n listed:=by
 unfold aEf
 have hsub : ∀ i,(listed.setIfInBounds j true).getD i false=if i=j then true else listed.getD i false:=by
  intro i
  simp only [Array.getD_eq_getD_getElem?,Array.getElem?_setIfInBounds]
  by_cases e : j=i
  ·subst e;simp [hs,hj]
  ·simp [e,Ne.symm e]
 have : ((List.range n).filter λi=>!(listed.setIfInBounds j true).getD i false)=((List.range n).filter λi=>!listed.getD i false).filter λi=>!(i==j):=by
  rw [List.filter_filter]
  apply List.filter_congr
  intro i _
  rw [hsub]
  by_cases e : i=j<;>simp [e]
 rw [this]
 have hmem : j∈(List.range n).filter λi=>!listed.getD i false:=by
  rw [List.mem_filter,List.mem_range]
  exact ⟨hj,by rw [h];rfl⟩
 have : ∀ (l : List Nat),j∈l→(l.filter λi=>!(i==j)).length+1≤l.length:=by
  intro l
  induction l with
  | nil=>intro h;cases h
  | cons x r ih=>
    intro hm
    by_cases e : x=j
    ·subst e
     simp only [List.filter_cons,beq_self_eq_true,Bool.not_true,Bool.false_eq_true,if_false,List.length_cons]
     have:=List.length_filter_le (λi=>!(i==x)) r
     omega
    ·have hm' : j∈r:=by
      rcases List.mem_cons.1 hm with h | h
      ·exact absurd h.symm e
      ·exact h
     have he : (!(x==j))=true:=by simpa using e
     simp only [List.filter_cons,he,if_true,List.length_cons]
     have:=ih hm'
     omega
 exact this _ hmem
theorem aTz (hI : ∀ m m' scr n,I m→sN m→jH m m' scr n→I m') (hT : aTw P ops base T) (A : aP1 ops base T) (S : aBE ops base T) (hdst : ∀ (i : Nat) (o : Oper) (t : Nat),ops[i]? = some o→o.dst=some t→t<nt) {ds : List Deferred}
 {Q : Exit→Act→World→Prop} (hQ : ∀ m a,kC m (T.s ops.size) (base+16*ops.size)→lI m (T.g ops.size) a→nt≤a.tmps.size→a.defers=ds→I m→Q .normal a m.w) :
 ∀ (fuel : Nat) (listed : Array Bool) (m : bY) (a : Act),listed.size=ops.size→aEf ops.size listed≤fuel→aI1 I ops base nt T (λi=>listed.getD i false=true) m a→aLB ops (λi=>listed.getD i false=true)→a.defers=ds→
   wpAny P .any ops Q fuel listed a m.w:=by
 intro fuel
 have hDN : ∀ listed : Array Bool,listed.size=ops.size→∀ i,listed.getD i false=true→i<ops.size:=by
  intro listed hs i hi
  rw [Array.getD_eq_getD_getElem?] at hi
  cases h : listed[i]? with
  | none=>rw [h] at hi;cases hi
  | some b=>have:=(Array.getElem?_eq_some_iff.1 h).1;omega
 have allD : ∀ listed : Array Bool,listed.size=ops.size→Region.ready .any ops listed = []→∀ i,i<ops.size→listed.getD i false=true:=by
  intro listed hs hr i
  induction i using Nat.strongRecOn with
  | _ i ih=>
    intro hi
    cases hl : listed.getD i false with
    | true=>rfl
    | false=>
      exfalso
      have : i∈Region.ready .any ops listed:=aI2.2 ⟨ops[i],Array.getElem?_eq_getElem hi,by
       rw [Array.getD_eq_getD_getElem?] at hl ⊢
       have hlt : i<listed.size:=by omega
       rw [Array.getElem?_eq_getElem hlt] at hl ⊢
       exact hl,λe he hb=>by
        have:=A.back i _ (Array.getElem?_eq_getElem hi) e he hb
        exact ih e.on this (by omega)⟩
      rw [hr] at this
      cases this
 have done : ∀ (listed : Array Bool) (m : bY) (a : Act),listed.size=ops.size→aI1 I ops base nt T (λi=>listed.getD i false=true) m a→a.defers=ds→Region.ready .any ops listed = []→Q .normal a m.w:=by
  intro listed m a hs h hd hr
  obtain ⟨h1,h2⟩:=h.fin S (allD listed hs hr) (hDN listed hs)
  exact hQ m a h1 h2 h.sz hd h.i
 induction fuel with
 | zero=>
   intro listed m a hs hu h hC hd
   have hr : Region.ready .any ops listed = []:=by
    cases hr : Region.ready .any ops listed with
    | nil=>rfl
    | cons i r=>
      exfalso
      have hi : i∈Region.ready .any ops listed:=by rw [hr];exact List.mem_cons_self
      obtain ⟨o,ho,hl,_⟩:=aI2.1 hi
      have hlt : i<ops.size:=(Array.getElem?_eq_some_iff.1 ho).1
      have : i∈(List.range ops.size).filter λi=>!listed.getD i false:=by
       rw [List.mem_filter,List.mem_range]
       refine ⟨hlt,?_⟩
       rw [Array.getD_eq_getD_getElem?] at hl ⊢
       rw [Array.getElem?_eq_getElem (by omega)] at hl ⊢
       simpa using hl
      have h0 : ((List.range ops.size).filter λi=>!listed.getD i false) = []:=List.eq_nil_of_length_eq_zero (Nat.le_zero.1 hu)
      rw [h0] at this
      cases this
   exact ⟨hr,done listed m a hs h hd hr⟩
 | succ fuel ih=>
   intro listed m a hs hu h hC hd
   refine ⟨done listed m a hs h hd,λj hj=>?_⟩
   obtain ⟨oj,hoj,hl,hr⟩:=aI2.1 hj
   have hlt : j<ops.size:=(Array.getElem?_eq_some_iff.1 hoj).1
   have hl' : listed.getD j false=false:=by
    rw [Array.getD_eq_getD_getElem?] at hl ⊢
    rw [Array.getElem?_eq_getElem (by omega)] at hl ⊢
    exact hl
   have hset : ∀ i,(listed.setIfInBounds j true).getD i false=true↔(listed.getD i false=true∨i=j):=by
    intro i
    simp only [Array.getD_eq_getD_getElem?,Array.getElem?_setIfInBounds]
    by_cases e : j=i
    ·subst e;simp [hs,hlt]
    ·simp [e,Ne.symm e]
   refine h.step hI hT A S hdst hC (hDN listed hs) hoj hr (by rw [hl'];simp) (λm' a' h' hd'=>?_)
   refine ih _ m' a' (by rw [Array.size_setIfInBounds];exact hs) (by have:=aOR hs hlt hl';omega) (h'.congr (λi=>(hset i).symm)) (λi o ho hi e he hb=>?_) (by rw [hd'];exact hd)
   refine (hset e.on).2 ?_
   rcases (hset i).1 hi with hi | rfl
   ·exact .inl (hC i o ho hi e he hb)
   ·rw [hoj] at ho;cases ho
    exact .inl (hr e he hb)
theorem aP3 (hI : ∀ m m' scr n,I m→sN m→jH m m' scr n→I m') {nt : Nat} {T : Tr} (hT : aTw P ops base T) (hdst : ∀ (i : Nat) (o : Oper) (t : Nat),ops[i]? = some o→o.dst=some t→t<nt) {ds : List Deferred}
 {Q : Exit→Act→World→Prop} (hQ : ∀ m a,kC m (T.s ops.size) (base+16*ops.size)→lI m (T.g ops.size) a→nt≤a.tmps.size→a.defers=ds→I m→Q .normal a m.w) :
 ∀ (k i : Nat),i+k=ops.size→∀ (m : bY) (a : Act),kC m (T.s i) (base+16*i)→lI m (T.g i) a→nt≤a.tmps.size→a.defers=ds→I m→wpOps P ops Q (List.range' i k) a m.w
 | 0,i,hik,m,a,hf,ht,hsz,hd,hi=>by
   have : i=ops.size:=by omega
   subst this
   exact hQ m a hf ht hsz hd hi
 | k+1,i,hik,m,a,hf,ht,hsz,hd,hi=>by
   rw [List.range'_succ,wpOps_cons]
   have ho : ops[i]? = some ops[i]:=Array.getElem?_eq_getElem (by omega)
   have S:=hT i _ ho
   refine S.run m _ _ _ _ a _ _ (hf.sit (Nat.le_refl _)) (iR.cov_all _) (.inr λ_=>⟨trivial,trivial⟩) (λt _=>ht t) (λv m' G hdd=>?_)
   obtain ⟨h1,_⟩:=G.full hf
   exact aP3 hI hT hdst hQ k (i+1) (by omega) m' _ (by rw [show base+16*(i+1)=base+16*i+16 by omega];exact h1)
    (S.temps ht G.step.rd hdd (λt h=>Nat.lt_of_lt_of_le (hdst i _ t ho h) hsz)) (by rw [aLz];exact hsz) (by rw [aLA];exact hd) (hI _ _ _ _ hi hf.inv G.step)
theorem aTA (hT : aTw P ops base T) (hdst : ∀ (i : Nat) (o : Oper) (t : Nat),ops[i]? = some o→o.dst=some t→t<nt) (hf : kC m (T.s 0) base) (ht : lI m (T.g 0) a) (hsz : nt≤a.tmps.size) : aBE ops base T where
 rest:=(aNO hT hdst hf ht hsz ops.size (Nat.le_refl _)).2
 env:=λi o t ho hd hl=>by
  have S:=hT i o ho
  rw [S.env t hd,S.id hl];rfl
end
variable {w : World} {Z : NP} {v : Value} {x : PV} {m : bY} {e : gJ} {a : Act} {o : Oper} {s : St} {r : R}
section
variable {P : Program} {X : Cx} {O : Orc}
theorem aCM (h : aHn v=some x) : kX w Z x v∧eN v:=by
 unfold aHn at h
 split at h<;>first | (cases h;done) | (cases h;exact ⟨by constructor,trivial⟩)
theorem aP4 {α β : Type} {f : α→Option β} : ∀ {l : List α} {r : List β},l.mapM f=some r→r.length=l.length∧∀ (i : Nat) a b,l[i]? = some a→r[i]? = some b→f a=some b
 | [],r,h=>by simp at h;subst h;exact ⟨rfl,λi a b h=>by simp at h⟩
 | a0::l,r,h=>by
   rw [List.mapM_cons] at h
   cases ha : f a0 with
   | none=>rw [ha] at h;cases h
   | some b0=>
     rw [ha] at h
     cases hr : l.mapM f with
     | none=>rw [hr] at h;cases h
     | some r'=>
       rw [hr] at h
       cases h
       obtain ⟨h1,h2⟩:=aP4 hr
       refine ⟨by simp [h1],λi a b hi hb=>?_⟩
       cases i with
       | zero=>simp at hi hb;subst hi;subst hb;exact ha
       | succ i=>exact h2 i a b (by simpa using hi) (by simpa using hb)
theorem aP5 (h : aKL v=some x) : kX w Z x v:=by
 unfold aKL at h
 split at h
 ·rename_i cs
  simp only [Option.map_eq_some_iff] at h
  obtain ⟨ps,hps,rfl⟩:=h
  obtain ⟨h1,h2⟩:=aP4 hps
  have : cs=cs.toList.toArray:=by simp
  rw [this]
  refine .agg _ _ h1 (λi v hv=>?_) (λi c v hc hv=>?_)
  ·have hlt:=(List.getElem?_eq_some_iff.1 hv).1
   have hp : ps[i]? = some (ps[i]'(by omega)):=List.getElem?_eq_getElem (by omega)
   exact (aCM (w:=w) (Z:=Z) (h2 i v _ hv hp)).2
  ·exact (aCM (h2 i v c hv hc)).1
 ·exact (aCM h).1
theorem aRJ (h : aOu v=true) : v = .slice none 0 0:=by
 unfold aOu at h
 split at h
 ·rfl
 ·cases h
theorem aUP (hg : ∀ g,X.glob g=none) {x : Operand} (h : ∀ t,x = .tmp t→m.rd (e.get t) (a.eval (.tmp t))) : m.rd (ev X e x) (a.eval x):=by
 cases x with
 | tmp t=>exact h t rfl
 | const v=>
   show m.rd (if aOu v then .nils else match aKL v with | some pv=>.p pv | none=>.dead) v
   split
   ·rename_i hn
    rw [aRJ hn]
    exact .nils
   ·split
    ·rename_i pv hpv
     exact .p _ _ (aP5 hpv)
    ·exact .dead _
 | func f=>exact .fn f [] [] rfl (λi d v h=>by simp at h)
 | global g=>
   show m.rd (match X.glob g with | some cs=>.p (.bx cs) | none=>.dead) _
   rw [hg g]
   exact .dead _
structure aNP (P : Program) (X : Cx) (o : Oper) (e e' : gJ) (s s' : St) (f : iR) (scr : DV→DV) : Prop where
 env : ∀ t,o.dst≠some t→e'.get t=scr (e.get t)
 id : f.last=false→scr=id
 run : ∀ (n : Nat) (m : bY) (B L WB WL : NP) (a : Act),tT m s B L n→s'.nb≤n+16→s'.nl≤n+16→f.Cov B L WB WL→(f.ok=true∨∀ x,B x∧L x)→
  (∀ x∈o.op.operands,m.rd (ev X e x) (a.eval x))→aF4 P ((execOp a.eval o).run P m.w) (λv w'=>∃ m',m'.w=w'∧dF m m' s s' B L WB WL n scr∧∀ t,o.dst=some t→m'.rd (e'.get t) v)
theorem zG (dst : Option Nat) (d : DV) (e : gJ) (t : Nat) : (put dst d e).get t=if dst=some t then d else e.get t:=by
 cases dst with
 | none=>simp [put]
 | some u=>
   unfold put
   simp only [gJ.get]
   by_cases h : t=u
   ·subst h;simp
   ·have : Nat.beq t u=false:=by
     cases hb : Nat.beq t u with
     | false=>rfl
     | true=>exact absurd (dH hb) h
    rw [this]
    have h' : ¬ (some u=some t):=λe=>h (by cases e;rfl)
    simp [h']
theorem aNP.val {s' : St} {d : DV} {f : iR}
 (H : ∀ (n : Nat) (m : bY) (B L WB WL : NP) (a : Act),tT m s B L n→s'.nb≤n+16→s'.nl≤n+16→f.Cov B L WB WL→(f.ok=true∨∀ x,B x∧L x)→
  (∀ x∈o.op.operands,m.rd (ev X e x) (a.eval x))→∃ v m',(execOp a.eval o).run P m.w = .ok (.value v) m'.w∧dF m m' s s' B L WB WL n _root_.id∧m'.rd d v) : aNP P X o e (put o.dst d e) s s' f _root_.id where
 env:=λt ht=>by rw [zG,if_neg ht];rfl
 id:=λ_=>rfl
 run:=λn m B L WB WL a sit h1 h2 C hok hop=>by
  obtain ⟨v,m',hr,G,hd⟩:=H n m B L WB WL a sit h1 h2 C hok hop
  rw [hr]
  exact ⟨m',rfl,G,λt ht=>by rw [zG,if_pos ht];exact hd⟩
def aHH (P : Program) (X : Cx) (O : Orc) : Prop:=
 ∀ (d : DV) (args : List DV) (ts : List Nat) (e : gJ) (s : St) (k : DV→gJ→St→OR) (r : R),aIL X O d args ts e s k=some r→
   ∃ d' e' s' scr,k d' e' s'=some r∧(∀ t,e'.get t=scr (e.get t))∧((aAh X d args s).last=false→scr=id)∧
     ∀ (n : Nat) (m : bY) (B L WB WL : NP),tT m s B L n→s'.nb≤n+16→s'.nl≤n+16→(aAh X d args s).Cov B L WB WL→((aAh X d args s).ok=true∨∀ x,B x∧L x)→
       ∀ vf (vs : Array Value),m.rd d vf→args.length=vs.size→(∀ (i : Nat) d v,args[i]? = some d→vs[i]? = some v→m.rd d v)→
         aF4 P ((do let df ← Deferred.ofValue vf vs;invoke df.target df.args : Sem Next).run P m.w) (λv w'=>∃ m',m'.w=w'∧dF m m' s s' B L WB WL n scr∧m'.rd d' v)
theorem aSE {ps : Array (Nat × Operand)} (h : ∀ x∈ps.toList.map (·.2),m.rd (ev X e x) (a.eval x)) :
 RdP m (ps.toList.map λp=>(p.1,ev X e p.2)) (ps.map λ(p : Nat × Operand)=>(p.1,a.eval p.2)).toList:=by
 refine ⟨by simp,λi p v hp hv=>?_⟩
 rw [Array.toList_map,List.getElem?_map] at hv
 rw [List.getElem?_map] at hp
 cases hi : ps.toList[i]? with
 | none=>rw [hi] at hp;cases hp
 | some q=>
   rw [hi] at hp hv
   cases hp;cases hv
   exact ⟨rfl,h q.2 (List.mem_map.2 ⟨q,List.mem_of_getElem? hi,rfl⟩)⟩
theorem aRK {xs : Array Operand} (h : ∀ x∈xs.toList,m.rd (ev X e x) (a.eval x)) :
 (xs.toList.map (ev X e)).length=(xs.map a.eval).size∧∀ (i : Nat) d v,(xs.toList.map (ev X e))[i]? = some d→(xs.map a.eval)[i]? = some v→m.rd d v:=by
 refine ⟨by simp,λi d v hd hv=>?_⟩
 rw [List.getElem?_map] at hd
 rw [Array.getElem?_map] at hv
 cases hi : xs.toList[i]? with
 | none=>rw [hi] at hd;cases hd
 | some q=>
   have hi' : xs[i]? = some q:=by simpa using hi
   rw [hi] at hd
   rw [hi'] at hv
   cases hd;cases hv
   exact h q (List.mem_of_getElem? hi)
theorem aLE {ds : List DV} {B L WB WL : NP} (C : (aD4 ds).Cov B L WB WL) : ∀ l∈ds.flatMap (dX (cU+1)),L l∧WL l:=λl hl=>⟨C.rl l hl,C.wl l hl⟩
theorem aKR {x : Option Operand} (h : ∀ y,x=some y→m.rd (ev X e y) (a.eval y)) : m.rdO (x.map (ev X e)) (x.map a.eval):=by
 cases x with
 | none=>exact trivial
 | some y=>exact h y rfl
theorem aF4.mono {res : Result Next} {p q : Value→World→Prop} (h : aF4 P res p) (hpq : ∀ v w,p v w→q v w) : aF4 P res q:=by
 unfold aF4 at h ⊢
 split<;>simp only at h
 ·exact hpq _ _ h
 ·exact hpq _ _ h
 ·exact h.mono (λe w' ⟨v,he,hp⟩=>⟨v,he,hpq _ _ hp⟩)
theorem aLF (hT : X.T=aM P) (hz : qC P X.zok) {b : Builtin} {ts : Array TypeId} {args : List DV} {k : DV→gJ→St→OR} (h : aB0 X b ts.toList args e s k=some r) :
 ∃ d' e' s' scr,k d' e' s'=some r∧(∀ t,e'.get t=scr (e.get t))∧((uG b args s).last=false→scr=id)∧∀ (n : Nat) (m : bY) (B L WB WL : NP),tT m s B L n→s'.nl≤n+16→(uG b args s).Cov B L WB WL→
   ∀ (vs : Array Value) (ty : TypeId) (cs : Array Bool),args.length=vs.size→(∀ (i : Nat) d v,args[i]? = some d→vs[i]? = some v→m.rd d v)→
     ∃ v m',(builtin b ts ty cs vs).run P m.w = .ok (.value v) m'.w∧dF m m' s s' B L WB WL n scr∧m'.rd d' v:=by
 have one : ∀ {vs : Array Value},1=vs.size→∃ v,vs = #[v]:=by
  intro vs h
  refine ⟨vs[0],?_⟩
  apply Array.ext
  ·simp [← h]
  ·intro i h1 h2
   have : i=0:=by omega
   subst this;rfl
 have two : ∀ {vs : Array Value},2=vs.size→∃ v w,vs = #[v,w]:=by
  intro vs h
  refine ⟨vs[0],vs[1],?_⟩
  apply Array.ext
  ·simp [← h]
  ·intro i h1 h2
   have : i=0∨i=1:=by omega
   rcases this with rfl | rfl<;>rfl
 have tsOf : ∀ {l : List Nat},ts.toList=l→ts=l.toArray:=λh=>by rw [← h]
 unfold aB0 at h
 split at h
 ·rename_i t d hts
  have hts:=tsOf hts;subst hts
  obtain ⟨y,hk,H⟩:=aRB hT h
  refine ⟨y,e,s,id,hk,λ_=>rfl,λ_=>rfl,λn m B L WB WL sit _ C vs ty cs hl hr=>?_⟩
  obtain ⟨v,rfl⟩:=one hl
  obtain ⟨u,hrun,hd⟩:=H m sit.inv (λl hl=>sit.al l (.inl (C.rl l hl))) v ty (hr 0 d v rfl rfl)
  exact ⟨u,m,by simp only [builtin,Sem.run_bind,hrun];rfl,dF.refl WB WL sit,hd⟩
 ·rename_i t u a d hts
  have hts:=tsOf hts;subst hts
  split at h
  rotate_left
  ·cases h
  rename_i te hte
  split at h
  rotate_left
  ·cases h
  rename_i hu
  obtain ⟨d',s',hk,H⟩:=aMW hT hz h
  refine ⟨d',e,s',id,hk,λ_=>rfl,λ_=>rfl,λn m B L WB WL sit hn C vs ty cs hl hr=>?_⟩
  obtain ⟨v,w,rfl⟩:=two hl
  have ht : P.underlying t=some (.slice te):=by
   unfold kY at hte
   rw [hT] at hte
   split at hte
   ·rename_i e' he;cases hte;exact pS.slice he
   ·cases hte
  have hu' : (∃ f,P.underlying u=some (.slice f))∨P.underlying u=some .string:=by
   unfold aW2 at hu
   rw [hT] at hu
   split at hu
   ·rename_i f hf;exact .inl ⟨f,pS.slice hf⟩
   ·rename_i hf;exact .inr (pS.str hf)
   ·cases hu
  obtain ⟨x,m',hrun,G,hd⟩:=H n m B L WB WL sit hn (λl hl=>⟨C.rl l (by simpa [uG,aD4,aDI] using hl),C.wl l (by simpa [uG,aD4,aDI] using hl)⟩) t u ty ht hu' v w (hr 0 a v rfl rfl) (hr 1 d w rfl rfl)
  exact ⟨x,m',by simp only [builtin,Sem.run_bind];rw [hrun];rfl,G,hd⟩
 ·rename_i t u a d hts
  have hts:=tsOf hts;subst hts
  split at h
  rotate_left
  ·cases h
  rename_i te hte
  obtain ⟨d',s',hk,H⟩:=aPY hT hz h
  refine ⟨d',e,s',id,hk,λ_=>rfl,λ_=>rfl,λn m B L WB WL sit hn C vs ty cs hl hr=>?_⟩
  obtain ⟨v,w,rfl⟩:=two hl
  have ht : P.underlying t=some (.slice te):=by
   unfold kY at hte
   rw [hT] at hte
   split at hte
   ·rename_i e' he;cases hte;exact pS.slice he
   ·cases hte
  obtain ⟨x,m',hrun,G,hd⟩:=H n m B L WB WL sit (λl hl=>aLE (ds:=[a,d]) C l (by simpa using hl)) t u ty ht v w (hr 0 a v rfl rfl) (hr 1 d w rfl rfl)
  exact ⟨x,m',by simp only [builtin,Sem.run_bind];rw [hrun];rfl,G,hd⟩
 ·rename_i a b'
  obtain ⟨c,hc,hk⟩:=bH h
  refine ⟨_,e,s,id,hk,λ_=>rfl,λ_=>rfl,λn m B L WB WL sit hn C vs ty cs hl hr=>?_⟩
  obtain ⟨v,w,rfl⟩:=two hl
  have h0:=hr 0 _ v rfl rfl
  have h1:=hr 1 _ w rfl rfl
  unfold cJ at hc
  split at hc
  ·cases hc
   cases h0 with
   | p _ _ h0=>cases h0;cases h1 with
     | p _ _ h1=>cases h1;exact ⟨_,m,rfl,dF.refl WB WL sit,.p _ _ (.int _ _)⟩
  ·cases hc
 ·rename_i a b'
  obtain ⟨c,hc,hk⟩:=bH h
  refine ⟨_,e,s,id,hk,λ_=>rfl,λ_=>rfl,λn m B L WB WL sit hn C vs ty cs hl hr=>?_⟩
  obtain ⟨v,w,rfl⟩:=two hl
  have h0:=hr 0 _ v rfl rfl
  have h1:=hr 1 _ w rfl rfl
  unfold cK at hc
  split at hc
  ·cases hc
   cases h0 with
   | p _ _ h0=>cases h0;cases h1 with
     | p _ _ h1=>cases h1;exact ⟨_,m,rfl,dF.refl WB WL sit,.p _ _ (.int _ _)⟩
  ·cases hc
 ·cases h
theorem aRL (hT : X.T=aM P) (hz : qC P X.zok) (hC : aHH P X O) {k : aOt} (h : exec X O o e s k=some r) :
 ∃ e' s' scr,k e' s'=some r∧aNP P X o e e' s s' (aAi X o e s) scr:=by
 obtain ⟨dst,op,type,pos,after,guard⟩:=o
 cases op<;>unfold exec at h<;>simp only at h<;>try (cases h;done)
 case move x=>
  obtain ⟨d,s',hk,H⟩:=aA8 h
  refine ⟨_,s',_,hk,.val λn m B L WB WL a sit h1 h2 C _ hop=>?_⟩
  obtain ⟨m',hw,G,hd⟩:=H n m B L WB WL sit h2 (.inr λl hl=>⟨C.rl l (by simp only [aAi];revert hl;cases ev X e x<;>simp [aB2,iR.none]),C.wl l (by simpa only [aAi] using hl)⟩) _ (hop x (by simp [Op.operands]))
  exact ⟨_,m',by rw [hw];rfl,G,hd⟩
 case assign x=>
  obtain ⟨d,s',hk,H⟩:=aA8 h
  refine ⟨_,s',_,hk,.val λn m B L WB WL a sit h1 h2 C _ hop=>?_⟩
  obtain ⟨m',hw,G,hd⟩:=H n m B L WB WL sit h2 (.inr λl hl=>⟨C.rl l (by simp only [aAi];revert hl;cases ev X e x<;>simp [aB2,iR.none]),C.wl l (by simpa only [aAi] using hl)⟩) _ (hop x (by simp [Op.operands]))
  exact ⟨_,m',by rw [hw];rfl,G,hd⟩
 case pick c x y=>
  obtain ⟨d,s',hk,H⟩:=aPV h
  refine ⟨_,s',_,hk,.val λn m B L WB WL a sit h1 h2 C _ hop=>?_⟩
  obtain ⟨v,m',hr,G,hd⟩:=H n m B L WB WL sit h2 _ _ _ (hop c (by simp [Op.operands])) (hop x (by simp [Op.operands])) (hop y (by simp [Op.operands]))
  exact ⟨v,m',hr,G,hd⟩
 case alloc t=>
  obtain ⟨d,s',hk,H⟩:=aOK hT hz h
  refine ⟨_,s',_,hk,.val λn m B L WB WL a sit h1 h2 C _ hop=>?_⟩
  obtain ⟨v,m',hr,G,hd⟩:=H n m B L WB WL sit h2 h1
  exact ⟨v,m',by simp [execOp,hr],G,hd⟩
 case box t x=>
  obtain ⟨d,s',hk,H⟩:=aRA (P:=P) h
  refine ⟨_,s',_,hk,.val λn m B L WB WL a sit h1 h2 C _ hop=>?_⟩
  obtain ⟨v,m',hr,G,hd⟩:=H n m B L WB WL sit h2 h1 _ (hop x (by simp [Op.operands]))
  exact ⟨v,m',by simp [execOp,hr],G,hd⟩
 case build t ps=>
  obtain ⟨d,hk,H⟩:=aMV hT hz h
  refine ⟨_,s,_,hk,.val λn m B L WB WL a sit h1 h2 C _ hop=>?_⟩
  obtain ⟨v,hr,hd⟩:=H m _ (aSE (X:=X) (a:=a) (λx hx=>hop x (by simpa [Op.operands] using hx)))
  exact ⟨v,m,by simp only [execOp,Sem.run_bind];rw [show (λ(x : Nat × Operand)=>(x.1,a.eval x.2))=λ(p : Nat × Operand)=>(p.1,a.eval p.2) from rfl,hr];rfl,dF.refl WB WL sit,hd⟩
 case buildSlice t n0 ps=>
  obtain ⟨d,s',hk,H⟩:=aHE hT hz h
  refine ⟨_,s',_,hk,.val λn m B L WB WL a sit h1 h2 C _ hop=>?_⟩
  obtain ⟨v,m',hr,G,hd⟩:=H n m B L WB WL sit h2 h1 (λl hl=>aLE C l (by simpa [List.map_map,Function.comp] using hl)) _ (aSE (X:=X) (a:=a) (λx hx=>hop x (by simpa [Op.operands] using hx)))
  exact ⟨v,m',by simp only [execOp,Sem.run_bind];rw [hr];rfl,G,hd⟩
 case makeSlice t l c=>
  obtain ⟨d,s',hk,H⟩:=aIZ hT hz h
  refine ⟨_,s',_,hk,.val λn m B L WB WL a sit h1 h2 C _ hop=>?_⟩
  obtain ⟨v,m',hr,G,hd⟩:=H n m B L WB WL sit h2 _ _ (hop l (by simp [Op.operands])) (hop c (by simp [Op.operands]))
  exact ⟨v,m',by simp [execOp,hr],G,hd⟩
 case load t x=>
  obtain ⟨da,h,hfa,_,hda⟩:=aIR h
  obtain ⟨d,hk,H⟩:=aJL hT h
  rw [hfa] at H
  refine ⟨_,s,_,hk,.val λn m B L WB WL a sit h1 h2 C _ hop=>?_⟩
  obtain ⟨v,hr,hd⟩:=H m sit.inv (λb hb=>sit.ab b (.inl (C.rb b hb))) (λl hl=>sit.al l (.inl (C.rl l hl))) _ (hda m _ (hop x (by simp [Op.operands])))
  exact ⟨v,m,by simp [execOp,hr],dF.refl WB WL sit,hd⟩
 case store t x y=>
  obtain ⟨da,h,_,hfa,hda⟩:=aIR h
  obtain ⟨e',s',scr,hk,he,hid,H⟩:=aMZ hT h
  rw [hfa] at hid H
  refine ⟨_,s',scr,hk,⟨λt ht=>by rw [zG,if_neg ht];exact he t,λhl=>(hid hl).1,λn m B L WB WL a sit h1 h2 C _ hop=>?_⟩⟩
  obtain ⟨m',hr,G⟩:=H n m B L WB WL sit h2 C _ _ (hda m _ (hop x (by simp [Op.operands]))) (hop y (by simp [Op.operands]))
  have : (execOp a.eval ⟨dst,.store t x y,type,pos,after,guard⟩).run P m.w = .ok .skip m'.w:=by simp [execOp,hr]
  rw [this]
  exact ⟨m',rfl,G,λt ht=>by rw [zG,if_pos ht];exact .dead _⟩
 case nilCheck x=>
  obtain ⟨da,h,hfa,_,hda⟩:=aIR h
  obtain ⟨d,hk,H⟩:=aKg h
  rw [hfa] at H
  refine ⟨_,s,_,hk,.val λn m B L WB WL a sit h1 h2 C _ hop=>?_⟩
  obtain ⟨hd,hv⟩:=H m (λl hl=>sit.al l (.inl (C.rl l hl))) _ (hda m _ (hop x (by simp [Op.operands])))
  refine ⟨a.eval x,m,?_,dF.refl WB WL sit,hd⟩
  rcases hv with ⟨ad,hv⟩ | ⟨f,vs,hv⟩<;>simp [execOp,hv]
 case binOp op t x y yt=>
  obtain ⟨d,hk,H⟩:=aRE hT h
  refine ⟨_,s,_,hk,.val λn m B L WB WL a sit h1 h2 C _ hop=>?_⟩
  obtain ⟨v,hr,hd⟩:=H m _ _ (hop x (by simp [Op.operands])) (hop y (by simp [Op.operands])) x y
  refine ⟨v,m,?_,dF.refl WB WL sit,hd⟩
  unfold uX at hr
  simp only [execOp,Sem.run_bind] at hr ⊢
  rw [hr];rfl
 case unOp op t x=>
  obtain ⟨d,hk,H⟩:=aPS (P:=P) h
  refine ⟨_,s,_,hk,.val λn m B L WB WL a sit h1 h2 C _ hop=>?_⟩
  obtain ⟨v,hr,hd⟩:=H m _ (hop x (by simp [Op.operands]))
  exact ⟨v,m,by simp [execOp,hr],dF.refl WB WL sit,hd⟩
 case convert t u x=>
  obtain ⟨d,hk,H⟩:=aPW hT h
  refine ⟨_,s,_,hk,.val λn m B L WB WL a sit h1 h2 C _ hop=>?_⟩
  obtain ⟨v,m',hr,G,hd⟩:=H n m B L WB WL sit (λl hl=>C.rl l hl) _ (hop x (by simp [Op.operands]))
  exact ⟨v,m',by simp [execOp,hr],G,hd⟩
 case makeFunc fn first caps=>
  cases fn<;>simp only at h<;>try (cases h;done)
  rename_i f
  split at h
  rotate_left
  ·cases h
  rename_i hf
  have hf : first.size=0:=dH hf
  have hf : first = #[]:=Array.eq_empty_of_size_eq_zero hf
  subst hf
  refine ⟨_,s,_,h,.val λn m B L WB WL a sit h1 h2 C _ hop=>?_⟩
  obtain ⟨hl,hr⟩:=aRK (X:=X) (a:=a) (m:=m) (e:=e) (xs:=caps) (λx hx=>hop x (by simpa [Op.operands] using hx))
  refine ⟨.func (.func f) #[] (caps.map a.eval).toList.toArray,m,(by simp [execOp,Instr.makeFunc];rw [← Array.toList_map,Array.toArray_toList]),dF.refl WB WL sit,.fn f _ _ (by simpa using hl) (λi d v hd hv=>hr i d v hd (by simpa using hv))⟩
 case slice t x lo hi mx=>
  cases mx with
  | some mx=>
    simp only at h
    obtain ⟨d,s',hk,H⟩:=aMY hT h
    refine ⟨_,s',_,hk,.val λn m B L WB WL a sit h1 h2 C _ hop=>?_⟩
    obtain ⟨v,m',hr,G,hd⟩:=H n m B L WB WL sit h2 _ _ _ _ (hop x (by simp [Op.operands])) (aKR (X:=X) (a:=a) λy hy=>hop y (by subst hy;simp [Op.operands])) (aKR (X:=X) (a:=a) λy hy=>hop y (by subst hy;simp [Op.operands])) (hop mx (by simp [Op.operands]))
    exact ⟨v,m',by simp [execOp,hr],G,hd⟩
  | none=>
    simp only at h
    obtain ⟨d,hk,H⟩:=aON hT h
    refine ⟨_,s,_,hk,.val λn m B L WB WL a sit h1 h2 C _ hop=>?_⟩
    obtain ⟨v,hr,hd⟩:=H m sit.inv (λl hl=>sit.al l (.inl (C.rl l hl))) _ _ _ (hop x (by simp [Op.operands])) (aKR (X:=X) (a:=a) λy hy=>hop y (by subst hy;simp [Op.operands])) (aKR (X:=X) (a:=a) λy hy=>hop y (by subst hy;simp [Op.operands]))
    exact ⟨v,m,by simp [execOp,hr],dF.refl WB WL sit,hd⟩
 case fieldAddr t x f=>
  obtain ⟨d,hk,H⟩:=aIV hT h
  refine ⟨_,s,_,hk,.val λn m B L WB WL a sit h1 h2 C _ hop=>?_⟩
  obtain ⟨v,hr,hd⟩:=H m (λl hl=>sit.al l (.inl (C.rl l hl))) _ (hop x (by simp [Op.operands]))
  exact ⟨v,m,by simp [execOp,hr],dF.refl WB WL sit,hd⟩
 case field t x f=>
  obtain ⟨d,hk,H⟩:=aOM hT h
  refine ⟨_,s,_,hk,.val λn m B L WB WL a sit h1 h2 C _ hop=>?_⟩
  obtain ⟨v,hr,hd⟩:=H m _ (hop x (by simp [Op.operands]))
  exact ⟨v,m,by simp [execOp,hr],dF.refl WB WL sit,hd⟩
 case indexAddr t x i=>
  obtain ⟨d,hk,H⟩:=aIW hT h
  refine ⟨_,s,_,hk,.val λn m B L WB WL a sit h1 h2 C _ hop=>?_⟩
  obtain ⟨v,hr,hd⟩:=H m sit.inv (λl hl=>sit.al l (.inl (C.rl l hl))) _ _ (hop x (by simp [Op.operands])) (hop i (by simp [Op.operands]))
  exact ⟨v,m,by simp [execOp,hr],dF.refl WB WL sit,hd⟩
 case index t x i=>
  obtain ⟨d,hk,H⟩:=aOL hT h
  refine ⟨_,s,_,hk,.val λn m B L WB WL a sit h1 h2 C _ hop=>?_⟩
  obtain ⟨v,hr,hd⟩:=H m _ _ (hop x (by simp [Op.operands])) (hop i (by simp [Op.operands]))
  exact ⟨v,m,by simp [execOp,hr],dF.refl WB WL sit,hd⟩
 case extract x i=>
  obtain ⟨d,hk,H⟩:=aLp (P:=P) h
  refine ⟨_,s,_,hk,.val λn m B L WB WL a sit h1 h2 C _ hop=>?_⟩
  obtain ⟨v,hr,hd⟩:=H m _ (hop x (by simp [Op.operands]))
  exact ⟨v,m,by simp [execOp,hr],dF.refl WB WL sit,hd⟩
 case call c=>
  split at h
  ·rename_i f hf
   obtain ⟨d',e',s',scr,hk,he,hid,H⟩:=hC _ _ _ _ _ _ _ h
   have hfoot : aAi X ⟨dst,.call c,type,pos,after,guard⟩ e s=aAh X (ev X e f) (c.args.toList.map (ev X e)) s:=by
    simp only [aAi,hf]
   refine ⟨_,s',scr,hk,⟨λt ht=>by rw [zG,if_neg ht];exact he t,λhl=>hid (by rw [← hfoot];exact hl),λn m B L WB WL a sit h1 h2 C hok hop=>?_⟩⟩
   rw [hfoot] at C hok
   obtain ⟨hl,hr⟩:=aRK (X:=X) (a:=a) (m:=m) (e:=e) (xs:=c.args) (λx hx=>hop x (by simp only [Op.operands,Call.operands,hf];simp at hx ⊢;exact .inr hx))
   have:=H n m B L WB WL sit h1 h2 C hok (a.eval f) (c.args.map a.eval) (hop f (by simp [Op.operands,Call.operands,hf])) hl hr
   have e1 : execOp a.eval ⟨dst,.call c,type,pos,after,guard⟩=(do let df ← Deferred.ofValue (a.eval f) (c.args.map a.eval);invoke df.target df.args : Sem Next):=by
    simp only [execOp,resolve,hf]
   rw [e1]
   refine aF4.mono this ?_
   rintro v w' ⟨m',hw,G,hd⟩
   exact ⟨m',hw,G,λt ht=>by rw [zG,if_pos ht];exact hd⟩
  ·rename_i b hb
   have hfoot : aAi X ⟨dst,.call c,type,pos,after,guard⟩ e s=uG b (c.args.toList.map (ev X e)) s:=by
    simp only [aAi,hb]
   have e1 : ∀ a : Act,execOp a.eval ⟨dst,.call c,type,pos,after,guard⟩=builtin b c.argTypes type (c.args.map λ| .const _=>true | _=>false) (c.args.map a.eval):=by
    intro a
    simp only [execOp,resolve,hb]
    rfl
   have opd : ∀ x,x∈c.args.toList→x∈(Op.call c).operands:=by
    intro x hx
    simp only [Op.operands,Call.operands,hb]
    simpa using hx
   rw [hfoot]
   obtain ⟨d',e',s',scr,hk,he,hid,H⟩:=aLF hT hz h
   refine ⟨_,s',scr,hk,⟨λt ht=>by rw [zG,if_neg ht];exact he t,hid,λn m B L WB WL a sit h1 h2 C _ hop=>?_⟩⟩
   obtain ⟨hl,hr⟩:=aRK (X:=X) (a:=a) (m:=m) (e:=e) (xs:=c.args) (λx hx=>hop x (opd x hx))
   obtain ⟨v,m',hrun,G,hd⟩:=H n m B L WB WL sit h2 C (c.args.map a.eval) type (c.args.map λ| .const _=>true | _=>false) hl hr
   rw [e1,hrun]
   exact ⟨m',rfl,G,λt ht=>by rw [zG,if_pos ht];exact hd⟩
  ·cases h
end
variable {t i n : Nat} {o : Oper} {e : gJ} {s : St} {draw : Bool}
section
variable {P : Program} {X : Cx} {O : Orc} {ops : Array Oper}
theorem aJX : ∀ (l : List Oper) (j : Nat),aD3 l j=(l[j]?).bind (·.dst)
 | [],_=>rfl
 | o::_,0=>rfl
 | o::r,j+1=>by
   have:=aJX r j
   simpa [aD3] using this
theorem aNQ {a : Act} {b : Bool} (h : a.eval (.tmp t) = .bool b) : a.tmps[t]? = some (.bool b):=by
 simp only [Act.eval,Array.getD_eq_getD_getElem?] at h
 cases ht : a.tmps[t]? with
 | none=>rw [ht] at h;simp [undef] at h
 | some v=>rw [ht] at h;simp at h;rw [h]
theorem aNP.step (hg : ∀ g,X.glob g=none) (ho : ops[i]? = some o) {e1 e' : gJ} {s' : St} {f : iR} {scr : DV→DV} (L : aNP P X o e1 e' (s.at n) s' f scr) (he : ∀ t,e1.get t=e.get t)
 (hnb : s'.nb≤n+16) (hnl : s'.nl≤n+16)
 (hw : o.guard=none∨∃ j want t,o.guard=some (j,want)∧(ops[j]?).bind (·.dst)=some t∧e.get t = .p (.bool want)) : xG P ops i o e.get e'.get s s' n f scr where
 env:=λt ht=>by rw [L.env t ht,he t]
 id:=L.id
 run:=λm B L' WB WL a K Q sit C hok hop hK=>by
  have hwant : Region.wanted o (yielded ops a.tmps)=true:=by
   unfold Region.wanted
   rcases hw with hw | ⟨j,want,t,h1,h2,h3⟩
   ·rw [hw]
   ·rw [h1]
    have hrd:=hop t (by simp [Oper.looksAt,h1,h2])
    rw [h3] at hrd
    have hv : a.eval (.tmp t) = .bool want:=by
     cases hrd with
     | p _ _ hrd=>exact hrd.bool_inv
    unfold yielded
    simp only [h2,Option.bind_some,aNQ hv]
    simp
  have hy:=L.run n m B L' WB WL a sit hnb hnl C hok (λx hx=>aUP hg (λt ht=>by
   rw [he t]
   refine hop t ?_
   subst ht
   exact List.mem_append_left _ (List.mem_filterMap.2 ⟨.tmp t,by simpa using hx,rfl⟩)))
  unfold wpOp
  simp only [ho,hwant,if_true]
  refine .inl (Oper.wp_mono ?_ hy.wp)
  rintro a' w' ⟨v,rfl,m',rfl,G,hd⟩
  exact hK v m' G hd
theorem aTB (ho : ops[i]? = some o) {j : Nat} {want : Bool} (h1 : o.guard=some (j,want)) (h2 : (ops[j]?).bind (·.dst)=some t) (h3 : e.get t = .p (.bool (!want))∨e.get t = .tup []) :
 xG P ops i o e.get (λt=>if o.dst=some t then .tup [] else e.get t) s (s.at n) n iR.none id where
 env:=λt ht=>by simp [ht]
 id:=λ_=>rfl
 run:=λm B L' WB WL a K Q sit C hok hop hK=>by
  have hwant : Region.wanted o (yielded ops a.tmps)=false:=by
   unfold Region.wanted
   rw [h1]
   have hrd:=hop t (by simp [Oper.looksAt,h1,h2])
   rcases h3 with h3 | h3
   ·rw [h3] at hrd
    have hv : a.eval (.tmp t) = .bool (!want):=by
     cases hrd with
     | p _ _ hrd=>exact hrd.bool_inv
    unfold yielded
    simp only [h2,Option.bind_some,aNQ hv]
    cases want<;>simp
   ·rw [h3] at hrd
    have hv : a.eval (.tmp t) = .tuple #[]:=by
     generalize a.eval (.tmp t)=v at hrd
     cases hrd with
     | tup _ vs hl _=>
       have : vs = []:=List.eq_nil_of_length_eq_zero (by simpa using hl.symm)
       subst this
       rfl
    have hy : yielded ops a.tmps j=none:=by
     unfold yielded
     simp only [h2,Option.bind_some]
     split
     ·rename_i b hb
      exfalso
      simp only [Act.eval,Array.getD_eq_getD_getElem?] at hv
      rw [hb] at hv
      cases hv
     ·rfl
    show (yielded ops a.tmps j==some want)=false
    rw [hy]
    rfl
  unfold wpOp
  simp only [ho,hwant,Bool.false_eq_true,if_false]
  have G : dF m m (s.at n) (s.at n) B L' WB WL n _root_.id:={
   step:=jH.refl n sit.inv
   after:=⟨sit.ab,sit.al,λ_ _ _=>rfl,λ_ _ _=>rfl,λ_ _ _=>rfl,λ_ _ _=>rfl⟩
   nb:=Nat.le_refl _
   nl:=Nat.le_refl _
   ub:=λ_ _ h=>h
   ul:=λ_ _ h=>h}
  exact hK undef m G (λt ht=>by simp only [ht,if_true];exact .tup [] [] rfl (λi d v h=>by simp at h))
theorem gJ.get_put (dst : Option Nat) (d : DV) (e : gJ) : (put dst d e).get=λt=>if dst=some t then d else e.get t:=funext (zG dst d e)
theorem aCb (t : Nat) (d : DV) (e : gJ) (h : e.get t=d) : ∀ u,gJ.get ((t,d)::e) u=e.get u:=by
 intro u
 simp only [gJ.get]
 split
 ·rename_i hu
  rw [dH hu];exact h.symm
 ·rfl
theorem aF7 (hT : X.T=aM P) (hz : qC P X.zok) (hg : ∀ g,X.glob g=none) (hC : aHH P X O) {draw : Bool} {k : aOt} {res : R} :
 ∀ (r : List Oper) (i : Nat) (acc : List (Nat × iR)) (e : gJ) (s : St),ops.toList.drop i=r→i+r.length=ops.size→qG X O ops draw i acc r e s k=some res→
   ∃ (T : Tr) (e' : gJ),T.g i=e.get∧T.s i=s∧(∀ j o,i≤j→ops[j]? = some o→xG P ops j o (T.g j) (T.g (j+1)) (T.s j) (T.s (j+1)) (s.base+16*j) (T.f j) (T.scr j))∧
     T.g ops.size=e'.get∧(T.s ops.size).base=s.base∧k e' { T.s ops.size with base:=s.base+16*ops.size,nb:=0,nl:=0} = some res∧
     (draw=true→xP (aB3 ops.toList []) s.base (((List.range' i r.length).map λj=>(j,T.f j)).reverse++acc)=true)
 | [],i,acc,e,s,_,hl,h=>by
  have hi : i=ops.size:=by simpa using hl
  subst hi
  unfold qG at h
  split at h
  ·cases h
  ·rename_i hd
   refine ⟨⟨λ_=>e.get,λ_=>s,λ_=>iR.none,λ_=>id⟩,e,rfl,rfl,λj o hj ho=>?_,rfl,rfl,h,λhdr=>?_⟩
   ·have:=(Array.getElem?_eq_some_iff.1 ho).1;omega
   ·rw [hdr] at hd
    simpa using hd
 | o::r,i,acc,e,s,hd,hl,h=>by
   simp only [List.length_cons] at hl
   have ho : ops[i]? = some o:=by
    have : (ops.toList.drop i)[0]? = some o:=by rw [hd];rfl
    simpa using this
   have hdr : ops.toList.drop (i+1)=r:=by
    rw [← List.drop_drop,hd];rfl
   have join : ∀ (e2 : gJ) (s2 : St) (f : iR) (scr : DV→DV) (acc' : List (Nat × iR)),s2.base=s.base→(draw=true→acc'=(i,f)::acc)→qG X O ops draw (i+1) acc' r e2 s2 k=some res→
    xG P ops i o e.get e2.get s s2 (s.base+16*i) f scr→
    ∃ (T : Tr) (e' : gJ),T.g i=e.get∧T.s i=s∧(∀ j o,i≤j→ops[j]? = some o→xG P ops j o (T.g j) (T.g (j+1)) (T.s j) (T.s (j+1)) (s.base+16*j) (T.f j) (T.scr j))∧
      T.g ops.size=e'.get∧(T.s ops.size).base=s.base∧k e' { T.s ops.size with base:=s.base+16*ops.size,nb:=0,nl:=0} = some res∧
      (draw=true→xP (aB3 ops.toList []) s.base (((List.range' i (o::r).length).map λj=>(j,T.f j)).reverse++acc)=true):=by
    intro e2 s2 f scr acc' hb hacc h2 SL
    obtain ⟨T,e',g1,g2,g3,g4,g5,g6,g7⟩:=aF7 hT hz hg hC r (i+1) acc' e2 s2 hdr (by omega) h2
    rw [hb] at g3 g5 g6 g7
    refine ⟨⟨λj=>if j≤i then e.get else T.g j,λj=>if j≤i then s else T.s j,λj=>if j≤i then f else T.f j,λj=>if j≤i then scr else T.scr j⟩,e',by simp,by simp,λj o' hj ho'=>?_,?_,?_,?_,λhdraw=>?_⟩
    ·by_cases e : j=i
     ·subst e
      rw [ho] at ho';cases ho'
      simp only [Nat.le_refl,if_true,show ¬ (j+1≤j) by omega,if_false,g1,g2]
      exact SL
     ·simp only [show ¬ (j≤i) by omega,show ¬ (j+1≤i) by omega,if_false]
      exact g3 j o' (by omega) ho'
    ·simp only [show ¬ (ops.size≤i) by omega,if_false];exact g4
    ·simp only [show ¬ (ops.size≤i) by omega,if_false];exact g5
    ·simp only [show ¬ (ops.size≤i) by omega,if_false];exact g6
    ·have:=g7 hdraw
     rw [hacc hdraw] at this
     rw [List.length_cons,List.range'_succ,List.map_cons,List.reverse_cons,List.append_assoc,List.singleton_append]
     simp only [Nat.le_refl,if_true]
     have hm : ((List.range' (i+1) r.length).map λj=>(j,if j≤i then f else T.f j))=(List.range' (i+1) r.length).map λj=>(j,T.f j):=by
      apply List.map_congr_left
      intro j hj
      have:=List.mem_range'_1.1 hj
      rw [if_neg (by omega)]
     rw [hm]
     exact this
   have one : ∀ e1 : gJ,(∀ t,e1.get t=e.get t)→(o.guard=none∨∃ j want t,o.guard=some (j,want)∧(ops[j]?).bind (·.dst)=some t∧e.get t = .p (.bool want))→
    (stf (if draw then (i,aAi X o e1 { s with nb:=s.base+16*i,nl:=s.base+16*i})::acc else []) λacc'=>exec X O o e1 { s with nb:=s.base+16*i,nl:=s.base+16*i} λe s'=>
     if Nat.ble s'.nb (s.base+16*i+16)&&Nat.ble s'.nl (s.base+16*i+16)&&Nat.beq s'.base s.base then stp e s' λe s'=>qG X O ops draw (i+1) acc' r e s' k else none)=some res→
    ∃ (T : Tr) (e' : gJ),T.g i=e.get∧T.s i=s∧(∀ j o,i≤j→ops[j]? = some o→xG P ops j o (T.g j) (T.g (j+1)) (T.s j) (T.s (j+1)) (s.base+16*j) (T.f j) (T.scr j))∧
      T.g ops.size=e'.get∧(T.s ops.size).base=s.base∧k e' { T.s ops.size with base:=s.base+16*ops.size,nb:=0,nl:=0} = some res∧
      (draw=true→xP (aB3 ops.toList []) s.base (((List.range' i (o::r).length).map λj=>(j,T.f j)).reverse++acc)=true):=by
    intro e1 he1 hw h
    unfold stf at h
    obtain ⟨e2,s2,scr,hk,L⟩:=aRL hT hz hC h
    split at hk
    rotate_left
    ·cases hk
    rename_i hc
    simp only [Bool.and_eq_true] at hc
    unfold stp at hk
    exact join e2 s2 _ scr _ (dH hc.2) (λhdw=>by rw [hdw];rfl) hk (aNP.step hg ho (s:=s) L he1 (tU hc.1.1) (tU hc.1.2) hw)
   unfold qG at h
   simp only at h
   split at h
   ·rename_i hgd
    exact one e (λ_=>rfl) (.inl hgd) h
   ·rename_i j want hgd
    split at h
    ·cases h
    ·rename_i t ht
     rw [aJX] at ht
     have ht : (ops[j]?).bind (·.dst)=some t:=by simpa using ht
     have skip : ∀ e1 : gJ,(∀ t,e1.get t=e.get t)→(e.get t = .p (.bool (!want))∨e.get t = .tup [])→qG X O ops draw (i+1) (if draw then (i,iR.none)::acc else []) r (put o.dst (.tup []) e1) { s with nb:=s.base+16*i,nl:=s.base+16*i} k=some res→
      ∃ (T : Tr) (e' : gJ),T.g i=e.get∧T.s i=s∧(∀ j o,i≤j→ops[j]? = some o→xG P ops j o (T.g j) (T.g (j+1)) (T.s j) (T.s (j+1)) (s.base+16*j) (T.f j) (T.scr j))∧
        T.g ops.size=e'.get∧(T.s ops.size).base=s.base∧k e' { T.s ops.size with base:=s.base+16*ops.size,nb:=0,nl:=0} = some res∧
        (draw=true→xP (aB3 ops.toList []) s.base (((List.range' i (o::r).length).map λj=>(j,T.f j)).reverse++acc)=true):=by
      intro e1 he1 hw h
      refine join (put o.dst (.tup []) e1) (s.at (s.base+16*i)) iR.none id (if draw then (i,iR.none)::acc else []) rfl (λhdw=>by rw [hdw];rfl) h ?_
      have:=aTB (P:=P) ho (e:=e) (s:=s) (n:=s.base+16*i) hgd ht hw
      have e2 : (put o.dst (.tup []) e1).get=λt=>if o.dst=some t then DV.tup [] else e.get t:=by
       rw [gJ.get_put]
       funext t
       rw [he1 t]
      rw [e2]
      exact this
     split at h
     ·rename_i c hc
      rcases aB8 h with ⟨rfl,h'⟩ | ⟨rfl,h'⟩
      ·cases want with
       | true=>exact one _ (aCb t _ e hc) (.inr ⟨j,true,t,hgd,ht,hc⟩) h'
       | false=>exact skip _ (aCb t _ e hc) (.inl hc) h'
      ·cases want with
       | true=>exact skip _ (aCb t _ e hc) (.inl hc) h'
       | false=>exact one _ (aCb t _ e hc) (.inr ⟨j,false,t,hgd,ht,hc⟩) h'
     ·rename_i hc
      exact skip e (λ_=>rfl) (.inr hc) h
     ·cases h
theorem aHI {base : Nat} {f : Nat→iR} : ∀ (n : Nat),xP (aB3 ops.toList []) base (((List.range' 0 n).map λj=>(j,f j)).reverse)=true→
 (∀ j,j<n→(f j).ok=true)∧∀ i j,i<j→j<n→aA3 base (i,f i) (j,f j)=true→((aB3 ops.toList []).getD j 0).testBit i=true
 | 0,_=>⟨λj hj=>by omega,λi j _ hj=>by omega⟩
 | n+1,h=>by
   rw [List.range'_concat,List.map_append,List.reverse_append] at h
   simp only [List.map_cons,List.map_nil,List.reverse_cons,List.reverse_nil,List.nil_append,List.singleton_append,Nat.zero_add,Nat.one_mul] at h
   unfold xP at h
   simp only [Bool.and_eq_true,List.all_eq_true] at h
   obtain ⟨⟨h1,h2⟩,h3⟩:=h
   obtain ⟨g1,g2⟩:=aHI n h3
   refine ⟨λj hj=>?_,λi j hij hj hm=>?_⟩
   ·by_cases e : j=n
    ·subst e;exact h1
    ·exact g1 j (by omega)
   ·by_cases e : j=n
    ·subst e
     have:=h2 (i,f i) (by
      rw [List.mem_reverse]
      exact List.mem_map.2 ⟨i,List.mem_range'_1.2 ⟨by omega,by omega⟩,rfl⟩)
     simpa [hm] using this
    ·exact g2 i j hij (by omega) hm
theorem aTC (h : aSx n ops draw=true) : (∀ (i : Nat) (o : Oper) (t : Nat),ops[i]? = some o→o.dst=some t→t<n)∧
 (draw=true→aLe 0 ops.toList=true∧aHu ops (aB3 ops.toList []) 0 ops.toList=true):=by
 unfold aSx at h
 simp only [Bool.and_eq_true,List.all_eq_true,Bool.or_eq_true,Bool.not_eq_true'] at h
 refine ⟨λi o t ho hd=>?_,λhd=>h.2.resolve_left (by rw [hd];simp)⟩
 have:=h.1 o (by rw [← Array.getElem?_toList] at ho;exact List.mem_of_getElem? ho)
 rw [hd] at this
 simpa [Nat.blt_eq] using this
theorem aOS (hT : X.T=aM P) (hz : qC P X.zok) (hg : ∀ g,X.glob g=none) (hC : aHH P X O) (hm : P.follows .mixedOrders=true) {nt id : Nat} (hr : aSx nt ops draw=true) {k : aOt} {res : R}
 (h : qG X O ops draw 0 [] ops.toList e s k=some res) :
 ∃ e' s',k e' s'=some res∧∀ (I : bY→Prop),(∀ m m' scr n,I m→sN m→jH m m' scr n→I m')→∀ (m : bY) (a : Act),kC m s s.base→lI m e.get a→nt≤a.tmps.size→(∀ w',w' = { m.w with drawn:=m.w.drawn+1}→∃ m0 : bY,m0.w=w'∧I m0∧kC m0 s s.base∧lI m0 e.get a)→I m→
   (Code.region id ops draw).wp P (λex a' w'=>ex = .normal∧∃ m',m'.w=w'∧I m'∧kC m' s' s'.base∧lI m' e'.get a'∧nt≤a'.tmps.size∧a'.defers=a.defers) a m.w:=by
 obtain ⟨hdst,hdraw⟩:=aTC hr
 obtain ⟨T,e',g1,g2,g3,g4,g5,g6,g7⟩:=aF7 hT hz hg hC ops.toList 0 [] e s rfl (by simp) h
 refine ⟨e',_,g6,λI hI m a hf ht hsz hdrew hi=>?_⟩
 have hTr : aTw P ops s.base T:=λi o ho=>g3 i o (Nat.zero_le _) ho
 have hQ : ∀ (m' : bY) (a' : Act),kC m' (T.s ops.size) (s.base+16*ops.size)→lI m' (T.g ops.size) a'→nt≤a'.tmps.size→a'.defers=a.defers→I m'→
  (Exit.normal = .normal∧∃ m'',m''.w=m'.w∧I m''∧kC m'' { T.s ops.size with base:=s.base+16*ops.size,nb:=0,nl:=0} (s.base+16*ops.size)∧lI m'' e'.get a'∧nt≤a'.tmps.size∧a'.defers=a.defers):=by
  intro m' a' h1 h2 h3 h4 h5
  exact ⟨rfl,m',rfl,h5,⟨h1.inv,h1.box,h1.list,h1.ub,h1.ul⟩,by rw [← g4];exact h2,h3,h4⟩
 cases draw with
 | false=>
   apply wp_region
   rw [List.range_eq_range']
   exact aP3 hI hTr hdst (ds:=a.defers) (Q:=λex a' w'=>ex = .normal∧∃ m',m'.w=w'∧I m'∧kC m' { T.s ops.size with base:=s.base+16*ops.size,nb:=0,nl:=0} (s.base+16*ops.size)∧lI m' e'.get a'∧nt≤a'.tmps.size∧a'.defers=a.defers) hQ ops.size 0 (by simp) m a (by rw [g2];exact hf) (by rw [g1];exact ht) hsz rfl hi
 | true=>
   obtain ⟨hb,htm⟩:=hdraw rfl
   obtain ⟨m0,hw0,hi0,hf0,ht0⟩:=hdrew _ rfl
   apply wp_region_any hm
   rw [← hw0]
   have hap:=g7 rfl
   rw [List.append_nil,Array.length_toList] at hap
   obtain ⟨hok,hmt⟩:=aHI ops.size hap
   have A : aP1 ops s.base T:={
    back:=λj o ho e' he hbnd=>by
     have:=aLC hb j o (by simpa using ho) e' he hbnd
     omega
    temps:=λi j x y hij hx hy=>by
     rcases aJW htm j y (by simpa using hy) i x (by omega) hx with h' | h'
     ·exact .inl h'
     ·rw [Nat.zero_add] at h'
      exact .inr (aI0 ops.toList [] rfl (λj hj=>by simp at hj) j i h')
    meet:=λi j hij hj hmm=>aI0 ops.toList [] rfl (λj hj=>by simp at hj) j i (hmt i j hij hj hmm)
    ok:=hok}
   have S:=aTA hTr hdst (by rw [g2];exact hf0) (by rw [g1];exact ht0) hsz
   refine aTz hI hTr A S hdst (ds:=a.defers) (Q:=λex a' w'=>ex = .normal∧∃ m',m'.w=w'∧I m'∧kC m' { T.s ops.size with base:=s.base+16*ops.size,nb:=0,nl:=0} (s.base+16*ops.size)∧lI m' e'.get a'∧nt≤a'.tmps.size∧a'.defers=a.defers) hQ ops.size (Array.replicate ops.size false) m0 a (by simp) ?_ ?_ ?_ rfl
   ·unfold aEf
    have:=List.length_filter_le (λi=>!(Array.replicate ops.size false).getD i false) (List.range ops.size)
    simpa using this
   ·refine (aI1.start (by rw [g2];exact hf0) (by rw [g1];exact ht0) hsz hi0).congr (λi=>?_)
    rw [Array.getD_eq_getD_getElem?,Array.getElem?_replicate]
    split<;>simp
   ·intro j o ho hj
    rw [Array.getD_eq_getD_getElem?,Array.getElem?_replicate] at hj
    split at hj<;>simp at hj
end
variable {l : List Nat} {x i : Nat}
structure Fwd (m m' : bY) (nb nl : Nat) : Prop where
 size : m.w.heap.size≤m'.w.heap.size
 os : m'.w.os=m.w.os
 tape : m'.w.tape=m.w.tape
 output : m'.w.output=m.w.output
 keep : ∀ r,r<m.w.heap.size→¬ m.owned r→m'.w.heap[r]? = m.w.heap[r]?
 own : ∀ r,m'.owned r→m.owned r∨m.w.heap.size≤r
 z : ∀ r,m'.Z r→m.Z r∨m.owned r∨m.w.heap.size≤r
 zz : ∀ r,m.Z r→m'.Z r
 box : ∀ b,b<nb→∀ cs,m.s.box b=some cs→m'.ρ.box b=m.ρ.box b∧m'.ρ.ub b∧∃ cs',m'.s.box b=some cs'
 row : ∀ l,l<nl→m.ρ.ul l→m'.ρ.ul l∧(m'.s.live l→m.s.live l∧m'.ρ.hdr l=m.ρ.hdr l∧m'.ρ.ty l=m.ρ.ty l)
theorem Fwd.refl (m : bY) (inv : sN m) (nb nl : Nat) : Fwd m m nb nl where
 size:=Nat.le_refl _
 os:=rfl
 tape:=rfl
 output:=rfl
 keep:=λ_ _ _=>rfl
 own:=λ_ h=>.inl h
 z:=λ_ h=>.inl h
 zz:=λ_ h=>h
 box:=λb _ cs h=>⟨rfl,inv.ub b cs h,cs,h⟩
 row:=λ_ _ h=>⟨h,λh=>⟨h,rfl,rfl⟩⟩
theorem Fwd.trans {m m' m'' : bY} {nb nl : Nat} (h : Fwd m m' nb nl) (k : Fwd m' m'' nb nl) : Fwd m m'' nb nl where
 size:=Nat.le_trans h.size k.size
 os:=k.os.trans h.os
 tape:=k.tape.trans h.tape
 output:=k.output.trans h.output
 keep:=λr hr ho=>(k.keep r (Nat.lt_of_lt_of_le hr h.size) (λho'=>(h.own r ho').elim ho (λhle=>by omega))).trans (h.keep r hr ho)
 own:=λr ho=>(k.own r ho).elim (λh'=>h.own r h') (λhle=>.inr (Nat.le_trans h.size hle))
 z:=λr hz=>(k.z r hz).elim (λh'=>h.z r h') (λh'=>h'.elim (λh''=>(h.own r h'').elim (λx=>.inr (.inl x)) (λx=>.inr (.inr x))) (λhle=>.inr (.inr (Nat.le_trans h.size hle))))
 zz:=λr hz=>k.zz r (h.zz r hz)
 box:=λb hb cs hcs=>by
  obtain ⟨h1,_,cs',h2⟩:=h.box b hb cs hcs
  obtain ⟨k1,k2,k3⟩:=k.box b hb cs' h2
  exact ⟨k1.trans h1,k2,k3⟩
 row:=λl hl hu=>by
  obtain ⟨h1,h2⟩:=h.row l hl hu
  obtain ⟨k1,k2⟩:=k.row l hl h1
  refine ⟨k1,λhv=>?_⟩
  obtain ⟨a1,a2,a3⟩:=k2 hv
  obtain ⟨b1,b2,b3⟩:=h2 a1
  exact ⟨b1,a2.trans b2,a3.trans b3⟩
theorem jH.fwd {m m' : bY} {scr : DV→DV} {n : Nat} (h : jH m m' scr n) (inv : sN m) (nb nl : Nat) : Fwd m m' nb nl where
 size:=h.size
 os:=h.os
 tape:=h.tape
 output:=h.output
 keep:=h.keep
 own:=h.own
 z:=h.z
 zz:=h.zz
 box:=λb _ cs hb=>by
  obtain ⟨cs',h'⟩:=h.bx b cs hb
  exact ⟨(h.mub b (inv.ub b cs hb)).2,(h.mub b (inv.ub b cs hb)).1,cs',h'⟩
 row:=λl _ hu=>⟨h.mul l hu,λhv=>h.hd l hu hv⟩
theorem aSF : ∀ {l : List Nat} {x n i : Nat},yR x l n=some i→n≤i∧l[i - n]? = some x
 | [],_,_,_,h=>by simp [yR] at h
 | y::r,x,n,i,h=>by
   unfold yR at h
   split at h
   ·rename_i hx
    cases h
    refine ⟨Nat.le_refl _,?_⟩
    rw [Nat.sub_self,dH hx];rfl
   ·obtain ⟨h1,h2⟩:=aSF h
    refine ⟨by omega,?_⟩
    rw [show i - n=i - (n+1)+1 by omega]
    simpa using h2
theorem aP6 (h : yR x l 0=some i) : l[i]? = some x:=by
 have:=(aSF h).2
 simpa using this
def bY.pick (m : bY) (bs ls : List Nat) (s : St) : bY:=
 { w:=m.w,Z:=m.Z,s:=s.sx,L:=λ_=>False,
   ρ:={ box:=λi=>m.ρ.box (bs.getD i 0),hdr:=λi=>m.ρ.hdr (ls.getD i 0),fp:=λi=>m.ρ.fp (ls.getD i 0),ty:=λi=>m.ρ.ty (ls.getD i 0),
        ub:=λi=>i<bs.length∧m.ρ.ub (bs.getD i 0),ul:=λi=>i<ls.length∧m.ρ.ul (ls.getD i 0)}}
theorem aEg {s : St} {fb fl : Nat→Option Nat} : ∀ {bs : List Nat} {n i : Nat},oG i (mT s fb fl n bs)=if n≤i then (bs[i - n]?).bind λb=>(s.box b).map λcs=>cs.map (ren fb fl cU) else none
 | [],n,i=>by simp [mT,oG]
 | b::r,n,i=>by
   unfold mT
   rw [gG,aEg]
   by_cases h : i=n
   ·subst h;simp
   ·rw [if_neg h]
    by_cases h2 : n≤i
    ·rw [if_pos h2,if_pos (by omega),show i - n=i - (n+1)+1 by omega];simp
    ·rw [if_neg h2,if_neg (by omega)]
theorem aEh {s : St} : ∀ {ls : List Nat} {n i : Nat},oG i (mU s n ls)=if n≤i then (ls[i - n]?).bind λl=>s.list l else none
 | [],n,i=>by simp [mU,oG]
 | b::r,n,i=>by
   unfold mU
   rw [gG,aEh]
   by_cases h : i=n
   ·subst h;simp
   ·rw [if_neg h]
    by_cases h2 : n≤i
    ·rw [if_pos h2,if_pos (by omega),show i - n=i - (n+1)+1 by omega];simp
    ·rw [if_neg h2,if_neg (by omega)]
theorem aEi (s : St) (a : aKd) (i : Nat) : (s.pick a).box i=(a.bs[i]?).bind λb=>(s.box b).map λcs=>cs.map (ren (yR · a.bs 0) (yR · a.ls 0) cU):=by
 show oG i (mT s _ _ 0 a.bs)=_
 rw [aEg];simp
theorem aCc (s : St) (a : aKd) (i : Nat) : (s.pick a).list i=(a.ls[i]?).bind λl=>s.list l:=by
 show oG i (mU s 0 a.ls)=_
 rw [aEh];simp
section
variable {m : bY} {s : St} {a : aKd}
theorem fZ (h : l[i]? = some x) : l.getD i 0=x:=by rw [List.getD,h];rfl
theorem aLG (hl : ∀ l∈a.ls,m.s.list l=s.list l) : ∀ (n : Nat) {d : DV} {v : Value},m.rd d v→(m.pick a.bs a.ls (s.pick a)).rd (ren (yR · a.bs 0) (yR · a.ls 0) n d) v:=by
 have hlive : ∀ l l',yR l a.ls 0=some l'→(m.pick a.bs a.ls (s.pick a)).s.live l'→m.s.live l:=by
  intro l l' h hv
  have hg:=aP6 h
  have hv : (s.pick a).list l'≠none:=hv
  rw [aCc,hg] at hv
  unfold Sx.live
  rw [hl l (List.mem_of_getElem? hg)]
  exact hv
 have key : ∀ (f : DV→DV),(∀ d v,m.rd d v→(m.pick a.bs a.ls (s.pick a)).rd (f d) v)→∀ {d : DV} {v : Value},m.rd d v→(m.pick a.bs a.ls (s.pick a)).rd (aDX (yR · a.bs 0) (yR · a.ls 0) f d) v:=by
  intro f hf d v h
  have hmap : ∀ {ds : List DV} {vs : List Value},(∀ (i : Nat) d v,ds[i]? = some d→vs[i]? = some v→m.rd d v)→∀ (i : Nat) d v,(ds.map f)[i]? = some d→vs[i]? = some v→(m.pick a.bs a.ls (s.pick a)).rd d v:=by
   intro ds vs h i d v hd hv
   rw [List.getElem?_map] at hd
   cases hdi : ds[i]? with
   | none=>rw [hdi] at hd;cases hd
   | some d0=>rw [hdi] at hd;cases hd;exact hf _ _ (h i d0 v hdi hv)
  cases h with
  | p x v h=>exact .p x v h
  | nils=>exact .nils
  | agg ds vs hl hc h=>exact .agg _ vs (by simp [hl]) hc (hmap h)
  | tup ds vs hl h=>exact .tup _ vs (by simp [hl]) (hmap h)
  | fn g ds vs hl h=>exact .fn g _ vs (by simp [hl]) (hmap h)
  | ptr b off hb=>
    unfold aDX
    dsimp only
    split
    ·rename_i b' hb'
     have hg:=aP6 hb'
     have e : m.ρ.box b=(m.pick a.bs a.ls (s.pick a)).ρ.box b':=by
      show _=m.ρ.box (a.bs.getD b' 0)
      rw [fZ hg]
     rw [e]
     exact .ptr b' off ⟨(List.getElem?_eq_some_iff.1 hg).1,by rw [fZ hg];exact hb⟩
    ·exact .dead _
  | bsl b n hb=>
    unfold aDX
    dsimp only
    split
    ·rename_i b' hb'
     have hg:=aP6 hb'
     have e : m.ρ.box b=(m.pick a.bs a.ls (s.pick a)).ρ.box b':=by
      show _=m.ρ.box (a.bs.getD b' 0)
      rw [fZ hg]
     rw [e]
     exact .bsl b' n ⟨(List.getElem?_eq_some_iff.1 hg).1,by rw [fZ hg];exact hb⟩
    ·exact .dead _
  | ref l path v hu hc h=>
    unfold aDX
    dsimp only
    split
    ·rename_i l' hl'
     have hg:=aP6 hl'
     refine .ref l' path v ⟨(List.getElem?_eq_some_iff.1 hg).1,by rw [fZ hg];exact hu⟩ hc (λhv=>?_)
     have:=h (hlive l l' hl' hv)
     show fY m.w (m.ρ.fp (a.ls.getD l' 0)) (m.ρ.ty (a.ls.getD l' 0)) (m.ρ.hdr (a.ls.getD l' 0)) path v
     rw [fZ hg]
     exact this
    ·exact .dead _
  | sref l path lo hi v hu hc h=>
    unfold aDX
    dsimp only
    split
    ·rename_i l' hl'
     have hg:=aP6 hl'
     refine .sref l' path lo hi v ⟨(List.getElem?_eq_some_iff.1 hg).1,by rw [fZ hg];exact hu⟩ hc (λhv=>?_)
     have:=h (hlive l l' hl' hv)
     show ∃ (aa : Option Addr) (len cap : Nat) (k k' : IntKind) (mm n : Nat),fY m.w (m.ρ.fp (a.ls.getD l' 0)) (m.ρ.ty (a.ls.getD l' 0)) (m.ρ.hdr (a.ls.getD l' 0)) path (.slice aa len cap)∧lo = .int k mm∧hi = .int k' n∧mm≤n∧n≤len∧
      v = .slice (if cap=mm then aa else aa.map (·.add (mm*((m.ρ.ty (a.ls.getD l' 0)).along path).s))) (n - mm) (cap - mm)
     rw [fZ hg]
     exact this
    ·exact .dead _
  | eptr l path i off v hu hc h=>
    unfold aDX
    dsimp only
    split
    ·rename_i l' hl'
     have hg:=aP6 hl'
     refine .eptr l' path i off v ⟨(List.getElem?_eq_some_iff.1 hg).1,by rw [fZ hg];exact hu⟩ hc (λhv=>?_)
     have:=h (hlive l l' hl' hv)
     show ∃ (b o len cap : Nat) (k : IntKind) (n : Nat),fY m.w (m.ρ.fp (a.ls.getD l' 0)) (m.ρ.ty (a.ls.getD l' 0)) (m.ρ.hdr (a.ls.getD l' 0)) path (.slice (some ⟨b,o,none⟩) len cap)∧i = .int k n∧n<len∧
      v = .pointer (some ⟨b,o+n*((m.ρ.ty (a.ls.getD l' 0)).along path).s+off,none⟩)
     rw [fZ hg]
     exact this
    ·exact .dead _
  | fptr x s' g off b o cells e fz cv h1 h2 h3 h4 h5 h6=>exact .fptr x s' g off b o cells e fz cv h1 h2 h3 h4 h5 h6
  | bptr c off b o h=>exact .bptr c off b o h
  | gptr l path i off v hc h=>
    unfold aDX
    dsimp only
    split
    ·rename_i l' hl'
     have hg:=aP6 hl'
     refine .gptr l' path i off v hc (λk0 n0 hi=>⟨⟨(List.getElem?_eq_some_iff.1 hg).1,by rw [fZ hg];exact (h k0 n0 hi).1⟩,λhv=>?_⟩)
     have:=(h k0 n0 hi).2 (hlive l l' hl' hv)
     show ∃ (b o len cap : Nat) (k : IntKind) (n : Nat),fY m.w (m.ρ.fp (a.ls.getD l' 0)) (m.ρ.ty (a.ls.getD l' 0)) (m.ρ.hdr (a.ls.getD l' 0)) path (.slice (some ⟨b,o,none⟩) len cap)∧i = .int k n∧n<len∧
      v = .pointer (some ⟨b,o+n*((m.ρ.ty (a.ls.getD l' 0)).along path).s+off,none⟩)
     rw [fZ hg]
     exact this
    ·exact .dead _
  | nilq c neg b h=>exact .nilq c neg b h
  | dead v=>exact .dead v
 intro n
 induction n with
 | zero=>intro d v h;exact key _ (λ_ _ _=>.dead _) h
 | succ n ih=>intro d v h;exact key _ (λ_ _ h=>ih h) h
theorem aUQ (inv : sN m) (hb : ∀ b∈a.bs,m.s.box b=s.box b) (hl : ∀ l∈a.ls,m.s.list l=s.list l) (nb : a.bs.Nodup) (nl : a.ls.Nodup) : sN (m.pick a.bs a.ls (s.pick a)):=by
 have boxOf : ∀ {i cs},(m.pick a.bs a.ls (s.pick a)).s.box i=some cs→∃ b cs0,a.bs[i]? = some b∧m.s.box b=some cs0∧cs=cs0.map (ren (yR · a.bs 0) (yR · a.ls 0) cU):=by
  intro i cs h
  have h : (s.pick a).box i=some cs:=h
  rw [aEi] at h
  cases hbi : a.bs[i]? with
  | none=>rw [hbi] at h;cases h
  | some b=>
    rw [hbi] at h
    simp only [Option.bind_some,Option.map_eq_some_iff] at h
    obtain ⟨cs0,h1,h2⟩:=h
    exact ⟨b,cs0,rfl,by rw [hb b (List.mem_of_getElem? hbi)];exact h1,h2.symm⟩
 have rowOf : ∀ {i o},(m.pick a.bs a.ls (s.pick a)).s.list i=some o→∃ l,a.ls[i]? = some l∧m.s.list l=some o:=by
  intro i o h
  have h : (s.pick a).list i=some o:=h
  rw [aCc] at h
  cases hbi : a.ls[i]? with
  | none=>rw [hbi] at h;cases h
  | some l=>
    rw [hbi] at h
    exact ⟨l,rfl,by rw [hl l (List.mem_of_getElem? hbi)];exact h⟩
 have bx : ∀ {i b},a.bs[i]? = some b→(m.pick a.bs a.ls (s.pick a)).ρ.box i=m.ρ.box b:=λh=>by
  show m.ρ.box (a.bs.getD _ 0)=_
  rw [fZ h]
 have fpx : ∀ {i l},a.ls[i]? = some l→(m.pick a.bs a.ls (s.pick a)).ρ.fp i=m.ρ.fp l:=λh=>by
  show m.ρ.fp (a.ls.getD _ 0)=_
  rw [fZ h]
 refine ⟨?_,?_,inv.zlt,?_,?_,?_,?_,?_,?_,λr h=>h.elim,λ_ _ _ h=>h,λ_ _ _ _ _ h=>h⟩
 ·intro i cs h
  obtain ⟨b,cs0,h1,h2,_⟩:=boxOf h
  exact ⟨(List.getElem?_eq_some_iff.1 h1).1,by rw [fZ h1];exact inv.ub b cs0 h2⟩
 ·intro i o h
  obtain ⟨l,h1,h2⟩:=rowOf h
  exact ⟨(List.getElem?_eq_some_iff.1 h1).1,by rw [fZ h1];exact inv.ul l o h2⟩
 ·intro i cs h
  obtain ⟨b,cs0,h1,h2,rfl⟩:=boxOf h
  obtain ⟨vs,ety,g1,g2,g3,g4⟩:=inv.box b cs0 h2
  refine ⟨vs,ety,by rw [bx h1];exact g1,by simp [g2],g3,λj d v hd hv=>?_⟩
  rw [List.getElem?_map] at hd
  cases hdi : cs0[j]? with
  | none=>rw [hdi] at hd;cases hd
  | some d0=>rw [hdi] at hd;cases hd;exact aLG hl cU (g4 j d0 v hdi hv)
 ·intro i o h
  obtain ⟨l,h1,h2⟩:=rowOf h
  obtain ⟨g1,g2,g3⟩:=inv.row l o h2
  show o.o=m.ρ.ty (a.ls.getD i 0)∧_∧eO m.w m.Z o.o o.c (m.ρ.hdr (a.ls.getD i 0)) (m.ρ.fp (a.ls.getD i 0))
  rw [fZ h1]
  exact ⟨g1,g2,g3⟩
 ·intro i cs h
  obtain ⟨b,cs0,h1,h2,_⟩:=boxOf h
  rw [bx h1]
  exact inv.bz b cs0 h2
 ·intro i cs i' cs' h h' he
  obtain ⟨b,cs0,h1,h2,_⟩:=boxOf h
  obtain ⟨b',cs0',h1',h2',_⟩:=boxOf h'
  rw [bx h1,bx h1'] at he
  have:=inv.bb b cs0 b' cs0' h2 h2' he
  subst this
  have hi:=(List.getElem?_eq_some_iff.1 h1)
  have hi':=(List.getElem?_eq_some_iff.1 h1')
  exact (List.getElem?_inj hi.1 nb).1 (h1.trans h1'.symm)
 ·intro i cs l o h h'
  obtain ⟨b,cs0,h1,h2,_⟩:=boxOf h
  obtain ⟨l0,h1',h2'⟩:=rowOf h'
  rw [bx h1,fpx h1']
  exact inv.bl b cs0 l0 o h2 h2'
 ·intro l o l' o' r h h' hr hr'
  obtain ⟨l0,h1,h2⟩:=rowOf h
  obtain ⟨l0',h1',h2'⟩:=rowOf h'
  rw [fpx h1] at hr
  rw [fpx h1'] at hr'
  have:=inv.ll l0 o l0' o' r h2 h2' hr hr'
  subst this
  have hi:=(List.getElem?_eq_some_iff.1 h1)
  have hi':=(List.getElem?_eq_some_iff.1 h1')
  exact (List.getElem?_inj hi.1 nl).1 (h1.trans h1'.symm)
theorem aFr (inv : sN m) (hb : ∀ b∈a.bs,m.s.box b=s.box b) (hl : ∀ l∈a.ls,m.s.list l=s.list l) (nb : a.bs.Nodup) (nl : a.ls.Nodup) : kC (m.pick a.bs a.ls (s.pick a)) (s.pick a) (s.pick a).base where
 inv:=aUQ inv hb hl nb nl
 box:=λ_=>rfl
 list:=λ_=>rfl
 ub:=λx hx=>by
  have:=hx.1
  show x<a.bs.length+a.ls.length
  omega
 ul:=λx hx=>by
  have:=hx.1
  show x<a.bs.length+a.ls.length
  omega
theorem aRM (hb : ∀ b∈a.bs,m.s.box b=s.box b) (hl : ∀ l∈a.ls,m.s.list l=s.list l) {r : Nat} (h : (m.pick a.bs a.ls (s.pick a)).owned r) : m.owned r:=by
 rcases h with ⟨i,cs,h,rfl⟩ | ⟨l,o,h,hr⟩ | h
 ·have h : (s.pick a).box i=some cs:=h
  rw [aEi] at h
  cases hbi : a.bs[i]? with
  | none=>rw [hbi] at h;cases h
  | some b=>
    rw [hbi] at h
    simp only [Option.bind_some,Option.map_eq_some_iff] at h
    obtain ⟨cs0,h1,h2⟩:=h
    refine .inl ⟨b,cs0,by rw [hb b (List.mem_of_getElem? hbi)];exact h1,?_⟩
    show m.ρ.box (a.bs.getD i 0)=_
    rw [fZ hbi]
 ·have h : (s.pick a).list l=some o:=h
  rw [aCc] at h
  cases hbi : a.ls[l]? with
  | none=>rw [hbi] at h;cases h
  | some l0=>
    rw [hbi] at h
    refine .inr (.inl ⟨l0,o,by rw [hl l0 (List.mem_of_getElem? hbi)];exact h,?_⟩)
    have hr : m.ρ.fp (a.ls.getD l 0) r:=hr
    rw [fZ hbi] at hr
    exact hr
 ·exact h.elim
theorem aI3 (h : ¬ mem x l=true) : x∉l:=λe=>h (xF.2 e)
theorem aGv (h : l.Nodup) (hx : x∉l) : (l++[x]).Nodup:=by
 rw [List.nodup_append]
 exact ⟨h,by simp,λa ha b hb e=>by simp at hb;subst hb;subst e;exact hx ha⟩
theorem lS : ∀ (n : Nat) (ds : List DV) (a : aKd),a.bs.Nodup→a.ls.Nodup→(iA s n ds a).bs.Nodup∧(iA s n ds a).ls.Nodup∧(∃ t,(iA s n ds a).bs=a.bs++t)∧∃ t,(iA s n ds a).ls=a.ls++t
 | 0,_,a,h1,h2=>⟨h1,h2,⟨[],by simp [iA]⟩,⟨[],by simp [iA]⟩⟩
 | _+1,[],a,h1,h2=>⟨h1,h2,⟨[],by simp [iA]⟩,⟨[],by simp [iA]⟩⟩
 | n+1,d::r,a,h1,h2=>by
   unfold iA
   have row : ∀ l,let b:=(if mem l a.ls then iA s n r a else match s.list l with | some _=>iA s n r { a with ls:=a.ls++[l]} | none=>iA s n r a);b.bs.Nodup∧b.ls.Nodup∧(∃ t,b.bs=a.bs++t)∧∃ t,b.ls=a.ls++t:=by
    intro l
    dsimp only
    split
    ·exact lS n r a h1 h2
    ·rename_i hm
     split
     ·obtain ⟨g1,g2,g3,t,g4⟩:=lS n r { a with ls:=a.ls++[l]} h1 (aGv h2 (aI3 hm))
      exact ⟨g1,g2,g3,[l]++t,by rw [g4,List.append_assoc]⟩
     ·exact lS n r a h1 h2
   split
   ·split
    ·exact lS n r a h1 h2
    ·rename_i b _ hm
     split
     ·obtain ⟨g1,g2,⟨t,g3⟩,g4⟩:=lS n _ { a with bs:=a.bs++[b]} (aGv h1 (aI3 hm)) h2
      exact ⟨g1,g2,⟨[b]++t,by rw [g3,List.append_assoc]⟩,g4⟩
     ·exact lS n r a h1 h2
   ·split
    ·exact lS n r a h1 h2
    ·rename_i b _ hm
     split
     ·obtain ⟨g1,g2,⟨t,g3⟩,g4⟩:=lS n _ { a with bs:=a.bs++[b]} (aGv h1 (aI3 hm)) h2
      exact ⟨g1,g2,⟨[b]++t,by rw [g3,List.append_assoc]⟩,g4⟩
     ·exact lS n r a h1 h2
   ·exact row _
   ·exact row _
   ·exact row _
   ·exact lS n _ a h1 h2
   ·exact lS n _ a h1 h2
   ·exact lS n _ a h1 h2
   ·exact lS n r a h1 h2
theorem aNR (nb nl : Nat) (s : St) (roots : List DV) : (mO nb nl s roots).bs.Nodup∧(mO nb nl s roots).ls.Nodup∧(∀ b,b<nb→(mO nb nl s roots).bs[b]? = some b)∧∀ l,l<nl→(mO nb nl s roots).ls[l]? = some l:=by
 obtain ⟨h1,h2,⟨t,h3⟩,⟨t',h4⟩⟩:=lS (s:=s) aAf (aDY s nb++roots) ⟨List.range nb,List.range nl⟩ List.nodup_range List.nodup_range
 refine ⟨h1,h2,λb hb=>?_,λl hl=>?_⟩
 ·show (iA s aAf (aDY s nb++roots) ⟨List.range nb,List.range nl⟩).bs[b]? = _
  rw [h3,List.getElem?_append_left (by simpa using hb),List.getElem?_range hb]
 ·show (iA s aAf (aDY s nb++roots) ⟨List.range nb,List.range nl⟩).ls[l]? = _
  rw [h4,List.getElem?_append_left (by simpa using hl),List.getElem?_range hl]
theorem aLH {base : Nat} (hf : kC m s base) (nb nl : Nat) (h1 : ∀ b,b<nb→a.bs[b]? = some b) (h2 : ∀ l,l<nl→a.ls[l]? = some l) : Fwd m (m.pick a.bs a.ls (s.pick a)) nb nl where
 size:=Nat.le_refl _
 os:=rfl
 tape:=rfl
 output:=rfl
 keep:=λ_ _ _=>rfl
 own:=λr h=>.inl (aRM (λb _=>hf.box b) (λl _=>hf.list l) h)
 z:=λ_ h=>.inl h
 zz:=λ_ h=>h
 box:=λb hb cs hcs=>by
  have hg:=h1 b hb
  refine ⟨?_,⟨(List.getElem?_eq_some_iff.1 hg).1,?_⟩,?_⟩
  ·show m.ρ.box (a.bs.getD b 0)=_
   rw [fZ hg]
  ·rw [fZ hg];exact hf.inv.ub b cs hcs
  ·refine ⟨cs.map (ren (yR · a.bs 0) (yR · a.ls 0) cU),?_⟩
   show (s.pick a).box b=_
   rw [aEi,hg,Option.bind_some,← hf.box b,hcs];rfl
 row:=λl hl hu=>by
  have hg:=h2 l hl
  refine ⟨⟨(List.getElem?_eq_some_iff.1 hg).1,by rw [fZ hg];exact hu⟩,λhv=>⟨?_,?_,?_⟩⟩
  ·have hv : (s.pick a).list l≠none:=hv
   rw [aCc,hg,Option.bind_some,← hf.list l] at hv
   exact hv
  ·show m.ρ.hdr (a.ls.getD l 0)=_
   rw [fZ hg]
  ·show m.ρ.ty (a.ls.getD l 0)=_
   rw [fZ hg]
end
theorem fG.subst {w : World} {Z Z' : NP} {ρ : Loc} {live live' : NP} (C : aDn w w Z Z' ρ ρ live live' (λ_=>False)) {l0 : Nat} {c : PV} (hl0 : live l0) (hc0 : kX w Z' c (ρ.hdr l0)) :
 ∀ (n : Nat) {d : DV} {v : Value},fG w Z ρ live d v→fG w Z' ρ live' (aDZ l0 c n d) v:=by
 have key : ∀ (f : DV→DV),(∀ d v,fG w Z ρ live d v→fG w Z' ρ live' (f d) v)→∀ {d : DV} {v : Value},fG w Z ρ live d v→fG w Z' ρ live' (aOw l0 c f d) v:=by
  intro f hf d v h
  have plain : fG w Z' ρ live' d v:=h.carry C
  cases h with
  | agg ds vs hl hc h=>
    refine .agg _ vs (by simp [hl]) hc (λi d v hd hv=>?_)
    rw [List.getElem?_map] at hd
    cases hdi : ds[i]? with
    | none=>rw [hdi] at hd;cases hd
    | some d0=>rw [hdi] at hd;cases hd;exact hf _ _ (h i d0 v hdi hv)
  | tup ds vs hl h=>
    refine .tup _ vs (by simp [hl]) (λi d v hd hv=>?_)
    rw [List.getElem?_map] at hd
    cases hdi : ds[i]? with
    | none=>rw [hdi] at hd;cases hd
    | some d0=>rw [hdi] at hd;cases hd;exact hf _ _ (h i d0 v hdi hv)
  | fn g ds vs hl h=>
    refine .fn g _ vs (by simp [hl]) (λi d v hd hv=>?_)
    rw [List.getElem?_map] at hd
    cases hdi : ds[i]? with
    | none=>rw [hdi] at hd;cases hd
    | some d0=>rw [hdi] at hd;cases hd;exact hf _ _ (h i d0 v hdi hv)
  | ref l path v hu hc h=>
    unfold aOw
    dsimp only
    split
    ·rename_i hb
     have e:=dH hb
     subst e
     split
     ·have hv : ρ.hdr l0=v:=h hl0
      rw [← hv]
      exact .p _ _ hc0
     ·exact .dead v
    ·exact plain
  | p=>exact plain
  | nils=>exact plain
  | ptr=>exact plain
  | bsl=>exact plain
  | sref=>exact plain
  | eptr=>exact plain
  | fptr=>exact plain
  | bptr=>exact plain
  | gptr=>exact plain
  | nilq=>exact plain
  | dead=>exact plain
 intro n
 induction n with
 | zero=>intro d v h;exact key _ (λ_ _ _=>.dead _) h
 | succ n ih=>intro d v h;exact key _ (λ_ _ h=>ih h) h
def bY.frz (m : bY) (l : Nat) (c : PV) : bY:=
 { m.killF l with s:={ (m.killF l).s with box:=λb=>(m.s.box b).map (·.map (aDZ l c cU))}}
theorem bY.frz_step {m : bY} (inv : sN m) {l n : Nat} {o : tN} (hlo : m.s.list l=some o) : jH m (m.frz l o.c) (aDZ l o.c cU) n:=by
 have hl:=inv.ul l o hlo
 have hdead : ∀ o',(m.frz l o.c).s.list l≠some o':=by intro o' h;simp [bY.frz,bY.killF] at h
 refine jH.row (l:=l) inv ?_ (λb=>rfl) ?_ ⟨rfl,rfl⟩ ?_ (.inl hl) (λo h=>absurd h (hdead o)) ?_ (λo r h=>absurd h (hdead o)) (Nat.le_refl _) rfl rfl rfl (λ_ _ _ _=>rfl)
  (λr h=>.inl h) ?_ ?_ ?_
 ·intro d v h
  refine fG.subst (ρ:=m.ρ) ⟨λr hr=>.inl hr,λ_ _=>rfl,λb hb=>⟨hb,rfl⟩,λl h=>h,λl' hu hv=>⟨?_,rfl,rfl,.inr (.inr λr hr=>⟨hr,rfl⟩)⟩⟩ (bY.live_of hlo) ?_ cU h
  ·unfold Sx.live bY.frz bY.killF at hv
   by_cases e : l'=l
   ·simp [e] at hv
   ·unfold Sx.live;simpa [e] using hv
  ·exact (inv.row l o hlo).2.2.freeze (λr hr=>.inl hr) (λr hr=>.inr ⟨o,hlo,hr⟩)
 ·intro l' hne
  exact ⟨by simp [bY.frz,bY.killF,hne],rfl,rfl,rfl⟩
 ·intro x
  exact ⟨.inl,λh=>h.elim id (λe=>e▸hl)⟩
 ·intro _ hv
  exfalso
  unfold Sx.live at hv
  exact hv (by simp [bY.frz,bY.killF])
 ·rintro r (h | h)
  ·exact .inl h
  ·exact .inr (.inl h)
 ·rintro r (h | ⟨o,h1,h2⟩)
  ·exact inv.zlt r h
  ·exact (inv.row l o h1).2.2.lt r h2
 ·intro r hr
  refine ⟨.inl hr,?_,(inv.Lz r hr).2,λo h=>absurd h (hdead o)⟩
  rintro (h | ⟨o,h1,h2⟩)
  ·exact (inv.Lz r hr).1 h
  ·exact inv.Ll l o r h1 h2 hr
theorem aHJ (l t : Nat) (c : PV) : ∀ (e : gJ),(aHo l c e).get t=aDZ l c cU (e.get t)
 | []=>rfl
 | (t',d)::r=>by
   unfold aHo gJ.get
   rw [aHJ l t c r]
   split<;>rfl
theorem yJ (l b : Nat) (c : PV) : ∀ (r : List (Nat × Option (List DV))),oG b (tP l c r)=(oG b r).map (·.map (aDZ l c cU))
 | []=>rfl
 | (b',some cs)::r=>by
   unfold tP
   rw [gG,gG,yJ l b c r]
   split<;>rfl
 | (b',none)::r=>by
   unfold tP
   rw [gG,gG,yJ l b c r]
   split<;>rfl
theorem aRN {d : DV} {e : gJ} {s : St} {k : gJ→St→OR} {r : R} (h : aPG d e s k=some r) :
 ∃ e' s',k e' s'=some r∧s'.base=s.base∧∀ (m : bY) (a : Act) (nb nl : Nat),kC m s s.base→lI m e.get a→∃ m',m'.w=m.w∧Fwd m m' nb nl∧kC m' s' s'.base∧lI m' e'.get a:=by
 have same : k e s=some r→∃ e' s',k e' s'=some r∧s'.base=s.base∧∀ (m : bY) (a : Act) (nb nl : Nat),kC m s s.base→lI m e.get a→∃ m',m'.w=m.w∧Fwd m m' nb nl∧kC m' s' s'.base∧lI m' e'.get a:=
  λh=>⟨e,s,h,rfl,λm a nb nl hf ht=>⟨m,rfl,Fwd.refl m hf.inv _ _,hf,ht⟩⟩
 unfold aPG at h
 split at h
 ·rename_i l
  split at h
  ·rename_i w hw
   refine ⟨_,_,h,rfl,λm a nb nl hf ht=>?_⟩
   have hml : m.s.list l=some w:=(hf.list l).trans hw
   have st:=bY.frz_step hf.inv (n:=0) hml
   refine ⟨m.frz l w.c,rfl,st.fwd hf.inv _ _,⟨st.inv,λb=>?_,λl'=>?_,hf.ub,hf.ul⟩,λt=>?_⟩
   ·show (m.s.box b).map _=oG b (tP l w.c s.boxes)
    rw [yJ,hf.box b]
    rfl
   ·show (if l'=l then none else m.s.list l')=oG l' ((l,none)::s.lists)
    rw [gG,hf.list l']
    rfl
   ·rw [aHJ]
    exact st.rd _ _ (ht t)
  ·exact same h
 ·exact same h
theorem aCN : ∀ {fs : List (Nat × Option Nat)} {e : gJ} {s : St} {k : gJ→St→OR} {r : R},aK9 fs e s k=some r→
 ∃ e' s',k e' s'=some r∧s'.base=s.base∧∀ (m : bY) (a : Act) (nb nl : Nat),kC m s s.base→lI m e.get a→∃ m',m'.w=m.w∧Fwd m m' nb nl∧kC m' s' s'.base∧lI m' e'.get a
 | [],e,s,k,r,h=>⟨e,s,h,rfl,λm a nb nl hf ht=>⟨m,rfl,Fwd.refl m hf.inv _ _,hf,ht⟩⟩
 | f::fs,e,s,k,r,h=>by
   have go : ∀ {d : DV},aPG d e s (λe s=>aK9 fs e s k)=some r→∃ e' s',k e' s'=some r∧s'.base=s.base∧∀ (m : bY) (a : Act) (nb nl : Nat),kC m s s.base→lI m e.get a→∃ m',m'.w=m.w∧Fwd m m' nb nl∧kC m' s' s'.base∧lI m' e'.get a:=by
    intro d h
    obtain ⟨e1,s1,h1,b1,H1⟩:=aRN h
    obtain ⟨e2,s2,h2,b2,H2⟩:=aCN h1
    refine ⟨e2,s2,h2,b2.trans b1,λm a nb nl hf ht=>?_⟩
    obtain ⟨m1,g1,g2,g3,g4⟩:=H1 m a nb nl hf ht
    obtain ⟨m2,q1,q2,q3,q4⟩:=H2 m1 a nb nl g3 g4
    exact ⟨m2,q1.trans g1,g2.trans q2,q3,q4⟩
   obtain ⟨t,j⟩:=f
   cases j with
   | none=>exact go h
   | some j=>
     unfold aK9 at h
     split at h
     ·split at h
      ·exact go h
      ·exact aCN h
     ·exact aCN h
theorem aEj : ∀ {ts ds : List DV} {s : St} {k : List DV→St→OR} {r : R},aNG s ts ds k=some r→
 ∃ ds' s',k ds' s'=some r∧s'.base=s.base∧ds'.length=ds.length∧∀ (m : bY) (nb nl : Nat) (vs : List Value),kC m s s.base→(∀ (i : Nat) d v,ds[i]? = some d→vs[i]? = some v→m.rd d v)→
   ∃ m',m'.w=m.w∧Fwd m m' nb nl∧kC m' s' s'.base∧(∀ d v,m.rd d v→m'.rd d v)∧(∀ (i : Nat) d v,ds'[i]? = some d→vs[i]? = some v→m'.rd d v)
 | [],ds,s,k,r,h=>by
  have h : k ds s=some r:=by cases ds<;>exact h
  exact ⟨ds,s,h,rfl,rfl,λm nb nl vs hf hr=>⟨m,rfl,Fwd.refl m hf.inv _ _,hf,λ_ _ h=>h,hr⟩⟩
 | t::ts,[],s,k,r,h=>by
   have h : k [] s=some r:=by cases t<;>exact h
   exact ⟨[],s,h,rfl,rfl,λm nb nl vs hf hr=>⟨m,rfl,Fwd.refl m hf.inv _ _,hf,λ_ _ h=>h,hr⟩⟩
 | t::ts,d::ds,s,k,r,h=>by
   have keep : aNG s ts ds (λds s=>k (d::ds) s)=some r→∃ ds' s',k ds' s'=some r∧s'.base=s.base∧ds'.length=(d::ds).length∧∀ (m : bY) (nb nl : Nat) (vs : List Value),kC m s s.base→(∀ (i : Nat) d' v,(d::ds)[i]? = some d'→vs[i]? = some v→m.rd d' v)→
    ∃ m',m'.w=m.w∧Fwd m m' nb nl∧kC m' s' s'.base∧(∀ d v,m.rd d v→m'.rd d v)∧(∀ (i : Nat) d v,ds'[i]? = some d→vs[i]? = some v→m'.rd d v):=by
    intro h
    obtain ⟨ds',s',hk,hb,hl,H⟩:=aEj h
    refine ⟨_,s',hk,hb,by simp [hl],λm nb nl vs hf hr=>?_⟩
    cases vs with
    | nil=>
      obtain ⟨m',g1,g2,g3,g4,g5⟩:=H m nb nl [] hf (λi d v _ h=>by simp at h)
      exact ⟨m',g1,g2,g3,g4,λi d v _ h=>by simp at h⟩
    | cons v vs=>
      obtain ⟨m',g1,g2,g3,g4,g5⟩:=H m nb nl vs hf (λi d u hd hu=>hr (i+1) d u (by simpa using hd) (by simpa using hu))
      refine ⟨m',g1,g2,g3,g4,λi d' u hd hu=>?_⟩
      cases i with
      | zero=>simp at hd hu;subst hd;subst hu;exact g4 _ _ (hr 0 d v rfl rfl)
      | succ i=>exact g5 i d' u (by simpa using hd) (by simpa using hu)
   cases t with
   | p x=>
     unfold aNG at h
     obtain ⟨pv,h1,HS⟩:=aJM h
     obtain ⟨ds',s',hk,hb,hl,H⟩:=aEj h1
     have hbase : ∀ (ls : List Nat) (s : St),(s.killL ls).base=s.base:=by
      intro ls
      induction ls with
      | nil=>intro s;rfl
      | cons a r ih=>intro s;exact ih _
     refine ⟨_,s',hk,hb.trans (hbase _ _),by simp [hl],λm nb nl vs hf hr=>?_⟩
     cases vs with
     | nil=>
       obtain ⟨m1,hd⟩ : ∃ m1,m1=m:=⟨m,rfl⟩
       obtain ⟨m',h1,h2,h3,h4,h5,h6,_⟩:=aRx (n:=0) ((dX cU d).filter λl=>(s.list l).isSome) hf.inv (λl hl=>by
        simp only [List.mem_filter] at hl
        cases hs : s.list l with
        | none=>rw [hs] at hl;simp at hl
        | some o=>exact hf.inv.ul l o ((hf.list l).trans hs))
       have hf' : kC m' (s.killL (dX cU d)) (s.killL (dX cU d)).base:=by
        rw [hbase]
        refine ⟨h1.inv,λb=>?_,λl=>?_,λx hx=>hf.ub x (by rw [← h5];exact hx),λx hx=>hf.ul x (by rw [← h5];exact hx)⟩
        ·rw [h3,zY];exact hf.box b
        ·rw [h4,iC,hf.list l]
         by_cases hin : l∈dX cU d
         ·rw [if_pos hin]
          cases hs : s.list l with
          | none=>simp
          | some o=>rw [if_pos (List.mem_filter.2 ⟨hin,by rw [hs];rfl⟩)]
         ·rw [if_neg hin,if_neg (λh=>hin (List.mem_filter.1 h).1)]
       obtain ⟨m2,g1,g2,g3,g4,g5⟩:=H m' nb nl [] hf' (λi d v _ h=>by simp at h)
       exact ⟨m2,g1.trans h2,(h1.fwd hf.inv _ _).trans g2,g3,λd v hd=>g4 d v (h1.rd d v hd),λi d v _ h=>by simp at h⟩
     | cons v vs=>
       obtain ⟨m',h1,h2,h3,h4,h5,h6,h7⟩:=HS 0 m (λ_=>True) hf.inv (λl _=>hf.list l) (λ_ _=>trivial) v (hr 0 d v rfl rfl)
       have hf' : kC m' (s.killL (dX cU d)) (s.killL (dX cU d)).base:=by
        rw [hbase]
        refine ⟨h1.inv,λb=>?_,λl=>?_,λx hx=>hf.ub x (by rw [← h5];exact hx),λx hx=>hf.ul x (by rw [← h5];exact hx)⟩
        ·rw [h3,zY];exact hf.box b
        ·rw [h4,iC,hf.list l]
       obtain ⟨m2,g1,g2,g3,g4,g5⟩:=H m' nb nl vs hf' (λi d u hd hu=>h1.rd _ _ (hr (i+1) d u (by simpa using hd) (by simpa using hu)))
       refine ⟨m2,g1.trans h2,(h1.fwd hf.inv _ _).trans g2,g3,λd v hd=>g4 d v (h1.rd d v hd),λi d' u hd hu=>?_⟩
       cases i with
       | zero=>simp at hd hu;subst hd;subst hu;exact g4 _ _ (.p _ _ h7)
       | succ i=>exact g5 i d' u (by simpa using hd) (by simpa using hu)
   | _=>exact keep h
variable {f n : Nat} {todo k : List Item} {a : Act} {w w' : World} {Rp : Value → World → Prop} {x : Item} {v : Value} {m : bY} {s : St} {fn : Func}
def aM0 (P : Program) (f : Nat) (todo : List Item) (a : Act) (w : World) (Rp : Value→World→Prop) : Prop:=
 ∀ (b : Frame) (cs : List Frame),b.fn=f→b.kind = .normal→∃ v w' fr,Rp v w'∧Steps P (lone (b.at a todo) cs w) (lone fr cs w')∧fr.fn=f∧fr.leaving P w' (.returned v)
theorem aM0.step {P : Program} {todo' : List Item} {a' : Act}
 (h : ∀ (b : Frame) (cs : List Frame),Steps P (lone (b.at a todo) cs w) (lone (b.at a' todo') cs w')) (k : aM0 P f todo' a' w' Rp) : aM0 P f todo a w Rp:=by
 intro b cs hb hk
 obtain ⟨v,w2,fr,h1,h2,h3,h4⟩:=k b cs hb hk
 exact ⟨v,w2,fr,h1,(h b cs).trans h2,h3,h4⟩
theorem aM0.mono {P : Program} {Rp' : Value→World→Prop} (h : aM0 P f todo a w Rp) (hr : ∀ v w',Rp v w'→Rp' v w') : aM0 P f todo a w Rp':=by
 intro b cs hb hk
 obtain ⟨v,w2,fr,h1,h2⟩:=h b cs hb hk
 exact ⟨v,w2,fr,hr _ _ h1,h2⟩
def aX0 (out : Option eX) (r : R) (v : Value) (m' : bY) : Prop:=match out with
 | none=>∃ pv,r = [pv]∧kX m'.w (λx=>m'.Z x∨m'.owned x) pv v
 | some t=>∃ (d : DV) (s : St) (a : aKd),t.read d (s.pick a)=some r∧m'.rd d v∧kC m' (s.pick a) (s.pick a).base∧(∀ x,m'.ρ.ub x→x<a.bs.length)∧(∀ x,m'.ρ.ul x→x<a.ls.length)
def wN (m : bY) (nb nl : Nat) (out : Option eX) (r : R) (v : Value) (w' : World) : Prop:=∃ m',m'.w=w'∧sN m'∧Fwd m m' nb nl∧aX0 out r v m'
def aWd (P : Program) (f nb nl : Nat) (out : Option eX) (todo : List Item) (e : gJ) (s : St) (r : R) : Prop:=
 ∀ (m : bY) (a : Act) (fn : Func),P.funcs[f]? = some fn→kC m s s.base→lI m e.get a→fn.ntmps≤a.tmps.size→a.defers = []→aM0 P f todo a m.w (wN m nb nl out r)
def aRO (n : Nat) : Item→Prop
 | .code c=>lP n c=true
 | .inLoop c=>lP n c=true
 | .inScope c=>lP n c=true
 | _=>True
def sF (n : Nat) (todo : List Item) : Prop:=∀ x∈todo,aRO n x
section
variable {P : Program} {X : Cx} {O : Orc}
theorem sF.tail (h : sF n (x::k)) : sF n k:=λy hy=>h y (List.mem_cons_of_mem _ hy)
theorem sF.head (h : sF n (x::k)) : aRO n x:=h x List.mem_cons_self
theorem sF.cons (hx : aRO n x) (h : sF n k) : sF n (x::k):=λy hy=>by
 rcases List.mem_cons.1 hy with rfl | hy
 ·exact hx
 ·exact h y hy
theorem aI4 {n id : Nat} : ∀ {k k' : List Item},exitTo id k=some k'→sF n k→sF n k'
 | [],_,h,_=>by simp [exitTo] at h
 | x::k,k',h,hk=>by
   cases x with
   | inBlock id'=>
     unfold exitTo at h
     split at h
     ·cases h;exact hk.tail
     ·exact aI4 h hk.tail
   | _=>exact aI4 (by simpa [exitTo] using h) hk.tail
theorem aOT {l : Nat} : ∀ {c c' : Code},findLabel c l=some c'→lP n c=true→lP n c'=true:=by
 intro c
 induction c with
 | seq a b iha ihb=>
   intro c' h hc
   unfold findLabel at h
   unfold lP at hc
   simp only [Bool.and_eq_true] at hc
   split at h
   ·rename_i rest hr
    cases h
    unfold lP
    simp only [Bool.and_eq_true]
    exact ⟨iha hr hc.1,hc.2⟩
   ·exact ihb h hc.2
 | label l'=>
   intro c' h _
   unfold findLabel at h
   split at h
   ·cases h;rfl
   ·cases h
 | _=>intro c' h _;simp [findLabel] at h
theorem aI5 {n l : Nat} : ∀ {k k' : List Item},gotoIn l k=some k'→sF n k→sF n k'
 | [],_,h,_=>by simp [gotoIn] at h
 | x::k,k',h,hk=>by
   cases x with
   | inScope body=>
     unfold gotoIn at h
     split at h
     ·rename_i rest hr
      cases h
      exact hk.tail.cons (hk.head) |>.cons (aOT hr hk.head)
     ·exact aI5 h hk.tail
   | _=>exact aI5 (by simpa [gotoIn] using h) hk.tail
theorem aRP {t : Nat} {va : Value} (h : (Instr.loadAt t va).run P w = .ok v w') : ∃ ad,va = .pointer (some ad)∧(loadVar t ad).run P w = .ok v w':=by
 unfold Instr.loadAt at h
 rw [Sem.run_bind] at h
 cases va with
 | pointer o=>
   cases o with
   | some ad=>exact ⟨ad,rfl,h⟩
   | none=>simp [Instr.sureAddr] at h
 | _=>simp [Instr.sureAddr] at h
theorem aEk (hT : X.T=aM P) {e : gJ} {s : St} : ∀ {rs : List ResultVar} {k : List DV→OR} {r : R},aAj X e s rs k=some r→
 ∃ ds,k ds=some r∧ds.length=rs.length∧∀ (m : bY) (a : Act) (base : Nat),kC m s base→lI m e.get a→
   ∃ vs,(rs.mapM (λx : ResultVar=>(match x with | .tmp t=>pure (a.tmps.getD t undef) | .cell ad t=>do loadVar t (← asAddr (a.tmps.getD ad undef)) : Sem Value))).run P m.w = .ok vs m.w∧vs.length=ds.length∧∀ (i : Nat) d v,ds[i]? = some d→vs[i]? = some v→m.rd d v
 | [],k,r,h=>⟨[],h,rfl,λm a base _ _=>⟨[],rfl,rfl,λi d v hd=>by simp at hd⟩⟩
 | x::rs,k,r,h=>by
   have go : ∀ {d : DV},aAj X e s rs (λds=>k (d::ds))=some r→(∀ (m : bY) (a : Act) (base : Nat),kC m s base→lI m e.get a→
    ∃ v,((match x with | .tmp t=>pure (a.tmps.getD t undef) | .cell ad t=>do loadVar t (← asAddr (a.tmps.getD ad undef)) : Sem Value)).run P m.w = .ok v m.w∧m.rd d v)→
    ∃ ds,k ds=some r∧ds.length=(x::rs).length∧∀ (m : bY) (a : Act) (base : Nat),kC m s base→lI m e.get a→
      ∃ vs,((x::rs).mapM (λx : ResultVar=>(match x with | .tmp t=>pure (a.tmps.getD t undef) | .cell ad t=>do loadVar t (← asAddr (a.tmps.getD ad undef)) : Sem Value))).run P m.w = .ok vs m.w∧vs.length=ds.length∧∀ (i : Nat) d v,ds[i]? = some d→vs[i]? = some v→m.rd d v:=by
    intro d h H
    obtain ⟨ds,hk,hl,H2⟩:=aEk hT h
    refine ⟨d::ds,hk,by simp [hl],λm a base hf ht=>?_⟩
    obtain ⟨v,hv,hd⟩:=H m a base hf ht
    obtain ⟨vs,hvs,hl2,hds⟩:=H2 m a base hf ht
    refine ⟨v::vs,?_,by simp [hl2],λi d' v' h1 h2=>?_⟩
    ·rw [List.mapM_cons,Sem.run_bind,hv,Result.andThen_ok,Sem.run_bind,hvs,Result.andThen_ok];rfl
    ·cases i with
     | zero=>simp at h1 h2;subst h1;subst h2;exact hd
     | succ i=>exact hds i d' v' (by simpa using h1) (by simpa using h2)
   cases x with
   | tmp t=>
     unfold aAj at h
     split at h
     ·cases h
     ·exact go h (λm a base hf ht=>⟨_,rfl,ht t⟩)
   | cell ad t=>
     unfold aAj at h
     obtain ⟨d,h',H⟩:=aJL hT h
     refine go h' (λm a base hf ht=>?_)
     obtain ⟨v,hv,hd⟩:=H m hf.inv (λb _=>hf.box b) (λl _=>hf.list l) _ (ht ad)
     obtain ⟨adr,hadr,hld⟩:=aRP hv
     have hadr : a.tmps.getD ad undef = .pointer (some adr):=hadr
     refine ⟨v,?_,hd⟩
     simp only [hadr]
     rw [Sem.run_bind]
     simpa [asAddr] using hld
theorem aP7 {ds : List DV} {vs : List Value} (hl : vs.length=ds.length) (h : ∀ (i : Nat) d v,ds[i]? = some d→vs[i]? = some v→m.rd d v) :
 m.rd (aB4 ds) (if h : vs.toArray.size=1 then vs.toArray[0] else .tuple vs.toArray):=by
 match ds,vs,hl with
 | [d],[v],_=>simpa [aB4] using h 0 d v rfl rfl
 | [],[],_=>exact .tup [] [] rfl (λi d v h=>by simp at h)
 | d1::d2::ds,v1::v2::vs,hl=>
   have : ¬ ((v1::v2::vs).toArray.size=1):=by simp
   rw [dif_neg this]
   exact .tup _ _ (by simpa using hl.symm) h
theorem aWe {base : Nat} (hf : kC m s base) : May m s (λ_=>True) (λ_=>True):=
 ⟨λb _=>hf.box b,λl _=>hf.list l,λ_ _ _ _ _ _=>⟨λ_ _=>trivial,λ_ _=>trivial⟩⟩
theorem aNS {β : Type} {c : PV} {a b : Option β} {r : β} (h : cC c a b=some r) : (c = .lst []→a=some r)∧b=some r:=by
 cases c with
 | lst xs=>
   cases xs with
   | nil=>
     have h : @ite _ (a=b) (Classical.propDecidable _) a none=some r:=h
     by_cases he : a=b
     ·rw [if_pos he] at h
      exact ⟨λ_=>h,he▸h⟩
     ·rw [if_neg he] at h
      cases h
   | cons x xs=>exact ⟨λh'=>(by cases h'),h⟩
 | _=>cases h
theorem aF8 (hT : X.T=aM P) (hfn : P.funcs[f]? = some fn) (hres : X.res=fn.results.toList) {e : gJ} {r : R} (h : aKP X e s=some r) :
 ∀ (m : bY) (a : Act),kC m s s.base→lI m e.get a→a.defers = []→∃ v,(results fn a.tmps).run P m.w = .ok v m.w∧wN m X.nb X.nl X.out r v m.w:=by
 unfold aKP at h
 obtain ⟨ds,hk,_,H⟩:=aEk hT h
 intro m a hf ht hd
 obtain ⟨vs,hvs,hl,hrd⟩:=H m a s.base hf ht
 have hone:=aP7 hl hrd
 refine ⟨(if h : vs.toArray.size=1 then vs.toArray[0] else .tuple vs.toArray),?_,?_⟩
 ·unfold results
  rw [Sem.run_bind,Array.mapM_eq_mapM_toList,← hres]
  have : ((List.toArray <$> X.res.mapM (λx : ResultVar=>(match x with | .tmp t=>pure (a.tmps.getD t undef) | .cell ad t=>do loadVar t (← asAddr (a.tmps.getD ad undef)) : Sem Value)) : Sem (Array Value))).run P m.w = .ok vs.toArray m.w:=by
   rw [map_eq_pure_bind,Sem.run_bind,hvs,Result.andThen_ok];rfl
  refine (congrArg (λq : Result (Array Value)=>q.andThen λvs w'=>(pure (if h : vs.size=1 then vs[0] else .tuple vs) : Sem Value).run P w') this).trans ?_
  rw [Result.andThen_ok]
  rfl
 ·split at hk
  ·rename_i hout
   obtain ⟨pv,hk',HS⟩:=aA5 cU (Nat.le_refl _) hk
   cases hk'
   have:=HS m (λx=>m.Z x∨m.owned x) _ _ hf.inv (aWe hf) ⟨λ_ _=>trivial,λ_ _=>trivial⟩ (.inl λr hr=>.inr hr) (λr hr=>.inl hr) _ hone
   refine ⟨m,rfl,hf.inv,Fwd.refl m hf.inv _ _,?_⟩
   rw [hout]
   exact ⟨pv,rfl,this⟩
  ·rename_i t hout
   obtain ⟨ds2,s2,hk,hbase,hl2,HL⟩:=aEj hk
   obtain ⟨m2,w2,fw2,hf2,_,hrd2⟩:=HL m X.nb X.nl vs hf hrd
   replace hone:=aP7 (hl.trans hl2.symm) hrd2
   have sa:=aNR X.nb X.nl s2 [aB4 ds2]
   have hb : ∀ b∈(mO X.nb X.nl s2 [aB4 ds2]).bs,m2.s.box b=s2.box b:=λb _=>hf2.box b
   have hl' : ∀ l∈(mO X.nb X.nl s2 [aB4 ds2]).ls,m2.s.list l=s2.list l:=λl _=>hf2.list l
   have pf:=aFr (a:=mO X.nb X.nl s2 [aB4 ds2]) hf2.inv hb hl' sa.1 sa.2.1
   refine ⟨m2.pick (mO X.nb X.nl s2 [aB4 ds2]).bs (mO X.nb X.nl s2 [aB4 ds2]).ls (s2.pick (mO X.nb X.nl s2 [aB4 ds2])),w2,pf.inv,fw2.trans (aLH hf2 _ _ sa.2.2.1 sa.2.2.2),?_⟩
   rw [hout]
   exact ⟨_,s2,mO X.nb X.nl s2 [aB4 ds2],hk,aLG hl' cU hone,pf,λx hx=>hx.1,λx hx=>hx.1⟩
theorem aP8 (hfn : P.funcs[f]? = some fn) (hd : a.defers = [])
 (hstep : ∀ (b : Frame) (cs : List Frame),step P (lone (b.at a todo) cs w) = .next (lone { b.at a todo with mode:=.returning} cs w)) (hv : (results fn a.tmps).run P w = .ok v w) (hR : Rp v w) : aM0 P f todo a w Rp:=by
 intro b cs hb hk
 exact ⟨v,w,_,hR,.one (hstep b cs),hb,rfl,hd,hk,fn,by show P.funcs[b.fn]? = _;rw [hb];exact hfn,hv⟩
theorem aLI (hT : X.T=aM P) (hz : qC P X.zok) (hg : ∀ g,X.glob g=none) (hC : aHH P X O) (hm : P.follows .mixedOrders=true) {f : Nat} {fn : Func} (hfn : P.funcs[f]? = some fn) (hres : X.res=fn.results.toList)
 (hL : ∀ todo e s r,O.L todo e s=some r→sF fn.ntmps todo→aWd P f X.nb X.nl X.out todo e s r) :
 ∀ (n : Nat) (first : Bool) (todo : List Item) (e : gJ) (s : St) (r : R),eval X O n first todo e s=some r→sF fn.ntmps todo→aWd P f X.nb X.nl X.out todo e s r
 | 0,_,_,_,_,_,h,_=>by simp [eval] at h
 | n+1,first,todo,e,s,r,h,hok=>by
   have ih:=λfirst todo e s r h hk=>aLI hT hz hg hC hm hfn hres hL n first todo e s r h hk
   intro m a fn' hfn' hf ht hsz hd
   rw [hfn] at hfn'
   cases hfn'
   unfold eval at h
   match todo,hok with
   | [],_=>
    obtain ⟨v,h1,h2⟩:=aF8 hT hfn hres h m a hf ht hd
    exact aP8 hfn hd (λb cs=>step_end) h1 h2
   | .inBlock id::k,hok=>exact .step (λb cs=>.one step_inBlock) (ih _ _ _ _ _ h hok.tail m a fn hfn hf ht hsz hd)
   | .inScope c::k,hok=>
    exact .step (λb cs=>.one (step_lone_go (by simp [stepG,stepG.exec,Frame.at]))) (ih _ _ _ _ _ h hok.tail m a fn hfn hf ht hsz hd)
   | .inLoop c::k,hok=>exact .step (λb cs=>.one step_inLoop) (ih _ _ _ _ _ h (hok.cons hok.head) m a fn hfn hf ht hsz hd)
   | .code c::k,hok=>
    have hc : lP fn.ntmps c=true:=hok.head
    have hk:=hok.tail
    cases c with
    | ret=>
      obtain ⟨v,h1,h2⟩:=aF8 hT hfn hres h m a hf ht hd
      exact aP8 hfn hd (λb cs=>step_ret) h1 h2
    | skip=>exact .step (λb cs=>.one step_skip) (ih _ _ _ _ _ h hk m a fn hfn hf ht hsz hd)
    | label l=>exact .step (λb cs=>.one step_label) (ih _ _ _ _ _ h hk m a fn hfn hf ht hsz hd)
    | seq x y=>
      unfold lP at hc
      simp only [Bool.and_eq_true] at hc
      exact .step (λb cs=>.one step_seq) (ih _ _ _ _ _ h ((hk.cons (x:=.code y) hc.2).cons (x:=.code x) hc.1) m a fn hfn hf ht hsz hd)
    | block id x=>
      unfold lP at hc
      exact .step (λb cs=>.one step_block) (ih _ _ _ _ _ h ((hk.cons (x:=.inBlock id) trivial).cons (x:=.code x) hc) m a fn hfn hf ht hsz hd)
    | loop x=>
      unfold lP at hc
      exact .step (λb cs=>.one step_loop) (ih _ _ _ _ _ h ((hk.cons (x:=.inLoop x) hc).cons (x:=.code x) hc) m a fn hfn hf ht hsz hd)
    | scope x=>
      unfold lP at hc
      exact .step (λb cs=>.one (step_lone_go (by simp [stepG,stepG.exec,Frame.at]))) (ih _ _ _ _ _ h ((hk.cons (x:=.inScope x) hc).cons (x:=.code x) hc) m a fn hfn hf ht hsz hd)
    | exit id=>
      simp only at h
      split at h
      ·rename_i k' hk'
       exact .step (λb cs=>.one (step_exit hk')) (ih _ _ _ _ _ h (aI4 hk' hk) m a fn hfn hf ht hsz hd)
      ·cases h
    | goto l=>
      simp only at h
      split at h
      ·rename_i k' hk'
       exact .step (λb cs=>.one (step_goto hk')) (ih _ _ _ _ _ h (aI5 hk' hk) m a fn hfn hf ht hsz hd)
      ·cases h
    | cond c x y=>
      unfold lP at hc
      simp only [Bool.and_eq_true] at hc
      simp only at h
      split at h
      ·rename_i v neg hv
       have hval:=aUP hg (X:=X) (m:=m) (e:=e) (a:=a) (x:=c) (λt ht'=>ht t)
       rw [hv] at hval
       obtain ⟨b,hb,hn⟩ : ∃ b,a.eval c = .bool b∧((b != neg)=true→v = .lst []):=by
        cases hv' : a.eval c<;>rw [hv'] at hval<;>cases hval
        exact ⟨_,rfl,by assumption⟩
       obtain ⟨q1,q2⟩:=aNS h
       have hgo : eval X O n false (.code (if b then x else y)::k) e s=some r:=by
        cases hbn : (b != neg) with
        | true=>
          have:=q1 (hn hbn)
          cases b<;>cases neg<;>simp_all
        | false=>cases b<;>cases neg<;>simp_all
       exact .step (λbb cs=>.one (step_cond hb)) (ih _ _ _ _ _ hgo (hk.cons (x:=.code (if b then x else y)) (by cases b;exact hc.2;exact hc.1)) m a fn hfn hf ht hsz hd)
      rotate_left
      ·cases h
      rename_i v hv
      have hval : ∀ b : Bool,v = .bool b→a.eval c = .bool b:=by
       intro b hb
       have:=aUP hg (X:=X) (m:=m) (e:=e) (a:=a) (x:=c) (λt ht'=>ht t)
       rw [hv,hb] at this
       cases this with
       | p _ _ h=>exact h.bool_inv
      have go : ∀ (b : Bool) (e' : gJ),v = .bool b→(∀ t,e'.get t=e.get t)→eval X O n false (.code (if b then x else y)::k) e' s=some r→aM0 P f (.code (.cond c x y)::k) a m.w (wN m X.nb X.nl X.out r):=by
       intro b e' hb he' h
       refine .step (λbb cs=>.one (step_cond (hval b hb))) (ih _ _ _ _ _ h (hk.cons (x:=.code (if b then x else y)) (by cases b;exact hc.2;exact hc.1)) m a fn hfn hf ?_ hsz hd)
       intro t
       rw [he' t]
       exact ht t
      split at h
      ·rename_i t
       have hv : e.get t = .p v:=hv
       rcases aB8 h with ⟨rfl,h'⟩ | ⟨rfl,h'⟩
       ·exact go true _ rfl (aCb t _ e hv) h'
       ·exact go false _ rfl (aCb t _ e hv) h'
      ·rcases aB8 h with ⟨rfl,h'⟩ | ⟨rfl,h'⟩
       ·exact go true e rfl (λ_=>rfl) h'
       ·exact go false e rfl (λ_=>rfl) h'
    | region id ops draw=>
      unfold lP at hc
      simp only at h
      obtain ⟨e,s,h,hbase,HF⟩:=aCN h
      obtain ⟨m0,hm0,fw0,hf,ht⟩:=HF m a X.nb X.nl hf ht
      rw [← hm0]
      refine aM0.mono (Rp:=wN m0 X.nb X.nl X.out r) ?_ (λv w' ⟨m',h1,h2,h3,h4⟩=>⟨m',h1,h2,fw0.trans h3,h4⟩)
      clear fw0 HF hbase
      clear hm0
      revert hf ht
      generalize m0=m
      intro hf ht
      split at h
      ·rename_i keep hcut _
       have sa:=aNR X.nb X.nl s (tB e keep)
       have hb : ∀ b∈(mO X.nb X.nl s (tB e keep)).bs,m.s.box b=s.box b:=λb _=>hf.box b
       have hl' : ∀ l∈(mO X.nb X.nl s (tB e keep)).ls,m.s.list l=s.list l:=λl _=>hf.list l
       have pf:=aFr (a:=mO X.nb X.nl s (tB e keep)) hf.inv hb hl' sa.1 sa.2.1
       have fw:=aLH (a:=mO X.nb X.nl s (tB e keep)) hf X.nb X.nl sa.2.2.1 sa.2.2.2
       refine (hL _ _ _ _ h hok _ a fn hfn pf ?_ hsz hd).mono ?_
       ·have key : ∀ (ts : List Nat) (t : Nat),(m.pick (mO X.nb X.nl s (tB e keep)).bs (mO X.nb X.nl s (tB e keep)).ls (s.pick (mO X.nb X.nl s (tB e keep)))).rd ((aKM e (yR · (mO X.nb X.nl s (tB e keep)).bs 0) (yR · (mO X.nb X.nl s (tB e keep)).ls 0) ts).get t) (a.eval (.tmp t)):=by
         intro ts
         induction ts with
         | nil=>intro t;exact .dead _
         | cons t0 ts ih=>
           intro t
           unfold aKM
           simp only [gJ.get]
           split
           ·rename_i h0
            rw [dH h0]
            exact aLG hl' cU (ht t0)
           ·exact ih t
        exact key keep
       ·rintro v w' ⟨m',h1,h2,h3,h4⟩
        exact ⟨m',h1,h2,fw.trans h3,h4⟩
      ·obtain ⟨e',s',hk',H⟩:=aOS (id:=id) hT hz hg hC hm hc h
       intro b cs hb hkind
       have hw:=H (λm'=>sN m'∧Fwd m m' X.nb X.nl) (λm1 m2 scr n hI hinv st=>⟨st.inv,hI.2.trans (st.fwd hinv _ _)⟩) m a hf ht hsz (λw' hw'=>by
        subst hw'
        have hz' : ∀ r,m.Z r→r<m.w.heap.size:=hf.inv.zlt.lt
        have st:=bY.grow_step hf.inv (n:=0) (w':={ m.w with drawn:=m.w.drawn+1}) (Z':=m.Z) (λ_ _=>rfl) (Nat.le_refl _) rfl rfl rfl (λ_ h=>h) (λr hr=>.inl hr)
        exact ⟨m.grow { m.w with drawn:=m.w.drawn+1} m.Z,rfl,⟨st.inv,st.fwd hf.inv _ _⟩,⟨st.inv,hf.box,hf.list,hf.ub,hf.ul⟩,λt=>st.rd _ _ (ht t)⟩) ⟨hf.inv,Fwd.refl m hf.inv _ _⟩
       obtain ⟨ex,a',w',⟨rfl,m',rfl,hI,hf',ht',hsz',hd'⟩,harr⟩:=hw b k cs
       obtain ⟨v,w2,fr,g1,g2,g3,g4⟩:=ih _ _ _ _ _ hk' hk m' a' fn hfn hf' ht' hsz' (hd'.trans hd) b cs hb hkind
       refine ⟨v,w2,fr,?_,Steps.trans harr g2,g3,g4⟩
       obtain ⟨m2,q1,q2,q3,q4⟩:=g1
       exact ⟨m2,q1,q2,hI.2.trans q3,q4⟩
    | _=>simp at h
   | .inRegion ops l::k,_=>simp at h
end
variable {s : St} {ds args : List DV} {wr : Bool} {m : bY} {r : R}
def pW (P : Program) (g : Nat) : Prop:=∃ fn c,P.funcs[g]? = some fn∧fn.body=some c∧fn.name≠ "runtime.NumGoroutine"
theorem aHK {P : Program} {g : Nat} (h : pW P g) (vs : Array Value) (w : World) : (callFunc g vs).run P w = .ok (.enter g vs) w:=by
 obtain ⟨fn,c,h1,h2,h3⟩:=h
 simp [callFunc,h1,h2,h3]
structure aHL (w w' : World) (Z Z' : NP) : Prop where
 size : w.heap.size≤w'.heap.size
 os : w'.os=w.os
 tape : w'.tape=w.tape
 output : w'.output=w.output
 old : ∀ r,r<w.heap.size→w'.heap[r]? = w.heap[r]?
 zz : ∀ r,Z r→Z' r
 z : ∀ r,Z' r→Z r∨(w.heap.size≤r∧r<w'.heap.size)
def aI6 (P : Program) (C : Nat→R→OR) : Prop:=∀ g args r,C g args=some r→pW P g∧∀ (w : World) (Z : NP) (bI : Array Value),ZOk w Z→args.length=bI.size→
 (∀ (i : Nat) x v,args[i]? = some x→bI[i]? = some v→kX w Z x v)→Calls P g bI w (λe w'=>∃ v,e = .returned v∧∃ Z',aHL w w' Z Z'∧kX w' Z' (hd r) v)
section
variable {P : Program} {X : Cx} {O : Orc}
theorem aLJ {x : Nat} : ∀ {l : List Nat},x∈aRu l↔x∈l
 | []=>by simp [aRu]
 | y::r=>by
   unfold aRu
   split
   ·rename_i h
    rw [aLJ]
    have:=xF.1 h
    constructor
    ·intro h;exact List.mem_cons_of_mem _ h
    ·intro h
     rcases List.mem_cons.1 h with rfl | h
     ·exact this
     ·exact h
   ·rw [List.mem_cons,List.mem_cons,aLJ]
theorem aOU (hok : (eD s ds wr).ok=true) (hb : ∀ b∈(eD s ds wr).rb,m.s.box b=s.box b) (hl : ∀ l∈(eD s ds wr).rl,m.s.list l=s.list l) :
 May m s (λb=>b∈(eD s ds wr).rb) (λl=>l∈(eD s ds wr).rl)∧∀ d∈ds,uY (λb=>b∈(eD s ds wr).rb) (λl=>l∈(eD s ds wr).rl) cU d:=by
 have hrb : (eD s ds wr).rb=(iA s aAf ds ⟨[],[]⟩).bs:=by unfold eD;cases wr<;>rfl
 have hrl : (eD s ds wr).rl=aRu ((iA s aAf ds ⟨[],[]⟩).ls++(aKN s ds (iA s aAf ds ⟨[],[]⟩)).flatMap (dX cU)):=by unfold eD;cases wr<;>rfl
 have hok : (aKN s ds (iA s aAf ds ⟨[],[]⟩)).all (λd=>(pT cU d).all λb=>mem b (iA s aAf ds ⟨[],[]⟩).bs)=true:=by
  rw [← hok];unfold eD;cases wr<;>rfl
 have names : ∀ d∈aKN s ds (iA s aAf ds ⟨[],[]⟩),uY (λb=>b∈(eD s ds wr).rb) (λl=>l∈(eD s ds wr).rl) cU d:=by
  intro d hd
  refine ⟨λb hb=>?_,λl hl=>?_⟩
  ·show b∈(eD s ds wr).rb
   rw [hrb]
   rw [List.all_eq_true] at hok
   have:=hok d hd
   rw [List.all_eq_true] at this
   exact xF.1 (this b hb)
  ·show l∈(eD s ds wr).rl
   rw [hrl]
   exact aLJ.2 (List.mem_append_right _ (List.mem_flatMap.2 ⟨d,hd,hl⟩))
 refine ⟨⟨hb,hl,λb cs hB hcs d hd=>names d ?_⟩,λd hd=>names d (List.mem_append_left _ hd)⟩
 refine List.mem_append_right _ (List.mem_flatMap.2 ⟨b,by rw [← hrb];exact hB,?_⟩)
 rw [hcs]
 exact hd
def aKS (m : bY) (s : St) (args : List DV) : Prop:=∃ B L,May m s B L∧∀ d∈args,uY B L cU d
theorem aOV {B L WB WL : NP} {n : Nat} (sit : tT m s B L n) (C : (eD s ds wr).Cov B L WB WL) (hok : (eD s ds wr).ok=true∨∀ x,B x∧L x) : aKS m s ds:=by
 rcases hok with hok | hall
 ·exact ⟨_,_,aOU hok (λb hb=>sit.ab b (.inl (C.rb b hb))) (λl hl=>sit.al l (.inl (C.rl l hl)))⟩
 ·exact ⟨λ_=>True,λ_=>True,⟨λb _=>sit.ab b (.inl (hall b).1),λl _=>sit.al l (.inl (hall l).2),λ_ _ _ _ _ _=>⟨λ_ _=>trivial,λ_ _=>trivial⟩⟩,λ_ _=>⟨λ_ _=>trivial,λ_ _=>trivial⟩⟩
theorem aEl : ∀ (n : Nat) {d : DV},aHr n d=false→pT n d = []∧dX n d = []
 | 0,d,h=>by cases d<;>simp [aHr] at h<;>simp [pT,dX]
 | n+1,d,h=>by
   have sub : ∀ {cs : List DV},cs.any (aHr n)=false→cs.flatMap (pT n) = []∧cs.flatMap (dX n) = []:=by
    intro cs hc
    rw [List.any_eq_false] at hc
    constructor<;>rw [List.flatMap_eq_nil_iff]<;>intro d hd
    ·exact (aEl n (by simpa using hc d hd)).1
    ·exact (aEl n (by simpa using hc d hd)).2
   cases d<;>simp only [aHr] at h<;>first | (cases h;done) | skip
   all_goals first
    | exact ⟨rfl,rfl⟩
    | exact sub h
theorem aBa {k : R→OR} (h : aDk s cU args k=some r) :
 ∃ ps,k ps=some r∧ps.length=args.length∧∀ (m : bY) (Z' : NP),sN m→aKS m s args→((∀ r,m.owned r→Z' r)∨∀ d∈args,pT cU d = []∧dX cU d = [])→(∀ r,m.Z r→Z' r)→
   ∀ (vs : Array Value),args.length=vs.size→(∀ (i : Nat) d v,args[i]? = some d→vs[i]? = some v→m.rd d v)→∀ (i : Nat) x v,ps[i]? = some x→vs[i]? = some v→kX m.w Z' x v:=by
 unfold aDk at h
 obtain ⟨ps,hk,hl,H⟩:=aGs (T:=λd pv=>∀ (m : bY) (Z' : NP) (B L : NP),sN m→May m s B L→uY B L cU d→aOI m Z' cU d→(∀ r,m.Z r→Z' r)→∀ v,m.rd d v→kX m.w Z' pv v)
  (λa k r h=>aA5 cU (Nat.le_refl _) h) h
 refine ⟨ps,hk,by omega,λm Z' inv ⟨B,L,hm,hn⟩ hF hz vs hvl hrd i x v hx hv=>?_⟩
 have hi : i<args.length:=by have:=(List.getElem?_eq_some_iff.1 hx).1;omega
 have hd : args[i]? = some args[i]:=List.getElem?_eq_getElem hi
 refine H i args[i] x hd hx m Z' B L inv hm (hn _ (List.getElem_mem hi)) ?_ hz v (hrd i _ v hd hv)
 rcases hF with hF | hF
 ·exact .inl hF
 ·obtain ⟨h1,h2⟩:=hF _ (List.getElem_mem hi)
  exact .inr ⟨h1,λl hl=>by rw [h2] at hl;cases hl⟩
theorem kX.flat {w w' : World} {Z Z' : NP} {x : PV} {v : Value} (h : kX w Z x v) (hf : x.flat=true) : kX w' Z' x v:=by
 have cells : ∀ {cs : R},(cs.all λ| .bool _ | .int .. | .str _ | .nil | .nilf=>true | _=>false)=true→∀ (i : Nat) c,cs[i]? = some c→(∃ b,c = .bool b)∨(∃ k n,c = .int k n)∨(∃ s,c = .str s)∨c = .nil∨c = .nilf:=by
  intro cs hc i c hi
  rw [List.all_eq_true] at hc
  have:=hc c (List.mem_of_getElem? hi)
  cases c<;>simp at this<;>simp
 have leaf : ∀ {c : PV} {v : Value},((∃ b,c = .bool b)∨(∃ k n,c = .int k n)∨(∃ s,c = .str s)∨c = .nil∨c = .nilf)→kX w Z c v→kX w' Z' c v:=by
  intro c v hc hr
  rcases hc with ⟨b,rfl⟩ | ⟨k,n,rfl⟩ | ⟨s,rfl⟩ | rfl | rfl
  ·cases hr;exact .bool _
  ·cases hr;exact .int _ _
  ·cases hr;exact .str _
  ·cases hr;exact .nil
  ·cases hr;exact .nilf
 cases h with
 | bool b=>exact .bool b
 | int k n=>exact .int k n
 | str s=>exact .str s
 | nil=>exact .nil
 | nilf=>exact .nilf
 | agg cs vs hl hc hr=>exact .agg cs vs hl hc (λi c v hci hv=>leaf (cells hf i c hci) (hr i c v hci hv))
 | tup cs vs hl hr=>
   refine .tup cs vs hl (λi c v hci hv=>?_)
   have hf : cs.all PV.flatA=true:=hf
   rw [List.all_eq_true] at hf
   have h1:=hf c (List.mem_of_getElem? hci)
   have h2:=hr i c v hci hv
   cases c with
   | agg ds=>cases h2 with | agg _ vs hl hc hr=>exact .agg ds vs hl hc (λi c v hci hv=>leaf (cells h1 i c hci) (hr i c v hci hv))
   | bool b=>exact leaf (.inl ⟨b,rfl⟩) h2
   | int k n=>exact leaf (.inr (.inl ⟨k,n,rfl⟩)) h2
   | str s=>exact leaf (.inr (.inr (.inl ⟨s,rfl⟩))) h2
   | nil=>exact leaf (.inr (.inr (.inr (.inl rfl)))) h2
   | nilf=>exact leaf (.inr (.inr (.inr (.inr rfl)))) h2
   | _=>simp [PV.flatA] at h1
 | hole=>simp [PV.flat] at hf
 | fn=>simp [PV.flat] at hf
 | empty=>simp [PV.flat] at hf
 | lst=>simp [PV.flat] at hf
 | bx=>simp [PV.flat] at hf
theorem aEm {β : Type} {r : PV} {k : Option β} {x : β} (h : aE r k=some x) : r.flat=true∧k=some x:=by
 unfold aE at h
 split at h
 ·rename_i hf;exact ⟨hf,h⟩
 ·cases h
theorem aP9 {C : R→OR} {f : Nat} {caps : R} (hP : ∀ ps r,C ps=some r→pW P f∧∀ (w : World) (Z : NP) (bI us : Array Value),ZOk w Z→ps.length=bI.size→
 (∀ (i : Nat) x v,ps[i]? = some x→bI[i]? = some v→kX w Z x v)→caps.length=us.size→(∀ (i : Nat) x v,caps[i]? = some x→us[i]? = some v→kX w Z x v)→
 Calls P f (bI++us) w (λe w'=>∃ v,e = .returned v∧∃ Z',aHL w w' Z Z'∧kX w' Z' (hd r) v))
 {k : DV→St→OR}
   (h : (if args.any (aHr cU) then aDk s cU args λvs=>bd (C vs) λr=>aE (hd r) (k (.p (hd r)) s) else aDk s cU args λvs=>bd (C vs) λr=>k (.p (hd r)) s)=some r) :
   pW P f∧∃ d',k d' s=some r∧∀ (n : Nat) (m : bY) (B L WB WL : NP),tT m s B L n→aKS m s args→∀ vs us : Array Value,args.length=vs.size→(∀ (i : Nat) d v,args[i]? = some d→vs[i]? = some v→m.rd d v)→
    caps.length=us.size→(∀ (i : Nat) x v,caps[i]? = some x→us[i]? = some v→kX m.w m.Z x v)→
    Calls P f (vs++us) m.w (λe w'=>∃ v,e = .returned v∧∃ m',m'.w=w'∧dF m m' s s B L WB WL n id∧m'.rd d' v):=by
  split at h
  ·obtain ⟨ps,h1,hl,H⟩:=aBa h
   obtain ⟨r0,hr0,h2⟩:=bH h1
   obtain ⟨hfl,hk⟩:=aEm h2
   obtain ⟨hcb,HC⟩:=hP ps r0 hr0
   refine ⟨hcb,_,hk,λn m B L WB WL sit hM vs us hvl hrd hul hur=>?_⟩
   have hreps:=H m (λx=>m.Z x∨m.owned x) sit.inv hM (.inl λr hr=>.inr hr) (λr hr=>.inl hr) vs hvl hrd
   refine (HC m.w (λx=>m.Z x∨m.owned x) vs us (sit.inv.zlt.next (λ_ h=>.inl h) (λ_ _=>rfl) λz hz=>hz.elim (sit.inv.zlt z) (λh=>sit.inv.owned_lt h)) (by omega) hreps hul (λi x v hx hv=>(hur i x v hx hv).mono (λ_ h=>.inl h) (λ_ _=>rfl))).mono ?_
   rintro e w' ⟨v,rfl,Z',pe,hrep⟩
   refine ⟨v,rfl,m.grow w' m.Z,rfl,dF.grow WB WL sit pe.old pe.size pe.os pe.tape pe.output (λ_ h=>h) (λr h=>.inl h),?_⟩
   exact .p _ _ (hrep.flat hfl)
  ·rename_i hlv
   have hlv : args.any (aHr cU)=false:=by simpa using hlv
   obtain ⟨ps,h1,hl,H⟩:=aBa h
   obtain ⟨r0,hr0,hk⟩:=bH h1
   obtain ⟨hcb,HC⟩:=hP ps r0 hr0
   refine ⟨hcb,_,hk,λn m B L WB WL sit hM vs us hvl hrd hul hur=>?_⟩
   have hreps:=H m m.Z sit.inv hM (.inr λd hd=>by
    rw [List.any_eq_false] at hlv
    exact aEl cU (by simpa using hlv d hd)) (λr hr=>hr) vs hvl hrd
   refine (HC m.w m.Z vs us sit.inv.zlt (by omega) hreps hul hur).mono ?_
   rintro e w' ⟨v,rfl,Z',pe,hrep⟩
   exact ⟨v,rfl,m.grow w' Z',rfl,dF.grow WB WL sit pe.old pe.size pe.os pe.tape pe.output pe.zz pe.z,.p _ _ hrep⟩
end
variable {d : DV} {l : R} {n : Nat}
def aUR (d d' : DV) : Prop:=∀ (m : bY) (v : Value),m.rd d v→m.rd d' v
def aCO (ds ds' : List DV) : Prop:=ds'.length=ds.length∧∀ (i : Nat) d d',ds[i]? = some d→ds'[i]? = some d'→aUR d d'
theorem aCO.cons {d' : DV} {ds ds' : List DV} (h : aUR d d') (k : aCO ds ds') : aCO (d::ds) (d'::ds'):=
 ⟨by simp [k.1],λi x y hx hy=>by
  cases i with
  | zero=>simp at hx hy;subst hx;subst hy;exact h
  | succ i=>exact k.2 i x y (by simpa using hx) (by simpa using hy)⟩
theorem aCO.rd {m : bY} {ds ds' : List DV} {vs : List Value} (k : aCO ds ds') (hl : ds.length=vs.length) (h : ∀ (i : Nat) d v,ds[i]? = some d→vs[i]? = some v→m.rd d v) :
 ds'.length=vs.length∧∀ (i : Nat) d v,ds'[i]? = some d→vs[i]? = some v→m.rd d v:=by
 refine ⟨k.1.trans hl,λi d v hd hv=>?_⟩
 have hi : i<ds.length:=by have:=(List.getElem?_eq_some_iff.1 hv).1;omega
 have hg : ds[i]? = some ds[i]:=List.getElem?_eq_getElem hi
 exact k.2 i _ _ hg hd m v (h i _ v hg hv)
theorem aQa {x : PV} (h : l[n]? = some x) : gd l n=x:=by unfold gd;rw [List.getD,h];rfl
theorem aKT {bI : R} {a b : R} (h : ∀ j,j<(a++b).length→l[n+j]? = (a++b)[j]?) : (∀ j,j<a.length→l[n+j]? = a[j]?)∧∀ j,j<b.length→l[n+a.length+j]? = b[j]?:=by
 refine ⟨λj hj=>?_,λj hj=>?_⟩
 ·rw [h j (by rw [List.length_append];omega),List.getElem?_append_left hj]
 ·rw [Nat.add_assoc,h (a.length+j) (by rw [List.length_append];omega),List.getElem?_append_right (by omega)]
  congr 1
  omega
mutual
theorem aJY : ∀ (t d : DV) (bI : R) (n n' : Nat),nE t d=some bI→tR t n=some n'→n'=n+bI.length∧∀ L : R,(∀ j,j<bI.length→L[n+j]? = bI[j]?)→aUR d (oN L t)
 | .p (.int k i),d,bI,n,n',h,hn=>by
  cases d with
  | p v=>
    simp only [nE] at h
    cases h
    simp only [tR] at hn
    split at hn
    ·rename_i hi
     cases hn
     refine ⟨rfl,λL hL=>?_⟩
     have h0:=hL 0 (by simp)
     simp only [Nat.add_zero,List.getElem?_cons_zero] at h0
     have : oN L (.p (.int k i)) = .p v:=by
      simp only [oN,hi,Int.toNat_natCast,aQa h0]
     rw [this]
     exact λm v h=>h
    ·cases hn
  | _=>simp [nE] at h
 | .agg ts,d,bI,n,n',h,hn=>by
  cases d with
  | agg cs=>
    simp only [nE] at h
    simp only [tR] at hn
    obtain ⟨h1,h2⟩:=vA ts cs bI n n' h hn
    refine ⟨h1,λL hL m v hv=>?_⟩
    cases hv with
    | agg _ vs hl hc hr=>
      obtain ⟨g1,g2⟩:=(h2 L hL).rd hl hr
      simp only [oN]
      exact .agg _ vs g1 hc g2
  | _=>simp [nE] at h
 | .tup ts,d,bI,n,n',h,hn=>by
  cases d with
  | tup cs=>
    simp only [nE] at h
    simp only [tR] at hn
    obtain ⟨h1,h2⟩:=vA ts cs bI n n' h hn
    refine ⟨h1,λL hL m v hv=>?_⟩
    cases hv with
    | tup _ vs hl hr=>
      obtain ⟨g1,g2⟩:=(h2 L hL).rd hl hr
      simp only [oN]
      exact .tup _ vs g1 g2
  | _=>simp [nE] at h
 | .fn f ts,d,bI,n,n',h,hn=>by
  cases d with
  | fn g cs=>
    simp only [nE] at h
    split at h
    ·rename_i hfg
     have hfg:=dH hfg
     subst hfg
     simp only [tR] at hn
     obtain ⟨h1,h2⟩:=vA ts cs bI n n' h hn
     refine ⟨h1,λL hL m v hv=>?_⟩
     cases hv with
     | fn _ _ vs hl hr=>
       obtain ⟨g1,g2⟩:=(h2 L hL).rd hl hr
       simp only [oN]
       exact .fn _ _ vs g1 g2
    ·cases h
  | _=>simp [nE] at h
 | .ptr b off,d,bI,n,n',h,hn=>by
  cases d with
  | ptr b' off'=>
    simp only [nE] at h
    split at h
    ·rename_i hb
     simp only [Bool.and_eq_true] at hb
     have h1:=dH hb.1
     have h2:=dH hb.2
     subst h1;subst h2
     cases h
     simp only [tR] at hn
     cases hn
     exact ⟨rfl,λL _ m v hv=>by simpa only [oN] using hv⟩
    ·cases h
  | _=>simp [nE] at h
 | .ref l [],d,bI,n,n',h,hn=>by
  cases d with
  | ref l' path=>
    cases path with
    | nil=>
      simp only [nE] at h
      split at h
      ·rename_i hb
       have h1:=dH hb
       subst h1
       cases h
       simp only [tR] at hn
       cases hn
       exact ⟨rfl,λL _ m v hv=>by simpa only [oN] using hv⟩
      ·cases h
    | cons a r=>simp [nE] at h
  | _=>simp [nE] at h
 | .nils,d,bI,n,n',h,hn=>by
  cases d with
  | nils=>
    simp only [nE] at h
    cases h
    simp only [tR] at hn
    cases hn
    exact ⟨rfl,λL _ m v hv=>by simpa only [oN] using hv⟩
  | _=>simp [nE] at h
 | .dead,d,bI,n,n',h,hn=>by
  have h : some []=some bI:=by cases d<;>simpa [nE] using h
  cases h
  simp only [tR] at hn
  cases hn
  exact ⟨rfl,λL _ m v _=>by simp only [oN];exact .dead v⟩
 | .ref l (a::r),d,bI,n,n',h,hn=>by simp [tR] at hn
 | .p (.bool _),_,_,_,_,_,hn=>by simp [tR] at hn
 | .p (.str _),_,_,_,_,_,hn=>by simp [tR] at hn
 | .p .nil,_,_,_,_,_,hn=>by simp [tR] at hn
 | .p .nilf,_,_,_,_,_,hn=>by simp [tR] at hn
 | .p (.agg _),_,_,_,_,_,hn=>by simp [tR] at hn
 | .p (.lst _),_,_,_,_,_,hn=>by simp [tR] at hn
 | .p (.bx _),_,_,_,_,_,hn=>by simp [tR] at hn
 | .p (.fn _ _),_,_,_,_,_,hn=>by simp [tR] at hn
 | .p (.tup _),_,_,_,_,_,hn=>by simp [tR] at hn
 | .p .hole,_,_,_,_,_,hn=>by simp [tR] at hn
 | .sref _ _ _ _,_,_,_,_,_,hn=>by simp [tR] at hn
 | .eptr l path q off,d,bI,n,n',h,hn=>by
  cases path with
  | cons a r=>simp [tR] at hn
  | nil=>
    cases q with
    | int k i=>
      cases d with
      | eptr l' path' i' off'=>
        cases path' with
        | cons a r=>simp [nE] at h
        | nil=>
          simp only [nE] at h
          split at h
          ·rename_i hb
           simp only [Bool.and_eq_true] at hb
           have h1:=dH hb.1
           have h2:=dH hb.2
           subst h1;subst h2
           cases h
           simp only [tR] at hn
           split at hn
           ·rename_i hi
            cases hn
            refine ⟨rfl,λL hL m v hv=>?_⟩
            have h0:=hL 0 (by simp)
            simp only [Nat.add_zero,List.getElem?_cons_zero] at h0
            have : oN L (.eptr l [] (.int k i) off) = .eptr l [] i' off:=by
             simp only [oN,hi,Int.toNat_natCast,aQa h0]
            rw [this]
            exact hv
           ·cases hn
          ·cases h
      | _=>simp [nE] at h
    | _=>simp [tR] at hn
 | .fptr _ _ _ _,_,_,_,_,_,hn=>by simp [tR] at hn
 | .bptr _ _,_,_,_,_,_,hn=>by simp [tR] at hn
 | .nilq _ _,_,_,_,_,_,hn=>by simp [tR] at hn
 | .bsl _ _,_,_,_,_,_,hn=>by simp [tR] at hn
 | .gptr l path q off,d,bI,n,n',h,hn=>by
  have hshape : ∃ k ii nn k' i,path = [(PV.int k ii,nn)]∧q = .int k' i∧ii=n∧i=(n : Int)+1∧n'=n+2:=by
   unfold tR at hn
   split at hn<;>rename_i he<;>(try (cases he;done))<;>(try (cases hn;done))
   all_goals first | (cases he;split at hn;(rename_i hh;cases hn;exact ⟨_,_,_,_,_,rfl,rfl,hh.1,hh.2,rfl⟩);cases hn) | cases hn
  obtain ⟨k,ii,nn,k',i,rfl,rfl,hii,hi,rfl⟩:=hshape
  have fin : ∀ (x y : PV),bI = [x,y]→(∀ m v,bY.rd m d v→bY.rd m (.gptr l [(x,nn)] y off) v)→n+2=n+bI.length∧∀ L : R,(∀ j,j<bI.length→L[n+j]? = bI[j]?)→aUR d (oN L (.gptr l [(PV.int k ii,nn)] (.int k' i) off)):=by
   intro x y hv H
   subst hv
   refine ⟨rfl,λL hL m v hv=>?_⟩
   have h0:=hL 0 (by simp)
   have h1:=hL 1 (by simp)
   simp only [Nat.add_zero,List.getElem?_cons_zero] at h0
   simp only [List.getElem?_cons_succ,List.getElem?_cons_zero] at h1
   have : oN L (.gptr l [(PV.int k ii,nn)] (.int k' i) off) = .gptr l [(x,nn)] y off:=by
    simp only [oN,hii,hi,Int.toNat_natCast,aQa h0]
    rw [show ((n : Int)+1).toNat=n+1 by omega,aQa h1]
   rw [this]
   exact H m v hv
  cases d with
  | p v=>
    cases v with
    | nil=>
      simp only [nE] at h
      cases h
      refine fin .nil .nil rfl (λm v hv=>?_)
      cases hv with
      | p _ _ hv=>
        cases hv
        exact .gptr _ _ _ _ _ trivial (λk0 n0 he=>by cases he)
    | _=>simp [nE] at h
  | eptr l' path' i' off'=>
    cases path' with
    | nil=>simp [nE] at h
    | cons a r=>
      cases r with
      | cons b r=>simp [nE] at h
      | nil=>
        obtain ⟨x,j⟩:=a
        simp only [nE] at h
        split at h
        ·rename_i hb
         simp only [Bool.and_eq_true] at hb
         have h1:=dH hb.1.1
         have h2:=dH hb.1.2
         have h3:=dH hb.2
         subst h1;subst h2;subst h3
         cases h
         refine fin x i' rfl (λm v hv=>?_)
         cases hv with
         | eptr _ _ _ _ _ hu hc hh=>exact .gptr _ _ _ _ _ hc (λ_ _ _=>⟨hu,hh⟩)
        ·cases h
  | _=>simp [nE] at h
theorem vA : ∀ (ts ds : List DV) (bI : R) (n n' : Nat),aBA ts ds=some bI→aJG ts n=some n'→n'=n+bI.length∧∀ L : R,(∀ j,j<bI.length→L[n+j]? = bI[j]?)→aCO ds (tQ L ts)
 | [],ds,bI,n,n',h,hn=>by
  cases ds with
  | nil=>
    simp only [aBA] at h
    cases h
    simp only [aJG] at hn
    cases hn
    exact ⟨rfl,λL _=>⟨rfl,λi d d' hd=>by simp at hd⟩⟩
  | cons d ds=>simp [aBA] at h
 | t::ts,ds,bI,n,n',h,hn=>by
   cases ds with
   | nil=>simp [aBA] at h
   | cons d ds=>
     simp only [aBA] at h
     split at h
     ·rename_i a ha
      split at h
      ·rename_i b hb
       cases h
       simp only [aJG] at hn
       split at hn
       ·rename_i n1 hn1
        obtain ⟨h1,h2⟩:=aJY t d a n n1 ha hn1
        obtain ⟨h3,h4⟩:=vA ts ds b n1 n' hb hn
        refine ⟨by rw [List.length_append];omega,λL hL=>?_⟩
        obtain ⟨p1,p2⟩:=aKT (bI:=[]) hL
        rw [← h1] at p2
        simp only [tQ]
        exact aCO.cons (h2 L p1) (h4 L p2)
       ·cases hn
      ·cases h
     ·cases h
end
theorem aEn : ∀ (ts : List (Option (List DV))) (bs : List (Nat × Option (List DV))) (bI : R) (n n' : Nat),aDl ts bs=some bI→aRt ts n=some n'→n'=n+bI.length∧ts.length=bs.length∧
 ∀ L : R,(∀ j,j<bI.length→L[n+j]? = bI[j]?)→∀ (i : Nat) t,ts[i]? = some (some t)→(vS L ts)[i]? = some (some (tQ L t))∧∃ x cs,bs[i]? = some (x,some cs)∧aCO cs (tQ L t)
 | [],bs,bI,n,n',h,hn=>by
  cases bs with
  | nil=>
    simp only [aDl] at h
    cases h
    simp only [aRt] at hn
    cases hn
    exact ⟨rfl,rfl,λL _ i t ht=>by simp at ht⟩
  | cons b bs=>simp [aDl] at h
 | none::ts,bs,bI,n,n',h,hn=>by
   cases bs with
   | nil=>simp [aDl] at h
   | cons b bs=>
     simp only [aDl] at h
     simp only [aRt] at hn
     obtain ⟨h1,h2,h3⟩:=aEn ts bs bI n n' h hn
     refine ⟨h1,by simp [h2],λL hL i t ht=>?_⟩
     cases i with
     | zero=>simp at ht
     | succ i=>
       simp only [vS]
       simpa using h3 L hL i t (by simpa using ht)
 | some t0::ts,bs,bI,n,n',h,hn=>by
   cases bs with
   | nil=>simp [aDl] at h
   | cons b bs=>
     obtain ⟨x,o⟩:=b
     cases o with
     | none=>simp [aDl] at h
     | some cs=>
       simp only [aDl] at h
       split at h
       ·rename_i a ha
        split at h
        ·rename_i b hb
         cases h
         simp only [aRt] at hn
         split at hn
         ·rename_i n1 hn1
          obtain ⟨h1,h2⟩:=vA t0 cs a n n1 ha hn1
          obtain ⟨h3,h4,h5⟩:=aEn ts bs b n1 n' hb hn
          refine ⟨by rw [List.length_append];omega,by simp [h4],λL hL i t ht=>?_⟩
          obtain ⟨p1,p2⟩:=aKT (bI:=[]) hL
          rw [← h1] at p2
          cases i with
          | zero=>
            simp at ht
            subst ht
            exact ⟨by simp [vS],x,cs,rfl,h2 L p1⟩
          | succ i=>
            simp only [vS]
            simpa using h5 L p2 i t (by simpa using ht)
         ·cases hn
        ·cases h
       ·cases h
theorem aEo : ∀ (ts : List (Option tN)) (bs : List (Nat × Option tN)) (bI : R) (n n' : Nat),aDm ts bs=some bI→aKe ts n=some n'→n'=n+bI.length∧ts.length=bs.length∧
 ∀ L : R,(∀ j,j<bI.length→L[n+j]? = bI[j]?)→∀ (i : Nat) t,ts[i]? = some (some t)→∃ x w,bs[i]? = some (x,some w)∧(iP L ts)[i]? = some (some w)∧(∃ k j,t.c = .int k j∧gd L j.toNat=w.c)∧t.o=w.o
 | [],bs,bI,n,n',h,hn=>by
  cases bs with
  | nil=>
    simp only [aDm] at h
    cases h
    simp only [aKe] at hn
    cases hn
    exact ⟨rfl,rfl,λL _ i t ht=>by simp at ht⟩
  | cons b bs=>simp [aDm] at h
 | none::ts,bs,bI,n,n',h,hn=>by
   cases bs with
   | nil=>simp [aDm] at h
   | cons b bs=>
     simp only [aDm] at h
     simp only [aKe] at hn
     obtain ⟨h1,h2,h3⟩:=aEo ts bs bI n n' h hn
     refine ⟨h1,by simp [h2],λL hL i t ht=>?_⟩
     cases i with
     | zero=>simp at ht
     | succ i=>
       simp only [iP]
       simpa using h3 L hL i t (by simpa using ht)
 | some t0::ts,bs,bI,n,n',h,hn=>by
   cases bs with
   | nil=>simp [aDm] at h
   | cons b bs=>
     obtain ⟨x,o⟩:=b
     cases o with
     | none=>simp [aDm] at h
     | some w=>
       simp only [aDm] at h
       split at h
       ·rename_i hsame
        have hs:=OTy.same_eq _ _ hsame
        split at h
        ·rename_i b hb
         cases h
         simp only [aKe] at hn
         split at hn
         ·rename_i k j hc
          split at hn
          ·rename_i hj
           obtain ⟨h3,h4,h5⟩:=aEo ts bs b (n+1) n' hb hn
           refine ⟨by simp;omega,by simp [h4],λL hL i t ht=>?_⟩
           have h0:=hL 0 (by simp)
           simp only [Nat.add_zero,List.getElem?_cons_zero] at h0
           have hg : gd L j.toNat=w.c:=by rw [hj,Int.toNat_natCast];exact aQa h0
           cases i with
           | zero=>
             simp at ht
             subst ht
             refine ⟨x,w,rfl,?_,⟨k,j,hc,hg⟩,hs⟩
             simp only [iP,hc,hg,hs,List.getElem?_cons_zero]
           | succ i=>
             simp only [iP]
             refine h5 L (λq hq=>?_) i t (by simpa using ht) |>.imp λ_ h=>by simpa using h
             have:=hL (q+1) (by simp;omega)
             rw [show n+1+q=n+(q+1) by omega,this]
             simp
          ·cases hn
         ·cases hn
        ·cases h
       ·cases h
theorem eX.read_sound {t : eX} {s : St} (h : t.read d s=some l) (hw : t.wf=true) :
 aUR d (oN l t.res)∧t.boxes.length=s.boxes.length∧t.lists.length=s.lists.length∧
 (∀ (i : Nat) ts,t.boxes[i]? = some (some ts)→(vS l t.boxes)[i]? = some (some (tQ l ts))∧∃ x cs,s.boxes[i]? = some (x,some cs)∧aCO cs (tQ l ts))∧
 (∀ (i : Nat) w0,t.lists[i]? = some (some w0)→∃ x w,s.lists[i]? = some (x,some w)∧(iP l t.lists)[i]? = some (some w)∧(∃ k j,w0.c = .int k j∧gd l j.toNat=w.c)∧w0.o=w.o):=by
 unfold eX.read at h
 split at h
 rotate_left
 ·cases h
 rename_i a ha
 split at h
 rotate_left
 ·cases h
 rename_i b hb
 split at h
 rotate_left
 ·cases h
 rename_i c hc
 cases h
 unfold eX.wf at hw
 split at hw
 rotate_left
 ·cases hw
 rename_i n1 hn1
 split at hw
 rotate_left
 ·cases hw
 rename_i n2 hn2
 obtain ⟨n3,hn3⟩:=Option.isSome_iff_exists.1 hw
 obtain ⟨h1,h2⟩:=aJY t.res d a 0 n1 ha hn1
 obtain ⟨h3,h4,h5⟩:=aEn t.boxes s.boxes b n1 n2 hb hn2
 obtain ⟨h6,h7,h8⟩:=aEo t.lists s.lists c n2 n3 hc hn3
 have p0 : ∀ j,j<(a++b++c).length→(a++b++c)[0+j]? = (a++b++c)[j]?:=λj _=>by rw [Nat.zero_add]
 obtain ⟨p1,p2⟩:=aKT (bI:=[]) p0
 obtain ⟨p3,p4⟩:=aKT (bI:=[]) p1
 refine ⟨h2 _ p3,h4,h7,h5 _ (by rw [h1];exact p4),h8 _ (by rw [h3,h1];rw [List.length_append] at p2;rw [Nat.add_assoc];exact p2)⟩
theorem aOW : ∀ {l : List Nat} {n b x : Nat},l.Nodup→l[b]? = some x→yR x l n=some (n+b)
 | [],_,_,_,_,h=>by simp at h
 | y::r,n,b,x,hn,h=>by
   unfold yR
   cases b with
   | zero=>simp at h;subst h;simp
   | succ b=>
     have hm : x∈r:=List.mem_of_getElem? (by simpa using h)
     have hne : x≠y:=λe=>(List.nodup_cons.1 hn).1 (e▸hm)
     have hb : Nat.beq x y=false:=by
      cases hb : Nat.beq x y with
      | false=>rfl
      | true=>exact absurd (dH hb) hne
     rw [hb]
     simp only [Bool.false_eq_true,if_false]
     rw [aOW (List.nodup_cons.1 hn).2 (by simpa using h)]
     congr 1
     omega
theorem aHM : ∀ {l : List Nat} {n x : Nat},x∉l→yR x l n=none
 | [],_,_,_=>rfl
 | y::r,n,x,h=>by
   unfold yR
   have hne : x≠y:=λe=>h (e▸List.mem_cons_self)
   have hb : Nat.beq x y=false:=by
    cases hb : Nat.beq x y with
    | false=>rfl
    | true=>exact absurd (dH hb) hne
   rw [hb]
   simp only [Bool.false_eq_true,if_false]
   exact aHM (λh'=>h (List.mem_cons_of_mem _ h'))
theorem aNT {l : List Nat} (x : Nat) : (∃ i,yR x l 0=some i∧l[i]? = some x)∨(yR x l 0=none∧x∉l):=by
 cases h : yR x l 0 with
 | some i=>exact .inl ⟨i,rfl,aP6 h⟩
 | none=>
   refine .inr ⟨rfl,λhm=>?_⟩
   have : ∀ (l : List Nat) (n : Nat),x∈l→yR x l n≠none:=by
    intro l
    induction l with
    | nil=>intro n h;cases h
    | cons y r ih=>
      intro n h
      unfold yR
      split
      ·simp
      ·rename_i hb
       rcases List.mem_cons.1 h with rfl | h
       ·simp at hb
       ·exact ih _ h
   exact this l 0 hm h
def gP (bs : List Nat) (n k x : Nat) : Option Nat:=match yR x bs 0 with
 | some i=>some i
 | none=>if n≤x∧x<n+k then some (bs.length+(x - n)) else none
def aCP (n k x : Nat) : Option Nat:=if n≤x∧x<n+k then some (x - n) else none
theorem aNU {α : Type} {x : Nat} : ∀ {cs : List (Option α)} {n : Nat} {old : List (Nat × Option α)},oG x (aAg [] n cs old)=if n≤x∧x<n+cs.length then cs.getD (x - n) none else oG x old
 | [],n,old=>by simp [aAg];intro h1 h2;omega
 | c::r,n,old=>by
   rw [aAg,aNU,gG]
   by_cases h : x=n
   ·subst h
    rw [if_neg (by omega),if_pos rfl,if_pos (by simp),Nat.sub_self];rfl
   ·by_cases h2 : n≤x∧x<n+(c::r).length
    ·rw [if_pos h2,if_pos (by simp at h2;omega),show x - n=x - (n+1)+1 by omega];rfl
    ·rw [if_neg h2,if_neg (by simp at h2;omega),if_neg h]
theorem aGw {α : Type} {x : Nat} : ∀ {cs : List (Option α)} {bs : List Nat} {n : Nat} {old : List (Nat × Option α)},bs.Nodup→bs.length≤cs.length→(∀ b∈bs,¬ (n≤b∧b<n+(cs.length - bs.length)))→
 oG x (aAg bs n cs old)=match gP bs n (cs.length - bs.length) x with | some i=>cs.getD i none | none=>oG x old
 | cs,[],n,old,_,_,_=>by
   rw [aNU]
   unfold gP
   simp only [yR,List.length_nil,Nat.sub_zero,Nat.zero_add]
   split<;>rfl
 | [],b::bs,n,old,_,hl,_=>by simp at hl
 | c::r,b::bs,n,old,hn,hl,hf=>by
   simp only [List.length_cons,Nat.add_le_add_iff_right] at hl
   have hlen : (c::r).length - (b::bs).length=r.length - bs.length:=by simp
   rw [hlen] at hf ⊢
   rw [aAg,aGw (List.nodup_cons.1 hn).2 hl (λy hy=>hf y (List.mem_cons_of_mem _ hy)),gG]
   have hb:=hf b List.mem_cons_self
   unfold gP
   rcases aNT (l:=bs) x with ⟨i,h1,h2⟩ | ⟨h1,h2⟩
   ·have hne : x≠b:=λe=>(List.nodup_cons.1 hn).1 (e▸List.mem_of_getElem? h2)
    have : yR x (b::bs) 0=some (i+1):=by
     have:=aOW (n:=0) hn (show (b::bs)[i+1]? = some x by simpa using h2)
     simpa using this
    rw [h1,this]
    rfl
   ·rw [h1]
    by_cases e : x=b
    ·subst e
     have : yR x (x::bs) 0=some 0:=by simp [yR]
     rw [this,if_neg hb]
     simp
    ·have : yR x (b::bs) 0=none:=aHM (λhm=>(List.mem_cons.1 hm).elim e h2)
     rw [this]
     by_cases hr : n≤x∧x<n+(r.length - bs.length)
     ·rw [if_pos hr]
      simp only [List.length_cons,if_pos hr]
      rw [show bs.length+1+(x - n)=bs.length+(x - n)+1 by omega]
      rfl
     ·rw [if_neg hr]
      simp only [if_neg hr,if_neg e]
theorem aLK {x : Nat} : ∀ {cs : List (Option tN)} {n : Nat} {old : List (Nat × Option tN)},oG x (aLb n cs old)=match aCP n cs.length x with | some i=>cs.getD i none | none=>oG x old
 | [],n,old=>by
  have : aCP n ([] : List (Option tN)).length x=none:=by
   unfold aCP
   rw [if_neg]
   simp
  rw [this]
  rfl
 | c::r,n,old=>by
   rw [aLb,aLK,gG]
   unfold aCP
   by_cases h : x=n
   ·subst h
    rw [if_neg (by omega),if_pos (by simp)]
    simp
   ·by_cases h2 : n≤x∧x<n+(c::r).length
    ·rw [if_pos h2,if_pos (by simp at h2;omega)]
     simp only
     rw [show x - n=x - (n+1)+1 by omega];rfl
    ·rw [if_neg h2,if_neg (by simp at h2;omega),if_neg h]
theorem fG.renum {w : World} {Z : NP} {ρ ρ' : Loc} {live live' : NP} {fb fl : Nat→Option Nat} (hb : ∀ b b',ρ.ub b→fb b=some b'→ρ'.ub b'∧ρ'.box b'=ρ.box b)
 (hl : ∀ l l',ρ.ul l→fl l=some l'→ρ'.ul l'∧(live' l'→live l∧ρ'.hdr l'=ρ.hdr l∧ρ'.ty l'=ρ.ty l∧ρ'.fp l'=ρ.fp l)) : ∀ (n : Nat) {d : DV} {v : Value},fG w Z ρ live d v→fG w Z ρ' live' (ren fb fl n d) v:=by
 have key : ∀ (f : DV→DV),(∀ d v,fG w Z ρ live d v→fG w Z ρ' live' (f d) v)→∀ {d : DV} {v : Value},fG w Z ρ live d v→fG w Z ρ' live' (aDX fb fl f d) v:=by
  intro f hf d v h
  have hmap : ∀ {ds : List DV} {vs : List Value},(∀ (i : Nat) d v,ds[i]? = some d→vs[i]? = some v→fG w Z ρ live d v)→∀ (i : Nat) d v,(ds.map f)[i]? = some d→vs[i]? = some v→fG w Z ρ' live' d v:=by
   intro ds vs h i d v hd hv
   rw [List.getElem?_map] at hd
   cases hdi : ds[i]? with
   | none=>rw [hdi] at hd;cases hd
   | some d0=>rw [hdi] at hd;cases hd;exact hf _ _ (h i d0 v hdi hv)
  cases h with
  | p x v h=>exact .p x v h
  | nils=>exact .nils
  | agg ds vs hl hc h=>exact .agg _ vs (by simp [hl]) hc (hmap h)
  | tup ds vs hl h=>exact .tup _ vs (by simp [hl]) (hmap h)
  | fn g ds vs hl h=>exact .fn g _ vs (by simp [hl]) (hmap h)
  | ptr b off hub=>
    unfold aDX
    dsimp only
    split
    ·rename_i b' hb'
     obtain ⟨h1,h2⟩:=hb b b' hub hb'
     rw [← h2]
     exact .ptr b' off h1
    ·exact .dead _
  | bsl b n hub=>
    unfold aDX
    dsimp only
    split
    ·rename_i b' hb'
     obtain ⟨h1,h2⟩:=hb b b' hub hb'
     rw [← h2]
     exact .bsl b' n h1
    ·exact .dead _
  | ref l path v hu hc h=>
    unfold aDX
    dsimp only
    split
    ·rename_i l' hl'
     obtain ⟨h1,h2⟩:=hl l l' hu hl'
     refine .ref l' path v h1 hc (λhv=>?_)
     obtain ⟨g1,g2,g3,g4⟩:=h2 hv
     rw [g2,g3,g4]
     exact h g1
    ·exact .dead _
  | sref l path lo hi v hu hc h=>
    unfold aDX
    dsimp only
    split
    ·rename_i l' hl'
     obtain ⟨h1,h2⟩:=hl l l' hu hl'
     refine .sref l' path lo hi v h1 hc (λhv=>?_)
     obtain ⟨g1,g2,g3,g4⟩:=h2 hv
     rw [g2,g3,g4]
     exact h g1
    ·exact .dead _
  | eptr l path i off v hu hc h=>
    unfold aDX
    dsimp only
    split
    ·rename_i l' hl'
     obtain ⟨h1,h2⟩:=hl l l' hu hl'
     refine .eptr l' path i off v h1 hc (λhv=>?_)
     obtain ⟨g1,g2,g3,g4⟩:=h2 hv
     rw [g2,g3,g4]
     exact h g1
    ·exact .dead _
  | fptr x s' g off b o cells e fz cv h1 h2 h3 h4 h5 h6=>exact .fptr x s' g off b o cells e fz cv h1 h2 h3 h4 h5 h6
  | bptr c off b o h=>exact .bptr c off b o h
  | gptr l path i off v hc h=>
    unfold aDX
    dsimp only
    split
    ·rename_i l' hl'
     refine .gptr l' path i off v hc (λk0 n0 hi=>?_)
     obtain ⟨hu,h⟩:=h k0 n0 hi
     obtain ⟨h1,h2⟩:=hl l l' hu hl'
     refine ⟨h1,λhv=>?_⟩
     obtain ⟨g1,g2,g3,g4⟩:=h2 hv
     rw [g2,g3,g4]
     exact h g1
    ·exact .dead _
  | nilq c neg b h=>exact .nilq c neg b h
  | dead v=>exact .dead v
 intro n
 induction n with
 | zero=>intro d v h;exact key _ (λ_ _ _=>.dead _) h
 | succ n ih=>intro d v h;exact key _ (λ_ _ h=>ih h) h
theorem iV {s : St} : ∀ (n : Nat) (ds : List DV) (a : aKd),(∀ b∈a.bs,s.box b≠none)→(∀ l∈a.ls,s.list l≠none)→(∀ b∈(iA s n ds a).bs,s.box b≠none)∧∀ l∈(iA s n ds a).ls,s.list l≠none
 | 0,_,a,h1,h2=>⟨by simpa [iA] using h1,by simpa [iA] using h2⟩
 | _+1,[],a,h1,h2=>⟨by simpa [iA] using h1,by simpa [iA] using h2⟩
 | n+1,d::r,a,h1,h2=>by
   unfold iA
   have row : ∀ l,let b:=(if mem l a.ls then iA s n r a else match s.list l with | some _=>iA s n r { a with ls:=a.ls++[l]} | none=>iA s n r a);(∀ x∈b.bs,s.box x≠none)∧∀ x∈b.ls,s.list x≠none:=by
    intro l
    dsimp only
    split
    ·exact iV n r a h1 h2
    ·split
     ·rename_i w hw
      refine iV n r { a with ls:=a.ls++[l]} h1 (λx hx=>?_)
      rcases List.mem_append.1 hx with hx | hx
      ·exact h2 x hx
      ·simp at hx;subst hx;rw [hw];simp
     ·exact iV n r a h1 h2
   split
   ·split
    ·exact iV n r a h1 h2
    ·rename_i b _ _
     split
     ·rename_i cs hcs
      refine iV n _ { a with bs:=a.bs++[b]} (λx hx=>?_) h2
      rcases List.mem_append.1 hx with hx | hx
      ·exact h1 x hx
      ·simp at hx;subst hx;rw [hcs];simp
     ·exact iV n r a h1 h2
   ·split
    ·exact iV n r a h1 h2
    ·rename_i b _ _
     split
     ·rename_i cs hcs
      refine iV n _ { a with bs:=a.bs++[b]} (λx hx=>?_) h2
      rcases List.mem_append.1 hx with hx | hx
      ·exact h1 x hx
      ·simp at hx;subst hx;rw [hcs];simp
     ·exact iV n r a h1 h2
   ·exact row _
   ·exact row _
   ·exact row _
   ·exact iV n _ a h1 h2
   ·exact iV n _ a h1 h2
   ·exact iV n _ a h1 h2
   ·exact iV n r a h1 h2
theorem aF9 {s : St} {fb fl : Nat→Option Nat} : ∀ {bs : List Nat} {n i x : Nat} {o : Option (List DV)},(mT s fb fl n bs)[i]? = some (x,o)→oG (n+i) (mT s fb fl n bs)=o
 | [],n,i,x,o,h=>by simp [mT] at h
 | b::r,n,i,x,o,h=>by
   unfold mT at h ⊢
   rw [gG]
   cases i with
   | zero=>simp at h;simp [h.2]
   | succ i=>
     have:=aF9 (bs:=r) (n:=n+1) (i:=i) (x:=x) (o:=o) (by simpa using h)
     rw [if_neg (by omega),show n+(i+1)=n+1+i by omega]
     exact this
theorem sP {s : St} : ∀ {ls : List Nat} {n i x : Nat} {o : Option tN},(mU s n ls)[i]? = some (x,o)→oG (n+i) (mU s n ls)=o
 | [],n,i,x,o,h=>by simp [mU] at h
 | b::r,n,i,x,o,h=>by
   unfold mU at h ⊢
   rw [gG]
   cases i with
   | zero=>simp at h;simp [h.2]
   | succ i=>
     have:=sP (ls:=r) (n:=n+1) (i:=i) (x:=x) (o:=o) (by simpa using h)
     rw [if_neg (by omega),show n+(i+1)=n+1+i by omega]
     exact this
theorem aBF {s : St} {fb fl : Nat→Option Nat} : ∀ {bs : List Nat} {n : Nat},(mT s fb fl n bs).length=bs.length
 | [],_=>rfl
 | _::r,n=>by simp [mT,aBF (bs:=r)]
theorem xH {s : St} : ∀ {ls : List Nat} {n : Nat},(mU s n ls).length=ls.length
 | [],_=>rfl
 | _::r,n=>by simp [mU,xH (ls:=r)]
variable {w w' : World} {Z Z' live live' : NP} {ρ ρ' : Loc} {r x y i : Nat} {cs : List DV} {o : tN}
def bY.back (m c : bY) (bs kl : List Nat) (n k n' k' : Nat) (s : Sx) : bY:=
 { w:=c.w,Z:=c.Z,L:=m.L,s:=s,
   ρ:={ box:=λx=>match gP bs n k x with | some i=>c.ρ.box i | none=>m.ρ.box x
        hdr:=λx=>match gP kl n' k' x with | some i=>c.ρ.hdr i | none=>m.ρ.hdr x
        fp:=λx=>match gP kl n' k' x with | some i=>c.ρ.fp i | none=>m.ρ.fp x
        ty:=λx=>match gP kl n' k' x with | some i=>c.ρ.ty i | none=>m.ρ.ty x
        ub:=λx=>m.ρ.ub x∨(n≤x∧x<n+k)
        ul:=λx=>m.ρ.ul x∨(n'≤x∧x<n'+k')}}
theorem iD (bs : List Nat) (n k x : Nat) : (∃ i,gP bs n k x=some i∧bs[i]? = some x)∨(∃ i,gP bs n k x=some (bs.length+i)∧x=n+i∧i<k∧x∉bs)∨(gP bs n k x=none∧x∉bs∧¬ (n≤x∧x<n+k)):=by
 rcases aNT (l:=bs) x with ⟨i,h1,h2⟩ | ⟨h1,h2⟩
 ·exact .inl ⟨i,by unfold gP;rw [h1],h2⟩
 ·by_cases h : n≤x∧x<n+k
  ·exact .inr (.inl ⟨x - n,by unfold gP;rw [h1];simp only [if_pos h],by omega,by omega,h2⟩)
  ·exact .inr (.inr ⟨by unfold gP;rw [h1];simp only [if_neg h],h2,h⟩)
theorem aHN (n k x : Nat) : gP [] n k x=aCP n k x:=by
 unfold gP aCP
 simp only [yR,List.length_nil,Nat.zero_add]
theorem aLL (n k x : Nat) : (∃ i,aCP n k x=some i∧x=n+i∧i<k)∨(aCP n k x=none∧¬ (n≤x∧x<n+k)):=by
 unfold aCP
 by_cases h : n≤x∧x<n+k
 ·rw [if_pos h];exact .inl ⟨x - n,rfl,by omega,by omega⟩
 ·rw [if_neg h];exact .inr ⟨rfl,h⟩
theorem aDn.mono {gone gone' : NP} (C : aDn w w' Z Z' ρ ρ' live live' gone) (h : ∀ l,gone l→gone' l) : aDn w w' Z Z' ρ ρ' live live' gone':=
 ⟨C.z,C.hw,C.b,C.u,λl hu hl=>⟨(C.l l hu hl).1,(C.l l hu hl).2.1,(C.l l hu hl).2.2.1,(C.l l hu hl).2.2.2.imp (h l) _root_.id⟩⟩
theorem fG.kept {kp : Bool} {kl : List Nat} (hk : kp=false→kl = []) (C : aDn w w' Z Z' ρ ρ' live live' (λl=>l∈kl)) {d : DV} {v : Value}
 (h : fG w Z ρ live d v) : fG w' Z' ρ' live' (eE kp kl d) v:=by
 unfold eE
 cases kp with
 | true=>exact fG.scrub C cU h
 | false=>
   have:=hk rfl
   subst this
   exact fG.carry (C.mono (λl hl=>by cases hl)) h
section
variable {m c : bY} {kp : Bool} {bs ls kl : List Nat} {n k n' k' : Nat} {s0 : St} {S : Sx}
structure aAW (m c : bY) (kp : Bool) (bs ls kl : List Nat) (n k n' k' : Nat) (S : Sx) : Prop where
 kk : kp=false→kl = []
 kn : kl.Nodup
 ks : ∀ l∈kl,l∈ls
 row : ∀ i l,kl[i]? = some l→c.s.live i→c.ρ.hdr i=m.ρ.hdr l∧c.ρ.ty i=m.ρ.ty l
 inv : sN m
 cinv : sN c
 nb : bs.Nodup
 ab : ∀ b∈bs,∃ cs,m.s.box b=some cs
 al : ∀ l∈ls,∃ o,m.s.list l=some o
 size : m.w.heap.size≤c.w.heap.size
 os : c.w.os=m.w.os
 tape : c.w.tape=m.w.tape
 output : c.w.output=m.w.output
 keep : ∀ r,r<m.w.heap.size→¬ ((∃ b∈bs,r=m.ρ.box b)∨(∃ l∈ls,m.ρ.fp l r))→c.w.heap[r]? = m.w.heap[r]?
 own : ∀ r,c.owned r→((∃ b∈bs,r=m.ρ.box b)∨(∃ l∈ls,m.ρ.fp l r))∨m.w.heap.size≤r
 z : ∀ r,c.Z r→m.Z r∨((∃ b∈bs,r=m.ρ.box b)∨(∃ l∈ls,m.ρ.fp l r))∨m.w.heap.size≤r
 zz : ∀ r,m.Z r→c.Z r
 box : ∀ i b,bs[i]? = some b→c.ρ.box i=m.ρ.box b
 freshB : ∀ x,n≤x→x<n+k→¬ m.ρ.ub x
 freshL : ∀ x,n'≤x→x<n'+k'→¬ m.ρ.ul x
 sb : ∀ x cs,S.box x=some cs→(∃ i cs0,gP bs n k x=some i∧c.s.box i=some cs0∧cs.length=cs0.length∧∀ (j : Nat) d0 d v,cs0[j]? = some d0→cs[j]? = some d→c.rd d0 v→(m.back c bs kl n k n' k' S).rd d v)∨(gP bs n k x=none∧∃ cs0,m.s.box x=some cs0∧cs=cs0.map (eE kp kl))
 sbx : ∀ x,(∃ cs,m.s.box x=some cs)→∃ cs,S.box x=some cs
 sl : ∀ x o,S.list x=some o→(∃ i,gP kl n' k' x=some i∧c.s.list i=some o)∨(gP kl n' k' x=none∧x∉ls∧m.s.list x=some o)
def aLM (m : bY) (bs ls : List Nat) (r : Nat) : Prop:=(∃ b∈bs,r=m.ρ.box b)∨(∃ l∈ls,m.ρ.fp l r)
theorem aAW.mine (C : aAW m c kp bs ls kl n k n' k' S) (ho : m.owned r) (hn : ¬ aLM m bs ls r) : c.w.heap[r]? = m.w.heap[r]?∧¬ c.Z r∧¬ c.owned r∧r<m.w.heap.size:=by
 have hlt:=C.inv.owned_lt ho
 refine ⟨C.keep r hlt hn,λhz=>?_,λh=>?_,hlt⟩
 ·rcases C.z r hz with h | h | h
  ·exact C.inv.owned_notZ ho h
  ·exact hn h
  ·omega
 ·rcases C.own r h with h | h
  ·exact hn h
  ·omega
theorem aAW.boxOut (C : aAW m c kp bs ls kl n k n' k' S) (hx : m.s.box x=some cs) (hn : x∉bs) : ¬ aLM m bs ls (m.ρ.box x):=by
 rintro (⟨b,hb,e⟩ | ⟨l,hl,h⟩)
 ·obtain ⟨cs',hcs'⟩:=C.ab b hb
  exact hn (C.inv.bb x cs b cs' hx hcs' e▸hb)
 ·obtain ⟨o,ho⟩:=C.al l hl
  exact C.inv.bl x cs l o hx ho h
theorem aAW.rowOut (C : aAW m c kp bs ls kl n k n' k' S) {l : Nat} (hl : m.s.list l=some o) (hn : l∉ls) (hr : m.ρ.fp l r) : ¬ aLM m bs ls r:=by
 rintro (⟨b,hb,rfl⟩ | ⟨l',hl',h⟩)
 ·obtain ⟨cs',hcs'⟩:=C.ab b hb
  exact C.inv.bl b cs' l o hcs' hl hr
 ·obtain ⟨o',ho'⟩:=C.al l' hl'
  exact hn (C.inv.ll l o l' o' r hl ho' hr h▸hl')
theorem aAW.LOut (C : aAW m c kp bs ls kl n k n' k' S) (hr : m.L r) : ¬ aLM m bs ls r:=by
 rintro (⟨b,hb,rfl⟩ | ⟨l,hl,h⟩)
 ·obtain ⟨cs',hcs'⟩:=C.ab b hb
  exact C.inv.Lb b cs' hcs' hr
 ·obtain ⟨o,ho⟩:=C.al l hl
  exact C.inv.Ll l o r ho h hr
theorem aAW.rd (C : aAW m c kp bs ls kl n k n' k' S) {d : DV} {v : Value} (h : m.rd d v) : (m.back c bs kl n k n' k' S).rd (eE kp kl d) v:=by
 have Cr : aDn m.w c.w m.Z c.Z m.ρ (m.back c bs kl n k n' k' S).ρ m.s.live S.live (λl=>l∈kl):={
  z:=C.zz
  hw:=λr hr=>C.keep r (C.inv.zlt r hr) (by
   rintro (⟨b,hb,rfl⟩ | ⟨l,hl,h⟩)
   ·obtain ⟨cs',hcs'⟩:=C.ab b hb
    exact C.inv.bz b cs' hcs' hr
   ·obtain ⟨o,ho⟩:=C.al l hl
    exact (C.inv.row l o ho).2.2.notZ r h hr)
  b:=λb hb=>by
   refine ⟨.inl hb,?_⟩
   show (match gP bs n k b with | some i=>c.ρ.box i | none=>m.ρ.box b)=_
   rcases iD bs n k b with ⟨i,h1,h2⟩ | ⟨i,h1,h2,h3,h4⟩ | ⟨h1,_⟩
   ·rw [h1];exact C.box i b h2
   ·exact absurd hb (C.freshB b (by omega) (by omega))
   ·rw [h1]
  u:=λl hl=>.inl hl
  l:=λl hu hv=>by
   show _∧(match gP kl n' k' l with | some i=>c.ρ.hdr i | none=>m.ρ.hdr l)=_∧(match gP kl n' k' l with | some i=>c.ρ.ty i | none=>m.ρ.ty l)=_∧
    (l∈kl∨_∨∀ r,m.ρ.fp l r→(match gP kl n' k' l with | some i=>c.ρ.fp i | none=>m.ρ.fp l) r∧_)
   rcases iD kl n' k' l with ⟨i,h1,h2⟩ | ⟨i,h1,h2,h3,_⟩ | ⟨h1,_⟩
   ·rw [h1]
    have hm:=List.mem_of_getElem? h2
    obtain ⟨o,ho⟩:=C.al l (C.ks l hm)
    cases hs : S.list l with
    | none=>exact absurd hs hv
    | some o'=>
      rcases C.sl l o' hs with ⟨i',g1,g2⟩ | ⟨g1,_⟩
      ·rw [h1] at g1
       cases g1
       obtain ⟨q1,q2⟩:=C.row i l h2 (bY.live_of g2)
       exact ⟨bY.live_of ho,q1,q2,.inl hm⟩
      ·rw [h1] at g1;cases g1
   ·exact absurd hu (C.freshL l (by omega) (by omega))
   ·rw [h1]
    cases hs : S.list l with
    | none=>exact absurd hs hv
    | some o=>
      rcases C.sl l o hs with ⟨i,g1,_⟩ | ⟨_,g2,g3⟩
      ·rw [h1] at g1;cases g1
      ·exact ⟨bY.live_of g3,rfl,rfl,.inr (.inr λr hr=>⟨hr,(C.mine (.inr (.inl ⟨l,o,g3,hr⟩)) (C.rowOut g3 g2 hr)).1⟩)⟩}
 exact fG.kept C.kk Cr h
theorem aAW.boxOf (C : aAW m c kp bs ls kl n k n' k' S) (h : S.box x=some cs) :
 (∃ i cs0,gP bs n k x=some i∧c.s.box i=some cs0∧(m.back c bs kl n k n' k' S).ρ.box x=c.ρ.box i)∨(gP bs n k x=none∧(∃ cs0,m.s.box x=some cs0∧cs=cs0.map (eE kp kl))∧x∉bs∧(m.back c bs kl n k n' k' S).ρ.box x=m.ρ.box x):=by
 rcases C.sb x cs h with ⟨i,cs0,h1,h2,_⟩ | ⟨h1,h2⟩
 ·refine .inl ⟨i,cs0,h1,h2,?_⟩
  show (match gP bs n k x with | some i=>c.ρ.box i | none=>m.ρ.box x)=_
  rw [h1]
 ·refine .inr ⟨h1,h2,?_,?_⟩
  ·rcases iD bs n k x with ⟨i,g1,_⟩ | ⟨i,g1,_⟩ | ⟨_,g2,_⟩
   ·rw [h1] at g1;cases g1
   ·rw [h1] at g1;cases g1
   ·exact g2
  ·show (match gP bs n k x with | some i=>c.ρ.box i | none=>m.ρ.box x)=_
   rw [h1]
theorem aAW.rowOf (C : aAW m c kp bs ls kl n k n' k' S) (h : S.list x=some o) :
 (∃ i,gP kl n' k' x=some i∧c.s.list i=some o∧(m.back c bs kl n k n' k' S).ρ.fp x=c.ρ.fp i∧(m.back c bs kl n k n' k' S).ρ.hdr x=c.ρ.hdr i∧(m.back c bs kl n k n' k' S).ρ.ty x=c.ρ.ty i)∨
 (gP kl n' k' x=none∧m.s.list x=some o∧x∉ls∧(m.back c bs kl n k n' k' S).ρ.fp x=m.ρ.fp x∧(m.back c bs kl n k n' k' S).ρ.hdr x=m.ρ.hdr x∧(m.back c bs kl n k n' k' S).ρ.ty x=m.ρ.ty x):=by
 rcases C.sl x o h with ⟨i,h1,h2⟩ | ⟨h1,h2,h3⟩
 ·refine .inl ⟨i,h1,h2,?_,?_,?_⟩
  ·show (match gP kl n' k' x with | some i=>c.ρ.fp i | none=>m.ρ.fp x)=_
   rw [h1]
  ·show (match gP kl n' k' x with | some i=>c.ρ.hdr i | none=>m.ρ.hdr x)=_
   rw [h1]
  ·show (match gP kl n' k' x with | some i=>c.ρ.ty i | none=>m.ρ.ty x)=_
   rw [h1]
 ·refine .inr ⟨h1,h3,h2,?_,?_,?_⟩
  ·show (match gP kl n' k' x with | some i=>c.ρ.fp i | none=>m.ρ.fp x)=_
   rw [h1]
  ·show (match gP kl n' k' x with | some i=>c.ρ.hdr i | none=>m.ρ.hdr x)=_
   rw [h1]
  ·show (match gP kl n' k' x with | some i=>c.ρ.ty i | none=>m.ρ.ty x)=_
   rw [h1]
theorem aQb (hn : bs.Nodup) (hx : gP bs n k x=some i) (hy : gP bs n k y=some i) : x=y:=by
 have hlt : ∀ {z i},bs[i]? = some z→i<bs.length:=λh=>(List.getElem?_eq_some_iff.1 h).1
 rcases iD bs n k x with ⟨i1,a1,a2⟩ | ⟨i1,a1,a2,_,_⟩ | ⟨a1,_⟩<;>rw [hx] at a1<;>first | (cases a1;done) | skip
 ·cases a1
  rcases iD bs n k y with ⟨i2,b1,b2⟩ | ⟨i2,b1,b2,_,_⟩ | ⟨b1,_⟩<;>rw [hy] at b1<;>first | (cases b1;done) | skip
  ·cases b1;rw [a2] at b2;cases b2;rfl
  ·have:=hlt a2;simp at b1;omega
 ·rcases iD bs n k y with ⟨i2,b1,b2⟩ | ⟨i2,b1,b2,_,_⟩ | ⟨b1,_⟩<;>rw [hy] at b1<;>first | (cases b1;done) | skip
  ·have:=hlt b2;simp at a1 b1;omega
  ·simp at a1 b1;omega
theorem aAW.invB (C : aAW m c kp bs ls kl n k n' k' S) : sN (m.back c bs kl n k n' k' S):=by
 have oldB : ∀ {x cs},m.s.box x=some cs→x∉bs→c.w.heap[m.ρ.box x]? = m.w.heap[m.ρ.box x]?∧¬ c.Z (m.ρ.box x)∧¬ c.owned (m.ρ.box x)∧m.ρ.box x<m.w.heap.size:=λhx hn=>C.mine (.inl ⟨_,_,hx,rfl⟩) (C.boxOut hx hn)
 have oldL : ∀ {l o r},m.s.list l=some o→l∉ls→m.ρ.fp l r→c.w.heap[r]? = m.w.heap[r]?∧¬ c.Z r∧¬ c.owned r∧r<m.w.heap.size:=λhl hn hr=>C.mine (.inr (.inl ⟨_,_,hl,hr⟩)) (C.rowOut hl hn hr)
 have hZw : ∀ r,m.Z r→c.w.heap[r]? = m.w.heap[r]?:=λr hr=>C.keep r (C.inv.zlt r hr) (by
  rintro (⟨b,hb,rfl⟩ | ⟨l,hl,h⟩)
  ·obtain ⟨cs',hcs'⟩:=C.ab b hb
   exact C.inv.bz b cs' hcs' hr
  ·obtain ⟨o,ho⟩:=C.al l hl
   exact (C.inv.row l o ho).2.2.notZ r h hr)
 refine ⟨?_,?_,C.cinv.zlt,?_,?_,?_,?_,?_,?_,?_,?_,?_⟩
 ·intro x cs h
  have h : S.box x=some cs:=h
  rcases C.sb x cs h with ⟨i,cs0,h1,_⟩ | ⟨h1,cs0,h2,_⟩
  ·rcases iD bs n k x with ⟨i1,a1,a2⟩ | ⟨i1,a1,a2,a3,_⟩ | ⟨a1,_⟩
   ·obtain ⟨cs',hcs'⟩:=C.ab x (List.mem_of_getElem? a2)
    exact .inl (C.inv.ub x cs' hcs')
   ·exact .inr (by omega)
   ·rw [h1] at a1;cases a1
  ·exact .inl (C.inv.ub x cs0 h2)
 ·intro l o h
  have h : S.list l=some o:=h
  rcases C.sl l o h with ⟨i,h1,_⟩ | ⟨h1,_,h2⟩
  ·rcases iD kl n' k' l with ⟨i1,a1,a2⟩ | ⟨i1,a1,a2,a3,_⟩ | ⟨a1,_⟩
   ·obtain ⟨o',ho'⟩:=C.al l (C.ks l (List.mem_of_getElem? a2))
    exact .inl (C.inv.ul l o' ho')
   ·exact .inr (by omega)
   ·rw [h1] at a1;cases a1
  ·exact .inl (C.inv.ul l o h2)
 ·intro x cs h
  have h : S.box x=some cs:=h
  rcases C.sb x cs h with ⟨i,cs0,h1,h2,h3,h4⟩ | ⟨h1,cs0,h2,he⟩
  ·obtain ⟨vs,ety,g1,g2,g3,g4⟩:=C.cinv.box i cs0 h2
   refine ⟨vs,ety,?_,by omega,g3,λj d v hd hv=>?_⟩
   ·show c.w.heap[(match gP bs n k x with | some i=>c.ρ.box i | none=>m.ρ.box x)]? = _
    rw [h1];exact g1
   ·have hj : j<cs0.length:=by have:=(List.getElem?_eq_some_iff.1 hd).1;omega
    have hd0 : cs0[j]? = some cs0[j]:=List.getElem?_eq_getElem hj
    exact h4 j _ d v hd0 hd (g4 j _ v hd0 hv)
  ·obtain ⟨vs,ety,g1,g2,g3,g4⟩:=C.inv.box x cs0 h2
   obtain ⟨_,_,q3,q4⟩:=(C.boxOf h).resolve_left (by rintro ⟨i,cs0,e,_⟩;rw [h1] at e;cases e)
   subst he
   refine ⟨vs,ety,by rw [q4];exact (oldB h2 q3).1.trans g1,by rw [List.length_map];exact g2,g3,λj d v hd hv=>?_⟩
   rw [List.getElem?_map] at hd
   cases hj : cs0[j]? with
   | none=>rw [hj] at hd;cases hd
   | some d0=>rw [hj] at hd;cases hd;exact C.rd (g4 j d0 v hj hv)
 ·intro l o h
  have h : S.list l=some o:=h
  rcases C.rowOf h with ⟨i,h1,h2,e1,e2,e3⟩ | ⟨h1,h2,h3,e1,e2,e3⟩
  ·obtain ⟨g1,g2,g3⟩:=C.cinv.row i o h2
   rw [e1,e2,e3]
   exact ⟨g1,g2,g3⟩
  ·obtain ⟨g1,g2,g3⟩:=C.inv.row l o h2
   rw [e1,e2,e3]
   exact ⟨g1,g2,g3.frame C.zz hZw (λr hr=>(oldL h2 h3 hr).1) (λr hr=>(oldL h2 h3 hr).2.1)⟩
 ·intro x cs h
  have h : S.box x=some cs:=h
  rcases C.boxOf h with ⟨i,cs0,h1,h2,e⟩ | ⟨h1,⟨_,h2,_⟩,h3,e⟩
  ·rw [e];exact C.cinv.bz i cs0 h2
  ·rw [e];exact (oldB h2 h3).2.1
 ·intro x cs x' cs' h h' he
  have h : S.box x=some cs:=h
  have h' : S.box x'=some cs':=h'
  rcases C.boxOf h with ⟨i,cs0,h1,h2,e⟩ | ⟨h1,⟨_,h2,_⟩,h3,e⟩<;>rcases C.boxOf h' with ⟨i',cs0',h1',h2',e'⟩ | ⟨h1',⟨_,h2',_⟩,h3',e'⟩<;>rw [e,e'] at he
  ·have:=C.cinv.bb i cs0 i' cs0' h2 h2' he
   subst this
   exact aQb C.nb h1 h1'
  ·exact ((oldB h2' h3').2.2.1 (by rw [← he];exact .inl ⟨i,cs0,h2,rfl⟩)).elim
  ·exact ((oldB h2 h3).2.2.1 (by rw [he];exact .inl ⟨i',cs0',h2',rfl⟩)).elim
  ·exact C.inv.bb x _ x' _ h2 h2' he
 ·intro x cs l o h h'
  have h : S.box x=some cs:=h
  have h' : S.list l=some o:=h'
  rcases C.boxOf h with ⟨i,cs0,h1,h2,e⟩ | ⟨h1,⟨_,h2,_⟩,h3,e⟩<;>rcases C.rowOf h' with ⟨i',h1',h2',e1,_⟩ | ⟨h1',h2',h3',e1,_⟩<;>rw [e,e1]
  ·exact C.cinv.bl i cs0 i' o h2 h2'
  ·exact λhr=>(oldL h2' h3' hr).2.2.1 (.inl ⟨i,cs0,h2,rfl⟩)
  ·exact λhr=>(oldB h2 h3).2.2.1 (.inr (.inl ⟨i',o,h2',hr⟩))
  ·exact C.inv.bl x _ l o h2 h2'
 ·intro l o l' o' r h h' hr hr'
  have h : S.list l=some o:=h
  have h' : S.list l'=some o':=h'
  rcases C.rowOf h with ⟨i,h1,h2,e1,_⟩ | ⟨h1,h2,h3,e1,_⟩<;>rcases C.rowOf h' with ⟨i',h1',h2',e1',_⟩ | ⟨h1',h2',h3',e1',_⟩<;>rw [e1] at hr<;>rw [e1'] at hr'
  ·have:=C.cinv.ll i o i' o' r h2 h2' hr hr'
   subst this
   exact aQb C.kn h1 h1'
  ·exact ((oldL h2' h3' hr').2.2.1 (.inr (.inl ⟨i,o,h2,hr⟩))).elim
  ·exact ((oldL h2 h3 hr).2.2.1 (.inr (.inl ⟨i',o',h2',hr'⟩))).elim
  ·exact C.inv.ll l o l' o' r h2 h2' hr hr'
 ·intro r hr
  obtain ⟨_,q2,_,q4⟩:=C.mine (.inr (.inr hr)) (C.LOut hr)
  exact ⟨q2,Nat.lt_of_lt_of_le q4 C.size⟩
 ·intro x cs h hL
  have h : S.box x=some cs:=h
  have hL : m.L _:=hL
  rcases C.boxOf h with ⟨i,cs0,h1,h2,e⟩ | ⟨h1,⟨_,h2,_⟩,h3,e⟩<;>rw [e] at hL
  ·exact (C.mine (.inr (.inr hL)) (C.LOut hL)).2.2.1 (.inl ⟨i,cs0,h2,rfl⟩)
  ·exact C.inv.Lb x _ h2 hL
 ·intro l o r h hr hL
  have h : S.list l=some o:=h
  have hL : m.L r:=hL
  rcases C.rowOf h with ⟨i,h1,h2,e1,_⟩ | ⟨h1,h2,h3,e1,_⟩<;>rw [e1] at hr
  ·exact (C.mine (.inr (.inr hL)) (C.LOut hL)).2.2.1 (.inr (.inl ⟨i,o,h2,hr⟩))
  ·exact C.inv.Ll l o r h2 hr hL
theorem aAW.inCall (C : aAW m c kp bs ls kl n k n' k' S) (h : (∃ b∈bs,r=m.ρ.box b)∨(∃ l∈ls,m.ρ.fp l r)) : m.owned r:=by
 rcases h with ⟨b,hb,rfl⟩ | ⟨l,hl,h⟩
 ·obtain ⟨cs',hcs'⟩:=C.ab b hb
  exact .inl ⟨b,cs',hcs',rfl⟩
 ·obtain ⟨o,ho⟩:=C.al l hl
  exact .inr (.inl ⟨l,o,ho,h⟩)
theorem aAW.step (C : aAW m c kp bs ls kl n k n' k' S) {N : Nat} (h1 : N≤n) (h2 : n+k≤N+16) (h3 : N≤n') (h4 : n'+k'≤N+16) : jH m (m.back c bs kl n k n' k' S) (eE kp kl) N where
 inv:=C.invB
 rd:=λd v h=>C.rd h
 size:=C.size
 os:=C.os
 tape:=C.tape
 output:=C.output
 keep:=λr hr ho=>C.keep r hr (λh=>ho (C.inCall h))
 own:=λr hr=>by
  rcases hr with ⟨x,cs,hx,rfl⟩ | ⟨l,o,hl,hf⟩ | hL
  ·rcases C.boxOf hx with ⟨i,cs0,g1,g2,e⟩ | ⟨g1,⟨_,g2,_⟩,g3,e⟩<;>rw [e]
   ·rcases C.own _ (.inl ⟨i,cs0,g2,rfl⟩) with h | h
    ·exact .inl (C.inCall h)
    ·exact .inr h
   ·exact .inl (.inl ⟨x,_,g2,rfl⟩)
  ·rcases C.rowOf hl with ⟨i,g1,g2,e,_⟩ | ⟨g1,g2,g3,e,_⟩<;>rw [e] at hf
   ·rcases C.own _ (.inr (.inl ⟨i,o,g2,hf⟩)) with h | h
    ·exact .inl (C.inCall h)
    ·exact .inr h
   ·exact .inl (.inr (.inl ⟨l,o,g2,hf⟩))
  ·exact .inl (.inr (.inr hL))
 z:=λr hr=>by
  rcases C.z r hr with h | h | h
  ·exact .inl h
  ·exact .inr (.inl (C.inCall h))
  ·exact .inr (.inr h)
 zz:=C.zz
 ub:=λb hb=>hb.imp id (λh=>by omega)
 ul:=λl hl=>hl.imp id (λh=>by omega)
 mub:=λb hb=>by
  refine ⟨.inl hb,?_⟩
  show (match gP bs n k b with | some i=>c.ρ.box i | none=>m.ρ.box b)=_
  rcases iD bs n k b with ⟨i,h1,h2⟩ | ⟨i,h1,h2,h3,h4⟩ | ⟨h1,_⟩
  ·rw [h1];exact C.box i b h2
  ·exact absurd hb (C.freshB b (by omega) (by omega))
  ·rw [h1]
 mul:=λl hl=>.inl hl
 bx:=λb cs hb=>C.sbx b ⟨cs,hb⟩
 hd:=λl hu hv=>by
  cases hs : S.list l with
  | none=>exact absurd hs hv
  | some o=>
    rcases C.rowOf hs with ⟨i,g1,g2,_⟩ | ⟨g1,g2,g3,e1,e2,e3⟩
    ·rcases iD kl n' k' l with ⟨i1,a1,a2⟩ | ⟨i1,a1,a2,a3,_⟩ | ⟨a1,_⟩
     ·rw [g1] at a1
      cases a1
      rename_i e1
      obtain ⟨o',ho'⟩:=C.al l (C.ks l (List.mem_of_getElem? a2))
      obtain ⟨q1,q2⟩:=C.row i l a2 (bY.live_of g2)
      exact ⟨bY.live_of ho',e1.2.1.trans q1,e1.2.2.trans q2⟩
     ·exact absurd hu (C.freshL l (by omega) (by omega))
     ·rw [g1] at a1;cases a1
    ·exact ⟨bY.live_of g2,e2,e3⟩
end
end
end Go.Proofs.YtllmobkkbpdchaaGreatDoor
