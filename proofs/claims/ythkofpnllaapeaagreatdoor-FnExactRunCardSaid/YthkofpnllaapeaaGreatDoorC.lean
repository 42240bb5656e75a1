/-
  Texts of the proof, part 3: a value-level evaluator and its soundness, what the functions compute, laws about it.
  Conditions: none.
-/
import Derived.Test.YthkofpnllaapeaaGreatDoorB
import Derived.Calls
import Derived.KernelRfl
import Derived.Orders
import Derived.Test.YthkofpnllaapeaaGreatDoorProg
import Derived.Lib.AppendIntMem
import Derived.Lib.ItoaNum
import Derived.Laws.IdiomCopy
import Derived.Laws.Cells
import Derived.Below
import Derived.Laws.StructEq
import Derived.Laws.BytesString
import Derived.Laws.NewFold
import Derived.Laws.Tables
import Derived.Great.FillDense
set_option linter.all false
namespace Go.Proofs.YthkofpnllaapeaaGreatDoor
open Go
def eZ (n s : Nat) (cv : Nat→Nat→Value) : List Value:=(List.range (n*s)).map fun k=>cv (k / s) (k % s)
theorem eS (n s : Nat) (cv : Nat→Nat→Value) : (eZ n s cv).length=n*s:=by simp [eZ]
theorem sD {n s i j : Nat} (hi : i<n) (hj : j<s) : i*s+j<n*s:=by
  have : (i+1)*s≤n*s:=Nat.mul_le_mul_right _ hi
  rw [Nat.succ_mul] at this
  omega
theorem tT {n s : Nat} {cv : Nat→Nat→Value} {i j : Nat} (hi : i<n) (hj : j<s) : (eZ n s cv)[i*s+j]? = some (cv i j):=by
  have hlt:=sD hi hj
  unfold eZ
  rw [List.getElem?_map,List.getElem?_range hlt]
  have hs : 0<s:=by omega
  have h1 : (i*s+j) / s=i:=by
    rw [Nat.mul_comm,Nat.mul_add_div hs,Nat.div_eq_of_lt hj,Nat.add_zero]
  have h2 : (i*s+j) % s=j:=by
    rw [Nat.mul_comm,Nat.mul_add_mod,Nat.mod_eq_of_lt hj]
  simp [h1,h2]
theorem aCv {n s : Nat} {cv : Nat→Nat→Value} {k : Nat} {v : Value} (h : (eZ n s cv)[k]? = some v) : ∃ i j,i<n∧j<s∧k=i*s+j∧v=cv i j:=by
  have hk:=(List.getElem?_eq_some_iff.1 h).1
  rw [eS] at hk
  have hs : 0<s:=by
    cases s with
    | zero=>simp at hk
    | succ s=>omega
  have h1 : k / s<n:=(Nat.div_lt_iff_lt_mul hs).2 hk
  have h2 : k % s<s:=Nat.mod_lt _ hs
  have h3 : k=k / s*s+k % s:=by rw [Nat.mul_comm,Nat.div_add_mod]
  refine ⟨k / s,k % s,h1,h2,h3,?_⟩
  rw [h3,tT h1 h2] at h
  exact (Option.some.inj h).symm
section
variable {P : Program} {X : Cx}
theorem aGq {w w' : World} {s n len b off cap : Nat} {cells : Array Value} {ety : TypeId} {fz : Nat × Nat} {cv : Nat→Nat→Value} (hw : w'.heap=w.heap) (hh : w.heap[b]? = some (.cells cells ety fz))
    (hc : ∀ i j : Nat,i<len→j<s→cells[off+i*s+j]? = some (cv i j)) (hn : n≤len) :
    (Builtin.firstCells s n (.slice (some ⟨b,off,none⟩) len cap)).run P w' = .ok (eZ n s cv).toArray w':=by
  refine run_firstCells_some (P:=P) w' s n ⟨b,off,none⟩ _ cap _ (eS _ _ _) (fun k v hk=>?_)
  obtain ⟨i,j,hi,hj,rfl,rfl⟩:=aCv hk
  rw [gU]
  exact rY (by rw [hw];exact hh) (by rw [← Nat.add_assoc];exact hc i j (by omega) hj)
theorem aDn {s len cap : Nat} {w : World} {cv : Nat→Nat→Value} {x : Option Addr} : (Builtin.firstCells s 0 (.slice x len cap)).run P w = .ok (eZ 0 s cv).toArray w:=by
  have : eZ 0 s cv = []:=by simp [eZ]
  rw [this]
  cases x with
  | none=>simp [Builtin.firstCells]
  | some a=>simpa using run_firstCells_some (P:=P) w s 0 a len cap [] (by simp) (by simp)
structure aN1 (P : Program) (m m1 : aR) (o : OTy) (ys : List PV) (vd : Value) (dv : Nat→Nat→Value) (gp : Nat→Nat→Nat→Prop) : Prop where
  w : m1.w=m.w
  els : Els m1.w m1.Z o ys dv gp
  len : ∀ w' : World,(Builtin.lenOf vd).run P w' = .ok ys.length w'
  first : ∀ w' : World,w'.heap=m.w.heap→(Builtin.firstCells o.s ys.length vd).run P w' = .ok (eZ ys.length o.s dv).toArray w'
  own : ∀ i j r : Nat,i<ys.length→j<o.s→gp i j r→m1.L r
theorem aDE {o : OTy} (ho : o.isLeaf=false) (hs : 0<o.s) {d : DV} {s : St} {k : PV→St→Option R} {r : R} (h : appendedK o d s k=some r) :
    ∃ y s1,k y s1=some r∧s1.nl=s.nl∧∀ ys,PV.elems y=some ys→ys.all (PV.isEl o.s o.g)=true→∀ (n : Nat) (m : aR) (B L WB WL : Nat→Prop),mB m s B L n→(∀ l∈lsOf (deep+1) d,L l∧WL l)→∀ vd,m.rd d vd→
      ∃ m1 dv gp,bK m m1 s s1 B L WB WL n id∧aN1 P m m1 o ys vd dv gp:=by
  unfold appendedK at h
  split at h
  · rename_i hp
    obtain ⟨y,hk,H⟩:=uJ h
    refine ⟨y,s,hk,rfl,fun ys hy hall n m B L WB WL sit hL vd hvd=>?_⟩
    have hfoot : ∀ l∈(rowFoot d).rl,l∈lsOf (deep+1) d:=by
      intro l hl
      cases d<;>simp [rowFoot,Foot.none] at hl
      · subst hl;exact mem_ref _ _ _
      · subst hl;exact mem_sref _ _ _ _ _
      · subst hl;exact mem_eptr _ _ _ _ _
    obtain ⟨dv,E,h1,h2⟩:=(H m sit.inv (fun l hl=>sit.al l (.inl (hL l (hfoot l hl)).1)) (by rw [hy];simp) vd hvd).els (P:=P) hy hp hall hs
    exact ⟨m,dv,_,bK.refl WB WL sit,⟨rfl,E,h1,fun w' hw=>h2 w' hw _ (Nat.le_refl _),fun _ _ _ _ _ h=>h.elim⟩⟩
  · obtain ⟨y,ls,hk,hls,H⟩:=sinkAs_sound h
    refine ⟨y,_,hk,wP _ _,fun ys hy hall n m B L WB WL sit hL vd hvd=>?_⟩
    have hin : ∀ l∈lsOf deep d,l∈lsOf (deep+1) d:=fun l hl=>nQ deep hl
    obtain ⟨m1,F,sk,hro,hF⟩:=H n m L sit.inv (fun l h=>sit.al l (.inl h)) (fun l hl=>(hL l (hin l hl)).1) vd hvd
    have G:=sk.goes (B:=B) (L:=L) (WL:=WL) WB sit (fun l hl=>.inl (hL l (hin l (hls l hl))).1) (fun l hl=>.inl (hL l (hin l (hls l hl))).2)
    have hyl : y = .lst ys:=by
      cases hy' : y with
      | lst xs=>rw [hy'] at hy;simp [PV.elems] at hy;rw [hy]
      | str b=>
        exfalso
        rw [hy'] at hro
        cases hro
        cases ho
      | _=>rw [hy'] at hy;simp [PV.elems] at hy
    subst hyl
    rcases hro.els ho with ⟨rfl,_,rfl⟩ | ⟨b,off,cap,cells,ety,cv,fp,rfl,hh,_,_,_,_,_,hc,E,hfp⟩
    · exact ⟨m1,fun _ _=>undef,fun _ _ _=>False,G,⟨sk.w,Els.nil _ _ _,fun _=>rfl,fun w' _=>aDn,fun _ _ _ hi=>by simp at hi⟩⟩
    · exact ⟨m1,cv,fp,G,⟨sk.w,E,fun _=>rfl,fun w' hw=>aGq hw (by rw [← sk.w];exact hh) hc (Nat.le_refl _),fun i j r hi hj h=>(hF r (hfp i j r hi hj h).1).1⟩⟩
theorem aEu (hT : X.T=tabOf P) {o : OTy} {t : Nat} (h : fits X o t=true) : o.isLeaf=false∧o.s=((tabOf P).at t).size∧o.e=((tabOf P).at t).bytes∧o.g=((tabOf P).at t).isAgg∧0<o.s∧0<o.e∧
    X.zok t=true∧(zeroCells (tabOf P) 20 t).length=((tabOf P).at t).size∧(((tabOf P).at t).isAgg=true∨((tabOf P).at t).size=1):=by
  unfold fits at h
  simp only [Bool.and_eq_true,Bool.or_eq_true,Bool.not_eq_true',beq_iff_eq,hT] at h
  obtain ⟨⟨⟨⟨⟨⟨⟨⟨h1,h2⟩,h3⟩,h4⟩,h5⟩,h6⟩,h7⟩,h8⟩,h9⟩:=h
  exact ⟨h1,bH h2,bH h3,h4,mC h5,mC h6,h7,bH h8,h9.imp id bH⟩
theorem tU (hz : iU P X.zok) {t : Nat} (hk : X.zok t=true) (hl : (zeroCells (tabOf P) 20 t).length=((tabOf P).at t).size) (h1 : ((tabOf P).at t).isAgg=true∨((tabOf P).at t).size=1) (hs : ((tabOf P).at t).size≠0) :
    ∃ i,P.info? t=some i∧i.zero=some (zeroVal (tabOf P) t)∧i.size=((tabOf P).at t).size∧i.bytes=((tabOf P).at t).bytes∧(zeroVal (tabOf P) t).cells.size=((tabOf P).at t).size:=by
  obtain ⟨i,d,hi,_,hr⟩:=Tab.known (P:=P) (t:=t) (.inl hs)
  have h:=hz t hk
  rw [hi] at h
  refine ⟨i,hi,h,by rw [hr],by rw [hr],?_⟩
  have:=kW (T:=tabOf P) hl h1
  rw [← Array.length_toList,this,List.length_map,hl]
theorem aG4 {s e : Nat} {g : Bool} {c d y : PV} (h : PV.cat s e g c d=some y) : ∃ xs ys,PV.elems c=some xs∧PV.elems d=some ys∧(xs.length+ys.length)*e≤2 ^ 47∧ys.all (PV.isEl s g)=true∧y = .lst (xs++ys):=by
  unfold PV.cat at h
  split at h
  · rename_i xs ys h1 h2
    split at h
    · rename_i hc
      cases h
      exact ⟨xs,ys,h1,h2,hc.1,hc.2,rfl⟩
    · cases h
  · cases h
theorem vS (z : Array Value) (n : Nat) : (Builtin.zeroCells z n).size=n*z.size:=by simp [Builtin.zeroCells]
theorem aEv (hz : iU P X.zok) {o : OTy} {te : Nat} (hlf : o.isLeaf=false) (hos : o.s=((tabOf P).at te).size) (hoe : o.e=((tabOf P).at te).bytes) (hspos : 0<o.s) (hepos : 0<o.e) (hzk : X.zok te=true)
    (hzl : (zeroCells (tabOf P) 20 te).length=((tabOf P).at te).size) (hz1 : ((tabOf P).at te).isAgg=true∨((tabOf P).at te).size=1) {xs ys : List PV} {vb vd : Value} {dv : Nat→Nat→Value} {gp : Nat→Nat→Nat→Prop} {F : Nat→Prop}
    {n : Nat} {B L WB WL : Nat→Prop} {m2 : aR} {s2 : St} {w0 : World} (hw2 : m2.w=w0) (sit2 : mB m2 s2 B L n) (hn' : s2.nl<n+16) (hro : bY m2.w m2.Z o (.lst xs) vb F) (hF : ∀ r,F r→m2.L r)
    (hD : Els m2.w m2.Z o ys dv gp) (hgF : ∀ i j r : Nat,i<ys.length→j<o.s→gp i j r→m2.L r∧¬ F r) (hlenS : ∀ w' : World,(Builtin.lenOf vd).run P w' = .ok ys.length w')
    (hfirstS : ∀ w' : World,w'.heap=w0.heap→(Builtin.firstCells o.s ys.length vd).run P w' = .ok (eZ ys.length o.s dv).toArray w') (hbound : (xs.length+ys.length)*o.e≤2 ^ 47)
    {t u ty : TypeId} (ht : P.underlying t=some (.slice te)) (hu : (∃ f,P.underlying u=some (.slice f))∨P.underlying u=some .string) :
    ∃ v m',(Builtin.append_ #[t,u] ty #[vb,vd]).run P w0 = .ok v m'.w∧bK m2 m' s2 (s2.addList ⟨o,.lst (xs++ys)⟩) B L WB WL n id∧m'.rd (.ref s2.nl []) v:=by
  have hszne : ((tabOf P).at te).size≠0:=by rw [← hos];omega
  obtain ⟨i,hi,hiz,his,hib,hizs⟩:=tU hz hzk hzl hz1 hszne
  rw [← hos] at his hizs
  rw [← hoe] at hib
  have hlenw:=hlenS w0
  have hle1 : (xs.length+ys.length)≤2 ^ 47:=Nat.le_trans (Nat.le_mul_of_pos_right _ hepos) hbound
  have grow : ∀ (cv : Nat→Nat→Value) (fp : Nat→Nat→Nat→Prop) (base : Option Addr) (cap : Nat),vb = .slice base xs.length cap→cap<xs.length+ys.length→Els m2.w m2.Z o xs cv fp→
      (∀ i j r : Nat,i<xs.length→j<o.s→fp i j r→F r)→(∀ w' : World,w'.heap=w0.heap→(Builtin.firstCells o.s xs.length vb).run P w' = .ok (eZ xs.length o.s cv).toArray w')→
      ∃ v m',(Builtin.append_ #[t,u] ty #[vb,vd]).run P w0 = .ok v m'.w∧bK m2 m' s2 (s2.addList ⟨o,.lst (xs++ys)⟩) B L WB WL n id∧m'.rd (.ref s2.nl []) v:=by
    intro cv fp base cap hvb' hcap E hfp hfirst
    subst hvb'
    have hrun:=zP (P:=P) (w:=w0) (ty:=ty) (z:=zeroVal (tabOf P) te) ht hu hi hiz (base:=base) (sLen:=xs.length) (sCap:=cap) (x:=vd) (n:=ys.length) (olds:=eZ xs.length o.s cv) (news:=eZ ys.length o.s dv) hlenw
      (by rw [his];exact hfirstS _ rfl) (by rw [his];exact hfirst _ rfl) hcap (by omega) (growslice_fits hcap (by rw [hib];exact hbound))
    generalize hcp : grownCap w0 (xs.length+ys.length) cap te=cp at hrun
    have hge : xs.length+ys.length≤cp:=by rw [← hcp];exact grownCap_ge _ _ _ _
    generalize hcl : ((eZ xs.length o.s cv).toArray++(eZ ys.length o.s dv).toArray++Builtin.zeroCells (zeroVal (tabOf P) te).cells (cp - (xs.length+ys.length)) : Array Value)=cells at hrun
    have hcs : cells.size=cp*o.s:=by
      rw [← hcl]
      simp only [Array.size_append,List.size_toArray,eS,vS,hizs,← Nat.add_mul]
      congr 1
      omega
    have hold : ∀ r,r<m2.w.heap.size→(w0.drew.alloc (.cells cells te)).heap[r]? = m2.w.heap[r]?:=fun r hr=>by
      rw [hw2] at hr ⊢
      exact heap_alloc_old w0.drew _ r hr
    have hnew : (w0.drew.alloc (.cells cells te)).heap[w0.heap.size]? = some (.cells cells te (0,0)):=heap_alloc_new w0.drew _
    have hEE:=(E.append hD (fun i j i' j' r h1 h2 h3 h4 h5 h6=>(hgF i' j' r h3 h4 h6).2 (hfp i j r h1 h2 h5))).frame (w':=w0.drew.alloc (.cells cells te)) (Z':=m2.Z) (fun _ h=>h) (fun r hr=>hold r (sit2.inv.zlt r hr))
      (fun i j r hi' hj hr=>by
        have hLr : m2.L r:=by
          by_cases h : i<xs.length
          · simp only [h,if_true] at hr;exact hF r (hfp i j r h hj hr)
          · simp only [h,if_false] at hr
            exact (hgF _ j r (by rw [List.length_append] at hi';omega) hj hr).1
        exact ⟨hold r (sit2.inv.Lz r hLr).2,(sit2.inv.Lz r hLr).1⟩)
    have hro':=hEE.repO hlf hspos (b:=w0.heap.size) (off:=0) (cap:=cp) hnew (by omega) (by rw [List.length_append];exact hge) (fun hzr=>by have:=sit2.inv.zlt _ hzr;rw [hw2] at this;omega)
      (fun i j hi' hj=>by
        rw [List.length_append] at hi'
        rw [← hcl,Nat.zero_add]
        by_cases h : i<xs.length
        · simp only [h,if_true]
          rw [Array.append_assoc,Array.getElem?_append_left (by simp [eS];exact sD h hj)]
          simpa using tT h hj
        · simp only [h,if_false]
          obtain ⟨q,rfl⟩ : ∃ q,i=xs.length+q:=⟨i - xs.length,by omega⟩
          rw [Nat.add_mul]
          rw [Array.append_assoc,Array.getElem?_append_right (by simp [eS];omega),Array.getElem?_append_left (by simp [eS];have:=sD (show q<ys.length by omega) hj;omega)]
          simp only [List.size_toArray,eS]
          rw [show xs.length*o.s+q*o.s+j - xs.length*o.s=q*o.s+j by omega,show xs.length+q - xs.length=q by omega]
          simpa using tT (show q<ys.length by omega) hj)
      (fun i j hi' hj hr=>by
        have hLr : m2.L w0.heap.size:=by
          by_cases h : i<xs.length
          · simp only [h,if_true] at hr;exact hF _ (hfp i j _ h hj hr)
          · simp only [h,if_false] at hr
            exact (hgF _ j _ (by rw [List.length_append] at hi';omega) hj hr).1
        have:=(sit2.inv.Lz _ hLr).2
        rw [hw2] at this
        omega)
    have G3:=bK.addRow (B:=B) (L:=L) WB WL sit2 hn' (w':=w0.drew.alloc (.cells cells te)) (own:=⟨o,.lst (xs++ys)⟩) (hdr:=.slice (some ⟨w0.heap.size,0,none⟩) (xs++ys).length cp) hlf hro'
      (fun r hr=>by
        rcases hr with rfl | ⟨i,j,hi',hj,hr⟩
        · right;rw [hw2];exact Nat.le_refl _
        · left
          by_cases h : i<xs.length
          · simp only [h,if_true] at hr;exact hF r (hfp i j r h hj hr)
          · simp only [h,if_false] at hr
            exact (hgF _ j r (by rw [List.length_append] at hi';omega) hj hr).1)
      (fun r hr _=>hold r hr) (by rw [hw2];simp) (by rw [hw2];rfl) (by rw [hw2];rfl) (by rw [hw2];rfl)
    refine ⟨_,_,?_,G3,aR.addRow_rd trivial⟩
    rw [hrun,List.length_append]
    rfl
  rcases hro.els hlf with ⟨rfl,adr,rfl⟩ | ⟨b,off,cap,cells,ety,cv,fp,rfl,hh,_,hroom,hlen,hnz,hbF,hc,E,hfp⟩
  · by_cases hy0 : ys.length=0
    · have hys : ys = []:=List.eq_nil_of_length_eq_zero hy0
      subst hys
      have hrun:=zO (P:=P) (w:=w0) (ty:=ty) (a:=adr) ht hu hi (news:=eZ 0 o.s dv) hlenw (by simp [eZ]) (by rw [his];exact hfirstS _ rfl)
      have hro0 : bY m2.w m2.Z o (.lst ([]++[])) (.slice adr 0 0) (fun _=>False):=by
        cases o with
        | leaf=>cases hlf
        | own s e g cts=>exact .nil s e g cts _ adr (fun _ h=>h)
      have G3:=bK.addRow (B:=B) (L:=L) WB WL sit2 hn' (w':=m2.w) (own:=⟨o,.lst ([]++[])⟩) (hdr:=.slice adr 0 0) hlf hro0 (fun _ h=>h.elim) (fun _ _ _=>rfl) (Nat.le_refl _) rfl rfl rfl
      refine ⟨_,_,?_,G3,aR.addRow_rd trivial⟩
      rw [hrun]
      show _=Result.ok _ m2.w
      rw [hw2]
    · exact grow (fun _ _=>undef) (fun _ _ _=>False) adr 0 rfl (by simp;omega) (Els.nil _ _ _) (fun _ _ _ _ _ h=>h.elim) (fun w' _=>aDn)
  · by_cases hroom' : xs.length+ys.length≤cap
    · have hcap2 : (xs.length+ys.length)*o.s≤cap*o.s:=Nat.mul_le_mul_right _ hroom'
      have hadd : (xs.length+ys.length)*o.s=xs.length*o.s+ys.length*o.s:=Nat.add_mul _ _ _
      have hhw : w0.heap[b]? = some (.cells cells ety (0,0)):=by rw [← hw2];exact hh
      have hst:=run_storeCells_cells (P:=P) b (off+xs.length*i.size) (eZ ys.length o.s dv) 0 w0 (fun j hj=>by
          rw [eS] at hj
          have hlt : off+xs.length*o.s+j<cells.size:=by omega
          have : w0.cell? ⟨b,off+xs.length*i.size+0+j,none⟩=some cells[off+xs.length*o.s+j]:=rY hhw (by rw [his];exact Array.getElem?_eq_getElem hlt)
          rw [this];rfl) (fun j _=>by simp [World.frozen?,hhw]) (fun v hv=>by
          obtain ⟨k,hk⟩:=List.getElem?_of_mem hv
          obtain ⟨i',j',h1,h2,_,rfl⟩:=aCv hk
          exact aAu (hD.one i' j' h1 h2))
      simp only [Nat.add_zero] at hst
      have hrun:=zN (P:=P) (w:=w0) (ty:=ty) (b:=b) (off:=off) (sCap:=cap) ht hu hi hlenw (by rw [his];exact hfirstS _ rfl) hroom' hst
      rw [his] at hrun
      obtain ⟨cells',c1,c2,c3,c4⟩:=kV (eZ ys.length o.s dv) (off+xs.length*o.s) w0 cells hhw (by rw [eS];omega)
      obtain ⟨e1,e2,e3,e4⟩:=kU (eZ ys.length o.s dv) b (off+xs.length*o.s) w0
      have hne : ∀ r,r≠b→(w0.setCells b (off+xs.length*o.s) (eZ ys.length o.s dv)).heap[r]? = m2.w.heap[r]?:=fun r hr=>by rw [hw2];exact eL hr _ _ w0
      have hbL:=hF b hbF
      have fpne : ∀ i j r : Nat,i<(xs++ys).length→j<o.s→(if i<xs.length then fp i j r else gp (i - xs.length) j r)→m2.L r∧r≠b:=by
        intro i j r hi' hj hr
        by_cases h : i<xs.length
        · simp only [h,if_true] at hr
          exact ⟨hF r (hfp i j r h hj hr).1,(hfp i j r h hj hr).2⟩
        · simp only [h,if_false] at hr
          have:=hgF _ j r (by rw [List.length_append] at hi';omega) hj hr
          exact ⟨this.1,fun e=>this.2 (e▸hbF)⟩
      have hEE:=(E.append hD (fun i j i' j' r h1 h2 h3 h4 h5 h6=>(hgF i' j' r h3 h4 h6).2 (hfp i j r h1 h2 h5).1)).frame (w':=w0.setCells b (off+xs.length*o.s) (eZ ys.length o.s dv)) (Z':=m2.Z) (fun _ h=>h)
        (fun r hr=>hne r (fun e=>hnz (e▸hr)))
        (fun i j r hi' hj hr=>⟨hne r (fpne i j r hi' hj hr).2,(sit2.inv.Lz r (fpne i j r hi' hj hr).1).1⟩)
      have hro':=hEE.repO hlf hspos (b:=b) (off:=off) (cap:=cap) c1 (by rw [c2];exact hroom) (by rw [List.length_append];exact hroom') hnz
        (fun i j hi' hj=>by
          rw [List.length_append] at hi'
          by_cases h : i<xs.length
          · simp only [h,if_true]
            rw [c4 _ (.inl (by have:=sD h hj;omega))]
            exact hc i j h hj
          · simp only [h,if_false]
            obtain ⟨q,rfl⟩ : ∃ q,i=xs.length+q:=⟨i - xs.length,by omega⟩
            rw [Nat.add_mul,show off+(xs.length*o.s+q*o.s)+j=off+xs.length*o.s+(q*o.s+j) by omega,
              c3 _ (by rw [eS];exact sD (by omega) hj),show xs.length+q - xs.length=q by omega]
            exact tT (by omega) hj)
        (fun i j hi' hj hr=>(fpne i j b hi' hj hr).2 rfl)
      have G3:=bK.addRow (B:=B) (L:=L) WB WL sit2 hn' (w':=w0.setCells b (off+xs.length*o.s) (eZ ys.length o.s dv)) (own:=⟨o,.lst (xs++ys)⟩) (hdr:=.slice (some ⟨b,off,none⟩) (xs++ys).length cap) hlf hro'
        (fun r hr=>by
          rcases hr with rfl | ⟨i,j,hi',hj,hr⟩
          · exact .inl hbL
          · exact .inl (fpne i j r hi' hj hr).1)
        (fun r hr hnL=>hne r (fun e=>hnL (e▸hbL))) (by rw [e1,hw2];exact Nat.le_refl _) (by rw [e2,hw2]) (by rw [e3,hw2]) (by rw [e4,hw2])
      refine ⟨_,_,?_,G3,aR.addRow_rd trivial⟩
      rw [hrun,List.length_append]
      rfl
    · exact grow cv fp (some ⟨b,off,none⟩) cap rfl (by omega) E (fun i j r h1 h2 h3=>(hfp i j r h1 h2 h3).1) (fun w' hw=>aGq hw (by rw [← hw2];exact hh) hc (Nat.le_refl _))
theorem bK.setRowH {m : aR} {s : St} {B L WL : Nat→Prop} (WB : Nat→Prop) {n : Nat} (h : mB m s B L n) {l : Nat} (hL : L l) (hW : WL l) {w0 : Own} {root : PV} {F' : Nat→Prop} (hl : s.list l=some w0)
    (hsh : w0.o.shallow=true) (hro : bY m.w m.Z w0.o root (m.ρ.hdr l) F') (hF' : ∀ r,F' r→m.ρ.fp l r∨m.L r)
    (hne : ∀ b o' len cap,0<len→m.ρ.hdr l = .slice (some ⟨b,o',none⟩) len cap→F' b) :
    bK m (m.setRow l m.w ⟨w0.o,root⟩ F') s (s.setList l ⟨w0.o,root⟩) B L WB WL n id where
  step:=by
    have hml:=(h.al l (.inl hL)).trans hl
    refine eH.rowSet h.inv hml hro hF' (fun _ _ _=>rfl) rfl rfl rfl rfl rfl rfl (fun b=>iC _) (fun d v hd=>?_)
    have hd : cK m.w m.Z m.ρ m.s.live d v:=hd
    show cK m.w m.Z (m.setRow l m.w ⟨w0.o,root⟩ F').ρ (m.setRow l m.w ⟨w0.o,root⟩ F').s.live d v
    refine cK.carryH (ρ:=m.ρ) (ρ':=(m.setRow l m.w ⟨w0.o,root⟩ F').ρ) (live:=m.s.live) (live':=(m.setRow l m.w ⟨w0.o,root⟩ F').s.live) (fun _ h=>h) (fun _ _=>rfl) (fun b hb=>⟨hb,rfl⟩) (fun l h=>h) (fun l' hu hv=>?_) hd
    by_cases e : l'=l
    · subst e
      refine ⟨aR.live_of hml,rfl,fun path v hh=>?_⟩
      show dC m.w ((m.setRow l' m.w ⟨w0.o,root⟩ F').ρ.fp l') (m.ρ.ty l') (m.ρ.hdr l') path v
      have hfp : (m.setRow l' m.w ⟨w0.o,root⟩ F').ρ.fp l'=F':=by simp [aR.setRow]
      rw [hfp]
      have hty : w0.o=m.ρ.ty l':=(h.inv.row l' w0 hml).1
      rw [← hty] at hh ⊢
      cases path with
      | nil=>exact hh
      | cons p q=>
        obtain ⟨i,j⟩:=p
        obtain ⟨b,o',len,cap,nn,kk,cells,ety,fz,u,h1,h2,h3,h4,h5,h6,h7,h8⟩:=hh
        refine ⟨b,o',len,cap,nn,kk,cells,ety,fz,u,h1,h2,h3,h4,h5,hne b o' len cap (by omega) h1,h7,?_⟩
        cases q with
        | nil=>exact h8
        | cons p2 q2=>
          exfalso
          obtain ⟨i2,j2⟩:=p2
          obtain ⟨_,_,_,_,_,_,_,_,_,_,_,_,_,_,_,_,g7,_⟩:=h8
          rw [OTy.shallow_ct hsh] at g7
          cases g7
    · have hv' : m.s.live l':=by unfold Sx.live aR.setRow at hv;unfold Sx.live;simpa [e] using hv
      refine ⟨hv',rfl,fun path v hh=>?_⟩
      show dC m.w ((m.setRow l m.w ⟨w0.o,root⟩ F').ρ.fp l') (m.ρ.ty l') (m.ρ.hdr l') path v
      have hfp : (m.setRow l m.w ⟨w0.o,root⟩ F').ρ.fp l'=m.ρ.fp l':=by simp [aR.setRow,e]
      rw [hfp]
      exact hh
  after:=by
    refine ⟨h.ab,fun x hx=>?_,fun _ _ _=>rfl,fun x hx _=>?_,fun _ _ _=>rfl,fun x hx _=>?_⟩
    · show (if x=l then some _ else m.s.list x)=_
      rw [fC,h.al x hx]
    · show (if x=l then some _ else m.s.list x)=_
      rw [if_neg (by rintro rfl;exact hx hL)]
    · rw [fC,if_neg (by rintro rfl;exact hx hW)]
  nb:=Nat.le_refl _
  nl:=Nat.le_refl _
  ub:=fun _ _ h=>h
  ul:=fun _ _ h=>h
theorem aDo {o : OTy} {c : PV} {q : Option (PV × PV)} {k : PV→Option R} {r : R} (h : pieceK o c q k=some r) :
    ∃ c1,k c1=some r∧((q=none∧c1=c)∨∃ lo hi,q=some (lo,hi)∧PV.cut o.s o.g c lo hi=some c1):=by
  unfold pieceK at h
  split at h
  · exact ⟨_,h,.inl ⟨rfl,rfl⟩⟩
  · obtain ⟨c1,h1,h2⟩:=aO h
    exact ⟨c1,h2,.inr ⟨_,_,rfl,h1⟩⟩
def aNk (l : Nat) (path : dR) : Option (PV × PV)→DV
  | none=>.ref l path
  | some (lo,hi)=>.sref l path lo hi
def aBA (k : PV→Option R) (c : PV) : Option R:=match c with
  | .lst xs=>k (.lst xs)
  | _=>none
theorem aBB {k : PV→Option R} {c : PV} {r : R} (h : aBA k c=some r) : ∃ xs,c = .lst xs∧k c=some r:=by
  unfold aBA at h
  split at h
  · exact ⟨_,rfl,h⟩
  · cases h
theorem aG5 {n : Nat} {c i v : PV} {j : Nat} {k : PV→Option R} : bd (PV.setCell n c i j v) k=bd (PV.setCell n c i j v) (aBA k):=by
  cases h : PV.setCell n c i j v with
  | none=>rfl
  | some y=>
    unfold PV.setCell at h
    repeat (first | (cases h;rfl) | split at h | (simp only at h))
    all_goals cases h
theorem aJb {n : Nat} {g : Bool} {c i v : PV} {k : PV→Option R} : bd (PV.setAt n g c i v) k=bd (PV.setAt n g c i v) (aBA k):=by
  cases h : PV.setAt n g c i v with
  | none=>rfl
  | some y=>
    unfold PV.setAt at h
    split at h
    · split at h
      · cases h;rfl
      · cases h
    · cases h
theorem aGr {o : OTy} {c y : PV} {p : PV × Nat} {path : dR} {k : PV→Option R} : setK o c (p::path) y k=setK o c (p::path) y (aBA k):=by
  obtain ⟨i,j⟩:=p
  unfold setK
  simp only [← aG5,← aJb]
theorem aEw (hT : X.T=tabOf P) (hz : iU P X.zok) {d : DV} {te : Nat} {e : Env} {s : St} {k : DV→Env→St→Option R} {l : Nat} {path : dR} {q : Option (PV × PV)} {r : R} (hpath : path≠[]) (h : appendK.nest X d te e s k l path q=some r) :
    ∃ d' s',k d' e s'=some r∧∀ (n : Nat) (m : aR) (B L WB WL : Nat→Prop),mB m s B L n→s'.nl≤n+16→L l∧WL l→(∀ l∈lsOf (deep+1) d,L l∧WL l)→
      ∀ (t u ty : TypeId),P.underlying t=some (.slice te)→((∃ f,P.underlying u=some (.slice f))∨P.underlying u=some .string)→∀ vb vd,m.rd (aNk l path q) vb→m.rd d vd→
        ∃ v m',(Builtin.append_ #[t,u] ty #[vb,vd]).run P m.w = .ok v m'.w∧bK m m' s s' B L WB WL n id∧m'.rd d' v:=by
  unfold appendK.nest at h
  split at h
  rotate_left
  · cases h
  rename_i w hw
  obtain ⟨c1,hg,h⟩:=nO h
  split at h
  rotate_left
  · cases h
  rename_i hfp
  simp only [Bool.and_eq_true] at hfp
  obtain ⟨⟨hfit,hplain⟩,hsh⟩:=hfp
  obtain ⟨hlf,hos,hoe,hog,hspos,hepos,hzk,hzl,hz1⟩:=aEu hT hfit
  obtain ⟨y,h,HSrc⟩:=uJ h
  obtain ⟨c3,h,hq⟩:=aDo h
  obtain ⟨p0,path0,hpe⟩ : ∃ p0 q0,path=p0::q0:=by
    cases path with
    | nil=>exact absurd rfl hpath
    | cons a b=>exact ⟨a,b,rfl⟩
  rw [hpe,aGr,← hpe] at h
  obtain ⟨c',c2,h,hp2,HS⟩:=nP h
  obtain ⟨zs,hzs,h⟩:=aBB h
  rw [hg] at hp2
  cases hp2
  obtain ⟨c4,hcat,hk⟩:=aO h
  obtain ⟨xs,ys,hx,hy,hbound,hall,rfl⟩:=aG4 hcat
  refine ⟨_,_,hk,fun n m B L WB WL sit hn hLl hLd t u ty ht hu vb vd hvb hvd=>?_⟩
  have hml : m.s.list l=some w:=(sit.al l (.inl hLl.1)).trans hw
  obtain ⟨hty,hlf0,hro⟩:=sit.inv.row l w hml
  obtain ⟨v1,F1,hh,hr1,hF1,HW⟩:=HS m.w m.Z _ _ hro hlf
  obtain ⟨xs0,hc1⟩ : ∃ xs0,c1 = .lst xs0:=by
    rcases hq with ⟨rfl,rfl⟩ | ⟨lo,hi,rfl,hcut⟩
    · cases hc2 : c3 with
      | lst zs=>exact ⟨zs,rfl⟩
      | str b=>
        exfalso
        rw [hc2] at hr1
        cases ho : w.o.along path with
        | leaf=>rw [ho] at hlf;cases hlf
        | own=>rw [ho] at hr1;cases hr1
      | _=>rw [hc2] at hx;simp [PV.elems] at hx
    · obtain ⟨xs1,_,_,_,_,h1,_⟩:=jV hcut
      exact ⟨xs1,h1⟩
  subst hc1
  have hcv : cH v1:=by
    rcases hr1.els hlf with ⟨_,_,h1⟩ | ⟨b,off,cap,cells,ety,cv,fp,h1,_⟩
    · rw [h1];exact trivial
    · rw [h1];exact trivial
  have hhole : bY m.w m.Z (w.o.along path) .hole v1 (fun _=>False):=by
    cases ho : w.o.along path with
    | leaf=>rw [ho] at hlf;cases hlf
    | own s e g cts=>exact .hole s e g cts v1 _ hcv (fun _ h=>h)
  obtain ⟨F',hro',hF'⟩:=HW m.w (fun _=>False) hhole (fun _ _=>rfl) (fun _ h=>h.elim)
  have G1:=bK.setRowH (B:=B) (L:=L) (WL:=WL) WB sit hLl.1 hLl.2 hw hsh hro' (fun r hr=>by
      rcases hF' r hr with h | h
      · exact .inl h.1
      · exact h.elim) (fun b o' len cap hlen hh0=>by
      rw [hh0,hzs] at hro'
      generalize w.o=ow at hro' hlf0
      cases hro' with
      | leaf=>cases hlf0
      | nil=>omega
      | own s0 e0 g0 cts0 xs0 b0 o0 cap0 cells0 ety0 cv0 fp0 F0 _ _ _ _ _ _ _ _ _ hfoot _ _=>exact (hfoot b).2 (.inl rfl))
  have hw2 : (m.setRow l m.w ⟨w.o,c'⟩ F').w=m.w:=rfl
  have hZ2 : (m.setRow l m.w ⟨w.o,c'⟩ F').Z=m.Z:=rfl
  have hL2 : ∀ r,m.ρ.fp l r→¬ F' r→(m.setRow l m.w ⟨w.o,c'⟩ F').L r:=fun r h1 h2=>⟨.inr h1,h2⟩
  have sit2:=G1.sit sit
  have hvh : dC m.w (m.ρ.fp l) w.o (m.ρ.hdr l) path v1:=hh
  have hfoot : ∀ l'∈(rowFoot d).rl,l'∈lsOf (deep+1) d:=by
    intro l' hl
    cases d<;>simp [rowFoot,Foot.none] at hl
    · subst hl;exact mem_ref _ _ _
    · subst hl;exact mem_sref _ _ _ _ _
    · subst hl;exact mem_eptr _ _ _ _ _
  obtain ⟨dv,E,hlenS,hfirstS⟩:=(HSrc m sit.inv (fun l' hl=>sit.al l' (.inl (hLd l' (hfoot l' hl)).1)) (by rw [hy];simp) vd hvd).els (P:=P) hy hplain hall hspos
  have fin : ∀ F,(∀ r,F r→F1 r)→bY m.w m.Z (w.o.along path) (.lst xs) vb F→∃ v m',(Builtin.append_ #[t,u] ty #[vb,vd]).run P m.w = .ok v m'.w∧
      bK (m.setRow l m.w ⟨w.o,c'⟩ F') m' (s.setList l ⟨w.o,c'⟩) ((s.setList l ⟨w.o,c'⟩).addList ⟨w.o.along path,.lst (xs++ys)⟩) B L WB WL n id∧m'.rd (.ref (s.setList l ⟨w.o,c'⟩).nl []) v:=by
    intro F hFF hrF
    refine aEv (WB:=WB) (WL:=WL) (ty:=ty) (gp:=fun _ _ _=>False) hz hlf hos hoe hspos hepos hzk hzl hz1 hw2 sit2 ?_ (by rw [hw2,hZ2];exact hrF) (fun r hr=>?_) (by rw [hw2,hZ2];exact E) (fun _ _ _ _ _ h=>h.elim) hlenS (fun w' hw'=>hfirstS w' hw' _ (Nat.le_refl _)) hbound ht hu
    · have : (s.setList l ⟨w.o,c'⟩).nl+1≤n+16:=hn
      omega
    · refine hL2 r (hF1 r (hFF r hr)) (fun hf=>?_)
      rcases hF' r hf with h | h
      · exact h.2 (hFF r hr)
      · exact h
  rcases hq with ⟨rfl,rfl⟩ | ⟨lo,hi,rfl,hcut⟩
  · have hvb : m.rd (.ref l path) vb:=hvb
    have hx : xs0=xs:=by simpa [PV.elems] using hx
    subst hx
    cases hvb with
    | ref _ _ _ _ _ hd=>
      have hd:=hd (aR.live_of hml)
      rw [← hty] at hd
      cases hh.unique hd
      obtain ⟨v,m',hrun,G2,hd'⟩:=fin F1 (fun _ h=>h) hr1
      exact ⟨v,m',hrun,G1.trans G2,hd'⟩
  · have hvb : m.rd (.sref l path lo hi) vb:=hvb
    obtain ⟨xs2,m2',n2,k3,k4,hc,h5,h6,h7,h8,rfl,hhd⟩:=jV hcut
    cases hc
    have hx : (xs0.take n2).drop m2'=xs:=by simpa [PV.elems] using hx
    cases hvb with
    | sref _ _ _ _ _ _ _ hd=>
      obtain ⟨a,len,cap,k1,k2,m1,n1,h9,h10,h11,h12,h13,rfl⟩:=hd (aR.live_of hml)
      rw [h5] at h10;cases h10
      rw [h6] at h11;cases h11
      rw [← hty] at h9
      cases hh.unique h9
      obtain ⟨a',len',cap',F2,h14,h15,h16,h17⟩:=hr1.cut hlf hhd h7 h8
      cases h14
      rw [hx] at h16
      rw [← hty] at fin
      obtain ⟨v,m',hrun,G2,hd'⟩:=fin F2 h17 h16
      rw [← hty]
      exact ⟨v,m',hrun,G1.trans G2,hd'⟩
theorem aFM (hT : X.T=tabOf P) (hz : iU P X.zok) {base d : DV} {te : Nat} {e : Env} {s : St} {k : DV→Env→St→Option R} {r : R} (h : appendK X base d te e s k=some r) :
    ∃ d' s',k d' e s'=some r∧∀ (n : Nat) (m : aR) (B L WB WL : Nat→Prop),mB m s B L n→s'.nl≤n+16→(∀ l∈lsOf (deep+1) base++lsOf (deep+1) d,L l∧WL l)→
      ∀ (t u ty : TypeId),P.underlying t=some (.slice te)→((∃ f,P.underlying u=some (.slice f))∨P.underlying u=some .string)→∀ vb vd,m.rd base vb→m.rd d vd→
        ∃ v m',(Builtin.append_ #[t,u] ty #[vb,vd]).run P m.w = .ok v m'.w∧bK m m' s s' B L WB WL n id∧m'.rd d' v:=by
  unfold appendK at h
  split at h
  · rename_i l p path
    obtain ⟨d',s',hk,H⟩:=aEw hT hz (by simp) h
    exact ⟨d',s',hk,fun n m B L WB WL sit hn hL t u ty ht hu vb vd hvb hvd=>H n m B L WB WL sit hn (hL l (List.mem_append_left _ (mem_ref _ _ _))) (fun l' hl'=>hL l' (List.mem_append_right _ hl')) t u ty ht hu vb vd hvb hvd⟩
  · rename_i l p path lo hi
    obtain ⟨d',s',hk,H⟩:=aEw hT hz (by simp) h
    exact ⟨d',s',hk,fun n m B L WB WL sit hn hL t u ty ht hu vb vd hvb hvd=>H n m B L WB WL sit hn (hL l (List.mem_append_left _ (mem_sref _ _ _ _ _))) (fun l' hl'=>hL l' (List.mem_append_right _ hl')) t u ty ht hu vb vd hvb hvd⟩
  split at h
  rotate_left
  · cases h
  rename_i o hbt
  split at h
  rotate_left
  · cases h
  rename_i hfit
  obtain ⟨hlf,hos,hoe,hog,hspos,hepos,hzk,hzl,hz1⟩:=aEu hT hfit
  obtain ⟨y,s1,hk1,hnl1,HR⟩:=aDE (P:=P) hlf hspos h
  obtain ⟨c,ls,hk2,hls,HB⟩:=sinkAs_sound hk1
  obtain ⟨c',hc',hk⟩:=aO hk2
  obtain ⟨xs,ys,hx,hy,hbound,hall,rfl⟩:=aG4 hc'
  refine ⟨_,_,hk,fun n m B L WB WL sit hn hL t u ty ht hu vb vd hvb hvd=>?_⟩
  obtain ⟨m1,dv,gp,G1,RD⟩:=HR ys hy hall n m B L WB WL sit (fun l hl=>hL l (List.mem_append_right _ hl)) vd hvd
  have sit1:=G1.sit sit
  have hin : ∀ l∈lsOf deep base,l∈lsOf (deep+1) base:=fun l hl=>nQ deep hl
  obtain ⟨m2,F,sk,hro,hF⟩:=HB n m1 L sit1.inv (fun l h=>sit1.al l (.inl h)) (fun l hl=>(hL l (List.mem_append_left _ (hin l hl))).1) vb (G1.step.rd _ _ hvb)
  have G2:=sk.goes (B:=B) (L:=L) (WL:=WL) WB sit1 (fun l hl=>.inl (hL l (List.mem_append_left _ (hin l (hls l hl)))).1) (fun l hl=>.inl (hL l (List.mem_append_left _ (hin l (hls l hl)))).2)
  have sit2:=G2.sit sit1
  have hw2 : m2.w=m.w:=sk.w.trans RD.w
  have hcl : c = .lst xs:=by
    cases hc2 : c with
    | lst zs=>rw [hc2] at hx;simp [PV.elems] at hx;rw [hx]
    | str b=>
      exfalso
      rw [hc2] at hro
      cases hro
      cases hlf
    | _=>rw [hc2] at hx;simp [PV.elems] at hx
  subst hcl
  have hn' : (s1.killL ls).nl<n+16:=by
    have : (s1.killL ls).nl+1≤n+16:=hn
    omega
  have hD : Els m2.w m2.Z o ys dv gp:=RD.els.frame (fun r h=>sk.step.zz r h) (fun r hr=>by rw [sk.w]) (fun i j r hi hj hr=>⟨by rw [sk.w],(sit2.inv.Lz r (sk.L r (RD.own i j r hi hj hr))).1⟩)
  have hgF : ∀ i j r : Nat,i<ys.length→j<o.s→gp i j r→m2.L r∧¬ F r:=fun i j r hi hj hr=>⟨sk.L r (RD.own i j r hi hj hr),fun hf=>(hF r hf).2 (RD.own i j r hi hj hr)⟩
  obtain ⟨v,m',hrun,G3,hd⟩:=aEv (WB:=WB) (WL:=WL) (ty:=ty) hz hlf hos hoe hspos hepos hzk hzl hz1 hw2 sit2 hn' hro (fun r hr=>(hF r hr).1) hD hgF RD.len RD.first hbound ht hu
  exact ⟨v,m',hrun,(G1.trans G2).trans G3,hd⟩
end
end Go.Proofs.YthkofpnllaapeaaGreatDoor
namespace Go.Proofs.YthkofpnllaapeaaGreatDoor
open Go
section
variable {P : Program} {X : Cx}
theorem Els.plain {w : World} {Z : Nat→Prop} {o : OTy} {xs : List PV} {cv : Nat→Nat→Value} {fp : Nat→Nat→Nat→Prop} (E : Els w Z o xs cv fp) (hp : o.plain=true) : Els w Z o xs cv (fun _ _ _=>False) where
  el:=E.el
  one:=E.one
  rep:=fun i j x hx hj=>by
    have:=E.rep i j x hx hj
    rw [OTy.plain_ct hp] at this ⊢
    exact .leaf _ _ _ this.leaf_inv (fun _ h=>h)
  fd:=fun _ _ _ _ _ _ _ _ _ h=>h.elim
theorem aG6 {w : World} {t u ty e : TypeId} {i : TypeInfo} (ht : P.underlying t=some (.slice e)) (hi : P.info? e=some i)
    {b off dLen dCap : Nat} {x : Value} {ny : Nat} {news : List Value} (hlen : (Builtin.lenOf x).run P w = .ok ny w) (hf : (Builtin.firstCells i.size (Nat.min ny dLen) x).run P w = .ok news.toArray w)
    (hst : (storeCells ⟨b,off,none⟩ news).run P w = .ok () (w.setCells b off news)) :
    (Builtin.copy_ #[t,u] ty #[.slice (some ⟨b,off,none⟩) dLen dCap,x]).run P w = .ok (goInt (Nat.min ny dLen)) (w.setCells b off news):=by
  simp [Builtin.copy_,run_underlying ht,sizeOf,typeInfo,hi,hlen,hf,hst]
theorem aFN {w : World} {t u ty e : TypeId} {i : TypeInfo} (ht : P.underlying t=some (.slice e)) (hi : P.info? e=some i)
    {a : Option Addr} {dLen dCap : Nat} {x : Value} {ny : Nat} (hlen : (Builtin.lenOf x).run P w = .ok ny w) (h0 : Nat.min ny dLen=0) (hf : (Builtin.firstCells i.size 0 x).run P w = .ok #[] w) :
    (Builtin.copy_ #[t,u] ty #[.slice a dLen dCap,x]).run P w = .ok (goInt 0) w:=by
  cases a<;>simp [Builtin.copy_,run_underlying ht,sizeOf,typeInfo,hi,hlen,h0,hf,storeCells]
theorem aKA {c lo hi d n : PV} (h : PV.ncopy c lo hi d=some n) : ∃ (xs ys : List PV) (l h : Nat) (k k' : IntKind),PV.elems c=some xs∧PV.elems d=some ys∧lo = .int k l∧hi = .int k' h∧l≤h∧h≤xs.length∧n = .int .i64 (min (h - l) ys.length : Nat):=by
  unfold PV.ncopy at h
  split at h
  · rename_i l h' xs ys h1 h2 h3 h4
    split at h
    · rename_i hc
      cases h
      obtain ⟨k,e1,_⟩:=lQ h1
      obtain ⟨k',e2,_⟩:=lQ h2
      exact ⟨xs,ys,l,h',k,k',h3,h4,e1,e2,hc.1,hc.2,rfl⟩
    · cases h
  · cases h
theorem aJc {s : Nat} {g : Bool} {c lo hi d y : PV} (h : PV.copyIn s g c lo hi d=some y) {xs ys : List PV} {l h' : Nat} {k k' : IntKind} (h1 : PV.elems c=some xs) (h2 : PV.elems d=some ys) (h3 : lo = .int k l) (h4 : hi = .int k' h') :
    ys.all (PV.isEl s g)=true∧y = .lst (xs.take l++ys.take (h' - l)++xs.drop (l+min (h' - l) ys.length)):=by
  unfold PV.copyIn at h
  split at h
  · rename_i l2 h2' xs2 ys2 e1 e2 e3 e4
    rw [h1] at e3;rw [h2] at e4
    cases e3;cases e4
    obtain ⟨_,f1,_⟩:=lQ e1
    obtain ⟨_,f2,_⟩:=lQ e2
    rw [h3] at f1;rw [h4] at f2
    cases f1;cases f2
    split at h
    · rename_i hc
      cases h
      exact ⟨hc.2.2,rfl⟩
    · cases h
  · cases h
theorem aAw {xs ys : List PV} {l h : Nat} (hl : l≤h) (hh : h≤xs.length) (i : Nat) :
    (xs.take l++ys.take (h - l)++xs.drop (l+min (h - l) ys.length))[i]? = if l≤i∧i<l+min (h - l) ys.length then ys[i - l]? else xs[i]?:=by
  have e1 : (xs.take l).length=l:=by simp;omega
  have e2 : (ys.take (h - l)).length=min (h - l) ys.length:=by simp
  by_cases h1 : i<l
  · rw [if_neg (by omega),List.append_assoc,List.getElem?_append_left (by omega),List.getElem?_take,if_pos h1]
  · by_cases h2 : i<l+min (h - l) ys.length
    · rw [if_pos ⟨by omega,h2⟩,List.getElem?_append_left (by rw [List.length_append];omega),List.getElem?_append_right (by omega),e1,List.getElem?_take,if_pos (by omega)]
    · rw [if_neg (by omega),List.getElem?_append_right (by rw [List.length_append];omega),List.length_append,e1,e2,List.getElem?_drop]
      congr 1
      omega
theorem aBC (hT : X.T=tabOf P) (hz : iU P X.zok) {te l : Nat} {w : Own} {lo hi : PV} {src : DV} {s : St} {k : DV→St→Option R} {r : R} (hw : s.list l=some w) (h : copyK.go X te src s k l w lo hi=some r) :
    ∃ d' s',k d' s'=some r∧∃ (xs ys : List PV) (l0 h0 : Nat) (k1 k2 : IntKind),PV.elems w.c=some xs∧lo = .int k1 l0∧hi = .int k2 h0∧l0≤h0∧h0≤xs.length∧∀ (n : Nat) (m : aR) (B L WB WL : Nat→Prop),mB m s B L n→L l→WL l→(∀ l∈lsOf (deep+1) src,L l)→
      ∀ (t u ty : TypeId),P.underlying t=some (.slice te)→∀ (a a' : Option Addr) (len cap cap' : Nat),m.ρ.hdr l = .slice a len cap→(∀ b off,a=some ⟨b,off,none⟩→l0<h0→a'=some ⟨b,off+l0*w.o.s,none⟩)→∀ vs,m.rd src vs→
        ∃ v m',(Builtin.copy_ #[t,u] ty #[.slice a' (h0 - l0) cap',vs]).run P m.w = .ok v m'.w∧bK m m' s s' B L WB WL n id∧m'.rd d' v:=by
  unfold copyK.go at h
  split at h
  rotate_left
  · cases h
  rename_i hc
  simp only [Bool.and_eq_true] at hc
  obtain ⟨hp,hfit⟩:=hc
  obtain ⟨hlf,hos,hoe,hog,hspos,hepos,hzk,hzl,hz1⟩:=aEu hT hfit
  obtain ⟨y,h1,HS⟩:=uJ h
  obtain ⟨nn,hnn,h2⟩:=aO h1
  obtain ⟨c',hc',hk⟩:=aO h2
  obtain ⟨xs,ys,l0,h0,k1,k2,hx,hy,hlo,hhi,hlh,hhx,rfl⟩:=aKA hnn
  obtain ⟨hall,rfl⟩:=aJc hc' hx hy hlo hhi
  have hszne : ((tabOf P).at te).size≠0:=by rw [← hos];omega
  obtain ⟨i,hi',_,his,_,_⟩:=tU hz hzk hzl hz1 hszne
  rw [← hos] at his
  refine ⟨_,_,hk,xs,ys,l0,h0,k1,k2,hx,hlo,hhi,hlh,hhx,fun n m B L WB WL sit hL hWL hLs t u ty ht a a' len cap cap' hhdr ha vs hvs=>?_⟩
  have hfoot : ∀ l∈(rowFoot src).rl,l∈lsOf (deep+1) src:=by
    intro l hl
    cases src<;>simp [rowFoot,Foot.none] at hl
    · subst hl;exact mem_ref _ _ _
    · subst hl;exact mem_sref _ _ _ _ _
    · subst hl;exact mem_eptr _ _ _ _ _
  obtain ⟨dv,D,hlenS,hfirst⟩:=(HS m sit.inv (fun l hl=>sit.al l (.inl (hLs l (hfoot l hl)))) (by rw [hy];simp) vs hvs).els (P:=P) hy hp hall hspos
  have hml:=(sit.al l (.inl hL)).trans hw
  obtain ⟨hty,_,hro⟩:=sit.inv.row l w hml
  have hcx : w.c = .lst xs:=by
    cases hc2 : w.c with
    | lst zs=>rw [hc2] at hx;simp [PV.elems] at hx;rw [hx]
    | str b=>
      exfalso
      rw [hc2] at hro
      generalize w.o=o at *
      cases hro
      cases hlf
    | _=>rw [hc2] at hx;simp [PV.elems] at hx
  rw [hcx,hhdr] at hro
  have hmin : Nat.min ys.length (h0 - l0)=min (h0 - l0) ys.length:=Nat.min_comm _ _
  have hlen' : (xs.take l0++ys.take (h0 - l0)++xs.drop (l0+min (h0 - l0) ys.length)).length=xs.length:=by simp;omega
  by_cases hn0 : min (h0 - l0) ys.length=0
  · have hxs : xs.take l0++ys.take (h0 - l0)++xs.drop (l0+min (h0 - l0) ys.length)=xs:=by
      apply List.ext_getElem?
      intro i
      rw [aAw hlh hhx,if_neg (by omega)]
    have hrun:=aFN (P:=P) (w:=m.w) (u:=u) (ty:=ty) (a:=a') (dCap:=cap') ht hi' (hlenS m.w) (by rw [hmin];exact hn0) (by
      rw [his]
      have:=hfirst m.w rfl 0 (Nat.zero_le _)
      simpa using this)
    rw [hxs,hn0]
    have hr2 : bY m.w m.Z w.o (.lst xs) (m.ρ.hdr l) (m.ρ.fp l):=by rw [hhdr];exact hro
    have G:=bK.setRow (B:=B) (L:=L) WB sit hL hWL hw hp (root:=.lst xs) (w':=m.w) hr2 (fun r h=>.inl h) (fun _ _ _=>rfl) rfl rfl rfl rfl
    exact ⟨_,m.setRow l m.w ⟨w.o,.lst xs⟩ (m.ρ.fp l),hrun,G,.p _ _ (.int _ _)⟩
  · rcases hro.els hlf with ⟨rfl,_⟩ | ⟨b,off,cap0,cells,ety,cv,fp,hv,hh,_,hroom,hlen,hnz,hbF,hcl,E,hfp⟩
    · simp at hhx;omega
    · cases hv
      have ha':=ha b off rfl (by omega)
      subst ha'
      have hle : (l0+min (h0 - l0) ys.length)*w.o.s≤cap*w.o.s:=Nat.mul_le_mul_right _ (by omega)
      rw [Nat.add_mul] at hle
      have hst:=run_storeCells_cells (P:=P) b (off+l0*w.o.s) (eZ (min (h0 - l0) ys.length) w.o.s dv) 0 m.w (fun j hj=>by
          rw [eS] at hj
          have hlt : off+l0*w.o.s+j<cells.size:=by omega
          have : m.w.cell? ⟨b,off+l0*w.o.s+0+j,none⟩=some cells[off+l0*w.o.s+j]:=rY hh (Array.getElem?_eq_getElem hlt)
          rw [this];rfl) (fun j _=>by simp [World.frozen?,hh]) (fun v hv=>by
          obtain ⟨k,hk⟩:=List.getElem?_of_mem hv
          obtain ⟨i',j',h1,h2,_,rfl⟩:=aCv hk
          exact aAu (D.one i' j' (by omega) h2))
      simp only [Nat.add_zero] at hst
      have hrun:=aG6 (P:=P) (w:=m.w) (u:=u) (ty:=ty) (b:=b) (off:=off+l0*w.o.s) (dLen:=h0 - l0) (dCap:=cap') (news:=eZ (min (h0 - l0) ys.length) w.o.s dv) ht hi' (hlenS m.w) (by
        rw [his,hmin]
        exact hfirst m.w rfl _ (by omega)) hst
      rw [hmin] at hrun
      obtain ⟨cells',c1,c2,c3,c4⟩:=kV (eZ (min (h0 - l0) ys.length) w.o.s dv) (off+l0*w.o.s) m.w cells hh (by rw [eS];omega)
      obtain ⟨e1,e2,e3,e4⟩:=kU (eZ (min (h0 - l0) ys.length) w.o.s dv) b (off+l0*w.o.s) m.w
      have hne : ∀ r,r≠b→(m.w.setCells b (off+l0*w.o.s) (eZ (min (h0 - l0) ys.length) w.o.s dv)).heap[r]? = m.w.heap[r]?:=fun r hr=>eL hr _ _ m.w
      have hmono : ∀ r,m.Z r→(m.w.setCells b (off+l0*w.o.s) (eZ (min (h0 - l0) ys.length) w.o.s dv)).heap[r]? = m.w.heap[r]?:=fun r hr=>hne r (fun e=>hnz (e▸hr))
      have E':=(E.plain hp).frame (w':=m.w.setCells b (off+l0*w.o.s) (eZ (min (h0 - l0) ys.length) w.o.s dv)) (Z':=m.Z) (fun _ h=>h) hmono (fun _ _ _ _ _ h=>h.elim)
      have D':=D.frame (w':=m.w.setCells b (off+l0*w.o.s) (eZ (min (h0 - l0) ys.length) w.o.s dv)) (Z':=m.Z) (fun _ h=>h) hmono (fun _ _ _ _ _ h=>h.elim)
      have EE : Els (m.w.setCells b (off+l0*w.o.s) (eZ (min (h0 - l0) ys.length) w.o.s dv)) m.Z w.o (xs.take l0++ys.take (h0 - l0)++xs.drop (l0+min (h0 - l0) ys.length))
          (fun i j=>if l0≤i∧i<l0+min (h0 - l0) ys.length then dv (i - l0) j else cv i j) (fun _ _ _=>False):=by
        refine ⟨fun i x hx=>?_,fun i j hi hj=>?_,fun i j x hx hj=>?_,fun _ _ _ _ _ _ _ _ _ h=>h.elim⟩
        · rw [aAw hlh hhx] at hx
          split at hx
          · exact D.el _ x hx
          · exact E.el _ x hx
        · rw [hlen'] at hi
          show cH (if l0≤i∧i<l0+min (h0 - l0) ys.length then dv (i - l0) j else cv i j)
          split
          · exact D.one _ j (by omega) hj
          · exact E.one _ j hi hj
        · rw [aAw hlh hhx] at hx
          split at hx
          · rename_i hc;simp only [hc,and_self,if_true];exact D'.rep _ j x hx hj
          · rename_i hc;simp only [hc,if_false];exact E'.rep _ j x hx hj
      have hro':=EE.repO hlf hspos (b:=b) (off:=off) (cap:=cap) c1 (by rw [c2];exact hroom) (by rw [hlen'];exact hlen) hnz (fun i j hi hj=>by
          rw [hlen'] at hi
          by_cases hc : l0≤i∧i<l0+min (h0 - l0) ys.length
          · simp only [hc,and_self,if_true]
            obtain ⟨q,rfl⟩ : ∃ q,i=l0+q:=⟨i - l0,by omega⟩
            rw [Nat.add_mul,show off+(l0*w.o.s+q*w.o.s)+j=off+l0*w.o.s+(q*w.o.s+j) by omega,
              c3 _ (by rw [eS];exact sD (by omega) hj),show l0+q - l0=q by omega]
            exact tT (by omega) hj
          · simp only [hc,if_false]
            rw [c4 _ (by
              rw [eS]
              rcases Nat.lt_or_ge i l0 with h | h
              · left;have:=sD h hj;omega
              · right
                have : (l0+min (h0 - l0) ys.length)*w.o.s≤i*w.o.s:=Nat.mul_le_mul_right _ (by omega)
                rw [Nat.add_mul] at this
                omega)]
            exact hcl i j hi hj) (fun _ _ _ _ h=>h)
      rw [hlen',← hhdr] at hro'
      have G:=bK.setRow (B:=B) (L:=L) WB sit hL hWL hw hp hro' (fun r hr=>by
          rcases hr with rfl | ⟨_,_,_,_,h⟩
          · exact .inl hbF
          · exact h.elim) (fun r hr hnf=>hne r (fun e=>hnf (e▸hbF))) e1 e2 e3 e4
      exact ⟨_,_,hrun,G,.p _ _ (.int _ _)⟩
theorem aH1 (hT : X.T=tabOf P) (hz : iU P X.zok) {te : Nat} {dst src : DV} {s : St} {k : DV→St→Option R} {r : R} (h : copyK X te dst src s k=some r) :
    ∃ d' s',k d' s'=some r∧∀ (n : Nat) (m : aR) (B L WB WL : Nat→Prop),mB m s B L n→(∀ l∈lsOf (deep+1) dst++lsOf (deep+1) src,L l∧WL l)→
      ∀ (t u ty : TypeId),P.underlying t=some (.slice te)→∀ vd vs,m.rd dst vd→m.rd src vs→
        ∃ v m',(Builtin.copy_ #[t,u] ty #[vd,vs]).run P m.w = .ok v m'.w∧bK m m' s s' B L WB WL n id∧m'.rd d' v:=by
  unfold copyK at h
  split at h
  · rename_i l
    split at h
    rotate_left
    · cases h
    rename_i w hw
    obtain ⟨nn,hnn,h'⟩:=aO h
    obtain ⟨zs,hzs,rfl⟩:=PV.len_inv hnn
    obtain ⟨d',s',hk,xs,ys,l0,h0,k1,k2,hx,hlo,hhi,_,_,H⟩:=aBC hT hz hw h'
    rw [hzs] at hx
    simp only [PV.elems] at hx
    cases hx
    unfold PV.zero at hlo
    cases hlo
    cases hhi
    refine ⟨d',s',hk,fun n m B L WB WL sit hL t u ty ht vd vs hvd hvs=>?_⟩
    have hLl:=hL l (List.mem_append_left _ (mem_ref _ _ _))
    have hml:=(sit.al l (.inl hLl.1)).trans hw
    obtain ⟨hty,hlf,hro⟩:=sit.inv.row l w hml
    cases hvd with
    | ref _ _ _ _ _ hd=>
      have hd : m.ρ.hdr l=vd:=hd (aR.live_of hml)
      rw [hzs] at hro
      obtain ⟨a,cap,hv,_,_⟩:=hro.lst_slice hlf
      rw [hd] at hv
      subst hv
      exact H n m B L WB WL sit hLl.1 hLl.2 (fun l hl=>(hL l (List.mem_append_right _ hl)).1) t u ty ht a a _ cap cap hd (fun b off ha _=>by rw [ha];simp) vs hvs
  · rename_i l lo hi
    split at h
    rotate_left
    · cases h
    rename_i w hw
    obtain ⟨d',s',hk,xs,ys,l0,h0,k1,k2,hx,hlo,hhi,hlh,hhx,H⟩:=aBC hT hz hw h
    subst hlo;subst hhi
    refine ⟨d',s',hk,fun n m B L WB WL sit hL t u ty ht vd vs hvd hvs=>?_⟩
    have hLl:=hL l (List.mem_append_left _ (mem_sref _ _ _ _ _))
    have hml:=(sit.al l (.inl hLl.1)).trans hw
    obtain ⟨hty,hlf,hro⟩:=sit.inv.row l w hml
    cases hvd with
    | sref _ _ _ _ _ _ _ hd=>
      obtain ⟨a,len,cap,_,_,m1,n1,hh,e1,e2,h1,h2,rfl⟩:=hd (aR.live_of hml)
      cases e1;cases e2
      have hh : m.ρ.hdr l = .slice a len cap:=hh
      have hcl : w.c = .lst xs:=by
        cases hc2 : w.c with
        | lst zs=>rw [hc2] at hx;simp [PV.elems] at hx;rw [hx]
        | str b=>
          exfalso
          rw [hc2] at hro
          generalize w.o=o at *
          cases hro
          cases hlf
        | _=>rw [hc2] at hx;simp [PV.elems] at hx
      have hlc : len=xs.length∧len≤cap:=by
        rw [hcl] at hro
        obtain ⟨a',cap',hv,h5,_⟩:=hro.lst_slice hlf
        rw [hh] at hv
        cases hv
        exact ⟨rfl,h5⟩
      have e : ((m.ρ.ty l).along []).s=w.o.s:=by rw [hty];rfl
      rw [e]
      exact H n m B L WB WL sit hLl.1 hLl.2 (fun l hl=>(hL l (List.mem_append_right _ hl)).1) t u ty ht a _ _ cap _ hh (fun b off ha hlt=>by
        rw [if_neg (by omega),ha]
        simp [gU]) vs hvs
  · cases h
end
end Go.Proofs.YthkofpnllaapeaaGreatDoor
namespace Go.Proofs.YthkofpnllaapeaaGreatDoor
open Go
section
variable {P : Program} {X : Cx}
theorem aBD {o : OTy} : ∀ {ds : List DV} {s : St} {k : List PV→St→Option R} {r : R},elemsK o s ds k=some r→
    ∃ vs ls,k vs (s.killL ls)=some r∧vs.length=ds.length∧(∀ l∈ls,l∈ds.flatMap (lsOf (deep+1)))∧
      ∀ (n : Nat) (m : aR) (L : Nat→Prop),kT m→(∀ l,L l→m.s.list l=s.list l)→(∀ l∈ds.flatMap (lsOf (deep+1)),L l)→∀ us : List Value,us.length=ds.length→
        (∀ (i : Nat) d u,ds[i]? = some d→us[i]? = some u→m.rd d u)→(∀ x∈vs,x.isEl o.s o.g=true)→
        ∃ m' cv fp,Sunk m m' n ls∧Els m'.w m'.Z o vs cv fp∧(∀ (i : Nat) u,us[i]? = some u→u.cells.toList=(List.range o.s).map (cv i))∧
          (∀ i j r : Nat,i<vs.length→j<o.s→fp i j r→m'.L r∧¬ m.L r)
  | [],s,k,r,h=>⟨[],[],h,rfl,by simp,fun n m L inv _ _ us hl _ _=>⟨m,fun _ _=>undef,fun _ _ _=>False,Sunk.refl n inv,Els.nil _ _ _,fun i u hu=>by
      have : us = []:=List.eq_nil_of_length_eq_zero hl
      subst this
      simp at hu,fun _ _ _ hi=>by simp at hi⟩⟩
  | d::ds,s,k,r,h=>by
    unfold elemsK at h
    obtain ⟨x,ls1,h1,hls1,H1⟩:=aDg h
    obtain ⟨vs,ls2,h2,hlen,hls2,H2⟩:=aBD h1
    refine ⟨x::vs,ls1++ls2,by rw [← killL_append];exact h2,by simp [hlen],?_,fun n m L inv hL hd us hl hrd hel=>?_⟩
    · intro l hl
      rw [List.flatMap_cons]
      rcases List.mem_append.1 hl with h | h
      · exact List.mem_append.2 (.inl (hls1 l h))
      · exact List.mem_append.2 (.inr (hls2 l h))
    · cases us with
      | nil=>simp at hl
      | cons u us=>
        have hd1 : ∀ l∈lsOf (deep+1) d,L l:=fun l h=>hd l (by rw [List.flatMap_cons];exact List.mem_append.2 (.inl h))
        have hd2 : ∀ l∈ds.flatMap (lsOf (deep+1)),L l:=fun l h=>hd l (by rw [List.flatMap_cons];exact List.mem_append.2 (.inr h))
        obtain ⟨m1,vs1,us1,F1,sk1,C1,hu1,hul1,huc1,hx1⟩:=H1 n m L inv hL hd1 u (hrd 0 d u rfl rfl) (hel x List.mem_cons_self)
        obtain ⟨m2,cv,fp,sk2,E,hcv,hfp⟩:=H2 n m1 L sk1.step.inv (fun l hl=>by rw [sk1.list,eM,hL l hl]) hd2 us (by simpa using hl)
          (fun i d' u' h1 h2=>sk1.keepD (hrd (i+1) d' u' (by simpa using h1) (by simpa using h2))) (fun y hy=>hel y (List.mem_cons_of_mem _ hy))
        have c1:=C1.len
        refine ⟨m2,fun i j=>match i with | 0=>us1.getD j undef | i+1=>cv i j,fun i j r=>match i with | 0=>F1 j r | i+1=>fp i j r,sk1.trans sk2,⟨?_,?_,?_,?_⟩,?_,?_⟩
        · intro i y hy
          exact hel y (List.mem_of_getElem? hy)
        · intro i j hi hj
          cases i with
          | zero=>exact huc1 j _ (by rw [List.getD,List.getElem?_eq_getElem (show j<us1.length by omega)];rfl)
          | succ i=>exact E.one i j (by simpa using hi) hj
        · intro i j y hy hj
          cases i with
          | zero=>
            simp at hy
            subst hy
            have hv : vs1[j]? = some (vs1[j]'(by omega)):=List.getElem?_eq_getElem (by omega)
            have hu : us1[j]? = some (us1[j]'(by omega)):=List.getElem?_eq_getElem (by omega)
            have:=C1.rep j _ _ hv hu
            rw [Nat.zero_add] at this
            rw [hx1 j _ hv]
            have e : us1.getD j undef=us1[j]'(by omega):=by rw [List.getD,hu];rfl
            show bY _ _ _ _ (us1.getD j undef) (F1 j)
            rw [e]
            exact sk2.keepO this (fun r hr=>(C1.own j r (by omega) hr).1)
          | succ i=>exact E.rep i j y (by simpa using hy) hj
        · intro i j i' j' r hi hj hi' hj' a b
          cases i with
          | zero=>
            cases i' with
            | zero=>exact ⟨rfl,C1.apart j j' r (by omega) (by omega) a b⟩
            | succ i'=>exact ((hfp i' j' r (by simpa using hi') hj' b).2 (C1.own j r (by omega) a).1).elim
          | succ i=>
            cases i' with
            | zero=>exact ((hfp i j r (by simpa using hi) hj a).2 (C1.own j' r (by omega) b).1).elim
            | succ i'=>
              have:=E.fd i j i' j' r (by simpa using hi) hj (by simpa using hi') hj' a b
              omega
        · intro i u' hu'
          cases i with
          | zero=>
            simp at hu'
            subst hu'
            rw [hu1]
            apply List.ext_getElem?
            intro j
            rw [List.getElem?_map]
            by_cases hj : j<o.s
            · rw [List.getElem?_range hj,List.getElem?_eq_getElem (show j<us1.length by omega)]
              simp [List.getD,List.getElem?_eq_getElem (show j<us1.length by omega)]
            · rw [List.getElem?_eq_none (by omega),List.getElem?_eq_none (by simpa using hj)]
              rfl
          | succ i=>exact hcv i u' (by simpa using hu')
        · intro i j r hi hj hr
          cases i with
          | zero=>exact ⟨sk2.L r (C1.own j r (by omega) hr).1,(C1.own j r (by omega) hr).2⟩
          | succ i=>
            have:=hfp i j r (by simpa using hi) hj hr
            exact ⟨this.1,fun h=>this.2 (sk1.L r h)⟩
theorem yV (hT : X.T=tabOf P) {t : Nat} (h : rowOk X t=true) : zeroOk X t=true∧((tabOf P).at t).size≠0∧okCells (zeroCells (tabOf P) 20 t) (X.own t)=true:=by
  unfold rowOk at h
  simp only [Bool.and_eq_true,hT] at h
  exact ⟨h.1.1,fun e=>by have:=h.1.2;simp [e] at this,h.2⟩
theorem wS : ∀ {n : Nat} {ps : List (Nat × DV)},inOrder n ps=true→∀ (i : Nat) p,ps[i]? = some p→p.1=n+i
  | _,[],_,i,p,h=>by simp at h
  | n,(a,d)::ps,h,i,p,hp=>by
    unfold inOrder at h
    simp only [Bool.and_eq_true] at h
    cases i with
    | zero=>simp at hp;subst hp;exact bH h.1
    | succ i=>
      have:=wS h.2 i p (by simpa using hp)
      omega
theorem aH2 (hT : X.T=tabOf P) (hz : iU P X.zok) {t u n0 : Nat} (hu : elemOf X t=some u) {ps : List (Nat × DV)} {s : St} {k : DV→St→Option R} {r : R} (h : lendK X u n0 ps s k=some r) :
    ∃ d' s',k d' s'=some r∧∀ (n : Nat) (m : aR) (B L WB WL : Nat→Prop),mB m s B L n→s'.nb≤n+16→∀ (vs : Array (Nat × Value)),RdP m ps vs.toList→
        ∃ v m',(Instr.buildSlice t n0 vs).run P m.w = .ok v m'.w∧bK m m' s s' B L WB WL n id∧m'.rd d' v:=by
  unfold lendK at h
  split at h
  rotate_left
  · cases h
  rename_i hc
  simp only [Bool.and_eq_true] at hc
  obtain ⟨⟨⟨⟨⟨hro,hsz1⟩,hle⟩,hord⟩,hlen0⟩,hrows⟩:=hc
  obtain ⟨hzo,hsz,_⟩:=yV hT hro
  obtain ⟨hzk,hzl,hz1⟩:=qV hT hzo
  have hle:=mC hle
  have hlen0:=bH hlen0
  have hsz1:=bH hsz1
  rw [hT] at hsz1
  have hus : ((tabOf P).at t).d = .slice u:=by
    unfold elemOf at hu
    rw [hT] at hu
    split at hu
    · rename_i e he;cases hu;exact he
    · cases hu
  refine ⟨_,_,h,fun n m B L WB WL sit hn vs hp=>?_⟩
  have hpl:=hp.1
  have hn : s.nb+1≤n+16:=hn
  obtain ⟨i,hi,hiz,his,hib,hizs⟩:=tU hz hzk hzl hz1 hsz
  have hvs : vs.toList=((vs.toList.map (·.2)).zipIdx 0).map fun x=>(x.2,x.1):=by
    apply List.ext_getElem?
    intro j
    rw [List.getElem?_map,List.getElem?_zipIdx,List.getElem?_map]
    cases hj : vs.toList[j]? with
    | none=>rfl
    | some q=>
      have hlt:=(List.getElem?_eq_some_iff.1 hj).1
      have hpj : ps[j]? = some (ps[j]'(by omega)):=List.getElem?_eq_getElem (by omega)
      have:=(hp.2 j _ q hpj hj).1
      have h0:=wS hord j _ hpj
      obtain ⟨a,b⟩:=q
      simp at this h0 ⊢
      omega
  have hcell : ∀ (j : Nat) v,(vs.toList.map (·.2))[j]? = some v→cH v:=fun j v hv=>by
    rw [List.getElem?_map] at hv
    cases hvj : vs.toList[j]? with
    | none=>rw [hvj] at hv;cases hv
    | some q=>
      rw [hvj] at hv;cases hv
      have hlt:=(List.getElem?_eq_some_iff.1 hvj).1
      have hpj : ps[j]? = some (ps[j]'(by omega)):=List.getElem?_eq_getElem (by omega)
      have hrd:=(hp.2 j _ q hpj hvj).2
      rw [List.all_eq_true] at hrows
      have hr:=hrows _ (List.mem_of_getElem? hpj)
      generalize (ps[j]'(by omega)).2=d at hrd hr
      cases d with
      | ref=>cases hrd;assumption
      | sref=>cases hrd;assumption
      | _=>cases hr
  have hrdl : ∀ (j : Nat) d v,(ps.map (·.2))[j]? = some d→(vs.toList.map (·.2))[j]? = some v→m.rd d v:=fun j d v hd hv=>by
    rw [List.getElem?_map] at hd hv
    cases hpi : ps[j]? with
    | none=>rw [hpi] at hd;cases hd
    | some p=>
      cases hvi : vs.toList[j]? with
      | none=>rw [hvi] at hv;cases hv
      | some q=>
        rw [hpi] at hd;rw [hvi] at hv;cases hd;cases hv
        exact (hp.2 j p q hpi hvi).2
  generalize hus' : vs.toList.map (·.2)=us at hvs hcell hrdl
  have hul : us.length=n0:=by rw [← hus',List.length_map];omega
  have hcsz : ∀ v∈us,v.cells.size=1:=by
    intro v hv
    obtain ⟨i,hi⟩:=List.getElem?_of_mem hv
    have:=lR (hcell i v hi)
    rw [← Array.length_toList,this];rfl
  have hflat : (us.flatMap fun v=>v.cells.toList)=us:=by
    have : ∀ l : List Value,(∀ v∈l,cH v)→(l.flatMap fun v=>v.cells.toList)=l:=by
      intro l
      induction l with
      | nil=>intro _;rfl
      | cons a r ih=>
        intro h
        rw [List.flatMap_cons,ih (fun v hv=>h v (List.mem_cons_of_mem _ hv)),lR (h a List.mem_cons_self)]
        rfl
    exact this us (fun v hv=>by obtain ⟨i,hi⟩:=List.getElem?_of_mem hv;exact hcell i v hi)
  have hrun : (Instr.buildSlice t n0 vs).run P m.w = .ok (.slice (some ⟨m.w.heap.size,0,none⟩) n0 n0) (m.w.alloc (.cells us.toArray u)):=by
    have hfill : ∀ cells : Array Value,n0*1=cells.size→Instr.fill (fun i=>some (i*1,1)) cells vs.toList=some us.toArray:=fun cells hc=>by
      rw [hvs]
      have:=Go.Great.fill_whole (show 0<1 by omega) us cells hcsz (by rw [hul];exact hc)
      rwa [hflat] at this
    rw [← hsz1] at hfill
    have hn24 : ¬ (16777216<n0*((tabOf P).at u).size):=by rw [hsz1];omega
    by_cases h0 : n0*((tabOf P).at u).size=0
    · have:=hfill ((Array.range (n0*((tabOf P).at u).size)).map fun x=>(#[] : Array Value)[x % (#[] : Array Value).size]!) (by simp)
      simp [Instr.buildSlice,run_underlying (Tab.slice hus),sizeOf,typeInfo,hi,his,hn24,h0,newRow] at this ⊢
      rw [this]
      simp
    · have:=hfill ((Array.range (n0*((tabOf P).at u).size)).map fun x=>(zeroVal (tabOf P) u).cells[x % (zeroVal (tabOf P) u).cells.size]!) (by simp)
      simp [Instr.buildSlice,run_underlying (Tab.slice hus),sizeOf,typeInfo,zeroValue,hi,hiz,his,hn24,h0,newRow] at this ⊢
      rw [this]
      simp
  have G:=bK.addBox (B:=B) (L:=L) WB WL sit (by omega) (ety:=u) (cs:=ps.map (·.2)) (vs:=us) (by rw [List.length_map];omega) hcell hrdl
  refine ⟨_,_,hrun,G,?_⟩
  have : (m.addBox s.nb (m.w.alloc (.cells us.toArray u)) (ps.map (·.2))).rd (.bsl s.nb n0) (.slice (some ⟨(m.addBox s.nb (m.w.alloc (.cells us.toArray u)) (ps.map (·.2))).ρ.box s.nb,0,none⟩) n0 n0):=.bsl _ _ (.inr rfl)
  have e : (m.addBox s.nb (m.w.alloc (.cells us.toArray u)) (ps.map (·.2))).ρ.box s.nb=m.w.heap.size:=by
    show (if s.nb=s.nb then m.w.heap.size else _)=_
    rw [if_pos rfl]
  rw [e] at this
  exact this
theorem aBE (hT : X.T=tabOf P) (hz : iU P X.zok) {t n0 : Nat} {ps : List (Nat × DV)} {s : St} {k : DV→St→Option R} {r : R} (h : buildSliceK X t n0 ps s k=some r) :
    ∃ d' s',k d' s'=some r∧∀ (n : Nat) (m : aR) (B L WB WL : Nat→Prop),mB m s B L n→s'.nl≤n+16→s'.nb≤n+16→(∀ l∈(ps.map (·.2)).flatMap (lsOf (deep+1)),L l∧WL l)→∀ (vs : Array (Nat × Value)),RdP m ps vs.toList→
        ∃ v m',(Instr.buildSlice t n0 vs).run P m.w = .ok v m'.w∧bK m m' s s' B L WB WL n id∧m'.rd d' v:=by
  unfold buildSliceK at h
  split at h
  rotate_left
  · cases h
  rename_i u hu
  split at h
  · obtain ⟨d',s',hk,H⟩:=aH2 hT hz hu h
    exact ⟨d',s',hk,fun n m B L WB WL sit _ hnb _ vs hp=>H n m B L WB WL sit hnb vs hp⟩
  split at h
  rotate_left
  · cases h
  rename_i hc
  simp only [Bool.and_eq_true] at hc
  obtain ⟨⟨⟨hro,hle⟩,hord⟩,hlen0⟩:=hc
  obtain ⟨hzo,hsz,_⟩:=yV hT hro
  obtain ⟨hzk,hzl,hz1⟩:=qV hT hzo
  have hle:=mC hle
  have hlen0:=bH hlen0
  rw [hT] at hle
  have hus : ((tabOf P).at t).d = .slice u:=by
    unfold elemOf at hu
    rw [hT] at hu
    split at hu
    · rename_i e he;cases hu;exact he
    · cases hu
  have os : (rowOf X u).s=((tabOf P).at u).size:=by unfold rowOf;rw [hT];rfl
  obtain ⟨xs,ls,h1,hxl,hls,H⟩:=aBD h
  obtain ⟨c',hc',hk⟩:=aO h1
  obtain ⟨e1,e2,q1,q2,hb,hall,rfl⟩:=aG4 hc'
  simp only [PV.elems] at q1 q2
  cases q1;cases q2
  refine ⟨_,_,hk,fun n m B L WB WL sit hn _ hL vs hp=>?_⟩
  have hpl:=hp.1
  have hn : (s.killL ls).nl+1≤n+16:=hn
  have hxs : xs.length=n0:=by rw [hxl];simp;exact hlen0
  obtain ⟨m1,cv,fp,sk,E,hcv,hfp⟩:=H n m L sit.inv (fun l h=>sit.al l (.inl h)) (fun l hl=>(hL l hl).1) (vs.toList.map (·.2)) (by simp [hpl]) (fun i d v hd hv=>by
      rw [List.getElem?_map] at hd hv
      cases hpi : ps[i]? with
      | none=>rw [hpi] at hd;cases hd
      | some p=>
        cases hvi : vs.toList[i]? with
        | none=>rw [hvi] at hv;cases hv
        | some q=>
          rw [hpi] at hd;rw [hvi] at hv;cases hd;cases hv
          exact (hp.2 i p q hpi hvi).2) (fun x hx=>by rw [List.all_eq_true] at hall;exact hall x hx)
  have G1:=sk.goes (B:=B) (L:=L) (WL:=WL) WB sit (fun l hl=>.inl (hL l (hls l hl)).1) (fun l hl=>.inl (hL l (hls l hl)).2)
  have sit1:=G1.sit sit
  obtain ⟨i,hi,hiz,his,hib,hizs⟩:=tU hz hzk hzl hz1 hsz
  have hvs : vs.toList=((vs.toList.map (·.2)).zipIdx 0).map fun x=>(x.2,x.1):=by
    apply List.ext_getElem?
    intro j
    rw [List.getElem?_map,List.getElem?_zipIdx,List.getElem?_map]
    cases hj : vs.toList[j]? with
    | none=>rfl
    | some q=>
      have hlt:=(List.getElem?_eq_some_iff.1 hj).1
      have hpj : ps[j]? = some (ps[j]'(by omega)):=List.getElem?_eq_getElem (by omega)
      have:=(hp.2 j _ q hpj hj).1
      have h0:=wS hord j _ hpj
      obtain ⟨a,b⟩:=q
      simp at this h0 ⊢
      omega
  have hspos : 0<(rowOf X u).s:=by rw [os];omega
  generalize hus' : vs.toList.map (·.2)=us at hvs hcv
  have hul : us.length=n0:=by rw [← hus',List.length_map];omega
  have hcsz : ∀ v∈us,v.cells.size=(rowOf X u).s:=by
    intro v hv
    obtain ⟨i,hi⟩:=List.getElem?_of_mem hv
    have:=hcv i v hi
    rw [← Array.length_toList,this];simp
  have hrun : (Instr.buildSlice t n0 vs).run P m.w = .ok (.slice (some ⟨m.w.heap.size,0,none⟩) n0 n0) (m.w.alloc (.cells (us.flatMap fun v=>v.cells.toList).toArray u)):=by
    have hfill : ∀ cells : Array Value,n0*(rowOf X u).s=cells.size→Instr.fill (fun i=>some (i*(rowOf X u).s,(rowOf X u).s)) cells vs.toList=some (us.flatMap fun v=>v.cells.toList).toArray:=fun cells hc=>by
      rw [hvs]
      exact Go.Great.fill_whole hspos us cells hcsz (by rw [hul];exact hc)
    rw [os] at hfill
    have hn24 : ¬ (16777216<n0*((tabOf P).at u).size):=by omega
    by_cases h0 : n0*((tabOf P).at u).size=0
    · have:=hfill ((Array.range (n0*((tabOf P).at u).size)).map fun x=>(#[] : Array Value)[x % (#[] : Array Value).size]!) (by simp)
      simp [Instr.buildSlice,run_underlying (Tab.slice hus),sizeOf,typeInfo,hi,his,hn24,h0,newRow] at this ⊢
      rw [this]
      simp
    · have:=hfill ((Array.range (n0*((tabOf P).at u).size)).map fun x=>(zeroVal (tabOf P) u).cells[x % (zeroVal (tabOf P) u).cells.size]!) (by simp)
      simp [Instr.buildSlice,run_underlying (Tab.slice hus),sizeOf,typeInfo,zeroValue,hi,hiz,his,hn24,h0,newRow] at this ⊢
      rw [this]
      simp
  have hw1 : m1.w=m.w:=sk.w
  have hold : ∀ r,r<m1.w.heap.size→(m.w.alloc (.cells (us.flatMap fun v=>v.cells.toList).toArray u)).heap[r]? = m1.w.heap[r]?:=fun r hr=>by
    rw [hw1] at hr ⊢
    exact heap_alloc_old m.w _ r hr
  have E':=E.frame (w':=m.w.alloc (.cells (us.flatMap fun v=>v.cells.toList).toArray u)) (Z':=m1.Z) (fun _ h=>h) (fun r hr=>hold r (sit1.inv.zlt r hr))
    (fun i j r hi hj hr=>by
      have:=sit1.inv.Lz r (hfp i j r hi hj hr).1
      exact ⟨hold r this.2,this.1⟩)
  have hro':=E'.repO (o:=rowOf X u) rfl hspos (b:=m.w.heap.size) (off:=0) (cap:=n0) (heap_alloc_new m.w _) (by
      have : (us.flatMap fun v=>v.cells.toList).length=n0*(rowOf X u).s:=by
        rw [List.length_flatMap]
        have : us.map (fun v=>v.cells.toList.length)=List.replicate us.length (rowOf X u).s:=by
          rw [List.eq_replicate_iff]
          refine ⟨by simp,fun b hb=>?_⟩
          obtain ⟨v,hv,rfl⟩:=List.mem_map.1 hb
          simpa using hcsz v hv
        rw [this,List.sum_replicate_nat,hul]
      simp [this]) (by omega) (fun hzr=>by have:=sit1.inv.zlt _ hzr;rw [hw1] at this;omega)
    (fun i j hi' hj=>by
      have h1 : i<us.length:=by omega
      have hu2 : us[i]? = some us[i]:=List.getElem?_eq_getElem h1
      have:=Go.Great.flat_get hspos us hcsz (i*(rowOf X u).s+j)
      have d1 : (i*(rowOf X u).s+j) / (rowOf X u).s=i:=by
        rw [Nat.mul_comm,Nat.mul_add_div hspos,Nat.div_eq_of_lt hj,Nat.add_zero]
      have d2 : (i*(rowOf X u).s+j) % (rowOf X u).s=j:=by
        rw [Nat.mul_comm,Nat.mul_add_mod,Nat.mod_eq_of_lt hj]
      rw [d1,d2,hu2] at this
      rw [Nat.zero_add]
      have h2 : us[i].cells[j]? = some (cv i j):=by
        rw [← Array.getElem?_toList,hcv i _ hu2,List.getElem?_map,List.getElem?_range hj]
        rfl
      rw [Option.bind_some,h2] at this
      simpa using this)
    (fun i j hi' hj hr=>by
      have:=(sit1.inv.Lz _ (hfp i j _ hi' hj hr).1).2
      rw [hw1] at this
      omega)
  have G2:=bK.addRow (B:=B) (L:=L) WB WL sit1 (by omega) (w':=m.w.alloc (.cells (us.flatMap fun v=>v.cells.toList).toArray u)) (own:=⟨rowOf X u,.lst ([]++xs)⟩) (hdr:=.slice (some ⟨m.w.heap.size,0,none⟩) xs.length n0) rfl hro'
    (fun r hr=>by
      rcases hr with rfl | ⟨i,j,hi',hj,hr⟩
      · right;rw [hw1];exact Nat.le_refl _
      · exact .inl (hfp i j r hi' hj hr).1)
    (fun r hr _=>hold r hr) (by rw [hw1];simp) (by rw [hw1];rfl) (by rw [hw1];rfl) (by rw [hw1];rfl)
  refine ⟨_,_,?_,G1.trans G2,aR.addRow_rd trivial⟩
  rw [hrun,hxs]
  rfl
theorem aEx {w : World} {Z : Nat→Prop} : ∀ {zs : List PV} {cts : List OTy},okCells zs cts=true→∀ (j : Nat) z,zs[j]? = some z→bY w Z (cts.getD j .leaf) (zeroPV z) (zeroVl z) (fun _=>False)
  | [],_,_,j,z,h=>by simp at h
  | z0::zs,[],_,j,z,_=>by
    simp only [List.getD,List.getElem?_nil,Option.getD_none]
    exact .leaf _ _ _ (aAv w Z z) (fun _ h=>h)
  | z0::zs,c::cts,h,j,z,hz=>by
    unfold okCells at h
    simp only [Bool.and_eq_true,Bool.or_eq_true] at h
    cases j with
    | zero=>
      simp at hz
      subst hz
      show bY w Z c _ _ _
      rcases h.1 with h1 | h1
      · cases c with
        | leaf=>exact .leaf _ _ _ (aAv w Z z0) (fun _ h=>h)
        | own=>cases h1
      · cases z0<;>first | (cases h1;done) | skip
        cases c with
        | leaf=>exact .leaf _ _ _ (aAv w Z (.lst _)) (fun _ h=>h)
        | own=>exact .nil _ _ _ _ _ none (fun _ h=>h)
    | succ j=>
      have:=aEx (w:=w) (Z:=Z) h.2 j z (by simpa using hz)
      simpa [List.getD] using this
theorem aGs {e : Nat} {z n y : PV} (h : PV.zeros e z n=some y) : ∃ (k : IntKind) (m : Nat),n = .int k m∧m*e≤2 ^ 47∧m<2 ^ 62∧y = .lst (List.replicate m z):=by
  unfold PV.zeros at h
  split at h
  · rename_i k m
    split at h
    · rename_i hc
      cases h
      exact ⟨k,m.toNat,by rw [Int.toNat_of_nonneg hc.1],hc.2.1,by omega,rfl⟩
    · cases h
  · cases h
theorem aJX {v : PV} (h : noRoomK.isZ v=true) : ∃ k,v = .int k 0:=by
  unfold noRoomK.isZ at h
  split at h
  · exact ⟨_,rfl⟩
  · cases h
theorem aFO (hT : X.T=tabOf P) {t : Nat} {x : DV} {lo hi : Option DV} {mx : DV} {s : St} {k : DV→St→Option R} {r : R} (h : noRoomK X t x lo hi mx s k=some r) :
    ∃ d' s',k d' s'=some r∧∀ (n : Nat) (m : aR) (B L WB WL : Nat→Prop),mB m s B L n→s'.nl≤n+16→∀ v vl vh vm,m.rd x v→m.rdO lo vl→m.rdO hi vh→m.rd mx vm→
        ∃ u m',(Instr.sliceAt t v vl vh (some vm)).run P m.w = .ok u m'.w∧bK m m' s s' B L WB WL n id∧m'.rd d' u:=by
  unfold noRoomK at h
  split at h
  rotate_left
  · cases h
  rename_i u v0 h0 n0 hu
  split at h
  rotate_left
  · cases h
  rename_i hc
  simp only [Bool.and_eq_true] at hc
  obtain ⟨⟨hro,hz1⟩,hz2⟩:=hc
  obtain ⟨_,hsz,_⟩:=yV hT hro
  have hus : ((tabOf P).at t).d = .slice u:=by
    unfold elemOf at hu
    rw [hT] at hu
    split at hu
    · rename_i e he;cases hu;exact he
    · cases hu
  obtain ⟨k1,rfl⟩:=aJX hz1
  obtain ⟨k2,rfl⟩:=aJX hz2
  obtain ⟨y,hy,hk⟩:=aO h
  clear h
  obtain ⟨xs,rfl,rfl⟩:=PV.len_inv hy
  refine ⟨_,_,hk,fun n m B L WB WL sit hn v vl vh vm hv hvl hvh hvm=>?_⟩
  have hn : s.nl+1≤n+16:=hn
  cases hv with
  | p _ _ hv=>cases hvm with
    | p _ _ hvm=>
      cases hvm
      obtain ⟨a,cap,rfl⟩:=hv.lst_slice
      have hvl : vl=none:=by cases vl with | none=>rfl | some _=>exact hvl.elim
      subst hvl
      obtain ⟨k3,rfl⟩:=aD6 (n:=0) rfl hvh
      have G:=bK.addRow (B:=B) (L:=L) WB WL sit (by omega) (w':=m.w) (own:=⟨rowOf X u,.lst []⟩) (hdr:=.slice a 0 0) (F:=fun _=>False) rfl (.nil _ _ _ _ _ a (fun _ h=>h)) (fun _ h=>h.elim) (fun _ _ _=>rfl) (Nat.le_refl _) rfl rfl rfl
      refine ⟨_,_,?_,G,aR.addRow_rd trivial⟩
      have sb : ∀ (k : IntKind) (y : Nat) (c : BoundsCode),(Instr.sliceBound (.int k 0) y c).run P m.w = .ok 0 m.w:=by
        intro k y c
        simp [Instr.sliceBound,asIntOf]
      simp [Instr.sliceAt,run_underlying (Tab.slice hus),Instr.slice,Instr.sliceBounds,sb,gL (.inl hsz)]
      rfl
theorem aCw (hT : X.T=tabOf P) (hz : iU P X.zok) {t : Nat} {l c : DV} {s : St} {k : DV→St→Option R} {r : R} (h : makeSliceK X t l c s k=some r) :
    ∃ d' s',k d' s'=some r∧∀ (n : Nat) (m : aR) (B L WB WL : Nat→Prop),mB m s B L n→s'.nl≤n+16→∀ vl vc,m.rd l vl→m.rd c vc→
        ∃ v m',(Instr.makeSlice t vl vc).run P m.w = .ok v m'.w∧bK m m' s s' B L WB WL n id∧m'.rd d' v:=by
  unfold makeSliceK at h
  split at h
  rotate_left
  · cases h
  rename_i u n1 m1 hu
  split at h
  rotate_left
  · cases h
  rename_i hro
  obtain ⟨hzo,hsz,hok⟩:=yV hT hro
  obtain ⟨hzk,hzl,hz1⟩:=qV hT hzo
  have hus : ((tabOf P).at t).d = .slice u:=by
    unfold elemOf at hu
    rw [hT] at hu
    split at hu
    · rename_i e he;cases hu;exact he
    · cases hu
  have os : (rowOf X u).s=((tabOf P).at u).size:=by unfold rowOf;rw [hT];rfl
  have oe : (rowOf X u).e=((tabOf P).at u).bytes:=by unfold rowOf;rw [hT];rfl
  have og : (rowOf X u).g=((tabOf P).at u).isAgg:=by unfold rowOf;rw [hT];rfl
  obtain ⟨y1,hy1,h1⟩:=aO h
  obtain ⟨y2,hy2,h2⟩:=aO h1
  rcases tS h2 with ⟨rfl,h3⟩ | ⟨_,h3⟩
  rotate_left
  · cases h3
  obtain ⟨y3,hy3,hk⟩:=aO h3
  clear h h1 h2 h3
  obtain ⟨kc,mc,rfl,hb1,hb2,_⟩:=aGs hy1
  obtain ⟨kl,ml,rfl,_,_,rfl⟩:=aGs hy3
  have hle : ml≤mc:=by
    unfold PV.bin at hy2
    simp only at hy2
    split at hy2
    · simp only [PV.intBin] at hy2
      cases hd : decide ((ml : Int)≤mc) with
      | true=>simpa using hd
      | false=>rw [hd] at hy2;cases hy2
    · cases hy2
  refine ⟨_,_,hk,fun n m B L WB WL sit hn vl vc hvl hvc=>?_⟩
  have hn : s.nl+1≤n+16:=hn
  obtain ⟨i,hi,hiz,his,hib,hizs⟩:=tU hz hzk hzl hz1 hsz
  cases hvl with
  | p _ _ hvl=>cases hvl;cases hvc with
    | p _ _ hvc=>
      cases hvc
      have hrun:=run_make (P:=P) m.w t u i (zeroVal (tabOf P) u) (Tab.slice hus) hi hiz kl kc ml mc (by omega) (by omega) (by
        rw [hib]
        rw [oe] at hb1
        have : ((((tabOf P).at u).bytes*mc : Nat) : Int)≤281474976710656:=by rw [Nat.mul_comm];omega
        rwa [Int.natCast_mul] at this) (by omega)
      simp only [Int.toNat_natCast,his] at hrun
      have hspos : 0<(rowOf X u).s:=by rw [os];omega
      have hzel : (zeroOf X u).isEl (rowOf X u).s (rowOf X u).g=true:=by
        unfold zeroOf
        rw [hT,os,og]
        simp only
        split
        · rename_i ha
          rw [ha]
          simp [PV.isEl,hzl]
        · rename_i ha
          have hs1:=hz1.resolve_left ha
          rw [hs1] at hzl ⊢
          match hzc : zeroCells (tabOf P) 20 u,hzl with
          | [x],_=>simp only [List.map_cons,List.headD_cons];cases x<;>simp [zeroPV,PV.isEl,ha]
      have hzcell : ∀ j z,(zeroCells (tabOf P) 20 u)[j]? = some z→cO (rowOf X u).g (zeroOf X u) j=zeroPV z:=by
        intro j z hj
        unfold zeroOf cO
        rw [hT,og]
        simp only
        cases ha : ((tabOf P).at u).isAgg with
        | true=>simp [List.getD,hj]
        | false=>
          have hs1:=hz1.resolve_left (by rw [ha];simp)
          rw [hs1] at hzl
          match hzc : zeroCells (tabOf P) 20 u,hzl with
          | [x],_=>
            rw [hzc] at hj
            cases j with
            | zero=>simp at hj;subst hj;simp
            | succ j=>simp at hj
      have hzv : (zeroVal (tabOf P) u).cells.toList=(zeroCells (tabOf P) 20 u).map zeroVl:=kW hzl hz1
      have hjz : ∀ j,j<(rowOf X u).s→∃ z,(zeroCells (tabOf P) 20 u)[j]? = some z:=fun j hj=>⟨_,List.getElem?_eq_getElem (by rw [hzl,← os];exact hj)⟩
      have E : Els (m.w.alloc (.cells (madeCells (zeroVal (tabOf P) u).cells (mc*((tabOf P).at u).size)) u)) m.Z (rowOf X u) (List.replicate ml (zeroOf X u)) (fun _ j=>zeroVl ((zeroCells (tabOf P) 20 u).getD j .nil)) (fun _ _ _=>False):=by
        refine ⟨fun i x hx=>?_,fun i j _ _=>sA _,fun i j x hx hj=>?_,fun _ _ _ _ _ _ _ _ _ h=>h.elim⟩
        · rw [List.mem_replicate.1 (List.mem_of_getElem? hx) |>.2];exact hzel
        · rw [(List.mem_replicate.1 (List.mem_of_getElem? hx)).2]
          obtain ⟨z,hj'⟩:=hjz j hj
          rw [hzcell j z hj']
          simp only [List.getD,hj',Option.getD_some]
          exact aEx hok j z hj'
      have hold : ∀ r,r<m.w.heap.size→(m.w.alloc (.cells (madeCells (zeroVal (tabOf P) u).cells (mc*((tabOf P).at u).size)) u)).heap[r]? = m.w.heap[r]?:=fun r hr=>heap_alloc_old m.w _ r hr
      have hcap : ml*(rowOf X u).s≤mc*(rowOf X u).s:=Nat.mul_le_mul_right _ hle
      have hro':=E.repO rfl hspos (b:=m.w.heap.size) (off:=0) (cap:=mc) (heap_alloc_new m.w _) (by rw [size_madeCells,os];omega) (by simp;exact hle) (fun hzr=>by have:=sit.inv.zlt _ hzr;omega)
        (fun i j hi' hj=>by
          obtain ⟨z,hj'⟩:=hjz j hj
          rw [List.length_replicate] at hi'
          have hlt:=sD hi' hj
          rw [Nat.zero_add]
          unfold madeCells
          have hlt2 : i*(rowOf X u).s+j<mc*((tabOf P).at u).size:=by rw [← os];omega
          rw [Array.getElem?_map,Array.getElem?_range,if_pos hlt2]
          simp only [Option.map_some]
          have hm : (i*(rowOf X u).s+j) % (zeroVal (tabOf P) u).cells.size=j:=by
            rw [hizs,← os,Nat.mul_comm,Nat.mul_add_mod,Nat.mod_eq_of_lt hj]
          rw [hm]
          simp only [List.getD,hj',Option.getD_some]
          have : (zeroVal (tabOf P) u).cells[j]? = some (zeroVl z):=by
            rw [← Array.getElem?_toList,hzv,List.getElem?_map,hj'];rfl
          rw [getElem!_def,this]) (fun _ _ _ _ h=>h)
      have G:=bK.addRow (B:=B) (L:=L) WB WL sit (by omega) (w':=m.w.alloc (.cells (madeCells (zeroVal (tabOf P) u).cells (mc*((tabOf P).at u).size)) u)) (own:=⟨rowOf X u,.lst (List.replicate ml (zeroOf X u))⟩)
        (hdr:=.slice (some ⟨m.w.heap.size,0,none⟩) (List.replicate ml (zeroOf X u)).length mc) rfl hro'
        (fun r hr=>by
          rcases hr with rfl | ⟨_,_,_,_,h⟩
          · exact .inr (Nat.le_refl _)
          · exact h.elim) (fun r hr _=>hold r hr) (by simp) rfl rfl rfl
      refine ⟨_,_,?_,G,aR.addRow_rd trivial⟩
      rw [hrun,List.length_replicate]
      rfl
end
end Go.Proofs.YthkofpnllaapeaaGreatDoor
namespace Go.Proofs.YthkofpnllaapeaaGreatDoor
open Go
section
variable {P : Program} {X : Cx}
theorem aG7 {s : St} {k : DV→St→Option R} {l : Nat} {path : dR} {lo hi : PV} {r : R} (hpath : path≠[]) (h : leaveK l path (some (lo,hi)) s k=some r) :
    ∃ s',k (.ref s.nl []) s'=some r∧s'.nl=s.nl+1∧(∀ l',isPlainL s' l'=isPlainL s l'∨isPlainL s' l'=true)∧∀ (n : Nat) (m : aR) (B L WB WL : Nat→Prop),mB m s B L n→s'.nl≤n+16→L l∧WL l→
      ∀ vb,m.rd (.sref l path lo hi) vb→∃ m',m'.w=m.w∧bK m m' s s' B L WB WL n id∧m'.rd (.ref s.nl []) vb:=by
  unfold leaveK at h
  split at h
  rotate_left
  · cases h
  rename_i w hw
  obtain ⟨c1,hg,h⟩:=nO h
  split at h
  rotate_left
  · cases h
  rename_i hfp
  simp only [Bool.and_eq_true] at hfp
  obtain ⟨hplain,hsh⟩:=hfp
  obtain ⟨c3,h,hq⟩:=aDo h
  obtain ⟨p0,path0,hpe⟩ : ∃ p0 q0,path=p0::q0:=by
    cases path with
    | nil=>exact absurd rfl hpath
    | cons a b=>exact ⟨a,b,rfl⟩
  rw [hpe,aGr,← hpe] at h
  obtain ⟨c',c2,h,hp2,HS⟩:=nP h
  obtain ⟨zs,hzs,hk⟩:=aBB h
  rw [hg] at hp2
  cases hp2
  refine ⟨_,hk,rfl,fun l'=>?_,fun n m B L WB WL sit hn hLl vb hvb=>?_⟩
  · by_cases e : l'=s.nl
    · refine .inr ?_
      unfold isPlainL
      rw [jW,if_pos (by exact e)]
      exact hplain
    · refine .inl ?_
      unfold isPlainL
      rw [jW,if_neg (by exact e),fC]
      by_cases e2 : l'=l
      · subst e2;rw [if_pos rfl,hw]
      · rw [if_neg e2]
  have hml : m.s.list l=some w:=(sit.al l (.inl hLl.1)).trans hw
  obtain ⟨hty,hlf0,hro⟩:=sit.inv.row l w hml
  rcases hq with ⟨hq,_⟩ | ⟨lo',hi',hq,hcut⟩
  · cases hq
  cases hq
  have hlf : (w.o.along path).isLeaf=false:=by
    cases hvb with
    | sref _ _ _ _ _ _ _ hd=>
      obtain ⟨_,_,_,_,_,_,_,hh,_⟩:=hd (aR.live_of hml)
      have:=hh.along_notLeaf (by rw [← hty];exact hlf0)
      rw [← hty] at this
      exact this
  obtain ⟨v1,F1,hh,hr1,hF1,HW⟩:=HS m.w m.Z _ _ hro hlf
  obtain ⟨xs0,_,_,_,_,hc1,_⟩:=jV hcut
  subst hc1
  have hcv : cH v1:=by
    rcases hr1.els hlf with ⟨_,_,h1⟩ | ⟨b,off,cap,cells,ety,cv,fp,h1,_⟩
    · rw [h1];exact trivial
    · rw [h1];exact trivial
  have hhole : bY m.w m.Z (w.o.along path) .hole v1 (fun _=>False):=by
    cases ho : w.o.along path with
    | leaf=>rw [ho] at hlf;cases hlf
    | own s e g cts=>exact .hole s e g cts v1 _ hcv (fun _ h=>h)
  obtain ⟨F',hro',hF'⟩:=HW m.w (fun _=>False) hhole (fun _ _=>rfl) (fun _ h=>h.elim)
  have G1:=bK.setRowH (B:=B) (L:=L) (WL:=WL) WB sit hLl.1 hLl.2 hw hsh hro' (fun r hr=>by
      rcases hF' r hr with h | h
      · exact .inl h.1
      · exact h.elim) (fun b o' len cap hlen hh0=>by
      rw [hh0,hzs] at hro'
      generalize w.o=ow at hro' hlf0
      cases hro' with
      | leaf=>cases hlf0
      | nil=>omega
      | own s0 e0 g0 cts0 xs0 b0 o0 cap0 cells0 ety0 cv0 fp0 F0 _ _ _ _ _ _ _ _ _ hfoot _ _=>exact (hfoot b).2 (.inl rfl))
  have hL2 : ∀ r,m.ρ.fp l r→¬ F' r→(m.setRow l m.w ⟨w.o,c'⟩ F').L r:=fun r h1 h2=>⟨.inr h1,h2⟩
  have sit2:=G1.sit sit
  have hcvb : cH vb:=by cases hvb;assumption
  obtain ⟨xs2,m2',n2,k3,k4,hc,h5,h6,h7,h8,rfl,hhd⟩:=jV hcut
  cases hc
  cases hvb with
  | sref _ _ _ _ _ _ _ hd=>
    obtain ⟨a,len,cap,k1,k2,m1,n1,h9,h10,h11,h12,h13,rfl⟩:=hd (aR.live_of hml)
    rw [h5] at h10;cases h10
    rw [h6] at h11;cases h11
    rw [← hty] at h9
    cases hh.unique h9
    obtain ⟨a',len',cap',F2,h14,h15,h16,h17⟩:=hr1.cut hlf hhd h7 h8
    cases h14
    rw [← hty] at hcvb ⊢
    have hn1 : (s.setList l ⟨w.o,c'⟩).nl<n+16:=by
      have : (s.setList l ⟨w.o,c'⟩).nl+1≤n+16:=hn
      omega
    have G2:=bK.addRow (B:=B) (L:=L) WB WL sit2 hn1 (w':=m.w) (own:=⟨w.o.along path,_⟩) (F:=F2) hlf h16 (fun r hr=>.inl (hL2 r (hF1 r (h17 r hr)) (fun hf=>by
        rcases hF' r hf with h | h
        · exact h.2 (h17 r hr)
        · exact h))) (fun _ _ _=>rfl) (Nat.le_refl _) rfl rfl rfl
    exact ⟨(m.setRow l m.w ⟨w.o,c'⟩ F').addRow (s.setList l ⟨w.o,c'⟩).nl m.w ⟨w.o.along path,_⟩ _ F2,rfl,G1.trans G2,aR.addRow_rd hcvb⟩
theorem mB.wide {m : aR} {s : St} {B L : Nat→Prop} {n : Nat} (h : mB m s B L n) : mB m s B (fun x=>L x∨(n≤x∧x<n+16)) n where
  inv:=h.inv
  ab:=h.ab
  al:=fun l hl=>h.al l (hl.elim id .inr)
  nb:=h.nb
  nl:=h.nl
  fb:=h.fb
  fl:=h.fl
theorem bK.narrow {m m' : aR} {s s' : St} {B L WB WL : Nat→Prop} {n : Nat} {scr : DV→DV} (h : bK m m' s s' B (fun x=>L x∨(n≤x∧x<n+16)) WB (fun x=>WL x∨(n≤x∧x<n+16)) n scr) : bK m m' s s' B L WB WL n scr where
  step:=h.step
  after:=⟨h.after.ab,fun l hl=>h.after.al l (hl.elim (fun h=>.inl (.inl h)) .inr),h.after.ob,fun l h1 h2=>h.after.ol l (fun h=>h.elim h1 h2) h2,h.after.wb,fun l h1 h2=>h.after.wl l (fun h=>h.elim h1 h2) h2⟩
  nb:=h.nb
  nl:=h.nl
  ub:=h.ub
  ul:=h.ul
theorem aFP {t : Nat} {a v : DV} {e : Env} {s : St} {k : Env→St→Option R} {r : R} (hT : X.T=tabOf P) (h : storeLK X t a v e s k=some r) :
    ∃ e' s' scr,k e' s'=some r∧(∀ t,e'.get t=scr (e.get t))∧((storeFoot s a v).last=false→scr=id∧e'=e)∧∀ (n : Nat) (m : aR) (B L WB WL : Nat→Prop),mB m s B L n→s'.nl≤n+16→
      (storeFoot s a v).Cov B L WB WL→∀ va vv,m.rd a va→m.rd v vv→
      ∃ m',(Instr.storeAt t va vv).run P m.w = .ok () m'.w∧bK m m' s s' B L WB WL n scr:=by
  unfold storeLK at h
  split at h
  rotate_left
  · exact aBx hT h
  rename_i la pa i off l p path lo hi
  obtain ⟨s1,h1,hnl,hpl,HL⟩:=aG7 (by simp) h
  obtain ⟨e',s',scr,hk,he,hid,H⟩:=aBx hT h1
  split at hk
  rotate_left
  · cases hk
  rename_i hgr
  have hgr:=mC hgr
  have hl1 : (storeFoot s1 (.eptr la pa i off) (.ref s.nl [])).last=false∨(storeFoot s1 (.eptr la pa i off) (.ref s.nl [])).last=(storeFoot s (.eptr la pa i off) (.sref l (p::path) lo hi)).last:=by
    simp only [storeFoot]
    rcases hpl la with h | h
    · rw [h];exact .inr rfl
    · rw [h];exact .inl rfl
  refine ⟨e',s',scr,hk,he,fun hla=>hid (hl1.elim id (fun h=>h.trans hla)),fun n m B L WB WL sit hn C va vv hva hvv=>?_⟩
  have hn0:=sit.nl
  have hn1 : s1.nl≤n+16:=by omega
  · have hll : L l∧WL l:=⟨C.rl l (by simp [storeFoot,sunk,lsOf]),C.wl l (by simp [storeFoot,sunk,lsOf])⟩
    obtain ⟨m1,hw1,G1,hd1⟩:=HL n m B L WB WL sit hn1 hll vv hvv
    have sit1:=(G1.sit sit).wide
    have hnew : n≤s.nl∧s.nl<n+16:=by omega
    have C1 : (storeFoot s1 (.eptr la pa i off) (.ref s.nl [])).Cov B (fun x=>L x∨(n≤x∧x<n+16)) WB (fun x=>WL x∨(n≤x∧x<n+16)):={
      rb:=fun b hb=>by simp [storeFoot] at hb
      rl:=fun x hx=>by
        simp only [storeFoot,List.mem_cons] at hx
        rcases hx with rfl | hx
        · exact .inl (C.rl x (by simp [storeFoot]))
        · have : x=s.nl:=by simpa [sunk,lsOf] using hx
          subst this;exact .inr hnew
      wb:=fun b hb=>by simp [storeFoot] at hb
      wl:=fun x hx=>by
        simp only [storeFoot,List.mem_cons] at hx
        rcases hx with rfl | hx
        · exact .inl (C.wl x (by simp [storeFoot]))
        · have : x=s.nl:=by simpa [sunk,lsOf] using hx
          subst this;exact .inr hnew
      all:=fun hlast x=>by
        rcases hl1 with h | h
        · rw [h] at hlast;cases hlast
        · rw [h] at hlast
          obtain ⟨q1,q2,q3,q4⟩:=C.all hlast x
          exact ⟨q1,.inl q2,q3,.inl q4⟩}
    obtain ⟨m',hrun,G2⟩:=H n m1 B _ WB _ sit1 hn C1 va vv (G1.step.rd _ _ hva) hd1
    rw [hw1] at hrun
    exact ⟨m',hrun,G1.trans G2.narrow⟩
end
end Go.Proofs.YthkofpnllaapeaaGreatDoor
namespace Go.Proofs.YthkofpnllaapeaaGreatDoor
open Go
def St.at (s : St) (n : Nat) : St:={ s with nb:=n,nl:=n}
structure oD (P : Program) (ops : Array Oper) (i : Nat) (o : Oper) (g g' : Nat→DV) (s s' : St) (n : Nat) (f : Foot) (scr : DV→DV) : Prop where
  env : ∀ t,o.dst≠some t→g' t=scr (g t)
  id : f.last=false→scr=id
  run : ∀ (m : aR) (B L WB WL : Nat→Prop) (a : Act) (K : Act→World→Prop) (Q : Exit→Act→World→Prop),mB m (s.at n) B L n→f.Cov B L WB WL→(f.ok=true∨∀ x,B x∧L x)→
    (∀ t∈o.looksAt ops,m.rd (g t) (a.eval (.tmp t)))→
    (∀ v m',bK m m' (s.at n) s' B L WB WL n scr→(∀ t,o.dst=some t→m'.rd (g' t) v)→K (a.put o.dst v) m'.w)→wpOp P ops Q i K a m.w
structure Tr where
  g : Nat→Nat→DV
  s : Nat→St
  f : Nat→Foot
  scr : Nat→DV→DV
def aKB (P : Program) (ops : Array Oper) (base : Nat) (T : Tr) : Prop:=
  ∀ i o,ops[i]? = some o→oD P ops i o (T.g i) (T.g (i+1)) (T.s i) (T.s (i+1)) (base+16*i) (T.f i) (T.scr i)
structure eW (m : aR) (s : St) (base : Nat) : Prop where
  inv : kT m
  box : ∀ b,m.s.box b=s.box b
  list : ∀ l,m.s.list l=s.list l
  ub : ∀ x,m.ρ.ub x→x<base
  ul : ∀ x,m.ρ.ul x→x<base
def fF (m : aR) (g : Nat→DV) (a : Act) : Prop:=∀ t,m.rd (g t) (a.eval (.tmp t))
theorem aBF {a : Act} {dst : Option Tmp} {v : Value} (hd : ∀ t,dst=some t→t<a.tmps.size) (t : Nat) :
    (a.put dst v).eval (.tmp t)=if dst=some t then v else a.eval (.tmp t):=by
  cases dst with
  | none=>simp [Act.put]
  | some d=>
    have hlt:=hd d rfl
    simp only [Act.put,Act.eval,Array.getD_eq_getD_getElem?,Array.getElem?_setIfInBounds]
    by_cases h : d=t
    · subst h;simp [hlt]
    · have : ¬ (some d=some t):=fun e=>h (by cases e;rfl)
      simp [h]
theorem aEy (a : Act) (dst : Option Tmp) (v : Value) : (a.put dst v).tmps.size=a.tmps.size:=by
  cases dst<;>simp [Act.put]
theorem aEz (a : Act) (dst : Option Tmp) (v : Value) : (a.put dst v).defers=a.defers:=by
  cases dst<;>rfl
section
variable {P : Program} {ops : Array Oper} {base : Nat}
theorem eW.sit {m : aR} {s : St} (h : eW m s base) {n : Nat} (hn : base≤n) : mB m (s.at n) (fun _=>True) (fun _=>True) n where
  inv:=h.inv
  ab:=fun b _=>h.box b
  al:=fun l _=>h.list l
  nb:=Nat.le_refl _
  nl:=Nat.le_refl _
  fb:=fun x hx _ hu=>by have h1:=h.ub x hu;have : n≤x:=hx;omega
  fl:=fun x hx _ hu=>by have h1:=h.ul x hu;have : n≤x:=hx;omega
theorem Foot.cov_all (f : Foot) : f.Cov (fun _=>True) (fun _=>True) (fun b=>b∈f.wb∨f.last=true) (fun l=>l∈f.wl∨f.last=true):=
  ⟨fun _ _=>trivial,fun _ _=>trivial,fun _ h=>.inl h,fun _ h=>.inl h,fun h _=>⟨trivial,trivial,.inr h,.inr h⟩⟩
structure aMn (s s' : St) (f : Foot) (n : Nat) : Prop where
  b : ∀ b,b∉f.wb→f.last=false→¬ (n≤b∧b<n+16)→s'.box b=s.box b
  l : ∀ l,l∉f.wl→f.last=false→¬ (n≤l∧l<n+16)→s'.list l=s.list l
theorem bK.full {m m' : aR} {s s' : St} {f : Foot} {n : Nat} {scr : DV→DV} (h : eW m s n) (G : bK m m' (s.at n) s' (fun _=>True) (fun _=>True) (fun b=>b∈f.wb∨f.last=true) (fun l=>l∈f.wl∨f.last=true) n scr) :
    eW m' s' (n+16)∧aMn s s' f n:=by
  refine ⟨⟨G.step.inv,fun b=>G.after.ab b (.inl trivial),fun l=>G.after.al l (.inl trivial),fun x hx=>?_,fun x hx=>?_⟩,⟨fun b h1 h2 h3=>?_,fun l h1 h2 h3=>?_⟩⟩
  · rcases G.step.ub x hx with h' | h'
    · have:=h.ub x h';omega
    · exact h'.2
  · rcases G.step.ul x hx with h' | h'
    · have:=h.ul x h';omega
    · exact h'.2
  · exact G.after.wb b (fun h=>h.elim h1 (fun h=>by rw [h2] at h;cases h)) h3
  · exact G.after.wl l (fun h=>h.elim h1 (fun h=>by rw [h2] at h;cases h)) h3
theorem oD.temps {i : Nat} {o : Oper} {g g' : Nat→DV} {s s' : St} {n : Nat} {f : Foot} {scr : DV→DV} (S : oD P ops i o g g' s s' n f scr) {m m' : aR} {a : Act} {v : Value}
    (ht : fF m g a) (hrd : ∀ d v,m.rd d v→m'.rd (scr d) v) (hd : ∀ t,o.dst=some t→m'.rd (g' t) v) (hsz : ∀ t,o.dst=some t→t<a.tmps.size) : fF m' g' (a.put o.dst v):=by
  intro t
  rw [aBF hsz]
  split
  · rename_i h;exact hd t h
  · rename_i h
    rw [S.env t h]
    exact hrd _ _ (ht t)
theorem aKC {i : Nat} {K : Act→World→Prop} {a : Act} {w : World} (h : wpOp P ops (fun _ _ _=>False) i K a w) : ∃ a' w',K a' w':=by
  unfold wpOp at h
  split at h
  · exact ⟨_,_,h⟩
  · split at h
    · rcases h with h | ⟨_,_,_,h⟩
      · unfold Oper.wp at h
        generalize (execOp a.eval _).run P w=r at h
        cases r with
        | ok n w'=>
          cases n<;>simp only [Oper.upon] at h<;>first
            | exact ⟨_,_,h⟩
            | exact h.elim
            | skip
          · obtain ⟨e,w'',fr,hR,_⟩:=h []
            cases e with
            | returned v=>exact ⟨_,_,hR⟩
            | panicked c=>exact hR.elim
            | outgrown=>obtain ⟨_,_,h⟩:=hR;exact h.elim
          · obtain ⟨v,w'',hR,_⟩:=h default []
            exact ⟨_,_,hR⟩
        | halt x w'=>
          cases x<;>simp only [Oper.upon] at h
      · exact h.elim
    · exact ⟨_,_,h⟩
theorem aGt {T : Tr} (hT : aKB P ops base T) {nt : Nat} (hdst : ∀ (i : Nat) (o : Oper) (t : Nat),ops[i]? = some o→o.dst=some t→t<nt) {m : aR} {a : Act} (hf : eW m (T.s 0) base) (ht : fF m (T.g 0) a) (hsz : nt≤a.tmps.size) :
    ∀ i,i≤ops.size→(∃ m' a',eW m' (T.s i) (base+16*i)∧fF m' (T.g i) a'∧nt≤a'.tmps.size)∧∀ j,j<i→aMn (T.s j) (T.s (j+1)) (T.f j) (base+16*j)
  | 0,_=>⟨⟨m,a,hf,ht,hsz⟩,fun j hj=>by omega⟩
  | i+1,hi=>by
    obtain ⟨⟨m1,a1,hf1,ht1,hsz1⟩,hR⟩:=aGt hT hdst hf ht hsz i (by omega)
    have ho : ops[i]? = some ops[i]:=Array.getElem?_eq_getElem (by omega)
    have S:=hT i _ ho
    obtain ⟨a',w',v,m',hK1,hK2,hK3,hK4⟩:=aKC (S.run m1 _ _ _ _ a1 (fun a' w'=>∃ v m',eW m' (T.s (i+1)) (base+16*i+16)∧aMn (T.s i) (T.s (i+1)) (T.f i) (base+16*i)∧fF m' (T.g (i+1)) (a1.put (ops[i]).dst v)∧nt≤(a1.put (ops[i]).dst v).tmps.size) _
      (hf1.sit (Nat.le_refl _)) (Foot.cov_all _) (.inr fun _=>⟨trivial,trivial⟩) (fun t _=>ht1 t)
      (fun v m' G hd=>by
        obtain ⟨h1,h2⟩:=G.full hf1
        exact ⟨v,m',h1,h2,S.temps ht1 G.step.rd hd (fun t h=>Nat.lt_of_lt_of_le (hdst i _ t ho h) hsz1),by rw [aEy];exact hsz1⟩))
    refine ⟨⟨m',_,by rw [show base+16*(i+1)=base+16*i+16 by omega];exact hK1,hK3,hK4⟩,fun j hj=>?_⟩
    by_cases h : j=i
    · subst h;exact hK2
    · exact hR j (by omega)
end
end Go.Proofs.YthkofpnllaapeaaGreatDoor
namespace Go.Proofs.YthkofpnllaapeaaGreatDoor
open Go
section
variable {α : Type} {val : Nat → α} {w : Nat → Prop} {D : Nat → Prop} {N : Nat}
structure At (w : Nat→Prop) (D : Nat→Prop) (N p : Nat) : Prop where
  le : p≤N
  src : p=0∨(D (p - 1)∧w (p - 1))
  lt : ∀ i,D i→w i→i<p
theorem At.same {p j : Nat} (hs : ∀ i,i<N→¬ w i→val (i+1)=val i) (h : At w D N p) (hj : j≤N) (hlt : ∀ i,i<j→w i→D i) (hle : p≤j) : val p=val j:=by
  have : ∀ q,p≤q→q≤j→val p=val q:=by
    intro q hq
    induction q with
    | zero=>intro _;rw [show p=0 by omega]
    | succ q ih=>
      intro hq'
      by_cases e : p=q+1
      · rw [e]
      · rw [ih (by omega) (by omega)]
        refine (hs q (by omega) (fun hw=>?_)).symm
        have:=h.lt q (hlt q (by omega) hw) hw
        omega
  exact this j hle (Nat.le_refl _)
theorem At.read {p j : Nat} (hs : ∀ i,i<N→¬ w i→val (i+1)=val i) (h : At w D N p) (hj : j<N) (hD : ¬ D j) (ho : ∀ i,i<N→i≠j→w i→(D i↔i<j)) (hDN : ∀ i,D i→i<N) : val p=val j∧p≤j:=by
  have hle : p≤j:=by
    rcases h.src with h0 | ⟨h1,h2⟩
    · omega
    · have hne : p - 1≠j:=fun e=>hD (e▸h1)
      have:=(ho (p - 1) (hDN _ h1) hne h2).1 h1
      omega
  exact ⟨h.same hs (by omega) (fun i hi hw=>(ho i (by omega) (by omega) hw).2 hi) hle,hle⟩
theorem At.skip {p j : Nat} (h : At w D N p) (hw : ¬ w j) : At w (fun i=>D i∨i=j) N p where
  le:=h.le
  src:=h.src.imp id (fun h=>⟨.inl h.1,h.2⟩)
  lt:=fun i hi hwi=>hi.elim (fun h'=>h.lt i h' hwi) (fun e=>absurd (e▸hwi) hw)
theorem At.write {j : Nat} (hj : j<N) (hw : w j) (ho : ∀ i,D i→w i→i<j) : At w (fun i=>D i∨i=j) N (j+1) where
  le:=hj
  src:=.inr ⟨.inr rfl,hw⟩
  lt:=fun i hi hwi=>hi.elim (fun h'=>Nat.lt_succ_of_lt (ho i h' hwi)) (fun e=>by omega)
theorem At.fin {p : Nat} (hs : ∀ i,i<N→¬ w i→val (i+1)=val i) (h : At w D N p) (hD : ∀ i,i<N→D i) : val p=val N:=
  h.same hs (Nat.le_refl _) (fun i hi _=>hD i hi) h.le
end
section
variable {P : Program} {ops : Array Oper} {base : Nat}
def aEA (ops : Array Oper) (D : Nat→Prop) : Prop:=∀ j o,ops[j]? = some o→D j→∀ e∈o.after.toList,Region.binds .any e=true→D e.on
def Beh (ops : Array Oper) (i j : Nat) : Prop:=∀ D : Nat→Prop,aEA ops D→(∀ o,ops[j]? = some o→∀ e∈o.after.toList,Region.binds .any e=true→D e.on)→D i
theorem aH3 {acc : List Nat} {i : Nat} : ∀ (l : List Edge) (b : Nat),(l.foldl (fun b e=>if Region.binds .any e then b||| 2 ^ e.on||| acc.getD e.on 0 else b) b).testBit i=true→
    b.testBit i=true∨∃ e∈l,Region.binds .any e=true∧(e.on=i∨(acc.getD e.on 0).testBit i=true)
  | [],b,h=>.inl h
  | e::l,b,h=>by
    rw [List.foldl_cons] at h
    rcases aH3 l _ h with h' | ⟨e',he',hb,h'⟩
    · split at h'
      · rename_i hb
        rw [Nat.testBit_or,Nat.testBit_or,Bool.or_eq_true,Bool.or_eq_true] at h'
        rcases h' with (h' | h') | h'
        · exact .inl h'
        · rw [Nat.testBit_two_pow] at h'
          exact .inr ⟨e,List.mem_cons_self,hb,.inl (by simpa using h')⟩
        · exact .inr ⟨e,List.mem_cons_self,hb,.inr h'⟩
      · exact .inl h'
    · exact .inr ⟨e',List.mem_cons_of_mem _ he',hb,h'⟩
theorem aCx : ∀ (r : List Oper) (acc : List Nat),ops.toList.drop acc.length=r→(∀ j,j<acc.length→∀ i,(acc.getD j 0).testBit i=true→Beh ops i j)→
    ∀ j i,((masks r acc).getD j 0).testBit i=true→Beh ops i j
  | [],acc,_,H,j,i,h=>by
    unfold masks at h
    by_cases hj : j<acc.length
    · exact H j hj i h
    · rw [List.getD,List.getElem?_eq_none (by omega)] at h
      simp at h
  | o::r,acc,hd,H,j,i,h=>by
    unfold masks at h
    have ho : ops[acc.length]? = some o:=by
      have : (ops.toList.drop acc.length)[0]? = some o:=by rw [hd];rfl
      simpa using this
    refine aCx r _ ?_ ?_ j i h
    · rw [List.length_append,← List.drop_drop,hd];rfl
    · intro j hj i hi
      rw [List.length_append,List.length_singleton] at hj
      by_cases hlt : j<acc.length
      · rw [List.getD,List.getElem?_append_left hlt] at hi
        exact H j hlt i hi
      · have : j=acc.length:=by omega
        subst this
        rw [List.getD,List.getElem?_append_right (Nat.le_refl _),Nat.sub_self] at hi
        simp only [List.getElem?_cons_zero,Option.getD_some] at hi
        rcases aH3 _ _ hi with h' | ⟨e,he,hb,h'⟩
        · simp at h'
        · intro D hC hj'
          have hon:=hj' o ho e he hb
          rcases h' with h' | h'
          · rwa [← h']
          · by_cases hel : e.on<acc.length
            · exact H e.on hel i h' D hC (fun o' ho' e' he' hb'=>hC e.on o' ho' hon e' he' hb')
            · rw [List.getD,List.getElem?_eq_none (by omega)] at h'
              simp at h'
theorem aBG {y : Oper} {b : Nat} : ∀ {l : List Oper} {i : Nat},tempsOk1 ops y b i l=true→∀ (k : Nat) x,l[k]? = some x→x.apart ops y=true∨b.testBit (i+k)=true
  | [],_,_,k,x,h=>by simp at h
  | x0::xs,i,h,k,x,hx=>by
    unfold tempsOk1 at h
    simp only [Bool.and_eq_true,Bool.or_eq_true] at h
    cases k with
    | zero=>simp at hx;subst hx;exact h.1
    | succ k=>
      have:=aBG h.2 k x (by simpa using hx)
      rwa [show i+(k+1)=i+1+k by omega]
theorem aDp {ms : List Nat} : ∀ {l : List Oper} {j : Nat},tempsOk ops ms j l=true→∀ (k : Nat) y,l[k]? = some y→∀ (i : Nat) x,i<j+k→ops[i]? = some x→x.apart ops y=true∨(ms.getD (j+k) 0).testBit i=true
  | [],_,_,k,y,h=>by simp at h
  | o::r,j,h,k,y,hy=>by
    unfold tempsOk at h
    simp only [Bool.and_eq_true] at h
    intro i x hi hx
    cases k with
    | zero=>
      simp at hy
      subst hy
      have:=aBG h.1 i x (by rw [List.getElem?_take,if_pos (by omega)];simpa using hx)
      simpa using this
    | succ k=>
      have:=aDp h.2 k y (by simpa using hy) i x (by omega) hx
      rwa [show j+(k+1)=j+1+k by omega]
theorem aEB : ∀ {l : List Oper} {j : Nat},backOk j l=true→∀ (k : Nat) o,l[k]? = some o→∀ e∈o.after.toList,Region.binds .any e=true→e.on<j+k
  | [],_,_,k,o,h=>by simp at h
  | o0::r,j,h,k,o,ho=>by
    unfold backOk at h
    simp only [Bool.and_eq_true,List.all_eq_true] at h
    intro e he hb
    cases k with
    | zero=>
      simp at ho
      subst ho
      have:=h.1 e he
      simp [hb,Nat.blt_eq] at this
      omega
    | succ k=>
      have:=aEB h.2 k o (by simpa using ho) e he hb
      omega
structure aH4 (ops : Array Oper) (base : Nat) (T : Tr) : Prop where
  back : ∀ (j : Nat) (o : Oper),ops[j]? = some o→∀ e∈o.after.toList,Region.binds .any e=true→e.on<j
  temps : ∀ (i j : Nat) (x y : Oper),i<j→ops[i]? = some x→ops[j]? = some y→x.apart ops y=true∨Beh ops i j
  meet : ∀ i j : Nat,i<j→j<ops.size→meets base (i,T.f i) (j,T.f j)=true→Beh ops i j
  ok : ∀ j : Nat,j<ops.size→(T.f j).ok=true
def wB (base : Nat) (T : Tr) (b i : Nat) : Prop:=b∈(T.f i).wb∨(T.f i).last=true∨(base+16*i≤b∧b<base+16*i+16)
def wL (base : Nat) (T : Tr) (b i : Nat) : Prop:=b∈(T.f i).wl∨(T.f i).last=true∨(base+16*i≤b∧b<base+16*i+16)
def wT (ops : Array Oper) (T : Tr) (t i : Nat) : Prop:=(∃ o,ops[i]? = some o∧o.dst=some t)∨(T.f i).last=true
theorem aH5 {a b : List Nat} : meet a b=true↔∃ x,x∈a∧x∈b:=by
  unfold Go.Proofs.YthkofpnllaapeaaGreatDoor.meet
  rw [List.any_eq_true]
  constructor
  · rintro ⟨x,h1,h2⟩;exact ⟨x,h1,oC.1 h2⟩
  · rintro ⟨x,h1,h2⟩;exact ⟨x,h1,oC.2 h2⟩
theorem aJY {n : Nat} {l : List Nat} : Foot.names.inR n l=true↔∃ x∈l,n≤x∧x<n+16:=by
  unfold Foot.names.inR
  rw [List.any_eq_true]
  constructor
  · rintro ⟨x,h1,h2⟩
    simp only [Bool.and_eq_true,Nat.blt_eq] at h2
    exact ⟨x,h1,mC h2.1,h2.2⟩
  · rintro ⟨x,h1,h2,h3⟩
    exact ⟨x,h1,by simp only [Bool.and_eq_true,Nat.blt_eq];exact ⟨Nat.ble_eq_true_of_le h2,h3⟩⟩
theorem aKD {T : Tr} {b i j : Nat} (hij : i≠j) (hi : wB base T b i) (hj : b∈(T.f j).rb∨wB base T b j) : meets base (i,T.f i) (j,T.f j)=true∧meets base (j,T.f j) (i,T.f i)=true:=by
  unfold meets Foot.clash Foot.names
  simp only [Bool.or_eq_true,aH5,aJY]
  rcases hi with hi | hi | hi
  · rcases hj with hj | hj | hj | hj
    · exact ⟨.inl (.inl (.inl (.inl (.inl (.inl (.inl (.inl (.inl ⟨b,hi,hj⟩)))))))),.inl (.inl (.inl (.inl (.inl (.inl (.inl (.inl (.inr ⟨b,hj,hi⟩))))))))⟩
    · exact ⟨.inl (.inl (.inl (.inl (.inl (.inl (.inl (.inr ⟨b,hi,hj⟩))))))),.inl (.inl (.inl (.inl (.inl (.inl (.inl (.inr ⟨b,hj,hi⟩)))))))⟩
    · exact ⟨.inl (.inl (.inr hj)),.inl (.inl (.inl (.inr hj)))⟩
    · exact ⟨.inr (.inl (.inr ⟨b,hi,hj⟩)),.inl (.inr (.inl (.inr ⟨b,hi,hj⟩)))⟩
  · exact ⟨.inl (.inl (.inl (.inr hi))),.inl (.inl (.inr hi))⟩
  · rcases hj with hj | hj | hj | hj
    · exact ⟨.inl (.inr (.inl (.inl (.inl ⟨b,hj,hi⟩)))),.inr (.inl (.inl (.inl ⟨b,hj,hi⟩)))⟩
    · exact ⟨.inl (.inr (.inl (.inr ⟨b,hj,hi⟩))),.inr (.inl (.inr ⟨b,hj,hi⟩))⟩
    · exact ⟨.inl (.inl (.inr hj)),.inl (.inl (.inl (.inr hj)))⟩
    · omega
theorem aJd {T : Tr} {b i j : Nat} (hij : i≠j) (hi : wL base T b i) (hj : b∈(T.f j).rl∨wL base T b j) : meets base (i,T.f i) (j,T.f j)=true∧meets base (j,T.f j) (i,T.f i)=true:=by
  unfold meets Foot.clash Foot.names
  simp only [Bool.or_eq_true,aH5,aJY]
  rcases hi with hi | hi | hi
  · rcases hj with hj | hj | hj | hj
    · exact ⟨.inl (.inl (.inl (.inl (.inl (.inl (.inr ⟨b,hi,hj⟩)))))),.inl (.inl (.inl (.inl (.inl (.inr ⟨b,hj,hi⟩)))))⟩
    · exact ⟨.inl (.inl (.inl (.inl (.inr ⟨b,hi,hj⟩)))),.inl (.inl (.inl (.inl (.inr ⟨b,hj,hi⟩))))⟩
    · exact ⟨.inl (.inl (.inr hj)),.inl (.inl (.inl (.inr hj)))⟩
    · exact ⟨.inr (.inr ⟨b,hi,hj⟩),.inl (.inr (.inr ⟨b,hi,hj⟩))⟩
  · exact ⟨.inl (.inl (.inl (.inr hi))),.inl (.inl (.inr hi))⟩
  · rcases hj with hj | hj | hj | hj
    · exact ⟨.inl (.inr (.inl (.inl (.inr ⟨b,hj,hi⟩)))),.inr (.inl (.inl (.inr ⟨b,hj,hi⟩)))⟩
    · exact ⟨.inl (.inr (.inr ⟨b,hj,hi⟩)),.inr (.inr ⟨b,hj,hi⟩)⟩
    · exact ⟨.inl (.inl (.inr hj)),.inl (.inl (.inl (.inr hj)))⟩
    · omega
theorem nR {T : Tr} {i j : Nat} (hi : (T.f i).last=true) : meets base (i,T.f i) (j,T.f j)=true∧meets base (j,T.f j) (i,T.f i)=true:=by
  unfold meets Foot.clash
  simp only [Bool.or_eq_true]
  exact ⟨.inl (.inl (.inl (.inr hi))),.inl (.inl (.inr hi))⟩
theorem nS {T : Tr} (A : aH4 ops base T) {D : Nat→Prop} (hC : aEA ops D) {j : Nat} {oj : Oper} (hoj : ops[j]? = some oj) (hr : ∀ e∈oj.after.toList,Region.binds .any e=true→D e.on) (hD : ¬ D j)
    {i : Nat} (hi : i<ops.size) (hij : i≠j) (hm : meets base (i,T.f i) (j,T.f j)=true∧meets base (j,T.f j) (i,T.f i)=true) : D i↔i<j:=by
  have hj : j<ops.size:=(Array.getElem?_eq_some_iff.1 hoj).1
  constructor
  · intro hDi
    rcases Nat.lt_or_ge i j with h | h
    · exact h
    · exact (hD (A.meet j i (by omega) hi hm.2 D hC (fun o ho e he hb=>hC i o ho hDi e he hb))).elim
  · intro h
    exact A.meet i j h hj hm.1 D hC (fun o ho e he hb=>by rw [hoj] at ho;cases ho;exact hr e he hb)
theorem aEC {T : Tr} (A : aH4 ops base T) {D : Nat→Prop} (hC : aEA ops D) {j : Nat} {oj : Oper} (hoj : ops[j]? = some oj) (hr : ∀ e∈oj.after.toList,Region.binds .any e=true→D e.on) (hD : ¬ D j)
    {i : Nat} {oi : Oper} (hoi : ops[i]? = some oi) (hij : i≠j) (h1 : oi.apart ops oj≠true) (h2 : oj.apart ops oi≠true) : D i↔i<j:=by
  constructor
  · intro hDi
    rcases Nat.lt_or_ge i j with h | h
    · exact h
    · exact (hD ((A.temps j i oj oi (by omega) hoj hoi).resolve_left h2 D hC (fun o ho e he hb=>hC i o ho hDi e he hb))).elim
  · intro h
    exact (A.temps i j oi oj h hoi hoj).resolve_left h1 D hC (fun o ho e he hb=>by rw [hoj] at ho;cases ho;exact hr e he hb)
end
end Go.Proofs.YthkofpnllaapeaaGreatDoor
namespace Go.Proofs.YthkofpnllaapeaaGreatDoor
open Go
section
variable {P : Program} {ops : Array Oper} {base : Nat} {I : aR → Prop}
structure aCy (I : aR→Prop) (ops : Array Oper) (base nt : Nat) (T : Tr) (D : Nat→Prop) (m : aR) (a : Act) : Prop where
  inv : kT m
  box : ∀ b,∃ p,At (wB base T b) D ops.size p∧m.s.box b=(T.s p).box b
  list : ∀ l,∃ p,At (wL base T l) D ops.size p∧m.s.list l=(T.s p).list l
  tmp : ∀ t,∃ p,At (wT ops T t) D ops.size p∧m.rd (T.g p t) (a.eval (.tmp t))
  ub : ∀ x,m.ρ.ub x→x<base∨∃ i,D i∧base+16*i≤x∧x<base+16*i+16
  ul : ∀ x,m.ρ.ul x→x<base∨∃ i,D i∧base+16*i≤x∧x<base+16*i+16
  sz : nt≤a.tmps.size
  i : I m
theorem At.congr {w : Nat→Prop} {D D' : Nat→Prop} {N p : Nat} (h : At w D N p) (hD : ∀ i,D i↔D' i) : At w D' N p:=
  ⟨h.le,h.src.imp id (fun h=>⟨(hD _).1 h.1,h.2⟩),fun i hi=>h.lt i ((hD i).2 hi)⟩
theorem aCy.congr {nt : Nat} {T : Tr} {D D' : Nat→Prop} {m : aR} {a : Act} (h : aCy I ops base nt T D m a) (hD : ∀ i,D i↔D' i) : aCy I ops base nt T D' m a where
  inv:=h.inv
  box:=fun b=>let ⟨p,h1,h2⟩:=h.box b;⟨p,h1.congr hD,h2⟩
  list:=fun b=>let ⟨p,h1,h2⟩:=h.list b;⟨p,h1.congr hD,h2⟩
  tmp:=fun b=>let ⟨p,h1,h2⟩:=h.tmp b;⟨p,h1.congr hD,h2⟩
  ub:=fun x hx=>(h.ub x hx).imp id (fun ⟨i,hi,h'⟩=>⟨i,(hD i).1 hi,h'⟩)
  ul:=fun x hx=>(h.ul x hx).imp id (fun ⟨i,hi,h'⟩=>⟨i,(hD i).1 hi,h'⟩)
  sz:=h.sz
  i:=h.i
theorem aCy.start {nt : Nat} {T : Tr} {m : aR} {a : Act} (hf : eW m (T.s 0) base) (ht : fF m (T.g 0) a) (hsz : nt≤a.tmps.size) (hi : I m) : aCy I ops base nt T (fun _=>False) m a where
  inv:=hf.inv
  box:=fun b=>⟨0,⟨Nat.zero_le _,.inl rfl,fun _ h=>h.elim⟩,hf.box b⟩
  list:=fun l=>⟨0,⟨Nat.zero_le _,.inl rfl,fun _ h=>h.elim⟩,hf.list l⟩
  tmp:=fun t=>⟨0,⟨Nat.zero_le _,.inl rfl,fun _ h=>h.elim⟩,ht t⟩
  ub:=fun x hx=>.inl (hf.ub x hx)
  ul:=fun x hx=>.inl (hf.ul x hx)
  sz:=hsz
  i:=hi
structure tC (ops : Array Oper) (base : Nat) (T : Tr) : Prop where
  rest : ∀ i,i<ops.size→aMn (T.s i) (T.s (i+1)) (T.f i) (base+16*i)
  env : ∀ i o t,ops[i]? = some o→o.dst≠some t→(T.f i).last=false→T.g (i+1) t=T.g i t
theorem tC.boxes {T : Tr} (S : tC ops base T) (b : Nat) : ∀ i,i<ops.size→¬ wB base T b i→(T.s (i+1)).box b=(T.s i).box b:=fun i hi hw=>
  (S.rest i hi).b b (fun h=>hw (.inl h)) (by cases h : (T.f i).last with | false=>rfl | true=>exact (hw (.inr (.inl h))).elim) (fun h=>hw (.inr (.inr h)))
theorem tC.lists {T : Tr} (S : tC ops base T) (l : Nat) : ∀ i,i<ops.size→¬ wL base T l i→(T.s (i+1)).list l=(T.s i).list l:=fun i hi hw=>
  (S.rest i hi).l l (fun h=>hw (.inl h)) (by cases h : (T.f i).last with | false=>rfl | true=>exact (hw (.inr (.inl h))).elim) (fun h=>hw (.inr (.inr h)))
theorem tC.temps {T : Tr} (S : tC ops base T) (t : Nat) : ∀ i,i<ops.size→¬ wT ops T t i→T.g (i+1) t=T.g i t:=fun i hi hw=>
  S.env i ops[i] t (Array.getElem?_eq_getElem hi) (fun h=>hw (.inl ⟨_,Array.getElem?_eq_getElem hi,h⟩)) (by cases h : (T.f i).last with | false=>rfl | true=>exact (hw (.inr h)).elim)
theorem aCy.step (hI : ∀ m m' scr n,I m→kT m→eH m m' scr n→I m') {nt : Nat} {T : Tr} (hT : aKB P ops base T) (A : aH4 ops base T) (S : tC ops base T) (hdst : ∀ (i : Nat) (o : Oper) (t : Nat),ops[i]? = some o→o.dst=some t→t<nt)
    {D : Nat→Prop} {m : aR} {a : Act} (h : aCy I ops base nt T D m a) (hC : aEA ops D) (hDN : ∀ i,D i→i<ops.size) {j : Nat} {oj : Oper} (hoj : ops[j]? = some oj)
    (hr : ∀ e∈oj.after.toList,Region.binds .any e=true→D e.on) (hD : ¬ D j) {K : Act→World→Prop} {Q : Exit→Act→World→Prop}
    (hK : ∀ m' a',aCy I ops base nt T (fun i=>D i∨i=j) m' a'→a'.defers=a.defers→K a' m'.w) : wpOp P ops Q j K a m.w:=by
  have hj : j<ops.size:=(Array.getElem?_eq_some_iff.1 hoj).1
  have L:=hT j oj hoj
  have ordB : ∀ b,b∈(T.f j).rb∨wB base T b j→∀ i,i<ops.size→i≠j→wB base T b i→(D i↔i<j):=fun b hb i hi hij hw=>
    nS A hC hoj hr hD hi hij (aKD hij hw hb)
  have ordL : ∀ b,b∈(T.f j).rl∨wL base T b j→∀ i,i<ops.size→i≠j→wL base T b i→(D i↔i<j):=fun b hb i hi hij hw=>
    nS A hC hoj hr hD hi hij (aJd hij hw hb)
  have atB : ∀ b,b∈(T.f j).rb∨wB base T b j→m.s.box b=(T.s j).box b:=by
    intro b hb
    obtain ⟨p,hp,hm⟩:=h.box b
    rw [hm]
    exact (hp.read (val:=fun i=>(T.s i).box b) (S.boxes b) hj hD (ordB b hb) hDN).1
  have atL : ∀ b,b∈(T.f j).rl∨wL base T b j→m.s.list b=(T.s j).list b:=by
    intro b hb
    obtain ⟨p,hp,hm⟩:=h.list b
    rw [hm]
    exact (hp.read (val:=fun i=>(T.s i).list b) (S.lists b) hj hD (ordL b hb) hDN).1
  have range : ∀ x,x<base∨(∃ i,D i∧base+16*i≤x∧x<base+16*i+16)→base+16*j≤x→x<base+16*j+16→False:=by
    intro x hx h1 h2
    rcases hx with hx | ⟨i,hi,h3,h4⟩
    · omega
    · have : i=j:=by omega
      exact hD (this▸hi)
  have sit : mB m ((T.s j).at (base+16*j)) (fun b=>b∈(T.f j).rb∨b∈(T.f j).wb∨(T.f j).last=true) (fun l=>l∈(T.f j).rl∨l∈(T.f j).wl∨(T.f j).last=true) (base+16*j):={
    inv:=h.inv
    ab:=fun b hb=>atB b (by
      rcases hb with (hb | hb | hb) | hb
      · exact .inl hb
      · exact .inr (.inl hb)
      · exact .inr (.inr (.inl hb))
      · exact .inr (.inr (.inr hb)))
    al:=fun b hb=>atL b (by
      rcases hb with (hb | hb | hb) | hb
      · exact .inl hb
      · exact .inr (.inl hb)
      · exact .inr (.inr (.inl hb))
      · exact .inr (.inr (.inr hb)))
    nb:=Nat.le_refl _
    nl:=Nat.le_refl _
    fb:=fun x hx hx' hu=>range x (h.ub x hu) hx hx'
    fl:=fun x hx hx' hu=>range x (h.ul x hu) hx hx'}
  have cov : (T.f j).Cov (fun b=>b∈(T.f j).rb∨b∈(T.f j).wb∨(T.f j).last=true) (fun l=>l∈(T.f j).rl∨l∈(T.f j).wl∨(T.f j).last=true) (fun b=>b∈(T.f j).wb∨(T.f j).last=true) (fun l=>l∈(T.f j).wl∨(T.f j).last=true):=
    ⟨fun _ h=>.inl h,fun _ h=>.inl h,fun _ h=>.inl h,fun _ h=>.inl h,fun h _=>⟨.inr (.inr h),.inr (.inr h),.inr h,.inr h⟩⟩
  have tempAt : ∀ t,(∀ i,i<ops.size→i≠j→wT ops T t i→(D i↔i<j))→m.rd (T.g j t) (a.eval (.tmp t)):=by
    intro t ht
    obtain ⟨p,hp,hm⟩:=h.tmp t
    rw [← (hp.read (val:=fun i=>T.g i t) (S.temps t) hj hD ht hDN).1]
    exact hm
  refine L.run m _ _ _ _ a K Q sit cov (.inl (A.ok j hj)) (fun t ht=>tempAt t (fun i hi hij hw=>?_)) (fun v m' G hd=>?_)
  · rcases hw with ⟨oi,hoi,hdi⟩ | hl
    · refine aEC A hC hoj hr hD hoi hij (fun e=>?_) (fun e=>?_)
      · exact (Oper.apart_spec e).1 t hdi ht
      · exact (Oper.apart_spec e).2.2 t hdi ht
    · exact nS A hC hoj hr hD hi hij (nR hl)
  · have hlen : ∀ t,oj.dst=some t→t<a.tmps.size:=fun t ht=>Nat.lt_of_lt_of_le (hdst j oj t hoj ht) h.sz
    refine hK m' _ ⟨G.step.inv,fun b=>?_,fun b=>?_,fun t=>?_,fun x hx=>?_,fun x hx=>?_,by rw [aEy];exact h.sz,hI _ _ _ _ h.i h.inv G.step⟩ (aEz _ _ _)
    · by_cases hw : wB base T b j
      · refine ⟨j+1,At.write hj hw (fun i hi hwi=>?_),?_⟩
        · exact (ordB b (.inr hw) i (hDN i hi) (fun e=>hD (e▸hi)) hwi).1 hi
        · refine G.after.ab b ?_
          rcases hw with hw | hw | hw
          · exact .inl (.inr (.inl hw))
          · exact .inl (.inr (.inr hw))
          · exact .inr hw
      · obtain ⟨p,hp,hm⟩:=h.box b
        refine ⟨p,hp.skip hw,?_⟩
        rw [← hm]
        by_cases hb : b∈(T.f j).rb
        · rw [G.after.ab b (.inl (.inl hb)),S.boxes b j hj hw,atB b (.inl hb)]
        · exact G.after.ob b (fun hB=>hB.elim hb (fun hB=>hw (hB.elim .inl (fun h=>.inr (.inl h))))) (fun hn=>hw (.inr (.inr hn)))
    · by_cases hw : wL base T b j
      · refine ⟨j+1,At.write hj hw (fun i hi hwi=>?_),?_⟩
        · exact (ordL b (.inr hw) i (hDN i hi) (fun e=>hD (e▸hi)) hwi).1 hi
        · refine G.after.al b ?_
          rcases hw with hw | hw | hw
          · exact .inl (.inr (.inl hw))
          · exact .inl (.inr (.inr hw))
          · exact .inr hw
      · obtain ⟨p,hp,hm⟩:=h.list b
        refine ⟨p,hp.skip hw,?_⟩
        rw [← hm]
        by_cases hb : b∈(T.f j).rl
        · rw [G.after.al b (.inl (.inl hb)),S.lists b j hj hw,atL b (.inl hb)]
        · exact G.after.ol b (fun hB=>hB.elim hb (fun hB=>hw (hB.elim .inl (fun h=>.inr (.inl h))))) (fun hn=>hw (.inr (.inr hn)))
    · rw [aBF hlen]
      by_cases ht : oj.dst=some t
      · rw [if_pos ht]
        refine ⟨j+1,At.write hj (.inl ⟨oj,hoj,ht⟩) (fun i hi hwi=>?_),hd t ht⟩
        have hij : i≠j:=fun e=>hD (e▸hi)
        rcases hwi with ⟨oi,hoi,hdi⟩ | hl
        · exact (aEC A hC hoj hr hD hoi hij (fun e=>(Oper.apart_spec e).2.1 t hdi ht) (fun e=>(Oper.apart_spec e).2.1 t ht hdi)).1 hi
        · exact (nS A hC hoj hr hD (hDN i hi) hij (nR hl)).1 hi
      · rw [if_neg ht]
        cases hl : (T.f j).last with
        | true=>
          refine ⟨j+1,At.write hj (.inr hl) (fun i hi hwi=>?_),?_⟩
          · exact (nS A hC hoj hr hD (hDN i hi) (fun e=>hD (e▸hi)) ⟨(nR hl).2,(nR hl).1⟩).1 hi
          · rw [L.env t ht]
            exact G.step.rd _ _ (tempAt t (fun i hi hij _=>nS A hC hoj hr hD hi hij ⟨(nR hl).2,(nR hl).1⟩))
        | false=>
          obtain ⟨p,hp,hm⟩:=h.tmp t
          refine ⟨p,hp.skip (fun hw=>?_),?_⟩
          · rcases hw with ⟨o',ho',hd'⟩ | hl'
            · rw [hoj] at ho';cases ho';exact ht hd'
            · rw [hl] at hl';cases hl'
          · have:=G.step.rd _ _ hm
            rw [L.id hl] at this
            exact this
    · rcases G.step.ub x hx with h' | h'
      · exact (h.ub x h').imp id (fun ⟨i,hi,h''⟩=>⟨i,.inl hi,h''⟩)
      · exact .inr ⟨j,.inr rfl,h'⟩
    · rcases G.step.ul x hx with h' | h'
      · exact (h.ul x h').imp id (fun ⟨i,hi,h''⟩=>⟨i,.inl hi,h''⟩)
      · exact .inr ⟨j,.inr rfl,h'⟩
theorem aCy.fin {nt : Nat} {T : Tr} (S : tC ops base T) {D : Nat→Prop} {m : aR} {a : Act} (h : aCy I ops base nt T D m a) (hD : ∀ i,i<ops.size→D i) (hDN : ∀ i,D i→i<ops.size) : eW m (T.s ops.size) (base+16*ops.size)∧fF m (T.g ops.size) a:=by
  refine ⟨⟨h.inv,fun b=>?_,fun b=>?_,fun x hx=>?_,fun x hx=>?_⟩,fun t=>?_⟩
  · obtain ⟨p,hp,hm⟩:=h.box b
    rw [hm];exact hp.fin (val:=fun i=>(T.s i).box b) (S.boxes b) hD
  · obtain ⟨p,hp,hm⟩:=h.list b
    rw [hm];exact hp.fin (val:=fun i=>(T.s i).list b) (S.lists b) hD
  · rcases h.ub x hx with h' | ⟨i,hi,h1,h2⟩
    · omega
    · have:=hDN i hi;omega
  · rcases h.ul x hx with h' | ⟨i,hi,h1,h2⟩
    · omega
    · have:=hDN i hi;omega
  · obtain ⟨p,hp,hm⟩:=h.tmp t
    rw [← hp.fin (val:=fun i=>T.g i t) (S.temps t) hD]
    exact hm
theorem aCz {listed : Array Bool} {i : Nat} : i∈Region.ready .any ops listed↔∃ o,ops[i]? = some o∧listed.getD i true=false∧∀ e∈o.after.toList,Region.binds .any e=true→listed.getD e.on false=true:=by
  unfold Region.ready
  rw [List.mem_filter,List.mem_range]
  constructor
  · rintro ⟨hi,h⟩
    have ho : ops[i]? = some ops[i]:=Array.getElem?_eq_getElem hi
    rw [ho] at h
    simp only [Bool.and_eq_true,Bool.not_eq_true',Option.map_some,Option.getD_some,Array.all_eq_true_iff_forall_mem,Bool.or_eq_true] at h
    refine ⟨_,ho,h.1,fun e he hb=>?_⟩
    rcases h.2 e (Array.mem_toList_iff.1 he) with h' | h'
    · rw [hb] at h';cases h'
    · exact h'
  · rintro ⟨o,ho,h1,h2⟩
    refine ⟨(Array.getElem?_eq_some_iff.1 ho).1,?_⟩
    rw [ho]
    simp only [Bool.and_eq_true,Bool.not_eq_true',Option.map_some,Option.getD_some,Array.all_eq_true_iff_forall_mem,Bool.or_eq_true]
    refine ⟨h1,fun e he=>?_⟩
    cases hb : Region.binds .any e with
    | false=>exact .inl rfl
    | true=>exact .inr (h2 e (Array.mem_toList_iff.2 he) hb)
def wU (n : Nat) (listed : Array Bool) : Nat:=((List.range n).filter fun i=>!listed.getD i false).length
theorem aG8 {n : Nat} {listed : Array Bool} (hs : listed.size=n) {j : Nat} (hj : j<n) (h : listed.getD j false=false) : wU n (listed.setIfInBounds j true)+1≤wU n listed:=by
  unfold wU
  have hsub : ∀ i,(listed.setIfInBounds j true).getD i false=if i=j then true else listed.getD i false:=by
    intro i
    simp only [Array.getD_eq_getD_getElem?,Array.getElem?_setIfInBounds]
    by_cases e : j=i
    · subst e;simp [hs,hj]
    · simp [e,Ne.symm e]
  have : ((List.range n).filter fun i=>!(listed.setIfInBounds j true).getD i false)=((List.range n).filter fun i=>!listed.getD i false).filter fun i=>!(i==j):=by
    rw [List.filter_filter]
    apply List.filter_congr
    intro i _
    rw [hsub]
    by_cases e : i=j<;>simp [e]
  rw [this]
  have hmem : j∈(List.range n).filter fun i=>!listed.getD i false:=by
    rw [List.mem_filter,List.mem_range]
    exact ⟨hj,by rw [h];rfl⟩
  have : ∀ (l : List Nat),j∈l→(l.filter fun i=>!(i==j)).length+1≤l.length:=by
    intro l
    induction l with
    | nil=>intro h;cases h
    | cons x r ih=>
      intro hm
      by_cases e : x=j
      · subst e
        simp only [List.filter_cons,beq_self_eq_true,Bool.not_true,Bool.false_eq_true,if_false,List.length_cons]
        have:=List.length_filter_le (fun i=>!(i==x)) r
        omega
      · have hm' : j∈r:=by
          rcases List.mem_cons.1 hm with h | h
          · exact absurd h.symm e
          · exact h
        have he : (!(x==j))=true:=by simpa using e
        simp only [List.filter_cons,he,if_true,List.length_cons]
        have:=ih hm'
        omega
  exact this _ hmem
theorem aKE (hI : ∀ m m' scr n,I m→kT m→eH m m' scr n→I m') {nt : Nat} {T : Tr} (hT : aKB P ops base T) (A : aH4 ops base T) (S : tC ops base T) (hdst : ∀ (i : Nat) (o : Oper) (t : Nat),ops[i]? = some o→o.dst=some t→t<nt) {ds : List Deferred}
    {Q : Exit→Act→World→Prop} (hQ : ∀ m a,eW m (T.s ops.size) (base+16*ops.size)→fF m (T.g ops.size) a→nt≤a.tmps.size→a.defers=ds→I m→Q .normal a m.w) :
    ∀ (fuel : Nat) (listed : Array Bool) (m : aR) (a : Act),listed.size=ops.size→wU ops.size listed≤fuel→aCy I ops base nt T (fun i=>listed.getD i false=true) m a→aEA ops (fun i=>listed.getD i false=true)→a.defers=ds→
      wpAny P .any ops Q fuel listed a m.w:=by
  intro fuel
  have hDN : ∀ listed : Array Bool,listed.size=ops.size→∀ i,listed.getD i false=true→i<ops.size:=by
    intro listed hs i hi
    rw [Array.getD_eq_getD_getElem?] at hi
    cases h : listed[i]? with
    | none=>rw [h] at hi;cases hi
    | some b=>have:=(Array.getElem?_eq_some_iff.1 h).1;omega
  have allD : ∀ listed : Array Bool,listed.size=ops.size→Region.ready .any ops listed = []→∀ i,i<ops.size→listed.getD i false=true:=by
    intro listed hs hr i
    induction i using Nat.strongRecOn with
    | _ i ih=>
      intro hi
      cases hl : listed.getD i false with
      | true=>rfl
      | false=>
        exfalso
        have : i∈Region.ready .any ops listed:=aCz.2 ⟨ops[i],Array.getElem?_eq_getElem hi,by
          rw [Array.getD_eq_getD_getElem?] at hl ⊢
          have hlt : i<listed.size:=by omega
          rw [Array.getElem?_eq_getElem hlt] at hl ⊢
          exact hl,fun e he hb=>by
            have:=A.back i _ (Array.getElem?_eq_getElem hi) e he hb
            exact ih e.on this (by omega)⟩
        rw [hr] at this
        cases this
  have done : ∀ (listed : Array Bool) (m : aR) (a : Act),listed.size=ops.size→aCy I ops base nt T (fun i=>listed.getD i false=true) m a→a.defers=ds→Region.ready .any ops listed = []→Q .normal a m.w:=by
    intro listed m a hs h hd hr
    obtain ⟨h1,h2⟩:=h.fin S (allD listed hs hr) (hDN listed hs)
    exact hQ m a h1 h2 h.sz hd h.i
  induction fuel with
  | zero=>
    intro listed m a hs hu h hC hd
    have hr : Region.ready .any ops listed = []:=by
      cases hr : Region.ready .any ops listed with
      | nil=>rfl
      | cons i r=>
        exfalso
        have hi : i∈Region.ready .any ops listed:=by rw [hr];exact List.mem_cons_self
        obtain ⟨o,ho,hl,_⟩:=aCz.1 hi
        have hlt : i<ops.size:=(Array.getElem?_eq_some_iff.1 ho).1
        have : i∈(List.range ops.size).filter fun i=>!listed.getD i false:=by
          rw [List.mem_filter,List.mem_range]
          refine ⟨hlt,?_⟩
          rw [Array.getD_eq_getD_getElem?] at hl ⊢
          rw [Array.getElem?_eq_getElem (by omega)] at hl ⊢
          simpa using hl
        have h0 : ((List.range ops.size).filter fun i=>!listed.getD i false) = []:=List.eq_nil_of_length_eq_zero (Nat.le_zero.1 hu)
        rw [h0] at this
        cases this
    exact ⟨hr,done listed m a hs h hd hr⟩
  | succ fuel ih=>
    intro listed m a hs hu h hC hd
    refine ⟨done listed m a hs h hd,fun j hj=>?_⟩
    obtain ⟨oj,hoj,hl,hr⟩:=aCz.1 hj
    have hlt : j<ops.size:=(Array.getElem?_eq_some_iff.1 hoj).1
    have hl' : listed.getD j false=false:=by
      rw [Array.getD_eq_getD_getElem?] at hl ⊢
      rw [Array.getElem?_eq_getElem (by omega)] at hl ⊢
      exact hl
    have hset : ∀ i,(listed.setIfInBounds j true).getD i false=true↔(listed.getD i false=true∨i=j):=by
      intro i
      simp only [Array.getD_eq_getD_getElem?,Array.getElem?_setIfInBounds]
      by_cases e : j=i
      · subst e;simp [hs,hlt]
      · simp [e,Ne.symm e]
    refine h.step hI hT A S hdst hC (hDN listed hs) hoj hr (by rw [hl'];simp) (fun m' a' h' hd'=>?_)
    refine ih _ m' a' (by rw [Array.size_setIfInBounds];exact hs) (by have:=aG8 hs hlt hl';omega) (h'.congr (fun i=>(hset i).symm)) (fun i o ho hi e he hb=>?_) (by rw [hd'];exact hd)
    refine (hset e.on).2 ?_
    rcases (hset i).1 hi with hi | rfl
    · exact .inl (hC i o ho hi e he hb)
    · rw [hoj] at ho;cases ho
      exact .inl (hr e he hb)
theorem aH6 (hI : ∀ m m' scr n,I m→kT m→eH m m' scr n→I m') {nt : Nat} {T : Tr} (hT : aKB P ops base T) (hdst : ∀ (i : Nat) (o : Oper) (t : Nat),ops[i]? = some o→o.dst=some t→t<nt) {ds : List Deferred}
    {Q : Exit→Act→World→Prop} (hQ : ∀ m a,eW m (T.s ops.size) (base+16*ops.size)→fF m (T.g ops.size) a→nt≤a.tmps.size→a.defers=ds→I m→Q .normal a m.w) :
    ∀ (k i : Nat),i+k=ops.size→∀ (m : aR) (a : Act),eW m (T.s i) (base+16*i)→fF m (T.g i) a→nt≤a.tmps.size→a.defers=ds→I m→wpOps P ops Q (List.range' i k) a m.w
  | 0,i,hik,m,a,hf,ht,hsz,hd,hi=>by
    have : i=ops.size:=by omega
    subst this
    exact hQ m a hf ht hsz hd hi
  | k+1,i,hik,m,a,hf,ht,hsz,hd,hi=>by
    rw [List.range'_succ,wpOps_cons]
    have ho : ops[i]? = some ops[i]:=Array.getElem?_eq_getElem (by omega)
    have S:=hT i _ ho
    refine S.run m _ _ _ _ a _ _ (hf.sit (Nat.le_refl _)) (Foot.cov_all _) (.inr fun _=>⟨trivial,trivial⟩) (fun t _=>ht t) (fun v m' G hdd=>?_)
    obtain ⟨h1,_⟩:=G.full hf
    exact aH6 hI hT hdst hQ k (i+1) (by omega) m' _ (by rw [show base+16*(i+1)=base+16*i+16 by omega];exact h1)
      (S.temps ht G.step.rd hdd (fun t h=>Nat.lt_of_lt_of_le (hdst i _ t ho h) hsz)) (by rw [aEy];exact hsz) (by rw [aEz];exact hd) (hI _ _ _ _ hi hf.inv G.step)
theorem aKF {nt : Nat} {T : Tr} (hT : aKB P ops base T) (hdst : ∀ (i : Nat) (o : Oper) (t : Nat),ops[i]? = some o→o.dst=some t→t<nt) {m : aR} {a : Act} (hf : eW m (T.s 0) base) (ht : fF m (T.g 0) a) (hsz : nt≤a.tmps.size) : tC ops base T where
  rest:=(aGt hT hdst hf ht hsz ops.size (Nat.le_refl _)).2
  env:=fun i o t ho hd hl=>by
    have S:=hT i o ho
    rw [S.env t hd,S.id hl];rfl
end
end Go.Proofs.YthkofpnllaapeaaGreatDoor
namespace Go.Proofs.YthkofpnllaapeaaGreatDoor
open Go
section
variable {P : Program} {X : Cx} {O : Orc}
theorem uL {w : World} {Z : Nat→Prop} {v : Value} {x : PV} (h : ofScalar v=some x) : eN w Z x v∧cH v:=by
  unfold ofScalar at h
  split at h<;>first | (cases h;done) | (cases h;exact ⟨by constructor,trivial⟩)
theorem aH7 {α β : Type} {f : α→Option β} : ∀ {l : List α} {r : List β},l.mapM f=some r→r.length=l.length∧∀ (i : Nat) a b,l[i]? = some a→r[i]? = some b→f a=some b
  | [],r,h=>by simp at h;subst h;exact ⟨rfl,fun i a b h=>by simp at h⟩
  | a0::l,r,h=>by
    rw [List.mapM_cons] at h
    cases ha : f a0 with
    | none=>rw [ha] at h;cases h
    | some b0=>
      rw [ha] at h
      cases hr : l.mapM f with
      | none=>rw [hr] at h;cases h
      | some r'=>
        rw [hr] at h
        cases h
        obtain ⟨h1,h2⟩:=aH7 hr
        refine ⟨by simp [h1],fun i a b hi hb=>?_⟩
        cases i with
        | zero=>simp at hi hb;subst hi;subst hb;exact ha
        | succ i=>exact h2 i a b (by simpa using hi) (by simpa using hb)
theorem aH8 {w : World} {Z : Nat→Prop} {v : Value} {x : PV} (h : ofConst v=some x) : eN w Z x v:=by
  unfold ofConst at h
  split at h
  · rename_i cs
    simp only [Option.map_eq_some_iff] at h
    obtain ⟨ps,hps,rfl⟩:=h
    obtain ⟨h1,h2⟩:=aH7 hps
    have : cs=cs.toList.toArray:=by simp
    rw [this]
    refine .agg _ _ h1 (fun i v hv=>?_) (fun i c v hc hv=>?_)
    · have hlt:=(List.getElem?_eq_some_iff.1 hv).1
      have hp : ps[i]? = some (ps[i]'(by omega)):=List.getElem?_eq_getElem (by omega)
      exact (uL (w:=w) (Z:=Z) (h2 i v _ hv hp)).2
    · exact (uL (h2 i v c hv hc)).1
  · exact (uL h).1
theorem aJe {v : Value} (h : isNils v=true) : v = .slice none 0 0:=by
  unfold isNils at h
  split at h
  · rfl
  · cases h
theorem aLs (hg : ∀ g,X.glob g=none) {m : aR} {e : Env} {a : Act} {x : Operand} (h : ∀ t,x = .tmp t→m.rd (e.get t) (a.eval (.tmp t))) : m.rd (ev X e x) (a.eval x):=by
  cases x with
  | tmp t=>exact h t rfl
  | const v=>
    show m.rd (if isNils v then .nils else match ofConst v with | some pv=>.p pv | none=>.dead) v
    split
    · rename_i hn
      rw [aJe hn]
      exact .nils
    · split
      · rename_i pv hpv
        exact .p _ _ (aH8 hpv)
      · exact .dead _
  | func f=>exact .fn f [] [] rfl (fun i d v h=>by simp at h)
  | global g=>
    show m.rd (match X.glob g with | some cs=>.p (.bx cs) | none=>.dead) _
    rw [hg g]
    exact .dead _
structure aGu (P : Program) (X : Cx) (o : Oper) (e e' : Env) (s s' : St) (f : Foot) (scr : DV→DV) : Prop where
  env : ∀ t,o.dst≠some t→e'.get t=scr (e.get t)
  id : f.last=false→scr=id
  run : ∀ (n : Nat) (m : aR) (B L WB WL : Nat→Prop) (a : Act),mB m s B L n→s'.nb≤n+16→s'.nl≤n+16→f.Cov B L WB WL→(f.ok=true∨∀ x,B x∧L x)→
    (∀ x∈o.op.operands,m.rd (ev X e x) (a.eval x))→zY P ((execOp a.eval o).run P m.w) (fun v w'=>∃ m',m'.w=w'∧bK m m' s s' B L WB WL n scr∧∀ t,o.dst=some t→m'.rd (e'.get t) v)
theorem pW (dst : Option Nat) (d : DV) (e : Env) (t : Nat) : (put dst d e).get t=if dst=some t then d else e.get t:=by
  cases dst with
  | none=>simp [put]
  | some u=>
    unfold put
    simp only [Env.get]
    by_cases h : t=u
    · subst h;simp
    · have : Nat.beq t u=false:=by
        cases hb : Nat.beq t u with
        | false=>rfl
        | true=>exact absurd (bH hb) h
      rw [this]
      have h' : ¬ (some u=some t):=fun e=>h (by cases e;rfl)
      simp [h']
theorem aGu.val {o : Oper} {e : Env} {s s' : St} {d : DV} {f : Foot}
    (H : ∀ (n : Nat) (m : aR) (B L WB WL : Nat→Prop) (a : Act),mB m s B L n→s'.nb≤n+16→s'.nl≤n+16→f.Cov B L WB WL→(f.ok=true∨∀ x,B x∧L x)→
      (∀ x∈o.op.operands,m.rd (ev X e x) (a.eval x))→∃ v m',(execOp a.eval o).run P m.w = .ok (.value v) m'.w∧bK m m' s s' B L WB WL n _root_.id∧m'.rd d v) : aGu P X o e (put o.dst d e) s s' f _root_.id where
  env:=fun t ht=>by rw [pW,if_neg ht];rfl
  id:=fun _=>rfl
  run:=fun n m B L WB WL a sit h1 h2 C hok hop=>by
    obtain ⟨v,m',hr,G,hd⟩:=H n m B L WB WL a sit h1 h2 C hok hop
    rw [hr]
    exact ⟨m',rfl,G,fun t ht=>by rw [pW,if_pos ht];exact hd⟩
def aBH (P : Program) (X : Cx) (O : Orc) : Prop:=
  ∀ (d : DV) (args : List DV) (ts : List Nat) (e : Env) (s : St) (k : DV→Env→St→Option R) (r : R),applyK X O d args ts e s k=some r→
    ∃ d' e' s' scr,k d' e' s'=some r∧(∀ t,e'.get t=scr (e.get t))∧((callFoot X d args s).last=false→scr=id)∧
      ∀ (n : Nat) (m : aR) (B L WB WL : Nat→Prop),mB m s B L n→s'.nb≤n+16→s'.nl≤n+16→(callFoot X d args s).Cov B L WB WL→((callFoot X d args s).ok=true∨∀ x,B x∧L x)→
        ∀ vf (vs : Array Value),m.rd d vf→args.length=vs.size→(∀ (i : Nat) d v,args[i]? = some d→vs[i]? = some v→m.rd d v)→
          zY P ((do let df ← Deferred.ofValue vf vs;invoke df.target df.args : Sem Next).run P m.w) (fun v w'=>∃ m',m'.w=w'∧bK m m' s s' B L WB WL n scr∧m'.rd d' v)
theorem aJZ {m : aR} {e : Env} {a : Act} {ps : Array (Nat × Operand)} (h : ∀ x∈ps.toList.map (·.2),m.rd (ev X e x) (a.eval x)) :
    RdP m (ps.toList.map fun p=>(p.1,ev X e p.2)) (ps.map fun (p : Nat × Operand)=>(p.1,a.eval p.2)).toList:=by
  refine ⟨by simp,fun i p v hp hv=>?_⟩
  rw [Array.toList_map,List.getElem?_map] at hv
  rw [List.getElem?_map] at hp
  cases hi : ps.toList[i]? with
  | none=>rw [hi] at hp;cases hp
  | some q=>
    rw [hi] at hp hv
    cases hp;cases hv
    exact ⟨rfl,h q.2 (List.mem_map.2 ⟨q,List.mem_of_getElem? hi,rfl⟩)⟩
theorem aJf {m : aR} {e : Env} {a : Act} {xs : Array Operand} (h : ∀ x∈xs.toList,m.rd (ev X e x) (a.eval x)) :
    (xs.toList.map (ev X e)).length=(xs.map a.eval).size∧∀ (i : Nat) d v,(xs.toList.map (ev X e))[i]? = some d→(xs.map a.eval)[i]? = some v→m.rd d v:=by
  refine ⟨by simp,fun i d v hd hv=>?_⟩
  rw [List.getElem?_map] at hd
  rw [Array.getElem?_map] at hv
  cases hi : xs.toList[i]? with
  | none=>rw [hi] at hd;cases hd
  | some q=>
    have hi' : xs[i]? = some q:=by simpa using hi
    rw [hi] at hd
    rw [hi'] at hv
    cases hd;cases hv
    exact h q (List.mem_of_getElem? hi)
theorem aED {ds : List DV} {B L WB WL : Nat→Prop} (C : (sunkFoot ds).Cov B L WB WL) : ∀ l∈ds.flatMap (lsOf (deep+1)),L l∧WL l:=fun l hl=>⟨C.rl l hl,C.wl l hl⟩
theorem aD7 {m : aR} {e : Env} {a : Act} {x : Option Operand} (h : ∀ y,x=some y→m.rd (ev X e y) (a.eval y)) : m.rdO (x.map (ev X e)) (x.map a.eval):=by
  cases x with
  | none=>exact trivial
  | some y=>exact h y rfl
theorem zY.mono {res : Result Next} {p q : Value→World→Prop} (h : zY P res p) (hpq : ∀ v w,p v w→q v w) : zY P res q:=by
  unfold zY at h ⊢
  split<;>simp only at h
  · exact hpq _ _ h
  · exact hpq _ _ h
  · exact h.mono (fun e w' ⟨v,he,hp⟩=>⟨v,he,hpq _ _ hp⟩)
theorem aEE (hT : X.T=tabOf P) (hz : iU P X.zok) {b : Builtin} {ts : Array TypeId} {args : List DV} {e : Env} {s : St} {k : DV→Env→St→Option R} {r : R} (h : builtinK X b ts.toList args e s k=some r) :
    ∃ d' e' s' scr,k d' e' s'=some r∧(∀ t,e'.get t=scr (e.get t))∧((builtinFoot b args s).last=false→scr=id)∧∀ (n : Nat) (m : aR) (B L WB WL : Nat→Prop),mB m s B L n→s'.nl≤n+16→(builtinFoot b args s).Cov B L WB WL→
      ∀ (vs : Array Value) (ty : TypeId) (cs : Array Bool),args.length=vs.size→(∀ (i : Nat) d v,args[i]? = some d→vs[i]? = some v→m.rd d v)→
        ∃ v m',(builtin b ts ty cs vs).run P m.w = .ok (.value v) m'.w∧bK m m' s s' B L WB WL n scr∧m'.rd d' v:=by
  have one : ∀ {vs : Array Value},1=vs.size→∃ v,vs = #[v]:=by
    intro vs h
    refine ⟨vs[0],?_⟩
    apply Array.ext
    · simp [← h]
    · intro i h1 h2
      have : i=0:=by omega
      subst this;rfl
  have two : ∀ {vs : Array Value},2=vs.size→∃ v w,vs = #[v,w]:=by
    intro vs h
    refine ⟨vs[0],vs[1],?_⟩
    apply Array.ext
    · simp [← h]
    · intro i h1 h2
      have : i=0∨i=1:=by omega
      rcases this with rfl | rfl<;>rfl
  have tsOf : ∀ {l : List Nat},ts.toList=l→ts=l.toArray:=fun h=>by rw [← h]
  unfold builtinK at h
  split at h
  · rename_i t d hts
    have hts:=tsOf hts;subst hts
    obtain ⟨y,hk,H⟩:=aI6 hT h
    refine ⟨y,e,s,id,hk,fun _=>rfl,fun _=>rfl,fun n m B L WB WL sit _ C vs ty cs hl hr=>?_⟩
    obtain ⟨v,rfl⟩:=one hl
    obtain ⟨u,hrun,hd⟩:=H m sit.inv (fun l hl=>sit.al l (.inl (C.rl l hl))) v ty (hr 0 d v rfl rfl)
    exact ⟨u,m,by simp only [builtin,Sem.run_bind,hrun];rfl,bK.refl WB WL sit,hd⟩
  · rename_i t u a d hts
    have hts:=tsOf hts;subst hts
    split at h
    rotate_left
    · cases h
    rename_i te hte
    split at h
    rotate_left
    · cases h
    rename_i hu
    obtain ⟨d',s',hk,H⟩:=aFM hT hz h
    refine ⟨d',e,s',id,hk,fun _=>rfl,fun _=>rfl,fun n m B L WB WL sit hn C vs ty cs hl hr=>?_⟩
    obtain ⟨v,w,rfl⟩:=two hl
    have ht : P.underlying t=some (.slice te):=by
      unfold elemOf at hte
      rw [hT] at hte
      split at hte
      · rename_i e' he;cases hte;exact Tab.slice he
      · cases hte
    have hu' : (∃ f,P.underlying u=some (.slice f))∨P.underlying u=some .string:=by
      unfold isRow at hu
      rw [hT] at hu
      split at hu
      · rename_i f hf;exact .inl ⟨f,Tab.slice hf⟩
      · rename_i hf;exact .inr (Tab.str hf)
      · cases hu
    obtain ⟨x,m',hrun,G,hd⟩:=H n m B L WB WL sit hn (fun l hl=>⟨C.rl l (by simpa [builtinFoot,sunkFoot,sunk] using hl),C.wl l (by simpa [builtinFoot,sunkFoot,sunk] using hl)⟩) t u ty ht hu' v w (hr 0 a v rfl rfl) (hr 1 d w rfl rfl)
    exact ⟨x,m',by simp only [builtin,Sem.run_bind];rw [hrun];rfl,G,hd⟩
  · rename_i t u a d hts
    have hts:=tsOf hts;subst hts
    split at h
    rotate_left
    · cases h
    rename_i te hte
    obtain ⟨d',s',hk,H⟩:=aH1 hT hz h
    refine ⟨d',e,s',id,hk,fun _=>rfl,fun _=>rfl,fun n m B L WB WL sit hn C vs ty cs hl hr=>?_⟩
    obtain ⟨v,w,rfl⟩:=two hl
    have ht : P.underlying t=some (.slice te):=by
      unfold elemOf at hte
      rw [hT] at hte
      split at hte
      · rename_i e' he;cases hte;exact Tab.slice he
      · cases hte
    obtain ⟨x,m',hrun,G,hd⟩:=H n m B L WB WL sit (fun l hl=>aED (ds:=[a,d]) C l (by simpa using hl)) t u ty ht v w (hr 0 a v rfl rfl) (hr 1 d w rfl rfl)
    exact ⟨x,m',by simp only [builtin,Sem.run_bind];rw [hrun];rfl,G,hd⟩
  · rename_i a b'
    obtain ⟨c,hc,hk⟩:=aO h
    refine ⟨_,e,s,id,hk,fun _=>rfl,fun _=>rfl,fun n m B L WB WL sit hn C vs ty cs hl hr=>?_⟩
    obtain ⟨v,w,rfl⟩:=two hl
    have h0:=hr 0 _ v rfl rfl
    have h1:=hr 1 _ w rfl rfl
    unfold PV.imin at hc
    split at hc
    · cases hc
      cases h0 with
      | p _ _ h0=>cases h0;cases h1 with
        | p _ _ h1=>cases h1;exact ⟨_,m,rfl,bK.refl WB WL sit,.p _ _ (.int _ _)⟩
    · cases hc
  · rename_i a b'
    obtain ⟨c,hc,hk⟩:=aO h
    refine ⟨_,e,s,id,hk,fun _=>rfl,fun _=>rfl,fun n m B L WB WL sit hn C vs ty cs hl hr=>?_⟩
    obtain ⟨v,w,rfl⟩:=two hl
    have h0:=hr 0 _ v rfl rfl
    have h1:=hr 1 _ w rfl rfl
    unfold PV.imax at hc
    split at hc
    · cases hc
      cases h0 with
      | p _ _ h0=>cases h0;cases h1 with
        | p _ _ h1=>cases h1;exact ⟨_,m,rfl,bK.refl WB WL sit,.p _ _ (.int _ _)⟩
    · cases hc
  · cases h
theorem aJg (hT : X.T=tabOf P) (hz : iU P X.zok) (hC : aBH P X O) {o : Oper} {e : Env} {s : St} {k : Kont} {r : R} (h : exec X O o e s k=some r) :
    ∃ e' s' scr,k e' s'=some r∧aGu P X o e e' s s' (footOf X o e s) scr:=by
  obtain ⟨dst,op,type,pos,after,guard⟩:=o
  cases op<;>unfold exec at h<;>simp only at h<;>try (cases h;done)
  case move x=>
    obtain ⟨d,s',hk,H⟩:=sC h
    refine ⟨_,s',_,hk,.val fun n m B L WB WL a sit h1 h2 C _ hop=>?_⟩
    obtain ⟨m',hw,G,hd⟩:=H n m B L WB WL sit h2 (.inr fun l hl=>⟨C.rl l (by simp only [footOf];revert hl;cases ev X e x<;>simp [moveFoot,Foot.none]),C.wl l (by simpa only [footOf] using hl)⟩) _ (hop x (by simp [Op.operands]))
    exact ⟨_,m',by rw [hw];rfl,G,hd⟩
  case assign x=>
    obtain ⟨d,s',hk,H⟩:=sC h
    refine ⟨_,s',_,hk,.val fun n m B L WB WL a sit h1 h2 C _ hop=>?_⟩
    obtain ⟨m',hw,G,hd⟩:=H n m B L WB WL sit h2 (.inr fun l hl=>⟨C.rl l (by simp only [footOf];revert hl;cases ev X e x<;>simp [moveFoot,Foot.none]),C.wl l (by simpa only [footOf] using hl)⟩) _ (hop x (by simp [Op.operands]))
    exact ⟨_,m',by rw [hw];rfl,G,hd⟩
  case pick c x y=>
    obtain ⟨d,s',hk,H⟩:=aHY h
    refine ⟨_,s',_,hk,.val fun n m B L WB WL a sit h1 h2 C _ hop=>?_⟩
    obtain ⟨v,m',hr,G,hd⟩:=H n m B L WB WL sit h2 _ _ _ (hop c (by simp [Op.operands])) (hop x (by simp [Op.operands])) (hop y (by simp [Op.operands]))
    exact ⟨v,m',hr,G,hd⟩
  case alloc t=>
    obtain ⟨d,s',hk,H⟩:=aG0 hT hz h
    refine ⟨_,s',_,hk,.val fun n m B L WB WL a sit h1 h2 C _ hop=>?_⟩
    obtain ⟨v,m',hr,G,hd⟩:=H n m B L WB WL sit h2 h1
    exact ⟨v,m',by simp [execOp,hr],G,hd⟩
  case box t x=>
    obtain ⟨d,s',hk,H⟩:=aI5 (P:=P) h
    refine ⟨_,s',_,hk,.val fun n m B L WB WL a sit h1 h2 C _ hop=>?_⟩
    obtain ⟨v,m',hr,G,hd⟩:=H n m B L WB WL sit h2 h1 _ (hop x (by simp [Op.operands]))
    exact ⟨v,m',by simp [execOp,hr],G,hd⟩
  case build t ps=>
    obtain ⟨d,hk,H⟩:=aFL hT hz h
    refine ⟨_,s,_,hk,.val fun n m B L WB WL a sit h1 h2 C _ hop=>?_⟩
    obtain ⟨v,hr,hd⟩:=H m _ (aJZ (X:=X) (a:=a) (fun x hx=>hop x (by simpa [Op.operands] using hx)))
    exact ⟨v,m,by simp only [execOp,Sem.run_bind];rw [show (fun (x : Nat × Operand)=>(x.1,a.eval x.2))=fun (p : Nat × Operand)=>(p.1,a.eval p.2) from rfl,hr];rfl,bK.refl WB WL sit,hd⟩
  case buildSlice t n0 ps=>
    obtain ⟨d,s',hk,H⟩:=aBE hT hz h
    refine ⟨_,s',_,hk,.val fun n m B L WB WL a sit h1 h2 C _ hop=>?_⟩
    obtain ⟨v,m',hr,G,hd⟩:=H n m B L WB WL sit h2 h1 (fun l hl=>aED C l (by simpa [List.map_map,Function.comp] using hl)) _ (aJZ (X:=X) (a:=a) (fun x hx=>hop x (by simpa [Op.operands] using hx)))
    exact ⟨v,m',by simp only [execOp,Sem.run_bind];rw [hr];rfl,G,hd⟩
  case makeSlice t l c=>
    obtain ⟨d,s',hk,H⟩:=aCw hT hz h
    refine ⟨_,s',_,hk,.val fun n m B L WB WL a sit h1 h2 C _ hop=>?_⟩
    obtain ⟨v,m',hr,G,hd⟩:=H n m B L WB WL sit h2 _ _ (hop l (by simp [Op.operands])) (hop c (by simp [Op.operands]))
    exact ⟨v,m',by simp [execOp,hr],G,hd⟩
  case load t x=>
    obtain ⟨da,h,hfa,_,hda⟩:=aCp h
    obtain ⟨d,hk,H⟩:=aDe hT h
    rw [hfa] at H
    refine ⟨_,s,_,hk,.val fun n m B L WB WL a sit h1 h2 C _ hop=>?_⟩
    obtain ⟨v,hr,hd⟩:=H m sit.inv (fun b hb=>sit.ab b (.inl (C.rb b hb))) (fun l hl=>sit.al l (.inl (C.rl l hl))) _ (hda m _ (hop x (by simp [Op.operands])))
    exact ⟨v,m,by simp [execOp,hr],bK.refl WB WL sit,hd⟩
  case store t x y=>
    obtain ⟨da,h,_,hfa,hda⟩:=aCp h
    obtain ⟨e',s',scr,hk,he,hid,H⟩:=aFP hT h
    rw [hfa] at hid H
    refine ⟨_,s',scr,hk,⟨fun t ht=>by rw [pW,if_neg ht];exact he t,fun hl=>(hid hl).1,fun n m B L WB WL a sit h1 h2 C _ hop=>?_⟩⟩
    obtain ⟨m',hr,G⟩:=H n m B L WB WL sit h2 C _ _ (hda m _ (hop x (by simp [Op.operands]))) (hop y (by simp [Op.operands]))
    have : (execOp a.eval ⟨dst,.store t x y,type,pos,after,guard⟩).run P m.w = .ok .skip m'.w:=by simp [execOp,hr]
    rw [this]
    exact ⟨m',rfl,G,fun t ht=>by rw [pW,if_pos ht];exact .dead _⟩
  case nilCheck x=>
    obtain ⟨da,h,hfa,_,hda⟩:=aCp h
    obtain ⟨d,hk,H⟩:=aDD h
    rw [hfa] at H
    refine ⟨_,s,_,hk,.val fun n m B L WB WL a sit h1 h2 C _ hop=>?_⟩
    obtain ⟨hd,hv⟩:=H m (fun l hl=>sit.al l (.inl (C.rl l hl))) _ (hda m _ (hop x (by simp [Op.operands])))
    refine ⟨a.eval x,m,?_,bK.refl WB WL sit,hd⟩
    rcases hv with ⟨ad,hv⟩ | ⟨f,vs,hv⟩<;>simp [execOp,hv]
  case binOp op t x y yt=>
    obtain ⟨d,hk,H⟩:=aI9 hT h
    refine ⟨_,s,_,hk,.val fun n m B L WB WL a sit h1 h2 C _ hop=>?_⟩
    obtain ⟨v,hr,hd⟩:=H m _ _ (hop x (by simp [Op.operands])) (hop y (by simp [Op.operands])) x y
    refine ⟨v,m,?_,bK.refl WB WL sit,hd⟩
    unfold lZ at hr
    simp only [execOp,Sem.run_bind] at hr ⊢
    rw [hr];rfl
  case unOp op t x=>
    obtain ⟨d,hk,H⟩:=aHV (P:=P) h
    refine ⟨_,s,_,hk,.val fun n m B L WB WL a sit h1 h2 C _ hop=>?_⟩
    obtain ⟨v,hr,hd⟩:=H m _ (hop x (by simp [Op.operands]))
    exact ⟨v,m,by simp [execOp,hr],bK.refl WB WL sit,hd⟩
  case convert t u x=>
    obtain ⟨d,hk,H⟩:=aHZ hT h
    refine ⟨_,s,_,hk,.val fun n m B L WB WL a sit h1 h2 C _ hop=>?_⟩
    obtain ⟨v,m',hr,G,hd⟩:=H n m B L WB WL sit (fun l hl=>C.rl l hl) _ (hop x (by simp [Op.operands]))
    exact ⟨v,m',by simp [execOp,hr],G,hd⟩
  case makeFunc fn first caps=>
    cases fn<;>simp only at h<;>try (cases h;done)
    rename_i f
    split at h
    rotate_left
    · cases h
    rename_i hf
    have hf : first.size=0:=bH hf
    have hf : first = #[]:=Array.eq_empty_of_size_eq_zero hf
    subst hf
    refine ⟨_,s,_,h,.val fun n m B L WB WL a sit h1 h2 C _ hop=>?_⟩
    obtain ⟨hl,hr⟩:=aJf (X:=X) (a:=a) (m:=m) (e:=e) (xs:=caps) (fun x hx=>hop x (by simpa [Op.operands] using hx))
    refine ⟨.func (.func f) #[] (caps.map a.eval).toList.toArray,m,(by simp [execOp,Instr.makeFunc];rw [← Array.toList_map,Array.toArray_toList]),bK.refl WB WL sit,.fn f _ _ (by simpa using hl) (fun i d v hd hv=>hr i d v hd (by simpa using hv))⟩
  case slice t x lo hi mx=>
    cases mx with
    | some mx=>
      simp only at h
      obtain ⟨d,s',hk,H⟩:=aFO hT h
      refine ⟨_,s',_,hk,.val fun n m B L WB WL a sit h1 h2 C _ hop=>?_⟩
      obtain ⟨v,m',hr,G,hd⟩:=H n m B L WB WL sit h2 _ _ _ _ (hop x (by simp [Op.operands])) (aD7 (X:=X) (a:=a) fun y hy=>hop y (by subst hy;simp [Op.operands])) (aD7 (X:=X) (a:=a) fun y hy=>hop y (by subst hy;simp [Op.operands])) (hop mx (by simp [Op.operands]))
      exact ⟨v,m',by simp [execOp,hr],G,hd⟩
    | none=>
      simp only at h
      obtain ⟨d,hk,H⟩:=aG3 hT h
      refine ⟨_,s,_,hk,.val fun n m B L WB WL a sit h1 h2 C _ hop=>?_⟩
      obtain ⟨v,hr,hd⟩:=H m sit.inv (fun l hl=>sit.al l (.inl (C.rl l hl))) _ _ _ (hop x (by simp [Op.operands])) (aD7 (X:=X) (a:=a) fun y hy=>hop y (by subst hy;simp [Op.operands])) (aD7 (X:=X) (a:=a) fun y hy=>hop y (by subst hy;simp [Op.operands]))
      exact ⟨v,m,by simp [execOp,hr],bK.refl WB WL sit,hd⟩
  case fieldAddr t x f=>
    obtain ⟨d,hk,H⟩:=aCs hT h
    refine ⟨_,s,_,hk,.val fun n m B L WB WL a sit h1 h2 C _ hop=>?_⟩
    obtain ⟨v,hr,hd⟩:=H m (fun l hl=>sit.al l (.inl (C.rl l hl))) _ (hop x (by simp [Op.operands]))
    exact ⟨v,m,by simp [execOp,hr],bK.refl WB WL sit,hd⟩
  case field t x f=>
    obtain ⟨d,hk,H⟩:=aG2 hT h
    refine ⟨_,s,_,hk,.val fun n m B L WB WL a sit h1 h2 C _ hop=>?_⟩
    obtain ⟨v,hr,hd⟩:=H m _ (hop x (by simp [Op.operands]))
    exact ⟨v,m,by simp [execOp,hr],bK.refl WB WL sit,hd⟩
  case indexAddr t x i=>
    obtain ⟨d,hk,H⟩:=aCt hT h
    refine ⟨_,s,_,hk,.val fun n m B L WB WL a sit h1 h2 C _ hop=>?_⟩
    obtain ⟨v,hr,hd⟩:=H m sit.inv (fun l hl=>sit.al l (.inl (C.rl l hl))) _ _ (hop x (by simp [Op.operands])) (hop i (by simp [Op.operands]))
    exact ⟨v,m,by simp [execOp,hr],bK.refl WB WL sit,hd⟩
  case index t x i=>
    obtain ⟨d,hk,H⟩:=aG1 hT h
    refine ⟨_,s,_,hk,.val fun n m B L WB WL a sit h1 h2 C _ hop=>?_⟩
    obtain ⟨v,hr,hd⟩:=H m _ _ (hop x (by simp [Op.operands])) (hop i (by simp [Op.operands]))
    exact ⟨v,m,by simp [execOp,hr],bK.refl WB WL sit,hd⟩
  case extract x i=>
    obtain ⟨d,hk,H⟩:=aEp (P:=P) h
    refine ⟨_,s,_,hk,.val fun n m B L WB WL a sit h1 h2 C _ hop=>?_⟩
    obtain ⟨v,hr,hd⟩:=H m _ (hop x (by simp [Op.operands]))
    exact ⟨v,m,by simp [execOp,hr],bK.refl WB WL sit,hd⟩
  case call c=>
    split at h
    · rename_i f hf
      obtain ⟨d',e',s',scr,hk,he,hid,H⟩:=hC _ _ _ _ _ _ _ h
      have hfoot : footOf X ⟨dst,.call c,type,pos,after,guard⟩ e s=callFoot X (ev X e f) (c.args.toList.map (ev X e)) s:=by
        simp only [footOf,hf]
      refine ⟨_,s',scr,hk,⟨fun t ht=>by rw [pW,if_neg ht];exact he t,fun hl=>hid (by rw [← hfoot];exact hl),fun n m B L WB WL a sit h1 h2 C hok hop=>?_⟩⟩
      rw [hfoot] at C hok
      obtain ⟨hl,hr⟩:=aJf (X:=X) (a:=a) (m:=m) (e:=e) (xs:=c.args) (fun x hx=>hop x (by simp only [Op.operands,Call.operands,hf];simp at hx ⊢;exact .inr hx))
      have:=H n m B L WB WL sit h1 h2 C hok (a.eval f) (c.args.map a.eval) (hop f (by simp [Op.operands,Call.operands,hf])) hl hr
      have e1 : execOp a.eval ⟨dst,.call c,type,pos,after,guard⟩=(do let df ← Deferred.ofValue (a.eval f) (c.args.map a.eval);invoke df.target df.args : Sem Next):=by
        simp only [execOp,resolve,hf]
      rw [e1]
      refine zY.mono this ?_
      rintro v w' ⟨m',hw,G,hd⟩
      exact ⟨m',hw,G,fun t ht=>by rw [pW,if_pos ht];exact hd⟩
    · rename_i b hb
      have hfoot : footOf X ⟨dst,.call c,type,pos,after,guard⟩ e s=builtinFoot b (c.args.toList.map (ev X e)) s:=by
        simp only [footOf,hb]
      have e1 : ∀ a : Act,execOp a.eval ⟨dst,.call c,type,pos,after,guard⟩=builtin b c.argTypes type (c.args.map fun | .const _=>true | _=>false) (c.args.map a.eval):=by
        intro a
        simp only [execOp,resolve,hb]
        rfl
      have opd : ∀ x,x∈c.args.toList→x∈(Op.call c).operands:=by
        intro x hx
        simp only [Op.operands,Call.operands,hb]
        simpa using hx
      rw [hfoot]
      obtain ⟨d',e',s',scr,hk,he,hid,H⟩:=aEE hT hz h
      refine ⟨_,s',scr,hk,⟨fun t ht=>by rw [pW,if_neg ht];exact he t,hid,fun n m B L WB WL a sit h1 h2 C _ hop=>?_⟩⟩
      obtain ⟨hl,hr⟩:=aJf (X:=X) (a:=a) (m:=m) (e:=e) (xs:=c.args) (fun x hx=>hop x (opd x hx))
      obtain ⟨v,m',hrun,G,hd⟩:=H n m B L WB WL sit h2 C (c.args.map a.eval) type (c.args.map fun | .const _=>true | _=>false) hl hr
      rw [e1,hrun]
      exact ⟨m',rfl,G,fun t ht=>by rw [pW,if_pos ht];exact hd⟩
    · cases h
end
end Go.Proofs.YthkofpnllaapeaaGreatDoor
namespace Go.Proofs.YthkofpnllaapeaaGreatDoor
open Go
section
variable {P : Program} {X : Cx} {O : Orc} {ops : Array Oper}
theorem aDq : ∀ (l : List Oper) (j : Nat),guardDst l j=(l[j]?).bind (·.dst)
  | [],_=>rfl
  | o::_,0=>rfl
  | o::r,j+1=>by
    have:=aDq r j
    simpa [guardDst] using this
theorem aGv {a : Act} {t : Nat} {b : Bool} (h : a.eval (.tmp t) = .bool b) : a.tmps[t]? = some (.bool b):=by
  simp only [Act.eval,Array.getD_eq_getD_getElem?] at h
  cases ht : a.tmps[t]? with
  | none=>rw [ht] at h;simp [undef] at h
  | some v=>rw [ht] at h;simp at h;rw [h]
theorem aGu.step (hg : ∀ g,X.glob g=none) {i : Nat} {o : Oper} (ho : ops[i]? = some o) {e e1 e' : Env} {s s' : St} {n : Nat} {f : Foot} {scr : DV→DV} (L : aGu P X o e1 e' (s.at n) s' f scr) (he : ∀ t,e1.get t=e.get t)
    (hnb : s'.nb≤n+16) (hnl : s'.nl≤n+16)
    (hw : o.guard=none∨∃ j want t,o.guard=some (j,want)∧(ops[j]?).bind (·.dst)=some t∧e.get t = .p (.bool want)) : oD P ops i o e.get e'.get s s' n f scr where
  env:=fun t ht=>by rw [L.env t ht,he t]
  id:=L.id
  run:=fun m B L' WB WL a K Q sit C hok hop hK=>by
    have hwant : Region.wanted o (yielded ops a.tmps)=true:=by
      unfold Region.wanted
      rcases hw with hw | ⟨j,want,t,h1,h2,h3⟩
      · rw [hw]
      · rw [h1]
        have hrd:=hop t (by simp [Oper.looksAt,h1,h2])
        rw [h3] at hrd
        have hv : a.eval (.tmp t) = .bool want:=by
          cases hrd with
          | p _ _ hrd=>exact hrd.bool_inv
        unfold yielded
        simp only [h2,Option.bind_some,aGv hv]
        simp
    have hy:=L.run n m B L' WB WL a sit hnb hnl C hok (fun x hx=>aLs hg (fun t ht=>by
      rw [he t]
      refine hop t ?_
      subst ht
      exact List.mem_append_left _ (List.mem_filterMap.2 ⟨.tmp t,by simpa using hx,rfl⟩)))
    unfold wpOp
    simp only [ho,hwant,if_true]
    refine .inl (Oper.wp_mono ?_ hy.wp)
    rintro a' w' ⟨v,rfl,m',rfl,G,hd⟩
    exact hK v m' G hd
theorem aKG {i : Nat} {o : Oper} (ho : ops[i]? = some o) {e : Env} {s : St} {n : Nat} {j t : Nat} {want : Bool} (h1 : o.guard=some (j,want)) (h2 : (ops[j]?).bind (·.dst)=some t) (h3 : e.get t = .p (.bool (!want))∨e.get t = .tup []) :
    oD P ops i o e.get (fun t=>if o.dst=some t then .tup [] else e.get t) s (s.at n) n Foot.none id where
  env:=fun t ht=>by simp [ht]
  id:=fun _=>rfl
  run:=fun m B L' WB WL a K Q sit C hok hop hK=>by
    have hwant : Region.wanted o (yielded ops a.tmps)=false:=by
      unfold Region.wanted
      rw [h1]
      have hrd:=hop t (by simp [Oper.looksAt,h1,h2])
      rcases h3 with h3 | h3
      · rw [h3] at hrd
        have hv : a.eval (.tmp t) = .bool (!want):=by
          cases hrd with
          | p _ _ hrd=>exact hrd.bool_inv
        unfold yielded
        simp only [h2,Option.bind_some,aGv hv]
        cases want<;>simp
      · rw [h3] at hrd
        have hv : a.eval (.tmp t) = .tuple #[]:=by
          generalize a.eval (.tmp t)=v at hrd
          cases hrd with
          | tup _ vs hl _=>
            have : vs = []:=List.eq_nil_of_length_eq_zero (by simpa using hl.symm)
            subst this
            rfl
        have hy : yielded ops a.tmps j=none:=by
          unfold yielded
          simp only [h2,Option.bind_some]
          split
          · rename_i b hb
            exfalso
            simp only [Act.eval,Array.getD_eq_getD_getElem?] at hv
            rw [hb] at hv
            cases hv
          · rfl
        show (yielded ops a.tmps j==some want)=false
        rw [hy]
        rfl
    unfold wpOp
    simp only [ho,hwant,Bool.false_eq_true,if_false]
    have G : bK m m (s.at n) (s.at n) B L' WB WL n _root_.id:={
      step:=eH.refl n sit.inv
      after:=⟨sit.ab,sit.al,fun _ _ _=>rfl,fun _ _ _=>rfl,fun _ _ _=>rfl,fun _ _ _=>rfl⟩
      nb:=Nat.le_refl _
      nl:=Nat.le_refl _
      ub:=fun _ _ h=>h
      ul:=fun _ _ h=>h}
    exact hK undef m G (fun t ht=>by simp only [ht,if_true];exact .tup [] [] rfl (fun i d v h=>by simp at h))
theorem Env.get_put (dst : Option Nat) (d : DV) (e : Env) : (put dst d e).get=fun t=>if dst=some t then d else e.get t:=funext (pW dst d e)
theorem tV (t : Nat) (d : DV) (e : Env) (h : e.get t=d) : ∀ u,Env.get ((t,d)::e) u=e.get u:=by
  intro u
  simp only [Env.get]
  split
  · rename_i hu
    rw [bH hu];exact h.symm
  · rfl
theorem aAc (hT : X.T=tabOf P) (hz : iU P X.zok) (hg : ∀ g,X.glob g=none) (hC : aBH P X O) {draw : Bool} {k : Kont} {res : R} :
    ∀ (r : List Oper) (i : Nat) (acc : List (Nat × Foot)) (e : Env) (s : St),ops.toList.drop i=r→i+r.length=ops.size→execOps X O ops draw i acc r e s k=some res→
      ∃ (T : Tr) (e' : Env),T.g i=e.get∧T.s i=s∧(∀ j o,i≤j→ops[j]? = some o→oD P ops j o (T.g j) (T.g (j+1)) (T.s j) (T.s (j+1)) (s.base+16*j) (T.f j) (T.scr j))∧
        T.g ops.size=e'.get∧(T.s ops.size).base=s.base∧k e' { T.s ops.size with base:=s.base+16*ops.size,nb:=0,nl:=0} = some res∧
        (draw=true→apartAll (masks ops.toList []) s.base (((List.range' i r.length).map fun j=>(j,T.f j)).reverse++acc)=true)
  | [],i,acc,e,s,_,hl,h=>by
    have hi : i=ops.size:=by simpa using hl
    subst hi
    unfold execOps at h
    split at h
    · cases h
    · rename_i hd
      refine ⟨⟨fun _=>e.get,fun _=>s,fun _=>Foot.none,fun _=>id⟩,e,rfl,rfl,fun j o hj ho=>?_,rfl,rfl,h,fun hdr=>?_⟩
      · have:=(Array.getElem?_eq_some_iff.1 ho).1;omega
      · rw [hdr] at hd
        simpa using hd
  | o::r,i,acc,e,s,hd,hl,h=>by
    simp only [List.length_cons] at hl
    have ho : ops[i]? = some o:=by
      have : (ops.toList.drop i)[0]? = some o:=by rw [hd];rfl
      simpa using this
    have hdr : ops.toList.drop (i+1)=r:=by
      rw [← List.drop_drop,hd];rfl
    have join : ∀ (e2 : Env) (s2 : St) (f : Foot) (scr : DV→DV) (acc' : List (Nat × Foot)),s2.base=s.base→(draw=true→acc'=(i,f)::acc)→execOps X O ops draw (i+1) acc' r e2 s2 k=some res→
        oD P ops i o e.get e2.get s s2 (s.base+16*i) f scr→
        ∃ (T : Tr) (e' : Env),T.g i=e.get∧T.s i=s∧(∀ j o,i≤j→ops[j]? = some o→oD P ops j o (T.g j) (T.g (j+1)) (T.s j) (T.s (j+1)) (s.base+16*j) (T.f j) (T.scr j))∧
          T.g ops.size=e'.get∧(T.s ops.size).base=s.base∧k e' { T.s ops.size with base:=s.base+16*ops.size,nb:=0,nl:=0} = some res∧
          (draw=true→apartAll (masks ops.toList []) s.base (((List.range' i (o::r).length).map fun j=>(j,T.f j)).reverse++acc)=true):=by
      intro e2 s2 f scr acc' hb hacc h2 SL
      obtain ⟨T,e',g1,g2,g3,g4,g5,g6,g7⟩:=aAc hT hz hg hC r (i+1) acc' e2 s2 hdr (by omega) h2
      rw [hb] at g3 g5 g6 g7
      refine ⟨⟨fun j=>if j≤i then e.get else T.g j,fun j=>if j≤i then s else T.s j,fun j=>if j≤i then f else T.f j,fun j=>if j≤i then scr else T.scr j⟩,e',by simp,by simp,fun j o' hj ho'=>?_,?_,?_,?_,fun hdraw=>?_⟩
      · by_cases e : j=i
        · subst e
          rw [ho] at ho';cases ho'
          simp only [Nat.le_refl,if_true,show ¬ (j+1≤j) by omega,if_false,g1,g2]
          exact SL
        · simp only [show ¬ (j≤i) by omega,show ¬ (j+1≤i) by omega,if_false]
          exact g3 j o' (by omega) ho'
      · simp only [show ¬ (ops.size≤i) by omega,if_false];exact g4
      · simp only [show ¬ (ops.size≤i) by omega,if_false];exact g5
      · simp only [show ¬ (ops.size≤i) by omega,if_false];exact g6
      · have:=g7 hdraw
        rw [hacc hdraw] at this
        rw [List.length_cons,List.range'_succ,List.map_cons,List.reverse_cons,List.append_assoc,List.singleton_append]
        simp only [Nat.le_refl,if_true]
        have hm : ((List.range' (i+1) r.length).map fun j=>(j,if j≤i then f else T.f j))=(List.range' (i+1) r.length).map fun j=>(j,T.f j):=by
          apply List.map_congr_left
          intro j hj
          have:=List.mem_range'_1.1 hj
          rw [if_neg (by omega)]
        rw [hm]
        exact this
    have one : ∀ e1 : Env,(∀ t,e1.get t=e.get t)→(o.guard=none∨∃ j want t,o.guard=some (j,want)∧(ops[j]?).bind (·.dst)=some t∧e.get t = .p (.bool want))→
        (stf (if draw then (i,footOf X o e1 { s with nb:=s.base+16*i,nl:=s.base+16*i})::acc else []) fun acc'=>exec X O o e1 { s with nb:=s.base+16*i,nl:=s.base+16*i} fun e s'=>
          if Nat.ble s'.nb (s.base+16*i+16)&&Nat.ble s'.nl (s.base+16*i+16)&&Nat.beq s'.base s.base then stp e s' fun e s'=>execOps X O ops draw (i+1) acc' r e s' k else none)=some res→
        ∃ (T : Tr) (e' : Env),T.g i=e.get∧T.s i=s∧(∀ j o,i≤j→ops[j]? = some o→oD P ops j o (T.g j) (T.g (j+1)) (T.s j) (T.s (j+1)) (s.base+16*j) (T.f j) (T.scr j))∧
          T.g ops.size=e'.get∧(T.s ops.size).base=s.base∧k e' { T.s ops.size with base:=s.base+16*ops.size,nb:=0,nl:=0} = some res∧
          (draw=true→apartAll (masks ops.toList []) s.base (((List.range' i (o::r).length).map fun j=>(j,T.f j)).reverse++acc)=true):=by
      intro e1 he1 hw h
      unfold stf at h
      obtain ⟨e2,s2,scr,hk,L⟩:=aJg hT hz hC h
      split at hk
      rotate_left
      · cases hk
      rename_i hc
      simp only [Bool.and_eq_true] at hc
      unfold stp at hk
      exact join e2 s2 _ scr _ (bH hc.2) (fun hdw=>by rw [hdw];rfl) hk (aGu.step hg ho (s:=s) L he1 (mC hc.1.1) (mC hc.1.2) hw)
    unfold execOps at h
    simp only at h
    split at h
    · rename_i hgd
      exact one e (fun _=>rfl) (.inl hgd) h
    · rename_i j want hgd
      split at h
      · cases h
      · rename_i t ht
        rw [aDq] at ht
        have ht : (ops[j]?).bind (·.dst)=some t:=by simpa using ht
        have skip : ∀ e1 : Env,(∀ t,e1.get t=e.get t)→(e.get t = .p (.bool (!want))∨e.get t = .tup [])→execOps X O ops draw (i+1) (if draw then (i,Foot.none)::acc else []) r (put o.dst (.tup []) e1) { s with nb:=s.base+16*i,nl:=s.base+16*i} k=some res→
            ∃ (T : Tr) (e' : Env),T.g i=e.get∧T.s i=s∧(∀ j o,i≤j→ops[j]? = some o→oD P ops j o (T.g j) (T.g (j+1)) (T.s j) (T.s (j+1)) (s.base+16*j) (T.f j) (T.scr j))∧
              T.g ops.size=e'.get∧(T.s ops.size).base=s.base∧k e' { T.s ops.size with base:=s.base+16*ops.size,nb:=0,nl:=0} = some res∧
              (draw=true→apartAll (masks ops.toList []) s.base (((List.range' i (o::r).length).map fun j=>(j,T.f j)).reverse++acc)=true):=by
          intro e1 he1 hw h
          refine join (put o.dst (.tup []) e1) (s.at (s.base+16*i)) Foot.none id (if draw then (i,Foot.none)::acc else []) rfl (fun hdw=>by rw [hdw];rfl) h ?_
          have:=aKG (P:=P) ho (e:=e) (s:=s) (n:=s.base+16*i) hgd ht hw
          have e2 : (put o.dst (.tup []) e1).get=fun t=>if o.dst=some t then DV.tup [] else e.get t:=by
            rw [Env.get_put]
            funext t
            rw [he1 t]
          rw [e2]
          exact this
        split at h
        · rename_i c hc
          rcases tS h with ⟨rfl,h'⟩ | ⟨rfl,h'⟩
          · cases want with
            | true=>exact one _ (tV t _ e hc) (.inr ⟨j,true,t,hgd,ht,hc⟩) h'
            | false=>exact skip _ (tV t _ e hc) (.inl hc) h'
          · cases want with
            | true=>exact skip _ (tV t _ e hc) (.inl hc) h'
            | false=>exact one _ (tV t _ e hc) (.inr ⟨j,false,t,hgd,ht,hc⟩) h'
        · rename_i hc
          exact skip e (fun _=>rfl) (.inr hc) h
        · cases h
theorem aBI {base : Nat} {f : Nat→Foot} : ∀ (n : Nat),apartAll (masks ops.toList []) base (((List.range' 0 n).map fun j=>(j,f j)).reverse)=true→
    (∀ j,j<n→(f j).ok=true)∧∀ i j,i<j→j<n→meets base (i,f i) (j,f j)=true→((masks ops.toList []).getD j 0).testBit i=true
  | 0,_=>⟨fun j hj=>by omega,fun i j _ hj=>by omega⟩
  | n+1,h=>by
    rw [List.range'_concat,List.map_append,List.reverse_append] at h
    simp only [List.map_cons,List.map_nil,List.reverse_cons,List.reverse_nil,List.nil_append,List.singleton_append,Nat.zero_add,Nat.one_mul] at h
    unfold apartAll at h
    simp only [Bool.and_eq_true,List.all_eq_true] at h
    obtain ⟨⟨h1,h2⟩,h3⟩:=h
    obtain ⟨g1,g2⟩:=aBI n h3
    refine ⟨fun j hj=>?_,fun i j hij hj hm=>?_⟩
    · by_cases e : j=n
      · subst e;exact h1
      · exact g1 j (by omega)
    · by_cases e : j=n
      · subst e
        have:=h2 (i,f i) (by
          rw [List.mem_reverse]
          exact List.mem_map.2 ⟨i,List.mem_range'_1.2 ⟨by omega,by omega⟩,rfl⟩)
        simpa [hm] using this
      · exact g2 i j hij (by omega) hm
theorem aKH {n : Nat} {draw : Bool} (h : regOk n ops draw=true) : (∀ (i : Nat) (o : Oper) (t : Nat),ops[i]? = some o→o.dst=some t→t<n)∧
    (draw=true→backOk 0 ops.toList=true∧tempsOk ops (masks ops.toList []) 0 ops.toList=true):=by
  unfold regOk at h
  simp only [Bool.and_eq_true,List.all_eq_true,Bool.or_eq_true,Bool.not_eq_true'] at h
  refine ⟨fun i o t ho hd=>?_,fun hd=>h.2.resolve_left (by rw [hd];simp)⟩
  have:=h.1 o (by rw [← Array.getElem?_toList] at ho;exact List.mem_of_getElem? ho)
  rw [hd] at this
  simpa [Nat.blt_eq] using this
theorem aG9 (hT : X.T=tabOf P) (hz : iU P X.zok) (hg : ∀ g,X.glob g=none) (hC : aBH P X O) (hm : P.follows .mixedOrders=true) {draw : Bool} {nt id : Nat} (hr : regOk nt ops draw=true) {e : Env} {s : St} {k : Kont} {res : R}
    (h : execOps X O ops draw 0 [] ops.toList e s k=some res) :
    ∃ e' s',k e' s'=some res∧∀ (I : aR→Prop),(∀ m m' scr n,I m→kT m→eH m m' scr n→I m')→∀ (m : aR) (a : Act),eW m s s.base→fF m e.get a→nt≤a.tmps.size→(∀ w',w' = { m.w with drawn:=m.w.drawn+1}→∃ m0 : aR,m0.w=w'∧I m0∧eW m0 s s.base∧fF m0 e.get a)→I m→
      (Code.region id ops draw).wp P (fun ex a' w'=>ex = .normal∧∃ m',m'.w=w'∧I m'∧eW m' s' s'.base∧fF m' e'.get a'∧nt≤a'.tmps.size∧a'.defers=a.defers) a m.w:=by
  obtain ⟨hdst,hdraw⟩:=aKH hr
  obtain ⟨T,e',g1,g2,g3,g4,g5,g6,g7⟩:=aAc hT hz hg hC ops.toList 0 [] e s rfl (by simp) h
  refine ⟨e',_,g6,fun I hI m a hf ht hsz hdrew hi=>?_⟩
  have hTr : aKB P ops s.base T:=fun i o ho=>g3 i o (Nat.zero_le _) ho
  have hQ : ∀ (m' : aR) (a' : Act),eW m' (T.s ops.size) (s.base+16*ops.size)→fF m' (T.g ops.size) a'→nt≤a'.tmps.size→a'.defers=a.defers→I m'→
      (Exit.normal = .normal∧∃ m'',m''.w=m'.w∧I m''∧eW m'' { T.s ops.size with base:=s.base+16*ops.size,nb:=0,nl:=0} (s.base+16*ops.size)∧fF m'' e'.get a'∧nt≤a'.tmps.size∧a'.defers=a.defers):=by
    intro m' a' h1 h2 h3 h4 h5
    exact ⟨rfl,m',rfl,h5,⟨h1.inv,h1.box,h1.list,h1.ub,h1.ul⟩,by rw [← g4];exact h2,h3,h4⟩
  cases draw with
  | false=>
    apply wp_region
    rw [List.range_eq_range']
    exact aH6 hI hTr hdst (ds:=a.defers) (Q:=fun ex a' w'=>ex = .normal∧∃ m',m'.w=w'∧I m'∧eW m' { T.s ops.size with base:=s.base+16*ops.size,nb:=0,nl:=0} (s.base+16*ops.size)∧fF m' e'.get a'∧nt≤a'.tmps.size∧a'.defers=a.defers) hQ ops.size 0 (by simp) m a (by rw [g2];exact hf) (by rw [g1];exact ht) hsz rfl hi
  | true=>
    obtain ⟨hb,htm⟩:=hdraw rfl
    obtain ⟨m0,hw0,hi0,hf0,ht0⟩:=hdrew _ rfl
    apply wp_region_any hm
    rw [← hw0]
    have hap:=g7 rfl
    rw [List.append_nil,Array.length_toList] at hap
    obtain ⟨hok,hmt⟩:=aBI ops.size hap
    have A : aH4 ops s.base T:={
      back:=fun j o ho e' he hbnd=>by
        have:=aEB hb j o (by simpa using ho) e' he hbnd
        omega
      temps:=fun i j x y hij hx hy=>by
        rcases aDp htm j y (by simpa using hy) i x (by omega) hx with h' | h'
        · exact .inl h'
        · rw [Nat.zero_add] at h'
          exact .inr (aCx ops.toList [] rfl (fun j hj=>by simp at hj) j i h')
      meet:=fun i j hij hj hmm=>aCx ops.toList [] rfl (fun j hj=>by simp at hj) j i (hmt i j hij hj hmm)
      ok:=hok}
    have S:=aKF hTr hdst (by rw [g2];exact hf0) (by rw [g1];exact ht0) hsz
    refine aKE hI hTr A S hdst (ds:=a.defers) (Q:=fun ex a' w'=>ex = .normal∧∃ m',m'.w=w'∧I m'∧eW m' { T.s ops.size with base:=s.base+16*ops.size,nb:=0,nl:=0} (s.base+16*ops.size)∧fF m' e'.get a'∧nt≤a'.tmps.size∧a'.defers=a.defers) hQ ops.size (Array.replicate ops.size false) m0 a (by simp) ?_ ?_ ?_ rfl
    · unfold wU
      have:=List.length_filter_le (fun i=>!(Array.replicate ops.size false).getD i false) (List.range ops.size)
      simpa using this
    · refine (aCy.start (by rw [g2];exact hf0) (by rw [g1];exact ht0) hsz hi0).congr (fun i=>?_)
      rw [Array.getD_eq_getD_getElem?,Array.getElem?_replicate]
      split<;>simp
    · intro j o ho hj
      rw [Array.getD_eq_getD_getElem?,Array.getElem?_replicate] at hj
      split at hj<;>simp at hj
end
end Go.Proofs.YthkofpnllaapeaaGreatDoor
namespace Go.Proofs.YthkofpnllaapeaaGreatDoor
open Go
structure Fwd (m m' : aR) (nb nl : Nat) : Prop where
  size : m.w.heap.size≤m'.w.heap.size
  os : m'.w.os=m.w.os
  tape : m'.w.tape=m.w.tape
  output : m'.w.output=m.w.output
  keep : ∀ r,r<m.w.heap.size→¬ m.owned r→m'.w.heap[r]? = m.w.heap[r]?
  own : ∀ r,m'.owned r→m.owned r∨m.w.heap.size≤r
  z : ∀ r,m'.Z r→m.Z r∨m.owned r∨m.w.heap.size≤r
  zz : ∀ r,m.Z r→m'.Z r
  box : ∀ b,b<nb→∀ cs,m.s.box b=some cs→m'.ρ.box b=m.ρ.box b∧m'.ρ.ub b∧∃ cs',m'.s.box b=some cs'
  row : ∀ l,l<nl→m.ρ.ul l→m'.ρ.ul l∧(m'.s.live l→m.s.live l∧m'.ρ.hdr l=m.ρ.hdr l∧m'.ρ.ty l=m.ρ.ty l)
theorem Fwd.refl (m : aR) (inv : kT m) (nb nl : Nat) : Fwd m m nb nl where
  size:=Nat.le_refl _
  os:=rfl
  tape:=rfl
  output:=rfl
  keep:=fun _ _ _=>rfl
  own:=fun _ h=>.inl h
  z:=fun _ h=>.inl h
  zz:=fun _ h=>h
  box:=fun b _ cs h=>⟨rfl,inv.ub b cs h,cs,h⟩
  row:=fun _ _ h=>⟨h,fun h=>⟨h,rfl,rfl⟩⟩
theorem Fwd.trans {m m' m'' : aR} {nb nl : Nat} (h : Fwd m m' nb nl) (k : Fwd m' m'' nb nl) : Fwd m m'' nb nl where
  size:=Nat.le_trans h.size k.size
  os:=k.os.trans h.os
  tape:=k.tape.trans h.tape
  output:=k.output.trans h.output
  keep:=fun r hr ho=>(k.keep r (Nat.lt_of_lt_of_le hr h.size) (fun ho'=>(h.own r ho').elim ho (fun hle=>by omega))).trans (h.keep r hr ho)
  own:=fun r ho=>(k.own r ho).elim (fun h'=>h.own r h') (fun hle=>.inr (Nat.le_trans h.size hle))
  z:=fun r hz=>(k.z r hz).elim (fun h'=>h.z r h') (fun h'=>h'.elim (fun h''=>(h.own r h'').elim (fun x=>.inr (.inl x)) (fun x=>.inr (.inr x))) (fun hle=>.inr (.inr (Nat.le_trans h.size hle))))
  zz:=fun r hz=>k.zz r (h.zz r hz)
  box:=fun b hb cs hcs=>by
    obtain ⟨h1,_,cs',h2⟩:=h.box b hb cs hcs
    obtain ⟨k1,k2,k3⟩:=k.box b hb cs' h2
    exact ⟨k1.trans h1,k2,k3⟩
  row:=fun l hl hu=>by
    obtain ⟨h1,h2⟩:=h.row l hl hu
    obtain ⟨k1,k2⟩:=k.row l hl h1
    refine ⟨k1,fun hv=>?_⟩
    obtain ⟨a1,a2,a3⟩:=k2 hv
    obtain ⟨b1,b2,b3⟩:=h2 a1
    exact ⟨b1,a2.trans b2,a3.trans b3⟩
theorem eH.fwd {m m' : aR} {scr : DV→DV} {n : Nat} (h : eH m m' scr n) (inv : kT m) (nb nl : Nat) : Fwd m m' nb nl where
  size:=h.size
  os:=h.os
  tape:=h.tape
  output:=h.output
  keep:=h.keep
  own:=h.own
  z:=h.z
  zz:=h.zz
  box:=fun b _ cs hb=>by
    obtain ⟨cs',h'⟩:=h.bx b cs hb
    exact ⟨(h.mub b (inv.ub b cs hb)).2,(h.mub b (inv.ub b cs hb)).1,cs',h'⟩
  row:=fun l _ hu=>⟨h.mul l hu,fun hv=>h.hd l hu hv⟩
theorem aJ0 : ∀ {l : List Nat} {x n i : Nat},idx x l n=some i→n≤i∧l[i - n]? = some x
  | [],_,_,_,h=>by simp [idx] at h
  | y::r,x,n,i,h=>by
    unfold idx at h
    split at h
    · rename_i hx
      cases h
      refine ⟨Nat.le_refl _,?_⟩
      rw [Nat.sub_self,bH hx];rfl
    · obtain ⟨h1,h2⟩:=aJ0 h
      refine ⟨by omega,?_⟩
      rw [show i - n=i - (n+1)+1 by omega]
      simpa using h2
theorem aH9 {l : List Nat} {x i : Nat} (h : idx x l 0=some i) : l[i]? = some x:=by
  have:=(aJ0 h).2
  simpa using this
def aR.pick (m : aR) (bs ls : List Nat) (s : St) : aR:=
  { w:=m.w,Z:=m.Z,s:=s.sx,L:=fun _=>False,
    ρ:={ box:=fun i=>m.ρ.box (bs.getD i 0),hdr:=fun i=>m.ρ.hdr (ls.getD i 0),fp:=fun i=>m.ρ.fp (ls.getD i 0),ty:=fun i=>m.ρ.ty (ls.getD i 0),
         ub:=fun i=>i<bs.length∧m.ρ.ub (bs.getD i 0),ul:=fun i=>i<ls.length∧m.ρ.ul (ls.getD i 0)}}
theorem wV {s : St} {fb fl : Nat→Option Nat} : ∀ {bs : List Nat} {n i : Nat},look i (pickBoxes s fb fl n bs)=if n≤i then (bs[i - n]?).bind fun b=>(s.box b).map fun cs=>cs.map (ren fb fl deep) else none
  | [],n,i=>by simp [pickBoxes,look]
  | b::r,n,i=>by
    unfold pickBoxes
    rw [dF,wV]
    by_cases h : i=n
    · subst h;simp
    · rw [if_neg h]
      by_cases h2 : n≤i
      · rw [if_pos h2,if_pos (by omega),show i - n=i - (n+1)+1 by omega];simp
      · rw [if_neg h2,if_neg (by omega)]
theorem wW {s : St} : ∀ {ls : List Nat} {n i : Nat},look i (pickLists s n ls)=if n≤i then (ls[i - n]?).bind fun l=>s.list l else none
  | [],n,i=>by simp [pickLists,look]
  | b::r,n,i=>by
    unfold pickLists
    rw [dF,wW]
    by_cases h : i=n
    · subst h;simp
    · rw [if_neg h]
      by_cases h2 : n≤i
      · rw [if_pos h2,if_pos (by omega),show i - n=i - (n+1)+1 by omega];simp
      · rw [if_neg h2,if_neg (by omega)]
theorem wX (s : St) (a : Seen) (i : Nat) : (s.pick a).box i=(a.bs[i]?).bind fun b=>(s.box b).map fun cs=>cs.map (ren (idx · a.bs 0) (idx · a.ls 0) deep):=by
  show look i (pickBoxes s _ _ 0 a.bs)=_
  rw [wV];simp
theorem tW (s : St) (a : Seen) (i : Nat) : (s.pick a).list i=(a.ls[i]?).bind fun l=>s.list l:=by
  show look i (pickLists s 0 a.ls)=_
  rw [wW];simp
section
variable {m : aR} {s : St} {a : Seen}
theorem dD {l : List Nat} {i x : Nat} (h : l[i]? = some x) : l.getD i 0=x:=by rw [List.getD,h];rfl
theorem aEF (hl : ∀ l∈a.ls,m.s.list l=s.list l) : ∀ (n : Nat) {d : DV} {v : Value},m.rd d v→(m.pick a.bs a.ls (s.pick a)).rd (ren (idx · a.bs 0) (idx · a.ls 0) n d) v:=by
  have hlive : ∀ l l',idx l a.ls 0=some l'→(m.pick a.bs a.ls (s.pick a)).s.live l'→m.s.live l:=by
    intro l l' h hv
    have hg:=aH9 h
    have hv : (s.pick a).list l'≠none:=hv
    rw [tW,hg] at hv
    unfold Sx.live
    rw [hl l (List.mem_of_getElem? hg)]
    exact hv
  have key : ∀ (f : DV→DV),(∀ d v,m.rd d v→(m.pick a.bs a.ls (s.pick a)).rd (f d) v)→∀ {d : DV} {v : Value},m.rd d v→(m.pick a.bs a.ls (s.pick a)).rd (ren1 (idx · a.bs 0) (idx · a.ls 0) f d) v:=by
    intro f hf d v h
    have hmap : ∀ {ds : List DV} {vs : List Value},(∀ (i : Nat) d v,ds[i]? = some d→vs[i]? = some v→m.rd d v)→∀ (i : Nat) d v,(ds.map f)[i]? = some d→vs[i]? = some v→(m.pick a.bs a.ls (s.pick a)).rd d v:=by
      intro ds vs h i d v hd hv
      rw [List.getElem?_map] at hd
      cases hdi : ds[i]? with
      | none=>rw [hdi] at hd;cases hd
      | some d0=>rw [hdi] at hd;cases hd;exact hf _ _ (h i d0 v hdi hv)
    cases h with
    | p x v h=>exact .p x v h
    | nils=>exact .nils
    | agg ds vs hl hc h=>exact .agg _ vs (by simp [hl]) hc (hmap h)
    | tup ds vs hl h=>exact .tup _ vs (by simp [hl]) (hmap h)
    | fn g ds vs hl h=>exact .fn g _ vs (by simp [hl]) (hmap h)
    | ptr b off hb=>
      unfold ren1
      dsimp only
      split
      · rename_i b' hb'
        have hg:=aH9 hb'
        have e : m.ρ.box b=(m.pick a.bs a.ls (s.pick a)).ρ.box b':=by
          show _=m.ρ.box (a.bs.getD b' 0)
          rw [dD hg]
        rw [e]
        exact .ptr b' off ⟨(List.getElem?_eq_some_iff.1 hg).1,by rw [dD hg];exact hb⟩
      · exact .dead _
    | bsl b n hb=>
      unfold ren1
      dsimp only
      split
      · rename_i b' hb'
        have hg:=aH9 hb'
        have e : m.ρ.box b=(m.pick a.bs a.ls (s.pick a)).ρ.box b':=by
          show _=m.ρ.box (a.bs.getD b' 0)
          rw [dD hg]
        rw [e]
        exact .bsl b' n ⟨(List.getElem?_eq_some_iff.1 hg).1,by rw [dD hg];exact hb⟩
      · exact .dead _
    | ref l path v hu hc h=>
      unfold ren1
      dsimp only
      split
      · rename_i l' hl'
        have hg:=aH9 hl'
        refine .ref l' path v ⟨(List.getElem?_eq_some_iff.1 hg).1,by rw [dD hg];exact hu⟩ hc (fun hv=>?_)
        have:=h (hlive l l' hl' hv)
        show dC m.w (m.ρ.fp (a.ls.getD l' 0)) (m.ρ.ty (a.ls.getD l' 0)) (m.ρ.hdr (a.ls.getD l' 0)) path v
        rw [dD hg]
        exact this
      · exact .dead _
    | sref l path lo hi v hu hc h=>
      unfold ren1
      dsimp only
      split
      · rename_i l' hl'
        have hg:=aH9 hl'
        refine .sref l' path lo hi v ⟨(List.getElem?_eq_some_iff.1 hg).1,by rw [dD hg];exact hu⟩ hc (fun hv=>?_)
        have:=h (hlive l l' hl' hv)
        show ∃ (aa : Option Addr) (len cap : Nat) (k k' : IntKind) (mm n : Nat),dC m.w (m.ρ.fp (a.ls.getD l' 0)) (m.ρ.ty (a.ls.getD l' 0)) (m.ρ.hdr (a.ls.getD l' 0)) path (.slice aa len cap)∧lo = .int k mm∧hi = .int k' n∧mm≤n∧n≤len∧
          v = .slice (if cap=mm then aa else aa.map (·.add (mm*((m.ρ.ty (a.ls.getD l' 0)).along path).s))) (n - mm) (cap - mm)
        rw [dD hg]
        exact this
      · exact .dead _
    | eptr l path i off v hu hc h=>
      unfold ren1
      dsimp only
      split
      · rename_i l' hl'
        have hg:=aH9 hl'
        refine .eptr l' path i off v ⟨(List.getElem?_eq_some_iff.1 hg).1,by rw [dD hg];exact hu⟩ hc (fun hv=>?_)
        have:=h (hlive l l' hl' hv)
        show ∃ (b o len cap : Nat) (k : IntKind) (n : Nat),dC m.w (m.ρ.fp (a.ls.getD l' 0)) (m.ρ.ty (a.ls.getD l' 0)) (m.ρ.hdr (a.ls.getD l' 0)) path (.slice (some ⟨b,o,none⟩) len cap)∧i = .int k n∧n<len∧
          v = .pointer (some ⟨b,o+n*((m.ρ.ty (a.ls.getD l' 0)).along path).s+off,none⟩)
        rw [dD hg]
        exact this
      · exact .dead _
    | fptr x s' g off b o cells e fz cv h1 h2 h3 h4 h5 h6=>exact .fptr x s' g off b o cells e fz cv h1 h2 h3 h4 h5 h6
    | bptr c off b o h=>exact .bptr c off b o h
    | gptr l path i off v hc h=>
      unfold ren1
      dsimp only
      split
      · rename_i l' hl'
        have hg:=aH9 hl'
        refine .gptr l' path i off v hc (fun k0 n0 hi=>⟨⟨(List.getElem?_eq_some_iff.1 hg).1,by rw [dD hg];exact (h k0 n0 hi).1⟩,fun hv=>?_⟩)
        have:=(h k0 n0 hi).2 (hlive l l' hl' hv)
        show ∃ (b o len cap : Nat) (k : IntKind) (n : Nat),dC m.w (m.ρ.fp (a.ls.getD l' 0)) (m.ρ.ty (a.ls.getD l' 0)) (m.ρ.hdr (a.ls.getD l' 0)) path (.slice (some ⟨b,o,none⟩) len cap)∧i = .int k n∧n<len∧
          v = .pointer (some ⟨b,o+n*((m.ρ.ty (a.ls.getD l' 0)).along path).s+off,none⟩)
        rw [dD hg]
        exact this
      · exact .dead _
    | nilq c neg b h=>exact .nilq c neg b h
    | dead v=>exact .dead v
  intro n
  induction n with
  | zero=>intro d v h;exact key _ (fun _ _ _=>.dead _) h
  | succ n ih=>intro d v h;exact key _ (fun _ _ h=>ih h) h
theorem aLt (inv : kT m) (hb : ∀ b∈a.bs,m.s.box b=s.box b) (hl : ∀ l∈a.ls,m.s.list l=s.list l) (nb : a.bs.Nodup) (nl : a.ls.Nodup) : kT (m.pick a.bs a.ls (s.pick a)):=by
  have boxOf : ∀ {i cs},(m.pick a.bs a.ls (s.pick a)).s.box i=some cs→∃ b cs0,a.bs[i]? = some b∧m.s.box b=some cs0∧cs=cs0.map (ren (idx · a.bs 0) (idx · a.ls 0) deep):=by
    intro i cs h
    have h : (s.pick a).box i=some cs:=h
    rw [wX] at h
    cases hbi : a.bs[i]? with
    | none=>rw [hbi] at h;cases h
    | some b=>
      rw [hbi] at h
      simp only [Option.bind_some,Option.map_eq_some_iff] at h
      obtain ⟨cs0,h1,h2⟩:=h
      exact ⟨b,cs0,rfl,by rw [hb b (List.mem_of_getElem? hbi)];exact h1,h2.symm⟩
  have rowOf : ∀ {i o},(m.pick a.bs a.ls (s.pick a)).s.list i=some o→∃ l,a.ls[i]? = some l∧m.s.list l=some o:=by
    intro i o h
    have h : (s.pick a).list i=some o:=h
    rw [tW] at h
    cases hbi : a.ls[i]? with
    | none=>rw [hbi] at h;cases h
    | some l=>
      rw [hbi] at h
      exact ⟨l,rfl,by rw [hl l (List.mem_of_getElem? hbi)];exact h⟩
  have bx : ∀ {i b},a.bs[i]? = some b→(m.pick a.bs a.ls (s.pick a)).ρ.box i=m.ρ.box b:=fun h=>by
    show m.ρ.box (a.bs.getD _ 0)=_
    rw [dD h]
  have fpx : ∀ {i l},a.ls[i]? = some l→(m.pick a.bs a.ls (s.pick a)).ρ.fp i=m.ρ.fp l:=fun h=>by
    show m.ρ.fp (a.ls.getD _ 0)=_
    rw [dD h]
  refine ⟨?_,?_,inv.zlt,?_,?_,?_,?_,?_,?_,fun r h=>h.elim,fun _ _ _ h=>h,fun _ _ _ _ _ h=>h⟩
  · intro i cs h
    obtain ⟨b,cs0,h1,h2,_⟩:=boxOf h
    exact ⟨(List.getElem?_eq_some_iff.1 h1).1,by rw [dD h1];exact inv.ub b cs0 h2⟩
  · intro i o h
    obtain ⟨l,h1,h2⟩:=rowOf h
    exact ⟨(List.getElem?_eq_some_iff.1 h1).1,by rw [dD h1];exact inv.ul l o h2⟩
  · intro i cs h
    obtain ⟨b,cs0,h1,h2,rfl⟩:=boxOf h
    obtain ⟨vs,ety,g1,g2,g3,g4⟩:=inv.box b cs0 h2
    refine ⟨vs,ety,by rw [bx h1];exact g1,by simp [g2],g3,fun j d v hd hv=>?_⟩
    rw [List.getElem?_map] at hd
    cases hdi : cs0[j]? with
    | none=>rw [hdi] at hd;cases hd
    | some d0=>rw [hdi] at hd;cases hd;exact aEF hl deep (g4 j d0 v hdi hv)
  · intro i o h
    obtain ⟨l,h1,h2⟩:=rowOf h
    obtain ⟨g1,g2,g3⟩:=inv.row l o h2
    show o.o=m.ρ.ty (a.ls.getD i 0)∧_∧bY m.w m.Z o.o o.c (m.ρ.hdr (a.ls.getD i 0)) (m.ρ.fp (a.ls.getD i 0))
    rw [dD h1]
    exact ⟨g1,g2,g3⟩
  · intro i cs h
    obtain ⟨b,cs0,h1,h2,_⟩:=boxOf h
    rw [bx h1]
    exact inv.bz b cs0 h2
  · intro i cs i' cs' h h' he
    obtain ⟨b,cs0,h1,h2,_⟩:=boxOf h
    obtain ⟨b',cs0',h1',h2',_⟩:=boxOf h'
    rw [bx h1,bx h1'] at he
    have:=inv.bb b cs0 b' cs0' h2 h2' he
    subst this
    have hi:=(List.getElem?_eq_some_iff.1 h1)
    have hi':=(List.getElem?_eq_some_iff.1 h1')
    exact (List.getElem?_inj hi.1 nb).1 (h1.trans h1'.symm)
  · intro i cs l o h h'
    obtain ⟨b,cs0,h1,h2,_⟩:=boxOf h
    obtain ⟨l0,h1',h2'⟩:=rowOf h'
    rw [bx h1,fpx h1']
    exact inv.bl b cs0 l0 o h2 h2'
  · intro l o l' o' r h h' hr hr'
    obtain ⟨l0,h1,h2⟩:=rowOf h
    obtain ⟨l0',h1',h2'⟩:=rowOf h'
    rw [fpx h1] at hr
    rw [fpx h1'] at hr'
    have:=inv.ll l0 o l0' o' r h2 h2' hr hr'
    subst this
    have hi:=(List.getElem?_eq_some_iff.1 h1)
    have hi':=(List.getElem?_eq_some_iff.1 h1')
    exact (List.getElem?_inj hi.1 nl).1 (h1.trans h1'.symm)
theorem yW (inv : kT m) (hb : ∀ b∈a.bs,m.s.box b=s.box b) (hl : ∀ l∈a.ls,m.s.list l=s.list l) (nb : a.bs.Nodup) (nl : a.ls.Nodup) : eW (m.pick a.bs a.ls (s.pick a)) (s.pick a) (s.pick a).base where
  inv:=aLt inv hb hl nb nl
  box:=fun _=>rfl
  list:=fun _=>rfl
  ub:=fun x hx=>by
    have:=hx.1
    show x<a.bs.length+a.ls.length
    omega
  ul:=fun x hx=>by
    have:=hx.1
    show x<a.bs.length+a.ls.length
    omega
theorem aJh (hb : ∀ b∈a.bs,m.s.box b=s.box b) (hl : ∀ l∈a.ls,m.s.list l=s.list l) {r : Nat} (h : (m.pick a.bs a.ls (s.pick a)).owned r) : m.owned r:=by
  rcases h with ⟨i,cs,h,rfl⟩ | ⟨l,o,h,hr⟩ | h
  · have h : (s.pick a).box i=some cs:=h
    rw [wX] at h
    cases hbi : a.bs[i]? with
    | none=>rw [hbi] at h;cases h
    | some b=>
      rw [hbi] at h
      simp only [Option.bind_some,Option.map_eq_some_iff] at h
      obtain ⟨cs0,h1,h2⟩:=h
      refine .inl ⟨b,cs0,by rw [hb b (List.mem_of_getElem? hbi)];exact h1,?_⟩
      show m.ρ.box (a.bs.getD i 0)=_
      rw [dD hbi]
  · have h : (s.pick a).list l=some o:=h
    rw [tW] at h
    cases hbi : a.ls[l]? with
    | none=>rw [hbi] at h;cases h
    | some l0=>
      rw [hbi] at h
      refine .inr (.inl ⟨l0,o,by rw [hl l0 (List.mem_of_getElem? hbi)];exact h,?_⟩)
      have hr : m.ρ.fp (a.ls.getD l 0) r:=hr
      rw [dD hbi] at hr
      exact hr
  · exact h.elim
theorem aCA {x : Nat} {l : List Nat} (h : ¬ mem x l=true) : x∉l:=fun e=>h (oC.2 e)
theorem aAx {l : List Nat} {x : Nat} (h : l.Nodup) (hx : x∉l) : (l++[x]).Nodup:=by
  rw [List.nodup_append]
  exact ⟨h,by simp,fun a ha b hb e=>by simp at hb;subst hb;subst e;exact hx ha⟩
theorem fM : ∀ (n : Nat) (ds : List DV) (a : Seen),a.bs.Nodup→a.ls.Nodup→(reach s n ds a).bs.Nodup∧(reach s n ds a).ls.Nodup∧(∃ t,(reach s n ds a).bs=a.bs++t)∧∃ t,(reach s n ds a).ls=a.ls++t
  | 0,_,a,h1,h2=>⟨h1,h2,⟨[],by simp [reach]⟩,⟨[],by simp [reach]⟩⟩
  | _+1,[],a,h1,h2=>⟨h1,h2,⟨[],by simp [reach]⟩,⟨[],by simp [reach]⟩⟩
  | n+1,d::r,a,h1,h2=>by
    unfold reach
    have row : ∀ l,let b:=(if mem l a.ls then reach s n r a else match s.list l with | some _=>reach s n r { a with ls:=a.ls++[l]} | none=>reach s n r a);b.bs.Nodup∧b.ls.Nodup∧(∃ t,b.bs=a.bs++t)∧∃ t,b.ls=a.ls++t:=by
      intro l
      dsimp only
      split
      · exact fM n r a h1 h2
      · rename_i hm
        split
        · obtain ⟨g1,g2,g3,t,g4⟩:=fM n r { a with ls:=a.ls++[l]} h1 (aAx h2 (aCA hm))
          exact ⟨g1,g2,g3,[l]++t,by rw [g4,List.append_assoc]⟩
        · exact fM n r a h1 h2
    split
    · split
      · exact fM n r a h1 h2
      · rename_i b _ hm
        split
        · obtain ⟨g1,g2,⟨t,g3⟩,g4⟩:=fM n _ { a with bs:=a.bs++[b]} (aAx h1 (aCA hm)) h2
          exact ⟨g1,g2,⟨[b]++t,by rw [g3,List.append_assoc]⟩,g4⟩
        · exact fM n r a h1 h2
    · split
      · exact fM n r a h1 h2
      · rename_i b _ hm
        split
        · obtain ⟨g1,g2,⟨t,g3⟩,g4⟩:=fM n _ { a with bs:=a.bs++[b]} (aAx h1 (aCA hm)) h2
          exact ⟨g1,g2,⟨[b]++t,by rw [g3,List.append_assoc]⟩,g4⟩
        · exact fM n r a h1 h2
    · exact row _
    · exact row _
    · exact row _
    · exact fM n _ a h1 h2
    · exact fM n _ a h1 h2
    · exact fM n _ a h1 h2
    · exact fM n r a h1 h2
theorem aGw (nb nl : Nat) (s : St) (roots : List DV) : (seenAt nb nl s roots).bs.Nodup∧(seenAt nb nl s roots).ls.Nodup∧(∀ b,b<nb→(seenAt nb nl s roots).bs[b]? = some b)∧∀ l,l<nl→(seenAt nb nl s roots).ls[l]? = some l:=by
  obtain ⟨h1,h2,⟨t,h3⟩,⟨t',h4⟩⟩:=fM (s:=s) fuelR (boxRoots s nb++roots) ⟨List.range nb,List.range nl⟩ List.nodup_range List.nodup_range
  refine ⟨h1,h2,fun b hb=>?_,fun l hl=>?_⟩
  · show (reach s fuelR (boxRoots s nb++roots) ⟨List.range nb,List.range nl⟩).bs[b]? = _
    rw [h3,List.getElem?_append_left (by simpa using hb),List.getElem?_range hb]
  · show (reach s fuelR (boxRoots s nb++roots) ⟨List.range nb,List.range nl⟩).ls[l]? = _
    rw [h4,List.getElem?_append_left (by simpa using hl),List.getElem?_range hl]
theorem aEG {base : Nat} (hf : eW m s base) (nb nl : Nat) (h1 : ∀ b,b<nb→a.bs[b]? = some b) (h2 : ∀ l,l<nl→a.ls[l]? = some l) : Fwd m (m.pick a.bs a.ls (s.pick a)) nb nl where
  size:=Nat.le_refl _
  os:=rfl
  tape:=rfl
  output:=rfl
  keep:=fun _ _ _=>rfl
  own:=fun r h=>.inl (aJh (fun b _=>hf.box b) (fun l _=>hf.list l) h)
  z:=fun _ h=>.inl h
  zz:=fun _ h=>h
  box:=fun b hb cs hcs=>by
    have hg:=h1 b hb
    refine ⟨?_,⟨(List.getElem?_eq_some_iff.1 hg).1,?_⟩,?_⟩
    · show m.ρ.box (a.bs.getD b 0)=_
      rw [dD hg]
    · rw [dD hg];exact hf.inv.ub b cs hcs
    · refine ⟨cs.map (ren (idx · a.bs 0) (idx · a.ls 0) deep),?_⟩
      show (s.pick a).box b=_
      rw [wX,hg,Option.bind_some,← hf.box b,hcs];rfl
  row:=fun l hl hu=>by
    have hg:=h2 l hl
    refine ⟨⟨(List.getElem?_eq_some_iff.1 hg).1,by rw [dD hg];exact hu⟩,fun hv=>⟨?_,?_,?_⟩⟩
    · have hv : (s.pick a).list l≠none:=hv
      rw [tW,hg,Option.bind_some,← hf.list l] at hv
      exact hv
    · show m.ρ.hdr (a.ls.getD l 0)=_
      rw [dD hg]
    · show m.ρ.ty (a.ls.getD l 0)=_
      rw [dD hg]
end
end Go.Proofs.YthkofpnllaapeaaGreatDoor
namespace Go.Proofs.YthkofpnllaapeaaGreatDoor
open Go
theorem cK.subst {w : World} {Z Z' : Nat→Prop} {ρ : Loc} {live live' : Nat→Prop} (C : vP w w Z Z' ρ ρ live live' (fun _=>False)) {l0 : Nat} {c : PV} (hl0 : live l0) (hc0 : eN w Z' c (ρ.hdr l0)) :
    ∀ (n : Nat) {d : DV} {v : Value},cK w Z ρ live d v→cK w Z' ρ live' (substD l0 c n d) v:=by
  have key : ∀ (f : DV→DV),(∀ d v,cK w Z ρ live d v→cK w Z' ρ live' (f d) v)→∀ {d : DV} {v : Value},cK w Z ρ live d v→cK w Z' ρ live' (subst1 l0 c f d) v:=by
    intro f hf d v h
    have plain : cK w Z' ρ live' d v:=h.carry C
    cases h with
    | agg ds vs hl hc h=>
      refine .agg _ vs (by simp [hl]) hc (fun i d v hd hv=>?_)
      rw [List.getElem?_map] at hd
      cases hdi : ds[i]? with
      | none=>rw [hdi] at hd;cases hd
      | some d0=>rw [hdi] at hd;cases hd;exact hf _ _ (h i d0 v hdi hv)
    | tup ds vs hl h=>
      refine .tup _ vs (by simp [hl]) (fun i d v hd hv=>?_)
      rw [List.getElem?_map] at hd
      cases hdi : ds[i]? with
      | none=>rw [hdi] at hd;cases hd
      | some d0=>rw [hdi] at hd;cases hd;exact hf _ _ (h i d0 v hdi hv)
    | fn g ds vs hl h=>
      refine .fn g _ vs (by simp [hl]) (fun i d v hd hv=>?_)
      rw [List.getElem?_map] at hd
      cases hdi : ds[i]? with
      | none=>rw [hdi] at hd;cases hd
      | some d0=>rw [hdi] at hd;cases hd;exact hf _ _ (h i d0 v hdi hv)
    | ref l path v hu hc h=>
      unfold subst1
      dsimp only
      split
      · rename_i hb
        have e:=bH hb
        subst e
        split
        · have hv : ρ.hdr l0=v:=h hl0
          rw [← hv]
          exact .p _ _ hc0
        · exact .dead v
      · exact plain
    | p=>exact plain
    | nils=>exact plain
    | ptr=>exact plain
    | bsl=>exact plain
    | sref=>exact plain
    | eptr=>exact plain
    | fptr=>exact plain
    | bptr=>exact plain
    | gptr=>exact plain
    | nilq=>exact plain
    | dead=>exact plain
  intro n
  induction n with
  | zero=>intro d v h;exact key _ (fun _ _ _=>.dead _) h
  | succ n ih=>intro d v h;exact key _ (fun _ _ h=>ih h) h
def aR.frz (m : aR) (l : Nat) (c : PV) : aR:=
  { m.killF l with s:={ (m.killF l).s with box:=fun b=>(m.s.box b).map (·.map (substD l c deep))}}
theorem aR.frz_step {m : aR} (inv : kT m) {l n : Nat} {o : Own} (hlo : m.s.list l=some o) : eH m (m.frz l o.c) (substD l o.c deep) n:=by
  have hl:=inv.ul l o hlo
  have hdead : ∀ o',(m.frz l o.c).s.list l≠some o':=by intro o' h;simp [aR.frz,aR.killF] at h
  refine eH.row (l:=l) inv ?_ (fun b=>rfl) ?_ ⟨rfl,rfl⟩ ?_ (.inl hl) (fun o h=>absurd h (hdead o)) ?_ (fun o r h=>absurd h (hdead o)) (Nat.le_refl _) rfl rfl rfl (fun _ _ _ _=>rfl)
    (fun r h=>.inl h) ?_ ?_ ?_
  · intro d v h
    refine cK.subst (ρ:=m.ρ) ⟨fun r hr=>.inl hr,fun _ _=>rfl,fun b hb=>⟨hb,rfl⟩,fun l h=>h,fun l' hu hv=>⟨?_,rfl,rfl,.inr (.inr fun r hr=>⟨hr,rfl⟩)⟩⟩ (aR.live_of hlo) ?_ deep h
    · unfold Sx.live aR.frz aR.killF at hv
      by_cases e : l'=l
      · simp [e] at hv
      · unfold Sx.live;simpa [e] using hv
    · exact (inv.row l o hlo).2.2.freeze (fun r hr=>.inl hr) (fun r hr=>.inr ⟨o,hlo,hr⟩)
  · intro l' hne
    exact ⟨by simp [aR.frz,aR.killF,hne],rfl,rfl,rfl⟩
  · intro x
    exact ⟨.inl,fun h=>h.elim id (fun e=>e▸hl)⟩
  · intro _ hv
    exfalso
    unfold Sx.live at hv
    exact hv (by simp [aR.frz,aR.killF])
  · rintro r (h | h)
    · exact .inl h
    · exact .inr (.inl h)
  · rintro r (h | ⟨o,h1,h2⟩)
    · exact inv.zlt r h
    · exact (inv.row l o h1).2.2.lt r h2
  · intro r hr
    refine ⟨.inl hr,?_,(inv.Lz r hr).2,fun o h=>absurd h (hdead o)⟩
    rintro (h | ⟨o,h1,h2⟩)
    · exact (inv.Lz r hr).1 h
    · exact inv.Ll l o r h1 h2 hr
theorem aBJ (l t : Nat) (c : PV) : ∀ (e : Env),(substEnv l c e).get t=substD l c deep (e.get t)
  | []=>rfl
  | (t',d)::r=>by
    unfold substEnv Env.get
    rw [aBJ l t c r]
    split<;>rfl
theorem oY (l b : Nat) (c : PV) : ∀ (r : List (Nat × Option (List DV))),look b (substBoxes l c r)=(look b r).map (·.map (substD l c deep))
  | []=>rfl
  | (b',some cs)::r=>by
    unfold substBoxes
    rw [dF,dF,oY l b c r]
    split<;>rfl
  | (b',none)::r=>by
    unfold substBoxes
    rw [dF,dF,oY l b c r]
    split<;>rfl
theorem aJi {d : DV} {e : Env} {s : St} {k : Env→St→Option R} {r : R} (h : frz1 d e s k=some r) :
    ∃ e' s',k e' s'=some r∧s'.base=s.base∧∀ (m : aR) (a : Act) (nb nl : Nat),eW m s s.base→fF m e.get a→∃ m',m'.w=m.w∧Fwd m m' nb nl∧eW m' s' s'.base∧fF m' e'.get a:=by
  have same : k e s=some r→∃ e' s',k e' s'=some r∧s'.base=s.base∧∀ (m : aR) (a : Act) (nb nl : Nat),eW m s s.base→fF m e.get a→∃ m',m'.w=m.w∧Fwd m m' nb nl∧eW m' s' s'.base∧fF m' e'.get a:=
    fun h=>⟨e,s,h,rfl,fun m a nb nl hf ht=>⟨m,rfl,Fwd.refl m hf.inv _ _,hf,ht⟩⟩
  unfold frz1 at h
  split at h
  · rename_i l
    split at h
    · rename_i w hw
      refine ⟨_,_,h,rfl,fun m a nb nl hf ht=>?_⟩
      have hml : m.s.list l=some w:=(hf.list l).trans hw
      have st:=aR.frz_step hf.inv (n:=0) hml
      refine ⟨m.frz l w.c,rfl,st.fwd hf.inv _ _,⟨st.inv,fun b=>?_,fun l'=>?_,hf.ub,hf.ul⟩,fun t=>?_⟩
      · show (m.s.box b).map _=look b (substBoxes l w.c s.boxes)
        rw [oY,hf.box b]
        rfl
      · show (if l'=l then none else m.s.list l')=look l' ((l,none)::s.lists)
        rw [dF,hf.list l']
        rfl
      · rw [aBJ]
        exact st.rd _ _ (ht t)
    · exact same h
  · exact same h
theorem uM : ∀ {fs : List (Nat × Option Nat)} {e : Env} {s : St} {k : Env→St→Option R} {r : R},frzK fs e s k=some r→
    ∃ e' s',k e' s'=some r∧s'.base=s.base∧∀ (m : aR) (a : Act) (nb nl : Nat),eW m s s.base→fF m e.get a→∃ m',m'.w=m.w∧Fwd m m' nb nl∧eW m' s' s'.base∧fF m' e'.get a
  | [],e,s,k,r,h=>⟨e,s,h,rfl,fun m a nb nl hf ht=>⟨m,rfl,Fwd.refl m hf.inv _ _,hf,ht⟩⟩
  | f::fs,e,s,k,r,h=>by
    have go : ∀ {d : DV},frz1 d e s (fun e s=>frzK fs e s k)=some r→∃ e' s',k e' s'=some r∧s'.base=s.base∧∀ (m : aR) (a : Act) (nb nl : Nat),eW m s s.base→fF m e.get a→∃ m',m'.w=m.w∧Fwd m m' nb nl∧eW m' s' s'.base∧fF m' e'.get a:=by
      intro d h
      obtain ⟨e1,s1,h1,b1,H1⟩:=aJi h
      obtain ⟨e2,s2,h2,b2,H2⟩:=uM h1
      refine ⟨e2,s2,h2,b2.trans b1,fun m a nb nl hf ht=>?_⟩
      obtain ⟨m1,g1,g2,g3,g4⟩:=H1 m a nb nl hf ht
      obtain ⟨m2,q1,q2,q3,q4⟩:=H2 m1 a nb nl g3 g4
      exact ⟨m2,q1.trans g1,g2.trans q2,q3,q4⟩
    obtain ⟨t,j⟩:=f
    cases j with
    | none=>exact go h
    | some j=>
      unfold frzK at h
      split at h
      · split at h
        · exact go h
        · exact uM h
      · exact uM h
theorem wY : ∀ {ts ds : List DV} {s : St} {k : List DV→St→Option R} {r : R},leafs s ts ds k=some r→
    ∃ ds' s',k ds' s'=some r∧s'.base=s.base∧ds'.length=ds.length∧∀ (m : aR) (nb nl : Nat) (vs : List Value),eW m s s.base→(∀ (i : Nat) d v,ds[i]? = some d→vs[i]? = some v→m.rd d v)→
      ∃ m',m'.w=m.w∧Fwd m m' nb nl∧eW m' s' s'.base∧(∀ d v,m.rd d v→m'.rd d v)∧(∀ (i : Nat) d v,ds'[i]? = some d→vs[i]? = some v→m'.rd d v)
  | [],ds,s,k,r,h=>by
    have h : k ds s=some r:=by cases ds<;>exact h
    exact ⟨ds,s,h,rfl,rfl,fun m nb nl vs hf hr=>⟨m,rfl,Fwd.refl m hf.inv _ _,hf,fun _ _ h=>h,hr⟩⟩
  | t::ts,[],s,k,r,h=>by
    have h : k [] s=some r:=by cases t<;>exact h
    exact ⟨[],s,h,rfl,rfl,fun m nb nl vs hf hr=>⟨m,rfl,Fwd.refl m hf.inv _ _,hf,fun _ _ h=>h,hr⟩⟩
  | t::ts,d::ds,s,k,r,h=>by
    have keep : leafs s ts ds (fun ds s=>k (d::ds) s)=some r→∃ ds' s',k ds' s'=some r∧s'.base=s.base∧ds'.length=(d::ds).length∧∀ (m : aR) (nb nl : Nat) (vs : List Value),eW m s s.base→(∀ (i : Nat) d' v,(d::ds)[i]? = some d'→vs[i]? = some v→m.rd d' v)→
        ∃ m',m'.w=m.w∧Fwd m m' nb nl∧eW m' s' s'.base∧(∀ d v,m.rd d v→m'.rd d v)∧(∀ (i : Nat) d v,ds'[i]? = some d→vs[i]? = some v→m'.rd d v):=by
      intro h
      obtain ⟨ds',s',hk,hb,hl,H⟩:=wY h
      refine ⟨_,s',hk,hb,by simp [hl],fun m nb nl vs hf hr=>?_⟩
      cases vs with
      | nil=>
        obtain ⟨m',g1,g2,g3,g4,g5⟩:=H m nb nl [] hf (fun i d v _ h=>by simp at h)
        exact ⟨m',g1,g2,g3,g4,fun i d v _ h=>by simp at h⟩
      | cons v vs=>
        obtain ⟨m',g1,g2,g3,g4,g5⟩:=H m nb nl vs hf (fun i d u hd hu=>hr (i+1) d u (by simpa using hd) (by simpa using hu))
        refine ⟨m',g1,g2,g3,g4,fun i d' u hd hu=>?_⟩
        cases i with
        | zero=>simp at hd hu;subst hd;subst hu;exact g4 _ _ (hr 0 d v rfl rfl)
        | succ i=>exact g5 i d' u (by simpa using hd) (by simpa using hu)
    cases t with
    | p x=>
      unfold leafs at h
      obtain ⟨pv,h1,HS⟩:=aDf h
      obtain ⟨ds',s',hk,hb,hl,H⟩:=wY h1
      have hbase : ∀ (ls : List Nat) (s : St),(s.killL ls).base=s.base:=by
        intro ls
        induction ls with
        | nil=>intro s;rfl
        | cons a r ih=>intro s;exact ih _
      refine ⟨_,s',hk,hb.trans (hbase _ _),by simp [hl],fun m nb nl vs hf hr=>?_⟩
      cases vs with
      | nil=>
        obtain ⟨m1,hd⟩ : ∃ m1,m1=m:=⟨m,rfl⟩
        obtain ⟨m',h1,h2,h3,h4,h5,h6,_⟩:=aI2 (n:=0) ((lsOf deep d).filter fun l=>(s.list l).isSome) hf.inv (fun l hl=>by
          simp only [List.mem_filter] at hl
          cases hs : s.list l with
          | none=>rw [hs] at hl;simp at hl
          | some o=>exact hf.inv.ul l o ((hf.list l).trans hs))
        have hf' : eW m' (s.killL (lsOf deep d)) (s.killL (lsOf deep d)).base:=by
          rw [hbase]
          refine ⟨h1.inv,fun b=>?_,fun l=>?_,fun x hx=>hf.ub x (by rw [← h5];exact hx),fun x hx=>hf.ul x (by rw [← h5];exact hx)⟩
          · rw [h3,qL];exact hf.box b
          · rw [h4,eM,hf.list l]
            by_cases hin : l∈lsOf deep d
            · rw [if_pos hin]
              cases hs : s.list l with
              | none=>simp
              | some o=>rw [if_pos (List.mem_filter.2 ⟨hin,by rw [hs];rfl⟩)]
            · rw [if_neg hin,if_neg (fun h=>hin (List.mem_filter.1 h).1)]
        obtain ⟨m2,g1,g2,g3,g4,g5⟩:=H m' nb nl [] hf' (fun i d v _ h=>by simp at h)
        exact ⟨m2,g1.trans h2,(h1.fwd hf.inv _ _).trans g2,g3,fun d v hd=>g4 d v (h1.rd d v hd),fun i d v _ h=>by simp at h⟩
      | cons v vs=>
        obtain ⟨m',h1,h2,h3,h4,h5,h6,h7⟩:=HS 0 m (fun _=>True) hf.inv (fun l _=>hf.list l) (fun _ _=>trivial) v (hr 0 d v rfl rfl)
        have hf' : eW m' (s.killL (lsOf deep d)) (s.killL (lsOf deep d)).base:=by
          rw [hbase]
          refine ⟨h1.inv,fun b=>?_,fun l=>?_,fun x hx=>hf.ub x (by rw [← h5];exact hx),fun x hx=>hf.ul x (by rw [← h5];exact hx)⟩
          · rw [h3,qL];exact hf.box b
          · rw [h4,eM,hf.list l]
        obtain ⟨m2,g1,g2,g3,g4,g5⟩:=H m' nb nl vs hf' (fun i d u hd hu=>h1.rd _ _ (hr (i+1) d u (by simpa using hd) (by simpa using hu)))
        refine ⟨m2,g1.trans h2,(h1.fwd hf.inv _ _).trans g2,g3,fun d v hd=>g4 d v (h1.rd d v hd),fun i d' u hd hu=>?_⟩
        cases i with
        | zero=>simp at hd hu;subst hd;subst hu;exact g4 _ _ (.p _ _ h7)
        | succ i=>exact g5 i d' u (by simpa using hd) (by simpa using hu)
    | _=>exact keep h
end Go.Proofs.YthkofpnllaapeaaGreatDoor
namespace Go.Proofs.YthkofpnllaapeaaGreatDoor
open Go
def aFQ (P : Program) (f : Nat) (todo : List Item) (a : Act) (w : World) (Rp : Value→World→Prop) : Prop:=
  ∀ (b : Frame) (cs : List Frame),b.fn=f→b.kind = .normal→∃ v w' fr,Rp v w'∧Steps P (lone (b.at a todo) cs w) (lone fr cs w')∧fr.fn=f∧fr.leaving P w' (.returned v)
theorem aFQ.step {P : Program} {f : Nat} {todo todo' : List Item} {a a' : Act} {w w' : World} {Rp : Value→World→Prop}
    (h : ∀ (b : Frame) (cs : List Frame),Steps P (lone (b.at a todo) cs w) (lone (b.at a' todo') cs w')) (k : aFQ P f todo' a' w' Rp) : aFQ P f todo a w Rp:=by
  intro b cs hb hk
  obtain ⟨v,w2,fr,h1,h2,h3,h4⟩:=k b cs hb hk
  exact ⟨v,w2,fr,h1,(h b cs).trans h2,h3,h4⟩
theorem aFQ.mono {P : Program} {f : Nat} {todo : List Item} {a : Act} {w : World} {Rp Rp' : Value→World→Prop} (h : aFQ P f todo a w Rp) (hr : ∀ v w',Rp v w'→Rp' v w') : aFQ P f todo a w Rp':=by
  intro b cs hb hk
  obtain ⟨v,w2,fr,h1,h2⟩:=h b cs hb hk
  exact ⟨v,w2,fr,hr _ _ h1,h2⟩
def aN2 (out : Option Tmpl) (r : R) (v : Value) (m' : aR) : Prop:=match out with
  | none=>∃ pv,r = [pv]∧eN m'.w (fun x=>m'.Z x∨m'.owned x) pv v
  | some t=>∃ (d : DV) (s : St) (a : Seen),t.read d (s.pick a)=some r∧m'.rd d v∧eW m' (s.pick a) (s.pick a).base∧(∀ x,m'.ρ.ub x→x<a.bs.length)∧(∀ x,m'.ρ.ul x→x<a.ls.length)
def qW (m : aR) (nb nl : Nat) (out : Option Tmpl) (r : R) (v : Value) (w' : World) : Prop:=∃ m',m'.w=w'∧kT m'∧Fwd m m' nb nl∧aN2 out r v m'
def aMo (P : Program) (f nb nl : Nat) (out : Option Tmpl) (todo : List Item) (e : Env) (s : St) (r : R) : Prop:=
  ∀ (m : aR) (a : Act) (fn : Func),P.funcs[f]? = some fn→eW m s s.base→fF m e.get a→fn.ntmps≤a.tmps.size→a.defers = []→aFQ P f todo a m.w (qW m nb nl out r)
def aJj (n : Nat) : Item→Prop
  | .code c=>codeOk n c=true
  | .inLoop c=>codeOk n c=true
  | .inScope c=>codeOk n c=true
  | _=>True
def kP (n : Nat) (todo : List Item) : Prop:=∀ x∈todo,aJj n x
section
variable {P : Program} {X : Cx} {O : Orc}
theorem kP.tail {n : Nat} {x : Item} {k : List Item} (h : kP n (x::k)) : kP n k:=fun y hy=>h y (List.mem_cons_of_mem _ hy)
theorem kP.head {n : Nat} {x : Item} {k : List Item} (h : kP n (x::k)) : aJj n x:=h x List.mem_cons_self
theorem kP.cons {n : Nat} {x : Item} {k : List Item} (hx : aJj n x) (h : kP n k) : kP n (x::k):=fun y hy=>by
  rcases List.mem_cons.1 hy with rfl | hy
  · exact hx
  · exact h y hy
theorem aCB {n id : Nat} : ∀ {k k' : List Item},exitTo id k=some k'→kP n k→kP n k'
  | [],_,h,_=>by simp [exitTo] at h
  | x::k,k',h,hk=>by
    cases x with
    | inBlock id'=>
      unfold exitTo at h
      split at h
      · cases h;exact hk.tail
      · exact aCB h hk.tail
    | _=>exact aCB (by simpa [exitTo] using h) hk.tail
theorem aHa {n l : Nat} : ∀ {c c' : Code},findLabel c l=some c'→codeOk n c=true→codeOk n c'=true:=by
  intro c
  induction c with
  | seq a b iha ihb=>
    intro c' h hc
    unfold findLabel at h
    unfold codeOk at hc
    simp only [Bool.and_eq_true] at hc
    split at h
    · rename_i rest hr
      cases h
      unfold codeOk
      simp only [Bool.and_eq_true]
      exact ⟨iha hr hc.1,hc.2⟩
    · exact ihb h hc.2
  | label l'=>
    intro c' h _
    unfold findLabel at h
    split at h
    · cases h;rfl
    · cases h
  | _=>intro c' h _;simp [findLabel] at h
theorem aCC {n l : Nat} : ∀ {k k' : List Item},gotoIn l k=some k'→kP n k→kP n k'
  | [],_,h,_=>by simp [gotoIn] at h
  | x::k,k',h,hk=>by
    cases x with
    | inScope body=>
      unfold gotoIn at h
      split at h
      · rename_i rest hr
        cases h
        exact hk.tail.cons (hk.head) |>.cons (aHa hr hk.head)
      · exact aCC h hk.tail
    | _=>exact aCC (by simpa [gotoIn] using h) hk.tail
theorem aJk {t : Nat} {va v : Value} {w w' : World} (h : (Instr.loadAt t va).run P w = .ok v w') : ∃ ad,va = .pointer (some ad)∧(loadVar t ad).run P w = .ok v w':=by
  unfold Instr.loadAt at h
  rw [Sem.run_bind] at h
  cases va with
  | pointer o=>
    cases o with
    | some ad=>exact ⟨ad,rfl,h⟩
    | none=>simp [Instr.sureAddr] at h
  | _=>simp [Instr.sureAddr] at h
theorem wZ (hT : X.T=tabOf P) {e : Env} {s : St} : ∀ {rs : List ResultVar} {k : List DV→Option R} {r : R},resultsK X e s rs k=some r→
    ∃ ds,k ds=some r∧ds.length=rs.length∧∀ (m : aR) (a : Act) (base : Nat),eW m s base→fF m e.get a→
      ∃ vs,(rs.mapM (fun x : ResultVar=>(match x with | .tmp t=>pure (a.tmps.getD t undef) | .cell ad t=>do loadVar t (← asAddr (a.tmps.getD ad undef)) : Sem Value))).run P m.w = .ok vs m.w∧vs.length=ds.length∧∀ (i : Nat) d v,ds[i]? = some d→vs[i]? = some v→m.rd d v
  | [],k,r,h=>⟨[],h,rfl,fun m a base _ _=>⟨[],rfl,rfl,fun i d v hd=>by simp at hd⟩⟩
  | x::rs,k,r,h=>by
    have go : ∀ {d : DV},resultsK X e s rs (fun ds=>k (d::ds))=some r→(∀ (m : aR) (a : Act) (base : Nat),eW m s base→fF m e.get a→
        ∃ v,((match x with | .tmp t=>pure (a.tmps.getD t undef) | .cell ad t=>do loadVar t (← asAddr (a.tmps.getD ad undef)) : Sem Value)).run P m.w = .ok v m.w∧m.rd d v)→
        ∃ ds,k ds=some r∧ds.length=(x::rs).length∧∀ (m : aR) (a : Act) (base : Nat),eW m s base→fF m e.get a→
          ∃ vs,((x::rs).mapM (fun x : ResultVar=>(match x with | .tmp t=>pure (a.tmps.getD t undef) | .cell ad t=>do loadVar t (← asAddr (a.tmps.getD ad undef)) : Sem Value))).run P m.w = .ok vs m.w∧vs.length=ds.length∧∀ (i : Nat) d v,ds[i]? = some d→vs[i]? = some v→m.rd d v:=by
      intro d h H
      obtain ⟨ds,hk,hl,H2⟩:=wZ hT h
      refine ⟨d::ds,hk,by simp [hl],fun m a base hf ht=>?_⟩
      obtain ⟨v,hv,hd⟩:=H m a base hf ht
      obtain ⟨vs,hvs,hl2,hds⟩:=H2 m a base hf ht
      refine ⟨v::vs,?_,by simp [hl2],fun i d' v' h1 h2=>?_⟩
      · rw [List.mapM_cons,Sem.run_bind,hv,Result.andThen_ok,Sem.run_bind,hvs,Result.andThen_ok];rfl
      · cases i with
        | zero=>simp at h1 h2;subst h1;subst h2;exact hd
        | succ i=>exact hds i d' v' (by simpa using h1) (by simpa using h2)
    cases x with
    | tmp t=>
      unfold resultsK at h
      split at h
      · cases h
      · exact go h (fun m a base hf ht=>⟨_,rfl,ht t⟩)
    | cell ad t=>
      unfold resultsK at h
      obtain ⟨d,h',H⟩:=aDe hT h
      refine go h' (fun m a base hf ht=>?_)
      obtain ⟨v,hv,hd⟩:=H m hf.inv (fun b _=>hf.box b) (fun l _=>hf.list l) _ (ht ad)
      obtain ⟨adr,hadr,hld⟩:=aJk hv
      have hadr : a.tmps.getD ad undef = .pointer (some adr):=hadr
      refine ⟨v,?_,hd⟩
      simp only [hadr]
      rw [Sem.run_bind]
      simpa [asAddr] using hld
theorem aIa {m : aR} {ds : List DV} {vs : List Value} (hl : vs.length=ds.length) (h : ∀ (i : Nat) d v,ds[i]? = some d→vs[i]? = some v→m.rd d v) :
    m.rd (oneOf ds) (if h : vs.toArray.size=1 then vs.toArray[0] else .tuple vs.toArray):=by
  match ds,vs,hl with
  | [d],[v],_=>simpa [oneOf] using h 0 d v rfl rfl
  | [],[],_=>exact .tup [] [] rfl (fun i d v h=>by simp at h)
  | d1::d2::ds,v1::v2::vs,hl=>
    have : ¬ ((v1::v2::vs).toArray.size=1):=by simp
    rw [dif_neg this]
    exact .tup _ _ (by simpa using hl.symm) h
theorem aMp {m : aR} {s : St} {base : Nat} (hf : eW m s base) : May m s (fun _=>True) (fun _=>True):=
  ⟨fun b _=>hf.box b,fun l _=>hf.list l,fun _ _ _ _ _ _=>⟨fun _ _=>trivial,fun _ _=>trivial⟩⟩
theorem aGx {β : Type} {c : PV} {a b : Option β} {r : β} (h : PV.nilT c a b=some r) : (c = .lst []→a=some r)∧b=some r:=by
  cases c with
  | lst xs=>
    cases xs with
    | nil=>
      have h : @ite _ (a=b) (Classical.propDecidable _) a none=some r:=h
      by_cases he : a=b
      · rw [if_pos he] at h
        exact ⟨fun _=>h,he▸h⟩
      · rw [if_neg he] at h
        cases h
    | cons x xs=>exact ⟨fun h'=>(by cases h'),h⟩
  | _=>cases h
theorem aAd (hT : X.T=tabOf P) {f : Nat} {fn : Func} (hfn : P.funcs[f]? = some fn) (hres : X.res=fn.results.toList) {e : Env} {s : St} {r : R} (h : finishK X e s=some r) :
    ∀ (m : aR) (a : Act),eW m s s.base→fF m e.get a→a.defers = []→∃ v,(results fn a.tmps).run P m.w = .ok v m.w∧qW m X.nb X.nl X.out r v m.w:=by
  unfold finishK at h
  obtain ⟨ds,hk,_,H⟩:=wZ hT h
  intro m a hf ht hd
  obtain ⟨vs,hvs,hl,hrd⟩:=H m a s.base hf ht
  have hone:=aIa hl hrd
  refine ⟨(if h : vs.toArray.size=1 then vs.toArray[0] else .tuple vs.toArray),?_,?_⟩
  · unfold results
    rw [Sem.run_bind,Array.mapM_eq_mapM_toList,← hres]
    have : ((List.toArray <$> X.res.mapM (fun x : ResultVar=>(match x with | .tmp t=>pure (a.tmps.getD t undef) | .cell ad t=>do loadVar t (← asAddr (a.tmps.getD ad undef)) : Sem Value)) : Sem (Array Value))).run P m.w = .ok vs.toArray m.w:=by
      rw [map_eq_pure_bind,Sem.run_bind,hvs,Result.andThen_ok];rfl
    refine (congrArg (fun q : Result (Array Value)=>q.andThen fun vs w'=>(pure (if h : vs.size=1 then vs[0] else .tuple vs) : Sem Value).run P w') this).trans ?_
    rw [Result.andThen_ok]
    rfl
  · split at hk
    · rename_i hout
      obtain ⟨pv,hk',HS⟩:=rZ deep (Nat.le_refl _) hk
      cases hk'
      have:=HS m (fun x=>m.Z x∨m.owned x) _ _ hf.inv (aMp hf) ⟨fun _ _=>trivial,fun _ _=>trivial⟩ (.inl fun r hr=>.inr hr) (fun r hr=>.inl hr) _ hone
      refine ⟨m,rfl,hf.inv,Fwd.refl m hf.inv _ _,?_⟩
      rw [hout]
      exact ⟨pv,rfl,this⟩
    · rename_i t hout
      obtain ⟨ds2,s2,hk,hbase,hl2,HL⟩:=wY hk
      obtain ⟨m2,w2,fw2,hf2,_,hrd2⟩:=HL m X.nb X.nl vs hf hrd
      replace hone:=aIa (hl.trans hl2.symm) hrd2
      have sa:=aGw X.nb X.nl s2 [oneOf ds2]
      have hb : ∀ b∈(seenAt X.nb X.nl s2 [oneOf ds2]).bs,m2.s.box b=s2.box b:=fun b _=>hf2.box b
      have hl' : ∀ l∈(seenAt X.nb X.nl s2 [oneOf ds2]).ls,m2.s.list l=s2.list l:=fun l _=>hf2.list l
      have pf:=yW (a:=seenAt X.nb X.nl s2 [oneOf ds2]) hf2.inv hb hl' sa.1 sa.2.1
      refine ⟨m2.pick (seenAt X.nb X.nl s2 [oneOf ds2]).bs (seenAt X.nb X.nl s2 [oneOf ds2]).ls (s2.pick (seenAt X.nb X.nl s2 [oneOf ds2])),w2,pf.inv,fw2.trans (aEG hf2 _ _ sa.2.2.1 sa.2.2.2),?_⟩
      rw [hout]
      exact ⟨_,s2,seenAt X.nb X.nl s2 [oneOf ds2],hk,aEF hl' deep hone,pf,fun x hx=>hx.1,fun x hx=>hx.1⟩
theorem aIb {f : Nat} {fn : Func} (hfn : P.funcs[f]? = some fn) {todo : List Item} {a : Act} {w : World} {Rp : Value→World→Prop} (hd : a.defers = [])
    (hstep : ∀ (b : Frame) (cs : List Frame),step P (lone (b.at a todo) cs w) = .next (lone { b.at a todo with mode:=.returning} cs w)) {v : Value} (hv : (results fn a.tmps).run P w = .ok v w) (hR : Rp v w) : aFQ P f todo a w Rp:=by
  intro b cs hb hk
  exact ⟨v,w,_,hR,.one (hstep b cs),hb,rfl,hd,hk,fn,by show P.funcs[b.fn]? = _;rw [hb];exact hfn,hv⟩
theorem aEH (hT : X.T=tabOf P) (hz : iU P X.zok) (hg : ∀ g,X.glob g=none) (hC : aBH P X O) (hm : P.follows .mixedOrders=true) {f : Nat} {fn : Func} (hfn : P.funcs[f]? = some fn) (hres : X.res=fn.results.toList)
    (hL : ∀ todo e s r,O.L todo e s=some r→kP fn.ntmps todo→aMo P f X.nb X.nl X.out todo e s r) :
    ∀ (n : Nat) (first : Bool) (todo : List Item) (e : Env) (s : St) (r : R),eval X O n first todo e s=some r→kP fn.ntmps todo→aMo P f X.nb X.nl X.out todo e s r
  | 0,_,_,_,_,_,h,_=>by simp [eval] at h
  | n+1,first,todo,e,s,r,h,hok=>by
    have ih:=fun first todo e s r h hk=>aEH hT hz hg hC hm hfn hres hL n first todo e s r h hk
    intro m a fn' hfn' hf ht hsz hd
    rw [hfn] at hfn'
    cases hfn'
    unfold eval at h
    match todo,hok with
    | [],_=>
      obtain ⟨v,h1,h2⟩:=aAd hT hfn hres h m a hf ht hd
      exact aIb hfn hd (fun b cs=>step_end) h1 h2
    | .inBlock id::k,hok=>exact .step (fun b cs=>.one step_inBlock) (ih _ _ _ _ _ h hok.tail m a fn hfn hf ht hsz hd)
    | .inScope c::k,hok=>
      exact .step (fun b cs=>.one (step_lone_go (by simp [stepG,stepG.exec,Frame.at]))) (ih _ _ _ _ _ h hok.tail m a fn hfn hf ht hsz hd)
    | .inLoop c::k,hok=>exact .step (fun b cs=>.one step_inLoop) (ih _ _ _ _ _ h (hok.cons hok.head) m a fn hfn hf ht hsz hd)
    | .code c::k,hok=>
      have hc : codeOk fn.ntmps c=true:=hok.head
      have hk:=hok.tail
      cases c with
      | ret=>
        obtain ⟨v,h1,h2⟩:=aAd hT hfn hres h m a hf ht hd
        exact aIb hfn hd (fun b cs=>step_ret) h1 h2
      | skip=>exact .step (fun b cs=>.one step_skip) (ih _ _ _ _ _ h hk m a fn hfn hf ht hsz hd)
      | label l=>exact .step (fun b cs=>.one step_label) (ih _ _ _ _ _ h hk m a fn hfn hf ht hsz hd)
      | seq x y=>
        unfold codeOk at hc
        simp only [Bool.and_eq_true] at hc
        exact .step (fun b cs=>.one step_seq) (ih _ _ _ _ _ h ((hk.cons (x:=.code y) hc.2).cons (x:=.code x) hc.1) m a fn hfn hf ht hsz hd)
      | block id x=>
        unfold codeOk at hc
        exact .step (fun b cs=>.one step_block) (ih _ _ _ _ _ h ((hk.cons (x:=.inBlock id) trivial).cons (x:=.code x) hc) m a fn hfn hf ht hsz hd)
      | loop x=>
        unfold codeOk at hc
        exact .step (fun b cs=>.one step_loop) (ih _ _ _ _ _ h ((hk.cons (x:=.inLoop x) hc).cons (x:=.code x) hc) m a fn hfn hf ht hsz hd)
      | scope x=>
        unfold codeOk at hc
        exact .step (fun b cs=>.one (step_lone_go (by simp [stepG,stepG.exec,Frame.at]))) (ih _ _ _ _ _ h ((hk.cons (x:=.inScope x) hc).cons (x:=.code x) hc) m a fn hfn hf ht hsz hd)
      | exit id=>
        simp only at h
        split at h
        · rename_i k' hk'
          exact .step (fun b cs=>.one (step_exit hk')) (ih _ _ _ _ _ h (aCB hk' hk) m a fn hfn hf ht hsz hd)
        · cases h
      | goto l=>
        simp only at h
        split at h
        · rename_i k' hk'
          exact .step (fun b cs=>.one (step_goto hk')) (ih _ _ _ _ _ h (aCC hk' hk) m a fn hfn hf ht hsz hd)
        · cases h
      | cond c x y=>
        unfold codeOk at hc
        simp only [Bool.and_eq_true] at hc
        simp only at h
        split at h
        · rename_i v neg hv
          have hval:=aLs hg (X:=X) (m:=m) (e:=e) (a:=a) (x:=c) (fun t ht'=>ht t)
          rw [hv] at hval
          obtain ⟨b,hb,hn⟩ : ∃ b,a.eval c = .bool b∧((b != neg)=true→v = .lst []):=by
            cases hv' : a.eval c<;>rw [hv'] at hval<;>cases hval
            exact ⟨_,rfl,by assumption⟩
          obtain ⟨q1,q2⟩:=aGx h
          have hgo : eval X O n false (.code (if b then x else y)::k) e s=some r:=by
            cases hbn : (b != neg) with
            | true=>
              have:=q1 (hn hbn)
              cases b<;>cases neg<;>simp_all
            | false=>cases b<;>cases neg<;>simp_all
          exact .step (fun bb cs=>.one (step_cond hb)) (ih _ _ _ _ _ hgo (hk.cons (x:=.code (if b then x else y)) (by cases b;exact hc.2;exact hc.1)) m a fn hfn hf ht hsz hd)
        rotate_left
        · cases h
        rename_i v hv
        have hval : ∀ b : Bool,v = .bool b→a.eval c = .bool b:=by
          intro b hb
          have:=aLs hg (X:=X) (m:=m) (e:=e) (a:=a) (x:=c) (fun t ht'=>ht t)
          rw [hv,hb] at this
          cases this with
          | p _ _ h=>exact h.bool_inv
        have go : ∀ (b : Bool) (e' : Env),v = .bool b→(∀ t,e'.get t=e.get t)→eval X O n false (.code (if b then x else y)::k) e' s=some r→aFQ P f (.code (.cond c x y)::k) a m.w (qW m X.nb X.nl X.out r):=by
          intro b e' hb he' h
          refine .step (fun bb cs=>.one (step_cond (hval b hb))) (ih _ _ _ _ _ h (hk.cons (x:=.code (if b then x else y)) (by cases b;exact hc.2;exact hc.1)) m a fn hfn hf ?_ hsz hd)
          intro t
          rw [he' t]
          exact ht t
        split at h
        · rename_i t
          have hv : e.get t = .p v:=hv
          rcases tS h with ⟨rfl,h'⟩ | ⟨rfl,h'⟩
          · exact go true _ rfl (tV t _ e hv) h'
          · exact go false _ rfl (tV t _ e hv) h'
        · rcases tS h with ⟨rfl,h'⟩ | ⟨rfl,h'⟩
          · exact go true e rfl (fun _=>rfl) h'
          · exact go false e rfl (fun _=>rfl) h'
      | region id ops draw=>
        unfold codeOk at hc
        simp only at h
        obtain ⟨e,s,h,hbase,HF⟩:=uM h
        obtain ⟨m0,hm0,fw0,hf,ht⟩:=HF m a X.nb X.nl hf ht
        rw [← hm0]
        refine aFQ.mono (Rp:=qW m0 X.nb X.nl X.out r) ?_ (fun v w' ⟨m',h1,h2,h3,h4⟩=>⟨m',h1,h2,fw0.trans h3,h4⟩)
        clear fw0 HF hbase
        clear hm0
        revert hf ht
        generalize m0=m
        intro hf ht
        split at h
        · rename_i keep hcut _
          have sa:=aGw X.nb X.nl s (rootsOf e keep)
          have hb : ∀ b∈(seenAt X.nb X.nl s (rootsOf e keep)).bs,m.s.box b=s.box b:=fun b _=>hf.box b
          have hl' : ∀ l∈(seenAt X.nb X.nl s (rootsOf e keep)).ls,m.s.list l=s.list l:=fun l _=>hf.list l
          have pf:=yW (a:=seenAt X.nb X.nl s (rootsOf e keep)) hf.inv hb hl' sa.1 sa.2.1
          have fw:=aEG (a:=seenAt X.nb X.nl s (rootsOf e keep)) hf X.nb X.nl sa.2.2.1 sa.2.2.2
          refine (hL _ _ _ _ h hok _ a fn hfn pf ?_ hsz hd).mono ?_
          · have key : ∀ (ts : List Nat) (t : Nat),(m.pick (seenAt X.nb X.nl s (rootsOf e keep)).bs (seenAt X.nb X.nl s (rootsOf e keep)).ls (s.pick (seenAt X.nb X.nl s (rootsOf e keep)))).rd ((keepEnv e (idx · (seenAt X.nb X.nl s (rootsOf e keep)).bs 0) (idx · (seenAt X.nb X.nl s (rootsOf e keep)).ls 0) ts).get t) (a.eval (.tmp t)):=by
              intro ts
              induction ts with
              | nil=>intro t;exact .dead _
              | cons t0 ts ih=>
                intro t
                unfold keepEnv
                simp only [Env.get]
                split
                · rename_i h0
                  rw [bH h0]
                  exact aEF hl' deep (ht t0)
                · exact ih t
            exact key keep
          · rintro v w' ⟨m',h1,h2,h3,h4⟩
            exact ⟨m',h1,h2,fw.trans h3,h4⟩
        · obtain ⟨e',s',hk',H⟩:=aG9 (id:=id) hT hz hg hC hm hc h
          intro b cs hb hkind
          have hw:=H (fun m'=>kT m'∧Fwd m m' X.nb X.nl) (fun m1 m2 scr n hI hinv st=>⟨st.inv,hI.2.trans (st.fwd hinv _ _)⟩) m a hf ht hsz (fun w' hw'=>by
            subst hw'
            have hz' : ∀ r,m.Z r→r<m.w.heap.size:=hf.inv.zlt.lt
            have st:=aR.grow_step hf.inv (n:=0) (w':={ m.w with drawn:=m.w.drawn+1}) (Z':=m.Z) (fun _ _=>rfl) (Nat.le_refl _) rfl rfl rfl (fun _ h=>h) (fun r hr=>.inl hr)
            exact ⟨m.grow { m.w with drawn:=m.w.drawn+1} m.Z,rfl,⟨st.inv,st.fwd hf.inv _ _⟩,⟨st.inv,hf.box,hf.list,hf.ub,hf.ul⟩,fun t=>st.rd _ _ (ht t)⟩) ⟨hf.inv,Fwd.refl m hf.inv _ _⟩
          obtain ⟨ex,a',w',⟨rfl,m',rfl,hI,hf',ht',hsz',hd'⟩,harr⟩:=hw b k cs
          obtain ⟨v,w2,fr,g1,g2,g3,g4⟩:=ih _ _ _ _ _ hk' hk m' a' fn hfn hf' ht' hsz' (hd'.trans hd) b cs hb hkind
          refine ⟨v,w2,fr,?_,Steps.trans harr g2,g3,g4⟩
          obtain ⟨m2,q1,q2,q3,q4⟩:=g1
          exact ⟨m2,q1,q2,hI.2.trans q3,q4⟩
      | _=>simp at h
    | .inRegion ops l::k,_=>simp at h
end
end Go.Proofs.YthkofpnllaapeaaGreatDoor
namespace Go.Proofs.YthkofpnllaapeaaGreatDoor
open Go
def iL (P : Program) (g : Nat) : Prop:=∃ fn c,P.funcs[g]? = some fn∧fn.body=some c∧fn.name≠ "runtime.NumGoroutine"
theorem aBK {P : Program} {g : Nat} (h : iL P g) (vs : Array Value) (w : World) : (callFunc g vs).run P w = .ok (.enter g vs) w:=by
  obtain ⟨fn,c,h1,h2,h3⟩:=h
  simp [callFunc,h1,h2,h3]
structure aBL (w w' : World) (Z Z' : Nat→Prop) : Prop where
  size : w.heap.size≤w'.heap.size
  os : w'.os=w.os
  tape : w'.tape=w.tape
  output : w'.output=w.output
  old : ∀ r,r<w.heap.size→w'.heap[r]? = w.heap[r]?
  zz : ∀ r,Z r→Z' r
  z : ∀ r,Z' r→Z r∨(w.heap.size≤r∧r<w'.heap.size)
def aCD (P : Program) (C : Nat→List PV→Option R) : Prop:=∀ g args r,C g args=some r→iL P g∧∀ (w : World) (Z : Nat→Prop) (aP : Array Value),ZOk w Z→args.length=aP.size→
  (∀ (i : Nat) x v,args[i]? = some x→aP[i]? = some v→eN w Z x v)→Calls P g aP w (fun e w'=>∃ v,e = .returned v∧∃ Z',aBL w w' Z Z'∧eN w' Z' (hd r) v)
section
variable {P : Program} {X : Cx} {O : Orc}
theorem aEI {x : Nat} : ∀ {l : List Nat},x∈uniq l↔x∈l
  | []=>by simp [uniq]
  | y::r=>by
    unfold uniq
    split
    · rename_i h
      rw [aEI]
      have:=oC.1 h
      constructor
      · intro h;exact List.mem_cons_of_mem _ h
      · intro h
        rcases List.mem_cons.1 h with rfl | h
        · exact this
        · exact h
    · rw [List.mem_cons,List.mem_cons,aEI]
theorem aHb {s : St} {ds : List DV} {wr : Bool} (hok : (deepFoot s ds wr).ok=true) {m : aR} (hb : ∀ b∈(deepFoot s ds wr).rb,m.s.box b=s.box b) (hl : ∀ l∈(deepFoot s ds wr).rl,m.s.list l=s.list l) :
    May m s (fun b=>b∈(deepFoot s ds wr).rb) (fun l=>l∈(deepFoot s ds wr).rl)∧∀ d∈ds,mA (fun b=>b∈(deepFoot s ds wr).rb) (fun l=>l∈(deepFoot s ds wr).rl) deep d:=by
  have hrb : (deepFoot s ds wr).rb=(reach s fuelR ds ⟨[],[]⟩).bs:=by unfold deepFoot;cases wr<;>rfl
  have hrl : (deepFoot s ds wr).rl=uniq ((reach s fuelR ds ⟨[],[]⟩).ls++(reached s ds (reach s fuelR ds ⟨[],[]⟩)).flatMap (lsOf deep)):=by unfold deepFoot;cases wr<;>rfl
  have hok : (reached s ds (reach s fuelR ds ⟨[],[]⟩)).all (fun d=>(bsOf deep d).all fun b=>mem b (reach s fuelR ds ⟨[],[]⟩).bs)=true:=by
    rw [← hok];unfold deepFoot;cases wr<;>rfl
  have names : ∀ d∈reached s ds (reach s fuelR ds ⟨[],[]⟩),mA (fun b=>b∈(deepFoot s ds wr).rb) (fun l=>l∈(deepFoot s ds wr).rl) deep d:=by
    intro d hd
    refine ⟨fun b hb=>?_,fun l hl=>?_⟩
    · show b∈(deepFoot s ds wr).rb
      rw [hrb]
      rw [List.all_eq_true] at hok
      have:=hok d hd
      rw [List.all_eq_true] at this
      exact oC.1 (this b hb)
    · show l∈(deepFoot s ds wr).rl
      rw [hrl]
      exact aEI.2 (List.mem_append_right _ (List.mem_flatMap.2 ⟨d,hd,hl⟩))
  refine ⟨⟨hb,hl,fun b cs hB hcs d hd=>names d ?_⟩,fun d hd=>names d (List.mem_append_left _ hd)⟩
  refine List.mem_append_right _ (List.mem_flatMap.2 ⟨b,by rw [← hrb];exact hB,?_⟩)
  rw [hcs]
  exact hd
def aD8 (m : aR) (s : St) (args : List DV) : Prop:=∃ B L,May m s B L∧∀ d∈args,mA B L deep d
theorem aHc {m : aR} {s : St} {B L WB WL : Nat→Prop} {n : Nat} (sit : mB m s B L n) {ds : List DV} {wr : Bool} (C : (deepFoot s ds wr).Cov B L WB WL) (hok : (deepFoot s ds wr).ok=true∨∀ x,B x∧L x) : aD8 m s ds:=by
  rcases hok with hok | hall
  · exact ⟨_,_,aHb hok (fun b hb=>sit.ab b (.inl (C.rb b hb))) (fun l hl=>sit.al l (.inl (C.rl l hl)))⟩
  · exact ⟨fun _=>True,fun _=>True,⟨fun b _=>sit.ab b (.inl (hall b).1),fun l _=>sit.al l (.inl (hall l).2),fun _ _ _ _ _ _=>⟨fun _ _=>trivial,fun _ _=>trivial⟩⟩,fun _ _=>⟨fun _ _=>trivial,fun _ _=>trivial⟩⟩
theorem xA : ∀ (n : Nat) {d : DV},lives n d=false→bsOf n d = []∧lsOf n d = []
  | 0,d,h=>by cases d<;>simp [lives] at h<;>simp [bsOf,lsOf]
  | n+1,d,h=>by
    have sub : ∀ {cs : List DV},cs.any (lives n)=false→cs.flatMap (bsOf n) = []∧cs.flatMap (lsOf n) = []:=by
      intro cs hc
      rw [List.any_eq_false] at hc
      constructor<;>rw [List.flatMap_eq_nil_iff]<;>intro d hd
      · exact (xA n (by simpa using hc d hd)).1
      · exact (xA n (by simpa using hc d hd)).2
    cases d<;>simp only [lives] at h<;>first | (cases h;done) | skip
    all_goals first
      | exact ⟨rfl,rfl⟩
      | exact sub h
theorem sE {s : St} {args : List DV} {k : List PV→Option R} {r : R} (h : snapL s deep args k=some r) :
    ∃ ps,k ps=some r∧ps.length=args.length∧∀ (m : aR) (Z' : Nat→Prop),kT m→aD8 m s args→((∀ r,m.owned r→Z' r)∨∀ d∈args,bsOf deep d = []∧lsOf deep d = [])→(∀ r,m.Z r→Z' r)→
      ∀ (vs : Array Value),args.length=vs.size→(∀ (i : Nat) d v,args[i]? = some d→vs[i]? = some v→m.rd d v)→∀ (i : Nat) x v,ps[i]? = some x→vs[i]? = some v→eN m.w Z' x v:=by
  unfold snapL at h
  obtain ⟨ps,hk,hl,H⟩:=aAt (T:=fun d pv=>∀ (m : aR) (Z' : Nat→Prop) (B L : Nat→Prop),kT m→May m s B L→mA B L deep d→aGZ m Z' deep d→(∀ r,m.Z r→Z' r)→∀ v,m.rd d v→eN m.w Z' pv v)
    (fun a k r h=>rZ deep (Nat.le_refl _) h) h
  refine ⟨ps,hk,by omega,fun m Z' inv ⟨B,L,hm,hn⟩ hF hz vs hvl hrd i x v hx hv=>?_⟩
  have hi : i<args.length:=by have:=(List.getElem?_eq_some_iff.1 hx).1;omega
  have hd : args[i]? = some args[i]:=List.getElem?_eq_getElem hi
  refine H i args[i] x hd hx m Z' B L inv hm (hn _ (List.getElem_mem hi)) ?_ hz v (hrd i _ v hd hv)
  rcases hF with hF | hF
  · exact .inl hF
  · obtain ⟨h1,h2⟩:=hF _ (List.getElem_mem hi)
    exact .inr ⟨h1,fun l hl=>by rw [h2] at hl;cases hl⟩
theorem eN.flat {w w' : World} {Z Z' : Nat→Prop} {x : PV} {v : Value} (h : eN w Z x v) (hf : x.flat=true) : eN w' Z' x v:=by
  have cells : ∀ {cs : List PV},(cs.all fun | .bool _ | .int .. | .str _ | .nil | .nilf=>true | _=>false)=true→∀ (i : Nat) c,cs[i]? = some c→(∃ b,c = .bool b)∨(∃ k n,c = .int k n)∨(∃ s,c = .str s)∨c = .nil∨c = .nilf:=by
    intro cs hc i c hi
    rw [List.all_eq_true] at hc
    have:=hc c (List.mem_of_getElem? hi)
    cases c<;>simp at this<;>simp
  have leaf : ∀ {c : PV} {v : Value},((∃ b,c = .bool b)∨(∃ k n,c = .int k n)∨(∃ s,c = .str s)∨c = .nil∨c = .nilf)→eN w Z c v→eN w' Z' c v:=by
    intro c v hc hr
    rcases hc with ⟨b,rfl⟩ | ⟨k,n,rfl⟩ | ⟨s,rfl⟩ | rfl | rfl
    · cases hr;exact .bool _
    · cases hr;exact .int _ _
    · cases hr;exact .str _
    · cases hr;exact .nil
    · cases hr;exact .nilf
  cases h with
  | bool b=>exact .bool b
  | int k n=>exact .int k n
  | str s=>exact .str s
  | nil=>exact .nil
  | nilf=>exact .nilf
  | agg cs vs hl hc hr=>exact .agg cs vs hl hc (fun i c v hci hv=>leaf (cells hf i c hci) (hr i c v hci hv))
  | tup cs vs hl hr=>exact .tup cs vs hl (fun i c v hci hv=>leaf (cells hf i c hci) (hr i c v hci hv))
  | hole=>simp [PV.flat] at hf
  | fn=>simp [PV.flat] at hf
  | empty=>simp [PV.flat] at hf
  | lst=>simp [PV.flat] at hf
  | bx=>simp [PV.flat] at hf
theorem xB {β : Type} {r : PV} {k : Option β} {x : β} (h : PV.guardFlat r k=some x) : r.flat=true∧k=some x:=by
  unfold PV.guardFlat at h
  split at h
  · rename_i hf;exact ⟨hf,h⟩
  · cases h
theorem aIc {C : List PV→Option R} {f : Nat} {caps : List PV} (hP : ∀ ps r,C ps=some r→iL P f∧∀ (w : World) (Z : Nat→Prop) (aP us : Array Value),ZOk w Z→ps.length=aP.size→
      (∀ (i : Nat) x v,ps[i]? = some x→aP[i]? = some v→eN w Z x v)→caps.length=us.size→(∀ (i : Nat) x v,caps[i]? = some x→us[i]? = some v→eN w Z x v)→
      Calls P f (aP++us) w (fun e w'=>∃ v,e = .returned v∧∃ Z',aBL w w' Z Z'∧eN w' Z' (hd r) v))
    {args : List DV} {s : St} {k : DV→St→Option R} {r : R}
    (h : (if args.any (lives deep) then snapL s deep args fun vs=>bd (C vs) fun r=>PV.guardFlat (hd r) (k (.p (hd r)) s) else snapL s deep args fun vs=>bd (C vs) fun r=>k (.p (hd r)) s)=some r) :
    iL P f∧∃ d',k d' s=some r∧∀ (n : Nat) (m : aR) (B L WB WL : Nat→Prop),mB m s B L n→aD8 m s args→∀ vs us : Array Value,args.length=vs.size→(∀ (i : Nat) d v,args[i]? = some d→vs[i]? = some v→m.rd d v)→
      caps.length=us.size→(∀ (i : Nat) x v,caps[i]? = some x→us[i]? = some v→eN m.w m.Z x v)→
      Calls P f (vs++us) m.w (fun e w'=>∃ v,e = .returned v∧∃ m',m'.w=w'∧bK m m' s s B L WB WL n id∧m'.rd d' v):=by
  split at h
  · obtain ⟨ps,h1,hl,H⟩:=sE h
    obtain ⟨r0,hr0,h2⟩:=aO h1
    obtain ⟨hfl,hk⟩:=xB h2
    obtain ⟨hcb,HC⟩:=hP ps r0 hr0
    refine ⟨hcb,_,hk,fun n m B L WB WL sit hM vs us hvl hrd hul hur=>?_⟩
    have hreps:=H m (fun x=>m.Z x∨m.owned x) sit.inv hM (.inl fun r hr=>.inr hr) (fun r hr=>.inl hr) vs hvl hrd
    refine (HC m.w (fun x=>m.Z x∨m.owned x) vs us (sit.inv.zlt.next (fun _ h=>.inl h) (fun _ _=>rfl) fun z hz=>hz.elim (sit.inv.zlt z) (fun h=>sit.inv.owned_lt h)) (by omega) hreps hul (fun i x v hx hv=>(hur i x v hx hv).mono (fun _ h=>.inl h) (fun _ _=>rfl))).mono ?_
    rintro e w' ⟨v,rfl,Z',pe,hrep⟩
    refine ⟨v,rfl,m.grow w' m.Z,rfl,bK.grow WB WL sit pe.old pe.size pe.os pe.tape pe.output (fun _ h=>h) (fun r h=>.inl h),?_⟩
    exact .p _ _ (hrep.flat hfl)
  · rename_i hlv
    have hlv : args.any (lives deep)=false:=by simpa using hlv
    obtain ⟨ps,h1,hl,H⟩:=sE h
    obtain ⟨r0,hr0,hk⟩:=aO h1
    obtain ⟨hcb,HC⟩:=hP ps r0 hr0
    refine ⟨hcb,_,hk,fun n m B L WB WL sit hM vs us hvl hrd hul hur=>?_⟩
    have hreps:=H m m.Z sit.inv hM (.inr fun d hd=>by
      rw [List.any_eq_false] at hlv
      exact xA deep (by simpa using hlv d hd)) (fun r hr=>hr) vs hvl hrd
    refine (HC m.w m.Z vs us sit.inv.zlt (by omega) hreps hul hur).mono ?_
    rintro e w' ⟨v,rfl,Z',pe,hrep⟩
    exact ⟨v,rfl,m.grow w' Z',rfl,bK.grow WB WL sit pe.old pe.size pe.os pe.tape pe.output pe.zz pe.z,.p _ _ hrep⟩
end
end Go.Proofs.YthkofpnllaapeaaGreatDoor
